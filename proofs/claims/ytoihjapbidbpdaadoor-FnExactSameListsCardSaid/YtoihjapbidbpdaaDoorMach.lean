/- Contracts of laws.toMachine, szMachine, eqMachine, markMachine, heldMachine: structs of a number, a slice of integers and a slice of bools. Conditions: lengths of at most 2^21. -/
import Derived.Test.YtoihjapbidbpdaaDoorBools
import Derived.Test.YtoihjapbidbpdaaDoorAllIn
import Derived.Test.YtoihjapbidbpdaaDoorIn
namespace Go.Proofs.YtoihjapbidbpdaaDoor
open Go.RowKit
set_option linter.unusedVariables false

/-- The three cells of a machine in a block of its own. -/
def BM (w : World) (g : Nat) (b : Int) (vN vF : Value) : Prop := w.heap[g]? = some (.cells #[.int .i64 b, vN, vF] 28 (0, 0))
/-- The same for the law's own type. -/
def BLM (w : World) (g : Nat) (b : Int) (vN vF : Value) : Prop := w.heap[g]? = some (.cells #[.int .i64 b, vN, vF] 25 (0, 0))
section
variable {w w' : World} {g : Nat} {b : Int} {vN vF : Value}
theorem BM.lt (h : BM w g b vN vF) : g < w.heap.size := (Array.getElem?_eq_some_iff.1 h).1
theorem BM.cell0 (h : BM w g b vN vF) : w.cell? ⟨g, 0, none⟩ = some (.int .i64 b) := by rw [cell_of_row w g 0 _ _ (0, 0) h]; rfl
theorem BM.cell1 (h : BM w g b vN vF) : w.cell? ⟨g, 1, none⟩ = some vN := by rw [cell_of_row w g 1 _ _ (0, 0) h]; rfl
theorem BM.cell2 (h : BM w g b vN vF) : w.cell? ⟨g, 2, none⟩ = some vF := by rw [cell_of_row w g 2 _ _ (0, 0) h]; rfl
theorem BM.frozen (h : BM w g b vN vF) (i : Nat) : w.frozen? ⟨g, i, none⟩ = false := by
  unfold BM at h
  simp [World.frozen?, h]
theorem BM.new (w : World) (b : Int) (vN vF : Value) : BM (w.alloc (.cells #[.int .i64 b, vN, vF] 28)) w.heap.size b vN vF := heap_alloc_new w _
theorem BM.below {B : Nat} (h : BM w g b vN vF) (hb : Below B w w') (hg : g < B) : BM w' g b vN vF := (hb.block g hg).trans h
theorem BLM.lt (h : BLM w g b vN vF) : g < w.heap.size := (Array.getElem?_eq_some_iff.1 h).1
theorem BLM.cell0 (h : BLM w g b vN vF) : w.cell? ⟨g, 0, none⟩ = some (.int .i64 b) := by rw [cell_of_row w g 0 _ _ (0, 0) h]; rfl
theorem BLM.cell1 (h : BLM w g b vN vF) : w.cell? ⟨g, 1, none⟩ = some vN := by rw [cell_of_row w g 1 _ _ (0, 0) h]; rfl
theorem BLM.cell2 (h : BLM w g b vN vF) : w.cell? ⟨g, 2, none⟩ = some vF := by rw [cell_of_row w g 2 _ _ (0, 0) h]; rfl
theorem BLM.new (w : World) (b : Int) (vN vF : Value) : BLM (w.alloc (.cells #[.int .i64 b, vN, vF] 25)) w.heap.size b vN vF := heap_alloc_new w _
theorem BLM.below {B : Nat} (h : BLM w g b vN vF) (hb : Below B w w') (hg : g < B) : BLM w' g b vN vF := (hb.block g hg).trans h
end

theorem OI.low {w : World} {B B' : Nat} {A : Option Addr} {xs : List Int} (h : OI w B A xs) (hB : B' ≤ B) : OI w B' A xs := by
  rcases h with h | ⟨g, off, cs, hA, hg, r⟩
  · exact .inl h
  · exact .inr ⟨g, off, cs, hA, by omega, r⟩
theorem OB.low {w : World} {B B' : Nat} {A : Option Addr} {xs : List Bool} (h : OB w B A xs) (hB : B' ≤ B) : OB w B' A xs := by
  rcases h with h | ⟨g, off, cs, hA, hg, r⟩
  · exact .inl h
  · exact .inr ⟨g, off, cs, hA, by omega, r⟩
theorem OI.set_ {w : World} {B : Nat} {A : Option Addr} {xs : List Int} (h : OI w B A xs) {p : Addr} (hp : p.block < B) (u : Value) : OI (w.setCell p u) B A xs :=
  h.other (A' := some p) (fun a ha => by injection ha with ha; subst ha; exact hp) (Oth.set (Oth.refl _ _) rfl u)
theorem OB.set_ {w : World} {B : Nat} {A : Option Addr} {xs : List Bool} (h : OB w B A xs) {p : Addr} (hp : p.block < B) (u : Value) : OB (w.setCell p u) B A xs :=
  h.other (A' := some p) (fun a ha => by injection ha with ha; subst ha; exact hp) (Oth.set (Oth.refl _ _) rfl u)
section
variable {w w' : World} {g : Nat} {b : Int} {vN vF : Value}
theorem BM.set0 (h : BM w g b vN vF) (c : Int) : BM (w.setCell ⟨g, 0, none⟩ (.int .i64 c)) g c vN vF := by
  unfold BM at h ⊢
  simp [World.setCell, Array.getElem?_modify, h]
theorem BM.set1 (h : BM w g b vN vF) (u : Value) : BM (w.setCell ⟨g, 1, none⟩ u) g b u vF := by
  unfold BM at h ⊢
  simp [World.setCell, Array.getElem?_modify, h]
theorem BM.set2 (h : BM w g b vN vF) (u : Value) : BM (w.setCell ⟨g, 2, none⟩ u) g b vN u := by
  unfold BM at h ⊢
  simp [World.setCell, Array.getElem?_modify, h]
theorem BM.setx (h : BM w g b vN vF) {p : Addr} (hp : p.block ≠ g) (u : Value) : BM (w.setCell p u) g b vN vF :=
  (Below.heap_setCell w p u g (fun e => hp e.symm)).trans h
theorem BLM.setx (h : BLM w g b vN vF) {p : Addr} (hp : p.block ≠ g) (u : Value) : BLM (w.setCell p u) g b vN vF :=
  (Below.heap_setCell w p u g (fun e => hp e.symm)).trans h
end

/-- A machine's value. -/
def mv (b : Int) (N F : Option Addr) (xs : List Int) (ys : List Bool) (c d : Nat) : Value := .agg #[.int .i64 b, .slice N xs.length c, .slice F ys.length d]

set_option maxHeartbeats 1000000 in
theorem toMachine_m (b : Int) (N F : Option Addr) (xs : List Int) (ys : List Bool) (c d : Nat) (w : World) (hN : RI w w.heap.size N xs) (hF : RB w w.heap.size F ys) (hl : xs.length ≤ 2097152) (hm : ys.length ≤ 2097152) :
    Calls Tryd.prog 7 #[.agg #[.int .i64 b, .slice N xs.length c, .slice F ys.length d]] w fun e w' => ∃ N' F', e = .returned (.agg #[.int .i64 b, .slice N' xs.length xs.length, .slice F' ys.length ys.length]) ∧ OI w' w.heap.size N' xs ∧ OB w' w.heap.size F' ys ∧ Below w.heap.size w w' := by
  go_enter Tryd.func7, Tryd.ntmps7
  go_wp2_with fail
  have T0 := b_alloc (b_alloc (b_alloc (Below.refl w.heap.size w) (.cells #[.int .i64 b, .slice N xs.length c, .slice F ys.length d] 25)) (.cells #[.int .i64 0, .slice none 0 0, .slice none 0 0] 28)) (.cells #[.int .i64 b, .slice none 0 0, .slice none 0 0] 28)
  refine (toIntS_any _ xs _ _ ((hN.below T0).more T0.size) (by omega)).mono ?_
  rintro e w1 ⟨rfl, hO, hz, hb⟩
  have M0 : BLM w1 w.heap.size b (.slice N xs.length c) (.slice F ys.length d) := (((BLM.new w _ _ _).below (b_alloc (Below.refl _ _) _) (by simp)).below (b_alloc (Below.refl _ _) _) (by simp; omega)).below hb (by simp; omega)
  have M1 : BM w1 (w.heap.size + 1) 0 (.slice none 0 0) (.slice none 0 0) := by
    have h := ((BM.new (w.alloc (.cells #[.int .i64 b, .slice N xs.length c, .slice F ys.length d] 25)) 0 (.slice none 0 0) (.slice none 0 0)).below (b_alloc (Below.refl _ _) (.cells #[.int .i64 b, .slice none 0 0, .slice none 0 0] 28)) (by simp)).below hb (by simp)
    simpa only [World.size_alloc] using h
  have M2 : BM w1 (w.heap.size + 1 + 1) b (.slice none 0 0) (.slice none 0 0) := by
    have h := ((BM.new ((w.alloc (.cells #[.int .i64 b, .slice N xs.length c, .slice F ys.length d] 25)).alloc (.cells #[.int .i64 0, .slice none 0 0, .slice none 0 0] 28)) b (.slice none 0 0) (.slice none 0 0))).below hb (by simp)
    simpa only [World.size_alloc] using h
  have T1 := T0.trans (hb.mono T0.size)
  simp only [World.size_alloc] at hO hz hb
  have Z1 := hb.size
  simp only [World.size_alloc] at Z1
  clear hb T0
  obtain ⟨A1, hA1⟩ : ∃ A1 : Option Addr, A1 = some ⟨w.heap.size + 1 + 1 + 1, 0, none⟩ := ⟨_, rfl⟩
  rw [← hA1] at hO
  try simp only [World.size_alloc]
  rw [← hA1]
  clear hA1
  have a0 := M0.cell2
  have a1 := M2.cell1
  have a2 := M2.frozen 1
  have H0 := Lib.hid M0
  have H1 := Lib.hid M1
  have H2 := Lib.hid M2
  have HO := Lib.hid hO
  have HT := Lib.hid T1
  clear M0 M1 M2 hO T1
  go_wp2_with fail
  clear a0 a1 a2
  have T2 := b_set (p := ⟨w.heap.size + 1 + 1, 1, none⟩) HT.out (by simp; omega) (.slice A1 xs.length xs.length)
  have O2 := HO.out.set_ (p := ⟨w.heap.size + 1 + 1, 1, none⟩) (by simp) (.slice A1 xs.length xs.length)
  have M2 := H2.out.set1 (.slice A1 xs.length xs.length)
  have M1 := H1.out.setx (p := ⟨w.heap.size + 1 + 1, 1, none⟩) (by simp) (.slice A1 xs.length xs.length)
  refine (toBoolS_any _ ys _ _ ((hF.below T2).more T2.size) (by omega)).mono ?_
  rintro e w2 ⟨rfl, hO2, hz2, hb⟩
  have hs : (w1.setCell ⟨w.heap.size + 1 + 1, 1, none⟩ (.slice A1 xs.length xs.length)).heap.size = w1.heap.size := by simp [World.setCell]
  have O3 := O2.keep hb
  have M2' := M2.below hb (by rw [hs]; omega)
  have M1' := M1.below hb (by rw [hs]; omega)
  have T3 := b_step T2 hb
  have Z2 := hb.size
  rw [hs] at hO2 hz2 Z2
  try rw [hs]
  clear hb O2 M2 M1 T2 H0 H1 H2 HO HT
  obtain ⟨A2, hA2⟩ : ∃ A2 : Option Addr, A2 = some ⟨w1.heap.size, 0, none⟩ := ⟨_, rfl⟩
  rw [← hA2] at hO2 ⊢
  clear hA2
  have a1 := M2'.cell0
  have a2 := M2'.cell1
  have a3 := M2'.cell2
  have a4 := M2'.frozen 2
  have a5 := M1'.cell0
  have a6 := M1'.cell1
  have a7 := M1'.cell2
  have a8 := fun i => M1'.frozen i
  have H1 := Lib.hid M1'
  have H2 := Lib.hid M2'
  have HO := Lib.hid O3
  have HP := Lib.hid hO2
  have HT := Lib.hid T3
  clear M1' M2' O3 hO2 T3
  go_wp2
  have M1f := (((H1.out.setx (p := ⟨w.heap.size + 1 + 1, 2, none⟩) (by simp) (.slice A2 ys.length ys.length)).set0 b).set1 (.slice A1 xs.length xs.length)).set2 (.slice A2 ys.length ys.length)
  have f0 := M1f.cell0
  have f1 := M1f.cell1
  have f2 := M1f.cell2
  refine bodyPost_ret (v := .agg #[.int .i64 b, .slice A1 xs.length xs.length, .slice A2 ys.length ys.length]) (by simp [results, Tryd.results7, go_sem, f0, f1, f2]) rfl ⟨A1, A2, rfl, ?_, ?_, ?_⟩
  · exact ((((HO.out.set_ (by simp) _).set_ (by simp) _).set_ (by simp) _).set_ (by simp) _).low (by omega)
  · exact ((((HP.out.set_ (by simp; omega) _).set_ (by simp; omega) _).set_ (by simp; omega) _).set_ (by simp; omega) _).low (by omega)
  · exact b_set (b_set (b_set (b_set HT.out (by simp; omega) _) (by simp) _) (by simp) _) (by simp) _

theorem szIntS_any (N : Option Addr) (n c : Nat) (m : Int) (w : World) (h0 : (n : Int) ≤ m) (h1 : m ≤ 4294967296) :
    Calls Tryd.prog 14 #[.slice N n c, .int .i64 m] w fun e w' => e = .returned (.int .i64 (m - n)) ∧ w = w' := by
  go_enter Tryd.func14, Tryd.ntmps14
  go_wp2
  go_ret
  exact ⟨rfl, rfl⟩
theorem szIntS_no (N : Option Addr) (n c : Nat) (m : Int) (w : World) (h0 : m < (n : Int)) (h1 : 0 ≤ m) (h2 : n ≤ 9223372036854775807) :
    Calls Tryd.prog 14 #[.slice N n c, .int .i64 m] w fun e w' => e = .returned (.int .i64 (-1)) ∧ w = w' := by
  go_enter Tryd.func14, Tryd.ntmps14
  go_wp2
  go_ret
  exact ⟨rfl, rfl⟩
theorem szBoolS_any (N : Option Addr) (n c : Nat) (m : Int) (w : World) (h0 : (n : Int) ≤ m) (h1 : m ≤ 4294967296) :
    Calls Tryd.prog 15 #[.slice N n c, .int .i64 m] w fun e w' => e = .returned (.int .i64 (m - n)) ∧ w = w' := by
  go_enter Tryd.func15, Tryd.ntmps15
  go_wp2
  go_ret
  exact ⟨rfl, rfl⟩
theorem szBoolS_no (N : Option Addr) (n c : Nat) (m : Int) (w : World) (h0 : m < (n : Int)) (h1 : 0 ≤ m) (h2 : n ≤ 9223372036854775807) :
    Calls Tryd.prog 15 #[.slice N n c, .int .i64 m] w fun e w' => e = .returned (.int .i64 (-1)) ∧ w = w' := by
  go_enter Tryd.func15, Tryd.ntmps15
  go_wp2
  go_ret
  exact ⟨rfl, rfl⟩
/-- Nothing in it, or its block lies below D. -/
def Lo (A : Option Addr) (n D : Nat) : Prop := n = 0 ∨ ∀ a, A = some a → a.block < D
theorem Lo.more {A : Option Addr} {n D D' : Nat} (h : Lo A n D) (hD : D ≤ D') : Lo A n D' := h.elim .inl fun h => .inr fun a ha => Nat.lt_of_lt_of_le (h a ha) hD
theorem OI.lo {w : World} {B : Nat} {A : Option Addr} {xs : List Int} (h : OI w B A xs) : Lo A xs.length w.heap.size := by
  rcases h with rfl | ⟨g, off, cs, rfl, hg, hb, _⟩
  · exact .inl rfl
  · exact .inr fun a ha => by injection ha with ha; subst ha; exact hb.lt
theorem OB.lo {w : World} {B : Nat} {A : Option Addr} {xs : List Bool} (h : OB w B A xs) : Lo A xs.length w.heap.size := by
  rcases h with rfl | ⟨g, off, cs, rfl, hg, hb, _⟩
  · exact .inl rfl
  · exact .inr fun a ha => by injection ha with ha; subst ha; exact hb.lt

/-- Blocks of other types than t are as they were. -/
def Typ (t : TypeId) (w w' : World) : Prop := ∀ (g : Nat) (cs : Array Value) (u : TypeId) (r : Nat × Nat), u ≠ t → w.heap[g]? = some (.cells cs u r) → w'.heap[g]? = some (.cells cs u r)
theorem Typ.ob {w w' : World} (h : Typ 3 w w') {D : Nat} {A : Option Addr} {zs : List Bool} (hO : OB w D A zs) : OB w' D A zs := by
  rcases hO with h2 | ⟨g2, off2, cs2, hA2, hD2, hb2, hf2⟩
  · exact .inl h2
  · exact .inr ⟨g2, off2, cs2, hA2, hD2, h _ _ _ _ (by decide) hb2, hf2⟩
theorem Typ.oi {w w' : World} (h : Typ 4 w w') {D : Nat} {A : Option Addr} {zs : List Int} (hO : OI w D A zs) : OI w' D A zs := by
  rcases hO with h2 | ⟨g2, off2, cs2, hA2, hD2, hb2, hf2⟩
  · exact .inl h2
  · exact .inr ⟨g2, off2, cs2, hA2, hD2, h _ _ _ _ (by decide) hb2, hf2⟩
theorem Typ.bm {t : TypeId} {w w' : World} (h : Typ t w w') (ht : 28 ≠ t) {g : Nat} {b : Int} {vN vF : Value} (hO : BM w g b vN vF) : BM w' g b vN vF := h _ _ _ _ ht hO
theorem Typ.blm {t : TypeId} {w w' : World} (h : Typ t w w') (ht : 25 ≠ t) {g : Nat} {b : Int} {vN vF : Value} (hO : BLM w g b vN vF) : BLM w' g b vN vF := h _ _ _ _ ht hO

/-- What 'mark' of integers leaves. -/
def MkI (w : World) (B : Nat) (A : Option Addr) (n m : Nat) (e : Ending) (w' : World) : Prop :=
  e = .returned (.int .i64 ((m + n : Nat) : Int)) ∧ OI w' B A (marks m n) ∧ (∀ C, C ≤ B → C ≤ w.heap.size → Below C w w') ∧
    (∀ D, Lo A n D → ∀ A' zs, OI w D A' zs → OI w' D A' zs) ∧ Typ 3 w w' ∧ w.heap.size ≤ w'.heap.size
theorem markI (B : Nat) (A : Option Addr) (xs : List Int) (c m : Nat) (w : World) (hO : OI w B A xs) (hl : xs.length ≤ 4294967296) (hm : m ≤ 4294967296) :
    Calls Tryd.prog 27 #[.slice A xs.length c, .int .i64 m] w (MkI w B A xs.length m) := by
  have nil : ∀ A' : Option Addr, Calls Tryd.prog 27 #[.slice A' 0 c, .int .i64 m] w (MkI w B A' 0 m) := fun A' =>
    (markIntS_nil A' c m w hm).mono fun e w' ⟨he, hw⟩ => by subst hw; exact ⟨by simpa using he, .inl rfl, fun C _ _ => Below.refl _ _, fun _ _ _ _ h => h, fun _ _ _ _ _ h => h, Nat.le_refl _⟩
  rcases hO with rfl | ⟨g, off, cs, rfl, hB, hb, hf⟩
  · exact nil A
  · by_cases h0 : xs.length = 0
    · rw [h0]; exact nil _
    · refine (markIntS_some g off xs.length c m cs w hb (hf.size (by omega)) hl hm).mono fun e w' ⟨he, ⟨cs', hb', _, hf'⟩, ho⟩ => ?_
      refine ⟨he, .inr ⟨g, off, cs', rfl, hB, hb', by rw [length_marks]; exact hf'⟩, fun C h1 h2 => ho.below h2 fun a ha => by injection ha with ha; subst ha; exact Nat.le_trans h1 hB, ?_, ?_, ho.2.2.2.1⟩
      · intro D hD A' zs h
        exact h.other (hD.resolve_left h0) ho
      · intro g2 cs2 t r ht hb2
        refine (ho.2.2.2.2 g2 (Array.getElem?_eq_some_iff.1 hb2).1 fun a ha => ?_).trans hb2
        injection ha with ha
        subst ha
        intro e
        have e' : g2 = g := e
        subst e'
        have := hb.symm.trans hb2
        injection this with this
        injection this with _ this
        exact absurd this.symm ht
/-- What 'mark' of bools leaves. -/
def MkB (w : World) (B : Nat) (A : Option Addr) (n m : Nat) (e : Ending) (w' : World) : Prop :=
  e = .returned (.int .i64 ((m + n : Nat) : Int)) ∧ OB w' B A (marksB m n) ∧ (∀ C, C ≤ B → C ≤ w.heap.size → Below C w w') ∧
    (∀ D, Lo A n D → ∀ A' zs, OB w D A' zs → OB w' D A' zs) ∧ Typ 4 w w' ∧ w.heap.size ≤ w'.heap.size
theorem markB (B : Nat) (A : Option Addr) (xs : List Bool) (c m : Nat) (w : World) (hO : OB w B A xs) (hl : xs.length ≤ 4294967296) (hm : m ≤ 4294967296) :
    Calls Tryd.prog 28 #[.slice A xs.length c, .int .i64 m] w (MkB w B A xs.length m) := by
  have nil : ∀ A' : Option Addr, Calls Tryd.prog 28 #[.slice A' 0 c, .int .i64 m] w (MkB w B A' 0 m) := fun A' =>
    (markBoolS_nil A' c m w hm).mono fun e w' ⟨he, hw⟩ => by subst hw; exact ⟨by simpa using he, .inl rfl, fun C _ _ => Below.refl _ _, fun _ _ _ _ h => h, fun _ _ _ _ _ h => h, Nat.le_refl _⟩
  rcases hO with rfl | ⟨g, off, cs, rfl, hB, hb, hf⟩
  · exact nil A
  · by_cases h0 : xs.length = 0
    · rw [h0]; exact nil _
    · refine (markBoolS_some g off xs.length c m cs w hb (hf.size (by omega)) hl hm).mono fun e w' ⟨he, ⟨cs', hb', _, hf'⟩, ho⟩ => ?_
      refine ⟨he, .inr ⟨g, off, cs', rfl, hB, hb', by rw [length_marksB]; exact hf'⟩, fun C h1 h2 => ho.below h2 fun a ha => by injection ha with ha; subst ha; exact Nat.le_trans h1 hB, ?_, ?_, ho.2.2.2.1⟩
      · intro D hD A' zs h
        exact h.other (hD.resolve_left h0) ho
      · intro g2 cs2 t r ht hb2
        refine (ho.2.2.2.2 g2 (Array.getElem?_eq_some_iff.1 hb2).1 fun a ha => ?_).trans hb2
        injection ha with ha
        subst ha
        intro e
        have e' : g2 = g := e
        subst e'
        have := hb.symm.trans hb2
        injection this with this
        injection this with _ this
        exact absurd this.symm ht

set_option maxHeartbeats 1000000 in
theorem eqMachine_same (b : Int) (N F : Option Addr) (xs : List Int) (ys : List Bool) (c d : Nat) (N' F' : Option Addr) (c' d' : Nat) (w : World) (hN : RI w w.heap.size N xs) (hN' : RI w w.heap.size N' xs) (hF : RB w w.heap.size F ys) (hF' : RB w w.heap.size F' ys) (hl : xs.length ≤ 4294967296) (hm : ys.length ≤ 4294967296) :
    Calls Tryd.prog 9 #[.agg #[.int .i64 b, .slice N xs.length c, .slice F ys.length d], .agg #[.int .i64 b, .slice N' xs.length c', .slice F' ys.length d']] w fun e w' => e = .returned (.bool true) ∧ Below w.heap.size w w' := by
  have HN := Lib.hid hN
  have HN' := Lib.hid hN'
  have HF := Lib.hid hF
  have HF' := Lib.hid hF'
  clear hN hN' hF hF'
  go_enter Tryd.func9, Tryd.ntmps9
  go_wp2_with fail
  have T0 := b_alloc (b_alloc (Below.refl w.heap.size w) (.cells #[.int .i64 b, .slice N xs.length c, .slice F ys.length d] 28)) (.cells #[.int .i64 b, .slice N' xs.length c', .slice F' ys.length d'] 28)
  refine (eqIntS_same _ _ xs _ _ _ ((HN.out.below T0).more T0.size) ((HN'.out.below T0).more T0.size) hl).mono ?_
  rintro e w1 ⟨rfl, hb⟩
  have M0 : BM w1 w.heap.size b (.slice N xs.length c) (.slice F ys.length d) := ((BM.new w _ _ _).below (b_alloc (Below.refl _ _) _) (by simp)).below hb (by simp; omega)
  have M1 : BM w1 (w.heap.size + 1) b (.slice N' xs.length c') (.slice F' ys.length d') := by
    have h := (BM.new (w.alloc (.cells #[.int .i64 b, .slice N xs.length c, .slice F ys.length d] 28)) b (.slice N' xs.length c') (.slice F' ys.length d')).below hb (by simp)
    simpa only [World.size_alloc] using h
  have T1 := T0.trans (hb.mono T0.size)
  have z1 := T1.size
  clear hb T0
  have a0 := M0.cell2
  have a1 := M1.cell2
  have HT := Lib.hid T1
  clear M0 M1 T1
  go_wp2_with fail
  refine (eqBoolS_same _ _ ys _ _ _ ((HF.out.below HT.out).more z1) ((HF'.out.below HT.out).more z1) hm).mono ?_
  rintro e w2 ⟨rfl, hb⟩
  go_wp2
  go_ret
  exact ⟨rfl, b_step HT.out hb⟩

/-- What 'mark' of a machine leaves. -/
def MkM (w : World) (B : Nat) (N F : Option Addr) (n m k : Nat) (e : Ending) (w' : World) : Prop :=
  e = .returned (.int .i64 ((k + n + m : Nat) : Int)) ∧ OI w' B N (marks k n) ∧ OB w' B F (marksB (k + n) m) ∧ (∀ C, C ≤ B → C ≤ w.heap.size → Below C w w') ∧
    (∀ D, Lo N n D → ∀ A' zs, OI w D A' zs → OI w' D A' zs) ∧ (∀ D, Lo F m D → ∀ A' zs, OB w D A' zs → OB w' D A' zs) ∧
    (∀ g b vN vF, BM w g b vN vF → BM w' g b vN vF) ∧ (∀ g b vN vF, BLM w g b vN vF → BLM w' g b vN vF) ∧ w.heap.size ≤ w'.heap.size

set_option maxHeartbeats 1000000 in
theorem markMachine_m (b : Int) (N F : Option Addr) (xs : List Int) (ys : List Bool) (c d : Nat) (B k : Nat) (w : World) (hN : OI w B N xs) (hF : OB w B F ys) (hl : xs.length ≤ 2097152) (hm : ys.length ≤ 2097152) (hk : k ≤ 16777216) :
    Calls Tryd.prog 12 #[.agg #[.int .i64 b, .slice N xs.length c, .slice F ys.length d], .int .i64 k] w (MkM w B N F xs.length ys.length k) := by
  have HN := Lib.hid hN
  have HF := Lib.hid hF
  clear hN hF
  have T0 := b_alloc (Below.refl w.heap.size w) (.cells #[.int .i64 b, .slice N xs.length c, .slice F ys.length d] 28)
  have M0 := BM.new w b (.slice N xs.length c) (.slice F ys.length d)
  have HT := Lib.hid T0
  have HM := Lib.hid M0
  clear M0 T0
  go_enter Tryd.func12, Tryd.ntmps12
  go_wp2_with fail
  refine (markI B _ xs _ k _ (HN.out.keep HT.out) (by omega) (by omega)).mono ?_
  rintro e w1 ⟨rfl, hO, hbel, hoth, hT, hs⟩
  have M1 := hT.bm (by decide) HM.out
  have F1 := hT.ob (HF.out.keep HT.out)
  simp only [World.size_alloc] at hs
  have c2 := M1.cell2
  have HO := Lib.hid hO
  have HB := Lib.hid hbel
  have HC := Lib.hid hoth
  have HD := Lib.hid hT
  have HG := Lib.hid F1
  clear hO hbel hoth hT F1 M1 HM
  go_wp2_with fail
  refine (markB B _ ys _ (k + xs.length) _ HG.out (by omega) (by omega)).mono ?_
  rintro e w2 ⟨rfl, hO, hbel, hoth, hT, hs2⟩
  have HO2 := Lib.hid hO
  have HB2 := Lib.hid hbel
  have HC2 := Lib.hid hoth
  have HD2 := Lib.hid hT
  clear hO hbel hoth hT HG
  go_wp2
  go_ret
  have T0 := HT.out
  refine ⟨rfl, HD2.out.oi HO.out, HO2.out, ?_, ?_, ?_, ?_, ?_, by omega⟩
  · intro C h1 h2
    exact ((T0.mono h2).trans (HB.out C h1 (by simp; omega))).trans (HB2.out C h1 (by omega))
  · intro D hD A' zs h
    exact HD2.out.oi (HC.out D hD A' zs (h.keep T0))
  · intro D hD A' zs h
    exact HC2.out D hD A' zs (HD.out.ob (h.keep T0))
  · intro g b' vN vF h
    exact HD2.out.bm (by decide) (HD.out.bm (by decide) (h.below T0 h.lt))
  · intro g b' vN vF h
    exact HD2.out.blm (by decide) (HD.out.blm (by decide) (h.below T0 h.lt))

set_option maxHeartbeats 1000000 in
theorem heldMachine_m (b : Int) (N F : Option Addr) (n m c d k : Nat) (w : World) (hN : RI w w.heap.size N (marks k n)) (hF : RB w w.heap.size F (marksB (k + n) m)) (hl : n ≤ 2097152) (hm : m ≤ 2097152) (hk : k ≤ 16777216) :
    Calls Tryd.prog 13 #[.agg #[.int .i64 b, .slice N n c, .slice F m d], .int .i64 k] w fun e w' => e = .returned (.int .i64 ((k + n + m : Nat) : Int)) ∧ Below w.heap.size w w' := by
  have HN := Lib.hid hN
  have HF := Lib.hid hF
  clear hN hF
  have T0 := b_alloc (Below.refl w.heap.size w) (.cells #[.int .i64 b, .slice N n c, .slice F m d] 28)
  have M0 := BM.new w b (.slice N n c) (.slice F m d)
  have HT := Lib.hid T0
  have HM := Lib.hid M0
  clear M0 T0
  go_enter Tryd.func13, Tryd.ntmps13
  go_wp2_with fail
  refine (heldIntS_any _ n _ k _ ((HN.out.below HT.out).more HT.out.size) (by omega) (by omega)).mono ?_
  rintro e w1 ⟨rfl, hb⟩
  have M1 := HM.out.below hb (by simp)
  have T1 := HT.out.trans (hb.mono HT.out.size)
  have z1 := T1.size
  have c2 := M1.cell2
  have HT1 := Lib.hid T1
  clear T1 hb M1 HM HT
  go_wp2_with fail
  refine (heldBoolS_any _ m _ (k + n) _ ((HF.out.below HT1.out).more z1) (by omega) (by omega)).mono ?_
  rintro e w2 ⟨rfl, hb⟩
  have HT2 := Lib.hid (b_step HT1.out hb)
  clear hb HT1
  go_wp2
  go_ret
  exact ⟨rfl, HT2.out⟩

theorem szMachine_y (b : Int) (N F : Option Addr) (n m c d : Nat) (k : Int) (w : World) (hl : n + m ≤ k) (hm : k ≤ 4294967296) :
    Calls Tryd.prog 5 #[.agg #[.int .i64 b, .slice N n c, .slice F m d], .int .i64 k] w fun e w' => e = .returned (.int .i64 (k - n - m)) ∧ Below w.heap.size w w' := by
  have M0 := BM.new w b (.slice N n c) (.slice F m d)
  go_enter Tryd.func5, Tryd.ntmps5
  go_wp2_with (first | (go_at_call 14; refine (szIntS_any _ _ _ _ _ ?_ ?_).mono ?_; omega; omega; rintro e w1 ⟨rfl, rfl⟩) | (go_at_call 15; refine (szBoolS_any _ _ _ _ _ ?_ ?_).mono ?_; omega; omega; rintro e w1 ⟨rfl, rfl⟩))
  go_ret
  exact ⟨rfl, b_alloc (Below.refl _ _) _⟩
theorem szMachine_n (b : Int) (N F : Option Addr) (n m c d : Nat) (k : Int) (w : World) (hk : 0 ≤ k) (hm : k ≤ 4294967296) (hl : k < n + m) (h1 : n ≤ 9223372036854775807) (h2 : m ≤ 9223372036854775807) :
    Calls Tryd.prog 5 #[.agg #[.int .i64 b, .slice N n c, .slice F m d], .int .i64 k] w fun e w' => e = .returned (.int .i64 (-1)) ∧ Below w.heap.size w w' := by
  have M0 := BM.new w b (.slice N n c) (.slice F m d)
  by_cases hn : k < n
  · go_enter Tryd.func5, Tryd.ntmps5
    go_wp2_with (first | (go_at_call 14; refine (szIntS_no _ _ _ _ _ ?_ ?_ ?_).mono ?_; omega; omega; omega; rintro e w1 ⟨rfl, rfl⟩))
    go_ret
    exact ⟨rfl, b_alloc (Below.refl _ _) _⟩
  · go_enter Tryd.func5, Tryd.ntmps5
    go_wp2_with (first | (go_at_call 14; refine (szIntS_any _ _ _ _ _ ?_ ?_).mono ?_; omega; omega; rintro e w1 ⟨rfl, rfl⟩) | (go_at_call 15; refine (szBoolS_no _ _ _ _ _ ?_ ?_ ?_).mono ?_; omega; omega; omega; rintro e w1 ⟨rfl, rfl⟩))
    go_ret
    exact ⟨rfl, b_alloc (Below.refl _ _) _⟩

end Go.Proofs.YtoihjapbidbpdaaDoor
