/- What a cut around two copies and a call needs. Conditions: none. -/
import Derived.Test.YtoihjapbidbpdaaJoinB
import Derived.Deep.RegionHeld3
import Derived.Deep.DeepCutAuto
namespace Go.Proofs.Ytoihjapbidbpdaa
open Go.RowKit
theorem BM.newd (w : World) (b : Int) (vN vF : Value) : BM (w.alloc (.cells #[.int .i64 b, vN, vF] 25)).drew w.heap.size b vN vF := heap_alloc_new w _
theorem set3 {w : World} {g : Nat} {b : Int} {vN vF : Value} (h : BM w g b vN vF) (b' : Int) (v1 v2 : Value) : BM (((w.setCell ⟨g, 0, none⟩ (.int .i64 b')).setCell ⟨g, 1, none⟩ v1).setCell ⟨g, 2, none⟩ v2) g b' v1 v2 ∧
    (∀ B A xs, OI w B A xs → OI (((w.setCell ⟨g, 0, none⟩ (.int .i64 b')).setCell ⟨g, 1, none⟩ v1).setCell ⟨g, 2, none⟩ v2) B A xs) ∧ (∀ B A ys, OB w B A ys → OB (((w.setCell ⟨g, 0, none⟩ (.int .i64 b')).setCell ⟨g, 1, none⟩ v1).setCell ⟨g, 2, none⟩ v2) B A ys) := by
  have one : ∀ k, k ≠ g → (((w.setCell ⟨g, 0, none⟩ (.int .i64 b')).setCell ⟨g, 1, none⟩ v1).setCell ⟨g, 2, none⟩ v2).heap[k]? = w.heap[k]? := fun k hk =>
    (Below.heap_setCell _ _ _ k hk).trans ((Below.heap_setCell _ _ _ k hk).trans (Below.heap_setCell _ _ _ k hk))
  refine ⟨((h.set0 b').set1 v1).set2 v2, ?_, ?_⟩
  · intro B A xs ho
    rcases ho with ho | ⟨k, off, cs, hA, hB, hc, hf⟩
    · exact .inl ho
    · refine .inr ⟨k, off, cs, hA, hB, (one k ?_).trans hc, hf⟩
      intro e
      subst e
      have := hc.symm.trans h
      injection this with this
      injection this with _ this
      exact absurd this (by decide)
  · intro B A xs ho
    rcases ho with ho | ⟨k, off, cs, hA, hB, hc, hf⟩
    · exact .inl ho
    · refine .inr ⟨k, off, cs, hA, hB, (one k ?_).trans hc, hf⟩
      intro e
      subst e
      have := hc.symm.trans h
      injection this with this
      injection this with _ this
      exact absurd this (by decide)
theorem b_set3 {w w1 : World} {g : Nat} {u0 u1 u2 : Value} (h : Below w.heap.size w w1) (hg : w.heap.size ≤ g) : Below w.heap.size w (((w1.setCell ⟨g, 0, none⟩ u0).setCell ⟨g, 1, none⟩ u1).setCell ⟨g, 2, none⟩ u2) := b_set (b_set (b_set h hg _) hg _) hg _
theorem cutT {T G : Prop} (h : T) (k : T → G) : G := k h
theorem RI.upTo {w w' : World} {B : Nat} {A : Option Addr} {xs : List Int} (h : RI w B A xs) (hb : Below w.heap.size w w') (hB : B ≤ w.heap.size) : RI w' w'.heap.size A xs := (h.below (hb.mono hB)).more (Nat.le_trans hB hb.size)
theorem RB.upTo {w w' : World} {B : Nat} {A : Option Addr} {xs : List Bool} (h : RB w B A xs) (hb : Below w.heap.size w w') (hB : B ≤ w.heap.size) : RB w' w'.heap.size A xs := (h.below (hb.mono hB)).more (Nat.le_trans hB hb.size)
theorem OI.lowB {w w' w2 : World} {A : Option Addr} {xs : List Int} (h : OI w2 w'.heap.size A xs) (hb : Below w.heap.size w w') : OI w2 w.heap.size A xs := h.low hb.size
theorem OB.lowB {w w' w2 : World} {A : Option Addr} {xs : List Bool} (h : OB w2 w'.heap.size A xs) (hb : Below w.heap.size w w') : OB w2 w.heap.size A xs := h.low hb.size
end Go.Proofs.Ytoihjapbidbpdaa
