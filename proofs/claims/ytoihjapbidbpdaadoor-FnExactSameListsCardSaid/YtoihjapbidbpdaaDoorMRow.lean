/- Rows of integers and of bools that grow in a machine's cells; what a function hands back that makes a machine. Conditions: none. -/
import Derived.Test.YtoihjapbidbpdaaDoorMOk
import Derived.Deep.RegionHeld3
import Derived.Deep.DeepCutAuto
import Derived.Deep.AppendLies
import Derived.Deep.RegionLaw
namespace Go.Proofs.YtoihjapbidbpdaaDoor
open Go.RowKit
set_option linter.unusedVariables false

section
variable {w w' : World} {B : Nat} {v u : Value} {xs : List Int} {ys : List Bool}
theorem Row.far (h : Row w B v xs) (h2 : RowB w B u ys) : u.ownBlock = none ∨ u.ownBlock ≠ v.ownBlock := by
  rcases h2.2 with ⟨h3, _⟩ | ⟨g2, cap2, cur2, rfl, hg2, hh2, _⟩
  · left; rw [h3]; rfl
  · right
    rcases h.2 with ⟨h3, _⟩ | ⟨g, cap, cur, rfl, hg, hh, _⟩
    · rw [h3]; simp [Value.ownBlock]
    · simp only [Value.ownBlock, ne_eq, Option.some.injEq]
      intro e
      have e' : g2 = g := e
      subst e'
      have := hh.symm.trans hh2
      injection this with this
      injection this with _ this
      exact absurd this (by decide)
theorem RowB.far (h : RowB w B u ys) (h2 : Row w B v xs) : v.ownBlock = none ∨ v.ownBlock ≠ u.ownBlock := by
  rcases h2.far h with h3 | h3
  · rcases h2.2 with ⟨h4, _⟩ | ⟨g2, cap2, cur2, rfl, _⟩
    · left; rw [h4]; rfl
    · right; rw [h3]; simp [Value.ownBlock]
  · exact .inr fun e => h3 e.symm
theorem Row.below (h : Row w B v xs) (hb : Below w.heap.size w w') : Row w' B v xs := by
  rcases h.2 with h2 | ⟨g, cap, cur, hv, hg, hh, r⟩
  · exact ⟨h.1, .inl h2⟩
  · exact ⟨h.1, .inr ⟨g, cap, cur, hv, hg, (hb.block g (Array.getElem?_eq_some_iff.1 hh).1).trans hh, r⟩⟩
theorem RowB.below (h : RowB w B u ys) (hb : Below w.heap.size w w') : RowB w' B u ys := by
  rcases h.2 with h2 | ⟨g, cap, cur, hv, hg, hh, r⟩
  · exact ⟨h.1, .inl h2⟩
  · exact ⟨h.1, .inr ⟨g, cap, cur, hv, hg, (hb.block g (Array.getElem?_eq_some_iff.1 hh).1).trans hh, r⟩⟩
theorem Row.setx (h : Row w B v xs) {p : Addr} (hp : p.block < B) (c : Value) : Row (w.setCell p c) B v xs := by
  rcases h.2 with h2 | ⟨g, cap, cur, hv, hg, hh, r⟩
  · exact ⟨h.1, .inl h2⟩
  · exact ⟨h.1, .inr ⟨g, cap, cur, hv, hg, (Below.heap_setCell w p c g (by omega)).trans hh, r⟩⟩
theorem RowB.setx (h : RowB w B u ys) {p : Addr} (hp : p.block < B) (c : Value) : RowB (w.setCell p c) B u ys := by
  rcases h.2 with h2 | ⟨g, cap, cur, hv, hg, hh, r⟩
  · exact ⟨h.1, .inl h2⟩
  · exact ⟨h.1, .inr ⟨g, cap, cur, hv, hg, (Below.heap_setCell w p c g (by omega)).trans hh, r⟩⟩
theorem BM.grown {g : Nat} {b : Int} {vN vF : Value} {r : Option Nat} (h : BM w g b vN vF) (hg : w.grownBy w' r) (hr : some g ≠ r) : BM w' g b vN vF := (hg.block g h.lt hr).trans h
theorem Row.lo (h : Row w B v xs) {g : Nat} (hg : g < B) : some g ≠ v.ownBlock := by
  intro e
  have := (World.ownsRow.lt h g e.symm).1
  omega
theorem RowB.lo (h : RowB w B u ys) {g : Nat} (hg : g < B) : some g ≠ u.ownBlock := by
  intro e
  have := (World.ownsRow.lt h g e.symm).1
  omega
end

/-- A number is appended to the first row of the machine in block G; block R, the other row and what is old stay. -/
theorem app_step {w wb wm wn : World} {B R G : Nat} {b b0 : Int} {vN vF vR1 vR2 : Value} {l : List Int} {ys : List Bool} {x : Int} {gg cap n : Nat}
    (hGB : G < B) (hRB : R < B) (hR : w.heap.size ≤ R) (hG : w.heap.size ≤ G) (hne : G ≠ R) (h1 : BM wb G b vN vF) (h2 : BM wb R b0 vR1 vR2) (h3 : Row wb B vN l) (h4 : RowB wb B vF ys) (hT : Below w.heap.size w wb)
    (hm : Below wb.heap.size wb wm) (hg : wm.grownBy wn vN.ownBlock) (ho : wn.ownsRow B 3 1 (.slice (some ⟨gg, 0, none⟩) (l.length + 1) cap) (l.length + 1) (l.map (Value.int .i64) ++ [.int .i64 x])) (hn : n = l.length + 1) :
    BM (wn.setCell ⟨G, 1, none⟩ (.slice (some ⟨gg, 0, none⟩) n cap)) G b (.slice (some ⟨gg, 0, none⟩) n cap) vF ∧ BM (wn.setCell ⟨G, 1, none⟩ (.slice (some ⟨gg, 0, none⟩) n cap)) R b0 vR1 vR2 ∧
      Row (wn.setCell ⟨G, 1, none⟩ (.slice (some ⟨gg, 0, none⟩) n cap)) B (.slice (some ⟨gg, 0, none⟩) n cap) (l ++ [x]) ∧ RowB (wn.setCell ⟨G, 1, none⟩ (.slice (some ⟨gg, 0, none⟩) n cap)) B vF ys ∧
      Below w.heap.size w (wn.setCell ⟨G, 1, none⟩ (.slice (some ⟨gg, 0, none⟩) n cap)) := by
  subst hn
  have g1 := (h1.below hm h1.lt).grown hg (h3.lo hGB)
  have g2 := (h2.below hm h2.lt).grown hg (h3.lo hRB)
  have g4 : RowB wn B vF ys := World.ownsRow.kept (h4.below hm) hg (h3.far h4)
  have hz := hT.size
  have hTm : Below w.heap.size w wm := b_step hT hm
  have hTn : Below w.heap.size w wn := hTm.grown hg hTm.size fun k hk => by have := (World.ownsRow.lt h3 k hk).1; omega
  exact ⟨g1.set1 _, g2.setx (by simp; omega) _, (Row.app ho).setx hGB _, g4.setx hGB _, b_set hTn hG _⟩
theorem app_stepB {w wb wm wn : World} {B R G : Nat} {b b0 : Int} {vN vF vR1 vR2 : Value} {l : List Int} {ys : List Bool} {x : Bool} {v1 : Value}
    (hGB : G < B) (hRB : R < B) (hR : w.heap.size ≤ R) (hG : w.heap.size ≤ G) (hne : G ≠ R) (h1 : BM wb G b vN vF) (h2 : BM wb R b0 vR1 vR2) (h3 : Row wb B vN l) (h4 : RowB wb B vF ys) (hT : Below w.heap.size w wb)
    (hm : Below wb.heap.size wb wm) (hg : wm.grownBy wn vF.ownBlock) (ho : wn.ownsRow B 4 1 v1 (ys.length + 1) (ys.map Value.bool ++ [.bool x])) :
    BM (wn.setCell ⟨G, 2, none⟩ v1) G b vN v1 ∧ BM (wn.setCell ⟨G, 2, none⟩ v1) R b0 vR1 vR2 ∧
      Row (wn.setCell ⟨G, 2, none⟩ v1) B vN l ∧ RowB (wn.setCell ⟨G, 2, none⟩ v1) B v1 (ys ++ [x]) ∧
      Below w.heap.size w (wn.setCell ⟨G, 2, none⟩ v1) := by
  have g1 := (h1.below hm h1.lt).grown hg (h4.lo hGB)
  have g2 := (h2.below hm h2.lt).grown hg (h4.lo hRB)
  have g3 : Row wn B vN l := World.ownsRow.kept (h3.below hm) hg (h4.far h3)
  have hz := hT.size
  have hTm : Below w.heap.size w wm := b_step hT hm
  have hTn : Below w.heap.size w wn := hTm.grown hg hTm.size fun k hk => by have := (World.ownsRow.lt h4 k hk).1; omega
  exact ⟨g1.set2 _, g2.setx (by simp; omega) _, g3.setx hGB _, (RowB.app ho).setx hGB _, b_set hTn hG _⟩

/-- What a function hands back that makes a machine. -/
def RetM (w : World) (b : Int) (xs : List Int) (ys : List Bool) (q : Bool) (e : Ending) (w' : World) : Prop :=
  ∃ N F c d, e = .returned (.tuple #[.agg #[.int .i64 b, .slice N xs.length c, .slice F ys.length d], .bool q]) ∧ OI w' w.heap.size N xs ∧ OB w' w.heap.size F ys ∧ Below w.heap.size w w'
end Go.Proofs.YtoihjapbidbpdaaDoor
