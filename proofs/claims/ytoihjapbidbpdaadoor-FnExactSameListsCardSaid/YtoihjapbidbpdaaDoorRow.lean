/- A row of integers to which a loop appends; what a function hands back that makes a list. Conditions: none. -/
import Derived.Test.YtoihjapbidbpdaaDoorInts
namespace Go.Proofs.YtoihjapbidbpdaaDoor
open Go.RowKit
set_option linter.unusedVariables false

theorem OI.of_own {w : World} {B n c : Nat} {A : Option Addr} {xs : List Int} (h : w.ownsRow B 3 1 (.slice A n c) n (xs.map (Value.int .i64))) : n = xs.length ∧ OI w B A xs := by
  have hl : n = xs.length := by simpa using h.1.symm
  refine ⟨hl, ?_⟩
  rcases h.2 with ⟨h1, h2⟩ | ⟨g, cap, cur, hv, hB, hh, hn, _, hsz, ht⟩
  · exact .inl (List.eq_nil_of_length_eq_zero (by omega))
  · injection hv with hA
    refine .inr ⟨g, 0, cur, hA, hB, hh, fun j hj => ?_⟩
    have hj' : j < n := by omega
    have e : (cur.toList.take (n * 1))[j]? = (xs.map (Value.int .i64))[j]? := by rw [ht]
    rw [List.getElem?_take, if_pos (by omega), List.getElem?_map] at e
    have e2 : xs[j]? = some (xs.getD j 0) := by rw [List.getD_eq_getElem?_getD, List.getElem?_eq_getElem hj, Option.getD_some]
    rw [e2] at e
    simpa using e

/-- A row of integers that the call itself made (or nil). -/
def Row (w : World) (B : Nat) (v : Value) (xs : List Int) : Prop := w.ownsRow B 3 1 v xs.length (xs.map (Value.int .i64))
theorem Row.nil (w : World) (B : Nat) : Row w B (.slice none 0 0) [] := World.ownsRow_nil _ _ _ _
theorem Row.made (w : World) : Row (w.alloc (.cells #[] 3)) w.heap.size (.slice (some ⟨w.heap.size, 0, none⟩) 0 0) [] :=
  World.ownsRow_made w #[] 0 (Nat.le_refl _) (Nat.zero_le _) rfl
theorem Row.mono {w : World} {B B2 : Nat} {v : Value} {xs : List Int} (h : Row w B2 v xs) (hB : B ≤ B2) : Row w B v xs := by
  rcases h.2 with h2 | ⟨g, cap, cur, hv, hg, r⟩
  · exact ⟨h.1, .inl h2⟩
  · exact ⟨h.1, .inr ⟨g, cap, cur, hv, Nat.le_trans hB hg, r⟩⟩
theorem Row.shape {w : World} {B : Nat} {v : Value} {xs : List Int} (h : Row w B v xs) : ∃ A c, v = .slice A xs.length c := by
  rcases h.2 with ⟨h1, h2⟩ | ⟨g, cap, cur, hv, _⟩
  · exact ⟨none, 0, by rw [h1, h2]⟩
  · exact ⟨_, _, hv⟩

theorem Row.app {w1 : World} {B : Nat} {v1 : Value} {l : List Int} {x : Int} (h : w1.ownsRow B 3 1 v1 (l.length + 1) (l.map (Value.int .i64) ++ [.int .i64 x])) : Row w1 B v1 (l ++ [x]) := by
  unfold Row; simpa using h
theorem Row.grow {w wr w1 : World} {v : Value} {l : List Int} {o : Obj} (hO : Row wr w.heap.size v l) (hW : Below w.heap.size w wr) (hg : (wr.alloc o).grownBy w1 v.ownBlock) : Below w.heap.size w w1 :=
  (b_alloc hW o).grown hg (b_alloc hW o).size fun k hk => (World.ownsRow.lt hO k hk).1

/-- What a function hands back that makes a list: a slice of its own that reads as xs. -/
def RetL (w : World) (xs : List Int) (e : Ending) (w' : World) : Prop :=
  ∃ A c, e = .returned (.slice A xs.length c) ∧ OI w' w.heap.size A xs ∧ Below w.heap.size w w'
theorem RetL.of {w w' : World} {v : Value} {xs ys : List Int} (h : Row w' w.heap.size v xs) (hb : Below w.heap.size w w') (e : xs = ys) : RetL w ys (.returned v) w' := by
  subst e
  obtain ⟨A, c, rfl⟩ := h.shape
  exact ⟨A, c, rfl, (OI.of_own h).2, hb⟩

end Go.Proofs.YtoihjapbidbpdaaDoor
