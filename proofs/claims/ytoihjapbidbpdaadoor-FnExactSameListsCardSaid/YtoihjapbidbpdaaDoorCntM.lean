/- The numbers of lists that lead to the states of a machine. Plain. Conditions: none. -/
import Derived.Test.YtoihjapbidbpdaaDoorMOk
namespace Go.Proofs.YtoihjapbidbpdaaDoor
open Go.RowKit
set_option linter.unusedVariables false

def addAt (l : List Int) (i : Nat) (v : Int) : List Int := l.set i (IntKind.i64.wrap (l.getD i 0 + v))
/-- The first t digits of state s are counted in. -/
def rowW (xs ways : List Int) (bb s : Nat) (l : List Int) : Nat → List Int
  | 0 => l
  | t + 1 => addAt (rowW xs ways bb s l t) (xs.getD (s * bb + t) 0).toNat (ways.getD s 0)
/-- The first s states are counted in. -/
def stepW (xs : List Int) (bb n : Nat) (ways : List Int) : Nat → List Int
  | 0 => List.replicate n 0
  | s + 1 => rowW xs ways bb s (stepW xs bb n ways s) bb
def waysK (xs : List Int) (bb n : Nat) : Nat → List Int
  | 0 => (List.replicate n 0).set 0 1
  | k + 1 => stepW xs bb n (waysK xs bb n k) n
def cntK (ways : List Int) (ys : List Bool) : Nat → Int
  | 0 => 0
  | s + 1 => if ys.getD s false = true then IntKind.i64.wrap (cntK ways ys s + ways.getD s 0) else cntK ways ys s
theorem len_rowW (xs ways : List Int) (bb s : Nat) (l : List Int) : ∀ t, (rowW xs ways bb s l t).length = l.length
  | 0 => rfl
  | t + 1 => by simp [rowW, addAt, len_rowW xs ways bb s l t]
theorem len_stepW (xs : List Int) (bb n : Nat) (ways : List Int) : ∀ s, (stepW xs bb n ways s).length = n
  | 0 => by simp [stepW]
  | s + 1 => by simp [stepW, len_rowW, len_stepW xs bb n ways s]
theorem len_waysK (xs : List Int) (bb n : Nat) : ∀ k, (waysK xs bb n k).length = n
  | 0 => by simp [waysK]
  | k + 1 => by simp [waysK, len_stepW]
theorem Fill.put {cs : Array Value} {n : Nat} {l : List Int} (h : Fill cs 0 n l) {i : Nat} (hi : i < n) (hs : cs.size = n) (hl : l.length = n) (z : Int) : Fill (cs.setIfInBounds i (.int .i64 z)) 0 n (l.set i z) := by
  intro j hj
  rw [Array.getElem?_setIfInBounds]
  by_cases e : i = 0 + j
  · have e' : i = j := by omega
    subst e'
    have hi' : i < cs.size := by omega
    simp [hi', List.getD_eq_getElem?_getD, hl, hi]
  · rw [if_neg e, h j hj, List.getD_eq_getElem?_getD, List.getD_eq_getElem?_getD, List.getElem?_set_ne (by omega)]
theorem wrap_of {x z : Int} (h : IntKind.i64.wrap x = z) : -9223372036854775808 ≤ z ∧ z ≤ 9223372036854775807 := by
  subst h
  rw [IntKind.wrap_i64]
  omega
/-- The answer. -/
noncomputable def countR (b : Int) (xs : List Int) (ys : List Bool) (k : Int) : Int :=
  @ite _ (mok b xs ys.length = true ∧ 0 ≤ k ∧ k ≤ 9) (Classical.propDecidable _) (cntK (waysK xs b.toNat ys.length k.toNat) ys ys.length) (-1)
theorem countR_t {b : Int} {xs : List Int} {ys : List Bool} {k : Int} (h : mok b xs ys.length = true ∧ 0 ≤ k ∧ k ≤ 9) : countR b xs ys k = cntK (waysK xs b.toNat ys.length k.toNat) ys ys.length := by
  unfold countR; exact if_pos h
theorem countR_f {b : Int} {xs : List Int} {ys : List Bool} {k : Int} (h : ¬ (mok b xs ys.length = true ∧ 0 ≤ k ∧ k ≤ 9)) : countR b xs ys k = -1 := by
  unfold countR; exact if_neg h
end Go.Proofs.YtoihjapbidbpdaaDoor
