/- The argument of a law on Gauss; toGauss. Conditions: none. -/
import Derived.Test.YthblbmihpgkanaaGauss
import Derived.Test.YthblbmihpgkanaaRow
namespace Go.Proofs.Ythblbmihpgkanaa
open Go.RowKit
set_option linter.unusedVariables false

/-- Block g is the argument (x, y). -/
def BL (w : World) (g : Nat) (x y : Int) : Prop := w.heap[g]? = some (.cells #[.int .i64 x, .int .i64 y] 23 (0, 0))
section
variable {w w' : World} {g : Nat} {x y : Int}
theorem BL.lt (h : BL w g x y) : g < w.heap.size := (Array.getElem?_eq_some_iff.1 h).1
theorem BL.cell0 (h : BL w g x y) : w.cell? ⟨g, 0, none⟩ = some (.int .i64 x) := cell_of_row w g 0 _ 23 (0, 0) h
theorem BL.cell1 (h : BL w g x y) : w.cell? ⟨g, 1, none⟩ = some (.int .i64 y) := cell_of_row w g 1 _ 23 (0, 0) h
theorem BL.new (w : World) (x y : Int) : BL (w.alloc (.cells #[.int .i64 x, .int .i64 y] 23)) w.heap.size x y := heap_alloc_new w _
theorem BL.below {B : Nat} (h : BL w g x y) (hb : Below B w w') (hg : g < B) : BL w' g x y := (hb.block g hg).trans h
end
theorem toGauss_b (x y : Int) (w : World) :
    Calls Try.prog 14 #[.agg #[.int .i64 x, .int .i64 y]] w fun e w' => e = .returned (.agg #[.int .i64 x, .int .i64 y]) ∧ Below w.heap.size w w' :=
  (toGauss_any x y w).mono fun e w' ⟨he, c1, c2, c3, hw⟩ => ⟨he, by subst hw; exact b_alloc (b_alloc (b_alloc (Below.refl _ _) _) _) _⟩
end Go.Proofs.Ythblbmihpgkanaa
