/- Contract of l02Sign. Conditions: digits of at most 15. -/
import Derived.Test.YtobbbaagoiejeaaDoorBase
import Derived.Test.YtobbbaagoiejeaaDoorRows
import Derived.Laws.BytesArg
import Derived.Outline
import Derived.WalkSpells
namespace Go.Proofs.YtobbbaagoiejeaaDoor
open Go.RowKit
set_option linter.unusedVariables false

theorem info_u8 : (Tryd.prog.info? 5).map (fun i => (i.zero, i.size, i.bytes)) = some (some (.int .u8 0), 1, 1) := by kernel_rfl
/-- The mark of a digit, as a number. -/
def mkc (d : Int) : Int := if d ≤ 9 then 48 + d else 87 + d
/-- The text of digits. -/
def marksOf (xs : List Int) : ByteArray := strOfNums (xs.map mkc)
theorem strOfNums_nil : strOfNums [] = ByteArray.empty := rfl
theorem strOfNums_append (xs ys : List Int) : strOfNums (xs ++ ys) = strOfNums xs ++ strOfNums ys := by
  apply ByteArray.ext
  apply Array.ext'
  simp [strOfNums]
theorem ba_assoc (a b c : ByteArray) : (a ++ b) ++ c = a ++ (b ++ c) := by
  apply ByteArray.ext
  apply Array.ext'
  simp
theorem marksOf_append (xs ys : List Int) : marksOf (xs ++ ys) = marksOf xs ++ marksOf ys := by
  unfold marksOf; rw [List.map_append, strOfNums_append]
theorem mark_at (d : Int) (h0 : 0 ≤ d) (h1 : d ≤ 15) (hp : d.toNat < (ByteArray.mk #[48, 49, 50, 51, 52, 53, 54, 55, 56, 57, 97, 98, 99, 100, 101, 102]).size) :
    (((ByteArray.mk #[48, 49, 50, 51, 52, 53, 54, 55, 56, 57, 97, 98, 99, 100, 101, 102])[d.toNat]'hp).toNat : Int) = mkc d := by
  obtain ⟨n, rfl⟩ := Int.eq_ofNat_of_zero_le h0
  have hn : n < 16 := by omega
  match n, hn with
  | 0, _ => rfl
  | 1, _ => rfl
  | 2, _ => rfl
  | 3, _ => rfl
  | 4, _ => rfl
  | 5, _ => rfl
  | 6, _ => rfl
  | 7, _ => rfl
  | 8, _ => rfl
  | 9, _ => rfl
  | 10, _ => rfl
  | 11, _ => rfl
  | 12, _ => rfl
  | 13, _ => rfl
  | 14, _ => rfl
  | 15, _ => rfl
/-- Block g is the cells cs, of element type uint8, none frozen. -/
def BM (w : World) (g : Nat) (cs : Array Value) : Prop := w.heap[g]? = some (.cells cs 5 (0, 0))
section
variable {w w' : World} {g : Nat} {cs : Array Value}
theorem BM.lt (h : BM w g cs) : g < w.heap.size := (Array.getElem?_eq_some_iff.1 h).1
theorem BM.cell (h : BM w g cs) (i : Nat) : w.cell? ⟨g, i, none⟩ = cs[i]? := cell_of_row w g i cs 5 (0, 0) h
theorem BM.frozen (h : BM w g cs) (i : Nat) : w.frozen? ⟨g, i, none⟩ = false := by
  unfold BM at h
  simp [World.frozen?, h]
theorem BM.ex (h : BM w g cs) {i : Nat} (hi : i < cs.size) : ∃ v, w.cell? ⟨g, i, none⟩ = some v := ⟨cs[i], by rw [h.cell]; simp [hi]⟩
theorem BM.new (w : World) (cs : Array Value) : BM (w.alloc (.cells cs 5)) w.heap.size cs := heap_alloc_new w _
theorem BM.set_ (h : BM w g cs) (i : Nat) (u : Value) : BM (w.setCell ⟨g, i, none⟩ u) g (cs.setIfInBounds i u) := by
  unfold BM at h ⊢
  simp [World.setCell, Array.getElem?_modify, h]
end
theorem cell_new_u8 (w : World) (n : Int) (i : Nat) (hi : i < 1) : (w.alloc (Obj.cells #[Value.int IntKind.u8 n] 5)).cell? ⟨w.heap.size, 0 + i, none⟩ = some (.int .u8 ([n].getD i 0)) := by
  obtain rfl : i = 0 := by omega
  rw [(BM.new w _).cell]
  rfl
set_option maxHeartbeats 1000000 in
theorem s_sign (d : Int) (w : World) (h0 : 0 ≤ d) (h1 : d ≤ 15) :
    Calls Tryd.prog 48 #[.int .i64 d] w fun e w' => e = .returned (.string (marksOf [d])) ∧ Below w.heap.size w w' := by
  by_cases h : 9 < d
  · have hcv := run_convert_bytes_arg (P := Tryd.prog) (w.alloc (Obj.cells #[Value.int IntKind.u8 (97 + d - 10)] 5)) 46 5 Tryd.underlying46 Tryd.underlying5 w.heap.size 0 1 1 [97 + d - 10] rfl (cell_new_u8 w _) 9 Tryd.underlying9
    have hE := Lib.hid (show strOfNums [97 + d - 10] = marksOf [d] by unfold marksOf mkc; simp [show ¬ d ≤ 9 by omega]; congr 1; congr 1; omega)
    go_enter Tryd.func48, Tryd.ntmps48
    go_wp2
    go_ret
    refine ⟨?_, b_alloc (Below.refl _ _) _⟩
    rw [hE.out]
    rfl
  · have hcv := run_convert_bytes_arg (P := Tryd.prog) (w.alloc (Obj.cells #[Value.int IntKind.u8 (48 + d)] 5)) 46 5 Tryd.underlying46 Tryd.underlying5 w.heap.size 0 1 1 [48 + d] rfl (cell_new_u8 w _) 9 Tryd.underlying9
    have hE := Lib.hid (show strOfNums [48 + d] = marksOf [d] by unfold marksOf mkc; simp [show d ≤ 9 by omega])
    go_enter Tryd.func48, Tryd.ntmps48
    go_wp2
    go_ret
    refine ⟨?_, b_alloc (Below.refl _ _) _⟩
    rw [hE.out]
    rfl
/-- The digits' marks, up to k. -/
def FillM (cs : Array Value) (k : Nat) (xs : List Int) : Prop := ∀ j, j < k → cs[j]? = some (.int .u8 (mkc (xs.getD j 0)))
theorem FillM.step {cs : Array Value} {k : Nat} {xs : List Int} (h : FillM cs k xs) (hk : k < cs.size) {v : Value} (hv : v = .int .u8 (mkc (xs.getD k 0))) : FillM (cs.setIfInBounds k v) (k + 1) xs := by
  intro j hj
  rw [Array.getElem?_setIfInBounds]
  by_cases e : k = j
  · subst e
    simp [hk, hv]
  · rw [if_neg e]; exact h j (by omega)
end Go.Proofs.YtobbbaagoiejeaaDoor
