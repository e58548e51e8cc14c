/- The join of two machines as lists. Plain. Conditions: none. -/
import Derived.Test.YtoihjapbidbpdaaMRow
import Derived.Test.YtoihjapbidbpdaaStep
import Derived.StillTailTactics
import Derived.BigRegion
namespace Go.Proofs.Ytoihjapbidbpdaa
open Go.RowKit
set_option linter.unusedVariables false

theorem RI.up {w w' : World} {A : Option Addr} {xs : List Int} (h : RI w w.heap.size A xs) (hb : Below w.heap.size w w') : RI w' w'.heap.size A xs := (h.below hb).more hb.size
theorem app_keep {wb wm wn : World} {X G i : Nat} {b : Int} {vN vF u : Value} {r : Option Nat} (hne : G ≠ X) (h : BM wb X b vN vF) (hlo : some X ≠ r) (hm : Below wb.heap.size wb wm) (hg : wm.grownBy wn r) : BM (wn.setCell ⟨G, i, none⟩ u) X b vN vF :=
  ((h.below hm h.lt).grown hg hlo).setx (by simpa using hne) _
theorem RB.cellAt {w : World} {B g off : Nat} {ys : List Bool} (h : RB w B (some ⟨g, off, none⟩) ys) {k : Nat} (hk : k < ys.length) : w.cell? ⟨g, off + k, none⟩ = some (.bool (ys.getD k false)) := by
  obtain ⟨b, o, hA, hb, hc⟩ := h.at_ hk
  injection hA with hA
  injection hA with h1 h2
  subst h1 h2
  exact hc
theorem RI.cellAt {w : World} {B g off : Nat} {ys : List Int} (h : RI w B (some ⟨g, off, none⟩) ys) {k : Nat} (hk : k < ys.length) : w.cell? ⟨g, off + k, none⟩ = some (.int .i64 (ys.getD k 0)) := by
  obtain ⟨b, o, hA, hb, hc⟩ := h.at_ hk
  injection hA with hA
  injection hA with h1 h2
  subst h1 h2
  exact hc
theorem mok_at {bb : Nat} {xs : List Int} {n s t : Nat} (h : mok (bb : Nat) xs n = true) (hs : s < n) (ht : t < bb) : s * bb + t < xs.length ∧ ∃ pn : Nat, xs.getD (s * bb + t) 0 = (pn : Int) ∧ pn < n := by
  obtain ⟨h1, h2, h3, h4, h5, h6⟩ := mok_iff.1 h
  have hx : xs.length = n * bb := by rw [Int.mul_comm] at h5; exact_mod_cast h5
  have : (s + 1) * bb ≤ n * bb := Nat.mul_le_mul_right _ (by omega)
  rw [Nat.add_mul, Nat.one_mul] at this
  have hlt : s * bb + t < xs.length := by omega
  refine ⟨hlt, ?_⟩
  have := allB_iff.1 h6 (xs.getD (s * bb + t) 0) (by rw [List.getD_eq_getElem?_getD, List.getElem?_eq_getElem hlt]; exact List.getElem_mem hlt)
  exact ⟨(xs.getD (s * bb + t) 0).toNat, by omega, by omega⟩
def jE (xa xc : List Int) (bb nc s u t : Nat) : Int := xa.getD (s * bb + t) 0 * nc + xc.getD (u * bb + t) 0
def jR (xa xc : List Int) (bb nc s u t : Nat) : List Int := (List.range t).map (jE xa xc bb nc s u)
def jU (xa xc : List Int) (bb nc s : Nat) : Nat → List Int
  | 0 => []
  | u + 1 => jU xa xc bb nc s u ++ jR xa xc bb nc s u bb
def jS (xa xc : List Int) (bb nc : Nat) : Nat → List Int
  | 0 => []
  | s + 1 => jS xa xc bb nc s ++ jU xa xc bb nc s nc
def fE (q a c : Bool) : Bool := (a && c) || (!q && (a || c))
def fU (q : Bool) (ya yc : List Bool) (s u : Nat) : List Bool := (List.range u).map fun u => fE q (ya.getD s false) (yc.getD u false)
def fS (q : Bool) (ya yc : List Bool) (nc : Nat) : Nat → List Bool
  | 0 => []
  | s + 1 => fS q ya yc nc s ++ fU q ya yc s nc
theorem len_jU (xa xc : List Int) (bb nc s : Nat) : ∀ u, (jU xa xc bb nc s u).length = u * bb
  | 0 => by simp [jU]
  | u + 1 => by simp [jU, jR, len_jU xa xc bb nc s u, Nat.add_mul]
theorem len_jS (xa xc : List Int) (bb nc : Nat) : ∀ s, (jS xa xc bb nc s).length = s * (nc * bb)
  | 0 => by simp [jS]
  | s + 1 => by rw [jS, List.length_append, len_jS xa xc bb nc s, len_jU, Nat.add_mul, Nat.one_mul]
theorem len_fS (q : Bool) (ya yc : List Bool) (nc : Nat) : ∀ s, (fS q ya yc nc s).length = s * nc
  | 0 => by simp [fS]
  | s + 1 => by simp [fS, fU, len_fS q ya yc nc s, Nat.add_mul]
/-- The rows at a point of the loops. -/
def jL (xa xc : List Int) (bb nc s u t : Nat) : List Int := (jS xa xc bb nc s ++ jU xa xc bb nc s u) ++ jR xa xc bb nc s u t
def fL (q : Bool) (ya yc : List Bool) (nc s u : Nat) : List Bool := fS q ya yc nc s ++ fU q ya yc s u
theorem jL_succ (xa xc : List Int) (bb nc s u t : Nat) : jL xa xc bb nc s u (t + 1) = jL xa xc bb nc s u t ++ [jE xa xc bb nc s u t] := by simp [jL, jR, List.range_succ]
theorem jL_row (xa xc : List Int) (bb nc s u : Nat) : jL xa xc bb nc s u bb = jL xa xc bb nc s (u + 1) 0 := by simp [jL, jU, jR]
theorem jL_end (xa xc : List Int) (bb nc s : Nat) : jL xa xc bb nc s nc 0 = jL xa xc bb nc (s + 1) 0 0 := by simp [jL, jS, jU, jR]
theorem fL_succ (q : Bool) (ya yc : List Bool) (nc s u : Nat) : fL q ya yc nc s (u + 1) = fL q ya yc nc s u ++ [fE q (ya.getD s false) (yc.getD u false)] := by simp [fL, fU, List.range_succ]
theorem fL_end (q : Bool) (ya yc : List Bool) (nc s : Nat) : fL q ya yc nc s nc = fL q ya yc nc (s + 1) 0 := by simp [fL, fS, fU]
theorem jL_len (xa xc : List Int) (bb nc na s u t : Nat) (hn : na * nc ≤ 144) (hb : bb ≤ 10) (hs : s < na) (hu : u < nc) (ht : t ≤ bb) : (jL xa xc bb nc s u t).length ≤ 1440 := by
  have h1 : (s * nc + u) + 1 ≤ na * nc := by
    have : (s + 1) * nc ≤ na * nc := Nat.mul_le_mul_right _ hs
    rw [Nat.add_mul, Nat.one_mul] at this
    omega
  have h2 : ((s * nc + u) + 1) * bb ≤ 144 * 10 := Nat.mul_le_mul (by omega) hb
  rw [Nat.add_mul, Nat.add_mul, Nat.one_mul, Nat.mul_assoc] at h2
  simp only [jL, jR, List.length_append, len_jS, len_jU, List.length_map, List.length_range]
  omega
theorem fL_len (q : Bool) (ya yc : List Bool) (nc na s u : Nat) (hn : na * nc ≤ 144) (hs : s < na) (hu : u ≤ nc) : (fL q ya yc nc s u).length ≤ 144 := by
  have : (s + 1) * nc ≤ na * nc := Nat.mul_le_mul_right _ hs
  rw [Nat.add_mul, Nat.one_mul] at this
  simp only [fL, fU, List.length_append, len_fS, List.length_map, List.length_range]
  omega

set_option maxHeartbeats 1000000 in
/-- (impl.Machine).step, with the block that it makes. -/
theorem step_w (bb : Nat) (N F : Option Addr) (xs : List Int) (n m c d : Nat) (s t : Nat) (p : Int) (w : World) (hN : RI w w.heap.size N xs) (hbb : bb ≤ 10) (hm : m ≤ 144) (hs : s < m) (ht : t < bb) (hx : xs.length = m * bb) (hp : p = xs.getD (s * bb + t) 0) :
    Calls Try.prog 36 #[.agg #[.int .i64 (bb : Nat), .slice N xs.length c, .slice F n d], .int .i64 (s : Nat), .int .i64 (t : Nat)] w fun e w' => e = .returned (.int .i64 p) ∧ w' = w.alloc (.cells #[.int .i64 (bb : Nat), .slice N xs.length c, .slice F n d] 25) := by
  have hlt : s * bb + t < xs.length := by
    have : (s + 1) * bb ≤ m * bb := Nat.mul_le_mul_right _ (by omega)
    rw [Nat.add_mul, Nat.one_mul] at this
    omega
  have hle : m * bb ≤ 144 * 10 := Nat.mul_le_mul hm hbb
  obtain ⟨g, off, hA, hb, hc⟩ := (hN.below (b_alloc (Below.refl _ _) (.cells #[.int .i64 (bb : Nat), .slice N xs.length c, .slice F n d] 25))).at_ hlt
  rw [← hp] at hc
  subst hA
  obtain ⟨q, hq⟩ : ∃ q, q = s * bb := ⟨_, rfl⟩
  have e1 : (s : Int) * (bb : Int) = (q : Int) := by rw [hq]; exact (Int.natCast_mul s bb).symm
  rw [← hq] at hc hlt
  have hl : xs.length ≤ 1440 := by omega
  clear hN hp hq hx hle
  go_enter Try.func36, Try.ntmps36
  go_wp2
  go_ret
  exact ⟨rfl, rfl⟩
end Go.Proofs.Ytoihjapbidbpdaa
