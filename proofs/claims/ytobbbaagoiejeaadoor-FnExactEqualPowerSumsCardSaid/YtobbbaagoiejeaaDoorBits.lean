/- Contracts of math/bits.TrailingZeros and OnesCount. Conditions: the table that the row lists. -/
import Derived.Test.YtobbbaagoiejeaaDoorSeqM
import Derived.Test.YtobbbaagoiejeaaDoorRows
import Derived.Shelf.Spec.TrailingZeros
namespace Go.Proofs.YtobbbaagoiejeaaDoor
open Go.RowKit
set_option linter.unusedVariables false

/-- What the walks ask of the listed table. -/
def Tab (w : World) : Prop := TabAt 1 Go.Lib.deBruijn64tab w
theorem Tab.below {w w' : World} (h : Tab w) (hb : Below w.heap.size w w') : Tab w' := fun j hj => by
  have := h j hj
  exact (hb.cell (p := ⟨1, j, none⟩) (World.block_lt_of_cell? w _ this)).trans this

set_option maxHeartbeats 1000000 in
theorem tz_core (x k idx : Nat) (w : World) (hx0 : ((x : Int) == 0) = false)
    (key : IntKind.u64.wrap (bits BinOp.and IntKind.u64 (x : Int) (IntKind.u64.wrap (-(x : Int))) * 285870213051353865) / 288230376151711744 = (idx : Int))
    (hi : idx < 64) (hk : k < 64) (hcell : w.cell? ⟨1, idx, none⟩ = some (.int .u8 k)) :
    Calls Tryd.prog 53 #[.int .u64 x] w fun e w' => e = .returned (.int .i64 k) ∧ w' = w := by
  go_enter Tryd.func53, Tryd.ntmps53
  go_wp2_with (simp only [key])
  go_ret
  exact ⟨rfl, rfl⟩
theorem tz64 (x : Nat) (h0 : 0 < x) (hx : x < 18446744073709551616) (w : World) (hT : Tab w) :
    Calls Tryd.prog 53 #[.int .u64 x] w fun e w' => e = .returned (.int .i64 (idx x)) ∧ w' = w := by
  obtain ⟨hlow, hk⟩ := Go.Lib.lowest_bit 64 x (by omega) hx
  obtain ⟨hi, htab⟩ := Go.Lib.deBruijn64_at _ hk
  have hcell := hT _ hi
  rw [htab] at hcell
  have h := tz_core x _ _ w (by simp; omega) (tz64_key x _ hx (by omega) hlow) hi hk hcell
  rwa [ctz64_idx h0 (by omega)] at h
theorem tz (x : Nat) (h0 : 0 < x) (hx : x < 18446744073709551616) (w : World) (hT : Tab w) :
    Calls Tryd.prog 47 #[.int .u64 x] w fun e w' => e = .returned (.int .i64 (idx x)) ∧ w = w' := by
  go_enter Tryd.func47, Tryd.ntmps47
  go_wp2_with (go_at_call 53; refine (tz64 x h0 hx _ hT).mono ?_; rintro e w' ⟨rfl, hw'⟩; rw [hw'])
  go_ret
  exact ⟨rfl, rfl⟩

theorem and_u64 (a m : Nat) (ha : a < 18446744073709551616) (hm : m < 18446744073709551616) : bits BinOp.and IntKind.u64 (a : Int) (m : Int) = ((a &&& m : Nat) : Int) := bits_and_u64_nat a m ha hm
theorem and_i64 (a b : Nat) (ha : a < 9223372036854775808) (hb : b < 9223372036854775808) : bits BinOp.and IntKind.i64 (a : Int) (b : Int) = ((a &&& b : Nat) : Int) := by
  have hx : a &&& b < 2 ^ 63 := Nat.and_lt_two_pow _ (by omega)
  have h1 : (BitVec.ofInt 64 (a : Int)).toNat = a := by
    rw [BitVec.ofInt_natCast, BitVec.toNat_ofNat]; exact Nat.mod_eq_of_lt (by omega)
  have h2 : (BitVec.ofInt 64 (b : Int)).toNat = b := by
    rw [BitVec.ofInt_natCast, BitVec.toNat_ofNat]; exact Nat.mod_eq_of_lt (by omega)
  show IntKind.i64.wrap ((BitVec.ofInt 64 (a : Int) &&& BitVec.ofInt 64 (b : Int)).toNat : Int) = _
  rw [BitVec.toNat_and, h1, h2, IntKind.wrap_i64]
  generalize a &&& b = z at hx ⊢
  omega
theorem wr64 (a : Nat) (h : a < 18446744073709551616) : IntKind.u64.wrap (a : Int) = (a : Int) := by rw [IntKind.wrap_u64]; omega
theorem le_and (a m : Nat) : (a &&& m : Nat) ≤ m := Nat.and_le_right
set_option maxHeartbeats 1000000 in
theorem ones64 (x : Nat) (hx : x < 18446744073709551616) (w : World) :
    Calls Tryd.prog 51 #[.int .u64 x] w fun e w' => e = .returned (.int .i64 (pop 64 x)) ∧ w = w' := by
  have hF := (F_all 8 x (by omega)).1
  obtain ⟨g0, g1, g2, g3, g4, g5⟩ := G_all x
  have m1 : mk 85 8 = 6148914691236517205 := rfl
  have m2 : mk 51 8 = 3689348814741910323 := rfl
  have m3 : mk 15 8 = 1085102592571150095 := rfl
  obtain ⟨a1, ha1⟩ : ∃ a1, a1 = x / 2 &&& 6148914691236517205 := ⟨_, rfl⟩
  obtain ⟨a2, ha2⟩ : ∃ a2, a2 = x &&& 6148914691236517205 := ⟨_, rfl⟩
  have l1 : a1 ≤ 6148914691236517205 := by rw [ha1]; exact le_and _ _
  have l2 : a2 ≤ 6148914691236517205 := by rw [ha2]; exact le_and _ _
  have k1 : bits BinOp.and IntKind.u64 ((x : Int) / 2) 6148914691236517205 = (a1 : Int) := by rw [ha1]; exact and_u64 (x / 2) 6148914691236517205 (by omega) (by omega)
  have k2 : bits BinOp.and IntKind.u64 (x : Int) 6148914691236517205 = (a2 : Int) := by rw [ha2]; exact and_u64 x 6148914691236517205 (by omega) (by omega)
  obtain ⟨y1, hy1⟩ : ∃ y1, y1 = a1 + a2 := ⟨_, rfl⟩
  have e1 : F1 8 x = y1 := by unfold F1; rw [m1, ← ha1, ← ha2, hy1]
  have k3 : IntKind.u64.wrap ((a1 : Int) + (a2 : Int)) = (y1 : Int) := by rw [IntKind.wrap_u64]; omega
  have ly1 : y1 < 18446744073709551616 := by omega
  obtain ⟨b1, hb1⟩ : ∃ b1, b1 = y1 / 4 &&& 3689348814741910323 := ⟨_, rfl⟩
  obtain ⟨b2, hb2⟩ : ∃ b2, b2 = y1 &&& 3689348814741910323 := ⟨_, rfl⟩
  have l3 : b1 ≤ 3689348814741910323 := by rw [hb1]; exact le_and _ _
  have l4 : b2 ≤ 3689348814741910323 := by rw [hb2]; exact le_and _ _
  have k4 : bits BinOp.and IntKind.u64 ((y1 : Int) / 4) 3689348814741910323 = (b1 : Int) := by rw [hb1]; exact and_u64 (y1 / 4) 3689348814741910323 (by omega) (by omega)
  have k5 : bits BinOp.and IntKind.u64 (y1 : Int) 3689348814741910323 = (b2 : Int) := by rw [hb2]; exact and_u64 y1 3689348814741910323 (by omega) (by omega)
  obtain ⟨y2, hy2⟩ : ∃ y2, y2 = b1 + b2 := ⟨_, rfl⟩
  have e2 : F2 8 y1 = y2 := by unfold F2; rw [m2, ← hb1, ← hb2, hy2]
  have k6 : IntKind.u64.wrap ((b1 : Int) + (b2 : Int)) = (y2 : Int) := by rw [IntKind.wrap_u64]; omega
  obtain ⟨z, hz⟩ : ∃ z, z = y2 / 16 + y2 := ⟨_, rfl⟩
  have k7 : IntKind.u64.wrap ((y2 : Int) / 16 + (y2 : Int)) = (z : Int) := by rw [IntKind.wrap_u64]; omega
  obtain ⟨y3, hy3⟩ : ∃ y3, y3 = z &&& 1085102592571150095 := ⟨_, rfl⟩
  have e3 : F3 8 y2 = y3 := by unfold F3; rw [m3, ← hz, hy3]
  have k8 : bits BinOp.and IntKind.u64 (z : Int) 1085102592571150095 = (y3 : Int) := by rw [hy3]; exact and_u64 z 1085102592571150095 (by omega) (by omega)
  rw [e1, e2, e3] at hF
  rw [← hF] at g0 g1 g2 g3 g4
  obtain ⟨y4, hy4⟩ : ∃ y4, y4 = G1 y3 := ⟨_, rfl⟩
  rw [← hy4] at g1 g2 g3 g4
  obtain ⟨y5, hy5⟩ : ∃ y5, y5 = G2 y4 := ⟨_, rfl⟩
  rw [← hy5] at g2 g3 g4
  obtain ⟨y6, hy6⟩ : ∃ y6, y6 = G3 y5 := ⟨_, rfl⟩
  rw [← hy6] at g3 g4
  unfold G1 at hy4
  unfold G2 at hy5
  unfold G3 at hy6
  have k9 : IntKind.u64.wrap ((y3 : Int) + (y3 : Int) / 256) = (y4 : Int) := by rw [IntKind.wrap_u64]; omega
  have k10 : IntKind.u64.wrap ((y4 : Int) + (y4 : Int) / 65536) = (y5 : Int) := by rw [IntKind.wrap_u64]; omega
  have k11 : IntKind.u64.wrap ((y5 : Int) + (y5 : Int) / 4294967296) = (y6 : Int) := by rw [IntKind.wrap_u64]; omega
  have k12 : IntKind.i64.wrap (y6 : Int) = (y6 : Int) := by rw [IntKind.wrap_i64]; omega
  obtain ⟨q, hq⟩ : ∃ q, q = pop 64 x := ⟨_, rfl⟩
  have k13 : bits BinOp.and IntKind.i64 (y6 : Int) 127 = (q : Int) := by
    have h := and_i64 y6 127 g3 (by omega)
    have h2 : y6 &&& 127 = y6 % 128 := Nat.and_two_pow_sub_one_eq_mod y6 7
    rw [h2, g4, ← hq] at h
    exact h
  rw [← hq]
  clear hq g0 g1 g2 g3 g4 g5 hy4 hy5 hy6 hF e1 e2 e3 hy3 hz hy2 hb1 hb2 hy1 ha1 ha2 m1 m2 m3
  go_enter Tryd.func51, Tryd.ntmps51
  go_wp2_with (simp only [k1, k2, k3, k4, k5, k6, k7, k8, k9, k10, k11, k12, k13])
  go_ret
  exact ⟨rfl, rfl⟩
theorem ones (x : Nat) (hx : x < 18446744073709551616) (w : World) :
    Calls Tryd.prog 46 #[.int .u64 x] w fun e w' => e = .returned (.int .i64 (pop 64 x)) ∧ w = w' := by
  go_enter Tryd.func46, Tryd.ntmps46
  go_wp2_with (go_at_call 51; refine (ones64 x hx _).mono ?_; rintro e w' ⟨rfl, rfl⟩)
  go_ret
  exact ⟨rfl, rfl⟩
end Go.Proofs.YtobbbaagoiejeaaDoor
