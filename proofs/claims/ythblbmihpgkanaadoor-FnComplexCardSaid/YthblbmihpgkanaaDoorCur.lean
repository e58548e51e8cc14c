/- Contracts of the cursor that the laws draw from (l01New, l01Byte, l01Below, l31New): a byte is from 0 to 255, only the cursor's block is written. Conditions: code of at most 2^20 bytes. -/
import Derived.Test.YthblbmihpgkanaaDoorBase
import Derived.Test.YthblbmihpgkanaaDoorRows
import Derived.Deep.DeepCutAuto
namespace Go.Proofs.YthblbmihpgkanaaDoor
open Go.RowKit
set_option linter.unusedVariables false

/-- The slice value at address A reads as the bytes xs, its cells below block B. -/
def RY (w : World) (B : Nat) (A : Option Addr) (xs : List Int) : Prop :=
  xs = [] ∨ ∃ b off, A = some ⟨b, off, none⟩ ∧ b < B ∧ ∀ j, j < xs.length → w.cell? ⟨b, off + j, none⟩ = some (.int .u8 (xs.getD j 0))
theorem RY.keep {w w' : World} {B : Nat} {A : Option Addr} {xs : List Int} (h : RY w B A xs) (hk : ∀ p : Addr, p.block < B → w'.cell? p = w.cell? p) : RY w' B A xs := by
  rcases h with h | ⟨b, off, hA, hb, hc⟩
  · exact .inl h
  · exact .inr ⟨b, off, hA, hb, fun j hj => (hk _ hb).trans (hc j hj)⟩
theorem RY.below {w w' : World} {B : Nat} {A : Option Addr} {xs : List Int} (h : RY w B A xs) (hb : Below B w w') : RY w' B A xs := h.keep fun _ hp => hb.cell hp
theorem RY.more {w : World} {B B' : Nat} {A : Option Addr} {xs : List Int} (h : RY w B A xs) (hB : B ≤ B') : RY w B' A xs := by
  rcases h with h | ⟨b, off, hA, hb, hc⟩
  · exact .inl h
  · exact .inr ⟨b, off, hA, by omega, hc⟩
theorem RY.at_ {w : World} {B : Nat} {A : Option Addr} {xs : List Int} (h : RY w B A xs) {k : Nat} (hk : k < xs.length) :
    ∃ b off, A = some ⟨b, off, none⟩ ∧ b < B ∧ w.cell? ⟨b, off + k, none⟩ = some (.int .u8 (xs.getD k 0)) := by
  rcases h with rfl | ⟨b, off, hA, hb, hc⟩
  · simp at hk
  · exact ⟨b, off, hA, hb, hc k hk⟩
theorem RY.of_cells {w : World} {x : Addr} {l : Nat} {zs : List Int} (hc : ∀ i, i < zs.length → w.cell? (x.add i) = some (.int .u8 (zs.getD i 0))) (hl : l ≤ zs.length) : RY w w.heap.size (some x) (zs.take l) := by
  rcases Nat.eq_zero_or_pos l with rfl | hp
  · exact .inl (by simp)
  · obtain ⟨b, off, spot⟩ := x
    have h0 := hc 0 (by omega)
    have hs : spot = none := by simpa [Addr.add] using World.cell?_spot h0
    subst hs
    refine .inr ⟨b, off, rfl, World.block_lt_of_cell? w ⟨b, off, none⟩ (by simpa [addr_add] using h0), fun j hj => ?_⟩
    rw [List.length_take] at hj
    have := hc j (by omega)
    rw [addr_add] at this
    rw [this, List.getD_eq_getElem?_getD, List.getD_eq_getElem?_getD, List.getElem?_take, if_pos (by omega)]

/-- The cursor's three cells: the code, the place, the hash. -/
def BC (w : World) (g : Nat) (v : Value) (i h : Int) : Prop := w.heap[g]? = some (.cells #[v, .int .i64 i, .int .i64 h] 58 (0, 0))
section
variable {w w' : World} {g : Nat} {v : Value} {i h : Int}
theorem BC.lt (H : BC w g v i h) : g < w.heap.size := (Array.getElem?_eq_some_iff.1 H).1
theorem BC.cell0 (H : BC w g v i h) : w.cell? ⟨g, 0, none⟩ = some v := by rw [cell_of_row w g 0 _ _ (0, 0) H]; rfl
theorem BC.cell1 (H : BC w g v i h) : w.cell? ⟨g, 1, none⟩ = some (.int .i64 i) := by rw [cell_of_row w g 1 _ _ (0, 0) H]; rfl
theorem BC.cell2 (H : BC w g v i h) : w.cell? ⟨g, 2, none⟩ = some (.int .i64 h) := by rw [cell_of_row w g 2 _ _ (0, 0) H]; rfl
theorem BC.frozen (H : BC w g v i h) (k : Nat) : w.frozen? ⟨g, k, none⟩ = false := by
  unfold BC at H
  simp [World.frozen?, H]
theorem BC.set1 (H : BC w g v i h) (c : Int) : BC (w.setCell ⟨g, 1, none⟩ (.int .i64 c)) g v c h := by
  unfold BC at H ⊢
  simp [World.setCell, Array.getElem?_modify, H]
theorem BC.set2 (H : BC w g v i h) (c : Int) : BC (w.setCell ⟨g, 2, none⟩ (.int .i64 c)) g v i c := by
  unfold BC at H ⊢
  simp [World.setCell, Array.getElem?_modify, H]
theorem BC.new (w : World) (v : Value) (i h : Int) : BC (w.alloc (.cells #[v, .int .i64 i, .int .i64 h] 58)) w.heap.size v i h := heap_alloc_new w _
theorem BC.dr (H : BC w g v i h) : BC w.drew g v i h := H
theorem BC.drN (H : BC w g v i h) (n : Nat) : BC (w.drewN n) g v i h := H
end
/-- Only block g has changed, besides new blocks. -/
structure Only (w w' : World) (g : Nat) : Prop where
  os : w'.os = w.os
  tape : w'.tape = w.tape
  output : w'.output = w.output
  size : w.heap.size ≤ w'.heap.size
  rest : ∀ k, k < w.heap.size → k ≠ g → w'.heap[k]? = w.heap[k]?
theorem Only.refl (w : World) (g : Nat) : Only w w g := ⟨rfl, rfl, rfl, Nat.le_refl _, fun _ _ _ => rfl⟩
theorem Only.trans {a b c : World} {g : Nat} (h : Only a b g) (k : Only b c g) : Only a c g :=
  ⟨k.os.trans h.os, k.tape.trans h.tape, k.output.trans h.output, Nat.le_trans h.size k.size, fun i hi hn => (k.rest i (Nat.lt_of_lt_of_le hi h.size) hn).trans (h.rest i hi hn)⟩
theorem Only.drewN {a b : World} {g : Nat} (h : Only a b g) (n : Nat) : Only a (b.drewN n) g := ⟨h.os, h.tape, h.output, h.size, h.rest⟩
theorem Only.set {a b : World} {g : Nat} (h : Only a b g) {p : Addr} (hp : p.block = g) (u : Value) : Only a (b.setCell p u) g :=
  ⟨h.os, h.tape, h.output, by simpa [World.setCell] using h.size, fun i hi hn => (Below.heap_setCell b p u i (fun e => hn (e.trans hp))).trans (h.rest i hi hn)⟩
theorem Only.below {a b : World} {g B : Nat} (h : Only a b g) (hB : B ≤ g) (hg : B ≤ a.heap.size) : Below B a b :=
  ⟨h.os, h.tape, h.output, h.size, fun i hi => h.rest i (by omega) (by omega)⟩
theorem Only.of_below {a b : World} {g : Nat} (h : Below a.heap.size a b) : Only a b g := ⟨h.os, h.tape, h.output, h.size, fun k hk _ => h.block k hk⟩
theorem Only.cell {a b : World} {g : Nat} (h : Only a b g) {p : Addr} (hp : p.block < a.heap.size) (hn : p.block ≠ g) : b.cell? p = a.cell? p := World.cell?_of_block (h.rest p.block hp hn)

/-- A cursor in block g. -/
def Cur (w : World) (g : Nat) : Prop := ∃ (A : Option Addr) (zs : List Int) (c i : Nat) (h : Int), BC w g (.slice A zs.length c) i h ∧ RY w g A zs ∧ i ≤ zs.length ∧ zs.length ≤ 1048576
theorem Cur.lt {w : World} {g : Nat} (h : Cur w g) : g < w.heap.size := by
  obtain ⟨A, zs, c, i, h, hB, _⟩ := h
  exact hB.lt
theorem Cur.below {w w' : World} {g B : Nat} (h : Cur w g) (hb : Below B w w') (hg : g < B) : Cur w' g := by
  obtain ⟨A, zs, c, i, h, hB, hR, r⟩ := h
  exact ⟨A, zs, c, i, h, (hb.block g hg).trans hB, hR.below (hb.mono (by omega)), r⟩

theorem and255 (a : Int) : 0 ≤ bits BinOp.and IntKind.i64 a 255 ∧ bits BinOp.and IntKind.i64 a 255 ≤ 255 := by
  have e : bits BinOp.and IntKind.i64 a 255 = IntKind.i64.wrap ((BitVec.ofInt 64 a &&& BitVec.ofInt 64 255).toNat : Int) := rfl
  have h : (BitVec.ofInt 64 a &&& BitVec.ofInt 64 255).toNat ≤ 255 := by
    rw [BitVec.toNat_and]
    exact Nat.and_le_right
  rw [e, IntKind.wrap_i64]
  generalize (BitVec.ofInt 64 a &&& BitVec.ofInt 64 255).toNat = z at h
  omega
/-- A byte is drawn. -/
def ByteR (w : World) (g : Nat) (e : Ending) (w' : World) : Prop := ∃ v : Int, e = .returned (.int .i64 v) ∧ 0 ≤ v ∧ v ≤ 255 ∧ Cur w' g ∧ Only w w' g

set_option maxRecDepth 100000 in
set_option maxHeartbeats 1000000 in
theorem byte_any (g : Nat) (w : World) (hC : Cur w g) : Calls Tryd.prog 33 #[.pointer (some ⟨g, 0, none⟩)] w (ByteR w g) := by
  obtain ⟨A, zs, c, i, h, hB, hR, hi, hl⟩ := hC
  have c2 := hB.cell2
  have f2 := hB.frozen 2
  have HB := Lib.hid hB
  clear hB
  go_enter Tryd.func33, Tryd.ntmps33
  go_upto_region 1 with fail
  go_cut [] (fun wx => ∃ h' : Int, BC wx g (.slice A zs.length c) i h' ∧ Only w wx g)
  case first =>
    go_wp2
    go_meet
    exact ⟨_, HB.out.set2 _, (Only.refl _ _).set rfl _⟩
  case rest =>
    obtain ⟨h', hB, hO⟩ := hcut
    rename World => wx
    have HO := Lib.hid hO
    have HR : Hid (RY wx g A zs) := hR.keep fun p hp => hO.cell (Nat.lt_trans hp HB.out.lt) (Nat.ne_of_lt hp)
    have d0 := hB.cell0
    have d1 := hB.cell1
    have d2 := hB.cell2
    have e1 := hB.frozen 1
    have HBx := Lib.hid hB
    clear hB hO c2 f2 HB hR
    by_cases hlt : i < zs.length
    · obtain ⟨b, off, rfl, hb, hc⟩ := HR.out.at_ hlt
      have hne : b ≠ g := Nat.ne_of_lt hb
      have hlt' : decide ((i : Int) < (zs.length : Int)) = true := by simp; exact hlt
      have ki : IntKind.i64.wrap ((i : Int) + 1) = ((i + 1 : Nat) : Int) := by rw [IntKind.wrap_i64]; omega
      have i0 : (0 : Int) ≤ (i : Int) := by omega
      have i1 : (i : Int) < (zs.length : Int) := by omega
      go_wp2
      go_quiet (fail)
      go_wp2
      go_quiet (fail)
      go_wp2
      go_quiet (fail)
      go_wp2
      go_ret
      refine ⟨_, rfl, (and255 _).1, (and255 _).2, ⟨some ⟨b, off, none⟩, zs, c, i + 1, h', ?_, ?_, hlt, hl⟩, ?_⟩
      · exact (HBx.out.drN _).set1 _
      · exact HR.out.keep fun p hp => World.cell?_setCell_other _ _ _ _ (fun e => by subst e; simp at hp)
      · exact (HO.out.drewN _).set rfl _
    · have hlt' : decide ((i : Int) < (zs.length : Int)) = false := by simp; omega
      go_wp2
      go_quiet (fail)
      go_wp2
      go_quiet (fail)
      go_wp2
      go_ret
      exact ⟨_, rfl, (and255 _).1, (and255 _).2, ⟨A, zs, c, i, h', HBx.out, HR.out, hi, hl⟩, (HO.out.drewN _).drewN _⟩
theorem ByteR.of {w : World} {g : Nat} {e : Ending} {w' : World} (h : ByteR w g e w') : ∃ v : Int, e = .returned (.int .i64 v) ∧ 0 ≤ v ∧ v ≤ 255 ∧ Cur w' g ∧ Only w w' g := h
/-- A number below n is drawn. -/
def BelowR (w : World) (g : Nat) (n : Int) (e : Ending) (w' : World) : Prop := ∃ v : Int, e = .returned (.int .i64 v) ∧ 0 ≤ v ∧ v < n ∧ Cur w' g ∧ Only w w' g
set_option maxHeartbeats 1000000 in
theorem below_any (g : Nat) (n : Int) (w : World) (hC : Cur w g) (h1 : 1 ≤ n) (h2 : n ≤ 256) : Calls Tryd.prog 31 #[.pointer (some ⟨g, 0, none⟩), .int .i64 n] w (BelowR w g n) := by
  have hz : ((n : Int) == 0) = false := by simp; omega
  have hz2 : ¬ ((n : Int) = 0) := by omega
  go_enter Tryd.func31, Tryd.ntmps31
  go_wp2_with (go_at_call 33; refine (byte_any g _ hC).mono ?_; rintro e w' ⟨v, rfl, hv0, hv1, hC', hO⟩)
  go_ret
  exact ⟨_, rfl, Int.emod_nonneg _ (by omega), Int.emod_lt_of_pos _ (by omega), hC', hO⟩

def NewR (w : World) (e : Ending) (w' : World) : Prop := ∃ g : Nat, e = .returned (.pointer (some ⟨g, 0, none⟩)) ∧ w.heap.size ≤ g ∧ Cur w' g ∧ Below w.heap.size w w'
set_option maxRecDepth 100000 in
set_option maxHeartbeats 1000000 in
theorem new_any (A : Option Addr) (zs : List Int) (c : Nat) (w : World) (hR : RY w w.heap.size A zs) (hl : zs.length ≤ 1048576) : Calls Tryd.prog 32 #[.slice A zs.length c] w (NewR w) := by
  have HR := Lib.hid hR
  clear hR
  go_enter Tryd.func32, Tryd.ntmps32
  go_wp2
  go_loop [3, 4] (fun h i => ∃ (k : Nat) (z : Int), k ≤ zs.length ∧ k ≤ 4000 ∧ i = .int .i64 k ∧ h = .int .i64 z) (fun _ i => 4000 - (intOf i).toNat)
  case atStart => exact ⟨0, _, by omega, by omega, rfl, rfl⟩
  case round =>
    obtain ⟨k, z, hk, hk2, rfl, rfl⟩ := hrel
    by_cases hlt : k < zs.length
    · obtain ⟨b, off, rfl, hb, hc⟩ := HR.out.at_ hlt
      by_cases hlt2 : k < 4000
      · go_wp2
        go_round
        case rel => exact ⟨k + 1, _, by omega, by omega, by go_num, rfl⟩
        case measure => simp [intOf]; omega
      · go_wp2
        go_ret
        exact ⟨_, rfl, Nat.le_refl _, ⟨_, zs, c, 0, _, BC.new _ _ _ _, HR.out.below (b_alloc (Below.refl _ _) _), by omega, hl⟩, b_alloc (Below.refl _ _) _⟩
    · go_wp2
      go_ret
      exact ⟨_, rfl, Nat.le_refl _, ⟨_, zs, c, 0, _, BC.new _ _ _ _, HR.out.below (b_alloc (Below.refl _ _) _), by omega, hl⟩, b_alloc (Below.refl _ _) _⟩
set_option maxHeartbeats 1000000 in
theorem law_new (A : Option Addr) (zs : List Int) (c n : Nat) (w : World) (hR : RY w w.heap.size A zs) (hl : zs.length ≤ 1048576) (hn : n ≤ 1000) : Calls Tryd.prog 20 #[.slice A zs.length c, .int .i64 n] w (NewR w) := by
  go_enter Tryd.func20, Tryd.ntmps20
  go_wp2_with (go_at_call 32; refine (new_any A zs c _ hR hl).mono ?_; rintro e w' ⟨g, rfl, hg, hC, hB⟩)
  have HB := Lib.hid hB
  have HC := Lib.hid hC
  have HR := Lib.hid hR
  clear hB hC hR
  go_loopw [6] (fun i wr => ∃ k : Nat, k ≤ n ∧ i = .int .i64 k ∧ Hid (Cur wr g) ∧ Hid (Below w.heap.size w wr)) (fun i _ => n - (intOf i).toNat)
  case atStart => exact ⟨0, by omega, rfl, HC, HB⟩
  case round =>
    obtain ⟨k, hk, rfl, hC, hB⟩ := hrel
    by_cases hlt : k < n
    · go_wp2_with (go_at_call 33; refine (byte_any g _ hC.out).mono ?_; rintro e w2 ⟨v, rfl, hv0, hv1, hC', hO⟩)
      have HC' := Lib.hid hC'
      have HB' := Lib.hid (hB.out.trans (hO.below hg hB.out.size))
      clear hC' hO
      go_roundw
      case rel => exact ⟨k + 1, by omega, by go_num, HC', HB'⟩
      case measure => simp [intOf]; omega
    · go_wp2
      go_ret
      exact ⟨_, rfl, hg, hC.out, hB.out⟩
end Go.Proofs.YthblbmihpgkanaaDoor
