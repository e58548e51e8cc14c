/- Contracts of endsWell, isEnding, times, gaussOf (program). Conditions: at most 40 digits. -/
import Derived.Test.YthblbmihpgkanaaDoorGaussOfM
import Derived.Test.YthblbmihpgkanaaDoorGaussDig
import Derived.Deep.LoopGhost
import Derived.Outline
import Derived.RegionTactic
import Derived.StillTailTactics
namespace Go.Proofs.YthblbmihpgkanaaDoor
open Go.RowKit
set_option linter.unusedVariables false

def endsP (xs : List Int) : Prop := xs = [] ∨ xs.getD (xs.length - 1) 0 ≠ 0
def endsB (xs : List Int) : Bool := xs.isEmpty || decide (xs.getD (xs.length - 1) 0 ≠ 0)
theorem endsB_iff {xs : List Int} : endsB xs = true ↔ endsP xs := by
  unfold endsB endsP
  cases xs <;> simp
noncomputable def endB (m : Int) (xs : List Int) : Bool := @decide (EndP m xs) (Classical.propDecidable _)
theorem endB_t {m : Int} {xs : List Int} (h : EndP m xs) : endB m xs = true := by unfold endB; exact @decide_eq_true _ (Classical.propDecidable _) h
theorem endB_f {m : Int} {xs : List Int} (h : ¬ EndP m xs) : endB m xs = false := by unfold endB; exact @decide_eq_false _ (Classical.propDecidable _) h

set_option maxHeartbeats 1000000 in
theorem i_ends (A : Option Addr) (xs : List Int) (c : Nat) (w : World) (hR : RI w w.heap.size A xs) (hl : xs.length ≤ 40) :
    Calls Tryd.prog 34 #[.slice A xs.length c] w fun e w' => e = .returned (.bool (endsB xs)) ∧ w = w' := by
  rcases Nat.eq_zero_or_pos xs.length with h0 | hp
  · have e : xs = [] := List.eq_nil_of_length_eq_zero h0
    subst e
    have HB := Lib.hid (show endsB [] = true from rfl)
    clear h0
    go_enter Tryd.func34, Tryd.ntmps34
    go_wp2
    go_ret
    exact ⟨by rw [HB.out]; rfl, rfl⟩
  · obtain ⟨b, off, hA, hb, hc⟩ := hR.at_ (k := xs.length - 1) (by omega)
    subst hA
    obtain ⟨q, hq⟩ : ∃ q, xs.length = q + 1 := ⟨xs.length - 1, by omega⟩
    obtain ⟨d, hd⟩ : ∃ d, d = xs.getD (xs.length - 1) 0 := ⟨_, rfl⟩
    have HB := Lib.hid (show endsB xs = decide (d ≠ 0) by
      unfold endsB; rw [← hd]; cases xs
      · simp at hp
      · simp)
    rw [← hd] at hc
    rw [hq] at hc hl ⊢
    have e1 : q + 1 - 1 = q := by omega
    rw [e1] at hc
    have e2 : ((q + 1 : Nat) : Int) - 1 = q := by omega
    have HQ := Lib.hid hq
    clear hq hd hR hp e1
    have hz0 : (((q + 1 : Nat) : Int) == 0) = false := by simp; omega
    by_cases h0 : d = 0
    · have hz : (d != 0) = false := by simp [h0]
      have HB2 := Lib.hid (show endsB xs = false by rw [HB.out]; simp [h0])
      clear h0
      go_enter Tryd.func34, Tryd.ntmps34
      go_wp2
      go_ret
      exact ⟨by rw [HB2.out]; rfl, rfl⟩
    · have hz : (d != 0) = true := by simp [h0]
      have HB2 := Lib.hid (show endsB xs = true by rw [HB.out]; simp [h0])
      clear h0
      go_enter Tryd.func34, Tryd.ntmps34
      go_wp2
      go_ret
      exact ⟨by rw [HB2.out]; rfl, rfl⟩

set_option maxHeartbeats 1000000 in
theorem i_isEnd (A : Option Addr) (xs : List Int) (c : Nat) (m : Int) (w : World) (hR : RI w w.heap.size A xs) (hl : xs.length ≤ 4294967296) :
    Calls Tryd.prog 22 #[.slice A xs.length c, .int .i64 m] w fun e w' => e = .returned (.bool (endB m xs)) ∧ Below w.heap.size w w' := by
  by_cases h40 : xs.length ≤ 40
  · cases he : endsB xs
    · have HE := Lib.hid he
      have HB := Lib.hid (endB_f (m := m) (xs := xs) fun hh => by rw [endsB_iff.2 hh.2.1] at he; cases he)
      clear he
      go_enter Tryd.func22, Tryd.ntmps22
      go_wp2_with fail
      refine (i_ends A xs c _ hR h40).mono ?_
      rw [HE.out]
      rintro e w1 ⟨rfl, rfl⟩
      go_wp2
      go_ret
      exact ⟨by rw [HB.out]; rfl, Below.refl _ _⟩
    · have HE := Lib.hid he
      have HB := Lib.hid (show endB m xs = allB 0 m xs by
        cases hq : allB 0 m xs
        · exact endB_f fun hh => by rw [hh.2.2] at hq; cases hq
        · exact endB_t ⟨h40, endsB_iff.1 he, hq⟩)
      clear he
      go_enter Tryd.func22, Tryd.ntmps22
      go_wp2_with fail
      refine (i_ends A xs c _ hR h40).mono ?_
      rw [HE.out]
      rintro e w1 ⟨rfl, rfl⟩
      go_wp2_with fail
      refine (allWithin_any A xs c _ _ _ hR hl).mono ?_
      rw [← HB.out]
      rintro e w1 ⟨rfl, hb1⟩
      go_wp2
      go_ret
      exact ⟨rfl, hb1⟩
  · have HB := Lib.hid (endB_f (m := m) (xs := xs) fun hh => h40 hh.1)
    go_enter Tryd.func22, Tryd.ntmps22
    go_wp2
    go_ret
    exact ⟨by rw [HB.out]; rfl, Below.refl _ _⟩

theorem mul2_bd (x u : Int) (h1 : -4398046511104 ≤ x) (h2 : x ≤ 4398046511104) (h3 : -2 ≤ u) (h4 : u ≤ 2) : -8796093022208 ≤ x * u ∧ x * u ≤ 8796093022208 := by
  have e : (x * u).natAbs ≤ 4398046511104 * 2 := by rw [Int.natAbs_mul]; exact Nat.mul_le_mul (by omega) (by omega)
  omega
theorem i_mul2 (x y u v : Int) (w : World) (h1 : -4398046511104 ≤ x) (h2 : x ≤ 4398046511104) (h3 : -4398046511104 ≤ y) (h4 : y ≤ 4398046511104) (g1 : -2 ≤ u) (g2 : u ≤ 2) (g3 : -2 ≤ v) (g4 : v ≤ 2) :
    Calls Tryd.prog 25 #[.agg #[.int .i64 x, .int .i64 y], .agg #[.int .i64 u, .int .i64 v]] w fun e w' => e = .returned (.agg #[.int .i64 (x * u - y * v), .int .i64 (x * v + y * u)]) ∧ Below w.heap.size w w' := by
  obtain ⟨p0, q0⟩ := mul2_bd x u (by omega) (by omega) (by omega) (by omega)
  obtain ⟨p1, q1⟩ := mul2_bd y v (by omega) (by omega) (by omega) (by omega)
  obtain ⟨p2, q2⟩ := mul2_bd x v (by omega) (by omega) (by omega) (by omega)
  obtain ⟨p3, q3⟩ := mul2_bd y u (by omega) (by omega) (by omega) (by omega)
  go_enter Tryd.func25, Tryd.ntmps25
  go_wp2
  exact bodyPost_ret (v := .agg #[.int .i64 (x * u - y * v), .int .i64 (x * v + y * u)]) (by simp [results, Tryd.results25, go_sem]) rfl ⟨rfl, b_alloc (b_alloc (b_alloc (Below.refl _ _) _) _) _⟩

theorem BG.new_at (w : World) (n : Nat) (h : n = w.heap.size) (x y : Int) : BG (w.alloc (.cells #[.int .i64 x, .int .i64 y] 24)) n x y := by subst h; exact BG.new w x y
theorem BG.other {w : World} {g h i : Nat} {x y : Int} {u : Value} (hB : BG w g x y) (hne : g ≠ h) : BG (w.setCell ⟨h, i, none⟩ u) g x y := (Below.heap_setCell w ⟨h, i, none⟩ u g hne).trans hB
theorem hW_cell {w w' : World} {b o : Nat} {v : Value} (h : w.cell? ⟨b, o, none⟩ = some v) (hb : Below w.heap.size w w') : w'.cell? ⟨b, o, none⟩ = some v :=
  (hb.cell (p := ⟨b, o, none⟩) (World.block_lt_of_cell? w _ (by rw [h]))).trans h

set_option maxHeartbeats 2000000 in
theorem i_gof (A : Option Addr) (xs : List Int) (c : Nat) (u v : Int) (w : World) (hR : RI w w.heap.size A xs) (hl : xs.length ≤ 40) (g1 : -2 ≤ u) (g2 : u ≤ 2) (g3 : -2 ≤ v) (g4 : v ≤ 2)
    (hd : ∀ x ∈ xs, 0 ≤ x ∧ x ≤ 3) (hG : ∀ q, q ≤ xs.length → gB (gv u v (xs.drop q)) 40) :
    Calls Tryd.prog 23 #[.slice A xs.length c, .agg #[.int .i64 u, .int .i64 v]] w fun e w' => e = .returned (.agg #[.int .i64 (gv u v xs).1, .int .i64 (gv u v xs).2]) ∧ Below w.heap.size w w' := by
  have HD := Lib.hid hd
  have HG := Lib.hid hG
  clear hd hG
  have hBb := ((BG.new w u v).alloc (.cells #[.int .i64 0, .int .i64 0] 24)).alloc (.cells #[.int .i64 0, .int .i64 0] 24)
  have HBB := Lib.hid hBb
  clear hBb
  go_enter Tryd.func23, Tryd.ntmps23
  go_wp2
  go_loopw [6] (fun i wr => ∃ k : Nat, k ≤ xs.length ∧ i = .int .i64 ((k : Int) - 1) ∧ BG wr w.heap.size u v ∧ BG wr (w.heap.size + 1) 0 0 ∧ BG wr (w.heap.size + 2) (gv u v (xs.drop k)).1 (gv u v (xs.drop k)).2 ∧ Below w.heap.size w wr) (fun i _ => (intOf i + 1).toNat)
  case atStart => exact ⟨xs.length, Nat.le_refl _, rfl, HBB.out, (BG.new_at (w.alloc _) (w.heap.size + 1) (by simp) 0 0).alloc _, by rw [List.drop_of_length_le (Nat.le_refl _)]; exact BG.new_at _ (w.heap.size + 2) (by simp) 0 0, b_alloc (b_alloc (b_alloc (Below.refl _ _) _) _) _⟩
  case round =>
    obtain ⟨k, hk, rfl, hB0, hB1, hB2, hW⟩ := hrel
    rcases Nat.eq_zero_or_pos k with rfl | hp
    · rw [List.drop_zero] at hB2
      obtain ⟨X, hX⟩ : ∃ X, X = (gv u v xs).1 := ⟨_, rfl⟩
      obtain ⟨Y, hY⟩ : ∃ Y, Y = (gv u v xs).2 := ⟨_, rfl⟩
      rw [← hX, ← hY] at hB2
      have HX := Lib.hid hX
      have HY := Lib.hid hY
      clear hX hY
      have c0 := hB2.cell0
      have c1 := hB2.cell1
      have d0 := hB1.cell0
      have d1 := hB1.cell1
      have fz := hB1.frozen
      have lt := hB1.lt
      have HW := Lib.hid hW
      have e0 := ((hB1.set0 X).set1 Y).cell0
      have e1 := ((hB1.set0 X).set1 Y).cell1
      clear hW hB0 hB1 hB2
      go_wp2
      exact bodyPost_ret (v := .agg #[.int .i64 X, .int .i64 Y]) (by simp [results, Tryd.results23, go_sem, e0, e1]) rfl ⟨by rw [HX.out, HY.out], b_set (b_set HW.out (by simp) _) (by simp) _⟩
    · obtain ⟨q, rfl⟩ : ∃ q, k = q + 1 := ⟨k - 1, by omega⟩
      have hR1 := (hR.below hW).at_ (k := q) (by omega)
      obtain ⟨b0, off, hA, hb0, hc⟩ := hR1
      obtain ⟨d, hdd⟩ : ∃ d, d = xs.getD q 0 := ⟨_, rfl⟩
      rw [← hdd] at hc
      have hdb := HD.out d (by rw [hdd]; exact getD_mem (by omega))
      have hg1 := (HG.out (q + 1) hk).bd (by omega)
      have hg0 := (HG.out q (by omega)).bd (by omega)
      have HST := Lib.hid (gv_drop u v (xs := xs) (q := q) (by omega))
      obtain ⟨z, hz⟩ : ∃ z, z = gv u v (xs.drop (q + 1)) := ⟨_, rfl⟩
      rw [← hz, ← hdd] at HST
      rw [← hz] at hg1 hB2
      rw [HST.out] at hg0
      obtain ⟨x, y⟩ := z
      unfold stp at hg0
      dsimp only at hg0 hg1 hB2
      obtain ⟨x1, x2, y1, y2⟩ := hg1
      obtain ⟨s1, s2, t1, t2⟩ := hg0
      obtain ⟨d0, d1⟩ := hdb
      have c0 := hB2.cell0
      have c1 := hB2.cell1
      have m0 := hB0.cell0
      have m1 := hB0.cell1
      have fz := hB2.frozen
      have lt := hB2.lt
      have HB0 := Lib.hid hB0
      have HB1 := Lib.hid hB1
      have HB2 := Lib.hid hB2
      have HW := Lib.hid hW
      have HC := Lib.hid hc
      have e2 : ((q + 1 : Nat) : Int) - 1 = q := by omega
      rw [e2]
      clear hW hB0 hB1 hB2 hc hz hdd e2
      subst hA
      go_wp2_with fail
      refine (i_mul2 x y u v _ x1 x2 y1 y2 g1 g2 g3 g4).mono ?_
      rintro e w1 ⟨rfl, hb1⟩
      have K0 := HB0.out.below hb1 HB0.out.lt
      have K1 := HB1.out.below hb1 HB1.out.lt
      have K2 := HB2.out.below hb1 HB2.out.lt
      have hc := HC.out
      have hcw := hW_cell HC.out hb1
      clear c0 c1 m0 m1 fz lt hc
      have HW1 := Lib.hid (b_step HW.out hb1)
      clear hb1
      have j0 := K2.cell0
      have j1 := K2.cell1
      have fz := K2.frozen
      have lt := K2.lt
      have HK0 := Lib.hid ((K0.other (i := 0) (u := .int .i64 (x * u - y * v)) (h := w.heap.size + 2) (by omega)).other (i := 1) (u := .int .i64 (x * v + y * u)) (h := w.heap.size + 2) (by omega))
      have HK1 := Lib.hid ((K1.other (i := 0) (u := .int .i64 (x * u - y * v)) (h := w.heap.size + 2) (by omega)).other (i := 1) (u := .int .i64 (x * v + y * u)) (h := w.heap.size + 2) (by omega))
      have HK2 := Lib.hid ((K2.set0 (x * u - y * v)).set1 (x * v + y * u))
      go_wp2
      go_region
      all_goals
        go_wp2
        go_roundw
        case rel => exact ⟨q, by omega, rfl, HK0.out.other (by omega), HK1.out.other (by omega), by rw [HST.out]; exact HK2.out.set0 _, b_set (b_drew (b_set (b_set HW1.out (by simp; omega) _) (by simp; omega) _)) (by simp; omega) _⟩
        case measure => simp [intOf]
end Go.Proofs.YthblbmihpgkanaaDoor
