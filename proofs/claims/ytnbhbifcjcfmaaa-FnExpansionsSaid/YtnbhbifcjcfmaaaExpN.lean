/- Contract of l14Lengths. Conditions: a fraction and a base of the chapter. -/
import Derived.Test.YtnbhbifcjcfmaaaExpR
import Derived.Maps.AppendAt
import Derived.Maps.OwnSet
import Derived.Maps.OwnOps
import Derived.Deep.LoopGhost
import Derived.WalkArith
import Derived.Outline
import Derived.Deep.RegionWith
namespace Go.Proofs.Ytnbhbifcjcfmaaa
open Go.RowKit
set_option linter.unusedVariables false

/-- The place of a rest among the first n, counted from 1; 0 where it is none of them. -/
def seenV (b q p : Int) : Nat → Int → Nat
  | 0, _ => 0
  | n + 1, x => if rst b q p n = x then n + 1 else seenV b q p n x
theorem seenV_none {b q p : Int} : ∀ {n : Nat} {x : Int}, (∀ i, i < n → rst b q p i ≠ x) → seenV b q p n x = 0
  | 0, _, _ => rfl
  | n + 1, x, h => by rw [seenV, if_neg (h n (by omega)), seenV_none fun i hi => h i (by omega)]
theorem seenV_some {b q p : Int} : ∀ {n : Nat} {x : Int} {f : Nat}, Dist b q p n → f < n → rst b q p f = x → seenV b q p n x = f + 1
  | n + 1, x, f, hd, hf, hx => by
    rw [seenV]
    by_cases e : f = n
    · subst e; rw [if_pos hx]
    · rw [if_neg (fun h => hd n (by omega) f (by omega) (h.trans hx.symm)), seenV_some (n := n) (fun i hi j hj => hd i (by omega) j hj) (by omega) hx]
def SeenC (b q p : Int) (n : Nat) (cs : Array Value) : Prop := ∀ x : Nat, x < cs.size → cs[x]? = some (.int .i64 (seenV b q p n x))
theorem SeenC.step {b q p : Int} {n : Nat} {cs : Array Value} (h : SeenC b q p n cs) {R : Nat} (hR : rst b q p n = R) {v : Value} (hv : v = .int .i64 ((n + 1 : Nat) : Int)) : SeenC b q p (n + 1) (cs.setIfInBounds R v) := by
  intro x hx
  rw [Array.size_setIfInBounds] at hx
  rw [Array.getElem?_setIfInBounds, seenV, hR]
  by_cases e : R = x
  · subst e; simp [hx, hv]
  · rw [if_neg e, if_neg (by omega)]; exact h x hx
theorem seenC_zero {b q p : Int} (Q : Nat) : SeenC b q p 0 (madeCells #[.int .i64 0] Q) := by
  intro x hx
  simp [madeCells] at hx ⊢
  simp [hx, seenV, Nat.mod_one]
/-- The words of the lengths. -/
noncomputable def exPN (p q b : Int) : Int := if exB p q b then (preN b q p : Int) else -1
noncomputable def exRN (p q b : Int) : Int := if exB p q b then (perN b q p : Int) else -1

theorem BI.new_at (w : World) (n : Nat) (h : n = w.heap.size) (cs : Array Value) : BI (w.alloc (.cells cs 3)) n cs := by subst h; exact BI.new w cs
theorem BI.grownX {w w' : World} {g : Nat} {cs : Array Value} {o : Obj} {row : Option Nat} (h : BI w g cs) (hg : (w.alloc o).grownBy w' row) (hne : row ≠ some g) : BI w' g cs := by
  have h2 : BI (w.alloc o) g cs := (Below.heap_alloc w o g h.lt).trans h
  exact (hg.block g h2.lt (fun e => hne e.symm)).trans h2
theorem Row.setX {w : World} {B g i : Nat} {v : Value} {l : List Int} {u : Value} (hO : Row w B v l) (hne : v.ownBlock ≠ some g) : Row (w.setCell ⟨g, i, none⟩ u) B v l :=
  World.ownsRow.kept (row := some g) hO ⟨rfl, rfl, rfl, by simp [World.setCell], fun k hk hk2 => Below.heap_setCell w ⟨g, i, none⟩ u k (fun e => hk2 (by rw [e]))⟩ (.inr hne)
theorem ret2_int {a b c d : Int} (h : a = c) (k : b = d) : Ending.returned (.tuple #[.int .i64 a, .int .i64 b]) = .returned (.tuple #[.int .i64 c, .int .i64 d]) := by rw [h, k]
theorem Row.alloc {w : World} {B : Nat} {v : Value} {xs : List Int} (h : Row w B v xs) (o : Obj) : Row (w.alloc o) B v xs := World.ownsRow.alloc h o

set_option maxHeartbeats 4000000 in
theorem s_lens (p0 b : Int) (Q : Nat) (w : World) (q1 : 1 ≤ Q) (q2 : Q ≤ 1000) (p1 : 0 ≤ p0) (p2 : p0 ≤ (Q : Int) - 1) (b1 : 2 ≤ b) (b2 : b ≤ 16) :
    Calls Try.prog 47 #[.int .i64 p0, .int .i64 Q, .int .i64 b] w fun e w' => e = .returned (.tuple #[.int .i64 (preN b Q p0), .int .i64 (perN b Q p0)]) ∧ Below w.heap.size w w' := by
  obtain ⟨i0, hi, hz0, hz1, hz2⟩ := info_parts info_int
  have hmk := run_make_row' (P := Try.prog) 24 3 (.int .i64 0) 8 Try.underlying24 info_int rfl .i64 .i64 Q (by omega) (by omega)
  have HBD := Lib.hid (fun k => rst_bd (b := b) (q := (Q : Int)) (p := p0) (by omega) p1 (by omega) k)
  have HLE := Lib.hid (fun n (h : Dist b (Q : Int) p0 n) => h.le (by omega) p1 (by omega))
  go_enter Try.func47, Try.ntmps47
  go_wp2
  go_loopg [0, 8] (Q + 1) (fun gk s v wr => ∃ (n : Nat) (cs : Array Value), s = .int .i64 (rst b Q p0 n) ∧ n + gk = Q + 1 ∧ Hid (Dist b Q p0 n) ∧ Hid (∀ j, j < n → rst b Q p0 j ≠ 0) ∧ Row wr w.heap.size v (rsl b Q p0 n) ∧ Hid (v.ownBlock ≠ some (w.heap.size + 1)) ∧ BI wr (w.heap.size + 1) cs ∧ Hid (cs.size = Q) ∧ Hid (SeenC b Q p0 n cs) ∧ Below w.heap.size w wr)
  case atStart => exact ⟨0, _, rfl, by omega, Dist.zero _ _ _, (fun j hj => by omega), (Row.made w).alloc _, (fun e => by simp [Value.ownBlock] at e), BI.new_at (w.alloc _) _ (by simp) _, by unfold Hid; simp [madeCells], seenC_zero Q, b_alloc (b_alloc (Below.refl _ _) _) _⟩
  case round =>
    obtain ⟨n, cs, rfl, hgk, hDi, hNZ, hO, hne, hB, hcs, hSe, hW⟩ := hrel
    obtain ⟨r0, r1⟩ := HBD.out n
    have hnq := HLE.out n hDi.out
    rw [Int.toNat_natCast] at hnq
    obtain ⟨R, hr⟩ : ∃ R : Nat, rst b Q p0 n = R := ⟨_, (Int.toNat_of_nonneg r0).symm⟩
    rw [hr] at r0 r1
    rw [hr]
    have hRQ : R < Q := by omega
    have hcell := hB.cell R
    rw [hSe.out R (by rw [hcs.out]; exact hRQ)] at hcell
    have hfz := hB.frozen R
    have hw0 := hW.size
    have HW := Lib.hid hW
    have HO := Lib.hid hO
    have HB := Lib.hid hB
    have HGK := Lib.hid hgk
    have ln := length_rsl b Q p0 n
    have HLN := Lib.hid ln
    obtain ⟨Ad, cd, hsh, _⟩ := hO.own
    rw [ln] at hsh
    subst hsh
    clear hW hO hB hgk ln
    by_cases hz : R = 0
    · have HREP := Lib.hid (show Rep b Q p0 n (n + 1) from Rep.of_zero (hDi.out.succ fun j hj e => hNZ.out j hj (by rw [e, hr, hz]; rfl)) (by rw [hr, hz]; rfl))
      have HL := Lib.hid (show preN b Q p0 = n ∧ perN b Q p0 = 0 by have := HREP.out.lens; rw [if_pos (by rw [hr, hz]; rfl)] at this; exact this)
      have hq2 : ((R : Int) == 0) = true := by simp [hz]
      clear hr hDi hNZ hz hcell hfz HREP
      go_wp2
      go_ret2
      exact ⟨by rw [HL.out.1, HL.out.2]; rfl, HW.out⟩
    · have hq2 : ((R : Int) == 0) = false := by simp; omega
      obtain ⟨sv, hsv⟩ : ∃ sv, sv = seenV b Q p0 n R := ⟨_, rfl⟩
      rw [← hsv] at hcell
      by_cases hrep : ∃ f, f < n ∧ rst b Q p0 f = R
      · obtain ⟨f, hfn, hfr⟩ := hrep
        have hs := seenV_some hDi.out hfn hfr
        rw [← hsv] at hs
        have HREP := Lib.hid (show Rep b Q p0 f n from ⟨hfn, hr.trans hfr.symm, hDi.out⟩)
        have HL := Lib.hid (show preN b Q p0 = f ∧ perN b Q p0 = n - f by have := HREP.out.lens; rw [if_neg (by rw [hfr]; omega)] at this; exact this)
        subst hs
        have hsv2 : 0 < f + 1 := by omega
        clear hsv hr hfr hDi hNZ HREP hz
        go_wp2
        go_quiet (fail)
        go_wp2
        go_ret2
        refine ⟨?_, below_drewN HW.out _⟩
        rw [HL.out.1, HL.out.2]
        exact ret2_int (by omega) (by omega)
      · have hs := seenV_none (b := b) (q := (Q : Int)) (p := p0) (n := n) (x := (R : Int)) (fun i hi e => hrep ⟨i, hi, e⟩)
        rw [← hsv] at hs
        subst hs
        have HDI1 := Lib.hid (hDi.out.succ fun j hj e => hrep ⟨j, hj, e.trans hr⟩)
        have HNZ1 := Lib.hid (show ∀ j, j < n + 1 → rst b Q p0 j ≠ 0 from fun j hj => by
          by_cases e : j = n
          · subst e; rw [hr]; omega
          · exact hNZ.out j (by omega))
        have HRS := Lib.hid (show rst b Q p0 (n + 1) = R * b % Q by rw [rst_succ, hr])
        have HDS := Lib.hid (show rsl b Q p0 (n + 1) = rsl b Q p0 n ++ [(R : Int)] by rw [rsl_succ, hr])
        have HSE1 := Lib.hid (fun (v : Value) (hv : v = .int .i64 ((n + 1 : Nat) : Int)) => hSe.out.step hr hv)
        have m0 : 0 ≤ (R : Int) * b := Int.mul_nonneg r0 (by omega)
        have m1 : (R : Int) * b ≤ 1000 * 16 := Int.mul_le_mul (by omega) (by omega) (by omega) (by omega)
        have hle : (rsl b Q p0 n).length ≤ 1000 := by rw [HLN.out]; omega
        have hln : n ≤ 1000 := by omega
        have hO := HO.out
        clear hsv hr hDi hNZ hz hrep hSe
        go_wp2_with (first | (at_builtin; refine wpList_append_own_at _ rfl _ _ 24 rfl w.heap.size 3 i0 (.int .i64 0) 1 8 Try.underlying24 hi hz0 hz1 hz2 rfl (by decide) _ _ _ rfl (World.ownsRow.alloc hO _) ⟨wr.heap.size, 0, none⟩ 1 1 [.int .i64 R] rfl rfl (cell_one_new _ _ _) ?c3_1 ?c3_2 ?c3_3 ?c3_4 ?_))
        case c3_1 => first | rfl | (intro u hu; simp at hu; subst hu; rfl)
        case c3_2 => unfold maxLen; omega
        case c3_3 => omega
        case c3_4 => first | omega | (simp; omega)
        intro v1 w2 hown1 hgrow1 _ hat
        have HO2 := Lib.hid (Row.app hown1)
        have hgsz := (wr.grownBy_alloc (.cells #[.int .i64 R] 3) none).size
        have HNE2 := Lib.hid (show v1.ownBlock ≠ some (w.heap.size + 1) by
          rcases hat with e | e
          · rw [e]; exact hne.out
          · rw [e]; intro e2; have := HB.out.lt; injection e2 with e2; omega)
        have hB2 := HB.out.grownX hgrow1 hne.out
        have HW2 := Lib.hid (Row.grow hO HW.out hgrow1)
        have hle2 : (rsl b Q p0 n ++ [(R : Int)]).length = n + 1 := by simp [HLN.out]
        obtain ⟨A2, c2, hsh2, _⟩ := HO2.out.own
        rw [hle2] at hsh2
        subst hsh2
        obtain ⟨v0, hcB⟩ := hB2.ex (i := R) (by rw [hcs.out]; exact hRQ)
        have hfB := hB2.frozen R
        have HB2 := Lib.hid hB2
        have hB3 := hB2.lt
        clear hown1 hgrow1 hat hO HO HW HB hB2 hle2 hcell hfz
        go_wp2
        go_roundg (gk - 1)
        case measure => have := HGK.out; omega
        case rel => exact ⟨n + 1, _, by rw [HRS.out], by have := HGK.out; omega, HDI1.out, HNZ1.out, by rw [HDS.out]; exact HO2.out.setX HNE2.out, HNE2.out, HB2.out.set_ R _, by unfold Hid; simp [hcs.out], HSE1.out _ (by go_num), b_set HW2.out (by simp) _⟩
end Go.Proofs.Ytnbhbifcjcfmaaa
