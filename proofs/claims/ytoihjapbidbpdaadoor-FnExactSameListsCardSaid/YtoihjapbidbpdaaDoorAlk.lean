/- The contract of spec.l17Alike. Conditions: a machine that fits. -/
import Derived.Test.YtoihjapbidbpdaaDoorRdM
import Derived.Test.YtoihjapbidbpdaaDoorCntM
import Derived.Test.YtoihjapbidbpdaaDoorMach
import Derived.Deep.QuietTactic
import Derived.BigQuiet
import Derived.Outline
import Derived.IntWalk
namespace Go.Proofs.YtoihjapbidbpdaaDoor
open Go.RowKit
set_option linter.unusedVariables false
/-- Natural numbers as integers. -/
def il (l : List Nat) : List Int := l.map fun (x : Nat) => (x : Int)
theorem len_il (l : List Nat) : (il l).length = l.length := by simp [il]
theorem getD_il (l : List Nat) (j : Nat) : (il l).getD j 0 = ((l.getD j 0 : Nat) : Int) := by
  unfold il
  rw [List.getD_eq_getElem?_getD, List.getD_eq_getElem?_getD, List.getElem?_map]
  cases l[j]? <;> rfl
theorem il_app (l : List Nat) (x : Nat) : il (l ++ [x]) = il l ++ [(x : Int)] := by simp [il]
/-- A machine that fits. -/
structure MC (xs : List Int) (bb n : Nat) : Prop where
  b2 : 2 ≤ bb
  b10 : bb ≤ 10
  n1 : 1 ≤ n
  n144 : n ≤ 144
  len : xs.length = n * bb
  rng : ∀ j, j < xs.length → 0 ≤ xs.getD j 0 ∧ xs.getD j 0 < n
theorem MC.le {xs : List Int} {bb n : Nat} (h : MC xs bb n) : xs.length ≤ 1440 := by
  rw [h.len]; exact Nat.mul_le_mul h.n144 h.b10
theorem MC.lt {xs : List Int} {bb n s t : Nat} (h : MC xs bb n) (hs : s < n) (ht : t < bb) : s * bb + t < xs.length := by
  have : (s + 1) * bb ≤ n * bb := Nat.mul_le_mul_right _ (by omega)
  rw [Nat.add_mul, Nat.one_mul] at this
  rw [h.len]; omega
theorem MC.at_ {xs : List Int} {bb n s t : Nat} (h : MC xs bb n) (hs : s < n) (ht : t < bb) : xs.getD (s * bb + t) 0 = ((nxt xs bb s t : Nat) : Int) ∧ nxt xs bb s t < n := by
  obtain ⟨a, b⟩ := h.rng _ (h.lt hs ht)
  unfold nxt
  omega
theorem RI.cells {w : World} {B : Nat} {A : Option Addr} {xs : List Int} (h : RI w B A xs) (hl : 1 ≤ xs.length) : ∃ b off, A = some ⟨b, off, none⟩ ∧ b < B ∧ ∀ j, j < xs.length → w.cell? ⟨b, off + j, none⟩ = some (.int .i64 (xs.getD j 0)) := by
  rcases h with h | h
  · rw [h] at hl; simp at hl
  · exact h
/-- Two states are alike. -/
theorem sgn_iff (xs : List Int) (bb : Nat) (cl : List Nat) (s r : Nat) : sgn xs bb cl s = sgn xs bb cl r ↔ cl.getD s 0 = cl.getD r 0 ∧ ∀ t, t < bb → cl.getD (nxt xs bb s t) 0 = cl.getD (nxt xs bb r t) 0 := by
  unfold sgn
  rw [List.cons.injEq]
  constructor
  · rintro ⟨a, b⟩
    refine ⟨a, fun t ht => ?_⟩
    have := congrArg (·[t]?) b
    simpa [ht] using this
  · rintro ⟨a, b⟩
    exact ⟨a, List.map_congr_left fun t ht => b t (List.mem_range.1 ht)⟩
theorem BM0.new (w : World) (b : Int) (vN vF : Value) : (w.alloc (.cells #[.int .i64 b, vN, vF] 28)).cell? ⟨w.heap.size, 0, none⟩ = some (.int .i64 b) ∧ (w.alloc (.cells #[.int .i64 b, vN, vF] 28)).cell? ⟨w.heap.size, 1, none⟩ = some vN := ⟨(BM.new w b vN vF).cell0, (BM.new w b vN vF).cell1⟩
set_option maxHeartbeats 4000000 in
theorem s_alike (bb n : Nat) (N F C : Option Addr) (xs : List Int) (cl : List Nat) (c d cc s r : Nat) (q : Bool) (w : World) (hM : MC xs bb n) (hN : RI w w.heap.size N xs) (hC : RI w w.heap.size C (il cl)) (hcl : cl.length = n) (hs : s < n) (hr : r < n) (hq : q = decide (sgn xs bb cl s = sgn xs bb cl r)) :
    Calls Tryd.prog 32 #[.agg #[.int .i64 (bb : Nat), .slice N xs.length c, .slice F n d], .slice C n cc, .int .i64 (s : Nat), .int .i64 (r : Nat)] w fun e w' => e = .returned (.bool q) ∧ Below w.heap.size w w' := by
  have hB : Below w.heap.size w (w.alloc (.cells #[.int .i64 (bb : Nat), .slice N xs.length c, .slice F n d] 28)) := b_alloc (Below.refl _ _) _
  obtain ⟨bN, oN, rfl, _, hcN⟩ := (hN.below hB).cells (by have := hM.len; have := hM.n1; have := hM.b2; have := Nat.mul_le_mul hM.n1 hM.b2; omega)
  obtain ⟨bC, oC, rfl, _, hcC⟩ := (hC.below hB).cells (by rw [len_il, hcl]; exact hM.n1)
  have hl := hM.le
  have hn := hM.n144
  have hb := hM.b10
  have HN := Lib.hid hcN
  have HC := Lib.hid (show ∀ j, j < n → (w.alloc (.cells #[.int .i64 (bb : Nat), .slice (some ⟨bN, oN, none⟩) xs.length c, .slice F n d] 28)).cell? ⟨bC, oC + j, none⟩ = some (.int .i64 ((cl.getD j 0 : Nat) : Int)) from fun j hj => by rw [hcC j (by rw [len_il, hcl]; exact hj), getD_il])
  have HM := Lib.hid hM
  have HQ := Lib.hid hq
  obtain ⟨a0, ha0⟩ : ∃ a, cl.getD s 0 = a := ⟨_, rfl⟩
  obtain ⟨b0, hb0⟩ : ∃ a, cl.getD r 0 = a := ⟨_, rfl⟩
  have k1 := HC.out s hs
  have k2 := HC.out r hr
  rw [ha0] at k1
  rw [hb0] at k2
  have HA := Lib.hid ha0
  have HB := Lib.hid hb0
  have s0 : (0 : Int) ≤ (s : Int) := by omega
  have s1 : (s : Int) < (n : Int) := by omega
  have r0 : (0 : Int) ≤ (r : Int) := by omega
  have r1 : (r : Int) < (n : Int) := by omega
  have m0 : (w.alloc (.cells #[.int .i64 (bb : Nat), .slice (some ⟨bN, oN, none⟩) xs.length c, .slice F n d] 28)).cell? ⟨w.heap.size, 0, none⟩ = some (.int .i64 (bb : Nat)) := (BM0.new _ _ _ _).1
  have m1 : (w.alloc (.cells #[.int .i64 (bb : Nat), .slice (some ⟨bN, oN, none⟩) xs.length c, .slice F n d] 28)).cell? ⟨w.heap.size, 1, none⟩ = some (.slice (some ⟨bN, oN, none⟩) xs.length c) := (BM0.new _ _ _ _).2
  clear hcN hcC hM hq ha0 hb0 hN hC hB hcl
  by_cases h0 : a0 = b0
  · have e0 : ((a0 : Int) != (b0 : Int)) = false := by simp [h0]
    go_enter Tryd.func32, Tryd.ntmps32
    go_wp2
    go_quiet (fail)
    go_wp2
    clear k1 k2
    go_loopw [9] (fun i wr => ∃ t nq : Nat, t ≤ bb ∧ i = .int .i64 t ∧ Hid (∀ u, u < t → cl.getD (nxt xs bb s u) 0 = cl.getD (nxt xs bb r u) 0) ∧ wr = (w.alloc (.cells #[.int .i64 (bb : Nat), .slice (some ⟨bN, oN, none⟩) xs.length c, .slice F n d] 28)).drewN nq) (fun i _ => bb - (intOf i).toNat)
    case atStart => exact ⟨0, _, Nat.zero_le _, rfl, fun u hu => by omega, rfl⟩
    case round =>
      obtain ⟨t, nw, ht, rfl, hH, rfl⟩ := hrel
      by_cases hlt : t < bb
      · have hi1 := HM.out.lt hs hlt
        have hi2 := HM.out.lt hr hlt
        obtain ⟨v1, v1n⟩ := HM.out.at_ hs hlt
        obtain ⟨v2, v2n⟩ := HM.out.at_ hr hlt
        have g1 := HN.out _ hi1
        have g2 := HN.out _ hi2
        rw [v1] at g1
        rw [v2] at g2
        obtain ⟨p1, hp1⟩ : ∃ p, nxt xs bb s t = p := ⟨_, rfl⟩
        obtain ⟨p2, hp2⟩ : ∃ p, nxt xs bb r t = p := ⟨_, rfl⟩
        have k1 := HC.out _ v1n
        have k2 := HC.out _ v2n
        obtain ⟨a1, ha1⟩ : ∃ a, cl.getD (nxt xs bb s t) 0 = a := ⟨_, rfl⟩
        obtain ⟨b1, hb1⟩ : ∃ a, cl.getD (nxt xs bb r t) 0 = a := ⟨_, rfl⟩
        rw [ha1] at k1
        rw [hb1] at k2
        have HA1 := Lib.hid ha1
        have HB1 := Lib.hid hb1
        rw [hp1] at g1 k1 v1n
        rw [hp2] at g2 k2 v2n
        obtain ⟨q1, hq1⟩ : ∃ z, s * bb = z := ⟨_, rfl⟩
        obtain ⟨q2, hq2⟩ : ∃ z, r * bb = z := ⟨_, rfl⟩
        have f1 : (s : Int) * (bb : Int) = (q1 : Int) := by rw [← hq1]; exact (Int.natCast_mul s bb).symm
        have f2 : (r : Int) * (bb : Int) = (q2 : Int) := by rw [← hq2]; exact (Int.natCast_mul r bb).symm
        rw [hq1] at g1 hi1
        rw [hq2] at g2 hi2
        have i1 : (q1 : Int) + (t : Int) < (xs.length : Int) := by omega
        have i2 : (q2 : Int) + (t : Int) < (xs.length : Int) := by omega
        have i3 : (p1 : Int) < (n : Int) := by omega
        have i4 : (p2 : Int) < (n : Int) := by omega
        have w1 : IntKind.i64.wrap (q1 : Int) = (q1 : Int) := IntWalk.i64_in _ (by omega)
        have w2 : IntKind.i64.wrap (q2 : Int) = (q2 : Int) := IntWalk.i64_in _ (by omega)
        have w3 : IntKind.i64.wrap ((q1 : Int) + (t : Int)) = (q1 : Int) + (t : Int) := IntWalk.i64_in _ (by omega)
        have w4 : IntKind.i64.wrap ((q2 : Int) + (t : Int)) = (q2 : Int) + (t : Int) := IntWalk.i64_in _ (by omega)
        have j1 : (0 : Int) ≤ (q1 : Int) + (t : Int) := by omega
        have j2 : (0 : Int) ≤ (q2 : Int) + (t : Int) := by omega
        have z1 : ((q1 : Int) + (t : Int)).toNat = q1 + t := by omega
        have z2 : ((q2 : Int) + (t : Int)).toNat = q2 + t := by omega
        have HH := hH
        clear hp1 hp2 hq1 hq2 v1 v2 ha1 hb1 hH
        by_cases h1 : a1 = b1
        · have e1 : ((a1 : Int) != (b1 : Int)) = false := by simp [h1]
          go_wp2
          go_quiet (fail)
          clear w1 w2 w3 w4 z1 z2 f1 f2
          go_wp2
          go_roundw
          case rel => exact ⟨t + 1, _, by omega, by go_num, fun u hu => by
              by_cases e : u = t
              · subst e; rw [HA1.out, HB1.out, h1]
              · exact HH.out u (by omega), rfl⟩
          case measure => simp [intOf]; omega
        · have e1 : ((a1 : Int) != (b1 : Int)) = true := by simp; omega
          have hF : q = false := by
            rw [HQ.out]; simp only [decide_eq_false_iff_not]; intro h
            have := ((sgn_iff xs bb cl s r).1 h).2 t hlt
            rw [HA1.out, HB1.out] at this; exact h1 this
          go_wp2
          go_quiet (fail)
          clear w1 w2 w3 w4 z1 z2 f1 f2
          go_wp2
          go_ret
          exact ⟨by rw [hF]; rfl, b_drewN (b_drewN (b_alloc (Below.refl _ _) _) _) _⟩
      · obtain rfl : t = bb := by omega
        have hT : q = true := by
          rw [HQ.out]; simp only [decide_eq_true_eq]
          exact (sgn_iff xs t cl s r).2 ⟨by rw [HA.out, HB.out, h0], fun u hu => hH.out u hu⟩
        go_wp2
        go_ret
        exact ⟨by rw [hT]; rfl, b_drewN (b_alloc (Below.refl _ _) _) _⟩
  · have e0 : ((a0 : Int) != (b0 : Int)) = true := by simp; omega
    have hF : q = false := by
      rw [HQ.out]; simp only [decide_eq_false_iff_not]; intro h
      have := ((sgn_iff xs bb cl s r).1 h).1
      rw [HA.out, HB.out] at this; exact h0 this
    go_enter Tryd.func32, Tryd.ntmps32
    go_wp2
    go_quiet (fail)
    go_wp2
    go_ret
    exact ⟨by rw [hF]; rfl, b_drewN (b_alloc (Below.refl _ _) _) _⟩
end Go.Proofs.YtoihjapbidbpdaaDoor
