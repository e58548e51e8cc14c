/- Contract of impl.WithoutDigit. Conditions: none. -/
import Derived.Test.YtoihjapbidbpdaaMulS
namespace Go.Proofs.Ytoihjapbidbpdaa
open Go.RowKit
set_option linter.unusedVariables false

theorem if_iff {p q : Prop} [Decidable p] [Decidable q] (h : p ↔ q) (a b : Int) : (if p then a else b) = if q then a else b := by
  by_cases hp : p
  · rw [if_pos hp, if_pos (h.1 hp)]
  · rw [if_neg hp, if_neg (fun hq => hp (h.2 hq))]
theorem BB.setx {w : World} {g : Nat} {cs : Array Value} (h : BB w g cs) {p : Addr} (hp : p.block ≠ g) (u : Value) : BB (w.setCell p u) g cs :=
  (Below.heap_setCell w p u g (fun e => hp e.symm)).trans h
def woE (bb dd j : Nat) : Int := if j = dd ∨ bb ≤ j then 1 else 0
def woN (bb dd : Nat) : List Int := (List.range (2 * bb)).map (woE bb dd)
def woF : List Bool := [true, false]

/-- The states behind the first k digits are laid. -/
def woK (bb dd k j : Nat) : Int := if (j = dd ∧ j < k) ∨ (bb ≤ j ∧ j < bb + k) then 1 else 0
set_option maxHeartbeats 2000000 in
theorem impl_wo_t (bb dd : Nat) (w : World) (h1 : 2 ≤ bb) (h2 : bb ≤ 10) (h3 : dd < bb) :
    Calls Try.prog 18 #[.int .i64 (bb : Nat), .int .i64 (dd : Nat)] w (RetM w (bb : Nat) (woN bb dd) woF true) := by
  have hmkr := run_make_row' (P := Try.prog) 22 3 (.int .i64 0) 8 Try.underlying22 info_int rfl .i64 .i64 (2 * bb) (by omega) (by omega)
  rw [show ((2 * bb : Nat) : Int) = 2 * (bb : Int) by omega] at hmkr
  go_enter Try.func18, Try.ntmps18
  go_wp2_with (first | (go_at_call 24; refine (i_in_t _ _ _ _ ?_ ?_).mono ?_; omega; omega; rintro e w1 ⟨rfl, rfl⟩) | (go_at_call 24; refine (i_in_f _ _ _ _ ?_).mono ?_; omega; rintro e w1 ⟨rfl, rfl⟩))
  go_loopw [26] (fun i wr => ∃ (k : Nat) (cs : Array Value), k ≤ bb ∧ i = .int .i64 k ∧ BM wr (w.heap.size + 1 + 1 + 1) (bb : Nat) (.slice (some ⟨w.heap.size + 1, 0, none⟩) (2 * bb) (2 * bb)) (.slice (some ⟨w.heap.size + 1 + 1, 0, none⟩) 2 2) ∧ BM wr w.heap.size 0 (.slice none 0 0) (.slice none 0 0) ∧ BI wr (w.heap.size + 1) cs ∧ cs.size = 2 * bb ∧ (∀ j, j < 2 * bb → cs[j]? = some (.int .i64 (woK bb dd k j))) ∧ BB wr (w.heap.size + 1 + 1) #[.bool true, .bool false] ∧ Below w.heap.size w wr) (fun i _ => bb - (intOf i).toNat)
  case atStart =>
    refine ⟨0, madeCells #[.int .i64 0] (2 * bb), Nat.zero_le _, rfl, ?_, ?_, ?_, ?_, ?_, ?_, ?_⟩
    · simpa only [World.size_alloc] using BM.new (((w.alloc (.cells #[.int .i64 0, .slice none 0 0, .slice none 0 0] 25)).alloc (.cells (madeCells #[.int .i64 0] (2 * bb)) 3)).alloc (.cells #[.bool true, .bool false] 4)) (bb : Nat) (.slice (some ⟨w.heap.size + 1, 0, none⟩) (2 * bb) (2 * bb)) (.slice (some ⟨w.heap.size + 1 + 1, 0, none⟩) 2 2)
    · exact (((BM.new w _ _ _).below (b_alloc (Below.refl _ _) _) (by simp)).below (b_alloc (Below.refl _ _) _) (by first | (simp; done) | (simp; omega))).below (b_alloc (Below.refl _ _) _) (by first | (simp; done) | (simp; omega))
    · have h := BI.new (w.alloc (.cells #[.int .i64 0, .slice none 0 0, .slice none 0 0] 25)) (madeCells #[.int .i64 0] (2 * bb))
      simp only [World.size_alloc] at h
      exact (h.below (b_alloc (Below.refl _ _) _) (by simp)).below (b_alloc (Below.refl _ _) _) (by first | (simp; done) | (simp; omega))
    · simp [madeCells]
    · intro j hj
      have hz : woK bb dd 0 j = 0 := by unfold woK; rw [if_neg (by omega)]
      rw [hz]
      simp [madeCells, hj, Nat.mod_one]
    · have h := BB.new ((w.alloc (.cells #[.int .i64 0, .slice none 0 0, .slice none 0 0] 25)).alloc (.cells (madeCells #[.int .i64 0] (2 * bb)) 3)) #[.bool true, .bool false]
      simp only [World.size_alloc] at h
      exact h.below (b_alloc (Below.refl _ _) _) (by simp)
    · exact b_alloc (b_alloc (b_alloc (b_alloc (Below.refl _ _) _) _) _) _
  case round =>
    obtain ⟨k, cs, hk, rfl, g1, g2, g3, g4, g5, g6, g7⟩ := hrel
    rename World => wa
    have H1 := Lib.hid g1
    have H2 := Lib.hid g2
    have H3 := Lib.hid g3
    have HS := Lib.hid g4
    have HC := Lib.hid g5
    have HB := Lib.hid g6
    have HT := Lib.hid g7
    have hz := g7.size
    clear g1 g2 g3 g4 g5 g6 g7
    by_cases hlt : k < bb
    · have m1 := H1.out.cell1
      have c1 : wa.cell? ⟨w.heap.size + 1, bb + k, none⟩ = some (.int .i64 (woK bb dd k (bb + k))) := by rw [H3.out.cell]; exact HC.out _ (by omega)
      have f1 := H3.out.frozen (bb + k)
      have hz2 := H1.out.lt
      by_cases hd : k = dd
      · subst hd
        have c0 : wa.cell? ⟨w.heap.size + 1, k, none⟩ = some (.int .i64 (woK bb k k k)) := by rw [H3.out.cell]; exact HC.out _ (by omega)
        have f0 := H3.out.frozen k
        go_wp2_with fail
        go_roundw
        case rel =>
          refine ⟨k + 1, (cs.setIfInBounds k (.int .i64 1)).setIfInBounds (bb + k) (.int .i64 1), by omega, by go_num, (H1.out.setx (by simp) _).setx (by simp) _, (H2.out.setx (by simp) _).setx (by simp) _, (H3.out.set_ k _).set_ (bb + k) _, by simp [HS.out], ?_, (HB.out.setx (by simp) _).setx (by simp) _, b_set (b_set HT.out (by simp) _) (by simp) _⟩
          intro j hj
          have hsz := HS.out
          rw [Array.getElem?_setIfInBounds, Array.getElem?_setIfInBounds]
          by_cases e1 : bb + k = j
          · subst e1
            rw [if_pos rfl, if_pos (by simp; omega)]
            unfold woK; rw [if_pos (by omega)]
          · rw [if_neg e1]
            by_cases e2 : k = j
            · subst e2
              rw [if_pos rfl, if_pos (by omega)]
              unfold woK; rw [if_pos (by omega)]
            · rw [if_neg e2, HC.out j hj]
              unfold woK
              congr 2
              exact if_iff ⟨fun h => by omega, fun h => by omega⟩ _ _
        case measure => simp [intOf]; omega
      · have hd' : ((k : Int) == (dd : Int)) = false := by simp; omega
        go_wp2_with fail
        go_roundw
        case rel =>
          refine ⟨k + 1, cs.setIfInBounds (bb + k) (.int .i64 1), by omega, by go_num, H1.out.setx (by simp) _, H2.out.setx (by simp) _, H3.out.set_ (bb + k) _, by simp [HS.out], ?_, HB.out.setx (by simp) _, b_set HT.out (by simp) _⟩
          intro j hj
          have hsz := HS.out
          rw [Array.getElem?_setIfInBounds]
          by_cases e1 : bb + k = j
          · subst e1
            rw [if_pos rfl, if_pos (by omega)]
            unfold woK; rw [if_pos (by omega)]
          · rw [if_neg e1, HC.out j hj]
            unfold woK
            congr 2
            exact if_iff ⟨fun h => by omega, fun h => by omega⟩ _ _
        case measure => simp [intOf]; omega
    · obtain rfl : bb = k := by omega
      have m0 := H1.out.cell0
      have m1 := H1.out.cell1
      have m2 := H1.out.cell2
      have r0 := H2.out.cell0
      have r1 := H2.out.cell1
      have r2 := H2.out.cell2
      have f0 := fun i => H2.out.frozen i
      go_wp2_with fail
      have M1 := ((H2.out.set0 (bb : Nat)).set1 (.slice (some ⟨w.heap.size + 1, 0, none⟩) (2 * bb) (2 * bb))).set2 (.slice (some ⟨w.heap.size + 1 + 1, 0, none⟩) 2 2)
      have f0 := M1.cell0
      have f1 := M1.cell1
      have f2 := M1.cell2
      have hl : (woN bb dd).length = 2 * bb := by simp [woN]
      have hO : OI wa (w.heap.size + 1) (some ⟨w.heap.size + 1, 0, none⟩) (woN bb dd) := .inr ⟨_, 0, cs, rfl, Nat.le_refl _, H3.out, by
        intro j hj
        rw [hl] at hj
        rw [Nat.zero_add, HC.out j hj]
        congr 2
        have hg : (woN bb dd).getD j 0 = woE bb dd j := by unfold woN; rw [List.getD_eq_getElem?_getD, List.getElem?_map, List.getElem?_range hj]; rfl
        rw [hg]
        unfold woK woE
        exact if_iff ⟨fun h => by omega, fun h => by omega⟩ _ _⟩
      have hP : OB wa (w.heap.size + 1) (some ⟨w.heap.size + 1 + 1, 0, none⟩) woF := .inr ⟨_, 0, _, rfl, by omega, HB.out, by
        intro j hj
        have hj : j < 2 := hj
        match j, hj with
        | 0, _ => rfl
        | 1, _ => rfl⟩
      refine bodyPost_ret (v := .tuple #[.agg #[.int .i64 (bb : Nat), .slice (some ⟨w.heap.size + 1, 0, none⟩) (2 * bb) (2 * bb), .slice (some ⟨w.heap.size + 1 + 1, 0, none⟩) 2 2], .bool true]) (by simp [results, Try.results18, go_sem, f0, f1, f2]) rfl ⟨_, _, _, _, by rw [hl]; rfl, ?_, ?_, ?_⟩
      · exact (((hO.set_ (by simp) _).set_ (by simp) _).set_ (by simp) _).low (by omega)
      · exact (((hP.set_ (by simp) _).set_ (by simp) _).set_ (by simp) _).low (by omega)
      · exact b_set (b_set (b_set HT.out (by simp) _) (by simp) _) (by simp) _

def woG (b d : Int) : Prop := 2 ≤ b ∧ b ≤ 10 ∧ 0 ≤ d ∧ d ≤ b - 1
instance woGd (b k : Int) : Decidable (woG b k) := by unfold woG; infer_instance
def woB (b k : Int) : Int := if woG b k then b else 0
def woX (b k : Int) : List Int := if woG b k then woN b.toNat k.toNat else []
def woY (b k : Int) : List Bool := if woG b k then woF else []
def woQ (b k : Int) : Bool := decide (woG b k)
theorem wo_len (b k : Int) : (woX b k).length ≤ 20 ∧ (woY b k).length ≤ 2 := by
  unfold woX woY
  by_cases h : woG b k
  · rw [if_pos h, if_pos h]
    obtain ⟨h1, h2, h3, h4⟩ := h
    exact ⟨by simp [woN]; omega, by simp [woF]⟩
  · rw [if_neg h, if_neg h]; simp

set_option maxHeartbeats 1000000 in
theorem impl_wob (b d : Int) (w : World) (h : b < 2 ∨ 10 < b) :
    Calls Try.prog 18 #[.int .i64 b, .int .i64 d] w (RetM w 0 [] [] false) := by
  go_enter Try.func18, Try.ntmps18
  go_wp2_with (first | (go_at_call 24; refine (i_in_t _ _ _ _ ?_ ?_).mono ?_; omega; omega; rintro e w1 ⟨rfl, rfl⟩) | (go_at_call 24; refine (i_in_f _ _ _ _ ?_).mono ?_; omega; rintro e w1 ⟨rfl, rfl⟩))
  have M1 := BM.new w 0 (.slice none 0 0) (.slice none 0 0)
  exact bodyPost_ret (v := .tuple #[.agg #[.int .i64 0, .slice none 0 0, .slice none 0 0], .bool false]) (by simp [results, Try.results18, go_sem]) rfl ⟨none, none, 0, 0, rfl, .inl rfl, .inl rfl, by repeat (first | exact Below.refl _ _ | refine b_alloc ?_ _ | refine b_set ?_ (by simp) _)⟩

set_option maxHeartbeats 1000000 in
theorem impl_wod (b d : Int) (h1 : 2 ≤ b) (h2 : b ≤ 10) (w : World) (h : d < 0 ∨ b - 1 < d) :
    Calls Try.prog 18 #[.int .i64 b, .int .i64 d] w (RetM w 0 [] [] false) := by
  go_enter Try.func18, Try.ntmps18
  go_wp2_with (first | (go_at_call 24; refine (i_in_t _ _ _ _ ?_ ?_).mono ?_; omega; omega; rintro e w1 ⟨rfl, rfl⟩) | (go_at_call 24; refine (i_in_f _ _ _ _ ?_).mono ?_; omega; rintro e w1 ⟨rfl, rfl⟩))
  have M1 := BM.new w 0 (.slice none 0 0) (.slice none 0 0)
  exact bodyPost_ret (v := .tuple #[.agg #[.int .i64 0, .slice none 0 0, .slice none 0 0], .bool false]) (by simp [results, Try.results18, go_sem]) rfl ⟨none, none, 0, 0, rfl, .inl rfl, .inl rfl, by repeat (first | exact Below.refl _ _ | refine b_alloc ?_ _ | refine b_set ?_ (by simp) _)⟩

theorem impl_wo (b d : Int) (w : World) : Calls Try.prog 18 #[.int .i64 b, .int .i64 d] w (RetM w (woB b d) (woX b d) (woY b d) (woQ b d)) := by
  by_cases h1 : 2 ≤ b ∧ b ≤ 10
  · by_cases h2 : 0 ≤ d ∧ d ≤ b - 1
    · obtain ⟨bb, rfl⟩ := Int.eq_ofNat_of_zero_le (show 0 ≤ b by omega)
      obtain ⟨dd, rfl⟩ := Int.eq_ofNat_of_zero_le (show 0 ≤ d by omega)
      have hg : woG (bb : Nat) (dd : Nat) := ⟨h1.1, h1.2, h2.1, h2.2⟩
      unfold woB woX woY woQ
      rw [if_pos hg, if_pos hg, if_pos hg, decide_eq_true hg]
      simpa using impl_wo_t bb dd w (by omega) (by omega) (by omega)
    · have hg : ¬ woG b d := fun h => h2 ⟨h.2.2.1, h.2.2.2⟩
      unfold woB woX woY woQ
      rw [if_neg hg, if_neg hg, if_neg hg, decide_eq_false hg]
      exact impl_wod b d h1.1 h1.2 w (by omega)
  · have hg : ¬ woG b d := fun h => h1 ⟨h.1, h.2.1⟩
    unfold woB woX woY woQ
    rw [if_neg hg, if_neg hg, if_neg hg, decide_eq_false hg]
    exact impl_wob b d w (by omega)
end Go.Proofs.Ytoihjapbidbpdaa
