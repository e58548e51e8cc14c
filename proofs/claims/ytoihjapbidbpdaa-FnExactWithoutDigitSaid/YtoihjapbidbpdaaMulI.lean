/- Contract of impl.MultiplesOf. Conditions: none. -/
import Derived.Test.YtoihjapbidbpdaaMRow
namespace Go.Proofs.Ytoihjapbidbpdaa
open Go.RowKit
set_option linter.unusedVariables false

/-- The state behind digit number j. -/
def mulE (kk j : Nat) : Int := ((j % kk : Nat) : Int)
def mulN (bb kk s : Nat) : List Int := (List.range (s * bb)).map (mulE kk)
def mulF (s : Nat) : List Bool := (List.range s).map fun j => decide (j = 0)

set_option maxHeartbeats 2000000 in
theorem impl_mul_t (bb kk : Nat) (w : World) (h1 : 2 ≤ bb) (h2 : bb ≤ 10) (h3 : 1 ≤ kk) (h4 : kk ≤ 12) :
    Calls Try.prog 9 #[.int .i64 (bb : Nat), .int .i64 (kk : Nat)] w (RetM w (bb : Nat) (mulN bb kk kk) (mulF kk) true) := by
  obtain ⟨i0, hi, hz0, hz1, hz2⟩ := info_parts info_int
  obtain ⟨k0, ki, kz0, kz1, kz2⟩ := info_parts info_bool
  go_enter Try.func9, Try.ntmps9
  go_wp2_with (first | (go_at_call 24; refine (i_in_t _ _ _ _ ?_ ?_).mono ?_; omega; omega; rintro e w1 ⟨rfl, rfl⟩) | (go_at_call 24; refine (i_in_f _ _ _ _ ?_).mono ?_; omega; rintro e w1 ⟨rfl, rfl⟩))
  go_loopw [21] (fun i wr => ∃ (s : Nat) (vN vF : Value), s ≤ kk ∧ i = .int .i64 s ∧ BM wr (w.heap.size + 1) (bb : Nat) vN vF ∧ BM wr w.heap.size 0 (.slice none 0 0) (.slice none 0 0) ∧ Row wr (w.heap.size + 1 + 1) vN (mulN bb kk s) ∧ RowB wr (w.heap.size + 1 + 1) vF (mulF s) ∧ Below w.heap.size w wr) (fun i _ => kk - (intOf i).toNat)
  case atStart => 
    refine ⟨0, .slice none 0 0, .slice none 0 0, Nat.zero_le _, rfl, ?_, ?_, by simpa [mulN] using Row.nil _ _, World.ownsRow_nil _ _ _ _, ?_⟩
    · simpa only [World.size_alloc] using BM.new (w.alloc (.cells #[.int .i64 0, .slice none 0 0, .slice none 0 0] 25)) (bb : Nat) (.slice none 0 0) (.slice none 0 0)
    · exact (BM.new w _ _ _).below (b_alloc (Below.refl _ _) _) (by simp)
    · exact b_alloc (b_alloc (Below.refl _ _) _) _
  case round =>
    obtain ⟨s, vN, vF, hs', rfl, g1, g2, g3, g4, g5⟩ := hrel
    rename World => wa
    have H1 := Lib.hid g1
    have H2 := Lib.hid g2
    have H3 := Lib.hid g3
    have H4 := Lib.hid g4
    have HT := Lib.hid g5
    have hz := g5.size
    clear g1 g2 g3 g4 g5
    by_cases hs : s < kk
    · go_wp2_with fail
      go_loopw [25] (fun i wr2 => ∃ (t : Nat) (vN2 : Value), t ≤ bb ∧ i = .int .i64 t ∧ BM wr2 (w.heap.size + 1) (bb : Nat) vN2 vF ∧ BM wr2 w.heap.size 0 (.slice none 0 0) (.slice none 0 0) ∧ Row wr2 (w.heap.size + 1 + 1) vN2 ((List.range (s * bb + t)).map (mulE kk)) ∧ RowB wr2 (w.heap.size + 1 + 1) vF (mulF s) ∧ Below w.heap.size w wr2) (fun i _ => bb - (intOf i).toNat)
      case atStart => exact ⟨0, vN, Nat.zero_le _, rfl, H1.out, H2.out, H3.out, H4.out, HT.out⟩
      case round =>
        obtain ⟨t, vN2, ht', rfl, g1, g2, g3, g4, g5⟩ := hrel
        rename World => wb
        clear H1 H2 H3 H4 HT hz
        have H1 := Lib.hid g1
        have H2 := Lib.hid g2
        have H3 := Lib.hid g3
        have H4 := Lib.hid g4
        have HT := Lib.hid g5
        have hz := g5.size
        have hw0 : w.heap.size + 1 < wb.heap.size := g1.lt
        clear g1 g2 g3 g4 g5
        by_cases ht : t < bb
        · have m0 := H1.out.cell0
          have m1 := H1.out.cell1
          have p0 : s * bb ≤ 12 * 10 := Nat.mul_le_mul (by omega) h2
          obtain ⟨p, hp⟩ : ∃ p, p = s * bb := ⟨_, rfl⟩
          rw [← hp] at p0
          obtain ⟨r, hr⟩ : ∃ r, r = (p + t) % kk := ⟨_, rfl⟩
          have q1 : (s : Int) * (bb : Int) = (p : Int) := by rw [hp]; exact (Int.natCast_mul s bb).symm
          have q2 : IntKind.i64.wrap (p : Int) = (p : Int) := by rw [IntKind.wrap_i64]; omega
          have q3 : IntKind.i64.wrap ((p : Int) + (t : Int)) = (p : Int) + t := by rw [IntKind.wrap_i64]; omega
          have q4 : Int.tmod ((p : Int) + (t : Int)) (kk : Int) = (r : Int) := by rw [hr, ← Int.natCast_add]; exact (Int.ofNat_tmod _ kk).symm
          have q5 : ((kk : Int) == 0) = false := by simp; omega
          have q6 : ¬ ((kk : Int) = 0) := by omega
          have q7 : ¬ (kk = 0) := by omega
          have q8 : IntKind.i64.wrap (r : Int) = (r : Int) := by have := Nat.mod_lt (p + t) (show 0 < kk by omega); rw [IntKind.wrap_i64]; omega
          have HPv := Lib.hid hp
          have HRv := Lib.hid hr
          have hl : ((List.range (s * bb + t)).map (mulE kk)).length ≤ 1000 := by simp; omega
          have f1 := H1.out.frozen 1
          have HB0 : Hid (BM (wb.alloc (.cells #[.int .i64 (r : Nat)] 3)) (w.heap.size + 1) (bb : Nat) vN2 vF) := Lib.hid (H1.out.below (b_alloc (Below.refl _ _) _) H1.out.lt)
          clear hp hr
          go_wp2_with fail
          go_region_law ((refine step_append_lies _ (by rfl) _ _ _ (by rfl) (w.heap.size + 1 + 1) 3 i0 _ 1 8 Try.underlying22 hi hz0 hz1 hz2 rfl (by decide) vN2 _ _ (by rfl) ((World.ownsRow.alloc H3.out _).drew) ⟨wb.heap.size, 0, none⟩ 1 1 [.int .i64 (r : Nat)] (by rfl) (by rfl) (World.news_of_block (cs := #[.int .i64 (r : Nat)]) (t := 3) (fr := (0, 0)) (heap_alloc_new wb _)) (by simp [Value.oneCell']) (by omega) (by unfold maxLen; omega) (by omega) (by simp; omega) (wb.heap.size + 1) (by simp) ?_; intro gg cap wn hown1 hgrow hat hlt; have B1 : BM wn (w.heap.size + 1) (bb : Nat) vN2 vF := (hgrow.block _ HB0.out.lt (H3.out.lo (Nat.lt_succ_self _))).trans HB0.out; have s1 := B1.cell1; have s2 := B1.frozen 1; have HB1 := Lib.hid B1; have HG1 := Lib.hid hgrow; have HO1 := Lib.hid hown1; clear B1 hown1))
          all_goals (
            have hz3 := hz
            obtain ⟨k1, k2, k3, k4, k5⟩ := app_step (w := w) (R := w.heap.size) (n := s * bb + t + 1) (by omega) (by omega) (Nat.le_refl _) (by omega) (by omega) H1.out H2.out H3.out H4.out HT.out (b_drew (b_alloc (Below.refl _ _) _)) HG1.out HO1.out (by simp)
            have K1 := Lib.hid k1
            have K2 := Lib.hid k2
            have K3 := Lib.hid k3
            have K4 := Lib.hid k4
            have K5 := Lib.hid k5
            clear k1 k2 k3 k4 k5
            go_wp2_with fail
            go_roundw
            case rel => exact ⟨t + 1, _, by omega, by go_num, K1.out, K2.out, by rw [← Nat.add_assoc, List.range_succ, List.map_append]; simpa [mulE, ← HPv.out, ← HRv.out] using K3.out, K4.out, K5.out⟩
            case measure => simp [intOf]; omega)
        · obtain rfl : bb = t := by omega
          have m0 := H1.out.cell0
          have m2 := H1.out.cell2
          have f2 := H1.out.frozen 2
          have hl : (mulF s).length ≤ 1000 := by simp [mulF]; omega
          obtain ⟨q, hq⟩ : ∃ q, ((s : Int) == 0) = q := ⟨_, rfl⟩
          have HQ := Lib.hid hq
          have HQ2 : Hid (decide (s = 0) = q) := Lib.hid (by rw [← hq, Bool.eq_iff_iff]; simp)
          have hw1 : w.heap.size + 1 + 1 ≤ wb.heap.size := by omega
          go_wp2_with (first | (at_builtin; refine wpList_append_own _ rfl _ _ 23 rfl (w.heap.size + 1 + 1) 4 k0 (.bool false) 1 1 Try.underlying23 ki kz0 kz1 kz2 rfl (by decide) _ _ _ rfl (World.ownsRow.alloc H4.out _) ⟨wb.heap.size, 0, none⟩ 1 1 [.bool q] rfl rfl (cell_one_new _ _ _) ?c1 ?c2 ?c3 ?c4 ?_))
          case c1 => first | rfl | (intro u hu; simp at hu; subst hu; rfl)
          case c2 => unfold maxLen; omega
          case c3 => omega
          case c4 => first | omega | (simp; omega)
          intro v1 wn hown1 hgrow _
          obtain ⟨A1, C1, hv1⟩ := (RowB.app hown1).shape
          obtain ⟨n1, hn1⟩ : ∃ n1, n1 = (mulF s ++ [q]).length := ⟨_, rfl⟩
          rw [← hn1] at hv1
          clear hn1
          subst hv1
          have B1 : BM wn (w.heap.size + 1) (bb : Nat) vN2 vF := (hgrow.block _ (H1.out.below (b_alloc (Below.refl wb.heap.size wb) (.cells #[.bool q] 4)) H1.out.lt).lt (H4.out.lo (Nat.lt_succ_self _))).trans (H1.out.below (b_alloc (Below.refl wb.heap.size wb) (.cells #[.bool q] 4)) H1.out.lt)
          have s1 := B1.cell2
          have s2 := B1.frozen 2
          have hz3 := hz
          obtain ⟨k1, k2, k3, k4, k5⟩ := app_stepB (w := w) (R := w.heap.size) (by omega) (by omega) (Nat.le_refl _) (by omega) (by omega) H1.out H2.out H3.out H4.out HT.out (b_alloc (Below.refl _ _) _) hgrow hown1
          have K1 := Lib.hid k1
          have K2 := Lib.hid k2
          have K3 := Lib.hid k3
          have K4 := Lib.hid k4
          have K5 := Lib.hid k5
          clear k1 k2 k3 k4 k5 hown1 hgrow B1 m0 m2 f2
          go_wp2_with fail
          go_roundw
          case rel => exact ⟨s + 1, _, _, by omega, by go_num, K1.out, K2.out, by simpa [mulN, Nat.add_mul] using K3.out, by have k := K4.out; rw [← HQ2.out] at k; rw [mulF, List.range_succ, List.map_append]; simpa [mulF] using k, K5.out⟩
          case measure => simp [intOf]; omega
    · obtain rfl : kk = s := by omega
      obtain ⟨A1, C1, e1⟩ := H3.out.shape
      obtain ⟨A2, C2, e2⟩ := H4.out.shape
      obtain ⟨n1, hn1⟩ : ∃ n1, n1 = (mulN bb kk kk).length := ⟨_, rfl⟩
      obtain ⟨n2, hn2⟩ : ∃ n2, n2 = (mulF kk).length := ⟨_, rfl⟩
      rw [← hn1] at e1
      rw [← hn2] at e2
      subst e1 e2
      have HN1 := Lib.hid hn1
      have HN2 := Lib.hid hn2
      clear hn1 hn2
      have m0 := H1.out.cell0
      have m1 := H1.out.cell1
      have m2 := H1.out.cell2
      have r0 := H2.out.cell0
      have r1 := H2.out.cell1
      have r2 := H2.out.cell2
      have f0 := fun i => H2.out.frozen i
      go_wp2_with fail
      have M1 := ((H2.out.set0 (bb : Nat)).set1 (.slice A1 n1 C1)).set2 (.slice A2 n2 C2)
      have f0 := M1.cell0
      have f1 := M1.cell1
      have f2 := M1.cell2
      have hO : OI wa (w.heap.size + 1 + 1) A1 (mulN bb kk kk) := (OI.of_own (n := n1) (by have h := H3.out; unfold Row at h; rw [HN1.out]; rw [HN1.out] at h; exact h)).2
      have hP : OB wa (w.heap.size + 1 + 1) A2 (mulF kk) := (OB.of_own (n := n2) (by have h := H4.out; unfold RowB at h; rw [HN2.out]; rw [HN2.out] at h; exact h)).2
      refine bodyPost_ret (v := .tuple #[.agg #[.int .i64 (bb : Nat), .slice A1 n1 C1, .slice A2 n2 C2], .bool true]) (by simp [results, Try.results9, go_sem, f0, f1, f2]) rfl ⟨A1, A2, C1, C2, by rw [HN1.out, HN2.out], ?_, ?_, ?_⟩
      · exact (((hO.set_ (by simp; omega) _).set_ (by simp; omega) _).set_ (by simp; omega) _).low (by omega)
      · exact (((hP.set_ (by simp; omega) _).set_ (by simp; omega) _).set_ (by simp; omega) _).low (by omega)
      · exact b_set (b_set (b_set HT.out (by simp) _) (by simp) _) (by simp) _

def mulG (b k : Int) : Prop := 2 ≤ b ∧ b ≤ 10 ∧ 1 ≤ k ∧ k ≤ 12
instance mulGd (b k : Int) : Decidable (mulG b k) := by unfold mulG; infer_instance
def mulB (b k : Int) : Int := if mulG b k then b else 0
def mulX (b k : Int) : List Int := if mulG b k then mulN b.toNat k.toNat k.toNat else []
def mulY (b k : Int) : List Bool := if mulG b k then mulF k.toNat else []
def mulQ (b k : Int) : Bool := decide (mulG b k)
theorem mul_len (b k : Int) : (mulX b k).length ≤ 120 ∧ (mulY b k).length ≤ 12 := by
  unfold mulX mulY
  by_cases h : mulG b k
  · rw [if_pos h, if_pos h]
    obtain ⟨h1, h2, h3, h4⟩ := h
    have : k.toNat * b.toNat ≤ 12 * 10 := Nat.mul_le_mul (by omega) (by omega)
    exact ⟨by simp [mulN]; omega, by simp [mulF]; omega⟩
  · rw [if_neg h, if_neg h]; simp

set_option maxHeartbeats 1000000 in
theorem impl_mulb (b k : Int) (w : World) (h : b < 2 ∨ 10 < b) :
    Calls Try.prog 9 #[.int .i64 b, .int .i64 k] w (RetM w 0 [] [] false) := by
  go_enter Try.func9, Try.ntmps9
  go_wp2_with (first | (go_at_call 24; refine (i_in_t _ _ _ _ ?_ ?_).mono ?_; omega; omega; rintro e w1 ⟨rfl, rfl⟩) | (go_at_call 24; refine (i_in_f _ _ _ _ ?_).mono ?_; omega; rintro e w1 ⟨rfl, rfl⟩))
  have M1 := BM.new w 0 (.slice none 0 0) (.slice none 0 0)
  exact bodyPost_ret (v := .tuple #[.agg #[.int .i64 0, .slice none 0 0, .slice none 0 0], .bool false]) (by simp [results, Try.results9, go_sem]) rfl ⟨none, none, 0, 0, rfl, .inl rfl, .inl rfl, by repeat (first | exact Below.refl _ _ | refine b_alloc ?_ _ | refine b_set ?_ (by simp) _)⟩

set_option maxHeartbeats 1000000 in
theorem impl_mulk (b k : Int) (w : World) (h1 : 2 ≤ b) (h2 : b ≤ 10) (h : k < 1 ∨ 12 < k) :
    Calls Try.prog 9 #[.int .i64 b, .int .i64 k] w (RetM w 0 [] [] false) := by
  go_enter Try.func9, Try.ntmps9
  go_wp2_with (first | (go_at_call 24; refine (i_in_t _ _ _ _ ?_ ?_).mono ?_; omega; omega; rintro e w1 ⟨rfl, rfl⟩) | (go_at_call 24; refine (i_in_f _ _ _ _ ?_).mono ?_; omega; rintro e w1 ⟨rfl, rfl⟩))
  have M1 := BM.new w 0 (.slice none 0 0) (.slice none 0 0)
  exact bodyPost_ret (v := .tuple #[.agg #[.int .i64 0, .slice none 0 0, .slice none 0 0], .bool false]) (by simp [results, Try.results9, go_sem]) rfl ⟨none, none, 0, 0, rfl, .inl rfl, .inl rfl, by repeat (first | exact Below.refl _ _ | refine b_alloc ?_ _ | refine b_set ?_ (by simp) _)⟩

/-- The answer. -/
theorem impl_mul (b k : Int) (w : World) : Calls Try.prog 9 #[.int .i64 b, .int .i64 k] w (RetM w (mulB b k) (mulX b k) (mulY b k) (mulQ b k)) := by
  by_cases h1 : 2 ≤ b ∧ b ≤ 10
  · by_cases h2 : 1 ≤ k ∧ k ≤ 12
    · obtain ⟨bb, rfl⟩ := Int.eq_ofNat_of_zero_le (show 0 ≤ b by omega)
      obtain ⟨kk, rfl⟩ := Int.eq_ofNat_of_zero_le (show 0 ≤ k by omega)
      have hg : mulG (bb : Nat) (kk : Nat) := ⟨h1.1, h1.2, h2.1, h2.2⟩
      unfold mulB mulX mulY mulQ
      rw [if_pos hg, if_pos hg, if_pos hg, decide_eq_true hg]
      simpa using impl_mul_t bb kk w (by omega) (by omega) (by omega) (by omega)
    · have hg : ¬ mulG b k := fun h => h2 ⟨h.2.2.1, h.2.2.2⟩
      unfold mulB mulX mulY mulQ
      rw [if_neg hg, if_neg hg, if_neg hg, decide_eq_false hg]
      exact impl_mulk b k w h1.1 h1.2 (by omega)
  · have hg : ¬ mulG b k := fun h => h1 ⟨h.1, h.2.1⟩
    unfold mulB mulX mulY mulQ
    rw [if_neg hg, if_neg hg, if_neg hg, decide_eq_false hg]
    exact impl_mulb b k w (by omega)
end Go.Proofs.Ytoihjapbidbpdaa
