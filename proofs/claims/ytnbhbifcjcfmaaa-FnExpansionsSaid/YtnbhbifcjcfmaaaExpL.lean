/- Contracts of expansionOk and l14List. Conditions: lengths of at most 2^20. -/
import Derived.Test.YtnbhbifcjcfmaaaExpR
import Derived.Test.YtnbhbifcjcfmaaaAllIn
import Derived.Outline
import Derived.Laws.AppendOwn
import Derived.IntWalk
namespace Go.Proofs.Ytnbhbifcjcfmaaa
open Go.RowKit
set_option linter.unusedVariables false

/-- Digits of an expansion. -/
def LP (b : Int) (xs ys : List Int) : Prop := baseB b = true ∧ xs.length + ys.length ≤ 9 ∧ allB 0 (b - 1) xs = true ∧ allB 0 (b - 1) ys = true
noncomputable def lpB (b : Int) (xs ys : List Int) : Bool := @decide (LP b xs ys) (Classical.propDecidable _)
theorem lpB_t {b : Int} {xs ys : List Int} (h : LP b xs ys) : lpB b xs ys = true := by unfold lpB; exact @decide_eq_true _ (Classical.propDecidable _) h
theorem lpB_f {b : Int} {xs ys : List Int} (h : ¬ LP b xs ys) : lpB b xs ys = false := by unfold lpB; exact @decide_eq_false _ (Classical.propDecidable _) h
theorem baseB_bd {b : Int} (h : baseB b = true) : 2 ≤ b ∧ b ≤ 16 := of_decide_eq_true h
theorem RI.cells {w : World} {B : Nat} {a : Addr} {ys : List Int} (h : RI w B (some a) ys) : ∀ j u, (ys.map (Value.int .i64))[j]? = some u → w.cell? (a.add j) = some u := by
  intro j u hu
  rcases h with rfl | ⟨b, off, hA, hb, hc⟩
  · simp at hu
  · injection hA with hA
    subst hA
    rw [List.getElem?_map] at hu
    by_cases hj : j < ys.length
    · rw [List.getElem?_eq_getElem hj] at hu
      simp at hu
      rw [addr_add, hc j hj, ← hu]
      simp [hj]
    · rw [List.getElem?_eq_none (by omega)] at hu
      simp at hu
theorem ints_one (ys : List Int) : ∀ u ∈ ys.map (Value.int .i64), u.oneCell' = true := by
  intro u hu
  obtain ⟨x, _, rfl⟩ := List.mem_map.1 hu
  rfl
theorem Row.cat {w1 : World} {B : Nat} {v1 : Value} {l ys : List Int} (h : w1.ownsRow B 3 1 v1 (l.length + ys.length) (l.map (Value.int .i64) ++ ys.map (Value.int .i64))) : Row w1 B v1 (l ++ ys) := by
  unfold Row; simpa using h

set_option maxHeartbeats 1000000 in
theorem i_lok (A C : Option Addr) (xs ys : List Int) (c1 c2 : Nat) (b : Int) (w : World) (hR : RI w w.heap.size A xs) (hS : RI w w.heap.size C ys) (hlx : xs.length ≤ 1048576) (hly : ys.length ≤ 1048576) :
    Calls Try.prog 43 #[.slice A xs.length c1, .slice C ys.length c2, .int .i64 b] w fun e w' => e = .returned (.bool (lpB b xs ys)) ∧ Below w.heap.size w w' := by
  cases hb : baseB b
  · have H := Lib.hid (lpB_f (b := b) (xs := xs) (ys := ys) fun hh => by rw [hh.1] at hb; cases hb)
    have HB := Lib.hid hb
    clear hb
    go_enter Try.func43, Try.ntmps43
    go_wp2_with fail
    refine (i_base b _).mono ?_
    rw [HB.out]
    rintro e w1 ⟨rfl, rfl⟩
    go_wp2
    go_ret
    exact ⟨by rw [H.out]; rfl, Below.refl _ _⟩
  · have HB := Lib.hid hb
    obtain ⟨b1, b2⟩ := baseB_bd hb
    by_cases h9 : xs.length + ys.length ≤ 9
    · cases hx : allB 0 (b - 1) xs
      · have H := Lib.hid (lpB_f (b := b) (xs := xs) (ys := ys) fun hh => by rw [hh.2.2.1] at hx; cases hx)
        have HX := Lib.hid hx
        clear hb hx
        go_enter Try.func43, Try.ntmps43
        go_wp2_with fail
        refine (i_base b _).mono ?_
        rw [HB.out]
        rintro e w1 ⟨rfl, rfl⟩
        go_wp2_with fail
        refine (allWithin_any A xs c1 _ _ _ hR (by omega)).mono ?_
        rw [HX.out]
        rintro e w1 ⟨rfl, hb1⟩
        go_wp2
        go_ret
        exact ⟨by rw [H.out]; rfl, hb1⟩
      · have H := Lib.hid (show lpB b xs ys = allB 0 (b - 1) ys by
          cases hy : allB 0 (b - 1) ys
          · exact lpB_f fun hh => by rw [hh.2.2.2] at hy; cases hy
          · exact lpB_t ⟨hb, h9, hx, hy⟩)
        have HX := Lib.hid hx
        clear hb hx
        go_enter Try.func43, Try.ntmps43
        go_wp2_with fail
        refine (i_base b _).mono ?_
        rw [HB.out]
        rintro e w1 ⟨rfl, rfl⟩
        go_wp2_with fail
        refine (allWithin_any A xs c1 _ _ _ hR (by omega)).mono ?_
        rw [HX.out]
        rintro e w1 ⟨rfl, hb1⟩
        have hS1 := (hS.below hb1).more hb1.size
        have HT := Lib.hid hb1
        clear hb1
        go_wp2_with fail
        refine (allWithin_any C ys c2 _ _ _ hS1 (by omega)).mono ?_
        rw [← H.out]
        rintro e w2 ⟨rfl, hb2⟩
        go_wp2
        go_ret
        exact ⟨rfl, b_step HT.out hb2⟩
    · have H := Lib.hid (lpB_f (b := b) (xs := xs) (ys := ys) fun hh => h9 hh.2.1)
      clear hb
      go_enter Try.func43, Try.ntmps43
      go_wp2_with fail
      refine (i_base b _).mono ?_
      rw [HB.out]
      rintro e w1 ⟨rfl, rfl⟩
      go_wp2
      go_ret
      exact ⟨by rw [H.out]; rfl, Below.refl _ _⟩

set_option maxHeartbeats 1000000 in
theorem s_cat (a1 a2 : Addr) (xs ys : List Int) (c1 c2 : Nat) (b : Int) (w : World) (hR : RI w w.heap.size (some a1) xs) (hS : RI w w.heap.size (some a2) ys) (h9 : xs.length + ys.length ≤ 9) (HB : Hid (baseB b = true)) (b1 : 2 ≤ b) (b2 : b ≤ 16) (H : Hid (lpB b xs ys = allB 0 (b - 1) (xs ++ ys))) :
    Calls Try.prog 48 #[.slice (some a1) xs.length c1, .slice (some a2) ys.length c2, .int .i64 b] w fun e w' => e = .returned (.bool (lpB b xs ys)) ∧ Below w.heap.size w w' := by
  obtain ⟨i0, hi, hz0, hz1, hz2⟩ := info_parts info_int
  have hO0 := Lib.hid (Row.made w)
  have hC1 := Lib.hid (RI.cells (hR.below (b_alloc (Below.refl w.heap.size w) (.cells #[] 3))))
  have HS := Lib.hid hS
  clear hR hS
  go_enter Try.func48, Try.ntmps48
  go_wp2_with fail
  refine (s_base b _).mono ?_
  rw [HB.out]
  rintro e w1 ⟨rfl, rfl⟩
  go_wp2_with (first | (at_builtin; refine wpList_append_own _ rfl (.tmp 20) (.tmp 21) 24 rfl w.heap.size 3 i0 (.int .i64 0) 1 8 Try.underlying24 hi hz0 hz1 hz2 rfl (by decide) _ _ _ rfl hO0.out a1 xs.length c1 (xs.map (Value.int .i64)) rfl (by simp) hC1.out (ints_one xs) (by simp only [maxLen, List.length_nil]; omega) (by simp only [List.length_nil]; omega) (by simp) ?_; intro v1 w1 hown1 hg1 _; have HO1 := Lib.hid (Row.cat (l := []) hown1); have HW1 := Lib.hid ((b_alloc (Below.refl w.heap.size w) (.cells #[] 3)).grown hg1 (by simp) (fun k hk => by cases hk; exact Nat.le_refl _)); clear hown1 hg1; have hC2 := RI.cells (HS.out.below HW1.out); clear hC1) | (at_builtin; refine wpList_append_own _ rfl (.tmp 22) (.tmp 23) 24 rfl w.heap.size 3 i0 (.int .i64 0) 1 8 Try.underlying24 hi hz0 hz1 hz2 rfl (by decide) _ _ _ rfl HO1.out a2 ys.length c2 (ys.map (Value.int .i64)) rfl (by simp) hC2 (ints_one ys) (by simp only [maxLen, List.nil_append]; omega) (by simp only [List.nil_append]; omega) HW1.out.size ?_; intro v2 w2 hown2 hg2 _; have HO2 := Lib.hid (Row.cat (l := [] ++ xs) hown2); have HW2 := Lib.hid (HW1.out.grown hg2 HW1.out.size (fun k hk => (World.ownsRow.lt HO1.out k hk).1)); clear hown2 hg2 hC2; obtain ⟨A2, cc2, hsh, hOI2, _⟩ := HO2.out.own; have HR2 := Lib.hid hOI2.reads; clear hOI2; subst hsh))
  have hall : ([] ++ xs ++ ys : List Int).length = xs.length + ys.length := by simp
  obtain ⟨L, hL⟩ : ∃ L, L = [] ++ xs ++ ys := ⟨_, rfl⟩
  have HLL := Lib.hid (show xs ++ ys = L by rw [hL]; rfl)
  rw [← hL] at HR2 hall
  have hl9 : L.length ≤ 9 := by omega
  have HLN := Lib.hid hall
  rw [HLL.out] at H
  clear hL hall
  go_loop [26] (fun i => ∃ k : Nat, k ≤ L.length ∧ i = .int .i64 k ∧ Hid (∀ j, j < k → 0 ≤ L.getD j 0 ∧ L.getD j 0 ≤ b - 1)) (fun i => L.length - (intOf i).toNat)
  case atStart => exact ⟨0, Nat.zero_le _, rfl, fun j hj => by omega⟩
  case round =>
    obtain ⟨k, hk, rfl, hall⟩ := hrel
    by_cases hlt : k < L.length
    · obtain ⟨b0, off, hA, hb0, hc⟩ := HR2.out.at_ hlt
      have q1 : (k : Int) < (xs.length : Int) + ys.length := by have := HLN.out; omega
      have q2 : k < xs.length + ys.length := by have := HLN.out; omega
      subst hA
      obtain ⟨d, hd⟩ : ∃ d, d = L.getD k 0 := ⟨_, rfl⟩
      rw [← hd] at hc
      have HX := Lib.hid hd
      clear hd
      by_cases h1 : 0 ≤ d ∧ d ≤ b - 1
      · obtain ⟨d1, d2⟩ := h1
        go_wp2_with (first | (go_at_call 57; refine (s_in_t _ _ _ _ ?_ ?_).mono ?_; omega; omega; rintro e w1 ⟨rfl, rfl⟩) | (go_at_call 57; refine (s_in_f _ _ _ _ ?_).mono ?_; omega; rintro e w1 ⟨rfl, rfl⟩))
        go_round
        case rel => exact ⟨k + 1, by omega, by go_num, fun j hj => by
          by_cases e : j = k
          · subst e; rw [← HX.out]; exact ⟨d1, d2⟩
          · exact hall.out j (by omega)⟩
        case measure => simp [intOf]; omega
      · have h1' : d < 0 ∨ b - 1 < d := by omega
        have HV := Lib.hid (show lpB b xs ys = false by rw [H.out]; exact allB_not hlt (by rw [← HX.out]; exact h1))
        clear h1
        go_wp2_with (first | (go_at_call 57; refine (s_in_t _ _ _ _ ?_ ?_).mono ?_; omega; omega; rintro e w1 ⟨rfl, rfl⟩) | (go_at_call 57; refine (s_in_f _ _ _ _ ?_).mono ?_; omega; rintro e w1 ⟨rfl, rfl⟩))
        go_ret
        exact ⟨by rw [HV.out]; rfl, HW2.out⟩
    · have HV := Lib.hid (show lpB b xs ys = true by rw [H.out]; exact allB_of fun j hj => hall.out j (by omega))
      have q1 : (xs.length : Int) + ys.length ≤ k := by have := HLN.out; omega
      have q2 : xs.length + ys.length ≤ k := by have := HLN.out; omega
      go_wp2
      go_ret
      exact ⟨by rw [HV.out]; rfl, HW2.out⟩


theorem allB_append (lo hi : Int) (xs ys : List Int) : allB lo hi (xs ++ ys) = (allB lo hi xs && allB lo hi ys) := by simp [allB]
set_option maxHeartbeats 1000000 in
theorem s_lok (a1 a2 : Addr) (xs ys : List Int) (c1 c2 : Nat) (b : Int) (w : World) (hR : RI w w.heap.size (some a1) xs) (hS : RI w w.heap.size (some a2) ys) (hlx : xs.length ≤ 1048576) (hly : ys.length ≤ 1048576) :
    Calls Try.prog 48 #[.slice (some a1) xs.length c1, .slice (some a2) ys.length c2, .int .i64 b] w fun e w' => e = .returned (.bool (lpB b xs ys)) ∧ Below w.heap.size w w' := by
  cases hb : baseB b
  · have H := Lib.hid (lpB_f (b := b) (xs := xs) (ys := ys) fun hh => by rw [hh.1] at hb; cases hb)
    have HB := Lib.hid hb
    clear hb
    go_enter Try.func48, Try.ntmps48
    go_wp2_with fail
    refine (s_base b _).mono ?_
    rw [HB.out]
    rintro e w1 ⟨rfl, rfl⟩
    go_wp2
    go_ret
    exact ⟨by rw [H.out]; rfl, Below.refl _ _⟩
  · by_cases h9 : xs.length + ys.length ≤ 9
    · obtain ⟨b1, b2⟩ := baseB_bd hb
      exact s_cat a1 a2 xs ys c1 c2 b w hR hS h9 hb b1 b2 (by
        unfold Hid
        rw [allB_append]
        cases hx : allB 0 (b - 1) xs
        · exact lpB_f fun hh => by rw [hh.2.2.1] at hx; cases hx
        · cases hy : allB 0 (b - 1) ys
          · exact lpB_f fun hh => by rw [hh.2.2.2] at hy; cases hy
          · exact lpB_t ⟨hb, h9, hx, hy⟩)
    · have H := Lib.hid (lpB_f (b := b) (xs := xs) (ys := ys) fun hh => h9 hh.2.1)
      have HB := Lib.hid hb
      clear hb
      go_enter Try.func48, Try.ntmps48
      go_wp2_with fail
      refine (s_base b _).mono ?_
      rw [HB.out]
      rintro e w1 ⟨rfl, rfl⟩
      go_wp2
      go_ret
      exact ⟨by rw [H.out]; rfl, Below.refl _ _⟩
end Go.Proofs.Ytnbhbifcjcfmaaa
