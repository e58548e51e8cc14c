/- Contracts of GaussOf and QuaterOf (program). Conditions: lengths of at most 2^20. -/
import Derived.Test.YthblbmihpgkanaaDoorGofI
import Derived.Deep.LoopGhost
import Derived.Outline
import Derived.RegionTactic
import Derived.StillTailTactics
namespace Go.Proofs.YthblbmihpgkanaaDoor
open Go.RowKit
set_option linter.unusedVariables false

theorem gB_mono {z : Int × Int} {n m : Nat} (h : gB z n) (hm : n ≤ m) : gB z m := by
  have h1 : 2 ^ n ≤ 2 ^ m := Nat.pow_le_pow_right (by omega) hm
  have e1 : ((2 ^ n : Nat) : Int) = 2 ^ n := by simp
  have e2 : ((2 ^ m : Nat) : Int) = 2 ^ m := by simp
  have e3 : (2 : Int) ^ n ≤ 2 ^ m := by omega
  unfold gB at *
  omega
theorem EndP.dig {m : Int} {xs : List Int} (h : EndP m xs) (hm : m ≤ 3) : ∀ x ∈ xs, 0 ≤ x ∧ x ≤ 3 := fun x hx => by have := allB_iff.1 h.2.2 x hx; omega
theorem EndP.one {m : Int} {xs : List Int} (h : EndP m xs) (hm : m ≤ 3) : ∀ q, q ≤ xs.length → gB (gv (-1) 1 (xs.drop q)) 40 := fun q hq =>
  gB_mono (gv_one fun x hx => h.dig hm x (List.mem_of_mem_drop hx)) (by have := h.1; rw [List.length_drop]; omega)
theorem EndP.two {m : Int} {xs : List Int} (h : EndP m xs) (hm : m ≤ 3) : ∀ q, q ≤ xs.length → gB (gv 0 2 (xs.drop q)) 40 := fun q hq =>
  gB_mono (gv_two fun x hx => h.dig hm x (List.mem_of_mem_drop hx)) (by have := h.1; rw [List.length_drop]; omega)
/-- What GaussOf and QuaterOf hand back. -/
def GoR (m u v : Int) (xs : List Int) (w : World) (e : Ending) (w' : World) : Prop :=
  e = .returned (.tuple #[.agg #[.int .i64 (goX m u v xs), .int .i64 (goY m u v xs)], .bool (goB m u v xs)]) ∧ Below w.heap.size w w'
theorem GoR.no {m u v : Int} {xs : List Int} {w w' : World} (h : ¬ GoP m u v xs) (hb : Below w.heap.size w w') : GoR m u v xs w (.returned (.tuple #[.agg #[.int .i64 0, .int .i64 0], .bool false])) w' :=
  ⟨by unfold goX goY; rw [goB_f h]; rfl, hb⟩
theorem GoR.yes {m u v : Int} {xs : List Int} {w w' : World} (h : GoP m u v xs) (hb : Below w.heap.size w w') : GoR m u v xs w (.returned (.tuple #[.agg #[.int .i64 (gv u v xs).1, .int .i64 (gv u v xs).2], .bool true])) w' :=
  ⟨by unfold goX goY; rw [goB_t h]; rfl, hb⟩
theorem BG.new0 (w : World) : BG (w.alloc (.cells #[.int .i64 0, .int .i64 0] 24)) w.heap.size 0 0 := BG.new w 0 0

set_option maxHeartbeats 2000000 in
theorem i_GaussOf (A : Option Addr) (xs : List Int) (c : Nat) (w : World) (hR : RI w w.heap.size A xs) (hlx : xs.length ≤ 1048576) :
    Calls Tryd.prog 7 #[.slice A xs.length c] w (GoR 1 (-1) 1 xs w) := by
  by_cases he : EndP 1 xs
  · have HE := Lib.hid (endB_t he)
    have h40 := he.1
    have HDg := Lib.hid (he.dig (by omega))
    have HGB := Lib.hid (he.one (by omega))
    by_cases hg : gok (gv (-1) 1 xs).1 (gv (-1) 1 xs).2
    · have HP := Lib.hid (show GoP 1 (-1) 1 xs from ⟨he, hg⟩)
      obtain ⟨h1, h2, h3, h4⟩ := hg
      obtain ⟨z, hz⟩ : ∃ z, z = gv (-1) 1 xs := ⟨_, rfl⟩
      rw [← hz] at h1 h2 h3 h4
      have HZ := Lib.hid hz
      clear he hz
      go_enter Tryd.func7, Tryd.ntmps7
      go_wp2_with fail
      refine (i_isEnd A xs c 1 _ ((hR.below (b_alloc (Below.refl w.heap.size w) _)).more (by simp)) (by omega)).mono ?_
      rw [HE.out]
      rintro e w1 ⟨rfl, hb1⟩
      have K := (BG.new0 w).below hb1 (BG.new0 w).lt
      have T1 := b_step (b_alloc (Below.refl _ _) _) hb1
      have hR1 := (hR.below T1).more T1.size
      have HK := Lib.hid K
      have HT1 := Lib.hid T1
      clear hb1 hR K T1
      go_wp2_with fail
      refine (i_gof A xs c (-1) 1 _ hR1 h40 (by omega) (by omega) (by omega) (by omega) HDg.out HGB.out).mono ?_
      rw [← HZ.out]
      rintro e w2 ⟨rfl, hb2⟩
      have HT2 := Lib.hid (b_step HT1.out hb2)
      have HK2 := Lib.hid (HK.out.below hb2 HK.out.lt)
      clear hb2 hR1 HK
      obtain ⟨X, Y⟩ := z
      dsimp only at h1 h2 h3 h4
      go_wp2_with fail
      refine (checked_ok X Y _ h1 h2 h3 h4).mono ?_
      rintro e w3 ⟨rfl, d1, d2, d3, rfl⟩
      have K3 := ((HK2.out.alloc (.cells d1 24)).alloc (.cells d2 24)).alloc (.cells d3 24)
      have c0 := K3.cell0
      have c1 := K3.cell1
      have fz := K3.frozen
      have lt := K3.lt
      have e0 := ((K3.set0 X).set1 Y).cell0
      have e1 := ((K3.set0 X).set1 Y).cell1
      have HXX := Lib.hid (show (gv (-1) 1 xs).1 = X by rw [← HZ.out])
      have HYY := Lib.hid (show (gv (-1) 1 xs).2 = Y by rw [← HZ.out])
      clear K3
      go_wp2
      refine bodyPost_ret (v := .tuple #[.agg #[.int .i64 X, .int .i64 Y], .bool true]) (by simp [results, Tryd.results7, go_sem, e0, e1]) rfl ?_
      have hh := GoR.yes HP.out (w := w) (b_set (b_set (b_alloc (b_alloc (b_alloc HT2.out (.cells d1 24)) (.cells d2 24)) (.cells d3 24)) (p := ⟨w.heap.size, 0, none⟩) (Nat.le_refl _) (.int .i64 X)) (p := ⟨w.heap.size, 1, none⟩) (Nat.le_refl _) (.int .i64 Y))
      rw [HXX.out, HYY.out] at hh
      exact hh
    · have HP := Lib.hid (show ¬ GoP 1 (-1) 1 xs from fun hh => hg hh.2)
      obtain ⟨z, hz⟩ : ∃ z, z = gv (-1) 1 xs := ⟨_, rfl⟩
      rw [← hz] at hg
      have HZ := Lib.hid hz
      obtain ⟨X, Y⟩ := z
      have HG := Lib.hid hg
      clear he hz hg
      go_enter Tryd.func7, Tryd.ntmps7
      go_wp2_with fail
      refine (i_isEnd A xs c 1 _ ((hR.below (b_alloc (Below.refl w.heap.size w) _)).more (by simp)) (by omega)).mono ?_
      rw [HE.out]
      rintro e w1 ⟨rfl, hb1⟩
      have K := (BG.new0 w).below hb1 (BG.new0 w).lt
      have T1 := b_step (b_alloc (Below.refl _ _) _) hb1
      have hR1 := (hR.below T1).more T1.size
      have HK := Lib.hid K
      have HT1 := Lib.hid T1
      clear hb1 hR K T1
      go_wp2_with fail
      refine (i_gof A xs c (-1) 1 _ hR1 h40 (by omega) (by omega) (by omega) (by omega) HDg.out HGB.out).mono ?_
      rw [← HZ.out]
      rintro e w2 ⟨rfl, hb2⟩
      have HT2 := Lib.hid (b_step HT1.out hb2)
      have HK2 := Lib.hid (HK.out.below hb2 HK.out.lt)
      clear hb2 hR1 HK
      go_wp2_with fail
      refine (checked_bad X Y _ HG.out).mono ?_
      rintro e w3 ⟨rfl, d1, d2, d3, rfl⟩
      have K3 := ((HK2.out.alloc (.cells d1 24)).alloc (.cells d2 24)).alloc (.cells d3 24)
      have c0 := K3.cell0
      have c1 := K3.cell1
      have fz := K3.frozen
      have lt := K3.lt
      have e0 := ((K3.set0 0).set1 0).cell0
      have e1 := ((K3.set0 0).set1 0).cell1
      clear K3
      go_wp2
      exact bodyPost_ret (v := .tuple #[.agg #[.int .i64 0, .int .i64 0], .bool false]) (by simp [results, Tryd.results7, go_sem, e0, e1]) rfl (GoR.no HP.out (b_set (b_set (b_alloc (b_alloc (b_alloc HT2.out _) _) _) (Nat.le_refl _) _) (Nat.le_refl _) _))
  · have HE := Lib.hid (endB_f he)
    have HP := Lib.hid (show ¬ GoP 1 (-1) 1 xs from fun hh => he hh.1)
    clear he
    go_enter Tryd.func7, Tryd.ntmps7
    go_wp2_with fail
    refine (i_isEnd A xs c 1 _ ((hR.below (b_alloc (Below.refl w.heap.size w) _)).more (by simp)) (by omega)).mono ?_
    rw [HE.out]
    rintro e w1 ⟨rfl, hb1⟩
    have K := (BG.new0 w).below hb1 (BG.new0 w).lt
    have T1 := b_step (b_alloc (Below.refl _ _) _) hb1
    have c0 := K.cell0
    have c1 := K.cell1
    have fz := K.frozen
    have lt := K.lt
    have e0 := ((K.set0 0).set1 0).cell0
    have e1 := ((K.set0 0).set1 0).cell1
    have HT1 := Lib.hid T1
    clear K hb1 T1 hR
    go_wp2
    exact bodyPost_ret (v := .tuple #[.agg #[.int .i64 0, .int .i64 0], .bool false]) (by simp [results, Tryd.results7, go_sem, e0, e1]) rfl (GoR.no HP.out (b_set (b_set HT1.out (Nat.le_refl _) _) (Nat.le_refl _) _))

set_option maxHeartbeats 2000000 in
theorem i_QuaterOf (A : Option Addr) (xs : List Int) (c : Nat) (w : World) (hR : RI w w.heap.size A xs) (hlx : xs.length ≤ 1048576) :
    Calls Tryd.prog 14 #[.slice A xs.length c] w (GoR 3 0 2 xs w) := by
  by_cases he : EndP 3 xs
  · have HE := Lib.hid (endB_t he)
    have h40 := he.1
    have HDg := Lib.hid (he.dig (by omega))
    have HGB := Lib.hid (he.two (by omega))
    by_cases hg : gok (gv 0 2 xs).1 (gv 0 2 xs).2
    · have HP := Lib.hid (show GoP 3 0 2 xs from ⟨he, hg⟩)
      obtain ⟨h1, h2, h3, h4⟩ := hg
      obtain ⟨z, hz⟩ : ∃ z, z = gv 0 2 xs := ⟨_, rfl⟩
      rw [← hz] at h1 h2 h3 h4
      have HZ := Lib.hid hz
      clear he hz
      go_enter Tryd.func14, Tryd.ntmps14
      go_wp2_with fail
      refine (i_isEnd A xs c 3 _ ((hR.below (b_alloc (Below.refl w.heap.size w) _)).more (by simp)) (by omega)).mono ?_
      rw [HE.out]
      rintro e w1 ⟨rfl, hb1⟩
      have K := (BG.new0 w).below hb1 (BG.new0 w).lt
      have T1 := b_step (b_alloc (Below.refl _ _) _) hb1
      have hR1 := (hR.below T1).more T1.size
      have HK := Lib.hid K
      have HT1 := Lib.hid T1
      clear hb1 hR K T1
      go_wp2_with fail
      refine (i_gof A xs c 0 2 _ hR1 h40 (by omega) (by omega) (by omega) (by omega) HDg.out HGB.out).mono ?_
      rw [← HZ.out]
      rintro e w2 ⟨rfl, hb2⟩
      have HT2 := Lib.hid (b_step HT1.out hb2)
      have HK2 := Lib.hid (HK.out.below hb2 HK.out.lt)
      clear hb2 hR1 HK
      obtain ⟨X, Y⟩ := z
      dsimp only at h1 h2 h3 h4
      go_wp2_with fail
      refine (checked_ok X Y _ h1 h2 h3 h4).mono ?_
      rintro e w3 ⟨rfl, d1, d2, d3, rfl⟩
      have K3 := ((HK2.out.alloc (.cells d1 24)).alloc (.cells d2 24)).alloc (.cells d3 24)
      have c0 := K3.cell0
      have c1 := K3.cell1
      have fz := K3.frozen
      have lt := K3.lt
      have e0 := ((K3.set0 X).set1 Y).cell0
      have e1 := ((K3.set0 X).set1 Y).cell1
      have HXX := Lib.hid (show (gv 0 2 xs).1 = X by rw [← HZ.out])
      have HYY := Lib.hid (show (gv 0 2 xs).2 = Y by rw [← HZ.out])
      clear K3
      go_wp2
      refine bodyPost_ret (v := .tuple #[.agg #[.int .i64 X, .int .i64 Y], .bool true]) (by simp [results, Tryd.results14, go_sem, e0, e1]) rfl ?_
      have hh := GoR.yes HP.out (w := w) (b_set (b_set (b_alloc (b_alloc (b_alloc HT2.out (.cells d1 24)) (.cells d2 24)) (.cells d3 24)) (p := ⟨w.heap.size, 0, none⟩) (Nat.le_refl _) (.int .i64 X)) (p := ⟨w.heap.size, 1, none⟩) (Nat.le_refl _) (.int .i64 Y))
      rw [HXX.out, HYY.out] at hh
      exact hh
    · have HP := Lib.hid (show ¬ GoP 3 0 2 xs from fun hh => hg hh.2)
      obtain ⟨z, hz⟩ : ∃ z, z = gv 0 2 xs := ⟨_, rfl⟩
      rw [← hz] at hg
      have HZ := Lib.hid hz
      obtain ⟨X, Y⟩ := z
      have HG := Lib.hid hg
      clear he hz hg
      go_enter Tryd.func14, Tryd.ntmps14
      go_wp2_with fail
      refine (i_isEnd A xs c 3 _ ((hR.below (b_alloc (Below.refl w.heap.size w) _)).more (by simp)) (by omega)).mono ?_
      rw [HE.out]
      rintro e w1 ⟨rfl, hb1⟩
      have K := (BG.new0 w).below hb1 (BG.new0 w).lt
      have T1 := b_step (b_alloc (Below.refl _ _) _) hb1
      have hR1 := (hR.below T1).more T1.size
      have HK := Lib.hid K
      have HT1 := Lib.hid T1
      clear hb1 hR K T1
      go_wp2_with fail
      refine (i_gof A xs c 0 2 _ hR1 h40 (by omega) (by omega) (by omega) (by omega) HDg.out HGB.out).mono ?_
      rw [← HZ.out]
      rintro e w2 ⟨rfl, hb2⟩
      have HT2 := Lib.hid (b_step HT1.out hb2)
      have HK2 := Lib.hid (HK.out.below hb2 HK.out.lt)
      clear hb2 hR1 HK
      go_wp2_with fail
      refine (checked_bad X Y _ HG.out).mono ?_
      rintro e w3 ⟨rfl, d1, d2, d3, rfl⟩
      have K3 := ((HK2.out.alloc (.cells d1 24)).alloc (.cells d2 24)).alloc (.cells d3 24)
      have c0 := K3.cell0
      have c1 := K3.cell1
      have fz := K3.frozen
      have lt := K3.lt
      have e0 := ((K3.set0 0).set1 0).cell0
      have e1 := ((K3.set0 0).set1 0).cell1
      clear K3
      go_wp2
      exact bodyPost_ret (v := .tuple #[.agg #[.int .i64 0, .int .i64 0], .bool false]) (by simp [results, Tryd.results14, go_sem, e0, e1]) rfl (GoR.no HP.out (b_set (b_set (b_alloc (b_alloc (b_alloc HT2.out _) _) _) (Nat.le_refl _) _) (Nat.le_refl _) _))
  · have HE := Lib.hid (endB_f he)
    have HP := Lib.hid (show ¬ GoP 3 0 2 xs from fun hh => he hh.1)
    clear he
    go_enter Tryd.func14, Tryd.ntmps14
    go_wp2_with fail
    refine (i_isEnd A xs c 3 _ ((hR.below (b_alloc (Below.refl w.heap.size w) _)).more (by simp)) (by omega)).mono ?_
    rw [HE.out]
    rintro e w1 ⟨rfl, hb1⟩
    have K := (BG.new0 w).below hb1 (BG.new0 w).lt
    have T1 := b_step (b_alloc (Below.refl _ _) _) hb1
    have c0 := K.cell0
    have c1 := K.cell1
    have fz := K.frozen
    have lt := K.lt
    have e0 := ((K.set0 0).set1 0).cell0
    have e1 := ((K.set0 0).set1 0).cell1
    have HT1 := Lib.hid T1
    clear K hb1 T1 hR
    go_wp2
    exact bodyPost_ret (v := .tuple #[.agg #[.int .i64 0, .int .i64 0], .bool false]) (by simp [results, Tryd.results14, go_sem, e0, e1]) rfl (GoR.no HP.out (b_set (b_set HT1.out (Nat.le_refl _) _) (Nat.le_refl _) _))
end Go.Proofs.YthblbmihpgkanaaDoor
