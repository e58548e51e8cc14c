/- Contracts of l18Ok, isFactor and CarriesOf (program and reference). Conditions: lengths of at most 2^32. -/
import Derived.Test.YtpjdmapfnojhnaaDigOk
import Derived.Test.YtpjdmapfnojhnaaDigs
import Derived.Test.YtpjdmapfnojhnaaTimes
namespace Go.Proofs.Ytpjdmapfnojhnaa
open Go.RowKit
set_option linter.unusedVariables false

/-- The carries of a multiplication by k. -/
def carL (b k : Int) : Int → List Int → List Int
  | _, [] => []
  | c, d :: t => (d * k + c) / b :: carL b k ((d * k + c) / b) t
theorem carL_drop {b k c : Int} {xs : List Int} {j : Nat} (h : j < xs.length) : carL b k c (xs.drop j) = (xs.getD j 0 * k + c) / b :: carL b k ((xs.getD j 0 * k + c) / b) (xs.drop (j + 1)) := by
  rw [List.drop_eq_getElem_cons h, List.getD_eq_getElem?_getD, List.getElem?_eq_getElem h, Option.getD_some]; rfl
theorem length_carL (b k : Int) : ∀ (xs : List Int) (c : Int), (carL b k c xs).length = xs.length
  | [], _ => rfl
  | x :: xs, c => by simp [carL, length_carL b k xs]
/-- The factor's condition. -/
def CarP (b k : Int) (xs : List Int) : Prop := DigP b xs ∧ 1 ≤ k ∧ k ≤ 16
noncomputable def carR (b k : Int) (xs : List Int) : List Int := @ite (List Int) (CarP b k xs) (Classical.propDecidable _) (carL b k 0 xs) []
theorem carR_t {b k : Int} {xs : List Int} (h : CarP b k xs) : carR b k xs = carL b k 0 xs := by unfold carR; rw [if_pos h]
theorem carR_f {b k : Int} {xs : List Int} (h : ¬ CarP b k xs) : carR b k xs = [] := by unfold carR; rw [if_neg h]
theorem length_carR (b k : Int) (xs : List Int) : (carR b k xs).length ≤ xs.length := by
  by_cases h : CarP b k xs
  · rw [carR_t h, length_carL]; exact Nat.le_refl _
  · rw [carR_f h]; exact Nat.zero_le _
theorem DigP.bd {b : Int} {xs : List Int} (h : DigP b xs) {j : Nat} (hj : j < xs.length) : 0 ≤ xs.getD j 0 ∧ xs.getD j 0 ≤ b - 1 := allB_iff.1 h.2.2.2.1 _ (getD_mem hj)
theorem car_bd {b k c d : Int} (h1 : 2 ≤ b) (h3 : 1 ≤ k) (h5 : 0 ≤ c) (h6 : c ≤ k - 1) (h7 : 0 ≤ d) (h8 : d ≤ b - 1) : 0 ≤ (d * k + c) / b ∧ (d * k + c) / b ≤ k - 1 := by
  have hp0 : 0 ≤ d * k := Int.mul_nonneg h7 (by omega)
  refine ⟨Int.ediv_nonneg (by omega) (by omega), ?_⟩
  have hp1 : d * k ≤ (b - 1) * k := Int.mul_le_mul_of_nonneg_right h8 (by omega)
  have hp2 : (b - 1) * k = k * b - k := by rw [Int.sub_mul, Int.one_mul, Int.mul_comm]
  have : (d * k + c) / b < k := Int.ediv_lt_of_lt_mul (by omega) (by omega)
  omega
theorem mul_bd240 {k d : Int} (h3 : 1 ≤ k) (h4 : k ≤ 16) (h7 : 0 ≤ d) (h8 : d ≤ 15) : 0 ≤ d * k ∧ d * k ≤ 240 :=
  ⟨Int.mul_nonneg h7 (by omega), Int.le_trans (Int.mul_le_mul h8 h4 (by omega) (by omega)) (by omega)⟩
theorem RetL.nil (w w' : World) (hb : Below w.heap.size w w') : RetL w [] (.returned (.slice none 0 0)) w' := ⟨none, 0, rfl, .inl rfl, hb⟩

theorem s_factor (b k : Int) (A : Option Addr) (xs : List Int) (c : Nat) (w : World) (hR : RI w w.heap.size A xs) (hl : xs.length ≤ 4294967296) (t : Bool) (ht : t = true ↔ CarP b k xs) :
    Calls Try.prog 45 #[.slice A xs.length c, .int .i64 b, .int .i64 k] w fun e w' => e = .returned (.bool t) ∧ Below w.heap.size w w' := by
  by_cases hd : DigP b xs
  · have HD := Lib.hid (digB_t hd)
    by_cases hk : 1 ≤ k ∧ k ≤ 16
    · have HT := Lib.hid (ht.2 ⟨hd, hk⟩)
      obtain ⟨k1, k2⟩ := hk
      clear ht hd
      go_enter Try.func45, Try.ntmps45
      go_wp2_with (first | (go_at_call 59; refine (s_digOk A xs c b _ hR hl).mono ?_; rw [HD.out]; rintro e w1 ⟨rfl, hb1⟩) | (go_at_call 38; refine (s_in_t _ _ _ _ ?_ ?_).mono ?_; omega; omega; rintro e w1 ⟨rfl, rfl⟩) | (go_at_call 38; refine (s_in_f _ _ _ _ ?_).mono ?_; omega; rintro e w1 ⟨rfl, rfl⟩))
      go_ret
      exact ⟨by rw [HT.out]; rfl, hb1⟩
    · have HT := Lib.hid (show t = false by rw [Bool.eq_false_iff]; exact fun hh => hk (ht.1 hh).2)
      have hk' : k < 1 ∨ 16 < k := by omega
      clear ht hd hk
      go_enter Try.func45, Try.ntmps45
      go_wp2_with (first | (go_at_call 59; refine (s_digOk A xs c b _ hR hl).mono ?_; rw [HD.out]; rintro e w1 ⟨rfl, hb1⟩) | (go_at_call 38; refine (s_in_t _ _ _ _ ?_ ?_).mono ?_; omega; omega; rintro e w1 ⟨rfl, rfl⟩) | (go_at_call 38; refine (s_in_f _ _ _ _ ?_).mono ?_; omega; rintro e w1 ⟨rfl, rfl⟩))
      go_ret
      exact ⟨by rw [HT.out]; rfl, hb1⟩
  · have HD := Lib.hid (digB_f hd)
    have HT := Lib.hid (show t = false by rw [Bool.eq_false_iff]; exact fun hh => hd (ht.1 hh).1)
    clear ht hd
    go_enter Try.func45, Try.ntmps45
    go_wp2_with (first | (go_at_call 59; refine (s_digOk A xs c b _ hR hl).mono ?_; rw [HD.out]; rintro e w1 ⟨rfl, hb1⟩))
    go_ret
    exact ⟨by rw [HT.out]; rfl, hb1⟩

theorem i_factor (k : Int) (w : World) (t : Bool) (ht : t = true ↔ (1 ≤ k ∧ k ≤ 16)) :
    Calls Try.prog 40 #[.int .i64 k] w fun e w' => e = .returned (.bool t) ∧ w = w' := by
  by_cases hk : 1 ≤ k ∧ k ≤ 16
  · have HT := Lib.hid (ht.2 hk)
    obtain ⟨k1, k2⟩ := hk
    clear ht
    go_enter Try.func40, Try.ntmps40
    go_wp2_with (first | (go_at_call 41; refine (i_in_t _ _ _ _ ?_ ?_).mono ?_; omega; omega; rintro e w1 ⟨rfl, rfl⟩) | (go_at_call 41; refine (i_in_f _ _ _ _ ?_).mono ?_; omega; rintro e w1 ⟨rfl, rfl⟩))
    go_ret
    exact ⟨by rw [HT.out]; rfl, rfl⟩
  · have HT := Lib.hid (show t = false by rw [Bool.eq_false_iff]; exact fun hh => hk (ht.1 hh))
    have hk' : k < 1 ∨ 16 < k := by omega
    clear ht hk
    go_enter Try.func40, Try.ntmps40
    go_wp2_with (first | (go_at_call 41; refine (i_in_t _ _ _ _ ?_ ?_).mono ?_; omega; omega; rintro e w1 ⟨rfl, rfl⟩) | (go_at_call 41; refine (i_in_f _ _ _ _ ?_).mono ?_; omega; rintro e w1 ⟨rfl, rfl⟩))
    go_ret
    exact ⟨by rw [HT.out]; rfl, rfl⟩

set_option maxHeartbeats 1000000 in
theorem s_car (A : Option Addr) (xs : List Int) (c : Nat) (b k : Int) (w : World) (hR : RI w w.heap.size A xs) (hl : xs.length ≤ 4294967296) :
    Calls Try.prog 20 #[.slice A xs.length c, .int .i64 b, .int .i64 k] w (RetL w (carR b k xs)) := by
  by_cases h : CarP b k xs
  · rw [carR_t h]
    have H := Lib.hid h
    obtain ⟨⟨h1, h2, h60, _⟩, k1, k2⟩ := h
    obtain ⟨i0, hi, hz0, hz1, hz2⟩ := info_parts info_int
    go_enter Try.func20, Try.ntmps20
    go_wp2_with (first | (go_at_call 45; refine (s_factor b k A xs c _ hR hl true ⟨fun _ => H.out, fun _ => rfl⟩).mono ?_; rintro e w1 ⟨rfl, hb1⟩))
    have hR0 := Lib.hid hR
    have hsz1 := hb1.size
    have HB1 := Lib.hid hb1
    clear hb1
    go_loopw [7, 8, 19] (fun o y i wr => ∃ (j : Nat) (cy : Int) (l : List Int), j ≤ xs.length ∧ i = .int .i64 j ∧ y = .int .i64 cy ∧ 0 ≤ cy ∧ cy ≤ k - 1 ∧ l.length ≤ j ∧ Hid (carL b k 0 xs = l ++ carL b k cy (xs.drop j)) ∧ Row wr w.heap.size o l ∧ Below w.heap.size w wr) (fun o y i _ => xs.length - (intOf i).toNat)
    case atStart => exact ⟨0, 0, [], Nat.zero_le _, rfl, rfl, by omega, by omega, by simp, rfl, by simpa using (Row.made w1).mono hsz1, b_alloc HB1.out _⟩
    case round =>
      obtain ⟨j, cy, l, hj, rfl, rfl, hc0, hc1, hlj, hD, hO, hW⟩ := hrel
      have HW := Lib.hid hW
      have hw0 := hW.size
      have hRw := hR.below hW
      clear hW
      by_cases hlt : j < xs.length
      · obtain ⟨b0, off, hA, hb0, hc⟩ := hRw.at_ hlt
        subst hA
        have HR := Lib.hid hR
        clear hR hRw
        obtain ⟨d1, d2⟩ := H.out.1.bd hlt
        obtain ⟨d, hd⟩ : ∃ d, d = xs.getD j 0 := ⟨_, rfl⟩
        rw [← hd] at hc d1 d2
        have HX := Lib.hid hd
        clear hd
        obtain ⟨p0, p1⟩ := mul_bd240 k1 k2 d1 (show d ≤ 15 by omega)
        obtain ⟨e0, e1⟩ := car_bd h1 k1 hc0 hc1 d1 d2
        go_wp2_with (first | (at_builtin; refine wpList_append_own _ rfl _ _ 25 rfl w.heap.size 3 i0 (.int .i64 0) 1 8 Try.underlying25 hi hz0 hz1 hz2 rfl (by decide) _ _ _ rfl (World.ownsRow.alloc hO _) ⟨wr.heap.size, 0, none⟩ 1 1 [.int .i64 ((d * k + cy) / b)] rfl rfl (cell_one_new _ _ _) ?c1 ?c2 ?c3 ?c4 ?_))
        case c1 => intro u hu; simp at hu; subst hu; rfl
        case c2 => unfold maxLen; omega
        case c3 => omega
        case c4 => simp; omega
        intro v1 w1 hown1 hgrow1 _
        have HO := Lib.hid (Row.app hown1)
        have HW1 := Lib.hid (Row.grow hO HW.out hgrow1)
        clear hown1 hgrow1 hO HW
        go_wp2
        go_roundw
        case rel => exact ⟨j + 1, (d * k + cy) / b, l ++ [(d * k + cy) / b], by omega, by go_num, rfl, e0, e1, by simp; omega, by have := hD.out; rw [carL_drop hlt, ← HX.out] at this; unfold Hid; rw [this]; simp, HO.out, HW1.out⟩
        case measure => simp [intOf]; omega
      · obtain rfl : j = xs.length := by omega
        go_wp2
        go_ret
        exact RetL.of hO HW.out (by have := hD.out; rw [List.drop_length] at this; simpa [carL] using this.symm)
  · rw [carR_f h]
    have H := Lib.hid h
    clear h
    go_enter Try.func20, Try.ntmps20
    go_wp2_with (first | (go_at_call 45; refine (s_factor b k A xs c _ hR hl false ⟨fun h => Bool.noConfusion h, fun h => absurd h H.out⟩).mono ?_; rintro e w1 ⟨rfl, hb1⟩))
    go_ret
    exact RetL.nil _ _ hb1

set_option maxHeartbeats 1000000 in
theorem i_car (A : Option Addr) (xs : List Int) (c : Nat) (b k : Int) (w : World) (hR : RI w w.heap.size A xs) (hl : xs.length ≤ 4294967296) :
    Calls Try.prog 21 #[.slice A xs.length c, .int .i64 b, .int .i64 k] w (RetL w (carR b k xs)) := by
  by_cases h : CarP b k xs
  · rw [carR_t h]
    have H := Lib.hid h
    obtain ⟨⟨h1, h2, h60, _⟩, k1, k2⟩ := h
    obtain ⟨i0, hi, hz0, hz1, hz2⟩ := info_parts info_int
    have HD := Lib.hid (digB_t H.out.1)
    go_enter Try.func21, Try.ntmps21
    go_wp2_with (first | (go_at_call 36; refine (i_digOk A xs c b _ hR hl).mono ?_; rw [HD.out]; rintro e w1 ⟨rfl, hb1⟩) | (go_at_call 40; refine (i_factor k _ true ⟨fun _ => ⟨k1, k2⟩, fun _ => rfl⟩).mono ?_; rintro e w2 ⟨rfl, rfl⟩))
    have hR0 := Lib.hid hR
    have hsz1 := hb1.size
    have HB1 := Lib.hid hb1
    clear hb1
    go_loopw [7, 8, 22] (fun o y i wr => ∃ (j : Nat) (cy : Int) (l : List Int), j ≤ xs.length ∧ i = .int .i64 j ∧ y = .int .i64 cy ∧ 0 ≤ cy ∧ cy ≤ k - 1 ∧ l.length ≤ j ∧ Hid (carL b k 0 xs = l ++ carL b k cy (xs.drop j)) ∧ Row wr w.heap.size o l ∧ Below w.heap.size w wr) (fun o y i _ => xs.length - (intOf i).toNat)
    case atStart => exact ⟨0, 0, [], Nat.zero_le _, rfl, rfl, by omega, by omega, by simp, rfl, Row.nil _ _, HB1.out⟩
    case round =>
      obtain ⟨j, cy, l, hj, rfl, rfl, hc0, hc1, hlj, hD, hO, hW⟩ := hrel
      have HW := Lib.hid hW
      have hw0 := hW.size
      have hRw := hR.below hW
      clear hW
      by_cases hlt : j < xs.length
      · obtain ⟨b0, off, hA, hb0, hc⟩ := hRw.at_ hlt
        subst hA
        have HR := Lib.hid hR
        clear hR hRw
        obtain ⟨d1, d2⟩ := H.out.1.bd hlt
        obtain ⟨d, hd⟩ : ∃ d, d = xs.getD j 0 := ⟨_, rfl⟩
        rw [← hd] at hc d1 d2
        have HX := Lib.hid hd
        clear hd
        obtain ⟨p0, p1⟩ := mul_bd240 k1 k2 d1 (show d ≤ 15 by omega)
        obtain ⟨e0, e1⟩ := car_bd h1 k1 hc0 hc1 d1 d2
        go_wp2_with (first | (at_builtin; refine wpList_append_own _ rfl _ _ 25 rfl w.heap.size 3 i0 (.int .i64 0) 1 8 Try.underlying25 hi hz0 hz1 hz2 rfl (by decide) _ _ _ rfl (World.ownsRow.alloc hO _) ⟨wr.heap.size, 0, none⟩ 1 1 [.int .i64 ((d * k + cy) / b)] rfl rfl (cell_one_new _ _ _) ?c1 ?c2 ?c3 ?c4 ?_) | (go_at_call 13; refine (i_times_ok b k cy d _ h1 h2 k1 k2 hc0 hc1 d1 d2).mono ?_; rintro e w2 ⟨rfl, nq, rfl⟩))
        case c1 => intro u hu; simp at hu; subst hu; rfl
        case c2 => unfold maxLen; omega
        case c3 => omega
        case c4 => simp; omega
        intro v1 w1 hown1 hgrow1 _
        have HO := Lib.hid (Row.app hown1)
        have HW1 := Lib.hid (Row.grow (wr := wr.drewN nq) hO (b_drewN HW.out nq) hgrow1)
        clear hown1 hgrow1 hO HW
        go_wp2
        go_roundw
        case rel => exact ⟨j + 1, (d * k + cy) / b, l ++ [(d * k + cy) / b], by omega, by go_num, rfl, e0, e1, by simp; omega, by have := hD.out; rw [carL_drop hlt, ← HX.out] at this; unfold Hid; rw [this]; simp, HO.out, HW1.out⟩
        case measure => simp [intOf]; omega
      · obtain rfl : j = xs.length := by omega
        go_wp2
        go_ret
        exact RetL.of hO HW.out (by have := hD.out; rw [List.drop_length] at this; simpa [carL] using this.symm)
  · rw [carR_f h]
    have H := Lib.hid h
    clear h
    by_cases hd : DigP b xs
    · have HD := Lib.hid (digB_t hd)
      have HK := Lib.hid (fun hk => H.out ⟨hd, hk⟩)
      clear hd
      go_enter Try.func21, Try.ntmps21
      go_wp2_with (first | (go_at_call 36; refine (i_digOk A xs c b _ hR hl).mono ?_; rw [HD.out]; rintro e w1 ⟨rfl, hb1⟩) | (go_at_call 40; refine (i_factor k _ false ⟨fun h => Bool.noConfusion h, fun h => absurd h HK.out⟩).mono ?_; rintro e w2 ⟨rfl, rfl⟩))
      go_ret
      exact RetL.nil _ _ hb1
    · have HD := Lib.hid (digB_f hd)
      clear hd
      go_enter Try.func21, Try.ntmps21
      go_wp2_with (first | (go_at_call 36; refine (i_digOk A xs c b _ hR hl).mono ?_; rw [HD.out]; rintro e w1 ⟨rfl, hb1⟩))
      go_ret
      exact RetL.nil _ _ hb1
end Go.Proofs.Ytpjdmapfnojhnaa
