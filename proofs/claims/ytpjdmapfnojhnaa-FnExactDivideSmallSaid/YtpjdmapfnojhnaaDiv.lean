/- Contracts of DivideSmall (program and reference). Conditions: lengths of at most 2^32. -/
import Derived.Test.YtpjdmapfnojhnaaTrim
import Derived.Test.YtpjdmapfnojhnaaRst
namespace Go.Proofs.Ytpjdmapfnojhnaa
open Go.RowKit
set_option linter.unusedVariables false

/-- What a function hands back that makes a list, an integer and a Bool besides. -/
def RetLIB (w : World) (xs : List Int) (r : Int) (t : Bool) (e : Ending) (w' : World) : Prop :=
  ∃ A c, e = .returned (.tuple #[.slice A xs.length c, .int .i64 r, .bool t]) ∧ OI w' w.heap.size A xs ∧ Below w.heap.size w w'
theorem RetLIB.nil (w w' : World) (hb : Below w.heap.size w w') : RetLIB w [] 0 false (.returned (.tuple #[.slice none 0 0, .int .i64 0, .bool false])) w' := ⟨none, 0, rfl, .inl rfl, hb⟩
/-- The quotient's digits, in the order in which they are taken. -/
def quoL (b k : Int) : Int → List Int → List Int
  | _, [] => []
  | r, d :: t => (r * b + d) / k :: quoL b k ((r * b + d) % k) t
def remL (b k : Int) : Int → List Int → Int
  | r, [] => r
  | r, d :: t => remL b k ((r * b + d) % k) t
theorem length_quoL (b k : Int) : ∀ (xs : List Int) (r : Int), (quoL b k r xs).length = xs.length
  | [], _ => rfl
  | x :: xs, r => by simp [quoL, length_quoL b k xs]
theorem getD_rev_mid (l t : List Int) (x : Int) : (l ++ x :: t).reverse.getD t.length 0 = x := by
  rw [List.getD_eq_getElem?_getD]
  simp [List.getElem?_append]
noncomputable def dvR (b k : Int) (xs : List Int) : List Int := @ite (List Int) (CarP b k xs) (Classical.propDecidable _) (trimL (quoL b k 0 xs.reverse).reverse) []
noncomputable def dvI (b k : Int) (xs : List Int) : Int := @ite Int (CarP b k xs) (Classical.propDecidable _) (remL b k 0 xs.reverse) 0
noncomputable def dvB (b k : Int) (xs : List Int) : Bool := @decide (CarP b k xs) (Classical.propDecidable _)
theorem dv_t {b k : Int} {xs : List Int} (h : CarP b k xs) : dvR b k xs = trimL (quoL b k 0 xs.reverse).reverse ∧ dvI b k xs = remL b k 0 xs.reverse ∧ dvB b k xs = true := by
  unfold dvR dvI dvB; rw [if_pos h, if_pos h]; exact ⟨rfl, rfl, @decide_eq_true _ (Classical.propDecidable _) h⟩
theorem dv_f {b k : Int} {xs : List Int} (h : ¬ CarP b k xs) : dvR b k xs = [] ∧ dvI b k xs = 0 ∧ dvB b k xs = false := by
  unfold dvR dvI dvB; rw [if_neg h, if_neg h]; exact ⟨rfl, rfl, @decide_eq_false _ (Classical.propDecidable _) h⟩
theorem length_dvR (b k : Int) (xs : List Int) : (dvR b k xs).length ≤ xs.length := by
  by_cases h : CarP b k xs
  · rw [(dv_t h).1, length_trimL]
    have := trimN_le (quoL b k 0 xs.reverse).reverse (quoL b k 0 xs.reverse).reverse.length
    rw [List.length_reverse, length_quoL, List.length_reverse] at this
    rw [List.length_reverse, length_quoL, List.length_reverse]
    exact this
  · rw [(dv_f h).1]; exact Nat.zero_le _
theorem quo_bd {r b k d : Int} (k1 : 1 ≤ k) (h0 : 0 ≤ r * b) (h1 : r * b ≤ 240) (h2 : 0 ≤ d) (h3 : d ≤ 15) : 0 ≤ (r * b + d) / k ∧ (r * b + d) / k ≤ 255 :=
  ⟨Int.ediv_nonneg (by omega) (by omega), Int.le_trans (Int.ediv_le_self _ (by omega)) (by omega)⟩

set_option maxHeartbeats 1000000 in
theorem i_div (A : Option Addr) (xs : List Int) (c : Nat) (b k : Int) (w : World) (hR : RI w w.heap.size A xs) (hl : xs.length ≤ 4294967296) :
    Calls Try.prog 29 #[.slice A xs.length c, .int .i64 b, .int .i64 k] w (RetLIB w (dvR b k xs) (dvI b k xs) (dvB b k xs)) := by
  by_cases h : CarP b k xs
  · rw [(dv_t h).1, (dv_t h).2.1, (dv_t h).2.2]
    have H := Lib.hid h
    obtain ⟨⟨h1, h2, h60, _⟩, k1, k2⟩ := h
    have HD := Lib.hid (digB_t H.out.1)
    obtain ⟨Q, hQ⟩ : ∃ Q, Q = (quoL b k 0 xs.reverse).reverse := ⟨_, rfl⟩
    have hQl : Q.length = xs.length := by rw [hQ, List.length_reverse, length_quoL, List.length_reverse]
    have HQ := Lib.hid hQ
    have HQL := Lib.hid hQl
    rw [← hQ]
    clear hQ hQl
    have hmk := run_make_row' (P := Try.prog) 25 3 (.int .i64 0) 8 Try.underlying25 info_int rfl .i64 .i64 xs.length (by omega) (by omega)
    go_enter Try.func29, Try.ntmps29
    go_wp2_with (first | (go_at_call 36; refine (i_digOk A xs c b _ hR hl).mono ?_; rw [HD.out]; rintro e w1 ⟨rfl, hb1⟩) | (go_at_call 40; refine (i_factor k _ true ⟨fun _ => ⟨k1, k2⟩, fun _ => rfl⟩).mono ?_; rintro e w2 ⟨rfl, rfl⟩))
    have s1 := hb1.size
    have HT1 := Lib.hid (b_step (Below.refl _ _) hb1)
    have hRw1 := hR.below hb1
    clear hb1
    go_loopw [10, 11] (fun y i wr => ∃ (q : Nat) (r : Int) (l : List Int), q ≤ xs.length ∧ i = .int .i64 ((q : Int) - 1) ∧ y = .int .i64 r ∧ 0 ≤ r ∧ r ≤ k - 1 ∧
      Hid (quoL b k 0 xs.reverse = l ++ quoL b k r (xs.take q).reverse) ∧ Hid (remL b k 0 xs.reverse = remL b k r (xs.take q).reverse) ∧
      (∃ cs, BI wr w1.heap.size cs ∧ cs.size = xs.length ∧ Hid (∀ j, q ≤ j → j < xs.length → cs[j]? = some (.int .i64 (Q.getD j 0)))) ∧ Below w.heap.size w wr) (fun _ i _ => (intOf i + 1).toNat)
    case atStart => exact ⟨xs.length, 0, [], Nat.le_refl _, rfl, rfl, by omega, by omega, by unfold Hid; simp, by unfold Hid; simp, ⟨_, BI.new _ _, by simp [madeCells], fun j h1 h2 => by omega⟩, b_alloc HT1.out _⟩
    case round =>
      obtain ⟨q, r, l, hq, rfl, rfl, hr0, hr1, hD, hM, ⟨cs, hB, hsz, hF⟩, hW⟩ := hrel
      have HW := Lib.hid hW
      have hRw := hR.below hW
      have hw0 := hW.size
      clear hW
      rcases Nat.eq_zero_or_pos q with rfl | hp
      · have hFQ : Fill cs 0 Q.length Q := fun j hj => by rw [Nat.zero_add]; exact hF.out j (Nat.zero_le _) (by rw [← HQL.out]; exact hj)
        have hOQ : OI wr w1.heap.size (some ⟨w1.heap.size, 0, none⟩) Q := .inr ⟨_, 0, cs, rfl, Nat.le_refl _, hB, hFQ⟩
        have hRQ := hOQ.reads
        have HOQ := Lib.hid hOQ
        have HRM := Lib.hid (show remL b k 0 xs.reverse = r by rw [hM.out]; simp [remL])
        clear hB hsz hF hFQ hOQ hD hM hRw
        have hQ60 : Q.length ≤ 60 := by rw [HQL.out]; exact h60
        rw [← HQL.out]
        go_wp2_with fail
        refine (i_trim _ Q Q.length _ hRQ (by omega) (Nat.le_refl _) (by omega)).mono ?_
        rintro e w4 ⟨rfl, rfl⟩
        go_wp2
        go_ret3
        rw [HRM.out]
        have hOT : OI wr w.heap.size (some ⟨w1.heap.size, 0, none⟩) (trimL Q) := by
          rcases HOQ.out.take (trimN Q Q.length) with hh | ⟨g, off, cs', hA, hB', rr⟩
          · exact .inl hh
          · exact .inr ⟨g, off, cs', hA, Nat.le_trans s1 hB', rr⟩
        exact ⟨_, _, rfl, hOT, HW.out⟩
      · obtain ⟨q, rfl⟩ : ∃ p, q = p + 1 := ⟨q - 1, by omega⟩
        have hlt : q < xs.length := by omega
        obtain ⟨b0, off, hA, hb0, hc⟩ := hRw.at_ hlt
        subst hA
        have HR := Lib.hid hR
        clear hR hRw hRw1
        obtain ⟨d1, d2⟩ := H.out.1.bd hlt
        obtain ⟨d, hd⟩ : ∃ d, d = xs.getD q 0 := ⟨_, rfl⟩
        rw [← hd] at hc d1 d2
        have HX := Lib.hid hd
        clear hd
        obtain ⟨v0, hcB⟩ := hB.ex (i := q) (by omega)
        have hfB := hB.frozen q
        have HB := Lib.hid hB
        have HS := Lib.hid hsz
        clear hB hsz
        have e : ((q + 1 : Nat) : Int) - 1 = q := by omega
        rw [e]
        clear e
        obtain ⟨p0, p1⟩ := mul_bd256 h1 h2 hr0 (show r ≤ 15 by omega)
        obtain ⟨e0, e1⟩ := rst_bd (r := r) (b := b) (d := d) k1
        obtain ⟨f0, f1⟩ := quo_bd (r := r) (b := b) (d := d) k1 p0 p1 d1 (by omega)
        have HQ1 : Hid (Q.getD q 0 = (r * b + d) / k) := by
          unfold Hid
          rw [HQ.out, hD.out, take_rev hlt, ← HX.out]
          have := getD_rev_mid l (quoL b k ((r * b + d) % k) (xs.take q).reverse) ((r * b + d) / k)
          rw [length_quoL, List.length_reverse, List.length_take, Nat.min_eq_left (by omega)] at this
          exact this
        go_wp2
        go_roundw
        case rel => exact ⟨q, (r * b + d) % k, l ++ [(r * b + d) / k], by omega, rfl, rfl, e0, e1, by have := hD.out; rw [take_rev hlt, ← HX.out] at this; unfold Hid; rw [this]; simp [quoL], by have := hM.out; rw [take_rev hlt, ← HX.out] at this; unfold Hid; rw [this]; rfl,
          ⟨_, HB.out.set_ q _, by simp [HS.out], fun j g1 g2 => by
            rw [Array.getElem?_setIfInBounds]
            by_cases hh : q = j
            · subst hh; rw [if_pos rfl, if_pos (by rw [HS.out]; exact hlt), HQ1.out]
            · rw [if_neg hh]; exact hF.out j (by omega) g2⟩, b_set HW.out (by exact s1) _⟩
        case measure => simp [intOf]
  · rw [(dv_f h).1, (dv_f h).2.1, (dv_f h).2.2]
    have H := Lib.hid h
    clear h
    by_cases hd : DigP b xs
    · have HD := Lib.hid (digB_t hd)
      have HK := Lib.hid (fun hk => H.out ⟨hd, hk⟩)
      clear hd
      go_enter Try.func29, Try.ntmps29
      go_wp2_with (first | (go_at_call 36; refine (i_digOk A xs c b _ hR hl).mono ?_; rw [HD.out]; rintro e w1 ⟨rfl, hb1⟩) | (go_at_call 40; refine (i_factor k _ false ⟨fun h => Bool.noConfusion h, fun h => absurd h HK.out⟩).mono ?_; rintro e w2 ⟨rfl, rfl⟩))
      go_ret3
      exact RetLIB.nil _ _ hb1
    · have HD := Lib.hid (digB_f hd)
      clear hd
      go_enter Try.func29, Try.ntmps29
      go_wp2_with (first | (go_at_call 36; refine (i_digOk A xs c b _ hR hl).mono ?_; rw [HD.out]; rintro e w1 ⟨rfl, hb1⟩))
      go_ret3
      exact RetLIB.nil _ _ hb1

set_option maxHeartbeats 1000000 in
theorem s_div (A : Option Addr) (xs : List Int) (c : Nat) (b k : Int) (w : World) (hR : RI w w.heap.size A xs) (hl : xs.length ≤ 4294967296) :
    Calls Try.prog 28 #[.slice A xs.length c, .int .i64 b, .int .i64 k] w (RetLIB w (dvR b k xs) (dvI b k xs) (dvB b k xs)) := by
  by_cases h : CarP b k xs
  · rw [(dv_t h).1, (dv_t h).2.1, (dv_t h).2.2]
    have H := Lib.hid h
    obtain ⟨⟨h1, h2, h60, _⟩, k1, k2⟩ := h
    obtain ⟨i0, hi, hz0, hz1, hz2⟩ := info_parts info_int
    go_enter Try.func28, Try.ntmps28
    go_wp2_with (first | (go_at_call 45; refine (s_factor b k A xs c _ hR hl true ⟨fun _ => H.out, fun _ => rfl⟩).mono ?_; rintro e w1 ⟨rfl, hb1⟩))
    have hsz1 := hb1.size
    have hR1 := hR.below hb1
    have HB1 := Lib.hid hb1
    clear hb1 hR
    refine (s_turn A xs c _ ((hR1.below ((Below.refl _ w1).alloc hsz1 _)).more (by simp; omega)) hl).mono ?_
    rintro e w2 ⟨S, cS, rfl, hOS, hb2⟩
    have hRS := hOS.reads
    have HL := Lib.hid (OI.low (by simpa using hOS))
    have HB2 := Lib.hid (b_step (b_alloc HB1.out _) hb2)
    have hsz2 : w1.heap.size + 1 ≤ w2.heap.size := by have := hb2.size; simpa using this
    have HR2 := Lib.hid (((Row.made w1).below hb2).mono hsz1)
    obtain ⟨ys, hys⟩ : ∃ ys, ys = xs.reverse := ⟨_, rfl⟩
    have hyl : ys.length ≤ 60 := by rw [hys, List.length_reverse]; exact h60
    have HY := Lib.hid (show ∀ j, j < ys.length → 0 ≤ ys.getD j 0 ∧ ys.getD j 0 ≤ b - 1 from fun j hj => by
      have hm := getD_mem hj
      rw [hys, List.mem_reverse] at hm
      rw [hys]
      exact allB_iff.1 H.out.1.2.2.2.1 _ hm)
    have HYS := Lib.hid hys
    rw [← hys]
    rw [← hys] at hRS HL
    clear hb2 hOS hR1 hys
    have HRS := Lib.hid hRS
    clear hRS
    go_wp2
    go_loopw [9, 10, 23] (fun o y i wr => ∃ (j : Nat) (r : Int) (l : List Int), j ≤ ys.length ∧ i = .int .i64 j ∧ y = .int .i64 r ∧ 0 ≤ r ∧ r ≤ k - 1 ∧ l.length ≤ j ∧ Hid (quoL b k 0 ys = l ++ quoL b k r (ys.drop j)) ∧ Hid (remL b k 0 ys = remL b k r (ys.drop j)) ∧ Row wr w.heap.size o l ∧ Below w.heap.size w wr ∧
      Hid (RI wr w2.heap.size S ys) ∧ Hid (∀ g, o.ownBlock = some g → g = w1.heap.size ∨ w2.heap.size ≤ g) ∧ w2.heap.size ≤ wr.heap.size) (fun _ _ i _ => ys.length - (intOf i).toNat)
    case atStart => exact ⟨0, 0, [], Nat.zero_le _, rfl, rfl, by omega, by omega, by simp, rfl, rfl, HR2.out, HB2.out, HRS.out, fun g hg => .inl (by simp [Value.ownBlock] at hg; omega), Nat.le_refl _⟩
    case round =>
      obtain ⟨j, r, l, hj, rfl, rfl, hr0, hr1, hlj, hD, hM, hO, hW, RX, hP, hK⟩ := hrel
      have HW := Lib.hid hW
      have hw0 := hW.size
      clear hW
      by_cases hlt : j < ys.length
      · obtain ⟨b0, off, hA, hb0, hc⟩ := RX.out.at_ hlt
        subst hA
        obtain ⟨d1, d2⟩ := HY.out j hlt
        obtain ⟨d, hd⟩ : ∃ d, d = ys.getD j 0 := ⟨_, rfl⟩
        rw [← hd] at hc d1 d2
        have HX := Lib.hid hd
        clear hd
        obtain ⟨p0, p1⟩ := mul_bd256 h1 h2 hr0 (show r ≤ 15 by omega)
        obtain ⟨e0, e1⟩ := rst_bd (r := r) (b := b) (d := d) k1
        obtain ⟨f0, f1⟩ := quo_bd (r := r) (b := b) (d := d) k1 p0 p1 d1 (by omega)
        go_wp2_with (first | (at_builtin; refine wpList_append_own_at _ rfl _ _ 25 rfl w.heap.size 3 i0 (.int .i64 0) 1 8 Try.underlying25 hi hz0 hz1 hz2 rfl (by decide) _ _ _ rfl (World.ownsRow.alloc hO _) ⟨wr.heap.size, 0, none⟩ 1 1 [.int .i64 ((r * b + d) / k)] rfl rfl (cell_one_new _ _ _) ?c1_1 ?c1_2 ?c1_3 ?c1_4 ?_))
        case c1_1 => first | rfl | (intro u hu; simp at hu; subst hu; rfl)
        case c1_2 => unfold maxLen; omega
        case c1_3 => omega
        case c1_4 => first | omega | (simp; omega)
        intro v1 w1' hown1 hgrow1 _ hat1
        have HO := Lib.hid (Row.app hown1)
        have HW1 := Lib.hid (Row.grow hO HW.out hgrow1)
        have HRX := Lib.hid (RX.out.grownX HL.out ((Below.refl _ _).alloc hK _) hgrow1 hP.out hK)
        have HP1 := Lib.hid (atOr hP.out hat1 hK)
        have hgK := Nat.le_trans hK (Nat.le_trans (by simp) hgrow1.size)
        clear hown1 hgrow1 hat1 hO HW
        go_wp2
        go_roundw
        case rel => exact ⟨j + 1, (r * b + d) % k, l ++ [(r * b + d) / k], by omega, by go_num, rfl, e0, e1, by simp; omega, by have := hD.out; rw [drop_getD hlt, ← HX.out] at this; unfold Hid; rw [this]; simp [quoL], by have := hM.out; rw [drop_getD hlt, ← HX.out] at this; unfold Hid; rw [this]; rfl, HO.out, HW1.out, HRX, HP1, hgK⟩
        case measure => simp [intOf]; omega
      · obtain rfl : j = ys.length := by omega
        have HL1 := Lib.hid (show l = quoL b k 0 ys by have := hD.out; rw [List.drop_length] at this; simpa [quoL] using this.symm)
        have HRM := Lib.hid (show remL b k 0 ys = r by rw [hM.out, List.drop_length]; rfl)
        obtain ⟨Ao, co, hAv⟩ := hO.shape
        subst hAv
        have hOr := (OI.of_own hO).2.reads
        clear hO hD hM
        have hl60 : l.length ≤ 60 := by omega
        go_wp2_with fail
        refine (s_turnC Ao l co _ hOr (by omega)).mono ?_
        rintro e w4 ⟨At, ct, rfl, hOt, hb4, hct, hct2⟩
        have HW4 := Lib.hid (b_step HW.out hb4)
        have hRt := hOt.reads
        have HOt := Lib.hid hOt
        have lrev : l.reverse.length ≤ 60 := by rw [List.length_reverse]; exact hl60
        obtain ⟨z, hz⟩ : ∃ z, z = l.reverse := ⟨_, rfl⟩
        rw [← hz] at hRt HOt hct lrev ⊢
        have HZ := Lib.hid hz
        clear hOt hb4 hOr hz
        go_wp2_with fail
        refine (s_trim At z ct _ hRt (by omega) hct hct2).mono ?_
        rintro e w5 ⟨rfl, rfl⟩
        go_wp2
        go_ret3
        rw [← HYS.out, HRM.out, ← HL1.out, ← HZ.out]
        have hOT : OI w4 w.heap.size At (trimL z) := by
          rcases HOt.out.take (trimN z z.length) with hh | ⟨g, off, cs', hA, hB', rr⟩
          · exact .inl hh
          · exact .inr ⟨g, off, cs', hA, Nat.le_trans hw0 hB', rr⟩
        exact ⟨_, _, rfl, hOT, HW4.out⟩
  · rw [(dv_f h).1, (dv_f h).2.1, (dv_f h).2.2]
    have H := Lib.hid h
    clear h
    go_enter Try.func28, Try.ntmps28
    go_wp2_with (first | (go_at_call 45; refine (s_factor b k A xs c _ hR hl false ⟨fun h => Bool.noConfusion h, fun h => absurd h H.out⟩).mono ?_; rintro e w1 ⟨rfl, hb1⟩))
    go_ret3
    exact RetLIB.nil _ _ hb1
end Go.Proofs.Ytpjdmapfnojhnaa
