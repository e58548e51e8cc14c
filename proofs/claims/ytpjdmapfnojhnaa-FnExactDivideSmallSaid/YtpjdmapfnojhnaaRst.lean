/- Contracts of l02Turn and RestsOf (program and reference). Conditions: lengths of at most 2^32. -/
import Derived.Test.YtpjdmapfnojhnaaCar
namespace Go.Proofs.Ytpjdmapfnojhnaa
open Go.RowKit
set_option linter.unusedVariables false

/-- The remainders of a division by k, of digits in the order in which they are taken. -/
def rstL (b k : Int) : Int → List Int → List Int
  | _, [] => []
  | r, d :: t => (r * b + d) % k :: rstL b k ((r * b + d) % k) t
theorem length_rstL (b k : Int) : ∀ (xs : List Int) (r : Int), (rstL b k r xs).length = xs.length
  | [], _ => rfl
  | x :: xs, r => by simp [rstL, length_rstL b k xs]
theorem Row.below {w w' : World} {B : Nat} {v : Value} {xs : List Int} (h : Row w B v xs) (hb : Below w.heap.size w w') : Row w' B v xs := by
  rcases h.2 with h2 | ⟨g, cap, cur, hv, hg, hh, r⟩
  · exact ⟨h.1, .inl h2⟩
  · exact ⟨h.1, .inr ⟨g, cap, cur, hv, hg, (hb.block g (Array.getElem?_eq_some_iff.1 hh).1).trans hh, r⟩⟩
/-- A slice that is read stays as it is while a row is written that lies at p or from K on. -/
theorem RI.grownX {wr wa w' : World} {K p : Nat} {S : Option Addr} {ys : List Int} {row : Option Nat} (h : RI wr K S ys) (hlow : ys = [] ∨ ∀ a, S = some a → p < a.block) (hb : Below K wr wa) (hg : wa.grownBy w' row)
    (hrow : ∀ g, row = some g → g = p ∨ K ≤ g) (hK : K ≤ wr.heap.size) : RI w' K S ys := by
  rcases h.below hb with h | ⟨b, off, hA, hlt, hc⟩
  · exact .inl h
  · rcases hlow with h | hl
    · exact .inl h
    · refine .inr ⟨b, off, hA, hlt, fun j hj => ?_⟩
      refine hg.cell (hc j hj) fun e => ?_
      have := hl _ hA
      have h2 := hrow b e.symm
      simp at this
      omega
theorem atOr {wr : World} {K p : Nat} {v v1 : Value} (h : ∀ g, v.ownBlock = some g → g = p ∨ K ≤ g) (hat : v1.ownBlock = v.ownBlock ∨ v1.ownBlock = some (wr.heap.size + 1)) (hK : K ≤ wr.heap.size) : ∀ g, v1.ownBlock = some g → g = p ∨ K ≤ g := by
  intro g hg
  rcases hat with e | e
  · exact h g (e ▸ hg)
  · rw [e] at hg
    simp at hg
    omega
theorem OI.low {w : World} {B : Nat} {A : Option Addr} {xs : List Int} (h : OI w (B + 1) A xs) : xs = [] ∨ ∀ a, A = some a → B < a.block := by
  rcases h with h | ⟨g, off, cs, hA, hB, _⟩
  · exact .inl h
  · exact .inr fun a ha => by rw [hA] at ha; injection ha with ha; subst ha; exact hB
theorem drop_getD {xs : List Int} {j : Nat} (h : j < xs.length) : xs.drop j = xs.getD j 0 :: xs.drop (j + 1) := by
  rw [List.drop_eq_getElem_cons h, List.getD_eq_getElem?_getD, List.getElem?_eq_getElem h, Option.getD_some]
theorem take_rev {xs : List Int} {q : Nat} (h : q < xs.length) : (xs.take (q + 1)).reverse = xs.getD q 0 :: (xs.take q).reverse := by
  rw [List.take_succ_eq_append_getElem h, List.reverse_append, List.getD_eq_getElem?_getD, List.getElem?_eq_getElem h, Option.getD_some]; rfl
noncomputable def rstR (b k : Int) (xs : List Int) : List Int := @ite (List Int) (CarP b k xs) (Classical.propDecidable _) (rstL b k 0 xs.reverse) []
theorem rstR_t {b k : Int} {xs : List Int} (h : CarP b k xs) : rstR b k xs = rstL b k 0 xs.reverse := by unfold rstR; rw [if_pos h]
theorem rstR_f {b k : Int} {xs : List Int} (h : ¬ CarP b k xs) : rstR b k xs = [] := by unfold rstR; rw [if_neg h]
theorem length_rstR (b k : Int) (xs : List Int) : (rstR b k xs).length ≤ xs.length := by
  by_cases h : CarP b k xs
  · rw [rstR_t h, length_rstL, List.length_reverse]; exact Nat.le_refl _
  · rw [rstR_f h]; exact Nat.zero_le _
theorem mul_bd256 {r b : Int} (h1 : 2 ≤ b) (h2 : b ≤ 16) (h5 : 0 ≤ r) (h6 : r ≤ 15) : 0 ≤ r * b ∧ r * b ≤ 240 :=
  ⟨Int.mul_nonneg h5 (by omega), Int.le_trans (Int.mul_le_mul h6 h2 (by omega) (by omega)) (by omega)⟩
theorem rst_bd {r b k d : Int} (k1 : 1 ≤ k) : 0 ≤ (r * b + d) % k ∧ (r * b + d) % k ≤ k - 1 :=
  ⟨Int.emod_nonneg _ (by omega), by have := Int.emod_lt_of_pos (r * b + d) (show 0 < k by omega); omega⟩

/-- As RetL, the capacity told besides. -/
def RetLC (w : World) (xs : List Int) (e : Ending) (w' : World) : Prop :=
  ∃ A c, e = .returned (.slice A xs.length c) ∧ OI w' w.heap.size A xs ∧ Below w.heap.size w w' ∧ xs.length ≤ c ∧ c ≤ maxLen
theorem RetLC.of {w w' : World} {v : Value} {xs ys : List Int} (h : Row w' w.heap.size v xs) (hb : Below w.heap.size w w') (e : xs = ys) : RetLC w ys (.returned v) w' := by
  subst e
  rcases h.2 with ⟨h1, h2⟩ | ⟨g, cap, cur, hv, _, _, hn, hm, _⟩
  · subst h1
    rw [List.eq_nil_of_length_eq_zero h2] at h ⊢
    exact ⟨none, 0, rfl, .inl rfl, hb, Nat.le_refl _, Nat.zero_le _⟩
  · subst hv
    exact ⟨_, cap, rfl, (OI.of_own h).2, hb, hn, hm⟩
theorem RetLC.toL {w w' : World} {xs : List Int} {e : Ending} (h : RetLC w xs e w') : RetL w xs e w' := by
  obtain ⟨A, c, h1, h2, h3, _⟩ := h
  exact ⟨A, c, h1, h2, h3⟩

set_option maxHeartbeats 1000000 in
/-- The list turned. -/
theorem s_turnC (A : Option Addr) (xs : List Int) (c : Nat) (w : World) (hR : RI w w.heap.size A xs) (hl : xs.length ≤ 4294967296) :
    Calls Try.prog 46 #[.slice A xs.length c] w (RetLC w xs.reverse) := by
  obtain ⟨i0, hi, hz0, hz1, hz2⟩ := info_parts info_int
  go_enter Try.func46, Try.ntmps46
  go_wp2
  go_loopw [3, 4] (fun o i wr => ∃ (q : Nat) (l : List Int), q ≤ xs.length ∧ i = .int .i64 ((q : Int) - 1) ∧ l.length + q ≤ xs.length ∧ Hid (xs.reverse = l ++ (xs.take q).reverse) ∧ Row wr w.heap.size o l ∧ Below w.heap.size w wr) (fun _ i _ => (intOf i + 1).toNat)
  case atStart => exact ⟨xs.length, [], Nat.le_refl _, rfl, by simp, by unfold Hid; simp, Row.made w, b_alloc (Below.refl _ _) _⟩
  case round =>
    obtain ⟨q, l, hq, rfl, hlj, hD, hO, hW⟩ := hrel
    have HW := Lib.hid hW
    have hw0 := hW.size
    have hRw := hR.below hW
    clear hW
    rcases Nat.eq_zero_or_pos q with rfl | hp
    · go_wp2
      go_ret
      exact RetLC.of hO HW.out (by have := hD.out; simpa using this.symm)
    · obtain ⟨q, rfl⟩ : ∃ p, q = p + 1 := ⟨q - 1, by omega⟩
      have hlt : q < xs.length := by omega
      obtain ⟨b0, off, hA, hb0, hc⟩ := hRw.at_ hlt
      subst hA
      have HR := Lib.hid hR
      clear hR hRw
      obtain ⟨d, hd⟩ : ∃ d, d = xs.getD q 0 := ⟨_, rfl⟩
      rw [← hd] at hc
      have HX := Lib.hid hd
      clear hd
      have e : ((q + 1 : Nat) : Int) - 1 = q := by omega
      rw [e]
      clear e
      go_wp2_with (first | (at_builtin; refine wpList_append_own _ rfl _ _ 25 rfl w.heap.size 3 i0 (.int .i64 0) 1 8 Try.underlying25 hi hz0 hz1 hz2 rfl (by decide) _ _ _ rfl (World.ownsRow.alloc hO _) ⟨wr.heap.size, 0, none⟩ 1 1 [.int .i64 d] rfl rfl (cell_one_new _ _ _) ?c1_1 ?c1_2 ?c1_3 ?c1_4 ?_))
      case c1_1 => first | rfl | (intro u hu; simp at hu; subst hu; rfl)
      case c1_2 => unfold maxLen; omega
      case c1_3 => omega
      case c1_4 => first | omega | (simp; omega)
      intro v1 w1 hown1 hgrow1 _
      have HO := Lib.hid (Row.app hown1)
      have HW1 := Lib.hid (Row.grow hO HW.out hgrow1)
      clear hown1 hgrow1 hO HW
      go_wp2
      go_roundw
      case rel => exact ⟨q, l ++ [d], by omega, rfl, by simp; omega, by have := hD.out; rw [take_rev hlt, ← HX.out] at this; unfold Hid; rw [this]; simp, HO.out, HW1.out⟩
      case measure => simp [intOf]
theorem s_turn (A : Option Addr) (xs : List Int) (c : Nat) (w : World) (hR : RI w w.heap.size A xs) (hl : xs.length ≤ 4294967296) :
    Calls Try.prog 46 #[.slice A xs.length c] w (RetL w xs.reverse) :=
  (s_turnC A xs c w hR hl).mono fun _ _ h => h.toL

set_option maxHeartbeats 1000000 in
theorem i_rst (A : Option Addr) (xs : List Int) (c : Nat) (b k : Int) (w : World) (hR : RI w w.heap.size A xs) (hl : xs.length ≤ 4294967296) :
    Calls Try.prog 25 #[.slice A xs.length c, .int .i64 b, .int .i64 k] w (RetL w (rstR b k xs)) := by
  by_cases h : CarP b k xs
  · rw [rstR_t h]
    have H := Lib.hid h
    obtain ⟨⟨h1, h2, h60, _⟩, k1, k2⟩ := h
    obtain ⟨i0, hi, hz0, hz1, hz2⟩ := info_parts info_int
    have HD := Lib.hid (digB_t H.out.1)
    go_enter Try.func25, Try.ntmps25
    go_wp2_with (first | (go_at_call 36; refine (i_digOk A xs c b _ hR hl).mono ?_; rw [HD.out]; rintro e w1 ⟨rfl, hb1⟩) | (go_at_call 40; refine (i_factor k _ true ⟨fun _ => ⟨k1, k2⟩, fun _ => rfl⟩).mono ?_; rintro e w2 ⟨rfl, rfl⟩))
    have hsz1 := hb1.size
    have HB1 := Lib.hid hb1
    clear hb1
    go_loopw [7, 8, 9] (fun o y i wr => ∃ (q : Nat) (r : Int) (l : List Int), q ≤ xs.length ∧ i = .int .i64 ((q : Int) - 1) ∧ y = .int .i64 r ∧ 0 ≤ r ∧ r ≤ k - 1 ∧ l.length + q ≤ xs.length ∧ Hid (rstL b k 0 xs.reverse = l ++ rstL b k r (xs.take q).reverse) ∧ Row wr w.heap.size o l ∧ Below w.heap.size w wr) (fun _ _ i _ => (intOf i + 1).toNat)
    case atStart => exact ⟨xs.length, 0, [], Nat.le_refl _, rfl, rfl, by omega, by omega, by simp, by unfold Hid; simp, Row.nil _ _, HB1.out⟩
    case round =>
      obtain ⟨q, r, l, hq, rfl, rfl, hr0, hr1, hlj, hD, hO, hW⟩ := hrel
      have HW := Lib.hid hW
      have hw0 := hW.size
      have hRw := hR.below hW
      clear hW
      rcases Nat.eq_zero_or_pos q with rfl | hp
      · go_wp2
        go_ret
        exact RetL.of hO HW.out (by have := hD.out; simpa [rstL] using this.symm)
      · obtain ⟨q, rfl⟩ : ∃ p, q = p + 1 := ⟨q - 1, by omega⟩
        have hlt : q < xs.length := by omega
        obtain ⟨b0, off, hA, hb0, hc⟩ := hRw.at_ hlt
        subst hA
        have HR := Lib.hid hR
        clear hR hRw
        obtain ⟨d1, d2⟩ := H.out.1.bd hlt
        obtain ⟨d, hd⟩ : ∃ d, d = xs.getD q 0 := ⟨_, rfl⟩
        rw [← hd] at hc d1 d2
        have HX := Lib.hid hd
        clear hd
        have e : ((q + 1 : Nat) : Int) - 1 = q := by omega
        rw [e]
        clear e
        obtain ⟨p0, p1⟩ := mul_bd256 h1 h2 hr0 (show r ≤ 15 by omega)
        obtain ⟨e0, e1⟩ := rst_bd (r := r) (b := b) (d := d) k1
        go_wp2_with (first | (at_builtin; refine wpList_append_own _ rfl _ _ 25 rfl w.heap.size 3 i0 (.int .i64 0) 1 8 Try.underlying25 hi hz0 hz1 hz2 rfl (by decide) _ _ _ rfl (World.ownsRow.alloc hO _) ⟨wr.heap.size, 0, none⟩ 1 1 [.int .i64 ((r * b + d) % k)] rfl rfl (cell_one_new _ _ _) ?c2_1 ?c2_2 ?c2_3 ?c2_4 ?_))
        case c2_1 => first | rfl | (intro u hu; simp at hu; subst hu; rfl)
        case c2_2 => unfold maxLen; omega
        case c2_3 => omega
        case c2_4 => first | omega | (simp; omega)
        intro v1 w1 hown1 hgrow1 _
        have HO := Lib.hid (Row.app hown1)
        have HW1 := Lib.hid (Row.grow hO HW.out hgrow1)
        clear hown1 hgrow1 hO HW
        go_wp2
        go_roundw
        case rel => exact ⟨q, (r * b + d) % k, l ++ [(r * b + d) % k], by omega, rfl, rfl, e0, e1, by simp; omega, by have := hD.out; rw [take_rev hlt, ← HX.out] at this; unfold Hid; rw [this]; simp [rstL], HO.out, HW1.out⟩
        case measure => simp [intOf]
  · rw [rstR_f h]
    have H := Lib.hid h
    clear h
    by_cases hd : DigP b xs
    · have HD := Lib.hid (digB_t hd)
      have HK := Lib.hid (fun hk => H.out ⟨hd, hk⟩)
      clear hd
      go_enter Try.func25, Try.ntmps25
      go_wp2_with (first | (go_at_call 36; refine (i_digOk A xs c b _ hR hl).mono ?_; rw [HD.out]; rintro e w1 ⟨rfl, hb1⟩) | (go_at_call 40; refine (i_factor k _ false ⟨fun h => Bool.noConfusion h, fun h => absurd h HK.out⟩).mono ?_; rintro e w2 ⟨rfl, rfl⟩))
      go_ret
      exact RetL.nil _ _ hb1
    · have HD := Lib.hid (digB_f hd)
      clear hd
      go_enter Try.func25, Try.ntmps25
      go_wp2_with (first | (go_at_call 36; refine (i_digOk A xs c b _ hR hl).mono ?_; rw [HD.out]; rintro e w1 ⟨rfl, hb1⟩))
      go_ret
      exact RetL.nil _ _ hb1

set_option maxHeartbeats 1000000 in
theorem s_rst (A : Option Addr) (xs : List Int) (c : Nat) (b k : Int) (w : World) (hR : RI w w.heap.size A xs) (hl : xs.length ≤ 4294967296) :
    Calls Try.prog 24 #[.slice A xs.length c, .int .i64 b, .int .i64 k] w (RetL w (rstR b k xs)) := by
  by_cases h : CarP b k xs
  · rw [rstR_t h]
    have H := Lib.hid h
    obtain ⟨⟨h1, h2, h60, _⟩, k1, k2⟩ := h
    obtain ⟨i0, hi, hz0, hz1, hz2⟩ := info_parts info_int
    go_enter Try.func24, Try.ntmps24
    go_wp2_with (first | (go_at_call 45; refine (s_factor b k A xs c _ hR hl true ⟨fun _ => H.out, fun _ => rfl⟩).mono ?_; rintro e w1 ⟨rfl, hb1⟩))
    have hsz1 := hb1.size
    have hR1 := hR.below hb1
    have HB1 := Lib.hid hb1
    clear hb1 hR
    refine (s_turn A xs c _ ((hR1.below ((Below.refl _ w1).alloc hsz1 _)).more (by simp; omega)) hl).mono ?_
    rintro e w2 ⟨S, cS, rfl, hOS, hb2⟩
    have hRS := hOS.reads
    have HL := Lib.hid (OI.low (by simpa using hOS))
    have HB2 := Lib.hid (b_step (b_alloc HB1.out _) hb2)
    have hsz2 : w1.heap.size + 1 ≤ w2.heap.size := by have := hb2.size; simpa using this
    have HR2 := Lib.hid (((Row.made w1).below hb2).mono hsz1)
    obtain ⟨ys, hys⟩ : ∃ ys, ys = xs.reverse := ⟨_, rfl⟩
    have hyl : ys.length ≤ 60 := by rw [hys, List.length_reverse]; exact h60
    have HY := Lib.hid (show ∀ j, j < ys.length → 0 ≤ ys.getD j 0 ∧ ys.getD j 0 ≤ b - 1 from fun j hj => by
      have hm := getD_mem hj
      rw [hys, List.mem_reverse] at hm
      rw [hys]
      exact allB_iff.1 H.out.1.2.2.2.1 _ hm)
    have HYS := Lib.hid hys
    rw [← hys]
    rw [← hys] at hRS HL
    clear hb2 hOS hR1 hys
    have HRS := Lib.hid hRS
    clear hRS
    go_wp2
    go_loopw [7, 8, 20] (fun o y i wr => ∃ (j : Nat) (r : Int) (l : List Int), j ≤ ys.length ∧ i = .int .i64 j ∧ y = .int .i64 r ∧ 0 ≤ r ∧ r ≤ k - 1 ∧ l.length ≤ j ∧ Hid (rstL b k 0 ys = l ++ rstL b k r (ys.drop j)) ∧ Row wr w.heap.size o l ∧ Below w.heap.size w wr ∧
      Hid (RI wr w2.heap.size S ys) ∧ Hid (∀ g, o.ownBlock = some g → g = w1.heap.size ∨ w2.heap.size ≤ g) ∧ w2.heap.size ≤ wr.heap.size) (fun _ _ i _ => ys.length - (intOf i).toNat)
    case atStart => exact ⟨0, 0, [], Nat.zero_le _, rfl, rfl, by omega, by omega, by simp, rfl, HR2.out, HB2.out, HRS.out, fun g hg => .inl (by simp [Value.ownBlock] at hg; omega), Nat.le_refl _⟩
    case round =>
      obtain ⟨j, r, l, hj, rfl, rfl, hr0, hr1, hlj, hD, hO, hW, RX, hP, hK⟩ := hrel
      have HW := Lib.hid hW
      have hw0 := hW.size
      clear hW
      by_cases hlt : j < ys.length
      · obtain ⟨b0, off, hA, hb0, hc⟩ := RX.out.at_ hlt
        subst hA
        obtain ⟨d1, d2⟩ := HY.out j hlt
        obtain ⟨d, hd⟩ : ∃ d, d = ys.getD j 0 := ⟨_, rfl⟩
        rw [← hd] at hc d1 d2
        have HX := Lib.hid hd
        clear hd
        obtain ⟨p0, p1⟩ := mul_bd256 h1 h2 hr0 (show r ≤ 15 by omega)
        obtain ⟨e0, e1⟩ := rst_bd (r := r) (b := b) (d := d) k1
        go_wp2_with (first | (at_builtin; refine wpList_append_own_at _ rfl _ _ 25 rfl w.heap.size 3 i0 (.int .i64 0) 1 8 Try.underlying25 hi hz0 hz1 hz2 rfl (by decide) _ _ _ rfl (World.ownsRow.alloc hO _) ⟨wr.heap.size, 0, none⟩ 1 1 [.int .i64 ((r * b + d) % k)] rfl rfl (cell_one_new _ _ _) ?c3_1 ?c3_2 ?c3_3 ?c3_4 ?_))
        case c3_1 => first | rfl | (intro u hu; simp at hu; subst hu; rfl)
        case c3_2 => unfold maxLen; omega
        case c3_3 => omega
        case c3_4 => first | omega | (simp; omega)
        intro v1 w1' hown1 hgrow1 _ hat1
        have HO := Lib.hid (Row.app hown1)
        have HW1 := Lib.hid (Row.grow hO HW.out hgrow1)
        have HRX := Lib.hid (RX.out.grownX HL.out ((Below.refl _ _).alloc hK _) hgrow1 hP.out hK)
        have HP1 := Lib.hid (atOr hP.out hat1 hK)
        have hgK := Nat.le_trans hK (Nat.le_trans (by simp) hgrow1.size)
        clear hown1 hgrow1 hat1 hO HW
        go_wp2
        go_roundw
        case rel => exact ⟨j + 1, (r * b + d) % k, l ++ [(r * b + d) % k], by omega, by go_num, rfl, e0, e1, by simp; omega, by have := hD.out; rw [drop_getD hlt, ← HX.out] at this; unfold Hid; rw [this]; simp [rstL], HO.out, HW1.out, HRX, HP1, hgK⟩
        case measure => simp [intOf]; omega
      · obtain rfl : j = ys.length := by omega
        go_wp2
        go_ret
        exact RetL.of hO HW.out (by have := hD.out; rw [List.drop_length] at this; rw [← HYS.out]; simpa [rstL] using this.symm)
  · rw [rstR_f h]
    have H := Lib.hid h
    clear h
    go_enter Try.func24, Try.ntmps24
    go_wp2_with (first | (go_at_call 45; refine (s_factor b k A xs c _ hR hl false ⟨fun h => Bool.noConfusion h, fun h => absurd h H.out⟩).mono ?_; rintro e w1 ⟨rfl, hb1⟩))
    go_ret
    exact RetL.nil _ _ hb1
end Go.Proofs.Ytpjdmapfnojhnaa
