/- Contracts of RedundantAdd (program and reference). Conditions: lengths of at most 2^20. -/
import Derived.Test.YtpjdmapfnojhnaaDigs
import Derived.Test.YtpjdmapfnojhnaaRedVal
namespace Go.Proofs.Ytpjdmapfnojhnaa
open Go.RowKit
set_option linter.unusedVariables false

/-- What a function hands back that makes a list, and a Bool besides. -/
def RetLB (w : World) (xs : List Int) (t : Bool) (e : Ending) (w' : World) : Prop :=
  ∃ A c, e = .returned (.tuple #[.slice A xs.length c, .bool t]) ∧ OI w' w.heap.size A xs ∧ Below w.heap.size w w'
theorem RetLB.nil (w w' : World) (hb : Below w.heap.size w w') : RetLB w [] false (.returned (.tuple #[.slice none 0 0, .bool false])) w' := ⟨none, 0, rfl, .inl rfl, hb⟩
theorem RetLB.of {w w' : World} {v : Value} {xs ys : List Int} {t : Bool} (h : Row w' w.heap.size v xs) (hb : Below w.heap.size w w') (e : xs = ys) : RetLB w ys t (.returned (.tuple #[v, .bool t])) w' := by
  subst e
  obtain ⟨A, c, rfl⟩ := h.shape
  exact ⟨A, c, rfl, (OI.of_own h).2, hb⟩

/-! Addition without carries that go on. -/
def nx (b s : Int) : Int := if b - 1 ≤ s then 1 else if s ≤ -(b - 1) then -1 else 0
def sm (a c : List Int) (k : Nat) : Int := a.getD k 0 + c.getD k 0
def tr (b : Int) (a c : List Int) : Nat → Int
  | 0 => 0
  | k + 1 => nx b (sm a c k)
def dgt (b : Int) (a c : List Int) (k : Nat) : Int := sm a c k - b * nx b (sm a c k) + tr b a c k
def rows (b : Int) (a c : List Int) (n : Nat) : List Int := (List.range n).map (dgt b a c)
theorem rows_succ (b : Int) (a c : List Int) (n : Nat) : rows b a c (n + 1) = rows b a c n ++ [dgt b a c n] := by simp [rows, List.range_succ]
theorem length_rows (b : Int) (a c : List Int) (n : Nat) : (rows b a c n).length = n := by simp [rows]
def big (a c : List Int) : Nat := max a.length c.length
/-- All digits of the sum. -/
def addL (b : Int) (a c : List Int) : List Int := rows b a c (big a c) ++ if tr b a c (big a c) = 0 then [] else [tr b a c (big a c)]
theorem nx_bd (b s : Int) : -1 ≤ nx b s ∧ nx b s ≤ 1 := by unfold nx; split <;> (try split) <;> omega
theorem tr_bd (b : Int) (a c : List Int) : ∀ k, -1 ≤ tr b a c k ∧ tr b a c k ≤ 1
  | 0 => by simp [tr]
  | k + 1 => nx_bd _ _
theorem getD_bd {b : Int} {xs : List Int} (h : RedP b xs) (k : Nat) : -15 ≤ xs.getD k 0 ∧ xs.getD k 0 ≤ 15 := by
  rcases Nat.lt_or_ge k xs.length with hk | hk
  · have := h.digits _ (getD_mem hk); omega
  · rw [List.getD_eq_getElem?_getD, List.getElem?_eq_none hk]; simp
theorem Row.congr {w : World} {B : Nat} {v : Value} {l : List Int} {x y : Int} (h : Row w B v (l ++ [x])) (e : y = x) : Row w B v (l ++ [y]) := by rw [e]; exact h
noncomputable def addOk (b : Int) (a c : List Int) : Bool := redB b a && redB b c && redB b (addL b a c)
noncomputable def addR (b : Int) (a c : List Int) : List Int := if addOk b a c then addL b a c else []
theorem length_addL (b : Int) (a c : List Int) : (addL b a c).length ≤ big a c + 1 := by
  unfold addL; rw [List.length_append, length_rows]; split <;> simp
theorem redB_iff {b : Int} {xs : List Int} : redB b xs = true ↔ RedP b xs := by
  constructor
  · intro h; exact Classical.byContradiction fun hn => by rw [redB_f hn] at h; cases h
  · exact redB_t
theorem length_addR (b : Int) (a c : List Int) (ha : a.length ≤ 1048576) (hc : c.length ≤ 1048576) : (addR b a c).length ≤ 4294967296 := by
  unfold addR
  split
  · have := length_addL b a c; unfold big at this; omega
  · simp

theorem s_at (A : Option Addr) (xs : List Int) (c k : Nat) (w : World) (hR : RI w w.heap.size A xs) (hl : xs.length ≤ 4294967296) (hk : k ≤ 4294967296) :
    Calls Try.prog 51 #[.slice A xs.length c, .int .i64 k] w fun e w' => e = .returned (.int .i64 (xs.getD k 0)) ∧ w = w' := by
  by_cases h : k < xs.length
  · obtain ⟨b1, off1, hA1, hlb1, hc1⟩ := hR.at_ h
    subst hA1
    obtain ⟨p, hp⟩ : ∃ p, p = xs.getD k 0 := ⟨_, rfl⟩
    rw [← hp] at hc1 ⊢
    clear hp hR
    go_enter Try.func51, Try.ntmps51
    go_wp2
    go_ret
    exact ⟨rfl, rfl⟩
  · have hp : xs.getD k 0 = 0 := by rw [List.getD_eq_getElem?_getD, List.getElem?_eq_none (by omega)]; rfl
    rw [hp]
    clear hp hR
    go_enter Try.func51, Try.ntmps51
    go_wp2
    go_ret
    exact ⟨rfl, rfl⟩

set_option maxHeartbeats 4000000 in
theorem i_add (A C : Option Addr) (xs ys : List Int) (c1 c2 : Nat) (b : Int) (w : World) (hR : RI w w.heap.size A xs) (hS : RI w w.heap.size C ys) (hlx : xs.length ≤ 1048576) (hly : ys.length ≤ 1048576) :
    Calls Try.prog 31 #[.slice A xs.length c1, .slice C ys.length c2, .int .i64 b] w (RetLB w (addR b xs ys) (addOk b xs ys)) := by
  by_cases ha : RedP b xs
  · have HA := Lib.hid (redB_t ha)
    by_cases hc : RedP b ys
    · have HC := Lib.hid (redB_t hc)
      obtain ⟨i0, hi, hz0, hz1, hz2⟩ := info_parts info_int
      have GA := Lib.hid (getD_bd ha)
      have GC := Lib.hid (getD_bd hc)
      have b3 := ha.1
      have b16 := ha.2.1
      have hbig : big xs ys ≤ 12 := by unfold big; have := ha.2.2.1; have := hc.2.2.1; omega
      have lx : xs.length ≤ 12 := ha.2.2.1
      have ly : ys.length ≤ 12 := hc.2.2.1
      clear ha hc
      go_enter Try.func31, Try.ntmps31
      go_wp2_with fail
      refine (i_redOk A xs c1 b _ hR (by omega)).mono ?_
      rw [HA.out]
      rintro e w1 ⟨rfl, hb1⟩
      have hR1 := hR.below hb1
      have hS1 := hS.below hb1
      have T1 := b_step (Below.refl _ _) hb1
      have s1 := hb1.size
      clear hb1
      go_wp2_with fail
      refine (i_redOk C ys c2 b _ (hS1.more s1) (by omega)).mono ?_
      rw [HC.out]
      rintro e w2 ⟨rfl, hb2⟩
      have hR2 := hR1.below (hb2.mono s1)
      have hS2 := hS1.below (hb2.mono s1)
      have T2 := b_step T1 hb2
      have s2 := hb2.size
      clear hb2 hR1 hS1 T1
      have HRX := Lib.hid hR
      have HRY := Lib.hid hS
      have T2' := Lib.hid T2
      clear hR hS hR2 hS2 T2
      have T2 := T2'
      by_cases hm : xs.length < ys.length
      · have g1 : big xs ys ≤ ys.length := by unfold big; omega
        have g2 : ys.length ≤ big xs ys := by unfold big; omega
        go_wp2
        go_loopw [8, 9, 28] (fun o y i wr => ∃ (k : Nat) (t : Int), k ≤ big xs ys ∧ i = .int .i64 k ∧ y = .int .i64 t ∧ Hid (t = tr b xs ys k) ∧ Row wr w.heap.size o (rows b xs ys k) ∧ Below w.heap.size w wr) (fun _ _ i _ => big xs ys - (intOf i).toNat)
        case atStart => exact ⟨0, 0, Nat.zero_le _, rfl, rfl, rfl, Row.nil _ _, T2.out⟩
        case round =>
          obtain ⟨k, t, hk, rfl, rfl, hT, hO, hW⟩ := hrel
          have HW := Lib.hid hW
          have hw0 := hW.size
          have RX := HRX.out.below hW
          have RY := HRY.out.below hW
          clear hW
          have ht := tr_bd b xs ys k
          rw [← hT.out] at ht
          obtain ⟨t1, t2⟩ := ht
          have hlr : (rows b xs ys k).length ≤ 12 := by rw [length_rows]; omega
          by_cases hlt : k < big xs ys
          · have hbx : k < xs.length ∨ k < ys.length := by unfold big at hlt; omega
            by_cases hx : k < xs.length
            · skip
              obtain ⟨b1, off1, hA1, hlb1, hc1⟩ := RX.at_ hx
              subst hA1
              obtain ⟨p, hp⟩ : ∃ p, p = xs.getD k 0 := ⟨_, rfl⟩
              obtain ⟨p1, p2⟩ := GA.out k
              rw [← hp] at hc1 p1 p2
              by_cases hy : k < ys.length
              · skip
                obtain ⟨b2, off2, hA2, hlb2, hc2⟩ := RY.at_ hy
                subst hA2
                obtain ⟨q, hq⟩ : ∃ q, q = ys.getD k 0 := ⟨_, rfl⟩
                obtain ⟨q1, q2⟩ := GC.out k
                rw [← hq] at hc2 q1 q2
                have HS : Hid (sm xs ys k = p + q) := by unfold Hid sm; rw [← hp, ← hq]; try omega
                clear hp hq RX RY hbx
                by_cases n1 : b - 1 ≤ p + q
                · skip
                  have HN : Hid (nx b (sm xs ys k) = 1) := by unfold Hid; rw [HS.out]; unfold nx; rw [if_pos n1]
                  have HE : Hid (dgt b xs ys k = p + q - b + t) := by unfold Hid dgt; rw [HN.out, HS.out, ← hT.out]; try omega
                  have HTN : Hid ((1 : Int) = tr b xs ys (k + 1)) := HN.out.symm
                  go_wp2_with (first | (at_builtin; refine wpList_append_own _ rfl _ _ 25 rfl w.heap.size 3 i0 (.int .i64 0) 1 8 Try.underlying25 hi hz0 hz1 hz2 rfl (by decide) _ _ _ rfl (World.ownsRow.alloc hO _) ⟨wr.heap.size, 0, none⟩ 1 1 [.int .i64 _] rfl rfl (cell_one_new _ _ _) ?c1_1 ?c1_2 ?c1_3 ?c1_4 ?_))
                  case c1_1 => first | rfl | (intro u hu; simp at hu; subst hu; rfl)
                  case c1_2 => unfold maxLen; omega
                  case c1_3 => omega
                  case c1_4 => first | omega | (simp; omega)
                  intro v1 w1 hown1 hgrow1 _
                  have HO := Lib.hid (Row.app hown1)
                  have HW1 := Lib.hid (Row.grow hO HW.out hgrow1)
                  clear hown1 hgrow1 hO HW
                  go_wp2
                  go_roundw
                  case rel => exact ⟨k + 1, 1, by omega, by go_num, rfl, HTN, by rw [rows_succ]; exact Row.congr HO.out (by rw [HE.out]; try omega), HW1.out⟩
                  case measure => simp [intOf]; omega
                · by_cases n2 : p + q ≤ -(b - 1)
                  · skip
                    have HN : Hid (nx b (sm xs ys k) = -1) := by unfold Hid; rw [HS.out]; unfold nx; rw [if_neg n1, if_pos n2]
                    have HE : Hid (dgt b xs ys k = p + q + b + t) := by unfold Hid dgt; rw [HN.out, HS.out, ← hT.out]; try omega
                    have HTN : Hid ((-1 : Int) = tr b xs ys (k + 1)) := HN.out.symm
                    have n3 : p + q ≤ 1 - b := by omega
                    have n4 : ¬ (b - 1 ≤ p + q) := n1
                    go_wp2_with (first | (at_builtin; refine wpList_append_own _ rfl _ _ 25 rfl w.heap.size 3 i0 (.int .i64 0) 1 8 Try.underlying25 hi hz0 hz1 hz2 rfl (by decide) _ _ _ rfl (World.ownsRow.alloc hO _) ⟨wr.heap.size, 0, none⟩ 1 1 [.int .i64 _] rfl rfl (cell_one_new _ _ _) ?c2_1 ?c2_2 ?c2_3 ?c2_4 ?_))
                    case c2_1 => first | rfl | (intro u hu; simp at hu; subst hu; rfl)
                    case c2_2 => unfold maxLen; omega
                    case c2_3 => omega
                    case c2_4 => first | omega | (simp; omega)
                    intro v1 w1 hown1 hgrow1 _
                    have HO := Lib.hid (Row.app hown1)
                    have HW1 := Lib.hid (Row.grow hO HW.out hgrow1)
                    clear hown1 hgrow1 hO HW
                    go_wp2
                    go_roundw
                    case rel => exact ⟨k + 1, -1, by omega, by go_num, rfl, HTN, by rw [rows_succ]; exact Row.congr HO.out (by rw [HE.out]; try omega), HW1.out⟩
                    case measure => simp [intOf]; omega
                  · skip
                    have HN : Hid (nx b (sm xs ys k) = 0) := by unfold Hid; rw [HS.out]; unfold nx; rw [if_neg n1, if_neg n2]
                    have HE : Hid (dgt b xs ys k = p + q + t) := by unfold Hid dgt; rw [HN.out, HS.out, ← hT.out]; try omega
                    have HTN : Hid ((0 : Int) = tr b xs ys (k + 1)) := HN.out.symm
                    have n3 : ¬ (p + q ≤ 1 - b) := by omega
                    go_wp2_with (first | (at_builtin; refine wpList_append_own _ rfl _ _ 25 rfl w.heap.size 3 i0 (.int .i64 0) 1 8 Try.underlying25 hi hz0 hz1 hz2 rfl (by decide) _ _ _ rfl (World.ownsRow.alloc hO _) ⟨wr.heap.size, 0, none⟩ 1 1 [.int .i64 _] rfl rfl (cell_one_new _ _ _) ?c3_1 ?c3_2 ?c3_3 ?c3_4 ?_))
                    case c3_1 => first | rfl | (intro u hu; simp at hu; subst hu; rfl)
                    case c3_2 => unfold maxLen; omega
                    case c3_3 => omega
                    case c3_4 => first | omega | (simp; omega)
                    intro v1 w1 hown1 hgrow1 _
                    have HO := Lib.hid (Row.app hown1)
                    have HW1 := Lib.hid (Row.grow hO HW.out hgrow1)
                    clear hown1 hgrow1 hO HW
                    go_wp2
                    go_roundw
                    case rel => exact ⟨k + 1, 0, by omega, by go_num, rfl, HTN, by rw [rows_succ]; exact Row.congr HO.out (by rw [HE.out]; try omega), HW1.out⟩
                    case measure => simp [intOf]; omega
              · skip
                omega
            · skip
              have hp : (0 : Int) = xs.getD k 0 := by rw [List.getD_eq_getElem?_getD, List.getElem?_eq_none (by omega)]; rfl
              by_cases hy : k < ys.length
              · skip
                obtain ⟨b2, off2, hA2, hlb2, hc2⟩ := RY.at_ hy
                subst hA2
                obtain ⟨q, hq⟩ : ∃ q, q = ys.getD k 0 := ⟨_, rfl⟩
                obtain ⟨q1, q2⟩ := GC.out k
                rw [← hq] at hc2 q1 q2
                have HS : Hid (sm xs ys k = q) := by unfold Hid sm; rw [← hp, ← hq]; try omega
                clear hp hq RX RY hbx
                by_cases n1 : b - 1 ≤ q
                · skip
                  have HN : Hid (nx b (sm xs ys k) = 1) := by unfold Hid; rw [HS.out]; unfold nx; rw [if_pos n1]
                  have HE : Hid (dgt b xs ys k = q - b + t) := by unfold Hid dgt; rw [HN.out, HS.out, ← hT.out]; try omega
                  have HTN : Hid ((1 : Int) = tr b xs ys (k + 1)) := HN.out.symm
                  go_wp2_with (first | (at_builtin; refine wpList_append_own _ rfl _ _ 25 rfl w.heap.size 3 i0 (.int .i64 0) 1 8 Try.underlying25 hi hz0 hz1 hz2 rfl (by decide) _ _ _ rfl (World.ownsRow.alloc hO _) ⟨wr.heap.size, 0, none⟩ 1 1 [.int .i64 _] rfl rfl (cell_one_new _ _ _) ?c4_1 ?c4_2 ?c4_3 ?c4_4 ?_))
                  case c4_1 => first | rfl | (intro u hu; simp at hu; subst hu; rfl)
                  case c4_2 => unfold maxLen; omega
                  case c4_3 => omega
                  case c4_4 => first | omega | (simp; omega)
                  intro v1 w1 hown1 hgrow1 _
                  have HO := Lib.hid (Row.app hown1)
                  have HW1 := Lib.hid (Row.grow hO HW.out hgrow1)
                  clear hown1 hgrow1 hO HW
                  go_wp2
                  go_roundw
                  case rel => exact ⟨k + 1, 1, by omega, by go_num, rfl, HTN, by rw [rows_succ]; exact Row.congr HO.out (by rw [HE.out]; try omega), HW1.out⟩
                  case measure => simp [intOf]; omega
                · by_cases n2 : q ≤ -(b - 1)
                  · skip
                    have HN : Hid (nx b (sm xs ys k) = -1) := by unfold Hid; rw [HS.out]; unfold nx; rw [if_neg n1, if_pos n2]
                    have HE : Hid (dgt b xs ys k = q + b + t) := by unfold Hid dgt; rw [HN.out, HS.out, ← hT.out]; try omega
                    have HTN : Hid ((-1 : Int) = tr b xs ys (k + 1)) := HN.out.symm
                    have n3 : q ≤ 1 - b := by omega
                    have n4 : ¬ (b - 1 ≤ q) := n1
                    go_wp2_with (first | (at_builtin; refine wpList_append_own _ rfl _ _ 25 rfl w.heap.size 3 i0 (.int .i64 0) 1 8 Try.underlying25 hi hz0 hz1 hz2 rfl (by decide) _ _ _ rfl (World.ownsRow.alloc hO _) ⟨wr.heap.size, 0, none⟩ 1 1 [.int .i64 _] rfl rfl (cell_one_new _ _ _) ?c5_1 ?c5_2 ?c5_3 ?c5_4 ?_))
                    case c5_1 => first | rfl | (intro u hu; simp at hu; subst hu; rfl)
                    case c5_2 => unfold maxLen; omega
                    case c5_3 => omega
                    case c5_4 => first | omega | (simp; omega)
                    intro v1 w1 hown1 hgrow1 _
                    have HO := Lib.hid (Row.app hown1)
                    have HW1 := Lib.hid (Row.grow hO HW.out hgrow1)
                    clear hown1 hgrow1 hO HW
                    go_wp2
                    go_roundw
                    case rel => exact ⟨k + 1, -1, by omega, by go_num, rfl, HTN, by rw [rows_succ]; exact Row.congr HO.out (by rw [HE.out]; try omega), HW1.out⟩
                    case measure => simp [intOf]; omega
                  · skip
                    have HN : Hid (nx b (sm xs ys k) = 0) := by unfold Hid; rw [HS.out]; unfold nx; rw [if_neg n1, if_neg n2]
                    have HE : Hid (dgt b xs ys k = q + t) := by unfold Hid dgt; rw [HN.out, HS.out, ← hT.out]; try omega
                    have HTN : Hid ((0 : Int) = tr b xs ys (k + 1)) := HN.out.symm
                    have n3 : ¬ (q ≤ 1 - b) := by omega
                    go_wp2_with (first | (at_builtin; refine wpList_append_own _ rfl _ _ 25 rfl w.heap.size 3 i0 (.int .i64 0) 1 8 Try.underlying25 hi hz0 hz1 hz2 rfl (by decide) _ _ _ rfl (World.ownsRow.alloc hO _) ⟨wr.heap.size, 0, none⟩ 1 1 [.int .i64 _] rfl rfl (cell_one_new _ _ _) ?c6_1 ?c6_2 ?c6_3 ?c6_4 ?_))
                    case c6_1 => first | rfl | (intro u hu; simp at hu; subst hu; rfl)
                    case c6_2 => unfold maxLen; omega
                    case c6_3 => omega
                    case c6_4 => first | omega | (simp; omega)
                    intro v1 w1 hown1 hgrow1 _
                    have HO := Lib.hid (Row.app hown1)
                    have HW1 := Lib.hid (Row.grow hO HW.out hgrow1)
                    clear hown1 hgrow1 hO HW
                    go_wp2
                    go_roundw
                    case rel => exact ⟨k + 1, 0, by omega, by go_num, rfl, HTN, by rw [rows_succ]; exact Row.congr HO.out (by rw [HE.out]; try omega), HW1.out⟩
                    case measure => simp [intOf]; omega
              · skip
                omega
          · obtain rfl : k = big xs ys := by omega
            obtain ⟨A1, cA, hAv⟩ := hO.shape
            subst hAv
            by_cases h0 : t = 0
            · skip
              subst h0
              have HF : Hid (addL b xs ys = rows b xs ys (big xs ys)) := by unfold Hid addL; rw [← hT.out]; simp
              have HFIN := Lib.hid (OI.of_own hO).2.reads
              have hOO := Lib.hid (OI.of_own hO).2
              cases hq : redB b (rows b xs ys (big xs ys))
              · have HQ := Lib.hid hq
                clear hq
                have HV := Lib.hid (show addOk b xs ys = false by unfold addOk; rw [HA.out, HC.out, HF.out, HQ.out]; rfl)
                have HR := Lib.hid (show addR b xs ys = [] by unfold addR; rw [HV.out]; rfl)
                go_wp2_with fail
                refine (i_redOk A1 (rows b xs ys (big xs ys)) cA b _ HFIN (by rw [length_rows]; omega)).mono ?_
                rw [HQ.out]
                rintro e w3 ⟨rfl, hb3⟩
                have HW3 := Lib.hid (b_step HW.out hb3)
                have hO3 := hOO.keep hb3
                clear hb3 hOO
                go_wp2
                go_ret2
                rw [HR.out, HV.out]
                exact RetLB.nil _ _ HW3.out
              · have HQ := Lib.hid hq
                clear hq
                have HV := Lib.hid (show addOk b xs ys = true by unfold addOk; rw [HA.out, HC.out, HF.out, HQ.out]; rfl)
                have HR := Lib.hid (show addR b xs ys = rows b xs ys (big xs ys) by unfold addR; rw [HV.out, HF.out]; rfl)
                go_wp2_with fail
                refine (i_redOk A1 (rows b xs ys (big xs ys)) cA b _ HFIN (by rw [length_rows]; omega)).mono ?_
                rw [HQ.out]
                rintro e w3 ⟨rfl, hb3⟩
                have HW3 := Lib.hid (b_step HW.out hb3)
                have hO3 := hOO.keep hb3
                clear hb3 hOO
                go_wp2
                go_ret2
                rw [HR.out, HV.out]
                exact ⟨A1, cA, rfl, hO3, HW3.out⟩
            · skip
              have HF : Hid (addL b xs ys = rows b xs ys (big xs ys) ++ [t]) := by unfold Hid addL; rw [← hT.out]; simp [h0]
              have hb0 : (t != 0) = true := by simp [h0]
              go_wp2_with (first | (at_builtin; refine wpList_append_own _ rfl _ _ 25 rfl w.heap.size 3 i0 (.int .i64 0) 1 8 Try.underlying25 hi hz0 hz1 hz2 rfl (by decide) _ _ _ rfl (World.ownsRow.alloc hO _) ⟨wr.heap.size, 0, none⟩ 1 1 [.int .i64 t] rfl rfl (cell_one_new _ _ _) ?c7_1 ?c7_2 ?c7_3 ?c7_4 ?_))
              case c7_1 => first | rfl | (intro u hu; simp at hu; subst hu; rfl)
              case c7_2 => unfold maxLen; omega
              case c7_3 => omega
              case c7_4 => first | omega | (simp; omega)
              intro v1 w1 hown1 hgrow1 _
              have HO := Lib.hid (Row.app hown1)
              have HW1 := Lib.hid (Row.grow hO HW.out hgrow1)
              clear hown1 hgrow1 hO HW
              obtain ⟨A2, cB, hAv⟩ := HO.out.shape
              subst hAv
              have HFIN := Lib.hid (OI.of_own HO.out).2.reads
              have hOO := Lib.hid (OI.of_own HO.out).2
              have HW := HW1
              cases hq : redB b (rows b xs ys (big xs ys) ++ [t])
              · have HQ := Lib.hid hq
                clear hq
                have HV := Lib.hid (show addOk b xs ys = false by unfold addOk; rw [HA.out, HC.out, HF.out, HQ.out]; rfl)
                have HR := Lib.hid (show addR b xs ys = [] by unfold addR; rw [HV.out]; rfl)
                go_wp2_with fail
                rw [show (rows b xs ys (big xs ys)).length + 1 = (rows b xs ys (big xs ys) ++ [t]).length from by simp]
                refine (i_redOk A2 (rows b xs ys (big xs ys) ++ [t]) cB b _ HFIN (by rw [List.length_append, length_rows]; simp; omega)).mono ?_
                rw [HQ.out]
                rintro e w3 ⟨rfl, hb3⟩
                have HW3 := Lib.hid (b_step HW.out hb3)
                have hO3 := hOO.keep hb3
                clear hb3 hOO
                go_wp2
                go_ret2
                rw [HR.out, HV.out]
                exact RetLB.nil _ _ HW3.out
              · have HQ := Lib.hid hq
                clear hq
                have HV := Lib.hid (show addOk b xs ys = true by unfold addOk; rw [HA.out, HC.out, HF.out, HQ.out]; rfl)
                have HR := Lib.hid (show addR b xs ys = rows b xs ys (big xs ys) ++ [t] by unfold addR; rw [HV.out, HF.out]; rfl)
                go_wp2_with fail
                rw [show (rows b xs ys (big xs ys)).length + 1 = (rows b xs ys (big xs ys) ++ [t]).length from by simp]
                refine (i_redOk A2 (rows b xs ys (big xs ys) ++ [t]) cB b _ HFIN (by rw [List.length_append, length_rows]; simp; omega)).mono ?_
                rw [HQ.out]
                rintro e w3 ⟨rfl, hb3⟩
                have HW3 := Lib.hid (b_step HW.out hb3)
                have hO3 := hOO.keep hb3
                clear hb3 hOO
                go_wp2
                go_ret2
                rw [HR.out, HV.out]
                exact ⟨A2, cB, by simp, hO3, HW3.out⟩
      · have g1 : big xs ys ≤ xs.length := by unfold big; omega
        have g2 : xs.length ≤ big xs ys := by unfold big; omega
        go_wp2
        go_loopw [8, 9, 28] (fun o y i wr => ∃ (k : Nat) (t : Int), k ≤ big xs ys ∧ i = .int .i64 k ∧ y = .int .i64 t ∧ Hid (t = tr b xs ys k) ∧ Row wr w.heap.size o (rows b xs ys k) ∧ Below w.heap.size w wr) (fun _ _ i _ => big xs ys - (intOf i).toNat)
        case atStart => exact ⟨0, 0, Nat.zero_le _, rfl, rfl, rfl, Row.nil _ _, T2.out⟩
        case round =>
          obtain ⟨k, t, hk, rfl, rfl, hT, hO, hW⟩ := hrel
          have HW := Lib.hid hW
          have hw0 := hW.size
          have RX := HRX.out.below hW
          have RY := HRY.out.below hW
          clear hW
          have ht := tr_bd b xs ys k
          rw [← hT.out] at ht
          obtain ⟨t1, t2⟩ := ht
          have hlr : (rows b xs ys k).length ≤ 12 := by rw [length_rows]; omega
          by_cases hlt : k < big xs ys
          · have hbx : k < xs.length ∨ k < ys.length := by unfold big at hlt; omega
            by_cases hx : k < xs.length
            · skip
              obtain ⟨b1, off1, hA1, hlb1, hc1⟩ := RX.at_ hx
              subst hA1
              obtain ⟨p, hp⟩ : ∃ p, p = xs.getD k 0 := ⟨_, rfl⟩
              obtain ⟨p1, p2⟩ := GA.out k
              rw [← hp] at hc1 p1 p2
              by_cases hy : k < ys.length
              · skip
                obtain ⟨b2, off2, hA2, hlb2, hc2⟩ := RY.at_ hy
                subst hA2
                obtain ⟨q, hq⟩ : ∃ q, q = ys.getD k 0 := ⟨_, rfl⟩
                obtain ⟨q1, q2⟩ := GC.out k
                rw [← hq] at hc2 q1 q2
                have HS : Hid (sm xs ys k = p + q) := by unfold Hid sm; rw [← hp, ← hq]; try omega
                clear hp hq RX RY hbx
                by_cases n1 : b - 1 ≤ p + q
                · skip
                  have HN : Hid (nx b (sm xs ys k) = 1) := by unfold Hid; rw [HS.out]; unfold nx; rw [if_pos n1]
                  have HE : Hid (dgt b xs ys k = p + q - b + t) := by unfold Hid dgt; rw [HN.out, HS.out, ← hT.out]; try omega
                  have HTN : Hid ((1 : Int) = tr b xs ys (k + 1)) := HN.out.symm
                  go_wp2_with (first | (at_builtin; refine wpList_append_own _ rfl _ _ 25 rfl w.heap.size 3 i0 (.int .i64 0) 1 8 Try.underlying25 hi hz0 hz1 hz2 rfl (by decide) _ _ _ rfl (World.ownsRow.alloc hO _) ⟨wr.heap.size, 0, none⟩ 1 1 [.int .i64 _] rfl rfl (cell_one_new _ _ _) ?c8_1 ?c8_2 ?c8_3 ?c8_4 ?_))
                  case c8_1 => first | rfl | (intro u hu; simp at hu; subst hu; rfl)
                  case c8_2 => unfold maxLen; omega
                  case c8_3 => omega
                  case c8_4 => first | omega | (simp; omega)
                  intro v1 w1 hown1 hgrow1 _
                  have HO := Lib.hid (Row.app hown1)
                  have HW1 := Lib.hid (Row.grow hO HW.out hgrow1)
                  clear hown1 hgrow1 hO HW
                  go_wp2
                  go_roundw
                  case rel => exact ⟨k + 1, 1, by omega, by go_num, rfl, HTN, by rw [rows_succ]; exact Row.congr HO.out (by rw [HE.out]; try omega), HW1.out⟩
                  case measure => simp [intOf]; omega
                · by_cases n2 : p + q ≤ -(b - 1)
                  · skip
                    have HN : Hid (nx b (sm xs ys k) = -1) := by unfold Hid; rw [HS.out]; unfold nx; rw [if_neg n1, if_pos n2]
                    have HE : Hid (dgt b xs ys k = p + q + b + t) := by unfold Hid dgt; rw [HN.out, HS.out, ← hT.out]; try omega
                    have HTN : Hid ((-1 : Int) = tr b xs ys (k + 1)) := HN.out.symm
                    have n3 : p + q ≤ 1 - b := by omega
                    have n4 : ¬ (b - 1 ≤ p + q) := n1
                    go_wp2_with (first | (at_builtin; refine wpList_append_own _ rfl _ _ 25 rfl w.heap.size 3 i0 (.int .i64 0) 1 8 Try.underlying25 hi hz0 hz1 hz2 rfl (by decide) _ _ _ rfl (World.ownsRow.alloc hO _) ⟨wr.heap.size, 0, none⟩ 1 1 [.int .i64 _] rfl rfl (cell_one_new _ _ _) ?c9_1 ?c9_2 ?c9_3 ?c9_4 ?_))
                    case c9_1 => first | rfl | (intro u hu; simp at hu; subst hu; rfl)
                    case c9_2 => unfold maxLen; omega
                    case c9_3 => omega
                    case c9_4 => first | omega | (simp; omega)
                    intro v1 w1 hown1 hgrow1 _
                    have HO := Lib.hid (Row.app hown1)
                    have HW1 := Lib.hid (Row.grow hO HW.out hgrow1)
                    clear hown1 hgrow1 hO HW
                    go_wp2
                    go_roundw
                    case rel => exact ⟨k + 1, -1, by omega, by go_num, rfl, HTN, by rw [rows_succ]; exact Row.congr HO.out (by rw [HE.out]; try omega), HW1.out⟩
                    case measure => simp [intOf]; omega
                  · skip
                    have HN : Hid (nx b (sm xs ys k) = 0) := by unfold Hid; rw [HS.out]; unfold nx; rw [if_neg n1, if_neg n2]
                    have HE : Hid (dgt b xs ys k = p + q + t) := by unfold Hid dgt; rw [HN.out, HS.out, ← hT.out]; try omega
                    have HTN : Hid ((0 : Int) = tr b xs ys (k + 1)) := HN.out.symm
                    have n3 : ¬ (p + q ≤ 1 - b) := by omega
                    go_wp2_with (first | (at_builtin; refine wpList_append_own _ rfl _ _ 25 rfl w.heap.size 3 i0 (.int .i64 0) 1 8 Try.underlying25 hi hz0 hz1 hz2 rfl (by decide) _ _ _ rfl (World.ownsRow.alloc hO _) ⟨wr.heap.size, 0, none⟩ 1 1 [.int .i64 _] rfl rfl (cell_one_new _ _ _) ?c10_1 ?c10_2 ?c10_3 ?c10_4 ?_))
                    case c10_1 => first | rfl | (intro u hu; simp at hu; subst hu; rfl)
                    case c10_2 => unfold maxLen; omega
                    case c10_3 => omega
                    case c10_4 => first | omega | (simp; omega)
                    intro v1 w1 hown1 hgrow1 _
                    have HO := Lib.hid (Row.app hown1)
                    have HW1 := Lib.hid (Row.grow hO HW.out hgrow1)
                    clear hown1 hgrow1 hO HW
                    go_wp2
                    go_roundw
                    case rel => exact ⟨k + 1, 0, by omega, by go_num, rfl, HTN, by rw [rows_succ]; exact Row.congr HO.out (by rw [HE.out]; try omega), HW1.out⟩
                    case measure => simp [intOf]; omega
              · skip
                have hq : (0 : Int) = ys.getD k 0 := by rw [List.getD_eq_getElem?_getD, List.getElem?_eq_none (by omega)]; rfl
                have HS : Hid (sm xs ys k = p) := by unfold Hid sm; rw [← hp, ← hq]; try omega
                clear hp hq RX RY hbx
                by_cases n1 : b - 1 ≤ p
                · skip
                  have HN : Hid (nx b (sm xs ys k) = 1) := by unfold Hid; rw [HS.out]; unfold nx; rw [if_pos n1]
                  have HE : Hid (dgt b xs ys k = p - b + t) := by unfold Hid dgt; rw [HN.out, HS.out, ← hT.out]; try omega
                  have HTN : Hid ((1 : Int) = tr b xs ys (k + 1)) := HN.out.symm
                  go_wp2_with (first | (at_builtin; refine wpList_append_own _ rfl _ _ 25 rfl w.heap.size 3 i0 (.int .i64 0) 1 8 Try.underlying25 hi hz0 hz1 hz2 rfl (by decide) _ _ _ rfl (World.ownsRow.alloc hO _) ⟨wr.heap.size, 0, none⟩ 1 1 [.int .i64 _] rfl rfl (cell_one_new _ _ _) ?c11_1 ?c11_2 ?c11_3 ?c11_4 ?_))
                  case c11_1 => first | rfl | (intro u hu; simp at hu; subst hu; rfl)
                  case c11_2 => unfold maxLen; omega
                  case c11_3 => omega
                  case c11_4 => first | omega | (simp; omega)
                  intro v1 w1 hown1 hgrow1 _
                  have HO := Lib.hid (Row.app hown1)
                  have HW1 := Lib.hid (Row.grow hO HW.out hgrow1)
                  clear hown1 hgrow1 hO HW
                  go_wp2
                  go_roundw
                  case rel => exact ⟨k + 1, 1, by omega, by go_num, rfl, HTN, by rw [rows_succ]; exact Row.congr HO.out (by rw [HE.out]; try omega), HW1.out⟩
                  case measure => simp [intOf]; omega
                · by_cases n2 : p ≤ -(b - 1)
                  · skip
                    have HN : Hid (nx b (sm xs ys k) = -1) := by unfold Hid; rw [HS.out]; unfold nx; rw [if_neg n1, if_pos n2]
                    have HE : Hid (dgt b xs ys k = p + b + t) := by unfold Hid dgt; rw [HN.out, HS.out, ← hT.out]; try omega
                    have HTN : Hid ((-1 : Int) = tr b xs ys (k + 1)) := HN.out.symm
                    have n3 : p ≤ 1 - b := by omega
                    have n4 : ¬ (b - 1 ≤ p) := n1
                    go_wp2_with (first | (at_builtin; refine wpList_append_own _ rfl _ _ 25 rfl w.heap.size 3 i0 (.int .i64 0) 1 8 Try.underlying25 hi hz0 hz1 hz2 rfl (by decide) _ _ _ rfl (World.ownsRow.alloc hO _) ⟨wr.heap.size, 0, none⟩ 1 1 [.int .i64 _] rfl rfl (cell_one_new _ _ _) ?c12_1 ?c12_2 ?c12_3 ?c12_4 ?_))
                    case c12_1 => first | rfl | (intro u hu; simp at hu; subst hu; rfl)
                    case c12_2 => unfold maxLen; omega
                    case c12_3 => omega
                    case c12_4 => first | omega | (simp; omega)
                    intro v1 w1 hown1 hgrow1 _
                    have HO := Lib.hid (Row.app hown1)
                    have HW1 := Lib.hid (Row.grow hO HW.out hgrow1)
                    clear hown1 hgrow1 hO HW
                    go_wp2
                    go_roundw
                    case rel => exact ⟨k + 1, -1, by omega, by go_num, rfl, HTN, by rw [rows_succ]; exact Row.congr HO.out (by rw [HE.out]; try omega), HW1.out⟩
                    case measure => simp [intOf]; omega
                  · skip
                    have HN : Hid (nx b (sm xs ys k) = 0) := by unfold Hid; rw [HS.out]; unfold nx; rw [if_neg n1, if_neg n2]
                    have HE : Hid (dgt b xs ys k = p + t) := by unfold Hid dgt; rw [HN.out, HS.out, ← hT.out]; try omega
                    have HTN : Hid ((0 : Int) = tr b xs ys (k + 1)) := HN.out.symm
                    have n3 : ¬ (p ≤ 1 - b) := by omega
                    go_wp2_with (first | (at_builtin; refine wpList_append_own _ rfl _ _ 25 rfl w.heap.size 3 i0 (.int .i64 0) 1 8 Try.underlying25 hi hz0 hz1 hz2 rfl (by decide) _ _ _ rfl (World.ownsRow.alloc hO _) ⟨wr.heap.size, 0, none⟩ 1 1 [.int .i64 _] rfl rfl (cell_one_new _ _ _) ?c13_1 ?c13_2 ?c13_3 ?c13_4 ?_))
                    case c13_1 => first | rfl | (intro u hu; simp at hu; subst hu; rfl)
                    case c13_2 => unfold maxLen; omega
                    case c13_3 => omega
                    case c13_4 => first | omega | (simp; omega)
                    intro v1 w1 hown1 hgrow1 _
                    have HO := Lib.hid (Row.app hown1)
                    have HW1 := Lib.hid (Row.grow hO HW.out hgrow1)
                    clear hown1 hgrow1 hO HW
                    go_wp2
                    go_roundw
                    case rel => exact ⟨k + 1, 0, by omega, by go_num, rfl, HTN, by rw [rows_succ]; exact Row.congr HO.out (by rw [HE.out]; try omega), HW1.out⟩
                    case measure => simp [intOf]; omega
            · skip
              omega
          · obtain rfl : k = big xs ys := by omega
            obtain ⟨A1, cA, hAv⟩ := hO.shape
            subst hAv
            by_cases h0 : t = 0
            · skip
              subst h0
              have HF : Hid (addL b xs ys = rows b xs ys (big xs ys)) := by unfold Hid addL; rw [← hT.out]; simp
              have HFIN := Lib.hid (OI.of_own hO).2.reads
              have hOO := Lib.hid (OI.of_own hO).2
              cases hq : redB b (rows b xs ys (big xs ys))
              · have HQ := Lib.hid hq
                clear hq
                have HV := Lib.hid (show addOk b xs ys = false by unfold addOk; rw [HA.out, HC.out, HF.out, HQ.out]; rfl)
                have HR := Lib.hid (show addR b xs ys = [] by unfold addR; rw [HV.out]; rfl)
                go_wp2_with fail
                refine (i_redOk A1 (rows b xs ys (big xs ys)) cA b _ HFIN (by rw [length_rows]; omega)).mono ?_
                rw [HQ.out]
                rintro e w3 ⟨rfl, hb3⟩
                have HW3 := Lib.hid (b_step HW.out hb3)
                have hO3 := hOO.keep hb3
                clear hb3 hOO
                go_wp2
                go_ret2
                rw [HR.out, HV.out]
                exact RetLB.nil _ _ HW3.out
              · have HQ := Lib.hid hq
                clear hq
                have HV := Lib.hid (show addOk b xs ys = true by unfold addOk; rw [HA.out, HC.out, HF.out, HQ.out]; rfl)
                have HR := Lib.hid (show addR b xs ys = rows b xs ys (big xs ys) by unfold addR; rw [HV.out, HF.out]; rfl)
                go_wp2_with fail
                refine (i_redOk A1 (rows b xs ys (big xs ys)) cA b _ HFIN (by rw [length_rows]; omega)).mono ?_
                rw [HQ.out]
                rintro e w3 ⟨rfl, hb3⟩
                have HW3 := Lib.hid (b_step HW.out hb3)
                have hO3 := hOO.keep hb3
                clear hb3 hOO
                go_wp2
                go_ret2
                rw [HR.out, HV.out]
                exact ⟨A1, cA, rfl, hO3, HW3.out⟩
            · skip
              have HF : Hid (addL b xs ys = rows b xs ys (big xs ys) ++ [t]) := by unfold Hid addL; rw [← hT.out]; simp [h0]
              have hb0 : (t != 0) = true := by simp [h0]
              go_wp2_with (first | (at_builtin; refine wpList_append_own _ rfl _ _ 25 rfl w.heap.size 3 i0 (.int .i64 0) 1 8 Try.underlying25 hi hz0 hz1 hz2 rfl (by decide) _ _ _ rfl (World.ownsRow.alloc hO _) ⟨wr.heap.size, 0, none⟩ 1 1 [.int .i64 t] rfl rfl (cell_one_new _ _ _) ?c14_1 ?c14_2 ?c14_3 ?c14_4 ?_))
              case c14_1 => first | rfl | (intro u hu; simp at hu; subst hu; rfl)
              case c14_2 => unfold maxLen; omega
              case c14_3 => omega
              case c14_4 => first | omega | (simp; omega)
              intro v1 w1 hown1 hgrow1 _
              have HO := Lib.hid (Row.app hown1)
              have HW1 := Lib.hid (Row.grow hO HW.out hgrow1)
              clear hown1 hgrow1 hO HW
              obtain ⟨A2, cB, hAv⟩ := HO.out.shape
              subst hAv
              have HFIN := Lib.hid (OI.of_own HO.out).2.reads
              have hOO := Lib.hid (OI.of_own HO.out).2
              have HW := HW1
              cases hq : redB b (rows b xs ys (big xs ys) ++ [t])
              · have HQ := Lib.hid hq
                clear hq
                have HV := Lib.hid (show addOk b xs ys = false by unfold addOk; rw [HA.out, HC.out, HF.out, HQ.out]; rfl)
                have HR := Lib.hid (show addR b xs ys = [] by unfold addR; rw [HV.out]; rfl)
                go_wp2_with fail
                rw [show (rows b xs ys (big xs ys)).length + 1 = (rows b xs ys (big xs ys) ++ [t]).length from by simp]
                refine (i_redOk A2 (rows b xs ys (big xs ys) ++ [t]) cB b _ HFIN (by rw [List.length_append, length_rows]; simp; omega)).mono ?_
                rw [HQ.out]
                rintro e w3 ⟨rfl, hb3⟩
                have HW3 := Lib.hid (b_step HW.out hb3)
                have hO3 := hOO.keep hb3
                clear hb3 hOO
                go_wp2
                go_ret2
                rw [HR.out, HV.out]
                exact RetLB.nil _ _ HW3.out
              · have HQ := Lib.hid hq
                clear hq
                have HV := Lib.hid (show addOk b xs ys = true by unfold addOk; rw [HA.out, HC.out, HF.out, HQ.out]; rfl)
                have HR := Lib.hid (show addR b xs ys = rows b xs ys (big xs ys) ++ [t] by unfold addR; rw [HV.out, HF.out]; rfl)
                go_wp2_with fail
                rw [show (rows b xs ys (big xs ys)).length + 1 = (rows b xs ys (big xs ys) ++ [t]).length from by simp]
                refine (i_redOk A2 (rows b xs ys (big xs ys) ++ [t]) cB b _ HFIN (by rw [List.length_append, length_rows]; simp; omega)).mono ?_
                rw [HQ.out]
                rintro e w3 ⟨rfl, hb3⟩
                have HW3 := Lib.hid (b_step HW.out hb3)
                have hO3 := hOO.keep hb3
                clear hb3 hOO
                go_wp2
                go_ret2
                rw [HR.out, HV.out]
                exact ⟨A2, cB, by simp, hO3, HW3.out⟩
    · have HC := Lib.hid (redB_f hc)
      have HV := Lib.hid (show addOk b xs ys = false by unfold addOk; rw [HA.out, HC.out]; rfl)
      have HR := Lib.hid (show addR b xs ys = [] by unfold addR; rw [HV.out]; rfl)
      clear ha hc
      go_enter Try.func31, Try.ntmps31
      go_wp2_with fail
      refine (i_redOk A xs c1 b _ hR (by omega)).mono ?_
      rw [HA.out]
      rintro e w1 ⟨rfl, hb1⟩
      have hS1 := hS.below hb1
      have T1 := b_step (Below.refl _ _) hb1
      have s1 := hb1.size
      clear hb1
      go_wp2_with fail
      refine (i_redOk C ys c2 b _ (hS1.more s1) (by omega)).mono ?_
      rw [HC.out]
      rintro e w2 ⟨rfl, hb2⟩
      have T2 := Lib.hid (b_step T1 hb2)
      clear hb2
      go_wp2
      go_ret2
      rw [HR.out, HV.out]
      exact RetLB.nil _ _ T2.out
  · have HA := Lib.hid (redB_f ha)
    have HV := Lib.hid (show addOk b xs ys = false by unfold addOk; rw [HA.out]; rfl)
    have HR := Lib.hid (show addR b xs ys = [] by unfold addR; rw [HV.out]; rfl)
    clear ha
    go_enter Try.func31, Try.ntmps31
    go_wp2_with fail
    refine (i_redOk A xs c1 b _ hR (by omega)).mono ?_
    rw [HA.out]
    rintro e w1 ⟨rfl, hb1⟩
    have T1 := Lib.hid (b_step (Below.refl _ _) hb1)
    clear hb1
    go_wp2
    go_ret2
    rw [HR.out, HV.out]
    exact RetLB.nil _ _ T1.out

set_option maxHeartbeats 4000000 in
theorem s_add (A C : Option Addr) (xs ys : List Int) (c1 c2 : Nat) (b : Int) (w : World) (hR : RI w w.heap.size A xs) (hS : RI w w.heap.size C ys) (hlx : xs.length ≤ 1048576) (hly : ys.length ≤ 1048576) :
    Calls Try.prog 30 #[.slice A xs.length c1, .slice C ys.length c2, .int .i64 b] w (RetLB w (addR b xs ys) (addOk b xs ys)) := by
  by_cases ha : RedP b xs
  · have HA := Lib.hid (redB_t ha)
    by_cases hc : RedP b ys
    · have HC := Lib.hid (redB_t hc)
      obtain ⟨i0, hi, hz0, hz1, hz2⟩ := info_parts info_int
      have GA := Lib.hid (getD_bd ha)
      have GC := Lib.hid (getD_bd hc)
      have b3 := ha.1
      have b16 := ha.2.1
      have hbig : big xs ys ≤ 12 := by unfold big; have := ha.2.2.1; have := hc.2.2.1; omega
      have lx : xs.length ≤ 12 := ha.2.2.1
      have ly : ys.length ≤ 12 := hc.2.2.1
      clear ha hc
      go_enter Try.func30, Try.ntmps30
      go_wp2_with fail
      refine (s_redOk A xs c1 b _ hR (by omega)).mono ?_
      rw [HA.out]
      rintro e w1 ⟨rfl, hb1⟩
      have hR1 := hR.below hb1
      have hS1 := hS.below hb1
      have T1 := b_step (Below.refl _ _) hb1
      have s1 := hb1.size
      clear hb1
      go_wp2_with fail
      refine (s_redOk C ys c2 b _ (hS1.more s1) (by omega)).mono ?_
      rw [HC.out]
      rintro e w2 ⟨rfl, hb2⟩
      have hR2 := hR1.below (hb2.mono s1)
      have hS2 := hS1.below (hb2.mono s1)
      have T2 := b_step T1 hb2
      have s2 := hb2.size
      clear hb2 hR1 hS1 T1
      have HRX := Lib.hid hR
      have HRY := Lib.hid hS
      have T3 := b_alloc T2 (.cells #[] 3)
      have HR2 := Lib.hid ((Row.made w2).mono T2.size)
      clear hR hS hR2 hS2 T2
      have gx : xs.length ≤ big xs ys := by unfold big; omega
      have gy : ys.length ≤ big xs ys := by unfold big; omega
      go_wp2
      go_loopw [8, 9, 10] (fun o y i wr => ∃ (k : Nat) (t : Int), k ≤ big xs ys ∧ i = .int .i64 k ∧ y = .int .i64 t ∧ Hid (t = tr b xs ys k) ∧ Row wr w.heap.size o (rows b xs ys k) ∧ Below w.heap.size w wr) (fun _ _ i _ => big xs ys - (intOf i).toNat)
      case atStart => exact ⟨0, 0, Nat.zero_le _, rfl, rfl, rfl, HR2.out, T3⟩
      case round =>
        obtain ⟨k, t, hk, rfl, rfl, hT, hO, hW⟩ := hrel
        have HW := Lib.hid hW
        have hw0 := hW.size
        have RX := HRX.out.below hW
        have RY := HRY.out.below hW
        clear hW
        have ht := tr_bd b xs ys k
        rw [← hT.out] at ht
        obtain ⟨t1, t2⟩ := ht
        have hlr : (rows b xs ys k).length ≤ 12 := by rw [length_rows]; omega
        by_cases hlt : k < big xs ys
        · have hbx : k < xs.length ∨ k < ys.length := by unfold big at hlt; omega
          obtain ⟨p, hp⟩ : ∃ p, p = xs.getD k 0 := ⟨_, rfl⟩
          obtain ⟨q, hq⟩ : ∃ q, q = ys.getD k 0 := ⟨_, rfl⟩
          obtain ⟨p1, p2⟩ := GA.out k
          obtain ⟨q1, q2⟩ := GC.out k
          rw [← hp] at p1 p2
          rw [← hq] at q1 q2
          have HS : Hid (sm xs ys k = p + q) := by unfold Hid sm; rw [← hp, ← hq]
          have HPX := Lib.hid hp
          have HPY := Lib.hid hq
          have RXm := RX.more hw0
          have RYm := RY.more hw0
          clear hp hq RX RY
          by_cases hx : k < xs.length
          · skip
            clear hbx
            by_cases n1 : b - 1 ≤ p + q
            · skip
              have HN : Hid (nx b (sm xs ys k) = 1) := by unfold Hid; rw [HS.out]; unfold nx; rw [if_pos n1]
              have HE : Hid (dgt b xs ys k = p + q - b + t) := by unfold Hid dgt; rw [HN.out, HS.out, ← hT.out]; try omega
              have HTN : Hid ((1 : Int) = tr b xs ys (k + 1)) := HN.out.symm
              have n4 : ¬ (p + q ≤ 1 - b) := by omega
              go_wp2_with (first | (at_builtin; refine wpList_append_own _ rfl _ _ 25 rfl w.heap.size 3 i0 (.int .i64 0) 1 8 Try.underlying25 hi hz0 hz1 hz2 rfl (by decide) _ _ _ rfl (World.ownsRow.alloc hO _) ⟨wr.heap.size, 0, none⟩ 1 1 [.int .i64 _] rfl rfl (cell_one_new _ _ _) ?c15_1 ?c15_2 ?c15_3 ?c15_4 ?_) | (go_at_call 51; (with_reducible refine (s_at A xs c1 k _ RXm (by omega) (by omega)).mono ?_); rw [← HPX.out]; rintro e w4 ⟨rfl, rfl⟩) | (go_at_call 51; (with_reducible refine (s_at C ys c2 k _ RYm (by omega) (by omega)).mono ?_); rw [← HPY.out]; rintro e w4 ⟨rfl, rfl⟩))
              case c15_1 => first | rfl | (intro u hu; simp at hu; subst hu; rfl)
              case c15_2 => unfold maxLen; omega
              case c15_3 => omega
              case c15_4 => first | omega | (simp; omega)
              intro v1 w1 hown1 hgrow1 _
              have HO := Lib.hid (Row.app hown1)
              have HW1 := Lib.hid (Row.grow hO HW.out hgrow1)
              clear hown1 hgrow1 hO HW
              go_wp2
              go_roundw
              case rel => exact ⟨k + 1, 1, by omega, by go_num, rfl, HTN, by rw [rows_succ]; exact Row.congr HO.out (by rw [HE.out]; try omega), HW1.out⟩
              case measure => simp [intOf]; omega
            · by_cases n2 : p + q ≤ -(b - 1)
              · skip
                have HN : Hid (nx b (sm xs ys k) = -1) := by unfold Hid; rw [HS.out]; unfold nx; rw [if_neg n1, if_pos n2]
                have HE : Hid (dgt b xs ys k = p + q + b + t) := by unfold Hid dgt; rw [HN.out, HS.out, ← hT.out]; try omega
                have HTN : Hid ((-1 : Int) = tr b xs ys (k + 1)) := HN.out.symm
                have n3 : p + q ≤ 1 - b := by omega
                go_wp2_with (first | (at_builtin; refine wpList_append_own _ rfl _ _ 25 rfl w.heap.size 3 i0 (.int .i64 0) 1 8 Try.underlying25 hi hz0 hz1 hz2 rfl (by decide) _ _ _ rfl (World.ownsRow.alloc hO _) ⟨wr.heap.size, 0, none⟩ 1 1 [.int .i64 _] rfl rfl (cell_one_new _ _ _) ?c16_1 ?c16_2 ?c16_3 ?c16_4 ?_) | (go_at_call 51; (with_reducible refine (s_at A xs c1 k _ RXm (by omega) (by omega)).mono ?_); rw [← HPX.out]; rintro e w4 ⟨rfl, rfl⟩) | (go_at_call 51; (with_reducible refine (s_at C ys c2 k _ RYm (by omega) (by omega)).mono ?_); rw [← HPY.out]; rintro e w4 ⟨rfl, rfl⟩))
                case c16_1 => first | rfl | (intro u hu; simp at hu; subst hu; rfl)
                case c16_2 => unfold maxLen; omega
                case c16_3 => omega
                case c16_4 => first | omega | (simp; omega)
                intro v1 w1 hown1 hgrow1 _
                have HO := Lib.hid (Row.app hown1)
                have HW1 := Lib.hid (Row.grow hO HW.out hgrow1)
                clear hown1 hgrow1 hO HW
                go_wp2
                go_roundw
                case rel => exact ⟨k + 1, -1, by omega, by go_num, rfl, HTN, by rw [rows_succ]; exact Row.congr HO.out (by rw [HE.out]; try omega), HW1.out⟩
                case measure => simp [intOf]; omega
              · skip
                have HN : Hid (nx b (sm xs ys k) = 0) := by unfold Hid; rw [HS.out]; unfold nx; rw [if_neg n1, if_neg n2]
                have HE : Hid (dgt b xs ys k = p + q + t) := by unfold Hid dgt; rw [HN.out, HS.out, ← hT.out]; try omega
                have HTN : Hid ((0 : Int) = tr b xs ys (k + 1)) := HN.out.symm
                have n3 : ¬ (p + q ≤ 1 - b) := by omega
                go_wp2_with (first | (at_builtin; refine wpList_append_own _ rfl _ _ 25 rfl w.heap.size 3 i0 (.int .i64 0) 1 8 Try.underlying25 hi hz0 hz1 hz2 rfl (by decide) _ _ _ rfl (World.ownsRow.alloc hO _) ⟨wr.heap.size, 0, none⟩ 1 1 [.int .i64 _] rfl rfl (cell_one_new _ _ _) ?c17_1 ?c17_2 ?c17_3 ?c17_4 ?_) | (go_at_call 51; (with_reducible refine (s_at A xs c1 k _ RXm (by omega) (by omega)).mono ?_); rw [← HPX.out]; rintro e w4 ⟨rfl, rfl⟩) | (go_at_call 51; (with_reducible refine (s_at C ys c2 k _ RYm (by omega) (by omega)).mono ?_); rw [← HPY.out]; rintro e w4 ⟨rfl, rfl⟩))
                case c17_1 => first | rfl | (intro u hu; simp at hu; subst hu; rfl)
                case c17_2 => unfold maxLen; omega
                case c17_3 => omega
                case c17_4 => first | omega | (simp; omega)
                intro v1 w1 hown1 hgrow1 _
                have HO := Lib.hid (Row.app hown1)
                have HW1 := Lib.hid (Row.grow hO HW.out hgrow1)
                clear hown1 hgrow1 hO HW
                go_wp2
                go_roundw
                case rel => exact ⟨k + 1, 0, by omega, by go_num, rfl, HTN, by rw [rows_succ]; exact Row.congr HO.out (by rw [HE.out]; try omega), HW1.out⟩
                case measure => simp [intOf]; omega
          · skip
            have hy : k < ys.length := by omega
            clear hbx
            by_cases n1 : b - 1 ≤ p + q
            · skip
              have HN : Hid (nx b (sm xs ys k) = 1) := by unfold Hid; rw [HS.out]; unfold nx; rw [if_pos n1]
              have HE : Hid (dgt b xs ys k = p + q - b + t) := by unfold Hid dgt; rw [HN.out, HS.out, ← hT.out]; try omega
              have HTN : Hid ((1 : Int) = tr b xs ys (k + 1)) := HN.out.symm
              have n4 : ¬ (p + q ≤ 1 - b) := by omega
              go_wp2_with (first | (at_builtin; refine wpList_append_own _ rfl _ _ 25 rfl w.heap.size 3 i0 (.int .i64 0) 1 8 Try.underlying25 hi hz0 hz1 hz2 rfl (by decide) _ _ _ rfl (World.ownsRow.alloc hO _) ⟨wr.heap.size, 0, none⟩ 1 1 [.int .i64 _] rfl rfl (cell_one_new _ _ _) ?c18_1 ?c18_2 ?c18_3 ?c18_4 ?_) | (go_at_call 51; (with_reducible refine (s_at A xs c1 k _ RXm (by omega) (by omega)).mono ?_); rw [← HPX.out]; rintro e w4 ⟨rfl, rfl⟩) | (go_at_call 51; (with_reducible refine (s_at C ys c2 k _ RYm (by omega) (by omega)).mono ?_); rw [← HPY.out]; rintro e w4 ⟨rfl, rfl⟩))
              case c18_1 => first | rfl | (intro u hu; simp at hu; subst hu; rfl)
              case c18_2 => unfold maxLen; omega
              case c18_3 => omega
              case c18_4 => first | omega | (simp; omega)
              intro v1 w1 hown1 hgrow1 _
              have HO := Lib.hid (Row.app hown1)
              have HW1 := Lib.hid (Row.grow hO HW.out hgrow1)
              clear hown1 hgrow1 hO HW
              go_wp2
              go_roundw
              case rel => exact ⟨k + 1, 1, by omega, by go_num, rfl, HTN, by rw [rows_succ]; exact Row.congr HO.out (by rw [HE.out]; try omega), HW1.out⟩
              case measure => simp [intOf]; omega
            · by_cases n2 : p + q ≤ -(b - 1)
              · skip
                have HN : Hid (nx b (sm xs ys k) = -1) := by unfold Hid; rw [HS.out]; unfold nx; rw [if_neg n1, if_pos n2]
                have HE : Hid (dgt b xs ys k = p + q + b + t) := by unfold Hid dgt; rw [HN.out, HS.out, ← hT.out]; try omega
                have HTN : Hid ((-1 : Int) = tr b xs ys (k + 1)) := HN.out.symm
                have n3 : p + q ≤ 1 - b := by omega
                go_wp2_with (first | (at_builtin; refine wpList_append_own _ rfl _ _ 25 rfl w.heap.size 3 i0 (.int .i64 0) 1 8 Try.underlying25 hi hz0 hz1 hz2 rfl (by decide) _ _ _ rfl (World.ownsRow.alloc hO _) ⟨wr.heap.size, 0, none⟩ 1 1 [.int .i64 _] rfl rfl (cell_one_new _ _ _) ?c19_1 ?c19_2 ?c19_3 ?c19_4 ?_) | (go_at_call 51; (with_reducible refine (s_at A xs c1 k _ RXm (by omega) (by omega)).mono ?_); rw [← HPX.out]; rintro e w4 ⟨rfl, rfl⟩) | (go_at_call 51; (with_reducible refine (s_at C ys c2 k _ RYm (by omega) (by omega)).mono ?_); rw [← HPY.out]; rintro e w4 ⟨rfl, rfl⟩))
                case c19_1 => first | rfl | (intro u hu; simp at hu; subst hu; rfl)
                case c19_2 => unfold maxLen; omega
                case c19_3 => omega
                case c19_4 => first | omega | (simp; omega)
                intro v1 w1 hown1 hgrow1 _
                have HO := Lib.hid (Row.app hown1)
                have HW1 := Lib.hid (Row.grow hO HW.out hgrow1)
                clear hown1 hgrow1 hO HW
                go_wp2
                go_roundw
                case rel => exact ⟨k + 1, -1, by omega, by go_num, rfl, HTN, by rw [rows_succ]; exact Row.congr HO.out (by rw [HE.out]; try omega), HW1.out⟩
                case measure => simp [intOf]; omega
              · skip
                have HN : Hid (nx b (sm xs ys k) = 0) := by unfold Hid; rw [HS.out]; unfold nx; rw [if_neg n1, if_neg n2]
                have HE : Hid (dgt b xs ys k = p + q + t) := by unfold Hid dgt; rw [HN.out, HS.out, ← hT.out]; try omega
                have HTN : Hid ((0 : Int) = tr b xs ys (k + 1)) := HN.out.symm
                have n3 : ¬ (p + q ≤ 1 - b) := by omega
                go_wp2_with (first | (at_builtin; refine wpList_append_own _ rfl _ _ 25 rfl w.heap.size 3 i0 (.int .i64 0) 1 8 Try.underlying25 hi hz0 hz1 hz2 rfl (by decide) _ _ _ rfl (World.ownsRow.alloc hO _) ⟨wr.heap.size, 0, none⟩ 1 1 [.int .i64 _] rfl rfl (cell_one_new _ _ _) ?c20_1 ?c20_2 ?c20_3 ?c20_4 ?_) | (go_at_call 51; (with_reducible refine (s_at A xs c1 k _ RXm (by omega) (by omega)).mono ?_); rw [← HPX.out]; rintro e w4 ⟨rfl, rfl⟩) | (go_at_call 51; (with_reducible refine (s_at C ys c2 k _ RYm (by omega) (by omega)).mono ?_); rw [← HPY.out]; rintro e w4 ⟨rfl, rfl⟩))
                case c20_1 => first | rfl | (intro u hu; simp at hu; subst hu; rfl)
                case c20_2 => unfold maxLen; omega
                case c20_3 => omega
                case c20_4 => first | omega | (simp; omega)
                intro v1 w1 hown1 hgrow1 _
                have HO := Lib.hid (Row.app hown1)
                have HW1 := Lib.hid (Row.grow hO HW.out hgrow1)
                clear hown1 hgrow1 hO HW
                go_wp2
                go_roundw
                case rel => exact ⟨k + 1, 0, by omega, by go_num, rfl, HTN, by rw [rows_succ]; exact Row.congr HO.out (by rw [HE.out]; try omega), HW1.out⟩
                case measure => simp [intOf]; omega
        · obtain rfl : k = big xs ys := by omega
          obtain ⟨A1, cA, hAv⟩ := hO.shape
          subst hAv
          by_cases h0 : t = 0
          · skip
            subst h0
            have HF : Hid (addL b xs ys = rows b xs ys (big xs ys)) := by unfold Hid addL; rw [← hT.out]; simp
            have HFIN := Lib.hid (OI.of_own hO).2.reads
            have hOO := Lib.hid (OI.of_own hO).2
            cases hq : redB b (rows b xs ys (big xs ys))
            · have HQ := Lib.hid hq
              clear hq
              have HV := Lib.hid (show addOk b xs ys = false by unfold addOk; rw [HA.out, HC.out, HF.out, HQ.out]; rfl)
              have HR := Lib.hid (show addR b xs ys = [] by unfold addR; rw [HV.out]; rfl)
              go_wp2_with fail
              refine (s_redOk A1 (rows b xs ys (big xs ys)) cA b _ HFIN (by rw [length_rows]; omega)).mono ?_
              rw [HQ.out]
              rintro e w3 ⟨rfl, hb3⟩
              have HW3 := Lib.hid (b_step HW.out hb3)
              have hO3 := hOO.keep hb3
              clear hb3 hOO
              go_wp2
              go_ret2
              rw [HR.out, HV.out]
              exact RetLB.nil _ _ HW3.out
            · have HQ := Lib.hid hq
              clear hq
              have HV := Lib.hid (show addOk b xs ys = true by unfold addOk; rw [HA.out, HC.out, HF.out, HQ.out]; rfl)
              have HR := Lib.hid (show addR b xs ys = rows b xs ys (big xs ys) by unfold addR; rw [HV.out, HF.out]; rfl)
              go_wp2_with fail
              refine (s_redOk A1 (rows b xs ys (big xs ys)) cA b _ HFIN (by rw [length_rows]; omega)).mono ?_
              rw [HQ.out]
              rintro e w3 ⟨rfl, hb3⟩
              have HW3 := Lib.hid (b_step HW.out hb3)
              have hO3 := hOO.keep hb3
              clear hb3 hOO
              go_wp2
              go_ret2
              rw [HR.out, HV.out]
              exact ⟨A1, cA, rfl, hO3, HW3.out⟩
          · skip
            have HF : Hid (addL b xs ys = rows b xs ys (big xs ys) ++ [t]) := by unfold Hid addL; rw [← hT.out]; simp [h0]
            have hb0 : (t != 0) = true := by simp [h0]
            go_wp2_with (first | (at_builtin; refine wpList_append_own _ rfl _ _ 25 rfl w.heap.size 3 i0 (.int .i64 0) 1 8 Try.underlying25 hi hz0 hz1 hz2 rfl (by decide) _ _ _ rfl (World.ownsRow.alloc hO _) ⟨wr.heap.size, 0, none⟩ 1 1 [.int .i64 t] rfl rfl (cell_one_new _ _ _) ?c21_1 ?c21_2 ?c21_3 ?c21_4 ?_))
            case c21_1 => first | rfl | (intro u hu; simp at hu; subst hu; rfl)
            case c21_2 => unfold maxLen; omega
            case c21_3 => omega
            case c21_4 => first | omega | (simp; omega)
            intro v1 w1 hown1 hgrow1 _
            have HO := Lib.hid (Row.app hown1)
            have HW1 := Lib.hid (Row.grow hO HW.out hgrow1)
            clear hown1 hgrow1 hO HW
            obtain ⟨A2, cB, hAv⟩ := HO.out.shape
            subst hAv
            have HFIN := Lib.hid (OI.of_own HO.out).2.reads
            have hOO := Lib.hid (OI.of_own HO.out).2
            have HW := HW1
            cases hq : redB b (rows b xs ys (big xs ys) ++ [t])
            · have HQ := Lib.hid hq
              clear hq
              have HV := Lib.hid (show addOk b xs ys = false by unfold addOk; rw [HA.out, HC.out, HF.out, HQ.out]; rfl)
              have HR := Lib.hid (show addR b xs ys = [] by unfold addR; rw [HV.out]; rfl)
              go_wp2_with fail
              rw [show (rows b xs ys (big xs ys)).length + 1 = (rows b xs ys (big xs ys) ++ [t]).length from by simp]
              refine (s_redOk A2 (rows b xs ys (big xs ys) ++ [t]) cB b _ HFIN (by rw [List.length_append, length_rows]; simp; omega)).mono ?_
              rw [HQ.out]
              rintro e w3 ⟨rfl, hb3⟩
              have HW3 := Lib.hid (b_step HW.out hb3)
              have hO3 := hOO.keep hb3
              clear hb3 hOO
              go_wp2
              go_ret2
              rw [HR.out, HV.out]
              exact RetLB.nil _ _ HW3.out
            · have HQ := Lib.hid hq
              clear hq
              have HV := Lib.hid (show addOk b xs ys = true by unfold addOk; rw [HA.out, HC.out, HF.out, HQ.out]; rfl)
              have HR := Lib.hid (show addR b xs ys = rows b xs ys (big xs ys) ++ [t] by unfold addR; rw [HV.out, HF.out]; rfl)
              go_wp2_with fail
              rw [show (rows b xs ys (big xs ys)).length + 1 = (rows b xs ys (big xs ys) ++ [t]).length from by simp]
              refine (s_redOk A2 (rows b xs ys (big xs ys) ++ [t]) cB b _ HFIN (by rw [List.length_append, length_rows]; simp; omega)).mono ?_
              rw [HQ.out]
              rintro e w3 ⟨rfl, hb3⟩
              have HW3 := Lib.hid (b_step HW.out hb3)
              have hO3 := hOO.keep hb3
              clear hb3 hOO
              go_wp2
              go_ret2
              rw [HR.out, HV.out]
              exact ⟨A2, cB, by simp, hO3, HW3.out⟩
    · have HC := Lib.hid (redB_f hc)
      have HV := Lib.hid (show addOk b xs ys = false by unfold addOk; rw [HA.out, HC.out]; rfl)
      have HR := Lib.hid (show addR b xs ys = [] by unfold addR; rw [HV.out]; rfl)
      clear ha hc
      go_enter Try.func30, Try.ntmps30
      go_wp2_with fail
      refine (s_redOk A xs c1 b _ hR (by omega)).mono ?_
      rw [HA.out]
      rintro e w1 ⟨rfl, hb1⟩
      have hS1 := hS.below hb1
      have T1 := b_step (Below.refl _ _) hb1
      have s1 := hb1.size
      clear hb1
      go_wp2_with fail
      refine (s_redOk C ys c2 b _ (hS1.more s1) (by omega)).mono ?_
      rw [HC.out]
      rintro e w2 ⟨rfl, hb2⟩
      have T2 := Lib.hid (b_step T1 hb2)
      clear hb2
      go_wp2
      go_ret2
      rw [HR.out, HV.out]
      exact RetLB.nil _ _ T2.out
  · have HA := Lib.hid (redB_f ha)
    have HV := Lib.hid (show addOk b xs ys = false by unfold addOk; rw [HA.out]; rfl)
    have HR := Lib.hid (show addR b xs ys = [] by unfold addR; rw [HV.out]; rfl)
    clear ha
    go_enter Try.func30, Try.ntmps30
    go_wp2_with fail
    refine (s_redOk A xs c1 b _ hR (by omega)).mono ?_
    rw [HA.out]
    rintro e w1 ⟨rfl, hb1⟩
    have T1 := Lib.hid (b_step (Below.refl _ _) hb1)
    clear hb1
    go_wp2
    go_ret2
    rw [HR.out, HV.out]
    exact RetLB.nil _ _ T1.out
end Go.Proofs.Ytpjdmapfnojhnaa
