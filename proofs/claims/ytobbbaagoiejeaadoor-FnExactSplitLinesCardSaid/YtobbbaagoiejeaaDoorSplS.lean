/- The contract of spec.SplitAny at the separator of one byte 10. Conditions: texts of at most 2^32 bytes. -/
import Derived.Test.YtobbbaagoiejeaaDoorSplM
import Derived.Test.YtobbbaagoiejeaaDoorStrs
import Derived.Deep.QuietTactic
import Derived.BigQuiet
import Derived.Maps.AppendAt
import Derived.Outline
namespace Go.Proofs.YtobbbaagoiejeaaDoor
open Go.RowKit
set_option linter.unusedVariables false
/-- What a function hands back that makes a list of strings: a slice of its own with its capacity. -/
def RetLC (w : World) (xs : List ByteArray) (e : Ending) (w' : World) : Prop :=
  ∃ g c, e = .returned (.slice (some ⟨g, 0, none⟩) xs.length c) ∧ xs.length ≤ c ∧ OT w' w.heap.size (some ⟨g, 0, none⟩) xs ∧ Below w.heap.size w w'
theorem RetLC.of {w w' : World} {v : Value} {xs ys : List ByteArray} (h : RowT w' w.heap.size v xs) (hb : Below w.heap.size w w') (e : xs = ys) (hne : xs ≠ []) : RetLC w ys (.returned v) w' := by
  subst e
  have h0 := h
  rcases h0.2 with ⟨h1, h2⟩ | ⟨g, cap, cur, hv, hB, hh, hn, _⟩
  · exact absurd (List.eq_nil_of_length_eq_zero h2) hne
  · subst hv
    exact ⟨g, cap, rfl, by omega, (OT.of_own h).2, hb⟩
set_option maxHeartbeats 4000000 in
theorem s_splitAny (s : ByteArray) (w : World) (hs : s.size ≤ 4294967296) :
    Calls Tryd.prog 38 #[.string s, .string ⟨#[10]⟩] w (RetLC w (pcs s)) := by
  obtain ⟨i0, hi, hz0, hz1, hz2⟩ := info_parts info_string
  have hmax : (s.size : Int) ≤ 4294967296 := by omega
  go_enter Tryd.func38, Tryd.ntmps38
  go_wp2
  go_loopw [5, 6, 7] (fun o f i wr => ∃ (fr k : Nat) (L : List ByteArray), f = .int .i64 fr ∧ i = .int .i64 k ∧ Hid (Cutp s fr k L) ∧ fr ≤ k ∧ k ≤ s.size ∧ L.length ≤ k ∧ RowT wr w.heap.size o L ∧ Below w.heap.size w wr) (fun _ _ i _ => s.size - (intOf i).toNat)
  case atStart => exact ⟨0, 0, [], rfl, rfl, Cutp.start s, Nat.le_refl _, Nat.zero_le _, Nat.le_refl _, RowT.made w, b_alloc (Below.refl _ _) _⟩
  case round =>
    obtain ⟨fr, k, L, rfl, rfl, hH, hfk, hk, hL, hO, hW⟩ := hrel
    by_cases hlt : k < s.size
    · have hkb : (k : Int) < s.size := by omega
      have hk0 : (0 : Int) ≤ (k : Int) := by omega
      have hwr := hW.size
      have HW := Lib.hid hW
      have HO := Lib.hid hO
      clear hW hO
      obtain ⟨wo, rfl⟩ : ∃ wo : World, wo = wr := ⟨_, rfl⟩
      by_cases hc : s[k] = 10
      · have HC := Lib.hid (hH.out.hit hlt hc)
        have hcb : ((s[k].toNat : Int) == (((⟨#[10]⟩ : ByteArray)[0]'(by decide)).toNat : Int)) = true := by rw [hc]; rfl
        clear hc
        go_wp2
        go_loopw [5, 6, 8] (fun o f j wi => o = u5 ∧ f = .int .i64 fr ∧ j = .int .i64 0 ∧ wi = wo) (fun _ _ _ _ => 0)
        case atStart => exact ⟨rfl, rfl, rfl, rfl⟩
        case round =>
          obtain ⟨rfl, rfl, rfl, rfl⟩ := hrel
          go_wp2
          go_quiet (fail)
          have hO : (wr.drewN nq).ownsRow w.heap.size 9 1 u5 L.length (L.map Value.string) := HO.out
          go_wp2_with (first | (at_builtin; refine wpList_append_own _ rfl _ _ 29 rfl w.heap.size 9 i0 (.string ByteArray.empty) 1 16 Tryd.underlying29 hi hz0 hz1 hz2 rfl (by decide) _ _ _ rfl (World.ownsRow.alloc hO _) ⟨wr.heap.size, 0, none⟩ 1 1 [.string (s.extract fr k)] rfl rfl (cell_one_new _ _ _) ?c1_1 ?c1_2 ?c1_3 ?c1_4 ?_))
          case c1_1 => first | rfl | (intro u hu; simp at hu; subst hu; rfl)
          case c1_2 => unfold maxLen; omega
          case c1_3 => omega
          case c1_4 => first | omega | (simp; omega)
          intro v1 w1 hown1 hgrow1 _
          have HO1 := Lib.hid (RowT.app hown1)
          have HW1 := Lib.hid (RowT.grow (wr := wr.drewN nq) HO.out (b_drewN HW.out nq) hgrow1)
          clear hown1 hgrow1
          go_wp2
          go_roundw
          case rel => exact ⟨k + 1, k + 1, _, by go_num, by go_num, HC, Nat.le_refl _, by omega, by simp; omega, HO1.out, HW1.out⟩
          case measure => simp [intOf]; omega
      · have HC := Lib.hid (hH.out.miss hlt hc)
        have hcb : ((s[k].toNat : Int) == (((⟨#[10]⟩ : ByteArray)[0]'(by decide)).toNat : Int)) = false := by rw [show (((⟨#[10]⟩ : ByteArray)[0]'(by decide)).toNat : Int) = 10 from rfl]; rw [beq_eq_false_iff_ne]; intro h; exact hc (UInt8.toNat_inj.1 (show s[k].toNat = 10 by omega))
        clear hc
        go_wp2
        go_loopw [5, 6, 8] (fun o f j wi => ∃ q n : Nat, q ≤ 1 ∧ o = u5 ∧ f = .int .i64 fr ∧ j = .int .i64 q ∧ wi = wo.drewN n) (fun _ _ j _ => 1 - (intOf j).toNat)
        case atStart => exact ⟨0, 0, by omega, rfl, rfl, rfl, rfl⟩
        case round =>
          obtain ⟨q, n, hq, rfl, rfl, rfl, rfl⟩ := hrel
          by_cases hq0 : q = 0
          · subst hq0
            go_wp2
            go_quiet (fail)
            go_wp2
            go_roundw
            case rel => exact ⟨1, n + nq, by omega, rfl, rfl, by go_num, by simp⟩
            case measure => simp [intOf]
          · obtain rfl : q = 1 := by omega
            clear hq0
            go_wp2
            go_roundw
            case rel => exact ⟨fr, k + 1, L, rfl, by go_num, HC, by omega, by omega, by omega, HO.out, b_drewN HW.out n⟩
            case measure => simp [intOf]; omega
    · obtain rfl : k = s.size := by omega
      have HP := Lib.hid hH.out.fin
      have hwr := hW.size
      have HW := Lib.hid hW
      have HO := Lib.hid hO
      have hf0 : (fr : Int) ≤ (s.size : Int) := by omega
      clear hW hO hH
      go_wp2_with (first | (at_builtin; refine wpList_append_own _ rfl _ _ 29 rfl w.heap.size 9 i0 (.string ByteArray.empty) 1 16 Tryd.underlying29 hi hz0 hz1 hz2 rfl (by decide) _ _ _ rfl (World.ownsRow.alloc HO.out _) ⟨wr.heap.size, 0, none⟩ 1 1 [.string (s.extract fr s.size)] rfl rfl (cell_one_new _ _ _) ?c2_1 ?c2_2 ?c2_3 ?c2_4 ?_))
      case c2_1 => first | rfl | (intro u hu; simp at hu; subst hu; rfl)
      case c2_2 => unfold maxLen; omega
      case c2_3 => omega
      case c2_4 => first | omega | (simp; omega)
      intro v1 w1 hown1 hgrow1 _
      have HO1 := Lib.hid (RowT.app hown1)
      have HW1 := Lib.hid (RowT.grow HO.out HW.out hgrow1)
      clear hown1 hgrow1
      go_wp2
      go_ret
      exact RetLC.of HO1.out HW1.out HP.out.symm (by simp)
end Go.Proofs.YtobbbaagoiejeaaDoor
