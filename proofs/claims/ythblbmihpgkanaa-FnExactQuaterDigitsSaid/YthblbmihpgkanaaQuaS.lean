/- Contract of spec.QuaterDigits. Conditions: none. -/
import Derived.Test.YthblbmihpgkanaaQuaA
import Derived.Test.YthblbmihpgkanaaGaussDig
import Derived.Test.YthblbmihpgkanaaRetLB
import Derived.Deep.LoopGhost
import Derived.WalkSmall
import Derived.Outline
namespace Go.Proofs.Ythblbmihpgkanaa
open Go.RowKit
set_option linter.unusedVariables false

theorem Row.app2 {w1 : World} {B : Nat} {v1 : Value} {l : List Int} {x y : Int} (h : w1.ownsRow B 3 1 v1 (l.length + 2) (l.map (Value.int .i64) ++ [.int .i64 x, .int .i64 y])) : Row w1 B v1 (l ++ [x, y]) := by
  unfold Row; simpa using h
theorem Row.shapeC {w : World} {B : Nat} {v : Value} {xs : List Int} (h : Row w B v xs) : ∃ A c, v = .slice A xs.length c ∧ xs.length ≤ c ∧ c ≤ maxLen := by
  rcases h.2 with ⟨h1, h2⟩ | ⟨g, cap, cur, hv, _, _, h3, h4, _⟩
  · exact ⟨none, 0, by rw [h1, h2], by omega, by unfold maxLen; omega⟩
  · exact ⟨_, cap, hv, h3, h4⟩
theorem OI.more {w : World} {B B2 : Nat} {A : Option Addr} {xs : List Int} (h : OI w B2 A xs) (hB : B ≤ B2) : OI w B A xs := by
  rcases h with h | ⟨g, off, cs, hA, hg, r⟩
  · exact .inl h
  · exact .inr ⟨g, off, cs, hA, Nat.le_trans hB hg, r⟩
set_option maxHeartbeats 4000000 in
theorem s_qdig (x0 y0 : Int) (w : World) :
    Calls Try.prog 32 #[.agg #[.int .i64 x0, .int .i64 y0]] w (RetLB w (qdR x0 y0) (qB x0 y0)) := by
  obtain ⟨i0, hi, hz0, hz1, hz2⟩ := info_parts info_int
  by_cases hg : gok x0 y0
  · by_cases hev : y0 % 2 = 0
    · have hq : QP x0 y0 := ⟨hg, hev⟩
      have HQ := Lib.hid (qua_all hq)
      obtain ⟨h1, h2, h3, h4⟩ := hg
      have HB0 := Lib.hid (qB_t hq)
      have HR := Lib.hid (show qdR x0 y0 = qdL x0 y0 by unfold qdR; rw [HB0.out]; rfl)
      have ht := tdiv2 hev
      have k1 : -100000 ≤ y0.tdiv 2 := by omega
      have k2 : y0.tdiv 2 ≤ 100000 := by omega
      have HE := Lib.hid hev
      clear hq hev ht
      have hB := (BG.new w x0 y0)
      go_enter Try.func32, Try.ntmps32
      go_wp2_with fail
      refine (spec_gok_ok x0 y0 _ h1 h2 h3 h4).mono ?_
      rintro e w1 ⟨rfl, c1, rfl⟩
      go_wp2_with (first | (go_at_call 44; go_in))
      refine (s_mod y0 2 _ (by omega) (by omega)).mono ?_
      rw [HE.out]
      rintro e w1 ⟨rfl, rfl⟩
      go_wp2_with fail
      refine (s_l04 x0 _ h1 h2).mono ?_
      rintro e w2 ⟨A1, cc1, rfl, hO1, hb1⟩
      have hA := (BG.new w x0 y0).alloc (.cells c1 25)
      have hB2 : BG w2 w.heap.size x0 y0 := hA.below hb1 hA.lt
      have c0 := hB2.cell0
      have c1' := hB2.cell1
      have T2 := b_step (b_alloc (b_alloc (Below.refl _ _) _) _) hb1
      have R1 := hO1.reads
      have sz1 := hb1.size
      have HB2 := Lib.hid hB2
      have HR1 := Lib.hid R1
      have HT2 := Lib.hid T2
      clear hB2 hb1 hO1 hB hA R1 T2
      go_wp2_with fail
      refine (s_l04 (y0.tdiv 2) _ k1 k2).mono ?_
      rintro e w3 ⟨A2, cc2, rfl, hO2, hb2⟩
      have HT3 := Lib.hid (b_step HT2.out hb2)
      have HR1 := Lib.hid ((HR1.out.below hb2).more hb2.size)
      have HR2 := Lib.hid hO2.reads
      clear hO2 hb2 HT2 HB2 c0 c1'
      obtain ⟨xs, hxs⟩ : ∃ xs, xs = ngs 300000 x0 := ⟨_, rfl⟩
      obtain ⟨ys, hys⟩ : ∃ ys, ys = ngs 300000 (y0.tdiv 2) := ⟨_, rfl⟩
      have lx : xs.length ≤ 300000 := by rw [hxs]; exact length_ngs _ _
      have ly : ys.length ≤ 300000 := by rw [hys]; exact length_ngs _ _
      rw [← hxs, ← hys] at HQ
      rw [← hxs] at HR1
      rw [← hys] at HR2
      rw [← hxs, ← hys]
      clear hxs hys
      go_wp2_with fail
      go_loopw [6, 7] (fun o i wr => ∃ (k : Nat) (l : List Int), i = .int .i64 k ∧ k ≤ 300000 ∧ l.length = 2 * k ∧ Hid (zl xs ys = l ++ zl (xs.drop k) (ys.drop k)) ∧ Row wr w3.heap.size o l ∧ Below w3.heap.size w3 wr) (fun _ i _ => 300001 - (intOf i).toNat)
      case atStart => exact ⟨0, [], rfl, by omega, rfl, by unfold Hid; simp, Row.made w3, b_alloc (Below.refl _ _) _⟩
      case round =>
        obtain ⟨k, l, rfl, hk, hll, hD, hO, hW⟩ := hrel
        have R1 := (HR1.out.below hW).more hW.size
        have R2 := (HR2.out.below hW).more hW.size
        have hw0 := hW.size
        have HW := Lib.hid hW
        have HO := Lib.hid hO
        have HLL := Lib.hid hll
        have hl2 : l.length ≤ 600000 := by omega
        clear hW hO hll
        by_cases ha : k < xs.length
        · have HZD := Lib.hid (hD.out.trans (by rw [zl_drop (.inl ha)]))
          obtain ⟨x, hx⟩ : ∃ x, x = xs.getD k 0 := ⟨_, rfl⟩
          obtain ⟨y, hy⟩ : ∃ y, y = ys.getD k 0 := ⟨_, rfl⟩
          rw [← hx, ← hy] at HZD
          have HX := Lib.hid hx
          have HY := Lib.hid hy
          clear hx hy hD
          have hO := HO.out
          go_wp2_with fail
          refine (s_at _ xs _ k _ R1 (by omega) (by omega)).mono ?_
          rw [← HX.out]
          rintro e w4 ⟨rfl, rfl⟩
          go_wp2_with fail
          refine (s_at _ ys _ k _ R2 (by omega) (by omega)).mono ?_
          rw [← HY.out]
          rintro e w4 ⟨rfl, rfl⟩
          clear R1 R2
          go_wp2_with (first | (at_builtin; refine wpList_append_own _ rfl _ _ 34 rfl w3.heap.size 3 i0 (.int .i64 0) 1 8 Try.underlying34 hi hz0 hz1 hz2 rfl (by decide) _ _ _ rfl (World.ownsRow.alloc hO _) ⟨wr.heap.size, 0, none⟩ 2 2 [.int .i64 x, .int .i64 y] rfl rfl (cell_two_new _ _ _ _) ?c5_1 ?c5_2 ?c5_3 ?c5_4 ?_))
          case c5_1 => first | rfl | (intro u hu; simp at hu; rcases hu with rfl | rfl <;> rfl)
          case c5_2 => unfold maxLen; omega
          case c5_3 => omega
          case c5_4 => first | omega | (simp; omega)
          intro v1 w4 hown1 hgrow1 _
          have HO1 := Lib.hid (Row.app2 hown1)
          have HW1 := Lib.hid (Row.grow hO HW.out hgrow1)
          clear hown1 hgrow1 hO HO HW
          go_wp2
          go_roundw
          case rel => exact ⟨k + 1, l ++ [x, y], by go_num, by omega, by have := HLL.out; simp; omega, by unfold Hid; rw [HZD.out]; simp, HO1.out, HW1.out⟩
          case measure => simp [intOf]; omega
        · by_cases hb : k < ys.length
          · have HZD := Lib.hid (hD.out.trans (by rw [zl_drop (.inr hb)]))
            obtain ⟨x, hx⟩ : ∃ x, x = xs.getD k 0 := ⟨_, rfl⟩
            obtain ⟨y, hy⟩ : ∃ y, y = ys.getD k 0 := ⟨_, rfl⟩
            rw [← hx, ← hy] at HZD
            have HX := Lib.hid hx
            have HY := Lib.hid hy
            clear hx hy hD
            have hO := HO.out
            go_wp2_with fail
            refine (s_at _ xs _ k _ R1 (by omega) (by omega)).mono ?_
            rw [← HX.out]
            rintro e w4 ⟨rfl, rfl⟩
            go_wp2_with fail
            refine (s_at _ ys _ k _ R2 (by omega) (by omega)).mono ?_
            rw [← HY.out]
            rintro e w4 ⟨rfl, rfl⟩
            clear R1 R2
            go_wp2_with (first | (at_builtin; refine wpList_append_own _ rfl _ _ 34 rfl w3.heap.size 3 i0 (.int .i64 0) 1 8 Try.underlying34 hi hz0 hz1 hz2 rfl (by decide) _ _ _ rfl (World.ownsRow.alloc hO _) ⟨wr.heap.size, 0, none⟩ 2 2 [.int .i64 x, .int .i64 y] rfl rfl (cell_two_new _ _ _ _) ?c6_1 ?c6_2 ?c6_3 ?c6_4 ?_))
            case c6_1 => first | rfl | (intro u hu; simp at hu; rcases hu with rfl | rfl <;> rfl)
            case c6_2 => unfold maxLen; omega
            case c6_3 => omega
            case c6_4 => first | omega | (simp; omega)
            intro v1 w4 hown1 hgrow1 _
            have HO1 := Lib.hid (Row.app2 hown1)
            have HW1 := Lib.hid (Row.grow hO HW.out hgrow1)
            clear hown1 hgrow1 hO HO HW
            go_wp2
            go_roundw
            case rel => exact ⟨k + 1, l ++ [x, y], by go_num, by omega, by have := HLL.out; simp; omega, by unfold Hid; rw [HZD.out]; simp, HO1.out, HW1.out⟩
            case measure => simp [intOf]; omega
          · obtain ⟨Ao, co, hsh, hc1, hc2⟩ := HO.out.shapeC
            have hOO := HO.out
            rw [hsh] at hOO
            have hOI := (OI.of_own hOO).2
            have HRo := hOI.reads
            have HOI := Lib.hid hOI
            have hlt : (trimL l).length = trimN l l.length := length_trimL l
            have HF := Lib.hid (show trimL l = qdL x0 y0 by rw [← HQ.out, hD.out, zl_end (by omega) (by omega), List.append_nil])
            clear hOI hOO hlt
            rw [hsh]
            clear hsh R1 R2
            go_wp2_with fail
            refine (s_trim Ao l co _ HRo (by omega) hc1 hc2).mono ?_
            rintro e w4 ⟨rfl, rfl⟩
            go_wp2
            go_ret2
            rw [HR.out, HB0.out, ← HF.out]
            exact ⟨Ao, co, rfl, (HOI.out.take _).more (HT3.out.size), b_step HT3.out HW.out⟩
    · have HB0 := Lib.hid (qB_f (x := x0) (y := y0) fun hh => hev hh.2)
      have HR := Lib.hid (show qdR x0 y0 = [] by unfold qdR; rw [HB0.out]; rfl)
      have HE := Lib.hid (show y0 % 2 = 1 by omega)
      obtain ⟨h1, h2, h3, h4⟩ := hg
      clear hev
      go_enter Try.func32, Try.ntmps32
      go_wp2_with fail
      refine (spec_gok_ok x0 y0 _ h1 h2 h3 h4).mono ?_
      rintro e w1 ⟨rfl, c1, rfl⟩
      go_wp2_with (first | (go_at_call 44; go_in))
      refine (s_mod y0 2 _ (by omega) (by omega)).mono ?_
      rw [HE.out]
      rintro e w1 ⟨rfl, rfl⟩
      go_wp2
      go_ret2
      rw [HR.out, HB0.out]
      exact RetLB.nil _ _ (b_alloc (b_alloc (Below.refl _ _) _) _)
  · have HB0 := Lib.hid (qB_f (x := x0) (y := y0) fun hh => hg hh.1)
    have HR := Lib.hid (show qdR x0 y0 = [] by unfold qdR; rw [HB0.out]; rfl)
    have HG := Lib.hid hg
    clear hg
    go_enter Try.func32, Try.ntmps32
    go_wp2_with fail
    refine (spec_gok_bad x0 y0 _ HG.out).mono ?_
    rintro e w1 ⟨rfl, c1, rfl⟩
    go_wp2
    go_ret2
    rw [HR.out, HB0.out]
    exact RetLB.nil _ _ (b_alloc (b_alloc (Below.refl _ _) _) _)
end Go.Proofs.Ythblbmihpgkanaa
