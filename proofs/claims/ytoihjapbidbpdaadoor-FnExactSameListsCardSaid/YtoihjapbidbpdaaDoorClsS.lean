/- The contract of spec.l17Classes. Conditions: a machine that fits. -/
import Derived.Test.YtoihjapbidbpdaaDoorThree
namespace Go.Proofs.YtoihjapbidbpdaaDoor
open Go.RowKit
set_option linter.unusedVariables false
theorem Row.made1 (w wr : World) (h : w.heap.size + 1 ≤ wr.heap.size) : Row (wr.alloc (.cells #[] 3)) (w.heap.size + 1) (.slice (some ⟨wr.heap.size, 0, none⟩) 0 0) (il []) := (Row.made wr).mono h
theorem il_bd {l : List Nat} {m : Nat} (h : l.length ≤ m) : (il l).length ≤ m := by rw [len_il]; exact h
theorem CS.start {w wr : World} {b : Int} {vN vF v3 : Value} {cl : List Nat} (h : Row wr (w.heap.size + 1) v3 (il cl)) (hm : BM wr w.heap.size b vN vF) (hb : Below w.heap.size w wr) :
    CS w ((wr.alloc (.cells #[] 3)).alloc (.cells #[] 3)) b vN vF v3 (.slice (some ⟨wr.heap.size, 0, none⟩) 0 0) (.slice (some ⟨wr.heap.size + 1, 0, none⟩) 0 0) cl [] [] := by
  have hl := hm.lt
  have o1 := b_alloc (Below.refl wr.heap.size wr) (.cells #[] 3)
  have r7 := Row.made1 w (wr.alloc (.cells #[] 3)) (by rw [World.size_alloc]; omega)
  rw [World.size_alloc] at r7
  refine ⟨(h.below o1).below (b_alloc (Below.refl _ _) _), (Row.made1 w wr hl).below (b_alloc (Below.refl _ _) _), r7, ?_, ?_, ?_, (hm.below o1 hl).below (b_alloc (Below.refl _ _) _) (by rw [World.size_alloc]; omega), b_alloc (b_alloc hb _) _⟩
  · intro k hk e
    have := (World.ownsRow.lt h k hk).2
    simp [Value.ownBlock] at e
    omega
  · intro k hk e
    have := (World.ownsRow.lt h k hk).2
    simp [Value.ownBlock] at e
    omega
  · intro k hk e
    simp [Value.ownBlock] at hk e
    omega
theorem Row.rd {w : World} {B m c : Nat} {A : Option Addr} {xs : List Int} (h : Row w B (.slice A m c) xs) : RI w w.heap.size A xs := by
  have h0 := h
  obtain ⟨A', c', e⟩ := h0.shape
  injection e with e1 e2 e3
  subst e1 e2 e3
  exact (OI.of_own h).2.reads
set_option maxRecDepth 100000 in
set_option maxHeartbeats 20000000 in
theorem s_classes (bb n : Nat) (N F : Option Addr) (xs : List Int) (ys : List Bool) (c d : Nat) (w : World) (hM : MC xs bb n) (hn : ys.length = n) (hN : RI w w.heap.size N xs) (hF : RB w w.heap.size F ys) :
    Calls Tryd.prog 23 #[.agg #[.int .i64 (bb : Nat), .slice N xs.length c, .slice F n d]] w (RetL w (il (stpK xs bb n (cl0 ys) n))) := by
  obtain ⟨i0, hi, hz0, hz1, hz2⟩ := info_parts info_int
  have hn1 := hM.n1
  have hn2 := hM.n144
  have HM := Lib.hid hM
  have HY := Lib.hid hn
  have HB0 := Lib.hid (b_alloc (Below.refl w.heap.size w) (.cells #[.int .i64 (bb : Nat), .slice N xs.length c, .slice F n d] 28))
  have HNN0 := Lib.hid hN
  have HFF := Lib.hid hF
  have M0 := BM.new w (bb : Nat) (.slice N xs.length c) (.slice F n d)
  have c2 := M0.cell2
  have HM0 := Lib.hid M0
  clear hM hn hN hF M0
  go_enter Tryd.func23, Tryd.ntmps23
  go_wp2
  clear c2
  go_loopw [3, 16] (fun v i wr => ∃ k : Nat, k ≤ n ∧ i = .int .i64 k ∧ Row wr (w.heap.size + 1) v (il ((cl0 ys).take k)) ∧ BM wr w.heap.size (bb : Nat) (.slice N xs.length c) (.slice F n d) ∧ Below w.heap.size w wr) (fun _ i _ => n - (intOf i).toNat)
  case atStart => exact ⟨0, Nat.zero_le _, rfl, by
      have := Row.made1 w (w.alloc (.cells #[.int .i64 (bb : Nat), .slice N xs.length c, .slice F n d] 28)) (by rw [World.size_alloc]; omega)
      simp only [World.size_alloc] at this
      exact this, HM0.out.below (b_alloc (Below.refl _ _) _) (by rw [World.size_alloc]; omega), b_alloc HB0.out _⟩
  case round =>
    obtain ⟨k, hk, rfl, hR, hBm, hW⟩ := hrel
    by_cases hlt : k < n
    · obtain ⟨bF, oF, hA, hbF, hc⟩ := (HFF.out.below hW).at_ (k := k) (by rw [HY.out]; exact hlt)
      subst hA
      obtain ⟨q, hq⟩ : ∃ q, ys.getD k false = q := ⟨_, rfl⟩
      rw [hq] at hc
      have HT := Lib.hid (show (cl0 ys).take (k + 1) = (cl0 ys).take k ++ [if q then 1 else 0] by rw [← hq]; exact cl0_take ys k (by rw [HY.out]; exact hlt))
      have ll : (il ((cl0 ys).take k)).length ≤ 144 := il_bd (by rw [List.length_take]; omega)
      have hb1 := hBm.lt
      have HBM := Lib.hid hBm
      have HW := Lib.hid hW
      clear hBm hW hq
      cases q
      all_goals skip
      · skip
        go_wp2_with (first | (at_builtin; refine wpList_append_own_at _ rfl _ _ 22 rfl (w.heap.size + 1) 3 i0 (.int .i64 0) 1 8 Tryd.underlying22 hi hz0 hz1 hz2 rfl (by decide) _ _ _ rfl (World.ownsRow.alloc hR _) ⟨wr.heap.size, 0, none⟩ 1 1 [.int .i64 0] rfl rfl (cell_one_new _ _ _) ?c1_1 ?c1_2 ?c1_3 ?c1_4 ?_))
        case c1_1 => first | rfl | (intro u hu; simp at hu; subst hu; rfl)
        case c1_2 => unfold maxLen; omega
        case c1_3 => omega
        case c1_4 => first | omega | (simp; omega)
        intro v1 w1 ho hg _ hat
        have HR1 := Lib.hid (Row.app1 (y := 0) ho (by omega) rfl)
        have HB1 := Lib.hid (HBM.out.app (B := 0) hR hg)
        have HW1 := Lib.hid (b_app HW.out hR hg)
        clear ho hg hat
        go_wp2
        go_roundw
        case rel => exact ⟨k + 1, by omega, by go_num, by rw [HT.out]; exact HR1.out, HB1.out, HW1.out⟩
        case measure => simp [intOf]; omega
      · skip
        go_wp2_with (first | (at_builtin; refine wpList_append_own_at _ rfl _ _ 22 rfl (w.heap.size + 1) 3 i0 (.int .i64 0) 1 8 Tryd.underlying22 hi hz0 hz1 hz2 rfl (by decide) _ _ _ rfl (World.ownsRow.alloc hR _) ⟨wr.heap.size, 0, none⟩ 1 1 [.int .i64 1] rfl rfl (cell_one_new _ _ _) ?c2_1 ?c2_2 ?c2_3 ?c2_4 ?_))
        case c2_1 => first | rfl | (intro u hu; simp at hu; subst hu; rfl)
        case c2_2 => unfold maxLen; omega
        case c2_3 => omega
        case c2_4 => first | omega | (simp; omega)
        intro v1 w1 ho hg _ hat
        have HR1 := Lib.hid (Row.app1 (y := 1) ho (by omega) rfl)
        have HB1 := Lib.hid (HBM.out.app (B := 0) hR hg)
        have HW1 := Lib.hid (b_app HW.out hR hg)
        clear ho hg hat
        go_wp2
        go_roundw
        case rel => exact ⟨k + 1, by omega, by go_num, by rw [HT.out]; exact HR1.out, HB1.out, HW1.out⟩
        case measure => simp [intOf]; omega
    · obtain rfl : n = k := by omega
      have HR := Lib.hid (show Row wr (w.heap.size + 1) u3 (il (stpK xs bb n (cl0 ys) 0)) by
        have := hR
        rw [List.take_of_length_le (by rw [len_cl0, HY.out]; exact Nat.le_refl _)] at this
        exact this)
      have HBM := Lib.hid hBm
      have HW := Lib.hid hW
      have c2 := hBm.cell2
      clear hR hBm hW hlt hk HM0 HB0
      go_wp2
      clear c2
      go_loopw [3, 31] (fun v i wr2 => ∃ j : Nat, j ≤ n ∧ i = .int .i64 j ∧ Row wr2 (w.heap.size + 1) v (il (stpK xs bb n (cl0 ys) j)) ∧ BM wr2 w.heap.size (bb : Nat) (.slice N xs.length c) (.slice F n d) ∧ Below w.heap.size w wr2) (fun _ i _ => n - (intOf i).toNat)
      case atStart => exact ⟨0, Nat.zero_le _, rfl, HR.out, HBM.out, HW.out⟩
      case round =>
        clear HR HBM HW
        obtain ⟨j, hj, rfl, hR, hBm, hW⟩ := hrel
        by_cases hlt : j < n
        · obtain ⟨cl, hcl⟩ : ∃ cl, stpK xs bb n (cl0 ys) j = cl := ⟨_, rfl⟩
          have lcl : cl.length = n := by rw [← hcl]; exact len_stpK xs bb n _ (by rw [len_cl0, HY.out]) j
          rw [hcl] at hR
          obtain ⟨A3, c3, e3, _⟩ := hR.sh
          rw [lcl] at e3
          subst e3
          have HCL := Lib.hid hcl
          have HL := Lib.hid lcl
          have S0 := CS.start hR hBm hW
          have c2 := S0.m.cell2
          have HS := Lib.hid S0
          clear hcl lcl hR hBm hW S0
          go_wp2
          clear c2
          go_loopw [6, 7, 38] (fun a b i wr3 => ∃ s : Nat, s ≤ n ∧ i = .int .i64 s ∧ CS w wr3 (bb : Nat) (.slice N xs.length c) (.slice F n d) (.slice A3 n c3) a b cl (nrd xs bb cl s).2 (fsts xs bb cl s)) (fun _ _ i _ => n - (intOf i).toNat)
          case atStart => exact ⟨0, Nat.zero_le _, rfl, HS.out⟩
          case round =>
            clear HS
            obtain ⟨s, hs, rfl, hS⟩ := hrel
            by_cases hls : s < n
            · obtain ⟨T, hT⟩ : ∃ T, fsts xs bb cl s = T := ⟨_, rfl⟩
              have lT : T.length ≤ s := by rw [← hT, fsts_len]; exact nrd_le _ _ _ _
              rw [hT] at hS
              obtain ⟨NN, hNN⟩ : ∃ NN, (nrd xs bb cl s).2 = NN := ⟨_, rfl⟩
              have lNN : NN.length = s := by rw [← hNN]; exact nrd_len _ _ _ _
              rw [hNN] at hS
              obtain ⟨A7, c7, e7, _⟩ := hS.r7.sh
              subst e7
              have HT := Lib.hid hT
              have HNN := Lib.hid hNN
              have lN2 : (il NN).length ≤ 144 := il_bd (by omega)
              have lT2 : (il T).length ≤ 144 := il_bd (by omega)
              have LN := Lib.hid lNN
              have HS := Lib.hid hS
              clear hT hNN lNN hS
              go_wp2
              go_loopw [9, 43] (fun k i wr4 => ∃ q : Nat, q ≤ T.length ∧ i = .int .i64 q ∧ k = .int .i64 (-1) ∧ Hid (∀ u, u < q → ¬ sgn xs bb cl s = sgn xs bb cl (T.getD u 0)) ∧ CS w wr4 (bb : Nat) (.slice N xs.length c) (.slice F n d) (.slice A3 n c3) u6 (.slice A7 T.length c7) cl NN T) (fun _ i _ => T.length - (intOf i).toNat)
              case atStart => exact ⟨0, Nat.zero_le _, rfl, rfl, fun u hu => by omega, HS.out⟩
              case round =>
                clear HS
                obtain ⟨q, hq, rfl, rfl, hH, hS⟩ := hrel
                by_cases hlq : q < T.length
                · obtain ⟨b7, o7, hA7, hb7, hc7⟩ := (hS.r7.rd).at_ (k := q) (by rw [len_il]; exact hlq)
                  subst hA7
                  rw [getD_il] at hc7
                  obtain ⟨r, hr⟩ : ∃ r, T.getD q 0 = r := ⟨_, rfl⟩
                  have hrs : r < s := by rw [← hr, ← HT.out]; exact fsts_lt _ _ _ _ _ (by rw [HT.out, List.getD_eq_getElem?_getD, List.getElem?_eq_getElem hlq]; exact List.getElem_mem _)
                  rw [hr] at hc7
                  have m0 := hS.m.cell0
                  have m1 := hS.m.cell1
                  have m2 := hS.m.cell2
                  have RN := Lib.hid ((HNN0.out.below (hS.b)).more hS.b.size)
                  have R3 := Lib.hid hS.r3.rd
                  have HS := Lib.hid hS
                  have HR := Lib.hid hr
                  have HH := hH
                  clear hr hS hH
                  go_wp2_with fail
                  by_cases he : sgn xs bb cl s = sgn xs bb cl r
                  · refine (s_alike bb n N F A3 xs cl c d c3 s r true _ HM.out RN.out R3.out HL.out hls (by omega) (by simp [he])).mono ?_
                    rintro e w5 ⟨rfl, hb5⟩
                    have HS5 := Lib.hid (HS.out.call hb5)
                    have hO := HS5.out.r6
                    have hsz := HS5.out.base
                    have h0 : ¬ ((q : Int) < 0) := by omega
                    have HE := Lib.hid (hit_old (xs := xs) (bb := bb) (cl := cl) (s := s) (j := q) (by rw [HT.out]; exact hlq) (by rw [HT.out, HR.out]; exact he) (by rw [HT.out]; exact HH.out))
                    clear m0 m1 m2 hc7 hb5 RN R3 HS he
                    go_wp2_with (first | (at_builtin; refine wpList_append_own_at _ rfl _ _ 22 rfl (w.heap.size + 1) 3 i0 (.int .i64 0) 1 8 Tryd.underlying22 hi hz0 hz1 hz2 rfl (by decide) _ _ _ rfl (World.ownsRow.alloc hO _) ⟨w5.heap.size, 0, none⟩ 1 1 [.int .i64 (q : Int)] rfl rfl (cell_one_new _ _ _) ?c3_1 ?c3_2 ?c3_3 ?c3_4 ?_))
                    case c3_1 => first | rfl | (intro u hu; simp at hu; subst hu; rfl)
                    case c3_2 => unfold maxLen; omega
                    case c3_3 => omega
                    case c3_4 => first | omega | (simp; omega)
                    intro v1 w1 ho hg _ hat
                    have HS6 := Lib.hid (HS5.out.app6 (y := q) ho (by simp) rfl hg (by rw [World.size_alloc]; exact hat))
                    clear ho hg hat hO HS5
                    go_wp2
                    go_roundw
                    case rel => exact ⟨s + 1, by omega, by go_num, by rw [HE.out.1, HE.out.2, HT.out, HNN.out]; exact HS6.out⟩
                    case measure => simp [intOf]; omega
                  · refine (s_alike bb n N F A3 xs cl c d c3 s r false _ HM.out RN.out R3.out HL.out hls (by omega) (by simp [he])).mono ?_
                    rintro e w5 ⟨rfl, hb5⟩
                    have HS5 := Lib.hid (HS.out.call hb5)
                    have HE := Lib.hid he
                    clear m0 m1 m2 hc7 hb5 RN R3 HS he
                    go_wp2
                    go_roundw
                    case rel => exact ⟨q + 1, by omega, by go_num, rfl, fun u hu => by
                        by_cases e : u = q
                        · subst e; rw [HR.out]; exact HE.out
                        · exact HH.out u (by omega), HS5.out⟩
                    case measure => simp [intOf]; omega
                · obtain rfl : T.length = q := by omega
                  have HE := Lib.hid (hit_new (xs := xs) (bb := bb) (cl := cl) (s := s) (by rw [HT.out]; exact hH.out))
                  have HS := Lib.hid hS
                  have hO := HS.out.r7
                  have hsz := HS.out.base
                  clear hS hH hlq hq
                  go_wp2_with (first | (at_builtin; refine wpList_append_own_at _ rfl _ _ 22 rfl (w.heap.size + 1) 3 i0 (.int .i64 0) 1 8 Tryd.underlying22 hi hz0 hz1 hz2 rfl (by decide) _ _ _ rfl (World.ownsRow.alloc hO _) ⟨wr.heap.size, 0, none⟩ 1 1 [.int .i64 (s : Int)] rfl rfl (cell_one_new _ _ _) ?c4_1 ?c4_2 ?c4_3 ?c4_4 ?_))
                  case c4_1 => first | rfl | (intro u hu; simp at hu; subst hu; rfl)
                  case c4_2 => unfold maxLen; omega
                  case c4_3 => omega
                  case c4_4 => first | omega | (simp; omega)
                  intro v1 w1 ho hg _ hat
                  have HS6 := Lib.hid (HS.out.app7 (y := s) ho (by simp) rfl hg (by rw [World.size_alloc]; exact hat))
                  clear ho hg hat hO HS hsz
                  have hO := HS6.out.r6
                  have hsz := HS6.out.base
                  go_wp2_with (first | (at_builtin; refine wpList_append_own_at _ rfl _ _ 22 rfl (w.heap.size + 1) 3 i0 (.int .i64 0) 1 8 Tryd.underlying22 hi hz0 hz1 hz2 rfl (by decide) _ _ _ rfl (World.ownsRow.alloc hO _) ⟨w1.heap.size, 0, none⟩ 1 1 [.int .i64 (T.length : Int)] rfl rfl (cell_one_new _ _ _) ?c5_1 ?c5_2 ?c5_3 ?c5_4 ?_))
                  case c5_1 => first | rfl | (intro u hu; simp at hu; subst hu; rfl)
                  case c5_2 => unfold maxLen; omega
                  case c5_3 => omega
                  case c5_4 => first | omega | (simp; omega)
                  intro v1 w1 ho hg _ hat
                  have HS7 := Lib.hid (HS6.out.app6 (y := T.length) ho (by simp) rfl hg (by rw [World.size_alloc]; exact hat))
                  clear ho hg hat hO HS6
                  go_wp2
                  go_roundw
                  case rel => exact ⟨s + 1, by omega, by go_num, by rw [HE.out.1, HE.out.2, HT.out, HNN.out]; exact HS7.out⟩
                  case measure => simp [intOf]; omega
            · obtain rfl : n = s := by omega
              have HR := Lib.hid hS.r6
              have HBM := Lib.hid hS.m
              have HW := Lib.hid hS.b
              clear hS hls hs
              go_wp2
              go_roundw
              case rel => exact ⟨j + 1, by omega, by go_num, by rw [stpK, HCL.out]; exact HR.out, HBM.out, HW.out⟩
              case measure => simp [intOf]; omega
        · obtain rfl : n = j := by omega
          have HR := Lib.hid hR
          have HW := Lib.hid hW
          clear hR hBm hW
          go_wp2
          go_ret
          exact RetL.of (HR.out.mono (Nat.le_succ _)) HW.out rfl
end Go.Proofs.YtoihjapbidbpdaaDoor
