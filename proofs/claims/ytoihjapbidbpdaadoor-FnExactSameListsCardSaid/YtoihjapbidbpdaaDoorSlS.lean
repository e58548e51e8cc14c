/- The contract of spec.SameLists. Conditions: two machines that fit, of one base. -/
import Derived.Test.YtoihjapbidbpdaaDoorSlF
import Derived.Test.YtoihjapbidbpdaaDoorRedA
namespace Go.Proofs.YtoihjapbidbpdaaDoor
open Go.RowKit
set_option linter.unusedVariables false
/-- What holds while the pairs are gone through: the list's row, the marks' block. -/
structure SS (wc wr : World) (v7 : Value) (L : List Nat) (m : Nat) : Prop where
  r : Row wr (wc.heap.size + 1) v7 (il L)
  b : ∃ cs, BB wr wc.heap.size cs ∧ Seen cs m L
  bc : Below wc.heap.size wc wr
theorem Seen.start {m : Nat} (hm : 1 ≤ m) : Seen ((madeCells #[.bool false] m).setIfInBounds 0 (.bool true)) m [0] :=
  Seen.put (L := []) ⟨by simp [madeCells], fun x hx => by have h1 : x % 1 = 0 := Nat.mod_one x; simp [madeCells, hx, h1]⟩ (by omega)
theorem SS.start (wc : World) {m : Nat} (hm : 1 ≤ m) : SS wc ((wc.alloc (.cells ((madeCells #[.bool false] m).setIfInBounds 0 (.bool true)) 4)).alloc (.cells #[.int .i64 0] 3)) (.slice (some ⟨wc.heap.size + 1, 0, none⟩) 1 1) [0] m := by
  have a := Row.one (wc.alloc (.cells ((madeCells #[.bool false] m).setIfInBounds 0 (.bool true)) 4)) (wc.heap.size + 1) 0 (by simp)
  rw [World.size_alloc] at a
  have b := (BB.new wc ((madeCells #[.bool false] m).setIfInBounds 0 (.bool true))).below (b_alloc (Below.refl _ _) (.cells #[.int .i64 0] 3)) (by simp)
  exact ⟨a, ⟨_, b, Seen.start hm⟩, b_alloc (b_alloc (Below.refl _ _) _) _⟩
theorem SS.put {wc wr : World} {v7 : Value} {L : List Nat} {m y : Nat} (h : SS wc wr v7 L m) (hy : y < m) : ∃ cs, BB (wr.setCell ⟨wc.heap.size, y, none⟩ (.bool true)) wc.heap.size cs ∧ Seen cs m (L ++ [y]) := by
  obtain ⟨cs, h1, h2⟩ := h.b
  exact ⟨_, h1.set_ y _, h2.put hy⟩
theorem SS.app {wc wr w1 : World} {v7 v1 : Value} {L : List Nat} {m y k : Nat} {x : Int} {o : Obj} (h : SS wc wr v7 L m) (hy : y < m) (ho : w1.ownsRow (wc.heap.size + 1) 3 1 v1 k ((il L).map (Value.int .i64) ++ [.int .i64 x])) (hk : k = (il L).length + 1) (hx : x = (y : Int))
    (hg : ((wr.setCell ⟨wc.heap.size, y, none⟩ (.bool true)).alloc o).grownBy w1 v7.ownBlock) : SS wc w1 v1 (L ++ [y]) m := by
  obtain ⟨cs, h1, h2⟩ := h.put hy
  have hr := h.r.setx (p := ⟨wc.heap.size, y, none⟩) (by simp) (.bool true)
  have hb := h.bc.setCell (p := ⟨wc.heap.size, y, none⟩) (Nat.le_refl _) (.bool true)
  have hsz := hb.size
  have hb2 := b_alloc hb o
  have h3 := h1.below (b_alloc (Below.refl _ _) o) h1.lt
  refine ⟨Row.app1 ho hk hx, ⟨cs, (hg.block wc.heap.size h3.lt (hr.lo (by omega))).trans h3, h2⟩, hb2.grown hg hb2.size fun k hk => ?_⟩
  have := (World.ownsRow.lt hr k hk).1
  omega
theorem SS.keep {wc wr w1 : World} {v7 : Value} {L : List Nat} {m : Nat} (h : SS wc wr v7 L m) (hb : Below wr.heap.size wr w1) : SS wc w1 v7 L m := by
  obtain ⟨cs, h1, h2⟩ := h.b
  exact ⟨h.r.below hb, ⟨cs, h1.below hb h1.lt, h2⟩, h.bc.trans (hb.mono h.bc.size)⟩
theorem cell_set_new (w : World) (p : Addr) (y x : Value) (t : TypeId) : ∀ j u, [x][j]? = some u → ((w.setCell p y).alloc (.cells #[x] t)).cell? ((⟨w.heap.size, 0, none⟩ : Addr).add j) = some u := by
  have hz : (w.setCell p y).heap.size = w.heap.size := by simp [World.setCell]
  rw [← hz]
  exact cell_one_new _ _ _
set_option maxRecDepth 100000 in
set_option maxHeartbeats 40000000 in
theorem spec_sl_t (bb : Nat) (Na Fa Nc Fc : Option Addr) (xa xc : List Int) (ya yc : List Bool) (ca da cc dc : Nat) (w : World) (hMA : MC xa bb ya.length) (hMC : MC xc bb yc.length) (hA : mok ((bb : Nat) : Int) xa ya.length = true) (hC : mok ((bb : Nat) : Int) xc yc.length = true)
    (hNa : RI w w.heap.size Na xa) (hFa : RB w w.heap.size Fa ya) (hNc : RI w w.heap.size Nc xc) (hFc : RB w w.heap.size Fc yc) :
    Calls Tryd.prog 6 #[.agg #[.int .i64 (bb : Nat), .slice Na xa.length ca, .slice Fa ya.length da], .agg #[.int .i64 (bb : Nat), .slice Nc xc.length cc, .slice Fc yc.length dc]] w fun e w' => e = .returned (.bool (slQ bb xa xc ya yc)) ∧ Below w.heap.size w w' := by
  obtain ⟨i0, hi, hz0, hz1, hz2⟩ := info_parts info_int
  have na1 := hMA.n1
  have na2 := hMA.n144
  have nc1 := hMC.n1
  have nc2 := hMC.n144
  have hbb := hMA.b10
  have hla := hMA.le
  have hlc := hMC.le
  obtain ⟨m, hm⟩ : ∃ m, ya.length * yc.length = m := ⟨_, rfl⟩
  have m1 : 1 ≤ m := by rw [← hm]; exact Nat.mul_le_mul na1 nc1
  have m2 : m ≤ 20736 := by rw [← hm]; exact Nat.mul_le_mul na2 nc2
  have f0 : (ya.length : Int) * (yc.length : Int) = (m : Int) := by rw [← hm]; exact (Int.natCast_mul _ _).symm
  have x0 : IntKind.i64.wrap (m : Int) = (m : Int) := IntWalk.i64_in _ (by omega)
  have HMM := Lib.hid hm
  have HMA := Lib.hid hMA
  have HMC := Lib.hid hMC
  have HOA := Lib.hid hA
  have HOC := Lib.hid hC
  have HNa := Lib.hid hNa
  have HNc := Lib.hid hNc
  have HFa := Lib.hid hFa
  have HFc := Lib.hid hFc
  clear hA hNa hNc hC hFa hFc hMA hMC hm
  have hmk := run_make_row' (P := Tryd.prog) 23 4 (.bool false) 1 Tryd.underlying23 info_bool rfl .i64 .i64 m (by omega) (by omega)
  have T0 := b_alloc (b_alloc (Below.refl w.heap.size w) (.cells #[.int .i64 (bb : Nat), .slice Na xa.length ca, .slice Fa ya.length da] 28)) (.cells #[.int .i64 (bb : Nat), .slice Nc xc.length cc, .slice Fc yc.length dc] 28)
  have M0 := (BM.new w (bb : Nat) (.slice Na xa.length ca) (.slice Fa ya.length da)).below (b_alloc (Below.refl _ _) (.cells #[.int .i64 (bb : Nat), .slice Nc xc.length cc, .slice Fc yc.length dc] 28)) (by simp)
  have M1 := BM.new (w.alloc (.cells #[.int .i64 (bb : Nat), .slice Na xa.length ca, .slice Fa ya.length da] 28)) (bb : Nat) (.slice Nc xc.length cc) (.slice Fc yc.length dc)
  simp only [World.size_alloc] at M1
  have HT0 := Lib.hid T0
  have HM0 := Lib.hid M0
  have HM1 := Lib.hid M1
  clear T0 M0 M1
  go_enter Tryd.func6, Tryd.ntmps6
  go_wp2_with fail
  refine (spec_mok _ _ _ xa _ _ _ _ ((HNa.out.below HT0.out).more HT0.out.size) (by omega) (by omega)).mono ?_
  rw [HOA.out]
  rintro e w1 ⟨rfl, hb⟩
  have hz1' : w.heap.size + 1 < w1.heap.size := by have := hb.size; simp at this; omega
  have m0 := HM0.out.below hb (by first | (simp; done) | (simp; omega))
  have m1' := HM1.out.below hb (by first | (simp; done) | (simp; omega))
  have HT1 := Lib.hid (b_step HT0.out hb)
  clear HT0 HM0 HM1 hb
  have HM0 := Lib.hid m0
  have HM1 := Lib.hid m1'
  have q0 := m0.cell0
  have q1 := m0.cell1
  have q2 := m0.cell2
  have r0 := m1'.cell0
  have r1 := m1'.cell1
  have r2 := m1'.cell2
  clear m0 m1'
  go_wp2_with fail
  clear q0 q1 q2 r0 r1 r2
  refine (spec_mok _ _ _ xc _ _ _ _ ((HNc.out.below HT1.out).more HT1.out.size) (by omega) (by omega)).mono ?_
  rw [HOC.out]
  rintro e wc ⟨rfl, hb⟩
  have hz2' : w.heap.size + 1 < wc.heap.size := by have := hb.size; omega
  have m0 := HM0.out.below hb (by omega)
  have m1' := HM1.out.below hb (by omega)
  have HT2 := Lib.hid (b_step HT1.out hb)
  clear HT1 HM0 HM1 hb hz1'
  have HM0 := Lib.hid m0
  have HM1 := Lib.hid m1'
  have q0 := m0.cell0
  have q2 := m0.cell2
  have r0 := m1'.cell0
  have r2 := m1'.cell2
  clear m0 m1'
  obtain ⟨O1, hO1⟩ : ∃ o : Obj, o = .cells (madeCells #[.bool false] m) 4 := ⟨_, rfl⟩
  have BB1 : BB (wc.alloc (.cells (madeCells #[.bool false] m) 4)) wc.heap.size (madeCells #[.bool false] m) := BB.new _ _
  have BB2 := BB1.below (b_alloc (Below.refl _ _) (.cells #[.int .i64 0] 3)) (by simp)
  have sz : (madeCells #[.bool false] m).size = m := by simp [madeCells]
  obtain ⟨v0, k0⟩ := BB2.ex (i := 0) (by rw [sz]; omega)
  have k1 := BB2.frozen 0
  have z0 : (0 : Int) < (m : Int) := by omega
  clear hO1 BB1
  go_wp2_with fail
  clear k0 k1 q2 r2 hmk BB2 sz v0
  go_loopw [7, 8] (fun v7 i wr => ∃ ii : Nat, i = .int .i64 ii ∧ SS wc wr v7 (sou xa xc bb yc.length ii) m ∧ Hid (SO xa xc ya yc bb yc.length ii)) (fun _ i _ => m + 1 - (intOf i).toNat)
  case atStart => exact ⟨0, rfl, SS.start wc m1, fun q hq => by omega⟩
  case round =>
    obtain ⟨ii, rfl, hS, hO⟩ := hrel
    have hlk := SO.ok HMA.out HMC.out ii hO.out
    obtain ⟨L, hL⟩ : ∃ L, sou xa xc bb yc.length ii = L := ⟨_, rfl⟩
    rw [hL] at hS hlk
    have lL := hlk.len HMA.out HMC.out
    rw [HMM.out] at lL
    obtain ⟨A7, c7, e7, _⟩ := hS.r.sh
    subst e7
    have HL := Lib.hid hL
    have HLK := Lib.hid hlk
    clear hL hlk
    by_cases hlt : ii < L.length
    · obtain ⟨x, hx⟩ : ∃ x, L.getD ii 0 = x := ⟨_, rfl⟩
      have hrx := HLK.out.rch _ (mem_at hlt)
      rw [hx] at hrx
      obtain ⟨hs, hu⟩ := hrx.lt HMA.out HMC.out
      have xlt := HLK.out.lt HMA.out HMC.out _ (mem_at hlt)
      rw [hx, HMM.out] at xlt
      obtain ⟨b7, o7, hA7, h7b, h7c⟩ := (hS.r.rd).at_ (k := ii) (by rw [len_il]; exact hlt)
      subst hA7
      rw [getD_il, hx] at h7c
      have HX := Lib.hid hx
      have HRX := Lib.hid hrx
      obtain ⟨s, hs0⟩ : ∃ s, x / yc.length = s := ⟨_, rfl⟩
      obtain ⟨u, hu0⟩ : ∃ u, x % yc.length = u := ⟨_, rfl⟩
      have e1 : Int.tdiv (x : Int) (yc.length : Int) = (s : Int) := by rw [← hs0]; rfl
      have e2 : Int.tmod (x : Int) (yc.length : Int) = (u : Int) := by rw [← hu0]; rfl
      rw [hs0] at hs
      rw [hu0] at hu
      have HS0 := Lib.hid hs0
      have HU0 := Lib.hid hu0
      have hW := HT2.out.trans (hS.bc.mono HT2.out.size)
      obtain ⟨bF, oF, hAF, hbF, hcF⟩ := (HFa.out.below hW).at_ hs
      obtain ⟨bG, oG, hAG, hbG, hcG⟩ := (HFc.out.below hW).at_ hu
      subst hAF hAG
      obtain ⟨p, hp⟩ : ∃ p, ya.getD s false = p := ⟨_, rfl⟩
      obtain ⟨q, hq⟩ : ∃ q, yc.getD u false = q := ⟨_, rfl⟩
      rw [hp] at hcF
      rw [hq] at hcG
      have HP := Lib.hid hp
      have HQ := Lib.hid hq
      have MA := HM0.out.below hS.bc HM0.out.lt
      have MC' := HM1.out.below hS.bc HM1.out.lt
      have q2 := MA.cell2
      have r2 := MC'.cell2
      have i2 : (ii : Int) < (L.length : Int) := by omega
      have s0 : (0 : Int) ≤ (s : Int) := by omega
      have s1 : (s : Int) < (ya.length : Int) := by omega
      have u0 : (0 : Int) ≤ (u : Int) := by omega
      have u1 : (u : Int) < (yc.length : Int) := by omega
      have nz : ¬ (yc.length : Int) = 0 := by omega
      have xs0 : IntKind.i64.wrap (s : Int) = (s : Int) := IntWalk.i64_in _ (by omega)
      have xu0 : IntKind.i64.wrap (u : Int) = (u : Int) := IntWalk.i64_in _ (by omega)
      have HS := Lib.hid hS
      have HO := Lib.hid hO.out
      clear hp hq hx hrx hs0 hu0 hS MA MC' hW hO
      by_cases hpq : p = q
      · have hb1 : (p != q) = false := by simp [hpq]
        have hb2 : (p == q) = true := by simp [hpq]
        have HO2 := Lib.hid (show SO xa xc ya yc bb yc.length (ii + 1) from fun q' hq' => by
          rcases Nat.lt_succ_iff_lt_or_eq.1 hq' with h' | rfl
          · exact HO.out q' h'
          · rw [HL.out]
            exact ⟨hlt, by rw [HX.out, HS0.out, HU0.out, HP.out, HQ.out, hpq]⟩)
        clear hpq
        go_wp2
        go_quiet (fail)
        clear h7c hcF hcG q2 r2 i2 e1 e2 xs0 xu0
        go_wp2
        go_loopw [7, 11] (fun v7 d wr2 => ∃ t : Nat, t ≤ bb ∧ d = .int .i64 t ∧ SS wc wr2 v7 (sin xa xc bb yc.length s u L t) m) (fun _ d _ => bb - (intOf d).toNat)
        case atStart => exact ⟨0, Nat.zero_le _, rfl, HS.out.keep (b_drewN (Below.refl _ _) _)⟩
        case round =>
          clear HS
          obtain ⟨t, ht, rfl, hS⟩ := hrel
          have hrx := HRX.out
          rw [HS0.out, HU0.out] at hrx
          have hlk := HLK.out.sin HMA.out HMC.out hrx t ht
          obtain ⟨L2, hL2⟩ : ∃ L2, sin xa xc bb yc.length s u L t = L2 := ⟨_, rfl⟩
          rw [hL2] at hS hlk
          have lL2 := hlk.len HMA.out HMC.out
          rw [HMM.out] at lL2
          have lI2 : (il L2).length ≤ 20736 := by rw [len_il]; omega
          have HL2 := Lib.hid hL2
          have HRX2 := Lib.hid hrx
          have HLK2 := Lib.hid hlk
          have MA := HM0.out.below hS.bc HM0.out.lt
          have MC' := HM1.out.below hS.bc HM1.out.lt
          have q0 := MA.cell0
          have lt0 := MA.lt
          clear hL2 hrx hlk
          by_cases hlb : t < bb
          · have hW := HT2.out.trans (hS.bc.mono HT2.out.size)
            obtain ⟨v1, v1n⟩ := HMA.out.at_ hs hlb
            have hi1 := HMA.out.lt hs hlb
            obtain ⟨bN, oN, hAN, hbN, hcN⟩ := (HNa.out.below hW).at_ hi1
            subst hAN
            rw [v1] at hcN
            obtain ⟨v2, v2n⟩ := HMC.out.at_ hu hlb
            have hi2 := HMC.out.lt hu hlb
            obtain ⟨bP, oP, hAP, hbP, hcP⟩ := (HNc.out.below hW).at_ hi2
            subst hAP
            rw [v2] at hcP
            obtain ⟨p1, hp1⟩ : ∃ p1, nxt xa bb s t = p1 := ⟨_, rfl⟩
            obtain ⟨p2, hp2⟩ : ∃ p2, nxt xc bb u t = p2 := ⟨_, rfl⟩
            rw [hp1] at hcN v1n
            rw [hp2] at hcP v2n
            have q1 := MA.cell1
            have r1 := MC'.cell1
            obtain ⟨k1, hk1⟩ : ∃ z, s * bb = z := ⟨_, rfl⟩
            obtain ⟨k2, hk2⟩ : ∃ z, u * bb = z := ⟨_, rfl⟩
            obtain ⟨k3, hk3⟩ : ∃ z, p1 * yc.length = z := ⟨_, rfl⟩
            have f1 : (s : Int) * (bb : Int) = (k1 : Int) := by rw [← hk1]; exact (Int.natCast_mul _ _).symm
            have f2 : (u : Int) * (bb : Int) = (k2 : Int) := by rw [← hk2]; exact (Int.natCast_mul _ _).symm
            have f3 : (p1 : Int) * (yc.length : Int) = (k3 : Int) := by rw [← hk3]; exact (Int.natCast_mul _ _).symm
            rw [hk1] at hcN hi1
            rw [hk2] at hcP hi2
            have hcod : cod xa xc bb yc.length s u t = k3 + p2 := by unfold cod; rw [hp1, hp2, hk3]
            have ylt : k3 + p2 < m := by
              rw [← HMM.out, ← hk3]
              have : (p1 + 1) * yc.length ≤ ya.length * yc.length := Nat.mul_le_mul_right _ (by omega)
              rw [Nat.add_mul, Nat.one_mul] at this
              omega
            have x1 : IntKind.i64.wrap (k1 : Int) = (k1 : Int) := IntWalk.i64_in _ (by omega)
            have x2 : IntKind.i64.wrap (k2 : Int) = (k2 : Int) := IntWalk.i64_in _ (by omega)
            have x3 : IntKind.i64.wrap (k3 : Int) = (k3 : Int) := IntWalk.i64_in _ (by omega)
            have y1 : IntKind.i64.wrap ((k1 : Int) + (t : Int)) = (k1 : Int) + (t : Int) := IntWalk.i64_in _ (by omega)
            have y2 : IntKind.i64.wrap ((k2 : Int) + (t : Int)) = (k2 : Int) + (t : Int) := IntWalk.i64_in _ (by omega)
            have y3 : IntKind.i64.wrap ((k3 : Int) + (p2 : Int)) = (k3 : Int) + (p2 : Int) := IntWalk.i64_in _ (by omega)
            have i1 : (k1 : Int) + (t : Int) < (xa.length : Int) := by omega
            have i2 : (k2 : Int) + (t : Int) < (xc.length : Int) := by omega
            have i3 : (k3 : Int) + (p2 : Int) < (m : Int) := by omega
            have j1 : (0 : Int) ≤ (k1 : Int) + (t : Int) := by omega
            have j2 : (0 : Int) ≤ (k2 : Int) + (t : Int) := by omega
            have j3 : (0 : Int) ≤ (k3 : Int) + (p2 : Int) := by omega
            have z1 : ((k1 : Int) + (t : Int)).toNat = k1 + t := by omega
            have z2 : ((k2 : Int) + (t : Int)).toNat = k2 + t := by omega
            have z3 : ((k3 : Int) + (p2 : Int)).toNat = k3 + p2 := by omega
            obtain ⟨cs, hB, hSe⟩ := hS.b
            have c6 := hB.cell (k3 + p2)
            rw [hSe.2 _ ylt] at c6
            have g6 := hB.frozen (k3 + p2)
            have HCOD := Lib.hid hcod
            have HS := Lib.hid hS
            clear hp1 hp2 hk1 hk2 hk3 v1 v2 hcod hB hSe hS MA MC' hW
            by_cases hmem : k3 + p2 ∈ L2
            · have HN := Lib.hid (show sin xa xc bb yc.length s u L (t + 1) = L2 by rw [sin, HL2.out, sst, HCOD.out, if_pos hmem])
              rw [decide_eq_true hmem] at c6
              clear hmem
              go_wp2
              go_quiet (fail)
              go_wp2
              go_roundw
              case rel => exact ⟨t + 1, by omega, by go_num, by rw [HN.out]; exact HS.out.keep (b_drewN (Below.refl _ _) _)⟩
              case measure => simp [intOf]; omega
            · have HN := Lib.hid (show sin xa xc bb yc.length s u L (t + 1) = L2 ++ [k3 + p2] by rw [sin, HL2.out, sst, HCOD.out, if_neg hmem])
              rw [decide_eq_false hmem] at c6
              have HNM := Lib.hid hmem
              clear hmem
              obtain ⟨A8, c8, e8, _⟩ := HS.out.r.sh
              subst e8
              go_wp2
              go_quiet (fail)
              clear c6 g6 hcN hcP q0 q1 r1
              have hS := HS.out.keep (b_drewN (Below.refl wr.heap.size wr) nq)
              generalize wr.drewN nq = wd at hS ⊢
              obtain ⟨cs, hB, hSe⟩ := hS.b
              obtain ⟨v6, c6⟩ := hB.ex (i := k3 + p2) (by rw [hSe.1]; exact ylt)
              have c6' := hB.cell (k3 + p2)
              rw [hSe.2 _ ylt, decide_eq_false (fun g => HNM.out g)] at c6'
              have g6 := hB.frozen (k3 + p2)
              have hO := hS.r.setx (p := ⟨wc.heap.size, k3 + p2, none⟩) (by simp) (.bool true)
              have hsz := hS.bc.size
              have hb7 := hB.lt
              clear c6 HS hB hSe
              go_wp2_with (first | (at_builtin; refine wpList_append_own_at _ rfl _ _ 22 rfl (wc.heap.size + 1) 3 i0 (.int .i64 0) 1 8 Tryd.underlying22 hi hz0 hz1 hz2 rfl (by decide) _ _ _ rfl (World.ownsRow.alloc hO _) ⟨wd.heap.size, 0, none⟩ 1 1 [.int .i64 ((k3 : Int) + (p2 : Int))] rfl rfl (cell_set_new _ _ _ _ _) ?c1_1 ?c1_2 ?c1_3 ?c1_4 ?_))
              case c1_1 => first | rfl | (intro u hu; simp at hu; subst hu; rfl)
              case c1_2 => unfold maxLen; omega
              case c1_3 => omega
              case c1_4 => first | omega | (simp; omega) | (simp [World.setCell]; omega)
              intro v1 w1 ho hg _ hat
              have HS6 := Lib.hid (hS.app ylt ho (by omega) (by omega) hg)
              clear ho hg hat hO hsz hS c6' g6
              go_wp2
              go_roundw
              case rel => exact ⟨t + 1, by omega, by go_num, by rw [HN.out]; exact HS6.out⟩
              case measure => simp [intOf]; omega
          · obtain rfl : bb = t := by omega
            have HN := Lib.hid (show sou xa xc bb yc.length (ii + 1) = L2 by rw [sou, HL.out, HX.out, HS0.out, HU0.out, HL2.out])
            have HS := Lib.hid hS
            clear hS MA MC'
            go_wp2
            go_roundw
            case rel => exact ⟨ii + 1, by go_num, by rw [HN.out]; exact HS.out, HO2.out⟩
            case measure => simp [intOf]; omega
      · have hb1 : (p != q) = true := by simp [hpq]
        have hb2 : (p == q) = false := by simp [hpq]
        have HR := Lib.hid (show slQ bb xa xc ya yc = false by
          have h1 := HRX.out
          rw [HS0.out, HU0.out] at h1
          exact slQ_f h1 (by rw [HP.out, HQ.out]; exact hpq))
        clear hpq
        go_wp2
        go_quiet (fail)
        go_wp2
        go_ret
        exact ⟨by rw [HR.out]; rfl, HT2.out.trans ((HS.out.keep (b_drewN (Below.refl _ _) _)).bc.mono HT2.out.size)⟩
    · have HR := Lib.hid (slQ_t (SO.all HMA.out HMC.out hO.out (by rw [HL.out]; exact hlt)))
      have i2 : ¬ (ii : Int) < (L.length : Int) := by omega
      have HW := Lib.hid (HT2.out.trans (hS.bc.mono HT2.out.size))
      clear hS hO
      go_wp2
      go_ret
      exact ⟨by rw [HR.out]; rfl, HW.out⟩
end Go.Proofs.YtoihjapbidbpdaaDoor
