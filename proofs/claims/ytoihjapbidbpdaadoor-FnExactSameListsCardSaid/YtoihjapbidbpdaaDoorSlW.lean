/- SameLists of both sides at every pair of machines. Conditions: lengths of at most 2^21; the implementation: internal/strconv.uint64pow10 reads as the text lays it. -/
import Derived.Test.YtoihjapbidbpdaaDoorSlS
import Derived.Test.YtoihjapbidbpdaaDoorShelf
namespace Go.Proofs.YtoihjapbidbpdaaDoor
open Go.RowKit
set_option linter.unusedVariables false
theorem ext_b {xs ys : List Bool} (h : xs.length = ys.length) (hg : ∀ j, j < xs.length → xs.getD j false = ys.getD j false) : xs = ys := by
  apply List.ext_getElem h
  intro i h1 h2
  have := hg i h1
  rw [List.getD_eq_getElem?_getD, List.getD_eq_getElem?_getD, List.getElem?_eq_getElem h1, List.getElem?_eq_getElem h2] at this
  exact this
set_option maxHeartbeats 4000000 in
theorem eq_bools (A C : Option Addr) (xs ys : List Bool) (c d : Nat) (w : World) (hR : RB w w.heap.size A xs) (hS : RB w w.heap.size C ys) (hl : xs.length ≤ 4294967296) (hl2 : ys.length ≤ 4294967296) :
    Calls Tryd.prog 20 #[.slice A xs.length c, .slice C ys.length d] w fun e w' => e = .returned (.bool (decide (xs = ys))) ∧ Below w.heap.size w w' := by
  by_cases hlen : xs.length = ys.length
  · have hlI : (xs.length : Int) = (ys.length : Int) := by omega
    rw [hlen] at hl
    have HL := Lib.hid hlen
    rw [hlen]
    clear hlen hlI
    go_enter Tryd.func20, Tryd.ntmps20
    go_wp2
    go_loopw [13] (fun i wr => ∃ k : Nat, k ≤ ys.length ∧ i = .int .i64 k ∧ Hid (∀ j, j < k → xs.getD j false = ys.getD j false) ∧ ∃ n, wr = w.drewN n) (fun i _ => ys.length - (intOf i).toNat)
    case atStart => exact ⟨0, Nat.zero_le _, rfl, fun j hj => by omega, 0, rfl⟩
    case round =>
      obtain ⟨k, hk, rfl, hK, n, rfl⟩ := hrel
      by_cases hlt : k < ys.length
      · obtain ⟨b, off, hA, hb, hc⟩ := hR.at_ (k := k) (by have := HL.out; omega)
        obtain ⟨b2, off2, hA2, hb2, hc2⟩ := hS.at_ hlt
        subst hA hA2
        obtain ⟨p, hp⟩ : ∃ p, xs.getD k false = p := ⟨_, rfl⟩
        obtain ⟨q, hq⟩ : ∃ q, ys.getD k false = q := ⟨_, rfl⟩
        rw [hp] at hc
        rw [hq] at hc2
        clear hR hS
        by_cases hpq : p = q
        · have HK := Lib.hid (show ∀ j, j < k + 1 → xs.getD j false = ys.getD j false from fun j hj => by
            rcases Nat.lt_succ_iff_lt_or_eq.1 hj with h' | rfl
            · exact hK.out j h'
            · rw [hp, hq, hpq])
          have hb1 : (p != q) = false := by simp [hpq]
          have hb2' : (p == q) = true := by simp [hpq]
          clear hpq hp hq hK
          go_wp2
          go_quiet (fail)
          go_wp2
          go_roundw
          case rel => exact ⟨k + 1, by omega, by go_num, HK.out, _, rfl⟩
          case measure => simp [intOf]; omega
        · have HR := Lib.hid (show decide (xs = ys) = false from decide_eq_false fun g => hpq (by rw [← hp, ← hq, g]))
          have hb1 : (p != q) = true := by simp [hpq]
          have hb2' : (p == q) = false := by simp [hpq]
          clear hpq hp hq hK
          go_wp2
          go_quiet (fail)
          go_wp2
          go_ret
          exact ⟨by rw [HR.out]; rfl, b_drewN (b_drewN (Below.refl _ _) _) _⟩
      · obtain rfl : k = ys.length := by omega
        have HR := Lib.hid (show decide (xs = ys) = true from decide_eq_true (ext_b HL.out fun j hj => hK.out j (by have := HL.out; omega)))
        clear hK
        go_wp2
        go_ret
        exact ⟨by rw [HR.out]; rfl, b_drewN (Below.refl _ _) _⟩
  · have HR := Lib.hid (show decide (xs = ys) = false from decide_eq_false fun g => hlen (by rw [g]))
    have hlI : ¬ (xs.length : Int) = (ys.length : Int) := by omega
    clear hlen
    go_enter Tryd.func20, Tryd.ntmps20
    go_wp2
    go_ret
    exact ⟨by rw [HR.out]; rfl, Below.refl _ _⟩
theorem il_inj : ∀ {l m : List Nat}, il l = il m → l = m
  | [], [], _ => rfl
  | [], b :: m, h => by simp [il] at h
  | a :: l, [], h => by simp [il] at h
  | a :: l, b :: m, h => by
    have h' : (a : Int) = (b : Int) ∧ il l = il m := by simpa [il] using h
    have e : a = b := by have := h'.1; omega
    rw [e, il_inj h'.2]
theorem rX_pos {b : Int} {xs : List Int} {ys : List Bool} (h : mok b xs ys.length = true) : 1 ≤ (rX b xs ys).length := by
  have e : rX b xs ys = il (redN xs b.toNat ys.length (rCl b xs ys)) := if_pos h
  obtain ⟨bb, rfl, hM⟩ := mc_of h
  have o := redOk (cl := rCl (bb : Int) xs ys) ys hM (rCl_lt h)
  have hb := hM.b2
  rw [e, len_il]
  have := o.nlen
  have h2 : 1 * bb ≤ redI xs bb ys.length (rCl (bb : Int) xs ys) * bb := Nat.mul_le_mul_right _ o.pos
  simp only [Int.toNat_natCast]
  omega
/-- The answer, at every pair of machines. -/
noncomputable def slV (ba bc : Int) (xa xc : List Int) (ya yc : List Bool) : Bool := @decide (mok ba xa ya.length = true ∧ mok bc xc yc.length = true ∧ ba = bc ∧ rX ba xa ya = rX bc xc yc ∧ rY ba xa ya = rY bc xc yc) (Classical.propDecidable _)
theorem slV_f {ba bc : Int} {xa xc : List Int} {ya yc : List Bool} (h : ¬ (mok ba xa ya.length = true ∧ mok bc xc yc.length = true ∧ ba = bc ∧ rX ba xa ya = rX bc xc yc ∧ rY ba xa ya = rY bc xc yc)) : slV ba bc xa xc ya yc = false := @decide_eq_false _ (Classical.propDecidable _) h
theorem slV_t {ba bc : Int} {xa xc : List Int} {ya yc : List Bool} (h : mok ba xa ya.length = true ∧ mok bc xc yc.length = true ∧ ba = bc ∧ rX ba xa ya = rX bc xc yc ∧ rY ba xa ya = rY bc xc yc) : slV ba bc xa xc ya yc = true := @decide_eq_true _ (Classical.propDecidable _) h

set_option maxRecDepth 100000 in
set_option maxHeartbeats 4000000 in
theorem spec_sl1 (ba bc : Int) (Na Fa Nc Fc : Option Addr) (xa xc : List Int) (ya yc : List Bool) (ca da cc dc : Nat) (w : World) (hNa : RI w w.heap.size Na xa) (hFa : RB w w.heap.size Fa ya) (hNc : RI w w.heap.size Nc xc) (hFc : RB w w.heap.size Fc yc) (hla : xa.length ≤ 2097152) (hma : ya.length ≤ 2097152) (hlc : xc.length ≤ 2097152) (hmc : yc.length ≤ 2097152) (hA : mok ba xa ya.length = false) :
    Calls Tryd.prog 6 #[.agg #[.int .i64 ba, .slice Na xa.length ca, .slice Fa ya.length da], .agg #[.int .i64 bc, .slice Nc xc.length cc, .slice Fc yc.length dc]] w (fun e w' => e = .returned (.bool false) ∧ Below w.heap.size w w') := by
  have HOA := Lib.hid hA
  clear hA
  have HNa := Lib.hid hNa
  have HNc := Lib.hid hNc
  have HFa := Lib.hid hFa
  have HFc := Lib.hid hFc
  clear hNa hNc hFa hFc
  have T0 := b_alloc (b_alloc (Below.refl w.heap.size w) (.cells #[.int .i64 ba, .slice Na xa.length ca, .slice Fa ya.length da] 28)) (.cells #[.int .i64 bc, .slice Nc xc.length cc, .slice Fc yc.length dc] 28)
  have M0 := (BM.new w ba (.slice Na xa.length ca) (.slice Fa ya.length da)).below (b_alloc (Below.refl _ _) (.cells #[.int .i64 bc, .slice Nc xc.length cc, .slice Fc yc.length dc] 28)) (by simp)
  have M1 := BM.new (w.alloc (.cells #[.int .i64 ba, .slice Na xa.length ca, .slice Fa ya.length da] 28)) bc (.slice Nc xc.length cc) (.slice Fc yc.length dc)
  simp only [World.size_alloc] at M1
  have HT0 := Lib.hid T0
  have HM0 := Lib.hid M0
  have HM1 := Lib.hid M1
  clear T0 M0 M1
  go_enter Tryd.func6, Tryd.ntmps6
  go_wp2_with fail
  refine (spec_mok _ _ _ xa _ _ _ _ ((HNa.out.below HT0.out).more HT0.out.size) (by omega) (by omega)).mono ?_
  rw [HOA.out]
  rintro e w1 ⟨rfl, hb⟩
  have hz1' : w.heap.size + 1 < w1.heap.size := by have := hb.size; simp at this; omega
  have m0 := HM0.out.below hb (by first | (simp; done) | (simp; omega))
  have m1' := HM1.out.below hb (by first | (simp; done) | (simp; omega))
  have HT1 := Lib.hid (b_step HT0.out hb)
  clear HT0 HM0 HM1 hb
  have HM0 := Lib.hid m0
  have HM1 := Lib.hid m1'
  have q0 := m0.cell0
  have q1 := m0.cell1
  have q2 := m0.cell2
  have r0 := m1'.cell0
  have r1 := m1'.cell1
  have r2 := m1'.cell2
  clear m0 m1'
  go_wp2
  go_ret
  exact ⟨rfl, HT1.out⟩
set_option maxRecDepth 100000 in
set_option maxHeartbeats 4000000 in
theorem spec_sl2 (ba bc : Int) (Na Fa Nc Fc : Option Addr) (xa xc : List Int) (ya yc : List Bool) (ca da cc dc : Nat) (w : World) (hNa : RI w w.heap.size Na xa) (hFa : RB w w.heap.size Fa ya) (hNc : RI w w.heap.size Nc xc) (hFc : RB w w.heap.size Fc yc) (hla : xa.length ≤ 2097152) (hma : ya.length ≤ 2097152) (hlc : xc.length ≤ 2097152) (hmc : yc.length ≤ 2097152) (hA : mok ba xa ya.length = true) (hC : mok bc xc yc.length = false) :
    Calls Tryd.prog 6 #[.agg #[.int .i64 ba, .slice Na xa.length ca, .slice Fa ya.length da], .agg #[.int .i64 bc, .slice Nc xc.length cc, .slice Fc yc.length dc]] w (fun e w' => e = .returned (.bool false) ∧ Below w.heap.size w w') := by
  have HOA := Lib.hid hA
  have HOC := Lib.hid hC
  clear hA hC
  have HNa := Lib.hid hNa
  have HNc := Lib.hid hNc
  have HFa := Lib.hid hFa
  have HFc := Lib.hid hFc
  clear hNa hNc hFa hFc
  have T0 := b_alloc (b_alloc (Below.refl w.heap.size w) (.cells #[.int .i64 ba, .slice Na xa.length ca, .slice Fa ya.length da] 28)) (.cells #[.int .i64 bc, .slice Nc xc.length cc, .slice Fc yc.length dc] 28)
  have M0 := (BM.new w ba (.slice Na xa.length ca) (.slice Fa ya.length da)).below (b_alloc (Below.refl _ _) (.cells #[.int .i64 bc, .slice Nc xc.length cc, .slice Fc yc.length dc] 28)) (by simp)
  have M1 := BM.new (w.alloc (.cells #[.int .i64 ba, .slice Na xa.length ca, .slice Fa ya.length da] 28)) bc (.slice Nc xc.length cc) (.slice Fc yc.length dc)
  simp only [World.size_alloc] at M1
  have HT0 := Lib.hid T0
  have HM0 := Lib.hid M0
  have HM1 := Lib.hid M1
  clear T0 M0 M1
  go_enter Tryd.func6, Tryd.ntmps6
  go_wp2_with fail
  refine (spec_mok _ _ _ xa _ _ _ _ ((HNa.out.below HT0.out).more HT0.out.size) (by omega) (by omega)).mono ?_
  rw [HOA.out]
  rintro e w1 ⟨rfl, hb⟩
  have hz1' : w.heap.size + 1 < w1.heap.size := by have := hb.size; simp at this; omega
  have m0 := HM0.out.below hb (by first | (simp; done) | (simp; omega))
  have m1' := HM1.out.below hb (by first | (simp; done) | (simp; omega))
  have HT1 := Lib.hid (b_step HT0.out hb)
  clear HT0 HM0 HM1 hb
  have HM0 := Lib.hid m0
  have HM1 := Lib.hid m1'
  have q0 := m0.cell0
  have q1 := m0.cell1
  have q2 := m0.cell2
  have r0 := m1'.cell0
  have r1 := m1'.cell1
  have r2 := m1'.cell2
  clear m0 m1'
  go_wp2_with fail
  clear q0 q1 q2 r0 r1 r2
  refine (spec_mok _ _ _ xc _ _ _ _ ((HNc.out.below HT1.out).more HT1.out.size) (by omega) (by omega)).mono ?_
  rw [HOC.out]
  rintro e wc ⟨rfl, hb⟩
  have m0 := HM0.out.below hb (by omega)
  have m1' := HM1.out.below hb (by omega)
  have HT2 := Lib.hid (b_step HT1.out hb)
  have hz2' : w.heap.size + 1 < wc.heap.size := by have := hb.size; omega
  clear HT1 HM0 HM1 hb hz1'
  have q0 := m0.cell0
  have r0 := m1'.cell0
  clear m0 m1'
  go_wp2
  go_ret
  exact ⟨rfl, HT2.out⟩
set_option maxRecDepth 100000 in
set_option maxHeartbeats 4000000 in
theorem spec_sl3 (ba bc : Int) (Na Fa Nc Fc : Option Addr) (xa xc : List Int) (ya yc : List Bool) (ca da cc dc : Nat) (w : World) (hNa : RI w w.heap.size Na xa) (hFa : RB w w.heap.size Fa ya) (hNc : RI w w.heap.size Nc xc) (hFc : RB w w.heap.size Fc yc) (hla : xa.length ≤ 2097152) (hma : ya.length ≤ 2097152) (hlc : xc.length ≤ 2097152) (hmc : yc.length ≤ 2097152) (hA : mok ba xa ya.length = true) (hC : mok bc xc yc.length = true) (hd : ba ≠ bc) :
    Calls Tryd.prog 6 #[.agg #[.int .i64 ba, .slice Na xa.length ca, .slice Fa ya.length da], .agg #[.int .i64 bc, .slice Nc xc.length cc, .slice Fc yc.length dc]] w (fun e w' => e = .returned (.bool false) ∧ Below w.heap.size w w') := by
  have hbe : (ba == bc) = false := by simp; exact hd
  have hbn : (ba != bc) = true := by simp; exact hd
  clear hd
  have HOA := Lib.hid hA
  have HOC := Lib.hid hC
  clear hA hC
  have HNa := Lib.hid hNa
  have HNc := Lib.hid hNc
  have HFa := Lib.hid hFa
  have HFc := Lib.hid hFc
  clear hNa hNc hFa hFc
  have T0 := b_alloc (b_alloc (Below.refl w.heap.size w) (.cells #[.int .i64 ba, .slice Na xa.length ca, .slice Fa ya.length da] 28)) (.cells #[.int .i64 bc, .slice Nc xc.length cc, .slice Fc yc.length dc] 28)
  have M0 := (BM.new w ba (.slice Na xa.length ca) (.slice Fa ya.length da)).below (b_alloc (Below.refl _ _) (.cells #[.int .i64 bc, .slice Nc xc.length cc, .slice Fc yc.length dc] 28)) (by simp)
  have M1 := BM.new (w.alloc (.cells #[.int .i64 ba, .slice Na xa.length ca, .slice Fa ya.length da] 28)) bc (.slice Nc xc.length cc) (.slice Fc yc.length dc)
  simp only [World.size_alloc] at M1
  have HT0 := Lib.hid T0
  have HM0 := Lib.hid M0
  have HM1 := Lib.hid M1
  clear T0 M0 M1
  go_enter Tryd.func6, Tryd.ntmps6
  go_wp2_with fail
  refine (spec_mok _ _ _ xa _ _ _ _ ((HNa.out.below HT0.out).more HT0.out.size) (by omega) (by omega)).mono ?_
  rw [HOA.out]
  rintro e w1 ⟨rfl, hb⟩
  have hz1' : w.heap.size + 1 < w1.heap.size := by have := hb.size; simp at this; omega
  have m0 := HM0.out.below hb (by first | (simp; done) | (simp; omega))
  have m1' := HM1.out.below hb (by first | (simp; done) | (simp; omega))
  have HT1 := Lib.hid (b_step HT0.out hb)
  clear HT0 HM0 HM1 hb
  have HM0 := Lib.hid m0
  have HM1 := Lib.hid m1'
  have q0 := m0.cell0
  have q1 := m0.cell1
  have q2 := m0.cell2
  have r0 := m1'.cell0
  have r1 := m1'.cell1
  have r2 := m1'.cell2
  clear m0 m1'
  go_wp2_with fail
  clear q0 q1 q2 r0 r1 r2
  refine (spec_mok _ _ _ xc _ _ _ _ ((HNc.out.below HT1.out).more HT1.out.size) (by omega) (by omega)).mono ?_
  rw [HOC.out]
  rintro e wc ⟨rfl, hb⟩
  have m0 := HM0.out.below hb (by omega)
  have m1' := HM1.out.below hb (by omega)
  have HT2 := Lib.hid (b_step HT1.out hb)
  have hz2' : w.heap.size + 1 < wc.heap.size := by have := hb.size; omega
  clear HT1 HM0 HM1 hb hz1'
  have q0 := m0.cell0
  have r0 := m1'.cell0
  clear m0 m1'
  go_wp2
  go_ret
  exact ⟨rfl, HT2.out⟩

theorem spec_sl (ba bc : Int) (Na Fa Nc Fc : Option Addr) (xa xc : List Int) (ya yc : List Bool) (ca da cc dc : Nat) (w : World) (hNa : RI w w.heap.size Na xa) (hFa : RB w w.heap.size Fa ya) (hNc : RI w w.heap.size Nc xc) (hFc : RB w w.heap.size Fc yc) (hla : xa.length ≤ 2097152) (hma : ya.length ≤ 2097152) (hlc : xc.length ≤ 2097152) (hmc : yc.length ≤ 2097152) :
    Calls Tryd.prog 6 #[.agg #[.int .i64 ba, .slice Na xa.length ca, .slice Fa ya.length da], .agg #[.int .i64 bc, .slice Nc xc.length cc, .slice Fc yc.length dc]] w (fun e w' => e = .returned (.bool (slV ba bc xa xc ya yc)) ∧ Below w.heap.size w w') := by
  cases hA : mok ba xa ya.length
  · rw [slV_f (fun h => by rw [hA] at h; exact absurd h.1 (by decide))]
    exact spec_sl1 ba bc Na Fa Nc Fc xa xc ya yc ca da cc dc w hNa hFa hNc hFc hla hma hlc hmc hA
  · cases hC : mok bc xc yc.length
    · rw [slV_f (fun h => by rw [hC] at h; exact absurd h.2.1 (by decide))]
      exact spec_sl2 ba bc Na Fa Nc Fc xa xc ya yc ca da cc dc w hNa hFa hNc hFc hla hma hlc hmc hA hC
    · by_cases hd : ba = bc
      · subst hd
        obtain ⟨bb, rfl, hMA⟩ := mc_of hA
        obtain ⟨bb', e', hMC⟩ := mc_of hC
        obtain rfl : bb = bb' := by omega
        have e : slV (bb : Int) (bb : Int) xa xc ya yc = slQ bb xa xc ya yc := by
          refine slQ_red hMA hMC _ ?_
          have e1 : rX ((bb : Nat) : Int) xa ya = il (redN xa bb ya.length (clF xa bb ya)) := if_pos hA
          have e2 : rX ((bb : Nat) : Int) xc yc = il (redN xc bb yc.length (clF xc bb yc)) := if_pos hC
          have e3 : rY ((bb : Nat) : Int) xa ya = redF xa bb ya.length (clF xa bb ya) ya := if_pos hA
          have e4 : rY ((bb : Nat) : Int) xc yc = redF xc bb yc.length (clF xc bb yc) yc := if_pos hC
          constructor
          · intro h
            have g := @of_decide_eq_true _ (Classical.propDecidable _) h
            have g4 := g.2.2.2.1
            have g5 := g.2.2.2.2
            rw [e1, e2] at g4
            rw [e3, e4] at g5
            exact ⟨il_inj g4, g5⟩
          · intro h
            exact slV_t ⟨hA, hC, rfl, by rw [e1, e2, h.1], by rw [e3, e4, h.2]⟩
        rw [e]
        exact spec_sl_t bb Na Fa Nc Fc xa xc ya yc ca da cc dc w hMA hMC hA hC hNa hFa hNc hFc
      · rw [slV_f (fun h => hd h.2.2.1)]
        exact spec_sl3 ba bc Na Fa Nc Fc xa xc ya yc ca da cc dc w hNa hFa hNc hFc hla hma hlc hmc hA hC hd

set_option maxRecDepth 100000 in
set_option maxHeartbeats 8000000 in
theorem impl_sl (ba bc : Int) (Na Fa Nc Fc : Option Addr) (xa xc : List Int) (ya yc : List Bool) (ca da cc dc : Nat) (w : World) (hNa : RI w w.heap.size Na xa) (hFa : RB w w.heap.size Fa ya) (hNc : RI w w.heap.size Nc xc) (hFc : RB w w.heap.size Fc yc) (hla : xa.length ≤ 2097152) (hma : ya.length ≤ 2097152) (hlc : xc.length ≤ 2097152) (hmc : yc.length ≤ 2097152) (hT : Lib.TabBelow Tryd.prog w.heap.size w "internal/strconv.uint64pow10" .u64 Lib.pow10Tab) :
    Calls Tryd.prog 8 #[.agg #[.int .i64 ba, .slice Na xa.length ca, .slice Fa ya.length da], .agg #[.int .i64 bc, .slice Nc xc.length cc, .slice Fc yc.length dc]] w (fun e w' => e = .returned (.bool (slV ba bc xa xc ya yc)) ∧ Below w.heap.size w w') := by
  have HTB := Lib.hid hT
  clear hT
  have HMA := Lib.hid (fun h : mok ba xa ya.length = true => mc_of h)
  have HLA := Lib.hid (r_len ba xa ya)
  have HLC := Lib.hid (r_len bc xc yc)
  have HNa := Lib.hid hNa
  have HNc := Lib.hid hNc
  have HFa := Lib.hid hFa
  have HFc := Lib.hid hFc
  clear hNa hNc hFa hFc
  have T0 := b_alloc (b_alloc (Below.refl w.heap.size w) (.cells #[.int .i64 ba, .slice Na xa.length ca, .slice Fa ya.length da] 28)) (.cells #[.int .i64 bc, .slice Nc xc.length cc, .slice Fc yc.length dc] 28)
  have M0 := (BM.new w ba (.slice Na xa.length ca) (.slice Fa ya.length da)).below (b_alloc (Below.refl _ _) (.cells #[.int .i64 bc, .slice Nc xc.length cc, .slice Fc yc.length dc] 28)) (by simp)
  have M1 := BM.new (w.alloc (.cells #[.int .i64 ba, .slice Na xa.length ca, .slice Fa ya.length da] 28)) bc (.slice Nc xc.length cc) (.slice Fc yc.length dc)
  simp only [World.size_alloc] at M1
  have HT0 := Lib.hid T0
  have HM0 := Lib.hid M0
  have HM1 := Lib.hid M1
  clear T0 M0 M1
  go_enter Tryd.func8, Tryd.ntmps8
  go_wp2_with fail
  refine (impl_red _ _ _ xa ya _ _ _ ((HNa.out.below HT0.out).more HT0.out.size) ((HFa.out.below HT0.out).more HT0.out.size) (by omega) (by omega) (Lib.tabBelow_of_tabIs (HTB.out.on HT0.out).here)).mono ?_
  rintro e w1 ⟨N1, F1, c1, d1, rfl, hO1, hP1, hb⟩
  obtain ⟨X1, hX1⟩ : ∃ X, X = rX ba xa ya := ⟨_, rfl⟩
  obtain ⟨Y1, hY1⟩ : ∃ X, X = rY ba xa ya := ⟨_, rfl⟩
  obtain ⟨B1, hB1⟩ : ∃ X, X = rB ba xa ya := ⟨_, rfl⟩
  rw [← hX1] at hO1 ⊢
  rw [← hY1] at hP1 ⊢
  rw [← hB1]
  have hz1 : w.heap.size + 1 < w1.heap.size := by have := hb.size; simp at this; omega
  have HT1 := Lib.hid (b_alloc (b_step HT0.out hb) (.cells #[.int .i64 B1, .slice N1 X1.length c1, .slice F1 Y1.length d1] 28))
  have m1' := (HM1.out.below hb (by first | (simp; done) | (simp; omega))).below (b_alloc (Below.refl _ _) (.cells #[.int .i64 B1, .slice N1 X1.length c1, .slice F1 Y1.length d1] 28)) (by omega)
  have M2 := BM.new w1 B1 (.slice N1 X1.length c1) (.slice F1 Y1.length d1)
  have HO1 := Lib.hid (hO1.reads.below (b_alloc (Below.refl _ _) (.cells #[.int .i64 B1, .slice N1 X1.length c1, .slice F1 Y1.length d1] 28)))
  have HP1 := Lib.hid (hP1.reads.below (b_alloc (Below.refl _ _) (.cells #[.int .i64 B1, .slice N1 X1.length c1, .slice F1 Y1.length d1] 28)))
  have HX1 := Lib.hid hX1
  have HY1 := Lib.hid hY1
  have HB1 := Lib.hid hB1
  have HM2 := Lib.hid M2
  have r0 := m1'.cell0
  have r1 := m1'.cell1
  have r2 := m1'.cell2
  obtain ⟨qa, hqa⟩ : ∃ q, q = mok ba xa ya.length := ⟨_, rfl⟩
  rw [← hqa]
  have HQA := Lib.hid hqa
  clear hb hO1 hP1 hX1 hY1 hB1 HM0 HM1 M2 m1' HT0 hqa
  go_wp2_with fail
  clear r0 r1 r2
  refine (impl_red _ _ _ xc yc _ _ _ ((HNc.out.below HT1.out).more HT1.out.size) ((HFc.out.below HT1.out).more HT1.out.size) (by omega) (by omega) (Lib.tabBelow_of_tabIs (HTB.out.on HT1.out).here)).mono ?_
  rintro e w2 ⟨N2, F2, c2, d2, rfl, hO2, hP2, hb⟩
  obtain ⟨X2, hX2⟩ : ∃ X, X = rX bc xc yc := ⟨_, rfl⟩
  obtain ⟨Y2, hY2⟩ : ∃ X, X = rY bc xc yc := ⟨_, rfl⟩
  obtain ⟨B2, hB2⟩ : ∃ X, X = rB bc xc yc := ⟨_, rfl⟩
  rw [← hX2] at hO2 ⊢
  rw [← hY2] at hP2 ⊢
  rw [← hB2]
  have hz2 : w1.heap.size < w2.heap.size := by have := hb.size; simp at this; omega
  have hz1' : (w1.alloc (.cells #[.int .i64 B1, .slice N1 X1.length c1, .slice F1 Y1.length d1] 28)).heap.size = w1.heap.size + 1 := by simp
  have HT2 := Lib.hid (b_alloc (b_step HT1.out hb) (.cells #[.int .i64 B2, .slice N2 X2.length c2, .slice F2 Y2.length d2] 28))
  have BA := b_alloc (Below.refl w2.heap.size w2) (.cells #[.int .i64 B2, .slice N2 X2.length c2, .slice F2 Y2.length d2] 28)
  have M2 := (HM2.out.below hb (by omega)).below BA (by omega)
  have M3 := BM.new w2 B2 (.slice N2 X2.length c2) (.slice F2 Y2.length d2)
  have RX1 := (HO1.out.below (hb.mono (by omega))).below (BA.mono (by omega))
  have RY1 := (HP1.out.below (hb.mono (by omega))).below (BA.mono (by omega))
  have RX2 := hO2.reads.below BA
  have RY2 := hP2.reads.below BA
  obtain ⟨qc, hqc⟩ : ∃ q, q = mok bc xc yc.length := ⟨_, rfl⟩
  rw [← hqc]
  have q0 := M2.cell0
  have q1 := M2.cell1
  have q2 := M2.cell2
  have s0 := M3.cell0
  have s1 := M3.cell1
  have s2 := M3.cell2
  have HRX1 := Lib.hid RX1
  have HRX2 := Lib.hid RX2
  have HRY1 := Lib.hid RY1
  have HRY2 := Lib.hid RY2
  have HX2 := Lib.hid hX2
  have HY2 := Lib.hid hY2
  have HB2 := Lib.hid hB2
  have HQC := Lib.hid hqc
  clear hb BA M2 M3 RX1 RX2 RY1 RY2 hX2 hY2 hB2 hqc hO2 hP2 HO1 HP1 HT1 HM2
  cases qa with
  | false =>
    have HR := Lib.hid (slV_f (ba := ba) (bc := bc) (xa := xa) (xc := xc) (ya := ya) (yc := yc) (fun h => by have := HQA.out.trans h.1; exact absurd this (by decide)))
    go_wp2
    go_ret
    exact ⟨by rw [HR.out]; rfl, HT2.out⟩
  | true =>
  cases qc with
  | false =>
    have HR := Lib.hid (slV_f (ba := ba) (bc := bc) (xa := xa) (xc := xc) (ya := ya) (yc := yc) (fun h => by have := HQC.out.trans h.2.1; exact absurd this (by decide)))
    go_wp2
    go_ret
    exact ⟨by rw [HR.out]; rfl, HT2.out⟩
  | true =>
  have e1 : B1 = ba := by rw [HB1.out]; exact if_pos HQA.out.symm
  have e2 : B2 = bc := by rw [HB2.out]; exact if_pos HQC.out.symm
  subst e1 e2
  by_cases hd : B1 = B2
  · subst hd
    have hbe : (B1 == B1) = true := by simp
    have lx1 : X1.length ≤ 2000 := by rw [HX1.out]; exact HLA.out.1
    have lx2 : X2.length ≤ 2000 := by rw [HX2.out]; exact HLC.out.1
    have ly1 : Y1.length ≤ 2000 := by rw [HY1.out]; exact HLA.out.2
    have ly2 : Y2.length ≤ 2000 := by rw [HY2.out]; exact HLC.out.2
    obtain ⟨n1, n2⟩ : 1 ≤ X1.length ∧ 1 ≤ X2.length := by
      rw [HX1.out, HX2.out]
      exact ⟨rX_pos HQA.out.symm, rX_pos HQC.out.symm⟩
    obtain ⟨b1, o1, rfl, g1, k1⟩ := HRX1.out.cells n1
    obtain ⟨b2, o2, rfl, g2, k2⟩ := HRX2.out.cells n2
    go_wp2_with fail
    refine (Tryd.slices_Equal_int b1 o1 X1.length c1 b2 o2 X2.length c2 X1 X2 _ (Nat.le_refl _) (Nat.le_refl _) (by omega) (by omega) k1 k2).mono ?_
    rintro e w3 ⟨rfl, nq, rfl⟩
    rw [List.take_length, List.take_length]
    clear k1 k2
    by_cases hx : X1 = X2
    · have hxe : (X1 == X2) = true := by simp [hx]
      rw [hxe]
      go_wp2_with fail
      refine (eq_bools _ _ Y1 Y2 _ _ _ ((HRY1.out.below (b_drewN (Below.refl _ _) nq |>.mono (by simp; omega))).more (by simp; omega)) ((HRY2.out.below (b_drewN (Below.refl _ _) nq |>.mono (by simp))).more (by simp)) (by omega) (by omega)).mono ?_
      rintro e w4 ⟨rfl, hb4⟩
      have HW := Lib.hid (b_step (b_drewN HT2.out nq) hb4)
      have HR := Lib.hid (show slV B1 B1 xa xc ya yc = decide (Y1 = Y2) by
        by_cases hy : Y1 = Y2
        · rw [decide_eq_true hy]; exact slV_t ⟨HQA.out.symm, HQC.out.symm, rfl, by rw [← HX1.out, ← HX2.out, hx], by rw [← HY1.out, ← HY2.out, hy]⟩
        · rw [decide_eq_false hy]; exact slV_f fun h => hy (by rw [HY1.out, HY2.out]; exact h.2.2.2.2))
      clear hb4
      go_wp2
      go_ret
      exact ⟨by rw [HR.out]; rfl, HW.out⟩
    · have hxe : (X1 == X2) = false := by simp [hx]
      rw [hxe]
      have HR := Lib.hid (slV_f (ba := B1) (bc := B1) (xa := xa) (xc := xc) (ya := ya) (yc := yc) (fun h => hx (by rw [HX1.out, HX2.out]; exact h.2.2.2.1)))
      go_wp2
      go_ret
      exact ⟨by rw [HR.out]; rfl, b_drewN HT2.out _⟩
  · have hbe : (B1 == B2) = false := by simp [hd]
    have HR := Lib.hid (slV_f (ba := B1) (bc := B2) (xa := xa) (xc := xc) (ya := ya) (yc := yc) (fun h => hd h.2.2.1))
    go_wp2
    go_ret
    exact ⟨by rw [HR.out]; rfl, HT2.out⟩
end Go.Proofs.YtoihjapbidbpdaaDoor
