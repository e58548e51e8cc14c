/- Contract of spec.JoinMachines. Conditions: lengths of at most 2^21. -/
import Derived.Test.YtoihjapbidbpdaaJoinI
namespace Go.Proofs.Ytoihjapbidbpdaa
open Go.RowKit
set_option linter.unusedVariables false
set_option maxRecDepth 100000 in
set_option maxHeartbeats 4000000 in
theorem spec_join_t (bb : Nat) (Na Fa Nc Fc : Option Addr) (xa xc : List Int) (ya yc : List Bool) (ca da cc dc : Nat) (q : Bool) (w : World) (hNa : RI w w.heap.size Na xa) (hFa : RB w w.heap.size Fa ya) (hNc : RI w w.heap.size Nc xc) (hFc : RB w w.heap.size Fc yc) (hla : xa.length ≤ 2097152) (hma : ya.length ≤ 2097152) (hlc : xc.length ≤ 2097152) (hmc : yc.length ≤ 2097152) (hoka : mok (bb : Nat) xa ya.length = true) (hokc : mok (bb : Nat) xc yc.length = true) (hn : ya.length * yc.length ≤ 144) :
    Calls Try.prog 21 #[.agg #[.int .i64 (bb : Nat), .slice Na xa.length ca, .slice Fa ya.length da], .agg #[.int .i64 (bb : Nat), .slice Nc xc.length cc, .slice Fc yc.length dc], .bool q] w (RetM w (bb : Nat) (jL xa xc bb yc.length ya.length 0 0) (fL q ya yc yc.length ya.length 0) true) := by
  obtain ⟨h1, h2, h3, h4, h5, h6⟩ := mok_iff.1 hoka
  obtain ⟨i1, i2, i3, i4, i5, i6⟩ := mok_iff.1 hokc
  have hxa : xa.length = ya.length * bb := by rw [Int.mul_comm] at h5; exact_mod_cast h5
  have hxc : xc.length = yc.length * bb := by rw [Int.mul_comm] at i5; exact_mod_cast i5
  have hra := fun s t hs ht => mok_at (s := s) (t := t) hoka hs ht
  have hrc := fun s t hs ht => mok_at (s := s) (t := t) hokc hs ht
  have hb2 : 2 ≤ bb := by omega
  have hb10 : bb ≤ 10 := by omega
  have hna : ya.length ≤ 144 := by omega
  have hnc : yc.length ≤ 144 := by omega
  have hna1 : 1 ≤ ya.length := by omega
  have hnc1 : 1 ≤ yc.length := by omega
  have hnn : (ya.length : Int) * (yc.length : Int) ≤ 144 := by rw [← Int.natCast_mul]; exact Int.ofNat_le.2 hn
  have hnn0 : 0 ≤ (ya.length : Int) * (yc.length : Int) := Int.mul_nonneg (by omega) (by omega)
  have HRA := Lib.hid hra
  have HRC := Lib.hid hrc
  have HXA := Lib.hid hxa
  have HXC := Lib.hid hxc
  have HNN := Lib.hid hn
  have HOA := Lib.hid hoka
  have HOC := Lib.hid hokc
  obtain ⟨ga, oa, e1, _, _⟩ := hNa.at_ (k := 0) (by have := Nat.mul_le_mul hna1 hb2; omega)
  obtain ⟨gc, oc, e2, _, _⟩ := hNc.at_ (k := 0) (by have := Nat.mul_le_mul hnc1 hb2; omega)
  obtain ⟨gFa, oFa, e3, _, _⟩ := hFa.at_ (k := 0) (by omega)
  obtain ⟨gFc, oFc, e4, _, _⟩ := hFc.at_ (k := 0) (by omega)
  subst e1 e2 e3 e4
  have HNa := Lib.hid hNa
  have HFa := Lib.hid hFa
  have HNc := Lib.hid hNc
  have HFc := Lib.hid hFc
  clear hra hrc hxa hxc h1 h2 h3 h4 h5 h6 i1 i2 i3 i4 i5 i6 hoka hokc hNa hFa hNc hFc hn
  obtain ⟨i0, hi, hz0, hz1, hz2⟩ := info_parts info_int
  obtain ⟨k0, ki, kz0, kz1, kz2⟩ := info_parts info_bool
  have T0 := b_alloc (b_alloc (b_alloc (Below.refl w.heap.size w) (.cells #[.int .i64 (bb : Nat), .slice (some ⟨ga, oa, none⟩) xa.length ca, .slice (some ⟨gFa, oFa, none⟩) ya.length da] 25)) (.cells #[.int .i64 (bb : Nat), .slice (some ⟨gc, oc, none⟩) xc.length cc, .slice (some ⟨gFc, oFc, none⟩) yc.length dc] 25)) (.cells #[.int .i64 0, .slice none 0 0, .slice none 0 0] 25)
  have M0 := ((BM.new w (bb : Nat) (.slice (some ⟨ga, oa, none⟩) xa.length ca) (.slice (some ⟨gFa, oFa, none⟩) ya.length da)).below (b_alloc (Below.refl _ _) (.cells #[.int .i64 (bb : Nat), .slice (some ⟨gc, oc, none⟩) xc.length cc, .slice (some ⟨gFc, oFc, none⟩) yc.length dc] 25)) (by simp)).below (b_alloc (Below.refl _ _) (.cells #[.int .i64 0, .slice none 0 0, .slice none 0 0] 25)) (by first | (simp; done) | (simp; omega))
  have M1 := (BM.new (w.alloc (.cells #[.int .i64 (bb : Nat), .slice (some ⟨ga, oa, none⟩) xa.length ca, .slice (some ⟨gFa, oFa, none⟩) ya.length da] 25)) (bb : Nat) (.slice (some ⟨gc, oc, none⟩) xc.length cc) (.slice (some ⟨gFc, oFc, none⟩) yc.length dc)).below (b_alloc (Below.refl _ _) (.cells #[.int .i64 0, .slice none 0 0, .slice none 0 0] 25)) (by simp)
  have M2 := BM.new ((w.alloc (.cells #[.int .i64 (bb : Nat), .slice (some ⟨ga, oa, none⟩) xa.length ca, .slice (some ⟨gFa, oFa, none⟩) ya.length da] 25)).alloc (.cells #[.int .i64 (bb : Nat), .slice (some ⟨gc, oc, none⟩) xc.length cc, .slice (some ⟨gFc, oFc, none⟩) yc.length dc] 25)) 0 (.slice none 0 0) (.slice none 0 0)
  simp only [World.size_alloc] at M1 M2
  have HT0 := Lib.hid T0
  have HM0 := Lib.hid M0
  have HM1 := Lib.hid M1
  have HM2 := Lib.hid M2
  clear T0 M0 M1 M2
  go_enter Try.func21, Try.ntmps21
  go_wp2_with fail
  refine (spec_mok _ _ _ xa _ _ _ _ ((HNa.out.below HT0.out).more HT0.out.size) (by omega) (by omega)).mono ?_
  rw [HOA.out]
  rintro e w1 ⟨rfl, hb⟩
  have hz1' : w.heap.size + 1 + 1 < w1.heap.size := by have := hb.size; simp at this; omega
  have m0 := HM0.out.below hb (by first | (simp; done) | (simp; omega))
  have m1 := HM1.out.below hb (by first | (simp; done) | (simp; omega))
  have m2 := HM2.out.below hb (by simp)
  have HT1 := Lib.hid (b_step HT0.out hb)
  clear HT0 HM0 HM1 HM2 hb
  have HM0 := Lib.hid m0
  have HM1 := Lib.hid m1
  have HM2 := Lib.hid m2
  have q0 := m0.cell0
  have q1 := m0.cell1
  have q2 := m0.cell2
  have r0 := m1.cell0
  have r1 := m1.cell1
  have r2 := m1.cell2
  clear m0 m1 m2
  go_wp2_with fail
  clear q0 q1 q2 r0 r1 r2
  refine (spec_mok _ _ _ xc _ _ _ _ ((HNc.out.below HT1.out).more HT1.out.size) (by omega) (by omega)).mono ?_
  rw [HOC.out]
  rintro e w2 ⟨rfl, hb⟩
  have hz2' : w.heap.size + 1 + 1 < w2.heap.size := by have := hb.size; omega
  have m0 := HM0.out.below hb (by omega)
  have m1 := HM1.out.below hb (by omega)
  have m2 := HM2.out.below hb (by omega)
  have HT2 := Lib.hid (b_step HT1.out hb)
  clear HT1 HM0 HM1 HM2 hb hz1'
  have HM0 := Lib.hid m0
  have HM1 := Lib.hid m1
  have HM2 := Lib.hid m2
  have q0 := m0.cell0
  have q1 := m0.cell1
  have q2 := m0.cell2
  have r0 := m1.cell0
  have r1 := m1.cell1
  have r2 := m1.cell2
  clear m0 m1 m2
  have hbe : ((bb : Int) == (bb : Int)) = true := by simp
  have hd : decide ((144 : Int) < (ya.length : Int) * (yc.length : Int)) = false := by simp; exact hnn
  have ltq3 : w.heap.size < w2.heap.size := by omega
  have ltq4 : w.heap.size + 1 < w2.heap.size := by omega
  have ltq1 : w.heap.size < w2.heap.size + 1 := by omega
  have ltq2 : w.heap.size + 1 < w2.heap.size + 1 := by omega
  go_wp2_with fail
  go_loopw [50] (fun i wr => ∃ (s : Nat) (vN vF : Value), s ≤ ya.length ∧ i = .int .i64 s ∧ BM wr w.heap.size (bb : Nat) (.slice (some ⟨ga, oa, none⟩) xa.length ca) (.slice (some ⟨gFa, oFa, none⟩) ya.length da) ∧ BM wr (w.heap.size + 1) (bb : Nat) (.slice (some ⟨gc, oc, none⟩) xc.length cc) (.slice (some ⟨gFc, oFc, none⟩) yc.length dc) ∧ BM wr w2.heap.size (bb : Nat) vN vF ∧ BM wr (w.heap.size + 1 + 1) 0 (.slice none 0 0) (.slice none 0 0) ∧ Row wr (w2.heap.size + 1) vN (jL xa xc bb yc.length s 0 0) ∧ RowB wr (w2.heap.size + 1) vF (fL q ya yc yc.length s 0) ∧ Below w.heap.size w wr) (fun i _ => ya.length - (intOf i).toNat)
  case atStart =>
    refine ⟨0, .slice none 0 0, .slice none 0 0, Nat.zero_le _, rfl, ?_, ?_, BM.new _ _ _ _, ?_, Row.nil _ _, World.ownsRow_nil _ _ _ _, ?_⟩
    · exact HM0.out.below (b_alloc (Below.refl _ _) _) (by omega)
    · exact HM1.out.below (b_alloc (Below.refl _ _) _) (by omega)
    · exact HM2.out.below (b_alloc (Below.refl _ _) _) (by omega)
    · exact b_alloc HT2.out _
  case round =>
    obtain ⟨s, vN, vF, hs', rfl, g1, g2, g3, g4, g5, g6, g7⟩ := hrel
    rename World => wa
    clear HM0 HM1 HM2 HT2 q0 q1 q2 r0 r1 r2 ltq1 ltq2 ltq3 ltq4
    have H1 := Lib.hid g1
    have H2 := Lib.hid g2
    have H3 := Lib.hid g3
    have H4 := Lib.hid g4
    have H5 := Lib.hid g5
    have H6 := Lib.hid g6
    have HT := Lib.hid g7
    have hzT := g7.size
    clear g1 g2 g3 g4 g5 g6 g7
    by_cases hs : s < ya.length
    · have hcF := (HFa.out.below HT.out).cellAt hs
      obtain ⟨fa, hfa⟩ : ∃ fa, fa = ya.getD s false := ⟨_, rfl⟩
      rw [← hfa] at hcF
      have HFAv := Lib.hid hfa
      clear hfa
      have r2 := H2.out.cell2
      go_wp2_with fail
      clear hcF r2
      go_loopw [58] (fun i wr => ∃ (u : Nat) (vN vF : Value), u ≤ yc.length ∧ i = .int .i64 u ∧ BM wr w.heap.size (bb : Nat) (.slice (some ⟨ga, oa, none⟩) xa.length ca) (.slice (some ⟨gFa, oFa, none⟩) ya.length da) ∧ BM wr (w.heap.size + 1) (bb : Nat) (.slice (some ⟨gc, oc, none⟩) xc.length cc) (.slice (some ⟨gFc, oFc, none⟩) yc.length dc) ∧ BM wr w2.heap.size (bb : Nat) vN vF ∧ BM wr (w.heap.size + 1 + 1) 0 (.slice none 0 0) (.slice none 0 0) ∧ Row wr (w2.heap.size + 1) vN (jL xa xc bb yc.length s u 0) ∧ RowB wr (w2.heap.size + 1) vF (fL q ya yc yc.length s u) ∧ Below w.heap.size w wr) (fun i _ => yc.length - (intOf i).toNat)
      case atStart => exact ⟨0, vN, vF, Nat.zero_le _, rfl, H1.out, H2.out, H3.out, H4.out, H5.out, H6.out, HT.out⟩
      case round =>
        obtain ⟨u, vN, vF, hu', rfl, g1, g2, g3, g4, g5, g6, g7⟩ := hrel
        rename World => wb
        clear H1 H2 H3 H4 H5 H6 HT hzT
        have H1 := Lib.hid g1
        have H2 := Lib.hid g2
        have H3 := Lib.hid g3
        have H4 := Lib.hid g4
        have H5 := Lib.hid g5
        have H6 := Lib.hid g6
        have HT := Lib.hid g7
        have hzT := g7.size
        clear g1 g2 g3 g4 g5 g6 g7
        by_cases hu : u < yc.length
        · have hcF2 := (HFc.out.below HT.out).cellAt hu
          obtain ⟨fc, hfc⟩ : ∃ fc, fc = yc.getD u false := ⟨_, rfl⟩
          rw [← hfc] at hcF2
          have HFCv := Lib.hid hfc
          clear hfc
          have q0 := H1.out.cell0
          have q1 := H3.out.cell0
          go_wp2_with fail
          clear hcF2 q0 q1
          go_loopw [14] (fun i wr => ∃ (t : Nat) (vN2 : Value), t ≤ bb ∧ i = .int .i64 t ∧ BM wr w.heap.size (bb : Nat) (.slice (some ⟨ga, oa, none⟩) xa.length ca) (.slice (some ⟨gFa, oFa, none⟩) ya.length da) ∧ BM wr (w.heap.size + 1) (bb : Nat) (.slice (some ⟨gc, oc, none⟩) xc.length cc) (.slice (some ⟨gFc, oFc, none⟩) yc.length dc) ∧ BM wr w2.heap.size (bb : Nat) vN2 vF ∧ BM wr (w.heap.size + 1 + 1) 0 (.slice none 0 0) (.slice none 0 0) ∧ Row wr (w2.heap.size + 1) vN2 (jL xa xc bb yc.length s u t) ∧ RowB wr (w2.heap.size + 1) vF (fL q ya yc yc.length s u) ∧ Below w.heap.size w wr) (fun i _ => bb - (intOf i).toNat)
          case atStart => exact ⟨0, vN, Nat.zero_le _, rfl, H1.out, H2.out, H3.out, H4.out, H5.out, H6.out, HT.out⟩
          case round =>
            obtain ⟨t, vN2, ht', rfl, g1, g2, g3, g4, g5, g6, g7⟩ := hrel
            rename World => wc
            clear H1 H2 H3 H4 H5 H6 HT hzT
            have H1 := Lib.hid g1
            have H2 := Lib.hid g2
            have H3 := Lib.hid g3
            have H4 := Lib.hid g4
            have H5 := Lib.hid g5
            have H6 := Lib.hid g6
            have HT := Lib.hid g7
            have hzT := g7.size
            have hzg : w2.heap.size < wc.heap.size := g3.lt
            clear g1 g2 g3 g4 g5 g6 g7
            have q0 := H1.out.cell0
            by_cases ht : t < bb
            · obtain ⟨hlt1, pa, hpa, hpa2⟩ := HRA.out s t hs ht
              obtain ⟨hlt2, pc, hpc, hpc2⟩ := HRC.out u t hu ht
              have p0 : pa * yc.length ≤ 144 * 144 := Nat.mul_le_mul (by omega) (by omega)
              obtain ⟨m1, hm1⟩ : ∃ m1, m1 = pa * yc.length := ⟨_, rfl⟩
              rw [← hm1] at p0
              obtain ⟨z, hz⟩ : ∃ z, z = m1 + pc := ⟨_, rfl⟩
              have k0 : (pa : Int) * (yc.length : Int) = (m1 : Int) := by rw [hm1]; exact (Int.natCast_mul pa yc.length).symm
              have k1 : IntKind.i64.wrap (m1 : Int) = (m1 : Int) := by rw [IntKind.wrap_i64]; omega
              have k2 : IntKind.i64.wrap ((m1 : Int) + (pc : Int)) = (z : Int) := by rw [IntKind.wrap_i64]; omega
              have hl : (jL xa xc bb yc.length s u t).length ≤ 1440 := jL_len xa xc bb yc.length ya.length s u t HNN.out hb10 hs hu ht'
              have HE : Hid (jE xa xc bb yc.length s u t = (z : Int)) := Lib.hid (by unfold jE; rw [hpa, hpc, k0, hz, Int.natCast_add])
              have HSU := Lib.hid (jL_succ xa xc bb yc.length s u t)
              obtain ⟨L, hL⟩ : ∃ L, L = jL xa xc bb yc.length s u t := ⟨_, rfl⟩
              have H5' : Hid (Row wc (w2.heap.size + 1) vN2 L) := Lib.hid (by rw [hL]; exact H5.out)
              rw [← hL] at hl
              have HLv := Lib.hid hL
              have HPA := Lib.hid hpa.symm
              have HPC := Lib.hid hpc.symm
              have q1 := H1.out.cell1
              have q2 := H1.out.cell2
              have r0 := H2.out.cell0
              have r1 := H2.out.cell1
              have r2 := H2.out.cell2
              have n1 := H3.out.cell1
              have l0 : w.heap.size < wc.heap.size := by omega
              have l1 : w.heap.size < wc.heap.size + 1 := by omega
              have l2 : w.heap.size < wc.heap.size + 1 + 1 := by omega
              have l3 : w.heap.size + 1 < wc.heap.size := by omega
              have l4 : w.heap.size + 1 < wc.heap.size + 1 := by omega
              have l5 : w.heap.size + 1 < wc.heap.size + 1 + 1 := by omega
              have l6 : w2.heap.size < wc.heap.size + 1 := by omega
              have l7 : w2.heap.size < wc.heap.size + 1 + 1 := by omega
              have HLA := Lib.hid hlt1
              have HLC := Lib.hid hlt2
              clear hpa hpc hm1 hz hL hlt1 hlt2
              have e1 : (s : Int) * (bb : Int) = ((s * bb : Nat) : Int) := (Int.natCast_mul s bb).symm
              have e2 : (u : Int) * (bb : Int) = ((u * bb : Nat) : Int) := (Int.natCast_mul u bb).symm
              obtain ⟨p1, hp1⟩ : ∃ p1, p1 = s * bb := ⟨_, rfl⟩
              obtain ⟨p2, hp2⟩ : ∃ p2, p2 = u * bb := ⟨_, rfl⟩
              have d1 := (HNa.out.below HT.out).cellAt HLA.out
              have d2 := (HNc.out.below HT.out).cellAt HLC.out
              have x1 := HLA.out
              have x2 := HLC.out
              have x3 : xa.length ≤ 1440 := by have := Nat.mul_le_mul hna hb10; have := HXA.out; omega
              have x4 : xc.length ≤ 1440 := by have := Nat.mul_le_mul hnc hb10; have := HXC.out; omega
              rw [← HPA.out, ← hp1] at d1
              rw [← HPC.out, ← hp2] at d2
              rw [← hp1] at x1 e1
              rw [← hp2] at x2 e2
              have w1' : IntKind.i64.wrap (p1 : Int) = (p1 : Int) := by rw [IntKind.wrap_i64]; omega
              have w2' : IntKind.i64.wrap (p2 : Int) = (p2 : Int) := by rw [IntKind.wrap_i64]; omega
              have w3' : IntKind.i64.wrap ((p1 : Int) + (t : Int)) = (p1 : Int) + t := by rw [IntKind.wrap_i64]; omega
              have w4' : IntKind.i64.wrap ((p2 : Int) + (t : Int)) = (p2 : Int) + t := by rw [IntKind.wrap_i64]; omega
              have b1 : (0 : Int) ≤ (p1 : Int) + t := by omega
              have b2 : (p1 : Int) + t < (xa.length : Int) := by omega
              have b3 : (0 : Int) ≤ (p2 : Int) + t := by omega
              have b4 : (p2 : Int) + t < (xc.length : Int) := by omega
              have b5 : ((p1 : Int) + t).toNat = p1 + t := by omega
              have b6 : ((p2 : Int) + t).toNat = p2 + t := by omega
              have HK := Lib.hid (And.intro k1 (And.intro k2 (And.intro w1' (And.intro w2' (And.intro w3' w4')))))
              clear k1 k2 w1' w2' w3' w4' hp1 hp2
              go_wp2_with fail
              obtain ⟨k1, k2, w1', w2', w3', w4'⟩ := HK.out
              have HB0 : Hid (∀ o1, BM (wc.alloc o1) w2.heap.size (bb : Nat) vN2 vF) := Lib.hid (fun o1 => H3.out.below (b_alloc (Below.refl wc.heap.size wc) o1) hzg)
              have HNW : Hid (∀ cs, (wc.alloc (.cells cs 3)).heap[wc.heap.size]? = some (.cells cs 3 (0, 0))) := Lib.hid (fun cs => heap_alloc_new wc (.cells cs 3))
              obtain ⟨gg, cap, wn, hrun, hown1, hgrow, _, _⟩ := run_append_lies (P := Try.prog) ((wc.alloc (.cells #[.int .i64 (z : Nat)] 3)).drew) 22 22 (w2.heap.size + 1) 3 i0 _ 1 8 Try.underlying22 hi hz0 hz1 hz2 rfl (by decide) vN2 _ _ ((World.ownsRow.alloc H5'.out _).drew) ⟨wc.heap.size, 0, none⟩ 1 1 [.int .i64 (z : Nat)] rfl (World.news_of_block (cs := #[.int .i64 (z : Nat)]) (t := 3) (fr := (0, 0)) (HNW.out _)) (by simp [Value.oneCell']) (by omega) (by unfold maxLen; omega) (by omega) (by simp; omega) (wc.heap.size + 1) (by simp)
              have B1 : BM wn w2.heap.size (bb : Nat) vN2 vF := (hgrow.block _ (HB0.out _).lt (H5'.out.lo (Nat.lt_succ_self _))).trans (HB0.out _)
              have s1 := B1.cell1
              have s2 := B1.frozen 1
              have HG1 := Lib.hid hgrow
              have HO1 := Lib.hid hown1
              clear B1 hown1 hgrow
              simp [go_sem] at hrun
              go_region
              all_goals clear k1 k2 w1' w2' w3' w4' hrun
              all_goals (
                have W3 := b_drew (b_alloc (Below.refl wc.heap.size wc) (.cells #[.int .i64 (z : Nat)] 3))
                obtain ⟨k1, k2, k3, k4, k5⟩ := app_step (w := w) (R := w.heap.size + 1 + 1) (n := L.length + 1) (by omega) (by omega) (by omega) (by omega) (by omega) H3.out H4.out H5'.out H6.out HT.out W3 HG1.out HO1.out rfl
                have k6 := app_keep (i := 1) (u := .slice (some ⟨gg, 0, none⟩) (L.length + 1) cap) (show w2.heap.size ≠ w.heap.size by omega) H1.out (H5'.out.lo (by omega)) W3 HG1.out
                have k7 := app_keep (i := 1) (u := .slice (some ⟨gg, 0, none⟩) (L.length + 1) cap) (show w2.heap.size ≠ w.heap.size + 1 by omega) H2.out (H5'.out.lo (by omega)) W3 HG1.out
                have K1 := Lib.hid k1
                have K2 := Lib.hid k2
                have K3 := Lib.hid k3
                have K4 := Lib.hid k4
                have K5 := Lib.hid k5
                have K6 := Lib.hid k6
                have K7 := Lib.hid k7
                clear k1 k2 k3 k4 k5 k6 k7 W3
                go_wp2_with fail
                go_roundw
                case rel => exact ⟨t + 1, _, by omega, by go_num, K6.out, K7.out, K1.out, K2.out, by rw [HSU.out, HE.out, ← HLv.out]; exact K3.out, K4.out, K5.out⟩
                case measure => simp [intOf]; omega)
            · obtain rfl : bb = t := by omega
              have hl : (fL q ya yc yc.length s u).length ≤ 144 := fL_len q ya yc yc.length ya.length s u HNN.out hs (by omega)
              have HFS := Lib.hid (fL_succ q ya yc yc.length s u)
              have HJR := Lib.hid (jL_row xa xc bb yc.length s u)
              obtain ⟨L, hL⟩ : ∃ L, L = fL q ya yc yc.length s u := ⟨_, rfl⟩
              have H6' : Hid (RowB wc (w2.heap.size + 1) vF L) := Lib.hid (by rw [hL]; exact H6.out)
              rw [← hL] at hl
              have HLv := Lib.hid hL
              have n2 := H3.out.cell2
              clear hL
              cases fa
              · cases fc
                · cases q
                  · go_wp2_with (first | (at_builtin; refine wpList_append_own _ rfl _ _ 23 rfl (w2.heap.size + 1) 4 k0 (.bool false) 1 1 Try.underlying23 ki kz0 kz1 kz2 rfl (by decide) _ _ _ rfl (World.ownsRow.alloc H6'.out _) ⟨wc.heap.size, 0, none⟩ 1 1 [.bool false] rfl rfl (cell_one_new _ _ _) ?c1 ?c2 ?c3 ?c4 ?_))
                    case c1 => first | rfl | (intro u hu; simp at hu; subst hu; rfl)
                    case c2 => unfold maxLen; omega
                    case c3 => omega
                    case c4 => first | omega | (simp; omega)
                    intro v1 wn hown1 hgrow _
                    obtain ⟨A1, C1, hv1⟩ := (RowB.app hown1).shape
                    obtain ⟨n1, hn1⟩ : ∃ n1, n1 = (L ++ [false]).length := ⟨_, rfl⟩
                    rw [← hn1] at hv1
                    clear hn1
                    subst hv1
                    have W1 := b_alloc (Below.refl wc.heap.size wc) (.cells #[.bool false] 4)
                    have B1 : BM wn w2.heap.size (bb : Nat) vN2 vF := (hgrow.block _ (H3.out.below W1 hzg).lt (H6'.out.lo (Nat.lt_succ_self _))).trans (H3.out.below W1 hzg)
                    have s1 := B1.cell2
                    have s2 := B1.frozen 2
                    obtain ⟨k1, k2, k3, k4, k5⟩ := app_stepB (w := w) (R := w.heap.size + 1 + 1) (by omega) (by omega) (by omega) (by omega) (by omega) H3.out H4.out H5.out H6'.out HT.out W1 hgrow hown1
                    have k6 := app_keep (i := 2) (u := .slice A1 n1 C1) (show w2.heap.size ≠ w.heap.size by omega) H1.out (H6'.out.lo (by omega)) W1 hgrow
                    have k7 := app_keep (i := 2) (u := .slice A1 n1 C1) (show w2.heap.size ≠ w.heap.size + 1 by omega) H2.out (H6'.out.lo (by omega)) W1 hgrow
                    have K1 := Lib.hid k1
                    have K2 := Lib.hid k2
                    have K3 := Lib.hid k3
                    have K4 := Lib.hid k4
                    have K5 := Lib.hid k5
                    have K6 := Lib.hid k6
                    have K7 := Lib.hid k7
                    clear k1 k2 k3 k4 k5 k6 k7 W1 hgrow hown1 B1
                    go_wp2_with fail
                    go_roundw
                    case rel => exact ⟨u + 1, _, _, by omega, by go_num, K6.out, K7.out, K1.out, K2.out, by rw [← HJR.out]; exact K3.out, by rw [HFS.out, ← HFAv.out, ← HFCv.out, ← HLv.out]; exact K4.out, K5.out⟩
                    case measure => simp [intOf]; omega
                  · go_wp2_with (first | (at_builtin; refine wpList_append_own _ rfl _ _ 23 rfl (w2.heap.size + 1) 4 k0 (.bool false) 1 1 Try.underlying23 ki kz0 kz1 kz2 rfl (by decide) _ _ _ rfl (World.ownsRow.alloc H6'.out _) ⟨wc.heap.size, 0, none⟩ 1 1 [.bool false] rfl rfl (cell_one_new _ _ _) ?c1 ?c2 ?c3 ?c4 ?_))
                    case c1 => first | rfl | (intro u hu; simp at hu; subst hu; rfl)
                    case c2 => unfold maxLen; omega
                    case c3 => omega
                    case c4 => first | omega | (simp; omega)
                    intro v1 wn hown1 hgrow _
                    obtain ⟨A1, C1, hv1⟩ := (RowB.app hown1).shape
                    obtain ⟨n1, hn1⟩ : ∃ n1, n1 = (L ++ [false]).length := ⟨_, rfl⟩
                    rw [← hn1] at hv1
                    clear hn1
                    subst hv1
                    have W1 := b_alloc (Below.refl wc.heap.size wc) (.cells #[.bool false] 4)
                    have B1 : BM wn w2.heap.size (bb : Nat) vN2 vF := (hgrow.block _ (H3.out.below W1 hzg).lt (H6'.out.lo (Nat.lt_succ_self _))).trans (H3.out.below W1 hzg)
                    have s1 := B1.cell2
                    have s2 := B1.frozen 2
                    obtain ⟨k1, k2, k3, k4, k5⟩ := app_stepB (w := w) (R := w.heap.size + 1 + 1) (by omega) (by omega) (by omega) (by omega) (by omega) H3.out H4.out H5.out H6'.out HT.out W1 hgrow hown1
                    have k6 := app_keep (i := 2) (u := .slice A1 n1 C1) (show w2.heap.size ≠ w.heap.size by omega) H1.out (H6'.out.lo (by omega)) W1 hgrow
                    have k7 := app_keep (i := 2) (u := .slice A1 n1 C1) (show w2.heap.size ≠ w.heap.size + 1 by omega) H2.out (H6'.out.lo (by omega)) W1 hgrow
                    have K1 := Lib.hid k1
                    have K2 := Lib.hid k2
                    have K3 := Lib.hid k3
                    have K4 := Lib.hid k4
                    have K5 := Lib.hid k5
                    have K6 := Lib.hid k6
                    have K7 := Lib.hid k7
                    clear k1 k2 k3 k4 k5 k6 k7 W1 hgrow hown1 B1
                    go_wp2_with fail
                    go_roundw
                    case rel => exact ⟨u + 1, _, _, by omega, by go_num, K6.out, K7.out, K1.out, K2.out, by rw [← HJR.out]; exact K3.out, by rw [HFS.out, ← HFAv.out, ← HFCv.out, ← HLv.out]; exact K4.out, K5.out⟩
                    case measure => simp [intOf]; omega
                · cases q
                  · go_wp2_with (first | (at_builtin; refine wpList_append_own _ rfl _ _ 23 rfl (w2.heap.size + 1) 4 k0 (.bool false) 1 1 Try.underlying23 ki kz0 kz1 kz2 rfl (by decide) _ _ _ rfl (World.ownsRow.alloc H6'.out _) ⟨wc.heap.size, 0, none⟩ 1 1 [.bool true] rfl rfl (cell_one_new _ _ _) ?c1 ?c2 ?c3 ?c4 ?_))
                    case c1 => first | rfl | (intro u hu; simp at hu; subst hu; rfl)
                    case c2 => unfold maxLen; omega
                    case c3 => omega
                    case c4 => first | omega | (simp; omega)
                    intro v1 wn hown1 hgrow _
                    obtain ⟨A1, C1, hv1⟩ := (RowB.app hown1).shape
                    obtain ⟨n1, hn1⟩ : ∃ n1, n1 = (L ++ [true]).length := ⟨_, rfl⟩
                    rw [← hn1] at hv1
                    clear hn1
                    subst hv1
                    have W1 := b_alloc (Below.refl wc.heap.size wc) (.cells #[.bool true] 4)
                    have B1 : BM wn w2.heap.size (bb : Nat) vN2 vF := (hgrow.block _ (H3.out.below W1 hzg).lt (H6'.out.lo (Nat.lt_succ_self _))).trans (H3.out.below W1 hzg)
                    have s1 := B1.cell2
                    have s2 := B1.frozen 2
                    obtain ⟨k1, k2, k3, k4, k5⟩ := app_stepB (w := w) (R := w.heap.size + 1 + 1) (by omega) (by omega) (by omega) (by omega) (by omega) H3.out H4.out H5.out H6'.out HT.out W1 hgrow hown1
                    have k6 := app_keep (i := 2) (u := .slice A1 n1 C1) (show w2.heap.size ≠ w.heap.size by omega) H1.out (H6'.out.lo (by omega)) W1 hgrow
                    have k7 := app_keep (i := 2) (u := .slice A1 n1 C1) (show w2.heap.size ≠ w.heap.size + 1 by omega) H2.out (H6'.out.lo (by omega)) W1 hgrow
                    have K1 := Lib.hid k1
                    have K2 := Lib.hid k2
                    have K3 := Lib.hid k3
                    have K4 := Lib.hid k4
                    have K5 := Lib.hid k5
                    have K6 := Lib.hid k6
                    have K7 := Lib.hid k7
                    clear k1 k2 k3 k4 k5 k6 k7 W1 hgrow hown1 B1
                    go_wp2_with fail
                    go_roundw
                    case rel => exact ⟨u + 1, _, _, by omega, by go_num, K6.out, K7.out, K1.out, K2.out, by rw [← HJR.out]; exact K3.out, by rw [HFS.out, ← HFAv.out, ← HFCv.out, ← HLv.out]; exact K4.out, K5.out⟩
                    case measure => simp [intOf]; omega
                  · go_wp2_with (first | (at_builtin; refine wpList_append_own _ rfl _ _ 23 rfl (w2.heap.size + 1) 4 k0 (.bool false) 1 1 Try.underlying23 ki kz0 kz1 kz2 rfl (by decide) _ _ _ rfl (World.ownsRow.alloc H6'.out _) ⟨wc.heap.size, 0, none⟩ 1 1 [.bool false] rfl rfl (cell_one_new _ _ _) ?c1 ?c2 ?c3 ?c4 ?_))
                    case c1 => first | rfl | (intro u hu; simp at hu; subst hu; rfl)
                    case c2 => unfold maxLen; omega
                    case c3 => omega
                    case c4 => first | omega | (simp; omega)
                    intro v1 wn hown1 hgrow _
                    obtain ⟨A1, C1, hv1⟩ := (RowB.app hown1).shape
                    obtain ⟨n1, hn1⟩ : ∃ n1, n1 = (L ++ [false]).length := ⟨_, rfl⟩
                    rw [← hn1] at hv1
                    clear hn1
                    subst hv1
                    have W1 := b_alloc (Below.refl wc.heap.size wc) (.cells #[.bool false] 4)
                    have B1 : BM wn w2.heap.size (bb : Nat) vN2 vF := (hgrow.block _ (H3.out.below W1 hzg).lt (H6'.out.lo (Nat.lt_succ_self _))).trans (H3.out.below W1 hzg)
                    have s1 := B1.cell2
                    have s2 := B1.frozen 2
                    obtain ⟨k1, k2, k3, k4, k5⟩ := app_stepB (w := w) (R := w.heap.size + 1 + 1) (by omega) (by omega) (by omega) (by omega) (by omega) H3.out H4.out H5.out H6'.out HT.out W1 hgrow hown1
                    have k6 := app_keep (i := 2) (u := .slice A1 n1 C1) (show w2.heap.size ≠ w.heap.size by omega) H1.out (H6'.out.lo (by omega)) W1 hgrow
                    have k7 := app_keep (i := 2) (u := .slice A1 n1 C1) (show w2.heap.size ≠ w.heap.size + 1 by omega) H2.out (H6'.out.lo (by omega)) W1 hgrow
                    have K1 := Lib.hid k1
                    have K2 := Lib.hid k2
                    have K3 := Lib.hid k3
                    have K4 := Lib.hid k4
                    have K5 := Lib.hid k5
                    have K6 := Lib.hid k6
                    have K7 := Lib.hid k7
                    clear k1 k2 k3 k4 k5 k6 k7 W1 hgrow hown1 B1
                    go_wp2_with fail
                    go_roundw
                    case rel => exact ⟨u + 1, _, _, by omega, by go_num, K6.out, K7.out, K1.out, K2.out, by rw [← HJR.out]; exact K3.out, by rw [HFS.out, ← HFAv.out, ← HFCv.out, ← HLv.out]; exact K4.out, K5.out⟩
                    case measure => simp [intOf]; omega
              · cases fc
                · cases q
                  · go_wp2_with (first | (at_builtin; refine wpList_append_own _ rfl _ _ 23 rfl (w2.heap.size + 1) 4 k0 (.bool false) 1 1 Try.underlying23 ki kz0 kz1 kz2 rfl (by decide) _ _ _ rfl (World.ownsRow.alloc H6'.out _) ⟨wc.heap.size, 0, none⟩ 1 1 [.bool true] rfl rfl (cell_one_new _ _ _) ?c1 ?c2 ?c3 ?c4 ?_))
                    case c1 => first | rfl | (intro u hu; simp at hu; subst hu; rfl)
                    case c2 => unfold maxLen; omega
                    case c3 => omega
                    case c4 => first | omega | (simp; omega)
                    intro v1 wn hown1 hgrow _
                    obtain ⟨A1, C1, hv1⟩ := (RowB.app hown1).shape
                    obtain ⟨n1, hn1⟩ : ∃ n1, n1 = (L ++ [true]).length := ⟨_, rfl⟩
                    rw [← hn1] at hv1
                    clear hn1
                    subst hv1
                    have W1 := b_alloc (Below.refl wc.heap.size wc) (.cells #[.bool true] 4)
                    have B1 : BM wn w2.heap.size (bb : Nat) vN2 vF := (hgrow.block _ (H3.out.below W1 hzg).lt (H6'.out.lo (Nat.lt_succ_self _))).trans (H3.out.below W1 hzg)
                    have s1 := B1.cell2
                    have s2 := B1.frozen 2
                    obtain ⟨k1, k2, k3, k4, k5⟩ := app_stepB (w := w) (R := w.heap.size + 1 + 1) (by omega) (by omega) (by omega) (by omega) (by omega) H3.out H4.out H5.out H6'.out HT.out W1 hgrow hown1
                    have k6 := app_keep (i := 2) (u := .slice A1 n1 C1) (show w2.heap.size ≠ w.heap.size by omega) H1.out (H6'.out.lo (by omega)) W1 hgrow
                    have k7 := app_keep (i := 2) (u := .slice A1 n1 C1) (show w2.heap.size ≠ w.heap.size + 1 by omega) H2.out (H6'.out.lo (by omega)) W1 hgrow
                    have K1 := Lib.hid k1
                    have K2 := Lib.hid k2
                    have K3 := Lib.hid k3
                    have K4 := Lib.hid k4
                    have K5 := Lib.hid k5
                    have K6 := Lib.hid k6
                    have K7 := Lib.hid k7
                    clear k1 k2 k3 k4 k5 k6 k7 W1 hgrow hown1 B1
                    go_wp2_with fail
                    go_roundw
                    case rel => exact ⟨u + 1, _, _, by omega, by go_num, K6.out, K7.out, K1.out, K2.out, by rw [← HJR.out]; exact K3.out, by rw [HFS.out, ← HFAv.out, ← HFCv.out, ← HLv.out]; exact K4.out, K5.out⟩
                    case measure => simp [intOf]; omega
                  · go_wp2_with (first | (at_builtin; refine wpList_append_own _ rfl _ _ 23 rfl (w2.heap.size + 1) 4 k0 (.bool false) 1 1 Try.underlying23 ki kz0 kz1 kz2 rfl (by decide) _ _ _ rfl (World.ownsRow.alloc H6'.out _) ⟨wc.heap.size, 0, none⟩ 1 1 [.bool false] rfl rfl (cell_one_new _ _ _) ?c1 ?c2 ?c3 ?c4 ?_))
                    case c1 => first | rfl | (intro u hu; simp at hu; subst hu; rfl)
                    case c2 => unfold maxLen; omega
                    case c3 => omega
                    case c4 => first | omega | (simp; omega)
                    intro v1 wn hown1 hgrow _
                    obtain ⟨A1, C1, hv1⟩ := (RowB.app hown1).shape
                    obtain ⟨n1, hn1⟩ : ∃ n1, n1 = (L ++ [false]).length := ⟨_, rfl⟩
                    rw [← hn1] at hv1
                    clear hn1
                    subst hv1
                    have W1 := b_alloc (Below.refl wc.heap.size wc) (.cells #[.bool false] 4)
                    have B1 : BM wn w2.heap.size (bb : Nat) vN2 vF := (hgrow.block _ (H3.out.below W1 hzg).lt (H6'.out.lo (Nat.lt_succ_self _))).trans (H3.out.below W1 hzg)
                    have s1 := B1.cell2
                    have s2 := B1.frozen 2
                    obtain ⟨k1, k2, k3, k4, k5⟩ := app_stepB (w := w) (R := w.heap.size + 1 + 1) (by omega) (by omega) (by omega) (by omega) (by omega) H3.out H4.out H5.out H6'.out HT.out W1 hgrow hown1
                    have k6 := app_keep (i := 2) (u := .slice A1 n1 C1) (show w2.heap.size ≠ w.heap.size by omega) H1.out (H6'.out.lo (by omega)) W1 hgrow
                    have k7 := app_keep (i := 2) (u := .slice A1 n1 C1) (show w2.heap.size ≠ w.heap.size + 1 by omega) H2.out (H6'.out.lo (by omega)) W1 hgrow
                    have K1 := Lib.hid k1
                    have K2 := Lib.hid k2
                    have K3 := Lib.hid k3
                    have K4 := Lib.hid k4
                    have K5 := Lib.hid k5
                    have K6 := Lib.hid k6
                    have K7 := Lib.hid k7
                    clear k1 k2 k3 k4 k5 k6 k7 W1 hgrow hown1 B1
                    go_wp2_with fail
                    go_roundw
                    case rel => exact ⟨u + 1, _, _, by omega, by go_num, K6.out, K7.out, K1.out, K2.out, by rw [← HJR.out]; exact K3.out, by rw [HFS.out, ← HFAv.out, ← HFCv.out, ← HLv.out]; exact K4.out, K5.out⟩
                    case measure => simp [intOf]; omega
                · cases q
                  · go_wp2_with (first | (at_builtin; refine wpList_append_own _ rfl _ _ 23 rfl (w2.heap.size + 1) 4 k0 (.bool false) 1 1 Try.underlying23 ki kz0 kz1 kz2 rfl (by decide) _ _ _ rfl (World.ownsRow.alloc H6'.out _) ⟨wc.heap.size, 0, none⟩ 1 1 [.bool true] rfl rfl (cell_one_new _ _ _) ?c1 ?c2 ?c3 ?c4 ?_))
                    case c1 => first | rfl | (intro u hu; simp at hu; subst hu; rfl)
                    case c2 => unfold maxLen; omega
                    case c3 => omega
                    case c4 => first | omega | (simp; omega)
                    intro v1 wn hown1 hgrow _
                    obtain ⟨A1, C1, hv1⟩ := (RowB.app hown1).shape
                    obtain ⟨n1, hn1⟩ : ∃ n1, n1 = (L ++ [true]).length := ⟨_, rfl⟩
                    rw [← hn1] at hv1
                    clear hn1
                    subst hv1
                    have W1 := b_alloc (Below.refl wc.heap.size wc) (.cells #[.bool true] 4)
                    have B1 : BM wn w2.heap.size (bb : Nat) vN2 vF := (hgrow.block _ (H3.out.below W1 hzg).lt (H6'.out.lo (Nat.lt_succ_self _))).trans (H3.out.below W1 hzg)
                    have s1 := B1.cell2
                    have s2 := B1.frozen 2
                    obtain ⟨k1, k2, k3, k4, k5⟩ := app_stepB (w := w) (R := w.heap.size + 1 + 1) (by omega) (by omega) (by omega) (by omega) (by omega) H3.out H4.out H5.out H6'.out HT.out W1 hgrow hown1
                    have k6 := app_keep (i := 2) (u := .slice A1 n1 C1) (show w2.heap.size ≠ w.heap.size by omega) H1.out (H6'.out.lo (by omega)) W1 hgrow
                    have k7 := app_keep (i := 2) (u := .slice A1 n1 C1) (show w2.heap.size ≠ w.heap.size + 1 by omega) H2.out (H6'.out.lo (by omega)) W1 hgrow
                    have K1 := Lib.hid k1
                    have K2 := Lib.hid k2
                    have K3 := Lib.hid k3
                    have K4 := Lib.hid k4
                    have K5 := Lib.hid k5
                    have K6 := Lib.hid k6
                    have K7 := Lib.hid k7
                    clear k1 k2 k3 k4 k5 k6 k7 W1 hgrow hown1 B1
                    go_wp2_with fail
                    go_roundw
                    case rel => exact ⟨u + 1, _, _, by omega, by go_num, K6.out, K7.out, K1.out, K2.out, by rw [← HJR.out]; exact K3.out, by rw [HFS.out, ← HFAv.out, ← HFCv.out, ← HLv.out]; exact K4.out, K5.out⟩
                    case measure => simp [intOf]; omega
                  · go_wp2_with (first | (at_builtin; refine wpList_append_own _ rfl _ _ 23 rfl (w2.heap.size + 1) 4 k0 (.bool false) 1 1 Try.underlying23 ki kz0 kz1 kz2 rfl (by decide) _ _ _ rfl (World.ownsRow.alloc H6'.out _) ⟨wc.heap.size, 0, none⟩ 1 1 [.bool true] rfl rfl (cell_one_new _ _ _) ?c1 ?c2 ?c3 ?c4 ?_))
                    case c1 => first | rfl | (intro u hu; simp at hu; subst hu; rfl)
                    case c2 => unfold maxLen; omega
                    case c3 => omega
                    case c4 => first | omega | (simp; omega)
                    intro v1 wn hown1 hgrow _
                    obtain ⟨A1, C1, hv1⟩ := (RowB.app hown1).shape
                    obtain ⟨n1, hn1⟩ : ∃ n1, n1 = (L ++ [true]).length := ⟨_, rfl⟩
                    rw [← hn1] at hv1
                    clear hn1
                    subst hv1
                    have W1 := b_alloc (Below.refl wc.heap.size wc) (.cells #[.bool true] 4)
                    have B1 : BM wn w2.heap.size (bb : Nat) vN2 vF := (hgrow.block _ (H3.out.below W1 hzg).lt (H6'.out.lo (Nat.lt_succ_self _))).trans (H3.out.below W1 hzg)
                    have s1 := B1.cell2
                    have s2 := B1.frozen 2
                    obtain ⟨k1, k2, k3, k4, k5⟩ := app_stepB (w := w) (R := w.heap.size + 1 + 1) (by omega) (by omega) (by omega) (by omega) (by omega) H3.out H4.out H5.out H6'.out HT.out W1 hgrow hown1
                    have k6 := app_keep (i := 2) (u := .slice A1 n1 C1) (show w2.heap.size ≠ w.heap.size by omega) H1.out (H6'.out.lo (by omega)) W1 hgrow
                    have k7 := app_keep (i := 2) (u := .slice A1 n1 C1) (show w2.heap.size ≠ w.heap.size + 1 by omega) H2.out (H6'.out.lo (by omega)) W1 hgrow
                    have K1 := Lib.hid k1
                    have K2 := Lib.hid k2
                    have K3 := Lib.hid k3
                    have K4 := Lib.hid k4
                    have K5 := Lib.hid k5
                    have K6 := Lib.hid k6
                    have K7 := Lib.hid k7
                    clear k1 k2 k3 k4 k5 k6 k7 W1 hgrow hown1 B1
                    go_wp2_with fail
                    go_roundw
                    case rel => exact ⟨u + 1, _, _, by omega, by go_num, K6.out, K7.out, K1.out, K2.out, by rw [← HJR.out]; exact K3.out, by rw [HFS.out, ← HFAv.out, ← HFCv.out, ← HLv.out]; exact K4.out, K5.out⟩
                    case measure => simp [intOf]; omega
        · obtain rfl : yc.length = u := by omega
          go_wp2_with fail
          go_roundw
          case rel => exact ⟨s + 1, vN, vF, by omega, by go_num, H1.out, H2.out, H3.out, H4.out, by rw [← jL_end]; exact H5.out, by rw [← fL_end]; exact H6.out, HT.out⟩
          case measure => simp [intOf]; omega
    · obtain rfl : ya.length = s := by omega
      obtain ⟨A1, C1, e1⟩ := H5.out.shape
      obtain ⟨A2, C2, e2⟩ := H6.out.shape
      obtain ⟨n1, hn1⟩ : ∃ n1, n1 = (jL xa xc bb yc.length ya.length 0 0).length := ⟨_, rfl⟩
      obtain ⟨n2, hn2⟩ : ∃ n2, n2 = (fL q ya yc yc.length ya.length 0).length := ⟨_, rfl⟩
      rw [← hn1] at e1
      rw [← hn2] at e2
      subst e1 e2
      have HN1 := Lib.hid hn1
      have HN2 := Lib.hid hn2
      clear hn1 hn2
      have m0 := H3.out.cell0
      have m1 := H3.out.cell1
      have m2 := H3.out.cell2
      have r0 := H4.out.cell0
      have r1 := H4.out.cell1
      have r2 := H4.out.cell2
      have f0 := fun i => H4.out.frozen i
      go_wp2_with fail
      have M1 := ((H4.out.set0 (bb : Nat)).set1 (.slice A1 n1 C1)).set2 (.slice A2 n2 C2)
      have f0 := M1.cell0
      have f1 := M1.cell1
      have f2 := M1.cell2
      have hO : OI wa (w2.heap.size + 1) A1 (jL xa xc bb yc.length ya.length 0 0) := (OI.of_own (n := n1) (by have h := H5.out; unfold Row at h; rw [HN1.out]; rw [HN1.out] at h; exact h)).2
      have hP : OB wa (w2.heap.size + 1) A2 (fL q ya yc yc.length ya.length 0) := (OB.of_own (n := n2) (by have h := H6.out; unfold RowB at h; rw [HN2.out]; rw [HN2.out] at h; exact h)).2
      refine bodyPost_ret (v := .tuple #[.agg #[.int .i64 (bb : Nat), .slice A1 n1 C1, .slice A2 n2 C2], .bool true]) (by simp [results, Try.results21, go_sem, f0, f1, f2]) rfl ⟨A1, A2, C1, C2, by rw [HN1.out, HN2.out], ?_, ?_, ?_⟩
      · exact (((hO.set_ (by simp; omega) _).set_ (by simp; omega) _).set_ (by simp; omega) _).low (by omega)
      · exact (((hP.set_ (by simp; omega) _).set_ (by simp; omega) _).set_ (by simp; omega) _).low (by omega)
      · exact b_set (b_set (b_set HT.out (by simp; omega) _) (by simp; omega) _) (by simp; omega) _
end Go.Proofs.Ytoihjapbidbpdaa
