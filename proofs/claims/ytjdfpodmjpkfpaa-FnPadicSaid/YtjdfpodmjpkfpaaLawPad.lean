/- The walk of FnPadic. Conditions: code of at most 2^20 bytes. -/
import Derived.Test.YtjdfpodmjpkfpaaDrawC
namespace Go.Proofs.Ytjdfpodmjpkfpaa
open Go.RowKit
set_option linter.unusedVariables false
set_option maxRecDepth 100000 in
set_option maxHeartbeats 4000000 in
theorem law_pad0 (A : Option Addr) (zs : List Int) (cz : Nat) (w : World) (RC : RY w w.heap.size A zs) (hl : zs.length ≤ 1048576) :
    Calls Try.prog 5 #[.slice A zs.length cz] w fun e w' => e = .returned (.bool true) ∧ Below w.heap.size w w' := by
  have T0 : Below w.heap.size w w := Below.refl _ _
  go_enter Try.func5, Try.ntmps5
  go_wp2_with fail
  refine (num_any A zs cz 0 _ ((RC.below (b_alloc (Below.refl _ _) _)).more (by simp)) hl (by omega)).mono ?_
  rintro e w1 ⟨n0, rfl, n00, n01, hb⟩
  have hblk : w1.heap[w.heap.size]? = some (.cells #[.int .i64 2, .int .i64 3, .int .i64 5, .int .i64 7, .int .i64 11, .int .i64 13] 3 (0, 0)) := (hb.block _ (by simp)).trans (heap_alloc_new w _)
  have hb1 : Below w.heap.size w w1 := (b_alloc (Below.refl _ _) _).trans (hb.mono (by simp))
  clear hb
  obtain ⟨r, hr⟩ : ∃ r : Nat, n0 % 6 = (r : Int) := ⟨(n0 % 6).toNat, by omega⟩
  have r6 : r < 6 := by omega
  obtain ⟨p, hp, hcell⟩ : ∃ p, primeB p = true ∧ w1.cell? ⟨w.heap.size, r, none⟩ = some (.int .i64 p) := by
    have e := cell_of_row w1 w.heap.size r _ _ (0, 0) hblk
    have h6 : r = 0 ∨ r = 1 ∨ r = 2 ∨ r = 3 ∨ r = 4 ∨ r = 5 := by omega
    rw [e]
    rcases h6 with rfl | rfl | rfl | rfl | rfl | rfl <;> exact ⟨_, by decide, rfl⟩
  have r0 : (0 : Int) ≤ (r : Int) := by omega
  have r1 : (r : Int) < 6 := by omega
  have HP : Hid (primeB p = true) := hp
  obtain ⟨p1, p2⟩ := primeB_bd hp
  clear hp hblk
  have T1 := b_step T0 hb1
  have sz1 := hb1.size
  have RC_1 := RC.below (hb1.mono (by omega))
  clear hb1
  go_wp2_with fail
  refine (num_any A zs cz 2 _ (RC_1.more (by omega)) hl (by omega)).mono ?_
  rintro e w2 ⟨n1, rfl, n10, n11, hb2⟩
  have T2 := b_step T1 hb2
  have sz2 := hb2.size
  have RC_2 := RC_1.below (hb2.mono (by omega))
  clear hb2 RC_1
  clear hcell hr r6 r0 r1 n00 n01
  obtain ⟨k, hk⟩ : ∃ k : Nat, 1 + n1 % 7 = (k : Int) := ⟨(1 + n1 % 7).toNat, by omega⟩
  have k1 : 1 ≤ k := by omega
  have k8 : k ≤ 8 := by omega
  go_wp2_with fail
  clear hk n10 n11
  refine (makePad_any A zs cz 4 k p _ (RC_2.more (by omega)) hl (by omega) HP.out k1 k8).mono ?_
  rintro e w3 ⟨a, Aa, ca, rfl, Ka, hO, hb3⟩
  have T3 := b_step T2 hb3
  have sz3 := hb3.size
  have RC_3 := RC_2.below (hb3.mono (by omega))
  clear hb3 RC_2
  have A0_3 := hO
  clear hO
  have Ha := Lib.hid Ka
  clear Ka
  go_wp2_with fail
  refine (makePad_any A zs cz 14 k p _ (RC_3.more (by omega)) hl (by omega) HP.out k1 k8).mono ?_
  skip
  rintro e w4 ⟨b, Ba, cb, rfl, Kb, hO, hb4⟩
  have T4 := b_step T3 hb4
  have sz4 := hb4.size
  have RC_4 := RC_3.below (hb4.mono (by omega))
  have A0_4 := A0_3.keep hb4
  clear hb4 RC_3 A0_3
  have B0_4 := hO
  clear hO
  have Hb := Lib.hid Kb
  clear Kb
  go_wp2_with fail
  refine (makePad_any A zs cz 24 k p _ (RC_4.more (by omega)) hl (by omega) HP.out k1 k8).mono ?_
  skip
  rintro e w5 ⟨c, Ca, cc, rfl, Kc, hO, hb5⟩
  have T5 := b_step T4 hb5
  have sz5 := hb5.size
  have RC_5 := RC_4.below (hb5.mono (by omega))
  have A0_5 := A0_4.keep hb5
  have B0_5 := B0_4.keep hb5
  clear hb5 RC_4 A0_4 B0_4
  have C0_5 := hO
  clear hO
  have Hc := Lib.hid Kc
  clear Kc
  obtain ⟨s, es⟩ : ∃ s, addR p a b = s := ⟨_, rfl⟩
  have Hs : Hid (KP p k s) := by rw [← es]; exact Ha.out.add Hb.out ▸ Ha.out.plc _
  have Es := Lib.hid es
  clear es
  obtain ⟨x, ex⟩ : ∃ x, timesR p s c = x := ⟨_, rfl⟩
  have Hx : Hid (KP p k x) := by rw [← ex]; exact Hs.out.times Hc.out ▸ Hs.out.plc _
  have Ex := Lib.hid ex
  clear ex
  obtain ⟨u, eu⟩ : ∃ u, timesR p a c = u := ⟨_, rfl⟩
  have Hu : Hid (KP p k u) := by rw [← eu]; exact Ha.out.times Hc.out ▸ Ha.out.plc _
  have Eu := Lib.hid eu
  clear eu
  obtain ⟨v, ev⟩ : ∃ v, timesR p b c = v := ⟨_, rfl⟩
  have Hv : Hid (KP p k v) := by rw [← ev]; exact Hb.out.times Hc.out ▸ Hb.out.plc _
  have Ev := Lib.hid ev
  clear ev
  obtain ⟨m, em⟩ : ∃ m, negR p a = m := ⟨_, rfl⟩
  have Hm : Hid (KP p k m) := by rw [← em]; exact Ha.out.neg ▸ Ha.out.plc _
  have Em := Lib.hid em
  clear em
  have Ez : Hid (addR p a m = List.replicate k 0) := by rw [← Em.out]; exact pad_neg Ha.out
  obtain ⟨z, ez⟩ : ∃ z, z = List.replicate k (0 : Int) := ⟨_, rfl⟩
  rw [← ez] at Ez
  have Hz : Hid (KP p k z) := by rw [ez]; exact pad_rep Ha.out
  have sz0 : Hid (z.sum = 0) := Lib.hid (by rw [ez, sum_rep]; simp)
  have vz : Hid (val p z = 0) := by rw [ez]; exact val_rep p k
  clear ez
  have Ey : Hid (addR p u v = x) := by rw [← Eu.out, ← Ev.out, ← Ex.out, ← Es.out]; exact (pad_ring Ha.out Hb.out Hc.out).symm
  go_wp2_with fail
  refine (add_k Ha.out Hb.out Aa Ba ca cb _ (A0_5).reads (B0_5).reads Es.out).mono ?_
  rintro e w6 ⟨Sa, cs, rfl, hO, hb6⟩
  have T6 := b_step T5 hb6
  have sz6 := hb6.size
  have RC_6 := RC_5.below (hb6.mono (by omega))
  have A0_6 := A0_5.keep hb6
  have B0_6 := B0_5.keep hb6
  have C0_6 := C0_5.keep hb6
  clear hb6 RC_5 A0_5 B0_5 C0_5
  have S0_6 := hO
  clear hO
  go_wp2_with fail
  refine (times_k Hs.out Hc.out Sa Ca cs cc _ (S0_6).reads (C0_6).reads Ex.out).mono ?_
  rintro e w7 ⟨Xa, cx, rfl, hO, hb7⟩
  have T7 := b_step T6 hb7
  have sz7 := hb7.size
  have RC_7 := RC_6.below (hb7.mono (by omega))
  have A0_7 := A0_6.keep hb7
  have B0_7 := B0_6.keep hb7
  have C0_7 := C0_6.keep hb7
  have S0_7 := S0_6.keep hb7
  clear hb7 RC_6 A0_6 B0_6 C0_6 S0_6
  have X0_7 := hO
  clear hO
  go_wp2_with fail
  refine (times_k Ha.out Hc.out Aa Ca ca cc _ (A0_7).reads (C0_7).reads Eu.out).mono ?_
  rintro e w8 ⟨Ua, cu, rfl, hO, hb8⟩
  have T8 := b_step T7 hb8
  have sz8 := hb8.size
  have RC_8 := RC_7.below (hb8.mono (by omega))
  have A0_8 := A0_7.keep hb8
  have B0_8 := B0_7.keep hb8
  have C0_8 := C0_7.keep hb8
  have S0_8 := S0_7.keep hb8
  have X0_8 := X0_7.keep hb8
  clear hb8 RC_7 A0_7 B0_7 C0_7 S0_7 X0_7
  have U0_8 := hO
  clear hO
  go_wp2_with fail
  refine (times_k Hb.out Hc.out Ba Ca cb cc _ (B0_8).reads (C0_8).reads Ev.out).mono ?_
  rintro e w9 ⟨Va, cv, rfl, hO, hb9⟩
  have T9 := b_step T8 hb9
  have sz9 := hb9.size
  have RC_9 := RC_8.below (hb9.mono (by omega))
  have A0_9 := A0_8.keep hb9
  have B0_9 := B0_8.keep hb9
  have C0_9 := C0_8.keep hb9
  have S0_9 := S0_8.keep hb9
  have X0_9 := X0_8.keep hb9
  have U0_9 := U0_8.keep hb9
  clear hb9 RC_8 A0_8 B0_8 C0_8 S0_8 X0_8 U0_8
  have V0_9 := hO
  clear hO
  go_wp2_with fail
  refine (add_k Hu.out Hv.out Ua Va cu cv _ (U0_9).reads (V0_9).reads Ey.out).mono ?_
  rintro e w10 ⟨Ya, cy, rfl, hO, hb10⟩
  have T10 := b_step T9 hb10
  have sz10 := hb10.size
  have RC_10 := RC_9.below (hb10.mono (by omega))
  have A0_10 := A0_9.keep hb10
  have B0_10 := B0_9.keep hb10
  have C0_10 := C0_9.keep hb10
  have S0_10 := S0_9.keep hb10
  have X0_10 := X0_9.keep hb10
  have U0_10 := U0_9.keep hb10
  have V0_10 := V0_9.keep hb10
  clear hb10 RC_9 A0_9 B0_9 C0_9 S0_9 X0_9 U0_9 V0_9
  have Y0_10 := hO
  clear hO
  go_wp2_with fail
  refine (neg_k Ha.out Aa ca _ (A0_10).reads Em.out).mono ?_
  rintro e w11 ⟨Ma, cm, rfl, hO, hb11⟩
  have T11 := b_step T10 hb11
  have sz11 := hb11.size
  have RC_11 := RC_10.below (hb11.mono (by omega))
  have A0_11 := A0_10.keep hb11
  have B0_11 := B0_10.keep hb11
  have C0_11 := C0_10.keep hb11
  have S0_11 := S0_10.keep hb11
  have X0_11 := X0_10.keep hb11
  have U0_11 := U0_10.keep hb11
  have V0_11 := V0_10.keep hb11
  have Y0_11 := Y0_10.keep hb11
  clear hb11 RC_10 A0_10 B0_10 C0_10 S0_10 X0_10 U0_10 V0_10 Y0_10
  have M0_11 := hO
  clear hO
  go_wp2_with fail
  refine (add_k Ha.out Hm.out Aa Ma ca cm _ (A0_11).reads (M0_11).reads Ez.out).mono ?_
  rintro e w12 ⟨Za, cz2, rfl, hO, hb12⟩
  have T12 := b_step T11 hb12
  have sz12 := hb12.size
  have RC_12 := RC_11.below (hb12.mono (by omega))
  have A0_12 := A0_11.keep hb12
  have B0_12 := B0_11.keep hb12
  have C0_12 := C0_11.keep hb12
  have S0_12 := S0_11.keep hb12
  have X0_12 := X0_11.keep hb12
  have U0_12 := U0_11.keep hb12
  have V0_12 := V0_11.keep hb12
  have Y0_12 := Y0_11.keep hb12
  have M0_12 := M0_11.keep hb12
  clear hb12 RC_11 A0_11 B0_11 C0_11 S0_11 X0_11 U0_11 V0_11 Y0_11 M0_11
  have Z0_12 := hO
  clear hO
  clear S0_12
  clear U0_12
  clear V0_12
  clear M0_12
  clear B0_12
  clear C0_12
  have lx := Hx.out.len8
  have lz := Hz.out.len8
  have tz : ((z.length : Int) != (k : Int)) = false := by rw [Hz.out.2]; simp
  go_wp2_with fail
  refine (same_t Xa Ya x cx cy _ (X0_12).reads (Y0_12).reads (by omega)).mono ?_
  rintro e w' ⟨rfl, rfl⟩
  go_wp2_with fail
  refine (sum_any Za z cz2 _ (Z0_12).reads (by omega) (fun y hy => by have := allB_iff.1 Hz.out.1.2.2.2 y hy; omega)).mono ?_
  rw [sz0.out]
  rintro e w' ⟨rfl, rfl⟩
  go_wp2_with fail
  refine (val_k Hz.out Za cz2 _ (Z0_12).reads vz.out).mono ?_
  rintro e w13 ⟨rfl, hb13⟩
  have T13 := b_step T12 hb13
  have sz13 := hb13.size
  have RC_13 := RC_12.below (hb13.mono (by omega))
  have A0_13 := A0_12.keep hb13
  have X0_13 := X0_12.keep hb13
  have Y0_13 := Y0_12.keep hb13
  have Z0_13 := Z0_12.keep hb13
  clear hb13 RC_12 A0_12 X0_12 Y0_12 Z0_12
  go_wp2_with fail
  refine (ok_k Ha.out Aa ca _ (A0_13).reads).mono ?_
  rintro e w14 ⟨rfl, hb14⟩
  have T14 := b_step T13 hb14
  have sz14 := hb14.size
  have RC_14 := RC_13.below (hb14.mono (by omega))
  have A0_14 := A0_13.keep hb14
  have X0_14 := X0_13.keep hb14
  have Y0_14 := Y0_13.keep hb14
  have Z0_14 := Z0_13.keep hb14
  clear hb14 RC_13 A0_13 X0_13 Y0_13 Z0_13
  clear X0_14
  clear Y0_14
  clear Z0_14
  clear tz lx lz sz0 vz Ez Ey Hz Hm Em Hx Ex Hu Eu Hv Ev Hs Es Hb Hc
  obtain ⟨a0, ha0⟩ : ∃ a0, a0 = a.getD 0 0 := ⟨_, rfl⟩
  obtain ⟨iv, hiv⟩ : ∃ iv, iv = invR p a := ⟨_, rfl⟩
  have kiv : Hid (invR p a = iv ∧ piB p a = (a0 != 0)) := by
    refine ⟨hiv.symm, ?_⟩
    by_cases h : a0 = 0
    · rw [piB_f (fun hh => hh.2 (by rw [← ha0]; exact h)), h]; rfl
    · rw [piB_t ⟨Ha.out.1, by rw [← ha0]; exact h⟩]; symm; rw [bne_iff_ne]; exact h
  have HA0 := Lib.hid ha0
  have HIV := Lib.hid hiv
  clear ha0 hiv
  have la := Ha.out.len8
  go_wp2_with fail
  refine (i_pinv Aa a ca p _ (A0_14).reads (by omega)).mono ?_
  rw [kiv.out.1, kiv.out.2]
  rintro e w15 ⟨Ia, ci, rfl, hO, hb15⟩
  have T15 := b_step T14 hb15
  have sz15 := hb15.size
  have RC_15 := RC_14.below (hb15.mono (by omega))
  have A0_15 := A0_14.keep hb15
  clear hb15 RC_14 A0_14
  have I0_15 := hO
  clear hO
  obtain ⟨ba, oa, rfl, hba, hca⟩ := ((A0_15).reads).at_ (k := 0) (by have := Ha.out.1.2.1; omega)
  rw [← HA0.out] at hca
  have la1 : (0 : Int) < (a.length : Int) := by have := Ha.out.1.2.1; omega
  rw [Nat.add_zero] at hca
  go_upto_if 189 with fail
  go_cut [23, 24, 25, 26, 27, 28, 29, 30, 31] from 177 to 258 (fun s23 s24 s25 s26 s27 s28 s29 s30 s31 wx => Below w.heap.size w wx)
  case first =>
    by_cases h : a0 = 0
    · subst h
      go_wp2
      go_meet
      exact T15
    have ha0b : (a0 != 0) = true := by rw [bne_iff_ne]; exact h
    have hh := pad_inv Ha.out (by rw [← HA0.out]; exact h)
    rw [← HIV.out] at hh
    have Hiv : Hid (KP p k iv) := hh.1
    obtain ⟨ee, eee⟩ : ∃ ee, timesR p a iv = ee := ⟨_, rfl⟩
    have Hee : Hid (KP p k ee) := by rw [← eee, Ha.out.times Hiv.out]; exact Ha.out.plc _
    have vee : Hid (val p ee = 1) := by have h2 := hh.2; rw [eee, Hee.out.padV] at h2; exact h2
    have Eee := Lib.hid eee
    clear eee hh
    obtain ⟨qq, eqq⟩ : ∃ qq, timesR p a a = qq := ⟨_, rfl⟩
    have Hqq : Hid (KP p k qq) := by rw [← eqq, Ha.out.times Ha.out]; exact Ha.out.plc _
    have Eqq := Lib.hid eqq
    clear eqq
    have lqq := Hqq.out.len8
    go_wp2_with fail
    refine (times_k Ha.out Hiv.out (some ⟨ba, oa, none⟩) Ia ca ci _ (A0_15).reads (I0_15).reads Eee.out).mono ?_
    rintro e w16 ⟨EA, ce, rfl, hO, hb16⟩
    have T16 := b_step T15 hb16
    have sz16 := hb16.size
    have RC_16 := RC_15.below (hb16.mono (by omega))
    have A0_16 := A0_15.keep hb16
    have I0_16 := I0_15.keep hb16
    clear hb16 RC_15 A0_15 I0_15
    have E0_16 := hO
    clear hO
    go_wp2_with fail
    refine (val_k Hee.out EA ce _ (E0_16).reads vee.out).mono ?_
    rintro e w17 ⟨rfl, hb17⟩
    have T17 := b_step T16 hb17
    have sz17 := hb17.size
    have RC_17 := RC_16.below (hb17.mono (by omega))
    have A0_17 := A0_16.keep hb17
    have I0_17 := I0_16.keep hb17
    have E0_17 := E0_16.keep hb17
    clear hb17 RC_16 A0_16 I0_16 E0_16
    clear E0_17
    clear I0_17
    go_wp2_with fail
    refine (times_k Ha.out Ha.out (some ⟨ba, oa, none⟩) (some ⟨ba, oa, none⟩) ca ca _ (A0_17).reads (A0_17).reads Eqq.out).mono ?_
    rintro e w18 ⟨QA, cq, rfl, hO, hb18⟩
    have T18 := b_step T17 hb18
    have sz18 := hb18.size
    have RC_18 := RC_17.below (hb18.mono (by omega))
    have A0_18 := A0_17.keep hb18
    clear hb18 RC_17 A0_17
    have Q0_18 := hO
    clear hO
    by_cases h2 : p = 2
    · subst h2
      go_wp2_with fail
      refine (i_root QA qq cq 2 _ (Q0_18).reads (by omega)).mono ?_
      rw [pad_root2.1, pad_root2.2]
      rintro e w19 ⟨RA, cr, rfl, hO, hb19⟩
      have T19 := b_step T18 hb19
      have sz19 := hb19.size
      have RC_19 := RC_18.below (hb19.mono (by omega))
      have A0_19 := A0_18.keep hb19
      have Q0_19 := Q0_18.keep hb19
      clear hb19 RC_18 A0_18 Q0_18
      go_wp2
      go_meet
      exact T19
    have hp2 : (p != 2) = true := by rw [bne_iff_ne]; exact h2
    have hr := pad_root Ha.out (by rw [← HA0.out]; exact h) h2
    rw [Eqq.out] at hr
    obtain ⟨rr, err⟩ : ∃ rr, rootR p qq = rr := ⟨_, rfl⟩
    rw [err] at hr
    obtain ⟨hr1, hr2, hr3, hr4⟩ := hr
    have Hr1 : Hid (rootB p qq = true ∧ rootR p qq = rr) := ⟨hr1, err⟩
    have Hrr := Lib.hid hr2
    have Hw := Lib.hid hr4
    obtain ⟨r0, er0⟩ : ∃ r0, r0 = rr.getD 0 0 := ⟨_, rfl⟩
    rw [← er0] at hr3
    have hr0 : 0 ≤ r0 := by rw [er0]; exact (allB_iff.1 hr2.1.2.2.2 _ (getD_mem (by have := hr2.1.2.1; omega))).1
    have Er0 := Lib.hid er0
    clear hr1 hr2 hr4 err er0
    have lrr := Hrr.out.len8
    have trr : ((rr.length : Int) != (k : Int)) = false := by rw [Hrr.out.2]; simp
    go_wp2_with fail
    refine (i_root QA qq cq p _ (Q0_18).reads (by omega)).mono ?_
    rw [Hr1.out.1, Hr1.out.2]
    rintro e w19 ⟨RA, cr, rfl, hO, hb19⟩
    have T19 := b_step T18 hb19
    have sz19 := hb19.size
    have RC_19 := RC_18.below (hb19.mono (by omega))
    have A0_19 := A0_18.keep hb19
    have Q0_19 := Q0_18.keep hb19
    clear hb19 RC_18 A0_18 Q0_18
    have R0_19 := hO
    clear hO
    obtain ⟨br, orr, rfl, hbr, hcr⟩ := ((R0_19).reads).at_ (k := 0) (by have := Hrr.out.1.2.1; omega)
    rw [← Er0.out] at hcr
    have lr1 : (0 : Int) < (rr.length : Int) := by have := Hrr.out.1.2.1; omega
    rw [Nat.add_zero] at hcr
    go_wp2_with fail
    refine (times_k Hrr.out Hrr.out (some ⟨br, orr, none⟩) (some ⟨br, orr, none⟩) cr cr _ (R0_19).reads (R0_19).reads Hw.out).mono ?_
    rintro e w20 ⟨WA, cw, rfl, hO, hb20⟩
    have T20 := b_step T19 hb20
    have sz20 := hb20.size
    have RC_20 := RC_19.below (hb20.mono (by omega))
    have A0_20 := A0_19.keep hb20
    have Q0_20 := Q0_19.keep hb20
    have R0_20 := R0_19.keep hb20
    clear hb20 RC_19 A0_19 Q0_19 R0_19
    have W0_20 := hO
    clear hO
    go_wp2_with fail
    refine (same_t WA QA qq cw cq _ (W0_20).reads (Q0_20).reads (by omega)).mono ?_
    rintro e w' ⟨rfl, rfl⟩
    go_wp2
    go_meet
    exact T20
  case rest =>
  rename World => w60
  have T60 := hcut
  clear hcut
  have sz60 := T60.size
  have RC_60 := RC.below T60
  go_wp2_with fail
  refine (num_any A zs cz 40 _ (RC_60.more (by omega)) hl (by omega)).mono ?_
  rintro e w61 ⟨n2, rfl, n20, n21, hb61⟩
  have T61 := b_step T60 hb61
  have sz61 := hb61.size
  have RC_61 := RC_60.below (hb61.mono (by omega))
  clear hb61 RC_60
  obtain ⟨tp, htp⟩ : ∃ t, n2 % 41 - 20 = t := ⟨_, rfl⟩
  have tp0 : -20 ≤ tp := by omega
  have tp1 : tp ≤ 20 := by omega
  go_wp2_with fail
  clear htp n20 n21
  refine (num_any A zs cz 42 _ (RC_61.more (by omega)) hl (by omega)).mono ?_
  rintro e w62 ⟨n3, rfl, n30, n31, hb62⟩
  have T62 := b_step T61 hb62
  have sz62 := hb62.size
  have RC_62 := RC_61.below (hb62.mono (by omega))
  clear hb62 RC_61
  obtain ⟨bo, hbo⟩ : ∃ t, 1 + n3 % 20 = t := ⟨_, rfl⟩
  have bo0 : 1 ≤ bo := by omega
  have bo1 : bo ≤ 20 := by omega
  obtain ⟨z, hz⟩ : ∃ z, bo % p = z := ⟨_, rfl⟩
  have HZ := Lib.hid hz
  have Qf : Hid (PdP p k bo 1) := pd_one HP.out k1 k8 (by omega) (by omega) (by omega) (by omega) (by rw [Int.emod_eq_of_lt (by omega) (by omega)]; omega)
  obtain ⟨dd, edd⟩ : ∃ dd, pdR p k tp bo = dd := ⟨_, rfl⟩
  have Hdd : Hid (pdR p k tp bo = dd ∧ pdB p k tp bo = (z != 0)) := by
    refine ⟨edd, ?_⟩
    by_cases h : z = 0
    · rw [pdB_f (fun hh => hh.unit (by rw [hz]; exact h)), h]; rfl
    · rw [pdB_t (pd_one HP.out k1 k8 (by omega) (by omega) (by omega) (by omega) (by rw [hz]; exact h))]; symm; rw [bne_iff_ne]; exact h
  have ldd : dd.length ≤ 1048576 := by rw [← edd]; unfold pdR; split; simp [length_plc]; omega; simp
  obtain ⟨ff, eff⟩ : ∃ ff, pdR p k bo 1 = ff := ⟨_, rfl⟩
  have Hff : Hid (pdR p k bo 1 = ff ∧ pdB p k bo 1 = true) := ⟨eff, pdB_t Qf.out⟩
  have Kff : Hid (KP p k ff) := by rw [← eff]; exact pd_kp HP.out k1 k8 Qf.out
  clear edd eff hz
  go_wp2_with fail
  clear hbo n30 n31
  refine (i_pdig tp bo p k _).mono ?_
  rw [Hdd.out.1, Hdd.out.2]
  rintro e w63 ⟨DA, cd, rfl, hO, hb63⟩
  have T63 := b_step T62 hb63
  have sz63 := hb63.size
  have RC_63 := RC_62.below (hb63.mono (by omega))
  clear hb63 RC_62
  have D0_63 := hO
  clear hO
  go_wp2_with fail
  refine (i_pdig bo 1 p k _).mono ?_
  rw [Hff.out.1, Hff.out.2]
  rintro e w64 ⟨FA, cf, rfl, hO, hb64⟩
  have T64 := b_step T63 hb64
  have sz64 := hb64.size
  have RC_64 := RC_63.below (hb64.mono (by omega))
  have D0_64 := D0_63.keep hb64
  clear hb64 RC_63 D0_63
  have F0_64 := hO
  clear hO
  have hz := HZ.out
  go_upto_if 292 with fail
  clear hz
  go_cut [35, 38, 39, 40, 41, 42, 43, 44, 45, 46] from 267 to 347 (fun s35 s38 s39 s40 s41 s42 s43 s44 s45 s46 wx => Below w.heap.size w wx)
  case first =>
    by_cases h : z = 0
    · subst h
      go_wp2
      go_meet
      exact T64
    have hzb : (z != 0) = true := by rw [bne_iff_ne]; exact h
    have Qd : Hid (PdP p k tp bo) := pd_one HP.out k1 k8 (by omega) (by omega) (by omega) (by omega) (by rw [HZ.out]; exact h)
    have Qg : Hid (PdP p k tp 1) := pd_one HP.out k1 k8 (by omega) (by omega) (by omega) (by omega) (by rw [Int.emod_eq_of_lt (by omega) (by omega)]; omega)
    have Kdd : Hid (KP p k dd) := by rw [← Hdd.out.1]; exact pd_kp HP.out k1 k8 Qd.out
    obtain ⟨gg, egg⟩ : ∃ gg, pdR p k tp 1 = gg := ⟨_, rfl⟩
    have Hgg : Hid (pdR p k tp 1 = gg ∧ pdB p k tp 1 = true) := ⟨egg, pdB_t Qg.out⟩
    have Kgg : Hid (KP p k gg) := by rw [← egg]; exact pd_kp HP.out k1 k8 Qg.out
    clear egg
    have od := pd_over Qd.out
    rw [Int.toNat_natCast, Hdd.out.1] at od
    have of := pd_over Qf.out
    rw [Int.toNat_natCast, Hff.out.1] at of
    have og := pd_over Qg.out
    rw [Int.toNat_natCast, Hgg.out.1] at og
    have Et : Hid (timesR p dd ff = gg) := pd_times Kdd.out Kff.out Kgg.out od of og
    have hrat := rat_found Kdd.out (by rw [HZ.out]; exact h) (by omega) (by omega) (by omega) (by omega) od
    obtain ⟨nn, enn⟩ : ∃ x, rA (ratO p dd 20) = x := ⟨_, rfl⟩
    obtain ⟨oo, eoo⟩ : ∃ x, rC (ratO p dd 20) = x := ⟨_, rfl⟩
    rw [enn, eoo] at hrat
    have Hrat : Hid (rA (ratO p dd 20) = nn ∧ rC (ratO p dd 20) = oo ∧ rF (ratO p dd 20) = true) := ⟨enn, eoo, hrat.1⟩
    have Hno : Hid (pdR p k nn oo = dd ∧ pdB p k nn oo = true) := ⟨hrat.2.2, pdB_t hrat.2.1⟩
    clear enn eoo hrat od of og
    have lgg := Kgg.out.len8
    go_wp2_with fail
    refine (times_k Kdd.out Kff.out DA FA cd cf _ (D0_64).reads (F0_64).reads Et.out).mono ?_
    rintro e w65 ⟨HA, ch, rfl, hO, hb65⟩
    have T65 := b_step T64 hb65
    have sz65 := hb65.size
    have RC_65 := RC_64.below (hb65.mono (by omega))
    have D0_65 := D0_64.keep hb65
    have F0_65 := F0_64.keep hb65
    clear hb65 RC_64 D0_64 F0_64
    have H0_65 := hO
    clear hO
    go_wp2_with fail
    refine (i_pdig tp 1 p k _).mono ?_
    rw [Hgg.out.1, Hgg.out.2]
    rintro e w66 ⟨GA, cg, rfl, hO, hb66⟩
    have T66 := b_step T65 hb66
    have sz66 := hb66.size
    have RC_66 := RC_65.below (hb66.mono (by omega))
    have D0_66 := D0_65.keep hb66
    have F0_66 := F0_65.keep hb66
    have H0_66 := H0_65.keep hb66
    clear hb66 RC_65 D0_65 F0_65 H0_65
    have G0_66 := hO
    clear hO
    go_wp2_with fail
    refine (i_rat DA dd cd p 20 _ (D0_66).reads ldd).mono ?_
    rw [Hrat.out.1, Hrat.out.2.1, Hrat.out.2.2]
    rintro e w67 ⟨rfl, hb67⟩
    have T67 := b_step T66 hb67
    have sz67 := hb67.size
    have RC_67 := RC_66.below (hb67.mono (by omega))
    have D0_67 := D0_66.keep hb67
    have F0_67 := F0_66.keep hb67
    have H0_67 := H0_66.keep hb67
    have G0_67 := G0_66.keep hb67
    clear hb67 RC_66 D0_66 F0_66 H0_66 G0_66
    go_wp2_with fail
    refine (i_pdig nn oo p k _).mono ?_
    rw [Hno.out.1, Hno.out.2]
    rintro e w68 ⟨TA, ct, rfl, hO, hb68⟩
    have T68 := b_step T67 hb68
    have sz68 := hb68.size
    have RC_68 := RC_67.below (hb68.mono (by omega))
    have D0_68 := D0_67.keep hb68
    have F0_68 := F0_67.keep hb68
    have H0_68 := H0_67.keep hb68
    have G0_68 := G0_67.keep hb68
    clear hb68 RC_67 D0_67 F0_67 H0_67 G0_67
    have T0_68 := hO
    clear hO
    go_wp2_with fail
    refine (same_t HA GA gg ch cg _ (H0_68).reads (G0_68).reads (by omega)).mono ?_
    rintro e w' ⟨rfl, rfl⟩
    go_wp2_with fail
    refine (same_t TA DA dd ct cd _ (T0_68).reads (D0_68).reads (by omega)).mono ?_
    rintro e w' ⟨rfl, rfl⟩
    go_wp2
    go_meet
    exact T68
  case rest =>
  rename World => w80
  have T80 := hcut
  clear hcut
  have sz80 := T80.size
  have RC_80 := RC.below T80
  clear Hff Kff Hdd HZ Qf
  have Ql : Hid (PdP p k (-1) 1) := pd_one HP.out k1 k8 (by omega) (by omega) (by omega) (by omega) (by rw [Int.emod_eq_of_lt (by omega) (by omega)]; omega)
  obtain ⟨ll, ell⟩ : ∃ ll, ll = List.replicate k (p - 1) := ⟨_, rfl⟩
  have Hll : Hid (pdR p k (-1) 1 = ll ∧ pdB p k (-1) 1 = true) := ⟨(pd_last HP.out k1 k8 Ql.out).trans ell.symm, pdB_t Ql.out⟩
  have Kll : Hid (KP p k ll) := by rw [← Hll.out.1]; exact pd_kp HP.out k1 k8 Ql.out
  have sll : Hid (ll.sum = (k : Int) * (p - 1)) := by rw [ell]; exact sum_rep k (p - 1)
  clear ell
  have lll := Kll.out.len8
  have tll : ((ll.length : Int) == (k : Int)) = true := by rw [Kll.out.2]; simp
  have b1 : 0 ≤ (k : Int) * (p - 1) := Int.mul_nonneg (by omega) (by omega)
  have b2 : (k : Int) * (p - 1) ≤ 8 * 12 := Int.mul_le_mul (by omega) (by omega) (by omega) (by omega)
  have b3 : 0 ≤ p * p := Int.mul_nonneg (by omega) (by omega)
  have b4 : p * p ≤ 13 * 13 := Int.mul_le_mul (by omega) (by omega) (by omega) (by omega)
  have b5 : 0 ≤ p * p * p := Int.mul_nonneg b3 (by omega)
  have b6 : p * p * p ≤ 13 * 13 * 13 := Int.mul_le_mul b4 (by omega) (by omega) (by omega)
  go_wp2_with fail
  refine (i_pdig (-1) 1 p k _).mono ?_
  rw [Hll.out.1, Hll.out.2]
  rintro e w81 ⟨LA, cl, rfl, hO, hb81⟩
  have T81 := b_step T80 hb81
  have sz81 := hb81.size
  have RC_81 := RC_80.below (hb81.mono (by omega))
  clear hb81 RC_80
  have L0_81 := hO
  clear hO
  go_wp2_with fail
  refine (sum_any LA ll cl _ (L0_81).reads (by omega) (fun y hy => by have := allB_iff.1 Kll.out.1.2.2.2 y hy; omega)).mono ?_
  rw [sll.out]
  rintro e w' ⟨rfl, rfl⟩
  go_wp2_with fail
  refine (i_valu (p * p * p) p _).mono ?_
  rw [valu_cube HP.out]
  rintro e w82 ⟨rfl, hb82⟩
  have T82 := b_step T81 hb82
  have sz82 := hb82.size
  have RC_82 := RC_81.below (hb82.mono (by omega))
  have L0_82 := L0_81.keep hb82
  clear hb82 RC_81 L0_81
  go_wp2_with fail
  refine (i_valu 0 p _).mono ?_
  rw [valu_zero]
  rintro e w83 ⟨rfl, hb83⟩
  have T83 := b_step T82 hb83
  have sz83 := hb83.size
  have RC_83 := RC_82.below (hb83.mono (by omega))
  have L0_83 := L0_82.keep hb83
  clear hb83 RC_82 L0_82
  go_wp2
  go_ret
  exact ⟨rfl, T83⟩
set_option maxRecDepth 100000 in
theorem law_pad (w : World) (A : Option Addr) (zs : List Int) (cz : Nat) (RC : RY w w.heap.size A zs) (_ : ∀ n ∈ zs, (Lit.int .u8 n).wf = true) :
    Calls Try.prog 5 #[.slice A zs.length cz] w fun e w' => e = .returned (.bool true) ∧ Below w.heap.size w w' := by
  by_cases hl : zs.length ≤ 1048576
  · exact law_pad0 A zs cz w RC hl
  · go_enter Try.func5, Try.ntmps5
    go_wp2
    go_ret
    exact ⟨rfl, Below.refl _ _⟩
end Go.Proofs.Ytjdfpodmjpkfpaa
