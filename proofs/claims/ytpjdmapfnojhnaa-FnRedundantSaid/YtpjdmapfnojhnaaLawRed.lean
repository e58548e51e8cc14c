/- The walk of FnRedundant. Conditions: code of at most 2^20 bytes. -/
import Derived.Test.YtpjdmapfnojhnaaDrawD
namespace Go.Proofs.Ytpjdmapfnojhnaa
open Go.RowKit
set_option linter.unusedVariables false
set_option maxRecDepth 100000 in
set_option maxHeartbeats 2000000 in
theorem law_red0 (A : Option Addr) (zs : List Int) (cz : Nat) (w : World) (RC : RY w w.heap.size A zs) (hl : zs.length ≤ 1048576) :
    Calls Try.prog 11 #[.slice A zs.length cz] w fun e w' => e = .returned (.bool true) ∧ Below w.heap.size w w' := by
  have T0 : Below w.heap.size w w := Below.refl _ _
  go_enter Try.func11, Try.ntmps11
  go_wp2_with fail
  refine (num_any A zs cz 0 _ (RC.more (by omega)) hl (by omega)).mono ?_
  rintro e w1 ⟨n0, rfl, n00, n01, hb1⟩
  have T1 := b_step T0 hb1
  have sz1 := hb1.size
  have RC_1 := RC.below (hb1.mono (by omega))
  clear hb1
  go_wp2_with fail
  generalize hb : 3 + n0 % 14 = b
  have b1 : 3 ≤ b := by omega
  have b2 : b ≤ 16 := by omega
  clear hb
  refine (makeRed_any A zs cz 2 b _ (RC_1.more (by omega)) hl (by omega) b1 b2).mono ?_
  rintro e w2 ⟨xs, X, cx, rfl, hPx, hO, hb2⟩
  have T2 := b_step T1 hb2
  have sz2 := hb2.size
  have RC_2 := RC_1.below (hb2.mono (by omega))
  clear hb2 RC_1
  have X0_2 := hO
  clear hO
  go_wp2_with fail
  refine (makeRed_any A zs cz 14 b _ (RC_2.more (by omega)) hl (by omega) b1 b2).mono ?_
  rintro e w3 ⟨ys, Y, cy, rfl, hPy, hO, hb3⟩
  have T3 := b_step T2 hb3
  have sz3 := hb3.size
  have RC_3 := RC_2.below (hb3.mono (by omega))
  have X0_3 := X0_2.keep hb3
  clear hb3 RC_2 X0_2
  have Y0_3 := hO
  clear hO
  have lx := hPx.1
  have ly := hPy.1
  have px : Hid (RedP b xs) := ⟨b1, b2, by omega, allB_iff.2 hPx.2⟩
  have py : Hid (RedP b ys) := ⟨b1, b2, by omega, allB_iff.2 hPy.2⟩
  clear hPx hPy
  obtain ⟨ss, hss⟩ : ∃ ss, ss = addL b xs ys := ⟨_, rfl⟩
  have ps : Hid (RedP b ss) := by rw [hss]; exact addL_red px.out py.out (by omega) (by omega)
  have vs : Hid (val b ss = val b xs + val b ys) := by rw [hss]; exact val_addL b xs ys
  have hls := addL_len b xs ys
  rw [← hss] at hls
  unfold big at hls
  obtain ⟨hls1, hls2⟩ := hls
  have Hss := Lib.hid hss
  clear hss
  have kr : Hid (addR b xs ys = ss ∧ addOk b xs ys = true) := by
    have e : addOk b xs ys = true := by unfold addOk; rw [← Hss.out, redB_t px.out, redB_t py.out, redB_t ps.out]; rfl
    exact ⟨by unfold addR; rw [if_pos e, ← Hss.out], e⟩
  obtain ⟨n, hn⟩ : ∃ n, n = val b xs := ⟨_, rfl⟩
  obtain ⟨m, hm⟩ : ∃ m, m = val b ys := ⟨_, rfl⟩
  have bn := val_bd6 (b := b) (by omega) lx px.out.digits
  rw [← hn] at bn
  have bm := val_bd6 (b := b) (by omega) ly py.out.digits
  rw [← hm] at bm
  have n1 : -16777216 ≤ n := by omega
  have n2 : n ≤ 16777216 := by omega
  have m1 : -16777216 ≤ m := by omega
  have m2 : m ≤ 16777216 := by omega
  clear bn bm
  have Hn := Lib.hid hn
  have Hm := Lib.hid hm
  clear hn hm
  go_wp2_with fail
  refine (i_add X Y xs ys cx cy b _ ((X0_3).reads) ((Y0_3).reads) (by omega) (by omega)).mono ?_
  rw [kr.out.1, kr.out.2]
  rintro e w4 ⟨S, cs, rfl, hO, hb4⟩
  have T4 := b_step T3 hb4
  have sz4 := hb4.size
  have RC_4 := RC_3.below (hb4.mono (by omega))
  have X0_4 := X0_3.keep hb4
  have Y0_4 := Y0_3.keep hb4
  clear hb4 RC_3 X0_3 Y0_3
  have S0_4 := hO
  clear hO
  go_wp2_with fail
  refine (i_redVal X xs cx b _ ((X0_4).reads) (by omega)).mono ?_
  rw [redV_t px.out, ← Hn.out]
  rintro e w5 ⟨rfl, hb5⟩
  have T5 := b_step T4 hb5
  have sz5 := hb5.size
  have RC_5 := RC_4.below (hb5.mono (by omega))
  have X0_5 := X0_4.keep hb5
  have Y0_5 := Y0_4.keep hb5
  have S0_5 := S0_4.keep hb5
  clear hb5 RC_4 X0_4 Y0_4 S0_4
  go_wp2_with fail
  refine (i_redVal Y ys cy b _ ((Y0_5).reads) (by omega)).mono ?_
  rw [redV_t py.out, ← Hm.out]
  rintro e w6 ⟨rfl, hb6⟩
  have T6 := b_step T5 hb6
  have sz6 := hb6.size
  have RC_6 := RC_5.below (hb6.mono (by omega))
  have X0_6 := X0_5.keep hb6
  have Y0_6 := Y0_5.keep hb6
  have S0_6 := S0_5.keep hb6
  clear hb6 RC_5 X0_5 Y0_5 S0_5
  go_upto_region 9 with fail
  go_cut [75] (fun s75 wx => s75 = .bool false ∧ Below w6.heap.size w6 wx)
  case first =>
    go_wp2_with fail
    refine (i_redOk X xs cx b _ (X0_6).reads (by omega)).mono ?_
    rw [redB_t px.out]
    rintro e v1 ⟨rfl, gv1⟩
    go_wp2_with fail
    refine (i_redOk S ss cs b _ ((S0_6).keep gv1).reads (by omega)).mono ?_
    rw [redB_t ps.out]
    rintro e v2 ⟨rfl, gv2⟩
    have h2 := b_step gv1 gv2
    go_wp2_with fail
    refine (i_redVal S ss cs b _ ((S0_6).keep h2).reads (by omega)).mono ?_
    rw [redV_t ps.out, vs.out, ← Hn.out, ← Hm.out]
    rintro e v3 ⟨rfl, gv3⟩
    have h3 := b_step h2 gv3
    clear gv1 gv2 gv3 h2
    go_wp2
    all_goals go_meet
    all_goals exact ⟨by first | rfl | (simp; done) | (simp; omega), h3⟩
  case rest =>
  obtain ⟨rfl, hb7⟩ := hcut
  rename World => w7
  have T7 := b_step T6 hb7
  have sz7 := hb7.size
  have RC_7 := RC_6.below (hb7.mono (by omega))
  have X0_7 := X0_6.keep hb7
  have Y0_7 := Y0_6.keep hb7
  have S0_7 := S0_6.keep hb7
  clear hb7 RC_6 X0_6 Y0_6 S0_6
  obtain ⟨pl, hpl⟩ : ∃ pl, pl = decide (0 ≤ n + m) := ⟨_, rfl⟩
  obtain ⟨pp, hpp⟩ : ∃ pp, pp = plR b ss := ⟨_, rfl⟩
  have lpp : pp.length ≤ 4294967296 := by rw [hpp]; exact length_plR b ss
  have kp : Hid (plR b ss = pp ∧ plOk b ss = pl) := ⟨hpp.symm, by unfold plOk; rw [hpl, redB_t ps.out, vs.out, ← Hn.out, ← Hm.out]; rfl⟩
  have kq : Hid (0 ≤ n + m → pp = digs b (n + m) ∧ DigP b pp) := by
    intro h0
    have e : pp = digs b (n + m) := by
      rw [hpp]
      unfold plR
      rw [if_pos (by unfold plOk; rw [redB_t ps.out, vs.out, ← Hn.out, ← Hm.out]; simpa using h0), vs.out, ← Hn.out, ← Hm.out]
    exact ⟨e, by rw [e]; exact digs_ok (by omega) b2 (by omega)⟩
  have Hpl := Lib.hid hpl
  clear hpl hpp
  go_wp2_with fail
  refine (i_plain S ss cs b _ ((S0_7).reads) (by omega)).mono ?_
  rw [kp.out.1, kp.out.2]
  rintro e w8 ⟨Q, cq, rfl, hO, hb8⟩
  have T8 := b_step T7 hb8
  have sz8 := hb8.size
  have RC_8 := RC_7.below (hb8.mono (by omega))
  have X0_8 := X0_7.keep hb8
  have Y0_8 := Y0_7.keep hb8
  have S0_8 := S0_7.keep hb8
  clear hb8 RC_7 X0_7 Y0_7 S0_7
  have Q0_8 := hO
  clear hO
  go_upto_region 12 with fail
  go_cut [106] (fun s106 wx => s106 = .bool false ∧ Below w8.heap.size w8 wx)
  case first =>
    by_cases h0 : 0 ≤ n + m
    · obtain ⟨eq, dq⟩ := kq.out h0
      have EQ := Lib.hid eq
      have DQ := Lib.hid dq
      have ep : pl = true := by rw [Hpl.out]; simp; exact h0
      subst ep
      clear eq dq
      have h00 : decide ((0 : Int) ≤ n + m) = true := by simp; exact h0
      go_wp2_with fail
      refine (digitsOf_any (n + m) b _ h0 (by omega) (by omega) b2).mono ?_
      rw [← EQ.out]
      rintro e v1 ⟨D, cd, rfl, gO, gv1⟩
      go_wp2_with fail
      refine (same_t Q D pp cq cd _ ((Q0_8).keep gv1).reads gO.reads lpp).mono ?_
      rintro e v2 ⟨rfl, rfl⟩
      go_wp2_with fail
      refine (i_digOk Q pp cq b _ ((Q0_8).keep gv1).reads lpp).mono ?_
      rw [digB_t DQ.out]
      rintro e v3 ⟨rfl, gv3⟩
      go_wp2
      go_meet
      exact ⟨rfl, b_step gv1 gv3⟩
    · have ep : pl = false := by rw [Hpl.out]; simp; omega
      subst ep
      have h00 : decide ((0 : Int) ≤ n + m) = false := by simp; omega
      go_wp2
      go_meet
      exact ⟨rfl, Below.refl _ _⟩
  case rest =>
  obtain ⟨rfl, hb9⟩ := hcut
  rename World => w9
  have T9 := b_step T8 hb9
  have sz9 := hb9.size
  have RC_9 := RC_8.below (hb9.mono (by omega))
  have X0_9 := X0_8.keep hb9
  have Y0_9 := Y0_8.keep hb9
  have S0_9 := S0_8.keep hb9
  have Q0_9 := Q0_8.keep hb9
  clear hb9 RC_8 X0_8 Y0_8 S0_8 Q0_8
  clear Q0_9
  by_cases hx0 : xs = []
  · subst hx0
    have hn : n = 0 := Hn.out
    subst hn
    go_wp2
    go_ret
    exact ⟨rfl, T9⟩
  have hx1 : 0 < xs.length := List.length_pos_iff.2 hx0
  have XR_9 := X0_9.reads
  have YR_9 := Y0_9.reads
  clear Y0_9
  have SR_9 := S0_9.reads
  clear S0_9
  obtain ⟨i0, hi, hz0, hz1, hz2⟩ := info_parts info_int
  have hx00 : ((xs.length : Int) == 0) = false := by rw [beq_eq_false_iff_ne]; omega
  obtain ⟨bx, ox, rfl, hbx, hcx⟩ : ∃ bx ox, X = some ⟨bx, ox, none⟩ ∧ bx < w9.heap.size ∧ ∀ j, j < xs.length → w9.cell? ⟨bx, ox + j, none⟩ = some (.int .i64 (xs.getD j 0)) := by
    rcases XR_9 with h | h
    · exact absurd h hx0
    · exact h
  have HN := Lib.hid (news_of hbx hcx)
  clear hcx XR_9 X0_9
  go_wp2_with (at_builtin; refine wpList_append_own_at _ rfl _ _ 25 rfl w9.heap.size 3 i0 (.int .i64 0) 1 8 Try.underlying25 hi hz0 hz1 hz2 rfl (by decide) _ _ _ rfl (Row.made w9) ⟨bx, ox, none⟩ xs.length cx (xs.map (Value.int .i64)) rfl (by simp) (HN.out _ (Below.heap_alloc _ _ _ hbx)) ?c1 ?c2 ?c3 ?c4 ?_)
  case c1 => intro u hu; rw [List.mem_map] at hu; obtain ⟨a, _, rfl⟩ := hu; rfl
  case c2 => simp [maxLen]; omega
  case c3 => simp; omega
  case c4 => simp
  intro v1 w10 hown1 hgrow1 _ hat1
  have hrow : Row w10 w9.heap.size v1 xs := by
    unfold Row
    have e : (0 + xs.length) = xs.length := by omega
    simpa [e] using hown1
  have hb10 : Below w9.heap.size w9 w10 := (b_alloc (Below.refl _ _) _).grown hgrow1 (by simp) (fun j hj => by simp [Value.ownBlock] at hj; omega)
  clear hown1 hgrow1 hat1
  have T10 := b_step T9 hb10
  have sz10 := hb10.size
  have RC_10 := RC_9.below (hb10.mono (by omega))
  have YR_10 := YR_9.below (hb10.mono (by omega))
  have SR_10 := SR_9.below (hb10.mono (by omega))
  clear hb10 RC_9 YR_9 SR_9
  obtain ⟨Z, c1, rfl⟩ := hrow.shape
  have hOZ := (OI.of_own hrow).2
  obtain ⟨gz, oz, cz1, rfl, hgz, hBI, hF⟩ : ∃ g off cs, Z = some ⟨g, off, none⟩ ∧ w9.heap.size ≤ g ∧ BI w10 g cs ∧ Fill cs off xs.length xs := by
    rcases hOZ with h | h
    · exact absurd h hx0
    · exact h
  clear hrow
  obtain ⟨q, hq⟩ : ∃ q, xs.length = q + 1 := ⟨xs.length - 1, by omega⟩
  have dz : w10.cell? ⟨gz, oz + q, none⟩ = some (.int .i64 (xs.getD q 0)) := by rw [hBI.cell]; exact hF q (by omega)
  have fz := hBI.frozen (oz + q)
  have eq1 : IntKind.i64.wrap ((xs.length : Int) - 1) = (q : Int) := by rw [IntKind.wrap_i64]; omega
  have eq2 : (xs.length : Int) - 1 = (q : Int) := by omega
  have q0 : (0 : Int) ≤ (q : Int) := by omega
  have q1 : (q : Int) < (xs.length : Int) := by omega
  have hgl := hBI.lt
  have HBI := Lib.hid hBI
  have HF := Lib.hid hF
  have HQ := Lib.hid hq
  clear hBI hF hq
  obtain ⟨w11, hw11⟩ : ∃ W, W = (w10.setCell ⟨gz, oz + q, none⟩ (.int .i64 0)) := ⟨_, rfl⟩
  have Z0_11 : OI w11 w9.heap.size (some ⟨gz, oz, none⟩) (zap xs) := by
    rw [hw11]
    exact zap_own hgz HBI.out HF.out HQ.out
  have T11 : Below w.heap.size w w11 := by rw [hw11]; exact b_set T10 (by simp; omega) _
  have sz11 : w10.heap.size ≤ w11.heap.size := by rw [hw11]; simp [World.setCell]
  have hoz : Oth w10 w11 (some ⟨gz, oz + q, none⟩) := by rw [hw11]; exact Oth.set (Oth.refl _ _) rfl _
  have RC_11 := RC_10.keep fun p hp => World.cell?_of_block (hoz.2.2.2.2 p.block (by omega) (fun a ha => by injection ha with ha; subst ha; simp; omega))
  have YR_11 := YR_10.keep fun p hp => World.cell?_of_block (hoz.2.2.2.2 p.block (by omega) (fun a ha => by injection ha with ha; subst ha; simp; omega))
  have SR_11 := SR_10.keep fun p hp => World.cell?_of_block (hoz.2.2.2.2 p.block (by omega) (fun a ha => by injection ha with ha; subst ha; simp; omega))
  clear RC_10 YR_10 SR_10
  go_wp2_with fail
  rw [← hw11]
  clear hw11 dz fz hoz
  have pz := Lib.hid (zap_red px.out)
  have lz : (zap xs).length ≤ 6 := by rw [length_zap]; exact lx
  have kz : Hid (addR b (zap xs) ys = addL b (zap xs) ys ∧ addOk b (zap xs) ys = true) := by
    have e : addOk b (zap xs) ys = true := by unfold addOk; rw [redB_t pz.out, redB_t py.out, redB_t (addL_red pz.out py.out (by omega) (by omega))]; rfl
    exact ⟨by unfold addR; rw [if_pos e], e⟩
  obtain ⟨ts, hts⟩ : ∃ ts, ts = addL b (zap xs) ys := ⟨_, rfl⟩
  have hlt := (addL_len b (zap xs) ys).1
  have hlt2 := (addL_len b (zap xs) ys).2
  rw [← hts] at hlt hlt2 kz
  unfold big at hlt hlt2
  rw [length_zap] at hlt hlt2
  have HD : Hid (∀ i, i < q → ts.getD i 0 = ss.getD i 0) := by
    intro i hi'
    rw [hts, Hss.out]
    exact zap_digit b xs ys (by rw [HQ.out]; omega)
  clear hts
  have elz : Hid ((zap xs).length = xs.length) := length_zap xs
  have hcz := i_add (some ⟨gz, oz, none⟩) Y (zap xs) ys c1 cy b w11 (Z0_11).reads (YR_11.more (by omega)) (by omega) (by omega)
  rw [elz.out] at hcz
  skip
  refine (hcz).mono ?_
  rw [kz.out.1, kz.out.2]
  rintro e w12 ⟨U, cu, rfl, hO, hb12⟩
  have T12 := b_step T11 hb12
  have sz12 := hb12.size
  have RC_12 := RC_11.below (hb12.mono (by omega))
  have YR_12 := YR_11.below (hb12.mono (by omega))
  have SR_12 := SR_11.below (hb12.mono (by omega))
  have Z0_12 := Z0_11.keep hb12
  clear hb12 RC_11 YR_11 SR_11 Z0_11
  clear hcz
  have U0_12 := hO
  clear hO
  obtain ⟨bs, os, rfl, hbs, hcs⟩ : ∃ bs os, S = some ⟨bs, os, none⟩ ∧ bs < w9.heap.size ∧ ∀ j, j < ss.length → w12.cell? ⟨bs, os + j, none⟩ = some (.int .i64 (ss.getD j 0)) := by
    rcases SR_12 with h | h
    · exfalso; have hq1 := HQ.out; have hh := congrArg List.length h; rw [List.length_nil] at hh; omega
    · exact h
  obtain ⟨bu, ou, rfl, hbu, hcu⟩ : ∃ bs os, U = some ⟨bs, os, none⟩ ∧ bs < w12.heap.size ∧ ∀ j, j < ts.length → w12.cell? ⟨bs, os + j, none⟩ = some (.int .i64 (ts.getD j 0)) := by
    rcases U0_12.reads with h | h
    · exfalso; have hq1 := HQ.out; have hh := congrArg List.length h; rw [List.length_nil] at hh; omega
    · exact h
  have hq1 := HQ.out
  have ls : q < ss.length := by omega
  have lt : q < ts.length := by omega
  clear hq1
  have HT := Lib.hid T12
  have HCS := Lib.hid hcs
  have HCU := Lib.hid hcu
  have wbs : bs < w12.heap.size := by omega
  have lq := HQ.out
  rw [lq] at lx
  clear hcs hcu T12 U0_12 RC_12 YR_12 Z0_12 SR_12 hls1 hls2 hlt hlt2
  go_wp2
  clear lq
  go_loopw [15] (fun i wr => ∃ k : Nat, k ≤ q ∧ i = .int .i64 k ∧ Hid (Below w12.heap.size w12 wr)) (fun i _ => q - (intOf i).toNat)
  case atStart => exact ⟨0, by omega, rfl, Below.refl _ _⟩
  case round =>
    obtain ⟨k, hk, rfl, hB⟩ := hrel
    by_cases hlt : k < q
    · have c1 := (hB.out.cell (p := ⟨bs, os + k, none⟩) wbs).trans (HCS.out k (by omega))
      have c2 := (hB.out.cell (p := ⟨bu, ou + k, none⟩) hbu).trans (HCU.out k (by omega))
      rw [HD.out k hlt] at c2
      have d1 : decide (ss.length ≤ k) = false := by simp; omega
      have d2 : decide (ts.length ≤ k) = false := by simp; omega
      have e0 : (0 : Int) ≤ (k : Int) := by omega
      have e1 : (k : Int) < (ss.length : Int) := by omega
      have e2 : (k : Int) < (ts.length : Int) := by omega
      have e3 : ¬ ((ss.length : Int) ≤ (k : Int)) := by omega
      have e4 : ¬ ((ts.length : Int) ≤ (k : Int)) := by omega
      go_wp2
      go_quiet (fail)
      go_wp2
      go_roundw
      case rel => exact ⟨k + 1, by omega, by go_num, b_drewN hB.out _⟩
      case measure => simp [intOf]; omega
    · have hlq := HQ.out
      have hge : ¬ ((k : Int) < (xs.length : Int) - 1) := by omega
      clear hlq
      go_wp2
      go_ret
      exact ⟨rfl, HT.out.trans (hB.out.mono HT.out.size)⟩
theorem law_red (w : World) (A : Option Addr) (zs : List Int) (cz : Nat) (RC : RY w w.heap.size A zs) (_ : ∀ n ∈ zs, (Lit.int .u8 n).wf = true) :
    Calls Try.prog 11 #[.slice A zs.length cz] w fun e w' => e = .returned (.bool true) ∧ Below w.heap.size w w' := by
  by_cases hl : zs.length ≤ 1048576
  · exact law_red0 A zs cz w RC hl
  · go_enter Try.func11, Try.ntmps11
    go_wp2
    go_ret
    exact ⟨rfl, Below.refl _ _⟩
end Go.Proofs.Ytpjdmapfnojhnaa
