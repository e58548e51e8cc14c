/- The walk of FnExpansions. Conditions: code of at most 2^20 bytes. -/
import Derived.Test.YtnbhbifcjcfmaaaFxI
import Derived.Test.YtnbhbifcjcfmaaaFxP
import Derived.Test.YtnbhbifcjcfmaaaAppRI
import Derived.Test.YtnbhbifcjcfmaaaExpPre
import Derived.Test.YtnbhbifcjcfmaaaExpPer
import Derived.Test.YtnbhbifcjcfmaaaExpFin
import Derived.Lib.MinMax
namespace Go.Proofs.Ytnbhbifcjcfmaaa
open Go.RowKit
set_option linter.unusedVariables false
theorem base_nat (A : Option Addr) (zs : List Int) (c n : Nat) (w : World) (hR : RY w w.heap.size A zs) (hl : zs.length ≤ 1048576) (hn : n ≤ 1000) : Calls Try.prog 11 #[.slice A zs.length c, .int .i64 n] w fun e w' => ∃ b : Nat, e = .returned (.int .i64 (b : Int)) ∧ 2 ≤ b ∧ b ≤ 16 ∧ Below w.heap.size w w' :=
  (base_any A zs c n w hR hl hn).mono fun e w' ⟨v, he, h1, h2, hb⟩ => ⟨v.toNat, by rw [he, Int.toNat_of_nonneg (by omega)], by omega, by omega, hb⟩
theorem same_n (A C : Option Addr) (xs : List Int) (n c d : Nat) (w : World) (hn : xs.length = n) (_ : xs.length = n) (hR : RI w w.heap.size A xs) (hS : RI w w.heap.size C xs) (hl : xs.length ≤ 4294967296) :
    Calls Try.prog 19 #[.slice A n c, .slice C n d] w fun e w' => e = .returned (.bool true) ∧ w = w' := by subst hn; exact same_t A C xs c d w hR hS hl
set_option maxRecDepth 100000 in
set_option maxHeartbeats 80000000 in
theorem law_fx0 (A : Option Addr) (zs : List Int) (cz : Nat) (w : World) (RC : RY w w.heap.size A zs) (hl : zs.length ≤ 1048576) :
    Calls Try.prog 3 #[.slice A zs.length cz] w fun e w' => e = .returned (.bool true) ∧ Below w.heap.size w w' := by
  have T0 : Below w.heap.size w w := Below.refl _ _
  go_enter Try.func3, Try.ntmps3
  obtain ⟨i0, hi, hz0, hz1, hz2⟩ := info_parts info_int
  go_wp2_with fail
  refine (base_nat A zs cz 0 _ (RC.more (by omega)) hl (by omega)).mono ?_
  rintro e w1 ⟨b, rfl, b1, b2, hb1⟩
  have T1 := b_step T0 hb1
  have sz1 := hb1.size
  have RC_1 := RC.below (hb1.mono (by omega))
  clear hb1
  go_wp2_with fail
  refine (num_any A zs cz 2 _ (RC_1.more (by omega)) hl (by omega)).mono ?_
  rintro e w2 ⟨n1, rfl, n10, n11, hb2⟩
  have T2 := b_step T1 hb2
  have sz2 := hb2.size
  have RC_2 := RC_1.below (hb2.mono (by omega))
  clear hb2 RC_1
  obtain ⟨Q, hQ⟩ : ∃ Q : Nat, 1 + n1 % 60 = (Q : Int) := ⟨(1 + n1 % 60).toNat, by omega⟩
  have q1 : 1 ≤ Q := by omega
  have q2 : Q ≤ 60 := by omega
  have hq0 : ((Q : Int) == 0) = false := by simp; omega
  have hq00 : ¬ ((Q : Int) = 0) := by omega
  go_wp2_with fail
  try simp only [hQ]
  clear hQ n10 n11
  refine (num_any A zs cz 4 _ (RC_2.more (by omega)) hl (by omega)).mono ?_
  rintro e w3 ⟨n2, rfl, n20, n21, hb3⟩
  have T3 := b_step T2 hb3
  have sz3 := hb3.size
  have RC_3 := RC_2.below (hb3.mono (by omega))
  clear hb3 RC_2
  obtain ⟨P, hP⟩ : ∃ P : Nat, n2 % (Q : Int) = (P : Int) := ⟨(n2 % (Q : Int)).toNat, by have := Int.emod_nonneg n2 (b := (Q : Int)) (by omega); omega⟩
  have hPQ : P < Q := by have := Int.emod_lt_of_pos n2 (b := (Q : Int)) (by omega); omega
  obtain ⟨xs, ys, F⟩ : ∃ xs ys, Hid (FX b Q P xs ys) := ⟨_, _, fx_facts b1 b2 q1 q2 hPQ⟩
  obtain ⟨D, hD⟩ : ∃ D, Nat.gcd P Q = D := ⟨_, rfl⟩
  obtain ⟨R, hR0⟩ : ∃ R, Q / D = R := ⟨_, rfl⟩
  obtain ⟨U, hU⟩ : ∃ U, uOf b Q P = U := ⟨_, rfl⟩
  have HU1 : Hid (U = 1 → ys.length = 0) := by rw [← hU]; exact F.out.u1
  have HU2 : Hid (U ≠ 1 → 1 ≤ ys.length ∧ ordN b U 62 (b % U) 1 = ys.length ∧ (U = R → xs.length = 0)) := by rw [← hU, ← hR0, ← hD]; exact F.out.u2
  have HG1 : Hid (Nat.gcd U b ≤ 1) := by rw [← hU]; exact F.out.g1
  have HST : Hid (strip b 7 R = U) := by rw [← hU, ← hR0, ← hD]; rfl
  have hUb : 1 ≤ U ∧ U ≤ 60 := by rw [← hU]; exact F.out.g2
  obtain ⟨U1, U2⟩ := hUb
  clear hU
  have D1 : 1 ≤ D := by rw [← hD]; exact Nat.gcd_pos_of_pos_right _ (by omega)
  have D2 : D ≤ Q := by rw [← hD]; exact Nat.le_of_dvd (by omega) (Nat.gcd_dvd_right _ _)
  have D3 : Hid (P = 0 → D = Q) := by intro e; rw [← hD, e]; exact Nat.gcd_zero_left _
  have D4 : (Q : Int) % (D : Int) = 0 := by rw [← Int.natCast_emod, Nat.mod_eq_zero_of_dvd (by rw [← hD]; exact Nat.gcd_dvd_right P Q)]; rfl
  have D5 : ((D : Int) == 0) = false := by simp; omega
  have D6 : ¬ ((D : Int) = 0) := by omega
  obtain ⟨S, hS0⟩ : ∃ S, P / D = S := ⟨_, rfl⟩
  have hR : (Q : Int) / (D : Int) = (R : Int) := by rw [← hR0]; exact (Int.natCast_ediv _ _).symm
  have hS : (P : Int) / (D : Int) = (S : Int) := by rw [← hS0]; exact (Int.natCast_ediv _ _).symm
  have HFEW : Hid (xs.length + ys.length ≤ 9 → lpB b xs ys = true ∧ feA b xs ys = (S : Int) ∧ feB b xs ys = (R : Int)) := by rw [← hR0, ← hS0, ← hD]; exact F.out.few
  have R1 : 1 ≤ R := by rw [← hR0]; exact Nat.div_pos D2 D1
  have R2 : R ≤ 60 := by rw [← hR0]; exact Nat.le_trans (Nat.div_le_self _ _) q2
  have S2 : S ≤ 60 := by rw [← hS0]; exact Nat.le_trans (Nat.div_le_self _ _) (by omega)
  have HD := Lib.hid hD
  clear hD hR0 hS0
  have l1 : xs.length + ys.length < 62 := F.out.le
  have l2 : (xs.length : Int) + (ys.length : Int) < (Q : Int) := by have := F.out.lt; omega
  have D1i : (1 : Int) ≤ (D : Int) := by omega
  go_wp2_with fail
  try simp only [hP]
  clear hP n20 n21
  refine (i_exp (P : Int) (Q : Int) (b : Int) _).mono ?_
  rw [F.out.pre, F.out.per, F.out.ok]
  rintro e w4 ⟨X, cx, Y, cy, B, rfl, hO1, _, hO2, hB1, hB2, hb4⟩
  have T4 := b_step T3 hb4
  have sz4 := hb4.size
  have RC_4 := RC_3.below (hb4.mono (by omega))
  clear hb4 RC_3
  have X0_4 := hO1
  have Y0_4 := (hO2.more hB1)
  clear hO1 hO2 hB1 hB2
  go_wp2_with fail
  refine (i_Gcd P Q _ (by omega) (by omega)).mono ?_
  rw [HD.out]
  rintro e w5 ⟨rfl, hb5⟩
  have T5 := b_step T4 hb5
  have sz5 := hb5.size
  have RC_5 := RC_4.below (hb5.mono (by omega))
  have X0_5 := X0_4.keep hb5
  have Y0_5 := Y0_4.keep hb5
  clear hb5 RC_4 X0_4 Y0_4
  go_upto_if 45 with fail
  go_cut [9] from 46 to 46 (fun s9 wx => s9 = .int .i64 (D : Int) ∧ Below w5.heap.size w5 wx)
  case first =>
    by_cases hp : P = 0
    · have e := Lib.hid (D3.out hp)
      have hp1 : ((P : Int) == 0) = true := by simp [hp]
      clear hp
      go_wp2
      go_meet
      exact ⟨by rw [e.out], Below.refl _ _⟩
    · have hp1 : ((P : Int) == 0) = false := by simp; omega
      have hp2 : ¬ ((P : Int) = 0) := by omega
      go_wp2
      go_meet
      exact ⟨rfl, Below.refl _ _⟩
  case rest =>
  rename World => w6
  obtain ⟨rfl, hb6⟩ := hcut
  have T6 := b_step T5 hb6
  have sz6 := hb6.size
  have RC_6 := RC_5.below (hb6.mono (by omega))
  have X0_6 := X0_5.keep hb6
  have Y0_6 := Y0_5.keep hb6
  clear hb6 RC_5 X0_5 Y0_5
  go_wp2_with fail
  refine (i_PreLength (P : Int) (Q : Int) (b : Int) _).mono ?_
  rw [F.out.pn]
  rintro e w7 ⟨rfl, hb7⟩
  have T7 := b_step T6 hb7
  have sz7 := hb7.size
  have RC_7 := RC_6.below (hb7.mono (by omega))
  have X0_7 := X0_6.keep hb7
  have Y0_7 := Y0_6.keep hb7
  clear hb7 RC_6 X0_6 Y0_6
  go_wp2_with fail
  refine (i_PeriodLength (P : Int) (Q : Int) (b : Int) _).mono ?_
  rw [F.out.rn]
  rintro e w8 ⟨rfl, hb8⟩
  have T8 := b_step T7 hb8
  have sz8 := hb8.size
  have RC_8 := RC_7.below (hb8.mono (by omega))
  have X0_8 := X0_7.keep hb8
  have Y0_8 := Y0_7.keep hb8
  clear hb8 RC_7 X0_7 Y0_7
  go_wp2_with fail
  refine (i_IsFinite (P : Int) (Q : Int) (b : Int) _).mono ?_
  rw [F.out.rn]
  rintro e w9 ⟨rfl, hb9⟩
  have T9 := b_step T8 hb9
  have sz9 := hb9.size
  have RC_9 := RC_8.below (hb9.mono (by omega))
  have X0_9 := X0_8.keep hb9
  have Y0_9 := Y0_8.keep hb9
  clear hb9 RC_8 X0_8 Y0_8
  go_wp2_with fail
  clear D4 l2 D1i
  refine (i_Gcd R b _ (by omega) (by omega)).mono ?_
  rintro e w10 ⟨rfl, hb10⟩
  have T10 := b_step T9 hb10
  have sz10 := hb10.size
  have RC_10 := RC_9.below (hb10.mono (by omega))
  have X0_10 := X0_9.keep hb10
  have Y0_10 := Y0_9.keep hb10
  clear hb10 RC_9 X0_9 Y0_9
  go_wp2_with fail
  go_loopw [11, 12] (fun u g wr => ∃ (t V : Nat), u = .int .i64 (V : Int) ∧ g = .int .i64 (Nat.gcd V b : Nat) ∧ 1 ≤ V ∧ V ≤ 60 ∧ Hid (strip b t V = U) ∧ Below w10.heap.size w10 wr) (fun u _ _ => (intOf u).toNat)
  case atStart => exact ⟨7, R, rfl, rfl, R1, R2, HST.out, Below.refl _ _⟩
  case round =>
  obtain ⟨t, V, rfl, hgs, v1, v2, hH, hbl⟩ := hrel
  obtain ⟨g, hg⟩ : ∃ g, Nat.gcd V b = g := ⟨_, rfl⟩
  rw [hg] at hgs
  subst hgs
  by_cases hg1 : ¬ g ≤ 1
  · rcases t with _ | t
    · exfalso; have := hH.out; rw [strip_z] at this; rw [this] at hg; exact hg1 (hg ▸ HG1.out)
    have g2 : 2 ≤ g := by omega
    have g3 : g ≤ V := by rw [← hg]; exact Nat.le_of_dvd (by omega) (Nat.gcd_dvd_left _ _)
    have e1 : (V : Int) % (g : Int) = 0 := by rw [← Int.natCast_emod, Nat.mod_eq_zero_of_dvd (by rw [← hg]; exact Nat.gcd_dvd_left V b)]; rfl
    obtain ⟨V2, hV2⟩ : ∃ V2, V / g = V2 := ⟨_, rfl⟩
    have e2 : (V : Int) / (g : Int) = (V2 : Int) := by rw [← hV2]; exact (Int.natCast_ediv _ _).symm
    have v3 : 1 ≤ V2 := by rw [← hV2]; exact Nat.div_pos g3 (by omega)
    have v4 : V2 < V := by rw [← hV2]; exact Nat.div_lt_self (by omega) (by omega)
    have HE : Hid (strip b t V2 = U) := by have := hH.out; rw [strip_go (by rw [hg]; exact hg1), hg, hV2] at this; exact this
    have g4 : ((g : Int) == 0) = false := by simp; omega
    have g5 : ¬ ((g : Int) = 0) := by omega
    have HBL := Lib.hid hbl
    clear hg hV2 hbl hH hg1
    go_wp2_with fail
    refine (i_Gcd V2 b _ (by omega) (by omega)).mono ?_
    rintro e wy ⟨rfl, hby⟩
    have HBY := Lib.hid (b_step HBL.out hby)
    clear hby
    go_wp2_with fail
    go_roundw
    case rel => exact ⟨t, V2, rfl, rfl, v3, by omega, HE.out, HBY.out⟩
    case measure => simp [intOf]; omega
  have e0 : V = U := by have := hH.out; rw [strip_stop (by rw [hg]; omega)] at this; exact this
  subst e0
  have HGV : Hid (Nat.gcd V b ≤ 1) := by rw [hg]; exact Classical.not_not.1 hg1
  have hgt : ¬ ((1 : Int) < (g : Int)) := by have := Classical.not_not.1 hg1; omega
  clear hH hg v1 v2 HST HG1 R1
  skip
  have hb11 := hbl
  clear hbl
  have T11 := b_step T10 hb11
  have sz11 := hb11.size
  have RC_11 := RC_10.below (hb11.mono (by omega))
  have X0_11 := X0_10.keep hb11
  have Y0_11 := Y0_10.keep hb11
  clear hb11 RC_10 X0_10 Y0_10
  go_upto_region 20 with fail
  go_cut [150] from 47 to 150 (fun s150 wx => s150 = .bool false ∧ Below wr.heap.size wr wx)
  case first =>
    by_cases hu : V = 1
    · have hm := HU1.out hu
      have hm1 : ((ys.length : Int) == 0) = true := by simp; exact List.eq_nil_of_length_eq_zero hm
      have hu1 : ((V : Int) == 1) = true := by simp; omega
      have hu3 : ¬ ((1 : Int) < (V : Int)) := by omega
      clear hm hu
      cases hur : ((V : Int) == (R : Int))
      all_goals (go_wp2; go_meet; exact ⟨rfl, Below.refl _ _⟩)
    · obtain ⟨m1, m2, m3⟩ := HU2.out hu
      have hu1 : ((V : Int) == 1) = false := by simp; omega
      have hu2 : ¬ ((V : Int) = 1) := by omega
      have hu3 : (1 : Int) < (V : Int) := by omega
      have hm1 : ((ys.length : Int) == 0) = false := by simp; intro h; rw [h] at m1; simp at m1
      have hm2 : ¬ ((ys.length : Int) = 0) := by omega
      go_wp2_with fail
      refine (i_ord b V ys.length _ b1 b2 (by omega) (by omega) HGV.out m2 m1 (by omega)).mono ?_
      rintro e wy ⟨rfl, hby⟩
      by_cases hur : V = R
      · have hx := m3 hur
        have hx1 : ((xs.length : Int) != 0) = false := by simp; exact List.eq_nil_of_length_eq_zero hx
        have hur1 : ((V : Int) == (R : Int)) = true := by simp; omega
        clear hur hx hu
        go_wp2
        go_meet
        exact ⟨rfl, hby⟩
      · have hur1 : ((V : Int) == (R : Int)) = false := by simp; omega
        clear hur hu
        go_wp2
        go_meet
        exact ⟨rfl, hby⟩
  case rest =>
  rename World => w12
  obtain ⟨rfl, hb12⟩ := hcut
  have T12 := b_step T11 hb12
  have sz12 := hb12.size
  have RC_12 := RC_11.below (hb12.mono (by omega))
  have X0_12 := X0_11.keep hb12
  have Y0_12 := Y0_11.keep hb12
  clear hb12 RC_11 X0_11 Y0_11
  clear HU1 HU2 HGV U1 U2 hgt
  obtain ⟨K, hK⟩ : ∃ K : Nat, min (40 : Int) ((xs.length : Int) + (ys.length : Int)) = (K : Int) := ⟨(min (40 : Int) ((xs.length : Int) + (ys.length : Int))).toNat, by omega⟩
  have K1 : K ≤ 40 := by omega
  have K2 : K ≤ xs.length + ys.length := by omega
  obtain ⟨ds, hds⟩ : ∃ ds, dgl (b : Int) (Q : Int) (P : Int) K = ds := ⟨_, rfl⟩
  have HDS : Hid ((xs ++ ys).take K = ds) := by rw [← hds]; exact (F.out.dig K K2).symm
  have lds : ds.length = K := by rw [← hds]; exact length_dgl _ _ _ _
  have HDG := Lib.hid hds
  clear hds
  go_wp2_with fail
  try simp only [hK]
  clear hK
  refine (i_pdig (P : Int) (Q : Int) (b : Int) K _ (by omega) (by omega) (by omega) (by omega) (by omega) (by omega) K1).mono ?_
  rw [HDG.out]
  rintro e w13 ⟨v0, rfl, hO, hb13⟩
  have T13 := b_step T12 hb13
  have sz13 := hb13.size
  have RC_13 := RC_12.below (hb13.mono (by omega))
  have X0_13 := X0_12.keep hb13
  have Y0_13 := Y0_12.keep hb13
  clear hb13 RC_12 X0_12 Y0_12
  obtain ⟨E, ce, hsh, hOI, _⟩ := hO.own
  subst hsh
  clear hO
  have E0_13 := hOI
  clear hOI
  have HO0 := Lib.hid (Row.made w13)
  have HX := Lib.hid ((X0_13.reads).below (b_alloc (Below.refl w13.heap.size w13) (.cells #[] 3)) |>.more (by simp) : RI (w13.alloc (.cells #[] 3)) (w13.alloc (.cells #[] 3)).heap.size X xs)
  have HYW := Lib.hid Y0_13.reads
  have lx : xs.length ≤ 62 := by omega
  have ly : ys.length ≤ 62 := by omega
  go_wp2_with (first | (at_builtin; refine wpList_append_ri _ rfl (.tmp 162) (.tmp 163) 24 rfl w13.heap.size 3 i0 (.int .i64 0) 8 Try.underlying24 hi hz0 hz1 hz2 rfl _ _ _ rfl HO0.out X xs cx rfl HX.out (by simp only [maxLen, List.length_nil]; omega) (by simp only [List.length_nil]; omega) (by simp) ?_; intro v1 wa hown1 hg1 hn1; have HO1 := Lib.hid (Row.cat (l := []) hown1); have HV1 := Lib.hid (show v1 ≠ .slice none 0 0 from fun h => by cases (hn1.1 h).1); have HW1 := Lib.hid ((b_alloc (Below.refl w13.heap.size w13) (.cells #[] 3)).grown hg1 (by simp) (fun k hk => by cases hk; exact Nat.le_refl _)); clear hown1 hg1 hn1; have HY := Lib.hid ((HYW.out.below HW1.out).more HW1.out.size)) | (at_builtin; refine wpList_append_ri _ rfl (.tmp 164) (.tmp 165) 24 rfl w13.heap.size 3 i0 (.int .i64 0) 8 Try.underlying24 hi hz0 hz1 hz2 rfl _ _ _ rfl HO1.out Y ys cy rfl HY.out (by simp only [maxLen, List.nil_append]; omega) (by simp only [List.nil_append]; omega) HW1.out.size ?_; intro v2 wb hown2 hg2 hn2; have HO2 := Lib.hid (Row.cat (l := [] ++ xs) hown2); have HV2 := Lib.hid (show v2 ≠ .slice none 0 0 from fun h => HV1.out (hn2.1 h).1); have HW2 := Lib.hid (HW1.out.grown hg2 HW1.out.size (fun k hk => (World.ownsRow.lt HO1.out k hk).1)); clear hown2 hg2 hn2; obtain ⟨C, cc, hsh, hOI2, _, hc1, hc2, hc0⟩ := HO2.out.own; have HR2 := Lib.hid hOI2.reads; clear hOI2; subst hsh; have hcs : C ≠ none := (fun h => HV2.out (by rw [h, hc0 h]; have := hc1; rw [hc0 h] at this; simp at this; simp [this])); obtain ⟨ac, rfl⟩ := Option.ne_none_iff_exists'.1 hcs; clear hcs hc0; have hKc : K ≤ cc := (by simp at hc1; omega); unfold maxLen at hc2; have hall : ([] ++ xs ++ ys : List Int).length = xs.length + ys.length := (by simp)))
  have HR3 : Hid (RI wb wb.heap.size (some ac) ds) := by have := HR2.out.take K; rw [List.nil_append, HDS.out] at this; exact this
  have hb14 := HW2.out
  have T14 := b_step T13 hb14
  have sz14 := hb14.size
  have RC_14 := RC_13.below (hb14.mono (by omega))
  have X0_14 := X0_13.keep hb14
  have Y0_14 := Y0_13.keep hb14
  have E0_14 := E0_13.keep hb14
  clear hb14 RC_13 X0_13 Y0_13 E0_13
  refine (same_n E (some ac) ds K ce _ _ (by omega) (by omega) (E0_14.reads) HR3.out (by omega)).mono ?_
  rintro e w' ⟨rfl, rfl⟩
  clear E0_14
  clear HO0 HX HYW HO1 HV1 HW1 HY HO2 HV2 HW2 HR2 HR3 HDS HDG lds K2 hKc hall hc1 hc2 K1
  go_wp2_with fail
  refine (i_FromExpansion X Y xs ys cx cy (b : Int) _ (X0_14.reads) (Y0_14.reads) (by omega) (by omega)).mono ?_
  rintro e w15 ⟨rfl, hb15⟩
  have T15 := b_step T14 hb15
  have sz15 := hb15.size
  have RC_15 := RC_14.below (hb15.mono (by omega))
  have X0_15 := X0_14.keep hb15
  have Y0_15 := Y0_14.keep hb15
  clear hb15 RC_14 X0_14 Y0_14
  clear X0_15
  clear Y0_15
  go_upto_region 26 with fail
  go_cut [14, 15, 16, 203] from 171 to 203 (fun s14 s15 s16 s203 wx => s203 = .bool false ∧ Below w15.heap.size w15 wx)
  case first =>
    by_cases h9 : xs.length + ys.length ≤ 9
    · obtain ⟨f1, f2, f3⟩ := HFEW.out h9
      have h91 : (xs.length : Int) + (ys.length : Int) ≤ 9 := by omega
      have e1 : (feA (b : Int) xs ys != (S : Int)) = false := by rw [f2]; simp
      have e2 : (feB (b : Int) xs ys != (R : Int)) = false := by rw [f3]; simp
      clear f2 f3 h9
      go_wp2
      go_meet
      exact ⟨rfl, Below.refl _ _⟩
    · have f1 := F.out.many h9
      have h91 : ¬ ((xs.length : Int) + (ys.length : Int) ≤ 9) := by omega
      go_wp2
      go_meet
      exact ⟨rfl, Below.refl _ _⟩
  case rest =>
  rename World => w16
  obtain ⟨rfl, hb16⟩ := hcut
  have T16 := b_step T15 hb16
  have sz16 := hb16.size
  have RC_16 := RC_15.below (hb16.mono (by omega))
  clear hb16 RC_15
  clear F HFEW HD D1 D2 D3 D5 D6 hR hS q1 q2 hq0 hq00 hPQ l1 lx ly
  go_wp2_with fail
  refine (num_any A zs cz 6 _ ((RC_16.below ((b_alloc (Below.refl _ _) _).mono (by omega))).more (by simp; omega)) hl (by omega)).mono ?_
  rintro e w' ⟨n3, rfl, n30, n31, hb⟩
  have hblk : w'.heap[w16.heap.size]? = some (.cells #[.int .i64 17, .int .i64 19, .int .i64 23, .int .i64 29, .int .i64 31, .int .i64 37, .int .i64 41, .int .i64 43, .int .i64 47, .int .i64 53] 3 (0, 0)) := (hb.block _ (by simp)).trans (heap_alloc_new w16 _)
  have hb17 : Below w16.heap.size w16 w' := (b_alloc (Below.refl _ _) _).trans (hb.mono (by simp))
  clear hb
  obtain ⟨r, hr⟩ : ∃ r : Nat, n3 % 10 = (r : Int) := ⟨(n3 % 10).toNat, by omega⟩
  have r6 : r < 10 := by omega
  obtain ⟨p, hp, hcell⟩ : ∃ p : Nat, PR p ∧ w'.cell? ⟨w16.heap.size, r, none⟩ = some (.int .i64 (p : Int)) := by
    have e := cell_of_row w' w16.heap.size r _ _ (0, 0) hblk
    have h6 : r = 0 ∨ r = 1 ∨ r = 2 ∨ r = 3 ∨ r = 4 ∨ r = 5 ∨ r = 6 ∨ r = 7 ∨ r = 8 ∨ r = 9 := by omega
    rw [e]
    rcases h6 with rfl | rfl | rfl | rfl | rfl | rfl | rfl | rfl | rfl | rfl
    · exact ⟨17, by unfold PR; omega, rfl⟩
    · exact ⟨19, by unfold PR; omega, rfl⟩
    · exact ⟨23, by unfold PR; omega, rfl⟩
    · exact ⟨29, by unfold PR; omega, rfl⟩
    · exact ⟨31, by unfold PR; omega, rfl⟩
    · exact ⟨37, by unfold PR; omega, rfl⟩
    · exact ⟨41, by unfold PR; omega, rfl⟩
    · exact ⟨43, by unfold PR; omega, rfl⟩
    · exact ⟨47, by unfold PR; omega, rfl⟩
    · exact ⟨53, by unfold PR; omega, rfl⟩
  have r0 : (0 : Int) ≤ (r : Int) := by omega
  have r1 : (r : Int) < 10 := by omega
  have hpb : 17 ≤ p ∧ p ≤ 53 := by rcases hp with rfl | rfl | rfl | rfl | rfl | rfl | rfl | rfl | rfl | rfl <;> omega
  obtain ⟨p1, p2⟩ := hpb
  have HPR := Lib.hid hp
  clear hp hblk
  have hp0 : ((p : Int) - 1 == 0) = false := by simp; omega
  have hp00 : ¬ ((p : Int) - 1 = 0) := by omega
  have T17 := b_step T16 hb17
  have sz17 := hb17.size
  have RC_17 := RC_16.below (hb17.mono (by omega))
  clear hb17 RC_16
  go_wp2_with fail
  refine (num_any A zs cz 8 _ (RC_17.more (by omega)) hl (by omega)).mono ?_
  rintro e w18 ⟨n4, rfl, n40, n41, hb18⟩
  have T18 := b_step T17 hb18
  have sz18 := hb18.size
  have RC_18 := RC_17.below (hb18.mono (by omega))
  clear hb18 RC_17
  clear hcell hr r6 r0 r1 n30 n31
  obtain ⟨t, ht⟩ : ∃ t : Nat, 1 + n4 % ((p : Int) - 1) = (t : Int) := ⟨(1 + n4 % ((p : Int) - 1)).toNat, by have := Int.emod_nonneg n4 (b := (p : Int) - 1) (by omega); omega⟩
  have t1 : 1 ≤ t := by have := Int.emod_nonneg n4 (b := (p : Int) - 1) (by omega); omega
  have t2 : t < p := by have := Int.emod_lt_of_pos n4 (b := (p : Int) - 1) (by omega); omega
  obtain ⟨m, G0⟩ := fp_facts b1 b2 HPR.out t1 t2
  have G := Lib.hid G0
  clear G0
  obtain ⟨m1, m2⟩ := G.out.m1
  have m0 : ((m : Int) == 0) = false := by simp; omega
  have m00 : ¬ ((m : Int) = 0) := by omega
  have m3 : (0 : Int) < (m : Int) := by omega
  have m4 : ((p : Int) - 1) % (m : Int) = 0 := by have := G.out.dv; rw [show ((p : Int) - 1) = ((p - 1 : Nat) : Int) by omega, ← Int.natCast_emod, this]; rfl
  go_wp2_with fail
  try simp only [ht]
  clear ht n40 n41
  refine (i_PeriodLength (t : Int) (p : Int) (b : Int) _).mono ?_
  rw [G.out.rn]
  rintro e w19 ⟨rfl, hb19⟩
  have T19 := b_step T18 hb19
  have sz19 := hb19.size
  have RC_19 := RC_18.below (hb19.mono (by omega))
  clear hb19 RC_18
  go_wp2_with fail
  refine (i_PeriodLength 1 (p : Int) (b : Int) _).mono ?_
  rw [G.out.rn1]
  rintro e w20 ⟨rfl, hb20⟩
  have T20 := b_step T19 hb20
  have sz20 := hb20.size
  have RC_20 := RC_19.below (hb20.mono (by omega))
  clear hb20 RC_19
  rcases G.out.hh with h | ⟨h1, h2⟩
  · have hm2 : (m : Int) % 2 = 1 := by omega
    go_wp2
    go_ret
    exact ⟨rfl, T20⟩
  · have hm2 : (m : Int) % 2 = 0 := by omega
    go_wp2_with fail
    refine (i_HasHalves (t : Int) (p : Int) (b : Int) _).mono ?_
    rw [h2]
    rintro e wz ⟨rfl, hbz⟩
    go_wp2
    go_ret
    exact ⟨rfl, b_step T20 hbz⟩
set_option maxRecDepth 100000 in
theorem law_fx (w : World) (A : Option Addr) (zs : List Int) (cz : Nat) (RC : RY w w.heap.size A zs) (_ : ∀ n ∈ zs, (Lit.int .u8 n).wf = true) :
    Calls Try.prog 3 #[.slice A zs.length cz] w fun e w' => e = .returned (.bool true) ∧ Below w.heap.size w w' := by
  by_cases hl : zs.length ≤ 1048576
  · exact law_fx0 A zs cz w RC hl
  · go_enter Try.func3, Try.ntmps3
    go_wp2
    go_ret
    exact ⟨rfl, Below.refl _ _⟩
end Go.Proofs.Ytnbhbifcjcfmaaa
