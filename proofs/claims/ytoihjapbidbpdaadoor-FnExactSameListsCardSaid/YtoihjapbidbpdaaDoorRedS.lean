/- The contract of spec.ReduceMachine. Conditions: a machine that fits. -/
import Derived.Test.YtoihjapbidbpdaaDoorBfW
import Derived.Test.YtoihjapbidbpdaaDoorClsS
import Derived.Test.YtoihjapbidbpdaaDoorMOk
import Derived.Deep.QuietTactic
import Derived.BigQuiet
import Derived.BigRegion
import Derived.Outline
import Derived.IntWalk
namespace Go.Proofs.YtoihjapbidbpdaaDoor
open Go.RowKit
set_option linter.unusedVariables false
theorem Row.one (w : World) (B x : Nat) (hB : B ≤ w.heap.size) : Row (w.alloc (.cells #[.int .i64 (x : Int)] 3)) B (.slice (some ⟨w.heap.size, 0, none⟩) 1 1) (il [x]) :=
  ⟨rfl, .inr ⟨w.heap.size, 1, #[.int .i64 (x : Int)], rfl, hB, heap_alloc_new w _, Nat.le_refl _, by decide, rfl, rfl⟩⟩
theorem dis_num {a b n m c d : Nat} (h : a ≠ b) : Dis (.slice (some ⟨a, 0, none⟩) n c) (.slice (some ⟨b, 0, none⟩) m d) := by
  intro k h1 h2
  simp [Value.ownBlock] at h1 h2
  omega
theorem dis_nil (v : Value) : Dis v (.slice none 0 0) := by
  intro k _ h2
  simp [Value.ownBlock] at h2
theorem BS.start (wc : World) (bb c0 : Nat) : BS wc (((wc.alloc (.cells #[.int .i64 0] 3)).alloc (.cells #[.int .i64 (c0 : Int)] 3)).alloc (.cells #[.int .i64 (bb : Int), .slice none 0 0, .slice none 0 0] 28)) (wc.heap.size + 1 + 1) (bb : Int) (.slice none 0 0) (.slice none 0 0)
    (.slice (some ⟨wc.heap.size, 0, none⟩) 1 1) (.slice (some ⟨wc.heap.size + 1, 0, none⟩) 1 1) [0] [c0] [] [] := by
  have a1 := Row.one wc wc.heap.size 0 (Nat.le_refl _)
  have a2 := Row.one (wc.alloc (.cells #[.int .i64 0] 3)) wc.heap.size c0 (by simp)
  have m := BM.new ((wc.alloc (.cells #[.int .i64 0] 3)).alloc (.cells #[.int .i64 (c0 : Int)] 3)) (bb : Int) (.slice none 0 0) (.slice none 0 0)
  simp only [World.size_alloc] at a2 m
  exact ⟨(a1.below (b_alloc (Below.refl _ _) _)).below (b_alloc (Below.refl _ _) _), a2.below (b_alloc (Below.refl _ _) _), Row.nil _ _, World.ownsRow_nil _ _ _ _, dis_num (by omega), dis_nil _, dis_nil _, m, by omega, b_alloc (b_alloc (b_alloc (Below.refl _ _) _) _) _⟩
theorem hat1 {wr : World} {v1 v : Value} (hat : v1.ownBlock = v.ownBlock ∨ v1.ownBlock = some (wr.heap.size + 1)) : v1.ownBlock = v.ownBlock ∨ ∃ k, v1.ownBlock = some k ∧ wr.heap.size ≤ k :=
  hat.imp id fun e => ⟨_, e, Nat.le_succ _⟩
/-- A number's class. -/
def cm (cl : List Nat) (T : List Nat) : List Nat := T.map fun s => cl.getD s 0
theorem cm_app (cl T : List Nat) (s : Nat) : cm cl (T ++ [s]) = cm cl T ++ [cl.getD s 0] := by simp [cm]
theorem len_cm (cl T : List Nat) : (cm cl T).length = T.length := by simp [cm]
/-- What the search among the classes has found when x of them have been looked at. -/
def Srch (L : List Nat) (c x : Nat) (k : Int) : Prop := (k = -1 ∧ ∀ u, u < x → L.getD u 0 ≠ c) ∨ ∃ u, u < x ∧ k = (u : Int) ∧ L.getD u 0 = c
theorem Srch.hit {L : List Nat} {c x : Nat} {k : Int} (h : Srch L c x k) (e : L.getD x 0 = c) : Srch L c (x + 1) (x : Int) := .inr ⟨x, by omega, rfl, e⟩
theorem Srch.miss {L : List Nat} {c x : Nat} {k : Int} (h : Srch L c x k) (e : L.getD x 0 ≠ c) : Srch L c (x + 1) k := by
  rcases h with ⟨h1, h2⟩ | ⟨u, h1, h2, h3⟩
  · exact .inl ⟨h1, fun u hu => by
      by_cases e2 : u = x
      · subst e2; exact e
      · exact h2 u (by omega)⟩
  · exact .inr ⟨u, by omega, h2, h3⟩
/-- The final marks of the first i states reached. -/
def fin (ys : List Bool) (T : List Nat) (i : Nat) : List Bool := (T.take i).map fun s => ys.getD s false
/-- Where the making of the reduced machine stands. -/
def BO (xs : List Int) (bb n : Nat) (cl : List Nat) (i : Nat) : Prop := i ≤ n ∧ (∀ q, q < i → q < (bou xs bb cl q).1.length) ∧ redI xs bb n cl = bend xs bb cl (n + 1 - i) i
theorem BO.start (xs : List Int) (bb n : Nat) (cl : List Nat) : BO xs bb n cl 0 := ⟨Nat.zero_le _, fun q hq => by omega, rfl⟩
theorem BO.next {xs : List Int} {bb n : Nat} {cl : List Nat} {i : Nat} (h : BO xs bb n cl i) (hi : i < (bou xs bb cl i).1.length) (hn : i < n) : BO xs bb n cl (i + 1) := by
  obtain ⟨a, b, c⟩ := h
  refine ⟨hn, fun q hq => ?_, ?_⟩
  · by_cases e : q = i
    · subst e; exact hi
    · exact b q (by omega)
  · rw [c, show n + 1 - i = (n + 1 - (i + 1)) + 1 by omega, bend_go hi]
theorem bin_pre {xs : List Int} {bb : Nat} {cl : List Nat} {i : Nat} {P : List Nat × List Nat} : ∀ d, ∃ R, (bin xs bb cl i P d).1 = P.1 ++ R
  | 0 => ⟨[], by simp [bin]⟩
  | d + 1 => by
    obtain ⟨R, e⟩ := bin_pre (xs := xs) (bb := bb) (cl := cl) (i := i) (P := P) d
    rw [bin]
    by_cases hm : cl.getD (nxt xs bb ((bin xs bb cl i P d).1.getD i 0) d) 0 ∈ (bin xs bb cl i P d).1.map (fun s => cl.getD s 0)
    · rw [bst_old hm]; exact ⟨R, e⟩
    · rw [bst_new hm]; exact ⟨R ++ [_], by dsimp only; rw [e, List.append_assoc]⟩
theorem fin_next {ys : List Bool} {xs : List Int} {bb : Nat} {cl : List Nat} {P : List Nat × List Nat} {i : Nat} (h : i < P.1.length) (d : Nat) : fin ys (bin xs bb cl i P d).1 (i + 1) = fin ys P.1 i ++ [ys.getD ((bin xs bb cl i P d).1.getD i 0) false] := by
  obtain ⟨R, e⟩ := bin_pre (xs := xs) (bb := bb) (cl := cl) (i := i) (P := P) d
  have hl : i < (P.1 ++ R).length := by rw [List.length_append]; omega
  unfold fin
  rw [e, List.take_succ_eq_append_getElem hl, List.map_append, List.take_append_of_le_length (by omega)]
  congr 1
  rw [List.getD_eq_getElem?_getD (l := P.1 ++ R), List.getElem?_eq_getElem hl]; rfl
theorem not_mem_cm {cl T : List Nat} {c : Nat} (h : ∀ u, u < T.length → (cm cl T).getD u 0 ≠ c) : ¬ c ∈ T.map (fun s => cl.getD s 0) := by
  intro hm
  obtain ⟨u, hu, e⟩ := List.mem_iff_getElem.1 hm
  refine h u (by simpa using hu) ?_
  unfold cm
  rw [List.getD_eq_getElem?_getD, List.getElem?_eq_getElem hu]; exact e
set_option maxRecDepth 100000 in
set_option maxHeartbeats 40000000 in
theorem s_reduce_t (bb n : Nat) (N F : Option Addr) (xs : List Int) (ys : List Bool) (c d : Nat) (w : World) (hM : MC xs bb n) (hn : ys.length = n) (hmk : mok ((bb : Nat) : Int) xs n = true) (hN : RI w w.heap.size N xs) (hF : RB w w.heap.size F ys) :
    Calls Tryd.prog 10 #[.agg #[.int .i64 (bb : Nat), .slice N xs.length c, .slice F n d]] w (RetM w (bb : Nat) (il (redN xs bb n (stpK xs bb n (cl0 ys) n))) (redF xs bb n (stpK xs bb n (cl0 ys) n) ys) true) := by
  obtain ⟨i0, hi, hz0, hz1, hz2⟩ := info_parts info_int
  obtain ⟨k0, ki, kz0, kz1, kz2⟩ := info_parts info_bool
  have hn1 := hM.n1
  have hn2 := hM.n144
  have hbb := hM.b10
  have hxl := hM.le
  have HM := Lib.hid hM
  have HY := Lib.hid hn
  have HNN0 := Lib.hid hN
  have HFF := Lib.hid hF
  have HMK := Lib.hid hmk
  have M0 := BM.new w (bb : Nat) (.slice N xs.length c) (.slice F n d)
  have M1 := M0.below (b_alloc (Below.refl _ _) (.cells #[.int .i64 0, .slice none 0 0, .slice none 0 0] 28)) (by rw [World.size_alloc]; omega)
  have R1 := BM.new (w.alloc (.cells #[.int .i64 (bb : Nat), .slice N xs.length c, .slice F n d] 28)) 0 (.slice none 0 0) (.slice none 0 0)
  rw [World.size_alloc] at R1
  have m0 := M1.cell0
  have m1 := M1.cell1
  have m2 := M1.cell2
  have HB0 := Lib.hid (b_alloc (b_alloc (Below.refl w.heap.size w) (.cells #[.int .i64 (bb : Nat), .slice N xs.length c, .slice F n d] 28)) (.cells #[.int .i64 0, .slice none 0 0, .slice none 0 0] 28))
  have HM1 := Lib.hid M1
  have HR1 := Lib.hid R1
  clear hM hn hN hF M0 M1 R1 hmk
  go_enter Tryd.func10, Tryd.ntmps10
  go_wp2_with fail
  refine (spec_mok (bb : Nat) N F xs n c d _ ((HNN0.out.below HB0.out).more HB0.out.size) (by omega) (by omega)).mono ?_
  rintro e w1 ⟨rfl, hb1⟩
  rw [HMK.out]
  have HB1 := Lib.hid (b_step HB0.out hb1)
  have M2 := HM1.out.below hb1 HM1.out.lt
  have R2 := HR1.out.below hb1 HR1.out.lt
  have HM2 := Lib.hid M2
  have HR2 := Lib.hid R2
  clear m0 m1 m2 hb1 HM1 HR1
  have m0 := M2.cell0
  have m1 := M2.cell1
  have m2 := M2.cell2
  clear M2 R2
  go_wp2_with fail
  refine (s_classes bb n N F xs ys c d _ HM.out HY.out ((HNN0.out.below HB1.out).more HB1.out.size) ((HFF.out.below HB1.out).more HB1.out.size)).mono ?_
  rintro e wc ⟨A4, c4, rfl, hO4, hb2⟩
  obtain ⟨cl, hcl⟩ : ∃ cl, stpK xs bb n (cl0 ys) n = cl := ⟨_, rfl⟩
  have hclt : ∀ s, s < n → cl.getD s 0 < n := fun s hs => by
    rw [← hcl]
    obtain ⟨n', rfl⟩ : ∃ n', n = n' + 1 := ⟨n - 1, by omega⟩
    exact stp_lt _ _ _ _ s hs
  have lcl : cl.length = n := by rw [← hcl]; exact len_stpK xs bb n _ (by rw [len_cl0, HY.out]) n
  rw [hcl] at hO4 ⊢
  rw [len_il, lcl]
  obtain ⟨b4, o4, rfl, h4b, h4c⟩ := hO4.reads.cells (by rw [len_il, lcl]; exact hn1)
  have HC4 := Lib.hid (show ∀ s, s < n → wc.cell? ⟨b4, o4 + s, none⟩ = some (.int .i64 ((cl.getD s 0 : Nat) : Int)) from fun s hs => by rw [h4c s (by rw [len_il, lcl]; exact hs), getD_il])
  have HLT := Lib.hid hclt
  have HB2 := Lib.hid (b_step HB1.out hb2)
  have M3 := HM2.out.below hb2 HM2.out.lt
  have R3 := HR2.out.below hb2 HR2.out.lt
  have HM3 := Lib.hid M3
  have HR3 := Lib.hid R3
  obtain ⟨cc, hcc⟩ : ∃ x, cl.getD 0 0 = x := ⟨_, rfl⟩
  have S0 := BS.start wc bb cc
  have e0 := ((HC4.out 0 hn1))
  rw [hcc, Nat.add_zero] at e0
  have HCC := Lib.hid hcc
  have HCLE := Lib.hid hcl
  have HS0 := Lib.hid S0
  have k0' : (wc.alloc (.cells #[.int .i64 0] 3)).cell? ⟨b4, o4, none⟩ = some (.int .i64 (cc : Int)) := ((b_alloc (Below.refl wc.heap.size wc) _).cell (p := ⟨b4, o4, none⟩) h4b).trans e0
  have k1' : ((wc.alloc (.cells #[.int .i64 0] 3)).alloc (.cells #[.int .i64 (cc : Int)] 3)).cell? ⟨w.heap.size, 0, none⟩ = some (.int .i64 (bb : Nat)) := ((b_alloc (b_alloc (Below.refl wc.heap.size wc) _) _).cell (p := ⟨w.heap.size, 0, none⟩) M3.lt).trans M3.cell0
  have h41 : (0 : Int) < (n : Int) := by omega
  clear m0 m1 m2 hb2 HM2 HR2 hcl hclt lcl hO4 h4c M3 R3 hcc S0 e0
  go_wp2
  clear k0' k1'
  go_loopw [5, 6, 8] (fun v5 v6 i wr => ∃ (ii : Nat) (vN vF : Value), i = .int .i64 ii ∧ BS wc wr (wc.heap.size + 1 + 1) (bb : Nat) vN vF v5 v6 (bou xs bb cl ii).1 (cm cl (bou xs bb cl ii).1) (bou xs bb cl ii).2 (fin ys (bou xs bb cl ii).1 ii) ∧ Hid (BO xs bb n cl ii)) (fun _ _ i _ => n + 1 - (intOf i).toNat)
  case atStart => exact ⟨0, _, _, rfl, by rw [show cm cl (bou xs bb cl 0).1 = [cc] from by rw [← HCC.out]; rfl]; exact HS0.out, BO.start _ _ _ _⟩
  case round =>
    clear HS0
    obtain ⟨ii, vN, vF, rfl, hS, hO⟩ := hrel
    have hbok := BOK.bou (cl := cl) HM.out ii hO.out.2.1
    obtain ⟨P, hP⟩ : ∃ P, bou xs bb cl ii = P := ⟨_, rfl⟩
    have lO := bou_len xs bb cl ii
    have hin := hO.out.1
    rw [hP] at hS hbok lO
    have lP := hbok.len HLT.out
    obtain ⟨A5, c5, e5, _⟩ := hS.r5.sh
    subst e5
    have HP := Lib.hid hP
    have HOK := Lib.hid hbok
    have HLO := Lib.hid lO
    clear hP hbok lO
    by_cases hlt : ii < P.1.length
    · have HS := Lib.hid hS
      clear hS
      go_wp2
      go_loopw [5, 6, 9] (fun a b dd wr2 => ∃ (t : Nat) (vN2 : Value), t ≤ bb ∧ dd = .int .i64 t ∧ BS wc wr2 (wc.heap.size + 1 + 1) (bb : Nat) vN2 vF a b (bin xs bb cl ii P t).1 (cm cl (bin xs bb cl ii P t).1) (bin xs bb cl ii P t).2 (fin ys P.1 ii)) (fun _ _ dd _ => bb - (intOf dd).toNat)
      case atStart => exact ⟨0, vN, Nat.zero_le _, rfl, HS.out⟩
      case round =>
        clear HS
        obtain ⟨t, vN2, ht, rfl, hS⟩ := hrel
        have hbok := HOK.out.bin HM.out hlt t ht
        have hl1 := Nat.lt_of_lt_of_le hlt (bin_len (xs := xs) (bb := bb) (cl := cl) (i := ii) (P := P) t).1
        have lO := (bin_len (xs := xs) (bb := bb) (cl := cl) (i := ii) (P := P) t).2
        have hob : P.2.length ≤ 1440 := by rw [HLO.out]; exact Nat.mul_le_mul (show ii ≤ 144 by omega) hbb
        obtain ⟨Q, hQ⟩ : ∃ Q, bin xs bb cl ii P t = Q := ⟨_, rfl⟩
        rw [hQ] at hS hbok hl1 lO
        have lQ := hbok.len HLT.out
        obtain ⟨A5, c5, e5, _⟩ := hS.r5.sh
        obtain ⟨A6, c6, e6, _⟩ := hS.r6.sh
        rw [len_cm] at e6
        subst e5 e6
        have HQ := Lib.hid hQ
        have HOK2 := Lib.hid hbok
        have lT2 : (il Q.1).length ≤ 144 := il_bd (by omega)
        have lL2 : (il (cm cl Q.1)).length ≤ 144 := il_bd (by rw [len_cm]; omega)
        have lO2 : (il Q.2).length ≤ 1450 := il_bd (by omega)
        clear hQ hbok lO hob
        obtain ⟨s0, hs0⟩ : ∃ s, Q.1.getD ii 0 = s := ⟨_, rfl⟩
        have hs0n : s0 < n := by rw [← hs0]; exact HOK2.out.lt _ (by rw [List.getD_eq_getElem?_getD, List.getElem?_eq_getElem hl1]; exact List.getElem_mem _)
        obtain ⟨b5, o5, hA5, h5b, h5c⟩ := (hS.r5.rd).at_ (k := ii) (by rw [len_il]; exact hl1)
        subst hA5
        rw [getD_il, hs0] at h5c
        have MI := HM3.out.below hS.bc HM3.out.lt
        have m0 := MI.cell0
        have HS0 := Lib.hid hs0
        by_cases hlb : t < bb
        · obtain ⟨v1, v1n⟩ := HM.out.at_ hs0n hlb
          have hi1 := HM.out.lt hs0n hlb
          obtain ⟨bN, oN, hAN, hbN, hcN⟩ := ((HNN0.out.below HB2.out).below (hS.bc.mono HB2.out.size)).at_ hi1
          subst hAN
          have m1 := MI.cell1
          rw [v1] at hcN
          obtain ⟨p, hp⟩ : ∃ p, nxt xs bb s0 t = p := ⟨_, rfl⟩
          rw [hp] at hcN v1n
          have HPP := Lib.hid hp
          obtain ⟨q1, hq1⟩ : ∃ z, s0 * bb = z := ⟨_, rfl⟩
          have f1 : (s0 : Int) * (bb : Int) = (q1 : Int) := by rw [← hq1]; exact (Int.natCast_mul s0 bb).symm
          rw [hq1] at hcN hi1
          have i1 : (q1 : Int) + (t : Int) < (xs.length : Int) := by omega
          have i2 : (ii : Int) < (Q.1.length : Int) := by omega
          have x1 : IntKind.i64.wrap (q1 : Int) = (q1 : Int) := IntWalk.i64_in _ (by omega)
          have x2 : IntKind.i64.wrap ((q1 : Int) + (t : Int)) = (q1 : Int) + (t : Int) := IntWalk.i64_in _ (by omega)
          have j1 : (0 : Int) ≤ (q1 : Int) + (t : Int) := by omega
          have z1 : ((q1 : Int) + (t : Int)).toNat = q1 + t := by omega
          obtain ⟨cp, hcp⟩ : ∃ x, cl.getD p 0 = x := ⟨_, rfl⟩
          have HCP := Lib.hid hcp
          have HS := Lib.hid hS
          clear hp hq1 v1 hcp hs0 hS MI
          go_wp2
          go_quiet (fail)
          clear x1 x2 z1 f1 i1 j1 m0 m1 hcN h5c
          go_wp2
          go_loopw [11, 55] (fun k x wr3 => ∃ (u : Nat) (kk : Int), u ≤ Q.1.length ∧ x = .int .i64 u ∧ k = .int .i64 kk ∧ Hid (Srch (cm cl Q.1) cp u kk) ∧ BS wc wr3 (wc.heap.size + 1 + 1) (bb : Nat) vN2 vF (.slice (some ⟨b5, o5, none⟩) Q.1.length c5) (.slice A6 Q.1.length c6) Q.1 (cm cl Q.1) Q.2 (fin ys P.1 ii)) (fun _ x _ => Q.1.length - (intOf x).toNat)
          case atStart => exact ⟨0, -1, Nat.zero_le _, rfl, rfl, .inl ⟨rfl, fun u hu => by omega⟩, HS.out.call (b_drewN (Below.refl _ _) _)⟩
          case round =>
            clear HS
            obtain ⟨u, kk, hu, rfl, rfl, hK, hS⟩ := hrel
            by_cases hlu : u < Q.1.length
            · obtain ⟨b6, o6, hA6, h6b, h6c⟩ := (hS.r6.rd).at_ (k := u) (by rw [len_il, len_cm]; exact hlu)
              subst hA6
              rw [getD_il] at h6c
              obtain ⟨y, hy⟩ : ∃ y, (cm cl Q.1).getD u 0 = y := ⟨_, rfl⟩
              rw [hy] at h6c
              have c4' := (hS.bc.cell (p := ⟨b4, o4 + p, none⟩) h4b).trans (HC4.out p v1n)
              rw [HCP.out] at c4'
              have p0 : (0 : Int) ≤ (p : Int) := by omega
              have p1 : (p : Int) < (n : Int) := by omega
              have HS := Lib.hid hS
              by_cases hyc : y = cp
              · have hb : ((y : Int) == (cp : Int)) = true := by simp [hyc]
                have HK := Lib.hid (hK.out.hit (by rw [hy]; exact hyc))
                clear hyc hy hK hS
                go_wp2
                go_roundw
                case rel => exact ⟨u + 1, _, by omega, by go_num, rfl, HK.out, HS.out⟩
                case measure => simp [intOf]; omega
              · have hb : ((y : Int) == (cp : Int)) = false := by simp; omega
                have HK := Lib.hid (hK.out.miss (by rw [hy]; exact hyc))
                clear hyc hy hK hS
                go_wp2
                go_roundw
                case rel => exact ⟨u + 1, _, by omega, by go_num, rfl, HK.out, HS.out⟩
                case measure => simp [intOf]; omega
            · obtain rfl : Q.1.length = u := by omega
              have HS := Lib.hid hS
              clear hlu hu
              rcases hK.out with ⟨rfl, hno⟩ | ⟨u', hu', rfl, hyes⟩
              · have HN := Lib.hid (show bin xs bb cl ii P (t + 1) = (Q.1 ++ [p], Q.2 ++ [Q.1.length]) by
                  have hm : ¬ cl.getD (nxt xs bb (Q.1.getD ii 0) t) 0 ∈ Q.1.map (fun s => cl.getD s 0) := by
                    rw [HS0.out, HPP.out, HCP.out]
                    exact not_mem_cm hno
                  rw [bin, HQ.out, bst_new hm, HS0.out, HPP.out])
                have hO := HS.out.r5
                have hsz := HS.out.bc.size
                clear hK hno hS
                go_wp2_with (first | (at_builtin; refine wpList_append_own_at _ rfl _ _ 22 rfl wc.heap.size 3 i0 (.int .i64 0) 1 8 Tryd.underlying22 hi hz0 hz1 hz2 rfl (by decide) _ _ _ rfl (World.ownsRow.alloc hO _) ⟨wr.heap.size, 0, none⟩ 1 1 [.int .i64 (p : Int)] rfl rfl (cell_one_new _ _ _) ?c1_1 ?c1_2 ?c1_3 ?c1_4 ?_))
                case c1_1 => first | rfl | (intro u hu; simp at hu; subst hu; rfl)
                case c1_2 => unfold maxLen; omega
                case c1_3 => omega
                case c1_4 => first | omega | (simp; omega)
                intro v1 w1 ho hg _ hat
                have HS4 := Lib.hid (HS.out.app5 (b_alloc (Below.refl _ _) _) (y := p) ho (by simp) rfl hg (hat1 hat))
                clear ho hg hat hO hsz HS
                have c4' := (HS4.out.bc.cell (p := ⟨b4, o4 + p, none⟩) h4b).trans (HC4.out p v1n)
                rw [HCP.out] at c4'
                have p0 : (0 : Int) ≤ (p : Int) := by omega
                have p1 : (p : Int) < (n : Int) := by omega
                have hO := HS4.out.r6
                have hsz := HS4.out.bc.size
                go_wp2_with (first | (at_builtin; refine wpList_append_own_at _ rfl _ _ 22 rfl wc.heap.size 3 i0 (.int .i64 0) 1 8 Tryd.underlying22 hi hz0 hz1 hz2 rfl (by decide) _ _ _ rfl (World.ownsRow.alloc hO _) ⟨w1.heap.size, 0, none⟩ 1 1 [.int .i64 (cp : Int)] rfl rfl (cell_one_new _ _ _) ?c2_1 ?c2_2 ?c2_3 ?c2_4 ?_))
                case c2_1 => first | rfl | (intro u hu; simp at hu; subst hu; rfl)
                case c2_2 => unfold maxLen; omega
                case c2_3 => omega
                case c2_4 => first | omega | (simp; omega)
                intro v1 w1 ho hg _ hat
                have HS5 := Lib.hid (HS4.out.app6 (b_alloc (Below.refl _ _) _) (y := cp) ho (by simp) rfl hg (hat1 hat))
                clear ho hg hat hO hsz HS4 c4'
                have n1 := HS5.out.mG.cell1
                have hO := HS5.out.rN
                have hsz := HS5.out.bc.size
                go_wp2_with (first | (at_builtin; refine wpList_append_own_at _ rfl _ _ 22 rfl wc.heap.size 3 i0 (.int .i64 0) 1 8 Tryd.underlying22 hi hz0 hz1 hz2 rfl (by decide) _ _ _ rfl (World.ownsRow.alloc hO _) ⟨w1.heap.size, 0, none⟩ 1 1 [.int .i64 (Q.1.length : Int)] rfl rfl (cell_one_new _ _ _) ?c3_1 ?c3_2 ?c3_3 ?c3_4 ?_))
                case c3_1 => first | rfl | (intro u hu; simp at hu; subst hu; rfl)
                case c3_2 => unfold maxLen; omega
                case c3_3 => omega
                case c3_4 => first | omega | (simp; omega)
                intro v1 w1 ho hg _ hat
                obtain ⟨gg, cap, rfl, _, _⟩ := ho.form (by omega)
                have g1 := (HS5.out.mG.below (b_alloc (Below.refl _ _) _) HS5.out.mG.lt).grown hg (HS5.out.mG.neI HS5.out.rN)
                have s1 := g1.cell1
                have s2 := g1.frozen 1
                have HS6 := Lib.hid (HS5.out.appN (b_alloc (Below.refl _ _) _) (y := Q.1.length) ho (by simp) rfl hg (hat1 hat))
                clear ho hg hat hO hsz HS5 g1 n1
                go_wp2
                clear s1 s2
                go_roundw
                case rel => exact ⟨t + 1, _, by omega, by go_num, by rw [HN.out, cm_app, HCP.out]; exact HS6.out⟩
                case measure => simp [intOf]; omega
              · have HN := Lib.hid (show bin xs bb cl ii P (t + 1) = (Q.1, Q.2 ++ [u']) by
                  obtain ⟨hm, hx⟩ := idx_nd HOK2.out.nd (u := u') (c := cp) (by rw [List.length_map]; exact hu') hyes
                  have hm2 : cl.getD (nxt xs bb (Q.1.getD ii 0) t) 0 ∈ Q.1.map (fun s => cl.getD s 0) := by
                    rw [HS0.out, HPP.out, HCP.out]; exact hm
                  rw [bin, HQ.out, bst_old hm2, HS0.out, HPP.out, HCP.out, hx])
                have hk0 : ¬ ((u' : Int) < 0) := by omega
                have n1 := HS.out.mG.cell1
                have hO := HS.out.rN
                have hsz := HS.out.bc.size
                clear hK hyes hS
                go_wp2_with (first | (at_builtin; refine wpList_append_own_at _ rfl _ _ 22 rfl wc.heap.size 3 i0 (.int .i64 0) 1 8 Tryd.underlying22 hi hz0 hz1 hz2 rfl (by decide) _ _ _ rfl (World.ownsRow.alloc hO _) ⟨wr.heap.size, 0, none⟩ 1 1 [.int .i64 (u' : Int)] rfl rfl (cell_one_new _ _ _) ?c4_1 ?c4_2 ?c4_3 ?c4_4 ?_))
                case c4_1 => first | rfl | (intro u hu; simp at hu; subst hu; rfl)
                case c4_2 => unfold maxLen; omega
                case c4_3 => omega
                case c4_4 => first | omega | (simp; omega)
                intro v1 w1 ho hg _ hat
                obtain ⟨gg, cap, rfl, _, _⟩ := ho.form (by omega)
                have g1 := (HS.out.mG.below (b_alloc (Below.refl _ _) _) HS.out.mG.lt).grown hg (HS.out.mG.neI HS.out.rN)
                have s1 := g1.cell1
                have s2 := g1.frozen 1
                have HS6 := Lib.hid (HS.out.appN (b_alloc (Below.refl _ _) _) (y := u') ho (by simp) rfl hg (hat1 hat))
                clear ho hg hat hO hsz HS g1 n1
                go_wp2
                clear s1 s2
                go_roundw
                case rel => exact ⟨t + 1, _, by omega, by go_num, by rw [HN.out]; exact HS6.out⟩
                case measure => simp [intOf]; omega
        · obtain rfl : bb = t := by omega
          obtain ⟨bF, oF, hAF, hbF, hcF⟩ := ((HFF.out.below HB2.out).below (hS.bc.mono HB2.out.size)).at_ (k := s0) (by rw [HY.out]; exact hs0n)
          subst hAF
          obtain ⟨q, hq⟩ : ∃ q, ys.getD s0 false = q := ⟨_, rfl⟩
          rw [hq] at hcF
          have m2 := MI.cell2
          have g2 := hS.mG.cell2
          have i2 : (ii : Int) < (Q.1.length : Int) := by omega
          have i3 : (s0 : Int) < (n : Int) := by omega
          have i4 : (0 : Int) ≤ (s0 : Int) := by omega
          have lF : (fin ys P.1 ii).length ≤ 144 := by unfold fin; rw [List.length_map, List.length_take]; omega
          have ltG := hS.mG.lt
          have ltI := MI.lt
          have lt5 := h5b
          have ltF : bF < wr.heap.size := by have := HB2.out.size; have := hS.bc.size; omega
          have hsz := hS.bc.size
          have HFN := Lib.hid (show fin ys (bou xs bb cl (ii + 1)).1 (ii + 1) = fin ys P.1 ii ++ [q] by
            rw [bou, HP.out, HQ.out]
            have := fin_next (ys := ys) (xs := xs) (bb := bb) (cl := cl) (P := P) (i := ii) hlt bb
            rw [HQ.out, hs0, hq] at this
            exact this)
          have HN := Lib.hid (show bou xs bb cl (ii + 1) = Q by rw [bou, HP.out, HQ.out])
          have HO1 := Lib.hid (hO.out.next (by rw [HP.out]; exact hlt) (by omega))
          clear hq hs0
          go_wp2_with fail
          obtain ⟨gg, cap, wn, hrun, hown1, hgrow, _, _⟩ := run_append_lies (P := Tryd.prog) ((wr.alloc (.cells #[.bool q] 4)).drew) 23 23 wc.heap.size 4 k0 _ 1 1 Tryd.underlying23 ki kz0 kz1 kz2 rfl (by decide) vF _ _ ((World.ownsRow.alloc hS.rF _).drew) ⟨wr.heap.size, 0, none⟩ 1 1 [.bool q] rfl (World.news_of_block (cs := #[.bool q]) (t := 4) (fr := (0, 0)) (heap_alloc_new wr _)) (by simp [Value.oneCell']) (by omega) (by unfold maxLen; omega) (by omega) (by simp; omega) (wr.heap.size + 1) (by simp)
          have W3 := b_drew (b_alloc (Below.refl wr.heap.size wr) (.cells #[.bool q] 4))
          have B1 := (hS.mG.below W3 hS.mG.lt).grown hgrow (hS.mG.neB hS.rF)
          have s1 := B1.cell2
          have s2 := B1.frozen 2
          have HS6 := Lib.hid (hS.appF W3 (q := q) hown1 rfl hgrow)
          clear B1 hown1 hgrow W3 hS MI hO
          simp [go_sem] at hrun
          go_region
          all_goals clear hrun s1 s2 g2 m2 h5c hcF m0
          all_goals (go_wp2_with fail)
          all_goals go_roundw
          all_goals first | (case rel => exact ⟨ii + 1, _, _, by go_num, by rw [HFN.out, HN.out]; exact HS6.out, HO1.out⟩) | skip
          all_goals (simp [intOf]; omega)
    · have hI : redI xs bb n cl = ii := by rw [hO.out.2.2]; exact bend_stop (by rw [HP.out]; exact hlt)
      have hR : redN xs bb n cl = P.2 := by unfold redN; rw [hI, HP.out]
      have hR2 : redF xs bb n cl ys = fin ys P.1 ii := by unfold redF fin; rw [hI, HP.out]
      rw [← HCLE.out] at hR hR2
      have HR := Lib.hid hR
      have HR2 := Lib.hid hR2
      obtain ⟨A1, C1, e1⟩ := hS.rN.shape
      obtain ⟨A2, C2, e2⟩ := hS.rF.shape
      subst e1 e2
      have oi := (OI.of_own hS.rN).2
      have ob := (OB.of_own hS.rF).2
      have g0 := hS.mG.cell0
      have g1 := hS.mG.cell1
      have g2 := hS.mG.cell2
      have RR := HR3.out.below hS.bc HR3.out.lt
      have r0 := RR.cell0
      have r1 := RR.cell1
      have r2 := RR.cell2
      have f0 := fun i => RR.frozen i
      have hlw := HR3.out.lt
      have HW := Lib.hid (HB2.out.trans (hS.bc.mono HB2.out.size))
      have HRR := Lib.hid RR
      have HOI := Lib.hid oi
      have HOB := Lib.hid ob
      clear hI hR hR2 hS oi ob RR hO
      go_wp2_with fail
      have M1 := ((HRR.out.set0 (bb : Nat)).set1 (.slice A1 (il P.2).length C1)).set2 (.slice A2 (fin ys P.1 ii).length C2)
      have f0 := M1.cell0
      have f1 := M1.cell1
      have f2 := M1.cell2
      refine bodyPost_ret (v := .tuple #[.agg #[.int .i64 (bb : Nat), .slice A1 (il P.2).length C1, .slice A2 (fin ys P.1 ii).length C2], .bool true]) (by simp [results, Tryd.results10, go_sem, f0, f1, f2]) rfl ⟨A1, A2, C1, C2, by rw [HR.out, HR2.out], ?_, ?_, ?_⟩
      · rw [HR.out]; exact (((HOI.out.set_ (by simp; omega) _).set_ (by simp; omega) _).set_ (by simp; omega) _).low (by omega)
      · rw [HR2.out]; exact (((HOB.out.set_ (by simp; omega) _).set_ (by simp; omega) _).set_ (by simp; omega) _).low (by omega)
      · exact b_set (b_set (b_set HW.out (by simp) _) (by simp) _) (by simp) _
end Go.Proofs.YtoihjapbidbpdaaDoor
