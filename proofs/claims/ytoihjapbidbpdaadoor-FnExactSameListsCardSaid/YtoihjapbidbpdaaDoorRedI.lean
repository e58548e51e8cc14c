/- The contract of impl.ReduceMachine. Conditions: a machine that fits; internal/strconv.uint64pow10 reads as the text lays it. -/
import Derived.Test.YtoihjapbidbpdaaDoorBfI
import Derived.Deep.RegionHeld3
namespace Go.Proofs.YtoihjapbidbpdaaDoor
open Go.RowKit
set_option linter.unusedVariables false
theorem gen_world {P : Program} {c : Code} {Q : Exit → Act → World → Prop} {a : Act} {W : World} (R : World → Prop) (h : R W) (k : ∀ w, R w → Code.wp P c Q a w) : Code.wp P c Q a W := k W h
theorem grown_map {B b : Nat} {wc w2 w' : World} (h : Below B wc w2) (hg : w2.grownBy w' (some b)) (hB : B ≤ w2.heap.size) (hb : B ≤ b) : Below B wc w' :=
  h.grown hg hB fun k hk => by injection hk with hk; omega
theorem ri_up {w w' : World} {B : Nat} {A : Option Addr} {xs : List Int} (h : RI w B A xs) (hB : B ≤ w.heap.size) (hb : Below w.heap.size w w') : RI w' w'.heap.size A xs := (h.below (hb.mono hB)).more (Nat.le_trans hB hb.size)
theorem hat_lies {wr : World} {vN : Value} {g n c : Nat} (h : vN.ownBlock = some g ∨ g = wr.heap.size + 1) : (Value.slice (some ⟨g, 0, none⟩) n c).ownBlock = vN.ownBlock ∨ ∃ k, (Value.slice (some ⟨g, 0, none⟩) n c).ownBlock = some k ∧ wr.heap.size ≤ k :=
  h.imp (fun e => by rw [e]; rfl) fun e => ⟨g, rfl, by omega⟩
theorem ownsMap_row {w w' : World} {k : TypeId} {R : Value → Option (DataW Unit × List MemPlace)} {b n B : Nat} {D : DataW Unit} {v : Value} {l : List Int} (h : w.ownsMap Tryd.prog k R b n D) (hv : Row w B v l) (hg : w.grownBy w' v.ownBlock) : w'.ownsMap Tryd.prog k R b n D := h.kept hg (map_neI h hv)
theorem ownsMap_rowB {w w' : World} {k : TypeId} {R : Value → Option (DataW Unit × List MemPlace)} {b n B : Nat} {D : DataW Unit} {v : Value} {l : List Bool} (h : w.ownsMap Tryd.prog k R b n D) (hv : RowB w B v l) (hg : w.grownBy w' v.ownBlock) : w'.ownsMap Tryd.prog k R b n D := h.kept hg (map_neB h hv)
theorem ownsMap_app {w w' : World} {k : TypeId} {R : Value → Option (DataW Unit × List MemPlace)} {b n B : Nat} {D : DataW Unit} {v : Value} {l : List Int} {o : Obj} (h : w.ownsMap Tryd.prog k R b n D) (hv : Row w B v l) (hg : (w.alloc o).grownBy w' v.ownBlock) : w'.ownsMap Tryd.prog k R b n D := (h.alloc o).kept hg (map_neI h hv)
theorem ownsMap_set {w : World} {k : TypeId} {R : Value → Option (DataW Unit × List MemPlace)} {b n G : Nat} {D : DataW Unit} (h : w.ownsMap Tryd.prog k R b n D) (hne : b ≠ G) (i : Nat) (u : Value) : (w.setCell ⟨G, i, none⟩ u).ownsMap Tryd.prog k R b n D := h.setCell hne u
theorem key_int {x : Int} (h : -9223372036854775808 ≤ x ∧ x ≤ 9223372036854775807) : keyOf Tryd.prog 3 (.int .i64 x) = some (.int .i64 x) := Maps.keyOf_int_mk Tryd.underlying3 (WalkArith.wf_i64 h)
set_option maxRecDepth 100000 in
set_option maxHeartbeats 40000000 in
theorem i_reduce_t (bb n : Nat) (N F : Option Addr) (xs : List Int) (ys : List Bool) (c d : Nat) (w : World) (hM : MC xs bb n) (hn : ys.length = n) (hmk : mok ((bb : Nat) : Int) xs n = true) (hN : RI w w.heap.size N xs) (hF : RB w w.heap.size F ys)
    (hT : Lib.TabBelow Tryd.prog w.heap.size w "internal/strconv.uint64pow10" .u64 Lib.pow10Tab) :
    Calls Tryd.prog 11 #[.agg #[.int .i64 (bb : Nat), .slice N xs.length c, .slice F n d]] w (RetM w (bb : Nat) (il (redN xs bb n (stpK xs bb n (cl0 ys) n))) (redF xs bb n (stpK xs bb n (cl0 ys) n) ys) true) := by
  obtain ⟨i0, hi, hz0, hz1, hz2⟩ := info_parts info_int
  obtain ⟨k0, ki, kz0, kz1, kz2⟩ := info_parts info_bool
  have hn1 := hM.n1
  have hn2 := hM.n144
  have hbb := hM.b10
  have hxl := hM.le
  have HM := Lib.hid hM
  have HT := Lib.hid hT
  have hmm := @run_makeMap Tryd.prog
  have HY := Lib.hid hn
  have HNN0 := Lib.hid hN
  have HFF := Lib.hid hF
  have HMK := Lib.hid hmk
  have M0 := BM.new w (bb : Nat) (.slice N xs.length c) (.slice F n d)
  have M1 := M0.below (b_alloc (Below.refl _ _) (.cells #[.int .i64 0, .slice none 0 0, .slice none 0 0] 28)) (by rw [World.size_alloc]; omega)
  have R1 := BM.new (w.alloc (.cells #[.int .i64 (bb : Nat), .slice N xs.length c, .slice F n d] 28)) 0 (.slice none 0 0) (.slice none 0 0)
  rw [World.size_alloc] at R1
  have m0 := M1.cell0
  have m1 := M1.cell1
  have m2 := M1.cell2
  have HB0 := Lib.hid (b_alloc (b_alloc (Below.refl w.heap.size w) (.cells #[.int .i64 (bb : Nat), .slice N xs.length c, .slice F n d] 28)) (.cells #[.int .i64 0, .slice none 0 0, .slice none 0 0] 28))
  have HM1 := Lib.hid M1
  have HR1 := Lib.hid R1
  clear hM hn hN hF M0 M1 R1 hmk hT
  go_enter Tryd.func11, Tryd.ntmps11
  go_wp2_with fail
  refine (impl_mok (bb : Nat) N F xs n c d _ ((HNN0.out.below HB0.out).more HB0.out.size) (by omega) (by omega)).mono ?_
  rintro e w1 ⟨rfl, hb1⟩
  rw [HMK.out]
  have HB1 := Lib.hid (b_step HB0.out hb1)
  have M2 := HM1.out.below hb1 HM1.out.lt
  have R2 := HR1.out.below hb1 HR1.out.lt
  have HM2 := Lib.hid M2
  have HR2 := Lib.hid R2
  clear m0 m1 m2 hb1 HM1 HR1
  have m0 := M2.cell0
  have m1 := M2.cell1
  have m2 := M2.cell2
  clear M2 R2
  go_wp2_with fail
  refine (i_classes bb n N F xs ys c d _ HM.out HY.out ((HNN0.out.below HB1.out).more HB1.out.size) ((HFF.out.below HB1.out).more HB1.out.size) (Lib.tabBelow_of_tabIs ((HT.out.on HB1.out).here))).mono ?_
  rintro e wc ⟨A4, c4, rfl, hO4, hb2⟩
  obtain ⟨cl, hcl⟩ : ∃ cl, stpK xs bb n (cl0 ys) n = cl := ⟨_, rfl⟩
  have hclt : ∀ s, s < n → cl.getD s 0 < n := fun s hs => by
    rw [← hcl]
    obtain ⟨n', rfl⟩ : ∃ n', n = n' + 1 := ⟨n - 1, by omega⟩
    exact stp_lt _ _ _ _ s hs
  have lcl : cl.length = n := by rw [← hcl]; exact len_stpK xs bb n _ (by rw [len_cl0, HY.out]) n
  rw [hcl] at hO4 ⊢
  rw [len_il, lcl]
  obtain ⟨b4, o4, rfl, h4b, h4c⟩ := hO4.reads.cells (by rw [len_il, lcl]; exact hn1)
  have HC4 := Lib.hid (show ∀ s, s < n → wc.cell? ⟨b4, o4 + s, none⟩ = some (.int .i64 ((cl.getD s 0 : Nat) : Int)) from fun s hs => by rw [h4c s (by rw [len_il, lcl]; exact hs), getD_il])
  have HLT := Lib.hid hclt
  have HB2 := Lib.hid (b_step HB1.out hb2)
  have M3 := HM2.out.below hb2 HM2.out.lt
  have R3 := HR2.out.below hb2 HR2.out.lt
  have HM3 := Lib.hid M3
  have HR3 := Lib.hid R3
  obtain ⟨cc, hcc⟩ : ∃ x, cl.getD 0 0 = x := ⟨_, rfl⟩
  have hccn : cc < n := by rw [← hcc]; exact HLT.out 0 hn1
  have e0 := ((HC4.out 0 hn1))
  rw [hcc, Nat.add_zero] at e0
  have HCC := Lib.hid hcc
  have HCLE := Lib.hid hcl
  have B2w := b_alloc (b_alloc (Below.refl wc.heap.size wc) (.cells #[.int .i64 0] 3)) (.map #[] 0)
  have k0' : ((wc.alloc (.cells #[.int .i64 0] 3)).alloc (.map #[] 0)).cell? ⟨b4, o4, none⟩ = some (.int .i64 (cc : Int)) := (B2w.cell (p := ⟨b4, o4, none⟩) h4b).trans e0
  have hmp := World.ownsMap_made (wc.alloc (.cells #[.int .i64 0] 3)) Tryd.prog 3 (plainElem (H := Unit) Tryd.prog 3)
  rw [World.size_alloc] at hmp
  have HMP := Lib.hid hmp
  have HR5 := Lib.hid ((Row.one wc wc.heap.size 0 (Nat.le_refl _)).below (b_alloc (Below.refl _ _) (.map #[] 0)))
  have HB2w := Lib.hid B2w
  have HKE := Lib.hid (show keyOf Tryd.prog 3 (.int .i64 (cc : Int)) = some (.int .i64 (cc : Int)) from key_int (by omega))
  have h41 : (0 : Int) < (n : Int) := by omega
  have hlI := HM3.out.lt
  clear m0 m1 m2 hb2 HM2 HR2 hcl hclt lcl hO4 h4c M3 R3 hcc e0 hmp B2w
  go_wp2_with (refine wpList_insert_own _ rfl _ _ _ 44 rfl 3 3 law_int Tryd.underlying44 _ (wc.heap.size + 1) 0 _ rfl HMP.out (by unfold maxLen; omega) _ _ _ rfl rfl HKE.out (.lit (.int .i64 0)) [] (plainElem_int Tryd.underlying3 (by decide)) ?_; intro wi hown1 hgrow1; have bci := grown_map HB2w.out hgrow1 HB2w.out.size (Nat.le_succ _); have k1' := (bci.cell (p := ⟨w.heap.size, 0, none⟩) hlI).trans HM3.out.cell0; clear k0')
  have HD := Lib.hid (show IMap ((DataW.map []).put (.int .i64 (cc : Int)) (.lit (.int .i64 0))) (cm cl [0]) from by
    have := IMap.empty.put (g := cc) (fun i hi => by simp at hi)
    rw [List.nil_append] at this
    rw [show cm cl [0] = [cc] from by rw [← HCC.out]; rfl]
    exact this)
  have r5i := kept_ne HR5.out hgrow1 (map_neI HMP.out HR5.out)
  have S0 := BS.startI bb r5i bci
  have HS0 := Lib.hid S0
  have HMI := Lib.hid hown1
  have hGs := bci.size
  obtain ⟨G, hG⟩ : ∃ G, G = wi.heap.size := ⟨_, rfl⟩
  have HMA := Lib.hid (HMI.out.alloc (.cells #[.int .i64 (bb : Int), .slice none 0 0, .slice none 0 0] 28))
  have HG := Lib.hid hG
  clear hown1 hgrow1 bci r5i S0 HMP HR5 HB2w HKE hG k1'
  go_loopw [5, 8] (fun v5 i wr => ∃ (ii mc : Nat) (vN vF : Value) (D : DataW Unit), i = .int .i64 ii ∧ BS wc wr wi.heap.size (bb : Nat) vN vF v5 (.slice none 0 0) (bou xs bb cl ii).1 [] (bou xs bb cl ii).2 (fin ys (bou xs bb cl ii).1 ii) ∧ Hid (BO xs bb n cl ii) ∧ wr.ownsMap Tryd.prog 3 (plainElem Tryd.prog 3) (wc.heap.size + 1) mc D ∧ mc = (bou xs bb cl ii).1.length ∧ Hid (IMap D (cm cl (bou xs bb cl ii).1))) (fun _ i _ => n + 1 - (intOf i).toNat)
  case atStart => exact ⟨0, 1, _, _, _, rfl, HS0.out, BO.start _ _ _ _, HMA.out, rfl, HD.out⟩
  case round =>
    clear HS0 HMI HMA HD HG
    obtain ⟨ii, mc, vN, vF, D, rfl, hS, hO, hMap, hmc, hIM⟩ := hrel
    have hbok := BOK.bou (cl := cl) HM.out ii hO.out.2.1
    obtain ⟨P, hP⟩ : ∃ P, bou xs bb cl ii = P := ⟨_, rfl⟩
    have lO := bou_len xs bb cl ii
    have hin := hO.out.1
    rw [hP] at hS hbok lO hmc hIM
    have lP := hbok.len HLT.out
    obtain ⟨A5, c5, e5, _⟩ := hS.r5.sh
    subst e5
    have HP := Lib.hid hP
    have HOK := Lib.hid hbok
    have HLO := Lib.hid lO
    have HMC := Lib.hid hmc
    clear hP hbok lO hmc
    by_cases hlt : ii < P.1.length
    · have m0 := (HM3.out.below hS.bc HM3.out.lt).cell0
      have HS := Lib.hid hS
      have HMap := Lib.hid hMap
      clear hS hMap
      go_wp2
      clear m0
      go_loopw [5, 36] (fun a dd wr2 => ∃ (t mc2 : Nat) (vN2 : Value) (D2 : DataW Unit), t ≤ bb ∧ dd = .int .i64 t ∧ BS wc wr2 wi.heap.size (bb : Nat) vN2 vF a (.slice none 0 0) (bin xs bb cl ii P t).1 [] (bin xs bb cl ii P t).2 (fin ys P.1 ii) ∧ wr2.ownsMap Tryd.prog 3 (plainElem Tryd.prog 3) (wc.heap.size + 1) mc2 D2 ∧ mc2 = (bin xs bb cl ii P t).1.length ∧ Hid (IMap D2 (cm cl (bin xs bb cl ii P t).1))) (fun _ dd _ => bb - (intOf dd).toNat)
      case atStart => exact ⟨0, mc, vN, D, Nat.zero_le _, rfl, HS.out, HMap.out, HMC.out, hIM⟩
      case round =>
        clear HS HMap hIM HMC
        obtain ⟨t, mc2, vN2, D2, ht, rfl, hS, hMap, hmc2, hIM⟩ := hrel
        have hbok := HOK.out.bin HM.out hlt t ht
        have hl1 := Nat.lt_of_lt_of_le hlt (bin_len (xs := xs) (bb := bb) (cl := cl) (i := ii) (P := P) t).1
        have lO := (bin_len (xs := xs) (bb := bb) (cl := cl) (i := ii) (P := P) t).2
        have hob : P.2.length ≤ 1440 := by rw [HLO.out]; exact Nat.mul_le_mul (show ii ≤ 144 by omega) hbb
        obtain ⟨Q, hQ⟩ : ∃ Q, bin xs bb cl ii P t = Q := ⟨_, rfl⟩
        rw [hQ] at hS hbok hl1 lO hmc2 hIM
        have lQ := hbok.len HLT.out
        obtain ⟨A5, c5, e5, _⟩ := hS.r5.sh
        subst e5
        have HQ := Lib.hid hQ
        have HOK2 := Lib.hid hbok
        have lT2 : (il Q.1).length ≤ 144 := il_bd (by omega)
        have lO2 : (il Q.2).length ≤ 1450 := il_bd (by omega)
        clear hQ hbok lO hob
        obtain ⟨s0, hs0⟩ : ∃ s, Q.1.getD ii 0 = s := ⟨_, rfl⟩
        have hs0n : s0 < n := by rw [← hs0]; exact HOK2.out.lt _ (by rw [List.getD_eq_getElem?_getD, List.getElem?_eq_getElem hl1]; exact List.getElem_mem _)
        obtain ⟨b5, o5, hA5, h5b, h5c⟩ := (hS.r5.rd).at_ (k := ii) (by rw [len_il]; exact hl1)
        subst hA5
        rw [getD_il, hs0] at h5c
        have MI := HM3.out.below hS.bc HM3.out.lt
        have HS0 := Lib.hid hs0
        have HMC := Lib.hid hmc2
        clear hmc2
        by_cases hlb : t < bb
        · obtain ⟨v1, v1n⟩ := HM.out.at_ hs0n hlb
          have m0 := MI.cell0
          have m1 := MI.cell1
          have m2 := MI.cell2
          obtain ⟨p, hp⟩ : ∃ p, nxt xs bb s0 t = p := ⟨_, rfl⟩
          rw [hp] at v1 v1n
          have HPP := Lib.hid hp
          have HV := Lib.hid v1
          have i2 : (ii : Int) < (Q.1.length : Int) := by omega
          obtain ⟨cp, hcp⟩ : ∃ x, cl.getD p 0 = x := ⟨_, rfl⟩
          have hcpn : cp < n := by rw [← hcp]; exact HLT.out p v1n
          have HCP := Lib.hid hcp
          have HS := Lib.hid hS
          have HMap := Lib.hid hMap
          have RN := Lib.hid ((HNN0.out.below HB2.out).below (hS.bc.mono HB2.out.size))
          have ltI := MI.lt
          have lt5 := h5b
          have hwN : w.heap.size ≤ wr.heap.size := by have := HB2.out.size; have := hS.bc.size; omega
          clear hp v1 hcp hs0 hS MI hMap
          go_wp2_with fail
          refine gen_world (fun w' => Below wr.heap.size wr w') (Below.refl _ _) fun wq hbq => ?_
          have e0 := (hbq.cell (p := ⟨b5, o5 + ii, none⟩) lt5).trans h5c
          have e1 := (hbq.cell (p := ⟨w.heap.size, 0, none⟩) ltI).trans m0
          have e2 := (hbq.cell (p := ⟨w.heap.size, 1, none⟩) ltI).trans m1
          have e3 := (hbq.cell (p := ⟨w.heap.size, 2, none⟩) ltI).trans m2
          have ltIq : w.heap.size < wq.heap.size := Nat.lt_of_lt_of_le ltI hbq.size
          have lt5q : b5 < wq.heap.size := Nat.lt_of_lt_of_le lt5 hbq.size
          have RNq := Lib.hid (RN.out.below (hbq.mono hwN))
          have hwq : w.heap.size ≤ wq.heap.size := Nat.le_trans hwN hbq.size
          have HBQ := Lib.hid hbq
          clear h5c m0 m1 m2 hbq
          go_region_held3 (fun w' => w'.cell? ⟨b5, o5 + ii, none⟩ = some (.int .i64 (s0 : Int)) ∧ w'.cell? ⟨w.heap.size, 0, none⟩ = some (.int .i64 (bb : Int)) ∧ w'.cell? ⟨w.heap.size, 1, none⟩ = some (.slice N xs.length c) ∧ w'.cell? ⟨w.heap.size, 2, none⟩ = some (.slice F n d)) (refine ⟨?_, ?_, ?_, ?_⟩ <;> assumption) ((go_at_call 26; (with_reducible refine (step_m bb N F xs n n c d s0 t (p : Int) _ ?_ hbb hn2 hs0n hlb HM.out.len HV.out.symm).mono ?_); exact ri_up RNq.out hwq (by repeat (first | exact Below.refl _ _ | refine b_drew ?_)); rintro e w8 ⟨rfl, hb8⟩; obtain ⟨hc8, _, _⟩ := bcell hb8; have k0 := (hc8 _ _ lt5q).trans e0; have k1 := (hc8 _ _ ltIq).trans e1; have k2 := (hc8 _ _ ltIq).trans e2; have k3 := (hc8 _ _ ltIq).trans e3; have HB8 := Lib.hid hb8; clear hb8 hc8))
          have HB9 : Hid (Below wr.heap.size wr w8) := Lib.hid (HBQ.out.trans ((b_step (b_drew (Below.refl wq.heap.size wq)) HB8.out).mono HBQ.out.size))
          have HS8 := Lib.hid (HS.out.call HB9.out)
          have HM8 := Lib.hid (ownsMap_below HMap.out HB9.out HMap.out.lt)
          have c4' := (HS8.out.bc.cell (p := ⟨b4, o4 + p, none⟩) h4b).trans (HC4.out p v1n)
          rw [HCP.out] at c4'
          have p0 : (0 : Int) ≤ (p : Int) := by omega
          have p1 : (p : Int) < (n : Int) := by omega
          have HKEY := Lib.hid (show keyOf Tryd.prog 3 (.int .i64 (cp : Int)) = some (.int .i64 (cp : Int)) from key_int (by omega))
          clear e0 e1 e2 e3 k0 k1 k2 k3 RN RNq HB8 HBQ HB9 HS HMap HV
          by_cases hmem : ∃ u, u < Q.1.length ∧ (cm cl Q.1).getD u 0 = cp
          · obtain ⟨u, hul, hue⟩ := hmem
            have hat := hIM.out.at_ u (by rw [len_cm]; exact hul)
            rw [hue] at hat
            have HHAT := Lib.hid hat
            have HN := Lib.hid (show bin xs bb cl ii P (t + 1) = (Q.1, Q.2 ++ [u]) by
              obtain ⟨hm, hx⟩ := idx_nd HOK2.out.nd (u := u) (c := cp) (by rw [List.length_map]; exact hul) hue
              have hm2 : cl.getD (nxt xs bb (Q.1.getD ii 0) t) 0 ∈ Q.1.map (fun s => cl.getD s 0) := by
                rw [HS0.out, HPP.out, HCP.out]; exact hm
              rw [bin, HQ.out, bst_old hm2, HS0.out, HPP.out, HCP.out, hx])
            clear hat hue
            go_wp2_with (first | (at_lookup; refine wpList_lookup_own_ok_int _ rfl _ _ 44 rfl 3 3 .i64 law_int Tryd.underlying44 Tryd.underlying3 (zero_int _) (wc.heap.size + 1) mc2 D2 rfl HM8.out _ _ rfl HKEY.out ?_; intro cx hatc hwc; obtain rfl : cx = (u : Int) := at_inj (hatc.symm.trans HHAT.out.1); rw [HHAT.out.2]; clear hatc hwc))
            have HAT := HHAT.out.1
            obtain ⟨cv, hlk, hcv, _⟩ := (World.ownsMap.drew HM8.out).lookup_int law_int Tryd.underlying44 Tryd.underlying3 (zero_int _) HKEY.out
            obtain rfl : cv = (u : Int) := at_inj (hcv.symm.trans HAT)
            have n1 := HS8.out.mG.cell1
            have ltG := HS8.out.mG.lt
            have hsz := HS8.out.bc.size
            have lt4 : b4 < w8.heap.size := by omega
            obtain ⟨gg, cap, wn, hrun, hown2, hgrow2, hat2, _⟩ := run_append_lies (P := Tryd.prog) ((w8.alloc (.cells #[.int .i64 (u : Int)] 3)).drew) 22 22 wc.heap.size 3 i0 _ 1 8 Tryd.underlying22 hi hz0 hz1 hz2 rfl (by decide) vN2 _ _ ((World.ownsRow.alloc HS8.out.rN _).drew) ⟨w8.heap.size, 0, none⟩ 1 1 [.int .i64 (u : Int)] rfl (World.news_of_block (cs := #[.int .i64 (u : Int)]) (t := 3) (fr := (0, 0)) (heap_alloc_new w8 _)) (by simp [Value.oneCell']) (by omega) (by unfold maxLen; omega) (by omega) (by simp; omega) (w8.heap.size + 1) (by simp)
            have W3 := b_drew (b_alloc (Below.refl w8.heap.size w8) (.cells #[.int .i64 (u : Int)] 3))
            have B1 := (HS8.out.mG.below W3 HS8.out.mG.lt).grown hgrow2 (HS8.out.mG.neI HS8.out.rN)
            have s1 := B1.cell1
            have s2 := B1.frozen 1
            have HSN := Lib.hid (HS8.out.appN W3 (y := u) hown2 rfl rfl hgrow2 (hat_lies hat2))
            have HMN := Lib.hid (ownsMap_set (ownsMap_row (ownsMap_below HM8.out W3 HM8.out.lt) (HS8.out.rN.below W3) hgrow2) (map_neM HM8.out HS8.out.mG) 1 (.slice (some ⟨gg, 0, none⟩) ((il Q.2).length + 1) cap))
            clear B1 hown2 hgrow2 W3 hcv HAT hat2
            simp [go_sem] at hrun
            go_region
            all_goals clear hrun hlk s1 s2 n1
            all_goals (go_wp2_with fail)
            all_goals go_roundw
            all_goals first | (case rel => exact ⟨t + 1, mc2, _, D2, by omega, by go_num, by rw [HN.out]; exact HSN.out, HMN.out, by rw [HN.out]; exact HMC.out, by rw [HN.out]; exact hIM⟩) | skip
            all_goals (simp [intOf]; omega)
          · have HNO := Lib.hid (fun i hi e => hmem ⟨i, by rw [len_cm] at hi; exact hi, e⟩ : ∀ i, i < (cm cl Q.1).length → (cm cl Q.1).getD i 0 ≠ cp)
            have HHAS := Lib.hid (hIM.out.no cp HNO.out)
            have HN := Lib.hid (show bin xs bb cl ii P (t + 1) = (Q.1 ++ [p], Q.2 ++ [Q.1.length]) by
              have hm : ¬ cl.getD (nxt xs bb (Q.1.getD ii 0) t) 0 ∈ Q.1.map (fun s => cl.getD s 0) := by
                rw [HS0.out, HPP.out, HCP.out]
                exact not_mem_cm (fun u hu => HNO.out u (by rw [len_cm]; exact hu))
              rw [bin, HQ.out, bst_new hm, HS0.out, HPP.out])
            have hmc3 : mc2 < 1000 := by rw [HMC.out]; omega
            clear hmem
            go_wp2_with (first | (at_lookup; refine wpList_lookup_own_ok_int _ rfl _ _ 44 rfl 3 3 .i64 law_int Tryd.underlying44 Tryd.underlying3 (zero_int _) (wc.heap.size + 1) mc2 D2 rfl HM8.out _ _ rfl HKEY.out ?_; intro cx hatc hwc; rw [HHAS.out]; clear hatc hwc) | (at_mapUpdate; refine wpList_mapUpdate_own _ rfl _ _ _ 44 rfl 3 3 law_int Tryd.underlying44 _ (wc.heap.size + 1) mc2 _ rfl HM8.out (by unfold maxLen; omega) _ _ _ rfl rfl HKEY.out (.lit (.int .i64 (Q.1.length : Int))) [] (plainElem_int Tryd.underlying3 (WalkArith.wf_i64 (by omega))) ?_; intro w9 hown1 hgrow1; have HS9 := Lib.hid (HS8.out.mapup HM8.out hgrow1 (Nat.le_succ _)); have HM9 := Lib.hid hown1; have hO := HS9.out.r5; have hsz := HS9.out.bc.size; clear hown1 hgrow1) | (at_builtin; refine wpList_append_own_at _ rfl _ _ 22 rfl wc.heap.size 3 i0 (.int .i64 0) 1 8 Tryd.underlying22 hi hz0 hz1 hz2 rfl (by decide) _ _ _ rfl (World.ownsRow.alloc hO _) ⟨w9.heap.size, 0, none⟩ 1 1 [.int .i64 (p : Int)] rfl rfl (cell_one_new _ _ _) ?ca_1 ?ca_2 ?ca_3 ?ca_4 ?_))
            case ca_1 => first | rfl | (intro u hu; simp at hu; subst hu; rfl)
            case ca_2 => unfold maxLen; omega
            case ca_3 => omega
            case ca_4 => first | omega | (simp; omega)
            intro v1 w1 ho hg _ hat
            have HS10 := Lib.hid (HS9.out.app5 (b_alloc (Below.refl _ _) _) (y := p) ho (by simp) rfl hg (hat1 hat))
            have HM10 := Lib.hid (ownsMap_app HM9.out HS9.out.r5 hg)
            have HIM2 := Lib.hid (hIM.out.put (g := cp) HNO.out)
            have HAT := (HIM2.out.at_ Q.1.length (by rw [List.length_append, len_cm]; simp)).1
            rw [getD_app, len_cm, if_neg (Nat.lt_irrefl _), if_pos rfl] at HAT
            have c4'' := (HS10.out.bc.cell (p := ⟨b4, o4 + p, none⟩) h4b).trans (HC4.out p v1n)
            rw [HCP.out] at c4''
            clear ho hg hat hO hsz HS8 HM8 HS9 HM9 c4'
            go_wp2_with fail
            obtain ⟨cv, hlk, hcv, _⟩ := (World.ownsMap.drew HM10.out).lookup_int law_int Tryd.underlying44 Tryd.underlying3 (zero_int _) HKEY.out
            obtain rfl : cv = (Q.1.length : Int) := at_inj (hcv.symm.trans HAT)
            have n1 := HS10.out.mG.cell1
            have ltG := HS10.out.mG.lt
            have hsz := HS10.out.bc.size
            have lt4 : b4 < w1.heap.size := by omega
            obtain ⟨gg, cap, wn, hrun, hown2, hgrow2, hat2, _⟩ := run_append_lies (P := Tryd.prog) ((w1.alloc (.cells #[.int .i64 (Q.1.length : Int)] 3)).drew) 22 22 wc.heap.size 3 i0 _ 1 8 Tryd.underlying22 hi hz0 hz1 hz2 rfl (by decide) vN2 _ _ ((World.ownsRow.alloc HS10.out.rN _).drew) ⟨w1.heap.size, 0, none⟩ 1 1 [.int .i64 (Q.1.length : Int)] rfl (World.news_of_block (cs := #[.int .i64 (Q.1.length : Int)]) (t := 3) (fr := (0, 0)) (heap_alloc_new w1 _)) (by simp [Value.oneCell']) (by omega) (by unfold maxLen; omega) (by omega) (by simp; omega) (w1.heap.size + 1) (by simp)
            have W3 := b_drew (b_alloc (Below.refl w1.heap.size w1) (.cells #[.int .i64 (Q.1.length : Int)] 3))
            have B1 := (HS10.out.mG.below W3 HS10.out.mG.lt).grown hgrow2 (HS10.out.mG.neI HS10.out.rN)
            have s1 := B1.cell1
            have s2 := B1.frozen 1
            have HSN := Lib.hid (HS10.out.appN W3 (y := Q.1.length) hown2 rfl rfl hgrow2 (hat_lies hat2))
            have HMN := Lib.hid (ownsMap_set (ownsMap_row (ownsMap_below HM10.out W3 HM10.out.lt) (HS10.out.rN.below W3) hgrow2) (map_neM HM10.out HS10.out.mG) 1 (.slice (some ⟨gg, 0, none⟩) ((il Q.2).length + 1) cap))
            clear B1 hown2 hgrow2 W3 hcv HAT hat2
            simp [go_sem] at hrun
            go_region
            all_goals clear hrun hlk s1 s2 n1
            all_goals (go_wp2_with fail)
            all_goals go_roundw
            all_goals first | (case rel => exact ⟨t + 1, mc2 + 1, _, _, by omega, by go_num, by rw [HN.out]; exact HSN.out, HMN.out, by rw [HN.out, HMC.out]; simp, by rw [HN.out, cm_app, HCP.out, ← len_cm cl Q.1]; exact HIM2⟩) | skip
            all_goals (simp [intOf]; omega)
        · obtain rfl : bb = t := by omega
          obtain ⟨bF, oF, hAF, hbF, hcF⟩ := ((HFF.out.below HB2.out).below (hS.bc.mono HB2.out.size)).at_ (k := s0) (by rw [HY.out]; exact hs0n)
          subst hAF
          obtain ⟨q, hq⟩ : ∃ q, ys.getD s0 false = q := ⟨_, rfl⟩
          rw [hq] at hcF
          have m2 := MI.cell2
          have g2 := hS.mG.cell2
          have i2 : (ii : Int) < (Q.1.length : Int) := by omega
          have i3 : (s0 : Int) < (n : Int) := by omega
          have i4 : (0 : Int) ≤ (s0 : Int) := by omega
          have lF : (fin ys P.1 ii).length ≤ 144 := by unfold fin; rw [List.length_map, List.length_take]; omega
          have ltG := hS.mG.lt
          have ltI := MI.lt
          have lt5 := h5b
          have ltF : bF < wr.heap.size := by have := HB2.out.size; have := hS.bc.size; omega
          have hsz := hS.bc.size
          have HFN := Lib.hid (show fin ys (bou xs bb cl (ii + 1)).1 (ii + 1) = fin ys P.1 ii ++ [q] by
            rw [bou, HP.out, HQ.out]
            have := fin_next (ys := ys) (xs := xs) (bb := bb) (cl := cl) (P := P) (i := ii) hlt bb
            rw [HQ.out, hs0, hq] at this
            exact this)
          have HN := Lib.hid (show bou xs bb cl (ii + 1) = Q by rw [bou, HP.out, HQ.out])
          have HO1 := Lib.hid (hO.out.next (by rw [HP.out]; exact hlt) (by omega))
          have m0 := MI.cell0
          clear hq hs0
          go_wp2_with fail
          obtain ⟨gg, cap, wn, hrun, hown1, hgrow, _, _⟩ := run_append_lies (P := Tryd.prog) ((wr.alloc (.cells #[.bool q] 4)).drew) 23 23 wc.heap.size 4 k0 _ 1 1 Tryd.underlying23 ki kz0 kz1 kz2 rfl (by decide) vF _ _ ((World.ownsRow.alloc hS.rF _).drew) ⟨wr.heap.size, 0, none⟩ 1 1 [.bool q] rfl (World.news_of_block (cs := #[.bool q]) (t := 4) (fr := (0, 0)) (heap_alloc_new wr _)) (by simp [Value.oneCell']) (by omega) (by unfold maxLen; omega) (by omega) (by simp; omega) (wr.heap.size + 1) (by simp)
          have W3 := b_drew (b_alloc (Below.refl wr.heap.size wr) (.cells #[.bool q] 4))
          have B1 := (hS.mG.below W3 hS.mG.lt).grown hgrow (hS.mG.neB hS.rF)
          have s1 := B1.cell2
          have s2 := B1.frozen 2
          have HS6 := Lib.hid (hS.appF W3 (q := q) hown1 rfl hgrow)
          have HM6 := Lib.hid (ownsMap_set (ownsMap_rowB (ownsMap_below hMap W3 hMap.lt) (hS.rF.below W3) hgrow) (map_neM hMap hS.mG) 2 (.slice (some ⟨gg, 0, none⟩) ((fin ys P.1 ii).length + 1) cap))
          clear B1 hown1 hgrow W3 hS MI hO hMap
          simp [go_sem] at hrun
          go_region
          all_goals clear hrun s1 s2 g2 m2 h5c hcF m0
          all_goals (go_wp2_with fail)
          all_goals go_roundw
          all_goals first | (case rel => exact ⟨ii + 1, mc2, _, _, D2, by go_num, by rw [HFN.out, HN.out]; exact HS6.out, HO1.out, HM6.out, by rw [HN.out]; exact HMC.out, by rw [HN.out]; exact hIM⟩) | skip
          all_goals (simp [intOf]; omega)
    · have hI : redI xs bb n cl = ii := by rw [hO.out.2.2]; exact bend_stop (by rw [HP.out]; exact hlt)
      have hR : redN xs bb n cl = P.2 := by unfold redN; rw [hI, HP.out]
      have hR2 : redF xs bb n cl ys = fin ys P.1 ii := by unfold redF fin; rw [hI, HP.out]
      rw [← HCLE.out] at hR hR2
      have HR := Lib.hid hR
      have HR2 := Lib.hid hR2
      obtain ⟨A1, C1, e1⟩ := hS.rN.shape
      obtain ⟨A2, C2, e2⟩ := hS.rF.shape
      subst e1 e2
      have oi := (OI.of_own hS.rN).2
      have ob := (OB.of_own hS.rF).2
      have g0 := hS.mG.cell0
      have g1 := hS.mG.cell1
      have g2 := hS.mG.cell2
      have RR := HR3.out.below hS.bc HR3.out.lt
      have r0 := RR.cell0
      have r1 := RR.cell1
      have r2 := RR.cell2
      have f0 := fun i => RR.frozen i
      have hlw := HR3.out.lt
      have HW := Lib.hid (HB2.out.trans (hS.bc.mono HB2.out.size))
      have HRR := Lib.hid RR
      have HOI := Lib.hid oi
      have HOB := Lib.hid ob
      clear hI hR hR2 hS oi ob RR hO hMap hIM
      go_wp2_with fail
      have M1 := ((HRR.out.set0 (bb : Nat)).set1 (.slice A1 (il P.2).length C1)).set2 (.slice A2 (fin ys P.1 ii).length C2)
      have f0 := M1.cell0
      have f1 := M1.cell1
      have f2 := M1.cell2
      refine bodyPost_ret (v := .tuple #[.agg #[.int .i64 (bb : Nat), .slice A1 (il P.2).length C1, .slice A2 (fin ys P.1 ii).length C2], .bool true]) (by simp [results, Tryd.results11, go_sem, f0, f1, f2]) rfl ⟨A1, A2, C1, C2, by rw [HR.out, HR2.out], ?_, ?_, ?_⟩
      · rw [HR.out]; exact (((HOI.out.set_ (by simp; omega) _).set_ (by simp; omega) _).set_ (by simp; omega) _).low (by omega)
      · rw [HR2.out]; exact (((HOB.out.set_ (by simp; omega) _).set_ (by simp; omega) _).set_ (by simp; omega) _).low (by omega)
      · exact b_set (b_set (b_set HW.out (by simp) _) (by simp) _) (by simp) _
end Go.Proofs.YtoihjapbidbpdaaDoor
