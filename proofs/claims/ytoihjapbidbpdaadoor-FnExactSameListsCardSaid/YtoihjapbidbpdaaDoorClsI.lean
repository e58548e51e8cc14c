/- The contract of (impl.Machine).classes. Conditions: a machine that fits; internal/strconv.uint64pow10 reads as the text lays it. -/
import Derived.Test.YtoihjapbidbpdaaDoorKst
import Derived.Test.YtoihjapbidbpdaaDoorClsS
import Derived.Test.YtoihjapbidbpdaaDoorStep
import Derived.StringKeys
namespace Go.Proofs.YtoihjapbidbpdaaDoor
open Go.RowKit
set_option linter.unusedVariables false
theorem zero_int (w : World) : (zeroValue 3).run Tryd.prog w = .ok (.int .i64 0) w := by kernel_rfl
/-- The first classes while they are laid. -/
def Lay0 (cs : Array Value) (n k : Nat) (ys : List Bool) : Prop := cs.size = n ∧ Fill cs 0 k (il (cl0 ys)) ∧ ∀ j, k ≤ j → j < n → cs[j]? = some (.int .i64 0)
theorem cl0_at (ys : List Bool) (k : Nat) (h : k < ys.length) : (il (cl0 ys)).getD k 0 = if ys.getD k false then 1 else 0 := by
  rw [getD_il]
  simp [cl0, h]
  split <;> rfl
theorem Lay0.start (n : Nat) (ys : List Bool) : Lay0 (madeCells #[.int .i64 0] n) n 0 ys := ⟨by simp [madeCells], fun j hj => by omega, fun j _ hj => by simp [madeCells, hj, Nat.mod_one]⟩
theorem Lay0.one {cs : Array Value} {n k : Nat} {ys : List Bool} (h : Lay0 cs n k ys) (hk : k < n) (hy : n = ys.length) (hq : ys.getD k false = true) : Lay0 (cs.setIfInBounds k (.int .i64 1)) n (k + 1) ys := by
  obtain ⟨a, b, c⟩ := h
  refine ⟨by simp [a], ?_, fun j h1 h2 => ?_⟩
  · have := b.step (v := .int .i64 1) (by omega) (by rw [cl0_at ys k (by omega), hq]; rfl)
    simpa using this
  · rw [Array.getElem?_setIfInBounds, if_neg (by omega)]; exact c j (by omega) h2
theorem Lay0.zero {cs : Array Value} {n k : Nat} {ys : List Bool} (h : Lay0 cs n k ys) (hk : k < n) (hy : n = ys.length) (hq : ys.getD k false = false) : Lay0 cs n (k + 1) ys := by
  obtain ⟨a, b, c⟩ := h
  refine ⟨a, fun j hj => ?_, fun j h1 h2 => c j (by omega) h2⟩
  by_cases e : j = k
  · subst e; rw [Nat.zero_add, c j (Nat.le_refl _) hk, cl0_at ys j (by omega), hq]; rfl
  · exact b j (by omega)
theorem cls_cell {wr : World} {g n : Nat} {cs : Array Value} {cl : List Nat} (hI : BI wr g cs) (hF : Fill cs 0 n (il cl)) {j : Nat} (hj : j < n) : wr.cell? ⟨g, j, none⟩ = some (.int .i64 ((cl.getD j 0 : Nat) : Int)) := by
  have := hF j hj
  rw [Nat.zero_add, getD_il] at this
  rw [hI.cell]; exact this
theorem stpK_le (xs : List Int) (bb n : Nat) (ys : List Bool) (hn : n ≤ 1000) : ∀ j s, (stpK xs bb n (cl0 ys) j).getD s 0 ≤ 1000
  | 0, s => by
    show (cl0 ys).getD s 0 ≤ 1000
    unfold cl0
    rw [List.getD_eq_getElem?_getD, List.getElem?_map]
    cases ys[s]? with
    | none => simp
    | some b => cases b <;> simp
  | j + 1, s => by
    show (stp xs bb n (stpK xs bb n (cl0 ys) j)).getD s 0 ≤ 1000
    by_cases h : s < n
    · have := stp_lt xs bb n (stpK xs bb n (cl0 ys) j) s h
      omega
    · rw [List.getD_eq_getElem?_getD, List.getElem?_eq_none (by rw [len_stp]; omega)]; simp
/-- The signature while it is written. -/
def kpre (xs : List Int) (bb : Nat) (cl : List Nat) (k a0 t : Nat) : List Nat := a0 :: (List.range t).map fun d => cl.getD (nxt xs bb k d) 0
theorem ky_next (xs : List Int) (bb : Nat) (cl : List Nat) (k a0 t : Nat) : ky (kpre xs bb cl k a0 (t + 1)) = ky (kpre xs bb cl k a0 t) ++ 44 :: Lib.decDigits (cl.getD (nxt xs bb k t) 0) := by
  unfold kpre
  rw [List.range_succ, List.map_append]
  show Lib.decDigits a0 ++ kyt (_ ++ [_]) = _
  rw [kyt_app]
  simp [ky]
theorem dec_len {u : Nat} (h : u ≤ 1000) : (Lib.decDigits u).length ≤ 21 := dtx_size h
theorem ky_len (xs : List Int) (bb : Nat) (cl : List Nat) (k a0 t : Nat) (h0 : a0 ≤ 1000) (hl : ∀ s, cl.getD s 0 ≤ 1000) (ht : t ≤ 10) : (ky (kpre xs bb cl k a0 t)).length ≤ 21 + 22 * t := by
  induction t with
  | zero => have := dec_len h0; simpa [kpre, ky, kyt] using this
  | succ t ih =>
    rw [ky_next, List.length_append, List.length_cons]
    have := ih (by omega)
    have := dec_len (hl (nxt xs bb k t))
    omega
theorem RS.start (wo : World) (n : Nat) (xs : List Int) (bb : Nat) (cl : List Nat) : RS wo ((wo.alloc (.map #[] 0)).alloc (.cells (madeCells #[.int .i64 0] n) 3)) n 0 (madeCells #[.int .i64 0] n) (.map []) (nrd xs bb cl 0).1 (nrd xs bb cl 0).2 :=
  ⟨b_alloc (b_alloc (Below.refl _ _) _) _, (World.ownsMap_made _ _ _ _).alloc _, by
    have := BI.new (wo.alloc (.map #[] 0)) (madeCells #[.int .i64 0] n)
    rw [World.size_alloc] at this
    exact this, by simp [madeCells], fun j hj => by omega, rfl, KMap.empty⟩
theorem at_inj {a b : Int} (h : (DataW.lit (.int .i64 a) : DataW Unit) = .lit (.int .i64 b)) : a = b := by injection h with h; injection h
theorem ownsMap_below {k : TypeId} {R : Value → Option (DataW Unit × List MemPlace)} {b n B : Nat} {D : DataW Unit} {w w' : World} (h : w.ownsMap Tryd.prog k R b n D) (hb : Below B w w') (hB : b < B) : w'.ownsMap Tryd.prog k R b n D := by
  obtain ⟨es, clock, h1, r⟩ := h
  exact ⟨es, clock, (hb.block b hB).trans h1, r⟩
theorem RS.callB {wo wr w1 : World} {n k B : Nat} {cs : Array Value} {D : DataW Unit} {S : List (List Nat)} {NN : List Nat} (h : RS wo wr n k cs D S NN) (hb : Below B wr w1) (hB : wo.heap.size + 2 ≤ B) : RS wo w1 n k cs D S NN :=
  ⟨Below.trans h.b (hb.mono (by omega)), ownsMap_below h.m hb (by omega), h.nx.below hb (by omega), h.sz, h.fl, h.ln, h.km⟩
theorem nrd_key {xs : List Int} {bb : Nat} {cl : List Nat} {k i : Nat} {S : List (List Nat)} {G : List Nat} (hS : (nrd xs bb cl k).1 = S) (hG : sgn xs bb cl k = G) (hi : i < S.length) (e : ky (S.getD i []) = ky G) : S.getD i [] = G := by
  have hm : S.getD i [] ∈ (nrd xs bb cl k).1 := by
    rw [hS, List.getD_eq_getElem?_getD, List.getElem?_eq_getElem hi]
    exact List.getElem_mem _
  obtain ⟨r, _, hr⟩ := (nrd_mem xs bb cl k _).1 hm
  rw [← hr, ← hG] at e ⊢
  exact ky_inj e
theorem RS.put {wo wr : World} {n k : Nat} {cs : Array Value} {D : DataW Unit} {S : List (List Nat)} {NN : List Nat} (b : Below wo.heap.size wo wr) (m : wr.ownsMap Tryd.prog 9 (plainElem Tryd.prog 3) wo.heap.size (k + 1) D)
    (nx : BI wr (wo.heap.size + 1) cs) (sz : cs.size = n) (fl : Fill cs 0 k (il NN)) (ln : NN.length = k) (km : KMap D S) (hk : k < n) (x : Nat) :
    RS wo (wr.setCell ⟨wo.heap.size + 1, k, none⟩ (.int .i64 (x : Int))) n (k + 1) (cs.setIfInBounds k (.int .i64 (x : Int))) D S (NN ++ [x]) := by
  have f2 : Fill cs 0 k (il (NN ++ [x])) := fun j hj => by
    rw [fl j hj, getD_il, getD_il, getD_app, if_pos (by omega)]
  have f3 := f2.step (v := .int .i64 (x : Int)) (by omega) (by rw [getD_il, getD_app, if_neg (by omega), if_pos ln.symm])
  rw [Nat.zero_add] at f3
  exact ⟨b.setCell (by simp) _, m.setCell (by simp) _, nx.set_ k _, by simp [sz], f3, by simp [ln], km⟩
set_option maxRecDepth 100000 in
set_option maxHeartbeats 40000000 in
theorem i_classes (bb n : Nat) (N F : Option Addr) (xs : List Int) (ys : List Bool) (c d : Nat) (w : World) (hM : MC xs bb n) (hn : ys.length = n) (hN : RI w w.heap.size N xs) (hF : RB w w.heap.size F ys)
    (hT : Lib.TabBelow Tryd.prog w.heap.size w "internal/strconv.uint64pow10" .u64 Lib.pow10Tab) :
    Calls Tryd.prog 25 #[.agg #[.int .i64 (bb : Nat), .slice N xs.length c, .slice F n d]] w (RetL w (il (stpK xs bb n (cl0 ys) n))) := by
  have hn1 := hM.n1
  have hn2 := hM.n144
  have hbb := hM.b10
  have HM := Lib.hid hM
  have HY := Lib.hid hn
  have HB0 := Lib.hid (b_alloc (Below.refl w.heap.size w) (.cells #[.int .i64 (bb : Nat), .slice N xs.length c, .slice F n d] 28))
  have HNN0 := Lib.hid hN
  have HFF := Lib.hid hF
  have HT := Lib.hid hT
  have M0 := BM.new w (bb : Nat) (.slice N xs.length c) (.slice F n d)
  have c2 := M0.cell2
  have HM0 := Lib.hid M0
  have hmk := run_make_row' (P := Tryd.prog) 22 3 (.int .i64 0) 8 Tryd.underlying22 info_int rfl .i64 .i64 n (by omega) (by omega)
  have hmm := @run_makeMap Tryd.prog
  clear hM hn hN hF M0 hT
  go_enter Tryd.func25, Tryd.ntmps25
  go_wp2
  clear c2
  go_loopw [21] (fun i wr => ∃ (k : Nat) (cs : Array Value), k ≤ n ∧ i = .int .i64 k ∧ BI wr (w.heap.size + 1) cs ∧ Hid (Lay0 cs n k ys) ∧ BM wr w.heap.size (bb : Nat) (.slice N xs.length c) (.slice F n d) ∧ Below w.heap.size w wr) (fun i _ => n - (intOf i).toNat)
  case atStart => exact ⟨0, _, Nat.zero_le _, rfl, by
      have := BI.new (w.alloc (.cells #[.int .i64 (bb : Nat), .slice N xs.length c, .slice F n d] 28)) (madeCells #[.int .i64 0] n)
      rw [World.size_alloc] at this
      exact this, Lay0.start n ys, HM0.out.below (b_alloc (Below.refl _ _) _) (by rw [World.size_alloc]; omega), b_alloc HB0.out _⟩
  case round =>
    obtain ⟨k, cs, hk, rfl, hI, hL, hBm, hW⟩ := hrel
    by_cases hlt : k < n
    · obtain ⟨bF, oF, hA, hbF, hc⟩ := (HFF.out.below hW).at_ (k := k) (by rw [HY.out]; exact hlt)
      subst hA
      obtain ⟨q, hq⟩ : ∃ q, ys.getD k false = q := ⟨_, rfl⟩
      rw [hq] at hc
      obtain ⟨v0, hcB⟩ := hI.ex (i := k) (by rw [hL.out.1]; exact hlt)
      have hfB := hI.frozen k
      have HI := Lib.hid hI
      have HBM := Lib.hid hBm
      have HW := Lib.hid hW
      cases q with
      | false =>
        have HL1 := Lib.hid (hL.out.zero hlt HY.out.symm hq)
        clear hI hBm hW hq
        go_wp2
        go_roundw
        case rel => exact ⟨k + 1, cs, by omega, by go_num, HI.out, HL1.out, HBM.out, HW.out⟩
        case measure => simp [intOf]; omega
      | true =>
        have HL1 := Lib.hid (hL.out.one hlt HY.out.symm hq)
        clear hI hBm hW hq
        go_wp2
        go_roundw
        case rel => exact ⟨k + 1, _, by omega, by go_num, HI.out.set_ k _, HL1.out, HBM.out.setx (by simp) _, b_set HW.out (by simp) _⟩
        case measure => simp [intOf]; omega
    · obtain rfl : n = k := by omega
      have HC0 := Lib.hid (show ∃ cs, BI wr (w.heap.size + 1) cs ∧ cs.size = n ∧ Fill cs 0 n (il (stpK xs bb n (cl0 ys) 0)) from ⟨cs, hI, hL.out.1, hL.out.2.1⟩)
      have HBM := Lib.hid hBm
      have HW := Lib.hid hW
      clear hI hL hBm hW hlt hk HM0 HB0
      go_wp2
      go_loopw [3, 6] (fun v m wo => ∃ (j g : Nat) (mm : Int), m = .int .i64 mm ∧ v = .slice (some ⟨g, 0, none⟩) n n ∧ w.heap.size < g ∧ Hid (∃ cs, BI wo g cs ∧ cs.size = n ∧ Fill cs 0 n (il (stpK xs bb n (cl0 ys) j))) ∧ Hid ((j = 0 ∧ mm = -1) ∨ ∃ i, j = i + 1 ∧ mm = ((cnt xs bb n (stpK xs bb n (cl0 ys) i) : Nat) : Int) ∧ i + 1 ≤ cnt xs bb n (stpK xs bb n (cl0 ys) i)) ∧ BM wo w.heap.size (bb : Nat) (.slice N xs.length c) (.slice F n d) ∧ Below w.heap.size w wo) (fun _ m _ => ((n : Int) - intOf m).toNat)
      case atStart => exact ⟨0, _, -1, rfl, rfl, by omega, HC0.out, .inl ⟨rfl, rfl⟩, HBM.out, HW.out⟩
      case round =>
        clear HC0 HBM HW
        obtain ⟨wo, rfl⟩ : ∃ wo : World, wo = wr := ⟨_, rfl⟩
        obtain ⟨j, g, mm, rfl, rfl, hg, hC, hmany, hBm, hW⟩ := hrel
        obtain ⟨cl, hcl⟩ : ∃ cl, stpK xs bb n (cl0 ys) j = cl := ⟨_, rfl⟩
        have hle := stpK_le xs bb n ys (by omega) j
        have lcl : cl.length = n := by rw [← hcl]; exact len_stpK xs bb n _ (by rw [len_cl0, HY.out]) j
        rw [hcl] at hC hle
        obtain ⟨cs, hI, hsz, hF⟩ := hC.out
        have HCO := Lib.hid (And.intro hI (And.intro hsz hF))
        have HLE := Lib.hid hle
        have HCL := Lib.hid hcl
        have HL := Lib.hid lcl
        have HBM := Lib.hid hBm
        have HW := Lib.hid hW
        have hgo : g < wo.heap.size := hI.lt
        have hwo := hBm.lt
        have HR0 := Lib.hid (RS.start wo n xs bb cl)
        clear hcl hle lcl hC hI hsz hF hBm hW
        go_wp2
        go_loopw [37] (fun i wr3 => ∃ (k : Nat) (cs2 : Array Value) (D : DataW Unit), k ≤ n ∧ i = .int .i64 k ∧ RS wo wr3 n k cs2 D (nrd xs bb cl k).1 (nrd xs bb cl k).2) (fun i _ => n - (intOf i).toNat)
        case atStart => exact ⟨0, _, _, Nat.zero_le _, rfl, HR0.out⟩
        case round =>
          clear HR0
          obtain ⟨w3, rfl⟩ : ∃ w3 : World, w3 = wr := ⟨_, rfl⟩
          obtain ⟨k, cs2, D, hk, rfl, hR⟩ := hrel
          by_cases hlt : k < n
          · obtain ⟨a0, ha0⟩ : ∃ a, cl.getD k 0 = a := ⟨_, rfl⟩
            have hz3 := hR.b.size
            have hz2 : wo.heap.size + 2 ≤ w3.heap.size := hR.nx.lt
            have ha1 : a0 ≤ 1000 := by rw [← ha0]; exact HLE.out k
            have B3 : Below w3.heap.size w3 (w3.alloc (.cells #[.pointer none, .slice none 0 0] 54)) := b_alloc (Below.refl _ _) _
            have hcc := cls_cell ((HCO.out.1.below hR.b hgo).below B3 (by omega)) HCO.out.2.2 (j := k) hlt
            rw [ha0] at hcc
            have HA := Lib.hid ha0
            have HT3 := Lib.hid (((HT.out.on HW.out).on (hR.b.mono (by omega))).on (B3.mono (by omega)))
            have HF := Lib.hid (Lib.fresh_isBuilder 54 5 w3)
            have HB3 := Lib.hid B3
            have HR := Lib.hid hR
            have szd := dtx_size ha1
            have e0 : (0 : Int) ≤ (k : Int) := by omega
            have e1 : (k : Int) < (n : Int) := by omega
            clear ha0 B3 hR
            go_wp2_with fail
            refine (i_fi (a0 : Int) _ (by omega) (by omega) HT3.out.here).mono ?_
            rintro e w4 ⟨rfl, hb4⟩
            rw [itx_nonneg]
            have HF4 := Lib.hid (isb_below HF.out hb4)
            have HB4 := Lib.hid (b_step HB3.out hb4)
            clear hcc hb4 HF HB3 HT3
            go_wp2_with fail
            refine (write_any w3.heap.size w3.heap.size [] (dtx a0) _ HF4.out (by simp; omega) HB4.out.size).mono ?_
            rintro e w5 ⟨rfl, hF5, hb5⟩
            have HF5 := Lib.hid (show Lib.IsBuilder 54 5 w3.heap.size w3.heap.size (Lib.byteCells (ky (kpre xs bb cl k a0 0))) w5 from by
              have := hF5
              rw [List.nil_append, str_dtx] at this
              simpa [ky, kpre, kyt] using this)
            have HB5 := Lib.hid (HB4.out.trans hb5)
            have m5 := ((HBM.out.below HR.out.b (by omega)).below HB5.out (by omega)).cell0
            clear hF5 hb5 HF4 HB4
            go_wp2
            clear m5
            go_loopw [48] (fun i w6 => ∃ t : Nat, t ≤ bb ∧ i = .int .i64 t ∧ Lib.IsBuilder 54 5 w3.heap.size w3.heap.size (Lib.byteCells (ky (kpre xs bb cl k a0 t))) w6 ∧ Below w3.heap.size w3 w6) (fun i _ => bb - (intOf i).toNat)
            case atStart => exact ⟨0, Nat.zero_le _, rfl, HF5.out, HB5.out⟩
            case round =>
              clear HF5 HB5
              obtain ⟨w6, rfl⟩ : ∃ w6 : World, w6 = wr := ⟨_, rfl⟩
              obtain ⟨t, ht, rfl, hF6, hB6⟩ := hrel
              have hz6 := hB6.size
              by_cases hlb : t < bb
              · obtain ⟨p, hp⟩ : ∃ p, nxt xs bb k t = p := ⟨_, rfl⟩
                obtain ⟨v1, v1n⟩ := HM.out.at_ hlt hlb
                rw [hp] at v1 v1n
                have M6 := (HBM.out.below HR.out.b (by omega)).below hB6 (by omega)
                have m0 := M6.cell0
                have m1 := M6.cell1
                have m2 := M6.cell2
                have RN := Lib.hid ((HNN0.out.below (Below.trans HW.out ((HR.out.b.mono (by omega)).trans (hB6.mono (by omega))))).more (show w.heap.size ≤ w6.heap.size by omega))
                have HV := Lib.hid v1
                have HF6 := Lib.hid hF6
                have HB6 := Lib.hid hB6
                clear v1 M6 hF6 hB6
                go_wp2_with fail
                refine (step_m bb N F xs n n c d k t (p : Int) _ RN.out hbb hn2 hlt hlb HM.out.len HV.out.symm).mono ?_
                rintro e w7 ⟨rfl, hb7⟩
                obtain ⟨a1, ha1e⟩ : ∃ a, cl.getD p 0 = a := ⟨_, rfl⟩
                have ha1l : a1 ≤ 1000 := by rw [← ha1e]; exact HLE.out p
                have HF7 := Lib.hid (isb_below HF6.out hb7)
                have B7 := b_step HB6.out hb7
                have hcc := cls_cell ((HCO.out.1.below HR.out.b hgo).below B7 (by omega)) HCO.out.2.2 (j := p) v1n
                rw [ha1e] at hcc
                have HA1 := Lib.hid ha1e
                have HP := Lib.hid hp
                have HT7 := Lib.hid (((HT.out.on HW.out).on (HR.out.b.mono (by omega))).on (B7.mono (by omega)))
                have HB7 := Lib.hid B7
                have szd1 := dtx_size ha1l
                have p0 : (0 : Int) ≤ (p : Int) := by omega
                have p1 : (p : Int) < (n : Int) := by omega
                clear m0 m1 m2 RN HV hb7 HF6 HB6 ha1e hp B7
                go_wp2_with fail
                refine (i_fi (a1 : Int) _ (by omega) (by omega) HT7.out.here).mono ?_
                rintro e w8 ⟨rfl, hb8⟩
                rw [itx_nonneg]
                have HF8 := Lib.hid (isb_below HF7.out hb8)
                have HB8 := Lib.hid (b_step HB7.out hb8)
                clear hcc hb8 HF7 HB7 HT7
                go_wp2_with fail
                refine (write_any w3.heap.size w3.heap.size _ ((⟨#[44]⟩ : ByteArray) ++ dtx a1) _ HF8.out (by rw [Lib.byteCells_length, ByteArray.size_append]; have := ky_len xs bb cl k a0 t ha1 HLE.out (by omega); show _ + (1 + _) ≤ _; omega) HB8.out.size).mono ?_
                rintro e w9 ⟨rfl, hF9, hb9⟩
                have HF9 := Lib.hid (show Lib.IsBuilder 54 5 w3.heap.size w3.heap.size (Lib.byteCells (ky (kpre xs bb cl k a0 (t + 1)))) w9 from by
                  have := hF9
                  rw [str_cdtx, ← byte_app] at this
                  rw [ky_next, HP.out, HA1.out]
                  exact this)
                have HB9 := Lib.hid (HB8.out.trans hb9)
                clear hF9 hb9 HF8 HB8
                go_wp2
                go_roundw
                case rel => exact ⟨t + 1, by omega, by go_num, HF9.out, HB9.out⟩
                case measure => simp [intOf]; omega
              · obtain rfl : bb = t := by omega
                have hG : kpre xs bb cl k a0 bb = sgn xs bb cl k := by unfold kpre sgn; rw [HA.out]
                obtain ⟨G, hGe⟩ : ∃ G, sgn xs bb cl k = G := ⟨_, rfl⟩
                have hkl := ky_len xs bb cl k a0 bb ha1 HLE.out hbb
                rw [hG, hGe] at hF6 hkl
                obtain ⟨kl, hkle⟩ : ∃ kl, ky G = kl := ⟨_, rfl⟩
                rw [hkle] at hF6 hkl
                have HKEY := Lib.hid (show keyOf Tryd.prog 9 (.string ⟨kl.toArray⟩) = some (.string kl) by
                  have := Go.WideMaps.keyOf_string_mk (P := Tryd.prog) Tryd.underlying9 (s := ⟨kl.toArray⟩) (by show kl.length ≤ _; unfold maxLen; omega)
                  simpa using this)
                have HGE := Lib.hid hGe
                have HKE := Lib.hid hkle
                have HF6 := Lib.hid (Lib.IsBuilderF.of hF6)
                have HB6 := Lib.hid hB6
                clear hG hGe hkle hF6 hB6 hkl ht hlb
                go_wp2_with fail
                refine (Tryd.Builder_String_any_f w3.heap.size w3.heap.size kl _ HF6.out HB6.out.size).mono ?_
                rintro e w7 ⟨rfl, hF7, hb7⟩
                have HF7 := Lib.hid hF7
                have HB7 := Lib.hid (HB6.out.trans hb7)
                have HR7 := Lib.hid (HR.out.call HB7.out)
                have HM7 := Lib.hid HR7.out.m
                obtain ⟨S, hS⟩ : ∃ S, (nrd xs bb cl k).1 = S := ⟨_, rfl⟩
                have lS : S.length ≤ k := by rw [← hS]; exact nrd_le _ _ _ _
                have HS := Lib.hid hS
                have hKM := HR7.out.km
                rw [hS] at hKM
                have HKM := Lib.hid hKM
                clear hF7 hb7 HF6 HB6 HR hS hKM
                by_cases hmem : G ∈ S
                · obtain ⟨q, hq⟩ : ∃ q, S.idxOf G = q := ⟨_, rfl⟩
                  have hql : q < S.length := by rw [← hq]; exact List.idxOf_lt_length_of_mem hmem
                  have hat := HKM.out.at_ q hql
                  rw [show S.getD q [] = G by subst hq; rw [List.getD_eq_getElem?_getD, List.getElem?_eq_getElem hql, List.getElem_idxOf]; rfl, HKE.out] at hat
                  have HHAT := Lib.hid hat
                  have HNR := Lib.hid (show nrd xs bb cl (k + 1) = (S, (nrd xs bb cl k).2 ++ [q]) by rw [nrd_old xs bb cl (by rw [HS.out, HGE.out]; exact hmem), HS.out, HGE.out, hq])
                  clear hq hmem hat
                  go_wp2_with (first | (at_lookup; refine wpList_lookup_own_ok_int _ rfl _ _ 50 rfl 9 3 .i64 laws_key Tryd.underlying50 Tryd.underlying3 (zero_int _) wo.heap.size k D rfl HM7.out _ _ rfl HKEY.out ?_; intro cc hatc hwc; obtain rfl : cc = (q : Int) := at_inj (hatc.symm.trans HHAT.out.1); rw [HHAT.out.2]; clear hatc hwc))
                  refine (Tryd.Builder_String_any_f w3.heap.size w3.heap.size kl _ HF7.out HB7.out.size).mono ?_
                  rintro e w8 ⟨rfl, hF8, hb8⟩
                  have HR8 := Lib.hid (RS.callB HR7.out hb8 hz2)
                  have HMAP := Lib.hid HR8.out.m
                  have HAT := HHAT.out.1
                  obtain ⟨v0, hcB⟩ := HR8.out.nx.ex (i := k) (by rw [HR8.out.sz]; exact hlt)
                  have hfB := HR8.out.nx.frozen k
                  clear hF8 hb8 HF7 HB7 HR7 HM7
                  go_wp2_with (first | (at_lookup; refine wpList_lookup_own_int _ rfl _ _ 50 rfl 9 3 .i64 laws_key Tryd.underlying50 Tryd.underlying3 (zero_int _) wo.heap.size k D rfl HMAP.out _ _ rfl HKEY.out ?_; intro cc hatc hwc; obtain rfl : cc = (q : Int) := at_inj (hatc.symm.trans HAT); clear hatc hwc))
                  go_roundw
                  case rel => exact ⟨k + 1, _, D, by omega, by go_num, by
                      rw [HNR.out]
                      have h8 := HR8.out
                      exact RS.put h8.b (h8.m.mono (Nat.le_succ _)) h8.nx h8.sz h8.fl h8.ln HKM.out hlt q⟩
                  case measure => simp [intOf]; omega
                · have hno : ∀ i, i < S.length → ky (S.getD i []) ≠ ky G := fun i hi e => hmem (by
                    have h2 : S.getD i [] = G := nrd_key HS.out HGE.out hi e
                    rw [← h2, List.getD_eq_getElem?_getD, List.getElem?_eq_getElem hi]
                    exact List.getElem_mem _)
                  have HNO := Lib.hid hno
                  have HHAS := Lib.hid (show Maps.has D (.string kl) = false by rw [← HKE.out]; exact HKM.out.no _ hno)
                  have HNR := Lib.hid (show nrd xs bb cl (k + 1) = (S ++ [G], (nrd xs bb cl k).2 ++ [S.length]) by rw [nrd_new xs bb cl (by rw [HS.out, HGE.out]; exact hmem), HS.out, HGE.out])
                  clear hno hmem
                  go_wp2_with (first | (at_lookup; refine wpList_lookup_own_ok_int _ rfl _ _ 50 rfl 9 3 .i64 laws_key Tryd.underlying50 Tryd.underlying3 (zero_int _) wo.heap.size k D rfl HM7.out _ _ rfl HKEY.out ?_; intro cc hatc hwc; rw [HHAS.out]; clear hatc hwc))
                  refine (Tryd.Builder_String_any_f w3.heap.size w3.heap.size kl _ HF7.out HB7.out.size).mono ?_
                  rintro e w8 ⟨rfl, hF8, hb8⟩
                  have HB8 := Lib.hid (HB7.out.trans hb8)
                  have HR8 := Lib.hid (RS.callB HR7.out hb8 hz2)
                  have HM8 := Lib.hid HR8.out.m
                  have HSZ := Lib.hid HKM.out.size
                  have HF8 := Lib.hid hF8
                  clear hF8 hb8 HF7 HB7 HR7 HM7
                  go_wp2_with (first | (at_len; refine wpList_len_own _ rfl _ 50 rfl 9 3 Tryd.underlying50 _ wo.heap.size k D rfl HM8.out ?_; rw [HSZ.out]) | (at_mapUpdate; refine wpList_mapUpdate_own _ rfl _ _ _ 50 rfl 9 3 laws_key Tryd.underlying50 _ wo.heap.size k _ rfl HM8.out (by unfold maxLen; omega) _ _ _ rfl rfl HKEY.out (.lit (.int .i64 (S.length : Int))) [] (plainElem_int Tryd.underlying3 (WalkArith.wf_i64 (by omega))) ?_; intro wm hown1 hgrow1))
                  obtain ⟨u1, u2, u3⟩ := RS.up (g := G) (show RS wo w8 n k cs2 D S (nrd xs bb cl k).2 from by have := HR8.out; rw [HS.out] at this; exact this) (by omega) HKE.out.symm HNO.out hown1 hgrow1
                  have HF9 := Lib.hid (isbF_grown HF8.out hgrow1 (by omega))
                  have HB9 := Lib.hid (Nat.le_trans HB8.out.size hgrow1.size)
                  have HU1 := Lib.hid u1
                  have HU2 := Lib.hid u2
                  have HU3 := Lib.hid u3
                  have HM9 := Lib.hid hown1
                  have hzm := u1.size
                  have HGS := Lib.hid hgrow1.size
                  clear u1 u2 u3 hown1 hgrow1 HF8
                  go_wp2_with fail
                  refine (Tryd.Builder_String_any_f w3.heap.size w3.heap.size kl _ HF9.out HB9.out).mono ?_
                  rintro e wn ⟨rfl, hF10, hb10⟩
                  have B10 := Lib.hid hb10
                  have HMAP := Lib.hid (ownsMap_below HM9.out B10.out (by omega))
                  have HAT := (HU3.out.at_ S.length (by simp)).1
                  rw [getD_app, if_neg (Nat.lt_irrefl _), if_pos rfl, HKE.out] at HAT
                  have N10 := HU2.out.below B10.out (by omega)
                  obtain ⟨v0, hcB⟩ := N10.ex (i := k) (by rw [HR8.out.sz]; exact hlt)
                  have hfB := N10.frozen k
                  have HN10 := Lib.hid N10
                  have HE10 := Lib.hid (HU1.out.trans (B10.out.mono (by omega)))
                  clear hF10 hb10 HF9 HB8 HB9 HM8 N10
                  go_wp2_with (first | (at_lookup; refine wpList_lookup_own_int _ rfl _ _ 50 rfl 9 3 .i64 laws_key Tryd.underlying50 Tryd.underlying3 (zero_int _) wo.heap.size (k + 1) _ rfl HMAP.out _ _ rfl HKEY.out ?_; intro cc hatc hwc; obtain rfl : cc = ((S.length : Nat) : Int) := at_inj (hatc.symm.trans HAT); clear hatc hwc))
                  go_roundw
                  case rel => exact ⟨k + 1, _, _, by omega, by go_num, by
                      rw [HNR.out]
                      have h8 := HR8.out
                      exact RS.put HE10.out HMAP.out HN10.out h8.sz h8.fl h8.ln HU3.out hlt S.length⟩
                  case measure => simp [intOf]; omega
          · obtain rfl : n = k := by omega
            have HM8 := Lib.hid hR.m
            obtain ⟨q, hq⟩ : ∃ q, cnt xs bb n cl = q := ⟨_, rfl⟩
            have HSZ := Lib.hid (show Maps.size D = q by rw [← hq]; exact hR.km.size)
            have hqn : q ≤ n := by rw [← hq]; exact cnt_le _ _ _ _
            have HR := Lib.hid hR
            have HQ := Lib.hid hq
            clear hR hq hlt hk
            by_cases hmm : mm = (q : Int)
            · have hb : (((q : Nat) : Int) == mm) = true := by simp [hmm]
              have HRES := Lib.hid (show stpK xs bb n (cl0 ys) n = (nrd xs bb cl n).2 by
                rcases hmany.out with ⟨_, e⟩ | ⟨i, e1, e2, h⟩
                · omega
                · subst e1
                  have e3 : cnt xs bb n (stpK xs bb n (cl0 ys) (i + 1)) = cnt xs bb n (stpK xs bb n (cl0 ys) i) := by rw [HCL.out, HQ.out]; omega
                  have := stop_rule h e3
                  rw [← this]
                  show stp xs bb n (stpK xs bb n (cl0 ys) (i + 1)) = _
                  rw [HCL.out]; rfl)
              clear hmm
              go_wp2_with (first | (at_len; refine wpList_len_own _ rfl _ 50 rfl 9 3 Tryd.underlying50 _ wo.heap.size n D rfl HM8.out ?_; rw [HSZ.out]))
              go_wp2
              go_ret
              rw [HRES.out]
              have hr := HR.out
              exact ⟨some ⟨wo.heap.size + 1, 0, none⟩, n, by rw [len_il, hr.ln]; rfl, .inr ⟨_, 0, cs2, rfl, by have := HW.out.size; omega, hr.nx, by rw [len_il, hr.ln]; exact hr.fl⟩, HW.out.trans (hr.b.mono HW.out.size)⟩
            · have hb : (((q : Nat) : Int) == mm) = false := by simp; omega
              have hlm : mm < (q : Int) := by
                rcases hmany.out with ⟨_, e⟩ | ⟨i, e1, e2, h⟩
                · omega
                · subst e1
                  have h3 : cnt xs bb n (stpK xs bb n (cl0 ys) i) ≤ q := by rw [← HQ.out, ← HCL.out]; exact cnt_mono _ _ _ _
                  omega
              have hq1 : j + 1 ≤ q := by
                rw [← HQ.out, ← HCL.out]
                rcases hmany.out with ⟨e, _⟩ | ⟨i, e, e2, h⟩
                · rw [e]; exact cnt_pos _ _ _ _ hn1
                · subst e
                  have := go_on (xs := xs) (bb := bb) (n := n) (cl := cl0 ys) h (fun e3 => hmm (by rw [e2, ← e3, HCL.out, HQ.out]))
                  omega
              clear hmm
              go_wp2_with (first | (at_len; refine wpList_len_own _ rfl _ 50 rfl 9 3 Tryd.underlying50 _ wo.heap.size n D rfl HM8.out ?_; rw [HSZ.out]))
              go_wp2_with (first | (at_len; refine wpList_len_own _ rfl _ 50 rfl 9 3 Tryd.underlying50 _ wo.heap.size n D rfl HM8.out ?_; rw [HSZ.out]))
              go_roundw
              case rel => exact ⟨j + 1, wo.heap.size + 1, q, rfl, rfl, by omega, by
                  have hr := HR.out
                  refine Lib.hid ⟨cs2, hr.nx, hr.sz, ?_⟩
                  show Fill cs2 0 n (il (stp xs bb n (stpK xs bb n (cl0 ys) j)))
                  rw [HCL.out]; exact hr.fl, .inr ⟨j, rfl, by rw [HCL.out, HQ.out], by rw [HCL.out, HQ.out]; exact hq1⟩, HBM.out.below HR.out.b (by omega), HW.out.trans (HR.out.b.mono HW.out.size)⟩
              case measure => simp [intOf]; omega
end Go.Proofs.YtoihjapbidbpdaaDoor
