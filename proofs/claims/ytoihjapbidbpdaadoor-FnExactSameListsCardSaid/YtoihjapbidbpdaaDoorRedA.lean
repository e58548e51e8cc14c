/- ReduceMachine of both sides at every machine. Conditions: lengths of at most 2^21; the implementation: internal/strconv.uint64pow10 reads as the text lays it. -/
import Derived.Test.YtoihjapbidbpdaaDoorRedI
import Derived.Deep.RegionHeld3
import Derived.Deep.DeepCutAuto
namespace Go.Proofs.YtoihjapbidbpdaaDoor
open Go.RowKit
set_option linter.unusedVariables false
theorem BM.newd (w : World) (b : Int) (vN vF : Value) : BM (w.alloc (.cells #[.int .i64 b, vN, vF] 28)).drew w.heap.size b vN vF := heap_alloc_new w _
theorem set3 {w : World} {g : Nat} {b : Int} {vN vF : Value} (h : BM w g b vN vF) (b' : Int) (v1 v2 : Value) : BM (((w.setCell ⟨g, 0, none⟩ (.int .i64 b')).setCell ⟨g, 1, none⟩ v1).setCell ⟨g, 2, none⟩ v2) g b' v1 v2 ∧
    (∀ B A xs, OI w B A xs → OI (((w.setCell ⟨g, 0, none⟩ (.int .i64 b')).setCell ⟨g, 1, none⟩ v1).setCell ⟨g, 2, none⟩ v2) B A xs) ∧ (∀ B A ys, OB w B A ys → OB (((w.setCell ⟨g, 0, none⟩ (.int .i64 b')).setCell ⟨g, 1, none⟩ v1).setCell ⟨g, 2, none⟩ v2) B A ys) := by
  have one : ∀ k, k ≠ g → (((w.setCell ⟨g, 0, none⟩ (.int .i64 b')).setCell ⟨g, 1, none⟩ v1).setCell ⟨g, 2, none⟩ v2).heap[k]? = w.heap[k]? := fun k hk =>
    (Below.heap_setCell _ _ _ k hk).trans ((Below.heap_setCell _ _ _ k hk).trans (Below.heap_setCell _ _ _ k hk))
  refine ⟨((h.set0 b').set1 v1).set2 v2, ?_, ?_⟩
  · intro B A xs ho
    rcases ho with ho | ⟨k, off, cs, hA, hB, hc, hf⟩
    · exact .inl ho
    · refine .inr ⟨k, off, cs, hA, hB, (one k ?_).trans hc, hf⟩
      intro e
      subst e
      have := hc.symm.trans h
      injection this with this
      injection this with _ this
      exact absurd this (by decide)
  · intro B A xs ho
    rcases ho with ho | ⟨k, off, cs, hA, hB, hc, hf⟩
    · exact .inl ho
    · refine .inr ⟨k, off, cs, hA, hB, (one k ?_).trans hc, hf⟩
      intro e
      subst e
      have := hc.symm.trans h
      injection this with this
      injection this with _ this
      exact absurd this (by decide)
theorem b_set3 {w w1 : World} {g : Nat} {u0 u1 u2 : Value} (h : Below w.heap.size w w1) (hg : w.heap.size ≤ g) : Below w.heap.size w (((w1.setCell ⟨g, 0, none⟩ u0).setCell ⟨g, 1, none⟩ u1).setCell ⟨g, 2, none⟩ u2) := b_set (b_set (b_set h hg _) hg _) hg _
theorem cutT {T G : Prop} (h : T) (k : T → G) : G := k h
theorem RI.upTo {w w' : World} {B : Nat} {A : Option Addr} {xs : List Int} (h : RI w B A xs) (hb : Below w.heap.size w w') (hB : B ≤ w.heap.size) : RI w' w'.heap.size A xs := (h.below (hb.mono hB)).more (Nat.le_trans hB hb.size)
theorem RB.upTo {w w' : World} {B : Nat} {A : Option Addr} {xs : List Bool} (h : RB w B A xs) (hb : Below w.heap.size w w') (hB : B ≤ w.heap.size) : RB w' w'.heap.size A xs := (h.below (hb.mono hB)).more (Nat.le_trans hB hb.size)
theorem OI.lowB {w w' w2 : World} {A : Option Addr} {xs : List Int} (h : OI w2 w'.heap.size A xs) (hb : Below w.heap.size w w') : OI w2 w.heap.size A xs := h.low hb.size
theorem OB.lowB {w w' w2 : World} {A : Option Addr} {xs : List Bool} (h : OB w2 w'.heap.size A xs) (hb : Below w.heap.size w w') : OB w2 w.heap.size A xs := h.low hb.size

set_option maxRecDepth 100000 in
set_option maxHeartbeats 2000000 in
theorem spec_r1 (b : Int) (N F : Option Addr) (xs : List Int) (ys : List Bool) (c d : Nat) (w : World) (hN : RI w w.heap.size N xs) (hl : xs.length ≤ 2097152) (hm : ys.length ≤ 2097152) (hA : mok b xs ys.length = false) :
    Calls Tryd.prog 10 #[.agg #[.int .i64 b, .slice N xs.length c, .slice F ys.length d]] w (RetM w 0 [] [] false) := by
  have HOA := Lib.hid hA
  have HN := Lib.hid hN
  clear hA hN
  have T0 := b_alloc (b_alloc (Below.refl w.heap.size w) (.cells #[.int .i64 b, .slice N xs.length c, .slice F ys.length d] 28)) (.cells #[.int .i64 0, .slice none 0 0, .slice none 0 0] 28)
  have M0 := (BM.new w b (.slice N xs.length c) (.slice F ys.length d)).below (b_alloc (Below.refl _ _) (.cells #[.int .i64 0, .slice none 0 0, .slice none 0 0] 28)) (by simp)
  have M2 := BM.new (w.alloc (.cells #[.int .i64 b, .slice N xs.length c, .slice F ys.length d] 28)) 0 (.slice none 0 0) (.slice none 0 0)
  simp only [World.size_alloc] at M2
  have HT0 := Lib.hid T0
  have HM0 := Lib.hid M0
  have HM2 := Lib.hid M2
  clear T0 M0 M2
  go_enter Tryd.func10, Tryd.ntmps10
  go_wp2_with fail
  refine (spec_mok _ _ _ xs _ _ _ _ ((HN.out.below HT0.out).more HT0.out.size) (by omega) (by omega)).mono ?_
  rw [HOA.out]
  rintro e w1 ⟨rfl, hb⟩
  have hz1' : w.heap.size + 1 < w1.heap.size := by have := hb.size; simp at this; omega
  have m0 := HM0.out.below hb (by first | (simp; done) | (simp; omega))
  have m2 := HM2.out.below hb (by simp)
  have HT1 := Lib.hid (b_step HT0.out hb)
  clear HT0 HM0 HM2 hb
  have HM0 := Lib.hid m0
  have HM2 := Lib.hid m2
  have q0 := m0.cell0
  have q1 := m0.cell1
  have q2 := m0.cell2
  have s0 := m2.cell0
  have s1 := m2.cell1
  have s2 := m2.cell2
  have s3 := fun i => m2.frozen i
  clear m0 m2
  go_wp2_with fail
  have M1f := ((HM2.out.set0 0).set1 (.slice none 0 0)).set2 (.slice none 0 0)
  have f0 := M1f.cell0
  have f1 := M1f.cell1
  have f2 := M1f.cell2
  exact bodyPost_ret (v := .tuple #[.agg #[.int .i64 0, .slice none 0 0, .slice none 0 0], .bool false]) (by simp [results, Tryd.results10, go_sem, f0, f1, f2]) rfl ⟨none, none, 0, 0, rfl, .inl rfl, .inl rfl, b_set (b_set (b_set HT1.out (by first | (simp; done) | (simp; omega)) _) (by first | (simp; done) | (simp; omega)) _) (by first | (simp; done) | (simp; omega)) _⟩

set_option maxRecDepth 100000 in
set_option maxHeartbeats 2000000 in
theorem impl_r1 (b : Int) (N F : Option Addr) (xs : List Int) (ys : List Bool) (c d : Nat) (w : World) (hN : RI w w.heap.size N xs) (hl : xs.length ≤ 2097152) (hm : ys.length ≤ 2097152) (hA : mok b xs ys.length = false) :
    Calls Tryd.prog 11 #[.agg #[.int .i64 b, .slice N xs.length c, .slice F ys.length d]] w (RetM w 0 [] [] false) := by
  have HOA := Lib.hid hA
  have HN := Lib.hid hN
  clear hA hN
  have T0 := b_alloc (b_alloc (Below.refl w.heap.size w) (.cells #[.int .i64 b, .slice N xs.length c, .slice F ys.length d] 28)) (.cells #[.int .i64 0, .slice none 0 0, .slice none 0 0] 28)
  have M0 := (BM.new w b (.slice N xs.length c) (.slice F ys.length d)).below (b_alloc (Below.refl _ _) (.cells #[.int .i64 0, .slice none 0 0, .slice none 0 0] 28)) (by simp)
  have M2 := BM.new (w.alloc (.cells #[.int .i64 b, .slice N xs.length c, .slice F ys.length d] 28)) 0 (.slice none 0 0) (.slice none 0 0)
  simp only [World.size_alloc] at M2
  have HT0 := Lib.hid T0
  have HM0 := Lib.hid M0
  have HM2 := Lib.hid M2
  clear T0 M0 M2
  go_enter Tryd.func11, Tryd.ntmps11
  go_wp2_with fail
  refine (impl_mok _ _ _ xs _ _ _ _ ((HN.out.below HT0.out).more HT0.out.size) (by omega) (by omega)).mono ?_
  rw [HOA.out]
  rintro e w1 ⟨rfl, hb⟩
  have hz1' : w.heap.size + 1 < w1.heap.size := by have := hb.size; simp at this; omega
  have m0 := HM0.out.below hb (by first | (simp; done) | (simp; omega))
  have m2 := HM2.out.below hb (by simp)
  have HT1 := Lib.hid (b_step HT0.out hb)
  clear HT0 HM0 HM2 hb
  have HM0 := Lib.hid m0
  have HM2 := Lib.hid m2
  have q0 := m0.cell0
  have q1 := m0.cell1
  have q2 := m0.cell2
  have s0 := m2.cell0
  have s1 := m2.cell1
  have s2 := m2.cell2
  have s3 := fun i => m2.frozen i
  clear m0 m2
  go_wp2_with fail
  have M1f := ((HM2.out.set0 0).set1 (.slice none 0 0)).set2 (.slice none 0 0)
  have f0 := M1f.cell0
  have f1 := M1f.cell1
  have f2 := M1f.cell2
  exact bodyPost_ret (v := .tuple #[.agg #[.int .i64 0, .slice none 0 0, .slice none 0 0], .bool false]) (by simp [results, Tryd.results11, go_sem, f0, f1, f2]) rfl ⟨none, none, 0, 0, rfl, .inl rfl, .inl rfl, b_set (b_set (b_set HT1.out (by first | (simp; done) | (simp; omega)) _) (by first | (simp; done) | (simp; omega)) _) (by first | (simp; done) | (simp; omega)) _⟩

theorem mc_of {b : Int} {xs : List Int} {n : Nat} (h : mok b xs n = true) : ∃ bb : Nat, b = (bb : Int) ∧ MC xs bb n := by
  obtain ⟨h1, h2, h3, h4, h5, h6⟩ := mok_iff.1 h
  obtain ⟨bb, rfl⟩ := Int.eq_ofNat_of_zero_le (show 0 ≤ b by omega)
  refine ⟨bb, rfl, ⟨by omega, by omega, h3, h4, ?_, ?_⟩⟩
  · have e : (xs.length : Int) = ((bb * n : Nat) : Int) := by rw [h5]; exact (Int.natCast_mul _ _).symm
    rw [Nat.mul_comm]; exact Int.ofNat.inj e
  · intro j hj
    have := allB_iff.1 h6 (xs.getD j 0) (by rw [List.getD_eq_getElem?_getD, List.getElem?_eq_getElem hj]; exact List.getElem_mem hj)
    omega
/-- The answer's parts. -/
def rCl (b : Int) (xs : List Int) (ys : List Bool) : List Nat := stpK xs b.toNat ys.length (cl0 ys) ys.length
noncomputable def rB (b : Int) (xs : List Int) (ys : List Bool) : Int := if mok b xs ys.length = true then b else 0
noncomputable def rX (b : Int) (xs : List Int) (ys : List Bool) : List Int := if mok b xs ys.length = true then il (redN xs b.toNat ys.length (rCl b xs ys)) else []
noncomputable def rY (b : Int) (xs : List Int) (ys : List Bool) : List Bool := if mok b xs ys.length = true then redF xs b.toNat ys.length (rCl b xs ys) ys else []
theorem rCl_lt {b : Int} {xs : List Int} {ys : List Bool} (h : mok b xs ys.length = true) : ∀ s, s < ys.length → (rCl b xs ys).getD s 0 < ys.length := by
  intro s hs
  unfold rCl
  obtain ⟨n', hn⟩ : ∃ n', ys.length = n' + 1 := ⟨ys.length - 1, by omega⟩
  rw [hn] at hs ⊢
  exact stp_lt _ _ _ _ s hs
theorem bend_le {xs : List Int} {bb n : Nat} {cl : List Nat} (hM : MC xs bb n) (hcl : ∀ s, s < n → cl.getD s 0 < n) : ∀ f i, i ≤ n → (∀ q, q < i → q < (bou xs bb cl q).1.length) → bend xs bb cl f i ≤ n
  | 0, i, hi, _ => by rw [bend]; exact hi
  | f + 1, i, hi, h => by
    by_cases hg : i < (bou xs bb cl i).1.length
    · rw [bend_go hg]
      have := (BOK.bou (cl := cl) hM i h).len hcl
      exact bend_le hM hcl f (i + 1) (by omega) (fun q hq => by
        rcases Nat.lt_succ_iff_lt_or_eq.1 hq with h' | rfl
        · exact h q h'
        · exact hg)
    · rw [bend_stop hg]; exact hi
theorem redI_le {xs : List Int} {bb n : Nat} {cl : List Nat} (hM : MC xs bb n) (hcl : ∀ s, s < n → cl.getD s 0 < n) : redI xs bb n cl ≤ n :=
  bend_le hM hcl _ 0 (by omega) (fun q hq => by omega)
theorem r_len (b : Int) (xs : List Int) (ys : List Bool) : (rX b xs ys).length ≤ 2000 ∧ (rY b xs ys).length ≤ 2000 := by
  unfold rX rY
  by_cases h : mok b xs ys.length = true
  · rw [if_pos h, if_pos h]
    obtain ⟨bb, rfl, hM⟩ := mc_of h
    have hI := redI_le hM (rCl_lt h)
    have h1 := hM.b10
    have h2 := hM.n144
    constructor
    · rw [len_il]
      unfold redN
      rw [bou_len]
      have : redI xs ((bb : Int).toNat) ys.length (rCl (bb : Int) xs ys) * ((bb : Int).toNat) ≤ 144 * 10 := Nat.mul_le_mul (by simpa using Nat.le_trans hI h2) (by simpa using h1)
      omega
    · unfold redF
      rw [List.length_map, List.length_take]
      have : redI xs ((bb : Int).toNat) ys.length (rCl (bb : Int) xs ys) ≤ 144 := by simpa using Nat.le_trans hI h2
      omega
  · rw [if_neg h, if_neg h]; simp

theorem spec_red (b : Int) (N F : Option Addr) (xs : List Int) (ys : List Bool) (c d : Nat) (w : World) (hN : RI w w.heap.size N xs) (hF : RB w w.heap.size F ys) (hl : xs.length ≤ 2097152) (hm : ys.length ≤ 2097152) :
    Calls Tryd.prog 10 #[.agg #[.int .i64 b, .slice N xs.length c, .slice F ys.length d]] w (RetM w (rB b xs ys) (rX b xs ys) (rY b xs ys) (mok b xs ys.length)) := by
  cases h : mok b xs ys.length
  · have h' : ¬ mok b xs ys.length = true := by rw [h]; decide
    have e1 : rB b xs ys = 0 := if_neg h'
    have e2 : rX b xs ys = [] := if_neg h'
    have e3 : rY b xs ys = [] := if_neg h'
    rw [e1, e2, e3]
    exact spec_r1 b N F xs ys c d w hN hl hm h
  · obtain ⟨bb, rfl, hM⟩ := mc_of h
    have e1 : rB ((bb : Nat) : Int) xs ys = ((bb : Nat) : Int) := if_pos h
    have e2 : rX ((bb : Nat) : Int) xs ys = il (redN xs bb ys.length (stpK xs bb ys.length (cl0 ys) ys.length)) := if_pos h
    have e3 : rY ((bb : Nat) : Int) xs ys = redF xs bb ys.length (stpK xs bb ys.length (cl0 ys) ys.length) ys := if_pos h
    rw [e1, e2, e3]
    exact s_reduce_t bb ys.length N F xs ys c d w hM rfl h hN hF

theorem impl_red (b : Int) (N F : Option Addr) (xs : List Int) (ys : List Bool) (c d : Nat) (w : World) (hN : RI w w.heap.size N xs) (hF : RB w w.heap.size F ys) (hl : xs.length ≤ 2097152) (hm : ys.length ≤ 2097152) (hT : Lib.TabBelow Tryd.prog w.heap.size w "internal/strconv.uint64pow10" .u64 Lib.pow10Tab) :
    Calls Tryd.prog 11 #[.agg #[.int .i64 b, .slice N xs.length c, .slice F ys.length d]] w (RetM w (rB b xs ys) (rX b xs ys) (rY b xs ys) (mok b xs ys.length)) := by
  cases h : mok b xs ys.length
  · have h' : ¬ mok b xs ys.length = true := by rw [h]; decide
    have e1 : rB b xs ys = 0 := if_neg h'
    have e2 : rX b xs ys = [] := if_neg h'
    have e3 : rY b xs ys = [] := if_neg h'
    rw [e1, e2, e3]
    exact impl_r1 b N F xs ys c d w hN hl hm h
  · obtain ⟨bb, rfl, hM⟩ := mc_of h
    have e1 : rB ((bb : Nat) : Int) xs ys = ((bb : Nat) : Int) := if_pos h
    have e2 : rX ((bb : Nat) : Int) xs ys = il (redN xs bb ys.length (stpK xs bb ys.length (cl0 ys) ys.length)) := if_pos h
    have e3 : rY ((bb : Nat) : Int) xs ys = redF xs bb ys.length (stpK xs bb ys.length (cl0 ys) ys.length) ys := if_pos h
    rw [e1, e2, e3]
    exact i_reduce_t bb ys.length N F xs ys c d w hM rfl h hN hF hT
end Go.Proofs.YtoihjapbidbpdaaDoor
