/- Contracts of GaussDigits (program and reference). Conditions: none. -/
import Derived.Test.YthblbmihpgkanaaDoorGaussBad
import Derived.Test.YthblbmihpgkanaaDoorRow
import Derived.Test.YthblbmihpgkanaaDoorGaussDM
import Derived.Test.YthblbmihpgkanaaDoorMod
import Derived.Deep.LoopGhost
namespace Go.Proofs.YthblbmihpgkanaaDoor
open Go.RowKit
set_option linter.unusedVariables false

/-- Block g is the pair (x, y). -/
def BG (w : World) (g : Nat) (x y : Int) : Prop := w.heap[g]? = some (.cells #[.int .i64 x, .int .i64 y] 24 (0, 0))
section
variable {w w' : World} {g : Nat} {x y : Int}
theorem BG.eq {u v : Int} (h : BG w g u v) (hu : u = x) (hv : v = y) : BG w g x y := hu ▸ hv ▸ h
theorem BG.lt (h : BG w g x y) : g < w.heap.size := (Array.getElem?_eq_some_iff.1 h).1
theorem BG.cell0 (h : BG w g x y) : w.cell? ⟨g, 0, none⟩ = some (.int .i64 x) := cell_of_row w g 0 _ 24 (0, 0) h
theorem BG.cell1 (h : BG w g x y) : w.cell? ⟨g, 1, none⟩ = some (.int .i64 y) := cell_of_row w g 1 _ 24 (0, 0) h
theorem BG.frozen (h : BG w g x y) (i : Nat) : w.frozen? ⟨g, i, none⟩ = false := by
  unfold BG at h
  simp [World.frozen?, h]
theorem BG.new (w : World) (x y : Int) : BG (w.alloc (.cells #[.int .i64 x, .int .i64 y] 24)) w.heap.size x y := heap_alloc_new w _
theorem BG.set0 (h : BG w g x y) (u : Int) : BG (w.setCell ⟨g, 0, none⟩ (.int .i64 u)) g u y := by
  unfold BG at h ⊢
  simp [World.setCell, Array.getElem?_modify, h]
theorem BG.set1 (h : BG w g x y) (u : Int) : BG (w.setCell ⟨g, 1, none⟩ (.int .i64 u)) g x u := by
  unfold BG at h ⊢
  simp [World.setCell, Array.getElem?_modify, h]
theorem BG.below {B : Nat} (h : BG w g x y) (hb : Below B w w') (hg : g < B) : BG w' g x y := (hb.block g hg).trans h
theorem BG.alloc (h : BG w g x y) (o : Obj) : BG (w.alloc o) g x y := (Below.heap_alloc w o g h.lt).trans h
theorem BG.grow {v : Value} {l : List Int} {o : Obj} (h : BG w g x y) (hO : Row w (g + 1) v l) (hg : (w.alloc o).grownBy w' v.ownBlock) : BG w' g x y := by
  have hl := (h.alloc o).lt
  refine (hg.block g hl ?_).trans (h.alloc o)
  intro e
  have := (World.ownsRow.lt hO g e.symm).1
  omega
theorem Row.set {v : Value} {l : List Int} (hO : Row w (g + 1) v l) (i : Nat) (u : Value) : Row (w.setCell ⟨g, i, none⟩ u) (g + 1) v l := by
  refine World.ownsRow.kept (row := some g) hO ⟨rfl, rfl, rfl, by simp [World.setCell], fun k hk hne => Below.heap_setCell w ⟨g, i, none⟩ u k (fun e => hne (by rw [e]))⟩ ?_
  right
  intro e
  have := (World.ownsRow.lt hO g e).1
  omega
end
theorem Row.made_at (w : World) (n : Nat) (h : n = w.heap.size) : Row (w.alloc (.cells #[] 3)) n (.slice (some ⟨n, 0, none⟩) 0 0) [] := by subst h; exact Row.made w
theorem RetL.of1 {w w' : World} {v : Value} {xs ys : List Int} {B : Nat} (h : Row w' B v xs) (hB : w.heap.size ≤ B) (hb : Below w.heap.size w w') (e : xs = ys) : RetL w ys (.returned v) w' :=
  RetL.of (h.mono hB) hb e

theorem gds_gk {k : Nat} {x y : Int} (hk : 0 < k) (h : ¬ (x = 0 ∧ y = 0)) : gds k x y = (x + y) % 2 :: gds (k - 1) (gdX x y) (gdY x y) := by
  obtain ⟨k, rfl⟩ : ∃ q, k = q + 1 := ⟨k - 1, by omega⟩
  exact gds_step h
/-- What GaussDigits gives. -/
noncomputable def gdR (x y : Int) : List Int := @ite _ (gok x y) (Classical.propDecidable _) (gdL x y) []
theorem gdR_t {x y : Int} (h : gok x y) : gdR x y = gdL x y := by unfold gdR; rw [if_pos h]
theorem gdR_f {x y : Int} (h : ¬ gok x y) : gdR x y = [] := by unfold gdR; rw [if_neg h]
theorem length_gdR (x y : Int) : (gdR x y).length ≤ 400000 := by
  unfold gdR; split
  · exact length_gdL x y
  · simp

set_option maxHeartbeats 2000000 in
theorem i_gdig (x0 y0 : Int) (w : World) :
    Calls Tryd.prog 6 #[.agg #[.int .i64 x0, .int .i64 y0]] w (RetL w (gdR x0 y0)) := by
  obtain ⟨i0, hi, hz0, hz1, hz2⟩ := info_parts info_int
  by_cases hg : gok x0 y0
  · obtain ⟨h1, h2, h3, h4⟩ := hg
    have HR := Lib.hid (gdR_t (x := x0) (y := y0) ⟨h1, h2, h3, h4⟩)
    have hnu := nu_bd h1 h2 h3 h4
    go_enter Tryd.func6, Tryd.ntmps6
    go_wp2_with fail
    refine (impl_gok_ok x0 y0 _ h1 h2 h3 h4).mono ?_
    rintro e w1 ⟨rfl, c1, rfl⟩
    go_wp2_with fail
    have LB : w.heap.size < w.heap.size + 1 := by omega
    go_loopg [3] 400000 (fun gk o wr => ∃ (x y : Int) (l : List Int), BG wr w.heap.size x y ∧ nu x y < gk ∧ phi x y ≤ 300000 ∧ l.length + gk = 400000 ∧ Hid (gdL x0 y0 = l ++ gds gk x y) ∧ Row wr (w.heap.size + 1) o l ∧ Below w.heap.size w wr)
    case atStart => exact ⟨x0, y0, [], ((BG.new w x0 y0).alloc _), hnu, by unfold phi; omega, rfl, rfl, Row.nil _ _, b_alloc (b_alloc (Below.refl _ _) _) _⟩
    case round =>
      obtain ⟨x, y, l, hB, hn, hph, hll, hD, hO, hW⟩ := hrel
      have c0 := hB.cell0
      have c1' := hB.cell1
      have fz := hB.frozen
      have lt := hB.lt
      have p1 : x.natAbs ≤ 300000 := by unfold phi at hph; omega
      have p2 : y.natAbs ≤ 300000 := by unfold phi at hph; omega
      have HB := Lib.hid hB
      have HW := Lib.hid hW
      have HO := Lib.hid hO
      clear hB hW hO
      by_cases h0 : x = 0 ∧ y = 0
      · obtain ⟨rfl, rfl⟩ := h0
        go_wp2
        go_ret
        exact RetL.of1 HO.out (by omega) HW.out (by rw [HR.out, hD.out, gds_zero, List.append_nil])
      · have hs := nu_step h0
        have hp := phi_step x y
        have HGS := Lib.hid (gds_gk (k := gk) (by omega) h0)
        have HS := Lib.hid hs
        have HP := Lib.hid hp
        have HN := Lib.hid hn
        have HPH := Lib.hid hph
        have HLL := Lib.hid hll
        have hl2 : l.length ≤ 400000 := by omega
        clear hs hp hn hph hll
        have d0 : 0 ≤ (x + y) % 2 := Int.emod_nonneg _ (by omega)
        have d1 : (x + y) % 2 ≤ 1 := by omega
        obtain ⟨d, hd⟩ : ∃ d, d = (x + y) % 2 := ⟨_, rfl⟩
        rw [← hd] at d0 d1
        have HDD := Lib.hid hd
        clear hd
        by_cases hx : x = 0
        · subst hx
          go_wp2_with fail
          refine (i_mod y 2 _ (by omega) (by omega)).mono ?_
          rw [show y % 2 = d by rw [HDD.out, Int.zero_add]]
          rintro e w1 ⟨rfl, rfl⟩
          have hO := HO.out
          go_wp2_with (first | (at_builtin; refine wpList_append_own _ rfl _ _ 26 rfl (w.heap.size + 1) 3 i0 (.int .i64 0) 1 8 Tryd.underlying26 hi hz0 hz1 hz2 rfl (by decide) _ _ _ rfl (World.ownsRow.alloc hO _) ⟨wr.heap.size, 0, none⟩ 1 1 [.int .i64 d] rfl rfl (cell_one_new _ _ _) ?c1_1 ?c1_2 ?c1_3 ?c1_4 ?_))
          case c1_1 => first | rfl | (intro u hu; simp at hu; subst hu; rfl)
          case c1_2 => unfold maxLen; omega
          case c1_3 => omega
          case c1_4 => first | omega | (simp; omega)
          intro v1 w2 hown1 hgrow1 _
          have HB2 := Lib.hid (HB.out.grow hO hgrow1)
          have HO2 := Lib.hid (Row.app hown1)
          have HW2 := Lib.hid ((b_alloc HW.out _).grown hgrow1 (b_alloc HW.out _).size fun k hk => Nat.le_of_succ_le (World.ownsRow.lt hO k hk).1)
          clear hown1 hgrow1 hO HO HW HB c0 c1' fz lt
          have c0 := HB2.out.cell0
          have c1' := HB2.out.cell1
          have fz := HB2.out.frozen
          have lt := HB2.out.lt
          go_wp2
          go_roundg (gk - 1)
          case measure => have := HN.out; omega
          case rel => exact ⟨gdX 0 y, gdY 0 y, l ++ [d], BG.eq (((HB2.out.set0 _).set0 _).set1 _) (by rw [gdX, ← HDD.out]; try (congr 1; omega)) (by rw [gdY, ← HDD.out]; try (congr 1; omega)), by have := HN.out; have := HS.out; omega, by have := HP.out; have := HPH.out; omega, by have := HLL.out; have := HN.out; simp; omega, by unfold Hid; rw [hD.out, List.append_assoc, HDD.out, HGS.out]; rfl, ((HO2.out.set 0 _).set 0 _).set 1 _, b_set (b_set (b_set HW2.out (Nat.le_refl _) _) (Nat.le_refl _) _) (Nat.le_refl _) _⟩
        · skip
          go_wp2_with fail
          refine (i_mod (x + y) 2 _ (by omega) (by omega)).mono ?_
          rw [show (x + y) % 2 = d by rw [HDD.out]]
          rintro e w1 ⟨rfl, rfl⟩
          have hO := HO.out
          go_wp2_with (first | (at_builtin; refine wpList_append_own _ rfl _ _ 26 rfl (w.heap.size + 1) 3 i0 (.int .i64 0) 1 8 Tryd.underlying26 hi hz0 hz1 hz2 rfl (by decide) _ _ _ rfl (World.ownsRow.alloc hO _) ⟨wr.heap.size, 0, none⟩ 1 1 [.int .i64 d] rfl rfl (cell_one_new _ _ _) ?c2_1 ?c2_2 ?c2_3 ?c2_4 ?_))
          case c2_1 => first | rfl | (intro u hu; simp at hu; subst hu; rfl)
          case c2_2 => unfold maxLen; omega
          case c2_3 => omega
          case c2_4 => first | omega | (simp; omega)
          intro v1 w2 hown1 hgrow1 _
          have HB2 := Lib.hid (HB.out.grow hO hgrow1)
          have HO2 := Lib.hid (Row.app hown1)
          have HW2 := Lib.hid ((b_alloc HW.out _).grown hgrow1 (b_alloc HW.out _).size fun k hk => Nat.le_of_succ_le (World.ownsRow.lt hO k hk).1)
          clear hown1 hgrow1 hO HO HW HB c0 c1' fz lt
          have c0 := HB2.out.cell0
          have c1' := HB2.out.cell1
          have fz := HB2.out.frozen
          have lt := HB2.out.lt
          go_wp2
          go_roundg (gk - 1)
          case measure => have := HN.out; omega
          case rel => exact ⟨gdX x y, gdY x y, l ++ [d], BG.eq (((HB2.out.set0 _).set0 _).set1 _) (by rw [gdX, ← HDD.out]; try (congr 1; omega)) (by rw [gdY, ← HDD.out]; try (congr 1; omega)), by have := HN.out; have := HS.out; omega, by have := HP.out; have := HPH.out; omega, by have := HLL.out; have := HN.out; simp; omega, by unfold Hid; rw [hD.out, List.append_assoc, HDD.out, HGS.out]; rfl, ((HO2.out.set 0 _).set 0 _).set 1 _, b_set (b_set (b_set HW2.out (Nat.le_refl _) _) (Nat.le_refl _) _) (Nat.le_refl _) _⟩
  · have HR := Lib.hid (gdR_f (x := x0) (y := y0) hg)
    have HG := Lib.hid hg
    clear hg
    go_enter Tryd.func6, Tryd.ntmps6
    go_wp2_with fail
    refine (impl_gok_bad x0 y0 _ HG.out).mono ?_
    rintro e w1 ⟨rfl, c1, rfl⟩
    go_wp2
    go_ret
    exact RetL.of (Row.nil _ _) (b_alloc (b_alloc (Below.refl _ _) _) _) HR.out.symm

end Go.Proofs.YthblbmihpgkanaaDoor
