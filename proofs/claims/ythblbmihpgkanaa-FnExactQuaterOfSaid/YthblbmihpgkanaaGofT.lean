/- Contract of l02Turn; small words. Conditions: lengths of at most 2^20. -/
import Derived.Test.YthblbmihpgkanaaGofJ
import Derived.Test.YthblbmihpgkanaaIn
import Derived.Deep.LoopGhost
import Derived.Outline
import Derived.RegionTactic
import Derived.StillTailTactics
namespace Go.Proofs.Ythblbmihpgkanaa
open Go.RowKit
set_option linter.unusedVariables false

set_option maxHeartbeats 1000000 in
theorem s_turn (A : Option Addr) (xs : List Int) (c : Nat) (w : World) (hR : RI w w.heap.size A xs) (hl : xs.length ≤ 1048576) :
    Calls Try.prog 51 #[.slice A xs.length c] w (RetL w xs.reverse) := by
  obtain ⟨i0, hi, hz0, hz1, hz2⟩ := info_parts info_int
  go_enter Try.func51, Try.ntmps51
  go_wp2
  go_loopw [3, 4] (fun o i wr => ∃ (k : Nat) (l : List Int), k ≤ xs.length ∧ i = .int .i64 ((k : Int) - 1) ∧ Hid (l = (xs.drop k).reverse) ∧ l.length ≤ 1048576 ∧ Row wr w.heap.size o l ∧ Below w.heap.size w wr) (fun _ i _ => (intOf i + 1).toNat)
  case atStart => exact ⟨xs.length, [], Nat.le_refl _, rfl, by unfold Hid; simp, by simp, Row.made w, b_alloc (Below.refl _ _) _⟩
  case round =>
    obtain ⟨k, l, hk, rfl, hD, hl2, hO, hW⟩ := hrel
    rcases Nat.eq_zero_or_pos k with rfl | hp
    · go_wp2
      go_ret
      exact RetL.of hO hW (by rw [hD.out, List.drop_zero])
    · obtain ⟨q, rfl⟩ : ∃ q, k = q + 1 := ⟨k - 1, by omega⟩
      obtain ⟨b0, off, hA, hb0, hc⟩ := (hR.below hW).at_ (k := q) (by omega)
      subst hA
      obtain ⟨d, hd⟩ : ∃ d, d = xs.getD q 0 := ⟨_, rfl⟩
      rw [← hd] at hc
      have HD2 := Lib.hid (show l ++ [d] = (xs.drop q).reverse by
        have hq : q < xs.length := by omega
        rw [List.drop_eq_getElem_cons hq, List.reverse_cons, ← hD.out, hd]; simp [hq])
      have hl3 : (l ++ [d]).length ≤ 1048576 := by rw [HD2.out]; simp; omega
      have hl4 : l.length < 1048576 := by simp at hl3; omega
      have hw0 := hW.size
      have HW := Lib.hid hW
      have HR := Lib.hid hR
      have HL3 := Lib.hid hl3
      have e : ((q + 1 : Nat) : Int) - 1 = q := by omega
      rw [e]
      clear e hW hR hd hD hl3
      go_wp2_with (first | (at_builtin; refine wpList_append_own _ rfl _ _ 34 rfl w.heap.size 3 i0 (.int .i64 0) 1 8 Try.underlying34 hi hz0 hz1 hz2 rfl (by decide) _ _ _ rfl (World.ownsRow.alloc hO _) ⟨wr.heap.size, 0, none⟩ 1 1 [.int .i64 d] rfl rfl (cell_one_new _ _ _) ?c1_1 ?c1_2 ?c1_3 ?c1_4 ?_))
      case c1_1 => first | rfl | (intro u hu; simp at hu; subst hu; rfl)
      case c1_2 => unfold maxLen; omega
      case c1_3 => omega
      case c1_4 => first | omega | (simp; omega)
      intro v1 w1 hown1 hgrow1 _
      have HO1 := Lib.hid (Row.app hown1)
      have HW1 := Lib.hid (Row.grow hO HW.out hgrow1)
      clear hown1 hgrow1 hO HW
      go_wp2
      go_roundw
      case rel => exact ⟨q, l ++ [d], by omega, rfl, HD2.out, HL3.out, HO1.out, HW1.out⟩
      case measure => simp [intOf]

theorem OI.set {w : World} {B : Nat} {A : Option Addr} {xs : List Int} (h : OI w B A xs) {p : Addr} (hp : p.block < B) (u : Value) : OI (w.setCell p u) B A xs :=
  h.other (A' := some p) (fun a ha => by injection ha with ha; subst ha; exact hp) ((Oth.refl w (some p)).set rfl u)
theorem OI.more1 {w : World} {B B2 : Nat} {A : Option Addr} {xs : List Int} (h : OI w B2 A xs) (hB : B ≤ B2) : OI w B A xs := by
  rcases h with h | ⟨g, off, cs, hA, hg, r⟩
  · exact .inl h
  · exact .inr ⟨g, off, cs, hA, Nat.le_trans hB hg, r⟩
theorem rev_getD {xs : List Int} {j q : Nat} (h : q + (j + 1) = xs.length) : xs.reverse.getD j 0 = xs.getD q 0 := by
  have h1 : j < xs.reverse.length := by simp; omega
  have h2 : q < xs.length := by omega
  rw [List.getD_eq_getElem?_getD, List.getElem?_eq_getElem h1, Option.getD_some, List.getD_eq_getElem?_getD, List.getElem?_eq_getElem h2, Option.getD_some, List.getElem_reverse]
  congr 1
  omega
end Go.Proofs.Ythblbmihpgkanaa
