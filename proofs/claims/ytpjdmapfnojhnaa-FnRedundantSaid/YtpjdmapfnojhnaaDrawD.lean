/- Contracts of spec.l18List, spec.MakeRedundant, impl.DigitsOf. Conditions: code of at most 2^20 bytes. -/
import Derived.Test.YtpjdmapfnojhnaaNum
import Derived.Test.YtpjdmapfnojhnaaRedM
import Derived.Maps.AppendAt
namespace Go.Proofs.Ytpjdmapfnojhnaa
open Go.RowKit
set_option linter.unusedVariables false

theorem OI.low {w : World} {B B' : Nat} {A : Option Addr} {xs : List Int} (h : OI w B A xs) (hB : B' ≤ B) : OI w B' A xs := by
  rcases h with h | ⟨g, off, cs, hA, hg, r⟩
  · exact .inl h
  · exact .inr ⟨g, off, cs, hA, by omega, r⟩
theorem zap_own {w : World} {g off q B : Nat} {cs : Array Value} {xs : List Int} (hg : B ≤ g) (h : BI w g cs) (hF : Fill cs off xs.length xs) (hq : xs.length = q + 1) : OI (w.setCell ⟨g, off + q, none⟩ (.int .i64 0)) B (some ⟨g, off, none⟩) (zap xs) := by
  refine .inr ⟨g, off, _, rfl, hg, h.set_ _ _, fun j hj => ?_⟩
  rw [length_zap] at hj
  rw [Array.getElem?_setIfInBounds]
  by_cases e : off + q = off + j
  · obtain rfl : q = j := by omega
    have hs : off + q < cs.size := by
      have := hF q (by omega)
      exact (Array.getElem?_eq_some_iff.1 this).1
    rw [if_pos rfl, if_pos hs]
    simp [zap, hq]
  · rw [if_neg e, hF j hj, zap_getD xs (by omega)]
theorem keep_oth {w w' : World} {B : Nat} {A : Option Addr} {a : Addr} {xs : List Int} (h : OI w B A xs) (ho : Oth w w' (some a)) (hA : ∀ b, A = some b → b.block ≠ a.block) : OI w' B A xs := by
  rcases h with h | ⟨g, off, cs, hA', hB, hc, hf⟩
  · exact .inl h
  · exact .inr ⟨g, off, cs, hA', hB, (ho.2.2.2.2 g hc.lt (fun b hb => by injection hb with hb; subst hb; exact hA _ hA')).trans hc, hf⟩
/-- A list with a property, in memory of its own; nothing that was there has changed. -/
def ListR (w : World) (P : List Int → Prop) (e : Ending) (w' : World) : Prop := ∃ (xs : List Int) (A : Option Addr) (c : Nat), e = .returned (.slice A xs.length c) ∧ P xs ∧ OI w' w.heap.size A xs ∧ Below w.heap.size w w'
/-- The same beside a cursor. -/
def CurListR (w : World) (g : Nat) (P : List Int → Prop) (e : Ending) (w' : World) : Prop := ∃ (xs : List Int) (A : Option Addr) (c : Nat), e = .returned (.slice A xs.length c) ∧ P xs ∧ OI w' w.heap.size A xs ∧ Cur w' g ∧ Only w w' g
def RedD (b : Int) (xs : List Int) : Prop := xs.length ≤ 6 ∧ ∀ x ∈ xs, -(b - 1) ≤ x ∧ x ≤ b - 1
set_option maxHeartbeats 1000000 in
theorem l18List_any (g : Nat) (b : Int) (w : World) (hC : Cur w g) (h1 : 3 ≤ b) (h2 : b ≤ 16) : Calls Try.prog 54 #[.pointer (some ⟨g, 0, none⟩), .int .i64 b] w (CurListR w g (RedD b)) := by
  obtain ⟨i0, hi, hz0, hz1, hz2⟩ := info_parts info_int
  have hgw := hC.lt
  go_enter Try.func54, Try.ntmps54
  go_wp2_with (go_at_call 62; refine (below_any g 7 _ (hC.below (b_alloc (Below.refl _ _) _) hgw) (by omega) (by omega)).mono ?_; rintro e w2 ⟨n, rfl, n0, n1, hC2, hO2⟩)
  have HR : Hid (Row w2 w.heap.size (.slice (some ⟨w.heap.size, 0, none⟩) 0 0) []) := Row.only (Row.made w) hO2 hgw
  have HO : Hid (Only w w2 g) := Only.trans (Only.of_below (b_alloc (Below.refl _ _) _)) hO2
  have HC := Lib.hid hC2
  clear hC hC2 hO2
  go_loopw [5, 6] (fun v k wr => ∃ (l : List Int) (m : Nat), m ≤ 6 ∧ l.length + m ≤ 6 ∧ k = .int .i64 m ∧ Hid (Row wr w.heap.size v l) ∧ Hid (∀ x ∈ l, -(b - 1) ≤ x ∧ x ≤ b - 1) ∧ Hid (Only w wr g) ∧ Hid (Cur wr g)) (fun _ k _ => (intOf k).toNat)
  case atStart => exact ⟨[], n.toNat, by omega, by simp; omega, by congr 1; omega, HR, by intro x hx; simp at hx, HO, HC⟩
  case round =>
    obtain ⟨l, m, hm, hlm, rfl, hRow, hIn, hOn, hCu⟩ := hrel
    by_cases h0 : 0 < m
    · have hm0 : decide ((0 : Int) < (m : Int)) = true := by simp; omega
      go_wp2_with fail
      refine (below_any g (2 * b - 1) _ hCu.out (by omega) (by omega)).mono ?_
      rintro e w3 ⟨z, rfl, z0, z1, hC3, hO3⟩
      have hO := Row.only hRow.out hO3 hgw
      have hw3 : w.heap.size ≤ w3.heap.size := Nat.le_trans hOn.out.size hO3.size
      have HOn := Lib.hid (hOn.out.trans hO3)
      have HC3 := Lib.hid hC3
      clear hC3 hO3 hRow hOn hCu
      go_wp2_with (at_builtin; refine wpList_append_own _ rfl _ _ 25 rfl w.heap.size 3 i0 (.int .i64 0) 1 8 Try.underlying25 hi hz0 hz1 hz2 rfl (by decide) _ _ _ rfl (World.ownsRow.alloc hO _) ⟨w3.heap.size, 0, none⟩ 1 1 [.int .i64 (z - b + 1)] rfl rfl (cell_one_new _ _ _) ?c1 ?c2 ?c3 ?c4 ?_)
      case c1 => first | rfl | (intro u hu; simp at hu; subst hu; rfl)
      case c2 => unfold maxLen; omega
      case c3 => omega
      case c4 => first | omega | (simp; omega)
      intro v1 w1 hown1 hgrow1 _
      have HR1 := Lib.hid (Row.app hown1)
      have HO1 := Lib.hid (Only.grown hO HOn.out hgrow1)
      have HC1 := Lib.hid (Cur.grown hO hgw HC3.out hgrow1)
      clear hown1 hgrow1 hO HOn HC3
      go_wp2
      go_roundw
      case rel => exact ⟨l ++ [z - b + 1], m - 1, by omega, by simp; omega, by first | go_num | (congr 1; omega), HR1, by intro x hx; rcases List.mem_append.1 hx with hx | hx; exact hIn.out x hx; simp at hx; subst hx; omega, HO1, HC1⟩
      case measure => simp [intOf]; omega
    · have hm0 : decide ((0 : Int) < (m : Int)) = false := by simp; omega
      obtain ⟨A, c, rfl⟩ := hRow.out.shape
      go_wp2
      go_ret
      exact ⟨l, A, c, rfl, ⟨by omega, hIn.out⟩, (OI.of_own hRow.out).2, hCu.out, hOn.out⟩
set_option maxHeartbeats 1000000 in
theorem makeRed_any (A : Option Addr) (zs : List Int) (c n : Nat) (b : Int) (w : World) (hR : RY w w.heap.size A zs) (hl : zs.length ≤ 1048576) (hn : n ≤ 1000) (h1 : 3 ≤ b) (h2 : b ≤ 16) :
    Calls Try.prog 33 #[.slice A zs.length c, .int .i64 n, .int .i64 b] w (ListR w (RedD b)) := by
  rcases Int.lt_or_eq_of_le h1 with h3 | rfl
  · go_enter Try.func33, Try.ntmps33
    go_wp2_with fail
    refine (law_new A zs c n _ hR hl hn).mono ?_
    rintro e w1 ⟨g, rfl, hg, hC, hB⟩
    have hgl := hC.lt
    go_wp2_with fail
    refine (l18List_any g b _ hC h1 h2).mono ?_
    rintro e w2 ⟨xs, X, d, rfl, hP, hO, hC2, hOn⟩
    go_wp2
    go_ret
    exact ⟨xs, X, d, rfl, hP, OI.low hO hB.size, hB.trans (hOn.below hg hB.size)⟩
  · go_enter Try.func33, Try.ntmps33
    go_wp2_with fail
    refine (law_new A zs c n _ hR hl hn).mono ?_
    rintro e w1 ⟨g, rfl, hg, hC, hB⟩
    have hgl := hC.lt
    go_wp2_with fail
    refine (l18List_any g 3 _ hC h1 h2).mono ?_
    rintro e w2 ⟨xs, X, d, rfl, hP, hO, hC2, hOn⟩
    go_wp2
    go_ret
    exact ⟨xs, X, d, rfl, hP, OI.low hO hB.size, hB.trans (hOn.below hg hB.size)⟩
set_option maxHeartbeats 1000000 in
theorem digitsOf_any (n b : Int) (w : World) (h1 : 0 ≤ n) (h2 : n ≤ 1000000000000) (hb : 2 ≤ b) (hb2 : b ≤ 16) : Calls Try.prog 35 #[.int .i64 n, .int .i64 b] w (RetL w (digs b n)) := by
  go_enter Try.func35, Try.ntmps35
  go_wp2_with (first | (go_at_call 48; refine (i_digitsOf n b _ h1 (by omega) hb (by omega)).mono ?_; rintro e w' ⟨A, c, rfl, hO, hB⟩) | (go_at_call 39; refine (i_base_t b _ hb hb2).mono ?_; rintro e w1 ⟨rfl, rfl⟩) | go_in)
  go_ret
  exact ⟨A, c, rfl, hO, hB⟩
end Go.Proofs.Ytpjdmapfnojhnaa
