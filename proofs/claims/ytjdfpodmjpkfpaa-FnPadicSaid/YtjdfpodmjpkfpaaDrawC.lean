/- Contracts of spec.l15List, spec.MakePadic, laws.sum, and of the p-adic operations over k digits. Conditions: code of at most 2^20 bytes. -/
import Derived.Test.YtjdfpodmjpkfpaaNum
import Derived.Test.YtjdfpodmjpkfpaaPadM
import Derived.Maps.AppendAt
namespace Go.Proofs.Ytjdfpodmjpkfpaa
open Go.RowKit
set_option linter.unusedVariables false

theorem OI.low {w : World} {B B' : Nat} {A : Option Addr} {xs : List Int} (h : OI w B A xs) (hB : B' ≤ B) : OI w B' A xs := by
  rcases h with h | ⟨g, off, cs, hA, hg, r⟩
  · exact .inl h
  · exact .inr ⟨g, off, cs, hA, by omega, r⟩
/-- A list with a property, in memory of its own; nothing that was there has changed. -/
def ListR (w : World) (P : List Int → Prop) (e : Ending) (w' : World) : Prop := ∃ (xs : List Int) (A : Option Addr) (c : Nat), e = .returned (.slice A xs.length c) ∧ P xs ∧ OI w' w.heap.size A xs ∧ Below w.heap.size w w'
/-- The same beside a cursor. -/
def CurListR (w : World) (g : Nat) (P : List Int → Prop) (e : Ending) (w' : World) : Prop := ∃ (xs : List Int) (A : Option Addr) (c : Nat), e = .returned (.slice A xs.length c) ∧ P xs ∧ OI w' w.heap.size A xs ∧ Cur w' g ∧ Only w w' g
set_option maxHeartbeats 1000000 in
theorem l15List_any (g : Nat) (p : Int) (n : Nat) (w : World) (hC : Cur w g) (hp : primeB p = true) (h1 : 1 ≤ n) (h2 : n ≤ 8) : Calls Try.prog 49 #[.pointer (some ⟨g, 0, none⟩), .int .i64 p, .int .i64 n] w (CurListR w g (KP p n)) := by
  obtain ⟨i0, hi, hz0, hz1, hz2⟩ := info_parts info_int
  obtain ⟨p1, p2⟩ := primeB_bd hp
  have HP := Lib.hid hp
  clear hp
  have hgw := hC.lt
  have HR : Hid (Row (w.alloc (.cells #[] 3)) w.heap.size (.slice (some ⟨w.heap.size, 0, none⟩) 0 0) []) := Row.made w
  have HO : Hid (Only w (w.alloc (.cells #[] 3)) g) := Only.of_below (b_alloc (Below.refl _ _) _)
  have HC : Hid (Cur (w.alloc (.cells #[] 3)) g) := hC.below (b_alloc (Below.refl _ _) _) hgw
  clear hC
  go_enter Try.func49, Try.ntmps49
  go_wp2
  go_loopw [7, 8] (fun v i wr => ∃ (l : List Int) (k : Nat), k ≤ n ∧ l.length = k ∧ i = .int .i64 k ∧ Hid (Row wr w.heap.size v l) ∧ Hid (∀ x ∈ l, 0 ≤ x ∧ x ≤ p - 1) ∧ Hid (Only w wr g) ∧ Hid (Cur wr g)) (fun _ i _ => n - (intOf i).toNat)
  case atStart => exact ⟨[], 0, by omega, rfl, rfl, HR, by intro x hx; simp at hx, HO, HC⟩
  case round =>
    obtain ⟨l, k, hk, hlk, rfl, hRow, hIn, hOn, hCu⟩ := hrel
    have HLK := Lib.hid hlk
    have hl8 : l.length ≤ 8 := by omega
    clear hlk
    by_cases h0 : k < n
    · go_wp2_with fail
      refine (below_any g p _ hCu.out (by omega) (by omega)).mono ?_
      rintro e w3 ⟨z, rfl, z0, z1, hC3, hO3⟩
      have hO := Row.only hRow.out hO3 hgw
      have hw3 : w.heap.size ≤ w3.heap.size := Nat.le_trans hOn.out.size hO3.size
      have HOn := Lib.hid (hOn.out.trans hO3)
      have HC3 := Lib.hid hC3
      clear hC3 hO3 hRow hOn hCu
      go_wp2_with (at_builtin; refine wpList_append_own _ rfl _ _ 24 rfl w.heap.size 3 i0 (.int .i64 0) 1 8 Try.underlying24 hi hz0 hz1 hz2 rfl (by decide) _ _ _ rfl (World.ownsRow.alloc hO _) ⟨w3.heap.size, 0, none⟩ 1 1 [.int .i64 z] rfl rfl (cell_one_new _ _ _) ?c1 ?c2 ?c3 ?c4 ?_)
      case c1 => first | rfl | (intro u hu; simp at hu; subst hu; rfl)
      case c2 => unfold maxLen; omega
      case c3 => omega
      case c4 => first | omega | (simp; omega)
      intro v1 w1 hown1 hgrow1 _
      have HR1 := Lib.hid (Row.app hown1)
      have HO1 := Lib.hid (Only.grown hO HOn.out hgrow1)
      have HC1 := Lib.hid (Cur.grown hO hgw HC3.out hgrow1)
      clear hown1 hgrow1 hO HOn HC3
      go_wp2
      go_roundw
      case rel => exact ⟨l ++ [z], k + 1, by omega, by rw [List.length_append, HLK.out]; rfl, by go_num, HR1, by intro x hx; rcases List.mem_append.1 hx with hx | hx; exact hIn.out x hx; simp at hx; subst hx; omega, HO1, HC1⟩
      case measure => simp [intOf]; omega
    · obtain ⟨A, c, rfl⟩ := hRow.out.shape
      go_wp2
      go_ret
      have := HLK.out
      exact ⟨l, A, c, rfl, ⟨⟨HP.out, by omega, by omega, allB_iff.2 hIn.out⟩, by omega⟩, (OI.of_own hRow.out).2, hCu.out, hOn.out⟩
set_option maxHeartbeats 1000000 in
theorem makePad_any (A : Option Addr) (zs : List Int) (c n k : Nat) (p : Int) (w : World) (hR : RY w w.heap.size A zs) (hl : zs.length ≤ 1048576) (hn : n ≤ 1000) (hp : primeB p = true) (h1 : 1 ≤ k) (h2 : k ≤ 8) :
    Calls Try.prog 21 #[.slice A zs.length c, .int .i64 n, .int .i64 p, .int .i64 k] w (ListR w (KP p k)) := by
  have HP := Lib.hid hp
  clear hp
  go_enter Try.func21, Try.ntmps21
  go_wp2_with fail
  refine (law_new A zs c n _ hR hl hn).mono ?_
  rintro e w1 ⟨g, rfl, hg, hC, hB⟩
  have hgl := hC.lt
  go_wp2_with fail
  refine (l15List_any g p k _ hC HP.out h1 h2).mono ?_
  rintro e w2 ⟨xs, X, d, rfl, hP, hO, hC2, hOn⟩
  go_wp2
  go_ret
  exact ⟨xs, X, d, rfl, hP, OI.low hO hB.size, hB.trans (hOn.below hg hB.size)⟩
theorem sum_take (xs : List Int) (k : Nat) (h : k < xs.length) : (xs.take (k + 1)).sum = (xs.take k).sum + xs.getD k 0 := by
  rw [List.take_succ_eq_append_getElem h, List.sum_append, List.getD_eq_getElem?_getD, List.getElem?_eq_getElem h, Option.getD_some]
  simp
theorem sum_bd : ∀ (xs : List Int), (∀ x ∈ xs, -1000000 ≤ x ∧ x ≤ 1000000) → -(1000000 * (xs.length : Int)) ≤ xs.sum ∧ xs.sum ≤ 1000000 * (xs.length : Int)
  | [], _ => by simp
  | x :: xs, h => by
    have ih := sum_bd xs fun y hy => h y (by simp [hy])
    have hx := h x (by simp)
    rw [List.sum_cons, List.length_cons]
    omega
set_option maxHeartbeats 1000000 in
theorem sum_any (A : Option Addr) (xs : List Int) (c : Nat) (w : World) (hR : RI w w.heap.size A xs) (hl : xs.length ≤ 1048576) (hb : ∀ x ∈ xs, -1000000 ≤ x ∧ x ≤ 1000000) :
    Calls Try.prog 26 #[.slice A xs.length c] w fun e w' => e = .returned (.int .i64 xs.sum) ∧ w = w' := by
  have HR := Lib.hid hR
  have HB := Lib.hid hb
  clear hR hb
  go_enter Try.func26, Try.ntmps26
  go_wp2
  go_loop [3, 8] (fun t i => ∃ (k : Nat) (n : Int), k ≤ xs.length ∧ i = .int .i64 k ∧ t = .int .i64 n ∧ Hid (n = (xs.take k).sum)) (fun _ i => xs.length - (intOf i).toNat)
  case atStart => exact ⟨0, 0, by omega, rfl, rfl, rfl⟩
  case round =>
    obtain ⟨k, n, hk, rfl, rfl, hn⟩ := hrel
    by_cases hlt : k < xs.length
    · obtain ⟨b, off, rfl, hb, hc⟩ := HR.out.at_ hlt
      obtain ⟨x, hx⟩ : ∃ x, x = xs.getD k 0 := ⟨_, rfl⟩
      have hs := sum_take xs k hlt
      rw [← hx, ← hn.out] at hs
      rw [← hx] at hc
      have hm : x ∈ xs := by rw [hx, List.getD_eq_getElem?_getD, List.getElem?_eq_getElem hlt, Option.getD_some]; exact List.getElem_mem hlt
      obtain ⟨x0, x1⟩ := HB.out x hm
      obtain ⟨s0, s1⟩ := sum_bd (xs.take k) fun y hy => HB.out y (List.mem_of_mem_take hy)
      rw [← hn.out, List.length_take] at s0 s1
      have s2 : -1099511627776000000 ≤ n := by omega
      have s3 : n ≤ 1099511627776000000 := by omega
      have HS := Lib.hid hs
      clear hs hx s0 s1 hm
      go_wp2
      go_round
      case rel => exact ⟨k + 1, n + x, by omega, by go_num, rfl, HS.out.symm⟩
      case measure => simp [intOf]; omega
    · have hn' : n = xs.sum := by rw [hn.out, List.take_of_length_le (by omega)]
      subst hn'
      go_wp2
      go_ret
      exact ⟨rfl, rfl⟩
section
variable {p : Int} {k : Nat}
theorem KP.len8 {xs : List Int} (h : KP p k xs) : xs.length ≤ 8 := h.1.2.2.1
theorem add_k {xs ys : List Int} (hx : KP p k xs) (hy : KP p k ys) (A C : Option Addr) (c1 c2 : Nat) (w : World) (hR : RI w w.heap.size A xs) (hS : RI w w.heap.size C ys) {zs : List Int} (hz : addR p xs ys = zs) :
    Calls Try.prog 22 #[.slice A xs.length c1, .slice C ys.length c2, .int .i64 p] w (RetLB w zs true) := by
  have h := i_add A C xs ys c1 c2 p w hR hS (by have := hx.len8; omega) (by have := hy.len8; omega)
  rwa [twoB_t (hx.two hy), hz] at h
theorem times_k {xs ys : List Int} (hx : KP p k xs) (hy : KP p k ys) (A C : Option Addr) (c1 c2 : Nat) (w : World) (hR : RI w w.heap.size A xs) (hS : RI w w.heap.size C ys) {zs : List Int} (hz : timesR p xs ys = zs) :
    Calls Try.prog 23 #[.slice A xs.length c1, .slice C ys.length c2, .int .i64 p] w (RetLB w zs true) := by
  have h := i_times A C xs ys c1 c2 p w hR hS (by have := hx.len8; omega) (by have := hy.len8; omega)
  rwa [twoB_t (hx.two hy), hz] at h
theorem neg_k {xs : List Int} (hx : KP p k xs) (A : Option Addr) (c1 : Nat) (w : World) (hR : RI w w.heap.size A xs) {zs : List Int} (hz : negR p xs = zs) :
    Calls Try.prog 24 #[.slice A xs.length c1, .int .i64 p] w (RetLB w zs true) := by
  have h := i_neg A xs c1 p w hR (by have := hx.len8; omega)
  rwa [padB_t hx.1, hz] at h
theorem val_k {xs : List Int} (hx : KP p k xs) (A : Option Addr) (c : Nat) (w : World) (hR : RI w w.heap.size A xs) {n : Int} (hn : val p xs = n) :
    Calls Try.prog 27 #[.slice A xs.length c, .int .i64 p] w fun e w' => e = .returned (.int .i64 n) ∧ Below w.heap.size w w' := by
  have h := i_padVal A xs c p w hR (by have := hx.len8; omega)
  rwa [padV_t hx.1, hn] at h
theorem ok_k {xs : List Int} (hx : KP p k xs) (A : Option Addr) (c : Nat) (w : World) (hR : RI w w.heap.size A xs) :
    Calls Try.prog 18 #[.slice A xs.length c, .int .i64 p] w fun e w' => e = .returned (.bool true) ∧ Below w.heap.size w w' := by
  have h := i_padOk A xs c p w hR (by have := hx.len8; omega)
  rwa [padB_t hx.1] at h
theorem KP.padV {xs : List Int} (h : KP p k xs) : padV p xs = val p xs := padV_t h.1
end
end Go.Proofs.Ytjdfpodmjpkfpaa
