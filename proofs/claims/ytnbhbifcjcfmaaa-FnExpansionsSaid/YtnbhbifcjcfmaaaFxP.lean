/- What FnExpansions needs of an expansion: lengths, the part prime to the base, the digits behind the point, the way back. Conditions: bases 2 to 16, denominators up to 60. -/
import Derived.Test.YtnbhbifcjcfmaaaFxM
import Derived.Test.YtnbhbifcjcfmaaaExpG
import Derived.Test.YtnbhbifcjcfmaaaExpN
namespace Go.Proofs.Ytnbhbifcjcfmaaa
set_option linter.unusedVariables false

theorem strip_z (b u : Nat) : strip b 0 u = u := rfl
theorem strip_s (b t u : Nat) : strip b (t + 1) u = bif Nat.ble (Nat.gcd u b) 1 then u else strip b t (u / Nat.gcd u b) := rfl
theorem strip_stop {b t u : Nat} (h : Nat.gcd u b ≤ 1) : strip b t u = u := by
  rcases t with _ | t
  · rfl
  · rw [strip_s, Nat.ble_eq_true_of_le h]; rfl
theorem strip_go {b t u : Nat} (h : ¬ Nat.gcd u b ≤ 1) : strip b (t + 1) u = strip b t (u / Nat.gcd u b) := by
  have e : Nat.ble (Nat.gcd u b) 1 = false := by
    cases hc : Nat.ble (Nat.gcd u b) 1 with
    | true => exact absurd (ble_t hc) h
    | false => rfl
  rw [strip_s, e]; rfl
theorem dig_all {b q p : Int} (hq : 0 < q) (h0 : 0 ≤ p) (h1 : p < q) (hb : 2 ≤ b) (n : Nat) : ∀ x ∈ dgl b q p n, 0 ≤ x ∧ x ≤ b - 1 := by
  intro x hx
  obtain ⟨j, hj, rfl⟩ := List.mem_iff_getElem.1 hx
  have hj2 : j < n := by rw [length_dgl] at hj; exact hj
  have := dig_bd hq h0 h1 hb n j hj2
  rw [List.getD_eq_getElem?_getD, List.getElem?_eq_getElem hj] at this
  exact this
/-- What the law asks of an expansion. -/
structure FX (b Q P : Nat) (xs ys : List Int) : Prop where
  ok : exB P Q b = true
  pre : exPre P Q b = xs
  per : exPer P Q b = ys
  pn : exPN P Q b = xs.length
  rn : exRN P Q b = ys.length
  le : xs.length + ys.length < 62
  lt : xs.length + ys.length < Q
  g1 : Nat.gcd (uOf b Q P) b ≤ 1
  g2 : 1 ≤ uOf b Q P ∧ uOf b Q P ≤ 60
  u1 : uOf b Q P = 1 → ys.length = 0
  u2 : uOf b Q P ≠ 1 → 1 ≤ ys.length ∧ ordN b (uOf b Q P) 62 (b % uOf b Q P) 1 = ys.length ∧ (uOf b Q P = Q / Nat.gcd P Q → xs.length = 0)
  dig : ∀ k, k ≤ xs.length + ys.length → dgl b Q P k = (xs ++ ys).take k
  few : xs.length + ys.length ≤ 9 → lpB b xs ys = true ∧ feA b xs ys = ((P / Nat.gcd P Q : Nat) : Int) ∧ feB b xs ys = ((Q / Nat.gcd P Q : Nat) : Int)
  many : ¬ xs.length + ys.length ≤ 9 → lpB b xs ys = false
theorem strip_le (b : Nat) : ∀ t u, strip b t u ≤ u
  | 0, u => Nat.le_refl _
  | t + 1, u => by
    by_cases h : Nat.gcd u b ≤ 1
    · rw [strip_stop h]; exact Nat.le_refl _
    · rw [strip_go h]; exact Nat.le_trans (strip_le b t _) (Nat.div_le_self _ _)
theorem fx_facts {b Q P : Nat} (b1 : 2 ≤ b) (b2 : b ≤ 16) (q1 : 1 ≤ Q) (q2 : Q ≤ 60) (hp : P < Q) : FX b Q P (exPre P Q b) (exPer P Q b) := by
  have hok : exB P Q b = true := exB_iff.2 ⟨by omega, by omega, by omega, by omega, by omega, by omega⟩
  obtain ⟨e1, e2, e3, e4, e5, e6⟩ := exp_facts b1 b2 q1 q2 hp
  have hx := exPre_t hok
  have hy := exPer_t hok
  have hlx : (exPre P Q b).length = preN b Q P := by rw [hx, length_preL]
  have hly : (exPer P Q b).length = perN b Q P := by rw [hy, length_perL]
  have hcat : exPre P Q b ++ exPer P Q b = dgl b Q P (preN b Q P + perN b Q P) := by rw [hx, hy]; exact cat_dgl _ _ _ _ _ (by omega)
  have hdig : ∀ k, k ≤ preN b Q P + perN b Q P → dgl b Q P k = (exPre P Q b ++ exPer P Q b).take k := fun k hk => by rw [hcat, take_dgl hk]
  have ha := dig_all (b := b) (q := Q) (p := P) (by omega) (by omega) (by omega) (by omega) (preN b Q P + perN b Q P)
  rw [← hcat] at ha
  have hlt : preN b Q P + perN b Q P < Q := by
    rcases e2 with h | h
    · obtain rfl : Q = 1 := by omega
      obtain rfl : P = 0 := by omega
      have hR : Rep (b : Int) ((1 : Nat) : Int) ((0 : Nat) : Int) 0 1 := Rep.of_zero ((Dist.zero _ _ _).succ fun j hj => by omega) rfl
      obtain ⟨r1, r2⟩ := hR.lens
      have r3 : rst (b : Int) ((1 : Nat) : Int) ((0 : Nat) : Int) 0 = 0 := rfl
      rw [if_pos r3] at r2
      omega
    · exact h
  refine ⟨hok, rfl, rfl, by rw [hlx]; unfold exPN; rw [hok]; rfl, by rw [hly]; unfold exRN; rw [hok]; rfl, by omega, by omega, e3, ⟨e4, Nat.le_trans (strip_le _ _ _) (Nat.le_trans (Nat.div_le_self _ _) q2)⟩, by rw [hly]; exact e5, by rw [hlx, hly]; exact e6, by rw [hlx, hly]; exact hdig, ?_, ?_⟩
  · intro h9
    have hLP : LP b (exPre P Q b) (exPer P Q b) := ⟨decide_eq_true ⟨by omega, by omega⟩, h9, allB_iff.2 fun x hx => ha x (List.mem_append_left _ hx), allB_iff.2 fun x hx => ha x (List.mem_append_right _ hx)⟩
    obtain ⟨f1, f2⟩ := Fe.yes (lpB_t hLP)
    obtain ⟨t0, t1, B0, B1⟩ := hLP.fin
    have hfe := from_exp (b := b) (q := Q) (p := P) (by omega) (by omega) (by omega) (by omega)
    rw [← hx, ← hy] at hfe
    refine ⟨lpB_t hLP, ?_⟩
    rw [f1, f2]
    generalize fTop b (exPre P Q b) (exPer P Q b) = T at *
    generalize fBot b (exPre P Q b) (exPer P Q b) = B at *
    obtain ⟨t, rfl⟩ : ∃ t : Nat, T = t := ⟨T.toNat, by omega⟩
    obtain ⟨c, rfl⟩ : ∃ c : Nat, B = c := ⟨B.toNat, by omega⟩
    rw [Int.gcd_natCast_natCast]
    have hh := gcd_red (T := t) (B := c) (p := P) (q := Q) (by omega) (by omega) (by have := hfe; rw [← Int.natCast_mul, ← Int.natCast_mul] at this; exact Int.ofNat.inj this)
    rw [← Int.natCast_ediv, ← Int.natCast_ediv, hh.1, hh.2]
    exact ⟨rfl, rfl⟩
  · intro h9
    exact lpB_f fun h => h9 h.2.1
/-- What the law asks of an expansion with a prime denominator. -/
structure FP (b q t m : Nat) : Prop where
  ok : exB t q b = true
  rn : exRN t q b = m
  rn1 : exRN 1 q b = m
  m1 : 1 ≤ m ∧ m < 62
  dv : (q - 1) % m = 0
  hh : m % 2 = 1 ∨ m % 2 = 0 ∧ hhB b (exPer t q b) = true
theorem fp_facts {b q t : Nat} (b1 : 2 ≤ b) (b2 : b ≤ 16) (hq : PR q) (t1 : 1 ≤ t) (t2 : t < q) : ∃ m, FP b q t m := by
  have q3 : 17 ≤ q ∧ q ≤ 53 := by rcases hq with rfl | rfl | rfl | rfl | rfl | rfl | rfl | rfl | rfl | rfl <;> omega
  have hok : exB t q b = true := exB_iff.2 ⟨by omega, by omega, by omega, by omega, by omega, by omega⟩
  have hok1 : exB ((1 : Nat) : Int) q b = true := exB_iff.2 ⟨by omega, by omega, by omega, by omega, by omega, by omega⟩
  obtain ⟨e1, e2, e3, e4, e5, e6⟩ := prime_facts b1 b2 hq t1 t2
  refine ⟨perN b q t, hok, by unfold exRN; rw [hok]; rfl, ?_, ⟨e2, e3⟩, e5, ?_⟩
  · have : exRN ((1 : Nat) : Int) q b = perN b q t := by unfold exRN; rw [hok1, e4]; rfl
    exact this
  · rcases e6 with h | ⟨h1, h2⟩
    · exact .inl h
    · right
      refine ⟨h2, ?_⟩
      rw [exPer_t hok]
      exact hhB_t (halves (by omega) (by omega) (by omega) e1 e2 (by rw [h1]; omega) h2)
end Go.Proofs.Ytnbhbifcjcfmaaa
