/- How many ones a number has: the sum of its binary digits, and the sums by masks that math/bits takes. Conditions: numbers below 2^64. -/
import Derived.Lib.TrailingZeros
namespace Go.Proofs.YtobbbaagoiejeaaDoor
set_option linter.unusedVariables false

/-- The sum of the binary digits, at most f. -/
def pop : Nat → Nat → Nat
  | 0, _ => 0
  | f + 1, x => x % 2 + pop f (x / 2)
/-- A mask of k bytes r. -/
def mk (r : Nat) : Nat → Nat
  | 0 => 0
  | k + 1 => 256 * mk r k + r
theorem and_split (h b M m : Nat) (hb : b < 256) (hm : m < 256) : (256 * h + b) &&& (256 * M + m) = 256 * (h &&& M) + (b &&& m) := by
  have h1 : ((256 * h + b) &&& (256 * M + m)) / 2 ^ 8 = ((256 * h + b) / 2 ^ 8) &&& ((256 * M + m) / 2 ^ 8) := Nat.and_div_two_pow
  have h2 : ((256 * h + b) &&& (256 * M + m)) % 2 ^ 8 = ((256 * h + b) % 2 ^ 8) &&& ((256 * M + m) % 2 ^ 8) := Nat.and_mod_two_pow
  have e1 : (256 * h + b) / 2 ^ 8 = h := by omega
  have e2 : (256 * M + m) / 2 ^ 8 = M := by omega
  have e3 : (256 * h + b) % 2 ^ 8 = b := by omega
  have e4 : (256 * M + m) % 2 ^ 8 = m := by omega
  rw [e1, e2] at h1
  rw [e3, e4] at h2
  have := Nat.div_add_mod ((256 * h + b) &&& (256 * M + m)) (2 ^ 8)
  rw [h1, h2] at this
  exact this.symm
def t1 (b : Nat) : Nat := (b / 2 &&& 85) + (b &&& 85)
def t2 (b : Nat) : Nat := (b / 4 &&& 51) + (b &&& 51)
def t3 (b : Nat) : Nat := (b / 16 + b) &&& 15
theorem tab1 : ∀ b, b < 256 → ∀ c, c < 2 → (b / 2 + 128 * c) &&& 85 = b / 2 &&& 85 := by decide +kernel
theorem tab2 : ∀ b, b < 256 → ∀ c, c < 4 → (b / 4 + 64 * c) &&& 51 = b / 4 &&& 51 := by decide +kernel
theorem tabp : ∀ b, b < 256 → t1 b < 256 ∧ t2 (t1 b) < 256 ∧ t2 (t1 b) / 16 ≤ 4 ∧ t2 (t1 b) % 16 ≤ 4 ∧ t3 (t2 (t1 b)) = pop 8 b ∧ pop 8 b ≤ 8 := by decide +kernel
def F1 (k x : Nat) : Nat := (x / 2 &&& mk 85 k) + (x &&& mk 85 k)
def F2 (k x : Nat) : Nat := (x / 4 &&& mk 51 k) + (x &&& mk 51 k)
def F3 (k x : Nat) : Nat := (x / 16 + x) &&& mk 15 k
theorem F1_step (k h b : Nat) (hb : b < 256) : F1 (k + 1) (256 * h + b) = 256 * F1 k h + t1 b := by
  unfold F1 t1
  have e : (256 * h + b) / 2 = 256 * (h / 2) + (b / 2 + 128 * (h % 2)) := by omega
  rw [e, mk, and_split _ _ _ _ (by omega) (by omega), and_split _ _ _ _ hb (by omega), tab1 b hb _ (by omega)]
  generalize h / 2 &&& mk 85 k = A1
  generalize h &&& mk 85 k = A2
  generalize b / 2 &&& 85 = A3
  generalize b &&& 85 = A4
  omega
theorem F2_step (k h b : Nat) (hb : b < 256) : F2 (k + 1) (256 * h + b) = 256 * F2 k h + t2 b := by
  unfold F2 t2
  have e : (256 * h + b) / 4 = 256 * (h / 4) + (b / 4 + 64 * (h % 4)) := by omega
  rw [e, mk, and_split _ _ _ _ (by omega) (by omega), and_split _ _ _ _ hb (by omega), tab2 b hb _ (by omega)]
  generalize h / 4 &&& mk 51 k = A1
  generalize h &&& mk 51 k = A2
  generalize b / 4 &&& 51 = A3
  generalize b &&& 51 = A4
  omega
theorem F3_step (k h b : Nat) (hb : b < 256) (h1 : b / 16 ≤ 4) (h2 : b % 16 ≤ 4) (hh : h % 16 ≤ 4) : F3 (k + 1) (256 * h + b) = 256 * F3 k h + t3 b := by
  unfold F3 t3
  have e : (256 * h + b) / 16 + (256 * h + b) = 256 * (h / 16 + h) + (16 * (h % 16) + b / 16 + b) := by omega
  rw [e, mk, and_split _ _ _ _ (by omega) (by omega)]
  have e2 : (16 * (h % 16) + b / 16 + b) &&& 15 = (b / 16 + b) &&& 15 := by
    have a1 := Nat.and_two_pow_sub_one_eq_mod (16 * (h % 16) + b / 16 + b) 4
    have a2 := Nat.and_two_pow_sub_one_eq_mod (b / 16 + b) 4
    have e3 : (2 : Nat) ^ 4 - 1 = 15 := rfl
    rw [e3] at a1 a2
    rw [a1, a2]
    omega
  rw [e2]
/-- The three steps, byte by byte. -/
theorem F_step (k h b : Nat) (hb : b < 256) (hh : F2 k (F1 k h) % 16 ≤ 4) :
    F3 (k + 1) (F2 (k + 1) (F1 (k + 1) (256 * h + b))) = 256 * F3 k (F2 k (F1 k h)) + pop 8 b ∧ F2 (k + 1) (F1 (k + 1) (256 * h + b)) % 16 ≤ 4 := by
  obtain ⟨p1, p2, p3, p4, p5, p6⟩ := tabp b hb
  rw [F1_step k h b hb, F2_step _ _ _ p1, F3_step _ _ _ p2 p3 p4 hh, p5]
  exact ⟨rfl, by omega⟩
/-- The bytes' numbers of ones, as a number with eight places. -/
def bys : Nat → Nat → Nat
  | 0, _ => 0
  | k + 1, x => 256 * bys k (x / 256) + pop 8 (x % 256)
theorem F_all : ∀ (k x : Nat), x < 256 ^ k → F3 k (F2 k (F1 k x)) = bys k x ∧ F2 k (F1 k x) % 16 ≤ 4
  | 0, x, h => by
    have : x = 0 := by omega
    subst this
    exact ⟨rfl, by decide⟩
  | k + 1, x, h => by
    have hd : x / 256 < 256 ^ k := by rw [Nat.pow_succ] at h; omega
    obtain ⟨i1, i2⟩ := F_all k (x / 256) hd
    have := F_step k (x / 256) (x % 256) (by omega) i2
    rw [Nat.div_add_mod] at this
    rw [this.1, i1]
    exact ⟨rfl, this.2⟩
/-- The sum over the bytes. -/
def bysum : Nat → Nat → Nat
  | 0, _ => 0
  | k + 1, x => pop 8 (x % 256) + bysum k (x / 256)
theorem pop_add : ∀ (f g x : Nat), pop (f + g) x = pop f x + pop g (x / 2 ^ f)
  | 0, g, x => by simp [pop]
  | f + 1, g, x => by
    rw [Nat.succ_add, pop, pop_add f g (x / 2), pop, Nat.div_div_eq_div_mul, Nat.pow_succ, Nat.mul_comm 2]
    omega
theorem pop_mod : ∀ (f x : Nat), pop f (x % 2 ^ f) = pop f x
  | 0, _ => rfl
  | f + 1, x => by
    rw [pop, pop, ← pop_mod f (x / 2)]
    have e1 : x % 2 ^ (f + 1) % 2 = x % 2 := Nat.mod_mod_of_dvd x ⟨2 ^ f, by rw [Nat.pow_succ, Nat.mul_comm]⟩
    have e2 : x % 2 ^ (f + 1) / 2 = x / 2 % 2 ^ f := by
      rw [Nat.pow_succ, Nat.mul_comm, Nat.mod_mul_right_div_self]
    rw [e1, e2]
theorem pop_bysum : ∀ (k x : Nat), pop (8 * k) x = bysum k x
  | 0, _ => rfl
  | k + 1, x => by
    rw [show 8 * (k + 1) = 8 + 8 * k by omega, pop_add, pop_bysum k, bysum, ← pop_mod 8 x]
theorem bys8 (x : Nat) : ∃ c0 c1 c2 c3 c4 c5 c6 c7 : Nat, c0 ≤ 8 ∧ c1 ≤ 8 ∧ c2 ≤ 8 ∧ c3 ≤ 8 ∧ c4 ≤ 8 ∧ c5 ≤ 8 ∧ c6 ≤ 8 ∧ c7 ≤ 8 ∧
    bys 8 x = c0 + 256 * (c1 + 256 * (c2 + 256 * (c3 + 256 * (c4 + 256 * (c5 + 256 * (c6 + 256 * c7)))))) ∧ pop 64 x = c0 + c1 + c2 + c3 + c4 + c5 + c6 + c7 := by
  have P : ∀ y, pop 8 (y % 256) ≤ 8 := fun y => (tabp (y % 256) (by omega)).2.2.2.2.2
  refine ⟨_, _, _, _, _, _, _, _, P x, P (x / 256), P (x / 256 / 256), P (x / 256 / 256 / 256), P (x / 256 / 256 / 256 / 256), P (x / 256 / 256 / 256 / 256 / 256), P (x / 256 / 256 / 256 / 256 / 256 / 256), P (x / 256 / 256 / 256 / 256 / 256 / 256 / 256), ?_, ?_⟩
  · simp only [bys]; omega
  · rw [show (64 : Nat) = 8 * 8 by rfl, pop_bysum]; simp only [bysum]; omega
def G1 (y : Nat) : Nat := y + y / 256
def G2 (y : Nat) : Nat := y + y / 65536
def G3 (y : Nat) : Nat := y + y / 4294967296
theorem G1_low (a Z : Nat) (h : a < 256) : G1 (a + 256 * Z) = a + 256 * Z + Z := by unfold G1; omega
theorem G2_low (a b Z : Nat) (h : a < 200) (h2 : b < 200) : G2 (a + 256 * (b + 256 * Z)) = a + 256 * (b + 256 * Z) + Z := by unfold G2; omega
theorem G3_low (a b c d Z : Nat) (h : a < 200) (h2 : b < 200) (h3 : c < 200) (h4 : d < 200) : G3 (a + 256 * (b + 256 * (c + 256 * (d + 256 * Z)))) = a + 256 * (b + 256 * (c + 256 * (d + 256 * Z))) + Z := by unfold G3; omega
theorem G_all (x : Nat) : bys 8 x < 18446744073709551616 ∧ G1 (bys 8 x) < 18446744073709551616 ∧ G2 (G1 (bys 8 x)) < 18446744073709551616 ∧ G3 (G2 (G1 (bys 8 x))) < 9223372036854775808 ∧ G3 (G2 (G1 (bys 8 x))) % 128 = pop 64 x ∧ pop 64 x ≤ 64 := by
  obtain ⟨c0, c1, c2, c3, c4, c5, c6, c7, h0, h1, h2, h3, h4, h5, h6, h7, e, ep⟩ := bys8 x
  rw [e, ep]
  clear e ep
  have g1 : G1 (c0 + 256 * (c1 + 256 * (c2 + 256 * (c3 + 256 * (c4 + 256 * (c5 + 256 * (c6 + 256 * c7))))))) = (c0 + c1) + 256 * ((c1 + c2) + 256 * ((c2 + c3) + 256 * ((c3 + c4) + 256 * ((c4 + c5) + 256 * ((c5 + c6) + 256 * ((c6 + c7) + 256 * c7)))))) := by
    rw [G1_low _ _ (by omega)]
    clear h0 h1 h2 h3 h4 h5 h6 h7
    omega
  rw [g1]
  clear g1
  have g2 : G2 ((c0 + c1) + 256 * ((c1 + c2) + 256 * ((c2 + c3) + 256 * ((c3 + c4) + 256 * ((c4 + c5) + 256 * ((c5 + c6) + 256 * ((c6 + c7) + 256 * c7))))))) = (c0 + c1 + c2 + c3) + 256 * ((c1 + c2 + c3 + c4) + 256 * ((c2 + c3 + c4 + c5) + 256 * ((c3 + c4 + c5 + c6) + 256 * ((c4 + c5 + c6 + c7) + 256 * ((c5 + c6 + c7) + 256 * ((c6 + c7) + 256 * c7)))))) := by
    rw [G2_low _ _ _ (by omega) (by omega)]
    clear h0 h1 h2 h3 h4 h5 h6 h7
    omega
  rw [g2]
  clear g2
  have g3 : G3 ((c0 + c1 + c2 + c3) + 256 * ((c1 + c2 + c3 + c4) + 256 * ((c2 + c3 + c4 + c5) + 256 * ((c3 + c4 + c5 + c6) + 256 * ((c4 + c5 + c6 + c7) + 256 * ((c5 + c6 + c7) + 256 * ((c6 + c7) + 256 * c7))))))) = (c0 + c1 + c2 + c3 + c4 + c5 + c6 + c7) + 256 * ((c1 + c2 + c3 + c4 + c5 + c6 + c7) + 256 * ((c2 + c3 + c4 + c5 + c6 + c7) + 256 * ((c3 + c4 + c5 + c6 + c7) + 256 * ((c4 + c5 + c6 + c7) + 256 * ((c5 + c6 + c7) + 256 * ((c6 + c7) + 256 * c7)))))) := by
    rw [G3_low _ _ _ _ _ (by omega) (by omega) (by omega) (by omega)]
    clear h0 h1 h2 h3 h4 h5 h6 h7
    omega
  rw [g3]
  clear g3
  generalize hs0 : c0 + c1 + c2 + c3 + c4 + c5 + c6 + c7 = s0
  have b0 : s0 ≤ 64 := by omega
  refine ⟨by omega, by omega, by omega, by omega, ?_, b0⟩
  rw [show ∀ Z, s0 + 256 * Z = s0 + 128 * (2 * Z) by intro Z; omega, Nat.add_mul_mod_self_left]
  omega
end Go.Proofs.YtobbbaagoiejeaaDoor
