/- Plain words of FnExpansions: finite checks of the lengths of expansions with denominators up to 60, the number with the digits is the fraction, halves of a period. Conditions: none. -/
import Derived.Test.YtnbhbifcjcfmaaaExpF
import Derived.Test.YtnbhbifcjcfmaaaExpH
namespace Go.Proofs.Ytnbhbifcjcfmaaa
set_option linter.unusedVariables false

/-! ## Finite checks in raw numbers -/
/-- Walk over the rests until one is seen again. -/
def seek (b q : Nat) (t : Nat) : Nat → Nat → Nat → (Nat → Nat → Bool) → Bool :=
  Nat.rec (motive := fun _ => Nat → Nat → Nat → (Nat → Nat → Bool) → Bool) (fun _ _ _ _ => false)
    (fun _ ih r v k g => bif Nat.beq (Nat.mod (Nat.shiftRight v r) 2) 1 then g r k else ih (Nat.mod (Nat.mul r b) q) (Nat.lor v (Nat.shiftLeft 1 r)) (Nat.succ k) g) t
/-- The first place of a rest. -/
def firstAt (b q z : Nat) (t : Nat) : Nat → Nat → (Nat → Bool) → Bool :=
  Nat.rec (motive := fun _ => Nat → Nat → (Nat → Bool) → Bool) (fun _ _ _ => false)
    (fun _ ih r k g => bif Nat.beq r z then g k else ih (Nat.mod (Nat.mul r b) q) (Nat.succ k) g) t
def allTo (n : Nat) (f : Nat → Bool) : Bool := Nat.rec (motive := fun _ => Bool) true (fun i ih => bif f i then ih else false) n
theorem allTo_iff {f : Nat → Bool} : ∀ {n : Nat}, allTo n f = true ↔ ∀ i, i < n → f i = true
  | 0 => ⟨fun _ i hi => by omega, fun _ => rfl⟩
  | n + 1 => by
    have e : allTo (n + 1) f = (bif f n then allTo n f else false) := rfl
    rw [e]
    constructor
    · intro h i hi
      cases hf : f n with
      | false => rw [hf] at h; simp at h
      | true =>
        rw [hf] at h
        by_cases hin : i = n
        · rw [hin]; exact hf
        · exact allTo_iff.1 h i (by omega)
    · intro h
      rw [h n (by omega)]
      exact allTo_iff.2 fun i hi => h i (by omega)
def lensAt (b q p t : Nat) (g : Nat → Nat → Bool) : Bool :=
  seek b q t p 0 0 fun r n => firstAt b q r t p 0 fun f => g f (bif Nat.beq r 0 then 0 else Nat.sub n f)
/-- Divide out the common factors. -/
def strip (b t : Nat) : Nat → Nat :=
  Nat.rec (motive := fun _ => Nat → Nat) (fun u => u) (fun _ ih u => bif Nat.ble (Nat.gcd u b) 1 then u else ih (Nat.div u (Nat.gcd u b))) t
def ordN (b u t : Nat) : Nat → Nat → Nat :=
  Nat.rec (motive := fun _ => Nat → Nat → Nat) (fun _ _ => 0) (fun _ ih r k => bif Nat.beq r 1 then k else ih (Nat.mod (Nat.mul r b) u) (Nat.succ k)) t

theorem rst_nat {b q p r k : Nat} (h : rst b q p k = (r : Int)) : rst b q p (k + 1) = ((Nat.mod (Nat.mul r b) q : Nat) : Int) := by
  rw [rst_succ, h]
  show _ = ((r * b % q : Nat) : Int)
  rw [Int.natCast_emod, Int.natCast_mul]
theorem bit_iff (v r : Nat) : Nat.beq (Nat.mod (Nat.shiftRight v r) 2) 1 = v.testBit r := by
  rw [Bool.eq_iff_iff, Nat.testBit_eq_decide_div_mod_eq, decide_eq_true_iff]
  show (Nat.beq _ _ = true) ↔ _
  rw [Nat.beq_eq]
  show (v >>> r % 2 = 1) ↔ _
  rw [Nat.shiftRight_eq_div_pow]
theorem seek_ok {b q p : Nat} {g : Nat → Nat → Bool} : ∀ (t r v k : Nat), rst b q p k = (r : Int) → (∀ x : Nat, v.testBit x = true ↔ ∃ j, j < k ∧ rst b q p j = (x : Int)) → Dist b q p k → seek b q t r v k g = true →
    ∃ z n, rst b q p n = ((z : Nat) : Int) ∧ (∃ j, j < n ∧ rst b q p j = (z : Int)) ∧ Dist b q p n ∧ n < k + t ∧ g z n = true
  | 0, _, _, _, _, _, _, h => by exact absurd h (by simp [seek])
  | t + 1, r, v, k, hr, hv, hd, h => by
    have e : seek b q (t + 1) r v k g = (bif Nat.beq (Nat.mod (Nat.shiftRight v r) 2) 1 then g r k else seek b q t (Nat.mod (Nat.mul r b) q) (Nat.lor v (Nat.shiftLeft 1 r)) (Nat.succ k) g) := rfl
    rw [e, bit_iff] at h
    cases hb : v.testBit r with
    | true =>
      rw [hb] at h
      exact ⟨r, k, hr, (hv r).1 hb, hd, by omega, h⟩
    | false =>
      rw [hb] at h
      have hn : ¬ ∃ j, j < k ∧ rst b q p j = (r : Int) := fun hx => by rw [(hv r).2 hx] at hb; cases hb
      obtain ⟨z, n, h1, h2, h3, h4, h5⟩ := seek_ok t _ _ (k + 1) (rst_nat hr) (by
        intro x
        show (v ||| (1 <<< r)).testBit x = true ↔ _
        rw [Nat.testBit_or, Nat.one_shiftLeft, Nat.testBit_two_pow, Bool.or_eq_true, hv x, decide_eq_true_iff]
        constructor
        · rintro (⟨j, hj, hx⟩ | hx)
          · exact ⟨j, by omega, hx⟩
          · exact ⟨k, by omega, by rw [hr, hx]⟩
        · rintro ⟨j, hj, hx⟩
          by_cases hjk : j = k
          · subst hjk; rw [hr] at hx; right; omega
          · left; exact ⟨j, by omega, hx⟩) (hd.succ fun j hj he => hn ⟨j, hj, he.trans hr⟩) h
      exact ⟨z, n, h1, h2, h3, by omega, h5⟩
theorem firstAt_ok {b q p z : Nat} {g : Nat → Bool} : ∀ (t r k : Nat), rst b q p k = (r : Int) → (∀ j, j < k → rst b q p j ≠ (z : Int)) → firstAt b q z t r k g = true →
    ∃ f, rst b q p f = (z : Int) ∧ (∀ j, j < f → rst b q p j ≠ (z : Int)) ∧ g f = true
  | 0, _, _, _, _, h => by exact absurd h (by simp [firstAt])
  | t + 1, r, k, hr, hv, h => by
    have e : firstAt b q z (t + 1) r k g = (bif Nat.beq r z then g k else firstAt b q z t (Nat.mod (Nat.mul r b) q) (Nat.succ k) g) := rfl
    rw [e] at h
    cases hb : Nat.beq r z with
    | true =>
      rw [hb] at h
      have := Nat.eq_of_beq_eq_true hb
      subst this
      exact ⟨k, hr, hv, h⟩
    | false =>
      rw [hb] at h
      have hne : r ≠ z := fun e => by subst e; rw [Nat.beq_refl] at hb; cases hb
      exact firstAt_ok t _ (k + 1) (rst_nat hr) (fun j hj => by
        by_cases hjk : j = k
        · subst hjk; rw [hr]; omega
        · exact hv j (by omega)) h
theorem lensAt_ok {b q p t : Nat} {g : Nat → Nat → Bool} (h : lensAt b q p t g = true) : g (preN b q p) (perN b q p) = true ∧ preN b q p + perN b q p < t ∧ ∃ f n, Rep b q p f n ∧ preN b q p = f ∧ perN b q p = (if rst b q p f = 0 then 0 else n - f) := by
  obtain ⟨z, n, h1, ⟨j, hj, hz⟩, h3, h4, h5⟩ := seek_ok t p 0 0 rfl (fun x => by simp) (Dist.zero _ _ _) h
  obtain ⟨f, f1, f2, f3⟩ := firstAt_ok t p 0 rfl (fun j hj => by omega) h5
  have hfj : f ≤ j := by
    rcases Nat.lt_or_ge j f with hl | hl
    · exact absurd hz (f2 j hl)
    · exact hl
  have hR : Rep b q p f n := ⟨by omega, by rw [h1, f1], h3⟩
  obtain ⟨e1, e2⟩ := hR.lens
  have e3 : perN (b : Int) q p = bif Nat.beq z 0 then 0 else Nat.sub n f := by
    rw [e2, f1]
    cases hb : Nat.beq z 0 with
    | true => have := Nat.eq_of_beq_eq_true hb; subst this; simp
    | false =>
      have hne : z ≠ 0 := fun e => by subst e; cases hb
      rw [if_neg (by omega)]; rfl
  refine ⟨?_, ?_, f, n, hR, e1, e2⟩
  · rw [e1, e3]; exact f3
  · rw [e1, e2]; split <;> omega

def chkE (b q p : Nat) : Bool :=
  lensAt b q p 62 fun f m =>
    (fun d => (fun r => (fun u => bif Nat.ble (Nat.gcd u b) 1 then bif Nat.ble 1 u then bif (bif Nat.ble q 1 then true else Nat.blt (Nat.add f m) q) then
      bif Nat.beq u 1 then Nat.beq m 0 else
      bif Nat.ble 1 m then bif Nat.beq (ordN b u 62 (Nat.mod b u) 1) m then bif Nat.beq u r then Nat.beq f 0 else true else false else false
     else false else false else false) (strip b 7 r)) (Nat.div q d)) (Nat.gcd p q)
def chkP (b q m p : Nat) : Bool :=
  lensAt b q p 62 fun f n => bif Nat.beq f 0 then bif Nat.ble 1 n then bif Nat.beq n m then bif Nat.beq (Nat.mod (Nat.sub q 1) n) 0 then
    bif Nat.beq (Nat.mod n 2) 1 then true else firstAt b q (Nat.sub q p) 62 p 0 fun h => Nat.beq (Nat.mul 2 h) n else false else false else false else false
def chkQ (b q : Nat) : Bool := lensAt b q 1 62 fun _ m => allTo (Nat.sub q 1) fun i => chkP b q m (Nat.succ i)
set_option maxRecDepth 100000 in
set_option maxHeartbeats 0 in
theorem chkE_all : allTo 15 (fun b => allTo 60 fun q => allTo (Nat.succ q) fun p => chkE (b + 2) (q + 1) p) = true := by decide +kernel
set_option maxRecDepth 100000 in
set_option maxHeartbeats 0 in
theorem chkQ_all : allTo 15 (fun b => (fun b => bif chkQ b 17 then bif chkQ b 19 then bif chkQ b 23 then bif chkQ b 29 then bif chkQ b 31 then bif chkQ b 37 then bif chkQ b 41 then bif chkQ b 43 then bif chkQ b 47 then chkQ b 53 else false else false else false else false else false else false else false else false else false) (b + 2)) = true := by decide +kernel
/-! ## What the finite checks say -/
theorem bif_and {x y : Bool} (h : (bif x then y else false) = true) : x = true ∧ y = true := by
  cases x with
  | true => exact ⟨rfl, h⟩
  | false => cases h
theorem beq_t {a b : Nat} (h : Nat.beq a b = true) : a = b := Nat.eq_of_beq_eq_true h
theorem ble_t {a b : Nat} (h : Nat.ble a b = true) : a ≤ b := Nat.le_of_ble_eq_true h
def uOf (b q p : Nat) : Nat := strip b 7 (q / Nat.gcd p q)
theorem chkE_ok {b q p : Nat} (h : chkE b q p = true) : preN b q p + perN b q p < 62 ∧ (q ≤ 1 ∨ preN b q p + perN b q p < q) ∧ Nat.gcd (uOf b q p) b ≤ 1 ∧ 1 ≤ uOf b q p ∧
    (uOf b q p = 1 → perN b q p = 0) ∧ (uOf b q p ≠ 1 → 1 ≤ perN b q p ∧ ordN b (uOf b q p) 62 (b % uOf b q p) 1 = perN b q p ∧ (uOf b q p = q / Nat.gcd p q → preN b q p = 0)) := by
  obtain ⟨h1, h2, -⟩ := lensAt_ok h
  refine ⟨h2, ?_⟩
  clear h h2
  generalize preN b q p = f at h1 ⊢
  generalize perN b q p = m at h1 ⊢
  obtain ⟨u, hu⟩ : ∃ u, u = uOf b q p := ⟨_, rfl⟩
  rw [← hu]
  have hu2 : strip b 7 (Nat.div q (Nat.gcd p q)) = u := hu.symm
  dsimp only at h1
  rw [hu2] at h1
  obtain ⟨a1, h1⟩ := bif_and h1
  obtain ⟨a2, h1⟩ := bif_and h1
  obtain ⟨a3, h1⟩ := bif_and h1
  refine ⟨?_, ble_t a1, ble_t a2, ?_, ?_⟩
  · cases hq : Nat.ble q 1 with
    | true => exact .inl (ble_t hq)
    | false =>
      rw [hq] at a3
      right
      have : Nat.ble (Nat.succ (Nat.add f m)) q = true := a3
      exact ble_t this
  · intro e
    subst e
    exact beq_t h1
  · intro hne
    have hb : Nat.beq u 1 = false := by
      cases h : Nat.beq u 1 with
      | true => exact absurd (beq_t h) hne
      | false => rfl
    rw [hb] at h1
    obtain ⟨a4, h1⟩ := bif_and h1
    obtain ⟨a5, h1⟩ := bif_and h1
    refine ⟨ble_t a4, beq_t a5, fun e => ?_⟩
    have e2 : u = Nat.div q (Nat.gcd p q) := e
    rw [← e2, Nat.beq_refl] at h1
    exact beq_t h1
theorem exp_facts {b q p : Nat} (b1 : 2 ≤ b) (b2 : b ≤ 16) (q1 : 1 ≤ q) (q2 : q ≤ 60) (hp : p < q) : preN b q p + perN b q p < 62 ∧ (q ≤ 1 ∨ preN b q p + perN b q p < q) ∧ Nat.gcd (uOf b q p) b ≤ 1 ∧ 1 ≤ uOf b q p ∧
    (uOf b q p = 1 → perN b q p = 0) ∧ (uOf b q p ≠ 1 → 1 ≤ perN b q p ∧ ordN b (uOf b q p) 62 (b % uOf b q p) 1 = perN b q p ∧ (uOf b q p = q / Nat.gcd p q → preN b q p = 0)) := by
  have h := allTo_iff.1 (allTo_iff.1 (allTo_iff.1 chkE_all (b - 2) (by omega)) (q - 1) (by omega)) p (by show p < q - 1 + 1; omega)
  rw [show b - 2 + 2 = b by omega, show q - 1 + 1 = q by omega] at h
  exact chkE_ok h
theorem chkP_ok {b q m p : Nat} (h : chkP b q m p = true) : preN b q p = 0 ∧ 1 ≤ perN b q p ∧ perN b q p < 62 ∧ perN b q p = m ∧ (q - 1) % perN b q p = 0 ∧ (perN b q p % 2 = 1 ∨ rst b q p (perN b q p / 2) = ((q - p : Nat) : Int) ∧ perN b q p % 2 = 0) := by
  obtain ⟨h1, h2, -⟩ := lensAt_ok h
  clear h
  obtain ⟨a1, h1⟩ := bif_and h1
  obtain ⟨a2, h1⟩ := bif_and h1
  obtain ⟨a3, h1⟩ := bif_and h1
  obtain ⟨a4, h1⟩ := bif_and h1
  refine ⟨beq_t a1, ble_t a2, by omega, beq_t a3, beq_t a4, ?_⟩
  cases hb : Nat.beq (Nat.mod (perN b q p) 2) 1 with
  | true => exact .inl (beq_t hb)
  | false =>
    rw [hb] at h1
    right
    have h2 : firstAt b q (Nat.sub q p) 62 p 0 (fun h => Nat.beq (Nat.mul 2 h) (perN b q p)) = true := h1
    obtain ⟨f, f1, f2, f3⟩ := firstAt_ok 62 p 0 rfl (fun j hj => by omega) h2
    have f4 : 2 * f = perN b q p := beq_t f3
    rw [show perN b q p / 2 = f by omega]
    exact ⟨f1, by omega⟩
def PR (q : Nat) : Prop := q = 17 ∨ q = 19 ∨ q = 23 ∨ q = 29 ∨ q = 31 ∨ q = 37 ∨ q = 41 ∨ q = 43 ∨ q = 47 ∨ q = 53
theorem chkQ_at {b q : Nat} (b1 : 2 ≤ b) (b2 : b ≤ 16) (hq : PR q) : chkQ b q = true := by
  have h := allTo_iff.1 chkQ_all (b - 2) (by omega)
  dsimp only at h
  rw [show b - 2 + 2 = b by omega] at h
  obtain ⟨c1, h⟩ := bif_and h
  obtain ⟨c2, h⟩ := bif_and h
  obtain ⟨c3, h⟩ := bif_and h
  obtain ⟨c4, h⟩ := bif_and h
  obtain ⟨c5, h⟩ := bif_and h
  obtain ⟨c6, h⟩ := bif_and h
  obtain ⟨c7, h⟩ := bif_and h
  obtain ⟨c8, h⟩ := bif_and h
  obtain ⟨c9, h⟩ := bif_and h
  rcases hq with rfl | rfl | rfl | rfl | rfl | rfl | rfl | rfl | rfl | rfl <;> assumption
theorem prime_facts {b q p : Nat} (b1 : 2 ≤ b) (b2 : b ≤ 16) (hq : PR q) (p1 : 1 ≤ p) (p2 : p < q) : preN b q p = 0 ∧ 1 ≤ perN b q p ∧ perN b q p < 62 ∧ perN b q p = perN b q (1 : Nat) ∧ (q - 1) % perN b q p = 0 ∧ (perN b q p % 2 = 1 ∨ rst b q p (perN b q p / 2) = ((q - p : Nat) : Int) ∧ perN b q p % 2 = 0) := by
  obtain ⟨h1, h2, -⟩ := lensAt_ok (chkQ_at b1 b2 hq)
  have h3 := allTo_iff.1 h1 (p - 1) (by show p - 1 < q - 1; omega)
  rw [show Nat.succ (p - 1) = p by omega] at h3
  exact chkP_ok h3

/-! ## The number with the digits is the fraction -/
theorem nv_snoc (b : Int) (xs : List Int) (d : Int) : nv b (xs ++ [d]) = nv b xs * b + d := by simp [nv]
theorem nv_cat (b : Int) (xs : List Int) : ∀ ys : List Int, nv b (xs ++ ys) = nv b xs * b ^ ys.length + nv b ys := by
  have acc : ∀ (ys : List Int) (n : Int), ys.foldl (fun n d => n * b + d) n = n * b ^ ys.length + nv b ys := by
    intro ys
    induction ys with
    | nil => intro n; simp [nv]
    | cons y ys ih =>
      intro n
      have e : nv b (y :: ys) = y * b ^ ys.length + nv b ys := by
        show List.foldl _ (0 * b + y) ys = _
        rw [ih]; simp
      rw [List.foldl_cons, ih, e, List.length_cons, Int.pow_succ]
      grind
  intro ys
  unfold nv
  rw [List.foldl_append]
  exact acc ys _
theorem nv_dgl (b q p : Int) : ∀ n, nv b (dgl b q p n) * q = p * b ^ n - rst b q p n
  | 0 => by simp [nv, dgl, rst]
  | n + 1 => by
    rw [dgl_succ, nv_snoc, rst_succ, Int.pow_succ]
    have ih := nv_dgl b q p n
    have hd := Int.mul_ediv_add_emod (rst b q p n * b) q
    generalize nv b (dgl b q p n) = N at ih ⊢
    generalize rst b q p n = r at ih hd ⊢
    generalize r * b / q = d at hd ⊢
    generalize r * b % q = e at hd ⊢
    generalize b ^ n = B at ih ⊢
    grind
theorem cat_dgl (b q p : Int) (f n : Nat) (h : f ≤ n) : dgl b q p f ++ (dgl b q p n).drop f = dgl b q p n := by
  rw [← take_dgl (b := b) (q := q) (p := p) h, List.take_append_drop]
theorem gcd_red {T B p q : Nat} (hq : 0 < q) (hB : 0 < B) (h : T * q = p * B) : T / Nat.gcd T B = p / Nat.gcd p q ∧ B / Nat.gcd T B = q / Nat.gcd p q := by
  have g0 : 0 < Nat.gcd T B := Nat.gcd_pos_of_pos_right _ hB
  have k0 : 0 < Nat.gcd p q := Nat.gcd_pos_of_pos_right _ hq
  have c1 := Nat.coprime_div_gcd_div_gcd g0
  have c2 := Nat.coprime_div_gcd_div_gcd k0
  have e1 := Nat.div_mul_cancel (Nat.gcd_dvd_left T B)
  have e2 := Nat.div_mul_cancel (Nat.gcd_dvd_right T B)
  have e3 := Nat.div_mul_cancel (Nat.gcd_dvd_left p q)
  have e4 := Nat.div_mul_cancel (Nat.gcd_dvd_right p q)
  generalize Nat.gcd T B = g at *
  generalize Nat.gcd p q = k at *
  generalize T / g = t at *
  generalize B / g = c at *
  generalize p / k = r at *
  generalize q / k = s at *
  have hx : t * s = r * c := by
    have : (t * s) * (g * k) = (r * c) * (g * k) := by
      rw [← e1, ← e2, ← e3, ← e4] at h
      grind
    exact Nat.eq_of_mul_eq_mul_right (Nat.mul_pos g0 k0) this
  have hc : 0 < c := by rcases Nat.eq_zero_or_pos c with h | h; · subst h; omega
                        · exact h
  have hs : 0 < s := by rcases Nat.eq_zero_or_pos s with h | h; · subst h; omega
                        · exact h
  have d1 : c ∣ s := by
    have : c ∣ t * s := ⟨r, by rw [hx, Nat.mul_comm]⟩
    exact (Nat.Coprime.symm c1).dvd_of_dvd_mul_left this
  have d2 : s ∣ c := by
    have : s ∣ r * c := ⟨t, by rw [← hx, Nat.mul_comm]⟩
    exact (Nat.Coprime.symm c2).dvd_of_dvd_mul_left this
  have hcs : c = s := Nat.dvd_antisymm d1 d2
  subst hcs
  exact ⟨Nat.eq_of_mul_eq_mul_right hc hx, rfl⟩
theorem from_exp {b q p : Int} (b1 : 2 ≤ b) (hq : 0 < q) (p0 : 0 ≤ p) (hp : p < q) : fTop b (preL b q p) (perL b q p) * q = p * fBot b (preL b q p) (perL b q p) := by
  obtain ⟨f, n, hR⟩ := Rep.exists (b := b) hq p0 hp
  obtain ⟨e1, e2⟩ := hR.lens
  have hl1 := length_preL b q p
  have hl2 := length_perL b q p
  have hcat : preL b q p ++ perL b q p = dgl b q p (preN b q p + perN b q p) := cat_dgl b q p _ _ (by omega)
  have h1 := nv_dgl b q p (preN b q p)
  have h2 := nv_dgl b q p (preN b q p + perN b q p)
  rw [← hcat, nv_cat, hl2] at h2
  have h1' : nv b (preL b q p) * q = p * b ^ preN b q p - rst b q p (preN b q p) := h1
  unfold fTop fBot
  rw [hl1, hl2]
  rw [e1] at h1' h2 ⊢
  by_cases hz : rst b q p f = 0
  · rw [if_pos hz] at e2
    rw [e2] at h2 ⊢
    rw [if_pos rfl, if_pos rfl, h1', hz]; omega
  · rw [if_neg hz] at e2
    have hn := hR.1
    rw [if_neg (by omega), if_neg (by omega)]
    have he : rst b q p (f + perN b q p) = rst b q p f := by rw [e2, show f + (n - f) = n by omega, hR.2.1]
    rw [he, Int.pow_add] at h2
    generalize perN b q p = m at h2 ⊢
    generalize nv b (preL b q p) = N at h1' h2 ⊢
    generalize nv b (perL b q p) = M at h2 ⊢
    generalize rst b q p f = r at h1' h2
    generalize b ^ f = F at h1' h2 ⊢
    generalize b ^ m = E at h2 ⊢
    grind

/-! ## Halves of the period -/
theorem half_rest {b q p : Int} {h : Nat} (hq : 0 < q) (p0 : 0 ≤ p) (p1 : p < q) (hh : rst b q p h = q - p) (hn : ∀ k, k ≤ h → rst b q p k ≠ 0) : ∀ k, k ≤ h → rst b q p (h + k) = q - rst b q p k
  | 0, _ => hh
  | k + 1, hk => by
    have ih := half_rest hq p0 p1 hh hn k (by omega)
    have hz := hn (k + 1) hk
    rw [← Nat.add_assoc, rst_succ, ih]
    rw [rst_succ] at hz
    rw [rst_succ]
    have hd := Int.mul_ediv_add_emod (rst b q p k * b) q
    have hr0 := Int.emod_nonneg (rst b q p k * b) (show q ≠ 0 by omega)
    have hr1 := Int.emod_lt_of_pos (rst b q p k * b) hq
    have e : (q - rst b q p k) * b = (q - rst b q p k * b % q) + q * (b - 1 - rst b q p k * b / q) := by
      generalize rst b q p k * b % q = s at *
      generalize rst b q p k * b / q = d at *
      generalize rst b q p k = r at *
      grind
    rw [e, Int.add_mul_emod_self_left, Int.emod_eq_of_lt (by omega) (by omega)]
theorem half_digit {b q r : Int} (hq : 0 < q) (hz : r * b % q ≠ 0) : r * b / q + (q - r) * b / q = b - 1 := by
  have hd := Int.mul_ediv_add_emod (r * b) q
  have hr0 := Int.emod_nonneg (r * b) (show q ≠ 0 by omega)
  have hr1 := Int.emod_lt_of_pos (r * b) hq
  have e : (q - r) * b = (q - r * b % q) + q * (b - 1 - r * b / q) := by
    generalize r * b % q = s at *
    generalize r * b / q = d at *
    grind
  rw [e, Int.add_mul_ediv_left _ _ (by omega), Int.ediv_eq_zero_of_lt (a := q - r * b % q) (b := q) (by omega) (by omega)]
  omega
theorem halves {b q p : Int} (hq : 0 < q) (p0 : 0 ≤ p) (p1 : p < q) (h0 : preN b q p = 0) (h1 : 1 ≤ perN b q p) (h2 : rst b q p (perN b q p / 2) = q - p) (h3 : perN b q p % 2 = 0) : HhP b (perL b q p) := by
  have hl := length_perL b q p
  obtain ⟨f, n, hR⟩ := Rep.exists (b := b) hq p0 p1
  obtain ⟨e1, e2⟩ := hR.lens
  rw [h0] at e1
  subst e1
  have hz0 : rst b q p 0 ≠ 0 := fun e => by rw [if_pos e] at e2; omega
  rw [if_neg hz0] at e2
  have hnz : ∀ k, k ≤ n → rst b q p k ≠ 0 := by
    intro k hk e
    have := rst_zero e (n - k)
    rw [show k + (n - k) = n by omega, hR.2.1] at this
    exact hz0 this
  have hpl : perL b q p = dgl b q p (perN b q p) := by unfold perL; rw [h0]; simp
  refine ⟨by omega, by omega, ?_⟩
  rw [hl]
  intro k hk
  rw [hpl, getD_dgl (by omega), getD_dgl (by omega)]
  rw [half_rest hq p0 p1 h2 (fun j hj => hnz j (by omega)) k (by omega)]
  have hz := hnz (k + 1) (by omega)
  rw [rst_succ] at hz
  exact half_digit hq hz
end Go.Proofs.Ytnbhbifcjcfmaaa
