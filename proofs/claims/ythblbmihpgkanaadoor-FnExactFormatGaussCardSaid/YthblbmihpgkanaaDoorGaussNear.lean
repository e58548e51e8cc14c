/- Contracts of nearest, l16Floor and of products of complex numbers with greater bounds. Conditions: numbers of at most 10^11. -/
import Derived.Test.YthblbmihpgkanaaDoorGauss
import Derived.Test.YthblbmihpgkanaaDoorMod
namespace Go.Proofs.YthblbmihpgkanaaDoor
open Go.RowKit
set_option linter.unusedVariables false

theorem tdiv_exact {a m q : Int} (hm : m ≠ 0) (h : a = m * q) : a.tdiv m = q := by subst h; exact Int.mul_tdiv_cancel_left q hm
set_option maxHeartbeats 1000000 in
theorem i_near (t n : Int) (w : World) (h1 : -100000000000 ≤ t) (h2 : t ≤ 100000000000) (h3 : 1 ≤ n) (h4 : n ≤ 100000000000) :
    Calls Tryd.prog 27 #[.int .i64 t, .int .i64 n] w fun e w' => e = .returned (.int .i64 ((2 * t + n) / (2 * n))) ∧ w = w' := by
  have hd := Int.mul_ediv_add_emod (2 * t + n) (2 * n)
  have hr0 := Int.emod_nonneg (2 * t + n) (show 2 * n ≠ 0 by omega)
  have hr1 := Int.emod_lt_of_pos (2 * t + n) (show 0 < 2 * n by omega)
  obtain ⟨q, hq⟩ : ∃ q, q = (2 * t + n) / (2 * n) := ⟨_, rfl⟩
  obtain ⟨r, hr⟩ : ∃ r, r = (2 * t + n) % (2 * n) := ⟨_, rfl⟩
  rw [← hq, ← hr] at hd
  rw [← hr] at hr0 hr1
  have ht : (2 * t + n - r).tdiv (2 * n) = q := tdiv_exact (by omega) (by omega)
  rw [← hq]
  have HR := Lib.hid hr
  have hz : ((2 * n : Int) == 0) = false := by simp; omega
  have hz2 : ¬ ((2 * n : Int) = 0) := by omega
  have hql : -400000000000 ≤ q ∧ q ≤ 400000000000 := by
    rw [hq]
    exact ⟨Int.le_ediv_of_mul_le (by omega) (by omega), Int.ediv_le_of_le_mul (by omega) (by omega)⟩
  obtain ⟨q1, q2⟩ := hql
  clear hd hq hr
  go_enter Tryd.func27, Tryd.ntmps27
  go_wp2_with (go_at_call 21; refine (i_mod (2 * t + n) (2 * n) _ (by omega) (by omega)).mono ?_; rw [← HR.out]; rintro e w1 ⟨rfl, rfl⟩)
  go_ret
  exact ⟨rfl, rfl⟩

theorem floor_pos {a n : Int} (ha : 0 ≤ a) : a.tdiv n = a / n := Int.tdiv_eq_ediv_of_nonneg ha
/-- The two cells of a complex number in a block of its own. -/
def GB (w : World) (g : Nat) (x y : Int) : Prop := w.heap[g]? = some (.cells #[.int .i64 x, .int .i64 y] 24 (0, 0))
section
variable {w w' : World} {g : Nat} {x y : Int}
theorem GB.lt (h : GB w g x y) : g < w.heap.size := (Array.getElem?_eq_some_iff.1 h).1
theorem GB.cell0 (h : GB w g x y) : w.cell? ⟨g, 0, none⟩ = some (.int .i64 x) := by rw [cell_of_row w g 0 _ _ (0, 0) h]; rfl
theorem GB.cell1 (h : GB w g x y) : w.cell? ⟨g, 1, none⟩ = some (.int .i64 y) := by rw [cell_of_row w g 1 _ _ (0, 0) h]; rfl
theorem GB.frozen (h : GB w g x y) (i : Nat) : w.frozen? ⟨g, i, none⟩ = false := by
  unfold GB at h
  simp [World.frozen?, h]
theorem GB.at (w : World) (g : Nat) (x y : Int) (hg : w.heap.size = g) : GB (w.alloc (.cells #[.int .i64 x, .int .i64 y] 24)) g x y := by subst hg; exact heap_alloc_new w _
theorem GB.up (h : GB w g x y) (o : Obj) : GB (w.alloc o) g x y := (b_alloc (Below.refl w.heap.size w) o).block g h.lt |>.trans h
theorem GB.dr (h : GB w g x y) : GB w.drew g x y := h
theorem GB.below {B : Nat} (h : GB w g x y) (hb : Below B w w') (hg : g < B) : GB w' g x y := (hb.block g hg).trans h
theorem GB.set0 (h : GB w g x y) (c : Int) : GB (w.setCell ⟨g, 0, none⟩ (.int .i64 c)) g c y := by
  unfold GB at h ⊢
  simp [World.setCell, Array.getElem?_modify, h]
theorem GB.set1 (h : GB w g x y) (c : Int) : GB (w.setCell ⟨g, 1, none⟩ (.int .i64 c)) g x c := by
  unfold GB at h ⊢
  simp [World.setCell, Array.getElem?_modify, h]
theorem GB.setx (h : GB w g x y) {p : Addr} (hp : p.block ≠ g) (u : Value) : GB (w.setCell p u) g x y := (Below.heap_setCell w p u g (fun e => hp e.symm)).trans h
end
theorem gen_world {P : Program} {c : Code} {Q : Exit → Act → World → Prop} {a : Act} {W : World} (R : World → Prop) (h : R W) (k : ∀ w, R w → Code.wp P c Q a w) : Code.wp P c Q a W := k W h
theorem sq_nn (t : Int) : 0 ≤ t * t := by rw [← Int.natAbs_mul_self]; exact Int.natCast_nonneg _
theorem sq_one {t : Int} (h : t ≠ 0) : 1 ≤ t * t := by
  rw [← Int.natAbs_mul_self]
  have h1 : 1 ≤ t.natAbs := by omega
  exact Int.ofNat_le.2 (Nat.mul_le_mul h1 h1)
theorem sq_pos (u v : Int) (h : ¬ (u = 0 ∧ v = 0)) : 1 ≤ u * u + v * v := by
  have a := sq_nn u
  have b := sq_nn v
  by_cases hu : u = 0
  · have := sq_one (t := v) (fun e => h ⟨hu, e⟩)
    omega
  · have := sq_one hu
    omega
theorem mul_bd2 (x u : Int) (h1 : -1000000 ≤ x) (h2 : x ≤ 1000000) (h3 : -100000 ≤ u) (h4 : u ≤ 100000) : -100000000000 ≤ x * u ∧ x * u ≤ 100000000000 := by
  have e : (x * u).natAbs ≤ 1000000 * 100000 := by rw [Int.natAbs_mul]; exact Nat.mul_le_mul (by omega) (by omega)
  omega
theorem div_id (x y u v q1 q2 : Int) : ((x - (q1*u - q2*v))*(x - (q1*u - q2*v)) + (y - (q1*v+q2*u))*(y - (q1*v+q2*u))) * (u*u+v*v) = ((x*u+y*v) - q1*(u*u+v*v))*((x*u+y*v) - q1*(u*u+v*v)) + ((y*u - x*v) - q2*(u*u+v*v))*((y*u - x*v) - q2*(u*u+v*v)) := by grind
theorem div_half (R n A C : Int) (hn : 1 ≤ n) (h : R * n = A*A + C*C) (a1 : -n ≤ 2*A) (a2 : 2*A ≤ n) (c1 : -n ≤ 2*C) (c2 : 2*C ≤ n) : 2*R ≤ n := by
  have e1 : 4*(A*A) ≤ n*n := by
    have : 0 ≤ (n - 2*A) * (n + 2*A) := Int.mul_nonneg (by omega) (by omega)
    grind
  have e2 : 4*(C*C) ≤ n*n := by
    have : 0 ≤ (n - 2*C) * (n + 2*C) := Int.mul_nonneg (by omega) (by omega)
    grind
  have e3 : (2*R)*n ≤ n*n := by grind
  exact Int.le_of_mul_le_mul_right e3 (by omega)
theorem near_half (a n : Int) (hn : 1 ≤ n) : -n ≤ 2 * (a - (2 * a + n) / (2 * n) * n) ∧ 2 * (a - (2 * a + n) / (2 * n) * n) ≤ n := by
  have hd := Int.mul_ediv_add_emod (2 * a + n) (2 * n)
  have hr0 := Int.emod_nonneg (2 * a + n) (show 2 * n ≠ 0 by omega)
  have hr1 := Int.emod_lt_of_pos (2 * a + n) (show 0 < 2 * n by omega)
  have e : 2 * n * ((2 * a + n) / (2 * n)) = 2 * ((2 * a + n) / (2 * n) * n) := by rw [Int.mul_assoc, Int.mul_comm n]
  omega
theorem near_bd (a n : Int) (hn : 1 ≤ n) (h1 : -(100000 * n) ≤ a) (h2 : a ≤ 100000 * n) : -100000 ≤ (2 * a + n) / (2 * n) ∧ (2 * a + n) / (2 * n) ≤ 100000 := by
  constructor
  · exact Int.le_ediv_of_mul_le (by omega) (by omega)
  · have : (2 * a + n) / (2 * n) < 100001 := Int.ediv_lt_of_lt_mul (by omega) (by omega)
    omega
theorem mul_le_sq (x u : Int) (h1 : -100000 ≤ x) (h2 : x ≤ 100000) : -(100000 * (u * u)) ≤ x * u ∧ x * u ≤ 100000 * (u * u) := by
  have e : (x * u).natAbs ≤ 100000 * (u.natAbs * u.natAbs) := by
    rw [Int.natAbs_mul]
    have : u.natAbs ≤ u.natAbs * u.natAbs := by
      rcases Nat.eq_zero_or_pos u.natAbs with h | h
      · omega
      · exact Nat.le_mul_of_pos_left _ h
    exact Nat.mul_le_mul (by omega) this
  have e2 : ((u.natAbs * u.natAbs : Nat) : Int) = u * u := Int.natAbs_mul_self
  omega
theorem sq_small (t : Int) (h : t * t ≤ 10000000000) : -100000 ≤ t ∧ t ≤ 100000 := by
  constructor
  · rcases Int.lt_or_le t (-100000) with h1 | h1
    · exfalso
      have : 0 ≤ (-100001 - t) * (100001 - t) := Int.mul_nonneg (by omega) (by omega)
      grind
    · exact h1
  · rcases Int.lt_or_le 100000 t with h1 | h1
    · exfalso
      have : 0 ≤ (t - 100001) * (t + 100001) := Int.mul_nonneg (by omega) (by omega)
      grind
    · exact h1
/-- The quotient and the rest are small. -/
theorem div_small (x y u v X Y n q1 q2 : Int) (h1 : -100000 ≤ x) (h2 : x ≤ 100000) (h3 : -100000 ≤ y) (h4 : y ≤ 100000) (hn : n = u * u + v * v) (n0 : 1 ≤ n) (n1 : n ≤ 20000000000)
    (hX : X = x * u - y * -v) (hY : Y = x * -v + y * u) (e1 : q1 = (2 * X + n) / (2 * n)) (e2 : q2 = (2 * Y + n) / (2 * n)) :
    (-100000 ≤ q1 ∧ q1 ≤ 100000) ∧ (-100000 ≤ q2 ∧ q2 ≤ 100000) ∧ (-100000 ≤ x - (q1 * u - q2 * v) ∧ x - (q1 * u - q2 * v) ≤ 100000) ∧ (-100000 ≤ y - (q1 * v + q2 * u) ∧ y - (q1 * v + q2 * u) ≤ 100000) := by
  obtain ⟨a1, a2⟩ := mul_le_sq x u h1 h2
  obtain ⟨a3, a4⟩ := mul_le_sq y v h3 h4
  obtain ⟨a5, a6⟩ := mul_le_sq x v h1 h2
  obtain ⟨a7, a8⟩ := mul_le_sq y u h3 h4
  rw [Int.mul_neg] at hX hY
  have b1 := near_bd X n n0 (by omega) (by omega)
  have b2 := near_bd Y n n0 (by omega) (by omega)
  have c1 := near_half X n n0
  have c2 := near_half Y n n0
  rw [← e1] at b1 c1
  rw [← e2] at b2 c2
  have id := div_id x y u v q1 q2
  rw [← hn, show x * u + y * v = X by omega, show y * u - x * v = Y by omega] at id
  have R := div_half _ n _ _ n0 id c1.1 c1.2 c2.1 c2.2
  have s1 := sq_nn (x - (q1 * u - q2 * v))
  have s2 := sq_nn (y - (q1 * v + q2 * u))
  exact ⟨b1, b2, sq_small _ (by omega), sq_small _ (by omega)⟩
theorem impl_mul2 (x y u v : Int) (w : World) (h1 : -1000000 ≤ x) (h2 : x ≤ 1000000) (h3 : -1000000 ≤ y) (h4 : y ≤ 1000000) (g1 : -100000 ≤ u) (g2 : u ≤ 100000) (g3 : -100000 ≤ v) (g4 : v ≤ 100000) :
    Calls Tryd.prog 25 #[.agg #[.int .i64 x, .int .i64 y], .agg #[.int .i64 u, .int .i64 v]] w fun e w' => e = .returned (.agg #[.int .i64 (x * u - y * v), .int .i64 (x * v + y * u)]) ∧ ∃ c1 c2 c3 : Array Value, w' = ((w.alloc (.cells c1 24)).alloc (.cells c2 24)).alloc (.cells c3 24) := by
  obtain ⟨p0, q0⟩ := mul_bd2 x u h1 h2 g1 g2
  obtain ⟨p1, q1⟩ := mul_bd2 y v h3 h4 g3 g4
  obtain ⟨p2, q2⟩ := mul_bd2 x v h1 h2 g3 g4
  obtain ⟨p3, q3⟩ := mul_bd2 y u h3 h4 g1 g2
  go_enter Tryd.func25, Tryd.ntmps25
  go_wp2
  exact bodyPost_ret (v := .agg #[.int .i64 (x * u - y * v), .int .i64 (x * v + y * u)]) (by simp [results, Tryd.results25, go_sem]) rfl ⟨rfl, _, _, _, rfl⟩
theorem impl_norm (u v : Int) (w : World) (g1 : -100000 ≤ u) (g2 : u ≤ 100000) (g3 : -100000 ≤ v) (g4 : v ≤ 100000) :
    Calls Tryd.prog 10 #[.agg #[.int .i64 u, .int .i64 v]] w fun e w' => e = .returned (.int .i64 (u * u + v * v)) ∧ ∃ c1 c2 : Array Value, w' = (w.alloc (.cells c1 24)).alloc (.cells c2 24) := by
  obtain ⟨p0, q0⟩ := mul_bd u u g1 g2 g1 g2
  obtain ⟨p1, q1⟩ := mul_bd v v g3 g4 g3 g4
  go_enter Tryd.func10, Tryd.ntmps10
  go_wp2_with (first | (go_at_call 11; refine (impl_gok_ok u v _ g1 g2 g3 g4).mono ?_; rintro e w1 ⟨rfl, c1, rfl⟩))
  go_ret
  exact ⟨rfl, _, _, rfl⟩
end Go.Proofs.YthblbmihpgkanaaDoor
