/- What ExpansionOf hands back. Conditions: none. -/
import Derived.Test.YtnbhbifcjcfmaaaExpB
import Derived.Test.YtnbhbifcjcfmaaaExpM
import Derived.Test.YtnbhbifcjcfmaaaRow
namespace Go.Proofs.Ytnbhbifcjcfmaaa
open Go.RowKit
set_option linter.unusedVariables false

/-- Two lists of the call's own, one behind the other, and a Bool. -/
def Ret2 (w : World) (xs ys : List Int) (t : Bool) (e : Ending) (w' : World) : Prop :=
  ∃ A1 c1 A2 c2 B, e = .returned (.tuple #[.slice A1 xs.length c1, .slice A2 ys.length c2, .bool t]) ∧ OI w' w.heap.size A1 xs ∧ (∀ a, A1 = some a → a.block < B) ∧ OI w' B A2 ys ∧ w.heap.size ≤ B ∧ B ≤ w'.heap.size ∧ Below w.heap.size w w'
def Ret2c (w : World) (xs ys : List Int) (t : Bool) (e : Ending) (w' : World) : Prop :=
  ∃ A1 c1 A2 c2 B, e = .returned (.tuple #[.slice A1 xs.length c1, .slice A2 ys.length c2, .bool t]) ∧ OI w' w.heap.size A1 xs ∧ (∀ a, A1 = some a → a.block < B) ∧ OI w' B A2 ys ∧ w.heap.size ≤ B ∧ B ≤ w'.heap.size ∧ Below w.heap.size w w' ∧ ys.length ≤ c2 ∧ c2 ≤ maxLen
theorem Ret2c.plain {w w' : World} {xs ys : List Int} {t : Bool} {e : Ending} (h : Ret2c w xs ys t e w') : Ret2 w xs ys t e w' := by
  obtain ⟨A1, c1, A2, c2, B, h1, h2, h3, h4, h5, h6, h7, _⟩ := h
  exact ⟨A1, c1, A2, c2, B, h1, h2, h3, h4, h5, h6, h7⟩
theorem Ret2c.nil (w w' : World) (hb : Below w.heap.size w w') : Ret2c w [] [] false (.returned (.tuple #[.slice none 0 0, .slice none 0 0, .bool false])) w' :=
  ⟨none, 0, none, 0, w.heap.size, rfl, .inl rfl, (fun a h => by cases h), .inl rfl, Nat.le_refl _, hb.size, hb, Nat.le_refl _, by unfold maxLen; omega⟩
theorem Ret2.nil (w w' : World) (hb : Below w.heap.size w w') : Ret2 w [] [] false (.returned (.tuple #[.slice none 0 0, .slice none 0 0, .bool false])) w' :=
  ⟨none, 0, none, 0, w.heap.size, rfl, .inl rfl, (fun a h => by cases h), .inl rfl, Nat.le_refl _, hb.size, hb⟩
noncomputable def exPre (p q b : Int) : List Int := if exB p q b then preL b q p else []
noncomputable def exPer (p q b : Int) : List Int := if exB p q b then perL b q p else []
theorem exPre_t {p q b : Int} (h : exB p q b = true) : exPre p q b = preL b q p := by unfold exPre; rw [h]; rfl
theorem exPer_t {p q b : Int} (h : exB p q b = true) : exPer p q b = perL b q p := by unfold exPer; rw [h]; rfl
theorem exPre_f {p q b : Int} (h : exB p q b = false) : exPre p q b = [] := by unfold exPre; rw [h]; rfl
theorem exPer_f {p q b : Int} (h : exB p q b = false) : exPer p q b = [] := by unfold exPer; rw [h]; rfl
theorem ex_len (p q b : Int) : (exPre p q b).length ≤ 1000 ∧ (exPer p q b).length ≤ 1000 := by
  cases h : exB p q b
  · rw [exPre_f h, exPer_f h]; simp
  · rw [exPre_t h, exPer_t h, length_preL, length_perL]
    obtain ⟨h1, h2, h3, h4, _⟩ := exB_iff.1 h
    have := rep_bd (b := b) (q := q) (p := p) (by omega) h3 (by omega)
    omega
theorem OI.more {w : World} {B B2 : Nat} {A : Option Addr} {xs : List Int} (h : OI w B2 A xs) (hB : B ≤ B2) : OI w B A xs := by
  rcases h with h | ⟨g, off, cs, hA, hg, r⟩
  · exact .inl h
  · exact .inr ⟨g, off, cs, hA, Nat.le_trans hB hg, r⟩
theorem at_inj {a b : Int} (h : (DataW.lit (.int .i64 a) : DataW Unit) = .lit (.int .i64 b)) : a = b := by injection h with h; injection h
/-- A row, its slice value. -/
theorem Row.own {w : World} {B : Nat} {v : Value} {xs : List Int} (h : Row w B v xs) : ∃ A c, v = .slice A xs.length c ∧ OI w B A xs ∧ (∀ a, A = some a → a.block < w.heap.size) ∧ xs.length ≤ c ∧ c ≤ maxLen ∧ (A = none → c = 0) := by
  have h2 := h
  rcases h2.2 with ⟨e1, e2⟩ | ⟨g, cap, cur, hv, hB, hh, hn, hm, _, _⟩
  · subst e1
    exact ⟨none, 0, by rw [e2], .inl (List.eq_nil_of_length_eq_zero e2), (fun a ha => by cases ha), by omega, by unfold maxLen; omega, fun _ => rfl⟩
  · subst hv
    exact ⟨_, cap, rfl, (OI.of_own h).2, (fun a ha => by injection ha with ha; subst ha; exact (Array.getElem?_eq_some_iff.1 hh).1), hn, hm, fun ha => by cases ha⟩
theorem RI.take {w : World} {B : Nat} {A : Option Addr} {xs : List Int} (h : RI w B A xs) (k : Nat) : RI w B A (xs.take k) := by
  rcases h with rfl | ⟨b, off, hA, hb, hc⟩
  · exact .inl (by simp)
  · refine .inr ⟨b, off, hA, hb, fun j hj => ?_⟩
    rw [List.length_take] at hj
    rw [hc j (by omega), List.getD_eq_getElem?_getD, List.getD_eq_getElem?_getD, List.getElem?_take, if_pos (by omega)]
theorem RI.drop {w : World} {B b off : Nat} {xs : List Int} (h : RI w B (some ⟨b, off, none⟩) xs) (k : Nat) : RI w B (some ⟨b, off + k, none⟩) (xs.drop k) := by
  rcases h with rfl | ⟨b', off', hA, hb, hc⟩
  · exact .inl (by simp)
  · injection hA with hA
    injection hA with h1 h2
    subst h1 h2
    refine .inr ⟨b, off + k, rfl, hb, fun j hj => ?_⟩
    rw [List.length_drop] at hj
    have := hc (k + j) (by omega)
    rw [← Nat.add_assoc] at this
    rw [this, List.getD_eq_getElem?_getD, List.getD_eq_getElem?_getD, List.getElem?_drop]
theorem Row.kept {w w' : World} {B k : Nat} {v : Value} {xs : List Int} (h : Row w B v xs) (hg : w.grownBy w' (some k)) (hk : k < B) : Row w' B v xs :=
  World.ownsRow.kept h hg (.inr fun e => by have := (World.ownsRow.lt h k e).1; omega)
theorem Row.appN {w1 : World} {B n : Nat} {v1 : Value} {l : List Int} {x : Int} (hl : l.length = n) (h : w1.ownsRow B 3 1 v1 (n + 1) (l.map (Value.int .i64) ++ [.int .i64 x])) : Row w1 B v1 (l ++ [x]) := by
  subst hl; exact Row.app h
theorem Ret2.of {w w0 w1 w2 : World} {v1 v2 : Value} {xs ys : List Int} (hw : Below w.heap.size w w0) (h1 : Row w1 w0.heap.size v1 xs) (b1 : Below w0.heap.size w0 w1) (h2 : Row w2 w1.heap.size v2 ys) (b2 : Below w1.heap.size w1 w2) :
    Ret2 w xs ys true (.returned (.tuple #[v1, v2, .bool true])) w2 := by
  obtain ⟨A1, c1, rfl, o1, l1, _⟩ := h1.own
  obtain ⟨A2, c2, rfl, o2, _⟩ := h2.own
  exact ⟨A1, c1, A2, c2, w1.heap.size, rfl, (o1.more hw.size).keep b2, l1, o2, Nat.le_trans hw.size b1.size, b2.size, b_step (b_step hw b1) b2⟩
theorem Ret2c.of {w w0 w1 w2 : World} {v1 v2 : Value} {xs ys : List Int} (hw : Below w.heap.size w w0) (h1 : Row w1 w0.heap.size v1 xs) (b1 : Below w0.heap.size w0 w1) (h2 : Row w2 w1.heap.size v2 ys) (b2 : Below w1.heap.size w1 w2) :
    Ret2c w xs ys true (.returned (.tuple #[v1, v2, .bool true])) w2 := by
  obtain ⟨A1, c1, rfl, o1, l1, _⟩ := h1.own
  obtain ⟨A2, c2, rfl, o2, _, k1, k2, _⟩ := h2.own
  exact ⟨A1, c1, A2, c2, w1.heap.size, rfl, (o1.more hw.size).keep b2, l1, o2, Nat.le_trans hw.size b1.size, b2.size, b_step (b_step hw b1) b2, k1, k2⟩
end Go.Proofs.Ytnbhbifcjcfmaaa
