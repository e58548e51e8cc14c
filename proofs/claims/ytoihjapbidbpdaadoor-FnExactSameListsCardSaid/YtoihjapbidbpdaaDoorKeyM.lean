/- The key of a signature as bytes, and what a map from keys to numbers tells. Conditions: none. -/
import Derived.Test.YtoihjapbidbpdaaDoorThree
import Derived.Test.YtoihjapbidbpdaaDoorItoM
import Derived.Maps.OwnSet
import Derived.Maps.OwnOps
namespace Go.Proofs.YtoihjapbidbpdaaDoor
open Go.RowKit
set_option linter.unusedVariables false
/-- The bytes of a signature: its numbers in decimal, commas between them. -/
def kyt (l : List Nat) : List UInt8 := l.flatMap fun x => 44 :: Lib.decDigits x
def ky : List Nat → List UInt8
  | [] => []
  | c :: l => Lib.decDigits c ++ kyt l
theorem kyt_app (l : List Nat) (x : Nat) : kyt (l ++ [x]) = kyt l ++ 44 :: Lib.decDigits x := by simp [kyt]
theorem dec_no (u : Nat) : ∀ b ∈ Lib.decDigits u, b ≠ 44 := by
  induction u using Nat.strongRecOn with
  | _ u ih =>
    intro b hb
    have key : ∀ t : Nat, t < 10 → UInt8.ofNat (48 + t) ≠ 44 := by decide
    rw [Lib.decDigits] at hb
    split at hb
    · rename_i h
      have e : b = UInt8.ofNat (48 + u) := by simpa using hb
      rw [e]; exact key u h
    · rename_i h
      rcases List.mem_append.1 hb with h1 | h1
      · exact ih (u / 10) (by omega) b h1
      · have e : b = UInt8.ofNat (48 + u % 10) := List.mem_singleton.1 h1
        rw [e]; exact key (u % 10) (Nat.mod_lt _ (by omega))
theorem dec_ne (u : Nat) : Lib.decDigits u ≠ [] := by
  rw [Lib.decDigits]
  split <;> simp
theorem dec_inj : ∀ (u v : Nat), Lib.decDigits u = Lib.decDigits v → u = v := by
  intro u
  induction u using Nat.strongRecOn with
  | _ u ih =>
    intro v h
    have key : ∀ s : Nat, s < 10 → ∀ t : Nat, t < 10 → UInt8.ofNat (48 + s) = UInt8.ofNat (48 + t) → s = t := by decide
    by_cases hu : u < 10
    · by_cases hv : v < 10
      · rw [Lib.decDigits_one hu, Lib.decDigits_one hv] at h
        exact key u hu v hv (List.cons.inj h).1
      · rw [Lib.decDigits_one hu, Lib.decDigits, dif_neg hv] at h
        have := congrArg List.length h
        have h2 := List.length_pos_iff.2 (dec_ne (v / 10))
        rw [List.length_append] at this
        simp only [List.length_cons, List.length_nil] at this
        omega
    · by_cases hv : v < 10
      · rw [Lib.decDigits_one hv, Lib.decDigits, dif_neg hu] at h
        have := congrArg List.length h
        have h2 := List.length_pos_iff.2 (dec_ne (u / 10))
        rw [List.length_append] at this
        simp only [List.length_cons, List.length_nil] at this
        omega
      · rw [Lib.decDigits, dif_neg hu] at h
        rw [Lib.decDigits.eq_def v, dif_neg hv] at h
        obtain ⟨h1, h2⟩ := List.append_inj' h rfl
        have e1 := ih (u / 10) (by omega) (v / 10) h1
        have e2 := key _ (Nat.mod_lt u (by omega)) _ (Nat.mod_lt v (by omega)) (List.cons.inj h2).1
        omega
/-- Up to the first comma. -/
theorem cut_eq : ∀ {a b r s : List UInt8}, (∀ x ∈ a, x ≠ 44) → (∀ x ∈ b, x ≠ 44) → (r = [] ∨ ∃ r', r = 44 :: r') → (s = [] ∨ ∃ s', s = 44 :: s') → a ++ r = b ++ s → a = b ∧ r = s
  | [], [], r, s, _, _, _, _, h => ⟨rfl, h⟩
  | [], x :: b, r, s, _, hb, hr, _, h => by
    rcases hr with rfl | ⟨r', rfl⟩
    · simp at h
    · have := (List.cons.inj (show (44 : UInt8) :: r' = x :: (b ++ s) from h)).1
      exact absurd this.symm (hb x (List.mem_cons_self ..))
  | x :: a, [], r, s, ha, _, _, hs, h => by
    rcases hs with rfl | ⟨s', rfl⟩
    · simp at h
    · have := (List.cons.inj (show x :: (a ++ r) = (44 : UInt8) :: s' from h)).1
      exact absurd this (ha x (List.mem_cons_self ..))
  | x :: a, y :: b, r, s, ha, hb, hr, hs, h => by
    obtain ⟨e1, e2⟩ := List.cons.inj (show x :: (a ++ r) = y :: (b ++ s) from h)
    obtain ⟨e3, e4⟩ := cut_eq (fun z hz => ha z (List.mem_cons_of_mem _ hz)) (fun z hz => hb z (List.mem_cons_of_mem _ hz)) hr hs e2
    exact ⟨by rw [e1, e3], e4⟩
theorem kyt_head (l : List Nat) : kyt l = [] ∨ ∃ r, kyt l = 44 :: r := by
  cases l with
  | nil => exact .inl rfl
  | cons a l => exact .inr ⟨_, rfl⟩
theorem kyt_inj : ∀ {l m : List Nat}, kyt l = kyt m → l = m
  | [], [], _ => rfl
  | [], b :: m, h => by cases (show ([] : List UInt8) = 44 :: (Lib.decDigits b ++ kyt m) from h)
  | a :: l, [], h => by cases (show 44 :: (Lib.decDigits a ++ kyt l) = ([] : List UInt8) from h)
  | a :: l, b :: m, h => by
    have h2 := (List.cons.inj (show 44 :: (Lib.decDigits a ++ kyt l) = (44 : UInt8) :: (Lib.decDigits b ++ kyt m) from h)).2
    obtain ⟨e1, e2⟩ := cut_eq (dec_no a) (dec_no b) (kyt_head l) (kyt_head m) h2
    rw [dec_inj a b e1, kyt_inj e2]
theorem ky_inj {c c' : Nat} {l l' : List Nat} (h : ky (c :: l) = ky (c' :: l')) : c :: l = c' :: l' := by
  obtain ⟨e1, e2⟩ := cut_eq (dec_no c) (dec_no c') (kyt_head l) (kyt_head l') h
  rw [dec_inj c c' e1, kyt_inj e2]
/-- The map tells each key's place. -/
structure KMap (D : DataW Unit) (S : List (List Nat)) : Prop where
  at_ : ∀ i, i < S.length → D.atKey (.string (ky (S.getD i []))) (.lit (.int .i64 0)) = .lit (.int .i64 (i : Int)) ∧ Maps.has D (.string (ky (S.getD i []))) = true
  no : ∀ k : List UInt8, (∀ i, i < S.length → ky (S.getD i []) ≠ k) → Maps.has D (.string k) = false
  size : Maps.size D = S.length
  tidy : Maps.Tidy D
theorem KMap.empty : KMap (.map []) [] := ⟨fun i hi => by simp at hi, fun _ _ => rfl, rfl, Maps.tidy_empty⟩
theorem getD_app {α : Type} (S : List α) (g d : α) (i : Nat) : (S ++ [g]).getD i d = if i < S.length then S.getD i d else if i = S.length then g else d := by
  rw [List.getD_eq_getElem?_getD, List.getD_eq_getElem?_getD]
  split
  · rename_i h; rw [List.getElem?_append_left h]
  · rename_i h
    rw [List.getElem?_append_right (by omega)]
    split
    · rename_i e; rw [e]; simp
    · rename_i e
      rw [List.getElem?_eq_none (by simp; omega)]; rfl
theorem KMap.put {D : DataW Unit} {S : List (List Nat)} {g : List Nat} (h : KMap D S) (hn : ∀ i, i < S.length → ky (S.getD i []) ≠ ky g) : KMap (D.put (.string (ky g)) (.lit (.int .i64 (S.length : Int)))) (S ++ [g]) := by
  have hk : WideAt.IsKeyLit (.string (ky g)) := by simp [WideAt.IsKeyLit]
  have hD := h.tidy.isMap
  refine ⟨fun i hi => ?_, fun k hx => ?_, ?_, h.tidy.put hk _⟩
  · rw [List.length_append, List.length_singleton] at hi
    rw [getD_app]
    by_cases e : i < S.length
    · rw [if_pos e]
      have hne : (Lit.string (ky (S.getD i []))) ≠ .string (ky g) := fun e2 => hn i e (by injection e2)
      rw [Maps.atKey_put_other hne, Maps.has_put_other hne]
      exact h.at_ i e
    · obtain rfl : i = S.length := by omega
      rw [if_neg e, if_pos rfl]
      exact ⟨Maps.atKey_put_same hD hk _ _, Maps.has_put_same hD hk _⟩
  · have hg := hx S.length (by simp)
    rw [getD_app, if_neg (by omega), if_pos rfl] at hg
    have hne : (Lit.string k) ≠ .string (ky g) := fun e2 => hg (by injection e2 with e3; exact e3.symm)
    rw [Maps.has_put_other hne]
    refine h.no k fun i hi => ?_
    have := hx i (by simp; omega)
    rw [getD_app, if_pos hi] at this
    exact this
  · have hno : Maps.has D (.string (ky g)) = false := h.no _ fun i hi => hn i hi
    rw [Maps.size_put h.tidy, hno, h.size]; simp
theorem laws_key : Maps.Keyed Tryd.prog 9 := Maps.string_keyed Tryd.underlying9
end Go.Proofs.YtoihjapbidbpdaaDoor
