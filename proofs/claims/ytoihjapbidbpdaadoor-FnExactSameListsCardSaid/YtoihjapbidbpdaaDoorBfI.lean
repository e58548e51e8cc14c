/- What holds while the reduced machine is made with a map. Conditions: none. -/
import Derived.Test.YtoihjapbidbpdaaDoorRedS
import Derived.Test.YtoihjapbidbpdaaDoorClsI
import Derived.Maps.OwnSet
import Derived.Maps.OwnOps
namespace Go.Proofs.YtoihjapbidbpdaaDoor
open Go.RowKit
set_option linter.unusedVariables false
theorem law_int : Maps.Keyed Tryd.prog 3 := Maps.int_keyed Tryd.underlying3
/-- An entry of a map's literal: as a store into a map. -/
theorem wpList_insert_own {H : Type} {P : Program} (w : World) {ops : Array Oper} {rest : List Oper} {o : Oper} {a : Act} {Q : Exit → Act → World → Prop}
    (hg : o.guard = none) (m x v : Operand) (t : TypeId) (hop : o.op = Op.insert t m x v)
    (k e : TypeId) (K : Maps.Keyed P k) (ht : P.underlying t = some (.map k e)) (R : Value → Option (DataW H × List MemPlace)) (b n : Nat) (D : DataW H)
    (hm : a.eval m = .map (some b)) (hown : w.ownsMap P k R b n D) (hn : n < maxLen) (key val : Value) (kl : Lit) (hx : a.eval x = key) (hv : a.eval v = val) (hkey : keyOf P k key = some kl)
    (d : DataW H) (ps : List MemPlace) (hval : R val = some (d, ps))
    (hK : ∀ w', w'.ownsMap P k R b (n + 1) (D.put kl d) → w.grownBy w' (some b) → wpList P ops Q rest (a.put o.dst undef) w') :
    wpList P ops Q (o :: rest) a w := by
  refine wpList_plain hg fun K' hK' => ?_
  obtain ⟨w', hrun, r1, r2⟩ := hown.update K ht hn hkey hval
  unfold Oper.wp
  simp [execOp, hop, hm, hx, hv, hrun, Result.andThen]
  exact hK' _ _ (hK w' r1 r2)
/-- The map tells each class's place. -/
structure IMap (D : DataW Unit) (L : List Nat) : Prop where
  at_ : ∀ i, i < L.length → D.atKey (.int .i64 ((L.getD i 0 : Nat) : Int)) (.lit (.int .i64 0)) = .lit (.int .i64 (i : Int)) ∧ Maps.has D (.int .i64 ((L.getD i 0 : Nat) : Int)) = true
  no : ∀ c : Nat, (∀ i, i < L.length → L.getD i 0 ≠ c) → Maps.has D (.int .i64 (c : Int)) = false
  tidy : Maps.Tidy D
theorem IMap.empty : IMap (.map []) [] := ⟨fun i hi => by simp at hi, fun _ _ => rfl, Maps.tidy_empty⟩
theorem IMap.put {D : DataW Unit} {L : List Nat} {g : Nat} (h : IMap D L) (hn : ∀ i, i < L.length → L.getD i 0 ≠ g) : IMap (D.put (.int .i64 (g : Int)) (.lit (.int .i64 (L.length : Int)))) (L ++ [g]) := by
  have hk : WideAt.IsKeyLit (.int .i64 (g : Int)) := by simp [WideAt.IsKeyLit]
  have hD := h.tidy.isMap
  refine ⟨fun i hi => ?_, fun k hx => ?_, h.tidy.put hk _⟩
  · rw [List.length_append, List.length_singleton] at hi
    rw [getD_app]
    by_cases e : i < L.length
    · rw [if_pos e]
      have hne : (Lit.int .i64 ((L.getD i 0 : Nat) : Int)) ≠ .int .i64 (g : Int) := fun e2 => hn i e (by injection e2 with _ e3; omega)
      rw [Maps.atKey_put_other hne, Maps.has_put_other hne]
      exact h.at_ i e
    · obtain rfl : i = L.length := by omega
      rw [if_neg e, if_pos rfl]
      exact ⟨Maps.atKey_put_same hD hk _ _, Maps.has_put_same hD hk _⟩
  · have hg := hx L.length (by simp)
    rw [getD_app, if_neg (by omega), if_pos rfl] at hg
    have hne : (Lit.int .i64 (k : Int)) ≠ .int .i64 (g : Int) := fun e2 => hg (by injection e2 with _ e3; omega)
    rw [Maps.has_put_other hne]
    refine h.no k fun i hi => ?_
    have := hx i (by simp; omega)
    rw [getD_app, if_pos hi] at this
    exact this
section
variable {w w' : World} {k : TypeId} {R : Value → Option (DataW Unit × List MemPlace)} {b n B G : Nat} {D : DataW Unit} {v : Value} {xs : List Int} {ys : List Bool} {x : Int} {vN vF : Value}
theorem map_neI (h : w.ownsMap Tryd.prog k R b n D) (hv : Row w B v xs) : some b ≠ v.ownBlock := by
  intro e
  obtain ⟨es, cl, h1, _⟩ := h
  rcases hv.2 with ⟨h2, _⟩ | ⟨g, cap, cur, h2, _, h3, _⟩
  · rw [h2] at e; simp [Value.ownBlock] at e
  · rw [h2] at e
    simp [Value.ownBlock] at e
    subst e
    rw [h1] at h3
    cases h3
theorem map_neB (h : w.ownsMap Tryd.prog k R b n D) (hv : RowB w B v ys) : some b ≠ v.ownBlock := by
  intro e
  obtain ⟨es, cl, h1, _⟩ := h
  rcases hv.2 with ⟨h2, _⟩ | ⟨g, cap, cur, h2, _, h3, _⟩
  · rw [h2] at e; simp [Value.ownBlock] at e
  · rw [h2] at e
    simp [Value.ownBlock] at e
    subst e
    rw [h1] at h3
    cases h3
theorem map_neM (h : w.ownsMap Tryd.prog k R b n D) (hv : BM w G x vN vF) : b ≠ G := by
  intro e
  obtain ⟨es, cl, h1, _⟩ := h
  subst e
  unfold BM at hv
  rw [h1] at hv
  cases hv
end
theorem kept_ne {w w' : World} {B : Nat} {e : TypeId} {s n r : Nat} {v : Value} {xs : List Value} (h : w.ownsRow B e s v n xs) (hg : w.grownBy w' (some r)) (hr : some r ≠ v.ownBlock) : w'.ownsRow B e s v n xs := by
  refine World.ownsRow.kept h hg ?_
  cases ho : v.ownBlock with
  | none => exact .inl rfl
  | some k => exact .inr (by rw [ho] at hr; exact fun e => hr e.symm)
theorem BS.mapup {wc wr w1 : World} {G mp m : Nat} {b : Int} {vN vF v5 v6 : Value} {T L O : List Nat} {fs : List Bool} {k : TypeId} {R : Value → Option (DataW Unit × List MemPlace)} {D : DataW Unit}
    (h : BS wc wr G b vN vF v5 v6 T L O fs) (hm : wr.ownsMap Tryd.prog k R mp m D) (hg : wr.grownBy w1 (some mp)) (hmp : wc.heap.size ≤ mp) : BS wc w1 G b vN vF v5 v6 T L O fs :=
  ⟨kept_ne h.r5 hg (map_neI hm h.r5), kept_ne h.r6 hg (map_neI hm h.r6), kept_ne h.rN hg (map_neI hm h.rN), kept_ne h.rF hg (map_neB hm h.rF), h.d56, h.d5N, h.d6N, h.mG.grown hg (by have := map_neM hm h.mG; simp; omega), h.hG,
   h.bc.grown hg h.bc.size fun k hk => by injection hk with hk; omega⟩
theorem BS.startI {wc wi : World} {v5 : Value} (bb : Nat) (r5 : Row wi wc.heap.size v5 (il [0])) (bc : Below wc.heap.size wc wi) : BS wc (wi.alloc (.cells #[.int .i64 (bb : Int), .slice none 0 0, .slice none 0 0] 28)) wi.heap.size (bb : Int) (.slice none 0 0) (.slice none 0 0) v5 (.slice none 0 0) [0] [] [] [] :=
  ⟨r5.below (b_alloc (Below.refl _ _) _), Row.nil _ _, Row.nil _ _, World.ownsRow_nil _ _ _ _, dis_nil _, dis_nil _, dis_nil _, BM.new wi _ _ _, bc.size, bc.alloc bc.size _⟩
end Go.Proofs.YtoihjapbidbpdaaDoor
