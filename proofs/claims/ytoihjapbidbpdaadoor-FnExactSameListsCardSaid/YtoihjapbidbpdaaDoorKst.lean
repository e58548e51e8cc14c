/- What holds in a round of the refinement by keys: the map, the new numbers, the builder. Conditions: none. -/
import Derived.Test.YtoihjapbidbpdaaDoorKeyM
import Derived.Test.YtoihjapbidbpdaaDoorBld
import Derived.Lib.FrozenHead
import Derived.Lib.UnsafeStr
import Derived.Lib.AppendIntMem
namespace Go.Proofs.YtoihjapbidbpdaaDoor
open Go.RowKit
set_option linter.unusedVariables false
theorem isb_below {T e : TypeId} {B b : Nat} {bs : List Value} {w w' : World} (h : Lib.IsBuilder T e B b bs w) (hb : Below w.heap.size w w') : Lib.IsBuilder T e B b bs w' := by
  have go : ∀ p, Lib.BuilderAt T e B b p bs w → Lib.BuilderAt T e B b p bs w' := fun p h => by
    have hlt := h.lt
    obtain ⟨hB, v, hbk, hown, hne⟩ := h
    refine ⟨hB, v, (hb.block b hlt).trans hbk, ⟨hown.1, ?_⟩, hne⟩
    rcases hown.2 with h2 | ⟨g, cap, cur, hv, hg, hh, r⟩
    · exact .inl h2
    · exact .inr ⟨g, cap, cur, hv, hg, (hb.block g (Array.getElem?_eq_some_iff.1 hh).1).trans hh, r⟩
  rcases h with h | h
  · exact .inl (go _ h)
  · exact .inr (go _ h)
theorem isbF_grown {T e : TypeId} {B b r : Nat} {bs : List Value} {w w' : World} (h : Lib.IsBuilderF T e B b bs w) (hg : w.grownBy w' (some r)) (hr : r < B) : Lib.IsBuilderF T e B b bs w' := by
  have go : ∀ p, Lib.BuilderAtF T e B b p bs w → Lib.BuilderAtF T e B b p bs w' := fun p h => by
    have hlt := h.lt
    obtain ⟨hB, v, hbk, hown, hne⟩ := h
    refine ⟨hB, v, (hg.block b hlt (by simp; omega)).trans hbk, World.ownsRowF.kept hown hg ?_, hne⟩
    cases ho : v.ownBlock with
    | none => exact .inl rfl
    | some k => exact .inr (by have := (World.ownsRowF.lt hown k ho).1; simp; omega)
  rcases h with h | h
  · exact .inl (go _ h)
  · exact .inr (go _ h)
theorem i_fi (n : Int) (w : World) (h1 : -1000000000 ≤ n) (h2 : n ≤ 1000000000) (ht : Lib.TabIs Tryd.prog w "internal/strconv.uint64pow10" .u64 Lib.pow10Tab) :
    Calls Tryd.prog 36 #[.int .i64 n] w fun e w' => e = .returned (.string (itx n)) ∧ Below w.heap.size w w' := by
  have HC := Lib.hid (Tryd.strconv_Itoa n (by omega) (by omega) w ht)
  go_enter Tryd.func36, Tryd.ntmps36
  go_wp2_with (go_at_call 41; (with_reducible refine (HC.out).mono ?_); rintro e w1 ⟨rfl, k, os, rfl⟩)
  go_ret
  exact ⟨rfl, Lib.below_grow _ _ (Nat.le_refl _) _ _⟩
/-- Numbers of at most three places take few bytes. -/
theorem dtx_size {u : Nat} (h : u ≤ 1000) : (dtx u).size ≤ 21 := by
  have := Lib.itoa_length_le (u : Int) (by omega) (by omega)
  rw [Lib.itoa_nonneg] at this
  exact this
theorem str_dtx (u : Nat) : Lib.strCells (dtx u) = Lib.byteCells (Lib.decDigits u) := rfl
theorem str_cdtx (u : Nat) : Lib.strCells ((⟨#[44]⟩ : ByteArray) ++ dtx u) = Lib.byteCells (44 :: Lib.decDigits u) := by
  unfold Lib.strCells Lib.byteCells dtx
  simp
theorem byte_app (a b : List UInt8) : Lib.byteCells (a ++ b) = Lib.byteCells a ++ Lib.byteCells b := by simp [Lib.byteCells]
/-- The state of a round over states: wo is the world at the round's head; its map lies in block wo.heap.size, the new numbers behind it. -/
structure RS (wo wr : World) (n k : Nat) (cs : Array Value) (D : DataW Unit) (S : List (List Nat)) (NN : List Nat) : Prop where
  b : Below wo.heap.size wo wr
  m : wr.ownsMap Tryd.prog 9 (plainElem Tryd.prog 3) wo.heap.size k D
  nx : BI wr (wo.heap.size + 1) cs
  sz : cs.size = n
  fl : Fill cs 0 k (il NN)
  ln : NN.length = k
  km : KMap D S
section
variable {wo wr w1 : World} {n k : Nat} {cs : Array Value} {D : DataW Unit} {S : List (List Nat)} {NN : List Nat}
theorem below_grown0 {a b : World} (h : Below a.heap.size a b) (r : Option Nat) : a.grownBy b r := ⟨h.os, h.tape, h.output, h.size, fun k hk _ => h.block k hk⟩
theorem RS.call (h : RS wo wr n k cs D S NN) (hb : Below wr.heap.size wr w1) : RS wo w1 n k cs D S NN :=
  ⟨Below.trans h.b (hb.mono h.b.size), h.m.kept (below_grown0 hb none) (by simp), h.nx.below hb h.nx.lt, h.sz, h.fl, h.ln, h.km⟩
theorem RS.up (h : RS wo wr n k cs D S NN) (hk : k < 1000) {g : List Nat} {kl : List UInt8} (hkl : kl = ky g) (hn : ∀ i, i < S.length → ky (S.getD i []) ≠ ky g) (hm : w1.ownsMap Tryd.prog 9 (plainElem Tryd.prog 3) wo.heap.size (k + 1) (D.put (.string kl) (.lit (.int .i64 (S.length : Int))))) (hg : wr.grownBy w1 (some wo.heap.size)) :
    Below wo.heap.size wo w1 ∧ BI w1 (wo.heap.size + 1) cs ∧ KMap (D.put (.string kl) (.lit (.int .i64 (S.length : Int)))) (S ++ [g]) := by
  subst hkl
  refine ⟨h.b.grown hg h.b.size fun k hk => by injection hk with hk; omega, (hg.block _ h.nx.lt (by simp)).trans h.nx, h.km.put hn⟩
end
end Go.Proofs.YtoihjapbidbpdaaDoor
