/- Rows of numbers that lie apart, in a call that holds a machine in a block of its own. Conditions: none. -/
import Derived.Test.YtoihjapbidbpdaaDoorAlk
import Derived.Test.YtoihjapbidbpdaaDoorMRow
import Derived.Maps.AppendAt
namespace Go.Proofs.YtoihjapbidbpdaaDoor
open Go.RowKit
set_option linter.unusedVariables false
/-- The blocks of two rows are two. -/
def Dis (v u : Value) : Prop := ∀ k, v.ownBlock = some k → u.ownBlock ≠ some k
theorem Dis.symm {v u : Value} (h : Dis v u) : Dis u v := fun k h1 h2 => h k h2 h1
theorem Row.keepx {wr w1 : World} {B : Nat} {v u : Value} {m : List Int} {o : Obj} (hu : Row wr B u m) (hd : Dis v u) (hg : (wr.alloc o).grownBy w1 v.ownBlock) : Row w1 B u m := by
  refine World.ownsRow.kept (World.ownsRow.alloc hu o) hg ?_
  cases h : u.ownBlock with
  | none => exact .inl rfl
  | some k => exact .inr fun e => hd k e.symm h
theorem Dis.app {wr : World} {B : Nat} {v v1 u : Value} {m : List Int} {o : Obj} (hu : Row wr B u m) (hd : Dis v u) (hat : v1.ownBlock = v.ownBlock ∨ v1.ownBlock = some (wr.alloc o).heap.size) : Dis v1 u := by
  intro k hk hu2
  rcases hat with e | e
  · exact hd k (e ▸ hk) hu2
  · have := (World.ownsRow.lt hu k hu2).2
    rw [hk] at e
    injection e with e
    rw [World.size_alloc] at e
    omega
theorem Row.app1 {w1 : World} {B : Nat} {v1 : Value} {l : List Nat} {x : Int} {y : Nat} {m : Nat} (h : w1.ownsRow B 3 1 v1 m ((il l).map (Value.int .i64) ++ [.int .i64 x])) (hm : m = (il l).length + 1) (hx : x = (y : Int)) : Row w1 B v1 (il (l ++ [y])) := by
  subst hm hx
  rw [il_app]
  exact Row.app h
/-- Three rows that lie apart, beside a machine's block. -/
structure CS (w wr : World) (b : Int) (vN vF v3 v6 v7 : Value) (cl N T : List Nat) : Prop where
  r3 : Row wr (w.heap.size + 1) v3 (il cl)
  r6 : Row wr (w.heap.size + 1) v6 (il N)
  r7 : Row wr (w.heap.size + 1) v7 (il T)
  d36 : Dis v3 v6
  d37 : Dis v3 v7
  d67 : Dis v6 v7
  m : BM wr w.heap.size b vN vF
  b : Below w.heap.size w wr
section
variable {w wr w1 : World} {b : Int} {vN vF v3 v6 v7 v1 : Value} {cl N T : List Nat} {o : Obj} {x : Int} {y k : Nat}
theorem CS.call (h : CS w wr b vN vF v3 v6 v7 cl N T) (hb : Below wr.heap.size wr w1) : CS w w1 b vN vF v3 v6 v7 cl N T :=
  ⟨h.r3.below hb, h.r6.below hb, h.r7.below hb, h.d36, h.d37, h.d67, h.m.below hb h.m.lt, b_step h.b hb⟩
theorem CS.base (h : CS w wr b vN vF v3 v6 v7 cl N T) : w.heap.size + 1 ≤ wr.heap.size := h.m.lt
theorem BM.app {B : Nat} {v : Value} {m : List Int} (h : BM wr w.heap.size b vN vF) (hv : Row wr (w.heap.size + 1) v m) (hg : (wr.alloc o).grownBy w1 v.ownBlock) : BM w1 w.heap.size b vN vF :=
  (h.below (b_alloc (Below.refl _ _) o) h.lt).grown hg (hv.lo (by omega))
theorem b_app {v : Value} {m : List Int} (h : Below w.heap.size w wr) (hv : Row wr (w.heap.size + 1) v m) (hg : (wr.alloc o).grownBy w1 v.ownBlock) : Below w.heap.size w w1 :=
  (b_alloc h o).grown hg (b_alloc h o).size fun k hk => by have := (World.ownsRow.lt hv k hk).1; omega
theorem CS.app6 (h : CS w wr b vN vF v3 v6 v7 cl N T) (ho : w1.ownsRow (w.heap.size + 1) 3 1 v1 k ((il N).map (Value.int .i64) ++ [.int .i64 x])) (hk : k = (il N).length + 1) (hx : x = (y : Int)) (hg : (wr.alloc o).grownBy w1 v6.ownBlock) (hat : v1.ownBlock = v6.ownBlock ∨ v1.ownBlock = some (wr.alloc o).heap.size) : CS w w1 b vN vF v3 v1 v7 cl (N ++ [y]) T :=
  ⟨h.r3.keepx h.d36.symm hg, Row.app1 ho hk hx, h.r7.keepx h.d67 hg, (Dis.app h.r3 h.d36.symm hat).symm, h.d37, Dis.app h.r7 h.d67 hat, h.m.app (B := 0) h.r6 hg, b_app h.b h.r6 hg⟩
theorem CS.app7 (h : CS w wr b vN vF v3 v6 v7 cl N T) (ho : w1.ownsRow (w.heap.size + 1) 3 1 v1 k ((il T).map (Value.int .i64) ++ [.int .i64 x])) (hk : k = (il T).length + 1) (hx : x = (y : Int)) (hg : (wr.alloc o).grownBy w1 v7.ownBlock) (hat : v1.ownBlock = v7.ownBlock ∨ v1.ownBlock = some (wr.alloc o).heap.size) : CS w w1 b vN vF v3 v6 v1 cl N (T ++ [y]) :=
  ⟨h.r3.keepx h.d37.symm hg, h.r6.keepx h.d67.symm hg, Row.app1 ho hk hx, h.d36, (Dis.app h.r3 h.d37.symm hat).symm, (Dis.app h.r6 h.d67.symm hat).symm, h.m.app (B := 0) h.r7 hg, b_app h.b h.r7 hg⟩
end
/-- A row has the shape of a slice. -/
theorem Row.sh {w : World} {B : Nat} {v : Value} {l : List Nat} (h : Row w B v (il l)) : ∃ A c, v = .slice A l.length c ∧ RI w w.heap.size A (il l) := by
  obtain ⟨A, c, rfl⟩ := h.shape
  exact ⟨A, c, by rw [len_il], (OI.of_own h).2.reads⟩
/-- The first states of the signatures seen. -/
def fsts (xs : List Int) (bb : Nat) (cl : List Nat) : Nat → List Nat
  | 0 => []
  | k + 1 => if sgn xs bb cl k ∈ (nrd xs bb cl k).1 then fsts xs bb cl k else fsts xs bb cl k ++ [k]
theorem fsts_map (xs : List Int) (bb : Nat) (cl : List Nat) (k : Nat) : (fsts xs bb cl k).map (sgn xs bb cl) = (nrd xs bb cl k).1 := by
  induction k with
  | zero => rfl
  | succ k ih =>
    by_cases h : sgn xs bb cl k ∈ (nrd xs bb cl k).1
    · rw [nrd_old xs bb cl h, fsts, if_pos h]; exact ih
    · rw [nrd_new xs bb cl h, fsts, if_neg h]; simp [ih]
theorem fsts_lt (xs : List Int) (bb : Nat) (cl : List Nat) (k : Nat) : ∀ r ∈ fsts xs bb cl k, r < k := by
  induction k with
  | zero => simp [fsts]
  | succ k ih =>
    intro r hr
    unfold fsts at hr
    split at hr
    · have := ih r hr; omega
    · rcases List.mem_append.1 hr with h | h
      · have := ih r h; omega
      · have : r = k := by simpa using h
        omega
theorem fsts_len (xs : List Int) (bb : Nat) (cl : List Nat) (k : Nat) : (fsts xs bb cl k).length = (nrd xs bb cl k).1.length := by rw [← fsts_map]; simp
theorem idx_at {α : Type} [BEq α] [LawfulBEq α] : ∀ {l : List α} {g : α} {j : Nat}, l[j]? = some g → (∀ u, u < j → l[u]? ≠ some g) → g ∈ l ∧ l.idxOf g = j
  | [], g, j, h, _ => by simp at h
  | a :: l, g, 0, h, _ => by
    have e : a = g := by simpa using h
    subst e
    exact ⟨List.mem_cons_self .., List.idxOf_cons_self⟩
  | a :: l, g, j + 1, h, hn => by
    have hne : a ≠ g := fun e => hn 0 (by omega) (by simp [e])
    obtain ⟨h1, h2⟩ := idx_at (l := l) (g := g) (j := j) (by simpa using h) (fun u hu => by simpa using hn (u + 1) (by omega))
    refine ⟨List.mem_cons_of_mem _ h1, ?_⟩
    have hb : (a == g) = false := by simpa using hne
    rw [List.idxOf_cons, hb, h2]
    rfl
theorem nodup_none {α : Type} {l : List α} {g : α} (h : ∀ u, u < l.length → l[u]? ≠ some g) : ¬ g ∈ l := fun hm => by
  obtain ⟨u, hu, e⟩ := List.mem_iff_getElem.1 hm
  exact h u hu (by rw [List.getElem?_eq_getElem hu, e])
/-- The state's number is found among the first ones. -/
theorem hit_old {xs : List Int} {bb : Nat} {cl : List Nat} {s j : Nat} (hj : j < (fsts xs bb cl s).length) (he : sgn xs bb cl s = sgn xs bb cl ((fsts xs bb cl s).getD j 0)) (hn : ∀ u, u < j → ¬ sgn xs bb cl s = sgn xs bb cl ((fsts xs bb cl s).getD u 0)) :
    nrd xs bb cl (s + 1) = ((nrd xs bb cl s).1, (nrd xs bb cl s).2 ++ [j]) ∧ fsts xs bb cl (s + 1) = fsts xs bb cl s := by
  have e1 : ∀ u, u < (fsts xs bb cl s).length → (nrd xs bb cl s).1[u]? = some (sgn xs bb cl ((fsts xs bb cl s).getD u 0)) := fun u hu => by
    rw [← fsts_map, List.getElem?_map, List.getD_eq_getElem?_getD, List.getElem?_eq_getElem hu]; rfl
  obtain ⟨h1, h2⟩ := idx_at (l := (nrd xs bb cl s).1) (g := sgn xs bb cl s) (j := j) (by rw [e1 j hj, ← he]) (fun u hu => by rw [e1 u (by omega)]; intro e; exact hn u hu (Option.some.inj e).symm)
  exact ⟨by rw [nrd_old xs bb cl h1, h2], by rw [fsts, if_pos h1]⟩
theorem hit_new {xs : List Int} {bb : Nat} {cl : List Nat} {s : Nat} (hn : ∀ u, u < (fsts xs bb cl s).length → ¬ sgn xs bb cl s = sgn xs bb cl ((fsts xs bb cl s).getD u 0)) :
    nrd xs bb cl (s + 1) = ((nrd xs bb cl s).1 ++ [sgn xs bb cl s], (nrd xs bb cl s).2 ++ [(fsts xs bb cl s).length]) ∧ fsts xs bb cl (s + 1) = fsts xs bb cl s ++ [s] := by
  have h1 : ¬ sgn xs bb cl s ∈ (nrd xs bb cl s).1 := nodup_none fun u hu => by
    rw [← fsts_len] at hu
    rw [← fsts_map, List.getElem?_map, List.getElem?_eq_getElem hu]
    intro e
    refine hn u hu ?_
    rw [List.getD_eq_getElem?_getD, List.getElem?_eq_getElem hu]
    exact (Option.some.inj e).symm
  exact ⟨by rw [nrd_new xs bb cl h1, fsts_len], by rw [fsts, if_neg h1]⟩
/-- The first classes: 1 where the state is final. -/
def cl0 (ys : List Bool) : List Nat := ys.map fun b => if b then 1 else 0
theorem len_cl0 (ys : List Bool) : (cl0 ys).length = ys.length := by simp [cl0]
theorem cl0_take (ys : List Bool) (k : Nat) (h : k < ys.length) : (cl0 ys).take (k + 1) = (cl0 ys).take k ++ [if ys.getD k false then 1 else 0] := by
  have h2 : k < (cl0 ys).length := by rw [len_cl0]; exact h
  rw [List.take_succ_eq_append_getElem h2]
  congr 2
  simp [cl0, h]
theorem len_stpK (xs : List Int) (bb n : Nat) (cl : List Nat) (hcl : cl.length = n) : ∀ k, (stpK xs bb n cl k).length = n
  | 0 => hcl
  | k + 1 => len_stp _ _ _ _
end Go.Proofs.YtoihjapbidbpdaaDoor
