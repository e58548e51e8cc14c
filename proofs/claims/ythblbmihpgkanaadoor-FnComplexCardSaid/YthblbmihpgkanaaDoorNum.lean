/- Contracts of spec.MakeNum and laws.same: a drawn number is from 0 to 65535; equal lists are the same. Conditions: code of at most 2^20 bytes. -/
import Derived.Test.YthblbmihpgkanaaDoorCur
namespace Go.Proofs.YthblbmihpgkanaaDoor
open Go.RowKit
set_option linter.unusedVariables false

/-- A number from lo to hi, nothing that was there has changed. -/
def NumR (w : World) (lo hi : Int) (e : Ending) (w' : World) : Prop := ∃ v : Int, e = .returned (.int .i64 v) ∧ lo ≤ v ∧ v ≤ hi ∧ Below w.heap.size w w'
theorem news_of {w : World} {b off B : Nat} {xs : List Int} (hb : b < B) (hc : ∀ j, j < xs.length → w.cell? ⟨b, off + j, none⟩ = some (.int .i64 (xs.getD j 0))) (w' : World) (hk : w'.heap[b]? = w.heap[b]?) :
    ∀ j u, (xs.map (Value.int .i64))[j]? = some u → w'.cell? ((⟨b, off, none⟩ : Addr).add j) = some u := by
  intro j u h
  rw [List.getElem?_map] at h
  by_cases hj : j < xs.length
  · have e : xs[j]? = some (xs.getD j 0) := by rw [List.getD_eq_getElem?_getD, List.getElem?_eq_getElem hj, Option.getD_some]
    rw [e] at h
    injection h with h
    subst h
    rw [addr_add]
    exact (World.cell?_of_block (a := ⟨b, off + j, none⟩) hk).trans (hc j hj)
  · rw [List.getElem?_eq_none (by omega)] at h; cases h
theorem Row.only {w w' : World} {B g : Nat} {v : Value} {xs : List Int} (h : w.ownsRow B 3 1 v xs.length (xs.map (Value.int .i64))) (hO : Only w w' g) (hg : g < B) : w'.ownsRow B 3 1 v xs.length (xs.map (Value.int .i64)) := by
  refine ⟨h.1, ?_⟩
  rcases h.2 with h2 | ⟨k, cap, cur, hv, hk, hh, r⟩
  · exact .inl h2
  · exact .inr ⟨k, cap, cur, hv, hk, (hO.rest k (Array.getElem?_eq_some_iff.1 hh).1 (by omega)).trans hh, r⟩
theorem Only.grown {w wr w1 : World} {g : Nat} {v : Value} {xs : List Value} {n : Nat} {o : Obj} (hO : wr.ownsRow w.heap.size 3 1 v n xs) (h : Only w wr g) (hg : (wr.alloc o).grownBy w1 v.ownBlock) : Only w w1 g :=
  ⟨hg.os.trans h.os, hg.tape.trans h.tape, hg.output.trans h.output, Nat.le_trans h.size (Nat.le_trans (by simp) hg.size), fun k hk hn =>
    ((hg.block k (Nat.lt_of_lt_of_le hk (Nat.le_trans h.size (by simp))) (fun e => by have := (World.ownsRow.lt hO k e.symm).1; omega)).trans (Below.heap_alloc wr o k (Nat.lt_of_lt_of_le hk h.size))).trans (h.rest k hk hn)⟩
theorem Cur.grown {w wr w1 : World} {g : Nat} {v : Value} {xs : List Value} {n : Nat} {o : Obj} (hO : wr.ownsRow w.heap.size 3 1 v n xs) (hg : g < w.heap.size) (hC : Cur wr g) (h : (wr.alloc o).grownBy w1 v.ownBlock) : Cur w1 g := by
  obtain ⟨A, zs, c, i, q, hB, hR, r⟩ := hC
  have key : ∀ k, k < w.heap.size → k < wr.heap.size → w1.heap[k]? = wr.heap[k]? := fun k hk hk2 =>
    (h.block k (Nat.lt_of_lt_of_le hk2 (by simp)) (fun e => by have := (World.ownsRow.lt hO k e.symm).1; omega)).trans (Below.heap_alloc wr o k hk2)
  have hgl := hB.lt
  exact ⟨A, zs, c, i, q, (key g hg hgl).trans hB, hR.keep fun p hp => World.cell?_of_block (key p.block (by omega) (by omega)), r⟩
end Go.Proofs.YthblbmihpgkanaaDoor
