/- What holds while the reduced machine is made: rows that lie apart, the machine's block. Conditions: none. -/
import Derived.Test.YtoihjapbidbpdaaDoorBfM
import Derived.Deep.AppendLies
namespace Go.Proofs.YtoihjapbidbpdaaDoor
open Go.RowKit
set_option linter.unusedVariables false
theorem BM.neI {wr : World} {G B : Nat} {b : Int} {vN vF v : Value} {l : List Int} (h : BM wr G b vN vF) (hv : Row wr B v l) : some G ≠ v.ownBlock := by
  intro e
  rcases hv.2 with ⟨h1, _⟩ | ⟨g, cap, cur, h1, _, h2, _⟩
  · rw [h1] at e; simp [Value.ownBlock] at e
  · rw [h1] at e
    simp [Value.ownBlock] at e
    subst e
    unfold BM at h
    rw [h] at h2
    injection h2 with h2
    injection h2 with _ h3
    exact absurd h3 (by decide)
theorem BM.neB {wr : World} {G B : Nat} {b : Int} {vN vF v : Value} {l : List Bool} (h : BM wr G b vN vF) (hv : RowB wr B v l) : some G ≠ v.ownBlock := by
  intro e
  rcases hv.2 with ⟨h1, _⟩ | ⟨g, cap, cur, h1, _, h2, _⟩
  · rw [h1] at e; simp [Value.ownBlock] at e
  · rw [h1] at e
    simp [Value.ownBlock] at e
    subst e
    unfold BM at h
    rw [h] at h2
    injection h2 with h2
    injection h2 with _ h3
    exact absurd h3 (by decide)
theorem Row.setne {w : World} {B : Nat} {v : Value} {xs : List Int} (h : Row w B v xs) {p : Addr} (hp : some p.block ≠ v.ownBlock) (c : Value) : Row (w.setCell p c) B v xs := by
  refine World.ownsRow.kept (row := some p.block) h ⟨rfl, rfl, rfl, by simp [World.setCell], fun k hk hne => Below.heap_setCell w p c k (fun e => hne (by rw [e]))⟩ ?_
  cases ho : v.ownBlock with
  | none => exact .inl rfl
  | some k => exact .inr (by rw [ho] at hp; exact fun e => hp e.symm)
theorem RowB.setne {w : World} {B : Nat} {v : Value} {xs : List Bool} (h : RowB w B v xs) {p : Addr} (hp : some p.block ≠ v.ownBlock) (c : Value) : RowB (w.setCell p c) B v xs := by
  refine World.ownsRow.kept (row := some p.block) h ⟨rfl, rfl, rfl, by simp [World.setCell], fun k hk hne => Below.heap_setCell w p c k (fun e => hne (by rw [e]))⟩ ?_
  cases ho : v.ownBlock with
  | none => exact .inl rfl
  | some k => exact .inr (by rw [ho] at hp; exact fun e => hp e.symm)
/-- A row grows; another one that lies apart stays. -/
theorem Row.keepw {wr wm w1 : World} {B : Nat} {v u : Value} {m : List Int} (hu : Row wr B u m) (hm : Below wr.heap.size wr wm) (hd : Dis v u) (hg : wm.grownBy w1 v.ownBlock) : Row w1 B u m := by
  refine World.ownsRow.kept (hu.below hm) hg ?_
  cases h : u.ownBlock with
  | none => exact .inl rfl
  | some k => exact .inr fun e => hd k e.symm h
theorem Dis.appw {wr : World} {B : Nat} {v v1 u : Value} {m : List Int} (hu : Row wr B u m) (hd : Dis v u) (hat : v1.ownBlock = v.ownBlock ∨ ∃ k, v1.ownBlock = some k ∧ wr.heap.size ≤ k) : Dis v1 u := by
  intro k hk hu2
  rcases hat with e | ⟨j, e, hj⟩
  · exact hd k (e ▸ hk) hu2
  · have := (World.ownsRow.lt hu k hu2).2
    rw [hk] at e
    injection e with e
    omega
structure BS (wc wr : World) (G : Nat) (b : Int) (vN vF v5 v6 : Value) (T L O : List Nat) (fs : List Bool) : Prop where
  r5 : Row wr wc.heap.size v5 (il T)
  r6 : Row wr wc.heap.size v6 (il L)
  rN : Row wr wc.heap.size vN (il O)
  rF : RowB wr wc.heap.size vF fs
  d56 : Dis v5 v6
  d5N : Dis v5 vN
  d6N : Dis v6 vN
  mG : BM wr G b vN vF
  hG : wc.heap.size ≤ G
  bc : Below wc.heap.size wc wr
section
variable {wc wr wm w1 : World} {G k : Nat} {b x : Int} {vN vF v5 v6 v1 : Value} {T L O : List Nat} {fs : List Bool} {y : Nat} {q : Bool}
theorem BS.call (h : BS wc wr G b vN vF v5 v6 T L O fs) (hb : Below wr.heap.size wr w1) : BS wc w1 G b vN vF v5 v6 T L O fs :=
  ⟨h.r5.below hb, h.r6.below hb, h.rN.below hb, h.rF.below hb, h.d56, h.d5N, h.d6N, h.mG.below hb h.mG.lt, h.hG, h.bc.trans (hb.mono h.bc.size)⟩
theorem grown_bc (h : Below wc.heap.size wc wr) (hm : Below wr.heap.size wr wm) {v : Value} {m : List Int} (hv : Row wr wc.heap.size v m) (hg : wm.grownBy w1 v.ownBlock) : Below wc.heap.size wc w1 := by
  have hz := h.size
  exact (h.trans (hm.mono hz)).grown hg (Nat.le_trans hz hm.size) fun k hk => (World.ownsRow.lt hv k hk).1
theorem BS.app5 (h : BS wc wr G b vN vF v5 v6 T L O fs) (hm : Below wr.heap.size wr wm) (ho : w1.ownsRow wc.heap.size 3 1 v1 k ((il T).map (Value.int .i64) ++ [.int .i64 x])) (hk : k = (il T).length + 1) (hx : x = (y : Int)) (hg : wm.grownBy w1 v5.ownBlock)
    (hat : v1.ownBlock = v5.ownBlock ∨ ∃ k, v1.ownBlock = some k ∧ wr.heap.size ≤ k) : BS wc w1 G b vN vF v1 v6 (T ++ [y]) L O fs :=
  ⟨Row.app1 ho hk hx, h.r6.keepw hm h.d56 hg, h.rN.keepw hm h.d5N hg, World.ownsRow.kept (h.rF.below hm) hg (h.r5.far h.rF), Dis.appw h.r6 h.d56 hat, Dis.appw h.rN h.d5N hat, h.d6N, (h.mG.below hm h.mG.lt).grown hg (h.mG.neI h.r5), h.hG, grown_bc h.bc hm h.r5 hg⟩
theorem BS.app6 (h : BS wc wr G b vN vF v5 v6 T L O fs) (hm : Below wr.heap.size wr wm) (ho : w1.ownsRow wc.heap.size 3 1 v1 k ((il L).map (Value.int .i64) ++ [.int .i64 x])) (hk : k = (il L).length + 1) (hx : x = (y : Int)) (hg : wm.grownBy w1 v6.ownBlock)
    (hat : v1.ownBlock = v6.ownBlock ∨ ∃ k, v1.ownBlock = some k ∧ wr.heap.size ≤ k) : BS wc w1 G b vN vF v5 v1 T (L ++ [y]) O fs :=
  ⟨h.r5.keepw hm h.d56.symm hg, Row.app1 ho hk hx, h.rN.keepw hm h.d6N hg, World.ownsRow.kept (h.rF.below hm) hg (h.r6.far h.rF), (Dis.appw h.r5 h.d56.symm hat).symm, h.d5N, Dis.appw h.rN h.d6N hat, (h.mG.below hm h.mG.lt).grown hg (h.mG.neI h.r6), h.hG, grown_bc h.bc hm h.r6 hg⟩
theorem BS.appN (h : BS wc wr G b vN vF v5 v6 T L O fs) (hm : Below wr.heap.size wr wm) (ho : w1.ownsRow wc.heap.size 3 1 v1 k ((il O).map (Value.int .i64) ++ [.int .i64 x])) (hk : k = (il O).length + 1) (hx : x = (y : Int)) (hg : wm.grownBy w1 vN.ownBlock)
    (hat : v1.ownBlock = vN.ownBlock ∨ ∃ k, v1.ownBlock = some k ∧ wr.heap.size ≤ k) : BS wc (w1.setCell ⟨G, 1, none⟩ v1) G b v1 vF v5 v6 T L (O ++ [y]) fs := by
  have m1 := (h.mG.below hm h.mG.lt).grown hg (h.mG.neI h.rN)
  have a5 := h.r5.keepw hm h.d5N.symm hg
  have a6 := h.r6.keepw hm h.d6N.symm hg
  have aN := Row.app1 ho hk hx
  have aF : RowB w1 wc.heap.size vF fs := World.ownsRow.kept (h.rF.below hm) hg (h.rN.far h.rF)
  exact ⟨a5.setne (m1.neI a5) _, a6.setne (m1.neI a6) _, aN.setne (m1.neI aN) _, aF.setne (m1.neB aF) _, h.d56, (Dis.appw h.r5 h.d5N.symm hat).symm, (Dis.appw h.r6 h.d6N.symm hat).symm, m1.set1 _, h.hG, (grown_bc h.bc hm h.rN hg).setCell h.hG _⟩
theorem BS.appF (h : BS wc wr G b vN vF v5 v6 T L O fs) (hm : Below wr.heap.size wr wm) (ho : w1.ownsRow wc.heap.size 4 1 v1 k (fs.map Value.bool ++ [.bool q])) (hk : k = fs.length + 1) (hg : wm.grownBy w1 vF.ownBlock) : BS wc (w1.setCell ⟨G, 2, none⟩ v1) G b vN v1 v5 v6 T L O (fs ++ [q]) := by
  subst hk
  have m1 := (h.mG.below hm h.mG.lt).grown hg (h.mG.neB h.rF)
  have far : ∀ {u : Value} {m : List Int}, Row wr wc.heap.size u m → Row w1 wc.heap.size u m := fun hu => World.ownsRow.kept (hu.below hm) hg (h.rF.far hu)
  have a5 := far h.r5
  have a6 := far h.r6
  have aN := far h.rN
  have aF : RowB w1 wc.heap.size v1 (fs ++ [q]) := RowB.app ho
  have hz := h.bc.size
  have bw : Below wc.heap.size wc w1 := (h.bc.trans (hm.mono hz)).grown hg (Nat.le_trans hz hm.size) fun k hk => (World.ownsRow.lt h.rF k hk).1
  exact ⟨a5.setne (m1.neI a5) _, a6.setne (m1.neI a6) _, aN.setne (m1.neI aN) _, aF.setne (m1.neB aF) _, h.d56, h.d5N, h.d6N, m1.set2 _, h.hG, bw.setCell h.hG _⟩
end
/-- From append's own word. -/
theorem hat_of {wr wm : World} {v1 v : Value} (hm : Below wr.heap.size wr wm) (hat : v1.ownBlock = v.ownBlock ∨ v1.ownBlock = some wm.heap.size) : v1.ownBlock = v.ownBlock ∨ ∃ k, v1.ownBlock = some k ∧ wr.heap.size ≤ k :=
  hat.imp id fun e => ⟨_, e, hm.size⟩
end Go.Proofs.YtoihjapbidbpdaaDoor
