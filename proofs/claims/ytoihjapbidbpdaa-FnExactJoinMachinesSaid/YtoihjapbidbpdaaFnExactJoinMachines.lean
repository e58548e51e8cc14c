/- The statement of the law FnExactJoinMachines: for every input the law returns true and its arguments read afterwards as they read before. Conditions: none beyond the given row. -/
import Derived.Test.YtoihjapbidbpdaaLJoin
import Derived.Test.YtoihjapbidbpdaaRows
import Derived.WalkKit
import Derived.ProofKit
import Derived.OpenShut
import Derived.ShutString
import Derived.ChangeOld
import Derived.Below
import Derived.Lib.SmallJoins
import Derived.Deep.Grids
namespace Go.Proofs.Ytoihjapbidbpdaa.fnExactJoinMachines
open Go.ChangeShapes Go.WideShapes Go.ChangeAt Go.RowKit
open Go.ChangeMaps (open_string shut_string)
set_option linter.unusedVariables false

theorem own : ownKnob Try.prog.godebug = none := by kernel_rfl
theorem laidOut : laidOutB Try.prog = true := by kernel_rfl

set_option maxRecDepth 100000 in
theorem lifted (os : Os) (started : os.Started) (H : Type) (enc : TypeId × Value → H) :
    ReturnsInHanded {} Try.checked os 7 .any (Rows.fnExactJoinMachinesSpec.pre6 enc Try.prog Try.f7 Rows.fnExactJoinMachinesRow.domain false) (Rows.fnExactJoinMachinesSpec.post enc Try.prog Try.f7 false true false false) := by
  refine returnsInHanded_of_change (C := Try.checked) own started (by kernel_rfl) Try.func7
    (ChangeSpec.witness6 (enc := enc) (C := Try.checked) false ⟨#[], #[.agg #[.int .i64 0, .slice none 0 0, .slice none 0 0], .agg #[.int .i64 0, .slice none 0 0, .slice none 0 0], .bool false], []⟩ 8 (by kernel_rfl) (by kernel_rfl) (by kernel_rfl) (by kernel_rfl)) ?_
  intro W base args ds gs before hval0 hW hcnd _
  have hval : ∀ (j : Nat) t v, Try.f7.params[j]? = some t → args[j]? = some v → Value.okWide Try.prog W .any base t v := hval0
  have hW' := hW
  obtain ⟨p, q, hA0, hV, rfl, hfz, hnd⟩ := hW
  have hA : DataW.TrodAll enc Try.prog W 0 (fun _ => true) true Try.f7.params.toList args.toList ds p := hA0
  rw [Try.params7] at hA hval
  obtain ⟨v0, vs0, d0, ds0, p0, q0, hargs, rfl, rfl, h0, r0⟩ := trodAll_cons hA
  obtain ⟨v1, vs1, d1, ds1, p1, q1, rfl, rfl, rfl, h1, r1⟩ := trodAll_cons r0
  obtain ⟨v2, vs2, d2, ds2, p2, q2, rfl, rfl, rfl, h2, r2⟩ := trodAll_cons r1
  obtain ⟨rfl, rfl, rfl⟩ := trodAll_nil r2
  obtain rfl : args = #[v0, v1, v2] := by cases args; simp_all
  obtain ⟨rfl, rfl⟩ := trodVars_none hV
  have k0 := h0
  have lt0 : ∀ x ∈ p0, x.block < W.heap.size := by obtain ⟨m, hm⟩ := k0; exact DataW.trod_lt m _ _ _ hm
  obtain ⟨e0, g0, f0, y0, s0, x0, m0, rfl, rfl, rfl, hy0, hs0, hx0⟩ := Go.Joins.open_agg3 Try.underlying31 (by kernel_rfl) (by kernel_rfl) (hval 0 31 v0 rfl rfl) h0
  obtain ⟨a0, ea0, hya0, wa0⟩ := DataW.trod_int Try.underlying3 hy0
  simp only [List.cons.injEq, and_true] at ea0
  subst ea0
  obtain ⟨N0, z0, c0, rfl, w0, u0, j0⟩ : ∃ (N : Option Addr) (zs : List Int) (c : Nat), g0 = .slice N zs.length c ∧ RI W W.heap.size N zs ∧ (∀ n ∈ zs, (Lit.int .i64 n).wf = true) ∧ zs.length ≤ 9223372036854775807 := by
    rcases open_ints Try.underlying22 Try.underlying3 (by kernel_rfl) hs0 with ⟨hcs, _⟩ | ⟨x, l, c, zs, hcs, _, hl, hm, hz, _, hcell, hwz⟩
    · simp only [List.cons.injEq, and_true] at hcs
      exact ⟨none, [], 0, hcs, .inl rfl, by simp, by simp⟩
    · simp only [List.cons.injEq, and_true] at hcs
      simp at hz
      exact ⟨some x, zs.take l, c, by rw [hcs]; simp; omega, RI.of_cells hcell (by omega), fun n hn => hwz n (List.mem_of_mem_take hn), by simp [maxLen] at hm ⊢; omega⟩
  obtain ⟨O0, b0, d0', rfl, t0, k0'⟩ : ∃ (N : Option Addr) (zs : List Bool) (c : Nat), f0 = .slice N zs.length c ∧ RB W W.heap.size N zs ∧ zs.length ≤ 9223372036854775807 := by
    rcases Go.Deep.open_bools Try.underlying23 Try.underlying4 (by kernel_rfl) hx0 with ⟨hcs, _⟩ | ⟨x, l, c, B, hcs, _, hl, hm, _, hcell⟩
    · simp only [List.cons.injEq, and_true] at hcs
      exact ⟨none, [], 0, hcs, .inl rfl, by simp⟩
    · simp only [List.cons.injEq, and_true] at hcs
      have hz : ((List.range c).map B).length = c := by simp
      exact ⟨some x, ((List.range c).map B).take l, c, by rw [hcs]; simp [Nat.min_eq_left hl], RB.of_cells (fun i hi => by have hi' : i < c := (by omega); rw [hcell i hi', List.getD_eq_getElem?_getD, List.getElem?_map, List.getElem?_range hi']; rfl) (by omega), by simp [maxLen] at hm ⊢; omega⟩
  have k1 := h1
  have lt1 : ∀ x ∈ p1, x.block < W.heap.size := by obtain ⟨m, hm⟩ := k1; exact DataW.trod_lt m _ _ _ hm
  obtain ⟨e1, g1, f1, y1, s1, x1, m1, rfl, rfl, rfl, hy1, hs1, hx1⟩ := Go.Joins.open_agg3 Try.underlying31 (by kernel_rfl) (by kernel_rfl) (hval 1 31 v1 rfl rfl) h1
  obtain ⟨a1, ea1, hya1, wa1⟩ := DataW.trod_int Try.underlying3 hy1
  simp only [List.cons.injEq, and_true] at ea1
  subst ea1
  obtain ⟨N1, z1, c1, rfl, w1, u1, j1⟩ : ∃ (N : Option Addr) (zs : List Int) (c : Nat), g1 = .slice N zs.length c ∧ RI W W.heap.size N zs ∧ (∀ n ∈ zs, (Lit.int .i64 n).wf = true) ∧ zs.length ≤ 9223372036854775807 := by
    rcases open_ints Try.underlying22 Try.underlying3 (by kernel_rfl) hs1 with ⟨hcs, _⟩ | ⟨x, l, c, zs, hcs, _, hl, hm, hz, _, hcell, hwz⟩
    · simp only [List.cons.injEq, and_true] at hcs
      exact ⟨none, [], 0, hcs, .inl rfl, by simp, by simp⟩
    · simp only [List.cons.injEq, and_true] at hcs
      simp at hz
      exact ⟨some x, zs.take l, c, by rw [hcs]; simp; omega, RI.of_cells hcell (by omega), fun n hn => hwz n (List.mem_of_mem_take hn), by simp [maxLen] at hm ⊢; omega⟩
  obtain ⟨O1, b1, d1', rfl, t1, k1'⟩ : ∃ (N : Option Addr) (zs : List Bool) (c : Nat), f1 = .slice N zs.length c ∧ RB W W.heap.size N zs ∧ zs.length ≤ 9223372036854775807 := by
    rcases Go.Deep.open_bools Try.underlying23 Try.underlying4 (by kernel_rfl) hx1 with ⟨hcs, _⟩ | ⟨x, l, c, B, hcs, _, hl, hm, _, hcell⟩
    · simp only [List.cons.injEq, and_true] at hcs
      exact ⟨none, [], 0, hcs, .inl rfl, by simp⟩
    · simp only [List.cons.injEq, and_true] at hcs
      have hz : ((List.range c).map B).length = c := by simp
      exact ⟨some x, ((List.range c).map B).take l, c, by rw [hcs]; simp [Nat.min_eq_left hl], RB.of_cells (fun i hi => by have hi' : i < c := (by omega); rw [hcell i hi', List.getD_eq_getElem?_getD, List.getElem?_map, List.getElem?_range hi']; rfl) (by omega), by simp [maxLen] at hm ⊢; omega⟩
  obtain ⟨a2, rfl, rfl, rfl⟩ := open_bool Try.underlying4 (hval 2 4 v2 rfl rfl) h2
  clear hA0 hval0
  refine (walk_FnExactJoinMachines W a0 wa0 N0 z0 c0 w0 u0 j0 O0 b0 d0' t0 k0' a1 wa1 N1 z1 c1 w1 u1 j1 O1 b1 d1' t1 k1' a2).mono fun e W' ⟨he, bel⟩ => ?_
  subst he
  exact ⟨_, rfl, _, _, _, [], _, [], hW', trodAll_mk1 (shut_bool Try.underlying4 _), (trodAll_cons_mk (Below.trod laidOut (by kernel_rfl) (of_decide_eq_true (by kernel_rfl)) k0 bel lt0) (trodAll_cons_mk (Below.trod laidOut (by kernel_rfl) (of_decide_eq_true (by kernel_rfl)) k1 bel lt1) (trodAll_cons_mk (shut_bool Try.underlying4 _) trodAll_mk0))), rfl, bel.frame _, fun h => by cases h⟩

theorem over : Rows.fnExactJoinMachinesRow.holds Try.pinned (OpenSpec.ofChange Rows.fnExactJoinMachinesSpec) :=
  OpenClaim.holds_of_wide 7 Try.f7 rfl rfl rfl rfl rfl rfl rfl ⟨rfl, rfl, rfl, rfl, rfl⟩ rfl rfl rfl rfl rfl (by kernel_rfl) Try.func7 (by kernel_rfl)
    (of_decide_eq_true (by kernel_rfl)) (by unfold Func.isWrapper; first | (rw [if_pos (by decide +kernel)]; kernel_rfl) | (rw [if_neg (by decide +kernel)]; exact ⟨rfl, rfl⟩))
    (fun os started H enc _ => lifted os started H enc)

/-- The given statement. -/
theorem proved : Rows.FnExactJoinMachinesSaid := over
#print axioms proved
end Go.Proofs.Ytoihjapbidbpdaa.fnExactJoinMachines
