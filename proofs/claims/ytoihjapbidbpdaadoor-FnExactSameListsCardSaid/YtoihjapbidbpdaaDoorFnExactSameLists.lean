/- The statement of the law FnExactSameLists, a tied card: for every input the law returns true and its arguments read afterwards as they read before. Conditions: none beyond the given card: the listed tables read as the program's text lays them, which the given tie shows. -/
import Derived.Test.YtoihjapbidbpdaaDoorLSl
import Derived.Test.YtoihjapbidbpdaaDoorRows
import Derived.Test.YtoihjapbidbpdaaDoorCards
import Derived.Test.YtoihjapbidbpdaaDoorTie
import Derived.WalkKit
import Derived.ProofKit
import Derived.LaidMore
import Derived.OpenShut
import Derived.ShutString
import Derived.ChangeOld
import Derived.Below
import Derived.Stop.Joined
import Derived.SevenTiedAt
import Derived.Lib.LaidTab
import Derived.Lib.ItoaNum
import Derived.Lib.SmallJoins
import Derived.Deep.Grids
import Derived.MakeChecks
namespace Go.Proofs.YtoihjapbidbpdaaDoor.fnExactSameLists
open Go.ChangeShapes Go.WideShapes Go.ChangeAt Go.RowKit
open Go.ChangeMaps (open_string shut_string)
set_option linter.unusedVariables false

theorem own : ownKnob Tryd.prog.godebug = none := by kernel_rfl
theorem laidOut : laidOutB Tryd.prog = true := by kernel_rfl
theorem g2 : Tryd.prog.globalNamed "internal/strconv.uint64pow10" = some 0 := by kernel_rfl
theorem y2 : (Tryd.prog.globals[0]?).map (·.type) = some 76 := by kernel_rfl
theorem c8 : Tryd.prog.cellsOf 69 = 1 := by kernel_rfl
theorem c64 : Tryd.prog.cellsOf 76 = 20 := by kernel_rfl
theorem data2 : Rows.laid_internal_strconv_uint64pow10 (H := Unit) = Go.Lib.tabData .u64 Go.Lib.pow10Tab := by kernel_rfl
/-- What the condition gives the walks. -/
theorem tab_of {W : World} (h : laidMetH Tryd.prog Rows.fnExactSameListsRow.laid W) : Go.Lib.TabIs Tryd.prog W "internal/strconv.uint64pow10" .u64 Go.Lib.pow10Tab := by
  rw [MakeChecks.laidMetH_plain _ _ _ (by kernel_rfl)] at h
  obtain ⟨ps, ⟨k0, t0, cs0, f0, p0, q0, hg0, ht0, hv0, hd0, ⟨k1, t1, cs1, f1, p1, q1, hg1, ht1, hv1, hd1, ⟨k2, t2, cs2, f2, p2, q2, hg2, ht2, hv2, hd2, _, _⟩, _⟩, _⟩, _⟩ := h
  obtain rfl := Option.some.inj (g2.symm.trans hg2)
  obtain rfl := Option.some.inj (y2.symm.trans ht2)
  rw [data2] at hd2
  have hc := Go.Lib.cells_of_tab Tryd.underlying76 Tryd.underlying69 c8 c64 hd2
  unfold Go.Lib.TabIs
  rw [hv2, ← hc]
/-- The door's own heap meets the condition. -/
theorem door_met (os : Os) (args : Array Value) : laidMetH Tryd.prog Rows.fnExactSameListsRow.laid ((World.doorLaid Tryd.prog 400 os).forCall (fun _ _ => 0) ⟨#[], args, []⟩).memory :=
  laidMetH_of_parts3 (fuel := 8) (laidMet_of_run' 8 (by kernel_rfl) (by kernel_rfl)) (by kernel_rfl) (by kernel_rfl)

set_option maxRecDepth 100000 in
theorem lifted (os : Os) (started : os.Started) (H : Type) (enc : TypeId × Value → H) :
    ReturnsInHanded {} Tryd.checked os 3 .any (fun w args => (Rows.fnExactSameListsSpec.pre enc Tryd.prog Tryd.f3 [] false w args ∧ laidMetH Tryd.prog Rows.fnExactSameListsRow.laid w) ∧ sizedMet enc Tryd.prog Tryd.f3 (OpenSpec.ofChange Rows.fnExactSameListsSpec) false w args)
      (Rows.fnExactSameListsSpec.post enc Tryd.prog Tryd.f3 false true false false) := by
  refine returnsInHanded_of_change_and (C := Tryd.checked) (X := fun w _ => laidMetH Tryd.prog Rows.fnExactSameListsRow.laid w) (fun _ _ _ hh h => h.of_heap hh) own started (by kernel_rfl) Tryd.func3
    (ChangeSpec.witness_shaped (enc := enc) (C := Tryd.checked) (os := os) (X := fun w _ => laidMetH Tryd.prog Rows.fnExactSameListsRow.laid w) false (World.doorLaid Tryd.prog 400 os) #[.agg #[.int .i64 0, .slice none 0 0, .slice none 0 0], .agg #[.int .i64 0, .slice none 0 0, .slice none 0 0]] 8 rfl (World.shaped_of_RefB (by kernel_rfl) (by kernel_rfl)) (by kernel_rfl) (by kernel_rfl) (by kernel_rfl) (door_met os _)) ?_
  intro W base args ds gs before hval0 hW _ _ hL _
  have hval : ∀ (j : Nat) t v, Tryd.f3.params[j]? = some t → args[j]? = some v → Value.okWide Tryd.prog W .any base t v := hval0
  have hW' := hW
  obtain ⟨p, q, hA0, hV, rfl, hfz, hnd⟩ := hW
  have hA : DataW.TrodAll enc Tryd.prog W 0 (fun _ => true) true Tryd.f3.params.toList args.toList ds p := hA0
  rw [Tryd.params3] at hA hval
  obtain ⟨v0, vs0, d0, ds0, p0, q0, hargs, rfl, rfl, h0, r0⟩ := trodAll_cons hA
  obtain ⟨v1, vs1, d1, ds1, p1, q1, rfl, rfl, rfl, h1, r1⟩ := trodAll_cons r0
  obtain ⟨rfl, rfl, rfl⟩ := trodAll_nil r1
  obtain rfl : args = #[v0, v1] := by cases args; simp_all
  obtain ⟨rfl, rfl⟩ := trodVars_none hV
  have k0 := h0
  have lt0 : ∀ x ∈ p0, x.block < W.heap.size := by obtain ⟨m, hm⟩ := k0; exact DataW.trod_lt m _ _ _ hm
  obtain ⟨e0, g0, f0, y0, s0, x0, m0, rfl, rfl, rfl, hy0, hs0, hx0⟩ := Go.Joins.open_agg3 Tryd.underlying25 (by kernel_rfl) (by kernel_rfl) (hval 0 25 v0 rfl rfl) h0
  obtain ⟨a0, ea0, hya0, wa0⟩ := DataW.trod_int Tryd.underlying3 hy0
  simp only [List.cons.injEq, and_true] at ea0
  subst ea0
  obtain ⟨N0, z0, c0, rfl, w0, u0, j0⟩ : ∃ (N : Option Addr) (zs : List Int) (c : Nat), g0 = .slice N zs.length c ∧ RI W W.heap.size N zs ∧ (∀ n ∈ zs, (Lit.int .i64 n).wf = true) ∧ zs.length ≤ 9223372036854775807 := by
    rcases open_ints Tryd.underlying22 Tryd.underlying3 (by kernel_rfl) hs0 with ⟨hcs, _⟩ | ⟨x, l, c, zs, hcs, _, hl, hm, hz, _, hcell, hwz⟩
    · simp only [List.cons.injEq, and_true] at hcs
      exact ⟨none, [], 0, hcs, .inl rfl, by simp, by simp⟩
    · simp only [List.cons.injEq, and_true] at hcs
      simp at hz
      exact ⟨some x, zs.take l, c, by rw [hcs]; simp; omega, RI.of_cells hcell (by omega), fun n hn => hwz n (List.mem_of_mem_take hn), by simp [maxLen] at hm ⊢; omega⟩
  obtain ⟨O0, b0, d0', rfl, t0, k0'⟩ : ∃ (N : Option Addr) (zs : List Bool) (c : Nat), f0 = .slice N zs.length c ∧ RB W W.heap.size N zs ∧ zs.length ≤ 9223372036854775807 := by
    rcases Go.Deep.open_bools Tryd.underlying23 Tryd.underlying4 (by kernel_rfl) hx0 with ⟨hcs, _⟩ | ⟨x, l, c, B, hcs, _, hl, hm, _, hcell⟩
    · simp only [List.cons.injEq, and_true] at hcs
      exact ⟨none, [], 0, hcs, .inl rfl, by simp⟩
    · simp only [List.cons.injEq, and_true] at hcs
      have hz : ((List.range c).map B).length = c := by simp
      exact ⟨some x, ((List.range c).map B).take l, c, by rw [hcs]; simp [Nat.min_eq_left hl], RB.of_cells (fun i hi => by have hi' : i < c := (by omega); rw [hcell i hi', List.getD_eq_getElem?_getD, List.getElem?_map, List.getElem?_range hi']; rfl) (by omega), by simp [maxLen] at hm ⊢; omega⟩
  have k1 := h1
  have lt1 : ∀ x ∈ p1, x.block < W.heap.size := by obtain ⟨m, hm⟩ := k1; exact DataW.trod_lt m _ _ _ hm
  obtain ⟨e1, g1, f1, y1, s1, x1, m1, rfl, rfl, rfl, hy1, hs1, hx1⟩ := Go.Joins.open_agg3 Tryd.underlying25 (by kernel_rfl) (by kernel_rfl) (hval 1 25 v1 rfl rfl) h1
  obtain ⟨a1, ea1, hya1, wa1⟩ := DataW.trod_int Tryd.underlying3 hy1
  simp only [List.cons.injEq, and_true] at ea1
  subst ea1
  obtain ⟨N1, z1, c1, rfl, w1, u1, j1⟩ : ∃ (N : Option Addr) (zs : List Int) (c : Nat), g1 = .slice N zs.length c ∧ RI W W.heap.size N zs ∧ (∀ n ∈ zs, (Lit.int .i64 n).wf = true) ∧ zs.length ≤ 9223372036854775807 := by
    rcases open_ints Tryd.underlying22 Tryd.underlying3 (by kernel_rfl) hs1 with ⟨hcs, _⟩ | ⟨x, l, c, zs, hcs, _, hl, hm, hz, _, hcell, hwz⟩
    · simp only [List.cons.injEq, and_true] at hcs
      exact ⟨none, [], 0, hcs, .inl rfl, by simp, by simp⟩
    · simp only [List.cons.injEq, and_true] at hcs
      simp at hz
      exact ⟨some x, zs.take l, c, by rw [hcs]; simp; omega, RI.of_cells hcell (by omega), fun n hn => hwz n (List.mem_of_mem_take hn), by simp [maxLen] at hm ⊢; omega⟩
  obtain ⟨O1, b1, d1', rfl, t1, k1'⟩ : ∃ (N : Option Addr) (zs : List Bool) (c : Nat), f1 = .slice N zs.length c ∧ RB W W.heap.size N zs ∧ zs.length ≤ 9223372036854775807 := by
    rcases Go.Deep.open_bools Tryd.underlying23 Tryd.underlying4 (by kernel_rfl) hx1 with ⟨hcs, _⟩ | ⟨x, l, c, B, hcs, _, hl, hm, _, hcell⟩
    · simp only [List.cons.injEq, and_true] at hcs
      exact ⟨none, [], 0, hcs, .inl rfl, by simp⟩
    · simp only [List.cons.injEq, and_true] at hcs
      have hz : ((List.range c).map B).length = c := by simp
      exact ⟨some x, ((List.range c).map B).take l, c, by rw [hcs]; simp [Nat.min_eq_left hl], RB.of_cells (fun i hi => by have hi' : i < c := (by omega); rw [hcell i hi', List.getD_eq_getElem?_getD, List.getElem?_map, List.getElem?_range hi']; rfl) (by omega), by simp [maxLen] at hm ⊢; omega⟩
  have hT := tab_of hL
  clear hA0 hval0
  refine (walk_FnExactSameLists W a0 wa0 N0 z0 c0 w0 u0 j0 O0 b0 d0' t0 k0' a1 wa1 N1 z1 c1 w1 u1 j1 O1 b1 d1' t1 k1' (Go.Lib.tabBelow_of_tabIs hT)).mono fun e W' ⟨he, bel⟩ => ?_
  subst he
  exact ⟨_, rfl, _, _, _, [], _, [], hW', trodAll_mk1 (shut_bool Tryd.underlying4 _), (trodAll_cons_mk (Below.trod laidOut (by kernel_rfl) (of_decide_eq_true (by kernel_rfl)) k0 bel lt0) (trodAll_cons_mk (Below.trod laidOut (by kernel_rfl) (of_decide_eq_true (by kernel_rfl)) k1 bel lt1) trodAll_mk0)), rfl, bel.frame _, fun h => by cases h⟩

theorem over : Rows.fnExactSameListsRow.holds Tryd.pinned (OpenSpec.ofChange Rows.fnExactSameListsSpec) :=
  OpenClaim.holds_of_wide 3 Tryd.f3 rfl rfl rfl rfl rfl rfl rfl ⟨rfl, rfl, rfl, rfl, rfl⟩ rfl rfl rfl rfl rfl (by kernel_rfl) Tryd.func3 (by kernel_rfl)
    (of_decide_eq_true (by kernel_rfl)) (by unfold Func.isWrapper; first | (rw [if_pos (by decide +kernel)]; kernel_rfl) | (rw [if_neg (by decide +kernel)]; exact ⟨rfl, rfl⟩))
    (fun os started H enc _ => lifted os started H enc)

/-- The given statement. -/
theorem proved : Rows.FnExactSameListsCardSaid :=
  Claim7.holds_tied_plain_at .later [] [.data, .data, .data] true (true, "0a875b5106bdca0f4634da6eb816fdc7ab2124f9689d44fd3a91969f1124594f") false
    over (fun _ h => by cases h) (by kernel_rfl) (fun _ h => by cases h) fnExactSameLists_row_tie rfl ⟨rfl, rfl⟩ (by kernel_rfl) rfl
    (fun f fn hf hfn => by
      obtain rfl : f = 3 := Option.some.inj ((show Tryd.prog.funcNamed "loop.example/g03203/laws.FnExactSameLists" = some 3 by kernel_rfl).symm.trans hf) |>.symm
      obtain rfl : fn = Tryd.f3 := (Option.some.inj (Tryd.func3.symm.trans hfn)).symm
      exact ⟨by kernel_rfl, fun j t ht => by
        rw [Tryd.params3] at ht
        have hm : t ∈ [25, 25] := by simpa using Array.mem_of_getElem? ht
        have hall : ([25, 25].all fun u => !Tryd.prog.wantsStandIn u) = true := by kernel_rfl
        exact (show Tryd.prog.wantsStandIn t = false by simpa using List.all_eq_true.1 hall t hm)⟩)
    (by kernel_rfl)
#print axioms proved
end Go.Proofs.YtoihjapbidbpdaaDoor.fnExactSameLists