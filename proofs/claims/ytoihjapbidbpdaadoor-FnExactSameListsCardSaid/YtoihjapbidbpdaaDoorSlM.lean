/- Two machines' reduced machines are equal exactly where no pair of states reached together differs: as plain functions of lists. Conditions: none. -/
import Derived.Test.YtoihjapbidbpdaaDoorBfM
namespace Go.Proofs.YtoihjapbidbpdaaDoor
set_option linter.unusedVariables false
/-- The pairs of states that the two machines reach together. -/
inductive Rch (xa xc : List Int) (bb : Nat) : Nat → Nat → Prop
  | start : Rch xa xc bb 0 0
  | step {s u d : Nat} (h : Rch xa xc bb s u) (hd : d < bb) : Rch xa xc bb (nxt xa bb s d) (nxt xc bb u d)
theorem Rch.lt {xa xc : List Int} {bb na nc s u : Nat} (hA : MC xa bb na) (hC : MC xc bb nc) (h : Rch xa xc bb s u) : s < na ∧ u < nc := by
  induction h with
  | start => exact ⟨hA.n1, hC.n1⟩
  | step h hd ih => exact ⟨(hA.at_ ih.1 hd).2, (hC.at_ ih.2 hd).2⟩
theorem stpK_fixed (xs : List Int) (bb n : Nat) (cl : List Nat) (hn : 1 ≤ n) : stp xs bb n (stpK xs bb n cl n) = stpK xs bb n cl n := by
  have key : ∀ j, (∃ i, i < j ∧ cnt xs bb n (stpK xs bb n cl (i + 1)) = cnt xs bb n (stpK xs bb n cl i)) ∨ j + 1 ≤ cnt xs bb n (stpK xs bb n cl j) := by
    intro j
    induction j with
    | zero => exact .inr (cnt_pos _ _ _ _ hn)
    | succ j ih =>
      rcases ih with ⟨i, hi, e⟩ | h
      · exact .inl ⟨i, by omega, e⟩
      · by_cases e : cnt xs bb n (stpK xs bb n cl (j + 1)) = cnt xs bb n (stpK xs bb n cl j)
        · exact .inl ⟨j, by omega, e⟩
        · exact .inr (go_on h e)
  rcases key n with ⟨i, hi, e⟩ | h
  · have hf : stp xs bb n (stpK xs bb n cl (i + 1)) = stpK xs bb n cl (i + 1) := stp_fix (cl := stpK xs bb n cl i) e
    rw [stpK_fix hf n (by omega)]; exact hf
  · have := cnt_le xs bb n (stpK xs bb n cl n); omega
theorem fix_eq {xs : List Int} {bb n s t : Nat} {cl : List Nat} (hf : stp xs bb n cl = cl) (hs : s < n) (ht : t < n) : cl.getD s 0 = cl.getD t 0 ↔ sgn xs bb cl s = sgn xs bb cl t := by
  have := nrd_eq xs bb cl n s t hs ht
  unfold stp at hf
  rw [hf] at this
  exact this
theorem stpK_fin {xs : List Int} {bb n s t : Nat} {cl : List Nat} (hs : s < n) (ht : t < n) : ∀ k, (stpK xs bb n cl k).getD s 0 = (stpK xs bb n cl k).getD t 0 → cl.getD s 0 = cl.getD t 0
  | 0, h => h
  | k + 1, h => stpK_fin hs ht k ((sgn_iff _ _ _ _ _).1 ((nrd_eq xs bb (stpK xs bb n cl k) n s t hs ht).1 h)).1
theorem cl0_getD (ys : List Bool) (k : Nat) : (cl0 ys).getD k 0 = if ys.getD k false then 1 else 0 := by
  unfold cl0
  rw [List.getD_eq_getElem?_getD, List.getD_eq_getElem?_getD, List.getElem?_map]
  cases ys[k]? <;> simp
theorem cl0_same {ys zs : List Bool} {s t : Nat} : (if ys.getD s false then 1 else 0) = (if zs.getD t false then 1 else (0 : Nat)) ↔ ys.getD s false = zs.getD t false := by
  cases ys.getD s false <;> cases zs.getD t false <;> simp
theorem cls_two {xa xc : List Int} {bb : Nat} {ya yc : List Bool} (hA : MC xa bb ya.length) (hC : MC xc bb yc.length) (hR : ∀ s u, Rch xa xc bb s u → ya.getD s false = yc.getD u false) :
    ∀ k s u s' u', Rch xa xc bb s u → Rch xa xc bb s' u' → ((stpK xa bb ya.length (cl0 ya) k).getD s 0 = (stpK xa bb ya.length (cl0 ya) k).getD s' 0 ↔ (stpK xc bb yc.length (cl0 yc) k).getD u 0 = (stpK xc bb yc.length (cl0 yc) k).getD u' 0) := by
  intro k
  induction k with
  | zero =>
    intro s u s' u' h h'
    rw [stpK, stpK, cl0_getD, cl0_getD, cl0_getD, cl0_getD, cl0_same, cl0_same, hR s u h, hR s' u' h']
  | succ k ih =>
    intro s u s' u' h h'
    have l1 := h.lt hA hC
    have l2 := h'.lt hA hC
    rw [stpK, stpK]
    unfold stp
    rw [nrd_eq _ _ _ _ _ _ l1.1 l2.1, nrd_eq _ _ _ _ _ _ l1.2 l2.2, sgn_iff, sgn_iff]
    exact ⟨fun g => ⟨(ih _ _ _ _ h h').1 g.1, fun t ht => (ih _ _ _ _ (.step h ht) (.step h' ht)).1 (g.2 t ht)⟩, fun g => ⟨(ih _ _ _ _ h h').2 g.1, fun t ht => (ih _ _ _ _ (.step h ht) (.step h' ht)).2 (g.2 t ht)⟩⟩
theorem cls_fin {xa xc : List Int} {bb : Nat} {ya yc : List Bool} (hA : MC xa bb ya.length) (hC : MC xc bb yc.length) (hR : ∀ s u, Rch xa xc bb s u → ya.getD s false = yc.getD u false) :
    ∀ s u s' u', Rch xa xc bb s u → Rch xa xc bb s' u' → ((stpK xa bb ya.length (cl0 ya) ya.length).getD s 0 = (stpK xa bb ya.length (cl0 ya) ya.length).getD s' 0 ↔ (stpK xc bb yc.length (cl0 yc) yc.length).getD u 0 = (stpK xc bb yc.length (cl0 yc) yc.length).getD u' 0) := by
  intro s u s' u' h h'
  have := cls_two hA hC hR (ya.length + yc.length) s u s' u' h h'
  rw [stpK_fix (stpK_fixed xa bb ya.length (cl0 ya) hA.n1) (ya.length + yc.length) (by omega), stpK_fix (stpK_fixed xc bb yc.length (cl0 yc) hC.n1) (ya.length + yc.length) (by omega)] at this
  exact this
theorem mem_two {c e : Nat} : ∀ {l m : List Nat}, l.length = m.length → (∀ q, q < l.length → (l.getD q 0 = c ↔ m.getD q 0 = e)) → (c ∈ l ↔ e ∈ m) ∧ l.idxOf c = m.idxOf e
  | [], [], _, _ => by simp
  | [], b :: m, h, _ => by simp at h
  | a :: l, [], h, _ => by simp at h
  | a :: l, b :: m, h, hq => by
    have h0 : a = c ↔ b = e := by simpa using hq 0 (by simp)
    obtain ⟨i1, i2⟩ := mem_two (c := c) (e := e) (l := l) (m := m) (by simpa using h) (fun q hlt => by simpa using hq (q + 1) (by simp; omega))
    rw [List.mem_cons, List.mem_cons, List.idxOf_cons, List.idxOf_cons]
    by_cases ha : a = c
    · have hb := h0.1 ha
      subst ha hb
      simp
    · have hb : ¬ b = e := fun g => ha (h0.2 g)
      have e1 : (a == c) = false := by simpa using ha
      have e2 : (b == e) = false := by simpa using hb
      rw [e1, e2, i2]
      refine ⟨?_, rfl⟩
      constructor
      · rintro (g | g)
        · exact absurd g.symm ha
        · exact .inr (i1.1 g)
      · rintro (g | g)
        · exact absurd g.symm hb
        · exact .inr (i1.2 g)
theorem getD_one (l : List Nat) (x q : Nat) : (l ++ [x]).getD q 0 = if q < l.length then l.getD q 0 else if q = l.length then x else 0 := by
  by_cases h : q < l.length
  · rw [if_pos h, List.getD_eq_getElem?_getD, List.getElem?_append_left h, ← List.getD_eq_getElem?_getD]
  · rw [if_neg h]
    by_cases e : q = l.length
    · rw [if_pos e, List.getD_eq_getElem?_getD, List.getElem?_append_right (by omega), e]; simp
    · rw [if_neg e, List.getD_eq_getElem?_getD, List.getElem?_eq_none (by simp; omega)]; rfl
theorem getD_map {l : List Nat} {cl : List Nat} {q : Nat} (h : q < l.length) : (l.map fun s => cl.getD s 0).getD q 0 = cl.getD (l.getD q 0) 0 := by
  rw [List.getD_eq_getElem?_getD, List.getElem?_map, List.getElem?_eq_getElem h, List.getD_eq_getElem?_getD (l := l), List.getElem?_eq_getElem h]
  rfl
/-- Two searches in step. -/
def Lk (xa xc : List Int) (bb : Nat) (P Q : List Nat × List Nat) : Prop := P.1.length = Q.1.length ∧ P.2 = Q.2 ∧ ∀ q, Rch xa xc bb (P.1.getD q 0) (Q.1.getD q 0)
section
variable {xa xc : List Int} {bb : Nat} {ca cc : List Nat} (H : ∀ s u s' u', Rch xa xc bb s u → Rch xa xc bb s' u' → (ca.getD s 0 = ca.getD s' 0 ↔ cc.getD u 0 = cc.getD u' 0))
include H
theorem bst_two {i d : Nat} {P Q : List Nat × List Nat} (h : Lk xa xc bb P Q) (hd : d < bb) : Lk xa xc bb (bst xa bb ca i d P) (bst xc bb cc i d Q) := by
  obtain ⟨h1, h2, h3⟩ := h
  have hr := Rch.step (h3 i) hd
  obtain ⟨k1, k2⟩ := mem_two (c := ca.getD (nxt xa bb (P.1.getD i 0) d) 0) (e := cc.getD (nxt xc bb (Q.1.getD i 0) d) 0) (l := P.1.map fun s => ca.getD s 0) (m := Q.1.map fun s => cc.getD s 0) (by simp [h1])
    (fun q hq => by
      rw [List.length_map] at hq
      rw [getD_map hq, getD_map (by omega)]
      exact H _ _ _ _ (h3 q) hr)
  by_cases hm : ca.getD (nxt xa bb (P.1.getD i 0) d) 0 ∈ P.1.map fun s => ca.getD s 0
  · rw [bst_old hm, bst_old (k1.1 hm)]
    exact ⟨h1, by dsimp only; rw [k2, h2], h3⟩
  · rw [bst_new hm, bst_new (fun g => hm (k1.2 g))]
    refine ⟨by simp [h1], by dsimp only; rw [h1, h2], fun q => ?_⟩
    dsimp only
    rw [getD_one, getD_one, ← h1]
    by_cases g : q < P.1.length
    · rw [if_pos g, if_pos g]; exact h3 q
    · rw [if_neg g, if_neg g]
      by_cases g2 : q = P.1.length
      · rw [if_pos g2, if_pos g2]; exact hr
      · rw [if_neg g2, if_neg g2]; exact .start
theorem bin_two {i : Nat} {P Q : List Nat × List Nat} (h : Lk xa xc bb P Q) : ∀ d, d ≤ bb → Lk xa xc bb (bin xa bb ca i P d) (bin xc bb cc i Q d)
  | 0, _ => h
  | d + 1, hd => bst_two H (bin_two h d (by omega)) (by omega)
theorem bou_two : ∀ i, Lk xa xc bb (bou xa bb ca i) (bou xc bb cc i)
  | 0 => ⟨rfl, rfl, fun q => by
      have e : (bou xa bb ca 0).1.getD q 0 = 0 := by cases q <;> simp [bou]
      have e' : (bou xc bb cc 0).1.getD q 0 = 0 := by cases q <;> simp [bou]
      rw [e, e']; exact .start⟩
  | i + 1 => bin_two H (bou_two i) bb (Nat.le_refl _)
end
theorem bend_at {xs : List Int} {bb : Nat} {cl : List Nat} : ∀ f i, (∀ q, q < i → q < (bou xs bb cl q).1.length) → (∀ q, q < bend xs bb cl f i → q < (bou xs bb cl q).1.length) ∧ (bend xs bb cl f i < i + f → ¬ bend xs bb cl f i < (bou xs bb cl (bend xs bb cl f i)).1.length)
  | 0, i, h => by rw [bend]; exact ⟨h, fun g => by omega⟩
  | f + 1, i, h => by
    by_cases hg : i < (bou xs bb cl i).1.length
    · rw [bend_go hg]
      obtain ⟨a, b⟩ := bend_at (cl := cl) (xs := xs) (bb := bb) f (i + 1) (fun q hq => by
        rcases Nat.lt_succ_iff_lt_or_eq.1 hq with h' | rfl
        · exact h q h'
        · exact hg)
      exact ⟨a, fun g => b (by omega)⟩
    · rw [bend_stop hg]; exact ⟨h, fun _ => hg⟩
theorem bend_leM {xs : List Int} {bb n : Nat} {cl : List Nat} (hM : MC xs bb n) (hcl : ∀ s, s < n → cl.getD s 0 < n) : ∀ f i, i ≤ n → (∀ q, q < i → q < (bou xs bb cl q).1.length) → bend xs bb cl f i ≤ n
  | 0, i, hi, _ => by rw [bend]; exact hi
  | f + 1, i, hi, h => by
    by_cases hg : i < (bou xs bb cl i).1.length
    · rw [bend_go hg]
      have := (BOK.bou (cl := cl) hM i h).len hcl
      exact bend_leM hM hcl f (i + 1) (by omega) (fun q hq => by
        rcases Nat.lt_succ_iff_lt_or_eq.1 hq with h' | rfl
        · exact h q h'
        · exact hg)
    · rw [bend_stop hg]; exact hi
theorem redI_leM {xs : List Int} {bb n : Nat} {cl : List Nat} (hM : MC xs bb n) (hcl : ∀ s, s < n → cl.getD s 0 < n) : redI xs bb n cl ≤ n :=
  bend_leM hM hcl _ 0 (by omega) (fun q hq => by omega)
theorem redI_at {xs : List Int} {bb n : Nat} {cl : List Nat} (hM : MC xs bb n) (hcl : ∀ s, s < n → cl.getD s 0 < n) : (∀ q, q < redI xs bb n cl → q < (bou xs bb cl q).1.length) ∧ ¬ redI xs bb n cl < (bou xs bb cl (redI xs bb n cl)).1.length := by
  obtain ⟨a, b⟩ := bend_at (xs := xs) (bb := bb) (cl := cl) (n + 1) 0 (fun q hq => by omega)
  have := redI_leM hM hcl
  exact ⟨a, b (by unfold redI at this; omega)⟩
/-- What the numbers of the reduced machine say. -/
structure BIn (xs : List Int) (bb : Nat) (cl : List Nat) (P : List Nat × List Nat) : Prop where
  at_ : ∀ p, p < P.2.length → p / bb < P.1.length ∧ P.2.getD p 0 < P.1.length ∧ cl.getD (P.1.getD (P.2.getD p 0) 0) 0 = cl.getD (nxt xs bb (P.1.getD (p / bb) 0) (p % bb)) 0
  ne : 1 ≤ P.1.length
  zero : P.1.getD 0 0 = 0
theorem BIn.bst {xs : List Int} {bb : Nat} {cl : List Nat} {i d : Nat} {P : List Nat × List Nat} (h : BIn xs bb cl P) (hi : i < P.1.length) (hd : d < bb) (hl : P.2.length = i * bb + d) : BIn xs bb cl (bst xs bb cl i d P) := by
  have q1 : (i * bb + d) / bb = i := by rw [Nat.mul_comm, Nat.mul_add_div (by omega), Nat.div_eq_of_lt hd, Nat.add_zero]
  have q2 : (i * bb + d) % bb = d := by rw [Nat.mul_comm, Nat.mul_add_mod, Nat.mod_eq_of_lt hd]
  by_cases hm : cl.getD (nxt xs bb (P.1.getD i 0) d) 0 ∈ P.1.map fun s => cl.getD s 0
  · rw [bst_old hm]
    refine ⟨fun p hp => ?_, h.ne, h.zero⟩
    dsimp only at hp ⊢
    rw [List.length_append, List.length_singleton] at hp
    rw [getD_one]
    by_cases g : p < P.2.length
    · rw [if_pos g]; exact h.at_ p g
    · have e : p = P.2.length := by omega
      rw [if_neg g, if_pos e, e, hl, q1, q2]
      have hx := List.idxOf_lt_length_of_mem hm
      have hx' := hx
      rw [List.length_map] at hx'
      refine ⟨hi, hx', ?_⟩
      rw [← getD_map hx', List.getD_eq_getElem?_getD, List.getElem?_eq_getElem hx, List.getElem_idxOf]
      rfl
  · rw [bst_new hm]
    refine ⟨fun p hp => ?_, by simp, ?_⟩
    · dsimp only at hp ⊢
      rw [List.length_append, List.length_singleton] at hp
      rw [List.length_append, List.length_singleton, getD_one P.2]
      by_cases g : p < P.2.length
      · obtain ⟨a, b, c⟩ := h.at_ p g
        rw [if_pos g]
        refine ⟨by omega, by omega, ?_⟩
        rw [getD_one, getD_one, if_pos b, if_pos a]
        exact c
      · have e : p = P.2.length := by omega
        rw [if_neg g, if_pos e, e, hl, q1, q2]
        refine ⟨by omega, by omega, ?_⟩
        rw [getD_one, getD_one, if_neg (by omega), if_pos rfl, if_pos hi]
    · dsimp only
      rw [getD_one, if_pos (by have := h.ne; omega)]
      exact h.zero
theorem BIn.bin {xs : List Int} {bb : Nat} {cl : List Nat} {i : Nat} {P : List Nat × List Nat} (h : BIn xs bb cl P) (hi : i < P.1.length) (hl : P.2.length = i * bb) : ∀ d, d ≤ bb → BIn xs bb cl (bin xs bb cl i P d)
  | 0, _ => h
  | d + 1, hd => (BIn.bin h hi hl d (by omega)).bst (Nat.lt_of_lt_of_le hi (bin_len d).1) (by omega) (by rw [(bin_len d).2, hl])
theorem BIn.bou {xs : List Int} {bb : Nat} {cl : List Nat} : ∀ i, (∀ q, q < i → q < (bou xs bb cl q).1.length) → BIn xs bb cl (bou xs bb cl i)
  | 0, _ => ⟨fun p hp => by simp [Go.Proofs.YtoihjapbidbpdaaDoor.bou] at hp, Nat.le_refl _, rfl⟩
  | i + 1, h => (BIn.bou i (fun q hq => h q (by omega))).bin (h i (by omega)) (bou_len xs bb cl i) bb (Nat.le_refl _)
/-- The reduced machine, in one. -/
structure RedOk (xs : List Int) (bb n : Nat) (cl : List Nat) (ys : List Bool) (I : Nat) (T N : List Nat) : Prop where
  len : T.length = I
  pos : 1 ≤ I
  zero : T.getD 0 0 = 0
  lt : ∀ i, i < I → T.getD i 0 < n
  nlen : N.length = I * bb
  at_ : ∀ i d, i < I → d < bb → N.getD (i * bb + d) 0 < I ∧ cl.getD (T.getD (N.getD (i * bb + d) 0) 0) 0 = cl.getD (nxt xs bb (T.getD i 0) d) 0
  fin : redF xs bb n cl ys = T.map fun s => ys.getD s false
theorem redOk {xs : List Int} {bb n : Nat} {cl : List Nat} (ys : List Bool) (hM : MC xs bb n) (hcl : ∀ s, s < n → cl.getD s 0 < n) : RedOk xs bb n cl ys (redI xs bb n cl) (bou xs bb cl (redI xs bb n cl)).1 (redN xs bb n cl) := by
  obtain ⟨a, b⟩ := redI_at hM hcl
  have hB := BIn.bou (redI xs bb n cl) a
  have hO := BOK.bou (cl := cl) hM (redI xs bb n cl) a
  have hl := bou_len xs bb cl (redI xs bb n cl)
  have hne := hB.ne
  have hb := hM.b2
  have hlen : (bou xs bb cl (redI xs bb n cl)).1.length = redI xs bb n cl := by
    obtain ⟨m, hm⟩ : ∃ m, redI xs bb n cl = m + 1 := ⟨redI xs bb n cl - 1, by omega⟩
    have := (hB.at_ (m * bb) (by rw [hl, hm, Nat.add_mul]; omega)).1
    rw [Nat.mul_div_cancel _ (by omega)] at this
    omega
  refine ⟨hlen, by omega, hB.zero, fun i hi => ?_, hl, fun i d hi hd => ?_, ?_⟩
  · rw [← hlen] at hi
    rw [List.getD_eq_getElem?_getD, List.getElem?_eq_getElem hi]
    exact hO.lt _ (List.getElem_mem _)
  · have q1 : (i * bb + d) / bb = i := by rw [Nat.mul_comm, Nat.mul_add_div (by omega), Nat.div_eq_of_lt hd, Nat.add_zero]
    have q2 : (i * bb + d) % bb = d := by rw [Nat.mul_comm, Nat.mul_add_mod, Nat.mod_eq_of_lt hd]
    have hp : i * bb + d < (bou xs bb cl (redI xs bb n cl)).2.length := by
      rw [hl]
      have : (i + 1) * bb ≤ redI xs bb n cl * bb := Nat.mul_le_mul_right _ (by omega)
      rw [Nat.add_mul, Nat.one_mul] at this
      omega
    have := hB.at_ _ hp
    rw [q1, q2, hlen] at this
    exact ⟨this.2.1, this.2.2⟩
  · unfold redF
    rw [List.take_of_length_le (by omega)]
theorem getD_ys {T : List Nat} {ys : List Bool} {i : Nat} (h : i < T.length) : (T.map fun s => ys.getD s false).getD i false = ys.getD (T.getD i 0) false := by
  rw [List.getD_eq_getElem?_getD, List.getElem?_map, List.getElem?_eq_getElem h, List.getD_eq_getElem?_getD (l := T), List.getElem?_eq_getElem h]
  rfl
/-- The classes that n rounds give. -/
def clF (xs : List Int) (bb : Nat) (ys : List Bool) : List Nat := stpK xs bb ys.length (cl0 ys) ys.length
theorem clF_lt {xs : List Int} {bb : Nat} {ys : List Bool} : ∀ s, s < ys.length → (clF xs bb ys).getD s 0 < ys.length := by
  intro s hs
  unfold clF
  obtain ⟨n', hn⟩ : ∃ n', ys.length = n' + 1 := ⟨ys.length - 1, by omega⟩
  rw [hn] at hs ⊢
  exact stp_lt _ _ _ _ s hs
theorem same_mp {xa xc : List Int} {bb : Nat} {ya yc : List Bool} (hA : MC xa bb ya.length) (hC : MC xc bb yc.length) (hR : ∀ s u, Rch xa xc bb s u → ya.getD s false = yc.getD u false) :
    redN xa bb ya.length (clF xa bb ya) = redN xc bb yc.length (clF xc bb yc) ∧ redF xa bb ya.length (clF xa bb ya) ya = redF xc bb yc.length (clF xc bb yc) yc := by
  have H := cls_fin hA hC hR
  have L := bou_two (ca := clF xa bb ya) (cc := clF xc bb yc) H
  obtain ⟨a1, a2⟩ := redI_at hA (clF_lt (xs := xa) (bb := bb))
  obtain ⟨c1, c2⟩ := redI_at hC (clF_lt (xs := xc) (bb := bb))
  have hI : redI xa bb ya.length (clF xa bb ya) = redI xc bb yc.length (clF xc bb yc) := by
    rcases Nat.lt_trichotomy (redI xa bb ya.length (clF xa bb ya)) (redI xc bb yc.length (clF xc bb yc)) with h | h | h
    · have := c1 _ h; rw [← (L _).1] at this; exact absurd this a2
    · exact h
    · have := a1 _ h; rw [(L _).1] at this; exact absurd this c2
  have oa := redOk ya hA (clF_lt (xs := xa) (bb := bb))
  have oc := redOk yc hC (clF_lt (xs := xc) (bb := bb))
  refine ⟨by unfold redN; rw [hI]; exact (L _).2.1, ?_⟩
  rw [oa.fin, oc.fin, hI]
  have Lr := L (redI xc bb yc.length (clF xc bb yc))
  apply List.ext_getElem (by simp [Lr.1])
  intro i h1 h2
  rw [List.length_map] at h1 h2
  have := hR _ _ (Lr.2.2 i)
  rw [List.getD_eq_getElem?_getD (l := (bou xa bb _ _).1), List.getElem?_eq_getElem h1, List.getD_eq_getElem?_getD (l := (bou xc bb _ _).1), List.getElem?_eq_getElem h2] at this
  rw [List.getElem_map, List.getElem_map]
  exact this
theorem same_mpr {xa xc : List Int} {bb : Nat} {ya yc : List Bool} (hA : MC xa bb ya.length) (hC : MC xc bb yc.length) (h1 : redN xa bb ya.length (clF xa bb ya) = redN xc bb yc.length (clF xc bb yc)) (h2 : redF xa bb ya.length (clF xa bb ya) ya = redF xc bb yc.length (clF xc bb yc) yc) :
    ∀ s u, Rch xa xc bb s u → ya.getD s false = yc.getD u false := by
  have oa := redOk ya hA (clF_lt (xs := xa) (bb := bb))
  have oc := redOk yc hC (clF_lt (xs := xc) (bb := bb))
  rw [oa.fin, oc.fin] at h2
  have fa := stpK_fixed xa bb ya.length (cl0 ya) hA.n1
  have fc := stpK_fixed xc bb yc.length (cl0 yc) hC.n1
  have hI : redI xa bb ya.length (clF xa bb ya) = redI xc bb yc.length (clF xc bb yc) := by
    have := congrArg List.length h2
    rw [List.length_map, List.length_map, oa.len, oc.len] at this
    exact this
  have key : ∀ s u, Rch xa xc bb s u → ∃ i, i < redI xa bb ya.length (clF xa bb ya) ∧ (clF xa bb ya).getD s 0 = (clF xa bb ya).getD ((bou xa bb (clF xa bb ya) (redI xa bb ya.length (clF xa bb ya))).1.getD i 0) 0 ∧
      (clF xc bb yc).getD u 0 = (clF xc bb yc).getD ((bou xc bb (clF xc bb yc) (redI xc bb yc.length (clF xc bb yc))).1.getD i 0) 0 := by
    intro s u h
    induction h with
    | start => exact ⟨0, oa.pos, by rw [oa.zero], by rw [oc.zero]⟩
    | @step s u d h hd ih =>
      obtain ⟨i, hi, e1, e2⟩ := ih
      have l := h.lt hA hC
      have hi' : i < redI xc bb yc.length (clF xc bb yc) := by omega
      have g1 := ((sgn_iff _ _ _ _ _).1 ((fix_eq fa l.1 (oa.lt i hi)).1 e1)).2 d hd
      have g2 := ((sgn_iff _ _ _ _ _).1 ((fix_eq fc l.2 (oc.lt i hi')).1 e2)).2 d hd
      obtain ⟨p1, p2⟩ := oa.at_ i d hi hd
      obtain ⟨r1, r2⟩ := oc.at_ i d hi' hd
      rw [← h1] at r2
      exact ⟨_, p1, g1.trans p2.symm, g2.trans r2.symm⟩
  intro s u h
  obtain ⟨i, hi, e1, e2⟩ := key s u h
  have l := h.lt hA hC
  have hi' : i < redI xc bb yc.length (clF xc bb yc) := by omega
  have k1 := stpK_fin l.1 (oa.lt i hi) ya.length e1
  have k2 := stpK_fin l.2 (oc.lt i hi') yc.length e2
  rw [cl0_getD, cl0_getD, cl0_same] at k1 k2
  have k3 := congrArg (fun t => t.getD i false) h2
  rw [getD_ys (by rw [oa.len]; exact hi), getD_ys (by rw [oc.len]; exact hi')] at k3
  rw [k1, k2, k3]
/-- The law of the lists. -/
theorem same_iff {xa xc : List Int} {bb : Nat} {ya yc : List Bool} (hA : MC xa bb ya.length) (hC : MC xc bb yc.length) :
    (redN xa bb ya.length (clF xa bb ya) = redN xc bb yc.length (clF xc bb yc) ∧ redF xa bb ya.length (clF xa bb ya) ya = redF xc bb yc.length (clF xc bb yc) yc) ↔ ∀ s u, Rch xa xc bb s u → ya.getD s false = yc.getD u false :=
  ⟨fun h => same_mpr hA hC h.1 h.2, fun h => same_mp hA hC h⟩
end Go.Proofs.YtoihjapbidbpdaaDoor
