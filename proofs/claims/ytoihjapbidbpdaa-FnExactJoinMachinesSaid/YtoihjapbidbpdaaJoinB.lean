/- JoinMachines of both sides at machines that do not fit. Conditions: lengths of at most 2^21. -/
import Derived.Test.YtoihjapbidbpdaaJoinS
namespace Go.Proofs.Ytoihjapbidbpdaa
open Go.RowKit
set_option linter.unusedVariables false

set_option maxRecDepth 100000 in
set_option maxHeartbeats 2000000 in
theorem impl_j1 (ba bc : Int) (Na Fa Nc Fc : Option Addr) (xa xc : List Int) (ya yc : List Bool) (ca da cc dc : Nat) (q : Bool) (w : World) (hNa : RI w w.heap.size Na xa) (hNc : RI w w.heap.size Nc xc) (hla : xa.length ≤ 2097152) (hma : ya.length ≤ 2097152) (hlc : xc.length ≤ 2097152) (hmc : yc.length ≤ 2097152) (hA : mok ba xa ya.length = false) :
    Calls Try.prog 22 #[.agg #[.int .i64 ba, .slice Na xa.length ca, .slice Fa ya.length da], .agg #[.int .i64 bc, .slice Nc xc.length cc, .slice Fc yc.length dc], .bool q] w (RetM w 0 [] [] false) := by
  have HOA := Lib.hid hA
  have HNa := Lib.hid hNa
  have HNc := Lib.hid hNc
  clear hA hNa hNc
  have T0 := b_alloc (b_alloc (b_alloc (Below.refl w.heap.size w) (.cells #[.int .i64 ba, .slice Na xa.length ca, .slice Fa ya.length da] 25)) (.cells #[.int .i64 bc, .slice Nc xc.length cc, .slice Fc yc.length dc] 25)) (.cells #[.int .i64 0, .slice none 0 0, .slice none 0 0] 25)
  have M0 := ((BM.new w ba (.slice Na xa.length ca) (.slice Fa ya.length da)).below (b_alloc (Below.refl _ _) (.cells #[.int .i64 bc, .slice Nc xc.length cc, .slice Fc yc.length dc] 25)) (by simp)).below (b_alloc (Below.refl _ _) (.cells #[.int .i64 0, .slice none 0 0, .slice none 0 0] 25)) (by first | (simp; done) | (simp; omega))
  have M1 := (BM.new (w.alloc (.cells #[.int .i64 ba, .slice Na xa.length ca, .slice Fa ya.length da] 25)) bc (.slice Nc xc.length cc) (.slice Fc yc.length dc)).below (b_alloc (Below.refl _ _) (.cells #[.int .i64 0, .slice none 0 0, .slice none 0 0] 25)) (by simp)
  have M2 := BM.new ((w.alloc (.cells #[.int .i64 ba, .slice Na xa.length ca, .slice Fa ya.length da] 25)).alloc (.cells #[.int .i64 bc, .slice Nc xc.length cc, .slice Fc yc.length dc] 25)) 0 (.slice none 0 0) (.slice none 0 0)
  simp only [World.size_alloc] at M1 M2
  have HT0 := Lib.hid T0
  have HM0 := Lib.hid M0
  have HM1 := Lib.hid M1
  have HM2 := Lib.hid M2
  clear T0 M0 M1 M2
  go_enter Try.func22, Try.ntmps22
  go_wp2_with fail
  refine (impl_mok _ _ _ xa _ _ _ _ ((HNa.out.below HT0.out).more HT0.out.size) (by omega) (by omega)).mono ?_
  rw [HOA.out]
  rintro e w1 ⟨rfl, hb⟩
  have hz1' : w.heap.size + 1 + 1 < w1.heap.size := by have := hb.size; simp at this; omega
  have m0 := HM0.out.below hb (by first | (simp; done) | (simp; omega))
  have m1 := HM1.out.below hb (by first | (simp; done) | (simp; omega))
  have m2 := HM2.out.below hb (by simp)
  have HT1 := Lib.hid (b_step HT0.out hb)
  clear HT0 HM0 HM1 HM2 hb
  have HM0 := Lib.hid m0
  have HM1 := Lib.hid m1
  have HM2 := Lib.hid m2
  have q0 := m0.cell0
  have q1 := m0.cell1
  have q2 := m0.cell2
  have r0 := m1.cell0
  have r1 := m1.cell1
  have r2 := m1.cell2
  have s0 := m2.cell0
  have s1 := m2.cell1
  have s2 := m2.cell2
  have s3 := fun i => m2.frozen i
  clear m0 m1 m2
  go_wp2_with fail
  have M1f := ((HM2.out.set0 0).set1 (.slice none 0 0)).set2 (.slice none 0 0)
  have f0 := M1f.cell0
  have f1 := M1f.cell1
  have f2 := M1f.cell2
  exact bodyPost_ret (v := .tuple #[.agg #[.int .i64 0, .slice none 0 0, .slice none 0 0], .bool false]) (by simp [results, Try.results22, go_sem, f0, f1, f2]) rfl ⟨none, none, 0, 0, rfl, .inl rfl, .inl rfl, b_set (b_set (b_set HT1.out (by simp; omega) _) (by simp; omega) _) (by simp; omega) _⟩

set_option maxRecDepth 100000 in
set_option maxHeartbeats 2000000 in
theorem impl_j2 (ba bc : Int) (Na Fa Nc Fc : Option Addr) (xa xc : List Int) (ya yc : List Bool) (ca da cc dc : Nat) (q : Bool) (w : World) (hNa : RI w w.heap.size Na xa) (hNc : RI w w.heap.size Nc xc) (hla : xa.length ≤ 2097152) (hma : ya.length ≤ 2097152) (hlc : xc.length ≤ 2097152) (hmc : yc.length ≤ 2097152) (hA : mok ba xa ya.length = true) (hC : mok bc xc yc.length = false) :
    Calls Try.prog 22 #[.agg #[.int .i64 ba, .slice Na xa.length ca, .slice Fa ya.length da], .agg #[.int .i64 bc, .slice Nc xc.length cc, .slice Fc yc.length dc], .bool q] w (RetM w 0 [] [] false) := by
  have HOA := Lib.hid hA
  have HOC := Lib.hid hC
  have HNa := Lib.hid hNa
  have HNc := Lib.hid hNc
  clear hA hNa hNc hC
  have T0 := b_alloc (b_alloc (b_alloc (Below.refl w.heap.size w) (.cells #[.int .i64 ba, .slice Na xa.length ca, .slice Fa ya.length da] 25)) (.cells #[.int .i64 bc, .slice Nc xc.length cc, .slice Fc yc.length dc] 25)) (.cells #[.int .i64 0, .slice none 0 0, .slice none 0 0] 25)
  have M0 := ((BM.new w ba (.slice Na xa.length ca) (.slice Fa ya.length da)).below (b_alloc (Below.refl _ _) (.cells #[.int .i64 bc, .slice Nc xc.length cc, .slice Fc yc.length dc] 25)) (by simp)).below (b_alloc (Below.refl _ _) (.cells #[.int .i64 0, .slice none 0 0, .slice none 0 0] 25)) (by first | (simp; done) | (simp; omega))
  have M1 := (BM.new (w.alloc (.cells #[.int .i64 ba, .slice Na xa.length ca, .slice Fa ya.length da] 25)) bc (.slice Nc xc.length cc) (.slice Fc yc.length dc)).below (b_alloc (Below.refl _ _) (.cells #[.int .i64 0, .slice none 0 0, .slice none 0 0] 25)) (by simp)
  have M2 := BM.new ((w.alloc (.cells #[.int .i64 ba, .slice Na xa.length ca, .slice Fa ya.length da] 25)).alloc (.cells #[.int .i64 bc, .slice Nc xc.length cc, .slice Fc yc.length dc] 25)) 0 (.slice none 0 0) (.slice none 0 0)
  simp only [World.size_alloc] at M1 M2
  have HT0 := Lib.hid T0
  have HM0 := Lib.hid M0
  have HM1 := Lib.hid M1
  have HM2 := Lib.hid M2
  clear T0 M0 M1 M2
  go_enter Try.func22, Try.ntmps22
  go_wp2_with fail
  refine (impl_mok _ _ _ xa _ _ _ _ ((HNa.out.below HT0.out).more HT0.out.size) (by omega) (by omega)).mono ?_
  rw [HOA.out]
  rintro e w1 ⟨rfl, hb⟩
  have hz1' : w.heap.size + 1 + 1 < w1.heap.size := by have := hb.size; simp at this; omega
  have m0 := HM0.out.below hb (by first | (simp; done) | (simp; omega))
  have m1 := HM1.out.below hb (by first | (simp; done) | (simp; omega))
  have m2 := HM2.out.below hb (by simp)
  have HT1 := Lib.hid (b_step HT0.out hb)
  clear HT0 HM0 HM1 HM2 hb
  have HM0 := Lib.hid m0
  have HM1 := Lib.hid m1
  have HM2 := Lib.hid m2
  have q0 := m0.cell0
  have q1 := m0.cell1
  have q2 := m0.cell2
  have r0 := m1.cell0
  have r1 := m1.cell1
  have r2 := m1.cell2
  have s0 := m2.cell0
  have s1 := m2.cell1
  have s2 := m2.cell2
  have s3 := fun i => m2.frozen i
  clear m0 m1 m2
  go_wp2_with fail
  clear q0 q1 q2 r0 r1 r2 s0 s1 s2 s3
  refine (impl_mok _ _ _ xc _ _ _ _ ((HNc.out.below HT1.out).more HT1.out.size) (by omega) (by omega)).mono ?_
  rw [HOC.out]
  rintro e w2 ⟨rfl, hb⟩
  have hz2' : w.heap.size + 1 + 1 < w2.heap.size := by have := hb.size; omega
  have m0 := HM0.out.below hb (by omega)
  have m1 := HM1.out.below hb (by omega)
  have m2 := HM2.out.below hb (by omega)
  have HT2 := Lib.hid (b_step HT1.out hb)
  clear HT1 HM0 HM1 HM2 hb hz1'
  have HM2 := Lib.hid m2
  have q0 := m0.cell0
  have q1 := m0.cell1
  have q2 := m0.cell2
  have r0 := m1.cell0
  have r1 := m1.cell1
  have r2 := m1.cell2
  have s0 := m2.cell0
  have s1 := m2.cell1
  have s2 := m2.cell2
  have s3 := fun i => m2.frozen i
  clear m0 m1 m2
  go_wp2_with fail
  have M1f := ((HM2.out.set0 0).set1 (.slice none 0 0)).set2 (.slice none 0 0)
  have f0 := M1f.cell0
  have f1 := M1f.cell1
  have f2 := M1f.cell2
  exact bodyPost_ret (v := .tuple #[.agg #[.int .i64 0, .slice none 0 0, .slice none 0 0], .bool false]) (by simp [results, Try.results22, go_sem, f0, f1, f2]) rfl ⟨none, none, 0, 0, rfl, .inl rfl, .inl rfl, b_set (b_set (b_set HT2.out (by simp; omega) _) (by simp; omega) _) (by simp; omega) _⟩

set_option maxRecDepth 100000 in
set_option maxHeartbeats 2000000 in
theorem impl_j3 (ba bc : Int) (Na Fa Nc Fc : Option Addr) (xa xc : List Int) (ya yc : List Bool) (ca da cc dc : Nat) (q : Bool) (w : World) (hNa : RI w w.heap.size Na xa) (hNc : RI w w.heap.size Nc xc) (hla : xa.length ≤ 2097152) (hma : ya.length ≤ 2097152) (hlc : xc.length ≤ 2097152) (hmc : yc.length ≤ 2097152) (hA : mok ba xa ya.length = true) (hC : mok bc xc yc.length = true) (hd : ba ≠ bc) :
    Calls Try.prog 22 #[.agg #[.int .i64 ba, .slice Na xa.length ca, .slice Fa ya.length da], .agg #[.int .i64 bc, .slice Nc xc.length cc, .slice Fc yc.length dc], .bool q] w (RetM w 0 [] [] false) := by
  have hbe : (ba == bc) = false := by simp; exact hd
  have hbn : (ba != bc) = true := by simp; exact hd
  clear hd
  have HOA := Lib.hid hA
  have HOC := Lib.hid hC
  have HNa := Lib.hid hNa
  have HNc := Lib.hid hNc
  clear hA hNa hNc hC
  have T0 := b_alloc (b_alloc (b_alloc (Below.refl w.heap.size w) (.cells #[.int .i64 ba, .slice Na xa.length ca, .slice Fa ya.length da] 25)) (.cells #[.int .i64 bc, .slice Nc xc.length cc, .slice Fc yc.length dc] 25)) (.cells #[.int .i64 0, .slice none 0 0, .slice none 0 0] 25)
  have M0 := ((BM.new w ba (.slice Na xa.length ca) (.slice Fa ya.length da)).below (b_alloc (Below.refl _ _) (.cells #[.int .i64 bc, .slice Nc xc.length cc, .slice Fc yc.length dc] 25)) (by simp)).below (b_alloc (Below.refl _ _) (.cells #[.int .i64 0, .slice none 0 0, .slice none 0 0] 25)) (by first | (simp; done) | (simp; omega))
  have M1 := (BM.new (w.alloc (.cells #[.int .i64 ba, .slice Na xa.length ca, .slice Fa ya.length da] 25)) bc (.slice Nc xc.length cc) (.slice Fc yc.length dc)).below (b_alloc (Below.refl _ _) (.cells #[.int .i64 0, .slice none 0 0, .slice none 0 0] 25)) (by simp)
  have M2 := BM.new ((w.alloc (.cells #[.int .i64 ba, .slice Na xa.length ca, .slice Fa ya.length da] 25)).alloc (.cells #[.int .i64 bc, .slice Nc xc.length cc, .slice Fc yc.length dc] 25)) 0 (.slice none 0 0) (.slice none 0 0)
  simp only [World.size_alloc] at M1 M2
  have HT0 := Lib.hid T0
  have HM0 := Lib.hid M0
  have HM1 := Lib.hid M1
  have HM2 := Lib.hid M2
  clear T0 M0 M1 M2
  go_enter Try.func22, Try.ntmps22
  go_wp2_with fail
  refine (impl_mok _ _ _ xa _ _ _ _ ((HNa.out.below HT0.out).more HT0.out.size) (by omega) (by omega)).mono ?_
  rw [HOA.out]
  rintro e w1 ⟨rfl, hb⟩
  have hz1' : w.heap.size + 1 + 1 < w1.heap.size := by have := hb.size; simp at this; omega
  have m0 := HM0.out.below hb (by first | (simp; done) | (simp; omega))
  have m1 := HM1.out.below hb (by first | (simp; done) | (simp; omega))
  have m2 := HM2.out.below hb (by simp)
  have HT1 := Lib.hid (b_step HT0.out hb)
  clear HT0 HM0 HM1 HM2 hb
  have HM0 := Lib.hid m0
  have HM1 := Lib.hid m1
  have HM2 := Lib.hid m2
  have q0 := m0.cell0
  have q1 := m0.cell1
  have q2 := m0.cell2
  have r0 := m1.cell0
  have r1 := m1.cell1
  have r2 := m1.cell2
  have s0 := m2.cell0
  have s1 := m2.cell1
  have s2 := m2.cell2
  have s3 := fun i => m2.frozen i
  clear m0 m1 m2
  go_wp2_with fail
  clear q0 q1 q2 r0 r1 r2 s0 s1 s2 s3
  refine (impl_mok _ _ _ xc _ _ _ _ ((HNc.out.below HT1.out).more HT1.out.size) (by omega) (by omega)).mono ?_
  rw [HOC.out]
  rintro e w2 ⟨rfl, hb⟩
  have hz2' : w.heap.size + 1 + 1 < w2.heap.size := by have := hb.size; omega
  have m0 := HM0.out.below hb (by omega)
  have m1 := HM1.out.below hb (by omega)
  have m2 := HM2.out.below hb (by omega)
  have HT2 := Lib.hid (b_step HT1.out hb)
  clear HT1 HM0 HM1 HM2 hb hz1'
  have HM2 := Lib.hid m2
  have q0 := m0.cell0
  have q1 := m0.cell1
  have q2 := m0.cell2
  have r0 := m1.cell0
  have r1 := m1.cell1
  have r2 := m1.cell2
  have s0 := m2.cell0
  have s1 := m2.cell1
  have s2 := m2.cell2
  have s3 := fun i => m2.frozen i
  clear m0 m1 m2
  go_wp2_with fail
  have M1f := ((HM2.out.set0 0).set1 (.slice none 0 0)).set2 (.slice none 0 0)
  have f0 := M1f.cell0
  have f1 := M1f.cell1
  have f2 := M1f.cell2
  exact bodyPost_ret (v := .tuple #[.agg #[.int .i64 0, .slice none 0 0, .slice none 0 0], .bool false]) (by simp [results, Try.results22, go_sem, f0, f1, f2]) rfl ⟨none, none, 0, 0, rfl, .inl rfl, .inl rfl, b_set (b_set (b_set HT2.out (by simp; omega) _) (by simp; omega) _) (by simp; omega) _⟩

set_option maxRecDepth 100000 in
set_option maxHeartbeats 2000000 in
theorem impl_j4 (ba bc : Int) (Na Fa Nc Fc : Option Addr) (xa xc : List Int) (ya yc : List Bool) (ca da cc dc : Nat) (q : Bool) (w : World) (hNa : RI w w.heap.size Na xa) (hNc : RI w w.heap.size Nc xc) (hla : xa.length ≤ 2097152) (hma : ya.length ≤ 2097152) (hlc : xc.length ≤ 2097152) (hmc : yc.length ≤ 2097152) (hA : mok ba xa ya.length = true) (hC : mok bc xc yc.length = true) (hd : ba = bc) (hn : 144 < ya.length * yc.length) :
    Calls Try.prog 22 #[.agg #[.int .i64 ba, .slice Na xa.length ca, .slice Fa ya.length da], .agg #[.int .i64 bc, .slice Nc xc.length cc, .slice Fc yc.length dc], .bool q] w (RetM w 0 [] [] false) := by
  subst hd
  have l1 : ya.length ≤ 144 := by have h := mok_iff.1 hA; omega
  have l2 : yc.length ≤ 144 := by have h := mok_iff.1 hC; omega
  have hn3 : ya.length * yc.length ≤ 144 * 144 := Nat.mul_le_mul l1 l2
  have hn2 : (144 : Int) < (ya.length : Int) * (yc.length : Int) := by rw [← Int.natCast_mul]; exact Int.ofNat_lt.2 hn
  have hn4 : (ya.length : Int) * (yc.length : Int) ≤ 20736 := by rw [← Int.natCast_mul]; exact Int.ofNat_le.2 hn3
  have hd : decide ((144 : Int) < (ya.length : Int) * (yc.length : Int)) = true := by simp; exact hn2
  clear hn hn3
  have HOA := Lib.hid hA
  have HOC := Lib.hid hC
  have HNa := Lib.hid hNa
  have HNc := Lib.hid hNc
  clear hA hNa hNc hC
  have T0 := b_alloc (b_alloc (b_alloc (Below.refl w.heap.size w) (.cells #[.int .i64 ba, .slice Na xa.length ca, .slice Fa ya.length da] 25)) (.cells #[.int .i64 ba, .slice Nc xc.length cc, .slice Fc yc.length dc] 25)) (.cells #[.int .i64 0, .slice none 0 0, .slice none 0 0] 25)
  have M0 := ((BM.new w ba (.slice Na xa.length ca) (.slice Fa ya.length da)).below (b_alloc (Below.refl _ _) (.cells #[.int .i64 ba, .slice Nc xc.length cc, .slice Fc yc.length dc] 25)) (by simp)).below (b_alloc (Below.refl _ _) (.cells #[.int .i64 0, .slice none 0 0, .slice none 0 0] 25)) (by first | (simp; done) | (simp; omega))
  have M1 := (BM.new (w.alloc (.cells #[.int .i64 ba, .slice Na xa.length ca, .slice Fa ya.length da] 25)) ba (.slice Nc xc.length cc) (.slice Fc yc.length dc)).below (b_alloc (Below.refl _ _) (.cells #[.int .i64 0, .slice none 0 0, .slice none 0 0] 25)) (by simp)
  have M2 := BM.new ((w.alloc (.cells #[.int .i64 ba, .slice Na xa.length ca, .slice Fa ya.length da] 25)).alloc (.cells #[.int .i64 ba, .slice Nc xc.length cc, .slice Fc yc.length dc] 25)) 0 (.slice none 0 0) (.slice none 0 0)
  simp only [World.size_alloc] at M1 M2
  have HT0 := Lib.hid T0
  have HM0 := Lib.hid M0
  have HM1 := Lib.hid M1
  have HM2 := Lib.hid M2
  clear T0 M0 M1 M2
  go_enter Try.func22, Try.ntmps22
  go_wp2_with fail
  refine (impl_mok _ _ _ xa _ _ _ _ ((HNa.out.below HT0.out).more HT0.out.size) (by omega) (by omega)).mono ?_
  rw [HOA.out]
  rintro e w1 ⟨rfl, hb⟩
  have hz1' : w.heap.size + 1 + 1 < w1.heap.size := by have := hb.size; simp at this; omega
  have m0 := HM0.out.below hb (by first | (simp; done) | (simp; omega))
  have m1 := HM1.out.below hb (by first | (simp; done) | (simp; omega))
  have m2 := HM2.out.below hb (by simp)
  have HT1 := Lib.hid (b_step HT0.out hb)
  clear HT0 HM0 HM1 HM2 hb
  have HM0 := Lib.hid m0
  have HM1 := Lib.hid m1
  have HM2 := Lib.hid m2
  have q0 := m0.cell0
  have q1 := m0.cell1
  have q2 := m0.cell2
  have r0 := m1.cell0
  have r1 := m1.cell1
  have r2 := m1.cell2
  have s0 := m2.cell0
  have s1 := m2.cell1
  have s2 := m2.cell2
  have s3 := fun i => m2.frozen i
  clear m0 m1 m2
  go_wp2_with fail
  clear q0 q1 q2 r0 r1 r2 s0 s1 s2 s3
  refine (impl_mok _ _ _ xc _ _ _ _ ((HNc.out.below HT1.out).more HT1.out.size) (by omega) (by omega)).mono ?_
  rw [HOC.out]
  rintro e w2 ⟨rfl, hb⟩
  have hz2' : w.heap.size + 1 + 1 < w2.heap.size := by have := hb.size; omega
  have m0 := HM0.out.below hb (by omega)
  have m1 := HM1.out.below hb (by omega)
  have m2 := HM2.out.below hb (by omega)
  have HT2 := Lib.hid (b_step HT1.out hb)
  clear HT1 HM0 HM1 HM2 hb hz1'
  have HM2 := Lib.hid m2
  have q0 := m0.cell0
  have q1 := m0.cell1
  have q2 := m0.cell2
  have r0 := m1.cell0
  have r1 := m1.cell1
  have r2 := m1.cell2
  have s0 := m2.cell0
  have s1 := m2.cell1
  have s2 := m2.cell2
  have s3 := fun i => m2.frozen i
  clear m0 m1 m2
  go_wp2_with fail
  have M1f := ((HM2.out.set0 0).set1 (.slice none 0 0)).set2 (.slice none 0 0)
  have f0 := M1f.cell0
  have f1 := M1f.cell1
  have f2 := M1f.cell2
  exact bodyPost_ret (v := .tuple #[.agg #[.int .i64 0, .slice none 0 0, .slice none 0 0], .bool false]) (by simp [results, Try.results22, go_sem, f0, f1, f2]) rfl ⟨none, none, 0, 0, rfl, .inl rfl, .inl rfl, b_set (b_set (b_set HT2.out (by simp; omega) _) (by simp; omega) _) (by simp; omega) _⟩

set_option maxRecDepth 100000 in
set_option maxHeartbeats 2000000 in
theorem spec_j1 (ba bc : Int) (Na Fa Nc Fc : Option Addr) (xa xc : List Int) (ya yc : List Bool) (ca da cc dc : Nat) (q : Bool) (w : World) (hNa : RI w w.heap.size Na xa) (hNc : RI w w.heap.size Nc xc) (hla : xa.length ≤ 2097152) (hma : ya.length ≤ 2097152) (hlc : xc.length ≤ 2097152) (hmc : yc.length ≤ 2097152) (hA : mok ba xa ya.length = false) :
    Calls Try.prog 21 #[.agg #[.int .i64 ba, .slice Na xa.length ca, .slice Fa ya.length da], .agg #[.int .i64 bc, .slice Nc xc.length cc, .slice Fc yc.length dc], .bool q] w (RetM w 0 [] [] false) := by
  have HOA := Lib.hid hA
  have HNa := Lib.hid hNa
  have HNc := Lib.hid hNc
  clear hA hNa hNc
  have T0 := b_alloc (b_alloc (b_alloc (Below.refl w.heap.size w) (.cells #[.int .i64 ba, .slice Na xa.length ca, .slice Fa ya.length da] 25)) (.cells #[.int .i64 bc, .slice Nc xc.length cc, .slice Fc yc.length dc] 25)) (.cells #[.int .i64 0, .slice none 0 0, .slice none 0 0] 25)
  have M0 := ((BM.new w ba (.slice Na xa.length ca) (.slice Fa ya.length da)).below (b_alloc (Below.refl _ _) (.cells #[.int .i64 bc, .slice Nc xc.length cc, .slice Fc yc.length dc] 25)) (by simp)).below (b_alloc (Below.refl _ _) (.cells #[.int .i64 0, .slice none 0 0, .slice none 0 0] 25)) (by first | (simp; done) | (simp; omega))
  have M1 := (BM.new (w.alloc (.cells #[.int .i64 ba, .slice Na xa.length ca, .slice Fa ya.length da] 25)) bc (.slice Nc xc.length cc) (.slice Fc yc.length dc)).below (b_alloc (Below.refl _ _) (.cells #[.int .i64 0, .slice none 0 0, .slice none 0 0] 25)) (by simp)
  have M2 := BM.new ((w.alloc (.cells #[.int .i64 ba, .slice Na xa.length ca, .slice Fa ya.length da] 25)).alloc (.cells #[.int .i64 bc, .slice Nc xc.length cc, .slice Fc yc.length dc] 25)) 0 (.slice none 0 0) (.slice none 0 0)
  simp only [World.size_alloc] at M1 M2
  have HT0 := Lib.hid T0
  have HM0 := Lib.hid M0
  have HM1 := Lib.hid M1
  have HM2 := Lib.hid M2
  clear T0 M0 M1 M2
  go_enter Try.func21, Try.ntmps21
  go_wp2_with fail
  refine (spec_mok _ _ _ xa _ _ _ _ ((HNa.out.below HT0.out).more HT0.out.size) (by omega) (by omega)).mono ?_
  rw [HOA.out]
  rintro e w1 ⟨rfl, hb⟩
  have hz1' : w.heap.size + 1 + 1 < w1.heap.size := by have := hb.size; simp at this; omega
  have m0 := HM0.out.below hb (by first | (simp; done) | (simp; omega))
  have m1 := HM1.out.below hb (by first | (simp; done) | (simp; omega))
  have m2 := HM2.out.below hb (by simp)
  have HT1 := Lib.hid (b_step HT0.out hb)
  clear HT0 HM0 HM1 HM2 hb
  have HM0 := Lib.hid m0
  have HM1 := Lib.hid m1
  have HM2 := Lib.hid m2
  have q0 := m0.cell0
  have q1 := m0.cell1
  have q2 := m0.cell2
  have r0 := m1.cell0
  have r1 := m1.cell1
  have r2 := m1.cell2
  have s0 := m2.cell0
  have s1 := m2.cell1
  have s2 := m2.cell2
  have s3 := fun i => m2.frozen i
  clear m0 m1 m2
  go_wp2_with fail
  have M1f := ((HM2.out.set0 0).set1 (.slice none 0 0)).set2 (.slice none 0 0)
  have f0 := M1f.cell0
  have f1 := M1f.cell1
  have f2 := M1f.cell2
  exact bodyPost_ret (v := .tuple #[.agg #[.int .i64 0, .slice none 0 0, .slice none 0 0], .bool false]) (by simp [results, Try.results21, go_sem, f0, f1, f2]) rfl ⟨none, none, 0, 0, rfl, .inl rfl, .inl rfl, b_set (b_set (b_set HT1.out (by simp; omega) _) (by simp; omega) _) (by simp; omega) _⟩

set_option maxRecDepth 100000 in
set_option maxHeartbeats 2000000 in
theorem spec_j2 (ba bc : Int) (Na Fa Nc Fc : Option Addr) (xa xc : List Int) (ya yc : List Bool) (ca da cc dc : Nat) (q : Bool) (w : World) (hNa : RI w w.heap.size Na xa) (hNc : RI w w.heap.size Nc xc) (hla : xa.length ≤ 2097152) (hma : ya.length ≤ 2097152) (hlc : xc.length ≤ 2097152) (hmc : yc.length ≤ 2097152) (hA : mok ba xa ya.length = true) (hC : mok bc xc yc.length = false) :
    Calls Try.prog 21 #[.agg #[.int .i64 ba, .slice Na xa.length ca, .slice Fa ya.length da], .agg #[.int .i64 bc, .slice Nc xc.length cc, .slice Fc yc.length dc], .bool q] w (RetM w 0 [] [] false) := by
  have HOA := Lib.hid hA
  have HOC := Lib.hid hC
  have HNa := Lib.hid hNa
  have HNc := Lib.hid hNc
  clear hA hNa hNc hC
  have T0 := b_alloc (b_alloc (b_alloc (Below.refl w.heap.size w) (.cells #[.int .i64 ba, .slice Na xa.length ca, .slice Fa ya.length da] 25)) (.cells #[.int .i64 bc, .slice Nc xc.length cc, .slice Fc yc.length dc] 25)) (.cells #[.int .i64 0, .slice none 0 0, .slice none 0 0] 25)
  have M0 := ((BM.new w ba (.slice Na xa.length ca) (.slice Fa ya.length da)).below (b_alloc (Below.refl _ _) (.cells #[.int .i64 bc, .slice Nc xc.length cc, .slice Fc yc.length dc] 25)) (by simp)).below (b_alloc (Below.refl _ _) (.cells #[.int .i64 0, .slice none 0 0, .slice none 0 0] 25)) (by first | (simp; done) | (simp; omega))
  have M1 := (BM.new (w.alloc (.cells #[.int .i64 ba, .slice Na xa.length ca, .slice Fa ya.length da] 25)) bc (.slice Nc xc.length cc) (.slice Fc yc.length dc)).below (b_alloc (Below.refl _ _) (.cells #[.int .i64 0, .slice none 0 0, .slice none 0 0] 25)) (by simp)
  have M2 := BM.new ((w.alloc (.cells #[.int .i64 ba, .slice Na xa.length ca, .slice Fa ya.length da] 25)).alloc (.cells #[.int .i64 bc, .slice Nc xc.length cc, .slice Fc yc.length dc] 25)) 0 (.slice none 0 0) (.slice none 0 0)
  simp only [World.size_alloc] at M1 M2
  have HT0 := Lib.hid T0
  have HM0 := Lib.hid M0
  have HM1 := Lib.hid M1
  have HM2 := Lib.hid M2
  clear T0 M0 M1 M2
  go_enter Try.func21, Try.ntmps21
  go_wp2_with fail
  refine (spec_mok _ _ _ xa _ _ _ _ ((HNa.out.below HT0.out).more HT0.out.size) (by omega) (by omega)).mono ?_
  rw [HOA.out]
  rintro e w1 ⟨rfl, hb⟩
  have hz1' : w.heap.size + 1 + 1 < w1.heap.size := by have := hb.size; simp at this; omega
  have m0 := HM0.out.below hb (by first | (simp; done) | (simp; omega))
  have m1 := HM1.out.below hb (by first | (simp; done) | (simp; omega))
  have m2 := HM2.out.below hb (by simp)
  have HT1 := Lib.hid (b_step HT0.out hb)
  clear HT0 HM0 HM1 HM2 hb
  have HM0 := Lib.hid m0
  have HM1 := Lib.hid m1
  have HM2 := Lib.hid m2
  have q0 := m0.cell0
  have q1 := m0.cell1
  have q2 := m0.cell2
  have r0 := m1.cell0
  have r1 := m1.cell1
  have r2 := m1.cell2
  have s0 := m2.cell0
  have s1 := m2.cell1
  have s2 := m2.cell2
  have s3 := fun i => m2.frozen i
  clear m0 m1 m2
  go_wp2_with fail
  clear q0 q1 q2 r0 r1 r2 s0 s1 s2 s3
  refine (spec_mok _ _ _ xc _ _ _ _ ((HNc.out.below HT1.out).more HT1.out.size) (by omega) (by omega)).mono ?_
  rw [HOC.out]
  rintro e w2 ⟨rfl, hb⟩
  have hz2' : w.heap.size + 1 + 1 < w2.heap.size := by have := hb.size; omega
  have m0 := HM0.out.below hb (by omega)
  have m1 := HM1.out.below hb (by omega)
  have m2 := HM2.out.below hb (by omega)
  have HT2 := Lib.hid (b_step HT1.out hb)
  clear HT1 HM0 HM1 HM2 hb hz1'
  have HM2 := Lib.hid m2
  have q0 := m0.cell0
  have q1 := m0.cell1
  have q2 := m0.cell2
  have r0 := m1.cell0
  have r1 := m1.cell1
  have r2 := m1.cell2
  have s0 := m2.cell0
  have s1 := m2.cell1
  have s2 := m2.cell2
  have s3 := fun i => m2.frozen i
  clear m0 m1 m2
  go_wp2_with fail
  have M1f := ((HM2.out.set0 0).set1 (.slice none 0 0)).set2 (.slice none 0 0)
  have f0 := M1f.cell0
  have f1 := M1f.cell1
  have f2 := M1f.cell2
  exact bodyPost_ret (v := .tuple #[.agg #[.int .i64 0, .slice none 0 0, .slice none 0 0], .bool false]) (by simp [results, Try.results21, go_sem, f0, f1, f2]) rfl ⟨none, none, 0, 0, rfl, .inl rfl, .inl rfl, b_set (b_set (b_set HT2.out (by simp; omega) _) (by simp; omega) _) (by simp; omega) _⟩

set_option maxRecDepth 100000 in
set_option maxHeartbeats 2000000 in
theorem spec_j3 (ba bc : Int) (Na Fa Nc Fc : Option Addr) (xa xc : List Int) (ya yc : List Bool) (ca da cc dc : Nat) (q : Bool) (w : World) (hNa : RI w w.heap.size Na xa) (hNc : RI w w.heap.size Nc xc) (hla : xa.length ≤ 2097152) (hma : ya.length ≤ 2097152) (hlc : xc.length ≤ 2097152) (hmc : yc.length ≤ 2097152) (hA : mok ba xa ya.length = true) (hC : mok bc xc yc.length = true) (hd : ba ≠ bc) :
    Calls Try.prog 21 #[.agg #[.int .i64 ba, .slice Na xa.length ca, .slice Fa ya.length da], .agg #[.int .i64 bc, .slice Nc xc.length cc, .slice Fc yc.length dc], .bool q] w (RetM w 0 [] [] false) := by
  have hbe : (ba == bc) = false := by simp; exact hd
  have hbn : (ba != bc) = true := by simp; exact hd
  clear hd
  have HOA := Lib.hid hA
  have HOC := Lib.hid hC
  have HNa := Lib.hid hNa
  have HNc := Lib.hid hNc
  clear hA hNa hNc hC
  have T0 := b_alloc (b_alloc (b_alloc (Below.refl w.heap.size w) (.cells #[.int .i64 ba, .slice Na xa.length ca, .slice Fa ya.length da] 25)) (.cells #[.int .i64 bc, .slice Nc xc.length cc, .slice Fc yc.length dc] 25)) (.cells #[.int .i64 0, .slice none 0 0, .slice none 0 0] 25)
  have M0 := ((BM.new w ba (.slice Na xa.length ca) (.slice Fa ya.length da)).below (b_alloc (Below.refl _ _) (.cells #[.int .i64 bc, .slice Nc xc.length cc, .slice Fc yc.length dc] 25)) (by simp)).below (b_alloc (Below.refl _ _) (.cells #[.int .i64 0, .slice none 0 0, .slice none 0 0] 25)) (by first | (simp; done) | (simp; omega))
  have M1 := (BM.new (w.alloc (.cells #[.int .i64 ba, .slice Na xa.length ca, .slice Fa ya.length da] 25)) bc (.slice Nc xc.length cc) (.slice Fc yc.length dc)).below (b_alloc (Below.refl _ _) (.cells #[.int .i64 0, .slice none 0 0, .slice none 0 0] 25)) (by simp)
  have M2 := BM.new ((w.alloc (.cells #[.int .i64 ba, .slice Na xa.length ca, .slice Fa ya.length da] 25)).alloc (.cells #[.int .i64 bc, .slice Nc xc.length cc, .slice Fc yc.length dc] 25)) 0 (.slice none 0 0) (.slice none 0 0)
  simp only [World.size_alloc] at M1 M2
  have HT0 := Lib.hid T0
  have HM0 := Lib.hid M0
  have HM1 := Lib.hid M1
  have HM2 := Lib.hid M2
  clear T0 M0 M1 M2
  go_enter Try.func21, Try.ntmps21
  go_wp2_with fail
  refine (spec_mok _ _ _ xa _ _ _ _ ((HNa.out.below HT0.out).more HT0.out.size) (by omega) (by omega)).mono ?_
  rw [HOA.out]
  rintro e w1 ⟨rfl, hb⟩
  have hz1' : w.heap.size + 1 + 1 < w1.heap.size := by have := hb.size; simp at this; omega
  have m0 := HM0.out.below hb (by first | (simp; done) | (simp; omega))
  have m1 := HM1.out.below hb (by first | (simp; done) | (simp; omega))
  have m2 := HM2.out.below hb (by simp)
  have HT1 := Lib.hid (b_step HT0.out hb)
  clear HT0 HM0 HM1 HM2 hb
  have HM0 := Lib.hid m0
  have HM1 := Lib.hid m1
  have HM2 := Lib.hid m2
  have q0 := m0.cell0
  have q1 := m0.cell1
  have q2 := m0.cell2
  have r0 := m1.cell0
  have r1 := m1.cell1
  have r2 := m1.cell2
  have s0 := m2.cell0
  have s1 := m2.cell1
  have s2 := m2.cell2
  have s3 := fun i => m2.frozen i
  clear m0 m1 m2
  go_wp2_with fail
  clear q0 q1 q2 r0 r1 r2 s0 s1 s2 s3
  refine (spec_mok _ _ _ xc _ _ _ _ ((HNc.out.below HT1.out).more HT1.out.size) (by omega) (by omega)).mono ?_
  rw [HOC.out]
  rintro e w2 ⟨rfl, hb⟩
  have hz2' : w.heap.size + 1 + 1 < w2.heap.size := by have := hb.size; omega
  have m0 := HM0.out.below hb (by omega)
  have m1 := HM1.out.below hb (by omega)
  have m2 := HM2.out.below hb (by omega)
  have HT2 := Lib.hid (b_step HT1.out hb)
  clear HT1 HM0 HM1 HM2 hb hz1'
  have HM2 := Lib.hid m2
  have q0 := m0.cell0
  have q1 := m0.cell1
  have q2 := m0.cell2
  have r0 := m1.cell0
  have r1 := m1.cell1
  have r2 := m1.cell2
  have s0 := m2.cell0
  have s1 := m2.cell1
  have s2 := m2.cell2
  have s3 := fun i => m2.frozen i
  clear m0 m1 m2
  go_wp2_with fail
  have M1f := ((HM2.out.set0 0).set1 (.slice none 0 0)).set2 (.slice none 0 0)
  have f0 := M1f.cell0
  have f1 := M1f.cell1
  have f2 := M1f.cell2
  exact bodyPost_ret (v := .tuple #[.agg #[.int .i64 0, .slice none 0 0, .slice none 0 0], .bool false]) (by simp [results, Try.results21, go_sem, f0, f1, f2]) rfl ⟨none, none, 0, 0, rfl, .inl rfl, .inl rfl, b_set (b_set (b_set HT2.out (by simp; omega) _) (by simp; omega) _) (by simp; omega) _⟩

set_option maxRecDepth 100000 in
set_option maxHeartbeats 2000000 in
theorem spec_j4 (ba bc : Int) (Na Fa Nc Fc : Option Addr) (xa xc : List Int) (ya yc : List Bool) (ca da cc dc : Nat) (q : Bool) (w : World) (hNa : RI w w.heap.size Na xa) (hNc : RI w w.heap.size Nc xc) (hla : xa.length ≤ 2097152) (hma : ya.length ≤ 2097152) (hlc : xc.length ≤ 2097152) (hmc : yc.length ≤ 2097152) (hA : mok ba xa ya.length = true) (hC : mok bc xc yc.length = true) (hd : ba = bc) (hn : 144 < ya.length * yc.length) :
    Calls Try.prog 21 #[.agg #[.int .i64 ba, .slice Na xa.length ca, .slice Fa ya.length da], .agg #[.int .i64 bc, .slice Nc xc.length cc, .slice Fc yc.length dc], .bool q] w (RetM w 0 [] [] false) := by
  subst hd
  have l1 : ya.length ≤ 144 := by have h := mok_iff.1 hA; omega
  have l2 : yc.length ≤ 144 := by have h := mok_iff.1 hC; omega
  have hn3 : ya.length * yc.length ≤ 144 * 144 := Nat.mul_le_mul l1 l2
  have hn2 : (144 : Int) < (ya.length : Int) * (yc.length : Int) := by rw [← Int.natCast_mul]; exact Int.ofNat_lt.2 hn
  have hn4 : (ya.length : Int) * (yc.length : Int) ≤ 20736 := by rw [← Int.natCast_mul]; exact Int.ofNat_le.2 hn3
  have hd : decide ((144 : Int) < (ya.length : Int) * (yc.length : Int)) = true := by simp; exact hn2
  clear hn hn3
  have HOA := Lib.hid hA
  have HOC := Lib.hid hC
  have HNa := Lib.hid hNa
  have HNc := Lib.hid hNc
  clear hA hNa hNc hC
  have T0 := b_alloc (b_alloc (b_alloc (Below.refl w.heap.size w) (.cells #[.int .i64 ba, .slice Na xa.length ca, .slice Fa ya.length da] 25)) (.cells #[.int .i64 ba, .slice Nc xc.length cc, .slice Fc yc.length dc] 25)) (.cells #[.int .i64 0, .slice none 0 0, .slice none 0 0] 25)
  have M0 := ((BM.new w ba (.slice Na xa.length ca) (.slice Fa ya.length da)).below (b_alloc (Below.refl _ _) (.cells #[.int .i64 ba, .slice Nc xc.length cc, .slice Fc yc.length dc] 25)) (by simp)).below (b_alloc (Below.refl _ _) (.cells #[.int .i64 0, .slice none 0 0, .slice none 0 0] 25)) (by first | (simp; done) | (simp; omega))
  have M1 := (BM.new (w.alloc (.cells #[.int .i64 ba, .slice Na xa.length ca, .slice Fa ya.length da] 25)) ba (.slice Nc xc.length cc) (.slice Fc yc.length dc)).below (b_alloc (Below.refl _ _) (.cells #[.int .i64 0, .slice none 0 0, .slice none 0 0] 25)) (by simp)
  have M2 := BM.new ((w.alloc (.cells #[.int .i64 ba, .slice Na xa.length ca, .slice Fa ya.length da] 25)).alloc (.cells #[.int .i64 ba, .slice Nc xc.length cc, .slice Fc yc.length dc] 25)) 0 (.slice none 0 0) (.slice none 0 0)
  simp only [World.size_alloc] at M1 M2
  have HT0 := Lib.hid T0
  have HM0 := Lib.hid M0
  have HM1 := Lib.hid M1
  have HM2 := Lib.hid M2
  clear T0 M0 M1 M2
  go_enter Try.func21, Try.ntmps21
  go_wp2_with fail
  refine (spec_mok _ _ _ xa _ _ _ _ ((HNa.out.below HT0.out).more HT0.out.size) (by omega) (by omega)).mono ?_
  rw [HOA.out]
  rintro e w1 ⟨rfl, hb⟩
  have hz1' : w.heap.size + 1 + 1 < w1.heap.size := by have := hb.size; simp at this; omega
  have m0 := HM0.out.below hb (by first | (simp; done) | (simp; omega))
  have m1 := HM1.out.below hb (by first | (simp; done) | (simp; omega))
  have m2 := HM2.out.below hb (by simp)
  have HT1 := Lib.hid (b_step HT0.out hb)
  clear HT0 HM0 HM1 HM2 hb
  have HM0 := Lib.hid m0
  have HM1 := Lib.hid m1
  have HM2 := Lib.hid m2
  have q0 := m0.cell0
  have q1 := m0.cell1
  have q2 := m0.cell2
  have r0 := m1.cell0
  have r1 := m1.cell1
  have r2 := m1.cell2
  have s0 := m2.cell0
  have s1 := m2.cell1
  have s2 := m2.cell2
  have s3 := fun i => m2.frozen i
  clear m0 m1 m2
  go_wp2_with fail
  clear q0 q1 q2 r0 r1 r2 s0 s1 s2 s3
  refine (spec_mok _ _ _ xc _ _ _ _ ((HNc.out.below HT1.out).more HT1.out.size) (by omega) (by omega)).mono ?_
  rw [HOC.out]
  rintro e w2 ⟨rfl, hb⟩
  have hz2' : w.heap.size + 1 + 1 < w2.heap.size := by have := hb.size; omega
  have m0 := HM0.out.below hb (by omega)
  have m1 := HM1.out.below hb (by omega)
  have m2 := HM2.out.below hb (by omega)
  have HT2 := Lib.hid (b_step HT1.out hb)
  clear HT1 HM0 HM1 HM2 hb hz1'
  have HM2 := Lib.hid m2
  have q0 := m0.cell0
  have q1 := m0.cell1
  have q2 := m0.cell2
  have r0 := m1.cell0
  have r1 := m1.cell1
  have r2 := m1.cell2
  have s0 := m2.cell0
  have s1 := m2.cell1
  have s2 := m2.cell2
  have s3 := fun i => m2.frozen i
  clear m0 m1 m2
  go_wp2_with fail
  have M1f := ((HM2.out.set0 0).set1 (.slice none 0 0)).set2 (.slice none 0 0)
  have f0 := M1f.cell0
  have f1 := M1f.cell1
  have f2 := M1f.cell2
  exact bodyPost_ret (v := .tuple #[.agg #[.int .i64 0, .slice none 0 0, .slice none 0 0], .bool false]) (by simp [results, Try.results21, go_sem, f0, f1, f2]) rfl ⟨none, none, 0, 0, rfl, .inl rfl, .inl rfl, b_set (b_set (b_set HT2.out (by simp; omega) _) (by simp; omega) _) (by simp; omega) _⟩

/-- The answer's parts. -/
def jG (ba bc : Int) (xa xc : List Int) (na nc : Nat) : Prop := mok ba xa na = true ∧ mok bc xc nc = true ∧ ba = bc ∧ na * nc ≤ 144
noncomputable def jB (ba bc : Int) (xa xc : List Int) (na nc : Nat) : Int := @ite _ (jG ba bc xa xc na nc) (Classical.propDecidable _) ba 0
noncomputable def jX (ba bc : Int) (xa xc : List Int) (na nc : Nat) : List Int := @ite _ (jG ba bc xa xc na nc) (Classical.propDecidable _) (jL xa xc ba.toNat nc na 0 0) []
noncomputable def jY (ba bc : Int) (xa xc : List Int) (ya yc : List Bool) (q : Bool) : List Bool := @ite _ (jG ba bc xa xc ya.length yc.length) (Classical.propDecidable _) (fL q ya yc yc.length ya.length 0) []
noncomputable def jQ (ba bc : Int) (xa xc : List Int) (na nc : Nat) : Bool := @decide (jG ba bc xa xc na nc) (Classical.propDecidable _)
theorem j_len (ba bc : Int) (xa xc : List Int) (ya yc : List Bool) (q : Bool) : (jX ba bc xa xc ya.length yc.length).length ≤ 2000 ∧ (jY ba bc xa xc ya yc q).length ≤ 2000 := by
  unfold jX jY
  by_cases h : jG ba bc xa xc ya.length yc.length
  · rw [if_pos h, if_pos h]
    obtain ⟨h1, h2, h3, h4⟩ := h
    have hb := (mok_iff.1 h1).2.1
    constructor
    · have : ya.length * (yc.length * ba.toNat) ≤ 144 * 10 := by rw [← Nat.mul_assoc]; exact Nat.mul_le_mul h4 (by omega)
      simp only [jL, jR, jU, List.length_append, len_jS, List.range_zero, List.map_nil, List.length_nil]
      omega
    · simp only [fL, fU, List.length_append, len_fS, List.range_zero, List.map_nil, List.length_nil]
      omega
  · rw [if_neg h, if_neg h]; simp

theorem impl_join (ba bc : Int) (Na Fa Nc Fc : Option Addr) (xa xc : List Int) (ya yc : List Bool) (ca da cc dc : Nat) (q : Bool) (w : World) (hNa : RI w w.heap.size Na xa) (hFa : RB w w.heap.size Fa ya) (hNc : RI w w.heap.size Nc xc) (hFc : RB w w.heap.size Fc yc) (hla : xa.length ≤ 2097152) (hma : ya.length ≤ 2097152) (hlc : xc.length ≤ 2097152) (hmc : yc.length ≤ 2097152) :
    Calls Try.prog 22 #[.agg #[.int .i64 ba, .slice Na xa.length ca, .slice Fa ya.length da], .agg #[.int .i64 bc, .slice Nc xc.length cc, .slice Fc yc.length dc], .bool q] w (RetM w (jB ba bc xa xc ya.length yc.length) (jX ba bc xa xc ya.length yc.length) (jY ba bc xa xc ya yc q) (jQ ba bc xa xc ya.length yc.length)) := by
  have no : ¬ jG ba bc xa xc ya.length yc.length → (jB ba bc xa xc ya.length yc.length = 0 ∧ jX ba bc xa xc ya.length yc.length = [] ∧ jY ba bc xa xc ya yc q = [] ∧ jQ ba bc xa xc ya.length yc.length = false) := fun h =>
    ⟨by unfold jB; exact if_neg h, by unfold jX; exact if_neg h, by unfold jY; exact if_neg h, by unfold jQ; exact @decide_eq_false _ (Classical.propDecidable _) h⟩
  cases hA : mok ba xa ya.length
  · obtain ⟨e1, e2, e3, e4⟩ := no (fun h => by have h1 := h.1; rw [hA] at h1; exact absurd h1 (by decide))
    rw [e1, e2, e3, e4]
    exact impl_j1 ba bc Na Fa Nc Fc xa xc ya yc ca da cc dc q w hNa hNc hla hma hlc hmc hA
  · cases hC : mok bc xc yc.length
    · obtain ⟨e1, e2, e3, e4⟩ := no (fun h => by have h1 := h.2.1; rw [hC] at h1; exact absurd h1 (by decide))
      rw [e1, e2, e3, e4]
      exact impl_j2 ba bc Na Fa Nc Fc xa xc ya yc ca da cc dc q w hNa hNc hla hma hlc hmc hA hC
    · by_cases hd : ba = bc
      · by_cases hn : ya.length * yc.length ≤ 144
        · have hg : jG ba bc xa xc ya.length yc.length := ⟨hA, hC, hd, hn⟩
          have e1 : jB ba bc xa xc ya.length yc.length = ba := by unfold jB; exact if_pos hg
          have e2 : jX ba bc xa xc ya.length yc.length = jL xa xc ba.toNat yc.length ya.length 0 0 := by unfold jX; exact if_pos hg
          have e3 : jY ba bc xa xc ya yc q = fL q ya yc yc.length ya.length 0 := by unfold jY; exact if_pos hg
          have e4 : jQ ba bc xa xc ya.length yc.length = true := by unfold jQ; exact @decide_eq_true _ (Classical.propDecidable _) hg
          rw [e1, e2, e3, e4]
          subst hd
          obtain ⟨bb, rfl⟩ := Int.eq_ofNat_of_zero_le (show 0 ≤ ba by have := mok_iff.1 hA; omega)
          exact impl_join_t bb Na Fa Nc Fc xa xc ya yc ca da cc dc q w hNa hFa hNc hFc hla hma hlc hmc hA hC hn
        · obtain ⟨e1, e2, e3, e4⟩ := no (fun h => hn h.2.2.2)
          rw [e1, e2, e3, e4]
          exact impl_j4 ba bc Na Fa Nc Fc xa xc ya yc ca da cc dc q w hNa hNc hla hma hlc hmc hA hC hd (by omega)
      · obtain ⟨e1, e2, e3, e4⟩ := no (fun h => hd h.2.2.1)
        rw [e1, e2, e3, e4]
        exact impl_j3 ba bc Na Fa Nc Fc xa xc ya yc ca da cc dc q w hNa hNc hla hma hlc hmc hA hC hd

theorem spec_join (ba bc : Int) (Na Fa Nc Fc : Option Addr) (xa xc : List Int) (ya yc : List Bool) (ca da cc dc : Nat) (q : Bool) (w : World) (hNa : RI w w.heap.size Na xa) (hFa : RB w w.heap.size Fa ya) (hNc : RI w w.heap.size Nc xc) (hFc : RB w w.heap.size Fc yc) (hla : xa.length ≤ 2097152) (hma : ya.length ≤ 2097152) (hlc : xc.length ≤ 2097152) (hmc : yc.length ≤ 2097152) :
    Calls Try.prog 21 #[.agg #[.int .i64 ba, .slice Na xa.length ca, .slice Fa ya.length da], .agg #[.int .i64 bc, .slice Nc xc.length cc, .slice Fc yc.length dc], .bool q] w (RetM w (jB ba bc xa xc ya.length yc.length) (jX ba bc xa xc ya.length yc.length) (jY ba bc xa xc ya yc q) (jQ ba bc xa xc ya.length yc.length)) := by
  have no : ¬ jG ba bc xa xc ya.length yc.length → (jB ba bc xa xc ya.length yc.length = 0 ∧ jX ba bc xa xc ya.length yc.length = [] ∧ jY ba bc xa xc ya yc q = [] ∧ jQ ba bc xa xc ya.length yc.length = false) := fun h =>
    ⟨by unfold jB; exact if_neg h, by unfold jX; exact if_neg h, by unfold jY; exact if_neg h, by unfold jQ; exact @decide_eq_false _ (Classical.propDecidable _) h⟩
  cases hA : mok ba xa ya.length
  · obtain ⟨e1, e2, e3, e4⟩ := no (fun h => by have h1 := h.1; rw [hA] at h1; exact absurd h1 (by decide))
    rw [e1, e2, e3, e4]
    exact spec_j1 ba bc Na Fa Nc Fc xa xc ya yc ca da cc dc q w hNa hNc hla hma hlc hmc hA
  · cases hC : mok bc xc yc.length
    · obtain ⟨e1, e2, e3, e4⟩ := no (fun h => by have h1 := h.2.1; rw [hC] at h1; exact absurd h1 (by decide))
      rw [e1, e2, e3, e4]
      exact spec_j2 ba bc Na Fa Nc Fc xa xc ya yc ca da cc dc q w hNa hNc hla hma hlc hmc hA hC
    · by_cases hd : ba = bc
      · by_cases hn : ya.length * yc.length ≤ 144
        · have hg : jG ba bc xa xc ya.length yc.length := ⟨hA, hC, hd, hn⟩
          have e1 : jB ba bc xa xc ya.length yc.length = ba := by unfold jB; exact if_pos hg
          have e2 : jX ba bc xa xc ya.length yc.length = jL xa xc ba.toNat yc.length ya.length 0 0 := by unfold jX; exact if_pos hg
          have e3 : jY ba bc xa xc ya yc q = fL q ya yc yc.length ya.length 0 := by unfold jY; exact if_pos hg
          have e4 : jQ ba bc xa xc ya.length yc.length = true := by unfold jQ; exact @decide_eq_true _ (Classical.propDecidable _) hg
          rw [e1, e2, e3, e4]
          subst hd
          obtain ⟨bb, rfl⟩ := Int.eq_ofNat_of_zero_le (show 0 ≤ ba by have := mok_iff.1 hA; omega)
          exact spec_join_t bb Na Fa Nc Fc xa xc ya yc ca da cc dc q w hNa hFa hNc hFc hla hma hlc hmc hA hC hn
        · obtain ⟨e1, e2, e3, e4⟩ := no (fun h => hn h.2.2.2)
          rw [e1, e2, e3, e4]
          exact spec_j4 ba bc Na Fa Nc Fc xa xc ya yc ca da cc dc q w hNa hNc hla hma hlc hmc hA hC hd (by omega)
      · obtain ⟨e1, e2, e3, e4⟩ := no (fun h => hd h.2.2.1)
        rw [e1, e2, e3, e4]
        exact spec_j3 ba bc Na Fa Nc Fc xa xc ya yc ca da cc dc q w hNa hNc hla hma hlc hmc hA hC hd
end Go.Proofs.Ytoihjapbidbpdaa
