/- The walk of the law NodeGets. Conditions: words of 64 bits. -/
import Derived.Test.YtdgnbmcckknfiaaGreatRefI
import Derived.Test.YtdgnbmcckknfiaaGreatWrkN
import Derived.Test.YtdgnbmcckknfiaaGreatEqS
namespace Go.Proofs.YtdgnbmcckknfiaaGreat
open Go.RowKit
set_option linter.unusedSimpArgs false

theorem sup_self (a b c d e f g h : Nat) (W : World) : (Op.equalIn 10000 25 (.agg (supIsV a b c d e f g h)) (.agg (supIsV a b c d e f g h))).run Tryz.prog W = .ok true W := by
  cases h : supIs a b c d e f g h
  · unfold supIsV
    rw [h]
    exact eqS_super _ _ W
  · unfold supIsV
    rw [h]
    exact eqS_super _ _ W

theorem ino_self (a b c d e f g h : Nat) (W : World) : (Op.equalIn 10000 31 (.agg (inoIsV a b c d e f g h)) (.agg (inoIsV a b c d e f g h))).run Tryz.prog W = .ok true W := by
  cases h : inoIs a b c d e f g h
  · unfold inoIsV
    rw [h]
    exact eqS_inode _ _ _ W
  · unfold inoIsV
    rw [h]
    exact eqS_inode _ _ _ W

theorem map_self (a b c d e f g h : Nat) (W : World) : (Op.equalIn 10000 36 (.agg (mapIsV a b c d e f g h)) (.agg (mapIsV a b c d e f g h))).run Tryz.prog W = .ok true W := by
  cases h : mapIs a b c d e f g h
  · unfold mapIsV
    rw [h]
    exact eqS_map _ _ _ _ _ _ _ _ W
  · unfold mapIsV
    rw [h]
    exact eqS_map _ _ _ _ _ _ _ _ W

theorem tab_self (a b c d e f g h : Nat) (W : World) : (Op.equalIn 10000 40 (.agg (tabIsV a b c d e f g h)) (.agg (tabIsV a b c d e f g h))).run Tryz.prog W = .ok true W := by
  cases h : tabIs a b c d e f g h
  · unfold tabIsV
    rw [h]
    exact eqS_table _ _ _ _ _ _ _ W
  · unfold tabIsV
    rw [h]
    exact eqS_table _ _ _ _ _ _ _ W

theorem ent_self (a b c d e f g h : Nat) (W : World) : (Op.equalIn 10000 44 (.agg (entIsV a b c d e f g h)) (.agg (entIsV a b c d e f g h))).run Tryz.prog W = .ok true W := by
  cases h : entIs a b c d e f g h
  · unfold entIsV
    rw [h]
    exact eqS_entry _ _ _ W
  · unfold entIsV
    rw [h]
    exact eqS_entry _ _ _ W

set_option maxRecDepth 100000 in
set_option maxHeartbeats 8000000 in
theorem nodeGets_any (a b c d e f g h : Nat) (ha : a < 18446744073709551616) (hb : b < 18446744073709551616) (hc : c < 18446744073709551616) (hd : d < 18446744073709551616) (he : e < 18446744073709551616) (hf : f < 18446744073709551616) (hg : g < 18446744073709551616) (hh : h < 18446744073709551616) (w : World) : Calls Tryz.prog 3 #[.agg (ln8 a b c d e f g h)] w fun r w' => r = .returned (.bool true) ∧ Below w.heap.size w w' := by
  show Calls Tryz.prog 3 #[.agg #[.int .u64 a, .int .u64 b, .int .u64 c, .int .u64 d, .int .u64 e, .int .u64 f, .int .u64 g, .int .u64 h]] w _
  have hx5 : ∀ x ∈ [d, e, f, g, h], x < 18446744073709551616 := by
    intro x hx
    simp only [List.mem_cons, List.not_mem_nil, or_false] at hx
    rcases hx with rfl | rfl | rfl | rfl | rfl <;> assumption
  have c0 : ∀ W, Calls Tryz.prog 4 #[.agg #[.int .u64 a, .int .u64 b, .int .u64 c, .int .u64 d, .int .u64 e, .int .u64 f, .int .u64 g, .int .u64 h]] W fun r w' => r = .returned (.tuple #[.agg (supIsV a b c d e f g h), .int .i64 (supIsE a b c d e f g h)]) ∧ Below W.heap.size W w' := fun W => GetSuper_any a b c d e f g h hb hc W
  have r0 : ∀ W, Calls Tryz.prog 9 #[.agg #[.int .u64 a, .int .u64 b, .int .u64 c, .int .u64 d, .int .u64 e, .int .u64 f, .int .u64 g, .int .u64 h]] W fun r w' => r = .returned (.tuple #[.agg (supIsV a b c d e f g h), .bool (supIs a b c d e f g h)]) ∧ Below W.heap.size W w' := fun W => rGetSuper_any a b c d e f g h  W
  have s0 := supIsV_size a b c d e f g h
  have o0 := supIsV_one a b c d e f g h
  have q0 := sup_self a b c d e f g h
  have g0 : supIsE a b c d e f g h = if supIs a b c d e f g h then 0 else 180 := rfl
  obtain ⟨A0, hA0⟩ : ∃ v, supIsV a b c d e f g h = v := ⟨_, rfl⟩
  obtain ⟨E0, hE0⟩ : ∃ v, supIsE a b c d e f g h = v := ⟨_, rfl⟩
  obtain ⟨I0, hI0⟩ : ∃ v, supIs a b c d e f g h = v := ⟨_, rfl⟩
  rw [hA0, hE0] at c0
  rw [hA0, hI0] at r0
  rw [hA0] at s0 o0 q0
  rw [hE0, hI0] at g0
  have G0 := Lib.hid (got_any I0 E0 g0)
  have C0 := Lib.hid c0
  have R0 := Lib.hid r0
  clear hA0 hE0 hI0 g0 c0 r0
  have c1 : ∀ W, Calls Tryz.prog 5 #[.agg #[.int .u64 a, .int .u64 b, .int .u64 c, .int .u64 d, .int .u64 e, .int .u64 f, .int .u64 g, .int .u64 h]] W fun r w' => r = .returned (.tuple #[.agg (inoIsV a b c d e f g h), .int .i64 (inoIsE a b c d e f g h)]) ∧ Below W.heap.size W w' := fun W => GetInode_any a b c d e f g h ha hb W
  have r1 : ∀ W, Calls Tryz.prog 10 #[.agg #[.int .u64 a, .int .u64 b, .int .u64 c, .int .u64 d, .int .u64 e, .int .u64 f, .int .u64 g, .int .u64 h]] W fun r w' => r = .returned (.tuple #[.agg (inoIsV a b c d e f g h), .bool (inoIs a b c d e f g h)]) ∧ Below W.heap.size W w' := fun W => rGetInode_any a b c d e f g h  W
  have s1 := inoIsV_size a b c d e f g h
  have o1 := inoIsV_one a b c d e f g h
  have q1 := ino_self a b c d e f g h
  have g1 : inoIsE a b c d e f g h = if inoIs a b c d e f g h then 0 else 180 := rfl
  obtain ⟨A1, hA1⟩ : ∃ v, inoIsV a b c d e f g h = v := ⟨_, rfl⟩
  obtain ⟨E1, hE1⟩ : ∃ v, inoIsE a b c d e f g h = v := ⟨_, rfl⟩
  obtain ⟨I1, hI1⟩ : ∃ v, inoIs a b c d e f g h = v := ⟨_, rfl⟩
  rw [hA1, hE1] at c1
  rw [hA1, hI1] at r1
  rw [hA1] at s1 o1 q1
  rw [hE1, hI1] at g1
  have G1 := Lib.hid (got_any I1 E1 g1)
  have C1 := Lib.hid c1
  have R1 := Lib.hid r1
  clear hA1 hE1 hI1 g1 c1 r1
  have c2 : ∀ W, Calls Tryz.prog 6 #[.agg #[.int .u64 a, .int .u64 b, .int .u64 c, .int .u64 d, .int .u64 e, .int .u64 f, .int .u64 g, .int .u64 h]] W fun r w' => r = .returned (.tuple #[.agg (mapIsV a b c d e f g h), .int .i64 (mapIsE a b c d e f g h)]) ∧ Below W.heap.size W w' := fun W => GetMap_any a b c d e f g h ha hb hc hd he hf hg hh W
  have r2 : ∀ W, Calls Tryz.prog 11 #[.agg #[.int .u64 a, .int .u64 b, .int .u64 c, .int .u64 d, .int .u64 e, .int .u64 f, .int .u64 g, .int .u64 h]] W fun r w' => r = .returned (.tuple #[.agg (mapIsV a b c d e f g h), .bool (mapIs a b c d e f g h)]) ∧ Below W.heap.size W w' := fun W => rGetMap_any a b c d e f g h  W
  have s2 := mapIsV_size a b c d e f g h
  have o2 := mapIsV_one a b c d e f g h
  have q2 := map_self a b c d e f g h
  have g2 : mapIsE a b c d e f g h = if mapIs a b c d e f g h then 0 else 180 := rfl
  obtain ⟨A2, hA2⟩ : ∃ v, mapIsV a b c d e f g h = v := ⟨_, rfl⟩
  obtain ⟨E2, hE2⟩ : ∃ v, mapIsE a b c d e f g h = v := ⟨_, rfl⟩
  obtain ⟨I2, hI2⟩ : ∃ v, mapIs a b c d e f g h = v := ⟨_, rfl⟩
  rw [hA2, hE2] at c2
  rw [hA2, hI2] at r2
  rw [hA2] at s2 o2 q2
  rw [hE2, hI2] at g2
  have G2 := Lib.hid (got_any I2 E2 g2)
  have C2 := Lib.hid c2
  have R2 := Lib.hid r2
  clear hA2 hE2 hI2 g2 c2 r2
  have c3 : ∀ W, Calls Tryz.prog 7 #[.agg #[.int .u64 a, .int .u64 b, .int .u64 c, .int .u64 d, .int .u64 e, .int .u64 f, .int .u64 g, .int .u64 h]] W fun r w' => r = .returned (.tuple #[.agg (tabIsV a b c d e f g h), .int .i64 (tabIsE a b c d e f g h)]) ∧ Below W.heap.size W w' := fun W => GetTable_any a b c d e f g h ha hb hc hd he hf hg W
  have r3 : ∀ W, Calls Tryz.prog 12 #[.agg #[.int .u64 a, .int .u64 b, .int .u64 c, .int .u64 d, .int .u64 e, .int .u64 f, .int .u64 g, .int .u64 h]] W fun r w' => r = .returned (.tuple #[.agg (tabIsV a b c d e f g h), .bool (tabIs a b c d e f g h)]) ∧ Below W.heap.size W w' := fun W => rGetTable_any a b c d e f g h  W
  have s3 := tabIsV_size a b c d e f g h
  have o3 := tabIsV_one a b c d e f g h
  have q3 := tab_self a b c d e f g h
  have g3 : tabIsE a b c d e f g h = if tabIs a b c d e f g h then 0 else 180 := rfl
  obtain ⟨A3, hA3⟩ : ∃ v, tabIsV a b c d e f g h = v := ⟨_, rfl⟩
  obtain ⟨E3, hE3⟩ : ∃ v, tabIsE a b c d e f g h = v := ⟨_, rfl⟩
  obtain ⟨I3, hI3⟩ : ∃ v, tabIs a b c d e f g h = v := ⟨_, rfl⟩
  rw [hA3, hE3] at c3
  rw [hA3, hI3] at r3
  rw [hA3] at s3 o3 q3
  rw [hE3, hI3] at g3
  have G3 := Lib.hid (got_any I3 E3 g3)
  have C3 := Lib.hid c3
  have R3 := Lib.hid r3
  clear hA3 hE3 hI3 g3 c3 r3
  have c4 : ∀ W, Calls Tryz.prog 8 #[.agg #[.int .u64 a, .int .u64 b, .int .u64 c, .int .u64 d, .int .u64 e, .int .u64 f, .int .u64 g, .int .u64 h]] W fun r w' => r = .returned (.tuple #[.agg (entIsV a b c d e f g h), .int .i64 (entIsE a b c d e f g h)]) ∧ Below W.heap.size W w' := fun W => GetEntry_any a b c d e f g h ha hb hc hd he hf hg hh W
  have r4 : ∀ W, Calls Tryz.prog 13 #[.agg #[.int .u64 a, .int .u64 b, .int .u64 c, .int .u64 d, .int .u64 e, .int .u64 f, .int .u64 g, .int .u64 h]] W fun r w' => r = .returned (.tuple #[.agg (entIsV a b c d e f g h), .bool (entIs a b c d e f g h)]) ∧ Below W.heap.size W w' := fun W => rGetEntry_any a b c d e f g h hx5 W
  have s4 := entIsV_size a b c d e f g h
  have o4 := entIsV_one a b c d e f g h
  have q4 := ent_self a b c d e f g h
  have g4 : entIsE a b c d e f g h = if entIs a b c d e f g h then 0 else 180 := rfl
  obtain ⟨A4, hA4⟩ : ∃ v, entIsV a b c d e f g h = v := ⟨_, rfl⟩
  obtain ⟨E4, hE4⟩ : ∃ v, entIsE a b c d e f g h = v := ⟨_, rfl⟩
  obtain ⟨I4, hI4⟩ : ∃ v, entIs a b c d e f g h = v := ⟨_, rfl⟩
  rw [hA4, hE4] at c4
  rw [hA4, hI4] at r4
  rw [hA4] at s4 o4 q4
  rw [hE4, hI4] at g4
  have G4 := Lib.hid (got_any I4 E4 g4)
  have C4 := Lib.hid c4
  have R4 := Lib.hid r4
  clear hA4 hE4 hI4 g4 c4 r4
  clear hx5
  have kl := Blk.new w 23 #[.int .u64 a, .int .u64 b, .int .u64 c, .int .u64 d, .int .u64 e, .int .u64 f, .int .u64 g, .int .u64 h]
  have hB := (Below.refl _ w).alloc (Nat.le_refl _) (.cells #[.int .u64 a, .int .u64 b, .int .u64 c, .int .u64 d, .int .u64 e, .int .u64 f, .int .u64 g, .int .u64 h] 23)
  go_enter Tryz.func3, Tryz.ntmps3
  go_wp2_with (refine row_load (w.heap.size) 23 _ kl 23 _ rfl rfl rfl _ Tryz.underlying23 rfl (by kernel_rfl) ?_)
  refine (C0.out _).mono ?_
  rintro e w1 ⟨rfl, hb⟩
  replace kl := kl.below hb kl.lt
  replace hB := hB.trans (hb.mono hB.size)
  clear hb
  have n0 := Blk.new w1 25 #[.int .i64 0, .int .i64 0]
  have lkl := kl.lt
  replace kl := (kl.alloc (.cells #[.int .i64 0, .int .i64 0] 25)).farRow (g' := w1.heap.size) (by omega) A0
  clear lkl
  have k0 := n0.setRow A0
  replace hB := below_setRow (hB.alloc hB.size (.cells #[.int .i64 0, .int .i64 0] 25)) (g := w1.heap.size) hB.size A0
  go_wp2_with (first | (refine row_store (w1.heap.size) 25 _ _ n0 25 _ _ rfl rfl rfl rfl (by rw [s0]; kernel_rfl) (by rw [s0]; rfl) o0 ?_) | (refine row_load (w.heap.size) 23 _ kl 23 _ rfl rfl rfl _ Tryz.underlying23 rfl (by kernel_rfl) ?_))
  clear n0
  refine (C1.out _).mono ?_
  rintro e w2 ⟨rfl, hb⟩
  replace kl := kl.below hb kl.lt
  replace k0 := k0.below hb k0.lt
  replace hB := hB.trans (hb.mono hB.size)
  clear hb
  have n1 := Blk.new w2 31 #[.int .i64 0, .int .i64 0, .int .i64 0]
  have lkl := kl.lt
  replace kl := (kl.alloc (.cells #[.int .i64 0, .int .i64 0, .int .i64 0] 31)).farRow (g' := w2.heap.size) (by omega) A1
  clear lkl
  have lk0 := k0.lt
  replace k0 := (k0.alloc (.cells #[.int .i64 0, .int .i64 0, .int .i64 0] 31)).farRow (g' := w2.heap.size) (by omega) A1
  clear lk0
  have k1 := n1.setRow A1
  replace hB := below_setRow (hB.alloc hB.size (.cells #[.int .i64 0, .int .i64 0, .int .i64 0] 31)) (g := w2.heap.size) hB.size A1
  go_wp2_with (first | (refine row_store (w2.heap.size) 31 _ _ n1 31 _ _ rfl rfl rfl rfl (by rw [s1]; kernel_rfl) (by rw [s1]; rfl) o1 ?_) | (refine row_load (w.heap.size) 23 _ kl 23 _ rfl rfl rfl _ Tryz.underlying23 rfl (by kernel_rfl) ?_))
  clear n1
  refine (C2.out _).mono ?_
  rintro e w3 ⟨rfl, hb⟩
  replace kl := kl.below hb kl.lt
  replace k0 := k0.below hb k0.lt
  replace k1 := k1.below hb k1.lt
  replace hB := hB.trans (hb.mono hB.size)
  clear hb
  have n2 := Blk.new w3 36 #[.int .i64 0, .int .i64 0, .int .i64 0, .int .i64 0, .int .i64 0, .int .i64 0, .int .i64 0, .int .i64 0]
  have lkl := kl.lt
  replace kl := (kl.alloc (.cells #[.int .i64 0, .int .i64 0, .int .i64 0, .int .i64 0, .int .i64 0, .int .i64 0, .int .i64 0, .int .i64 0] 36)).farRow (g' := w3.heap.size) (by omega) A2
  clear lkl
  have lk0 := k0.lt
  replace k0 := (k0.alloc (.cells #[.int .i64 0, .int .i64 0, .int .i64 0, .int .i64 0, .int .i64 0, .int .i64 0, .int .i64 0, .int .i64 0] 36)).farRow (g' := w3.heap.size) (by omega) A2
  clear lk0
  have lk1 := k1.lt
  replace k1 := (k1.alloc (.cells #[.int .i64 0, .int .i64 0, .int .i64 0, .int .i64 0, .int .i64 0, .int .i64 0, .int .i64 0, .int .i64 0] 36)).farRow (g' := w3.heap.size) (by omega) A2
  clear lk1
  have k2 := n2.setRow A2
  replace hB := below_setRow (hB.alloc hB.size (.cells #[.int .i64 0, .int .i64 0, .int .i64 0, .int .i64 0, .int .i64 0, .int .i64 0, .int .i64 0, .int .i64 0] 36)) (g := w3.heap.size) hB.size A2
  go_wp2_with (first | (refine row_store (w3.heap.size) 36 _ _ n2 36 _ _ rfl rfl rfl rfl (by rw [s2]; kernel_rfl) (by rw [s2]; rfl) o2 ?_) | (refine row_load (w.heap.size) 23 _ kl 23 _ rfl rfl rfl _ Tryz.underlying23 rfl (by kernel_rfl) ?_))
  clear n2
  refine (C3.out _).mono ?_
  rintro e w4 ⟨rfl, hb⟩
  replace kl := kl.below hb kl.lt
  replace k0 := k0.below hb k0.lt
  replace k1 := k1.below hb k1.lt
  replace k2 := k2.below hb k2.lt
  replace hB := hB.trans (hb.mono hB.size)
  clear hb
  have n3 := Blk.new w4 40 #[.int .i64 0, .int .i64 0, .int .i64 0, .int .i64 0, .int .i64 0, .int .i64 0, .int .i64 0]
  have lkl := kl.lt
  replace kl := (kl.alloc (.cells #[.int .i64 0, .int .i64 0, .int .i64 0, .int .i64 0, .int .i64 0, .int .i64 0, .int .i64 0] 40)).farRow (g' := w4.heap.size) (by omega) A3
  clear lkl
  have lk0 := k0.lt
  replace k0 := (k0.alloc (.cells #[.int .i64 0, .int .i64 0, .int .i64 0, .int .i64 0, .int .i64 0, .int .i64 0, .int .i64 0] 40)).farRow (g' := w4.heap.size) (by omega) A3
  clear lk0
  have lk1 := k1.lt
  replace k1 := (k1.alloc (.cells #[.int .i64 0, .int .i64 0, .int .i64 0, .int .i64 0, .int .i64 0, .int .i64 0, .int .i64 0] 40)).farRow (g' := w4.heap.size) (by omega) A3
  clear lk1
  have lk2 := k2.lt
  replace k2 := (k2.alloc (.cells #[.int .i64 0, .int .i64 0, .int .i64 0, .int .i64 0, .int .i64 0, .int .i64 0, .int .i64 0] 40)).farRow (g' := w4.heap.size) (by omega) A3
  clear lk2
  have k3 := n3.setRow A3
  replace hB := below_setRow (hB.alloc hB.size (.cells #[.int .i64 0, .int .i64 0, .int .i64 0, .int .i64 0, .int .i64 0, .int .i64 0, .int .i64 0] 40)) (g := w4.heap.size) hB.size A3
  go_wp2_with (first | (refine row_store (w4.heap.size) 40 _ _ n3 40 _ _ rfl rfl rfl rfl (by rw [s3]; kernel_rfl) (by rw [s3]; rfl) o3 ?_) | (refine row_load (w.heap.size) 23 _ kl 23 _ rfl rfl rfl _ Tryz.underlying23 rfl (by kernel_rfl) ?_))
  clear n3
  refine (C4.out _).mono ?_
  rintro e w5 ⟨rfl, hb⟩
  replace kl := kl.below hb kl.lt
  replace k0 := k0.below hb k0.lt
  replace k1 := k1.below hb k1.lt
  replace k2 := k2.below hb k2.lt
  replace k3 := k3.below hb k3.lt
  replace hB := hB.trans (hb.mono hB.size)
  clear hb
  have n4 := Blk.new w5 44 #[.int .i64 0, .int .i64 0, .string ⟨#[]⟩]
  have lkl := kl.lt
  replace kl := (kl.alloc (.cells #[.int .i64 0, .int .i64 0, .string ⟨#[]⟩] 44)).farRow (g' := w5.heap.size) (by omega) A4
  clear lkl
  have lk0 := k0.lt
  replace k0 := (k0.alloc (.cells #[.int .i64 0, .int .i64 0, .string ⟨#[]⟩] 44)).farRow (g' := w5.heap.size) (by omega) A4
  clear lk0
  have lk1 := k1.lt
  replace k1 := (k1.alloc (.cells #[.int .i64 0, .int .i64 0, .string ⟨#[]⟩] 44)).farRow (g' := w5.heap.size) (by omega) A4
  clear lk1
  have lk2 := k2.lt
  replace k2 := (k2.alloc (.cells #[.int .i64 0, .int .i64 0, .string ⟨#[]⟩] 44)).farRow (g' := w5.heap.size) (by omega) A4
  clear lk2
  have lk3 := k3.lt
  replace k3 := (k3.alloc (.cells #[.int .i64 0, .int .i64 0, .string ⟨#[]⟩] 44)).farRow (g' := w5.heap.size) (by omega) A4
  clear lk3
  have k4 := n4.setRow A4
  replace hB := below_setRow (hB.alloc hB.size (.cells #[.int .i64 0, .int .i64 0, .string ⟨#[]⟩] 44)) (g := w5.heap.size) hB.size A4
  go_wp2_with (first | (refine row_store (w5.heap.size) 44 _ _ n4 44 _ _ rfl rfl rfl rfl (by rw [s4]; kernel_rfl) (by rw [s4]; rfl) o4 ?_) | (refine row_load (w.heap.size) 23 _ kl 23 _ rfl rfl rfl _ Tryz.underlying23 rfl (by kernel_rfl) ?_))
  clear n4
  refine (R0.out _).mono ?_
  rintro e w6 ⟨rfl, hb⟩
  replace kl := kl.below hb kl.lt
  replace k0 := k0.below hb k0.lt
  replace k1 := k1.below hb k1.lt
  replace k2 := k2.below hb k2.lt
  replace k3 := k3.below hb k3.lt
  replace k4 := k4.below hb k4.lt
  replace hB := hB.trans (hb.mono hB.size)
  clear hb
  have n5 := Blk.new w6 25 #[.int .i64 0, .int .i64 0]
  have lkl := kl.lt
  replace kl := (kl.alloc (.cells #[.int .i64 0, .int .i64 0] 25)).farRow (g' := w6.heap.size) (by omega) A0
  clear lkl
  have lk0 := k0.lt
  replace k0 := (k0.alloc (.cells #[.int .i64 0, .int .i64 0] 25)).farRow (g' := w6.heap.size) (by omega) A0
  clear lk0
  have lk1 := k1.lt
  replace k1 := (k1.alloc (.cells #[.int .i64 0, .int .i64 0] 25)).farRow (g' := w6.heap.size) (by omega) A0
  clear lk1
  have lk2 := k2.lt
  replace k2 := (k2.alloc (.cells #[.int .i64 0, .int .i64 0] 25)).farRow (g' := w6.heap.size) (by omega) A0
  clear lk2
  have lk3 := k3.lt
  replace k3 := (k3.alloc (.cells #[.int .i64 0, .int .i64 0] 25)).farRow (g' := w6.heap.size) (by omega) A0
  clear lk3
  have lk4 := k4.lt
  replace k4 := (k4.alloc (.cells #[.int .i64 0, .int .i64 0] 25)).farRow (g' := w6.heap.size) (by omega) A0
  clear lk4
  have k5 := n5.setRow A0
  replace hB := below_setRow (hB.alloc hB.size (.cells #[.int .i64 0, .int .i64 0] 25)) (g := w6.heap.size) hB.size A0
  go_wp2_with (first | (refine row_store (w6.heap.size) 25 _ _ n5 25 _ _ rfl rfl rfl rfl (by rw [s0]; kernel_rfl) (by rw [s0]; rfl) o0 ?_) | (refine row_load (w.heap.size) 23 _ kl 23 _ rfl rfl rfl _ Tryz.underlying23 rfl (by kernel_rfl) ?_))
  clear n5
  refine (R1.out _).mono ?_
  rintro e w7 ⟨rfl, hb⟩
  replace kl := kl.below hb kl.lt
  replace k0 := k0.below hb k0.lt
  replace k1 := k1.below hb k1.lt
  replace k2 := k2.below hb k2.lt
  replace k3 := k3.below hb k3.lt
  replace k4 := k4.below hb k4.lt
  replace k5 := k5.below hb k5.lt
  replace hB := hB.trans (hb.mono hB.size)
  clear hb
  have n6 := Blk.new w7 31 #[.int .i64 0, .int .i64 0, .int .i64 0]
  have lkl := kl.lt
  replace kl := (kl.alloc (.cells #[.int .i64 0, .int .i64 0, .int .i64 0] 31)).farRow (g' := w7.heap.size) (by omega) A1
  clear lkl
  have lk0 := k0.lt
  replace k0 := (k0.alloc (.cells #[.int .i64 0, .int .i64 0, .int .i64 0] 31)).farRow (g' := w7.heap.size) (by omega) A1
  clear lk0
  have lk1 := k1.lt
  replace k1 := (k1.alloc (.cells #[.int .i64 0, .int .i64 0, .int .i64 0] 31)).farRow (g' := w7.heap.size) (by omega) A1
  clear lk1
  have lk2 := k2.lt
  replace k2 := (k2.alloc (.cells #[.int .i64 0, .int .i64 0, .int .i64 0] 31)).farRow (g' := w7.heap.size) (by omega) A1
  clear lk2
  have lk3 := k3.lt
  replace k3 := (k3.alloc (.cells #[.int .i64 0, .int .i64 0, .int .i64 0] 31)).farRow (g' := w7.heap.size) (by omega) A1
  clear lk3
  have lk4 := k4.lt
  replace k4 := (k4.alloc (.cells #[.int .i64 0, .int .i64 0, .int .i64 0] 31)).farRow (g' := w7.heap.size) (by omega) A1
  clear lk4
  have lk5 := k5.lt
  replace k5 := (k5.alloc (.cells #[.int .i64 0, .int .i64 0, .int .i64 0] 31)).farRow (g' := w7.heap.size) (by omega) A1
  clear lk5
  have k6 := n6.setRow A1
  replace hB := below_setRow (hB.alloc hB.size (.cells #[.int .i64 0, .int .i64 0, .int .i64 0] 31)) (g := w7.heap.size) hB.size A1
  go_wp2_with (first | (refine row_store (w7.heap.size) 31 _ _ n6 31 _ _ rfl rfl rfl rfl (by rw [s1]; kernel_rfl) (by rw [s1]; rfl) o1 ?_) | (refine row_load (w.heap.size) 23 _ kl 23 _ rfl rfl rfl _ Tryz.underlying23 rfl (by kernel_rfl) ?_))
  clear n6
  refine (R2.out _).mono ?_
  rintro e w8 ⟨rfl, hb⟩
  replace kl := kl.below hb kl.lt
  replace k0 := k0.below hb k0.lt
  replace k1 := k1.below hb k1.lt
  replace k2 := k2.below hb k2.lt
  replace k3 := k3.below hb k3.lt
  replace k4 := k4.below hb k4.lt
  replace k5 := k5.below hb k5.lt
  replace k6 := k6.below hb k6.lt
  replace hB := hB.trans (hb.mono hB.size)
  clear hb
  have n7 := Blk.new w8 36 #[.int .i64 0, .int .i64 0, .int .i64 0, .int .i64 0, .int .i64 0, .int .i64 0, .int .i64 0, .int .i64 0]
  have lkl := kl.lt
  replace kl := (kl.alloc (.cells #[.int .i64 0, .int .i64 0, .int .i64 0, .int .i64 0, .int .i64 0, .int .i64 0, .int .i64 0, .int .i64 0] 36)).farRow (g' := w8.heap.size) (by omega) A2
  clear lkl
  have lk0 := k0.lt
  replace k0 := (k0.alloc (.cells #[.int .i64 0, .int .i64 0, .int .i64 0, .int .i64 0, .int .i64 0, .int .i64 0, .int .i64 0, .int .i64 0] 36)).farRow (g' := w8.heap.size) (by omega) A2
  clear lk0
  have lk1 := k1.lt
  replace k1 := (k1.alloc (.cells #[.int .i64 0, .int .i64 0, .int .i64 0, .int .i64 0, .int .i64 0, .int .i64 0, .int .i64 0, .int .i64 0] 36)).farRow (g' := w8.heap.size) (by omega) A2
  clear lk1
  have lk2 := k2.lt
  replace k2 := (k2.alloc (.cells #[.int .i64 0, .int .i64 0, .int .i64 0, .int .i64 0, .int .i64 0, .int .i64 0, .int .i64 0, .int .i64 0] 36)).farRow (g' := w8.heap.size) (by omega) A2
  clear lk2
  have lk3 := k3.lt
  replace k3 := (k3.alloc (.cells #[.int .i64 0, .int .i64 0, .int .i64 0, .int .i64 0, .int .i64 0, .int .i64 0, .int .i64 0, .int .i64 0] 36)).farRow (g' := w8.heap.size) (by omega) A2
  clear lk3
  have lk4 := k4.lt
  replace k4 := (k4.alloc (.cells #[.int .i64 0, .int .i64 0, .int .i64 0, .int .i64 0, .int .i64 0, .int .i64 0, .int .i64 0, .int .i64 0] 36)).farRow (g' := w8.heap.size) (by omega) A2
  clear lk4
  have lk5 := k5.lt
  replace k5 := (k5.alloc (.cells #[.int .i64 0, .int .i64 0, .int .i64 0, .int .i64 0, .int .i64 0, .int .i64 0, .int .i64 0, .int .i64 0] 36)).farRow (g' := w8.heap.size) (by omega) A2
  clear lk5
  have lk6 := k6.lt
  replace k6 := (k6.alloc (.cells #[.int .i64 0, .int .i64 0, .int .i64 0, .int .i64 0, .int .i64 0, .int .i64 0, .int .i64 0, .int .i64 0] 36)).farRow (g' := w8.heap.size) (by omega) A2
  clear lk6
  have k7 := n7.setRow A2
  replace hB := below_setRow (hB.alloc hB.size (.cells #[.int .i64 0, .int .i64 0, .int .i64 0, .int .i64 0, .int .i64 0, .int .i64 0, .int .i64 0, .int .i64 0] 36)) (g := w8.heap.size) hB.size A2
  go_wp2_with (first | (refine row_store (w8.heap.size) 36 _ _ n7 36 _ _ rfl rfl rfl rfl (by rw [s2]; kernel_rfl) (by rw [s2]; rfl) o2 ?_) | (refine row_load (w.heap.size) 23 _ kl 23 _ rfl rfl rfl _ Tryz.underlying23 rfl (by kernel_rfl) ?_))
  clear n7
  refine (R3.out _).mono ?_
  rintro e w9 ⟨rfl, hb⟩
  replace kl := kl.below hb kl.lt
  replace k0 := k0.below hb k0.lt
  replace k1 := k1.below hb k1.lt
  replace k2 := k2.below hb k2.lt
  replace k3 := k3.below hb k3.lt
  replace k4 := k4.below hb k4.lt
  replace k5 := k5.below hb k5.lt
  replace k6 := k6.below hb k6.lt
  replace k7 := k7.below hb k7.lt
  replace hB := hB.trans (hb.mono hB.size)
  clear hb
  have n8 := Blk.new w9 40 #[.int .i64 0, .int .i64 0, .int .i64 0, .int .i64 0, .int .i64 0, .int .i64 0, .int .i64 0]
  have lkl := kl.lt
  replace kl := (kl.alloc (.cells #[.int .i64 0, .int .i64 0, .int .i64 0, .int .i64 0, .int .i64 0, .int .i64 0, .int .i64 0] 40)).farRow (g' := w9.heap.size) (by omega) A3
  clear lkl
  have lk0 := k0.lt
  replace k0 := (k0.alloc (.cells #[.int .i64 0, .int .i64 0, .int .i64 0, .int .i64 0, .int .i64 0, .int .i64 0, .int .i64 0] 40)).farRow (g' := w9.heap.size) (by omega) A3
  clear lk0
  have lk1 := k1.lt
  replace k1 := (k1.alloc (.cells #[.int .i64 0, .int .i64 0, .int .i64 0, .int .i64 0, .int .i64 0, .int .i64 0, .int .i64 0] 40)).farRow (g' := w9.heap.size) (by omega) A3
  clear lk1
  have lk2 := k2.lt
  replace k2 := (k2.alloc (.cells #[.int .i64 0, .int .i64 0, .int .i64 0, .int .i64 0, .int .i64 0, .int .i64 0, .int .i64 0] 40)).farRow (g' := w9.heap.size) (by omega) A3
  clear lk2
  have lk3 := k3.lt
  replace k3 := (k3.alloc (.cells #[.int .i64 0, .int .i64 0, .int .i64 0, .int .i64 0, .int .i64 0, .int .i64 0, .int .i64 0] 40)).farRow (g' := w9.heap.size) (by omega) A3
  clear lk3
  have lk4 := k4.lt
  replace k4 := (k4.alloc (.cells #[.int .i64 0, .int .i64 0, .int .i64 0, .int .i64 0, .int .i64 0, .int .i64 0, .int .i64 0] 40)).farRow (g' := w9.heap.size) (by omega) A3
  clear lk4
  have lk5 := k5.lt
  replace k5 := (k5.alloc (.cells #[.int .i64 0, .int .i64 0, .int .i64 0, .int .i64 0, .int .i64 0, .int .i64 0, .int .i64 0] 40)).farRow (g' := w9.heap.size) (by omega) A3
  clear lk5
  have lk6 := k6.lt
  replace k6 := (k6.alloc (.cells #[.int .i64 0, .int .i64 0, .int .i64 0, .int .i64 0, .int .i64 0, .int .i64 0, .int .i64 0] 40)).farRow (g' := w9.heap.size) (by omega) A3
  clear lk6
  have lk7 := k7.lt
  replace k7 := (k7.alloc (.cells #[.int .i64 0, .int .i64 0, .int .i64 0, .int .i64 0, .int .i64 0, .int .i64 0, .int .i64 0] 40)).farRow (g' := w9.heap.size) (by omega) A3
  clear lk7
  have k8 := n8.setRow A3
  replace hB := below_setRow (hB.alloc hB.size (.cells #[.int .i64 0, .int .i64 0, .int .i64 0, .int .i64 0, .int .i64 0, .int .i64 0, .int .i64 0] 40)) (g := w9.heap.size) hB.size A3
  go_wp2_with (first | (refine row_store (w9.heap.size) 40 _ _ n8 40 _ _ rfl rfl rfl rfl (by rw [s3]; kernel_rfl) (by rw [s3]; rfl) o3 ?_) | (refine row_load (w.heap.size) 23 _ kl 23 _ rfl rfl rfl _ Tryz.underlying23 rfl (by kernel_rfl) ?_))
  clear n8
  refine (R4.out _).mono ?_
  rintro e w10 ⟨rfl, hb⟩
  replace kl := kl.below hb kl.lt
  replace k0 := k0.below hb k0.lt
  replace k1 := k1.below hb k1.lt
  replace k2 := k2.below hb k2.lt
  replace k3 := k3.below hb k3.lt
  replace k4 := k4.below hb k4.lt
  replace k5 := k5.below hb k5.lt
  replace k6 := k6.below hb k6.lt
  replace k7 := k7.below hb k7.lt
  replace k8 := k8.below hb k8.lt
  replace hB := hB.trans (hb.mono hB.size)
  clear hb
  have n9 := Blk.new w10 44 #[.int .i64 0, .int .i64 0, .string ⟨#[]⟩]
  have lkl := kl.lt
  replace kl := (kl.alloc (.cells #[.int .i64 0, .int .i64 0, .string ⟨#[]⟩] 44)).farRow (g' := w10.heap.size) (by omega) A4
  clear lkl
  have lk0 := k0.lt
  replace k0 := (k0.alloc (.cells #[.int .i64 0, .int .i64 0, .string ⟨#[]⟩] 44)).farRow (g' := w10.heap.size) (by omega) A4
  clear lk0
  have lk1 := k1.lt
  replace k1 := (k1.alloc (.cells #[.int .i64 0, .int .i64 0, .string ⟨#[]⟩] 44)).farRow (g' := w10.heap.size) (by omega) A4
  clear lk1
  have lk2 := k2.lt
  replace k2 := (k2.alloc (.cells #[.int .i64 0, .int .i64 0, .string ⟨#[]⟩] 44)).farRow (g' := w10.heap.size) (by omega) A4
  clear lk2
  have lk3 := k3.lt
  replace k3 := (k3.alloc (.cells #[.int .i64 0, .int .i64 0, .string ⟨#[]⟩] 44)).farRow (g' := w10.heap.size) (by omega) A4
  clear lk3
  have lk4 := k4.lt
  replace k4 := (k4.alloc (.cells #[.int .i64 0, .int .i64 0, .string ⟨#[]⟩] 44)).farRow (g' := w10.heap.size) (by omega) A4
  clear lk4
  have lk5 := k5.lt
  replace k5 := (k5.alloc (.cells #[.int .i64 0, .int .i64 0, .string ⟨#[]⟩] 44)).farRow (g' := w10.heap.size) (by omega) A4
  clear lk5
  have lk6 := k6.lt
  replace k6 := (k6.alloc (.cells #[.int .i64 0, .int .i64 0, .string ⟨#[]⟩] 44)).farRow (g' := w10.heap.size) (by omega) A4
  clear lk6
  have lk7 := k7.lt
  replace k7 := (k7.alloc (.cells #[.int .i64 0, .int .i64 0, .string ⟨#[]⟩] 44)).farRow (g' := w10.heap.size) (by omega) A4
  clear lk7
  have lk8 := k8.lt
  replace k8 := (k8.alloc (.cells #[.int .i64 0, .int .i64 0, .string ⟨#[]⟩] 44)).farRow (g' := w10.heap.size) (by omega) A4
  clear lk8
  have k9 := n9.setRow A4
  replace hB := below_setRow (hB.alloc hB.size (.cells #[.int .i64 0, .int .i64 0, .string ⟨#[]⟩] 44)) (g := w10.heap.size) hB.size A4
  go_wp2_with (first | (refine row_store (w10.heap.size) 44 _ _ n9 44 _ _ rfl rfl rfl rfl (by rw [s4]; kernel_rfl) (by rw [s4]; rfl) o4 ?_) | (go_at_call 14; ((with_reducible refine (G0.out _).mono ?_); rintro e w' ⟨rfl, rfl⟩)) | (go_at_call 14; ((with_reducible refine (G1.out _).mono ?_); rintro e w' ⟨rfl, rfl⟩)) | (go_at_call 14; ((with_reducible refine (G2.out _).mono ?_); rintro e w' ⟨rfl, rfl⟩)) | (go_at_call 14; ((with_reducible refine (G3.out _).mono ?_); rintro e w' ⟨rfl, rfl⟩)) | (go_at_call 14; ((with_reducible refine (G4.out _).mono ?_); rintro e w' ⟨rfl, rfl⟩)) | (refine row_load_w (w1.heap.size) 25 _ k0 25 _ rfl rfl rfl _ Tryz.underlying25 rfl (by rw [s0]; kernel_rfl) ?_) | (refine row_load_w (w2.heap.size) 31 _ k1 31 _ rfl rfl rfl _ Tryz.underlying31 rfl (by rw [s1]; kernel_rfl) ?_) | (refine row_load_w (w3.heap.size) 36 _ k2 36 _ rfl rfl rfl _ Tryz.underlying36 rfl (by rw [s2]; kernel_rfl) ?_) | (refine row_load_w (w4.heap.size) 40 _ k3 40 _ rfl rfl rfl _ Tryz.underlying40 rfl (by rw [s3]; kernel_rfl) ?_) | (refine row_load_w (w5.heap.size) 44 _ k4 44 _ rfl rfl rfl _ Tryz.underlying44 rfl (by rw [s4]; kernel_rfl) ?_) | (refine row_load_w (w6.heap.size) 25 _ k5 25 _ rfl rfl rfl _ Tryz.underlying25 rfl (by rw [s0]; kernel_rfl) ?_) | (refine row_load_w (w7.heap.size) 31 _ k6 31 _ rfl rfl rfl _ Tryz.underlying31 rfl (by rw [s1]; kernel_rfl) ?_) | (refine row_load_w (w8.heap.size) 36 _ k7 36 _ rfl rfl rfl _ Tryz.underlying36 rfl (by rw [s2]; kernel_rfl) ?_) | (refine row_load_w (w9.heap.size) 40 _ k8 40 _ rfl rfl rfl _ Tryz.underlying40 rfl (by rw [s3]; kernel_rfl) ?_) | (refine row_load_w (w10.heap.size) 44 _ k9 44 _ rfl rfl rfl _ Tryz.underlying44 rfl (by rw [s4]; kernel_rfl) ?_))
  refine (works_any _).mono ?_
  rintro e w11 ⟨rfl, hb⟩
  replace hB := hB.trans (hb.mono hB.size)
  go_wp2
  go_ret
  exact ⟨rfl, hB⟩
end Go.Proofs.YtdgnbmcckknfiaaGreat
