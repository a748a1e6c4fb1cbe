/- The walk of the chapter's rows (works). No conditions. -/
import Derived.Test.YtdgnbmcckknfiaaEntB
import Derived.Test.YtdgnbmcckknfiaaMapB
import Derived.Test.YtdgnbmcckknfiaaNodG
namespace Go.Proofs.Ytdgnbmcckknfiaa
open Go.RowKit
set_option linter.unusedSimpArgs false

theorem wk_ab : nameOk ⟨#[97, 98]⟩ = true := by
  unfold nameOk formOk dot1 dot2
  rw [ByteArray.toList_eq]
  kernel_rfl
theorem wk_lw : lw ⟨#[97, 98]⟩ = [25185, 0, 0, 0, 0] := by
  unfold lw
  rw [wk_ab]
  kernel_rfl
theorem wkP1 : inoL 1 3 9 = #[.int .u64 769, .int .u64 9, .int .u64 0, .int .u64 0, .int .u64 0, .int .u64 0, .int .u64 0, .int .u64 0] := by
  unfold inoL
  rw [show inoOk 1 3 9 = true from by kernel_rfl]
  rfl
theorem wkQ1 : inoE 1 3 9 = 0 := by
  unfold inoE
  rw [show inoOk 1 3 9 = true from by kernel_rfl]
  rfl
theorem wkI2 : inoIs 769 9 0 0 0 0 0 0 = true := by kernel_rfl
theorem wkP2 : inoIsV 769 9 0 0 0 0 0 0 = #[.int .i64 1, .int .i64 3, .int .i64 9] := by
  unfold inoIsV
  rw [wkI2]
  kernel_rfl
theorem wkQ2 : inoIsE 769 9 0 0 0 0 0 0 = 0 := by
  unfold inoIsE
  rw [wkI2]
  rfl
theorem wkI3 : inoIs 0 0 0 0 0 0 0 0 = false := by kernel_rfl
theorem wkP3 : inoIsV 0 0 0 0 0 0 0 0 = #[.int .i64 0, .int .i64 0, .int .i64 0] := by
  unfold inoIsV
  rw [wkI3]
  rfl
theorem wkQ3 : inoIsE 0 0 0 0 0 0 0 0 = 180 := by
  unfold inoIsE
  rw [wkI3]
  rfl
theorem wkP4 : inoL 2 2 9 = #[.int .u64 0, .int .u64 0, .int .u64 0, .int .u64 0, .int .u64 0, .int .u64 0, .int .u64 0, .int .u64 0] := by
  unfold inoL
  rw [show inoOk 2 2 9 = false from by kernel_rfl]
  rfl
theorem wkQ4 : inoE 2 2 9 = 2 := by
  unfold inoE
  rw [show inoOk 2 2 9 = false from by kernel_rfl]
  rfl
theorem wkI5 : entOk 0 5 ⟨#[97, 98]⟩ = true := by
  unfold entOk
  rw [wk_ab]
  kernel_rfl
theorem wkP5 : entL 0 5 ⟨#[97, 98]⟩ = #[.int .u64 0, .int .u64 5, .int .u64 2, .int .u64 25185, .int .u64 0, .int .u64 0, .int .u64 0, .int .u64 0] := by
  unfold entL
  rw [wkI5]
  unfold entW
  rw [wk_lw]
  rfl
theorem wkQ5 : entE 0 5 ⟨#[97, 98]⟩ = 0 := by
  unfold entE
  rw [wkI5]
  rfl
theorem wkI6 : mapIs 65 4 7 0 0 0 0 0 = true := by kernel_rfl
theorem wkP6 : mapIsV 65 4 7 0 0 0 0 0 = #[.int .i64 65, .int .i64 4, .int .i64 7, .int .i64 0, .int .i64 0, .int .i64 0, .int .i64 0, .int .i64 0] := by
  unfold mapIsV
  rw [wkI6]
  kernel_rfl
theorem wkQ6 : mapIsE 65 4 7 0 0 0 0 0 = 0 := by
  unfold mapIsE
  rw [wkI6]
  rfl
theorem wkI7 : mapIs 64 4 7 0 0 0 0 0 = false := by kernel_rfl
theorem wkP7 : mapIsV 64 4 7 0 0 0 0 0 = #[.int .i64 0, .int .i64 0, .int .i64 0, .int .i64 0, .int .i64 0, .int .i64 0, .int .i64 0, .int .i64 0] := by
  unfold mapIsV
  rw [wkI7]
  rfl
theorem wkQ7 : mapIsE 64 4 7 0 0 0 0 0 = 180 := by
  unfold mapIsE
  rw [wkI7]
  rfl
theorem wkQ8 : chN 65 = 2 ∧ chE 65 = 0 := ⟨by kernel_rfl, by kernel_rfl⟩

set_option maxRecDepth 100000 in
set_option maxHeartbeats 8000000 in
theorem works_any (w : World) : Calls Try.prog 8 #[] w fun e w' => e = .returned (.bool true) ∧ Below w.heap.size w w' := by
  have n0 := Blk.new w 35 #[.int .i64 0, .int .i64 0, .int .i64 0]
  have k0 := n0.setRow #[.int .i64 1, .int .i64 3, .int .i64 9]
  have hB := below_setRow ((Below.refl _ w).alloc (Nat.le_refl _) (.cells #[.int .i64 0, .int .i64 0, .int .i64 0] 35)) (g := w.heap.size) (Nat.le_refl _) #[.int .i64 1, .int .i64 3, .int .i64 9]
  go_enter Try.func8, Try.ntmps8
  go_wp2_with (first | (refine row_store (w.heap.size) 35 _ _ n0 35 _ _ rfl rfl rfl rfl (by kernel_rfl) rfl (by kernel_rfl) ?_) | (refine row_load (w.heap.size) 35 _ k0 35 _ rfl rfl rfl _ Try.underlying35 rfl (by kernel_rfl) ?_))
  refine (PutInode_any 1 3 9 _).mono ?_
  rintro e w1 ⟨rfl, hb⟩
  rw [wkP1, wkQ1]
  replace k0 := k0.below hb k0.lt
  replace hB := hB.trans (hb.mono hB.size)
  clear hb n0
  have n1 := Blk.new w1 26 #[.int .u64 0, .int .u64 0, .int .u64 0, .int .u64 0, .int .u64 0, .int .u64 0, .int .u64 0, .int .u64 0]
  have lk0 := k0.lt
  replace k0 := (k0.alloc (.cells #[.int .u64 0, .int .u64 0, .int .u64 0, .int .u64 0, .int .u64 0, .int .u64 0, .int .u64 0, .int .u64 0] 26)).farRow (g' := w1.heap.size) (by omega) #[.int .u64 769, .int .u64 9, .int .u64 0, .int .u64 0, .int .u64 0, .int .u64 0, .int .u64 0, .int .u64 0]
  clear lk0
  have k1 := n1.setRow #[.int .u64 769, .int .u64 9, .int .u64 0, .int .u64 0, .int .u64 0, .int .u64 0, .int .u64 0, .int .u64 0]
  replace hB := below_setRow (hB.alloc hB.size (.cells #[.int .u64 0, .int .u64 0, .int .u64 0, .int .u64 0, .int .u64 0, .int .u64 0, .int .u64 0, .int .u64 0] 26)) (g := w1.heap.size) hB.size #[.int .u64 769, .int .u64 9, .int .u64 0, .int .u64 0, .int .u64 0, .int .u64 0, .int .u64 0, .int .u64 0]
  go_wp2_with (first | (refine row_store (w1.heap.size) 26 _ _ n1 26 _ _ rfl rfl rfl rfl (by kernel_rfl) rfl (by kernel_rfl) ?_) | (refine row_load (w.heap.size) 35 _ k0 35 _ rfl rfl rfl _ Try.underlying35 rfl (by kernel_rfl) ?_) | (refine row_load (w1.heap.size) 26 _ k1 26 _ rfl rfl rfl _ Try.underlying26 rfl (by kernel_rfl) ?_))
  refine (GetInode_any 769 9 0 0 0 0 0 0 (by omega) (by omega) _).mono ?_
  rintro e w2 ⟨rfl, hb⟩
  rw [wkP2, wkQ2]
  replace k0 := k0.below hb k0.lt
  replace k1 := k1.below hb k1.lt
  replace hB := hB.trans (hb.mono hB.size)
  clear hb n1
  have n2 := Blk.new w2 35 #[.int .i64 0, .int .i64 0, .int .i64 0]
  have lk0 := k0.lt
  replace k0 := (k0.alloc (.cells #[.int .i64 0, .int .i64 0, .int .i64 0] 35)).farRow (g' := w2.heap.size) (by omega) #[.int .i64 1, .int .i64 3, .int .i64 9]
  clear lk0
  have lk1 := k1.lt
  replace k1 := (k1.alloc (.cells #[.int .i64 0, .int .i64 0, .int .i64 0] 35)).farRow (g' := w2.heap.size) (by omega) #[.int .i64 1, .int .i64 3, .int .i64 9]
  clear lk1
  have k2 := n2.setRow #[.int .i64 1, .int .i64 3, .int .i64 9]
  replace hB := below_setRow (hB.alloc hB.size (.cells #[.int .i64 0, .int .i64 0, .int .i64 0] 35)) (g := w2.heap.size) hB.size #[.int .i64 1, .int .i64 3, .int .i64 9]
  go_wp2_with (first | (refine row_store (w2.heap.size) 35 _ _ n2 35 _ _ rfl rfl rfl rfl (by kernel_rfl) rfl (by kernel_rfl) ?_) | (refine row_load (w.heap.size) 35 _ k0 35 _ rfl rfl rfl _ Try.underlying35 rfl (by kernel_rfl) ?_) | (refine row_load (w1.heap.size) 26 _ k1 26 _ rfl rfl rfl _ Try.underlying26 rfl (by kernel_rfl) ?_))
  refine (GetInode_any 0 0 0 0 0 0 0 0 (by omega) (by omega) _).mono ?_
  rintro e w3 ⟨rfl, hb⟩
  rw [wkP3, wkQ3]
  replace k0 := k0.below hb k0.lt
  replace k1 := k1.below hb k1.lt
  replace k2 := k2.below hb k2.lt
  replace hB := hB.trans (hb.mono hB.size)
  clear hb n2
  have n3 := Blk.new w3 35 #[.int .i64 0, .int .i64 0, .int .i64 0]
  have lk0 := k0.lt
  replace k0 := (k0.alloc (.cells #[.int .i64 0, .int .i64 0, .int .i64 0] 35)).farRow (g' := w3.heap.size) (by omega) #[.int .i64 0, .int .i64 0, .int .i64 0]
  clear lk0
  have lk1 := k1.lt
  replace k1 := (k1.alloc (.cells #[.int .i64 0, .int .i64 0, .int .i64 0] 35)).farRow (g' := w3.heap.size) (by omega) #[.int .i64 0, .int .i64 0, .int .i64 0]
  clear lk1
  have lk2 := k2.lt
  replace k2 := (k2.alloc (.cells #[.int .i64 0, .int .i64 0, .int .i64 0] 35)).farRow (g' := w3.heap.size) (by omega) #[.int .i64 0, .int .i64 0, .int .i64 0]
  clear lk2
  have k3 := n3.setRow #[.int .i64 0, .int .i64 0, .int .i64 0]
  replace hB := below_setRow (hB.alloc hB.size (.cells #[.int .i64 0, .int .i64 0, .int .i64 0] 35)) (g := w3.heap.size) hB.size #[.int .i64 0, .int .i64 0, .int .i64 0]
  go_wp2_with (first | (refine row_store (w3.heap.size) 35 _ _ n3 35 _ _ rfl rfl rfl rfl (by kernel_rfl) rfl (by kernel_rfl) ?_) | (refine row_load (w.heap.size) 35 _ k0 35 _ rfl rfl rfl _ Try.underlying35 rfl (by kernel_rfl) ?_) | (refine row_load (w1.heap.size) 26 _ k1 26 _ rfl rfl rfl _ Try.underlying26 rfl (by kernel_rfl) ?_))
  refine (PutInode_any 2 2 9 _).mono ?_
  rintro e w4 ⟨rfl, hb⟩
  rw [wkP4, wkQ4]
  replace k0 := k0.below hb k0.lt
  replace k1 := k1.below hb k1.lt
  replace k2 := k2.below hb k2.lt
  replace k3 := k3.below hb k3.lt
  replace hB := hB.trans (hb.mono hB.size)
  clear hb n3
  have n4 := Blk.new w4 26 #[.int .u64 0, .int .u64 0, .int .u64 0, .int .u64 0, .int .u64 0, .int .u64 0, .int .u64 0, .int .u64 0]
  have lk0 := k0.lt
  replace k0 := (k0.alloc (.cells #[.int .u64 0, .int .u64 0, .int .u64 0, .int .u64 0, .int .u64 0, .int .u64 0, .int .u64 0, .int .u64 0] 26)).farRow (g' := w4.heap.size) (by omega) #[.int .u64 0, .int .u64 0, .int .u64 0, .int .u64 0, .int .u64 0, .int .u64 0, .int .u64 0, .int .u64 0]
  clear lk0
  have lk1 := k1.lt
  replace k1 := (k1.alloc (.cells #[.int .u64 0, .int .u64 0, .int .u64 0, .int .u64 0, .int .u64 0, .int .u64 0, .int .u64 0, .int .u64 0] 26)).farRow (g' := w4.heap.size) (by omega) #[.int .u64 0, .int .u64 0, .int .u64 0, .int .u64 0, .int .u64 0, .int .u64 0, .int .u64 0, .int .u64 0]
  clear lk1
  have lk2 := k2.lt
  replace k2 := (k2.alloc (.cells #[.int .u64 0, .int .u64 0, .int .u64 0, .int .u64 0, .int .u64 0, .int .u64 0, .int .u64 0, .int .u64 0] 26)).farRow (g' := w4.heap.size) (by omega) #[.int .u64 0, .int .u64 0, .int .u64 0, .int .u64 0, .int .u64 0, .int .u64 0, .int .u64 0, .int .u64 0]
  clear lk2
  have lk3 := k3.lt
  replace k3 := (k3.alloc (.cells #[.int .u64 0, .int .u64 0, .int .u64 0, .int .u64 0, .int .u64 0, .int .u64 0, .int .u64 0, .int .u64 0] 26)).farRow (g' := w4.heap.size) (by omega) #[.int .u64 0, .int .u64 0, .int .u64 0, .int .u64 0, .int .u64 0, .int .u64 0, .int .u64 0, .int .u64 0]
  clear lk3
  have k4 := n4.setRow #[.int .u64 0, .int .u64 0, .int .u64 0, .int .u64 0, .int .u64 0, .int .u64 0, .int .u64 0, .int .u64 0]
  replace hB := below_setRow (hB.alloc hB.size (.cells #[.int .u64 0, .int .u64 0, .int .u64 0, .int .u64 0, .int .u64 0, .int .u64 0, .int .u64 0, .int .u64 0] 26)) (g := w4.heap.size) hB.size #[.int .u64 0, .int .u64 0, .int .u64 0, .int .u64 0, .int .u64 0, .int .u64 0, .int .u64 0, .int .u64 0]
  go_wp2_with (first | (refine row_store (w4.heap.size) 26 _ _ n4 26 _ _ rfl rfl rfl rfl (by kernel_rfl) rfl (by kernel_rfl) ?_) | (refine row_load (w.heap.size) 35 _ k0 35 _ rfl rfl rfl _ Try.underlying35 rfl (by kernel_rfl) ?_) | (refine row_load (w1.heap.size) 26 _ k1 26 _ rfl rfl rfl _ Try.underlying26 rfl (by kernel_rfl) ?_))
  refine (PutEntry_any 0 5 ⟨#[97, 98]⟩ _).mono ?_
  rintro e w5 ⟨rfl, hb⟩
  rw [wkP5, wkQ5]
  replace k0 := k0.below hb k0.lt
  replace k1 := k1.below hb k1.lt
  replace k2 := k2.below hb k2.lt
  replace k3 := k3.below hb k3.lt
  replace k4 := k4.below hb k4.lt
  replace hB := hB.trans (hb.mono hB.size)
  clear hb n4
  have n5 := Blk.new w5 26 #[.int .u64 0, .int .u64 0, .int .u64 0, .int .u64 0, .int .u64 0, .int .u64 0, .int .u64 0, .int .u64 0]
  have lk0 := k0.lt
  replace k0 := (k0.alloc (.cells #[.int .u64 0, .int .u64 0, .int .u64 0, .int .u64 0, .int .u64 0, .int .u64 0, .int .u64 0, .int .u64 0] 26)).farRow (g' := w5.heap.size) (by omega) #[.int .u64 0, .int .u64 5, .int .u64 2, .int .u64 25185, .int .u64 0, .int .u64 0, .int .u64 0, .int .u64 0]
  clear lk0
  have lk1 := k1.lt
  replace k1 := (k1.alloc (.cells #[.int .u64 0, .int .u64 0, .int .u64 0, .int .u64 0, .int .u64 0, .int .u64 0, .int .u64 0, .int .u64 0] 26)).farRow (g' := w5.heap.size) (by omega) #[.int .u64 0, .int .u64 5, .int .u64 2, .int .u64 25185, .int .u64 0, .int .u64 0, .int .u64 0, .int .u64 0]
  clear lk1
  have lk2 := k2.lt
  replace k2 := (k2.alloc (.cells #[.int .u64 0, .int .u64 0, .int .u64 0, .int .u64 0, .int .u64 0, .int .u64 0, .int .u64 0, .int .u64 0] 26)).farRow (g' := w5.heap.size) (by omega) #[.int .u64 0, .int .u64 5, .int .u64 2, .int .u64 25185, .int .u64 0, .int .u64 0, .int .u64 0, .int .u64 0]
  clear lk2
  have lk3 := k3.lt
  replace k3 := (k3.alloc (.cells #[.int .u64 0, .int .u64 0, .int .u64 0, .int .u64 0, .int .u64 0, .int .u64 0, .int .u64 0, .int .u64 0] 26)).farRow (g' := w5.heap.size) (by omega) #[.int .u64 0, .int .u64 5, .int .u64 2, .int .u64 25185, .int .u64 0, .int .u64 0, .int .u64 0, .int .u64 0]
  clear lk3
  have lk4 := k4.lt
  replace k4 := (k4.alloc (.cells #[.int .u64 0, .int .u64 0, .int .u64 0, .int .u64 0, .int .u64 0, .int .u64 0, .int .u64 0, .int .u64 0] 26)).farRow (g' := w5.heap.size) (by omega) #[.int .u64 0, .int .u64 5, .int .u64 2, .int .u64 25185, .int .u64 0, .int .u64 0, .int .u64 0, .int .u64 0]
  clear lk4
  have k5 := n5.setRow #[.int .u64 0, .int .u64 5, .int .u64 2, .int .u64 25185, .int .u64 0, .int .u64 0, .int .u64 0, .int .u64 0]
  replace hB := below_setRow (hB.alloc hB.size (.cells #[.int .u64 0, .int .u64 0, .int .u64 0, .int .u64 0, .int .u64 0, .int .u64 0, .int .u64 0, .int .u64 0] 26)) (g := w5.heap.size) hB.size #[.int .u64 0, .int .u64 5, .int .u64 2, .int .u64 25185, .int .u64 0, .int .u64 0, .int .u64 0, .int .u64 0]
  go_wp2_with (first | (refine row_store (w5.heap.size) 26 _ _ n5 26 _ _ rfl rfl rfl rfl (by kernel_rfl) rfl (by kernel_rfl) ?_) | (refine row_load (w.heap.size) 35 _ k0 35 _ rfl rfl rfl _ Try.underlying35 rfl (by kernel_rfl) ?_) | (refine row_load (w1.heap.size) 26 _ k1 26 _ rfl rfl rfl _ Try.underlying26 rfl (by kernel_rfl) ?_))
  refine (GetMap_any 65 4 7 0 0 0 0 0 (by omega) (by omega) (by omega) (by omega) (by omega) (by omega) (by omega) (by omega) _).mono ?_
  rintro e w6 ⟨rfl, hb⟩
  rw [wkP6, wkQ6]
  replace k0 := k0.below hb k0.lt
  replace k1 := k1.below hb k1.lt
  replace k2 := k2.below hb k2.lt
  replace k3 := k3.below hb k3.lt
  replace k4 := k4.below hb k4.lt
  replace k5 := k5.below hb k5.lt
  replace hB := hB.trans (hb.mono hB.size)
  clear hb n5
  have n6 := Blk.new w6 39 #[.int .i64 0, .int .i64 0, .int .i64 0, .int .i64 0, .int .i64 0, .int .i64 0, .int .i64 0, .int .i64 0]
  have lk0 := k0.lt
  replace k0 := (k0.alloc (.cells #[.int .i64 0, .int .i64 0, .int .i64 0, .int .i64 0, .int .i64 0, .int .i64 0, .int .i64 0, .int .i64 0] 39)).farRow (g' := w6.heap.size) (by omega) #[.int .i64 65, .int .i64 4, .int .i64 7, .int .i64 0, .int .i64 0, .int .i64 0, .int .i64 0, .int .i64 0]
  clear lk0
  have lk1 := k1.lt
  replace k1 := (k1.alloc (.cells #[.int .i64 0, .int .i64 0, .int .i64 0, .int .i64 0, .int .i64 0, .int .i64 0, .int .i64 0, .int .i64 0] 39)).farRow (g' := w6.heap.size) (by omega) #[.int .i64 65, .int .i64 4, .int .i64 7, .int .i64 0, .int .i64 0, .int .i64 0, .int .i64 0, .int .i64 0]
  clear lk1
  have lk2 := k2.lt
  replace k2 := (k2.alloc (.cells #[.int .i64 0, .int .i64 0, .int .i64 0, .int .i64 0, .int .i64 0, .int .i64 0, .int .i64 0, .int .i64 0] 39)).farRow (g' := w6.heap.size) (by omega) #[.int .i64 65, .int .i64 4, .int .i64 7, .int .i64 0, .int .i64 0, .int .i64 0, .int .i64 0, .int .i64 0]
  clear lk2
  have lk3 := k3.lt
  replace k3 := (k3.alloc (.cells #[.int .i64 0, .int .i64 0, .int .i64 0, .int .i64 0, .int .i64 0, .int .i64 0, .int .i64 0, .int .i64 0] 39)).farRow (g' := w6.heap.size) (by omega) #[.int .i64 65, .int .i64 4, .int .i64 7, .int .i64 0, .int .i64 0, .int .i64 0, .int .i64 0, .int .i64 0]
  clear lk3
  have lk4 := k4.lt
  replace k4 := (k4.alloc (.cells #[.int .i64 0, .int .i64 0, .int .i64 0, .int .i64 0, .int .i64 0, .int .i64 0, .int .i64 0, .int .i64 0] 39)).farRow (g' := w6.heap.size) (by omega) #[.int .i64 65, .int .i64 4, .int .i64 7, .int .i64 0, .int .i64 0, .int .i64 0, .int .i64 0, .int .i64 0]
  clear lk4
  have lk5 := k5.lt
  replace k5 := (k5.alloc (.cells #[.int .i64 0, .int .i64 0, .int .i64 0, .int .i64 0, .int .i64 0, .int .i64 0, .int .i64 0, .int .i64 0] 39)).farRow (g' := w6.heap.size) (by omega) #[.int .i64 65, .int .i64 4, .int .i64 7, .int .i64 0, .int .i64 0, .int .i64 0, .int .i64 0, .int .i64 0]
  clear lk5
  have k6 := n6.setRow #[.int .i64 65, .int .i64 4, .int .i64 7, .int .i64 0, .int .i64 0, .int .i64 0, .int .i64 0, .int .i64 0]
  replace hB := below_setRow (hB.alloc hB.size (.cells #[.int .i64 0, .int .i64 0, .int .i64 0, .int .i64 0, .int .i64 0, .int .i64 0, .int .i64 0, .int .i64 0] 39)) (g := w6.heap.size) hB.size #[.int .i64 65, .int .i64 4, .int .i64 7, .int .i64 0, .int .i64 0, .int .i64 0, .int .i64 0, .int .i64 0]
  go_wp2_with (first | (refine row_store (w6.heap.size) 39 _ _ n6 39 _ _ rfl rfl rfl rfl (by kernel_rfl) rfl (by kernel_rfl) ?_) | (refine row_load (w.heap.size) 35 _ k0 35 _ rfl rfl rfl _ Try.underlying35 rfl (by kernel_rfl) ?_) | (refine row_load (w1.heap.size) 26 _ k1 26 _ rfl rfl rfl _ Try.underlying26 rfl (by kernel_rfl) ?_))
  refine (GetMap_any 64 4 7 0 0 0 0 0 (by omega) (by omega) (by omega) (by omega) (by omega) (by omega) (by omega) (by omega) _).mono ?_
  rintro e w7 ⟨rfl, hb⟩
  rw [wkP7, wkQ7]
  replace k0 := k0.below hb k0.lt
  replace k1 := k1.below hb k1.lt
  replace k2 := k2.below hb k2.lt
  replace k3 := k3.below hb k3.lt
  replace k4 := k4.below hb k4.lt
  replace k5 := k5.below hb k5.lt
  replace k6 := k6.below hb k6.lt
  replace hB := hB.trans (hb.mono hB.size)
  clear hb n6
  have n7 := Blk.new w7 39 #[.int .i64 0, .int .i64 0, .int .i64 0, .int .i64 0, .int .i64 0, .int .i64 0, .int .i64 0, .int .i64 0]
  have lk0 := k0.lt
  replace k0 := (k0.alloc (.cells #[.int .i64 0, .int .i64 0, .int .i64 0, .int .i64 0, .int .i64 0, .int .i64 0, .int .i64 0, .int .i64 0] 39)).farRow (g' := w7.heap.size) (by omega) #[.int .i64 0, .int .i64 0, .int .i64 0, .int .i64 0, .int .i64 0, .int .i64 0, .int .i64 0, .int .i64 0]
  clear lk0
  have lk1 := k1.lt
  replace k1 := (k1.alloc (.cells #[.int .i64 0, .int .i64 0, .int .i64 0, .int .i64 0, .int .i64 0, .int .i64 0, .int .i64 0, .int .i64 0] 39)).farRow (g' := w7.heap.size) (by omega) #[.int .i64 0, .int .i64 0, .int .i64 0, .int .i64 0, .int .i64 0, .int .i64 0, .int .i64 0, .int .i64 0]
  clear lk1
  have lk2 := k2.lt
  replace k2 := (k2.alloc (.cells #[.int .i64 0, .int .i64 0, .int .i64 0, .int .i64 0, .int .i64 0, .int .i64 0, .int .i64 0, .int .i64 0] 39)).farRow (g' := w7.heap.size) (by omega) #[.int .i64 0, .int .i64 0, .int .i64 0, .int .i64 0, .int .i64 0, .int .i64 0, .int .i64 0, .int .i64 0]
  clear lk2
  have lk3 := k3.lt
  replace k3 := (k3.alloc (.cells #[.int .i64 0, .int .i64 0, .int .i64 0, .int .i64 0, .int .i64 0, .int .i64 0, .int .i64 0, .int .i64 0] 39)).farRow (g' := w7.heap.size) (by omega) #[.int .i64 0, .int .i64 0, .int .i64 0, .int .i64 0, .int .i64 0, .int .i64 0, .int .i64 0, .int .i64 0]
  clear lk3
  have lk4 := k4.lt
  replace k4 := (k4.alloc (.cells #[.int .i64 0, .int .i64 0, .int .i64 0, .int .i64 0, .int .i64 0, .int .i64 0, .int .i64 0, .int .i64 0] 39)).farRow (g' := w7.heap.size) (by omega) #[.int .i64 0, .int .i64 0, .int .i64 0, .int .i64 0, .int .i64 0, .int .i64 0, .int .i64 0, .int .i64 0]
  clear lk4
  have lk5 := k5.lt
  replace k5 := (k5.alloc (.cells #[.int .i64 0, .int .i64 0, .int .i64 0, .int .i64 0, .int .i64 0, .int .i64 0, .int .i64 0, .int .i64 0] 39)).farRow (g' := w7.heap.size) (by omega) #[.int .i64 0, .int .i64 0, .int .i64 0, .int .i64 0, .int .i64 0, .int .i64 0, .int .i64 0, .int .i64 0]
  clear lk5
  have lk6 := k6.lt
  replace k6 := (k6.alloc (.cells #[.int .i64 0, .int .i64 0, .int .i64 0, .int .i64 0, .int .i64 0, .int .i64 0, .int .i64 0, .int .i64 0] 39)).farRow (g' := w7.heap.size) (by omega) #[.int .i64 0, .int .i64 0, .int .i64 0, .int .i64 0, .int .i64 0, .int .i64 0, .int .i64 0, .int .i64 0]
  clear lk6
  have k7 := n7.setRow #[.int .i64 0, .int .i64 0, .int .i64 0, .int .i64 0, .int .i64 0, .int .i64 0, .int .i64 0, .int .i64 0]
  replace hB := below_setRow (hB.alloc hB.size (.cells #[.int .i64 0, .int .i64 0, .int .i64 0, .int .i64 0, .int .i64 0, .int .i64 0, .int .i64 0, .int .i64 0] 39)) (g := w7.heap.size) hB.size #[.int .i64 0, .int .i64 0, .int .i64 0, .int .i64 0, .int .i64 0, .int .i64 0, .int .i64 0, .int .i64 0]
  go_wp2_with (refine row_store (w7.heap.size) 39 _ _ n7 39 _ _ rfl rfl rfl rfl (by kernel_rfl) rfl (by kernel_rfl) ?_)
  refine (Chunks_any 65 _).mono ?_
  rintro e w9 ⟨rfl, rfl⟩
  rw [wkQ8.1, wkQ8.2]
  have q1 : ∀ W : World, (Op.equalIn 10000 26 (.agg #[.int .u64 769, .int .u64 9, .int .u64 0, .int .u64 0, .int .u64 0, .int .u64 0, .int .u64 0, .int .u64 0]) (.agg #[.int .u64 769, .int .u64 9, .int .u64 0, .int .u64 0, .int .u64 0, .int .u64 0, .int .u64 0, .int .u64 0])).run Try.prog W = .ok true W := fun W => by kernel_rfl
  have q2 : ∀ W : World, (Op.equalIn 10000 35 (.agg #[.int .i64 1, .int .i64 3, .int .i64 9]) (.agg #[.int .i64 1, .int .i64 3, .int .i64 9])).run Try.prog W = .ok true W := fun W => by kernel_rfl
  have q3 : ∀ W : World, (Op.equalIn 10000 26 (.agg #[.int .u64 0, .int .u64 5, .int .u64 2, .int .u64 25185, .int .u64 0, .int .u64 0, .int .u64 0, .int .u64 0]) (.agg #[.int .u64 0, .int .u64 5, .int .u64 2, .int .u64 25185, .int .u64 0, .int .u64 0, .int .u64 0, .int .u64 0])).run Try.prog W = .ok true W := fun W => by kernel_rfl
  have q4 : ∀ W : World, (Op.equalIn 10000 39 (.agg #[.int .i64 65, .int .i64 4, .int .i64 7, .int .i64 0, .int .i64 0, .int .i64 0, .int .i64 0, .int .i64 0]) (.agg #[.int .i64 65, .int .i64 4, .int .i64 7, .int .i64 0, .int .i64 0, .int .i64 0, .int .i64 0, .int .i64 0])).run Try.prog W = .ok true W := fun W => by kernel_rfl
  go_wp2_with (first | (go_at_call 10; refine (num_any _ _).mono ?_; rintro e w' ⟨rfl, rfl⟩) | (refine row_load_w (w1.heap.size) 26 _ k1 26 _ rfl rfl rfl _ Try.underlying26 rfl (by kernel_rfl) ?_) | (refine row_load_w (w2.heap.size) 35 _ k2 35 _ rfl rfl rfl _ Try.underlying35 rfl (by kernel_rfl) ?_) | (refine row_load_w (w.heap.size) 35 _ k0 35 _ rfl rfl rfl _ Try.underlying35 rfl (by kernel_rfl) ?_) | (refine row_load_w (w5.heap.size) 26 _ k5 26 _ rfl rfl rfl _ Try.underlying26 rfl (by kernel_rfl) ?_) | (refine row_load_w (w6.heap.size) 39 _ k6 39 _ rfl rfl rfl _ Try.underlying39 rfl (by kernel_rfl) ?_))
  go_ret
  exact ⟨rfl, hB⟩
end Go.Proofs.Ytdgnbmcckknfiaa
