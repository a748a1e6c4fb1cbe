/- The walk of the law NodePuts. No conditions. -/
import Derived.Test.YtdgnbmcckknfiaaRefT
import Derived.Test.YtdgnbmcckknfiaaWrkN
namespace Go.Proofs.Ytdgnbmcckknfiaa
open Go.RowKit
set_option linter.unusedSimpArgs false
theorem supL_cells (r l : Int) : ∃ x0 x1 x2 x3 x4 x5 x6 x7 : Int, supL r l = #[.int .u64 x0, .int .u64 x1, .int .u64 x2, .int .u64 x3, .int .u64 x4, .int .u64 x5, .int .u64 x6, .int .u64 x7] := by
  unfold supL
  split
  · exact ⟨_, _, _, _, _, _, _, _, rfl⟩
  · exact ⟨_, _, _, _, _, _, _, _, rfl⟩
theorem inoL_cells (k l t : Int) : ∃ x0 x1 x2 x3 x4 x5 x6 x7 : Int, inoL k l t = #[.int .u64 x0, .int .u64 x1, .int .u64 x2, .int .u64 x3, .int .u64 x4, .int .u64 x5, .int .u64 x6, .int .u64 x7] := by
  unfold inoL
  split
  · exact ⟨_, _, _, _, _, _, _, _, rfl⟩
  · exact ⟨_, _, _, _, _, _, _, _, rfl⟩
theorem tabL_cells (y0 y1 y2 y3 y4 y5 y6 : Int) : ∃ x0 x1 x2 x3 x4 x5 x6 x7 : Int, tabL y0 y1 y2 y3 y4 y5 y6 = #[.int .u64 x0, .int .u64 x1, .int .u64 x2, .int .u64 x3, .int .u64 x4, .int .u64 x5, .int .u64 x6, .int .u64 x7] := by
  unfold tabL
  split
  · exact ⟨_, _, _, _, _, _, _, _, rfl⟩
  · exact ⟨_, _, _, _, _, _, _, _, rfl⟩

set_option maxRecDepth 100000 in
set_option maxHeartbeats 8000000 in
theorem nodePuts_any (r l k j t : Int) (y0 y1 y2 y3 y4 y5 y6 : Int) (w : World) : Calls Try.prog 6 #[.agg #[.int .i64 r, .int .i64 l], .agg #[.int .i64 k, .int .i64 j, .int .i64 t], .agg #[.int .i64 y0, .int .i64 y1, .int .i64 y2, .int .i64 y3, .int .i64 y4, .int .i64 y5, .int .i64 y6]] w fun e w' => e = .returned (.bool true) ∧ Below w.heap.size w w' := by
  have kS := ((Blk.new w 51 #[.int .i64 r, .int .i64 l]).alloc (.cells #[.int .i64 k, .int .i64 j, .int .i64 t] 35)).alloc (.cells #[.int .i64 y0, .int .i64 y1, .int .i64 y2, .int .i64 y3, .int .i64 y4, .int .i64 y5, .int .i64 y6] 53)
  have kI := (Blk.new (w.alloc (.cells #[.int .i64 r, .int .i64 l] 51)) 35 #[.int .i64 k, .int .i64 j, .int .i64 t]).alloc (.cells #[.int .i64 y0, .int .i64 y1, .int .i64 y2, .int .i64 y3, .int .i64 y4, .int .i64 y5, .int .i64 y6] 53)
  have kT := Blk.new ((w.alloc (.cells #[.int .i64 r, .int .i64 l] 51)).alloc (.cells #[.int .i64 k, .int .i64 j, .int .i64 t] 35)) 53 #[.int .i64 y0, .int .i64 y1, .int .i64 y2, .int .i64 y3, .int .i64 y4, .int .i64 y5, .int .i64 y6]
  simp only [World.size_alloc] at kI kT
  have hB : Below w.heap.size w (((w.alloc (.cells #[.int .i64 r, .int .i64 l] 51)).alloc (.cells #[.int .i64 k, .int .i64 j, .int .i64 t] 35)).alloc (.cells #[.int .i64 y0, .int .i64 y1, .int .i64 y2, .int .i64 y3, .int .i64 y4, .int .i64 y5, .int .i64 y6] 53)) := (((Below.refl _ w).alloc (Nat.le_refl _) _).alloc (by simp) _).alloc (by simp; omega) _
  obtain ⟨a0, a1, a2, a3, a4, a5, a6, a7, hA⟩ := supL_cells r l
  obtain ⟨b0, b1, b2, b3, b4, b5, b6, b7, hBv⟩ := inoL_cells k j t
  obtain ⟨c0, c1, c2, c3, c4, c5, c6, c7, hC⟩ := tabL_cells y0 y1 y2 y3 y4 y5 y6
  obtain ⟨e1, he1⟩ : ∃ e, supE r l = e := ⟨_, rfl⟩
  obtain ⟨e2, he2⟩ : ∃ e, inoE k j t = e := ⟨_, rfl⟩
  obtain ⟨e3, he3⟩ : ∃ e, tabE y0 y1 y2 y3 y4 y5 y6 = e := ⟨_, rfl⟩
  obtain ⟨o1, ho1⟩ : ∃ o, supOk r l = o := ⟨_, rfl⟩
  obtain ⟨o2, ho2⟩ : ∃ o, inoOk k j t = o := ⟨_, rfl⟩
  obtain ⟨o3, ho3⟩ : ∃ o, tabOk y0 y1 y2 y3 y4 y5 y6 = o := ⟨_, rfl⟩
  obtain ⟨R1, hR1⟩ : ∃ R, rsupL r l = R := ⟨_, rfl⟩
  obtain ⟨R2, hR2⟩ : ∃ R, rinoL k j t = R := ⟨_, rfl⟩
  obtain ⟨R3, hR3⟩ : ∃ R, rtabL y0 y1 y2 y3 y4 y5 y6 = R := ⟨_, rfl⟩
  have P1 := put_sup r l
  have P2 := put_ino k j t
  have P3 := put_tab y0 y1 y2 y3 y4 y5 y6
  have G1 := rSuperP_any r l
  have G2 := rInodeP_any k j t
  have G3 := rTableP_any y0 y1 y2 y3 y4 y5 y6
  have O1 := rSuperR_any r l
  have O2 := rInodeR_any k j t
  have O3 := rTableR_any y0 y1 y2 y3 y4 y5 y6
  rw [hA, he1, ho1, hR1] at P1
  rw [hBv, he2, ho2, hR2] at P2
  rw [hC, he3, ho3, hR3] at P3
  rw [hR1] at G1
  rw [hR2] at G2
  rw [hR3] at G3
  rw [ho1] at O1
  rw [ho2] at O2
  rw [ho3] at O3
  have HA := Lib.hid (And.intro hA he1)
  have HI := Lib.hid (And.intro hBv he2)
  have HT := Lib.hid (And.intro hC he3)
  have P1 := Lib.hid P1
  have P2 := Lib.hid P2
  have P3 := Lib.hid P3
  have G1 := Lib.hid G1
  have G2 := Lib.hid G2
  have G3 := Lib.hid G3
  have O1 := Lib.hid O1
  have O2 := Lib.hid O2
  have O3 := Lib.hid O3
  clear hA hBv hC he1 he2 he3 ho1 ho2 ho3 hR1 hR2 hR3
  go_enter Try.func6, Try.ntmps6
  go_wp2_with (refine row_load (w.heap.size) 51 _ kS 51 _ rfl rfl rfl _ Try.underlying51 rfl (by kernel_rfl) ?_)
  refine (PutSuper_any r l _).mono ?_
  rintro e w1 ⟨rfl, hb⟩
  rw [HA.out.1, HA.out.2]
  replace kS := kS.below hb kS.lt
  replace kI := kI.below hb kI.lt
  replace kT := kT.below hb kT.lt
  replace hB := hB.trans (hb.mono hB.size)
  clear hb
  have n_w1 := Blk.new w1 26 #[.int .u64 0, .int .u64 0, .int .u64 0, .int .u64 0, .int .u64 0, .int .u64 0, .int .u64 0, .int .u64 0]
  have lkS := kS.lt
  replace kS := (kS.alloc (.cells #[.int .u64 0, .int .u64 0, .int .u64 0, .int .u64 0, .int .u64 0, .int .u64 0, .int .u64 0, .int .u64 0] 26)).farRow (g' := w1.heap.size) (by omega) #[.int .u64 a0, .int .u64 a1, .int .u64 a2, .int .u64 a3, .int .u64 a4, .int .u64 a5, .int .u64 a6, .int .u64 a7]
  clear lkS
  have lkI := kI.lt
  replace kI := (kI.alloc (.cells #[.int .u64 0, .int .u64 0, .int .u64 0, .int .u64 0, .int .u64 0, .int .u64 0, .int .u64 0, .int .u64 0] 26)).farRow (g' := w1.heap.size) (by omega) #[.int .u64 a0, .int .u64 a1, .int .u64 a2, .int .u64 a3, .int .u64 a4, .int .u64 a5, .int .u64 a6, .int .u64 a7]
  clear lkI
  have lkT := kT.lt
  replace kT := (kT.alloc (.cells #[.int .u64 0, .int .u64 0, .int .u64 0, .int .u64 0, .int .u64 0, .int .u64 0, .int .u64 0, .int .u64 0] 26)).farRow (g' := w1.heap.size) (by omega) #[.int .u64 a0, .int .u64 a1, .int .u64 a2, .int .u64 a3, .int .u64 a4, .int .u64 a5, .int .u64 a6, .int .u64 a7]
  clear lkT
  have q_w1 := n_w1.setRow #[.int .u64 a0, .int .u64 a1, .int .u64 a2, .int .u64 a3, .int .u64 a4, .int .u64 a5, .int .u64 a6, .int .u64 a7]
  replace hB := below_setRow (hB.alloc hB.size (.cells #[.int .u64 0, .int .u64 0, .int .u64 0, .int .u64 0, .int .u64 0, .int .u64 0, .int .u64 0, .int .u64 0] 26)) (g := w1.heap.size) hB.size #[.int .u64 a0, .int .u64 a1, .int .u64 a2, .int .u64 a3, .int .u64 a4, .int .u64 a5, .int .u64 a6, .int .u64 a7]
  go_wp2_with (first | (refine row_store (w1.heap.size) 26 _ _ n_w1 26 _ _ rfl rfl rfl rfl (by kernel_rfl) rfl (by kernel_rfl) ?_) | (refine row_load (w.heap.size + 1) 35 _ kI 35 _ rfl rfl rfl _ Try.underlying35 rfl (by kernel_rfl) ?_))
  refine (PutInode_any k j t _).mono ?_
  rintro e w2 ⟨rfl, hb⟩
  rw [HI.out.1, HI.out.2]
  replace kS := kS.below hb kS.lt
  replace kI := kI.below hb kI.lt
  replace kT := kT.below hb kT.lt
  replace q_w1 := q_w1.below hb q_w1.lt
  replace hB := hB.trans (hb.mono hB.size)
  clear hb
  have n_w2 := Blk.new w2 26 #[.int .u64 0, .int .u64 0, .int .u64 0, .int .u64 0, .int .u64 0, .int .u64 0, .int .u64 0, .int .u64 0]
  have lkS := kS.lt
  replace kS := (kS.alloc (.cells #[.int .u64 0, .int .u64 0, .int .u64 0, .int .u64 0, .int .u64 0, .int .u64 0, .int .u64 0, .int .u64 0] 26)).farRow (g' := w2.heap.size) (by omega) #[.int .u64 b0, .int .u64 b1, .int .u64 b2, .int .u64 b3, .int .u64 b4, .int .u64 b5, .int .u64 b6, .int .u64 b7]
  clear lkS
  have lkI := kI.lt
  replace kI := (kI.alloc (.cells #[.int .u64 0, .int .u64 0, .int .u64 0, .int .u64 0, .int .u64 0, .int .u64 0, .int .u64 0, .int .u64 0] 26)).farRow (g' := w2.heap.size) (by omega) #[.int .u64 b0, .int .u64 b1, .int .u64 b2, .int .u64 b3, .int .u64 b4, .int .u64 b5, .int .u64 b6, .int .u64 b7]
  clear lkI
  have lkT := kT.lt
  replace kT := (kT.alloc (.cells #[.int .u64 0, .int .u64 0, .int .u64 0, .int .u64 0, .int .u64 0, .int .u64 0, .int .u64 0, .int .u64 0] 26)).farRow (g' := w2.heap.size) (by omega) #[.int .u64 b0, .int .u64 b1, .int .u64 b2, .int .u64 b3, .int .u64 b4, .int .u64 b5, .int .u64 b6, .int .u64 b7]
  clear lkT
  have lq_w1 := q_w1.lt
  replace q_w1 := (q_w1.alloc (.cells #[.int .u64 0, .int .u64 0, .int .u64 0, .int .u64 0, .int .u64 0, .int .u64 0, .int .u64 0, .int .u64 0] 26)).farRow (g' := w2.heap.size) (by omega) #[.int .u64 b0, .int .u64 b1, .int .u64 b2, .int .u64 b3, .int .u64 b4, .int .u64 b5, .int .u64 b6, .int .u64 b7]
  clear lq_w1
  have q_w2 := n_w2.setRow #[.int .u64 b0, .int .u64 b1, .int .u64 b2, .int .u64 b3, .int .u64 b4, .int .u64 b5, .int .u64 b6, .int .u64 b7]
  replace hB := below_setRow (hB.alloc hB.size (.cells #[.int .u64 0, .int .u64 0, .int .u64 0, .int .u64 0, .int .u64 0, .int .u64 0, .int .u64 0, .int .u64 0] 26)) (g := w2.heap.size) hB.size #[.int .u64 b0, .int .u64 b1, .int .u64 b2, .int .u64 b3, .int .u64 b4, .int .u64 b5, .int .u64 b6, .int .u64 b7]
  go_wp2_with (first | (refine row_store (w2.heap.size) 26 _ _ n_w2 26 _ _ rfl rfl rfl rfl (by kernel_rfl) rfl (by kernel_rfl) ?_) | (refine row_load (w.heap.size + 1 + 1) 53 _ kT 53 _ rfl rfl rfl _ Try.underlying53 rfl (by kernel_rfl) ?_))
  refine (PutTable_any y0 y1 y2 y3 y4 y5 y6 _).mono ?_
  rintro e w3 ⟨rfl, hb⟩
  rw [HT.out.1, HT.out.2]
  replace kS := kS.below hb kS.lt
  replace kI := kI.below hb kI.lt
  replace kT := kT.below hb kT.lt
  replace q_w1 := q_w1.below hb q_w1.lt
  replace q_w2 := q_w2.below hb q_w2.lt
  replace hB := hB.trans (hb.mono hB.size)
  clear hb
  have n_w3 := Blk.new w3 26 #[.int .u64 0, .int .u64 0, .int .u64 0, .int .u64 0, .int .u64 0, .int .u64 0, .int .u64 0, .int .u64 0]
  have lkS := kS.lt
  replace kS := (kS.alloc (.cells #[.int .u64 0, .int .u64 0, .int .u64 0, .int .u64 0, .int .u64 0, .int .u64 0, .int .u64 0, .int .u64 0] 26)).farRow (g' := w3.heap.size) (by omega) #[.int .u64 c0, .int .u64 c1, .int .u64 c2, .int .u64 c3, .int .u64 c4, .int .u64 c5, .int .u64 c6, .int .u64 c7]
  clear lkS
  have lkI := kI.lt
  replace kI := (kI.alloc (.cells #[.int .u64 0, .int .u64 0, .int .u64 0, .int .u64 0, .int .u64 0, .int .u64 0, .int .u64 0, .int .u64 0] 26)).farRow (g' := w3.heap.size) (by omega) #[.int .u64 c0, .int .u64 c1, .int .u64 c2, .int .u64 c3, .int .u64 c4, .int .u64 c5, .int .u64 c6, .int .u64 c7]
  clear lkI
  have lkT := kT.lt
  replace kT := (kT.alloc (.cells #[.int .u64 0, .int .u64 0, .int .u64 0, .int .u64 0, .int .u64 0, .int .u64 0, .int .u64 0, .int .u64 0] 26)).farRow (g' := w3.heap.size) (by omega) #[.int .u64 c0, .int .u64 c1, .int .u64 c2, .int .u64 c3, .int .u64 c4, .int .u64 c5, .int .u64 c6, .int .u64 c7]
  clear lkT
  have lq_w1 := q_w1.lt
  replace q_w1 := (q_w1.alloc (.cells #[.int .u64 0, .int .u64 0, .int .u64 0, .int .u64 0, .int .u64 0, .int .u64 0, .int .u64 0, .int .u64 0] 26)).farRow (g' := w3.heap.size) (by omega) #[.int .u64 c0, .int .u64 c1, .int .u64 c2, .int .u64 c3, .int .u64 c4, .int .u64 c5, .int .u64 c6, .int .u64 c7]
  clear lq_w1
  have lq_w2 := q_w2.lt
  replace q_w2 := (q_w2.alloc (.cells #[.int .u64 0, .int .u64 0, .int .u64 0, .int .u64 0, .int .u64 0, .int .u64 0, .int .u64 0, .int .u64 0] 26)).farRow (g' := w3.heap.size) (by omega) #[.int .u64 c0, .int .u64 c1, .int .u64 c2, .int .u64 c3, .int .u64 c4, .int .u64 c5, .int .u64 c6, .int .u64 c7]
  clear lq_w2
  have q_w3 := n_w3.setRow #[.int .u64 c0, .int .u64 c1, .int .u64 c2, .int .u64 c3, .int .u64 c4, .int .u64 c5, .int .u64 c6, .int .u64 c7]
  replace hB := below_setRow (hB.alloc hB.size (.cells #[.int .u64 0, .int .u64 0, .int .u64 0, .int .u64 0, .int .u64 0, .int .u64 0, .int .u64 0, .int .u64 0] 26)) (g := w3.heap.size) hB.size #[.int .u64 c0, .int .u64 c1, .int .u64 c2, .int .u64 c3, .int .u64 c4, .int .u64 c5, .int .u64 c6, .int .u64 c7]
  go_wp2_with (refine row_store (w3.heap.size) 26 _ _ n_w3 26 _ _ rfl rfl rfl rfl (by kernel_rfl) rfl (by kernel_rfl) ?_)
  generalize ((w3.alloc (.cells #[.int .u64 0, .int .u64 0, .int .u64 0, .int .u64 0, .int .u64 0, .int .u64 0, .int .u64 0, .int .u64 0] 26)).setRow w3.heap.size #[.int .u64 c0, .int .u64 c1, .int .u64 c2, .int .u64 c3, .int .u64 c4, .int .u64 c5, .int .u64 c6, .int .u64 c7]) = Z at *
  have hS : ∀ w', Below Z.heap.size Z w' → w'.cell? ⟨w.heap.size, 0, none⟩ = some (.int .i64 r) ∧ w'.cell? ⟨w.heap.size, 1, none⟩ = some (.int .i64 l) ∧ w'.cell? ⟨w.heap.size + 1, 0, none⟩ = some (.int .i64 k) ∧ w'.cell? ⟨w.heap.size + 1, 1, none⟩ = some (.int .i64 j) ∧ w'.cell? ⟨w.heap.size + 1, 2, none⟩ = some (.int .i64 t) ∧ w'.cell? ⟨w.heap.size + 1 + 1, 0, none⟩ = some (.int .i64 y0) ∧ w'.cell? ⟨w.heap.size + 1 + 1, 1, none⟩ = some (.int .i64 y1) ∧ w'.cell? ⟨w.heap.size + 1 + 1, 2, none⟩ = some (.int .i64 y2) ∧ w'.cell? ⟨w.heap.size + 1 + 1, 3, none⟩ = some (.int .i64 y3) ∧ w'.cell? ⟨w.heap.size + 1 + 1, 4, none⟩ = some (.int .i64 y4) ∧ w'.cell? ⟨w.heap.size + 1 + 1, 5, none⟩ = some (.int .i64 y5) ∧ w'.cell? ⟨w.heap.size + 1 + 1, 6, none⟩ = some (.int .i64 y6) ∧ w'.cell? ⟨w1.heap.size, 0, none⟩ = some (.int .u64 a0) ∧ w'.cell? ⟨w1.heap.size, 1, none⟩ = some (.int .u64 a1) ∧ w'.cell? ⟨w1.heap.size, 2, none⟩ = some (.int .u64 a2) ∧ w'.cell? ⟨w1.heap.size, 3, none⟩ = some (.int .u64 a3) ∧ w'.cell? ⟨w1.heap.size, 4, none⟩ = some (.int .u64 a4) ∧ w'.cell? ⟨w1.heap.size, 5, none⟩ = some (.int .u64 a5) ∧ w'.cell? ⟨w1.heap.size, 6, none⟩ = some (.int .u64 a6) ∧ w'.cell? ⟨w1.heap.size, 7, none⟩ = some (.int .u64 a7) ∧ w'.cell? ⟨w2.heap.size, 0, none⟩ = some (.int .u64 b0) ∧ w'.cell? ⟨w2.heap.size, 1, none⟩ = some (.int .u64 b1) ∧ w'.cell? ⟨w2.heap.size, 2, none⟩ = some (.int .u64 b2) ∧ w'.cell? ⟨w2.heap.size, 3, none⟩ = some (.int .u64 b3) ∧ w'.cell? ⟨w2.heap.size, 4, none⟩ = some (.int .u64 b4) ∧ w'.cell? ⟨w2.heap.size, 5, none⟩ = some (.int .u64 b5) ∧ w'.cell? ⟨w2.heap.size, 6, none⟩ = some (.int .u64 b6) ∧ w'.cell? ⟨w2.heap.size, 7, none⟩ = some (.int .u64 b7) ∧ w'.cell? ⟨w3.heap.size, 0, none⟩ = some (.int .u64 c0) ∧ w'.cell? ⟨w3.heap.size, 1, none⟩ = some (.int .u64 c1) ∧ w'.cell? ⟨w3.heap.size, 2, none⟩ = some (.int .u64 c2) ∧ w'.cell? ⟨w3.heap.size, 3, none⟩ = some (.int .u64 c3) ∧ w'.cell? ⟨w3.heap.size, 4, none⟩ = some (.int .u64 c4) ∧ w'.cell? ⟨w3.heap.size, 5, none⟩ = some (.int .u64 c5) ∧ w'.cell? ⟨w3.heap.size, 6, none⟩ = some (.int .u64 c6) ∧ w'.cell? ⟨w3.heap.size, 7, none⟩ = some (.int .u64 c7) := fun w' hq => ⟨((kS.below hq kS.lt).cell 0).trans rfl, ((kS.below hq kS.lt).cell 1).trans rfl, ((kI.below hq kI.lt).cell 0).trans rfl, ((kI.below hq kI.lt).cell 1).trans rfl, ((kI.below hq kI.lt).cell 2).trans rfl, ((kT.below hq kT.lt).cell 0).trans rfl, ((kT.below hq kT.lt).cell 1).trans rfl, ((kT.below hq kT.lt).cell 2).trans rfl, ((kT.below hq kT.lt).cell 3).trans rfl, ((kT.below hq kT.lt).cell 4).trans rfl, ((kT.below hq kT.lt).cell 5).trans rfl, ((kT.below hq kT.lt).cell 6).trans rfl, ((q_w1.below hq q_w1.lt).cell 0).trans rfl, ((q_w1.below hq q_w1.lt).cell 1).trans rfl, ((q_w1.below hq q_w1.lt).cell 2).trans rfl, ((q_w1.below hq q_w1.lt).cell 3).trans rfl, ((q_w1.below hq q_w1.lt).cell 4).trans rfl, ((q_w1.below hq q_w1.lt).cell 5).trans rfl, ((q_w1.below hq q_w1.lt).cell 6).trans rfl, ((q_w1.below hq q_w1.lt).cell 7).trans rfl, ((q_w2.below hq q_w2.lt).cell 0).trans rfl, ((q_w2.below hq q_w2.lt).cell 1).trans rfl, ((q_w2.below hq q_w2.lt).cell 2).trans rfl, ((q_w2.below hq q_w2.lt).cell 3).trans rfl, ((q_w2.below hq q_w2.lt).cell 4).trans rfl, ((q_w2.below hq q_w2.lt).cell 5).trans rfl, ((q_w2.below hq q_w2.lt).cell 6).trans rfl, ((q_w2.below hq q_w2.lt).cell 7).trans rfl, ((q_w3.below hq q_w3.lt).cell 0).trans rfl, ((q_w3.below hq q_w3.lt).cell 1).trans rfl, ((q_w3.below hq q_w3.lt).cell 2).trans rfl, ((q_w3.below hq q_w3.lt).cell 3).trans rfl, ((q_w3.below hq q_w3.lt).cell 4).trans rfl, ((q_w3.below hq q_w3.lt).cell 5).trans rfl, ((q_w3.below hq q_w3.lt).cell 6).trans rfl, ((q_w3.below hq q_w3.lt).cell 7).trans rfl⟩
  have hq : Below Z.heap.size Z Z.drew := (Below.refl _ Z).drew
  have HB := Lib.hid hB
  clear n_w1 n_w2 n_w3 kS kI kT q_w1 q_w2 q_w3 hB
  have HS := Lib.hid hS
  clear hS
  have hS0 := HS.out _ hq
  go_region_held3 (fun w' => w'.cell? ⟨w.heap.size, 0, none⟩ = some (.int .i64 r) ∧ w'.cell? ⟨w.heap.size, 1, none⟩ = some (.int .i64 l) ∧ w'.cell? ⟨w.heap.size + 1, 0, none⟩ = some (.int .i64 k) ∧ w'.cell? ⟨w.heap.size + 1, 1, none⟩ = some (.int .i64 j) ∧ w'.cell? ⟨w.heap.size + 1, 2, none⟩ = some (.int .i64 t) ∧ w'.cell? ⟨w.heap.size + 1 + 1, 0, none⟩ = some (.int .i64 y0) ∧ w'.cell? ⟨w.heap.size + 1 + 1, 1, none⟩ = some (.int .i64 y1) ∧ w'.cell? ⟨w.heap.size + 1 + 1, 2, none⟩ = some (.int .i64 y2) ∧ w'.cell? ⟨w.heap.size + 1 + 1, 3, none⟩ = some (.int .i64 y3) ∧ w'.cell? ⟨w.heap.size + 1 + 1, 4, none⟩ = some (.int .i64 y4) ∧ w'.cell? ⟨w.heap.size + 1 + 1, 5, none⟩ = some (.int .i64 y5) ∧ w'.cell? ⟨w.heap.size + 1 + 1, 6, none⟩ = some (.int .i64 y6) ∧ w'.cell? ⟨w1.heap.size, 0, none⟩ = some (.int .u64 a0) ∧ w'.cell? ⟨w1.heap.size, 1, none⟩ = some (.int .u64 a1) ∧ w'.cell? ⟨w1.heap.size, 2, none⟩ = some (.int .u64 a2) ∧ w'.cell? ⟨w1.heap.size, 3, none⟩ = some (.int .u64 a3) ∧ w'.cell? ⟨w1.heap.size, 4, none⟩ = some (.int .u64 a4) ∧ w'.cell? ⟨w1.heap.size, 5, none⟩ = some (.int .u64 a5) ∧ w'.cell? ⟨w1.heap.size, 6, none⟩ = some (.int .u64 a6) ∧ w'.cell? ⟨w1.heap.size, 7, none⟩ = some (.int .u64 a7) ∧ w'.cell? ⟨w2.heap.size, 0, none⟩ = some (.int .u64 b0) ∧ w'.cell? ⟨w2.heap.size, 1, none⟩ = some (.int .u64 b1) ∧ w'.cell? ⟨w2.heap.size, 2, none⟩ = some (.int .u64 b2) ∧ w'.cell? ⟨w2.heap.size, 3, none⟩ = some (.int .u64 b3) ∧ w'.cell? ⟨w2.heap.size, 4, none⟩ = some (.int .u64 b4) ∧ w'.cell? ⟨w2.heap.size, 5, none⟩ = some (.int .u64 b5) ∧ w'.cell? ⟨w2.heap.size, 6, none⟩ = some (.int .u64 b6) ∧ w'.cell? ⟨w2.heap.size, 7, none⟩ = some (.int .u64 b7) ∧ w'.cell? ⟨w3.heap.size, 0, none⟩ = some (.int .u64 c0) ∧ w'.cell? ⟨w3.heap.size, 1, none⟩ = some (.int .u64 c1) ∧ w'.cell? ⟨w3.heap.size, 2, none⟩ = some (.int .u64 c2) ∧ w'.cell? ⟨w3.heap.size, 3, none⟩ = some (.int .u64 c3) ∧ w'.cell? ⟨w3.heap.size, 4, none⟩ = some (.int .u64 c4) ∧ w'.cell? ⟨w3.heap.size, 5, none⟩ = some (.int .u64 c5) ∧ w'.cell? ⟨w3.heap.size, 6, none⟩ = some (.int .u64 c6) ∧ w'.cell? ⟨w3.heap.size, 7, none⟩ = some (.int .u64 c7))
    (first | exact hS0 | exact HS.out _ hq | go_keep)
    (first
      | (go_at_call 22; ((with_reducible refine (G1.out _).mono ?_); rintro e w4 ⟨rfl, hb⟩); replace hq := hq.trans (hb.mono hq.size); clear hb; have hS0 := HS.out _ hq)
      | (go_at_call 23; ((with_reducible refine (O1.out _).mono ?_); rintro e w4 ⟨rfl, hb⟩); replace hq := hq.trans (hb.mono hq.size); clear hb; have hS0 := HS.out _ hq)
      | (go_at_call 24; ((with_reducible refine (G2.out _).mono ?_); rintro e w4 ⟨rfl, hb⟩); replace hq := hq.trans (hb.mono hq.size); clear hb; have hS0 := HS.out _ hq)
      | (go_at_call 25; ((with_reducible refine (O2.out _).mono ?_); rintro e w4 ⟨rfl, hb⟩); replace hq := hq.trans (hb.mono hq.size); clear hb; have hS0 := HS.out _ hq)
      | (go_at_call 26; ((with_reducible refine (G3.out _).mono ?_); rintro e w4 ⟨rfl, hb⟩); replace hq := hq.trans (hb.mono hq.size); clear hb; have hS0 := HS.out _ hq)
      | (go_at_call 27; ((with_reducible refine (O3.out _).mono ?_); rintro e w4 ⟨rfl, hb⟩); replace hq := hq.trans (hb.mono hq.size); clear hb; have hS0 := HS.out _ hq)
      | (go_at_call 17; ((with_reducible refine (P1.out _).mono ?_); rintro e w4 ⟨rfl, hb⟩); replace hq := hq.trans (hb.mono hq.size); clear hb; have hS0 := HS.out _ hq)
      | (go_at_call 17; ((with_reducible refine (P2.out _).mono ?_); rintro e w4 ⟨rfl, hb⟩); replace hq := hq.trans (hb.mono hq.size); clear hb; have hS0 := HS.out _ hq)
      | (go_at_call 17; ((with_reducible refine (P3.out _).mono ?_); rintro e w4 ⟨rfl, hb⟩); replace hq := hq.trans (hb.mono hq.size); clear hb; have hS0 := HS.out _ hq)
      | (go_at_call 8; ((with_reducible refine (works_any _).mono ?_); rintro e w4 ⟨rfl, hb⟩); replace hq := hq.trans (hb.mono hq.size); clear hb; have hS0 := HS.out _ hq))
  all_goals
    go_wp2
    go_ret
    exact ⟨rfl, HB.out.trans (hq.mono HB.out.size)⟩
end Go.Proofs.Ytdgnbmcckknfiaa
