/- The walk of the law NodeLinks. No conditions. -/
import Derived.Test.YtdgnbmcckknfiaaWrkN
namespace Go.Proofs.Ytdgnbmcckknfiaa
open Go.RowKit
set_option linter.unusedSimpArgs false

theorem inoL_no {k l t : Int} (h : inoOk k l t = false) : inoL k l t = #[.int .u64 0, .int .u64 0, .int .u64 0, .int .u64 0, .int .u64 0, .int .u64 0, .int .u64 0, .int .u64 0] ∧ inoE k l t = 2 := by
  unfold inoL inoE
  rw [h]
  exact ⟨rfl, rfl⟩
theorem inoL_yes {k l t : Int} (h : inoOk k l t = true) : inoL k l t = #[.int .u64 (k + 256 * l), .int .u64 t, .int .u64 0, .int .u64 0, .int .u64 0, .int .u64 0, .int .u64 0, .int .u64 0] ∧ inoE k l t = 0 := by
  unfold inoL inoE
  rw [h]
  exact ⟨rfl, rfl⟩
set_option maxRecDepth 100000 in
set_option maxHeartbeats 4000000 in
theorem nodeLinks_any (t l : Int) (w : World) : Calls Try.prog 4 #[.int .i64 t, .int .i64 l] w fun e w' => e = .returned (.bool true) ∧ Below w.heap.size w w' := by
  by_cases h1 : l < 1
  · go_enter Try.func4, Try.ntmps4
    go_wp2_with fail
    refine (works_any _).mono ?_
    rintro e w3 ⟨rfl, hb⟩
    go_wp2
    go_ret
    exact ⟨rfl, hb⟩
  · by_cases h2 : 198 < l
    · go_enter Try.func4, Try.ntmps4
      go_wp2_with fail
      refine (works_any _).mono ?_
      rintro e w3 ⟨rfl, hb⟩
      go_wp2
      go_ret
      exact ⟨rfl, hb⟩
    · have key : ∀ x : Int, 1 ≤ x → x ≤ 200 → inoOk 1 x t = ptrs 1 [t] := fun x g1 g2 => by
        unfold inoOk
        rw [decide_eq_true g1, decide_eq_true g2]
        simp
      cases hp : ptrs 1 [t]
      · have E1 := Lib.hid (inoL_no ((key l (by omega) (by omega)).trans hp))
        have E2 := Lib.hid (inoL_no ((key (l + 1) (by omega) (by omega)).trans hp))
        clear key hp
        go_enter Try.func4, Try.ntmps4
        go_wp2_with fail
        refine (PutInode_any 1 l t _).mono ?_
        rintro e w1 ⟨rfl, hb⟩
        rw [E1.out.1, E1.out.2]
        have hB := hb
        clear hb
        have n1 := Blk.new w1 26 #[.int .u64 0, .int .u64 0, .int .u64 0, .int .u64 0, .int .u64 0, .int .u64 0, .int .u64 0, .int .u64 0]
        have k1 := n1.setRow #[.int .u64 0, .int .u64 0, .int .u64 0, .int .u64 0, .int .u64 0, .int .u64 0, .int .u64 0, .int .u64 0]
        replace hB := below_setRow (hB.alloc hB.size (.cells #[.int .u64 0, .int .u64 0, .int .u64 0, .int .u64 0, .int .u64 0, .int .u64 0, .int .u64 0, .int .u64 0] 26)) (g := w1.heap.size) hB.size #[.int .u64 0, .int .u64 0, .int .u64 0, .int .u64 0, .int .u64 0, .int .u64 0, .int .u64 0, .int .u64 0]
        go_wp2_with (refine row_store (w1.heap.size) 26 _ _ n1 26 _ _ rfl rfl rfl rfl (by kernel_rfl) rfl (by kernel_rfl) ?_)
        refine (PutInode_any 1 (l + 1) t _).mono ?_
        rintro e w2 ⟨rfl, hb⟩
        rw [E2.out.1, E2.out.2]
        replace k1 := k1.below hb k1.lt
        replace hB := hB.trans (hb.mono hB.size)
        clear hb n1
        have l1 := k1.lt
        have n2 := Blk.new w2 26 #[.int .u64 0, .int .u64 0, .int .u64 0, .int .u64 0, .int .u64 0, .int .u64 0, .int .u64 0, .int .u64 0]
        replace k1 := (k1.alloc (.cells #[.int .u64 0, .int .u64 0, .int .u64 0, .int .u64 0, .int .u64 0, .int .u64 0, .int .u64 0, .int .u64 0] 26)).farRow (g' := w2.heap.size) (by omega) #[.int .u64 0, .int .u64 0, .int .u64 0, .int .u64 0, .int .u64 0, .int .u64 0, .int .u64 0, .int .u64 0]
        have k2 := n2.setRow #[.int .u64 0, .int .u64 0, .int .u64 0, .int .u64 0, .int .u64 0, .int .u64 0, .int .u64 0, .int .u64 0]
        replace hB := below_setRow (hB.alloc hB.size (.cells #[.int .u64 0, .int .u64 0, .int .u64 0, .int .u64 0, .int .u64 0, .int .u64 0, .int .u64 0, .int .u64 0] 26)) (g := w2.heap.size) hB.size #[.int .u64 0, .int .u64 0, .int .u64 0, .int .u64 0, .int .u64 0, .int .u64 0, .int .u64 0, .int .u64 0]
        have a0 := k1.cell 0
        have a1 := k1.cell 1
        have b0 := k2.cell 0
        have b1 := k2.cell 1
        simp at a0 a1 b0 b1
        go_wp2_with (first | (go_at_call 10; refine (num_any _ _).mono ?_; rintro e w' ⟨rfl, rfl⟩) | (refine row_store (w2.heap.size) 26 _ _ n2 26 _ _ rfl rfl rfl rfl (by kernel_rfl) rfl (by kernel_rfl) ?_))
        refine (works_any _).mono ?_
        rintro e w3 ⟨rfl, hb⟩
        replace hB := hB.trans (hb.mono hB.size)
        go_wp2
        go_ret
        exact ⟨rfl, hB⟩
      · have E1 := Lib.hid (inoL_yes ((key l (by omega) (by omega)).trans hp))
        have E2 := Lib.hid (inoL_yes ((key (l + 1) (by omega) (by omega)).trans hp))
        have q1 : IntKind.u64.wrap (1 + 256 * l + 256) = 1 + 256 * (l + 1) := by rw [IntKind.wrap_u64]; omega
        have q2 : ((1 + 256 * (l + 1) : Int) == 1 + 256 * (l + 1)) = true := by simp
        have q3 : ((t : Int) == t) = true := by simp
        clear key hp
        go_enter Try.func4, Try.ntmps4
        go_wp2_with fail
        refine (PutInode_any 1 l t _).mono ?_
        rintro e w1 ⟨rfl, hb⟩
        rw [E1.out.1, E1.out.2]
        have hB := hb
        clear hb
        have n1 := Blk.new w1 26 #[.int .u64 0, .int .u64 0, .int .u64 0, .int .u64 0, .int .u64 0, .int .u64 0, .int .u64 0, .int .u64 0]
        have k1 := n1.setRow #[.int .u64 (1 + 256 * l), .int .u64 t, .int .u64 0, .int .u64 0, .int .u64 0, .int .u64 0, .int .u64 0, .int .u64 0]
        replace hB := below_setRow (hB.alloc hB.size (.cells #[.int .u64 0, .int .u64 0, .int .u64 0, .int .u64 0, .int .u64 0, .int .u64 0, .int .u64 0, .int .u64 0] 26)) (g := w1.heap.size) hB.size #[.int .u64 (1 + 256 * l), .int .u64 t, .int .u64 0, .int .u64 0, .int .u64 0, .int .u64 0, .int .u64 0, .int .u64 0]
        go_wp2_with (refine row_store (w1.heap.size) 26 _ _ n1 26 _ _ rfl rfl rfl rfl (by kernel_rfl) rfl (by kernel_rfl) ?_)
        refine (PutInode_any 1 (l + 1) t _).mono ?_
        rintro e w2 ⟨rfl, hb⟩
        rw [E2.out.1, E2.out.2]
        replace k1 := k1.below hb k1.lt
        replace hB := hB.trans (hb.mono hB.size)
        clear hb n1
        have l1 := k1.lt
        have n2 := Blk.new w2 26 #[.int .u64 0, .int .u64 0, .int .u64 0, .int .u64 0, .int .u64 0, .int .u64 0, .int .u64 0, .int .u64 0]
        replace k1 := (k1.alloc (.cells #[.int .u64 0, .int .u64 0, .int .u64 0, .int .u64 0, .int .u64 0, .int .u64 0, .int .u64 0, .int .u64 0] 26)).farRow (g' := w2.heap.size) (by omega) #[.int .u64 (1 + 256 * (l + 1)), .int .u64 t, .int .u64 0, .int .u64 0, .int .u64 0, .int .u64 0, .int .u64 0, .int .u64 0]
        have k2 := n2.setRow #[.int .u64 (1 + 256 * (l + 1)), .int .u64 t, .int .u64 0, .int .u64 0, .int .u64 0, .int .u64 0, .int .u64 0, .int .u64 0]
        replace hB := below_setRow (hB.alloc hB.size (.cells #[.int .u64 0, .int .u64 0, .int .u64 0, .int .u64 0, .int .u64 0, .int .u64 0, .int .u64 0, .int .u64 0] 26)) (g := w2.heap.size) hB.size #[.int .u64 (1 + 256 * (l + 1)), .int .u64 t, .int .u64 0, .int .u64 0, .int .u64 0, .int .u64 0, .int .u64 0, .int .u64 0]
        have a0 := k1.cell 0
        have a1 := k1.cell 1
        have b0 := k2.cell 0
        have b1 := k2.cell 1
        simp at a0 a1 b0 b1
        go_wp2_with (first | (go_at_call 10; refine (num_any _ _).mono ?_; rintro e w' ⟨rfl, rfl⟩) | (refine row_store (w2.heap.size) 26 _ _ n2 26 _ _ rfl rfl rfl rfl (by kernel_rfl) rfl (by kernel_rfl) ?_))
        refine (works_any _).mono ?_
        rintro e w3 ⟨rfl, hb⟩
        replace hB := hB.trans (hb.mono hB.size)
        go_wp2
        go_ret
        exact ⟨rfl, hB⟩
end Go.Proofs.Ytdgnbmcckknfiaa
