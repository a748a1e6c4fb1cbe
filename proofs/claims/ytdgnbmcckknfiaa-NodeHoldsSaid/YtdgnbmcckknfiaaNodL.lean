/- The walks of node.PutInode. Conditions: none. -/
import Derived.Test.YtdgnbmcckknfiaaNodK
namespace Go.Proofs.Ytdgnbmcckknfiaa
open Go.RowKit
set_option linter.unusedSimpArgs false

set_option maxHeartbeats 400000 in
theorem inodes_any (w : World) : Calls Try.prog 36 #[] w fun e w' => e = .returned (.agg #[.func (.func 59) #[] #[], .func (.func 60) #[] #[], .func (.func 63) #[] #[]]) ∧ Below w.heap.size w w' := by
  have hp := Blk.new w 84 #[.nilFunc, .nilFunc, .nilFunc]
  go_enter Try.func36, Try.ntmps36
  go_wp2_with (refine row_store w.heap.size 84 _ _ hp 84 _ _ rfl rfl rfl rfl (by kernel_rfl) rfl (by kernel_rfl) ?_)
  refine bodyPost_ret (results_cell1 rfl _ _ w.heap.size 84 _ _ rfl (hp.setRow _) Try.underlying84 rfl (by kernel_rfl)) rfl ?_
  exact ⟨rfl, below_setRow ((Below.refl _ w).alloc (Nat.le_refl _) _) (Nat.le_refl _) _⟩

set_option maxRecDepth 100000 in
set_option maxHeartbeats 2000000 in
theorem PutInode_any (k l t : Int) (w : World) :
    Calls Try.prog 11 #[.agg #[.int .i64 k, .int .i64 l, .int .i64 t]] w fun e w' => e = .returned (.tuple #[.agg (inoL k l t), .int .i64 (inoE k l t)]) ∧ Below w.heap.size w w' := by
  have hord : Try.prog.follows .mixedOrders = true := by kernel_rfl
  have hx := (Blk.new w 35 #[.int .i64 k, .int .i64 l, .int .i64 t]).alloc (.cells #[.int .u64 0, .int .u64 0, .int .u64 0, .int .u64 0, .int .u64 0, .int .u64 0, .int .u64 0, .int .u64 0] 26)
  have hr := Blk.new (w.alloc (.cells #[.int .i64 k, .int .i64 l, .int .i64 t] 35)) 26 #[.int .u64 0, .int .u64 0, .int .u64 0, .int .u64 0, .int .u64 0, .int .u64 0, .int .u64 0, .int .u64 0]
  have hB := ((Below.refl _ w).alloc (Nat.le_refl _) (.cells #[.int .i64 k, .int .i64 l, .int .i64 t] 35)).alloc (by simp) (.cells #[.int .u64 0, .int .u64 0, .int .u64 0, .int .u64 0, .int .u64 0, .int .u64 0, .int .u64 0, .int .u64 0] 26)
  simp only [World.size_alloc] at hr
  have Hsz : Hid ((inoL k l t).size = 8) := Lib.hid (by unfold inoL; split <;> rfl)
  have Hone : Hid ((inoL k l t).all (·.oneCell') = true) := Lib.hid (by unfold inoL; split <;> kernel_rfl)
  go_enter Try.func11, Try.ntmps11
  go_wp2_with fail
  refine draw_orders0 [[0, 1, 2, 3, 4, 5, 6], [1, 0, 2, 3, 4, 5, 6], [0, 1, 2, 4, 3, 5, 6], [1, 0, 2, 4, 3, 5, 6]] hord (by kernel_rfl) ?_
  intro o ho
  simp only [List.mem_cons, List.not_mem_nil, or_false] at ho
  rcases ho with rfl | rfl | rfl | rfl
  all_goals refine ⟨_, ⟨_, _, rfl, rfl, _, _, rfl, rfl, _, _, rfl, rfl, _, _, rfl, rfl, _, _, rfl, rfl, _, _, rfl, rfl, _, _, rfl, rfl, rfl⟩, ?_⟩
  all_goals simp only [List.getElem_toArray, List.getElem_cons_zero, List.getElem_cons_succ]
  all_goals
    replace hx := hx.drew
    replace hr := hr.drew
    replace hB := hB.drew
    go_wp2_with (refine row_load w.heap.size 35 _ hx 35 _ rfl rfl rfl _ Try.underlying35 rfl (by kernel_rfl) ?_)
    refine (inodes_any _).mono ?_
    rintro r w1 ⟨rfl, hb⟩
    replace hx := hx.below hb hx.lt
    replace hr := hr.below hb hr.lt
    replace hB := hB.trans (hb.mono hB.size)
    clear hb
    go_wp2_with (refine row_load w.heap.size 35 _ hx 35 _ rfl rfl rfl _ Try.underlying35 rfl (by kernel_rfl) ?_)
    refine (putInode_any k l t _).mono ?_
    rintro r w2 ⟨rfl, hb⟩
    replace hr := hr.below hb hr.lt
    replace hB := hB.trans (hb.mono hB.size)
    clear hb
    obtain ⟨v, hv⟩ : ∃ v, inoL k l t = v := ⟨_, rfl⟩
    have hsz := Hsz.out
    have hone := Hone.out
    rw [hv] at hsz hone ⊢
    go_wp2_with (refine row_store (w.heap.size + 1) 26 _ _ hr 26 _ _ rfl rfl rfl rfl (by rw [hsz]; kernel_rfl) (by rw [hsz]; rfl) hone ?_)
    refine bodyPost_ret (results_cell_slot rfl _ _ (w.heap.size + 1) 26 _ _ rfl (hr.setRow _) Try.underlying26 rfl (by rw [hsz]; kernel_rfl) _ rfl) rfl ?_
    exact ⟨by rw [hv]; rfl, below_setRow hB (by omega) _⟩
end Go.Proofs.Ytdgnbmcckknfiaa
