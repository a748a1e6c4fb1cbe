/- The walk of the document's GetSuper. Conditions: words of 64 bits. -/
import Derived.Test.YtdgnbmcckknfiaaGreatPlnG
namespace Go.Proofs.YtdgnbmcckknfiaaGreat
open Go.RowKit
set_option linter.unusedSimpArgs false

set_option maxRecDepth 100000 in
set_option maxHeartbeats 4000000 in
theorem rGetSuper_any (a b c d e f g h : Nat) (w : World) : Calls Tryz.prog 9 #[.agg (ln8 a b c d e f g h)] w fun r w' => r = .returned (.tuple #[.agg (supIsV a b c d e f g h), .bool (supIs a b c d e f g h)]) ∧ Below w.heap.size w w' := by
  show Calls Tryz.prog 9 #[.agg #[.int .u64 a, .int .u64 b, .int .u64 c, .int .u64 d, .int .u64 e, .int .u64 f, .int .u64 g, .int .u64 h]] w _
  have kl := (Blk.new w 23 #[.int .u64 a, .int .u64 b, .int .u64 c, .int .u64 d, .int .u64 e, .int .u64 f, .int .u64 g, .int .u64 h]).alloc (.cells #[.int .i64 0, .int .i64 0] 25)
  have kr := Blk.new (w.alloc (.cells #[.int .u64 a, .int .u64 b, .int .u64 c, .int .u64 d, .int .u64 e, .int .u64 f, .int .u64 g, .int .u64 h] 23)) 25 #[.int .i64 0, .int .i64 0]
  have hB := ((Below.refl _ w).alloc (Nat.le_refl _) (.cells #[.int .u64 a, .int .u64 b, .int .u64 c, .int .u64 d, .int .u64 e, .int .u64 f, .int .u64 g, .int .u64 h] 23)).alloc (by simp) (.cells #[.int .i64 0, .int .i64 0] 25)
  simp only [World.size_alloc] at kr
  go_enter Tryz.func9, Tryz.ntmps9
  go_wp2_with fail
  generalize (w.alloc (.cells #[.int .u64 a, .int .u64 b, .int .u64 c, .int .u64 d, .int .u64 e, .int .u64 f, .int .u64 g, .int .u64 h] 23)).alloc (.cells #[.int .i64 0, .int .i64 0] 25) = Z at *
  have hS : ∀ w', Below Z.heap.size Z w' → w'.cell? ⟨w.heap.size, 1, none⟩ = some (.int .u64 b) ∧ w'.cell? ⟨w.heap.size, 2, none⟩ = some (.int .u64 c) := fun w' hq => ⟨((kl.below hq kl.lt).cell 1).trans rfl, ((kl.below hq kl.lt).cell 2).trans rfl⟩
  have hq0 : Below Z.heap.size Z Z.drew := (Below.refl _ Z).drew
  have H := Lib.hid (And.intro kl (And.intro kr hB))
  clear kl kr hB
  have HS := Lib.hid hS
  clear hS
  have hS0 := HS.out _ hq0
  go_region_held3 (fun w' => w'.cell? ⟨w.heap.size, 1, none⟩ = some (.int .u64 b) ∧ w'.cell? ⟨w.heap.size, 2, none⟩ = some (.int .u64 c))
    (first | exact hS0 | exact HS.out _ (hq0.alloc (Nat.le_refl _) _) | exact HS.out _ ((hq0.alloc (Nat.le_refl _) _).setCell (by simp) _) | exact HS.out _ (((hq0.alloc (Nat.le_refl _) _).setCell (by simp) _).setCell (by simp) _) | go_keep)
    (first
    | (go_at_call 26; ((with_reducible refine (rsmall_any b _).mono ?_); rintro r wq ⟨rfl, rfl⟩))
    | (go_at_call 26; ((with_reducible refine (rsmall_any c _).mono ?_); rintro r wq ⟨rfl, rfl⟩))
    )
  all_goals
    obtain ⟨kl, kr, hB⟩ := H.out
    have hlt := kr.lt
    have kx := (Blk.new Z 25 #[.int .i64 (smallI b), .int .i64 (smallI c)]).drew
    replace kl := (kl.alloc (.cells #[.int .i64 (smallI b), .int .i64 (smallI c)] 25)).drew
    replace kr := (kr.alloc (.cells #[.int .i64 (smallI b), .int .i64 (smallI c)] 25)).drew
    replace hB := (hB.alloc hB.size (.cells #[.int .i64 (smallI b), .int .i64 (smallI c)] 25)).drew
    clear hS0 HS hq0 H
    generalize (Z.alloc (.cells #[.int .i64 (smallI b), .int .i64 (smallI c)] 25)).drew = Y at *
    generalize Z.heap.size = n at *
    go_wp2_with fail
    have hR := rSuperR_any (smallI b) (smallI c)
    have hord : Tryz.prog.follows .mixedOrders = true := by kernel_rfl
    cases hv : supOk (smallI b) (smallI c)
    · have e0 : Hid (supIs a b c d e f g h = false) := Lib.hid (by unfold supIs; rw [hv]; rfl)
      rw [hv] at hR
      clear hv
      refine draw_orders0 [[0, 1, 2, 3, 4, 5, 6, 7, 8], [0, 1, 2, 3, 5, 4, 6, 7, 8], [0, 1, 2, 3, 5, 6, 4, 7, 8]] hord (by kernel_rfl) ?_
      intro o ho
      simp only [List.mem_cons, List.not_mem_nil, or_false] at ho
      rcases ho with rfl | rfl | rfl
      all_goals refine ⟨_, ⟨_, _, rfl, rfl, _, _, rfl, rfl, _, _, rfl, rfl, _, _, rfl, rfl, _, _, rfl, rfl, _, _, rfl, rfl, _, _, rfl, rfl, _, _, rfl, rfl, _, _, rfl, rfl, rfl⟩, ?_⟩
      all_goals simp only [List.getElem_toArray, List.getElem_cons_zero, List.getElem_cons_succ]
      all_goals
        replace kx := kx.drew; replace kl := kl.drew; replace kr := kr.drew; replace hB := hB.drew
        go_wp2_with (refine row_load_w (n) 25 _ kx 25 _ rfl rfl rfl _ Tryz.underlying25 rfl (by kernel_rfl) ?_)
        refine (hR _).mono ?_
        rintro r w1 ⟨rfl, hb⟩
        replace kx := kx.below hb kx.lt; replace kl := kl.below hb kl.lt; replace kr := kr.below hb kr.lt; replace hB := hB.trans (hb.mono hB.size); clear hb
        go_wp2_with (refine row_store (w.heap.size + 1) 25 _ _ kr 25 _ _ rfl rfl rfl rfl (by kernel_rfl) rfl (by kernel_rfl) ?_)
        refine bodyPost_ret (results_cell_slot rfl _ _ (w.heap.size + 1) 25 _ _ rfl (kr.setRow _) Tryz.underlying25 rfl (by kernel_rfl) _ rfl) rfl ?_
        exact ⟨by unfold supIsV; rw [e0.out]; rfl, below_setRow hB (by omega) _⟩
    · have hP := rSuperP_any (smallI b) (smallI c)
      rw [← rsupL_ok hv] at hP
      have heq : ∀ W : World, (Op.equalIn 10000 23 (.agg #[.int .u64 a, .int .u64 b, .int .u64 c, .int .u64 d, .int .u64 e, .int .u64 f, .int .u64 g, .int .u64 h]) (.agg (supL (smallI b) (smallI c)))).run Tryz.prog W = .ok (supIs a b c d e f g h) W := fun W => by
        rw [show supIs a b c d e f g h = decide (([a, b, c, d, e, f, g, h] : List Int) = supW (smallI b) (smallI c)) by unfold supIs; rw [hv, Bool.true_and]; exact decide_eq_decide.2 eq_comm]
        rw [show supL (smallI b) (smallI c) = ((supW (smallI b) (smallI c)).map (Value.int .u64)).toArray by unfold supL; rw [hv]; rfl]
        exact line_eq8 [a, b, c, d, e, f, g, h] (supW (smallI b) (smallI c)) rfl rfl W
      rw [hv] at hR
      obtain ⟨L, hL⟩ : ∃ L, supL (smallI b) (smallI c) = L := ⟨_, rfl⟩
      rw [hL] at hP heq
      clear hv hL
      cases hi : supIs a b c d e f g h
      all_goals
        have e0 := Lib.hid hi
        rw [hi] at heq
        clear hi
        refine draw_orders0 [[0, 1, 2, 3, 4, 5, 6, 7, 8], [0, 1, 2, 3, 5, 4, 6, 7, 8], [0, 1, 2, 3, 5, 6, 4, 7, 8]] hord (by kernel_rfl) ?_
        intro o ho
        simp only [List.mem_cons, List.not_mem_nil, or_false] at ho
        rcases ho with rfl | rfl | rfl
        all_goals refine ⟨_, ⟨_, _, rfl, rfl, _, _, rfl, rfl, _, _, rfl, rfl, _, _, rfl, rfl, _, _, rfl, rfl, _, _, rfl, rfl, _, _, rfl, rfl, _, _, rfl, rfl, _, _, rfl, rfl, rfl⟩, ?_⟩
        all_goals simp only [List.getElem_toArray, List.getElem_cons_zero, List.getElem_cons_succ]
        all_goals
          replace kx := kx.drew; replace kl := kl.drew; replace kr := kr.drew; replace hB := hB.drew
          go_wp2_with (refine row_load_w (n) 25 _ kx 25 _ rfl rfl rfl _ Tryz.underlying25 rfl (by kernel_rfl) ?_)
          refine (hR _).mono ?_
          rintro r w1 ⟨rfl, hb⟩
          replace kx := kx.below hb kx.lt; replace kl := kl.below hb kl.lt; replace kr := kr.below hb kr.lt; replace hB := hB.trans (hb.mono hB.size); clear hb
          go_wp2_with (first | (refine row_load_w (n) 25 _ kx 25 _ rfl rfl rfl _ Tryz.underlying25 rfl (by kernel_rfl) ?_) | (refine row_load_w (w.heap.size) 23 _ kl 23 _ rfl rfl rfl _ Tryz.underlying23 rfl (by kernel_rfl) ?_))
          refine (hP _).mono ?_
          rintro r w2 ⟨rfl, hb⟩
          replace kx := kx.below hb kx.lt; replace kl := kl.below hb kl.lt; replace kr := kr.below hb kr.lt; replace hB := hB.trans (hb.mono hB.size); clear hb
          go_wp2_with (first | (refine row_load_w (n) 25 _ kx 25 _ rfl rfl rfl _ Tryz.underlying25 rfl (by kernel_rfl) ?_) | (refine row_load_w (w.heap.size) 23 _ kl 23 _ rfl rfl rfl _ Tryz.underlying23 rfl (by kernel_rfl) ?_) | (refine row_store (w.heap.size + 1) 25 _ _ kr 25 _ _ rfl rfl rfl rfl (by kernel_rfl) rfl (by kernel_rfl) ?_))
          refine bodyPost_ret (results_cell_slot rfl _ _ (w.heap.size + 1) 25 _ _ rfl (kr.setRow _) Tryz.underlying25 rfl (by kernel_rfl) _ rfl) rfl ?_
          exact ⟨by unfold supIsV; rw [e0.out]; rfl, below_setRow hB (by omega) _⟩
end Go.Proofs.YtdgnbmcckknfiaaGreat
