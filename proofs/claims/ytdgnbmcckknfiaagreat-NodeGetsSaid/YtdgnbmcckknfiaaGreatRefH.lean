/- The walks of the document's GetInode, GetMap, GetTable. Conditions: none. -/
import Derived.Test.YtdgnbmcckknfiaaGreatRefG
namespace Go.Proofs.YtdgnbmcckknfiaaGreat
open Go.RowKit
set_option linter.unusedSimpArgs false

theorem inoLk_small {a : Nat} (h : a < 1048576) : inoLk a = (a : Int) / 256 := by
  unfold inoLk smallI
  rw [if_pos (by omega)]
  omega
set_option maxRecDepth 100000 in
set_option maxHeartbeats 4000000 in
theorem rGetInode_any (a b c d e f g h : Nat) (w : World) : Calls Tryz.prog 10 #[.agg (ln8 a b c d e f g h)] w fun r w' => r = .returned (.tuple #[.agg (inoIsV a b c d e f g h), .bool (inoIs a b c d e f g h)]) ∧ Below w.heap.size w w' := by
  show Calls Tryz.prog 10 #[.agg #[.int .u64 a, .int .u64 b, .int .u64 c, .int .u64 d, .int .u64 e, .int .u64 f, .int .u64 g, .int .u64 h]] w _
  have kl := (Blk.new w 23 #[.int .u64 a, .int .u64 b, .int .u64 c, .int .u64 d, .int .u64 e, .int .u64 f, .int .u64 g, .int .u64 h]).alloc (.cells #[.int .i64 0, .int .i64 0, .int .i64 0] 31)
  have kr := Blk.new (w.alloc (.cells #[.int .u64 a, .int .u64 b, .int .u64 c, .int .u64 d, .int .u64 e, .int .u64 f, .int .u64 g, .int .u64 h] 23)) 31 #[.int .i64 0, .int .i64 0, .int .i64 0]
  have hB := ((Below.refl _ w).alloc (Nat.le_refl _) (.cells #[.int .u64 a, .int .u64 b, .int .u64 c, .int .u64 d, .int .u64 e, .int .u64 f, .int .u64 g, .int .u64 h] 23)).alloc (by simp) (.cells #[.int .i64 0, .int .i64 0, .int .i64 0] 31)
  simp only [World.size_alloc] at kr
  have k0 := kl.cell 0
  have k1 := kl.cell 1
  simp at k0 k1
  have hi := ino_alt a b c d e f g h
  by_cases ha : a < 1048576
  · rw [decide_eq_true ha, Bool.true_and] at hi
    have hsa : smallI a = (a : Int) := by unfold smallI; rw [if_pos ha]
    have hlk := Lib.hid (inoLk_small ha)
    have hsm := rsmall_any a
    rw [hsa] at hsm
    have t1 : (a : Int).tmod 256 = (a : Int) % 256 := Int.tmod_eq_emod_of_nonneg (by omega)
    have t2 : (a : Int).tdiv 256 = (a : Int) / 256 := Int.tdiv_eq_ediv_of_nonneg (by omega)
    have t3 : ¬ (a : Int) < 0 := by omega
    have t4 : IntKind.i64.wrap ((a : Int) % 256) = (a : Int) % 256 := by rw [IntKind.wrap_i64]; omega
    have t5 : IntKind.i64.wrap ((a : Int) / 256) = (a : Int) / 256 := by rw [IntKind.wrap_i64]; omega
    clear hsa ha
    have hR := rInodeR_any ((a : Int) % 256) ((a : Int) / 256) (smallI b)
    have hN := nou_any a b c d e f g h
    cases hv : inoOk ((a : Int) % 256) ((a : Int) / 256) (smallI b)
    · have e0 : Hid (inoIs a b c d e f g h = false) := Lib.hid (by rw [hi, hv]; rfl)
      rw [hv] at hR
      clear hi hv
      go_enter Tryz.func10, Tryz.ntmps10
      go_wp2_with fail
      refine (hsm _).mono ?_
      rintro r w1 ⟨rfl, rfl⟩
      go_wp2_with fail
      refine (rsmall_any b _).mono ?_
      rintro r w1 ⟨rfl, rfl⟩
      have kx := Blk.new ((w.alloc (.cells #[.int .u64 a, .int .u64 b, .int .u64 c, .int .u64 d, .int .u64 e, .int .u64 f, .int .u64 g, .int .u64 h] 23)).alloc (.cells #[.int .i64 0, .int .i64 0, .int .i64 0] 31)) 31 #[.int .i64 ((a : Int) % 256), .int .i64 ((a : Int) / 256), .int .i64 (smallI b)]
      replace kl := kl.alloc (.cells #[.int .i64 ((a : Int) % 256), .int .i64 ((a : Int) / 256), .int .i64 (smallI b)] 31)
      replace kr := kr.alloc (.cells #[.int .i64 ((a : Int) % 256), .int .i64 ((a : Int) / 256), .int .i64 (smallI b)] 31)
      replace hB := hB.alloc hB.size (.cells #[.int .i64 ((a : Int) % 256), .int .i64 ((a : Int) / 256), .int .i64 (smallI b)] 31)
      simp only [World.size_alloc] at kx
      go_wp2_with (refine row_load_w (w.heap.size + 1 + 1) 31 _ kx 31 _ rfl rfl rfl _ Tryz.underlying31 rfl (by kernel_rfl) ?_)
      refine (hR _).mono ?_
      rintro r w1 ⟨rfl, hb⟩
      replace kx := kx.below hb kx.lt; replace kl := kl.below hb kl.lt; replace kr := kr.below hb kr.lt; replace hB := hB.trans (hb.mono hB.size); clear hb
      go_wp2_with (refine row_store (w.heap.size + 1) 31 _ _ kr 31 _ _ rfl rfl rfl rfl (by kernel_rfl) rfl (by kernel_rfl) ?_)
      refine bodyPost_ret (results_cell_slot rfl _ _ (w.heap.size + 1) 31 _ _ rfl (kr.setRow _) Tryz.underlying31 rfl (by kernel_rfl) _ rfl) rfl ?_
      exact ⟨by unfold inoIsV; rw [e0.out]; rfl, below_setRow hB (by omega) _⟩
    · rw [hv, Bool.true_and] at hi
      rw [hv] at hR
      clear hv
      cases hz : nouB c d e f g h
      all_goals
        rw [hz] at hi hN
        have e0 := Lib.hid hi
        clear hi hz
        go_enter Tryz.func10, Tryz.ntmps10
        go_wp2_with fail
        refine (hsm _).mono ?_
        rintro r w1 ⟨rfl, rfl⟩
        go_wp2_with fail
        refine (rsmall_any b _).mono ?_
        rintro r w1 ⟨rfl, rfl⟩
        have kx := Blk.new ((w.alloc (.cells #[.int .u64 a, .int .u64 b, .int .u64 c, .int .u64 d, .int .u64 e, .int .u64 f, .int .u64 g, .int .u64 h] 23)).alloc (.cells #[.int .i64 0, .int .i64 0, .int .i64 0] 31)) 31 #[.int .i64 ((a : Int) % 256), .int .i64 ((a : Int) / 256), .int .i64 (smallI b)]
        replace kl := kl.alloc (.cells #[.int .i64 ((a : Int) % 256), .int .i64 ((a : Int) / 256), .int .i64 (smallI b)] 31)
        replace kr := kr.alloc (.cells #[.int .i64 ((a : Int) % 256), .int .i64 ((a : Int) / 256), .int .i64 (smallI b)] 31)
        replace hB := hB.alloc hB.size (.cells #[.int .i64 ((a : Int) % 256), .int .i64 ((a : Int) / 256), .int .i64 (smallI b)] 31)
        simp only [World.size_alloc] at kx
        go_wp2_with (refine row_load_w (w.heap.size + 1 + 1) 31 _ kx 31 _ rfl rfl rfl _ Tryz.underlying31 rfl (by kernel_rfl) ?_)
        refine (hR _).mono ?_
        rintro r w1 ⟨rfl, hb⟩
        replace kx := kx.below hb kx.lt; replace kl := kl.below hb kl.lt; replace kr := kr.below hb kr.lt; replace hB := hB.trans (hb.mono hB.size); clear hb
        go_wp2_with (refine row_load_w (w.heap.size) 23 _ kl 23 _ rfl rfl rfl _ Tryz.underlying23 rfl (by kernel_rfl) ?_)
        refine (hN _).mono ?_
        rintro r w1 ⟨rfl, hb⟩
        replace kx := kx.below hb kx.lt; replace kl := kl.below hb kl.lt; replace kr := kr.below hb kr.lt; replace hB := hB.trans (hb.mono hB.size); clear hb
        go_wp2_with (first | (refine row_load_w (w.heap.size + 1 + 1) 31 _ kx 31 _ rfl rfl rfl _ Tryz.underlying31 rfl (by kernel_rfl) ?_) | (refine row_store (w.heap.size + 1) 31 _ _ kr 31 _ _ rfl rfl rfl rfl (by kernel_rfl) rfl (by kernel_rfl) ?_))
        refine bodyPost_ret (results_cell_slot rfl _ _ (w.heap.size + 1) 31 _ _ rfl (kr.setRow _) Tryz.underlying31 rfl (by kernel_rfl) _ rfl) rfl ?_
        exact ⟨by unfold inoIsV; rw [e0.out]; first | rfl | (rw [hlk.out]; rfl), below_setRow hB (by omega) _⟩
  · rw [decide_eq_false ha, Bool.false_and] at hi
    have e0 := Lib.hid hi
    have hsa : smallI a = -1 := by unfold smallI; rw [if_neg ha]
    have hsm := rsmall_any a
    rw [hsa] at hsm
    clear hsa ha hi
    go_enter Tryz.func10, Tryz.ntmps10
    go_wp2_with fail
    refine (hsm _).mono ?_
    rintro r w1 ⟨rfl, rfl⟩
    go_wp2_with fail
    refine (rsmall_any b _).mono ?_
    rintro r w1 ⟨rfl, rfl⟩
    have kx := Blk.new ((w.alloc (.cells #[.int .u64 a, .int .u64 b, .int .u64 c, .int .u64 d, .int .u64 e, .int .u64 f, .int .u64 g, .int .u64 h] 23)).alloc (.cells #[.int .i64 0, .int .i64 0, .int .i64 0] 31)) 31 #[.int .i64 (-1), .int .i64 0, .int .i64 (smallI b)]
    replace kl := kl.alloc (.cells #[.int .i64 (-1), .int .i64 0, .int .i64 (smallI b)] 31)
    replace kr := kr.alloc (.cells #[.int .i64 (-1), .int .i64 0, .int .i64 (smallI b)] 31)
    replace hB := hB.alloc hB.size (.cells #[.int .i64 (-1), .int .i64 0, .int .i64 (smallI b)] 31)
    simp only [World.size_alloc] at kx
    go_wp2_with (refine row_store (w.heap.size + 1) 31 _ _ kr 31 _ _ rfl rfl rfl rfl (by kernel_rfl) rfl (by kernel_rfl) ?_)
    refine bodyPost_ret (results_cell_slot rfl _ _ (w.heap.size + 1) 31 _ _ rfl (kr.setRow _) Tryz.underlying31 rfl (by kernel_rfl) _ rfl) rfl ?_
    exact ⟨by unfold inoIsV; rw [e0.out]; rfl, below_setRow hB (by omega) _⟩

/-- The box after some rounds. -/
def gmapAt (a b c d e f g h : Nat) : Nat → Array Value
  | 0 => #[.int .i64 (smallI a), .int .i64 0, .int .i64 0, .int .i64 0, .int .i64 0, .int .i64 0, .int .i64 0, .int .i64 0]
  | 1 => #[.int .i64 (smallI a), .int .i64 (smallI b), .int .i64 0, .int .i64 0, .int .i64 0, .int .i64 0, .int .i64 0, .int .i64 0]
  | 2 => #[.int .i64 (smallI a), .int .i64 (smallI b), .int .i64 (smallI c), .int .i64 0, .int .i64 0, .int .i64 0, .int .i64 0, .int .i64 0]
  | 3 => #[.int .i64 (smallI a), .int .i64 (smallI b), .int .i64 (smallI c), .int .i64 (smallI d), .int .i64 0, .int .i64 0, .int .i64 0, .int .i64 0]
  | 4 => #[.int .i64 (smallI a), .int .i64 (smallI b), .int .i64 (smallI c), .int .i64 (smallI d), .int .i64 (smallI e), .int .i64 0, .int .i64 0, .int .i64 0]
  | 5 => #[.int .i64 (smallI a), .int .i64 (smallI b), .int .i64 (smallI c), .int .i64 (smallI d), .int .i64 (smallI e), .int .i64 (smallI f), .int .i64 0, .int .i64 0]
  | 6 => #[.int .i64 (smallI a), .int .i64 (smallI b), .int .i64 (smallI c), .int .i64 (smallI d), .int .i64 (smallI e), .int .i64 (smallI f), .int .i64 (smallI g), .int .i64 0]
  | _ => #[.int .i64 (smallI a), .int .i64 (smallI b), .int .i64 (smallI c), .int .i64 (smallI d), .int .i64 (smallI e), .int .i64 (smallI f), .int .i64 (smallI g), .int .i64 (smallI h)]
set_option maxRecDepth 100000 in
set_option maxHeartbeats 4000000 in
theorem rGetMap_any (a b c d e f g h : Nat) (w : World) : Calls Tryz.prog 11 #[.agg (ln8 a b c d e f g h)] w fun r w' => r = .returned (.tuple #[.agg (mapIsV a b c d e f g h), .bool (mapIs a b c d e f g h)]) ∧ Below w.heap.size w w' := by
  show Calls Tryz.prog 11 #[.agg #[.int .u64 a, .int .u64 b, .int .u64 c, .int .u64 d, .int .u64 e, .int .u64 f, .int .u64 g, .int .u64 h]] w _
  have kl := (Blk.new w 23 #[.int .u64 a, .int .u64 b, .int .u64 c, .int .u64 d, .int .u64 e, .int .u64 f, .int .u64 g, .int .u64 h]).alloc (.cells #[.int .i64 0, .int .i64 0, .int .i64 0, .int .i64 0, .int .i64 0, .int .i64 0, .int .i64 0, .int .i64 0] 36)
  have kr := Blk.new (w.alloc (.cells #[.int .u64 a, .int .u64 b, .int .u64 c, .int .u64 d, .int .u64 e, .int .u64 f, .int .u64 g, .int .u64 h] 23)) 36 #[.int .i64 0, .int .i64 0, .int .i64 0, .int .i64 0, .int .i64 0, .int .i64 0, .int .i64 0, .int .i64 0]
  have hB := ((Below.refl _ w).alloc (Nat.le_refl _) (.cells #[.int .u64 a, .int .u64 b, .int .u64 c, .int .u64 d, .int .u64 e, .int .u64 f, .int .u64 g, .int .u64 h] 23)).alloc (by simp) (.cells #[.int .i64 0, .int .i64 0, .int .i64 0, .int .i64 0, .int .i64 0, .int .i64 0, .int .i64 0, .int .i64 0] 36)
  simp only [World.size_alloc] at kr
  have hi := Lib.hid (map_alt a b c d e f g h)
  have k0 := kl.cell 0
  simp at k0
  go_enter Tryz.func11, Tryz.ntmps11
  go_wp2_with fail
  refine (rsmall_any a _).mono ?_
  rintro r w1 ⟨rfl, rfl⟩
  clear k0
  have kx := Blk.new ((w.alloc (.cells #[.int .u64 a, .int .u64 b, .int .u64 c, .int .u64 d, .int .u64 e, .int .u64 f, .int .u64 g, .int .u64 h] 23)).alloc (.cells #[.int .i64 0, .int .i64 0, .int .i64 0, .int .i64 0, .int .i64 0, .int .i64 0, .int .i64 0, .int .i64 0] 36)) 36 #[.int .i64 (smallI a), .int .i64 0, .int .i64 0, .int .i64 0, .int .i64 0, .int .i64 0, .int .i64 0, .int .i64 0]
  replace kl := kl.alloc (.cells #[.int .i64 (smallI a), .int .i64 0, .int .i64 0, .int .i64 0, .int .i64 0, .int .i64 0, .int .i64 0, .int .i64 0] 36)
  replace kr := kr.alloc (.cells #[.int .i64 (smallI a), .int .i64 0, .int .i64 0, .int .i64 0, .int .i64 0, .int .i64 0, .int .i64 0, .int .i64 0] 36)
  replace hB := hB.alloc hB.size (.cells #[.int .i64 (smallI a), .int .i64 0, .int .i64 0, .int .i64 0, .int .i64 0, .int .i64 0, .int .i64 0, .int .i64 0] 36)
  simp only [World.size_alloc] at kx
  have H := Lib.hid (And.intro kl (And.intro kr (And.intro kx hB)))
  clear kl kr kx hB
  go_wp2
  go_loopw [5] (fun i wr => ∃ k : Nat, k ≤ 7 ∧ i = .int .i64 k ∧ Blk wr w.heap.size 23 #[.int .u64 a, .int .u64 b, .int .u64 c, .int .u64 d, .int .u64 e, .int .u64 f, .int .u64 g, .int .u64 h] ∧ Blk wr (w.heap.size + 1) 36 #[.int .i64 0, .int .i64 0, .int .i64 0, .int .i64 0, .int .i64 0, .int .i64 0, .int .i64 0, .int .i64 0] ∧ Blk wr (w.heap.size + 1 + 1) 36 (gmapAt a b c d e f g h k) ∧ Below w.heap.size w wr) (fun i _ => 7 - (intOf i).toNat)
  case atStart => exact ⟨0, by omega, rfl, H.out⟩
  case round =>
    obtain ⟨k, hk, rfl, kl, kr, kx, hB⟩ := hrel
    obtain ⟨wo, rfl⟩ : ∃ wo : World, wo = wr := ⟨_, rfl⟩
    by_cases hlt : k < 7
    · have hor : k = 0 ∨ k = 1 ∨ k = 2 ∨ k = 3 ∨ k = 4 ∨ k = 5 ∨ k = 6 := by omega
      clear hk hlt
      rcases hor with rfl | rfl | rfl | rfl | rfl | rfl | rfl
      · have c1 := kl.cell 1
        have c2 := kx.cell 1
        have c3 := kx.frozen 1
        have kz := kx.set_ 1 (.int .i64 (smallI b))
        simp [gmapAt] at c1 c2 kz
        go_wp2_with fail
        refine (rsmall_any b _).mono ?_
        rintro r w1 ⟨rfl, rfl⟩
        go_wp2
        go_roundw
        case rel => exact ⟨1, by omega, by simp, kl.far (p := ⟨w.heap.size + 1 + 1, 1, none⟩) (by simp; omega) _, kr.far (p := ⟨w.heap.size + 1 + 1, 1, none⟩) (by simp) _, kz, hB.setCell (p := ⟨w.heap.size + 1 + 1, 1, none⟩) (by simp; omega) _⟩
        case measure => simp [intOf]
      · have c1 := kl.cell 2
        have c2 := kx.cell 2
        have c3 := kx.frozen 2
        have kz := kx.set_ 2 (.int .i64 (smallI c))
        simp [gmapAt] at c1 c2 kz
        go_wp2_with fail
        refine (rsmall_any c _).mono ?_
        rintro r w1 ⟨rfl, rfl⟩
        go_wp2
        go_roundw
        case rel => exact ⟨2, by omega, by simp, kl.far (p := ⟨w.heap.size + 1 + 1, 2, none⟩) (by simp; omega) _, kr.far (p := ⟨w.heap.size + 1 + 1, 2, none⟩) (by simp) _, kz, hB.setCell (p := ⟨w.heap.size + 1 + 1, 2, none⟩) (by simp; omega) _⟩
        case measure => simp [intOf]
      · have c1 := kl.cell 3
        have c2 := kx.cell 3
        have c3 := kx.frozen 3
        have kz := kx.set_ 3 (.int .i64 (smallI d))
        simp [gmapAt] at c1 c2 kz
        go_wp2_with fail
        refine (rsmall_any d _).mono ?_
        rintro r w1 ⟨rfl, rfl⟩
        go_wp2
        go_roundw
        case rel => exact ⟨3, by omega, by simp, kl.far (p := ⟨w.heap.size + 1 + 1, 3, none⟩) (by simp; omega) _, kr.far (p := ⟨w.heap.size + 1 + 1, 3, none⟩) (by simp) _, kz, hB.setCell (p := ⟨w.heap.size + 1 + 1, 3, none⟩) (by simp; omega) _⟩
        case measure => simp [intOf]
      · have c1 := kl.cell 4
        have c2 := kx.cell 4
        have c3 := kx.frozen 4
        have kz := kx.set_ 4 (.int .i64 (smallI e))
        simp [gmapAt] at c1 c2 kz
        go_wp2_with fail
        refine (rsmall_any e _).mono ?_
        rintro r w1 ⟨rfl, rfl⟩
        go_wp2
        go_roundw
        case rel => exact ⟨4, by omega, by simp, kl.far (p := ⟨w.heap.size + 1 + 1, 4, none⟩) (by simp; omega) _, kr.far (p := ⟨w.heap.size + 1 + 1, 4, none⟩) (by simp) _, kz, hB.setCell (p := ⟨w.heap.size + 1 + 1, 4, none⟩) (by simp; omega) _⟩
        case measure => simp [intOf]
      · have c1 := kl.cell 5
        have c2 := kx.cell 5
        have c3 := kx.frozen 5
        have kz := kx.set_ 5 (.int .i64 (smallI f))
        simp [gmapAt] at c1 c2 kz
        go_wp2_with fail
        refine (rsmall_any f _).mono ?_
        rintro r w1 ⟨rfl, rfl⟩
        go_wp2
        go_roundw
        case rel => exact ⟨5, by omega, by simp, kl.far (p := ⟨w.heap.size + 1 + 1, 5, none⟩) (by simp; omega) _, kr.far (p := ⟨w.heap.size + 1 + 1, 5, none⟩) (by simp) _, kz, hB.setCell (p := ⟨w.heap.size + 1 + 1, 5, none⟩) (by simp; omega) _⟩
        case measure => simp [intOf]
      · have c1 := kl.cell 6
        have c2 := kx.cell 6
        have c3 := kx.frozen 6
        have kz := kx.set_ 6 (.int .i64 (smallI g))
        simp [gmapAt] at c1 c2 kz
        go_wp2_with fail
        refine (rsmall_any g _).mono ?_
        rintro r w1 ⟨rfl, rfl⟩
        go_wp2
        go_roundw
        case rel => exact ⟨6, by omega, by simp, kl.far (p := ⟨w.heap.size + 1 + 1, 6, none⟩) (by simp; omega) _, kr.far (p := ⟨w.heap.size + 1 + 1, 6, none⟩) (by simp) _, kz, hB.setCell (p := ⟨w.heap.size + 1 + 1, 6, none⟩) (by simp; omega) _⟩
        case measure => simp [intOf]
      · have c1 := kl.cell 7
        have c2 := kx.cell 7
        have c3 := kx.frozen 7
        have kz := kx.set_ 7 (.int .i64 (smallI h))
        simp [gmapAt] at c1 c2 kz
        go_wp2_with fail
        refine (rsmall_any h _).mono ?_
        rintro r w1 ⟨rfl, rfl⟩
        go_wp2
        go_roundw
        case rel => exact ⟨7, by omega, by simp, kl.far (p := ⟨w.heap.size + 1 + 1, 7, none⟩) (by simp; omega) _, kr.far (p := ⟨w.heap.size + 1 + 1, 7, none⟩) (by simp) _, kz, hB.setCell (p := ⟨w.heap.size + 1 + 1, 7, none⟩) (by simp; omega) _⟩
        case measure => simp [intOf]
    · obtain rfl : k = 7 := by omega
      have kx' : Blk wo (w.heap.size + 1 + 1) 36 #[.int .i64 (smallI a), .int .i64 (smallI b), .int .i64 (smallI c), .int .i64 (smallI d), .int .i64 (smallI e), .int .i64 (smallI f), .int .i64 (smallI g), .int .i64 (smallI h)] := kx
      clear kx hk hlt
      obtain ⟨kx, rfl⟩ : ∃ kx : Blk wo (w.heap.size + 1 + 1) 36 #[.int .i64 (smallI a), .int .i64 (smallI b), .int .i64 (smallI c), .int .i64 (smallI d), .int .i64 (smallI e), .int .i64 (smallI f), .int .i64 (smallI g), .int .i64 (smallI h)], kx = kx' := ⟨_, rfl⟩
      have hR := rMapR_any (smallI a) (smallI b) (smallI c) (smallI d) (smallI e) (smallI f) (smallI g) (smallI h)
      cases hv : mapOk (smallI a) (smallI b) (smallI c) (smallI d) (smallI e) (smallI f) (smallI g) (smallI h)
      · have e0 : Hid (mapIs a b c d e f g h = false) := Lib.hid (by rw [hi.out, hv])
        rw [hv] at hR
        clear hv
        go_wp2_with (refine row_load_w (w.heap.size + 1 + 1) 36 _ kx 36 _ rfl rfl rfl _ Tryz.underlying36 rfl (by kernel_rfl) ?_)
        refine (hR _).mono ?_
        rintro r w1 ⟨rfl, hb⟩
        replace kx := kx.below hb kx.lt; replace kl := kl.below hb kl.lt; replace kr := kr.below hb kr.lt; replace hB := hB.trans (hb.mono hB.size); clear hb
        go_wp2_with (refine row_store (w.heap.size + 1) 36 _ _ kr 36 _ _ rfl rfl rfl rfl (by kernel_rfl) rfl (by kernel_rfl) ?_)
        refine bodyPost_ret (results_cell_slot rfl _ _ (w.heap.size + 1) 36 _ _ rfl (kr.setRow _) Tryz.underlying36 rfl (by kernel_rfl) _ rfl) rfl ?_
        exact ⟨by unfold mapIsV; rw [e0.out]; rfl, below_setRow hB (by omega) _⟩
      · have e0 : Hid (mapIs a b c d e f g h = true) := Lib.hid (by rw [hi.out, hv])
        rw [hv] at hR
        clear hv
        go_wp2_with (refine row_load_w (w.heap.size + 1 + 1) 36 _ kx 36 _ rfl rfl rfl _ Tryz.underlying36 rfl (by kernel_rfl) ?_)
        refine (hR _).mono ?_
        rintro r w1 ⟨rfl, hb⟩
        replace kx := kx.below hb kx.lt; replace kl := kl.below hb kl.lt; replace kr := kr.below hb kr.lt; replace hB := hB.trans (hb.mono hB.size); clear hb
        go_wp2_with (first | (refine row_load_w (w.heap.size + 1 + 1) 36 _ kx 36 _ rfl rfl rfl _ Tryz.underlying36 rfl (by kernel_rfl) ?_) | (refine row_store (w.heap.size + 1) 36 _ _ kr 36 _ _ rfl rfl rfl rfl (by kernel_rfl) rfl (by kernel_rfl) ?_))
        refine bodyPost_ret (results_cell_slot rfl _ _ (w.heap.size + 1) 36 _ _ rfl (kr.setRow _) Tryz.underlying36 rfl (by kernel_rfl) _ rfl) rfl ?_
        exact ⟨by unfold mapIsV; rw [e0.out]; rfl, below_setRow hB (by omega) _⟩

/-- The box after some rounds. -/
def gtabAt (a b c d e f g : Nat) : Nat → Array Value
  | 0 => #[.int .i64 0, .int .i64 0, .int .i64 0, .int .i64 0, .int .i64 0, .int .i64 0, .int .i64 0]
  | 1 => #[.int .i64 (smallI a), .int .i64 0, .int .i64 0, .int .i64 0, .int .i64 0, .int .i64 0, .int .i64 0]
  | 2 => #[.int .i64 (smallI a), .int .i64 (smallI b), .int .i64 0, .int .i64 0, .int .i64 0, .int .i64 0, .int .i64 0]
  | 3 => #[.int .i64 (smallI a), .int .i64 (smallI b), .int .i64 (smallI c), .int .i64 0, .int .i64 0, .int .i64 0, .int .i64 0]
  | 4 => #[.int .i64 (smallI a), .int .i64 (smallI b), .int .i64 (smallI c), .int .i64 (smallI d), .int .i64 0, .int .i64 0, .int .i64 0]
  | 5 => #[.int .i64 (smallI a), .int .i64 (smallI b), .int .i64 (smallI c), .int .i64 (smallI d), .int .i64 (smallI e), .int .i64 0, .int .i64 0]
  | 6 => #[.int .i64 (smallI a), .int .i64 (smallI b), .int .i64 (smallI c), .int .i64 (smallI d), .int .i64 (smallI e), .int .i64 (smallI f), .int .i64 0]
  | _ => #[.int .i64 (smallI a), .int .i64 (smallI b), .int .i64 (smallI c), .int .i64 (smallI d), .int .i64 (smallI e), .int .i64 (smallI f), .int .i64 (smallI g)]
set_option maxRecDepth 100000 in
set_option maxHeartbeats 4000000 in
theorem rGetTable_any (a b c d e f g h : Nat) (w : World) : Calls Tryz.prog 12 #[.agg (ln8 a b c d e f g h)] w fun r w' => r = .returned (.tuple #[.agg (tabIsV a b c d e f g h), .bool (tabIs a b c d e f g h)]) ∧ Below w.heap.size w w' := by
  show Calls Tryz.prog 12 #[.agg #[.int .u64 a, .int .u64 b, .int .u64 c, .int .u64 d, .int .u64 e, .int .u64 f, .int .u64 g, .int .u64 h]] w _
  have kl := (Blk.new w 23 #[.int .u64 a, .int .u64 b, .int .u64 c, .int .u64 d, .int .u64 e, .int .u64 f, .int .u64 g, .int .u64 h]).alloc (.cells #[.int .i64 0, .int .i64 0, .int .i64 0, .int .i64 0, .int .i64 0, .int .i64 0, .int .i64 0] 40)
  have kr := Blk.new (w.alloc (.cells #[.int .u64 a, .int .u64 b, .int .u64 c, .int .u64 d, .int .u64 e, .int .u64 f, .int .u64 g, .int .u64 h] 23)) 40 #[.int .i64 0, .int .i64 0, .int .i64 0, .int .i64 0, .int .i64 0, .int .i64 0, .int .i64 0]
  have hB := ((Below.refl _ w).alloc (Nat.le_refl _) (.cells #[.int .u64 a, .int .u64 b, .int .u64 c, .int .u64 d, .int .u64 e, .int .u64 f, .int .u64 g, .int .u64 h] 23)).alloc (by simp) (.cells #[.int .i64 0, .int .i64 0, .int .i64 0, .int .i64 0, .int .i64 0, .int .i64 0, .int .i64 0] 40)
  simp only [World.size_alloc] at kr
  have hi := Lib.hid (tab_alt a b c d e f g h)
  go_enter Tryz.func12, Tryz.ntmps12
  have kx := Blk.new ((w.alloc (.cells #[.int .u64 a, .int .u64 b, .int .u64 c, .int .u64 d, .int .u64 e, .int .u64 f, .int .u64 g, .int .u64 h] 23)).alloc (.cells #[.int .i64 0, .int .i64 0, .int .i64 0, .int .i64 0, .int .i64 0, .int .i64 0, .int .i64 0] 40)) 40 #[.int .i64 0, .int .i64 0, .int .i64 0, .int .i64 0, .int .i64 0, .int .i64 0, .int .i64 0]
  replace kl := kl.alloc (.cells #[.int .i64 0, .int .i64 0, .int .i64 0, .int .i64 0, .int .i64 0, .int .i64 0, .int .i64 0] 40)
  replace kr := kr.alloc (.cells #[.int .i64 0, .int .i64 0, .int .i64 0, .int .i64 0, .int .i64 0, .int .i64 0, .int .i64 0] 40)
  replace hB := hB.alloc hB.size (.cells #[.int .i64 0, .int .i64 0, .int .i64 0, .int .i64 0, .int .i64 0, .int .i64 0, .int .i64 0] 40)
  simp only [World.size_alloc] at kx
  have H := Lib.hid (And.intro kl (And.intro kr (And.intro kx hB)))
  clear kl kr kx hB
  go_wp2
  go_loopw [5] (fun i wr => ∃ k : Nat, k ≤ 7 ∧ i = .int .i64 k ∧ Blk wr w.heap.size 23 #[.int .u64 a, .int .u64 b, .int .u64 c, .int .u64 d, .int .u64 e, .int .u64 f, .int .u64 g, .int .u64 h] ∧ Blk wr (w.heap.size + 1) 40 #[.int .i64 0, .int .i64 0, .int .i64 0, .int .i64 0, .int .i64 0, .int .i64 0, .int .i64 0] ∧ Blk wr (w.heap.size + 1 + 1) 40 (gtabAt a b c d e f g k) ∧ Below w.heap.size w wr) (fun i _ => 7 - (intOf i).toNat)
  case atStart => exact ⟨0, by omega, rfl, H.out⟩
  case round =>
    obtain ⟨k, hk, rfl, kl, kr, kx, hB⟩ := hrel
    obtain ⟨wo, rfl⟩ : ∃ wo : World, wo = wr := ⟨_, rfl⟩
    by_cases hlt : k < 7
    · have hor : k = 0 ∨ k = 1 ∨ k = 2 ∨ k = 3 ∨ k = 4 ∨ k = 5 ∨ k = 6 := by omega
      clear hk hlt
      rcases hor with rfl | rfl | rfl | rfl | rfl | rfl | rfl
      · have c1 := kl.cell 0
        have c2 := kx.cell 0
        have c3 := kx.frozen 0
        have kz := kx.set_ 0 (.int .i64 (smallI a))
        simp [gtabAt] at c1 c2 kz
        go_wp2_with fail
        refine (rsmall_any a _).mono ?_
        rintro r w1 ⟨rfl, rfl⟩
        go_wp2
        go_roundw
        case rel => exact ⟨1, by omega, by simp, kl.far (p := ⟨w.heap.size + 1 + 1, 0, none⟩) (by simp; omega) _, kr.far (p := ⟨w.heap.size + 1 + 1, 0, none⟩) (by simp) _, kz, hB.setCell (p := ⟨w.heap.size + 1 + 1, 0, none⟩) (by simp; omega) _⟩
        case measure => simp [intOf]
      · have c1 := kl.cell 1
        have c2 := kx.cell 1
        have c3 := kx.frozen 1
        have kz := kx.set_ 1 (.int .i64 (smallI b))
        simp [gtabAt] at c1 c2 kz
        go_wp2_with fail
        refine (rsmall_any b _).mono ?_
        rintro r w1 ⟨rfl, rfl⟩
        go_wp2
        go_roundw
        case rel => exact ⟨2, by omega, by simp, kl.far (p := ⟨w.heap.size + 1 + 1, 1, none⟩) (by simp; omega) _, kr.far (p := ⟨w.heap.size + 1 + 1, 1, none⟩) (by simp) _, kz, hB.setCell (p := ⟨w.heap.size + 1 + 1, 1, none⟩) (by simp; omega) _⟩
        case measure => simp [intOf]
      · have c1 := kl.cell 2
        have c2 := kx.cell 2
        have c3 := kx.frozen 2
        have kz := kx.set_ 2 (.int .i64 (smallI c))
        simp [gtabAt] at c1 c2 kz
        go_wp2_with fail
        refine (rsmall_any c _).mono ?_
        rintro r w1 ⟨rfl, rfl⟩
        go_wp2
        go_roundw
        case rel => exact ⟨3, by omega, by simp, kl.far (p := ⟨w.heap.size + 1 + 1, 2, none⟩) (by simp; omega) _, kr.far (p := ⟨w.heap.size + 1 + 1, 2, none⟩) (by simp) _, kz, hB.setCell (p := ⟨w.heap.size + 1 + 1, 2, none⟩) (by simp; omega) _⟩
        case measure => simp [intOf]
      · have c1 := kl.cell 3
        have c2 := kx.cell 3
        have c3 := kx.frozen 3
        have kz := kx.set_ 3 (.int .i64 (smallI d))
        simp [gtabAt] at c1 c2 kz
        go_wp2_with fail
        refine (rsmall_any d _).mono ?_
        rintro r w1 ⟨rfl, rfl⟩
        go_wp2
        go_roundw
        case rel => exact ⟨4, by omega, by simp, kl.far (p := ⟨w.heap.size + 1 + 1, 3, none⟩) (by simp; omega) _, kr.far (p := ⟨w.heap.size + 1 + 1, 3, none⟩) (by simp) _, kz, hB.setCell (p := ⟨w.heap.size + 1 + 1, 3, none⟩) (by simp; omega) _⟩
        case measure => simp [intOf]
      · have c1 := kl.cell 4
        have c2 := kx.cell 4
        have c3 := kx.frozen 4
        have kz := kx.set_ 4 (.int .i64 (smallI e))
        simp [gtabAt] at c1 c2 kz
        go_wp2_with fail
        refine (rsmall_any e _).mono ?_
        rintro r w1 ⟨rfl, rfl⟩
        go_wp2
        go_roundw
        case rel => exact ⟨5, by omega, by simp, kl.far (p := ⟨w.heap.size + 1 + 1, 4, none⟩) (by simp; omega) _, kr.far (p := ⟨w.heap.size + 1 + 1, 4, none⟩) (by simp) _, kz, hB.setCell (p := ⟨w.heap.size + 1 + 1, 4, none⟩) (by simp; omega) _⟩
        case measure => simp [intOf]
      · have c1 := kl.cell 5
        have c2 := kx.cell 5
        have c3 := kx.frozen 5
        have kz := kx.set_ 5 (.int .i64 (smallI f))
        simp [gtabAt] at c1 c2 kz
        go_wp2_with fail
        refine (rsmall_any f _).mono ?_
        rintro r w1 ⟨rfl, rfl⟩
        go_wp2
        go_roundw
        case rel => exact ⟨6, by omega, by simp, kl.far (p := ⟨w.heap.size + 1 + 1, 5, none⟩) (by simp; omega) _, kr.far (p := ⟨w.heap.size + 1 + 1, 5, none⟩) (by simp) _, kz, hB.setCell (p := ⟨w.heap.size + 1 + 1, 5, none⟩) (by simp; omega) _⟩
        case measure => simp [intOf]
      · have c1 := kl.cell 6
        have c2 := kx.cell 6
        have c3 := kx.frozen 6
        have kz := kx.set_ 6 (.int .i64 (smallI g))
        simp [gtabAt] at c1 c2 kz
        go_wp2_with fail
        refine (rsmall_any g _).mono ?_
        rintro r w1 ⟨rfl, rfl⟩
        go_wp2
        go_roundw
        case rel => exact ⟨7, by omega, by simp, kl.far (p := ⟨w.heap.size + 1 + 1, 6, none⟩) (by simp; omega) _, kr.far (p := ⟨w.heap.size + 1 + 1, 6, none⟩) (by simp) _, kz, hB.setCell (p := ⟨w.heap.size + 1 + 1, 6, none⟩) (by simp; omega) _⟩
        case measure => simp [intOf]
    · obtain rfl : k = 7 := by omega
      have kx' : Blk wo (w.heap.size + 1 + 1) 40 #[.int .i64 (smallI a), .int .i64 (smallI b), .int .i64 (smallI c), .int .i64 (smallI d), .int .i64 (smallI e), .int .i64 (smallI f), .int .i64 (smallI g)] := kx
      clear kx hk hlt
      obtain ⟨kx, rfl⟩ : ∃ kx : Blk wo (w.heap.size + 1 + 1) 40 #[.int .i64 (smallI a), .int .i64 (smallI b), .int .i64 (smallI c), .int .i64 (smallI d), .int .i64 (smallI e), .int .i64 (smallI f), .int .i64 (smallI g)], kx = kx' := ⟨_, rfl⟩
      have hR := rTableR_any (smallI a) (smallI b) (smallI c) (smallI d) (smallI e) (smallI f) (smallI g)
      cases hv : tabOk (smallI a) (smallI b) (smallI c) (smallI d) (smallI e) (smallI f) (smallI g)
      · have e0 : Hid (tabIs a b c d e f g h = false) := Lib.hid (by rw [hi.out, hv, Bool.false_and])
        rw [hv] at hR
        clear hv
        go_wp2_with (refine row_load_w (w.heap.size + 1 + 1) 40 _ kx 40 _ rfl rfl rfl _ Tryz.underlying40 rfl (by kernel_rfl) ?_)
        refine (hR _).mono ?_
        rintro r w1 ⟨rfl, hb⟩
        replace kx := kx.below hb kx.lt; replace kl := kl.below hb kl.lt; replace kr := kr.below hb kr.lt; replace hB := hB.trans (hb.mono hB.size); clear hb
        go_wp2_with (refine row_store (w.heap.size + 1) 40 _ _ kr 40 _ _ rfl rfl rfl rfl (by kernel_rfl) rfl (by kernel_rfl) ?_)
        refine bodyPost_ret (results_cell_slot rfl _ _ (w.heap.size + 1) 40 _ _ rfl (kr.setRow _) Tryz.underlying40 rfl (by kernel_rfl) _ rfl) rfl ?_
        exact ⟨by unfold tabIsV; rw [e0.out]; rfl, below_setRow hB (by omega) _⟩
      · have hi2 := hi.out
        rw [hv, Bool.true_and] at hi2
        rw [hv] at hR
        clear hv
        cases hz : zer h
        all_goals
          rw [hz] at hi2
          have e0 := Lib.hid hi2
          have hz2 : ((h : Int) != 0) = !(zer h) := rfl
          rw [hz] at hz2
          clear hz hi2
          go_wp2_with (refine row_load_w (w.heap.size + 1 + 1) 40 _ kx 40 _ rfl rfl rfl _ Tryz.underlying40 rfl (by kernel_rfl) ?_)
          refine (hR _).mono ?_
          rintro r w1 ⟨rfl, hb⟩
          replace kx := kx.below hb kx.lt; replace kl := kl.below hb kl.lt; replace kr := kr.below hb kr.lt; replace hB := hB.trans (hb.mono hB.size); clear hb
          have k7 := kl.cell 7
          simp at k7
          go_wp2_with (first | (refine row_load_w (w.heap.size + 1 + 1) 40 _ kx 40 _ rfl rfl rfl _ Tryz.underlying40 rfl (by kernel_rfl) ?_) | (refine row_store (w.heap.size + 1) 40 _ _ kr 40 _ _ rfl rfl rfl rfl (by kernel_rfl) rfl (by kernel_rfl) ?_))
          refine bodyPost_ret (results_cell_slot rfl _ _ (w.heap.size + 1) 40 _ _ rfl (kr.setRow _) Tryz.underlying40 rfl (by kernel_rfl) _ rfl) rfl ?_
          exact ⟨by unfold tabIsV; rw [e0.out]; rfl, below_setRow hB (by omega) _⟩
end Go.Proofs.YtdgnbmcckknfiaaGreat
