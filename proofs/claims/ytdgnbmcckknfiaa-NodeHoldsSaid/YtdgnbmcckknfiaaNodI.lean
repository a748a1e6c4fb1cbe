/- The walks of node's inodes: which may be, how their words are written, and read. Conditions: words of 64 bits. -/
import Derived.Test.YtdgnbmcckknfiaaNodA
import Derived.Test.YtdgnbmcckknfiaaRws
namespace Go.Proofs.Ytdgnbmcckknfiaa
open Go.RowKit
set_option linter.unusedSimpArgs false

set_option maxHeartbeats 400000 in
theorem kindF_any (w : World) : Calls Try.prog 65 #[] w fun e w' => e = .returned (.agg #[.int .i64 0, .int .i64 8]) ∧ Below w.heap.size w w' := by
  go_enter Try.func65, Try.ntmps65
  have hp := Blk.new w 126 #[.int .i64 0, .int .i64 0]
  go_wp2_with (refine row_store w.heap.size 126 _ _ hp 126 _ _ rfl rfl rfl rfl (by kernel_rfl) rfl (by kernel_rfl) ?_)
  refine bodyPost_ret (results_cell1 rfl _ _ w.heap.size 126 _ _ rfl (hp.setRow _) Try.underlying126 rfl (by kernel_rfl)) rfl ?_
  exact ⟨rfl, below_setRow ((Below.refl _ w).alloc (Nat.le_refl _) _) (Nat.le_refl _) _⟩
set_option maxHeartbeats 400000 in
theorem linksF_any (w : World) : Calls Try.prog 62 #[] w fun e w' => e = .returned (.agg #[.int .i64 8, .int .i64 56]) ∧ Below w.heap.size w w' := by
  go_enter Try.func62, Try.ntmps62
  have hp := Blk.new w 126 #[.int .i64 0, .int .i64 0]
  go_wp2_with (refine row_store w.heap.size 126 _ _ hp 126 _ _ rfl rfl rfl rfl (by kernel_rfl) rfl (by kernel_rfl) ?_)
  refine bodyPost_ret (results_cell1 rfl _ _ w.heap.size 126 _ _ rfl (hp.setRow _) Try.underlying126 rfl (by kernel_rfl)) rfl ?_
  exact ⟨rfl, below_setRow ((Below.refl _ w).alloc (Nat.le_refl _) _) (Nat.le_refl _) _⟩

/-- May an inode be? -/
def inoOk (k l t : Int) : Bool := ((k == 1) || ((k == 2) && (l == 1))) && decide (1 ≤ l) && decide (l ≤ 200) && ptrs 1 [t]
theorem one_read (w : World) (e : TypeId) (x : Int) : Reads (w.alloc (.cells #[.int .i64 x] e)) (w.alloc (.cells #[.int .i64 x] e)).heap.size 1 (some ⟨w.heap.size, 0, none⟩) 1 (cellsI [x]) := by
  refine ⟨rfl, fun _ => ⟨_, rfl, by rw [World.size_alloc]; exact Nat.lt_succ_self _, fun j u hu => ?_⟩⟩
  have hj : j = 0 := by
    have := (List.getElem?_eq_some_iff.1 hu).1
    simpa [cellsI] using this
  subst hj
  have hc := (Blk.new w e #[.int .i64 x]).cell 0
  exact hc.trans hu

set_option maxHeartbeats 1000000 in
theorem inoright_any (k l t : Int) (w : World) :
    Calls Try.prog 59 #[.agg #[.int .i64 k, .int .i64 l, .int .i64 t]] w fun e w' => e = .returned (.bool (inoOk k l t)) ∧ Below w.heap.size w w' := by
  have B0 : Below w.heap.size w (w.alloc (.cells #[.int .i64 k, .int .i64 l, .int .i64 t] 35)) := (Below.refl _ w).alloc (Nat.le_refl _) _
  have B1 : Below w.heap.size w ((w.alloc (.cells #[.int .i64 k, .int .i64 l, .int .i64 t] 35)).alloc (.cells #[.int .i64 t] 3)) := B0.alloc (by simp) _
  have hr := one_read (w.alloc (.cells #[.int .i64 k, .int .i64 l, .int .i64 t] 35)) 3 t
  simp only [World.size_alloc] at hr
  have key : ∀ v : Bool, ((k == 1) || ((k == 2) && (l == 1))) = v → inoOk k l t = (v && decide (1 ≤ l) && decide (l ≤ 200) && ptrs 1 [t]) := fun v h => by unfold inoOk; rw [h]
  cases c1 : k == 1
  · cases c2 : k == 2
    · have e : Hid (inoOk k l t = false) := Lib.hid (by rw [key false (by rw [c1, c2]; rfl)]; rfl)
      go_enter Try.func59, Try.ntmps59
      go_wp2
      go_ret
      exact ⟨by rw [e.out]; rfl, B0⟩
    · cases c3 : l == 1
      · have e : Hid (inoOk k l t = false) := Lib.hid (by rw [key false (by rw [c1, c2, c3]; rfl)]; rfl)
        go_enter Try.func59, Try.ntmps59
        go_wp2
        go_ret
        exact ⟨by rw [e.out]; rfl, B0⟩
      · have c4 : l = 1 := by simpa using c3
        have e : Hid (inoOk k l t = ptrs 1 [t]) := Lib.hid (by rw [key true (by rw [c1, c2, c3]; rfl), c4]; rfl)
        have c5 : (1 : Int) ≤ l := by omega
        have c6 : l ≤ 200 := by omega
        clear c4 key
        go_enter Try.func59, Try.ntmps59
        go_wp2_with fail
        refine (pointers_any 1 [t] _ _ _ _ (by rw [World.size_alloc, World.size_alloc]; exact hr) (by omega)).mono ?_
        rintro r w1 ⟨rfl, hb⟩
        go_wp2
        go_ret
        exact ⟨by rw [e.out]; rfl, B1.trans (hb.mono B1.size)⟩
  · by_cases c5 : (1 : Int) ≤ l
    · by_cases c6 : l ≤ 200
      · have e : Hid (inoOk k l t = ptrs 1 [t]) := Lib.hid (by rw [key true (by rw [c1]; rfl), decide_eq_true c5, decide_eq_true c6]; rfl)
        clear key
        go_enter Try.func59, Try.ntmps59
        go_wp2_with fail
        refine (pointers_any 1 [t] _ _ _ _ (by rw [World.size_alloc, World.size_alloc]; exact hr) (by omega)).mono ?_
        rintro r w1 ⟨rfl, hb⟩
        go_wp2
        go_ret
        exact ⟨by rw [e.out]; rfl, B1.trans (hb.mono B1.size)⟩
      · have e : Hid (inoOk k l t = false) := Lib.hid (by rw [key true (by rw [c1]; rfl), decide_eq_true c5, decide_eq_false c6]; rfl)
        clear key
        go_enter Try.func59, Try.ntmps59
        go_wp2
        go_ret
        exact ⟨by rw [e.out]; rfl, B0⟩
    · have e : Hid (inoOk k l t = false) := Lib.hid (by rw [key true (by rw [c1]; rfl), decide_eq_false c5]; rfl)
      clear key
      go_enter Try.func59, Try.ntmps59
      go_wp2
      go_ret
      exact ⟨by rw [e.out]; rfl, B0⟩
end Go.Proofs.Ytdgnbmcckknfiaa
