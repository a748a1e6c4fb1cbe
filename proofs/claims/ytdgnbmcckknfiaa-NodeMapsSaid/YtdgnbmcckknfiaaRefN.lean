/- The walks of the document's answers: pointers, super lines, inodes, tables, maps. Conditions: none. -/
import Derived.Test.YtdgnbmcckknfiaaMapA
import Derived.Test.YtdgnbmcckknfiaaSupA
import Derived.Test.YtdgnbmcckknfiaaNodL
namespace Go.Proofs.Ytdgnbmcckknfiaa
open Go.RowKit
set_option linter.unusedSimpArgs false

def rp0 (n : Int) : Bool := ptrs 0 [n]
def rp1 (n : Int) : Bool := ptrs 1 [n]
theorem rp1_eq (n : Int) : rp1 n = (decide (1 ≤ n) && decide (n < 1024)) := by
  unfold rp1 ptrs badP
  by_cases h1 : n < 1 <;> by_cases h2 : 1024 ≤ n <;> simp [h1, h2] <;> omega
theorem rp0_eq (n : Int) : rp0 n = (decide (0 ≤ n) && decide (n < 1024)) := by
  unfold rp0 ptrs badP
  by_cases h1 : n < 0 <;> by_cases h2 : 1024 ≤ n <;> simp [h1, h2] <;> omega
set_option maxHeartbeats 1000000 in
theorem point1_any (n : Int) (w : World) : Calls Try.prog 39 #[.int .i64 n, .bool true] w fun e w' => e = .returned (.bool (rp1 n)) ∧ w = w' := by
  by_cases h1 : n < 1024
  · by_cases h2 : 0 < n
    · have e1 : Hid (rp1 n = true) := Lib.hid (by rw [rp1_eq, decide_eq_true (by omega), decide_eq_true h1]; rfl)
      go_enter Try.func39, Try.ntmps39
      go_wp2
      go_ret
      exact ⟨by rw [e1.out]; rfl, rfl⟩
    · have e1 : Hid (rp1 n = false) := Lib.hid (by rw [rp1_eq, decide_eq_false (by omega)]; rfl)
      cases h3 : n == 0
      · go_enter Try.func39, Try.ntmps39
        go_wp2
        go_ret
        exact ⟨by rw [e1.out]; rfl, rfl⟩
      · go_enter Try.func39, Try.ntmps39
        go_wp2
        go_ret
        exact ⟨by rw [e1.out]; rfl, rfl⟩
  · have e1 : Hid (rp1 n = false) := Lib.hid (by rw [rp1_eq, decide_eq_false h1, Bool.and_false])
    go_enter Try.func39, Try.ntmps39
    go_wp2
    go_ret
    exact ⟨by rw [e1.out]; rfl, rfl⟩
set_option maxHeartbeats 1000000 in
theorem point0_any (n : Int) (w : World) : Calls Try.prog 39 #[.int .i64 n, .bool false] w fun e w' => e = .returned (.bool (rp0 n)) ∧ w = w' := by
  by_cases h1 : n < 1024
  · by_cases h2 : 0 < n
    · have e1 : Hid (rp0 n = true) := Lib.hid (by rw [rp0_eq, decide_eq_true (by omega), decide_eq_true h1]; rfl)
      go_enter Try.func39, Try.ntmps39
      go_wp2
      go_ret
      exact ⟨by rw [e1.out]; rfl, rfl⟩
    · cases h3 : n == 0
      · have e1 : Hid (rp0 n = false) := Lib.hid (by rw [rp0_eq, decide_eq_false (by simp at h3; omega)]; rfl)
        go_enter Try.func39, Try.ntmps39
        go_wp2
        go_ret
        exact ⟨by rw [e1.out]; rfl, rfl⟩
      · have e1 : Hid (rp0 n = true) := Lib.hid (by rw [rp0_eq, decide_eq_true (by simp at h3; omega), decide_eq_true h1]; rfl)
        go_enter Try.func39, Try.ntmps39
        go_wp2
        go_ret
        exact ⟨by rw [e1.out]; rfl, rfl⟩
  · have e1 : Hid (rp0 n = false) := Lib.hid (by rw [rp0_eq, decide_eq_false h1, Bool.and_false])
    go_enter Try.func39, Try.ntmps39
    go_wp2
    go_ret
    exact ⟨by rw [e1.out]; rfl, rfl⟩

set_option maxHeartbeats 1000000 in
theorem rSuperR_any (r l : Int) (w : World) : Calls Try.prog 23 #[.agg #[.int .i64 r, .int .i64 l]] w fun e w' => e = .returned (.bool (supOk r l)) ∧ Below w.heap.size w w' := by
  have hB := (Below.refl _ w).alloc (Nat.le_refl _) (.cells #[.int .i64 r, .int .i64 l] 51)
  have key : ∀ v : Bool, rp1 r = v → supOk r l = (v && decide (8 ≤ l) && decide (l ≤ 1024)) := fun v h => by rw [← h]; rfl
  have hP := Lib.hid (point1_any r)
  obtain ⟨v, hv⟩ : ∃ v, rp1 r = v := ⟨_, rfl⟩
  have e0 := Lib.hid (key v hv)
  rw [hv] at hP
  clear key hv
  cases v
  · go_enter Try.func23, Try.ntmps23
    go_wp2_with fail
    refine (hP.out _).mono ?_
    rintro e w1 ⟨rfl, rfl⟩
    go_wp2
    go_ret
    exact ⟨by rw [e0.out]; rfl, hB⟩
  · by_cases c5 : (8 : Int) ≤ l
    · have e1 : Hid (supOk r l = decide (l ≤ 1024)) := Lib.hid (by rw [e0.out, decide_eq_true c5]; simp)
      go_enter Try.func23, Try.ntmps23
      go_wp2_with fail
      refine (hP.out _).mono ?_
      rintro e w1 ⟨rfl, rfl⟩
      go_wp2
      go_ret
      exact ⟨by rw [e1.out]; rfl, hB⟩
    · have e1 : Hid (supOk r l = false) := Lib.hid (by rw [e0.out, decide_eq_false c5]; rfl)
      go_enter Try.func23, Try.ntmps23
      go_wp2_with fail
      refine (hP.out _).mono ?_
      rintro e w1 ⟨rfl, rfl⟩
      go_wp2
      go_ret
      exact ⟨by rw [e1.out]; rfl, hB⟩
/-- What the document's answer says of a super line's words, whether it may be or not. -/
def rsupL (r l : Int) : Array Value := ln8 8602284742314584430 (IntKind.u64.wrap r) (IntKind.u64.wrap l) 0 0 0 0 0
theorem rsupL_ok {r l : Int} (h : supOk r l = true) : supL r l = rsupL r l := by
  unfold supL
  rw [if_pos h]
  simp only [supOk, ptrs, badP, Bool.and_eq_true, decide_eq_true_eq, List.any_cons, List.any_nil, Bool.or_false, Bool.not_eq_true', Bool.or_eq_false_iff, decide_eq_false_iff_not] at h
  unfold rsupL
  rw [show IntKind.u64.wrap r = r by rw [IntKind.wrap_u64]; omega, show IntKind.u64.wrap l = l by rw [IntKind.wrap_u64]; omega]
set_option maxHeartbeats 1000000 in
theorem rSuperP_any (r l : Int) (w : World) : Calls Try.prog 22 #[.agg #[.int .i64 r, .int .i64 l]] w fun e w' => e = .returned (.agg (rsupL r l)) ∧ Below w.heap.size w w' := by
  have hB := ((Below.refl _ w).alloc (Nat.le_refl _) (.cells #[.int .i64 r, .int .i64 l] 51)).alloc (by simp) (.cells #[.int .u64 0, .int .u64 0, .int .u64 0, .int .u64 0, .int .u64 0, .int .u64 0, .int .u64 0, .int .u64 0] 26)
  have n1 := Blk.new (w.alloc (.cells #[.int .i64 r, .int .i64 l] 51)) 26 #[.int .u64 0, .int .u64 0, .int .u64 0, .int .u64 0, .int .u64 0, .int .u64 0, .int .u64 0, .int .u64 0]
  rw [World.size_alloc] at n1
  go_enter Try.func22, Try.ntmps22
  go_wp2_with (refine row_store (w.heap.size + 1) 26 _ _ n1 26 _ _ rfl rfl rfl rfl (by kernel_rfl) rfl (by kernel_rfl) ?_)
  refine bodyPost_ret (results_cell1 rfl _ _ (w.heap.size + 1) 26 _ _ rfl (n1.setRow _) Try.underlying26 rfl (by kernel_rfl)) rfl ?_
  exact ⟨rfl, below_setRow hB (by omega) _⟩

set_option maxHeartbeats 2000000 in
theorem rInodeR_any (k l t : Int) (w : World) : Calls Try.prog 25 #[.agg #[.int .i64 k, .int .i64 l, .int .i64 t]] w fun e w' => e = .returned (.bool (inoOk k l t)) ∧ Below w.heap.size w w' := by
  have hB := (Below.refl _ w).alloc (Nat.le_refl _) (.cells #[.int .i64 k, .int .i64 l, .int .i64 t] 35)
  have key : ∀ v : Bool, rp1 t = v → inoOk k l t = (((k == 1) || ((k == 2) && (l == 1))) && decide (1 ≤ l) && decide (l ≤ 200) && v) := fun v h => by rw [← h]; rfl
  have hP := Lib.hid (point1_any t)
  obtain ⟨v, hv⟩ : ∃ v, rp1 t = v := ⟨_, rfl⟩
  have e0 := Lib.hid (key v hv)
  rw [hv] at hP
  clear key hv
  by_cases c1 : l < 1
  · have e1 : Hid (inoOk k l t = false) := Lib.hid (by rw [e0.out, decide_eq_false (by omega : ¬ 1 ≤ l)]; simp)
    go_enter Try.func25, Try.ntmps25
    go_wp2
    go_ret
    exact ⟨by rw [e1.out]; rfl, hB⟩
  · by_cases c2 : 200 < l
    · have e1 : Hid (inoOk k l t = false) := Lib.hid (by rw [e0.out, decide_eq_false (by omega : ¬ l ≤ 200)]; simp)
      go_enter Try.func25, Try.ntmps25
      go_wp2
      go_ret
      exact ⟨by rw [e1.out]; rfl, hB⟩
    · cases v
      · have e1 : Hid (inoOk k l t = false) := Lib.hid (by rw [e0.out]; simp)
        go_enter Try.func25, Try.ntmps25
        go_wp2_with fail
        refine (hP.out _).mono ?_
        rintro e w1 ⟨rfl, rfl⟩
        go_wp2
        go_ret
        exact ⟨by rw [e1.out]; rfl, hB⟩
      · have e1 : Hid (inoOk k l t = ((k == 1) || ((k == 2) && (l == 1)))) := Lib.hid (by rw [e0.out, decide_eq_true (by omega : 1 ≤ l), decide_eq_true (by omega : l ≤ 200)]; simp)
        cases d1 : k == 1
        · cases d2 : k == 2
          · go_enter Try.func25, Try.ntmps25
            go_wp2_with fail
            refine (hP.out _).mono ?_
            rintro e w1 ⟨rfl, rfl⟩
            go_wp2
            go_ret
            exact ⟨by rw [e1.out, d1, d2]; rfl, hB⟩
          · go_enter Try.func25, Try.ntmps25
            go_wp2_with fail
            refine (hP.out _).mono ?_
            rintro e w1 ⟨rfl, rfl⟩
            go_wp2
            go_ret
            exact ⟨by rw [e1.out, d1, d2]; rfl, hB⟩
        · go_enter Try.func25, Try.ntmps25
          go_wp2_with fail
          refine (hP.out _).mono ?_
          rintro e w1 ⟨rfl, rfl⟩
          go_wp2
          go_ret
          exact ⟨by rw [e1.out, d1]; rfl, hB⟩
/-- What the document's answer says of an inode's words, whether it may be or not. -/
def rinoL (k l t : Int) : Array Value := ln8 (IntKind.u64.wrap (IntKind.u64.wrap k + IntKind.u64.wrap (256 * IntKind.u64.wrap l))) (IntKind.u64.wrap t) 0 0 0 0 0 0
theorem rinoL_ok {k l t : Int} (h : inoOk k l t = true) : inoL k l t = rinoL k l t := by
  unfold inoL
  rw [if_pos h]
  obtain ⟨K, L, T, rfl, rfl, rfl, hK, hL, hT⟩ := inoOk_nat h
  unfold rinoL
  rw [show IntKind.u64.wrap (K : Int) = K by rw [IntKind.wrap_u64]; omega, show IntKind.u64.wrap (L : Int) = L by rw [IntKind.wrap_u64]; omega, show IntKind.u64.wrap (T : Int) = T by rw [IntKind.wrap_u64]; omega,
    show IntKind.u64.wrap (256 * (L : Int)) = 256 * (L : Int) by rw [IntKind.wrap_u64]; omega, show IntKind.u64.wrap ((K : Int) + 256 * (L : Int)) = (K : Int) + 256 * (L : Int) by rw [IntKind.wrap_u64]; omega]
set_option maxHeartbeats 1000000 in
theorem rInodeP_any (k l t : Int) (w : World) : Calls Try.prog 24 #[.agg #[.int .i64 k, .int .i64 l, .int .i64 t]] w fun e w' => e = .returned (.agg (rinoL k l t)) ∧ Below w.heap.size w w' := by
  have hB := ((Below.refl _ w).alloc (Nat.le_refl _) (.cells #[.int .i64 k, .int .i64 l, .int .i64 t] 35)).alloc (by simp) (.cells #[.int .u64 0, .int .u64 0, .int .u64 0, .int .u64 0, .int .u64 0, .int .u64 0, .int .u64 0, .int .u64 0] 26)
  have n1 := Blk.new (w.alloc (.cells #[.int .i64 k, .int .i64 l, .int .i64 t] 35)) 26 #[.int .u64 0, .int .u64 0, .int .u64 0, .int .u64 0, .int .u64 0, .int .u64 0, .int .u64 0, .int .u64 0]
  rw [World.size_alloc] at n1
  go_enter Try.func24, Try.ntmps24
  go_wp2_with (refine row_store (w.heap.size + 1) 26 _ _ n1 26 _ _ rfl rfl rfl rfl (by kernel_rfl) rfl (by kernel_rfl) ?_)
  refine bodyPost_ret (results_cell1 rfl _ _ (w.heap.size + 1) 26 _ _ rfl (n1.setRow _) Try.underlying26 rfl (by kernel_rfl)) rfl ?_
  exact ⟨by first | rfl | (unfold rinoL; rfl), below_setRow hB (by omega) _⟩
end Go.Proofs.Ytdgnbmcckknfiaa
