/- The walk of the law SumOf. No conditions but that the slice reads as a list. -/
import Derived.Test.YtbdlkcdiioleiaaSumC
namespace Go.Proofs.Ytbdlkcdiioleiaa
open Go.RowKit

theorem mor_cut (s : Int) (xs : List Int) (k : Nat) : mor (mor s (xs.take k)) (xs.drop k) = mor s xs := by
  unfold mor
  rw [← List.foldl_append, List.take_append_drop]

theorem seal_both (xs : List Int) (m : Int) : ((sealOf xs == m) == (m == sealOf xs)) = true := by
  have h : (sealOf xs == m) = (m == sealOf xs) := BEq.comm
  rw [h, beq_self_eq_true]

set_option maxRecDepth 100000 in
set_option maxHeartbeats 400000 in
theorem sumOf_out (m f : Int) (A : Option Addr) (n c : Nat) (w : World) (hx : 4100 < n ∨ f < 0 ∨ (n : Int) < f) :
    Calls Try.prog 3 #[.slice A n c, .int .u64 m, .int .i64 f] w fun e w' => e = .returned (.bool true) ∧ Below w.heap.size w w' := by
  by_cases h1 : 4100 < n
  · go_enter Try.func3, Try.ntmps3
    go_wp2_with (go_at_call 9; refine (works_any _).mono ?_; rintro e w' ⟨rfl, hb⟩)
    go_ret
    exact ⟨rfl, hb⟩
  · by_cases h2 : f < 0
    · go_enter Try.func3, Try.ntmps3
      go_wp2_with (go_at_call 9; refine (works_any _).mono ?_; rintro e w' ⟨rfl, hb⟩)
      go_ret
      exact ⟨rfl, hb⟩
    · have h3 : (n : Int) < f := by omega
      clear hx
      go_enter Try.func3, Try.ntmps3
      go_wp2_with (go_at_call 9; refine (works_any _).mono ?_; rintro e w' ⟨rfl, hb⟩)
      go_ret
      exact ⟨rfl, hb⟩

set_option maxRecDepth 100000 in
set_option maxHeartbeats 1000000 in
theorem sumOf_long (m f : Int) (xs : List Int) (A : Option Addr) (n c : Nat) (w : World) (hr : U64s w w.heap.size A n xs) (h1 : n ≤ 4100) (h2 : 0 ≤ f) (h3 : f ≤ n) (h4 : 4096 < n) :
    Calls Try.prog 3 #[.slice A n c, .int .u64 m, .int .i64 f] w fun e w' => e = .returned (.bool true) ∧ Below w.heap.size w w' := by
  go_enter Try.func3, Try.ntmps3
  go_wp2_with fail
  refine (of_long A n c _ h4).mono ?_
  rintro e w1 ⟨rfl, hb1⟩
  go_wp2_with fail
  refine (seal_long A n c _ h4).mono ?_
  rintro e w2 ⟨rfl, hb2⟩
  go_wp2_with fail
  refine (more_long _ A n c _ h4).mono ?_
  rintro e w3 ⟨rfl, hb3⟩
  go_wp2_with (go_at_call 13; refine (num_any _ _).mono ?_; rintro e w' ⟨rfl, rfl⟩)
  have d1 := hb1
  have d2 := d1.trans (hb2.mono d1.size)
  have d3 := d2.trans (hb3.mono d2.size)
  refine (rseal_any xs A n c _ _ (Reads.below hr d3) (by unfold maxLen; omega)).mono ?_
  rintro e w4 ⟨rfl, rfl⟩
  go_wp2_with fail
  refine (sealed_long _ A n c _ h4).mono ?_
  rintro e w5 ⟨rfl, hb5⟩
  go_wp2_with fail
  refine (works_any _).mono ?_
  rintro e w6 ⟨rfl, hb6⟩
  go_wp2_with fail
  go_ret
  have d5 := d3.trans (hb5.mono d3.size)
  exact ⟨rfl, d5.trans (hb6.mono d5.size)⟩

set_option maxRecDepth 100000 in
set_option maxHeartbeats 2000000 in
theorem sumOf_fit (m : Int) (k : Nat) (xs : List Int) (A : Option Addr) (n c : Nat) (w : World) (hr : U64s w w.heap.size A n xs) (hc : n ≤ c) (h1 : n ≤ 4096) (h3 : k ≤ n) :
    Calls Try.prog 3 #[.slice A n c, .int .u64 m, .int .i64 k] w fun e w' => e = .returned (.bool true) ∧ Below w.heap.size w w' := by
  have f1 := seal_both xs m
  obtain ⟨A', hcut, hA'⟩ := slice_from (P := Try.prog) (t := 22) (by kernel_rfl) (fun w => by kernel_rfl) A n c k h3 hc
  have f2 : (mor (mor fnv (xs.take k)) (xs.drop k) == mor fnv xs) = true := by rw [mor_cut]; simp
  go_enter Try.func3, Try.ntmps3
  go_wp2_with fail
  refine (of_fit xs A n c _ hr h1).mono ?_
  rintro e w1 ⟨rfl, d1⟩
  go_wp2_with fail
  refine (seal_fit xs A n c _ (Reads.more (Reads.below hr d1) d1.size) h1).mono ?_
  rintro e w2 ⟨rfl, hb2⟩
  have d2 := d1.trans (hb2.mono d1.size)
  go_wp2_with fail
  refine (more_fit _ xs A n c _ (Reads.more (Reads.below hr d2) d2.size) h1).mono ?_
  rintro e w3 ⟨rfl, hb3⟩
  have d3 := d2.trans (hb3.mono d2.size)
  have hr3 : U64s w3 w3.heap.size A n xs := Reads.more (Reads.below hr d3) d3.size
  go_wp2_with fail
  have hf3 : U64s w3 w3.heap.size A k (xs.take k) := by
    have := Reads.front hr3 h3
    rwa [← List.map_take] at this
  refine (of_fit (xs.take k) A k c _ hf3 (by omega)).mono ?_
  rintro e w4 ⟨rfl, hb4⟩
  have d4 := d3.trans (hb4.mono d3.size)
  have hr4 : U64s w4 w4.heap.size A n xs := Reads.more (Reads.below hr d4) d4.size
  go_wp2_with fail
  have hl4 : U64s w4 w4.heap.size A' (n - k) (xs.drop k) := by
    have := hA' _ _ _ hr4
    rwa [← List.map_drop] at this
  refine (more_fit _ (xs.drop k) A' (n - k) _ _ hl4 (by omega)).mono ?_
  rintro e w5 ⟨rfl, hb5⟩
  have d5 := d4.trans (hb5.mono d4.size)
  have hr5 : U64s w5 w5.heap.size A n xs := Reads.more (Reads.below hr d5) d5.size
  go_wp2_with (go_at_call 13; refine (num_any _ _).mono ?_; rintro e w' ⟨rfl, rfl⟩)
  refine (rof_any xs A n c _ _ hr5 (by unfold maxLen; omega)).mono ?_
  rintro e w' ⟨rfl, rfl⟩
  go_wp2_with fail
  refine (rseal_any xs A n c _ _ hr5 (by unfold maxLen; omega)).mono ?_
  rintro e w' ⟨rfl, rfl⟩
  go_wp2_with fail
  refine (rmore_any _ xs A n c _ _ hr5 (by unfold maxLen; omega)).mono ?_
  rintro e w' ⟨rfl, rfl⟩
  go_wp2_with fail
  refine (sealed_fit _ xs A n c _ hr5 h1).mono ?_
  rintro e w6 ⟨rfl, hb6⟩
  have d6 := d5.trans (hb6.mono d5.size)
  have hr6 : U64s w6 w6.heap.size A n xs := Reads.more (Reads.below hr d6) d6.size
  go_wp2_with fail
  refine (sealed_fit _ xs A n c _ hr6 h1).mono ?_
  rintro e w7 ⟨rfl, hb7⟩
  have d7 := d6.trans (hb7.mono d6.size)
  have hr7 : U64s w7 w7.heap.size A n xs := Reads.more (Reads.below hr d7) d7.size
  go_wp2_with fail
  refine (rseal_any xs A n c _ _ hr7 (by unfold maxLen; omega)).mono ?_
  rintro e w' ⟨rfl, rfl⟩
  go_wp2_with fail
  refine (works_any _).mono ?_
  rintro e w8 ⟨rfl, hb8⟩
  go_wp2_with fail
  go_ret
  exact ⟨rfl, d7.trans (hb8.mono d7.size)⟩
end Go.Proofs.Ytbdlkcdiioleiaa
