/- The walks of package sum, second part: Of, Seal, Sealed, and the document's More, Of, Seal. No conditions but that a slice reads as a list. -/
import Derived.Test.YtbdlkcdiioleiaaSumA
namespace Go.Proofs.Ytbdlkcdiioleiaa
open Go.RowKit

/-- Where the sum begins. -/
def fnv : Int := 14695981039346656037
/-- What words are sealed by. -/
def sealOf (xs : List Int) : Int := if 1 < mor fnv xs then mor fnv xs else 1
theorem seal_gt (xs : List Int) (h : 1 < mor fnv xs) : sealOf xs = mor fnv xs := if_pos h
theorem seal_le (xs : List Int) (h : mor fnv xs ≤ 1) : sealOf xs = 1 := if_neg (by omega)

set_option maxHeartbeats 400000 in
theorem of_fit (xs : List Int) (A : Option Addr) (n c : Nat) (w : World) (hr : U64s w w.heap.size A n xs) (hn : n ≤ 4096) :
    Calls Try.prog 10 #[.slice A n c] w fun e w' => e = .returned (.tuple #[.int .u64 (mor fnv xs), .int .i64 0]) ∧ Below w.heap.size w w' := by
  go_enter Try.func10, Try.ntmps10
  go_wp2_with fail
  refine (more_fit _ xs A n c _ hr hn).mono ?_
  rintro e w1 ⟨rfl, hb⟩
  go_wp2
  go_ret2
  exact ⟨rfl, hb⟩

set_option maxHeartbeats 400000 in
theorem of_long (A : Option Addr) (n c : Nat) (w : World) (hn : 4096 < n) :
    Calls Try.prog 10 #[.slice A n c] w fun e w' => e = .returned (.tuple #[.int .u64 0, .int .i64 3]) ∧ Below w.heap.size w w' := by
  go_enter Try.func10, Try.ntmps10
  go_wp2_with fail
  refine (more_long _ A n c _ hn).mono ?_
  rintro e w1 ⟨rfl, hb⟩
  go_wp2
  go_ret2
  exact ⟨rfl, hb⟩

set_option maxHeartbeats 400000 in
theorem seal_fit (xs : List Int) (A : Option Addr) (n c : Nat) (w : World) (hr : U64s w w.heap.size A n xs) (hn : n ≤ 4096) :
    Calls Try.prog 11 #[.slice A n c] w fun e w' => e = .returned (.tuple #[.int .u64 (sealOf xs), .int .i64 0]) ∧ Below w.heap.size w w' := by
  go_enter Try.func11, Try.ntmps11
  go_wp2_with fail
  refine (of_fit xs A n c _ hr hn).mono ?_
  rintro e w1 ⟨rfl, hb⟩
  go_wp2
  · rw [seal_gt xs (by assumption)]
    go_ret2
    exact ⟨rfl, hb⟩
  · rw [seal_le xs (by assumption)]
    go_ret2
    exact ⟨rfl, hb⟩

set_option maxHeartbeats 400000 in
theorem seal_long (A : Option Addr) (n c : Nat) (w : World) (hn : 4096 < n) :
    Calls Try.prog 11 #[.slice A n c] w fun e w' => e = .returned (.tuple #[.int .u64 0, .int .i64 3]) ∧ Below w.heap.size w w' := by
  go_enter Try.func11, Try.ntmps11
  go_wp2_with fail
  refine (of_long A n c _ hn).mono ?_
  rintro e w1 ⟨rfl, hb⟩
  go_wp2
  go_ret2
  exact ⟨rfl, hb⟩

set_option maxHeartbeats 400000 in
theorem sealed_fit (s : Int) (xs : List Int) (A : Option Addr) (n c : Nat) (w : World) (hr : U64s w w.heap.size A n xs) (hn : n ≤ 4096) :
    Calls Try.prog 14 #[.int .u64 s, .slice A n c] w fun e w' => e = .returned (.bool (sealOf xs == s)) ∧ Below w.heap.size w w' := by
  go_enter Try.func14, Try.ntmps14
  go_wp2_with fail
  refine (seal_fit xs A n c _ hr hn).mono ?_
  rintro e w1 ⟨rfl, hb⟩
  go_wp2
  go_ret
  exact ⟨rfl, hb⟩

set_option maxHeartbeats 400000 in
theorem sealed_long (s : Int) (A : Option Addr) (n c : Nat) (w : World) (hn : 4096 < n) :
    Calls Try.prog 14 #[.int .u64 s, .slice A n c] w fun e w' => e = .returned (.bool false) ∧ Below w.heap.size w w' := by
  go_enter Try.func14, Try.ntmps14
  go_wp2_with fail
  refine (seal_long A n c _ hn).mono ?_
  rintro e w1 ⟨rfl, hb⟩
  go_wp2
  go_ret
  exact ⟨rfl, hb⟩

set_option maxHeartbeats 400000 in
theorem num_any (e : Int) (w : World) : Calls Try.prog 13 #[.int .i64 e] w fun r w' => r = .returned (.int .i64 e) ∧ w = w' := by
  go_enter Try.func13, Try.ntmps13
  go_wp2
  go_ret
  exact ⟨rfl, rfl⟩

set_option maxHeartbeats 400000 in
theorem rmore_any (s : Int) (xs : List Int) (A : Option Addr) (n c B : Nat) (w : World) (hr : U64s w B A n xs) (hn : n ≤ maxLen) :
    Calls Try.prog 17 #[.int .u64 s, .slice A n c] w fun e w' => e = .returned (.int .u64 (mor s xs)) ∧ w = w' := by
  have hl1 : n ≤ xs.length := by rw [hr.len]; exact Nat.le_refl _
  have hl2 : xs.length ≤ n := by rw [hr.len]; exact Nat.le_refl _
  unfold maxLen at hn
  go_enter Try.func17, Try.ntmps17
  go_wp2
  go_loop [0, 5] (fun t i => ∃ k : Nat, k ≤ n ∧ i = .int .i64 k ∧ t = .int .u64 (mor s (xs.take k))) (fun _ i => n - (intOf i).toNat)
  case atStart => exact ⟨0, Nat.zero_le _, rfl, rfl⟩
  case round =>
    obtain ⟨k, hk, rfl, rfl⟩ := hrel
    by_cases hlt : k < n
    · obtain ⟨ad, rfl, hbl, hc⟩ := hr.at_ hlt
      have hst : Hid (mor s (xs.take (k + 1)) = stp (mor s (xs.take k)) (xs[k]'(by omega))) := mor_take s xs k (by omega)
      go_wp2
      go_round
      case rel => exact ⟨k + 1, by omega, by go_num, by rw [hst.out]; rfl⟩
      case measure => simp [intOf]; omega
    · have hx : Hid (xs.take k = xs) := List.take_of_length_le (by omega)
      go_wp2
      go_ret
      rw [hx.out]
      exact ⟨rfl, rfl⟩

set_option maxHeartbeats 400000 in
theorem rof_any (xs : List Int) (A : Option Addr) (n c B : Nat) (w : World) (hr : U64s w B A n xs) (hn : n ≤ maxLen) :
    Calls Try.prog 16 #[.slice A n c] w fun e w' => e = .returned (.int .u64 (mor fnv xs)) ∧ w = w' := by
  go_enter Try.func16, Try.ntmps16
  go_wp2_with fail
  refine (rmore_any _ xs A n c B _ hr hn).mono ?_
  rintro e w1 ⟨rfl, rfl⟩
  go_wp2
  go_ret
  exact ⟨rfl, rfl⟩

set_option maxHeartbeats 400000 in
theorem rseal_any (xs : List Int) (A : Option Addr) (n c B : Nat) (w : World) (hr : U64s w B A n xs) (hn : n ≤ maxLen) :
    Calls Try.prog 15 #[.slice A n c] w fun e w' => e = .returned (.int .u64 (sealOf xs)) ∧ w = w' := by
  go_enter Try.func15, Try.ntmps15
  go_wp2_with fail
  refine (rof_any xs A n c B _ hr hn).mono ?_
  rintro e w1 ⟨rfl, rfl⟩
  go_wp2
  · rw [seal_gt xs (by assumption)]
    go_ret
    exact ⟨rfl, rfl⟩
  · rw [seal_le xs (by assumption)]
    go_ret
    exact ⟨rfl, rfl⟩

end Go.Proofs.Ytbdlkcdiioleiaa
