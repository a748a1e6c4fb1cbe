/- The walk of word.Bytes. Conditions: words that read as a list; a number of 64 bits. -/
import Derived.Test.YtdgnbmcckknfiaaGreatBytP
import Derived.Test.YtdgnbmcckknfiaaGreatWordE
import Derived.Test.YtdgnbmcckknfiaaGreatFldA
namespace Go.Proofs.YtdgnbmcckknfiaaGreat
open Go.RowKit

set_option maxHeartbeats 400000 in
theorem bytes1_any (x : Nat) (w : World) :
    Calls Tryz.prog 102 #[.int .u8 x] w fun e w' => e = .returned (.bool (nz x)) ∧ w = w' := by
  by_cases h : x = 0
  · subst h
    go_enter Tryz.func102, Tryz.ntmps102
    go_wp2
    go_ret
    exact ⟨rfl, rfl⟩
  · have h1 : ((x : Int) != 0) = true := by simp; omega
    have h2 : Hid (nz x = true) := Lib.hid (by simp [nz, h])
    clear h
    go_enter Tryz.func102, Tryz.ntmps102
    go_wp2
    go_ret
    exact ⟨by rw [h2.out]; rfl, rfl⟩

theorem u8_at (xs : List Nat) {w : World} {B : Nat} {A : Option Addr} {n k : Nat} (h : Reads w B 1 A n (cells8 xs)) (hk : k < n) : ∃ ad x, A = some ad ∧ ad.block < B ∧ xs[k]? = some x ∧ w.cell? (ad.add k) = some (.int .u8 (x : Int)) := by
  obtain ⟨ad, u, e, hb, hx, hc⟩ := Reads.at_ h hk
  unfold cells8 at hx
  rw [List.getElem?_map] at hx
  cases h' : xs[k]? with
  | none => rw [h'] at hx; cases hx
  | some x =>
    rw [h'] at hx
    simp at hx
    exact ⟨ad, x, e, hb, rfl, by rw [hc, ← hx]⟩

set_option maxHeartbeats 400000 in
theorem bindex_any (xs : List Nat) (A : Option Addr) (n c : Nat) (w : World) (hr : Reads w w.heap.size 1 A n (cells8 xs)) (hn : n ≤ 100000) :
    Calls Tryz.prog 107 #[.slice A n c, .func (.func 102) #[] #[]] w fun e w' => ∃ k : Int, e = .returned (.int .i64 k) ∧ decide (0 ≤ k) = anyNz xs ∧ w = w' := by
  have hl : xs.length = n := by have := hr.1; rw [cells8_len] at this; omega
  have Hl := Lib.hid hl
  clear hl
  go_enter Tryz.func107, Tryz.ntmps107
  go_wp2
  go_loop [8] (fun i => ∃ j : Nat, j ≤ n ∧ i = .int .i64 j ∧ anyNz (xs.take j) = false) (fun i => n - (intOf i).toNat)
  case atStart => exact ⟨0, Nat.zero_le _, rfl, rfl⟩
  case round =>
    obtain ⟨j, hj, rfl, hany⟩ := hrel
    by_cases hlt : j < n
    · obtain ⟨ad, x, rfl, hbl, hx, hc1⟩ := u8_at xs hr hlt
      have hin : Hid (∀ k : Int, nz x = true → 0 ≤ k → decide (0 ≤ k) = anyNz xs) := by
        intro k hab hk
        rw [decide_eq_true hk, anyNz_at xs j x hx hab]
      have hnx : Hid (nz x = false → anyNz (xs.take (j + 1)) = false) := fun hab => anyNz_take xs j x hx hany hab
      clear hany hx
      go_wp2_with fail
      refine (bytes1_any x _).mono ?_
      rintro e w1 ⟨rfl, rfl⟩
      cases hab : nz x
      · have hh := Lib.hid (hnx.out hab)
        clear hab
        go_wp2
        go_round
        case rel => exact ⟨j + 1, by omega, by go_num, hh.out⟩
        case measure => simp [intOf]; omega
      · have hh := Lib.hid (hin.out (j : Int) hab (by omega))
        clear hab
        go_wp2
        go_ret
        exact ⟨_, rfl, hh.out, rfl⟩
    · have hh : Hid (decide ((0 : Int) ≤ -1) = anyNz xs) := by
        rw [List.take_of_length_le (by have := Hl.out; omega)] at hany
        rw [hany]
        rfl
      clear hany
      go_wp2
      go_ret
      exact ⟨_, rfl, hh.out, rfl⟩

set_option maxHeartbeats 400000 in
theorem bcontains_any (xs : List Nat) (A : Option Addr) (n c : Nat) (w : World) (hr : Reads w w.heap.size 1 A n (cells8 xs)) (hn : n ≤ 100000) :
    Calls Tryz.prog 101 #[.slice A n c, .func (.func 102) #[] #[]] w fun e w' => e = .returned (.bool (anyNz xs)) ∧ w = w' := by
  go_enter Tryz.func101, Tryz.ntmps101
  go_wp2_with fail
  refine (bindex_any xs A n c _ hr hn).mono ?_
  rintro e w1 ⟨k, rfl, hk, rfl⟩
  have Hk := Lib.hid hk
  clear hk
  go_wp2
  go_ret
  exact ⟨by rw [← Hk.out]; rfl, rfl⟩
end Go.Proofs.YtdgnbmcckknfiaaGreat
