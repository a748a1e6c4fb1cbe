/- The walks of the laws SumHolds, SumJoins, SumSeals. No conditions but that the slices read as lists. -/
import Derived.Test.YtbdlkcdiioleiaaSumC
import Derived.Test.YtbdlkcdiioleiaaSumP
namespace Go.Proofs.Ytbdlkcdiioleiaa
open Go.RowKit

theorem info23 : (Try.prog.info? 23).map (fun i => (i.zero, i.size, i.bytes)) = some (some (.int .u64 0), 1, 8) := by kernel_rfl

theorem one_u64 (xs : List Int) : ∀ u ∈ xs.map (Value.int .u64), u.oneCell' = true := ints_oneCell _ _

set_option maxRecDepth 100000 in
set_option maxHeartbeats 400000 in
theorem sumHolds_out (at_ by_ : Int) (A : Option Addr) (n c : Nat) (w : World) (hx : 300 < n ∨ at_ < 0 ∨ (n : Int) ≤ at_ ∨ by_ = 0) :
    Calls Try.prog 4 #[.slice A n c, .int .i64 at_, .int .u64 by_] w fun e w' => e = .returned (.bool true) ∧ Below w.heap.size w w' := by
  by_cases h1 : 300 < n
  · go_enter Try.func4, Try.ntmps4
    go_wp2_with (go_at_call 9; refine (works_any _).mono ?_; rintro e w' ⟨rfl, hb⟩)
    go_ret
    exact ⟨rfl, hb⟩
  · by_cases h2 : at_ < 0
    · go_enter Try.func4, Try.ntmps4
      go_wp2_with (go_at_call 9; refine (works_any _).mono ?_; rintro e w' ⟨rfl, hb⟩)
      go_ret
      exact ⟨rfl, hb⟩
    · by_cases h3 : (n : Int) ≤ at_
      · clear hx
        go_enter Try.func4, Try.ntmps4
        go_wp2_with (go_at_call 9; refine (works_any _).mono ?_; rintro e w' ⟨rfl, hb⟩)
        go_ret
        exact ⟨rfl, hb⟩
      · have h4 : by_ = 0 := by omega
        subst h4
        clear hx
        go_enter Try.func4, Try.ntmps4
        go_wp2_with (go_at_call 9; refine (works_any _).mono ?_; rintro e w' ⟨rfl, hb⟩)
        go_ret
        exact ⟨rfl, hb⟩

set_option maxRecDepth 100000 in
set_option maxHeartbeats 1000000 in
theorem sumHolds_in (by_ : Int) (k : Nat) (xs : List Int) (A : Option Addr) (n c : Nat) (w : World) (hr : U64s w w.heap.size A n xs) (hw : ∀ x ∈ xs, U64 x) (h1 : n ≤ 300) (h2 : k < n) (hby : U64 by_) (h3 : by_ ≠ 0) :
    Calls Try.prog 4 #[.slice A n c, .int .i64 k, .int .u64 by_] w fun e w' => e = .returned (.bool true) ∧ Below w.heap.size w w' := by
  obtain ⟨i0, hi0, hz0, hz1, hz2⟩ := info_parts info23
  have hl1 : n ≤ xs.length := by rw [hr.len]; exact Nat.le_refl _
  have hl2 : xs.length ≤ n := by rw [hr.len]; exact Nat.le_refl _
  have hk : k < xs.length := by omega
  obtain ⟨y, hy⟩ : ∃ y, bits .xor .u64 (xs[k]'hk) by_ = y := ⟨_, rfl⟩
  have hx := xor_bits (xs[k]'hk) by_ (hw _ (List.getElem_mem hk)) hby h3
  rw [hy] at hx
  have f1 : (by_ == 0) = false := by simpa using h3
  have f2 : (mor fnv xs != mor fnv (xs.set k y)) = true := by simpa using mor_set xs k hk y hw hx.1 hx.2
  have f3 : (sealOf xs == 0) = false := by simpa using seal_ne xs
  have f4 : (sealOf xs != 0) = true := by simpa using seal_ne xs
  have Hy := Lib.hid hy
  clear hy hx h3 hw
  go_enter Try.func4, Try.ntmps4
  go_wp2_with (at_builtin; go_must (refine wpList_append_any _ rfl (.tmp 32) (.tmp 33) _ rfl w.heap.size 23 i0 _ 1 8 Try.underlying22 hi0 hz0 hz1 hz2 rfl (by omega) (.slice (some ⟨w.heap.size, 0, none⟩) 0 0) 0 [] rfl (World.ownsRow_lit w #[] 0 (Nat.le_refl _) (by decide) rfl) w.heap.size A n c (xs.map (Value.int .u64)) rfl (Reads.alloc hr (Nat.le_refl _) _) (one_u64 _) (by simp only [maxLen]; omega) (by omega) (by simp) ?_); intro v1 w1 hown1 hg1 hat1; obtain ⟨g, cap, rfl, hgb, hglt⟩ := hown1.form (by omega); simp only [Nat.zero_add, List.nil_append] at hown1; have hc1 := hown1.cellAt k (by omega); have hf1 := hown1.frozenAt k; rw [List.getElem?_map, List.getElem?_eq_getElem hk, Option.map_some] at hc1; rw [Nat.zero_add])
  have hst := hown1.stored k (.int .u64 y)
  have hb1 : Below w.heap.size w w1 := ((Below.refl _ w).alloc (Nat.le_refl _) _).grown hg1 (by simp) (by simp [Value.ownBlock])
  rw [Hy.out]
  have d2 : Below w.heap.size w (w1.setCell ⟨g, k, none⟩ (.int .u64 y)) := hb1.setCell (p := ⟨g, k, none⟩) hgb _
  have hown2 := hst.1
  clear hst hown1 hc1 hf1 hat1 hg1 hb1
  generalize w1.setCell ⟨g, k, none⟩ (.int .u64 y) = w2 at *
  have hm2 : U64s w2 w2.heap.size (some ⟨g, 0, none⟩) n (xs.set k y) := by
    have := Reads.of_own hown2
    rwa [← List.map_set] at this
  have hr2 : U64s w2 w2.heap.size A n xs := Reads.more (Reads.below hr d2) d2.size
  refine (of_fit xs A n c _ hr2 (by omega)).mono ?_
  rintro e w3 ⟨rfl, hb3⟩
  have d3 := d2.trans (hb3.mono d2.size)
  have hm3 : U64s w3 w3.heap.size (some ⟨g, 0, none⟩) n (xs.set k y) := Reads.more (Reads.below hm2 hb3) hb3.size
  have hr3 : U64s w3 w3.heap.size A n xs := Reads.more (Reads.below hr d3) d3.size
  go_wp2_with fail
  refine (of_fit (xs.set k y) _ n cap _ hm3 (by omega)).mono ?_
  rintro e w4 ⟨rfl, hb4⟩
  have d4 := d3.trans (hb4.mono d3.size)
  have hr4 : U64s w4 w4.heap.size A n xs := Reads.more (Reads.below hr d4) d4.size
  go_wp2_with fail
  refine (seal_fit xs A n c _ hr4 (by omega)).mono ?_
  rintro e w5 ⟨rfl, hb5⟩
  have d5 := d4.trans (hb5.mono d4.size)
  go_wp2_with (go_at_call 13; refine (num_any _ _).mono ?_; rintro e w' ⟨rfl, rfl⟩)
  refine (works_any _).mono ?_
  rintro e w6 ⟨rfl, hb6⟩
  go_wp2_with fail
  go_ret
  exact ⟨rfl, d5.trans (hb6.mono d5.size)⟩

set_option maxRecDepth 100000 in
set_option maxHeartbeats 400000 in
theorem sumSeals_out (m : Int) (A : Option Addr) (n c : Nat) (w : World) (hx : 1000 < n) :
    Calls Try.prog 6 #[.slice A n c, .int .u64 m] w fun e w' => e = .returned (.bool true) ∧ Below w.heap.size w w' := by
  go_enter Try.func6, Try.ntmps6
  go_wp2_with (go_at_call 9; refine (works_any _).mono ?_; rintro e w' ⟨rfl, hb⟩)
  go_ret
  exact ⟨rfl, hb⟩

set_option maxRecDepth 100000 in
set_option maxHeartbeats 1000000 in
theorem sumSeals_in (m : Int) (xs : List Int) (A : Option Addr) (n c : Nat) (w : World) (hr : U64s w w.heap.size A n xs) (h1 : n ≤ 1000) :
    Calls Try.prog 6 #[.slice A n c, .int .u64 m] w fun e w' => e = .returned (.bool true) ∧ Below w.heap.size w w' := by
  have f1 : ((sealOf xs == m) == (m == sealOf xs)) = true := by
    have h : (sealOf xs == m) = (m == sealOf xs) := BEq.comm
    rw [h, beq_self_eq_true]
  have f3 : (sealOf xs == 0) = false := by simpa using seal_ne xs
  have f4 : (sealOf xs != 0) = true := by simpa using seal_ne xs
  go_enter Try.func6, Try.ntmps6
  go_wp2_with fail
  refine (seal_fit xs A n c _ hr (by omega)).mono ?_
  rintro e w1 ⟨rfl, d1⟩
  have hr1 : U64s w1 w1.heap.size A n xs := Reads.more (Reads.below hr d1) d1.size
  go_wp2_with (go_at_call 13; refine (num_any _ _).mono ?_; rintro e w' ⟨rfl, rfl⟩)
  refine (sealed_fit _ xs A n c _ hr1 (by omega)).mono ?_
  rintro e w2 ⟨rfl, hb2⟩
  have d2 := d1.trans (hb2.mono d1.size)
  have hr2 : U64s w2 w2.heap.size A n xs := Reads.more (Reads.below hr d2) d2.size
  go_wp2_with fail
  refine (sealed_fit _ xs A n c _ hr2 (by omega)).mono ?_
  rintro e w3 ⟨rfl, hb3⟩
  have d3 := d2.trans (hb3.mono d2.size)
  have hr3 : U64s w3 w3.heap.size A n xs := Reads.more (Reads.below hr d3) d3.size
  go_wp2_with fail
  refine (sealed_fit _ xs A n c _ hr3 (by omega)).mono ?_
  rintro e w4 ⟨rfl, hb4⟩
  have d4 := d3.trans (hb4.mono d3.size)
  go_wp2_with fail
  refine (works_any _).mono ?_
  rintro e w6 ⟨rfl, hb6⟩
  go_wp2_with fail
  go_ret
  exact ⟨rfl, d4.trans (hb6.mono d4.size)⟩
end Go.Proofs.Ytbdlkcdiioleiaa
