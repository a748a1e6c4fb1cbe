/- The walk of the law SumJoins. No conditions but that the slices read as lists. -/
import Derived.Test.YtbdlkcdiioleiaaSumE
namespace Go.Proofs.Ytbdlkcdiioleiaa
open Go.RowKit

set_option maxRecDepth 100000 in
set_option maxHeartbeats 1000000 in
theorem sumJoins_out (s : Int) (A B : Option Addr) (n c m d : Nat) (w : World) (hx : 1000 < n ∨ 1000 < m) :
    Calls Try.prog 5 #[.int .u64 s, .slice A n c, .slice B m d] w fun e w' => e = .returned (.bool true) ∧ Below w.heap.size w w' := by
  by_cases h1 : 1000 < n
  · go_enter Try.func5, Try.ntmps5
    go_wp2_with (go_at_call 9; refine (works_any _).mono ?_; rintro e w' ⟨rfl, hb⟩)
    go_ret
    exact ⟨rfl, hb⟩
  · have h2 : 1000 < m := by omega
    clear hx
    go_enter Try.func5, Try.ntmps5
    go_wp2_with (go_at_call 9; refine (works_any _).mono ?_; rintro e w' ⟨rfl, hb⟩)
    go_ret
    exact ⟨rfl, hb⟩

theorem mor_app (s : Int) (xs ys : List Int) : mor (mor s xs) ys = mor s (xs ++ ys) := by unfold mor; rw [List.foldl_append]

set_option maxRecDepth 100000 in
set_option maxHeartbeats 1000000 in
theorem sumJoins_in (s : Int) (xs ys : List Int) (A B : Option Addr) (n c m d : Nat) (w : World) (hr : U64s w w.heap.size A n xs) (hq : U64s w w.heap.size B m ys) (h1 : n ≤ 1000) (h2 : m ≤ 1000) :
    Calls Try.prog 5 #[.int .u64 s, .slice A n c, .slice B m d] w fun e w' => e = .returned (.bool true) ∧ Below w.heap.size w w' := by
  obtain ⟨i0, hi0, hz0, hz1, hz2⟩ := info_parts info23
  have f1 : (mor (mor s xs) ys == mor s (xs ++ ys)) = true := by rw [mor_app]; simp
  go_enter Try.func5, Try.ntmps5
  go_wp2_with fail
  refine (more_fit s xs A n c _ hr (by omega)).mono ?_
  rintro e w1 ⟨rfl, d1⟩
  have hq1 : U64s w1 w1.heap.size B m ys := Reads.more (Reads.below hq d1) d1.size
  go_wp2_with fail
  refine (more_fit _ ys B m d _ hq1 (by omega)).mono ?_
  rintro e w2 ⟨rfl, hb2⟩
  have d2 := d1.trans (hb2.mono d1.size)
  have hr2 : U64s w2 w2.heap.size A n xs := Reads.more (Reads.below hr d2) d2.size
  have hq2 : U64s w2 w2.heap.size B m ys := Reads.more (Reads.below hq d2) d2.size
  go_wp2_with (first
    | (at_builtin; refine wpList_append_any _ rfl (.tmp 36) (.tmp 37) _ rfl w2.heap.size 23 i0 _ 1 8 Try.underlying22 hi0 hz0 hz1 hz2 rfl (by omega) (.slice (some ⟨w2.heap.size, 0, none⟩) 0 0) 0 [] rfl (World.ownsRow_lit w2 #[] 0 (Nat.le_refl _) (by decide) rfl) w2.heap.size A n c (xs.map (Value.int .u64)) rfl (Reads.alloc hr2 (Nat.le_refl _) _) (one_u64 _) (by simp only [maxLen]; omega) (by omega) (by simp) ?_; intro v3 w3 hown3 hg3 hat3; have hb3 : Below w2.heap.size w2 w3 := ((Below.refl _ w2).alloc (Nat.le_refl _) _).grown hg3 (by simp) (by simp [Value.ownBlock]))
    | (at_builtin; refine wpList_append_any _ rfl (.tmp 38) (.tmp 39) _ rfl w2.heap.size 23 i0 _ 1 8 Try.underlying22 hi0 hz0 hz1 hz2 rfl (by omega) v3 (0 + n) ([] ++ xs.map (Value.int .u64)) rfl hown3 w2.heap.size B m d (ys.map (Value.int .u64)) rfl (Reads.below hq2 hb3) (one_u64 _) (by simp only [maxLen]; omega) (by omega) hb3.size ?_; intro v4 w4 hown4 hg4 hat4; obtain ⟨A4, c4, rfl⟩ := own_slice hown4))
  have hb4 : Below w2.heap.size w2 w4 := hb3.grown hg4 hb3.size (fun k hk => (hown3.lt k hk).1)
  have d4 := d2.trans (hb4.mono d2.size)
  have h4 : U64s w4 w4.heap.size A4 (n + m) (xs ++ ys) := by
    have := Reads.of_own hown4
    simpa [U64s] using this
  refine (more_fit s (xs ++ ys) A4 (n + m) c4 _ h4 (by omega)).mono ?_
  rintro e w5 ⟨rfl, hb5⟩
  have d5 := d4.trans (hb5.mono d4.size)
  go_wp2_with (go_at_call 13; refine (num_any _ _).mono ?_; rintro e w' ⟨rfl, rfl⟩)
  refine (works_any _).mono ?_
  rintro e w6 ⟨rfl, hb6⟩
  go_wp2_with fail
  go_ret
  exact ⟨rfl, d5.trans (hb6.mono d5.size)⟩
end Go.Proofs.Ytbdlkcdiioleiaa
