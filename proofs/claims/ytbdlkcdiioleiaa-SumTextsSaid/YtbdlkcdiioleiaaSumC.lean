/- The chapter's rows of layer 2 hold: works answers true. No conditions. -/
import Derived.Test.YtbdlkcdiioleiaaSumB
namespace Go.Proofs.Ytbdlkcdiioleiaa
open Go.RowKit

theorem addr_add (g i : Nat) : (⟨g, 0, none⟩ : Addr).add i = ⟨g, i, none⟩ := by
  unfold Addr.add
  by_cases h : i = 0 <;> simp [h]

/-- A block that the call made reads as the list of its words. -/
theorem u64s_new (w : World) (t : TypeId) (xs : List Int) (B : Nat) (hB : w.heap.size < B) :
    U64s (w.alloc (.cells (xs.map (Value.int .u64)).toArray t)) B (some ⟨w.heap.size, 0, none⟩) xs.length xs := by
  refine ⟨by simp, fun _ => ⟨_, rfl, hB, fun j u hu => ?_⟩⟩
  rw [addr_add]
  have := (Blk.new w t (xs.map (Value.int .u64)).toArray).cell j
  rw [this, ← hu]
  simp

theorem w_1 : (mor fnv [] == 14695981039346656037) = true := by decide +kernel
theorem w_2 : (mor fnv [0] == 12638153115695167455) = true := by decide +kernel
theorem w_3 : (sealOf [1, 2] == sealOf [1, 2]) = true := by simp
theorem w_4 : (sealOf [2, 1] == sealOf [1, 2]) = false := by decide +kernel
theorem w_5 : (sealOf [] == 0) = false := by decide +kernel

set_option maxHeartbeats 1000000 in
theorem works_any (w : World) : Calls Try.prog 9 #[] w fun e w' => e = .returned (.bool true) ∧ Below w.heap.size w w' := by
  have f1 := w_1
  have f2 := w_2
  have f3 := w_3
  have f4 := w_4
  have f5 := w_5
  go_enter Try.func9, Try.ntmps9
  go_wp2_with fail
  refine (of_fit [] none 0 0 _ Reads.none_ (by omega)).mono ?_
  rintro e w1 ⟨rfl, hb1⟩
  go_wp2_with fail
  refine (of_fit [0] _ 1 1 _ (u64s_new w1 23 [0] _ (by simp)) (by omega)).mono ?_
  rintro e w2 ⟨rfl, hb2⟩
  go_wp2_with fail
  refine (seal_fit [1, 2] _ 2 2 _ (u64s_new w2 23 [1, 2] _ (by simp)) (by omega)).mono ?_
  rintro e w3 ⟨rfl, hb3⟩
  go_wp2_with (go_at_call 13; refine (num_any _ _).mono ?_; rintro e w' ⟨rfl, rfl⟩)
  refine (sealed_fit _ [1, 2] _ 2 2 _ (u64s_new w3 23 [1, 2] _ (by simp)) (by omega)).mono ?_
  rintro e w4 ⟨rfl, hb4⟩
  go_wp2_with fail
  refine (sealed_fit _ [2, 1] _ 2 2 _ (u64s_new w4 23 [2, 1] _ (by simp)) (by omega)).mono ?_
  rintro e w5 ⟨rfl, hb5⟩
  go_wp2_with fail
  refine (sealed_fit _ [] none 0 0 _ Reads.none_ (by omega)).mono ?_
  rintro e w6 ⟨rfl, hb6⟩
  go_wp2_with fail
  go_ret
  have c1 := hb1
  have c2 := c1.trans (((Below.refl _ w1).alloc (Nat.le_refl _) _).trans (hb2.mono (by simp)) |>.mono hb1.size)
  have c3 := c2.trans (((Below.refl _ w2).alloc (Nat.le_refl _) _).trans (hb3.mono (by simp)) |>.mono c2.size)
  have c4 := c3.trans (((Below.refl _ w3).alloc (Nat.le_refl _) _).trans (hb4.mono (by simp)) |>.mono c3.size)
  have c5 := c4.trans (((Below.refl _ w4).alloc (Nat.le_refl _) _).trans (hb5.mono (by simp)) |>.mono c4.size)
  have c6 := c5.trans (hb6.mono c5.size)
  exact ⟨rfl, c6⟩
end Go.Proofs.Ytbdlkcdiioleiaa
