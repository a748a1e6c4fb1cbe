/- The walk of the law SumTexts. Conditions: a slice of bytes that reads as a list. -/
import Derived.Test.YtbdlkcdiioleiaaSumI
namespace Go.Proofs.Ytbdlkcdiioleiaa
open Go.RowKit

set_option maxHeartbeats 800000 in
theorem sumTexts_any (bs : List Nat) (A : Option Addr) (n c : Nat) (w : World) (hr : U8s w w.heap.size A n (bs.map Int.ofNat)) (hx : ∀ x ∈ bs, x < 256) (hc : n ≤ c) (hm : n ≤ maxLen) :
    Calls Try.prog 8 #[.slice A n c] w fun e w' => e = .returned (.bool true) ∧ Below w.heap.size w w' := by
  have Hx := Lib.hid hx
  clear hx
  by_cases h1 : 4200 < n
  · go_enter Try.func8, Try.ntmps8
    go_wp2_with fail
    refine (works_any _).mono ?_
    rintro e w1 ⟨rfl, hb⟩
    go_wp2
    go_ret
    exact ⟨rfl, hb⟩
  · by_cases h2 : 4096 < n
    · go_enter Try.func8, Try.ntmps8
      go_wp2_with fail
      refine (stext_long A n c _ h2 hm).mono ?_
      rintro e w1 ⟨rfl, hb⟩
      go_wp2_with fail
      refine (num_any _ _).mono ?_
      rintro e w2 ⟨rfl, rfl⟩
      go_wp2_with fail
      refine (works_any _).mono ?_
      rintro e w3 ⟨rfl, hb3⟩
      go_wp2
      go_ret
      exact ⟨rfl, hb.trans (hb3.mono hb.size)⟩
    · go_enter Try.func8, Try.ntmps8
      go_wp2_with fail
      refine (stext_fit bs A n c _ hr Hx.out hc (by omega)).mono ?_
      rintro e w1 ⟨rfl, hb⟩
      go_wp2_with fail
      refine (rtext_any bs A n c _ ((Reads.below hr hb).more hb.size) Hx.out (by omega)).mono ?_
      rintro e w2 ⟨rfl, hb2⟩
      go_wp2_with fail
      refine (num_any _ _).mono ?_
      rintro e w3 ⟨rfl, rfl⟩
      go_wp2_with fail
      refine (works_any _).mono ?_
      rintro e w3 ⟨rfl, hb3⟩
      go_wp2
      go_ret
      exact ⟨rfl, (hb.trans (hb2.mono hb.size)).trans (hb3.mono (by have := hb.size; have := hb2.size; omega))⟩
end Go.Proofs.Ytbdlkcdiioleiaa
