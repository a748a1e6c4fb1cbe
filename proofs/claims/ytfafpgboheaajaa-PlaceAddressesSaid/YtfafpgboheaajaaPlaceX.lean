/- The walk of the law PlaceAddresses. Conditions: a number of 64 bits. -/
import Derived.Test.YtfafpgboheaajaaPlaceW
namespace Go.Proofs.Ytfafpgboheaajaa
open Go.RowKit

set_option maxRecDepth 100000 in
set_option maxHeartbeats 2000000 in
theorem placeAddresses_any (a b n : Int) (w : World) :
    Calls Try.prog 3 #[.agg #[.int .i64 a, .int .i64 b], .int .i64 n] w fun e w' => e = .returned (.bool true) ∧ Below w.heap.size w w' := by
  have hp := Blk.new w 23 #[.int .i64 a, .int .i64 b]
  have B0 : Below w.heap.size w (w.alloc (.cells #[.int .i64 a, .int .i64 b] 23)) := (Below.refl _ w).alloc (Nat.le_refl _) _
  obtain ⟨⟨p1, p2⟩, hpp⟩ : ∃ p, atPlace n = p := ⟨_, rfl⟩
  go_enter Try.func3, Try.ntmps3
  go_wp2_with fail
  refine (address_any a b _).mono ?_
  rintro e w1 ⟨rfl, hb⟩
  replace hp := hp.below hb hp.lt
  have B1 := B0.trans (hb.mono B0.size)
  clear hb B0
  go_wp2_with fail
  refine (at_any n _).mono ?_
  rintro e w2 ⟨rfl, hb⟩
  rw [hpp]
  replace hp := (hp.below hb hp.lt).alloc (.cells #[.int .i64 p1, .int .i64 p2] 23)
  have hq := Blk.new w2 23 #[.int .i64 p1, .int .i64 p2]
  have B2' := B1.trans (hb.mono B1.size)
  have B2 := below_al B2' (.cells #[.int .i64 p1, .int .i64 p2] 23) B2'.size
  have ka := hp.cell 0
  have kb := hp.cell 1
  simp at ka kb
  clear hb B1 B2'
  go_wp2_with fail
  refine (rright_any a b _).mono ?_
  rintro e w3 ⟨rfl, hb⟩
  replace hp := hp.below hb hp.lt
  replace hq := hq.below hb hq.lt
  have B3 := B2.trans (hb.mono B2.size)
  replace ka := hp.cell 0
  replace kb := hp.cell 1
  simp at ka kb
  clear hb B2
  cases hin : inPlace a b
  · rw [show addrOf a b = 0 from by simp [addrOf, hin], show addrErr a b = 2 from by simp [addrErr, hin]]
    clear hin
    go_wp2_with (go_at_call 12; refine (num_any _ _).mono ?_; rintro e w' ⟨rfl, rfl⟩)
    refine (rthere_any n _).mono ?_
    rintro e w' ⟨rfl, rfl⟩
    have cq1 := hq.cell 0
    have cq2 := hq.cell 1
    simp at cq1 cq2
    clear ka kb hp
    by_cases hth : 0 ≤ n ∧ n < 8192
    · have hpv : atPlace n = (n / 8, n % 8) := by simp [atPlace, hth]
      rw [hpp] at hpv
      rw [show decide (0 ≤ n ∧ n < 8192) = true from by simp [hth], show atErr n = 0 from by simp [atErr, hth]]
      have h0 := hth.1
      have h1 := hth.2
      have hx : n / 8 = p1 := (congrArg Prod.fst hpv).symm
      have hy : n % 8 = p2 := (congrArg Prod.snd hpv).symm
      have hB := Below.refl w3.heap.size w3
      have hrat := rat_any n (h0 := h0) (h1 := h1)
      rw [hx, hy] at hrat
      have Hrat := Lib.hid hrat
      clear hth hx hy hpp hpv hrat h0 h1
      go_wp2_with fail
      go_region_with (first
        | (go_at_call 16; go_must (refine (Hrat.out _).mono ?_; rintro e wq ⟨rfl, hb2⟩; have hB := (by first | exact Below.trans hB (Below.mono hb2 (Below.size hB)) | exact Below.trans (Below.drew hB) (Below.mono hb2 (Nat.le_refl _)) : Below w3.heap.size w3 wq); have cq1 := (hq.below hB hq.lt).cell 0; have cq2 := (hq.below hB hq.lt).cell 1; simp at cq1 cq2; clear hb2))
        | (go_at_call 12; go_must (refine (num_any _ _).mono ?_; rintro e w' ⟨rfl, rfl⟩))
        | (go_at_call 15; go_must (refine (works_any _).mono ?_; rintro e wq ⟨rfl, hb2⟩; have hB := (by first | exact Below.trans hB (Below.mono hb2 (Below.size hB)) | exact Below.trans (Below.drew hB) (Below.mono hb2 (Nat.le_refl _)) : Below w3.heap.size w3 wq); clear hb2)))
      all_goals
        go_wp2
        go_ret
        exact ⟨rfl, B3.trans (hB.mono B3.size)⟩
    · have hpv : atPlace n = (0, 0) := by simp [atPlace, hth]
      rw [hpp] at hpv
      cases hpv
      rw [show decide (0 ≤ n ∧ n < 8192) = false from by simp [hth], show atErr n = 4 from by simp [atErr, hth]]
      clear hth hpp
      go_wp2_with (go_at_call 12; refine (num_any _ _).mono ?_; rintro e w' ⟨rfl, rfl⟩)
      refine (works_any _).mono ?_
      rintro e w9 ⟨rfl, hb⟩
      go_wp2
      go_ret
      exact ⟨rfl, B3.trans (hb.mono B3.size)⟩
  · rw [show addrOf a b = 8 * a + b from by simp [addrOf, hin], show addrErr a b = 0 from by simp [addrErr, hin]]
    have Hin := Lib.hid hin
    clear hin
    go_wp2_with fail
    refine (raddress_any a b _ Hin.out).mono ?_
    rintro e w4 ⟨rfl, hb⟩
    replace hp := hp.below hb hp.lt
    replace hq := hq.below hb hq.lt
    have B4 := B3.trans (hb.mono B3.size)
    clear hb B3 ka kb
    go_wp2_with (go_at_call 12; refine (num_any _ _).mono ?_; rintro e w' ⟨rfl, rfl⟩)
    refine (rthere_any n _).mono ?_
    rintro e w' ⟨rfl, rfl⟩
    have cq1 := hq.cell 0
    have cq2 := hq.cell 1
    simp at cq1 cq2
    clear hp
    by_cases hth : 0 ≤ n ∧ n < 8192
    · have hpv : atPlace n = (n / 8, n % 8) := by simp [atPlace, hth]
      rw [hpp] at hpv
      rw [show decide (0 ≤ n ∧ n < 8192) = true from by simp [hth], show atErr n = 0 from by simp [atErr, hth]]
      have h0 := hth.1
      have h1 := hth.2
      have hx : n / 8 = p1 := (congrArg Prod.fst hpv).symm
      have hy : n % 8 = p2 := (congrArg Prod.snd hpv).symm
      have hB := Below.refl w4.heap.size w4
      have hrat := rat_any n (h0 := h0) (h1 := h1)
      rw [hx, hy] at hrat
      have Hrat := Lib.hid hrat
      clear hth hx hy hpp hpv hrat h0 h1
      go_wp2_with fail
      go_region_with (first
        | (go_at_call 16; go_must (refine (Hrat.out _).mono ?_; rintro e wq ⟨rfl, hb2⟩; have hB := (by first | exact Below.trans hB (Below.mono hb2 (Below.size hB)) | exact Below.trans (Below.drew hB) (Below.mono hb2 (Nat.le_refl _)) : Below w4.heap.size w4 wq); have cq1 := (hq.below hB hq.lt).cell 0; have cq2 := (hq.below hB hq.lt).cell 1; simp at cq1 cq2; clear hb2))
        | (go_at_call 12; go_must (refine (num_any _ _).mono ?_; rintro e w' ⟨rfl, rfl⟩))
        | (go_at_call 15; go_must (refine (works_any _).mono ?_; rintro e wq ⟨rfl, hb2⟩; have hB := (by first | exact Below.trans hB (Below.mono hb2 (Below.size hB)) | exact Below.trans (Below.drew hB) (Below.mono hb2 (Nat.le_refl _)) : Below w4.heap.size w4 wq); clear hb2)))
      all_goals
        go_wp2
        go_ret
        exact ⟨rfl, B4.trans (hB.mono B4.size)⟩
    · have hpv : atPlace n = (0, 0) := by simp [atPlace, hth]
      rw [hpp] at hpv
      cases hpv
      rw [show decide (0 ≤ n ∧ n < 8192) = false from by simp [hth], show atErr n = 4 from by simp [atErr, hth]]
      clear hth hpp
      go_wp2_with (go_at_call 12; refine (num_any _ _).mono ?_; rintro e w' ⟨rfl, rfl⟩)
      refine (works_any _).mono ?_
      rintro e w9 ⟨rfl, hb⟩
      go_wp2
      go_ret
      exact ⟨rfl, B4.trans (hb.mono B4.size)⟩
end Go.Proofs.Ytfafpgboheaajaa
