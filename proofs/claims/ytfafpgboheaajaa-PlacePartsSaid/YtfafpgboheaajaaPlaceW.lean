/- The walk of the law's works: the chapter's rows answer true. No conditions. -/
import Derived.Test.YtfafpgboheaajaaPlaceF
namespace Go.Proofs.Ytfafpgboheaajaa
open Go.RowKit

theorem below_al {B : Nat} {a w : World} (h : Below B a w) (o : Obj) (hB : B ≤ w.heap.size) : Below B a (w.alloc o) := h.alloc hB o

set_option maxRecDepth 100000 in
set_option maxHeartbeats 2000000 in
theorem works_any (w : World) : Calls Try.prog 15 #[] w fun e w' => e = .returned (.bool true) ∧ Below w.heap.size w w' := by
  have B0 := Below.refl w.heap.size w
  go_enter Try.func15, Try.ntmps15
  go_wp2_with fail
  refine (address_any 2 3 _).mono ?_
  rintro e w1 ⟨rfl, hb⟩
  rw [show addrOf 2 3 = 19 from by decide, show addrErr 2 3 = 0 from by decide]
  have hp := (Blk.new w 23 #[.int .i64 2, .int .i64 3]).below hb (by simp)
  have B1 := B0.trans (below_boxed hb)
  have ka := hp.cell 0
  have kb := hp.cell 1
  simp at ka kb
  clear hb
  go_wp2_with fail
  refine (at_any 19 _).mono ?_
  rintro e w2 ⟨rfl, hb⟩
  rw [show atPlace 19 = (2, 3) from by decide, show atErr 19 = 0 from by decide]
  replace hp := (hp.below hb hp.lt).alloc (.cells #[.int .i64 2, .int .i64 3] 23)
  have hq := Blk.new w2 23 #[.int .i64 2, .int .i64 3]
  have B2 := below_al (B1.trans (hb.mono B1.size)) (.cells #[.int .i64 2, .int .i64 3] 23) (B1.trans (hb.mono B1.size)).size
  have cq := hq.lt
  have ka2 := hp.cell 0
  have kb2 := hp.cell 1
  simp at ka2 kb2 cq
  clear hb ka kb B1
  go_wp2_with fail
  refine (move_any 2 3 (-20) _ (by decide)).mono ?_
  rintro e w3 ⟨rfl, hb⟩
  rw [show movePlace 2 3 (-20) = (0, 0) from by decide, show moveErr 2 3 (-20) = 4 from by decide]
  replace hp := (hp.below hb hp.lt).alloc (.cells #[.int .i64 0, .int .i64 0] 23)
  replace hq := (hq.below hb hq.lt).alloc (.cells #[.int .i64 0, .int .i64 0] 23)
  have B3' := B2.trans (hb.mono B2.size)
  have B3 := below_al B3' (.cells #[.int .i64 0, .int .i64 0] 23) B3'.size
  clear hb ka2 kb2 cq B2 B3'
  go_wp2_with fail
  refine (move_any 1023 7 1 _ (by decide)).mono ?_
  rintro e w4 ⟨rfl, hb⟩
  rw [show movePlace 1023 7 1 = (0, 0) from by decide, show moveErr 1023 7 1 = 4 from by decide]
  replace hp := (hp.below hb hp.lt).alloc (.cells #[.int .i64 0, .int .i64 0] 23)
  replace hq := (hq.below hb hq.lt).alloc (.cells #[.int .i64 0, .int .i64 0] 23)
  have B4' := B3.trans (hb.mono B3.size)
  have B4 := below_al B4' (.cells #[.int .i64 0, .int .i64 0] 23) B4'.size
  have ka4 := hp.cell 0
  have kb4 := hp.cell 1
  simp at ka4 kb4
  clear hb B3 B4'
  go_wp2_with fail
  refine (distance_any 2 3 0 0 _).mono ?_
  rintro e w5 ⟨rfl, hb⟩
  rw [show distOf 2 3 0 0 = -19 from by decide, show distErr 2 3 0 0 = 0 from by decide]
  replace hp := (hp.below hb hp.lt).alloc (.cells #[.int .i64 0, .int .i64 6] 23)
  replace hq := (hq.below hb hq.lt).alloc (.cells #[.int .i64 0, .int .i64 6] 23)
  have hr := Blk.new w5 23 #[.int .i64 0, .int .i64 6]
  have B5' := B4.trans (hb.mono B4.size)
  have B5 := below_al B5' (.cells #[.int .i64 0, .int .i64 6] 23) B5'.size
  clear hb ka4 kb4 B4 B5'
  go_wp2_with fail
  refine (plines_any 0 6 4 _ (by omega)).mono ?_
  rintro e w6 ⟨v1, rfl, hl1, hb⟩
  rw [show plL 0 6 4 = [0, 1] from by decide] at hl1
  rw [show plE 0 6 4 = 0 from by decide]
  replace hp := hp.below hb hp.lt
  replace hq := hq.below hb hq.lt
  replace hr := hr.below hb hr.lt
  have B6 := B5.trans (hb.mono B5.size)
  obtain ⟨A1, c1, rfl⟩ := own_form hl1
  have hR1 := Reads.of_own hl1
  clear hb B5 hl1
  go_wp2_with fail
  refine (plines_any 0 0 0 _ (by omega)).mono ?_
  rintro e w7 ⟨v2, rfl, hl2, hb⟩
  rw [show plL 0 0 0 = [] from by decide] at hl2
  rw [show plE 0 0 0 = 0 from by decide]
  replace hp := hp.below hb hp.lt
  replace hq := hq.below hb hq.lt
  replace hr := hr.below hb hr.lt
  have B7 := B6.trans (hb.mono B6.size)
  obtain ⟨A2, c2, rfl⟩ := own_form hl2
  replace hR1 := (hR1.below hb).more hb.size
  clear hb B6 hl2
  have ca := hp.cell 0
  have cb := hp.cell 1
  have cc := hq.cell 0
  have cd := hq.cell 1
  have ce := hr.cell 0
  have cf := hr.cell 1
  simp at ca cb cc cd ce cf
  go_wp2_with (go_at_call 12; refine (num_any _ _).mono ?_; rintro e w' ⟨rfl, rfl⟩)
  have k2 : Reads (w7.alloc (.cells #[.int .i64 0, .int .i64 1] 3)) (w7.alloc (.cells #[.int .i64 0, .int .i64 1] 3)).heap.size 1 (some ⟨w7.heap.size, 0, none⟩) 2 (icells [0, 1]) := by
    refine ⟨rfl, fun _ => ⟨_, rfl, by simp, fun j u hu => ?_⟩⟩
    rw [add_zero_off, (Blk.new w7 3 #[.int .i64 0, .int .i64 1]).cell j]
    simpa [icells] using hu
  have B8 := below_al B7 (.cells #[.int .i64 0, .int .i64 1] 3) B7.size
  refine (ints_eq (icells [0, 1]) _ _ 2 _ _ _ ((hR1.below ((Below.refl _ w7).alloc (Nat.le_refl _) _)).more (by simp)) k2 (by intro x hx; simp [icells] at hx; rcases hx with rfl | rfl <;> exact ⟨_, rfl⟩) (by omega)).mono ?_
  rintro e w8 ⟨rfl, hb⟩
  replace hr := (hr.alloc (.cells #[.int .i64 0, .int .i64 1] 3))
  replace hr := hr.below hb hr.lt
  have B9 := B8.trans (hb.mono B8.size)
  clear hb k2 B8 B7 hp hq hR1 ce cf
  have ce := hr.cell 0
  have cf := hr.cell 1
  simp at ce cf
  go_wp2_with fail
  refine (lrun_any 0 6 4 9 _ (by omega)).mono ?_
  rintro e w9 ⟨v3, rfl, hl3, hb⟩
  rw [show lrunN 0 6 4 9 = 4 from by decide, show pts 0 6 4 = [(0, 6), (0, 7), (1, 0), (1, 1)] from by decide] at hl3
  obtain ⟨A3, c3, rfl⟩ := own_form hl3
  have hR3 := PReads.of_own hl3
  have B10 := B9.trans (hb.mono B9.size)
  clear hb B9 hl3 hr ce cf
  go_wp2_with fail
  have k4 : PReads (w9.alloc (.cells #[.int .i64 0, .int .i64 6, .int .i64 0, .int .i64 7, .int .i64 1, .int .i64 0, .int .i64 1, .int .i64 1] 23)) (w9.heap.size + 1) (some ⟨w9.heap.size, 0, none⟩) 4 [(0, 6), (0, 7), (1, 0), (1, 1)] := by
    refine ⟨rfl, fun _ => ⟨_, rfl, by omega, fun k u hu => ?_⟩⟩
    rw [(Blk.new w9 23 #[.int .i64 0, .int .i64 6, .int .i64 0, .int .i64 7, .int .i64 1, .int .i64 0, .int .i64 1, .int .i64 1]).cell k]
    simpa [pcells] using hu
  have B11 := below_al B10 (.cells #[.int .i64 0, .int .i64 6, .int .i64 0, .int .i64 7, .int .i64 1, .int .i64 0, .int .i64 1, .int .i64 1] 23) B10.size
  refine (same_eq [(0, 6), (0, 7), (1, 0), (1, 1)] _ _ 4 _ _ _ ((hR3.below ((Below.refl _ w9).alloc (Nat.le_refl _) _)).more (by simp)) (k4.more (by simp)) (by omega)).mono ?_
  rintro e w10 ⟨rfl, hb⟩
  have B12 := B11.trans (hb.mono B11.size)
  clear hb
  go_wp2
  go_ret
  exact ⟨rfl, B12⟩
end Go.Proofs.Ytfafpgboheaajaa
