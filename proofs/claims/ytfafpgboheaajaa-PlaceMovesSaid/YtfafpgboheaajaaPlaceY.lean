/- The walk of the law PlaceMoves. Conditions: numbers of 64 bits. -/
import Derived.Test.YtfafpgboheaajaaPlaceW
namespace Go.Proofs.Ytfafpgboheaajaa
open Go.RowKit

set_option maxRecDepth 100000 in
set_option maxHeartbeats 4000000 in
theorem placeMoves_any (a b c d n : Int) (w : World) (hn : (Lit.int .i64 n).wf = true) :
    Calls Try.prog 4 #[.agg #[.int .i64 a, .int .i64 b], .agg #[.int .i64 c, .int .i64 d], .int .i64 n] w fun e w' => e = .returned (.bool true) ∧ Below w.heap.size w w' := by
  have hn' : -9223372036854775808 ≤ n ∧ n ≤ 9223372036854775807 := by
    simp [Lit.wf, IntKind.min, IntKind.max, IntKind.signed, IntKind.bits] at hn
    omega
  have ha0 := (Blk.new w 23 #[.int .i64 a, .int .i64 b]).alloc (.cells #[.int .i64 c, .int .i64 d] 23)
  have hb0 := Blk.new (w.alloc (.cells #[.int .i64 a, .int .i64 b] 23)) 23 #[.int .i64 c, .int .i64 d]
  simp only [World.size_alloc] at hb0
  have B0 : Below w.heap.size w ((w.alloc (.cells #[.int .i64 a, .int .i64 b] 23)).alloc (.cells #[.int .i64 c, .int .i64 d] 23)) := ((Below.refl _ w).alloc (Nat.le_refl _) _).alloc (by simp) _
  obtain ⟨⟨p1, p2⟩, hpp⟩ : ∃ p, movePlace a b n = p := ⟨_, rfl⟩
  go_enter Try.func4, Try.ntmps4
  go_wp2_with fail
  refine (move_any a b n _ hn).mono ?_
  rintro e w1 ⟨rfl, hb⟩
  rw [hpp]
  replace ha0 := (ha0.below hb ha0.lt).alloc (.cells #[.int .i64 p1, .int .i64 p2] 23)
  replace hb0 := (hb0.below hb hb0.lt).alloc (.cells #[.int .i64 p1, .int .i64 p2] 23)
  have hp0 := Blk.new w1 23 #[.int .i64 p1, .int .i64 p2]
  have B1' := B0.trans (hb.mono B0.size)
  have B1 := below_al B1' (.cells #[.int .i64 p1, .int .i64 p2] 23) B1'.size
  have ka := ha0.cell 0
  have kb := ha0.cell 1
  have kc := hb0.cell 0
  have kd := hb0.cell 1
  simp at ka kb kc kd
  clear hb B0 B1'
  go_wp2_with fail
  refine (distance_any a b c d _).mono ?_
  rintro e w2 ⟨rfl, hb⟩
  replace ha0 := ha0.below hb ha0.lt
  replace hb0 := hb0.below hb hb0.lt
  replace hp0 := hp0.below hb hp0.lt
  have B2 := B1.trans (hb.mono B1.size)
  replace ka := ha0.cell 0
  replace kb := ha0.cell 1
  simp at ka kb
  clear hb B1 kc kd
  go_wp2_with fail
  refine (rright_any a b _).mono ?_
  rintro e w3 ⟨rfl, hb⟩
  replace ha0 := ha0.below hb ha0.lt
  replace hb0 := hb0.below hb hb0.lt
  replace hp0 := hp0.below hb hp0.lt
  have B3 := B2.trans (hb.mono B2.size)
  replace ka := ha0.cell 0
  replace kb := ha0.cell 1
  have kp := hp0.cell 0
  have kq := hp0.cell 1
  simp at ka kb kp kq
  clear hb B2
  cases hin : inPlace a b
  · have e1 : (p1, p2) = ((0 : Int), (0 : Int)) := by rw [← hpp]; simp [movePlace, hin]
    cases e1
    rw [show moveErr a b n = 2 from by simp [moveErr, hin], show distOf a b c d = 0 from by simp [distOf, hin], show distErr a b c d = 2 from by simp [distErr, hin]]
    clear hin hpp ka kb
    go_wp2_with (go_at_call 12; refine (num_any _ _).mono ?_; rintro e w' ⟨rfl, rfl⟩)
    refine (works_any _).mono ?_
    rintro e w9 ⟨rfl, hb⟩
    go_wp2
    go_ret
    exact ⟨rfl, B3.trans (hb.mono B3.size)⟩
  · obtain ⟨h1, h2, h3, h4⟩ := (inPlace_iff a b).1 hin
    have Hin := Lib.hid hin
    obtain ⟨k, hk⟩ : ∃ k, 8 * a + b = k := ⟨_, rfl⟩
    have hk0 : 0 ≤ k := by omega
    have hk1 : k < 8192 := by omega
    have x1 : IntKind.i64.wrap (-k) = -k := by rw [IntKind.wrap_i64]; omega
    have x2 : IntKind.i64.wrap (8191 - k) = 8191 - k := by rw [IntKind.wrap_i64]; omega
    have em : movePlace a b n = (if 0 ≤ k + n ∧ k + n < 8192 then ((k + n) / 8, (k + n) % 8) else (0, 0)) ∧ moveErr a b n = (if 0 ≤ k + n ∧ k + n < 8192 then 0 else 4) := by simp [movePlace, moveErr, hin, hk]
    have Hk := Lib.hid hk
    have Em := Lib.hid em
    clear hin hk h1 h2 h3 h4 em
    go_wp2_with fail
    refine (raddress_any a b _ Hin.out).mono ?_
    rintro e w5 ⟨rfl, hb⟩
    rw [Hk.out]
    replace hb0 := hb0.below hb hb0.lt
    replace hp0 := hp0.below hb hp0.lt
    have B5 := B3.trans (hb.mono B3.size)
    replace kp := hp0.cell 0
    replace kq := hp0.cell 1
    have kc := hb0.cell 0
    have kd := hb0.cell 1
    simp at kp kq kc kd
    have hB := Below.refl w5.heap.size w5
    clear hb B3 ka kb ha0
    have em := Em.out
    clear Em
    by_cases hr : 0 ≤ k + n ∧ k + n < 8192
    · have c1 : ¬ n < -k := by omega
      have c2 : ¬ 8191 - k < n := by omega
      have x3 : IntKind.i64.wrap (k + n) = k + n := by rw [IntKind.wrap_i64]; omega
      rw [if_pos hr, if_pos hr, hpp] at em
      have hrat := rat_any (k + n) (h0 := hr.1) (h1 := hr.2)
      have hx : (k + n) / 8 = p1 := (congrArg Prod.fst em.1).symm
      have hy : (k + n) % 8 = p2 := (congrArg Prod.snd em.1).symm
      rw [hx, hy] at hrat
      have Hrat := Lib.hid hrat
      rw [em.2]
      clear hrat hx hy hpp em hr
      go_wp2_with fail
      go_region_with (first
        | (go_at_call 16; go_must (refine (Hrat.out _).mono ?_; rintro e wq ⟨rfl, hb2⟩; have hB := (by first | exact Below.trans hB (Below.mono hb2 (Below.size hB)) | exact Below.trans (Below.drew hB) (Below.mono hb2 (Nat.le_refl _)) : Below w5.heap.size w5 wq); have kp := (hp0.below hB hp0.lt).cell 0; have kq := (hp0.below hB hp0.lt).cell 1; have kc := (hb0.below hB hb0.lt).cell 0; have kd := (hb0.below hB hb0.lt).cell 1; simp at kp kq kc kd; clear hb2))
        | (go_at_call 12; go_must (refine (num_any _ _).mono ?_; rintro e w' ⟨rfl, rfl⟩)))
      all_goals
        go_wp2_with fail
        refine (rright_any c d _).mono ?_
        rintro e w7 ⟨rfl, hb⟩
        have hB7 := hB.trans (hb.mono hB.size)
        have ca := (hb0.below hB7 hb0.lt).cell 0
        have cb := (hb0.below hB7 hb0.lt).cell 1
        simp at ca cb
        clear hb
        cases hin2 : inPlace c d
        · have e7 : Hid (distOf a b c d = 0 ∧ distErr a b c d = 2) := Lib.hid (by simp [distOf, distErr, hin2])
          rw [e7.out.1, e7.out.2]
          clear hin2 ca cb
          go_wp2_with (go_at_call 12; refine (num_any _ _).mono ?_; rintro e w' ⟨rfl, rfl⟩)
          refine (works_any _).mono ?_
          rintro e w9 ⟨rfl, hb⟩
          have hB9 := hB7.trans (hb.mono hB7.size)
          go_wp2
          go_ret
          exact ⟨rfl, B5.trans (hB9.mono B5.size)⟩
        · have e7 : Hid (distOf a b c d = (8 * c + d) - k ∧ distErr a b c d = 0) := Lib.hid (by simp [distOf, distErr, hin2, Hin.out]; have := Hk.out; omega)
          rw [e7.out.1, e7.out.2]
          have Hin2 := Lib.hid hin2
          obtain ⟨q1, q2, q3, q4⟩ := (inPlace_iff c d).1 hin2
          obtain ⟨kc, hkc⟩ : ∃ kc, 8 * c + d = kc := ⟨_, rfl⟩
          have ww : IntKind.i64.wrap (kc - k) = kc - k := by rw [IntKind.wrap_i64]; omega
          rw [hkc]
          have Hkc := Lib.hid hkc
          clear hin2 hkc q1 q2 q3 q4
          go_wp2_with fail
          refine (raddress_any c d _ Hin2.out).mono ?_
          rintro e w8 ⟨rfl, hb⟩
          rw [Hkc.out]
          have hB8 := hB7.trans (hb.mono hB7.size)
          clear hb ca cb
          go_wp2_with (go_at_call 12; refine (num_any _ _).mono ?_; rintro e w' ⟨rfl, rfl⟩)
          refine (works_any _).mono ?_
          rintro e w9 ⟨rfl, hb⟩
          have hB9 := hB8.trans (hb.mono hB8.size)
          go_wp2
          go_ret
          exact ⟨rfl, B5.trans (hB9.mono B5.size)⟩
    · have hor : n < -k ∨ (¬ n < -k ∧ 8191 - k < n) := by omega
      rw [if_neg hr, if_neg hr, hpp] at em
      obtain ⟨em1, em2⟩ := em
      cases em1
      rw [em2]
      clear hr hpp em2
      rcases hor with c1 | ⟨c1, c2⟩
      · go_wp2_with (go_at_call 12; refine (num_any _ _).mono ?_; rintro e w' ⟨rfl, rfl⟩)
        refine (rright_any c d _).mono ?_
        rintro e w7 ⟨rfl, hb⟩
        have hB7 := hB.trans (hb.mono hB.size)
        have ca := (hb0.below hB7 hb0.lt).cell 0
        have cb := (hb0.below hB7 hb0.lt).cell 1
        simp at ca cb
        clear hb
        cases hin2 : inPlace c d
        · have e7 : Hid (distOf a b c d = 0 ∧ distErr a b c d = 2) := Lib.hid (by simp [distOf, distErr, hin2])
          rw [e7.out.1, e7.out.2]
          clear hin2 ca cb
          go_wp2_with (go_at_call 12; refine (num_any _ _).mono ?_; rintro e w' ⟨rfl, rfl⟩)
          refine (works_any _).mono ?_
          rintro e w9 ⟨rfl, hb⟩
          have hB9 := hB7.trans (hb.mono hB7.size)
          go_wp2
          go_ret
          exact ⟨rfl, B5.trans (hB9.mono B5.size)⟩
        · have e7 : Hid (distOf a b c d = (8 * c + d) - k ∧ distErr a b c d = 0) := Lib.hid (by simp [distOf, distErr, hin2, Hin.out]; have := Hk.out; omega)
          rw [e7.out.1, e7.out.2]
          have Hin2 := Lib.hid hin2
          obtain ⟨q1, q2, q3, q4⟩ := (inPlace_iff c d).1 hin2
          obtain ⟨kc, hkc⟩ : ∃ kc, 8 * c + d = kc := ⟨_, rfl⟩
          have ww : IntKind.i64.wrap (kc - k) = kc - k := by rw [IntKind.wrap_i64]; omega
          rw [hkc]
          have Hkc := Lib.hid hkc
          clear hin2 hkc q1 q2 q3 q4
          go_wp2_with fail
          refine (raddress_any c d _ Hin2.out).mono ?_
          rintro e w8 ⟨rfl, hb⟩
          rw [Hkc.out]
          have hB8 := hB7.trans (hb.mono hB7.size)
          clear hb ca cb
          go_wp2_with (go_at_call 12; refine (num_any _ _).mono ?_; rintro e w' ⟨rfl, rfl⟩)
          refine (works_any _).mono ?_
          rintro e w9 ⟨rfl, hb⟩
          have hB9 := hB8.trans (hb.mono hB8.size)
          go_wp2
          go_ret
          exact ⟨rfl, B5.trans (hB9.mono B5.size)⟩
      · go_wp2_with (go_at_call 12; refine (num_any _ _).mono ?_; rintro e w' ⟨rfl, rfl⟩)
        refine (rright_any c d _).mono ?_
        rintro e w7 ⟨rfl, hb⟩
        have hB7 := hB.trans (hb.mono hB.size)
        have ca := (hb0.below hB7 hb0.lt).cell 0
        have cb := (hb0.below hB7 hb0.lt).cell 1
        simp at ca cb
        clear hb
        cases hin2 : inPlace c d
        · have e7 : Hid (distOf a b c d = 0 ∧ distErr a b c d = 2) := Lib.hid (by simp [distOf, distErr, hin2])
          rw [e7.out.1, e7.out.2]
          clear hin2 ca cb
          go_wp2_with (go_at_call 12; refine (num_any _ _).mono ?_; rintro e w' ⟨rfl, rfl⟩)
          refine (works_any _).mono ?_
          rintro e w9 ⟨rfl, hb⟩
          have hB9 := hB7.trans (hb.mono hB7.size)
          go_wp2
          go_ret
          exact ⟨rfl, B5.trans (hB9.mono B5.size)⟩
        · have e7 : Hid (distOf a b c d = (8 * c + d) - k ∧ distErr a b c d = 0) := Lib.hid (by simp [distOf, distErr, hin2, Hin.out]; have := Hk.out; omega)
          rw [e7.out.1, e7.out.2]
          have Hin2 := Lib.hid hin2
          obtain ⟨q1, q2, q3, q4⟩ := (inPlace_iff c d).1 hin2
          obtain ⟨kc, hkc⟩ : ∃ kc, 8 * c + d = kc := ⟨_, rfl⟩
          have ww : IntKind.i64.wrap (kc - k) = kc - k := by rw [IntKind.wrap_i64]; omega
          rw [hkc]
          have Hkc := Lib.hid hkc
          clear hin2 hkc q1 q2 q3 q4
          go_wp2_with fail
          refine (raddress_any c d _ Hin2.out).mono ?_
          rintro e w8 ⟨rfl, hb⟩
          rw [Hkc.out]
          have hB8 := hB7.trans (hb.mono hB7.size)
          clear hb ca cb
          go_wp2_with (go_at_call 12; refine (num_any _ _).mono ?_; rintro e w' ⟨rfl, rfl⟩)
          refine (works_any _).mono ?_
          rintro e w9 ⟨rfl, hb⟩
          have hB9 := hB8.trans (hb.mono hB8.size)
          go_wp2
          go_ret
          exact ⟨rfl, B5.trans (hB9.mono B5.size)⟩
end Go.Proofs.Ytfafpgboheaajaa
