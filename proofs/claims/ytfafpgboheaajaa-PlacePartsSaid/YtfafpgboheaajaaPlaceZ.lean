/- The walk of the law PlaceSteps. Conditions: numbers of 64 bits. -/
import Derived.Test.YtfafpgboheaajaaPlaceW
namespace Go.Proofs.Ytfafpgboheaajaa
open Go.RowKit

theorem move_ok (a b n : Int) (h : moveErr a b n = 0) : inPlace a b = true ∧ 0 ≤ 8 * a + b + n ∧ 8 * a + b + n < 8192 ∧ movePlace a b n = ((8 * a + b + n) / 8, (8 * a + b + n) % 8) := by
  unfold moveErr at h
  unfold movePlace
  cases hin : inPlace a b
  · rw [hin] at h; simp at h
  · rw [hin] at h
    by_cases hr : 0 ≤ 8 * a + b + n ∧ 8 * a + b + n < 8192
    · simp [hr]
    · simp [hr] at h
theorem move_is (a b n : Int) (h : inPlace a b = true) (h1 : 0 ≤ 8 * a + b + n) (h2 : 8 * a + b + n < 8192) : moveErr a b n = 0 ∧ movePlace a b n = ((8 * a + b + n) / 8, (8 * a + b + n) % 8) := by
  simp [moveErr, movePlace, h, h1, h2]
theorem inPlace_at (k : Int) (h1 : 0 ≤ k) (h2 : k < 8192) : inPlace (k / 8) (k % 8) = true := (inPlace_iff _ _).2 (by omega)
theorem move_twice (a b n m p1 p2 q1 q2 : Int) (hp : movePlace a b n = (p1, p2)) (hq : movePlace p1 p2 m = (q1, q2)) (h : moveErr a b n = 0) (h' : moveErr p1 p2 m = 0) : moveErr a b (n + m) = 0 ∧ movePlace a b (n + m) = (q1, q2) := by
  obtain ⟨i1, i2, i3, i4⟩ := move_ok a b n h
  obtain ⟨j1, j2, j3, j4⟩ := move_ok p1 p2 m h'
  rw [hp] at i4
  rw [hq] at j4
  have e1 : p1 = (8 * a + b + n) / 8 := congrArg Prod.fst i4
  have e2 : p2 = (8 * a + b + n) % 8 := congrArg Prod.snd i4
  have e3 : 8 * p1 + p2 + m = 8 * a + b + (n + m) := by omega
  rw [e3] at j2 j3 j4
  obtain ⟨k1, k2⟩ := move_is a b (n + m) i1 j2 j3
  exact ⟨k1, by rw [k2, j4]⟩

set_option maxRecDepth 100000 in
set_option maxHeartbeats 4000000 in
theorem placeSteps_any (a b n m : Int) (w : World) (hn : (Lit.int .i64 n).wf = true) (hm : (Lit.int .i64 m).wf = true) :
    Calls Try.prog 7 #[.agg #[.int .i64 a, .int .i64 b], .int .i64 n, .int .i64 m] w fun e w' => e = .returned (.bool true) ∧ Below w.heap.size w w' := by
  have hp := Blk.new w 23 #[.int .i64 a, .int .i64 b]
  have B0 : Below w.heap.size w (w.alloc (.cells #[.int .i64 a, .int .i64 b] 23)) := (Below.refl _ w).alloc (Nat.le_refl _) _
  by_cases hout : n < -10000 ∨ 10000 < n ∨ m < -10000 ∨ 10000 < m
  · have hq : n < -10000 ∨ (¬ n < -10000 ∧ (10000 < n ∨ (¬ 10000 < n ∧ (m < -10000 ∨ (¬ m < -10000 ∧ 10000 < m))))) := by omega
    clear hout
    rcases hq with c1 | ⟨c1, c2 | ⟨c2, c3 | ⟨c3, c4⟩⟩⟩
    all_goals
      go_enter Try.func7, Try.ntmps7
      go_wp2_with fail
      refine (works_any _).mono ?_
      rintro e w9 ⟨rfl, hb⟩
      go_wp2
      go_ret
      exact ⟨rfl, B0.trans (hb.mono B0.size)⟩
  · have c1 : ¬ n < -10000 := by omega
    have c2 : ¬ 10000 < n := by omega
    have c3 : ¬ m < -10000 := by omega
    have c4 : ¬ 10000 < m := by omega
    have x1 : IntKind.i64.wrap (n + m) = n + m := by rw [IntKind.wrap_i64]; omega
    have hnm : (Lit.int .i64 (n + m)).wf = true := by
      simp [Lit.wf, IntKind.min, IntKind.max, IntKind.signed, IntKind.bits]
      omega
    obtain ⟨⟨p1, p2⟩, hp1⟩ : ∃ p, movePlace a b n = p := ⟨_, rfl⟩
    obtain ⟨⟨q1, q2⟩, hq1⟩ : ∃ p, movePlace p1 p2 m = p := ⟨_, rfl⟩
    clear hout
    go_enter Try.func7, Try.ntmps7
    go_wp2_with fail
    refine (move_any a b n _ hn).mono ?_
    rintro e w1 ⟨rfl, hb⟩
    rw [hp1]
    replace hp := (hp.below hb hp.lt).alloc (.cells #[.int .i64 p1, .int .i64 p2] 23)
    have B1' := B0.trans (hb.mono B0.size)
    have B1 := below_al B1' (.cells #[.int .i64 p1, .int .i64 p2] 23) B1'.size
    clear hb B0 B1'
    go_wp2_with fail
    refine (move_any p1 p2 m _ hm).mono ?_
    rintro e w2 ⟨rfl, hb⟩
    rw [hq1]
    replace hp := (hp.below hb hp.lt).alloc (.cells #[.int .i64 q1, .int .i64 q2] 23)
    have hq := Blk.new w2 23 #[.int .i64 q1, .int .i64 q2]
    have B2' := B1.trans (hb.mono B1.size)
    have B2 := below_al B2' (.cells #[.int .i64 q1, .int .i64 q2] 23) B2'.size
    clear hb B1 B2'
    obtain ⟨e1, he1⟩ : ∃ e, moveErr a b n = e := ⟨_, rfl⟩
    obtain ⟨e2, he2⟩ : ∃ e, moveErr p1 p2 m = e := ⟨_, rfl⟩
    rw [he1, he2]
    have hbad : ∀ (_ : e1 ≠ 0 ∨ e2 ≠ 0), e1 ≠ 0 ∨ (e1 = 0 ∧ e2 ≠ 0) := by omega
    by_cases hz : e1 ≠ 0 ∨ e2 ≠ 0
    · have hz' := hbad hz
      clear hz hbad
      rcases hz' with z1 | ⟨rfl, z2⟩
      · have z1' : (e1 != 0) = true := by simpa using z1
        clear z1
        go_wp2_with (go_at_call 12; refine (num_any _ _).mono ?_; rintro e w' ⟨rfl, rfl⟩)
        refine (works_any _).mono ?_
        rintro e w9 ⟨rfl, hb⟩
        go_wp2
        go_ret
        exact ⟨rfl, B2.trans (hb.mono B2.size)⟩
      · have z2' : (e2 != 0) = true := by simpa using z2
        clear z2
        go_wp2_with (go_at_call 12; refine (num_any _ _).mono ?_; rintro e w' ⟨rfl, rfl⟩)
        refine (works_any _).mono ?_
        rintro e w9 ⟨rfl, hb⟩
        go_wp2
        go_ret
        exact ⟨rfl, B2.trans (hb.mono B2.size)⟩
    · obtain rfl : e1 = 0 := by omega
      obtain rfl : e2 = 0 := by omega
      obtain ⟨t1, t2⟩ := move_twice a b n m p1 p2 q1 q2 hp1 hq1 he1 he2
      have T1 := Lib.hid t1
      have T2 := Lib.hid t2
      have ka := hp.cell 0
      have kb := hp.cell 1
      simp at ka kb
      clear hz hbad t1 t2 he1 he2 hp1 hq1
      go_wp2_with (go_at_call 12; refine (num_any _ _).mono ?_; rintro e w' ⟨rfl, rfl⟩)
      refine (move_any a b (n + m) _ hnm).mono ?_
      rintro e w3 ⟨rfl, hb⟩
      rw [T1.out, T2.out]
      replace hq := (hq.below hb hq.lt).alloc (.cells #[.int .i64 q1, .int .i64 q2] 23)
      have B3' := B2.trans (hb.mono B2.size)
      have B3 := below_al B3' (.cells #[.int .i64 q1, .int .i64 q2] 23) B3'.size
      have kc := hq.cell 0
      have kd := hq.cell 1
      simp at kc kd
      clear hb B3' ka kb
      go_wp2_with (go_at_call 12; refine (num_any _ _).mono ?_; rintro e w' ⟨rfl, rfl⟩)
      refine (works_any _).mono ?_
      rintro e w9 ⟨rfl, hb⟩
      go_wp2
      go_ret
      exact ⟨rfl, B3.trans (hb.mono B3.size)⟩
end Go.Proofs.Ytfafpgboheaajaa
