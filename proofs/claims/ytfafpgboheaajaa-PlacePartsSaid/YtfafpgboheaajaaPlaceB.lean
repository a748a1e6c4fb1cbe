/- The walks of Address, At, Move, Distance, and of the reference's Right, There, Address, At. Conditions: none on places but 64 bits. -/
import Derived.Test.YtfafpgboheaajaaPlaceA
namespace Go.Proofs.Ytfafpgboheaajaa
open Go.RowKit

theorem one_place (w : World) (a b : Int) (t : TypeId) : PReads (w.alloc (.cells #[.int .i64 a, .int .i64 b] t)) (w.heap.size + 1) (some ⟨w.heap.size, 0, none⟩) 1 [(a, b)] := by
  refine ⟨rfl, fun _ => ⟨_, rfl, by omega, fun k u hu => ?_⟩⟩
  have := (Blk.new w t #[.int .i64 a, .int .i64 b]).cell k
  rw [this]
  simpa [pcells] using hu

theorem two_places (w : World) (a b c d : Int) (t : TypeId) : PReads (w.alloc (.cells #[.int .i64 a, .int .i64 b, .int .i64 c, .int .i64 d] t)) (w.heap.size + 1) (some ⟨w.heap.size, 0, none⟩) 2 [(a, b), (c, d)] := by
  refine ⟨rfl, fun _ => ⟨_, rfl, by omega, fun k u hu => ?_⟩⟩
  have := (Blk.new w t #[.int .i64 a, .int .i64 b, .int .i64 c, .int .i64 d]).cell k
  rw [this]
  simpa [pcells] using hu

/-- The address of a place, and of no place 0; and the error's number. -/
def addrOf (a b : Int) : Int := if inPlace a b then 8 * a + b else 0
def addrErr (a b : Int) : Int := if inPlace a b then 0 else 2

theorem inPlace_iff (a b : Int) : inPlace a b = true ↔ 0 ≤ a ∧ a < 1024 ∧ 0 ≤ b ∧ b < 8 := by simp [inPlace]

set_option maxHeartbeats 400000 in
theorem address_any (a b : Int) (w : World) :
    Calls Try.prog 9 #[.agg #[.int .i64 a, .int .i64 b]] w fun e w' => e = .returned (.tuple #[.int .i64 (addrOf a b), .int .i64 (addrErr a b)]) ∧ Below w.heap.size w w' := by
  have hb0 : Below w.heap.size w (w.alloc (.cells #[.int .i64 a, .int .i64 b] 23)) := (Below.refl _ w).alloc (Nat.le_refl _) _
  have hone := one_place (w.alloc (.cells #[.int .i64 a, .int .i64 b] 23)) a b 23
  simp only [World.size_alloc] at hone
  replace hone := Lib.hid hone
  have hb1 := Lib.hid (hb0.alloc hb0.size (.cells #[.int .i64 a, .int .i64 b] 23))
  cases hin : inPlace a b
  · have e1 : Hid (addrOf a b = 0 ∧ addrErr a b = 2) := Lib.hid (by simp [addrOf, addrErr, hin])
    have Hin := Lib.hid hin
    clear hin hb0
    go_enter Try.func9, Try.ntmps9
    go_wp2_with fail
    refine (right_any [(a, b)] _ 1 1 _ (hone.out.more (by simp)) (by omega)).mono ?_
    rintro e w1 ⟨rfl, hb⟩
    have hbb := Lib.hid (hb1.out.trans (hb.mono (by simp only [World.size_alloc]; omega)))
    rw [show (([(a, b)] : List (Int × Int)).all fun p => inPlace p.1 p.2) = false from by simp [Hin.out]]
    go_wp2
    go_ret2
    exact ⟨by rw [e1.out.1, e1.out.2]; rfl, hbb.out⟩
  · obtain ⟨h1, h2, h3, h4⟩ := (inPlace_iff a b).1 hin
    have e1 : Hid (addrOf a b = 8 * a + b ∧ addrErr a b = 0) := Lib.hid (by simp [addrOf, addrErr, hin])
    obtain ⟨x, rfl⟩ : ∃ x : Nat, a = x := ⟨a.toNat, by omega⟩
    obtain ⟨y, rfl⟩ : ∃ y : Nat, b = y := ⟨b.toNat, by omega⟩
    have hm : ∀ W, (binOp .mul 50 (.complex .f64 (fz x) (fz y)) (.complex .f64 4620693217682128896 0)).run Try.prog W = .ok (.complex .f64 (fz ((8 * x : Nat) : Int)) (fz ((8 * y : Nat) : Int))) W := fun W => by
      have e8 : fz 8 = 4620693217682128896 := by decide
      have e0 : fz 0 = 0 := by decide
      have := mul_fz x y (by omega) (by omega)
      rw [e8, e0] at this
      exact run_complex_mul W 50 _ _ _ _ _ _ this
    have c1 := conv_fz (8 * (x : Int)) (by omega)
    have c2 := conv_fz (8 * (y : Int)) (by omega)
    have Hin := Lib.hid hin
    clear hin hb0
    go_enter Try.func9, Try.ntmps9
    go_wp2_with fail
    refine (right_any [((x : Int), (y : Int))] _ 1 1 _ (hone.out.more (by simp)) (by omega)).mono ?_
    rintro e w1 ⟨rfl, hb⟩
    have hbb := (hb1.out.trans (hb.mono (by simp only [World.size_alloc]; omega)))
    rw [show (([((x : Int), (y : Int))] : List (Int × Int)).all fun p => inPlace p.1 p.2) = true from by simp [Hin.out]]
    have cell1 : w1.cell? ⟨w.heap.size, 0, none⟩ = some (.int .i64 x) := by
      have := hb.cell (p := ⟨w.heap.size, 0, none⟩) (by simp only [World.size_alloc]; omega)
      rw [this]
      exact ((Blk.new w 23 #[.int .i64 x, .int .i64 y]).alloc _).cell 0
    have cell2 : w1.cell? ⟨w.heap.size, 1, none⟩ = some (.int .i64 y) := by
      have := hb.cell (p := ⟨w.heap.size, 1, none⟩) (by simp only [World.size_alloc]; omega)
      rw [this]
      exact ((Blk.new w 23 #[.int .i64 x, .int .i64 y]).alloc _).cell 1
    have Hbb := Lib.hid hbb
    clear hbb hb
    go_wp2_with fail
    refine (point_any x y _).mono ?_
    rintro e w2 ⟨rfl, hb2⟩
    have hbb2 := Lib.hid (Hbb.out.trans (hb2.mono Hbb.out.size))
    have wx : IntKind.i64.wrap (8 * (x : Int) + y) = 8 * (x : Int) + y := by rw [IntKind.wrap_i64]; omega
    have q8 : (8 * (y : Int)).tdiv 8 = (y : Int) := by rw [Int.tdiv_eq_ediv_of_nonneg (by omega)]; omega
    clear hb2
    go_wp2
    go_ret2
    exact ⟨by rw [e1.out.1, e1.out.2]; rfl, hbb2.out⟩

/-- What At tells. -/
def atPlace (n : Int) : Int × Int := if 0 ≤ n ∧ n < 8192 then (n / 8, n % 8) else (0, 0)
def atErr (n : Int) : Int := if 0 ≤ n ∧ n < 8192 then 0 else 4

set_option maxHeartbeats 400000 in
theorem at_any (n : Int) (w : World) :
    Calls Try.prog 10 #[.int .i64 n] w fun e w' => e = .returned (.tuple #[.agg #[.int .i64 (atPlace n).1, .int .i64 (atPlace n).2], .int .i64 (atErr n)]) ∧ Below w.heap.size w w' := by
  have hb1 := Lib.hid ((Below.refl _ w).alloc (Nat.le_refl _) (.cells #[.int .i64 0, .int .i64 0] 23))
  by_cases hin : 0 ≤ n ∧ n < 8192
  · have e1 : Hid (atPlace n = (n / 8, n % 8) ∧ atErr n = 0) := Lib.hid (by simp [atPlace, atErr, hin])
    obtain ⟨h1, h2⟩ := hin
    obtain ⟨q, hq⟩ : ∃ q, n / 8 = q := ⟨_, rfl⟩
    obtain ⟨r, hr⟩ : ∃ r, n % 8 = r := ⟨_, rfl⟩
    have Hq := Lib.hid hq
    have Hr := Lib.hid hr
    have q8 : n.tdiv 8 = q := by rw [Int.tdiv_eq_ediv_of_nonneg (by omega)]; omega
    have w8 : IntKind.i64.wrap q = q := by rw [IntKind.wrap_i64]; omega
    have w9 : IntKind.i64.wrap (q * 8) = q * 8 := by rw [IntKind.wrap_i64]; omega
    have w10 : IntKind.i64.wrap (n - q * 8) = r := by rw [IntKind.wrap_i64]; omega
    have e8 : n - q * 8 = r := by omega
    have f1 : ∀ k, floatOfInt .f64 k = fz k := fun _ => rfl
    have hq1 : q.natAbs < 8192 := by omega
    have hr1 : r.natAbs < 8192 := by omega
    clear hq hr
    go_enter Try.func10, Try.ntmps10
    go_wp2_with fail
    refine (of_point q r _ hq1 hr1).mono ?_
    rintro e w1 ⟨rfl, hb⟩
    have hk : Blk w1 w.heap.size 23 #[.int .i64 0, .int .i64 0] := (Blk.new w _ _).below hb (by simp)
    have k0 := hk.cell 0
    have k1 := hk.cell 1
    have fr0 := hk.frozen 0
    have fr1 := hk.frozen 1
    simp at k0 k1
    have hb2 := below_boxed hb
    have hset := (hk.set_ 0 (.int .i64 q)).set_ 1 (.int .i64 r)
    have s0 := hset.cell 0
    have s1 := hset.cell 1
    simp at s0 s1
    have hb3 := Lib.hid ((hb2.setCell (p := ⟨w.heap.size, 0, none⟩) (Nat.le_refl _) (.int .i64 q)).setCell (p := ⟨w.heap.size, 1, none⟩) (Nat.le_refl _) (.int .i64 r))
    clear hb hb2 hset
    go_wp2
    refine bodyPost_ret (v := .tuple #[.agg #[.int .i64 q, .int .i64 r], .int .i64 0]) (by simp [results, Try.results10, go_sem, s0, s1]) rfl ⟨?_, hb3.out⟩
    rw [e1.out.1, e1.out.2, Hq.out, Hr.out]
  · have e1 : Hid (atPlace n = (0, 0) ∧ atErr n = 4) := Lib.hid (by simp [atPlace, atErr, hin])
    have hor : n < 0 ∨ 8192 ≤ n := by omega
    have Hin := Lib.hid hin
    clear hin
    rcases hor with h | h
    · go_enter Try.func10, Try.ntmps10
      go_wp2
      refine bodyPost_ret (v := .tuple #[.agg #[.int .i64 0, .int .i64 0], .int .i64 4]) (by simp [results, Try.results10, go_sem]) rfl ⟨?_, hb1.out⟩
      rw [e1.out.1, e1.out.2]
    · have h' : ¬ n < 0 := by omega
      go_enter Try.func10, Try.ntmps10
      go_wp2
      refine bodyPost_ret (v := .tuple #[.agg #[.int .i64 0, .int .i64 0], .int .i64 4]) (by simp [results, Try.results10, go_sem]) rfl ⟨?_, hb1.out⟩
      rw [e1.out.1, e1.out.2]

/-- What Move tells. -/
def movePlace (a b n : Int) : Int × Int := if inPlace a b then (if 0 ≤ 8 * a + b + n ∧ 8 * a + b + n < 8192 then ((8 * a + b + n) / 8, (8 * a + b + n) % 8) else (0, 0)) else (0, 0)
def moveErr (a b n : Int) : Int := if inPlace a b then (if 0 ≤ 8 * a + b + n ∧ 8 * a + b + n < 8192 then 0 else 4) else 2

set_option maxHeartbeats 400000 in
theorem move_any (a b n : Int) (w : World) (hn : (Lit.int .i64 n).wf = true) :
    Calls Try.prog 17 #[.agg #[.int .i64 a, .int .i64 b], .int .i64 n] w fun e w' => e = .returned (.tuple #[.agg #[.int .i64 (movePlace a b n).1, .int .i64 (movePlace a b n).2], .int .i64 (moveErr a b n)]) ∧ Below w.heap.size w w' := by
  have hn' : -9223372036854775808 ≤ n ∧ n ≤ 9223372036854775807 := by
    simp [Lit.wf, IntKind.min, IntKind.max, IntKind.signed, IntKind.bits] at hn
    omega
  clear hn
  have hb1 := Lib.hid (((Below.refl _ w).alloc (Nat.le_refl _) (.cells #[.int .i64 a, .int .i64 b] 23)).alloc (by simp) (.cells #[.int .i64 0, .int .i64 0] 23))
  have hk := Lib.hid (Blk.new (w.alloc (.cells #[.int .i64 a, .int .i64 b] 23)) 23 #[.int .i64 0, .int .i64 0])
  cases hin : inPlace a b
  · have e1 : Hid (movePlace a b n = (0, 0) ∧ moveErr a b n = 2) := Lib.hid (by simp [movePlace, moveErr, hin])
    have e2 : Hid (addrOf a b = 0 ∧ addrErr a b = 2) := Lib.hid (by simp [addrOf, addrErr, hin])
    clear hin
    go_enter Try.func17, Try.ntmps17
    go_wp2_with fail
    refine wp_scope_goto 0 rfl fun J hJ => ?_
    go_wp2_with fail
    refine (address_any a b _).mono ?_
    rintro e w1 ⟨rfl, hb⟩
    rw [e2.out.1, e2.out.2]
    have hk1 : Blk w1 (w.heap.size + 1) 23 #[.int .i64 0, .int .i64 0] := by
      have := hk.out.below hb (by simp)
      simpa using this
    have hb2 := hb1.out.trans (hb.mono (by simp only [World.size_alloc]; omega))
    have k0 := hk1.cell 0
    have k1 := hk1.cell 1
    have fr0 := hk1.frozen 0
    have fr1 := hk1.frozen 1
    simp at k0 k1
    clear hb
    go_wp2
    go_step3
    refine ⟨rfl, hJ _ _ ?_⟩
    have hset := (hk1.set_ 0 (.int .i64 0)).set_ 1 (.int .i64 0)
    have s0 := hset.cell 0
    have s1 := hset.cell 1
    simp at s0 s1
    have hb3 := Lib.hid ((hb2.setCell (p := ⟨w.heap.size + 1, 0, none⟩) (by simp) (.int .i64 0)).setCell (p := ⟨w.heap.size + 1, 1, none⟩) (by simp) (.int .i64 0))
    clear hb2 hset
    go_wp2
    first | rw [Exit.noGoto_ret] | rw [Exit.jump_ret] | skip
    refine bodyPost_ret (v := .tuple #[.agg #[.int .i64 0, .int .i64 0], .int .i64 2]) (by simp [results, Try.results17, go_sem, s0, s1]) rfl ⟨?_, hb3.out⟩
    rw [e1.out.1, e1.out.2]
  · obtain ⟨h1, h2, h3, h4⟩ := (inPlace_iff a b).1 hin
    have e2 : Hid (addrOf a b = 8 * a + b ∧ addrErr a b = 0) := Lib.hid (by simp [addrOf, addrErr, hin])
    obtain ⟨k, hkk⟩ : ∃ k, 8 * a + b = k := ⟨_, rfl⟩
    have hk0 : 0 ≤ k := by omega
    have hk1 : k < 8192 := by omega
    rw [hkk] at e2
    have w1' : IntKind.i64.wrap (-k) = -k := by rw [IntKind.wrap_i64]; omega
    have w2' : IntKind.i64.wrap (8192 - k) = 8192 - k := by rw [IntKind.wrap_i64]; omega
    by_cases hr : 0 ≤ k + n ∧ k + n < 8192
    · have e1 : Hid (movePlace a b n = atPlace (k + n) ∧ moveErr a b n = 0 ∧ atErr (k + n) = 0) := Lib.hid (by simp [movePlace, moveErr, atPlace, atErr, hin, hkk, hr])
      have w3 : IntKind.i64.wrap (k + n) = k + n := by rw [IntKind.wrap_i64]; omega
      have c1 : ¬ n < -k := by omega
      have c2 : ¬ 8192 - k ≤ n := by omega
      obtain ⟨⟨p1, p2⟩, hp⟩ : ∃ p, atPlace (k + n) = p := ⟨_, rfl⟩
      rw [hp] at e1
      have Hp := Lib.hid hp
      clear hp hin h1 h2 h3 h4 hkk hr
      go_enter Try.func17, Try.ntmps17
      go_wp2_with fail
      refine wp_scope_goto 0 rfl fun J hJ => ?_
      go_wp2_with fail
      refine (address_any a b _).mono ?_
      rintro e w1 ⟨rfl, hb⟩
      rw [e2.out.1, e2.out.2]
      have hk1 : Blk w1 (w.heap.size + 1) 23 #[.int .i64 0, .int .i64 0] := by
        have := hk.out.below hb (by simp)
        simpa using this
      have hb2 := hb1.out.trans (hb.mono (by simp only [World.size_alloc]; omega))
      have k0 := hk1.cell 0
      have k1 := hk1.cell 1
      have fr0 := hk1.frozen 0
      have fr1 := hk1.frozen 1
      simp at k0 k1
      clear hb
      go_wp2_with fail
      refine (at_any (k + n) _).mono ?_
      rintro e w2 ⟨rfl, hb⟩
      rw [Hp.out, e1.out.2.2]
      have hk2 : Blk w2 (w.heap.size + 1) 23 #[.int .i64 0, .int .i64 0] := hk1.below hb hk1.lt
      have hb4 := hb2.trans (hb.mono hb2.size)
      have hset := (hk2.set_ 0 (.int .i64 p1)).set_ 1 (.int .i64 p2)
      replace k0 := hk2.cell 0
      replace k1 := hk2.cell 1
      replace fr0 := hk2.frozen 0
      replace fr1 := hk2.frozen 1
      have s0 := hset.cell 0
      have s1 := hset.cell 1
      simp at s0 s1 k0 k1
      have hb3 := Lib.hid ((hb4.setCell (p := ⟨w.heap.size + 1, 0, none⟩) (by simp) (.int .i64 p1)).setCell (p := ⟨w.heap.size + 1, 1, none⟩) (by simp) (.int .i64 p2))
      clear hb hb2 hb4 hset
      go_wp2
      first | rw [Exit.noGoto_ret] | rw [Exit.jump_ret] | skip
      refine bodyPost_ret (v := .tuple #[.agg #[.int .i64 p1, .int .i64 p2], .int .i64 0]) (by simp [results, Try.results17, go_sem, s0, s1]) rfl ⟨?_, hb3.out⟩
      rw [e1.out.1, e1.out.2.1]
    · have e1 : Hid (movePlace a b n = (0, 0) ∧ moveErr a b n = 4) := Lib.hid (by simp [movePlace, moveErr, hin, hkk, hr])
      have hor : n < -k ∨ (¬ n < -k ∧ 8192 - k ≤ n) := by omega
      clear hin h1 h2 h3 h4 hkk hr
      rcases hor with c1 | ⟨c1, c2⟩
      · go_enter Try.func17, Try.ntmps17
        go_wp2_with fail
        refine wp_scope_goto 0 rfl fun J hJ => ?_
        go_wp2_with fail
        refine (address_any a b _).mono ?_
        rintro e w1 ⟨rfl, hb⟩
        rw [e2.out.1, e2.out.2]
        have hk1 : Blk w1 (w.heap.size + 1) 23 #[.int .i64 0, .int .i64 0] := by
          have := hk.out.below hb (by simp)
          simpa using this
        have hb2 := hb1.out.trans (hb.mono (by simp only [World.size_alloc]; omega))
        have k0 := hk1.cell 0
        have k1 := hk1.cell 1
        have fr0 := hk1.frozen 0
        have fr1 := hk1.frozen 1
        simp at k0 k1
        clear hb
        go_wp2
        go_step3
        refine ⟨rfl, hJ _ _ ?_⟩
        have hset := (hk1.set_ 0 (.int .i64 0)).set_ 1 (.int .i64 0)
        have s0 := hset.cell 0
        have s1 := hset.cell 1
        simp at s0 s1
        have hb3 := Lib.hid ((hb2.setCell (p := ⟨w.heap.size + 1, 0, none⟩) (by simp) (.int .i64 0)).setCell (p := ⟨w.heap.size + 1, 1, none⟩) (by simp) (.int .i64 0))
        clear hb2 hset
        go_wp2
        first | rw [Exit.noGoto_ret] | rw [Exit.jump_ret] | skip
        refine bodyPost_ret (v := .tuple #[.agg #[.int .i64 0, .int .i64 0], .int .i64 4]) (by simp [results, Try.results17, go_sem, s0, s1]) rfl ⟨?_, hb3.out⟩
        rw [e1.out.1, e1.out.2]
      · go_enter Try.func17, Try.ntmps17
        go_wp2_with fail
        refine wp_scope_goto 0 rfl fun J hJ => ?_
        go_wp2_with fail
        refine (address_any a b _).mono ?_
        rintro e w1 ⟨rfl, hb⟩
        rw [e2.out.1, e2.out.2]
        have hk1 : Blk w1 (w.heap.size + 1) 23 #[.int .i64 0, .int .i64 0] := by
          have := hk.out.below hb (by simp)
          simpa using this
        have hb2 := hb1.out.trans (hb.mono (by simp only [World.size_alloc]; omega))
        have k0 := hk1.cell 0
        have k1 := hk1.cell 1
        have fr0 := hk1.frozen 0
        have fr1 := hk1.frozen 1
        simp at k0 k1
        clear hb
        go_wp2
        go_step3
        refine ⟨rfl, hJ _ _ ?_⟩
        have hset := (hk1.set_ 0 (.int .i64 0)).set_ 1 (.int .i64 0)
        have s0 := hset.cell 0
        have s1 := hset.cell 1
        simp at s0 s1
        have hb3 := Lib.hid ((hb2.setCell (p := ⟨w.heap.size + 1, 0, none⟩) (by simp) (.int .i64 0)).setCell (p := ⟨w.heap.size + 1, 1, none⟩) (by simp) (.int .i64 0))
        clear hb2 hset
        go_wp2
        first | rw [Exit.noGoto_ret] | rw [Exit.jump_ret] | skip
        refine bodyPost_ret (v := .tuple #[.agg #[.int .i64 0, .int .i64 0], .int .i64 4]) (by simp [results, Try.results17, go_sem, s0, s1]) rfl ⟨?_, hb3.out⟩
        rw [e1.out.1, e1.out.2]
end Go.Proofs.Ytfafpgboheaajaa
