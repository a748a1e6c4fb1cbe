/- The walk of the law NodeNext. No conditions. -/
import Derived.Test.YtdgnbmcckknfiaaLawK
import Derived.Test.YtdgnbmcckknfiaaQuietR
namespace Go.Proofs.Ytdgnbmcckknfiaa
open Go.RowKit
set_option linter.unusedSimpArgs false

theorem entL_no {n m : Int} {s : ByteArray} (h : entOk n m s = false) : entL n m s = #[.int .u64 0, .int .u64 0, .int .u64 0, .int .u64 0, .int .u64 0, .int .u64 0, .int .u64 0, .int .u64 0] ∧ entE n m s = 2 := by
  unfold entL entE
  rw [h]
  exact ⟨rfl, rfl⟩
theorem entL_yes {n m : Int} {s : ByteArray} {a1 a2 a3 a4 a5 : Nat} (hl : lw s = [a1, a2, a3, a4, a5]) (h : entOk n m s = true) : entL n m s = #[.int .u64 n, .int .u64 m, .int .u64 (s.size : Int), .int .u64 a1, .int .u64 a2, .int .u64 a3, .int .u64 a4, .int .u64 a5] ∧ entE n m s = 0 := by
  unfold entL entE
  rw [h]
  exact ⟨entW_eq n m s a1 a2 a3 a4 a5 hl, rfl⟩
theorem ent_wrap {n m : Int} {s : ByteArray} (h : entOk n m s = true) : IntKind.u64.wrap n = n ∧ IntKind.u64.wrap m = m := by
  simp only [entOk, ptrs, badP, Bool.and_eq_true, decide_eq_true_eq, List.any_cons, List.any_nil, Bool.or_false, Bool.not_eq_true', Bool.or_eq_false_iff, decide_eq_false_iff_not] at h
  rw [IntKind.wrap_u64, IntKind.wrap_u64]
  omega
set_option maxRecDepth 100000 in
set_option maxHeartbeats 8000000 in
theorem nodeNext_any (n m : Int) (s : ByteArray) (p q : Int) (w : World) : Calls Try.prog 3 #[.agg #[.int .i64 n, .int .i64 m, .string s], .int .i64 p, .int .i64 q] w fun e w' => e = .returned (.bool true) ∧ Below w.heap.size w w' := by
  by_cases h1 : (100 : Int) < s.size
  · have hB := (Below.refl _ w).alloc (Nat.le_refl _) (.cells #[.int .i64 n, .int .i64 m, .string s] 23)
    go_enter Try.func3, Try.ntmps3
    go_wp2_with fail
    refine (works_any _).mono ?_
    rintro e w9 ⟨rfl, hb⟩
    replace hB := hB.trans (hb.mono hB.size)
    go_wp2
    go_ret
    exact ⟨rfl, hB⟩
  · obtain ⟨a1, a2, a3, a4, a5, hl⟩ := five (lw s) (lw_len s)
    have hs1 := entL_size n m s
    have ho1 := entL_one n m s
    have hs2 := entL_size p q s
    have ho2 := entL_one p q s
    obtain ⟨A1, hA1⟩ : ∃ A, entL n m s = A := ⟨_, rfl⟩
    obtain ⟨A2, hA2⟩ : ∃ A, entL p q s = A := ⟨_, rfl⟩
    rw [hA1] at hs1 ho1
    rw [hA2] at hs2 ho2
    cases c1 : entOk n m s
    · obtain ⟨f2, hf2⟩ : ∃ f, entE p q s = f := ⟨_, rfl⟩
      have E1 := Lib.hid (And.intro hA1 (entL_no c1).2)
      have E2 := Lib.hid (And.intro hA2 hf2)
      clear c1 hl hA1 hA2 hf2
      have kx := Blk.new w 23 #[.int .i64 n, .int .i64 m, .string s]
      have hB := (Below.refl _ w).alloc (Nat.le_refl _) (.cells #[.int .i64 n, .int .i64 m, .string s] 23)
      go_enter Try.func3, Try.ntmps3
      go_wp2_with (refine row_load (w.heap.size) 23 _ kx 23 _ rfl rfl rfl _ Try.underlying23 rfl (by kernel_rfl) ?_)
      refine (PutEntry_any n m s _).mono ?_
      rintro e w1 ⟨rfl, hb⟩
      rw [E1.out.1, E1.out.2]
      replace kx := kx.below hb kx.lt
      replace hB := hB.trans (hb.mono hB.size)
      clear hb
      have lx := kx.lt
      have n1 := Blk.new w1 26 #[.int .u64 0, .int .u64 0, .int .u64 0, .int .u64 0, .int .u64 0, .int .u64 0, .int .u64 0, .int .u64 0]
      have k1 := n1.setRow (A1)
      replace kx := (kx.alloc (.cells #[.int .u64 0, .int .u64 0, .int .u64 0, .int .u64 0, .int .u64 0, .int .u64 0, .int .u64 0, .int .u64 0] 26)).farRow (g' := w1.heap.size) (by omega) (A1)
      replace hB := below_setRow (hB.alloc hB.size (.cells #[.int .u64 0, .int .u64 0, .int .u64 0, .int .u64 0, .int .u64 0, .int .u64 0, .int .u64 0, .int .u64 0] 26)) (g := w1.heap.size) hB.size (A1)
      generalize hR1 : (w1.alloc (.cells #[.int .u64 0, .int .u64 0, .int .u64 0, .int .u64 0, .int .u64 0, .int .u64 0, .int .u64 0, .int .u64 0] 26)).setRow w1.heap.size (A1) = R1 at *
      have HR1 := Lib.hid hR1
      have hlr1 : w1.heap.size < R1.heap.size := k1.lt
      have ny := Blk.new R1 23 #[.int .i64 0, .int .i64 0, .string ⟨#[]⟩]
      have ky := ny.setRow #[.int .i64 n, .int .i64 m, .string s]
      have y0 := ky.cell 0
      have y1 := ky.cell 1
      have g0 := ky.frozen 0
      have g1 := ky.frozen 1
      simp at y0 y1
      have ky2 := (ky.set_ 0 (.int .i64 p)).set_ 1 (.int .i64 q)
      simp at ky2
      replace k1 := (((k1.alloc (.cells #[.int .i64 0, .int .i64 0, .string ⟨#[]⟩] 23)).farRow (g' := R1.heap.size) (by omega) #[.int .i64 n, .int .i64 m, .string s]).far (p := ⟨R1.heap.size, 0, none⟩) (by simp; omega) (.int .i64 p)).far (p := ⟨R1.heap.size, 1, none⟩) (by simp; omega) (.int .i64 q)
      replace hB := ((below_setRow (hB.alloc hB.size (.cells #[.int .i64 0, .int .i64 0, .string ⟨#[]⟩] 23)) (g := R1.heap.size) hB.size #[.int .i64 n, .int .i64 m, .string s]).setCell (p := ⟨R1.heap.size, 0, none⟩) hB.size (.int .i64 p)).setCell (p := ⟨R1.heap.size, 1, none⟩) hB.size (.int .i64 q)
      clear hR1
      go_wp2_with (first | ((refine row_store (w1.heap.size) 26 _ _ n1 26 _ _ rfl rfl rfl rfl (by rw [hs1]; kernel_rfl) (by rw [hs1]; rfl) ho1 ?_); rw [HR1.out]) | (refine row_load (w.heap.size) 23 _ kx 23 _ rfl rfl rfl _ Try.underlying23 rfl (by kernel_rfl) ?_) | (refine row_store (R1.heap.size) 23 _ _ ny 23 _ _ rfl rfl rfl rfl (by kernel_rfl) rfl (by kernel_rfl) ?_) | (refine row_load (R1.heap.size) 23 _ ky2 23 _ rfl rfl rfl _ Try.underlying23 rfl (by kernel_rfl) ?_))
      refine (PutEntry_any p q s _).mono ?_
      rintro e w2 ⟨rfl, hb⟩
      rw [E2.out.1, E2.out.2]
      replace k1 := k1.below hb k1.lt
      replace hB := hB.trans (hb.mono hB.size)
      clear hb n1 ny ky ky2 kx y0 y1 g0 g1
      have l1 := k1.lt
      have n2 := Blk.new w2 26 #[.int .u64 0, .int .u64 0, .int .u64 0, .int .u64 0, .int .u64 0, .int .u64 0, .int .u64 0, .int .u64 0]
      replace k1 := (k1.alloc (.cells #[.int .u64 0, .int .u64 0, .int .u64 0, .int .u64 0, .int .u64 0, .int .u64 0, .int .u64 0, .int .u64 0] 26)).farRow (g' := w2.heap.size) (by omega) (A2)
      have k2 := n2.setRow (A2)
      replace hB := below_setRow (hB.alloc hB.size (.cells #[.int .u64 0, .int .u64 0, .int .u64 0, .int .u64 0, .int .u64 0, .int .u64 0, .int .u64 0, .int .u64 0] 26)) (g := w2.heap.size) hB.size (A2)
      go_wp2_with (first | (go_at_call 10; refine (num_any _ _).mono ?_; rintro e w' ⟨rfl, rfl⟩) | (refine row_store (w2.heap.size) 26 _ _ n2 26 _ _ rfl rfl rfl rfl (by rw [hs2]; kernel_rfl) (by rw [hs2]; rfl) ho2 ?_))
      refine (works_any _).mono ?_
      rintro e w9 ⟨rfl, hb⟩
      replace hB := hB.trans (hb.mono hB.size)
      go_wp2
      go_ret
      exact ⟨rfl, hB⟩
    · cases c2 : entOk p q s
      · have E1 := Lib.hid (And.intro hA1 (entL_yes hl c1).2)
        have E2 := Lib.hid (And.intro hA2 (entL_no c2).2)
        clear c1 c2 hl hA1 hA2
        have kx := Blk.new w 23 #[.int .i64 n, .int .i64 m, .string s]
        have hB := (Below.refl _ w).alloc (Nat.le_refl _) (.cells #[.int .i64 n, .int .i64 m, .string s] 23)
        go_enter Try.func3, Try.ntmps3
        go_wp2_with (refine row_load (w.heap.size) 23 _ kx 23 _ rfl rfl rfl _ Try.underlying23 rfl (by kernel_rfl) ?_)
        refine (PutEntry_any n m s _).mono ?_
        rintro e w1 ⟨rfl, hb⟩
        rw [E1.out.1, E1.out.2]
        replace kx := kx.below hb kx.lt
        replace hB := hB.trans (hb.mono hB.size)
        clear hb
        have lx := kx.lt
        have n1 := Blk.new w1 26 #[.int .u64 0, .int .u64 0, .int .u64 0, .int .u64 0, .int .u64 0, .int .u64 0, .int .u64 0, .int .u64 0]
        have k1 := n1.setRow (A1)
        replace kx := (kx.alloc (.cells #[.int .u64 0, .int .u64 0, .int .u64 0, .int .u64 0, .int .u64 0, .int .u64 0, .int .u64 0, .int .u64 0] 26)).farRow (g' := w1.heap.size) (by omega) (A1)
        replace hB := below_setRow (hB.alloc hB.size (.cells #[.int .u64 0, .int .u64 0, .int .u64 0, .int .u64 0, .int .u64 0, .int .u64 0, .int .u64 0, .int .u64 0] 26)) (g := w1.heap.size) hB.size (A1)
        generalize hR1 : (w1.alloc (.cells #[.int .u64 0, .int .u64 0, .int .u64 0, .int .u64 0, .int .u64 0, .int .u64 0, .int .u64 0, .int .u64 0] 26)).setRow w1.heap.size (A1) = R1 at *
        have HR1 := Lib.hid hR1
        have hlr1 : w1.heap.size < R1.heap.size := k1.lt
        have ny := Blk.new R1 23 #[.int .i64 0, .int .i64 0, .string ⟨#[]⟩]
        have ky := ny.setRow #[.int .i64 n, .int .i64 m, .string s]
        have y0 := ky.cell 0
        have y1 := ky.cell 1
        have g0 := ky.frozen 0
        have g1 := ky.frozen 1
        simp at y0 y1
        have ky2 := (ky.set_ 0 (.int .i64 p)).set_ 1 (.int .i64 q)
        simp at ky2
        replace k1 := (((k1.alloc (.cells #[.int .i64 0, .int .i64 0, .string ⟨#[]⟩] 23)).farRow (g' := R1.heap.size) (by omega) #[.int .i64 n, .int .i64 m, .string s]).far (p := ⟨R1.heap.size, 0, none⟩) (by simp; omega) (.int .i64 p)).far (p := ⟨R1.heap.size, 1, none⟩) (by simp; omega) (.int .i64 q)
        replace hB := ((below_setRow (hB.alloc hB.size (.cells #[.int .i64 0, .int .i64 0, .string ⟨#[]⟩] 23)) (g := R1.heap.size) hB.size #[.int .i64 n, .int .i64 m, .string s]).setCell (p := ⟨R1.heap.size, 0, none⟩) hB.size (.int .i64 p)).setCell (p := ⟨R1.heap.size, 1, none⟩) hB.size (.int .i64 q)
        clear hR1
        go_wp2_with (first | ((refine row_store (w1.heap.size) 26 _ _ n1 26 _ _ rfl rfl rfl rfl (by rw [hs1]; kernel_rfl) (by rw [hs1]; rfl) ho1 ?_); rw [HR1.out]) | (refine row_load (w.heap.size) 23 _ kx 23 _ rfl rfl rfl _ Try.underlying23 rfl (by kernel_rfl) ?_) | (refine row_store (R1.heap.size) 23 _ _ ny 23 _ _ rfl rfl rfl rfl (by kernel_rfl) rfl (by kernel_rfl) ?_) | (refine row_load (R1.heap.size) 23 _ ky2 23 _ rfl rfl rfl _ Try.underlying23 rfl (by kernel_rfl) ?_))
        refine (PutEntry_any p q s _).mono ?_
        rintro e w2 ⟨rfl, hb⟩
        rw [E2.out.1, E2.out.2]
        replace k1 := k1.below hb k1.lt
        replace hB := hB.trans (hb.mono hB.size)
        clear hb n1 ny ky ky2 kx y0 y1 g0 g1
        have l1 := k1.lt
        have n2 := Blk.new w2 26 #[.int .u64 0, .int .u64 0, .int .u64 0, .int .u64 0, .int .u64 0, .int .u64 0, .int .u64 0, .int .u64 0]
        replace k1 := (k1.alloc (.cells #[.int .u64 0, .int .u64 0, .int .u64 0, .int .u64 0, .int .u64 0, .int .u64 0, .int .u64 0, .int .u64 0] 26)).farRow (g' := w2.heap.size) (by omega) (A2)
        have k2 := n2.setRow (A2)
        replace hB := below_setRow (hB.alloc hB.size (.cells #[.int .u64 0, .int .u64 0, .int .u64 0, .int .u64 0, .int .u64 0, .int .u64 0, .int .u64 0, .int .u64 0] 26)) (g := w2.heap.size) hB.size (A2)
        go_wp2_with (first | (go_at_call 10; refine (num_any _ _).mono ?_; rintro e w' ⟨rfl, rfl⟩) | (refine row_store (w2.heap.size) 26 _ _ n2 26 _ _ rfl rfl rfl rfl (by rw [hs2]; kernel_rfl) (by rw [hs2]; rfl) ho2 ?_))
        refine (works_any _).mono ?_
        rintro e w9 ⟨rfl, hb⟩
        replace hB := hB.trans (hb.mono hB.size)
        go_wp2
        go_ret
        exact ⟨rfl, hB⟩
      · have E1 := Lib.hid (entL_yes hl c1)
        have E2 := Lib.hid (entL_yes hl c2)
        have hw := ent_wrap c2
        have hw1 := hw.1
        have hw2 := hw.2
        clear c1 c2 hl hA1 hA2 hs1 hs2 ho1 ho2 hw
        have kx := Blk.new w 23 #[.int .i64 n, .int .i64 m, .string s]
        have hB := (Below.refl _ w).alloc (Nat.le_refl _) (.cells #[.int .i64 n, .int .i64 m, .string s] 23)
        go_enter Try.func3, Try.ntmps3
        go_wp2_with (refine row_load (w.heap.size) 23 _ kx 23 _ rfl rfl rfl _ Try.underlying23 rfl (by kernel_rfl) ?_)
        refine (PutEntry_any n m s _).mono ?_
        rintro e w1 ⟨rfl, hb⟩
        rw [E1.out.1, E1.out.2]
        replace kx := kx.below hb kx.lt
        replace hB := hB.trans (hb.mono hB.size)
        clear hb
        have lx := kx.lt
        have n1 := Blk.new w1 26 #[.int .u64 0, .int .u64 0, .int .u64 0, .int .u64 0, .int .u64 0, .int .u64 0, .int .u64 0, .int .u64 0]
        have k1 := n1.setRow (#[.int .u64 n, .int .u64 m, .int .u64 (s.size : Int), .int .u64 a1, .int .u64 a2, .int .u64 a3, .int .u64 a4, .int .u64 a5])
        replace kx := (kx.alloc (.cells #[.int .u64 0, .int .u64 0, .int .u64 0, .int .u64 0, .int .u64 0, .int .u64 0, .int .u64 0, .int .u64 0] 26)).farRow (g' := w1.heap.size) (by omega) (#[.int .u64 n, .int .u64 m, .int .u64 (s.size : Int), .int .u64 a1, .int .u64 a2, .int .u64 a3, .int .u64 a4, .int .u64 a5])
        replace hB := below_setRow (hB.alloc hB.size (.cells #[.int .u64 0, .int .u64 0, .int .u64 0, .int .u64 0, .int .u64 0, .int .u64 0, .int .u64 0, .int .u64 0] 26)) (g := w1.heap.size) hB.size (#[.int .u64 n, .int .u64 m, .int .u64 (s.size : Int), .int .u64 a1, .int .u64 a2, .int .u64 a3, .int .u64 a4, .int .u64 a5])
        generalize hR1 : (w1.alloc (.cells #[.int .u64 0, .int .u64 0, .int .u64 0, .int .u64 0, .int .u64 0, .int .u64 0, .int .u64 0, .int .u64 0] 26)).setRow w1.heap.size (#[.int .u64 n, .int .u64 m, .int .u64 (s.size : Int), .int .u64 a1, .int .u64 a2, .int .u64 a3, .int .u64 a4, .int .u64 a5]) = R1 at *
        have HR1 := Lib.hid hR1
        have hlr1 : w1.heap.size < R1.heap.size := k1.lt
        have ny := Blk.new R1 23 #[.int .i64 0, .int .i64 0, .string ⟨#[]⟩]
        have ky := ny.setRow #[.int .i64 n, .int .i64 m, .string s]
        have y0 := ky.cell 0
        have y1 := ky.cell 1
        have g0 := ky.frozen 0
        have g1 := ky.frozen 1
        simp at y0 y1
        have ky2 := (ky.set_ 0 (.int .i64 p)).set_ 1 (.int .i64 q)
        simp at ky2
        replace k1 := (((k1.alloc (.cells #[.int .i64 0, .int .i64 0, .string ⟨#[]⟩] 23)).farRow (g' := R1.heap.size) (by omega) #[.int .i64 n, .int .i64 m, .string s]).far (p := ⟨R1.heap.size, 0, none⟩) (by simp; omega) (.int .i64 p)).far (p := ⟨R1.heap.size, 1, none⟩) (by simp; omega) (.int .i64 q)
        replace hB := ((below_setRow (hB.alloc hB.size (.cells #[.int .i64 0, .int .i64 0, .string ⟨#[]⟩] 23)) (g := R1.heap.size) hB.size #[.int .i64 n, .int .i64 m, .string s]).setCell (p := ⟨R1.heap.size, 0, none⟩) hB.size (.int .i64 p)).setCell (p := ⟨R1.heap.size, 1, none⟩) hB.size (.int .i64 q)
        clear hR1
        go_wp2_with (first | ((refine row_store (w1.heap.size) 26 _ _ n1 26 _ _ rfl rfl rfl rfl (by kernel_rfl) rfl (by kernel_rfl) ?_); rw [HR1.out]) | (refine row_load (w.heap.size) 23 _ kx 23 _ rfl rfl rfl _ Try.underlying23 rfl (by kernel_rfl) ?_) | (refine row_store (R1.heap.size) 23 _ _ ny 23 _ _ rfl rfl rfl rfl (by kernel_rfl) rfl (by kernel_rfl) ?_) | (refine row_load (R1.heap.size) 23 _ ky2 23 _ rfl rfl rfl _ Try.underlying23 rfl (by kernel_rfl) ?_))
        refine (PutEntry_any p q s _).mono ?_
        rintro e w2 ⟨rfl, hb⟩
        rw [E2.out.1, E2.out.2]
        replace k1 := k1.below hb k1.lt
        replace hB := hB.trans (hb.mono hB.size)
        clear hb n1 ny ky ky2 kx y0 y1 g0 g1
        have l1 := k1.lt
        have n2 := Blk.new w2 26 #[.int .u64 0, .int .u64 0, .int .u64 0, .int .u64 0, .int .u64 0, .int .u64 0, .int .u64 0, .int .u64 0]
        replace k1 := (k1.alloc (.cells #[.int .u64 0, .int .u64 0, .int .u64 0, .int .u64 0, .int .u64 0, .int .u64 0, .int .u64 0, .int .u64 0] 26)).farRow (g' := w2.heap.size) (by omega) (#[.int .u64 p, .int .u64 q, .int .u64 (s.size : Int), .int .u64 a1, .int .u64 a2, .int .u64 a3, .int .u64 a4, .int .u64 a5])
        have k2 := n2.setRow (#[.int .u64 p, .int .u64 q, .int .u64 (s.size : Int), .int .u64 a1, .int .u64 a2, .int .u64 a3, .int .u64 a4, .int .u64 a5])
        replace hB := below_setRow (hB.alloc hB.size (.cells #[.int .u64 0, .int .u64 0, .int .u64 0, .int .u64 0, .int .u64 0, .int .u64 0, .int .u64 0, .int .u64 0] 26)) (g := w2.heap.size) hB.size (#[.int .u64 p, .int .u64 q, .int .u64 (s.size : Int), .int .u64 a1, .int .u64 a2, .int .u64 a3, .int .u64 a4, .int .u64 a5])
        generalize hR2 : (w2.alloc (.cells #[.int .u64 0, .int .u64 0, .int .u64 0, .int .u64 0, .int .u64 0, .int .u64 0, .int .u64 0, .int .u64 0] 26)).setRow w2.heap.size (#[.int .u64 p, .int .u64 q, .int .u64 (s.size : Int), .int .u64 a1, .int .u64 a2, .int .u64 a3, .int .u64 a4, .int .u64 a5]) = R2 at *
        have HR2 := Lib.hid hR2
        clear hR2
        go_wp2_with (first | (go_at_call 10; refine (num_any _ _).mono ?_; rintro e w' ⟨rfl, rfl⟩) | ((refine row_store (w2.heap.size) 26 _ _ n2 26 _ _ rfl rfl rfl rfl (by kernel_rfl) rfl (by kernel_rfl) ?_); rw [HR2.out]))
        go_loopw [12] (fun i wr => ∃ k : Nat, 2 ≤ k ∧ k ≤ 8 ∧ i = .int .i64 k ∧ Blk wr w1.heap.size 26 (#[.int .u64 n, .int .u64 m, .int .u64 (s.size : Int), .int .u64 a1, .int .u64 a2, .int .u64 a3, .int .u64 a4, .int .u64 a5]) ∧ Blk wr w2.heap.size 26 (#[.int .u64 p, .int .u64 q, .int .u64 (s.size : Int), .int .u64 a1, .int .u64 a2, .int .u64 a3, .int .u64 a4, .int .u64 a5]) ∧ Below w.heap.size w wr) (fun i _ => 8 - (intOf i).toNat)
        case atStart => exact ⟨2, by omega, by omega, rfl, k1, k2, hB⟩
        case round =>
          obtain ⟨k, hk2, hk8, rfl, r1, r2, rB⟩ := hrel
          obtain ⟨wo, rfl⟩ : ∃ wo : World, wo = wr := ⟨_, rfl⟩
          by_cases hlt : k < 8
          · have hor : k = 2 ∨ k = 3 ∨ k = 4 ∨ k = 5 ∨ k = 6 ∨ k = 7 := by omega
            clear hk2 hk8 hlt
            rcases hor with rfl | rfl | rfl | rfl | rfl | rfl
            · have d1 := r1.cell 2
              have d2 := r2.cell 2
              simp at d1 d2
              go_wp2_with fail
              go_quiet (fail)
              go_wp2
              go_roundw
              case rel => exact ⟨3, by omega, by omega, by simp, r1.drewN _, r2.drewN _, ⟨rB.os, rB.tape, rB.output, rB.size, rB.block⟩⟩
              case measure => simp [intOf]
            · have d1 := r1.cell 3
              have d2 := r2.cell 3
              simp at d1 d2
              go_wp2_with fail
              go_quiet (fail)
              go_wp2
              go_roundw
              case rel => exact ⟨4, by omega, by omega, by simp, r1.drewN _, r2.drewN _, ⟨rB.os, rB.tape, rB.output, rB.size, rB.block⟩⟩
              case measure => simp [intOf]
            · have d1 := r1.cell 4
              have d2 := r2.cell 4
              simp at d1 d2
              go_wp2_with fail
              go_quiet (fail)
              go_wp2
              go_roundw
              case rel => exact ⟨5, by omega, by omega, by simp, r1.drewN _, r2.drewN _, ⟨rB.os, rB.tape, rB.output, rB.size, rB.block⟩⟩
              case measure => simp [intOf]
            · have d1 := r1.cell 5
              have d2 := r2.cell 5
              simp at d1 d2
              go_wp2_with fail
              go_quiet (fail)
              go_wp2
              go_roundw
              case rel => exact ⟨6, by omega, by omega, by simp, r1.drewN _, r2.drewN _, ⟨rB.os, rB.tape, rB.output, rB.size, rB.block⟩⟩
              case measure => simp [intOf]
            · have d1 := r1.cell 6
              have d2 := r2.cell 6
              simp at d1 d2
              go_wp2_with fail
              go_quiet (fail)
              go_wp2
              go_roundw
              case rel => exact ⟨7, by omega, by omega, by simp, r1.drewN _, r2.drewN _, ⟨rB.os, rB.tape, rB.output, rB.size, rB.block⟩⟩
              case measure => simp [intOf]
            · have d1 := r1.cell 7
              have d2 := r2.cell 7
              simp at d1 d2
              go_wp2_with fail
              go_quiet (fail)
              go_wp2
              go_roundw
              case rel => exact ⟨8, by omega, by omega, by simp, r1.drewN _, r2.drewN _, ⟨rB.os, rB.tape, rB.output, rB.size, rB.block⟩⟩
              case measure => simp [intOf]
          · obtain rfl : k = 8 := by omega
            have d0 := r2.cell 0
            have d1 := r2.cell 1
            simp at d0 d1
            have q3 : ((p : Int) == p) = true := by simp
            have q4 : ((q : Int) == q) = true := by simp
            have hB := rB
            clear rB
            go_wp2_with fail
            refine (works_any _).mono ?_
            rintro e w9 ⟨rfl, hb⟩
            replace hB := hB.trans (hb.mono hB.size)
            go_wp2
            go_ret
            exact ⟨rfl, hB⟩
end Go.Proofs.Ytdgnbmcckknfiaa
