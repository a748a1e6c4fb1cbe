/- The walk of the law NodeMaps. No conditions. -/
import Derived.Test.YtdgnbmcckknfiaaRefW
import Derived.Test.YtdgnbmcckknfiaaWrkN
namespace Go.Proofs.Ytdgnbmcckknfiaa
open Go.RowKit
set_option linter.unusedSimpArgs false

theorem mapL_cells (y y0 y1 y2 y3 y4 y5 y6 : Int) : ∃ x0 x1 x2 x3 x4 x5 x6 x7 : Int, mapL y y0 y1 y2 y3 y4 y5 y6 = #[.int .u64 x0, .int .u64 x1, .int .u64 x2, .int .u64 x3, .int .u64 x4, .int .u64 x5, .int .u64 x6, .int .u64 x7] := by
  unfold mapL
  split
  · exact ⟨_, _, _, _, _, _, _, _, rfl⟩
  · exact ⟨_, _, _, _, _, _, _, _, rfl⟩
theorem entL_cells (n m : Int) (s : ByteArray) : ∃ x0 x1 x2 x3 x4 x5 x6 x7 : Int, entL n m s = #[.int .u64 x0, .int .u64 x1, .int .u64 x2, .int .u64 x3, .int .u64 x4, .int .u64 x5, .int .u64 x6, .int .u64 x7] ∧ (entOk n m s = false → entL n m s = ln8 0 0 0 0 0 0 0 0) := by
  cases h : entOk n m s
  · refine ⟨0, 0, 0, 0, 0, 0, 0, 0, ?_, fun _ => ?_⟩ <;> (unfold entL; rw [h]; rfl)
  · obtain ⟨a, b, c, d, e, hl⟩ := five (lw s) (lw_len s)
    refine ⟨n, m, (s.size : Int), a, b, c, d, e, ?_, fun h => by cases h⟩
    unfold entL
    rw [if_pos h]
    exact entW_eq n m s a b c d e hl

set_option maxRecDepth 100000 in
set_option maxHeartbeats 16000000 in
theorem nodeMaps_any (y y0 y1 y2 y3 y4 y5 y6 : Int) (n m : Int) (s : ByteArray) (z : Int) (w : World) : Calls Try.prog 5 #[.agg #[.int .i64 y, .int .i64 y0, .int .i64 y1, .int .i64 y2, .int .i64 y3, .int .i64 y4, .int .i64 y5, .int .i64 y6], .agg #[.int .i64 n, .int .i64 m, .string s], .int .i64 z] w fun e w' => e = .returned (.bool true) ∧ Below w.heap.size w w' := by
  have kM := (Blk.new w 39 #[.int .i64 y, .int .i64 y0, .int .i64 y1, .int .i64 y2, .int .i64 y3, .int .i64 y4, .int .i64 y5, .int .i64 y6]).alloc (.cells #[.int .i64 n, .int .i64 m, .string s] 23)
  have kE := Blk.new (w.alloc (.cells #[.int .i64 y, .int .i64 y0, .int .i64 y1, .int .i64 y2, .int .i64 y3, .int .i64 y4, .int .i64 y5, .int .i64 y6] 39)) 23 #[.int .i64 n, .int .i64 m, .string s]
  simp only [World.size_alloc] at kE
  have hB : Below w.heap.size w ((w.alloc (.cells #[.int .i64 y, .int .i64 y0, .int .i64 y1, .int .i64 y2, .int .i64 y3, .int .i64 y4, .int .i64 y5, .int .i64 y6] 39)).alloc (.cells #[.int .i64 n, .int .i64 m, .string s] 23)) := ((Below.refl _ w).alloc (Nat.le_refl _) _).alloc (by simp) _
  by_cases h1 : (100 : Int) < s.size
  · go_enter Try.func5, Try.ntmps5
    go_wp2_with fail
    refine (works_any _).mono ?_
    rintro r w3 ⟨rfl, hb⟩
    replace hB := hB.trans (hb.mono hB.size)
    go_wp2
    go_ret
    exact ⟨rfl, hB⟩
  · obtain ⟨a0, a1, a2, a3, a4, a5, a6, a7, hA⟩ := mapL_cells y y0 y1 y2 y3 y4 y5 y6
    obtain ⟨b0, b1, b2, b3, b4, b5, b6, b7, hBv, hz⟩ := entL_cells n m s
    obtain ⟨e1, he1⟩ : ∃ e, mapE y y0 y1 y2 y3 y4 y5 y6 = e := ⟨_, rfl⟩
    obtain ⟨e2, he2⟩ : ∃ e, entE n m s = e := ⟨_, rfl⟩
    obtain ⟨o1, ho1⟩ : ∃ o, mapOk y y0 y1 y2 y3 y4 y5 y6 = o := ⟨_, rfl⟩
    obtain ⟨R1, hR1⟩ : ∃ R, rmapL y y0 y1 y2 y3 y4 y5 y6 = R := ⟨_, rfl⟩
    have P1 := put_map y y0 y1 y2 y3 y4 y5 y6
    have G1 := rMapP_any y y0 y1 y2 y3 y4 y5 y6
    have O1 := rMapR_any y y0 y1 y2 y3 y4 y5 y6
    have P2 := put_ent n m s
    have O2 := rEntryR_any n m s
    rw [hA, he1, ho1, hR1] at P1
    rw [hR1] at G1
    rw [ho1] at O1
    have HM := Lib.hid (And.intro hA he1)
    have P1 := Lib.hid P1
    have G1 := Lib.hid G1
    have O1 := Lib.hid O1
    clear hA he1 ho1 hR1
    cases ho2 : entOk n m s
    · have hBz := hz ho2
      unfold ln8 at hBz
      rw [hBz, he2, ho2] at P2
      rw [ho2] at O2
      have HE := Lib.hid (And.intro hBz he2)
      have P2 := Lib.hid P2
      have O2 := Lib.hid O2
      clear hBv hz he2 ho2 hBz
      by_cases z1 : z < 0
      · have HC : Hid (chN z = 0 ∧ chE z = 2) := Lib.hid (by unfold chN chE chOk; rw [decide_eq_false (by omega : ¬ 0 ≤ z)]; exact ⟨rfl, rfl⟩)
        go_enter Try.func5, Try.ntmps5
        go_wp2_with (refine row_load (w.heap.size) 39 _ kM 39 _ rfl rfl rfl _ Try.underlying39 rfl (by kernel_rfl) ?_)
        refine (PutMap_any y y0 y1 y2 y3 y4 y5 y6 _).mono ?_
        rintro e w1 ⟨rfl, hb⟩
        rw [HM.out.1, HM.out.2]
        replace kM := kM.below hb kM.lt
        replace kE := kE.below hb kE.lt
        replace hB := hB.trans (hb.mono hB.size)
        clear hb
        have n1 := Blk.new w1 26 #[.int .u64 0, .int .u64 0, .int .u64 0, .int .u64 0, .int .u64 0, .int .u64 0, .int .u64 0, .int .u64 0]
        have q1 := n1.setRow #[.int .u64 a0, .int .u64 a1, .int .u64 a2, .int .u64 a3, .int .u64 a4, .int .u64 a5, .int .u64 a6, .int .u64 a7]
        have lkM := kM.lt
        replace kM := (kM.alloc (.cells #[.int .u64 0, .int .u64 0, .int .u64 0, .int .u64 0, .int .u64 0, .int .u64 0, .int .u64 0, .int .u64 0] 26)).farRow (g' := w1.heap.size) (by omega) #[.int .u64 a0, .int .u64 a1, .int .u64 a2, .int .u64 a3, .int .u64 a4, .int .u64 a5, .int .u64 a6, .int .u64 a7]
        clear lkM
        have lkE := kE.lt
        replace kE := (kE.alloc (.cells #[.int .u64 0, .int .u64 0, .int .u64 0, .int .u64 0, .int .u64 0, .int .u64 0, .int .u64 0, .int .u64 0] 26)).farRow (g' := w1.heap.size) (by omega) #[.int .u64 a0, .int .u64 a1, .int .u64 a2, .int .u64 a3, .int .u64 a4, .int .u64 a5, .int .u64 a6, .int .u64 a7]
        clear lkE
        replace hB := below_setRow (hB.alloc hB.size (.cells #[.int .u64 0, .int .u64 0, .int .u64 0, .int .u64 0, .int .u64 0, .int .u64 0, .int .u64 0, .int .u64 0] 26)) (g := w1.heap.size) hB.size #[.int .u64 a0, .int .u64 a1, .int .u64 a2, .int .u64 a3, .int .u64 a4, .int .u64 a5, .int .u64 a6, .int .u64 a7]
        go_wp2_with (refine row_store (w1.heap.size) 26 _ _ n1 26 _ _ rfl rfl rfl rfl (by kernel_rfl) rfl (by kernel_rfl) ?_)
        clear n1
        refine (Chunks_any z _).mono ?_
        rintro e w9 ⟨rfl, rfl⟩
        rw [HC.out.1, HC.out.2]
        go_wp2_with (first | (go_at_call 10; refine (num_any _ _).mono ?_; rintro e w' ⟨rfl, rfl⟩) | (refine row_load (w.heap.size + 1) 23 _ kE 23 _ rfl rfl rfl _ Try.underlying23 rfl (by kernel_rfl) ?_))
        refine (PutEntry_any n m s _).mono ?_
        rintro e w2 ⟨rfl, hb⟩
        rw [HE.out.1, HE.out.2]
        replace kM := kM.below hb kM.lt
        replace kE := kE.below hb kE.lt
        replace q1 := q1.below hb q1.lt
        replace hB := hB.trans (hb.mono hB.size)
        clear hb
        have n2 := Blk.new w2 26 #[.int .u64 0, .int .u64 0, .int .u64 0, .int .u64 0, .int .u64 0, .int .u64 0, .int .u64 0, .int .u64 0]
        have q2 := n2.setRow #[.int .u64 0, .int .u64 0, .int .u64 0, .int .u64 0, .int .u64 0, .int .u64 0, .int .u64 0, .int .u64 0]
        have lkM := kM.lt
        replace kM := (kM.alloc (.cells #[.int .u64 0, .int .u64 0, .int .u64 0, .int .u64 0, .int .u64 0, .int .u64 0, .int .u64 0, .int .u64 0] 26)).farRow (g' := w2.heap.size) (by omega) #[.int .u64 0, .int .u64 0, .int .u64 0, .int .u64 0, .int .u64 0, .int .u64 0, .int .u64 0, .int .u64 0]
        clear lkM
        have lkE := kE.lt
        replace kE := (kE.alloc (.cells #[.int .u64 0, .int .u64 0, .int .u64 0, .int .u64 0, .int .u64 0, .int .u64 0, .int .u64 0, .int .u64 0] 26)).farRow (g' := w2.heap.size) (by omega) #[.int .u64 0, .int .u64 0, .int .u64 0, .int .u64 0, .int .u64 0, .int .u64 0, .int .u64 0, .int .u64 0]
        clear lkE
        have lq1 := q1.lt
        replace q1 := (q1.alloc (.cells #[.int .u64 0, .int .u64 0, .int .u64 0, .int .u64 0, .int .u64 0, .int .u64 0, .int .u64 0, .int .u64 0] 26)).farRow (g' := w2.heap.size) (by omega) #[.int .u64 0, .int .u64 0, .int .u64 0, .int .u64 0, .int .u64 0, .int .u64 0, .int .u64 0, .int .u64 0]
        clear lq1
        replace hB := below_setRow (hB.alloc hB.size (.cells #[.int .u64 0, .int .u64 0, .int .u64 0, .int .u64 0, .int .u64 0, .int .u64 0, .int .u64 0, .int .u64 0] 26)) (g := w2.heap.size) hB.size #[.int .u64 0, .int .u64 0, .int .u64 0, .int .u64 0, .int .u64 0, .int .u64 0, .int .u64 0, .int .u64 0]
        generalize hR : (w2.alloc (.cells #[.int .u64 0, .int .u64 0, .int .u64 0, .int .u64 0, .int .u64 0, .int .u64 0, .int .u64 0, .int .u64 0] 26)).setRow w2.heap.size #[.int .u64 0, .int .u64 0, .int .u64 0, .int .u64 0, .int .u64 0, .int .u64 0, .int .u64 0, .int .u64 0] = R at *
        have HR := Lib.hid hR
        have lM := kM.lt
        have lE := kE.lt
        have l1 := q1.lt
        have l2 := q2.lt
        have HL := Lib.hid (And.intro lM (And.intro lE (And.intro l1 l2)))
        clear lM lE l1 l2
        have q3 := Blk.new R 26 #[.int .u64 0, .int .u64 0, .int .u64 0, .int .u64 0, .int .u64 0, .int .u64 0, .int .u64 0, .int .u64 0]
        replace kM := kM.alloc (.cells #[.int .u64 0, .int .u64 0, .int .u64 0, .int .u64 0, .int .u64 0, .int .u64 0, .int .u64 0, .int .u64 0] 26)
        replace kE := kE.alloc (.cells #[.int .u64 0, .int .u64 0, .int .u64 0, .int .u64 0, .int .u64 0, .int .u64 0, .int .u64 0, .int .u64 0] 26)
        replace q1 := q1.alloc (.cells #[.int .u64 0, .int .u64 0, .int .u64 0, .int .u64 0, .int .u64 0, .int .u64 0, .int .u64 0, .int .u64 0] 26)
        replace q2 := q2.alloc (.cells #[.int .u64 0, .int .u64 0, .int .u64 0, .int .u64 0, .int .u64 0, .int .u64 0, .int .u64 0, .int .u64 0] 26)
        replace hB := hB.alloc hB.size (.cells #[.int .u64 0, .int .u64 0, .int .u64 0, .int .u64 0, .int .u64 0, .int .u64 0, .int .u64 0, .int .u64 0] 26)
        clear hR
        go_wp2_with (first | ((refine row_store (w2.heap.size) 26 _ _ n2 26 _ _ rfl rfl rfl rfl (by kernel_rfl) rfl (by kernel_rfl) ?_); rw [HR.out]) | (refine row_load (w.heap.size + 1) 23 _ kE 23 _ rfl rfl rfl _ Try.underlying23 rfl (by kernel_rfl) ?_))
        refine (O2.out _).mono ?_
        rintro e w3 ⟨rfl, hb⟩
        replace kM := kM.below hb kM.lt
        replace kE := kE.below hb kE.lt
        replace q1 := q1.below hb q1.lt
        replace q2 := q2.below hb q2.lt
        replace q3 := q3.below hb q3.lt
        replace hB := hB.trans (hb.mono hB.size)
        clear hb
        clear n2
        go_wp2_with fail
        generalize w3 = Z at *
        have hS : ∀ w', Below Z.heap.size Z w' → w'.cell? ⟨w.heap.size, 0, none⟩ = some (.int .i64 y) ∧ w'.cell? ⟨w.heap.size, 1, none⟩ = some (.int .i64 y0) ∧ w'.cell? ⟨w.heap.size, 2, none⟩ = some (.int .i64 y1) ∧ w'.cell? ⟨w.heap.size, 3, none⟩ = some (.int .i64 y2) ∧ w'.cell? ⟨w.heap.size, 4, none⟩ = some (.int .i64 y3) ∧ w'.cell? ⟨w.heap.size, 5, none⟩ = some (.int .i64 y4) ∧ w'.cell? ⟨w.heap.size, 6, none⟩ = some (.int .i64 y5) ∧ w'.cell? ⟨w.heap.size, 7, none⟩ = some (.int .i64 y6) ∧ w'.cell? ⟨w.heap.size + 1, 0, none⟩ = some (.int .i64 n) ∧ w'.cell? ⟨w.heap.size + 1, 1, none⟩ = some (.int .i64 m) ∧ w'.cell? ⟨w.heap.size + 1, 2, none⟩ = some (.string s) ∧ w'.cell? ⟨w1.heap.size, 0, none⟩ = some (.int .u64 a0) ∧ w'.cell? ⟨w1.heap.size, 1, none⟩ = some (.int .u64 a1) ∧ w'.cell? ⟨w1.heap.size, 2, none⟩ = some (.int .u64 a2) ∧ w'.cell? ⟨w1.heap.size, 3, none⟩ = some (.int .u64 a3) ∧ w'.cell? ⟨w1.heap.size, 4, none⟩ = some (.int .u64 a4) ∧ w'.cell? ⟨w1.heap.size, 5, none⟩ = some (.int .u64 a5) ∧ w'.cell? ⟨w1.heap.size, 6, none⟩ = some (.int .u64 a6) ∧ w'.cell? ⟨w1.heap.size, 7, none⟩ = some (.int .u64 a7) ∧ w'.cell? ⟨w2.heap.size, 0, none⟩ = some (.int .u64 0) ∧ w'.cell? ⟨w2.heap.size, 1, none⟩ = some (.int .u64 0) ∧ w'.cell? ⟨w2.heap.size, 2, none⟩ = some (.int .u64 0) ∧ w'.cell? ⟨w2.heap.size, 3, none⟩ = some (.int .u64 0) ∧ w'.cell? ⟨w2.heap.size, 4, none⟩ = some (.int .u64 0) ∧ w'.cell? ⟨w2.heap.size, 5, none⟩ = some (.int .u64 0) ∧ w'.cell? ⟨w2.heap.size, 6, none⟩ = some (.int .u64 0) ∧ w'.cell? ⟨w2.heap.size, 7, none⟩ = some (.int .u64 0) ∧ w'.cell? ⟨R.heap.size, 0, none⟩ = some (.int .u64 0) ∧ w'.cell? ⟨R.heap.size, 1, none⟩ = some (.int .u64 0) ∧ w'.cell? ⟨R.heap.size, 2, none⟩ = some (.int .u64 0) ∧ w'.cell? ⟨R.heap.size, 3, none⟩ = some (.int .u64 0) ∧ w'.cell? ⟨R.heap.size, 4, none⟩ = some (.int .u64 0) ∧ w'.cell? ⟨R.heap.size, 5, none⟩ = some (.int .u64 0) ∧ w'.cell? ⟨R.heap.size, 6, none⟩ = some (.int .u64 0) ∧ w'.cell? ⟨R.heap.size, 7, none⟩ = some (.int .u64 0) := fun w' hq => ⟨((kM.below hq kM.lt).cell 0).trans rfl, ((kM.below hq kM.lt).cell 1).trans rfl, ((kM.below hq kM.lt).cell 2).trans rfl, ((kM.below hq kM.lt).cell 3).trans rfl, ((kM.below hq kM.lt).cell 4).trans rfl, ((kM.below hq kM.lt).cell 5).trans rfl, ((kM.below hq kM.lt).cell 6).trans rfl, ((kM.below hq kM.lt).cell 7).trans rfl, ((kE.below hq kE.lt).cell 0).trans rfl, ((kE.below hq kE.lt).cell 1).trans rfl, ((kE.below hq kE.lt).cell 2).trans rfl, ((q1.below hq q1.lt).cell 0).trans rfl, ((q1.below hq q1.lt).cell 1).trans rfl, ((q1.below hq q1.lt).cell 2).trans rfl, ((q1.below hq q1.lt).cell 3).trans rfl, ((q1.below hq q1.lt).cell 4).trans rfl, ((q1.below hq q1.lt).cell 5).trans rfl, ((q1.below hq q1.lt).cell 6).trans rfl, ((q1.below hq q1.lt).cell 7).trans rfl, ((q2.below hq q2.lt).cell 0).trans rfl, ((q2.below hq q2.lt).cell 1).trans rfl, ((q2.below hq q2.lt).cell 2).trans rfl, ((q2.below hq q2.lt).cell 3).trans rfl, ((q2.below hq q2.lt).cell 4).trans rfl, ((q2.below hq q2.lt).cell 5).trans rfl, ((q2.below hq q2.lt).cell 6).trans rfl, ((q2.below hq q2.lt).cell 7).trans rfl, ((q3.below hq q3.lt).cell 0).trans rfl, ((q3.below hq q3.lt).cell 1).trans rfl, ((q3.below hq q3.lt).cell 2).trans rfl, ((q3.below hq q3.lt).cell 3).trans rfl, ((q3.below hq q3.lt).cell 4).trans rfl, ((q3.below hq q3.lt).cell 5).trans rfl, ((q3.below hq q3.lt).cell 6).trans rfl, ((q3.below hq q3.lt).cell 7).trans rfl⟩
        have hq : Below Z.heap.size Z Z.drew := (Below.refl _ Z).drew
        have HB := Lib.hid hB
        clear kM kE q1 q2 q3 hB
        have HS := Lib.hid hS
        clear hS
        have hS0 := HS.out _ hq
        go_region_held3 (fun w' => w'.cell? ⟨w.heap.size, 0, none⟩ = some (.int .i64 y) ∧ w'.cell? ⟨w.heap.size, 1, none⟩ = some (.int .i64 y0) ∧ w'.cell? ⟨w.heap.size, 2, none⟩ = some (.int .i64 y1) ∧ w'.cell? ⟨w.heap.size, 3, none⟩ = some (.int .i64 y2) ∧ w'.cell? ⟨w.heap.size, 4, none⟩ = some (.int .i64 y3) ∧ w'.cell? ⟨w.heap.size, 5, none⟩ = some (.int .i64 y4) ∧ w'.cell? ⟨w.heap.size, 6, none⟩ = some (.int .i64 y5) ∧ w'.cell? ⟨w.heap.size, 7, none⟩ = some (.int .i64 y6) ∧ w'.cell? ⟨w.heap.size + 1, 0, none⟩ = some (.int .i64 n) ∧ w'.cell? ⟨w.heap.size + 1, 1, none⟩ = some (.int .i64 m) ∧ w'.cell? ⟨w.heap.size + 1, 2, none⟩ = some (.string s) ∧ w'.cell? ⟨w1.heap.size, 0, none⟩ = some (.int .u64 a0) ∧ w'.cell? ⟨w1.heap.size, 1, none⟩ = some (.int .u64 a1) ∧ w'.cell? ⟨w1.heap.size, 2, none⟩ = some (.int .u64 a2) ∧ w'.cell? ⟨w1.heap.size, 3, none⟩ = some (.int .u64 a3) ∧ w'.cell? ⟨w1.heap.size, 4, none⟩ = some (.int .u64 a4) ∧ w'.cell? ⟨w1.heap.size, 5, none⟩ = some (.int .u64 a5) ∧ w'.cell? ⟨w1.heap.size, 6, none⟩ = some (.int .u64 a6) ∧ w'.cell? ⟨w1.heap.size, 7, none⟩ = some (.int .u64 a7) ∧ w'.cell? ⟨w2.heap.size, 0, none⟩ = some (.int .u64 0) ∧ w'.cell? ⟨w2.heap.size, 1, none⟩ = some (.int .u64 0) ∧ w'.cell? ⟨w2.heap.size, 2, none⟩ = some (.int .u64 0) ∧ w'.cell? ⟨w2.heap.size, 3, none⟩ = some (.int .u64 0) ∧ w'.cell? ⟨w2.heap.size, 4, none⟩ = some (.int .u64 0) ∧ w'.cell? ⟨w2.heap.size, 5, none⟩ = some (.int .u64 0) ∧ w'.cell? ⟨w2.heap.size, 6, none⟩ = some (.int .u64 0) ∧ w'.cell? ⟨w2.heap.size, 7, none⟩ = some (.int .u64 0) ∧ w'.cell? ⟨R.heap.size, 0, none⟩ = some (.int .u64 0) ∧ w'.cell? ⟨R.heap.size, 1, none⟩ = some (.int .u64 0) ∧ w'.cell? ⟨R.heap.size, 2, none⟩ = some (.int .u64 0) ∧ w'.cell? ⟨R.heap.size, 3, none⟩ = some (.int .u64 0) ∧ w'.cell? ⟨R.heap.size, 4, none⟩ = some (.int .u64 0) ∧ w'.cell? ⟨R.heap.size, 5, none⟩ = some (.int .u64 0) ∧ w'.cell? ⟨R.heap.size, 6, none⟩ = some (.int .u64 0) ∧ w'.cell? ⟨R.heap.size, 7, none⟩ = some (.int .u64 0))
          (first | exact hS0 | exact HS.out _ hq | go_keep)
          (first
            | (go_at_call 18; ((with_reducible refine (G1.out _).mono ?_); rintro e w9 ⟨rfl, hb⟩); replace hq := hq.trans (hb.mono hq.size); clear hb; have hS0 := HS.out _ hq)
            | (go_at_call 19; ((with_reducible refine (O1.out _).mono ?_); rintro e w9 ⟨rfl, hb⟩); replace hq := hq.trans (hb.mono hq.size); clear hb; have hS0 := HS.out _ hq)
            | (go_at_call 15; ((with_reducible refine (O2.out _).mono ?_); rintro e w9 ⟨rfl, hb⟩); replace hq := hq.trans (hb.mono hq.size); clear hb; have hS0 := HS.out _ hq)
            | (go_at_call 17; ((with_reducible refine (P1.out _).mono ?_); rintro e w9 ⟨rfl, hb⟩); replace hq := hq.trans (hb.mono hq.size); clear hb; have hS0 := HS.out _ hq)
            | (go_at_call 17; ((with_reducible refine (P2.out _).mono ?_); rintro e w9 ⟨rfl, hb⟩); replace hq := hq.trans (hb.mono hq.size); clear hb; have hS0 := HS.out _ hq)
            | (go_at_call 8; ((with_reducible refine (works_any _).mono ?_); rintro e w9 ⟨rfl, hb⟩); replace hq := hq.trans (hb.mono hq.size); clear hb; have hS0 := HS.out _ hq))
        all_goals
          go_wp2
          go_ret
          exact ⟨rfl, HB.out.trans (hq.mono HB.out.size)⟩
      · by_cases z2 : 448 < z
        · have HC : Hid (chN z = 0 ∧ chE z = 2) := Lib.hid (by unfold chN chE chOk; rw [decide_eq_false (by omega : ¬ z ≤ 448), Bool.and_false]; exact ⟨rfl, rfl⟩)
          go_enter Try.func5, Try.ntmps5
          go_wp2_with (refine row_load (w.heap.size) 39 _ kM 39 _ rfl rfl rfl _ Try.underlying39 rfl (by kernel_rfl) ?_)
          refine (PutMap_any y y0 y1 y2 y3 y4 y5 y6 _).mono ?_
          rintro e w1 ⟨rfl, hb⟩
          rw [HM.out.1, HM.out.2]
          replace kM := kM.below hb kM.lt
          replace kE := kE.below hb kE.lt
          replace hB := hB.trans (hb.mono hB.size)
          clear hb
          have n1 := Blk.new w1 26 #[.int .u64 0, .int .u64 0, .int .u64 0, .int .u64 0, .int .u64 0, .int .u64 0, .int .u64 0, .int .u64 0]
          have q1 := n1.setRow #[.int .u64 a0, .int .u64 a1, .int .u64 a2, .int .u64 a3, .int .u64 a4, .int .u64 a5, .int .u64 a6, .int .u64 a7]
          have lkM := kM.lt
          replace kM := (kM.alloc (.cells #[.int .u64 0, .int .u64 0, .int .u64 0, .int .u64 0, .int .u64 0, .int .u64 0, .int .u64 0, .int .u64 0] 26)).farRow (g' := w1.heap.size) (by omega) #[.int .u64 a0, .int .u64 a1, .int .u64 a2, .int .u64 a3, .int .u64 a4, .int .u64 a5, .int .u64 a6, .int .u64 a7]
          clear lkM
          have lkE := kE.lt
          replace kE := (kE.alloc (.cells #[.int .u64 0, .int .u64 0, .int .u64 0, .int .u64 0, .int .u64 0, .int .u64 0, .int .u64 0, .int .u64 0] 26)).farRow (g' := w1.heap.size) (by omega) #[.int .u64 a0, .int .u64 a1, .int .u64 a2, .int .u64 a3, .int .u64 a4, .int .u64 a5, .int .u64 a6, .int .u64 a7]
          clear lkE
          replace hB := below_setRow (hB.alloc hB.size (.cells #[.int .u64 0, .int .u64 0, .int .u64 0, .int .u64 0, .int .u64 0, .int .u64 0, .int .u64 0, .int .u64 0] 26)) (g := w1.heap.size) hB.size #[.int .u64 a0, .int .u64 a1, .int .u64 a2, .int .u64 a3, .int .u64 a4, .int .u64 a5, .int .u64 a6, .int .u64 a7]
          go_wp2_with (refine row_store (w1.heap.size) 26 _ _ n1 26 _ _ rfl rfl rfl rfl (by kernel_rfl) rfl (by kernel_rfl) ?_)
          clear n1
          refine (Chunks_any z _).mono ?_
          rintro e w9 ⟨rfl, rfl⟩
          rw [HC.out.1, HC.out.2]
          go_wp2_with (first | (go_at_call 10; refine (num_any _ _).mono ?_; rintro e w' ⟨rfl, rfl⟩) | (refine row_load (w.heap.size + 1) 23 _ kE 23 _ rfl rfl rfl _ Try.underlying23 rfl (by kernel_rfl) ?_))
          refine (PutEntry_any n m s _).mono ?_
          rintro e w2 ⟨rfl, hb⟩
          rw [HE.out.1, HE.out.2]
          replace kM := kM.below hb kM.lt
          replace kE := kE.below hb kE.lt
          replace q1 := q1.below hb q1.lt
          replace hB := hB.trans (hb.mono hB.size)
          clear hb
          have n2 := Blk.new w2 26 #[.int .u64 0, .int .u64 0, .int .u64 0, .int .u64 0, .int .u64 0, .int .u64 0, .int .u64 0, .int .u64 0]
          have q2 := n2.setRow #[.int .u64 0, .int .u64 0, .int .u64 0, .int .u64 0, .int .u64 0, .int .u64 0, .int .u64 0, .int .u64 0]
          have lkM := kM.lt
          replace kM := (kM.alloc (.cells #[.int .u64 0, .int .u64 0, .int .u64 0, .int .u64 0, .int .u64 0, .int .u64 0, .int .u64 0, .int .u64 0] 26)).farRow (g' := w2.heap.size) (by omega) #[.int .u64 0, .int .u64 0, .int .u64 0, .int .u64 0, .int .u64 0, .int .u64 0, .int .u64 0, .int .u64 0]
          clear lkM
          have lkE := kE.lt
          replace kE := (kE.alloc (.cells #[.int .u64 0, .int .u64 0, .int .u64 0, .int .u64 0, .int .u64 0, .int .u64 0, .int .u64 0, .int .u64 0] 26)).farRow (g' := w2.heap.size) (by omega) #[.int .u64 0, .int .u64 0, .int .u64 0, .int .u64 0, .int .u64 0, .int .u64 0, .int .u64 0, .int .u64 0]
          clear lkE
          have lq1 := q1.lt
          replace q1 := (q1.alloc (.cells #[.int .u64 0, .int .u64 0, .int .u64 0, .int .u64 0, .int .u64 0, .int .u64 0, .int .u64 0, .int .u64 0] 26)).farRow (g' := w2.heap.size) (by omega) #[.int .u64 0, .int .u64 0, .int .u64 0, .int .u64 0, .int .u64 0, .int .u64 0, .int .u64 0, .int .u64 0]
          clear lq1
          replace hB := below_setRow (hB.alloc hB.size (.cells #[.int .u64 0, .int .u64 0, .int .u64 0, .int .u64 0, .int .u64 0, .int .u64 0, .int .u64 0, .int .u64 0] 26)) (g := w2.heap.size) hB.size #[.int .u64 0, .int .u64 0, .int .u64 0, .int .u64 0, .int .u64 0, .int .u64 0, .int .u64 0, .int .u64 0]
          generalize hR : (w2.alloc (.cells #[.int .u64 0, .int .u64 0, .int .u64 0, .int .u64 0, .int .u64 0, .int .u64 0, .int .u64 0, .int .u64 0] 26)).setRow w2.heap.size #[.int .u64 0, .int .u64 0, .int .u64 0, .int .u64 0, .int .u64 0, .int .u64 0, .int .u64 0, .int .u64 0] = R at *
          have HR := Lib.hid hR
          have lM := kM.lt
          have lE := kE.lt
          have l1 := q1.lt
          have l2 := q2.lt
          have HL := Lib.hid (And.intro lM (And.intro lE (And.intro l1 l2)))
          clear lM lE l1 l2
          have q3 := Blk.new R 26 #[.int .u64 0, .int .u64 0, .int .u64 0, .int .u64 0, .int .u64 0, .int .u64 0, .int .u64 0, .int .u64 0]
          replace kM := kM.alloc (.cells #[.int .u64 0, .int .u64 0, .int .u64 0, .int .u64 0, .int .u64 0, .int .u64 0, .int .u64 0, .int .u64 0] 26)
          replace kE := kE.alloc (.cells #[.int .u64 0, .int .u64 0, .int .u64 0, .int .u64 0, .int .u64 0, .int .u64 0, .int .u64 0, .int .u64 0] 26)
          replace q1 := q1.alloc (.cells #[.int .u64 0, .int .u64 0, .int .u64 0, .int .u64 0, .int .u64 0, .int .u64 0, .int .u64 0, .int .u64 0] 26)
          replace q2 := q2.alloc (.cells #[.int .u64 0, .int .u64 0, .int .u64 0, .int .u64 0, .int .u64 0, .int .u64 0, .int .u64 0, .int .u64 0] 26)
          replace hB := hB.alloc hB.size (.cells #[.int .u64 0, .int .u64 0, .int .u64 0, .int .u64 0, .int .u64 0, .int .u64 0, .int .u64 0, .int .u64 0] 26)
          clear hR
          go_wp2_with (first | ((refine row_store (w2.heap.size) 26 _ _ n2 26 _ _ rfl rfl rfl rfl (by kernel_rfl) rfl (by kernel_rfl) ?_); rw [HR.out]) | (refine row_load (w.heap.size + 1) 23 _ kE 23 _ rfl rfl rfl _ Try.underlying23 rfl (by kernel_rfl) ?_))
          refine (O2.out _).mono ?_
          rintro e w3 ⟨rfl, hb⟩
          replace kM := kM.below hb kM.lt
          replace kE := kE.below hb kE.lt
          replace q1 := q1.below hb q1.lt
          replace q2 := q2.below hb q2.lt
          replace q3 := q3.below hb q3.lt
          replace hB := hB.trans (hb.mono hB.size)
          clear hb
          clear n2
          go_wp2_with fail
          generalize w3 = Z at *
          have hS : ∀ w', Below Z.heap.size Z w' → w'.cell? ⟨w.heap.size, 0, none⟩ = some (.int .i64 y) ∧ w'.cell? ⟨w.heap.size, 1, none⟩ = some (.int .i64 y0) ∧ w'.cell? ⟨w.heap.size, 2, none⟩ = some (.int .i64 y1) ∧ w'.cell? ⟨w.heap.size, 3, none⟩ = some (.int .i64 y2) ∧ w'.cell? ⟨w.heap.size, 4, none⟩ = some (.int .i64 y3) ∧ w'.cell? ⟨w.heap.size, 5, none⟩ = some (.int .i64 y4) ∧ w'.cell? ⟨w.heap.size, 6, none⟩ = some (.int .i64 y5) ∧ w'.cell? ⟨w.heap.size, 7, none⟩ = some (.int .i64 y6) ∧ w'.cell? ⟨w.heap.size + 1, 0, none⟩ = some (.int .i64 n) ∧ w'.cell? ⟨w.heap.size + 1, 1, none⟩ = some (.int .i64 m) ∧ w'.cell? ⟨w.heap.size + 1, 2, none⟩ = some (.string s) ∧ w'.cell? ⟨w1.heap.size, 0, none⟩ = some (.int .u64 a0) ∧ w'.cell? ⟨w1.heap.size, 1, none⟩ = some (.int .u64 a1) ∧ w'.cell? ⟨w1.heap.size, 2, none⟩ = some (.int .u64 a2) ∧ w'.cell? ⟨w1.heap.size, 3, none⟩ = some (.int .u64 a3) ∧ w'.cell? ⟨w1.heap.size, 4, none⟩ = some (.int .u64 a4) ∧ w'.cell? ⟨w1.heap.size, 5, none⟩ = some (.int .u64 a5) ∧ w'.cell? ⟨w1.heap.size, 6, none⟩ = some (.int .u64 a6) ∧ w'.cell? ⟨w1.heap.size, 7, none⟩ = some (.int .u64 a7) ∧ w'.cell? ⟨w2.heap.size, 0, none⟩ = some (.int .u64 0) ∧ w'.cell? ⟨w2.heap.size, 1, none⟩ = some (.int .u64 0) ∧ w'.cell? ⟨w2.heap.size, 2, none⟩ = some (.int .u64 0) ∧ w'.cell? ⟨w2.heap.size, 3, none⟩ = some (.int .u64 0) ∧ w'.cell? ⟨w2.heap.size, 4, none⟩ = some (.int .u64 0) ∧ w'.cell? ⟨w2.heap.size, 5, none⟩ = some (.int .u64 0) ∧ w'.cell? ⟨w2.heap.size, 6, none⟩ = some (.int .u64 0) ∧ w'.cell? ⟨w2.heap.size, 7, none⟩ = some (.int .u64 0) ∧ w'.cell? ⟨R.heap.size, 0, none⟩ = some (.int .u64 0) ∧ w'.cell? ⟨R.heap.size, 1, none⟩ = some (.int .u64 0) ∧ w'.cell? ⟨R.heap.size, 2, none⟩ = some (.int .u64 0) ∧ w'.cell? ⟨R.heap.size, 3, none⟩ = some (.int .u64 0) ∧ w'.cell? ⟨R.heap.size, 4, none⟩ = some (.int .u64 0) ∧ w'.cell? ⟨R.heap.size, 5, none⟩ = some (.int .u64 0) ∧ w'.cell? ⟨R.heap.size, 6, none⟩ = some (.int .u64 0) ∧ w'.cell? ⟨R.heap.size, 7, none⟩ = some (.int .u64 0) := fun w' hq => ⟨((kM.below hq kM.lt).cell 0).trans rfl, ((kM.below hq kM.lt).cell 1).trans rfl, ((kM.below hq kM.lt).cell 2).trans rfl, ((kM.below hq kM.lt).cell 3).trans rfl, ((kM.below hq kM.lt).cell 4).trans rfl, ((kM.below hq kM.lt).cell 5).trans rfl, ((kM.below hq kM.lt).cell 6).trans rfl, ((kM.below hq kM.lt).cell 7).trans rfl, ((kE.below hq kE.lt).cell 0).trans rfl, ((kE.below hq kE.lt).cell 1).trans rfl, ((kE.below hq kE.lt).cell 2).trans rfl, ((q1.below hq q1.lt).cell 0).trans rfl, ((q1.below hq q1.lt).cell 1).trans rfl, ((q1.below hq q1.lt).cell 2).trans rfl, ((q1.below hq q1.lt).cell 3).trans rfl, ((q1.below hq q1.lt).cell 4).trans rfl, ((q1.below hq q1.lt).cell 5).trans rfl, ((q1.below hq q1.lt).cell 6).trans rfl, ((q1.below hq q1.lt).cell 7).trans rfl, ((q2.below hq q2.lt).cell 0).trans rfl, ((q2.below hq q2.lt).cell 1).trans rfl, ((q2.below hq q2.lt).cell 2).trans rfl, ((q2.below hq q2.lt).cell 3).trans rfl, ((q2.below hq q2.lt).cell 4).trans rfl, ((q2.below hq q2.lt).cell 5).trans rfl, ((q2.below hq q2.lt).cell 6).trans rfl, ((q2.below hq q2.lt).cell 7).trans rfl, ((q3.below hq q3.lt).cell 0).trans rfl, ((q3.below hq q3.lt).cell 1).trans rfl, ((q3.below hq q3.lt).cell 2).trans rfl, ((q3.below hq q3.lt).cell 3).trans rfl, ((q3.below hq q3.lt).cell 4).trans rfl, ((q3.below hq q3.lt).cell 5).trans rfl, ((q3.below hq q3.lt).cell 6).trans rfl, ((q3.below hq q3.lt).cell 7).trans rfl⟩
          have hq : Below Z.heap.size Z Z.drew := (Below.refl _ Z).drew
          have HB := Lib.hid hB
          clear kM kE q1 q2 q3 hB
          have HS := Lib.hid hS
          clear hS
          have hS0 := HS.out _ hq
          go_region_held3 (fun w' => w'.cell? ⟨w.heap.size, 0, none⟩ = some (.int .i64 y) ∧ w'.cell? ⟨w.heap.size, 1, none⟩ = some (.int .i64 y0) ∧ w'.cell? ⟨w.heap.size, 2, none⟩ = some (.int .i64 y1) ∧ w'.cell? ⟨w.heap.size, 3, none⟩ = some (.int .i64 y2) ∧ w'.cell? ⟨w.heap.size, 4, none⟩ = some (.int .i64 y3) ∧ w'.cell? ⟨w.heap.size, 5, none⟩ = some (.int .i64 y4) ∧ w'.cell? ⟨w.heap.size, 6, none⟩ = some (.int .i64 y5) ∧ w'.cell? ⟨w.heap.size, 7, none⟩ = some (.int .i64 y6) ∧ w'.cell? ⟨w.heap.size + 1, 0, none⟩ = some (.int .i64 n) ∧ w'.cell? ⟨w.heap.size + 1, 1, none⟩ = some (.int .i64 m) ∧ w'.cell? ⟨w.heap.size + 1, 2, none⟩ = some (.string s) ∧ w'.cell? ⟨w1.heap.size, 0, none⟩ = some (.int .u64 a0) ∧ w'.cell? ⟨w1.heap.size, 1, none⟩ = some (.int .u64 a1) ∧ w'.cell? ⟨w1.heap.size, 2, none⟩ = some (.int .u64 a2) ∧ w'.cell? ⟨w1.heap.size, 3, none⟩ = some (.int .u64 a3) ∧ w'.cell? ⟨w1.heap.size, 4, none⟩ = some (.int .u64 a4) ∧ w'.cell? ⟨w1.heap.size, 5, none⟩ = some (.int .u64 a5) ∧ w'.cell? ⟨w1.heap.size, 6, none⟩ = some (.int .u64 a6) ∧ w'.cell? ⟨w1.heap.size, 7, none⟩ = some (.int .u64 a7) ∧ w'.cell? ⟨w2.heap.size, 0, none⟩ = some (.int .u64 0) ∧ w'.cell? ⟨w2.heap.size, 1, none⟩ = some (.int .u64 0) ∧ w'.cell? ⟨w2.heap.size, 2, none⟩ = some (.int .u64 0) ∧ w'.cell? ⟨w2.heap.size, 3, none⟩ = some (.int .u64 0) ∧ w'.cell? ⟨w2.heap.size, 4, none⟩ = some (.int .u64 0) ∧ w'.cell? ⟨w2.heap.size, 5, none⟩ = some (.int .u64 0) ∧ w'.cell? ⟨w2.heap.size, 6, none⟩ = some (.int .u64 0) ∧ w'.cell? ⟨w2.heap.size, 7, none⟩ = some (.int .u64 0) ∧ w'.cell? ⟨R.heap.size, 0, none⟩ = some (.int .u64 0) ∧ w'.cell? ⟨R.heap.size, 1, none⟩ = some (.int .u64 0) ∧ w'.cell? ⟨R.heap.size, 2, none⟩ = some (.int .u64 0) ∧ w'.cell? ⟨R.heap.size, 3, none⟩ = some (.int .u64 0) ∧ w'.cell? ⟨R.heap.size, 4, none⟩ = some (.int .u64 0) ∧ w'.cell? ⟨R.heap.size, 5, none⟩ = some (.int .u64 0) ∧ w'.cell? ⟨R.heap.size, 6, none⟩ = some (.int .u64 0) ∧ w'.cell? ⟨R.heap.size, 7, none⟩ = some (.int .u64 0))
            (first | exact hS0 | exact HS.out _ hq | go_keep)
            (first
              | (go_at_call 18; ((with_reducible refine (G1.out _).mono ?_); rintro e w9 ⟨rfl, hb⟩); replace hq := hq.trans (hb.mono hq.size); clear hb; have hS0 := HS.out _ hq)
              | (go_at_call 19; ((with_reducible refine (O1.out _).mono ?_); rintro e w9 ⟨rfl, hb⟩); replace hq := hq.trans (hb.mono hq.size); clear hb; have hS0 := HS.out _ hq)
              | (go_at_call 15; ((with_reducible refine (O2.out _).mono ?_); rintro e w9 ⟨rfl, hb⟩); replace hq := hq.trans (hb.mono hq.size); clear hb; have hS0 := HS.out _ hq)
              | (go_at_call 17; ((with_reducible refine (P1.out _).mono ?_); rintro e w9 ⟨rfl, hb⟩); replace hq := hq.trans (hb.mono hq.size); clear hb; have hS0 := HS.out _ hq)
              | (go_at_call 17; ((with_reducible refine (P2.out _).mono ?_); rintro e w9 ⟨rfl, hb⟩); replace hq := hq.trans (hb.mono hq.size); clear hb; have hS0 := HS.out _ hq)
              | (go_at_call 8; ((with_reducible refine (works_any _).mono ?_); rintro e w9 ⟨rfl, hb⟩); replace hq := hq.trans (hb.mono hq.size); clear hb; have hS0 := HS.out _ hq))
          all_goals
            go_wp2
            go_ret
            exact ⟨rfl, HB.out.trans (hq.mono HB.out.size)⟩
        · have hch : chOk z = true := by unfold chOk; rw [decide_eq_true (by omega : 0 ≤ z), decide_eq_true (by omega : z ≤ 448)]; rfl
          obtain ⟨q, hq0⟩ : ∃ q, chN z = q := ⟨_, rfl⟩
          have HC : Hid (chN z = q ∧ chE z = 0) := Lib.hid ⟨hq0, by unfold chE; rw [if_pos hch]⟩
          have HRC := rChunks_any z hch
          rw [hq0] at HRC
          have HRC := Lib.hid HRC
          have hqq : (q != q) = false := by simp
          clear hch hq0
          go_enter Try.func5, Try.ntmps5
          go_wp2_with (refine row_load (w.heap.size) 39 _ kM 39 _ rfl rfl rfl _ Try.underlying39 rfl (by kernel_rfl) ?_)
          refine (PutMap_any y y0 y1 y2 y3 y4 y5 y6 _).mono ?_
          rintro e w1 ⟨rfl, hb⟩
          rw [HM.out.1, HM.out.2]
          replace kM := kM.below hb kM.lt
          replace kE := kE.below hb kE.lt
          replace hB := hB.trans (hb.mono hB.size)
          clear hb
          have n1 := Blk.new w1 26 #[.int .u64 0, .int .u64 0, .int .u64 0, .int .u64 0, .int .u64 0, .int .u64 0, .int .u64 0, .int .u64 0]
          have q1 := n1.setRow #[.int .u64 a0, .int .u64 a1, .int .u64 a2, .int .u64 a3, .int .u64 a4, .int .u64 a5, .int .u64 a6, .int .u64 a7]
          have lkM := kM.lt
          replace kM := (kM.alloc (.cells #[.int .u64 0, .int .u64 0, .int .u64 0, .int .u64 0, .int .u64 0, .int .u64 0, .int .u64 0, .int .u64 0] 26)).farRow (g' := w1.heap.size) (by omega) #[.int .u64 a0, .int .u64 a1, .int .u64 a2, .int .u64 a3, .int .u64 a4, .int .u64 a5, .int .u64 a6, .int .u64 a7]
          clear lkM
          have lkE := kE.lt
          replace kE := (kE.alloc (.cells #[.int .u64 0, .int .u64 0, .int .u64 0, .int .u64 0, .int .u64 0, .int .u64 0, .int .u64 0, .int .u64 0] 26)).farRow (g' := w1.heap.size) (by omega) #[.int .u64 a0, .int .u64 a1, .int .u64 a2, .int .u64 a3, .int .u64 a4, .int .u64 a5, .int .u64 a6, .int .u64 a7]
          clear lkE
          replace hB := below_setRow (hB.alloc hB.size (.cells #[.int .u64 0, .int .u64 0, .int .u64 0, .int .u64 0, .int .u64 0, .int .u64 0, .int .u64 0, .int .u64 0] 26)) (g := w1.heap.size) hB.size #[.int .u64 a0, .int .u64 a1, .int .u64 a2, .int .u64 a3, .int .u64 a4, .int .u64 a5, .int .u64 a6, .int .u64 a7]
          go_wp2_with (refine row_store (w1.heap.size) 26 _ _ n1 26 _ _ rfl rfl rfl rfl (by kernel_rfl) rfl (by kernel_rfl) ?_)
          clear n1
          refine (Chunks_any z _).mono ?_
          rintro e w9 ⟨rfl, rfl⟩
          rw [HC.out.1, HC.out.2]
          go_wp2_with (first | (go_at_call 10; refine (num_any _ _).mono ?_; rintro e w' ⟨rfl, rfl⟩) | (go_at_call 14; refine (HRC.out _).mono ?_; rintro e w' ⟨rfl, rfl⟩) | (refine row_load (w.heap.size + 1) 23 _ kE 23 _ rfl rfl rfl _ Try.underlying23 rfl (by kernel_rfl) ?_))
          refine (PutEntry_any n m s _).mono ?_
          rintro e w2 ⟨rfl, hb⟩
          rw [HE.out.1, HE.out.2]
          replace kM := kM.below hb kM.lt
          replace kE := kE.below hb kE.lt
          replace q1 := q1.below hb q1.lt
          replace hB := hB.trans (hb.mono hB.size)
          clear hb
          have n2 := Blk.new w2 26 #[.int .u64 0, .int .u64 0, .int .u64 0, .int .u64 0, .int .u64 0, .int .u64 0, .int .u64 0, .int .u64 0]
          have q2 := n2.setRow #[.int .u64 0, .int .u64 0, .int .u64 0, .int .u64 0, .int .u64 0, .int .u64 0, .int .u64 0, .int .u64 0]
          have lkM := kM.lt
          replace kM := (kM.alloc (.cells #[.int .u64 0, .int .u64 0, .int .u64 0, .int .u64 0, .int .u64 0, .int .u64 0, .int .u64 0, .int .u64 0] 26)).farRow (g' := w2.heap.size) (by omega) #[.int .u64 0, .int .u64 0, .int .u64 0, .int .u64 0, .int .u64 0, .int .u64 0, .int .u64 0, .int .u64 0]
          clear lkM
          have lkE := kE.lt
          replace kE := (kE.alloc (.cells #[.int .u64 0, .int .u64 0, .int .u64 0, .int .u64 0, .int .u64 0, .int .u64 0, .int .u64 0, .int .u64 0] 26)).farRow (g' := w2.heap.size) (by omega) #[.int .u64 0, .int .u64 0, .int .u64 0, .int .u64 0, .int .u64 0, .int .u64 0, .int .u64 0, .int .u64 0]
          clear lkE
          have lq1 := q1.lt
          replace q1 := (q1.alloc (.cells #[.int .u64 0, .int .u64 0, .int .u64 0, .int .u64 0, .int .u64 0, .int .u64 0, .int .u64 0, .int .u64 0] 26)).farRow (g' := w2.heap.size) (by omega) #[.int .u64 0, .int .u64 0, .int .u64 0, .int .u64 0, .int .u64 0, .int .u64 0, .int .u64 0, .int .u64 0]
          clear lq1
          replace hB := below_setRow (hB.alloc hB.size (.cells #[.int .u64 0, .int .u64 0, .int .u64 0, .int .u64 0, .int .u64 0, .int .u64 0, .int .u64 0, .int .u64 0] 26)) (g := w2.heap.size) hB.size #[.int .u64 0, .int .u64 0, .int .u64 0, .int .u64 0, .int .u64 0, .int .u64 0, .int .u64 0, .int .u64 0]
          generalize hR : (w2.alloc (.cells #[.int .u64 0, .int .u64 0, .int .u64 0, .int .u64 0, .int .u64 0, .int .u64 0, .int .u64 0, .int .u64 0] 26)).setRow w2.heap.size #[.int .u64 0, .int .u64 0, .int .u64 0, .int .u64 0, .int .u64 0, .int .u64 0, .int .u64 0, .int .u64 0] = R at *
          have HR := Lib.hid hR
          have lM := kM.lt
          have lE := kE.lt
          have l1 := q1.lt
          have l2 := q2.lt
          have HL := Lib.hid (And.intro lM (And.intro lE (And.intro l1 l2)))
          clear lM lE l1 l2
          have q3 := Blk.new R 26 #[.int .u64 0, .int .u64 0, .int .u64 0, .int .u64 0, .int .u64 0, .int .u64 0, .int .u64 0, .int .u64 0]
          replace kM := kM.alloc (.cells #[.int .u64 0, .int .u64 0, .int .u64 0, .int .u64 0, .int .u64 0, .int .u64 0, .int .u64 0, .int .u64 0] 26)
          replace kE := kE.alloc (.cells #[.int .u64 0, .int .u64 0, .int .u64 0, .int .u64 0, .int .u64 0, .int .u64 0, .int .u64 0, .int .u64 0] 26)
          replace q1 := q1.alloc (.cells #[.int .u64 0, .int .u64 0, .int .u64 0, .int .u64 0, .int .u64 0, .int .u64 0, .int .u64 0, .int .u64 0] 26)
          replace q2 := q2.alloc (.cells #[.int .u64 0, .int .u64 0, .int .u64 0, .int .u64 0, .int .u64 0, .int .u64 0, .int .u64 0, .int .u64 0] 26)
          replace hB := hB.alloc hB.size (.cells #[.int .u64 0, .int .u64 0, .int .u64 0, .int .u64 0, .int .u64 0, .int .u64 0, .int .u64 0, .int .u64 0] 26)
          clear hR
          go_wp2_with (first | ((refine row_store (w2.heap.size) 26 _ _ n2 26 _ _ rfl rfl rfl rfl (by kernel_rfl) rfl (by kernel_rfl) ?_); rw [HR.out]) | (refine row_load (w.heap.size + 1) 23 _ kE 23 _ rfl rfl rfl _ Try.underlying23 rfl (by kernel_rfl) ?_))
          refine (O2.out _).mono ?_
          rintro e w3 ⟨rfl, hb⟩
          replace kM := kM.below hb kM.lt
          replace kE := kE.below hb kE.lt
          replace q1 := q1.below hb q1.lt
          replace q2 := q2.below hb q2.lt
          replace q3 := q3.below hb q3.lt
          replace hB := hB.trans (hb.mono hB.size)
          clear hb
          clear n2
          go_wp2_with fail
          generalize w3 = Z at *
          have hS : ∀ w', Below Z.heap.size Z w' → w'.cell? ⟨w.heap.size, 0, none⟩ = some (.int .i64 y) ∧ w'.cell? ⟨w.heap.size, 1, none⟩ = some (.int .i64 y0) ∧ w'.cell? ⟨w.heap.size, 2, none⟩ = some (.int .i64 y1) ∧ w'.cell? ⟨w.heap.size, 3, none⟩ = some (.int .i64 y2) ∧ w'.cell? ⟨w.heap.size, 4, none⟩ = some (.int .i64 y3) ∧ w'.cell? ⟨w.heap.size, 5, none⟩ = some (.int .i64 y4) ∧ w'.cell? ⟨w.heap.size, 6, none⟩ = some (.int .i64 y5) ∧ w'.cell? ⟨w.heap.size, 7, none⟩ = some (.int .i64 y6) ∧ w'.cell? ⟨w.heap.size + 1, 0, none⟩ = some (.int .i64 n) ∧ w'.cell? ⟨w.heap.size + 1, 1, none⟩ = some (.int .i64 m) ∧ w'.cell? ⟨w.heap.size + 1, 2, none⟩ = some (.string s) ∧ w'.cell? ⟨w1.heap.size, 0, none⟩ = some (.int .u64 a0) ∧ w'.cell? ⟨w1.heap.size, 1, none⟩ = some (.int .u64 a1) ∧ w'.cell? ⟨w1.heap.size, 2, none⟩ = some (.int .u64 a2) ∧ w'.cell? ⟨w1.heap.size, 3, none⟩ = some (.int .u64 a3) ∧ w'.cell? ⟨w1.heap.size, 4, none⟩ = some (.int .u64 a4) ∧ w'.cell? ⟨w1.heap.size, 5, none⟩ = some (.int .u64 a5) ∧ w'.cell? ⟨w1.heap.size, 6, none⟩ = some (.int .u64 a6) ∧ w'.cell? ⟨w1.heap.size, 7, none⟩ = some (.int .u64 a7) ∧ w'.cell? ⟨w2.heap.size, 0, none⟩ = some (.int .u64 0) ∧ w'.cell? ⟨w2.heap.size, 1, none⟩ = some (.int .u64 0) ∧ w'.cell? ⟨w2.heap.size, 2, none⟩ = some (.int .u64 0) ∧ w'.cell? ⟨w2.heap.size, 3, none⟩ = some (.int .u64 0) ∧ w'.cell? ⟨w2.heap.size, 4, none⟩ = some (.int .u64 0) ∧ w'.cell? ⟨w2.heap.size, 5, none⟩ = some (.int .u64 0) ∧ w'.cell? ⟨w2.heap.size, 6, none⟩ = some (.int .u64 0) ∧ w'.cell? ⟨w2.heap.size, 7, none⟩ = some (.int .u64 0) ∧ w'.cell? ⟨R.heap.size, 0, none⟩ = some (.int .u64 0) ∧ w'.cell? ⟨R.heap.size, 1, none⟩ = some (.int .u64 0) ∧ w'.cell? ⟨R.heap.size, 2, none⟩ = some (.int .u64 0) ∧ w'.cell? ⟨R.heap.size, 3, none⟩ = some (.int .u64 0) ∧ w'.cell? ⟨R.heap.size, 4, none⟩ = some (.int .u64 0) ∧ w'.cell? ⟨R.heap.size, 5, none⟩ = some (.int .u64 0) ∧ w'.cell? ⟨R.heap.size, 6, none⟩ = some (.int .u64 0) ∧ w'.cell? ⟨R.heap.size, 7, none⟩ = some (.int .u64 0) := fun w' hq => ⟨((kM.below hq kM.lt).cell 0).trans rfl, ((kM.below hq kM.lt).cell 1).trans rfl, ((kM.below hq kM.lt).cell 2).trans rfl, ((kM.below hq kM.lt).cell 3).trans rfl, ((kM.below hq kM.lt).cell 4).trans rfl, ((kM.below hq kM.lt).cell 5).trans rfl, ((kM.below hq kM.lt).cell 6).trans rfl, ((kM.below hq kM.lt).cell 7).trans rfl, ((kE.below hq kE.lt).cell 0).trans rfl, ((kE.below hq kE.lt).cell 1).trans rfl, ((kE.below hq kE.lt).cell 2).trans rfl, ((q1.below hq q1.lt).cell 0).trans rfl, ((q1.below hq q1.lt).cell 1).trans rfl, ((q1.below hq q1.lt).cell 2).trans rfl, ((q1.below hq q1.lt).cell 3).trans rfl, ((q1.below hq q1.lt).cell 4).trans rfl, ((q1.below hq q1.lt).cell 5).trans rfl, ((q1.below hq q1.lt).cell 6).trans rfl, ((q1.below hq q1.lt).cell 7).trans rfl, ((q2.below hq q2.lt).cell 0).trans rfl, ((q2.below hq q2.lt).cell 1).trans rfl, ((q2.below hq q2.lt).cell 2).trans rfl, ((q2.below hq q2.lt).cell 3).trans rfl, ((q2.below hq q2.lt).cell 4).trans rfl, ((q2.below hq q2.lt).cell 5).trans rfl, ((q2.below hq q2.lt).cell 6).trans rfl, ((q2.below hq q2.lt).cell 7).trans rfl, ((q3.below hq q3.lt).cell 0).trans rfl, ((q3.below hq q3.lt).cell 1).trans rfl, ((q3.below hq q3.lt).cell 2).trans rfl, ((q3.below hq q3.lt).cell 3).trans rfl, ((q3.below hq q3.lt).cell 4).trans rfl, ((q3.below hq q3.lt).cell 5).trans rfl, ((q3.below hq q3.lt).cell 6).trans rfl, ((q3.below hq q3.lt).cell 7).trans rfl⟩
          have hq : Below Z.heap.size Z Z.drew := (Below.refl _ Z).drew
          have HB := Lib.hid hB
          clear kM kE q1 q2 q3 hB
          have HS := Lib.hid hS
          clear hS
          have hS0 := HS.out _ hq
          go_region_held3 (fun w' => w'.cell? ⟨w.heap.size, 0, none⟩ = some (.int .i64 y) ∧ w'.cell? ⟨w.heap.size, 1, none⟩ = some (.int .i64 y0) ∧ w'.cell? ⟨w.heap.size, 2, none⟩ = some (.int .i64 y1) ∧ w'.cell? ⟨w.heap.size, 3, none⟩ = some (.int .i64 y2) ∧ w'.cell? ⟨w.heap.size, 4, none⟩ = some (.int .i64 y3) ∧ w'.cell? ⟨w.heap.size, 5, none⟩ = some (.int .i64 y4) ∧ w'.cell? ⟨w.heap.size, 6, none⟩ = some (.int .i64 y5) ∧ w'.cell? ⟨w.heap.size, 7, none⟩ = some (.int .i64 y6) ∧ w'.cell? ⟨w.heap.size + 1, 0, none⟩ = some (.int .i64 n) ∧ w'.cell? ⟨w.heap.size + 1, 1, none⟩ = some (.int .i64 m) ∧ w'.cell? ⟨w.heap.size + 1, 2, none⟩ = some (.string s) ∧ w'.cell? ⟨w1.heap.size, 0, none⟩ = some (.int .u64 a0) ∧ w'.cell? ⟨w1.heap.size, 1, none⟩ = some (.int .u64 a1) ∧ w'.cell? ⟨w1.heap.size, 2, none⟩ = some (.int .u64 a2) ∧ w'.cell? ⟨w1.heap.size, 3, none⟩ = some (.int .u64 a3) ∧ w'.cell? ⟨w1.heap.size, 4, none⟩ = some (.int .u64 a4) ∧ w'.cell? ⟨w1.heap.size, 5, none⟩ = some (.int .u64 a5) ∧ w'.cell? ⟨w1.heap.size, 6, none⟩ = some (.int .u64 a6) ∧ w'.cell? ⟨w1.heap.size, 7, none⟩ = some (.int .u64 a7) ∧ w'.cell? ⟨w2.heap.size, 0, none⟩ = some (.int .u64 0) ∧ w'.cell? ⟨w2.heap.size, 1, none⟩ = some (.int .u64 0) ∧ w'.cell? ⟨w2.heap.size, 2, none⟩ = some (.int .u64 0) ∧ w'.cell? ⟨w2.heap.size, 3, none⟩ = some (.int .u64 0) ∧ w'.cell? ⟨w2.heap.size, 4, none⟩ = some (.int .u64 0) ∧ w'.cell? ⟨w2.heap.size, 5, none⟩ = some (.int .u64 0) ∧ w'.cell? ⟨w2.heap.size, 6, none⟩ = some (.int .u64 0) ∧ w'.cell? ⟨w2.heap.size, 7, none⟩ = some (.int .u64 0) ∧ w'.cell? ⟨R.heap.size, 0, none⟩ = some (.int .u64 0) ∧ w'.cell? ⟨R.heap.size, 1, none⟩ = some (.int .u64 0) ∧ w'.cell? ⟨R.heap.size, 2, none⟩ = some (.int .u64 0) ∧ w'.cell? ⟨R.heap.size, 3, none⟩ = some (.int .u64 0) ∧ w'.cell? ⟨R.heap.size, 4, none⟩ = some (.int .u64 0) ∧ w'.cell? ⟨R.heap.size, 5, none⟩ = some (.int .u64 0) ∧ w'.cell? ⟨R.heap.size, 6, none⟩ = some (.int .u64 0) ∧ w'.cell? ⟨R.heap.size, 7, none⟩ = some (.int .u64 0))
            (first | exact hS0 | exact HS.out _ hq | go_keep)
            (first
              | (go_at_call 18; ((with_reducible refine (G1.out _).mono ?_); rintro e w9 ⟨rfl, hb⟩); replace hq := hq.trans (hb.mono hq.size); clear hb; have hS0 := HS.out _ hq)
              | (go_at_call 19; ((with_reducible refine (O1.out _).mono ?_); rintro e w9 ⟨rfl, hb⟩); replace hq := hq.trans (hb.mono hq.size); clear hb; have hS0 := HS.out _ hq)
              | (go_at_call 15; ((with_reducible refine (O2.out _).mono ?_); rintro e w9 ⟨rfl, hb⟩); replace hq := hq.trans (hb.mono hq.size); clear hb; have hS0 := HS.out _ hq)
              | (go_at_call 17; ((with_reducible refine (P1.out _).mono ?_); rintro e w9 ⟨rfl, hb⟩); replace hq := hq.trans (hb.mono hq.size); clear hb; have hS0 := HS.out _ hq)
              | (go_at_call 17; ((with_reducible refine (P2.out _).mono ?_); rintro e w9 ⟨rfl, hb⟩); replace hq := hq.trans (hb.mono hq.size); clear hb; have hS0 := HS.out _ hq)
              | (go_at_call 8; ((with_reducible refine (works_any _).mono ?_); rintro e w9 ⟨rfl, hb⟩); replace hq := hq.trans (hb.mono hq.size); clear hb; have hS0 := HS.out _ hq))
          all_goals
            go_wp2
            go_ret
            exact ⟨rfl, HB.out.trans (hq.mono HB.out.size)⟩
    · have G2 := rEntryP_any n m s ho2
      rw [hBv, he2, ho2] at P2
      rw [ho2] at O2
      rw [hBv] at G2
      have HE := Lib.hid (And.intro hBv he2)
      have P2 := Lib.hid P2
      have O2 := Lib.hid O2
      have G2 := Lib.hid G2
      clear hBv hz he2 ho2
      by_cases z1 : z < 0
      · have HC : Hid (chN z = 0 ∧ chE z = 2) := Lib.hid (by unfold chN chE chOk; rw [decide_eq_false (by omega : ¬ 0 ≤ z)]; exact ⟨rfl, rfl⟩)
        go_enter Try.func5, Try.ntmps5
        go_wp2_with (refine row_load (w.heap.size) 39 _ kM 39 _ rfl rfl rfl _ Try.underlying39 rfl (by kernel_rfl) ?_)
        refine (PutMap_any y y0 y1 y2 y3 y4 y5 y6 _).mono ?_
        rintro e w1 ⟨rfl, hb⟩
        rw [HM.out.1, HM.out.2]
        replace kM := kM.below hb kM.lt
        replace kE := kE.below hb kE.lt
        replace hB := hB.trans (hb.mono hB.size)
        clear hb
        have n1 := Blk.new w1 26 #[.int .u64 0, .int .u64 0, .int .u64 0, .int .u64 0, .int .u64 0, .int .u64 0, .int .u64 0, .int .u64 0]
        have q1 := n1.setRow #[.int .u64 a0, .int .u64 a1, .int .u64 a2, .int .u64 a3, .int .u64 a4, .int .u64 a5, .int .u64 a6, .int .u64 a7]
        have lkM := kM.lt
        replace kM := (kM.alloc (.cells #[.int .u64 0, .int .u64 0, .int .u64 0, .int .u64 0, .int .u64 0, .int .u64 0, .int .u64 0, .int .u64 0] 26)).farRow (g' := w1.heap.size) (by omega) #[.int .u64 a0, .int .u64 a1, .int .u64 a2, .int .u64 a3, .int .u64 a4, .int .u64 a5, .int .u64 a6, .int .u64 a7]
        clear lkM
        have lkE := kE.lt
        replace kE := (kE.alloc (.cells #[.int .u64 0, .int .u64 0, .int .u64 0, .int .u64 0, .int .u64 0, .int .u64 0, .int .u64 0, .int .u64 0] 26)).farRow (g' := w1.heap.size) (by omega) #[.int .u64 a0, .int .u64 a1, .int .u64 a2, .int .u64 a3, .int .u64 a4, .int .u64 a5, .int .u64 a6, .int .u64 a7]
        clear lkE
        replace hB := below_setRow (hB.alloc hB.size (.cells #[.int .u64 0, .int .u64 0, .int .u64 0, .int .u64 0, .int .u64 0, .int .u64 0, .int .u64 0, .int .u64 0] 26)) (g := w1.heap.size) hB.size #[.int .u64 a0, .int .u64 a1, .int .u64 a2, .int .u64 a3, .int .u64 a4, .int .u64 a5, .int .u64 a6, .int .u64 a7]
        go_wp2_with (refine row_store (w1.heap.size) 26 _ _ n1 26 _ _ rfl rfl rfl rfl (by kernel_rfl) rfl (by kernel_rfl) ?_)
        clear n1
        refine (Chunks_any z _).mono ?_
        rintro e w9 ⟨rfl, rfl⟩
        rw [HC.out.1, HC.out.2]
        go_wp2_with (first | (go_at_call 10; refine (num_any _ _).mono ?_; rintro e w' ⟨rfl, rfl⟩) | (refine row_load (w.heap.size + 1) 23 _ kE 23 _ rfl rfl rfl _ Try.underlying23 rfl (by kernel_rfl) ?_))
        refine (PutEntry_any n m s _).mono ?_
        rintro e w2 ⟨rfl, hb⟩
        rw [HE.out.1, HE.out.2]
        replace kM := kM.below hb kM.lt
        replace kE := kE.below hb kE.lt
        replace q1 := q1.below hb q1.lt
        replace hB := hB.trans (hb.mono hB.size)
        clear hb
        have n2 := Blk.new w2 26 #[.int .u64 0, .int .u64 0, .int .u64 0, .int .u64 0, .int .u64 0, .int .u64 0, .int .u64 0, .int .u64 0]
        have q2 := n2.setRow #[.int .u64 b0, .int .u64 b1, .int .u64 b2, .int .u64 b3, .int .u64 b4, .int .u64 b5, .int .u64 b6, .int .u64 b7]
        have lkM := kM.lt
        replace kM := (kM.alloc (.cells #[.int .u64 0, .int .u64 0, .int .u64 0, .int .u64 0, .int .u64 0, .int .u64 0, .int .u64 0, .int .u64 0] 26)).farRow (g' := w2.heap.size) (by omega) #[.int .u64 b0, .int .u64 b1, .int .u64 b2, .int .u64 b3, .int .u64 b4, .int .u64 b5, .int .u64 b6, .int .u64 b7]
        clear lkM
        have lkE := kE.lt
        replace kE := (kE.alloc (.cells #[.int .u64 0, .int .u64 0, .int .u64 0, .int .u64 0, .int .u64 0, .int .u64 0, .int .u64 0, .int .u64 0] 26)).farRow (g' := w2.heap.size) (by omega) #[.int .u64 b0, .int .u64 b1, .int .u64 b2, .int .u64 b3, .int .u64 b4, .int .u64 b5, .int .u64 b6, .int .u64 b7]
        clear lkE
        have lq1 := q1.lt
        replace q1 := (q1.alloc (.cells #[.int .u64 0, .int .u64 0, .int .u64 0, .int .u64 0, .int .u64 0, .int .u64 0, .int .u64 0, .int .u64 0] 26)).farRow (g' := w2.heap.size) (by omega) #[.int .u64 b0, .int .u64 b1, .int .u64 b2, .int .u64 b3, .int .u64 b4, .int .u64 b5, .int .u64 b6, .int .u64 b7]
        clear lq1
        replace hB := below_setRow (hB.alloc hB.size (.cells #[.int .u64 0, .int .u64 0, .int .u64 0, .int .u64 0, .int .u64 0, .int .u64 0, .int .u64 0, .int .u64 0] 26)) (g := w2.heap.size) hB.size #[.int .u64 b0, .int .u64 b1, .int .u64 b2, .int .u64 b3, .int .u64 b4, .int .u64 b5, .int .u64 b6, .int .u64 b7]
        generalize hR : (w2.alloc (.cells #[.int .u64 0, .int .u64 0, .int .u64 0, .int .u64 0, .int .u64 0, .int .u64 0, .int .u64 0, .int .u64 0] 26)).setRow w2.heap.size #[.int .u64 b0, .int .u64 b1, .int .u64 b2, .int .u64 b3, .int .u64 b4, .int .u64 b5, .int .u64 b6, .int .u64 b7] = R at *
        have HR := Lib.hid hR
        have lM := kM.lt
        have lE := kE.lt
        have l1 := q1.lt
        have l2 := q2.lt
        have HL := Lib.hid (And.intro lM (And.intro lE (And.intro l1 l2)))
        clear lM lE l1 l2
        have q3 := Blk.new R 26 #[.int .u64 0, .int .u64 0, .int .u64 0, .int .u64 0, .int .u64 0, .int .u64 0, .int .u64 0, .int .u64 0]
        replace kM := kM.alloc (.cells #[.int .u64 0, .int .u64 0, .int .u64 0, .int .u64 0, .int .u64 0, .int .u64 0, .int .u64 0, .int .u64 0] 26)
        replace kE := kE.alloc (.cells #[.int .u64 0, .int .u64 0, .int .u64 0, .int .u64 0, .int .u64 0, .int .u64 0, .int .u64 0, .int .u64 0] 26)
        replace q1 := q1.alloc (.cells #[.int .u64 0, .int .u64 0, .int .u64 0, .int .u64 0, .int .u64 0, .int .u64 0, .int .u64 0, .int .u64 0] 26)
        replace q2 := q2.alloc (.cells #[.int .u64 0, .int .u64 0, .int .u64 0, .int .u64 0, .int .u64 0, .int .u64 0, .int .u64 0, .int .u64 0] 26)
        replace hB := hB.alloc hB.size (.cells #[.int .u64 0, .int .u64 0, .int .u64 0, .int .u64 0, .int .u64 0, .int .u64 0, .int .u64 0, .int .u64 0] 26)
        clear hR
        go_wp2_with (first | ((refine row_store (w2.heap.size) 26 _ _ n2 26 _ _ rfl rfl rfl rfl (by kernel_rfl) rfl (by kernel_rfl) ?_); rw [HR.out]) | (refine row_load (w.heap.size + 1) 23 _ kE 23 _ rfl rfl rfl _ Try.underlying23 rfl (by kernel_rfl) ?_))
        refine (O2.out _).mono ?_
        rintro e w3 ⟨rfl, hb⟩
        replace kM := kM.below hb kM.lt
        replace kE := kE.below hb kE.lt
        replace q1 := q1.below hb q1.lt
        replace q2 := q2.below hb q2.lt
        replace q3 := q3.below hb q3.lt
        replace hB := hB.trans (hb.mono hB.size)
        clear hb
        clear n2
        go_wp2_with (refine row_load (w.heap.size + 1) 23 _ kE 23 _ rfl rfl rfl _ Try.underlying23 rfl (by kernel_rfl) ?_)
        refine (G2.out _).mono ?_
        rintro e w4 ⟨rfl, hb⟩
        replace kM := kM.below hb kM.lt
        replace kE := kE.below hb kE.lt
        replace q1 := q1.below hb q1.lt
        replace q2 := q2.below hb q2.lt
        replace q3 := q3.below hb q3.lt
        replace hB := hB.trans (hb.mono hB.size)
        clear hb
        have q4 := q3.setRow #[.int .u64 b0, .int .u64 b1, .int .u64 b2, .int .u64 b3, .int .u64 b4, .int .u64 b5, .int .u64 b6, .int .u64 b7]
        obtain ⟨lM, lE, l1, l2⟩ := HL.out
        replace kM := kM.farRow (g' := R.heap.size) (by omega) #[.int .u64 b0, .int .u64 b1, .int .u64 b2, .int .u64 b3, .int .u64 b4, .int .u64 b5, .int .u64 b6, .int .u64 b7]
        replace kE := kE.farRow (g' := R.heap.size) (by omega) #[.int .u64 b0, .int .u64 b1, .int .u64 b2, .int .u64 b3, .int .u64 b4, .int .u64 b5, .int .u64 b6, .int .u64 b7]
        replace q1 := q1.farRow (g' := R.heap.size) (by omega) #[.int .u64 b0, .int .u64 b1, .int .u64 b2, .int .u64 b3, .int .u64 b4, .int .u64 b5, .int .u64 b6, .int .u64 b7]
        replace q2 := q2.farRow (g' := R.heap.size) (by omega) #[.int .u64 b0, .int .u64 b1, .int .u64 b2, .int .u64 b3, .int .u64 b4, .int .u64 b5, .int .u64 b6, .int .u64 b7]
        replace hB := below_setRow hB (g := R.heap.size) (by omega) #[.int .u64 b0, .int .u64 b1, .int .u64 b2, .int .u64 b3, .int .u64 b4, .int .u64 b5, .int .u64 b6, .int .u64 b7]
        clear lM lE l1 l2
        go_wp2_with (refine row_store (R.heap.size) 26 _ _ q3 26 _ _ rfl rfl rfl rfl (by kernel_rfl) rfl (by kernel_rfl) ?_)
        clear q3
        have q3 := q4
        clear q4
        generalize w4.setRow R.heap.size #[.int .u64 b0, .int .u64 b1, .int .u64 b2, .int .u64 b3, .int .u64 b4, .int .u64 b5, .int .u64 b6, .int .u64 b7] = Z at *
        have hS : ∀ w', Below Z.heap.size Z w' → w'.cell? ⟨w.heap.size, 0, none⟩ = some (.int .i64 y) ∧ w'.cell? ⟨w.heap.size, 1, none⟩ = some (.int .i64 y0) ∧ w'.cell? ⟨w.heap.size, 2, none⟩ = some (.int .i64 y1) ∧ w'.cell? ⟨w.heap.size, 3, none⟩ = some (.int .i64 y2) ∧ w'.cell? ⟨w.heap.size, 4, none⟩ = some (.int .i64 y3) ∧ w'.cell? ⟨w.heap.size, 5, none⟩ = some (.int .i64 y4) ∧ w'.cell? ⟨w.heap.size, 6, none⟩ = some (.int .i64 y5) ∧ w'.cell? ⟨w.heap.size, 7, none⟩ = some (.int .i64 y6) ∧ w'.cell? ⟨w.heap.size + 1, 0, none⟩ = some (.int .i64 n) ∧ w'.cell? ⟨w.heap.size + 1, 1, none⟩ = some (.int .i64 m) ∧ w'.cell? ⟨w.heap.size + 1, 2, none⟩ = some (.string s) ∧ w'.cell? ⟨w1.heap.size, 0, none⟩ = some (.int .u64 a0) ∧ w'.cell? ⟨w1.heap.size, 1, none⟩ = some (.int .u64 a1) ∧ w'.cell? ⟨w1.heap.size, 2, none⟩ = some (.int .u64 a2) ∧ w'.cell? ⟨w1.heap.size, 3, none⟩ = some (.int .u64 a3) ∧ w'.cell? ⟨w1.heap.size, 4, none⟩ = some (.int .u64 a4) ∧ w'.cell? ⟨w1.heap.size, 5, none⟩ = some (.int .u64 a5) ∧ w'.cell? ⟨w1.heap.size, 6, none⟩ = some (.int .u64 a6) ∧ w'.cell? ⟨w1.heap.size, 7, none⟩ = some (.int .u64 a7) ∧ w'.cell? ⟨w2.heap.size, 0, none⟩ = some (.int .u64 b0) ∧ w'.cell? ⟨w2.heap.size, 1, none⟩ = some (.int .u64 b1) ∧ w'.cell? ⟨w2.heap.size, 2, none⟩ = some (.int .u64 b2) ∧ w'.cell? ⟨w2.heap.size, 3, none⟩ = some (.int .u64 b3) ∧ w'.cell? ⟨w2.heap.size, 4, none⟩ = some (.int .u64 b4) ∧ w'.cell? ⟨w2.heap.size, 5, none⟩ = some (.int .u64 b5) ∧ w'.cell? ⟨w2.heap.size, 6, none⟩ = some (.int .u64 b6) ∧ w'.cell? ⟨w2.heap.size, 7, none⟩ = some (.int .u64 b7) ∧ w'.cell? ⟨R.heap.size, 0, none⟩ = some (.int .u64 b0) ∧ w'.cell? ⟨R.heap.size, 1, none⟩ = some (.int .u64 b1) ∧ w'.cell? ⟨R.heap.size, 2, none⟩ = some (.int .u64 b2) ∧ w'.cell? ⟨R.heap.size, 3, none⟩ = some (.int .u64 b3) ∧ w'.cell? ⟨R.heap.size, 4, none⟩ = some (.int .u64 b4) ∧ w'.cell? ⟨R.heap.size, 5, none⟩ = some (.int .u64 b5) ∧ w'.cell? ⟨R.heap.size, 6, none⟩ = some (.int .u64 b6) ∧ w'.cell? ⟨R.heap.size, 7, none⟩ = some (.int .u64 b7) := fun w' hq => ⟨((kM.below hq kM.lt).cell 0).trans rfl, ((kM.below hq kM.lt).cell 1).trans rfl, ((kM.below hq kM.lt).cell 2).trans rfl, ((kM.below hq kM.lt).cell 3).trans rfl, ((kM.below hq kM.lt).cell 4).trans rfl, ((kM.below hq kM.lt).cell 5).trans rfl, ((kM.below hq kM.lt).cell 6).trans rfl, ((kM.below hq kM.lt).cell 7).trans rfl, ((kE.below hq kE.lt).cell 0).trans rfl, ((kE.below hq kE.lt).cell 1).trans rfl, ((kE.below hq kE.lt).cell 2).trans rfl, ((q1.below hq q1.lt).cell 0).trans rfl, ((q1.below hq q1.lt).cell 1).trans rfl, ((q1.below hq q1.lt).cell 2).trans rfl, ((q1.below hq q1.lt).cell 3).trans rfl, ((q1.below hq q1.lt).cell 4).trans rfl, ((q1.below hq q1.lt).cell 5).trans rfl, ((q1.below hq q1.lt).cell 6).trans rfl, ((q1.below hq q1.lt).cell 7).trans rfl, ((q2.below hq q2.lt).cell 0).trans rfl, ((q2.below hq q2.lt).cell 1).trans rfl, ((q2.below hq q2.lt).cell 2).trans rfl, ((q2.below hq q2.lt).cell 3).trans rfl, ((q2.below hq q2.lt).cell 4).trans rfl, ((q2.below hq q2.lt).cell 5).trans rfl, ((q2.below hq q2.lt).cell 6).trans rfl, ((q2.below hq q2.lt).cell 7).trans rfl, ((q3.below hq q3.lt).cell 0).trans rfl, ((q3.below hq q3.lt).cell 1).trans rfl, ((q3.below hq q3.lt).cell 2).trans rfl, ((q3.below hq q3.lt).cell 3).trans rfl, ((q3.below hq q3.lt).cell 4).trans rfl, ((q3.below hq q3.lt).cell 5).trans rfl, ((q3.below hq q3.lt).cell 6).trans rfl, ((q3.below hq q3.lt).cell 7).trans rfl⟩
        have hq : Below Z.heap.size Z Z.drew := (Below.refl _ Z).drew
        have HB := Lib.hid hB
        clear kM kE q1 q2 q3 hB
        have HS := Lib.hid hS
        clear hS
        have hS0 := HS.out _ hq
        go_region_held3 (fun w' => w'.cell? ⟨w.heap.size, 0, none⟩ = some (.int .i64 y) ∧ w'.cell? ⟨w.heap.size, 1, none⟩ = some (.int .i64 y0) ∧ w'.cell? ⟨w.heap.size, 2, none⟩ = some (.int .i64 y1) ∧ w'.cell? ⟨w.heap.size, 3, none⟩ = some (.int .i64 y2) ∧ w'.cell? ⟨w.heap.size, 4, none⟩ = some (.int .i64 y3) ∧ w'.cell? ⟨w.heap.size, 5, none⟩ = some (.int .i64 y4) ∧ w'.cell? ⟨w.heap.size, 6, none⟩ = some (.int .i64 y5) ∧ w'.cell? ⟨w.heap.size, 7, none⟩ = some (.int .i64 y6) ∧ w'.cell? ⟨w.heap.size + 1, 0, none⟩ = some (.int .i64 n) ∧ w'.cell? ⟨w.heap.size + 1, 1, none⟩ = some (.int .i64 m) ∧ w'.cell? ⟨w.heap.size + 1, 2, none⟩ = some (.string s) ∧ w'.cell? ⟨w1.heap.size, 0, none⟩ = some (.int .u64 a0) ∧ w'.cell? ⟨w1.heap.size, 1, none⟩ = some (.int .u64 a1) ∧ w'.cell? ⟨w1.heap.size, 2, none⟩ = some (.int .u64 a2) ∧ w'.cell? ⟨w1.heap.size, 3, none⟩ = some (.int .u64 a3) ∧ w'.cell? ⟨w1.heap.size, 4, none⟩ = some (.int .u64 a4) ∧ w'.cell? ⟨w1.heap.size, 5, none⟩ = some (.int .u64 a5) ∧ w'.cell? ⟨w1.heap.size, 6, none⟩ = some (.int .u64 a6) ∧ w'.cell? ⟨w1.heap.size, 7, none⟩ = some (.int .u64 a7) ∧ w'.cell? ⟨w2.heap.size, 0, none⟩ = some (.int .u64 b0) ∧ w'.cell? ⟨w2.heap.size, 1, none⟩ = some (.int .u64 b1) ∧ w'.cell? ⟨w2.heap.size, 2, none⟩ = some (.int .u64 b2) ∧ w'.cell? ⟨w2.heap.size, 3, none⟩ = some (.int .u64 b3) ∧ w'.cell? ⟨w2.heap.size, 4, none⟩ = some (.int .u64 b4) ∧ w'.cell? ⟨w2.heap.size, 5, none⟩ = some (.int .u64 b5) ∧ w'.cell? ⟨w2.heap.size, 6, none⟩ = some (.int .u64 b6) ∧ w'.cell? ⟨w2.heap.size, 7, none⟩ = some (.int .u64 b7) ∧ w'.cell? ⟨R.heap.size, 0, none⟩ = some (.int .u64 b0) ∧ w'.cell? ⟨R.heap.size, 1, none⟩ = some (.int .u64 b1) ∧ w'.cell? ⟨R.heap.size, 2, none⟩ = some (.int .u64 b2) ∧ w'.cell? ⟨R.heap.size, 3, none⟩ = some (.int .u64 b3) ∧ w'.cell? ⟨R.heap.size, 4, none⟩ = some (.int .u64 b4) ∧ w'.cell? ⟨R.heap.size, 5, none⟩ = some (.int .u64 b5) ∧ w'.cell? ⟨R.heap.size, 6, none⟩ = some (.int .u64 b6) ∧ w'.cell? ⟨R.heap.size, 7, none⟩ = some (.int .u64 b7))
          (first | exact hS0 | exact HS.out _ hq | go_keep)
          (first
            | (go_at_call 18; ((with_reducible refine (G1.out _).mono ?_); rintro e w9 ⟨rfl, hb⟩); replace hq := hq.trans (hb.mono hq.size); clear hb; have hS0 := HS.out _ hq)
            | (go_at_call 19; ((with_reducible refine (O1.out _).mono ?_); rintro e w9 ⟨rfl, hb⟩); replace hq := hq.trans (hb.mono hq.size); clear hb; have hS0 := HS.out _ hq)
            | (go_at_call 15; ((with_reducible refine (O2.out _).mono ?_); rintro e w9 ⟨rfl, hb⟩); replace hq := hq.trans (hb.mono hq.size); clear hb; have hS0 := HS.out _ hq)
            | (go_at_call 17; ((with_reducible refine (P1.out _).mono ?_); rintro e w9 ⟨rfl, hb⟩); replace hq := hq.trans (hb.mono hq.size); clear hb; have hS0 := HS.out _ hq)
            | (go_at_call 17; ((with_reducible refine (P2.out _).mono ?_); rintro e w9 ⟨rfl, hb⟩); replace hq := hq.trans (hb.mono hq.size); clear hb; have hS0 := HS.out _ hq)
            | (go_at_call 8; ((with_reducible refine (works_any _).mono ?_); rintro e w9 ⟨rfl, hb⟩); replace hq := hq.trans (hb.mono hq.size); clear hb; have hS0 := HS.out _ hq))
        all_goals
          go_wp2
          go_ret
          exact ⟨rfl, HB.out.trans (hq.mono HB.out.size)⟩
      · by_cases z2 : 448 < z
        · have HC : Hid (chN z = 0 ∧ chE z = 2) := Lib.hid (by unfold chN chE chOk; rw [decide_eq_false (by omega : ¬ z ≤ 448), Bool.and_false]; exact ⟨rfl, rfl⟩)
          go_enter Try.func5, Try.ntmps5
          go_wp2_with (refine row_load (w.heap.size) 39 _ kM 39 _ rfl rfl rfl _ Try.underlying39 rfl (by kernel_rfl) ?_)
          refine (PutMap_any y y0 y1 y2 y3 y4 y5 y6 _).mono ?_
          rintro e w1 ⟨rfl, hb⟩
          rw [HM.out.1, HM.out.2]
          replace kM := kM.below hb kM.lt
          replace kE := kE.below hb kE.lt
          replace hB := hB.trans (hb.mono hB.size)
          clear hb
          have n1 := Blk.new w1 26 #[.int .u64 0, .int .u64 0, .int .u64 0, .int .u64 0, .int .u64 0, .int .u64 0, .int .u64 0, .int .u64 0]
          have q1 := n1.setRow #[.int .u64 a0, .int .u64 a1, .int .u64 a2, .int .u64 a3, .int .u64 a4, .int .u64 a5, .int .u64 a6, .int .u64 a7]
          have lkM := kM.lt
          replace kM := (kM.alloc (.cells #[.int .u64 0, .int .u64 0, .int .u64 0, .int .u64 0, .int .u64 0, .int .u64 0, .int .u64 0, .int .u64 0] 26)).farRow (g' := w1.heap.size) (by omega) #[.int .u64 a0, .int .u64 a1, .int .u64 a2, .int .u64 a3, .int .u64 a4, .int .u64 a5, .int .u64 a6, .int .u64 a7]
          clear lkM
          have lkE := kE.lt
          replace kE := (kE.alloc (.cells #[.int .u64 0, .int .u64 0, .int .u64 0, .int .u64 0, .int .u64 0, .int .u64 0, .int .u64 0, .int .u64 0] 26)).farRow (g' := w1.heap.size) (by omega) #[.int .u64 a0, .int .u64 a1, .int .u64 a2, .int .u64 a3, .int .u64 a4, .int .u64 a5, .int .u64 a6, .int .u64 a7]
          clear lkE
          replace hB := below_setRow (hB.alloc hB.size (.cells #[.int .u64 0, .int .u64 0, .int .u64 0, .int .u64 0, .int .u64 0, .int .u64 0, .int .u64 0, .int .u64 0] 26)) (g := w1.heap.size) hB.size #[.int .u64 a0, .int .u64 a1, .int .u64 a2, .int .u64 a3, .int .u64 a4, .int .u64 a5, .int .u64 a6, .int .u64 a7]
          go_wp2_with (refine row_store (w1.heap.size) 26 _ _ n1 26 _ _ rfl rfl rfl rfl (by kernel_rfl) rfl (by kernel_rfl) ?_)
          clear n1
          refine (Chunks_any z _).mono ?_
          rintro e w9 ⟨rfl, rfl⟩
          rw [HC.out.1, HC.out.2]
          go_wp2_with (first | (go_at_call 10; refine (num_any _ _).mono ?_; rintro e w' ⟨rfl, rfl⟩) | (refine row_load (w.heap.size + 1) 23 _ kE 23 _ rfl rfl rfl _ Try.underlying23 rfl (by kernel_rfl) ?_))
          refine (PutEntry_any n m s _).mono ?_
          rintro e w2 ⟨rfl, hb⟩
          rw [HE.out.1, HE.out.2]
          replace kM := kM.below hb kM.lt
          replace kE := kE.below hb kE.lt
          replace q1 := q1.below hb q1.lt
          replace hB := hB.trans (hb.mono hB.size)
          clear hb
          have n2 := Blk.new w2 26 #[.int .u64 0, .int .u64 0, .int .u64 0, .int .u64 0, .int .u64 0, .int .u64 0, .int .u64 0, .int .u64 0]
          have q2 := n2.setRow #[.int .u64 b0, .int .u64 b1, .int .u64 b2, .int .u64 b3, .int .u64 b4, .int .u64 b5, .int .u64 b6, .int .u64 b7]
          have lkM := kM.lt
          replace kM := (kM.alloc (.cells #[.int .u64 0, .int .u64 0, .int .u64 0, .int .u64 0, .int .u64 0, .int .u64 0, .int .u64 0, .int .u64 0] 26)).farRow (g' := w2.heap.size) (by omega) #[.int .u64 b0, .int .u64 b1, .int .u64 b2, .int .u64 b3, .int .u64 b4, .int .u64 b5, .int .u64 b6, .int .u64 b7]
          clear lkM
          have lkE := kE.lt
          replace kE := (kE.alloc (.cells #[.int .u64 0, .int .u64 0, .int .u64 0, .int .u64 0, .int .u64 0, .int .u64 0, .int .u64 0, .int .u64 0] 26)).farRow (g' := w2.heap.size) (by omega) #[.int .u64 b0, .int .u64 b1, .int .u64 b2, .int .u64 b3, .int .u64 b4, .int .u64 b5, .int .u64 b6, .int .u64 b7]
          clear lkE
          have lq1 := q1.lt
          replace q1 := (q1.alloc (.cells #[.int .u64 0, .int .u64 0, .int .u64 0, .int .u64 0, .int .u64 0, .int .u64 0, .int .u64 0, .int .u64 0] 26)).farRow (g' := w2.heap.size) (by omega) #[.int .u64 b0, .int .u64 b1, .int .u64 b2, .int .u64 b3, .int .u64 b4, .int .u64 b5, .int .u64 b6, .int .u64 b7]
          clear lq1
          replace hB := below_setRow (hB.alloc hB.size (.cells #[.int .u64 0, .int .u64 0, .int .u64 0, .int .u64 0, .int .u64 0, .int .u64 0, .int .u64 0, .int .u64 0] 26)) (g := w2.heap.size) hB.size #[.int .u64 b0, .int .u64 b1, .int .u64 b2, .int .u64 b3, .int .u64 b4, .int .u64 b5, .int .u64 b6, .int .u64 b7]
          generalize hR : (w2.alloc (.cells #[.int .u64 0, .int .u64 0, .int .u64 0, .int .u64 0, .int .u64 0, .int .u64 0, .int .u64 0, .int .u64 0] 26)).setRow w2.heap.size #[.int .u64 b0, .int .u64 b1, .int .u64 b2, .int .u64 b3, .int .u64 b4, .int .u64 b5, .int .u64 b6, .int .u64 b7] = R at *
          have HR := Lib.hid hR
          have lM := kM.lt
          have lE := kE.lt
          have l1 := q1.lt
          have l2 := q2.lt
          have HL := Lib.hid (And.intro lM (And.intro lE (And.intro l1 l2)))
          clear lM lE l1 l2
          have q3 := Blk.new R 26 #[.int .u64 0, .int .u64 0, .int .u64 0, .int .u64 0, .int .u64 0, .int .u64 0, .int .u64 0, .int .u64 0]
          replace kM := kM.alloc (.cells #[.int .u64 0, .int .u64 0, .int .u64 0, .int .u64 0, .int .u64 0, .int .u64 0, .int .u64 0, .int .u64 0] 26)
          replace kE := kE.alloc (.cells #[.int .u64 0, .int .u64 0, .int .u64 0, .int .u64 0, .int .u64 0, .int .u64 0, .int .u64 0, .int .u64 0] 26)
          replace q1 := q1.alloc (.cells #[.int .u64 0, .int .u64 0, .int .u64 0, .int .u64 0, .int .u64 0, .int .u64 0, .int .u64 0, .int .u64 0] 26)
          replace q2 := q2.alloc (.cells #[.int .u64 0, .int .u64 0, .int .u64 0, .int .u64 0, .int .u64 0, .int .u64 0, .int .u64 0, .int .u64 0] 26)
          replace hB := hB.alloc hB.size (.cells #[.int .u64 0, .int .u64 0, .int .u64 0, .int .u64 0, .int .u64 0, .int .u64 0, .int .u64 0, .int .u64 0] 26)
          clear hR
          go_wp2_with (first | ((refine row_store (w2.heap.size) 26 _ _ n2 26 _ _ rfl rfl rfl rfl (by kernel_rfl) rfl (by kernel_rfl) ?_); rw [HR.out]) | (refine row_load (w.heap.size + 1) 23 _ kE 23 _ rfl rfl rfl _ Try.underlying23 rfl (by kernel_rfl) ?_))
          refine (O2.out _).mono ?_
          rintro e w3 ⟨rfl, hb⟩
          replace kM := kM.below hb kM.lt
          replace kE := kE.below hb kE.lt
          replace q1 := q1.below hb q1.lt
          replace q2 := q2.below hb q2.lt
          replace q3 := q3.below hb q3.lt
          replace hB := hB.trans (hb.mono hB.size)
          clear hb
          clear n2
          go_wp2_with (refine row_load (w.heap.size + 1) 23 _ kE 23 _ rfl rfl rfl _ Try.underlying23 rfl (by kernel_rfl) ?_)
          refine (G2.out _).mono ?_
          rintro e w4 ⟨rfl, hb⟩
          replace kM := kM.below hb kM.lt
          replace kE := kE.below hb kE.lt
          replace q1 := q1.below hb q1.lt
          replace q2 := q2.below hb q2.lt
          replace q3 := q3.below hb q3.lt
          replace hB := hB.trans (hb.mono hB.size)
          clear hb
          have q4 := q3.setRow #[.int .u64 b0, .int .u64 b1, .int .u64 b2, .int .u64 b3, .int .u64 b4, .int .u64 b5, .int .u64 b6, .int .u64 b7]
          obtain ⟨lM, lE, l1, l2⟩ := HL.out
          replace kM := kM.farRow (g' := R.heap.size) (by omega) #[.int .u64 b0, .int .u64 b1, .int .u64 b2, .int .u64 b3, .int .u64 b4, .int .u64 b5, .int .u64 b6, .int .u64 b7]
          replace kE := kE.farRow (g' := R.heap.size) (by omega) #[.int .u64 b0, .int .u64 b1, .int .u64 b2, .int .u64 b3, .int .u64 b4, .int .u64 b5, .int .u64 b6, .int .u64 b7]
          replace q1 := q1.farRow (g' := R.heap.size) (by omega) #[.int .u64 b0, .int .u64 b1, .int .u64 b2, .int .u64 b3, .int .u64 b4, .int .u64 b5, .int .u64 b6, .int .u64 b7]
          replace q2 := q2.farRow (g' := R.heap.size) (by omega) #[.int .u64 b0, .int .u64 b1, .int .u64 b2, .int .u64 b3, .int .u64 b4, .int .u64 b5, .int .u64 b6, .int .u64 b7]
          replace hB := below_setRow hB (g := R.heap.size) (by omega) #[.int .u64 b0, .int .u64 b1, .int .u64 b2, .int .u64 b3, .int .u64 b4, .int .u64 b5, .int .u64 b6, .int .u64 b7]
          clear lM lE l1 l2
          go_wp2_with (refine row_store (R.heap.size) 26 _ _ q3 26 _ _ rfl rfl rfl rfl (by kernel_rfl) rfl (by kernel_rfl) ?_)
          clear q3
          have q3 := q4
          clear q4
          generalize w4.setRow R.heap.size #[.int .u64 b0, .int .u64 b1, .int .u64 b2, .int .u64 b3, .int .u64 b4, .int .u64 b5, .int .u64 b6, .int .u64 b7] = Z at *
          have hS : ∀ w', Below Z.heap.size Z w' → w'.cell? ⟨w.heap.size, 0, none⟩ = some (.int .i64 y) ∧ w'.cell? ⟨w.heap.size, 1, none⟩ = some (.int .i64 y0) ∧ w'.cell? ⟨w.heap.size, 2, none⟩ = some (.int .i64 y1) ∧ w'.cell? ⟨w.heap.size, 3, none⟩ = some (.int .i64 y2) ∧ w'.cell? ⟨w.heap.size, 4, none⟩ = some (.int .i64 y3) ∧ w'.cell? ⟨w.heap.size, 5, none⟩ = some (.int .i64 y4) ∧ w'.cell? ⟨w.heap.size, 6, none⟩ = some (.int .i64 y5) ∧ w'.cell? ⟨w.heap.size, 7, none⟩ = some (.int .i64 y6) ∧ w'.cell? ⟨w.heap.size + 1, 0, none⟩ = some (.int .i64 n) ∧ w'.cell? ⟨w.heap.size + 1, 1, none⟩ = some (.int .i64 m) ∧ w'.cell? ⟨w.heap.size + 1, 2, none⟩ = some (.string s) ∧ w'.cell? ⟨w1.heap.size, 0, none⟩ = some (.int .u64 a0) ∧ w'.cell? ⟨w1.heap.size, 1, none⟩ = some (.int .u64 a1) ∧ w'.cell? ⟨w1.heap.size, 2, none⟩ = some (.int .u64 a2) ∧ w'.cell? ⟨w1.heap.size, 3, none⟩ = some (.int .u64 a3) ∧ w'.cell? ⟨w1.heap.size, 4, none⟩ = some (.int .u64 a4) ∧ w'.cell? ⟨w1.heap.size, 5, none⟩ = some (.int .u64 a5) ∧ w'.cell? ⟨w1.heap.size, 6, none⟩ = some (.int .u64 a6) ∧ w'.cell? ⟨w1.heap.size, 7, none⟩ = some (.int .u64 a7) ∧ w'.cell? ⟨w2.heap.size, 0, none⟩ = some (.int .u64 b0) ∧ w'.cell? ⟨w2.heap.size, 1, none⟩ = some (.int .u64 b1) ∧ w'.cell? ⟨w2.heap.size, 2, none⟩ = some (.int .u64 b2) ∧ w'.cell? ⟨w2.heap.size, 3, none⟩ = some (.int .u64 b3) ∧ w'.cell? ⟨w2.heap.size, 4, none⟩ = some (.int .u64 b4) ∧ w'.cell? ⟨w2.heap.size, 5, none⟩ = some (.int .u64 b5) ∧ w'.cell? ⟨w2.heap.size, 6, none⟩ = some (.int .u64 b6) ∧ w'.cell? ⟨w2.heap.size, 7, none⟩ = some (.int .u64 b7) ∧ w'.cell? ⟨R.heap.size, 0, none⟩ = some (.int .u64 b0) ∧ w'.cell? ⟨R.heap.size, 1, none⟩ = some (.int .u64 b1) ∧ w'.cell? ⟨R.heap.size, 2, none⟩ = some (.int .u64 b2) ∧ w'.cell? ⟨R.heap.size, 3, none⟩ = some (.int .u64 b3) ∧ w'.cell? ⟨R.heap.size, 4, none⟩ = some (.int .u64 b4) ∧ w'.cell? ⟨R.heap.size, 5, none⟩ = some (.int .u64 b5) ∧ w'.cell? ⟨R.heap.size, 6, none⟩ = some (.int .u64 b6) ∧ w'.cell? ⟨R.heap.size, 7, none⟩ = some (.int .u64 b7) := fun w' hq => ⟨((kM.below hq kM.lt).cell 0).trans rfl, ((kM.below hq kM.lt).cell 1).trans rfl, ((kM.below hq kM.lt).cell 2).trans rfl, ((kM.below hq kM.lt).cell 3).trans rfl, ((kM.below hq kM.lt).cell 4).trans rfl, ((kM.below hq kM.lt).cell 5).trans rfl, ((kM.below hq kM.lt).cell 6).trans rfl, ((kM.below hq kM.lt).cell 7).trans rfl, ((kE.below hq kE.lt).cell 0).trans rfl, ((kE.below hq kE.lt).cell 1).trans rfl, ((kE.below hq kE.lt).cell 2).trans rfl, ((q1.below hq q1.lt).cell 0).trans rfl, ((q1.below hq q1.lt).cell 1).trans rfl, ((q1.below hq q1.lt).cell 2).trans rfl, ((q1.below hq q1.lt).cell 3).trans rfl, ((q1.below hq q1.lt).cell 4).trans rfl, ((q1.below hq q1.lt).cell 5).trans rfl, ((q1.below hq q1.lt).cell 6).trans rfl, ((q1.below hq q1.lt).cell 7).trans rfl, ((q2.below hq q2.lt).cell 0).trans rfl, ((q2.below hq q2.lt).cell 1).trans rfl, ((q2.below hq q2.lt).cell 2).trans rfl, ((q2.below hq q2.lt).cell 3).trans rfl, ((q2.below hq q2.lt).cell 4).trans rfl, ((q2.below hq q2.lt).cell 5).trans rfl, ((q2.below hq q2.lt).cell 6).trans rfl, ((q2.below hq q2.lt).cell 7).trans rfl, ((q3.below hq q3.lt).cell 0).trans rfl, ((q3.below hq q3.lt).cell 1).trans rfl, ((q3.below hq q3.lt).cell 2).trans rfl, ((q3.below hq q3.lt).cell 3).trans rfl, ((q3.below hq q3.lt).cell 4).trans rfl, ((q3.below hq q3.lt).cell 5).trans rfl, ((q3.below hq q3.lt).cell 6).trans rfl, ((q3.below hq q3.lt).cell 7).trans rfl⟩
          have hq : Below Z.heap.size Z Z.drew := (Below.refl _ Z).drew
          have HB := Lib.hid hB
          clear kM kE q1 q2 q3 hB
          have HS := Lib.hid hS
          clear hS
          have hS0 := HS.out _ hq
          go_region_held3 (fun w' => w'.cell? ⟨w.heap.size, 0, none⟩ = some (.int .i64 y) ∧ w'.cell? ⟨w.heap.size, 1, none⟩ = some (.int .i64 y0) ∧ w'.cell? ⟨w.heap.size, 2, none⟩ = some (.int .i64 y1) ∧ w'.cell? ⟨w.heap.size, 3, none⟩ = some (.int .i64 y2) ∧ w'.cell? ⟨w.heap.size, 4, none⟩ = some (.int .i64 y3) ∧ w'.cell? ⟨w.heap.size, 5, none⟩ = some (.int .i64 y4) ∧ w'.cell? ⟨w.heap.size, 6, none⟩ = some (.int .i64 y5) ∧ w'.cell? ⟨w.heap.size, 7, none⟩ = some (.int .i64 y6) ∧ w'.cell? ⟨w.heap.size + 1, 0, none⟩ = some (.int .i64 n) ∧ w'.cell? ⟨w.heap.size + 1, 1, none⟩ = some (.int .i64 m) ∧ w'.cell? ⟨w.heap.size + 1, 2, none⟩ = some (.string s) ∧ w'.cell? ⟨w1.heap.size, 0, none⟩ = some (.int .u64 a0) ∧ w'.cell? ⟨w1.heap.size, 1, none⟩ = some (.int .u64 a1) ∧ w'.cell? ⟨w1.heap.size, 2, none⟩ = some (.int .u64 a2) ∧ w'.cell? ⟨w1.heap.size, 3, none⟩ = some (.int .u64 a3) ∧ w'.cell? ⟨w1.heap.size, 4, none⟩ = some (.int .u64 a4) ∧ w'.cell? ⟨w1.heap.size, 5, none⟩ = some (.int .u64 a5) ∧ w'.cell? ⟨w1.heap.size, 6, none⟩ = some (.int .u64 a6) ∧ w'.cell? ⟨w1.heap.size, 7, none⟩ = some (.int .u64 a7) ∧ w'.cell? ⟨w2.heap.size, 0, none⟩ = some (.int .u64 b0) ∧ w'.cell? ⟨w2.heap.size, 1, none⟩ = some (.int .u64 b1) ∧ w'.cell? ⟨w2.heap.size, 2, none⟩ = some (.int .u64 b2) ∧ w'.cell? ⟨w2.heap.size, 3, none⟩ = some (.int .u64 b3) ∧ w'.cell? ⟨w2.heap.size, 4, none⟩ = some (.int .u64 b4) ∧ w'.cell? ⟨w2.heap.size, 5, none⟩ = some (.int .u64 b5) ∧ w'.cell? ⟨w2.heap.size, 6, none⟩ = some (.int .u64 b6) ∧ w'.cell? ⟨w2.heap.size, 7, none⟩ = some (.int .u64 b7) ∧ w'.cell? ⟨R.heap.size, 0, none⟩ = some (.int .u64 b0) ∧ w'.cell? ⟨R.heap.size, 1, none⟩ = some (.int .u64 b1) ∧ w'.cell? ⟨R.heap.size, 2, none⟩ = some (.int .u64 b2) ∧ w'.cell? ⟨R.heap.size, 3, none⟩ = some (.int .u64 b3) ∧ w'.cell? ⟨R.heap.size, 4, none⟩ = some (.int .u64 b4) ∧ w'.cell? ⟨R.heap.size, 5, none⟩ = some (.int .u64 b5) ∧ w'.cell? ⟨R.heap.size, 6, none⟩ = some (.int .u64 b6) ∧ w'.cell? ⟨R.heap.size, 7, none⟩ = some (.int .u64 b7))
            (first | exact hS0 | exact HS.out _ hq | go_keep)
            (first
              | (go_at_call 18; ((with_reducible refine (G1.out _).mono ?_); rintro e w9 ⟨rfl, hb⟩); replace hq := hq.trans (hb.mono hq.size); clear hb; have hS0 := HS.out _ hq)
              | (go_at_call 19; ((with_reducible refine (O1.out _).mono ?_); rintro e w9 ⟨rfl, hb⟩); replace hq := hq.trans (hb.mono hq.size); clear hb; have hS0 := HS.out _ hq)
              | (go_at_call 15; ((with_reducible refine (O2.out _).mono ?_); rintro e w9 ⟨rfl, hb⟩); replace hq := hq.trans (hb.mono hq.size); clear hb; have hS0 := HS.out _ hq)
              | (go_at_call 17; ((with_reducible refine (P1.out _).mono ?_); rintro e w9 ⟨rfl, hb⟩); replace hq := hq.trans (hb.mono hq.size); clear hb; have hS0 := HS.out _ hq)
              | (go_at_call 17; ((with_reducible refine (P2.out _).mono ?_); rintro e w9 ⟨rfl, hb⟩); replace hq := hq.trans (hb.mono hq.size); clear hb; have hS0 := HS.out _ hq)
              | (go_at_call 8; ((with_reducible refine (works_any _).mono ?_); rintro e w9 ⟨rfl, hb⟩); replace hq := hq.trans (hb.mono hq.size); clear hb; have hS0 := HS.out _ hq))
          all_goals
            go_wp2
            go_ret
            exact ⟨rfl, HB.out.trans (hq.mono HB.out.size)⟩
        · have hch : chOk z = true := by unfold chOk; rw [decide_eq_true (by omega : 0 ≤ z), decide_eq_true (by omega : z ≤ 448)]; rfl
          obtain ⟨q, hq0⟩ : ∃ q, chN z = q := ⟨_, rfl⟩
          have HC : Hid (chN z = q ∧ chE z = 0) := Lib.hid ⟨hq0, by unfold chE; rw [if_pos hch]⟩
          have HRC := rChunks_any z hch
          rw [hq0] at HRC
          have HRC := Lib.hid HRC
          have hqq : (q != q) = false := by simp
          clear hch hq0
          go_enter Try.func5, Try.ntmps5
          go_wp2_with (refine row_load (w.heap.size) 39 _ kM 39 _ rfl rfl rfl _ Try.underlying39 rfl (by kernel_rfl) ?_)
          refine (PutMap_any y y0 y1 y2 y3 y4 y5 y6 _).mono ?_
          rintro e w1 ⟨rfl, hb⟩
          rw [HM.out.1, HM.out.2]
          replace kM := kM.below hb kM.lt
          replace kE := kE.below hb kE.lt
          replace hB := hB.trans (hb.mono hB.size)
          clear hb
          have n1 := Blk.new w1 26 #[.int .u64 0, .int .u64 0, .int .u64 0, .int .u64 0, .int .u64 0, .int .u64 0, .int .u64 0, .int .u64 0]
          have q1 := n1.setRow #[.int .u64 a0, .int .u64 a1, .int .u64 a2, .int .u64 a3, .int .u64 a4, .int .u64 a5, .int .u64 a6, .int .u64 a7]
          have lkM := kM.lt
          replace kM := (kM.alloc (.cells #[.int .u64 0, .int .u64 0, .int .u64 0, .int .u64 0, .int .u64 0, .int .u64 0, .int .u64 0, .int .u64 0] 26)).farRow (g' := w1.heap.size) (by omega) #[.int .u64 a0, .int .u64 a1, .int .u64 a2, .int .u64 a3, .int .u64 a4, .int .u64 a5, .int .u64 a6, .int .u64 a7]
          clear lkM
          have lkE := kE.lt
          replace kE := (kE.alloc (.cells #[.int .u64 0, .int .u64 0, .int .u64 0, .int .u64 0, .int .u64 0, .int .u64 0, .int .u64 0, .int .u64 0] 26)).farRow (g' := w1.heap.size) (by omega) #[.int .u64 a0, .int .u64 a1, .int .u64 a2, .int .u64 a3, .int .u64 a4, .int .u64 a5, .int .u64 a6, .int .u64 a7]
          clear lkE
          replace hB := below_setRow (hB.alloc hB.size (.cells #[.int .u64 0, .int .u64 0, .int .u64 0, .int .u64 0, .int .u64 0, .int .u64 0, .int .u64 0, .int .u64 0] 26)) (g := w1.heap.size) hB.size #[.int .u64 a0, .int .u64 a1, .int .u64 a2, .int .u64 a3, .int .u64 a4, .int .u64 a5, .int .u64 a6, .int .u64 a7]
          go_wp2_with (refine row_store (w1.heap.size) 26 _ _ n1 26 _ _ rfl rfl rfl rfl (by kernel_rfl) rfl (by kernel_rfl) ?_)
          clear n1
          refine (Chunks_any z _).mono ?_
          rintro e w9 ⟨rfl, rfl⟩
          rw [HC.out.1, HC.out.2]
          go_wp2_with (first | (go_at_call 10; refine (num_any _ _).mono ?_; rintro e w' ⟨rfl, rfl⟩) | (go_at_call 14; refine (HRC.out _).mono ?_; rintro e w' ⟨rfl, rfl⟩) | (refine row_load (w.heap.size + 1) 23 _ kE 23 _ rfl rfl rfl _ Try.underlying23 rfl (by kernel_rfl) ?_))
          refine (PutEntry_any n m s _).mono ?_
          rintro e w2 ⟨rfl, hb⟩
          rw [HE.out.1, HE.out.2]
          replace kM := kM.below hb kM.lt
          replace kE := kE.below hb kE.lt
          replace q1 := q1.below hb q1.lt
          replace hB := hB.trans (hb.mono hB.size)
          clear hb
          have n2 := Blk.new w2 26 #[.int .u64 0, .int .u64 0, .int .u64 0, .int .u64 0, .int .u64 0, .int .u64 0, .int .u64 0, .int .u64 0]
          have q2 := n2.setRow #[.int .u64 b0, .int .u64 b1, .int .u64 b2, .int .u64 b3, .int .u64 b4, .int .u64 b5, .int .u64 b6, .int .u64 b7]
          have lkM := kM.lt
          replace kM := (kM.alloc (.cells #[.int .u64 0, .int .u64 0, .int .u64 0, .int .u64 0, .int .u64 0, .int .u64 0, .int .u64 0, .int .u64 0] 26)).farRow (g' := w2.heap.size) (by omega) #[.int .u64 b0, .int .u64 b1, .int .u64 b2, .int .u64 b3, .int .u64 b4, .int .u64 b5, .int .u64 b6, .int .u64 b7]
          clear lkM
          have lkE := kE.lt
          replace kE := (kE.alloc (.cells #[.int .u64 0, .int .u64 0, .int .u64 0, .int .u64 0, .int .u64 0, .int .u64 0, .int .u64 0, .int .u64 0] 26)).farRow (g' := w2.heap.size) (by omega) #[.int .u64 b0, .int .u64 b1, .int .u64 b2, .int .u64 b3, .int .u64 b4, .int .u64 b5, .int .u64 b6, .int .u64 b7]
          clear lkE
          have lq1 := q1.lt
          replace q1 := (q1.alloc (.cells #[.int .u64 0, .int .u64 0, .int .u64 0, .int .u64 0, .int .u64 0, .int .u64 0, .int .u64 0, .int .u64 0] 26)).farRow (g' := w2.heap.size) (by omega) #[.int .u64 b0, .int .u64 b1, .int .u64 b2, .int .u64 b3, .int .u64 b4, .int .u64 b5, .int .u64 b6, .int .u64 b7]
          clear lq1
          replace hB := below_setRow (hB.alloc hB.size (.cells #[.int .u64 0, .int .u64 0, .int .u64 0, .int .u64 0, .int .u64 0, .int .u64 0, .int .u64 0, .int .u64 0] 26)) (g := w2.heap.size) hB.size #[.int .u64 b0, .int .u64 b1, .int .u64 b2, .int .u64 b3, .int .u64 b4, .int .u64 b5, .int .u64 b6, .int .u64 b7]
          generalize hR : (w2.alloc (.cells #[.int .u64 0, .int .u64 0, .int .u64 0, .int .u64 0, .int .u64 0, .int .u64 0, .int .u64 0, .int .u64 0] 26)).setRow w2.heap.size #[.int .u64 b0, .int .u64 b1, .int .u64 b2, .int .u64 b3, .int .u64 b4, .int .u64 b5, .int .u64 b6, .int .u64 b7] = R at *
          have HR := Lib.hid hR
          have lM := kM.lt
          have lE := kE.lt
          have l1 := q1.lt
          have l2 := q2.lt
          have HL := Lib.hid (And.intro lM (And.intro lE (And.intro l1 l2)))
          clear lM lE l1 l2
          have q3 := Blk.new R 26 #[.int .u64 0, .int .u64 0, .int .u64 0, .int .u64 0, .int .u64 0, .int .u64 0, .int .u64 0, .int .u64 0]
          replace kM := kM.alloc (.cells #[.int .u64 0, .int .u64 0, .int .u64 0, .int .u64 0, .int .u64 0, .int .u64 0, .int .u64 0, .int .u64 0] 26)
          replace kE := kE.alloc (.cells #[.int .u64 0, .int .u64 0, .int .u64 0, .int .u64 0, .int .u64 0, .int .u64 0, .int .u64 0, .int .u64 0] 26)
          replace q1 := q1.alloc (.cells #[.int .u64 0, .int .u64 0, .int .u64 0, .int .u64 0, .int .u64 0, .int .u64 0, .int .u64 0, .int .u64 0] 26)
          replace q2 := q2.alloc (.cells #[.int .u64 0, .int .u64 0, .int .u64 0, .int .u64 0, .int .u64 0, .int .u64 0, .int .u64 0, .int .u64 0] 26)
          replace hB := hB.alloc hB.size (.cells #[.int .u64 0, .int .u64 0, .int .u64 0, .int .u64 0, .int .u64 0, .int .u64 0, .int .u64 0, .int .u64 0] 26)
          clear hR
          go_wp2_with (first | ((refine row_store (w2.heap.size) 26 _ _ n2 26 _ _ rfl rfl rfl rfl (by kernel_rfl) rfl (by kernel_rfl) ?_); rw [HR.out]) | (refine row_load (w.heap.size + 1) 23 _ kE 23 _ rfl rfl rfl _ Try.underlying23 rfl (by kernel_rfl) ?_))
          refine (O2.out _).mono ?_
          rintro e w3 ⟨rfl, hb⟩
          replace kM := kM.below hb kM.lt
          replace kE := kE.below hb kE.lt
          replace q1 := q1.below hb q1.lt
          replace q2 := q2.below hb q2.lt
          replace q3 := q3.below hb q3.lt
          replace hB := hB.trans (hb.mono hB.size)
          clear hb
          clear n2
          go_wp2_with (refine row_load (w.heap.size + 1) 23 _ kE 23 _ rfl rfl rfl _ Try.underlying23 rfl (by kernel_rfl) ?_)
          refine (G2.out _).mono ?_
          rintro e w4 ⟨rfl, hb⟩
          replace kM := kM.below hb kM.lt
          replace kE := kE.below hb kE.lt
          replace q1 := q1.below hb q1.lt
          replace q2 := q2.below hb q2.lt
          replace q3 := q3.below hb q3.lt
          replace hB := hB.trans (hb.mono hB.size)
          clear hb
          have q4 := q3.setRow #[.int .u64 b0, .int .u64 b1, .int .u64 b2, .int .u64 b3, .int .u64 b4, .int .u64 b5, .int .u64 b6, .int .u64 b7]
          obtain ⟨lM, lE, l1, l2⟩ := HL.out
          replace kM := kM.farRow (g' := R.heap.size) (by omega) #[.int .u64 b0, .int .u64 b1, .int .u64 b2, .int .u64 b3, .int .u64 b4, .int .u64 b5, .int .u64 b6, .int .u64 b7]
          replace kE := kE.farRow (g' := R.heap.size) (by omega) #[.int .u64 b0, .int .u64 b1, .int .u64 b2, .int .u64 b3, .int .u64 b4, .int .u64 b5, .int .u64 b6, .int .u64 b7]
          replace q1 := q1.farRow (g' := R.heap.size) (by omega) #[.int .u64 b0, .int .u64 b1, .int .u64 b2, .int .u64 b3, .int .u64 b4, .int .u64 b5, .int .u64 b6, .int .u64 b7]
          replace q2 := q2.farRow (g' := R.heap.size) (by omega) #[.int .u64 b0, .int .u64 b1, .int .u64 b2, .int .u64 b3, .int .u64 b4, .int .u64 b5, .int .u64 b6, .int .u64 b7]
          replace hB := below_setRow hB (g := R.heap.size) (by omega) #[.int .u64 b0, .int .u64 b1, .int .u64 b2, .int .u64 b3, .int .u64 b4, .int .u64 b5, .int .u64 b6, .int .u64 b7]
          clear lM lE l1 l2
          go_wp2_with (refine row_store (R.heap.size) 26 _ _ q3 26 _ _ rfl rfl rfl rfl (by kernel_rfl) rfl (by kernel_rfl) ?_)
          clear q3
          have q3 := q4
          clear q4
          generalize w4.setRow R.heap.size #[.int .u64 b0, .int .u64 b1, .int .u64 b2, .int .u64 b3, .int .u64 b4, .int .u64 b5, .int .u64 b6, .int .u64 b7] = Z at *
          have hS : ∀ w', Below Z.heap.size Z w' → w'.cell? ⟨w.heap.size, 0, none⟩ = some (.int .i64 y) ∧ w'.cell? ⟨w.heap.size, 1, none⟩ = some (.int .i64 y0) ∧ w'.cell? ⟨w.heap.size, 2, none⟩ = some (.int .i64 y1) ∧ w'.cell? ⟨w.heap.size, 3, none⟩ = some (.int .i64 y2) ∧ w'.cell? ⟨w.heap.size, 4, none⟩ = some (.int .i64 y3) ∧ w'.cell? ⟨w.heap.size, 5, none⟩ = some (.int .i64 y4) ∧ w'.cell? ⟨w.heap.size, 6, none⟩ = some (.int .i64 y5) ∧ w'.cell? ⟨w.heap.size, 7, none⟩ = some (.int .i64 y6) ∧ w'.cell? ⟨w.heap.size + 1, 0, none⟩ = some (.int .i64 n) ∧ w'.cell? ⟨w.heap.size + 1, 1, none⟩ = some (.int .i64 m) ∧ w'.cell? ⟨w.heap.size + 1, 2, none⟩ = some (.string s) ∧ w'.cell? ⟨w1.heap.size, 0, none⟩ = some (.int .u64 a0) ∧ w'.cell? ⟨w1.heap.size, 1, none⟩ = some (.int .u64 a1) ∧ w'.cell? ⟨w1.heap.size, 2, none⟩ = some (.int .u64 a2) ∧ w'.cell? ⟨w1.heap.size, 3, none⟩ = some (.int .u64 a3) ∧ w'.cell? ⟨w1.heap.size, 4, none⟩ = some (.int .u64 a4) ∧ w'.cell? ⟨w1.heap.size, 5, none⟩ = some (.int .u64 a5) ∧ w'.cell? ⟨w1.heap.size, 6, none⟩ = some (.int .u64 a6) ∧ w'.cell? ⟨w1.heap.size, 7, none⟩ = some (.int .u64 a7) ∧ w'.cell? ⟨w2.heap.size, 0, none⟩ = some (.int .u64 b0) ∧ w'.cell? ⟨w2.heap.size, 1, none⟩ = some (.int .u64 b1) ∧ w'.cell? ⟨w2.heap.size, 2, none⟩ = some (.int .u64 b2) ∧ w'.cell? ⟨w2.heap.size, 3, none⟩ = some (.int .u64 b3) ∧ w'.cell? ⟨w2.heap.size, 4, none⟩ = some (.int .u64 b4) ∧ w'.cell? ⟨w2.heap.size, 5, none⟩ = some (.int .u64 b5) ∧ w'.cell? ⟨w2.heap.size, 6, none⟩ = some (.int .u64 b6) ∧ w'.cell? ⟨w2.heap.size, 7, none⟩ = some (.int .u64 b7) ∧ w'.cell? ⟨R.heap.size, 0, none⟩ = some (.int .u64 b0) ∧ w'.cell? ⟨R.heap.size, 1, none⟩ = some (.int .u64 b1) ∧ w'.cell? ⟨R.heap.size, 2, none⟩ = some (.int .u64 b2) ∧ w'.cell? ⟨R.heap.size, 3, none⟩ = some (.int .u64 b3) ∧ w'.cell? ⟨R.heap.size, 4, none⟩ = some (.int .u64 b4) ∧ w'.cell? ⟨R.heap.size, 5, none⟩ = some (.int .u64 b5) ∧ w'.cell? ⟨R.heap.size, 6, none⟩ = some (.int .u64 b6) ∧ w'.cell? ⟨R.heap.size, 7, none⟩ = some (.int .u64 b7) := fun w' hq => ⟨((kM.below hq kM.lt).cell 0).trans rfl, ((kM.below hq kM.lt).cell 1).trans rfl, ((kM.below hq kM.lt).cell 2).trans rfl, ((kM.below hq kM.lt).cell 3).trans rfl, ((kM.below hq kM.lt).cell 4).trans rfl, ((kM.below hq kM.lt).cell 5).trans rfl, ((kM.below hq kM.lt).cell 6).trans rfl, ((kM.below hq kM.lt).cell 7).trans rfl, ((kE.below hq kE.lt).cell 0).trans rfl, ((kE.below hq kE.lt).cell 1).trans rfl, ((kE.below hq kE.lt).cell 2).trans rfl, ((q1.below hq q1.lt).cell 0).trans rfl, ((q1.below hq q1.lt).cell 1).trans rfl, ((q1.below hq q1.lt).cell 2).trans rfl, ((q1.below hq q1.lt).cell 3).trans rfl, ((q1.below hq q1.lt).cell 4).trans rfl, ((q1.below hq q1.lt).cell 5).trans rfl, ((q1.below hq q1.lt).cell 6).trans rfl, ((q1.below hq q1.lt).cell 7).trans rfl, ((q2.below hq q2.lt).cell 0).trans rfl, ((q2.below hq q2.lt).cell 1).trans rfl, ((q2.below hq q2.lt).cell 2).trans rfl, ((q2.below hq q2.lt).cell 3).trans rfl, ((q2.below hq q2.lt).cell 4).trans rfl, ((q2.below hq q2.lt).cell 5).trans rfl, ((q2.below hq q2.lt).cell 6).trans rfl, ((q2.below hq q2.lt).cell 7).trans rfl, ((q3.below hq q3.lt).cell 0).trans rfl, ((q3.below hq q3.lt).cell 1).trans rfl, ((q3.below hq q3.lt).cell 2).trans rfl, ((q3.below hq q3.lt).cell 3).trans rfl, ((q3.below hq q3.lt).cell 4).trans rfl, ((q3.below hq q3.lt).cell 5).trans rfl, ((q3.below hq q3.lt).cell 6).trans rfl, ((q3.below hq q3.lt).cell 7).trans rfl⟩
          have hq : Below Z.heap.size Z Z.drew := (Below.refl _ Z).drew
          have HB := Lib.hid hB
          clear kM kE q1 q2 q3 hB
          have HS := Lib.hid hS
          clear hS
          have hS0 := HS.out _ hq
          go_region_held3 (fun w' => w'.cell? ⟨w.heap.size, 0, none⟩ = some (.int .i64 y) ∧ w'.cell? ⟨w.heap.size, 1, none⟩ = some (.int .i64 y0) ∧ w'.cell? ⟨w.heap.size, 2, none⟩ = some (.int .i64 y1) ∧ w'.cell? ⟨w.heap.size, 3, none⟩ = some (.int .i64 y2) ∧ w'.cell? ⟨w.heap.size, 4, none⟩ = some (.int .i64 y3) ∧ w'.cell? ⟨w.heap.size, 5, none⟩ = some (.int .i64 y4) ∧ w'.cell? ⟨w.heap.size, 6, none⟩ = some (.int .i64 y5) ∧ w'.cell? ⟨w.heap.size, 7, none⟩ = some (.int .i64 y6) ∧ w'.cell? ⟨w.heap.size + 1, 0, none⟩ = some (.int .i64 n) ∧ w'.cell? ⟨w.heap.size + 1, 1, none⟩ = some (.int .i64 m) ∧ w'.cell? ⟨w.heap.size + 1, 2, none⟩ = some (.string s) ∧ w'.cell? ⟨w1.heap.size, 0, none⟩ = some (.int .u64 a0) ∧ w'.cell? ⟨w1.heap.size, 1, none⟩ = some (.int .u64 a1) ∧ w'.cell? ⟨w1.heap.size, 2, none⟩ = some (.int .u64 a2) ∧ w'.cell? ⟨w1.heap.size, 3, none⟩ = some (.int .u64 a3) ∧ w'.cell? ⟨w1.heap.size, 4, none⟩ = some (.int .u64 a4) ∧ w'.cell? ⟨w1.heap.size, 5, none⟩ = some (.int .u64 a5) ∧ w'.cell? ⟨w1.heap.size, 6, none⟩ = some (.int .u64 a6) ∧ w'.cell? ⟨w1.heap.size, 7, none⟩ = some (.int .u64 a7) ∧ w'.cell? ⟨w2.heap.size, 0, none⟩ = some (.int .u64 b0) ∧ w'.cell? ⟨w2.heap.size, 1, none⟩ = some (.int .u64 b1) ∧ w'.cell? ⟨w2.heap.size, 2, none⟩ = some (.int .u64 b2) ∧ w'.cell? ⟨w2.heap.size, 3, none⟩ = some (.int .u64 b3) ∧ w'.cell? ⟨w2.heap.size, 4, none⟩ = some (.int .u64 b4) ∧ w'.cell? ⟨w2.heap.size, 5, none⟩ = some (.int .u64 b5) ∧ w'.cell? ⟨w2.heap.size, 6, none⟩ = some (.int .u64 b6) ∧ w'.cell? ⟨w2.heap.size, 7, none⟩ = some (.int .u64 b7) ∧ w'.cell? ⟨R.heap.size, 0, none⟩ = some (.int .u64 b0) ∧ w'.cell? ⟨R.heap.size, 1, none⟩ = some (.int .u64 b1) ∧ w'.cell? ⟨R.heap.size, 2, none⟩ = some (.int .u64 b2) ∧ w'.cell? ⟨R.heap.size, 3, none⟩ = some (.int .u64 b3) ∧ w'.cell? ⟨R.heap.size, 4, none⟩ = some (.int .u64 b4) ∧ w'.cell? ⟨R.heap.size, 5, none⟩ = some (.int .u64 b5) ∧ w'.cell? ⟨R.heap.size, 6, none⟩ = some (.int .u64 b6) ∧ w'.cell? ⟨R.heap.size, 7, none⟩ = some (.int .u64 b7))
            (first | exact hS0 | exact HS.out _ hq | go_keep)
            (first
              | (go_at_call 18; ((with_reducible refine (G1.out _).mono ?_); rintro e w9 ⟨rfl, hb⟩); replace hq := hq.trans (hb.mono hq.size); clear hb; have hS0 := HS.out _ hq)
              | (go_at_call 19; ((with_reducible refine (O1.out _).mono ?_); rintro e w9 ⟨rfl, hb⟩); replace hq := hq.trans (hb.mono hq.size); clear hb; have hS0 := HS.out _ hq)
              | (go_at_call 15; ((with_reducible refine (O2.out _).mono ?_); rintro e w9 ⟨rfl, hb⟩); replace hq := hq.trans (hb.mono hq.size); clear hb; have hS0 := HS.out _ hq)
              | (go_at_call 17; ((with_reducible refine (P1.out _).mono ?_); rintro e w9 ⟨rfl, hb⟩); replace hq := hq.trans (hb.mono hq.size); clear hb; have hS0 := HS.out _ hq)
              | (go_at_call 17; ((with_reducible refine (P2.out _).mono ?_); rintro e w9 ⟨rfl, hb⟩); replace hq := hq.trans (hb.mono hq.size); clear hb; have hS0 := HS.out _ hq)
              | (go_at_call 8; ((with_reducible refine (works_any _).mono ?_); rintro e w9 ⟨rfl, hb⟩); replace hq := hq.trans (hb.mono hq.size); clear hb; have hS0 := HS.out _ hq))
          all_goals
            go_wp2
            go_ret
            exact ⟨rfl, HB.out.trans (hq.mono HB.out.size)⟩
end Go.Proofs.Ytdgnbmcckknfiaa
