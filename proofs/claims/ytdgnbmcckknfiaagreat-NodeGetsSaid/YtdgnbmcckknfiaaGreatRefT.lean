/- The walks of the document's answers: tables; and of the law's put. Conditions: none. -/
import Derived.Test.YtdgnbmcckknfiaaGreatRefN
namespace Go.Proofs.YtdgnbmcckknfiaaGreat
open Go.RowKit
set_option linter.unusedSimpArgs false

theorem ptrs_all (xs : List Int) : ptrs 0 xs = xs.all rp0 := by
  unfold ptrs
  rw [List.not_any_eq_all_not]
  apply List.all_congr rfl
  intro x
  simp [rp0, ptrs]
theorem tabOk_all (y0 y1 y2 y3 y4 y5 y6 : Int) : tabOk y0 y1 y2 y3 y4 y5 y6 = [y0, y1, y2, y3, y4, y5, y6].all rp0 := ptrs_all _
theorem take_all {xs : List Int} {k : Nat} {x : Int} (hx : xs[k]? = some x) (h : (xs.take k).all rp0 = true) (h1 : rp0 x = true) : (xs.take (k + 1)).all rp0 = true := by
  rw [List.take_add_one, hx, List.all_append, h]
  simp [h1]
theorem take_not {xs : List Int} {k : Nat} {x : Int} (hx : xs[k]? = some x) (h1 : rp0 x = false) : xs.all rp0 = false := by
  rw [List.all_eq_false]
  exact ⟨x, List.mem_of_getElem? hx, by simp [h1]⟩
set_option maxHeartbeats 2000000 in
theorem rTableR_any (y0 y1 y2 y3 y4 y5 y6 : Int) (w : World) : Calls Tryz.prog 32 #[.agg #[.int .i64 y0, .int .i64 y1, .int .i64 y2, .int .i64 y3, .int .i64 y4, .int .i64 y5, .int .i64 y6]] w fun e w' => e = .returned (.bool (tabOk y0 y1 y2 y3 y4 y5 y6)) ∧ Below w.heap.size w w' := by
  have hx := Blk.new w 40 #[.int .i64 y0, .int .i64 y1, .int .i64 y2, .int .i64 y3, .int .i64 y4, .int .i64 y5, .int .i64 y6]
  have hB := (Below.refl _ w).alloc (Nat.le_refl _) (.cells #[.int .i64 y0, .int .i64 y1, .int .i64 y2, .int .i64 y3, .int .i64 y4, .int .i64 y5, .int .i64 y6] 40)
  have hall := Lib.hid (tabOk_all y0 y1 y2 y3 y4 y5 y6)
  go_enter Tryz.func32, Tryz.ntmps32
  go_wp2
  go_loop [3] (fun i => ∃ k : Nat, k ≤ 7 ∧ i = .int .i64 k ∧ ([y0, y1, y2, y3, y4, y5, y6].take k).all rp0 = true) (fun i => 7 - (intOf i).toNat)
  case atStart => exact ⟨0, by omega, rfl, rfl⟩
  case round =>
    obtain ⟨k, hk, rfl, hal⟩ := hrel
    by_cases hlt : k < 7
    · have hor : k = 0 ∨ k = 1 ∨ k = 2 ∨ k = 3 ∨ k = 4 ∨ k = 5 ∨ k = 6 := by omega
      clear hk hlt
      rcases hor with rfl | rfl | rfl | rfl | rfl | rfl | rfl
      · have hP := Lib.hid (point0_any y0)
        have kx := hx.cell 0
        simp at kx
        cases hv : rp0 y0
        · have hf := Lib.hid (hall.out.trans (take_not (k := 0) (x := y0) rfl hv))
          rw [hv] at hP
          clear hv hal
          go_wp2_with fail
          refine (hP.out _).mono ?_
          rintro e w1 ⟨rfl, rfl⟩
          go_wp2
          go_ret
          exact ⟨by rw [hf.out]; rfl, hB⟩
        · have hf := Lib.hid (take_all (k := 0) (x := y0) rfl hal hv)
          rw [hv] at hP
          clear hv hal
          go_wp2_with fail
          refine (hP.out _).mono ?_
          rintro e w1 ⟨rfl, rfl⟩
          go_wp2
          go_round
          case rel => exact ⟨1, by omega, by simp, hf.out⟩
          case measure => simp [intOf]
      · have hP := Lib.hid (point0_any y1)
        have kx := hx.cell 1
        simp at kx
        cases hv : rp0 y1
        · have hf := Lib.hid (hall.out.trans (take_not (k := 1) (x := y1) rfl hv))
          rw [hv] at hP
          clear hv hal
          go_wp2_with fail
          refine (hP.out _).mono ?_
          rintro e w1 ⟨rfl, rfl⟩
          go_wp2
          go_ret
          exact ⟨by rw [hf.out]; rfl, hB⟩
        · have hf := Lib.hid (take_all (k := 1) (x := y1) rfl hal hv)
          rw [hv] at hP
          clear hv hal
          go_wp2_with fail
          refine (hP.out _).mono ?_
          rintro e w1 ⟨rfl, rfl⟩
          go_wp2
          go_round
          case rel => exact ⟨2, by omega, by simp, hf.out⟩
          case measure => simp [intOf]
      · have hP := Lib.hid (point0_any y2)
        have kx := hx.cell 2
        simp at kx
        cases hv : rp0 y2
        · have hf := Lib.hid (hall.out.trans (take_not (k := 2) (x := y2) rfl hv))
          rw [hv] at hP
          clear hv hal
          go_wp2_with fail
          refine (hP.out _).mono ?_
          rintro e w1 ⟨rfl, rfl⟩
          go_wp2
          go_ret
          exact ⟨by rw [hf.out]; rfl, hB⟩
        · have hf := Lib.hid (take_all (k := 2) (x := y2) rfl hal hv)
          rw [hv] at hP
          clear hv hal
          go_wp2_with fail
          refine (hP.out _).mono ?_
          rintro e w1 ⟨rfl, rfl⟩
          go_wp2
          go_round
          case rel => exact ⟨3, by omega, by simp, hf.out⟩
          case measure => simp [intOf]
      · have hP := Lib.hid (point0_any y3)
        have kx := hx.cell 3
        simp at kx
        cases hv : rp0 y3
        · have hf := Lib.hid (hall.out.trans (take_not (k := 3) (x := y3) rfl hv))
          rw [hv] at hP
          clear hv hal
          go_wp2_with fail
          refine (hP.out _).mono ?_
          rintro e w1 ⟨rfl, rfl⟩
          go_wp2
          go_ret
          exact ⟨by rw [hf.out]; rfl, hB⟩
        · have hf := Lib.hid (take_all (k := 3) (x := y3) rfl hal hv)
          rw [hv] at hP
          clear hv hal
          go_wp2_with fail
          refine (hP.out _).mono ?_
          rintro e w1 ⟨rfl, rfl⟩
          go_wp2
          go_round
          case rel => exact ⟨4, by omega, by simp, hf.out⟩
          case measure => simp [intOf]
      · have hP := Lib.hid (point0_any y4)
        have kx := hx.cell 4
        simp at kx
        cases hv : rp0 y4
        · have hf := Lib.hid (hall.out.trans (take_not (k := 4) (x := y4) rfl hv))
          rw [hv] at hP
          clear hv hal
          go_wp2_with fail
          refine (hP.out _).mono ?_
          rintro e w1 ⟨rfl, rfl⟩
          go_wp2
          go_ret
          exact ⟨by rw [hf.out]; rfl, hB⟩
        · have hf := Lib.hid (take_all (k := 4) (x := y4) rfl hal hv)
          rw [hv] at hP
          clear hv hal
          go_wp2_with fail
          refine (hP.out _).mono ?_
          rintro e w1 ⟨rfl, rfl⟩
          go_wp2
          go_round
          case rel => exact ⟨5, by omega, by simp, hf.out⟩
          case measure => simp [intOf]
      · have hP := Lib.hid (point0_any y5)
        have kx := hx.cell 5
        simp at kx
        cases hv : rp0 y5
        · have hf := Lib.hid (hall.out.trans (take_not (k := 5) (x := y5) rfl hv))
          rw [hv] at hP
          clear hv hal
          go_wp2_with fail
          refine (hP.out _).mono ?_
          rintro e w1 ⟨rfl, rfl⟩
          go_wp2
          go_ret
          exact ⟨by rw [hf.out]; rfl, hB⟩
        · have hf := Lib.hid (take_all (k := 5) (x := y5) rfl hal hv)
          rw [hv] at hP
          clear hv hal
          go_wp2_with fail
          refine (hP.out _).mono ?_
          rintro e w1 ⟨rfl, rfl⟩
          go_wp2
          go_round
          case rel => exact ⟨6, by omega, by simp, hf.out⟩
          case measure => simp [intOf]
      · have hP := Lib.hid (point0_any y6)
        have kx := hx.cell 6
        simp at kx
        cases hv : rp0 y6
        · have hf := Lib.hid (hall.out.trans (take_not (k := 6) (x := y6) rfl hv))
          rw [hv] at hP
          clear hv hal
          go_wp2_with fail
          refine (hP.out _).mono ?_
          rintro e w1 ⟨rfl, rfl⟩
          go_wp2
          go_ret
          exact ⟨by rw [hf.out]; rfl, hB⟩
        · have hf := Lib.hid (take_all (k := 6) (x := y6) rfl hal hv)
          rw [hv] at hP
          clear hv hal
          go_wp2_with fail
          refine (hP.out _).mono ?_
          rintro e w1 ⟨rfl, rfl⟩
          go_wp2
          go_round
          case rel => exact ⟨7, by omega, by simp, hf.out⟩
          case measure => simp [intOf]
    · obtain rfl : k = 7 := by omega
      have hf := Lib.hid (hall.out.trans hal)
      clear hal
      go_wp2
      go_ret
      exact ⟨by rw [hf.out]; rfl, hB⟩
/-- What the document's answer says of a table's words, whether it may be or not. -/
def rtabL (y0 y1 y2 y3 y4 y5 y6 : Int) : Array Value := ln8 (IntKind.u64.wrap y0) (IntKind.u64.wrap y1) (IntKind.u64.wrap y2) (IntKind.u64.wrap y3) (IntKind.u64.wrap y4) (IntKind.u64.wrap y5) (IntKind.u64.wrap y6) 0
theorem rtabL_ok {y0 y1 y2 y3 y4 y5 y6 : Int} (h : tabOk y0 y1 y2 y3 y4 y5 y6 = true) : tabL y0 y1 y2 y3 y4 y5 y6 = rtabL y0 y1 y2 y3 y4 y5 y6 := by
  have hw := ptr_wrap (by omega) h
  unfold tabL
  rw [if_pos h]
  unfold rtabL
  rw [hw y0 (by simp), hw y1 (by simp), hw y2 (by simp), hw y3 (by simp), hw y4 (by simp), hw y5 (by simp), hw y6 (by simp)]
end Go.Proofs.YtdgnbmcckknfiaaGreat
