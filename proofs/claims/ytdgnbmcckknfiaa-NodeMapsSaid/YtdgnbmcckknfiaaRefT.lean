/- The walks of the document's answers: tables; and of the law's put. Conditions: none. -/
import Derived.Test.YtdgnbmcckknfiaaRefN
namespace Go.Proofs.Ytdgnbmcckknfiaa
open Go.RowKit
set_option linter.unusedSimpArgs false

theorem ptrs_all (xs : List Int) : ptrs 0 xs = xs.all rp0 := by
  unfold ptrs
  rw [List.not_any_eq_all_not]
  apply List.all_congr rfl
  intro x
  simp [rp0, ptrs]
theorem tabOk_all (y0 y1 y2 y3 y4 y5 y6 : Int) : tabOk y0 y1 y2 y3 y4 y5 y6 = [y0, y1, y2, y3, y4, y5, y6].all rp0 := ptrs_all _
theorem take_all {xs : List Int} {k : Nat} {x : Int} (hx : xs[k]? = some x) (h : (xs.take k).all rp0 = true) (h1 : rp0 x = true) : (xs.take (k + 1)).all rp0 = true := by
  rw [List.take_add_one, hx, List.all_append, h]
  simp [h1]
theorem take_not {xs : List Int} {k : Nat} {x : Int} (hx : xs[k]? = some x) (h1 : rp0 x = false) : xs.all rp0 = false := by
  rw [List.all_eq_false]
  exact ⟨x, List.mem_of_getElem? hx, by simp [h1]⟩
set_option maxHeartbeats 2000000 in
theorem rTableR_any (y0 y1 y2 y3 y4 y5 y6 : Int) (w : World) : Calls Try.prog 27 #[.agg #[.int .i64 y0, .int .i64 y1, .int .i64 y2, .int .i64 y3, .int .i64 y4, .int .i64 y5, .int .i64 y6]] w fun e w' => e = .returned (.bool (tabOk y0 y1 y2 y3 y4 y5 y6)) ∧ Below w.heap.size w w' := by
  have hx := Blk.new w 53 #[.int .i64 y0, .int .i64 y1, .int .i64 y2, .int .i64 y3, .int .i64 y4, .int .i64 y5, .int .i64 y6]
  have hB := (Below.refl _ w).alloc (Nat.le_refl _) (.cells #[.int .i64 y0, .int .i64 y1, .int .i64 y2, .int .i64 y3, .int .i64 y4, .int .i64 y5, .int .i64 y6] 53)
  have hall := Lib.hid (tabOk_all y0 y1 y2 y3 y4 y5 y6)
  go_enter Try.func27, Try.ntmps27
  go_wp2
  go_loop [3] (fun i => ∃ k : Nat, k ≤ 7 ∧ i = .int .i64 k ∧ ([y0, y1, y2, y3, y4, y5, y6].take k).all rp0 = true) (fun i => 7 - (intOf i).toNat)
  case atStart => exact ⟨0, by omega, rfl, rfl⟩
  case round =>
    obtain ⟨k, hk, rfl, hal⟩ := hrel
    by_cases hlt : k < 7
    · have hor : k = 0 ∨ k = 1 ∨ k = 2 ∨ k = 3 ∨ k = 4 ∨ k = 5 ∨ k = 6 := by omega
      clear hk hlt
      rcases hor with rfl | rfl | rfl | rfl | rfl | rfl | rfl
      · have hP := Lib.hid (point0_any y0)
        have kx := hx.cell 0
        simp at kx
        cases hv : rp0 y0
        · have hf := Lib.hid (hall.out.trans (take_not (k := 0) (x := y0) rfl hv))
          rw [hv] at hP
          clear hv hal
          go_wp2_with fail
          refine (hP.out _).mono ?_
          rintro e w1 ⟨rfl, rfl⟩
          go_wp2
          go_ret
          exact ⟨by rw [hf.out]; rfl, hB⟩
        · have hf := Lib.hid (take_all (k := 0) (x := y0) rfl hal hv)
          rw [hv] at hP
          clear hv hal
          go_wp2_with fail
          refine (hP.out _).mono ?_
          rintro e w1 ⟨rfl, rfl⟩
          go_wp2
          go_round
          case rel => exact ⟨1, by omega, by simp, hf.out⟩
          case measure => simp [intOf]
      · have hP := Lib.hid (point0_any y1)
        have kx := hx.cell 1
        simp at kx
        cases hv : rp0 y1
        · have hf := Lib.hid (hall.out.trans (take_not (k := 1) (x := y1) rfl hv))
          rw [hv] at hP
          clear hv hal
          go_wp2_with fail
          refine (hP.out _).mono ?_
          rintro e w1 ⟨rfl, rfl⟩
          go_wp2
          go_ret
          exact ⟨by rw [hf.out]; rfl, hB⟩
        · have hf := Lib.hid (take_all (k := 1) (x := y1) rfl hal hv)
          rw [hv] at hP
          clear hv hal
          go_wp2_with fail
          refine (hP.out _).mono ?_
          rintro e w1 ⟨rfl, rfl⟩
          go_wp2
          go_round
          case rel => exact ⟨2, by omega, by simp, hf.out⟩
          case measure => simp [intOf]
      · have hP := Lib.hid (point0_any y2)
        have kx := hx.cell 2
        simp at kx
        cases hv : rp0 y2
        · have hf := Lib.hid (hall.out.trans (take_not (k := 2) (x := y2) rfl hv))
          rw [hv] at hP
          clear hv hal
          go_wp2_with fail
          refine (hP.out _).mono ?_
          rintro e w1 ⟨rfl, rfl⟩
          go_wp2
          go_ret
          exact ⟨by rw [hf.out]; rfl, hB⟩
        · have hf := Lib.hid (take_all (k := 2) (x := y2) rfl hal hv)
          rw [hv] at hP
          clear hv hal
          go_wp2_with fail
          refine (hP.out _).mono ?_
          rintro e w1 ⟨rfl, rfl⟩
          go_wp2
          go_round
          case rel => exact ⟨3, by omega, by simp, hf.out⟩
          case measure => simp [intOf]
      · have hP := Lib.hid (point0_any y3)
        have kx := hx.cell 3
        simp at kx
        cases hv : rp0 y3
        · have hf := Lib.hid (hall.out.trans (take_not (k := 3) (x := y3) rfl hv))
          rw [hv] at hP
          clear hv hal
          go_wp2_with fail
          refine (hP.out _).mono ?_
          rintro e w1 ⟨rfl, rfl⟩
          go_wp2
          go_ret
          exact ⟨by rw [hf.out]; rfl, hB⟩
        · have hf := Lib.hid (take_all (k := 3) (x := y3) rfl hal hv)
          rw [hv] at hP
          clear hv hal
          go_wp2_with fail
          refine (hP.out _).mono ?_
          rintro e w1 ⟨rfl, rfl⟩
          go_wp2
          go_round
          case rel => exact ⟨4, by omega, by simp, hf.out⟩
          case measure => simp [intOf]
      · have hP := Lib.hid (point0_any y4)
        have kx := hx.cell 4
        simp at kx
        cases hv : rp0 y4
        · have hf := Lib.hid (hall.out.trans (take_not (k := 4) (x := y4) rfl hv))
          rw [hv] at hP
          clear hv hal
          go_wp2_with fail
          refine (hP.out _).mono ?_
          rintro e w1 ⟨rfl, rfl⟩
          go_wp2
          go_ret
          exact ⟨by rw [hf.out]; rfl, hB⟩
        · have hf := Lib.hid (take_all (k := 4) (x := y4) rfl hal hv)
          rw [hv] at hP
          clear hv hal
          go_wp2_with fail
          refine (hP.out _).mono ?_
          rintro e w1 ⟨rfl, rfl⟩
          go_wp2
          go_round
          case rel => exact ⟨5, by omega, by simp, hf.out⟩
          case measure => simp [intOf]
      · have hP := Lib.hid (point0_any y5)
        have kx := hx.cell 5
        simp at kx
        cases hv : rp0 y5
        · have hf := Lib.hid (hall.out.trans (take_not (k := 5) (x := y5) rfl hv))
          rw [hv] at hP
          clear hv hal
          go_wp2_with fail
          refine (hP.out _).mono ?_
          rintro e w1 ⟨rfl, rfl⟩
          go_wp2
          go_ret
          exact ⟨by rw [hf.out]; rfl, hB⟩
        · have hf := Lib.hid (take_all (k := 5) (x := y5) rfl hal hv)
          rw [hv] at hP
          clear hv hal
          go_wp2_with fail
          refine (hP.out _).mono ?_
          rintro e w1 ⟨rfl, rfl⟩
          go_wp2
          go_round
          case rel => exact ⟨6, by omega, by simp, hf.out⟩
          case measure => simp [intOf]
      · have hP := Lib.hid (point0_any y6)
        have kx := hx.cell 6
        simp at kx
        cases hv : rp0 y6
        · have hf := Lib.hid (hall.out.trans (take_not (k := 6) (x := y6) rfl hv))
          rw [hv] at hP
          clear hv hal
          go_wp2_with fail
          refine (hP.out _).mono ?_
          rintro e w1 ⟨rfl, rfl⟩
          go_wp2
          go_ret
          exact ⟨by rw [hf.out]; rfl, hB⟩
        · have hf := Lib.hid (take_all (k := 6) (x := y6) rfl hal hv)
          rw [hv] at hP
          clear hv hal
          go_wp2_with fail
          refine (hP.out _).mono ?_
          rintro e w1 ⟨rfl, rfl⟩
          go_wp2
          go_round
          case rel => exact ⟨7, by omega, by simp, hf.out⟩
          case measure => simp [intOf]
    · obtain rfl : k = 7 := by omega
      have hf := Lib.hid (hall.out.trans hal)
      clear hal
      go_wp2
      go_ret
      exact ⟨by rw [hf.out]; rfl, hB⟩
/-- What the document's answer says of a table's words, whether it may be or not. -/
def rtabL (y0 y1 y2 y3 y4 y5 y6 : Int) : Array Value := ln8 (IntKind.u64.wrap y0) (IntKind.u64.wrap y1) (IntKind.u64.wrap y2) (IntKind.u64.wrap y3) (IntKind.u64.wrap y4) (IntKind.u64.wrap y5) (IntKind.u64.wrap y6) 0
theorem rtabL_ok {y0 y1 y2 y3 y4 y5 y6 : Int} (h : tabOk y0 y1 y2 y3 y4 y5 y6 = true) : tabL y0 y1 y2 y3 y4 y5 y6 = rtabL y0 y1 y2 y3 y4 y5 y6 := by
  have hw := ptr_wrap (by omega) h
  unfold tabL
  rw [if_pos h]
  unfold rtabL
  rw [hw y0 (by simp), hw y1 (by simp), hw y2 (by simp), hw y3 (by simp), hw y4 (by simp), hw y5 (by simp), hw y6 (by simp)]
set_option maxRecDepth 100000 in
set_option maxHeartbeats 4000000 in
theorem rTableP_any (y0 y1 y2 y3 y4 y5 y6 : Int) (w : World) : Calls Try.prog 26 #[.agg #[.int .i64 y0, .int .i64 y1, .int .i64 y2, .int .i64 y3, .int .i64 y4, .int .i64 y5, .int .i64 y6]] w fun e w' => e = .returned (.agg (rtabL y0 y1 y2 y3 y4 y5 y6)) ∧ Below w.heap.size w w' := by
  have k0 := Blk.new w 53 #[.int .i64 y0, .int .i64 y1, .int .i64 y2, .int .i64 y3, .int .i64 y4, .int .i64 y5, .int .i64 y6]
  have k1 := Blk.new (w.alloc (.cells #[.int .i64 y0, .int .i64 y1, .int .i64 y2, .int .i64 y3, .int .i64 y4, .int .i64 y5, .int .i64 y6] 53)) 26 #[.int .u64 0, .int .u64 0, .int .u64 0, .int .u64 0, .int .u64 0, .int .u64 0, .int .u64 0, .int .u64 0]
  have k2 := Blk.new ((w.alloc (.cells #[.int .i64 y0, .int .i64 y1, .int .i64 y2, .int .i64 y3, .int .i64 y4, .int .i64 y5, .int .i64 y6] 53)).alloc (.cells #[.int .u64 0, .int .u64 0, .int .u64 0, .int .u64 0, .int .u64 0, .int .u64 0, .int .u64 0, .int .u64 0] 26)) 26 #[.int .u64 0, .int .u64 0, .int .u64 0, .int .u64 0, .int .u64 0, .int .u64 0, .int .u64 0, .int .u64 0]
  replace k0 := (k0.alloc (.cells #[.int .u64 0, .int .u64 0, .int .u64 0, .int .u64 0, .int .u64 0, .int .u64 0, .int .u64 0, .int .u64 0] 26)).alloc (.cells #[.int .u64 0, .int .u64 0, .int .u64 0, .int .u64 0, .int .u64 0, .int .u64 0, .int .u64 0, .int .u64 0] 26)
  replace k1 := k1.alloc (.cells #[.int .u64 0, .int .u64 0, .int .u64 0, .int .u64 0, .int .u64 0, .int .u64 0, .int .u64 0, .int .u64 0] 26)
  simp only [World.size_alloc] at k0 k1 k2
  have hB := (((Below.refl _ w).alloc (Nat.le_refl _) (.cells #[.int .i64 y0, .int .i64 y1, .int .i64 y2, .int .i64 y3, .int .i64 y4, .int .i64 y5, .int .i64 y6] 53)).alloc (by simp) (.cells #[.int .u64 0, .int .u64 0, .int .u64 0, .int .u64 0, .int .u64 0, .int .u64 0, .int .u64 0, .int .u64 0] 26)).alloc (by simp; omega) (.cells #[.int .u64 0, .int .u64 0, .int .u64 0, .int .u64 0, .int .u64 0, .int .u64 0, .int .u64 0, .int .u64 0] 26)
  have H := Lib.hid (And.intro k0 (And.intro k1 (And.intro k2 hB)))
  clear k0 k1 k2 hB
  go_enter Try.func26, Try.ntmps26
  go_wp2
  go_loopw [4] (fun i wr => ∃ k : Nat, k ≤ 7 ∧ i = .int .i64 k ∧ Blk wr w.heap.size 53 #[.int .i64 y0, .int .i64 y1, .int .i64 y2, .int .i64 y3, .int .i64 y4, .int .i64 y5, .int .i64 y6] ∧ Blk wr (w.heap.size + 1) 26 #[.int .u64 0, .int .u64 0, .int .u64 0, .int .u64 0, .int .u64 0, .int .u64 0, .int .u64 0, .int .u64 0] ∧ Blk wr (w.heap.size + 1 + 1) 26 (tabAt (IntKind.u64.wrap y0) (IntKind.u64.wrap y1) (IntKind.u64.wrap y2) (IntKind.u64.wrap y3) (IntKind.u64.wrap y4) (IntKind.u64.wrap y5) (IntKind.u64.wrap y6) k) ∧ Below w.heap.size w wr) (fun i _ => 7 - (intOf i).toNat)
  case atStart => exact ⟨0, by omega, rfl, H.out⟩
  case round =>
    obtain ⟨k, hk, rfl, k0, k1, k2, hB⟩ := hrel
    obtain ⟨wo, rfl⟩ : ∃ wo : World, wo = wr := ⟨_, rfl⟩
    by_cases hlt : k < 7
    · have hor : k = 0 ∨ k = 1 ∨ k = 2 ∨ k = 3 ∨ k = 4 ∨ k = 5 ∨ k = 6 := by omega
      clear hk hlt
      rcases hor with rfl | rfl | rfl | rfl | rfl | rfl | rfl
      · have kx := k0.cell 0
        have kl := k2.cell 0
        have kf := k2.frozen 0
        have kz := k2.set_ 0 (.int .u64 (IntKind.u64.wrap y0))
        simp [tabAt, ln8] at kx kl kz
        go_wp2
        go_roundw
        case rel => exact ⟨1, by omega, by simp, k0.far (p := ⟨w.heap.size + 1 + 1, 0, none⟩) (by simp; omega) _, k1.far (p := ⟨w.heap.size + 1 + 1, 0, none⟩) (by simp) _, kz, hB.setCell (p := ⟨w.heap.size + 1 + 1, 0, none⟩) (by simp; omega) _⟩
        case measure => simp [intOf]
      · have kx := k0.cell 1
        have kl := k2.cell 1
        have kf := k2.frozen 1
        have kz := k2.set_ 1 (.int .u64 (IntKind.u64.wrap y1))
        simp [tabAt, ln8] at kx kl kz
        go_wp2
        go_roundw
        case rel => exact ⟨2, by omega, by simp, k0.far (p := ⟨w.heap.size + 1 + 1, 1, none⟩) (by simp; omega) _, k1.far (p := ⟨w.heap.size + 1 + 1, 1, none⟩) (by simp) _, kz, hB.setCell (p := ⟨w.heap.size + 1 + 1, 1, none⟩) (by simp; omega) _⟩
        case measure => simp [intOf]
      · have kx := k0.cell 2
        have kl := k2.cell 2
        have kf := k2.frozen 2
        have kz := k2.set_ 2 (.int .u64 (IntKind.u64.wrap y2))
        simp [tabAt, ln8] at kx kl kz
        go_wp2
        go_roundw
        case rel => exact ⟨3, by omega, by simp, k0.far (p := ⟨w.heap.size + 1 + 1, 2, none⟩) (by simp; omega) _, k1.far (p := ⟨w.heap.size + 1 + 1, 2, none⟩) (by simp) _, kz, hB.setCell (p := ⟨w.heap.size + 1 + 1, 2, none⟩) (by simp; omega) _⟩
        case measure => simp [intOf]
      · have kx := k0.cell 3
        have kl := k2.cell 3
        have kf := k2.frozen 3
        have kz := k2.set_ 3 (.int .u64 (IntKind.u64.wrap y3))
        simp [tabAt, ln8] at kx kl kz
        go_wp2
        go_roundw
        case rel => exact ⟨4, by omega, by simp, k0.far (p := ⟨w.heap.size + 1 + 1, 3, none⟩) (by simp; omega) _, k1.far (p := ⟨w.heap.size + 1 + 1, 3, none⟩) (by simp) _, kz, hB.setCell (p := ⟨w.heap.size + 1 + 1, 3, none⟩) (by simp; omega) _⟩
        case measure => simp [intOf]
      · have kx := k0.cell 4
        have kl := k2.cell 4
        have kf := k2.frozen 4
        have kz := k2.set_ 4 (.int .u64 (IntKind.u64.wrap y4))
        simp [tabAt, ln8] at kx kl kz
        go_wp2
        go_roundw
        case rel => exact ⟨5, by omega, by simp, k0.far (p := ⟨w.heap.size + 1 + 1, 4, none⟩) (by simp; omega) _, k1.far (p := ⟨w.heap.size + 1 + 1, 4, none⟩) (by simp) _, kz, hB.setCell (p := ⟨w.heap.size + 1 + 1, 4, none⟩) (by simp; omega) _⟩
        case measure => simp [intOf]
      · have kx := k0.cell 5
        have kl := k2.cell 5
        have kf := k2.frozen 5
        have kz := k2.set_ 5 (.int .u64 (IntKind.u64.wrap y5))
        simp [tabAt, ln8] at kx kl kz
        go_wp2
        go_roundw
        case rel => exact ⟨6, by omega, by simp, k0.far (p := ⟨w.heap.size + 1 + 1, 5, none⟩) (by simp; omega) _, k1.far (p := ⟨w.heap.size + 1 + 1, 5, none⟩) (by simp) _, kz, hB.setCell (p := ⟨w.heap.size + 1 + 1, 5, none⟩) (by simp; omega) _⟩
        case measure => simp [intOf]
      · have kx := k0.cell 6
        have kl := k2.cell 6
        have kf := k2.frozen 6
        have kz := k2.set_ 6 (.int .u64 (IntKind.u64.wrap y6))
        simp [tabAt, ln8] at kx kl kz
        go_wp2
        go_roundw
        case rel => exact ⟨7, by omega, by simp, k0.far (p := ⟨w.heap.size + 1 + 1, 6, none⟩) (by simp; omega) _, k1.far (p := ⟨w.heap.size + 1 + 1, 6, none⟩) (by simp) _, kz, hB.setCell (p := ⟨w.heap.size + 1 + 1, 6, none⟩) (by simp; omega) _⟩
        case measure => simp [intOf]
    · obtain rfl : k = 7 := by omega
      have kz := k1.setRow (rtabL y0 y1 y2 y3 y4 y5 y6)
      have k2' : Blk wo (w.heap.size + 1 + 1) 26 (rtabL y0 y1 y2 y3 y4 y5 y6) := k2
      clear k2
      go_wp2_with (first | (refine row_load (w.heap.size + 1 + 1) 26 _ k2' 26 _ rfl rfl rfl _ Try.underlying26 rfl (by kernel_rfl) ?_) | (refine row_store (w.heap.size + 1) 26 _ _ k1 26 _ _ rfl rfl rfl rfl (by kernel_rfl) rfl (by kernel_rfl) ?_))
      refine bodyPost_ret (results_cell1 rfl _ _ (w.heap.size + 1) 26 _ _ rfl (k1.setRow _) Try.underlying26 rfl (by kernel_rfl)) rfl ?_
      exact ⟨rfl, below_setRow hB (by omega) _⟩

set_option maxHeartbeats 2000000 in
theorem put_yes (X : Array Value) (hs : X.size = 8) (heq : ∀ W : World, (Op.equalIn 10000 26 (.agg X) (.agg X)).run Try.prog W = .ok true W) (w : World) :
    Calls Try.prog 17 #[.agg X, .agg X, .int .i64 0, .bool true] w fun e w' => e = .returned (.bool true) ∧ Below w.heap.size w w' := by
  have k0 := (Blk.new w 26 X).alloc (.cells X 26)
  have k1 := Blk.new (w.alloc (.cells X 26)) 26 X
  rw [World.size_alloc] at k1
  have hB := ((Below.refl _ w).alloc (Nat.le_refl _) (.cells X 26)).alloc (by simp) (.cells X 26)
  go_enter Try.func17, Try.ntmps17
  go_wp2_with (first | (go_at_call 10; refine (num_any _ _).mono ?_; rintro e w' ⟨rfl, rfl⟩) | (refine row_load w.heap.size 26 _ k0 26 _ rfl rfl rfl _ Try.underlying26 rfl (by rw [hs]; kernel_rfl) ?_) | (refine row_load (w.heap.size + 1) 26 _ k1 26 _ rfl rfl rfl _ Try.underlying26 rfl (by rw [hs]; kernel_rfl) ?_))
  go_ret
  exact ⟨rfl, hB⟩
set_option maxHeartbeats 2000000 in
theorem put_no (Y : Array Value) (w : World) :
    Calls Try.prog 17 #[.agg #[.int .u64 0, .int .u64 0, .int .u64 0, .int .u64 0, .int .u64 0, .int .u64 0, .int .u64 0, .int .u64 0], .agg Y, .int .i64 2, .bool false] w fun e w' => e = .returned (.bool true) ∧ Below w.heap.size w w' := by
  have k0 := (Blk.new w 26 #[.int .u64 0, .int .u64 0, .int .u64 0, .int .u64 0, .int .u64 0, .int .u64 0, .int .u64 0, .int .u64 0]).alloc (.cells Y 26)
  have hB := ((Below.refl _ w).alloc (Nat.le_refl _) (.cells #[.int .u64 0, .int .u64 0, .int .u64 0, .int .u64 0, .int .u64 0, .int .u64 0, .int .u64 0, .int .u64 0] 26)).alloc (by simp) (.cells Y 26)
  have heq : ∀ W : World, (Op.equalIn 10000 26 (.agg #[.int .u64 0, .int .u64 0, .int .u64 0, .int .u64 0, .int .u64 0, .int .u64 0, .int .u64 0, .int .u64 0]) (.agg #[.int .u64 0, .int .u64 0, .int .u64 0, .int .u64 0, .int .u64 0, .int .u64 0, .int .u64 0, .int .u64 0])).run Try.prog W = .ok true W := fun W => by kernel_rfl
  go_enter Try.func17, Try.ntmps17
  go_wp2_with (first | (go_at_call 10; refine (num_any _ _).mono ?_; rintro e w' ⟨rfl, rfl⟩) | (refine row_load (w.heap.size) 26 _ k0 26 _ rfl rfl rfl _ Try.underlying26 rfl (by kernel_rfl) ?_))
  go_ret
  exact ⟨rfl, hB⟩
/-- What is put, held against the document's answer. -/
theorem put_both (ok : Bool) (X Y : Array Value) (e : Int) (h1 : ok = true → X = Y ∧ e = 0 ∧ ∃ xs : List Int, xs.length = 8 ∧ X = (xs.map (Value.int .u64)).toArray) (h2 : ok = false → X = #[.int .u64 0, .int .u64 0, .int .u64 0, .int .u64 0, .int .u64 0, .int .u64 0, .int .u64 0, .int .u64 0] ∧ e = 2) (w : World) :
    Calls Try.prog 17 #[.agg X, .agg Y, .int .i64 e, .bool ok] w fun e w' => e = .returned (.bool true) ∧ Below w.heap.size w w' := by
  cases ok
  · obtain ⟨rfl, rfl⟩ := h2 rfl
    exact put_no Y w
  · obtain ⟨rfl, rfl, xs, h8, rfl⟩ := h1 rfl
    exact put_yes _ (by simpa using h8) (fun W => by have := line_eq8 xs xs h8 h8 W; rwa [decide_eq_true rfl] at this) w
theorem put_sup (r l : Int) (w : World) : Calls Try.prog 17 #[.agg (supL r l), .agg (rsupL r l), .int .i64 (supE r l), .bool (supOk r l)] w fun e w' => e = .returned (.bool true) ∧ Below w.heap.size w w' :=
  put_both _ _ _ _ (fun h => ⟨rsupL_ok h, by unfold supE; rw [h]; rfl, [8602284742314584430, r, l, 0, 0, 0, 0, 0], rfl, by unfold supL; rw [h]; rfl⟩) (fun h => by unfold supL supE; rw [h]; exact ⟨rfl, rfl⟩) w
theorem put_ino (k l t : Int) (w : World) : Calls Try.prog 17 #[.agg (inoL k l t), .agg (rinoL k l t), .int .i64 (inoE k l t), .bool (inoOk k l t)] w fun e w' => e = .returned (.bool true) ∧ Below w.heap.size w w' :=
  put_both _ _ _ _ (fun h => ⟨rinoL_ok h, by unfold inoE; rw [h]; rfl, [k + 256 * l, t, 0, 0, 0, 0, 0, 0], rfl, by unfold inoL; rw [h]; rfl⟩) (fun h => by unfold inoL inoE; rw [h]; exact ⟨rfl, rfl⟩) w
theorem put_tab (y0 y1 y2 y3 y4 y5 y6 : Int) (w : World) : Calls Try.prog 17 #[.agg (tabL y0 y1 y2 y3 y4 y5 y6), .agg (rtabL y0 y1 y2 y3 y4 y5 y6), .int .i64 (tabE y0 y1 y2 y3 y4 y5 y6), .bool (tabOk y0 y1 y2 y3 y4 y5 y6)] w fun e w' => e = .returned (.bool true) ∧ Below w.heap.size w w' :=
  put_both _ _ _ _ (fun h => ⟨rtabL_ok h, by unfold tabE; rw [h]; rfl, [y0, y1, y2, y3, y4, y5, y6, 0], rfl, by unfold tabL; rw [h]; rfl⟩) (fun h => by unfold tabL tabE; rw [h]; exact ⟨rfl, rfl⟩) w
end Go.Proofs.Ytdgnbmcckknfiaa
