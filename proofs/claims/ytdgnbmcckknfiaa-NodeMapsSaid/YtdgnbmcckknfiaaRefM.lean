/- The walks of the document's answers: chunks and maps. Conditions: none. -/
import Derived.Test.YtdgnbmcckknfiaaRefT
namespace Go.Proofs.Ytdgnbmcckknfiaa
open Go.RowKit
set_option linter.unusedSimpArgs false

set_option maxHeartbeats 1000000 in
theorem rChunks_any (y : Int) (h : chOk y = true) (w : World) : Calls Try.prog 14 #[.int .i64 y] w fun e w' => e = .returned (.int .i64 (chN y)) ∧ w = w' := by
  have e1 : chN y = (y + 63) / 64 := by unfold chN; rw [if_pos h]
  simp only [chOk, Bool.and_eq_true, decide_eq_true_eq] at h
  obtain ⟨c3, c4⟩ := h
  obtain ⟨d, hd⟩ : ∃ d, (y + 63) / 64 = d := ⟨_, rfl⟩
  have td2 : (y + 63).tdiv 64 = d := by rw [Int.tdiv_eq_ediv_of_nonneg (by omega), hd]
  have d0 : 0 ≤ d := by omega
  have d1 : d ≤ 8 := by omega
  rw [hd] at e1
  have e2 := Lib.hid e1
  clear hd e1
  go_enter Try.func14, Try.ntmps14
  go_wp2
  go_ret
  exact ⟨by rw [e2.out]; rfl, rfl⟩
/-- Are all chunks pointers, and those behind the last byte 0? -/
def mapAll (n : Nat) : Nat → List Int → Bool
  | _, [] => true
  | k, x :: xs => (rp0 x && !(decide (n ≤ k) && nzI x)) && mapAll n (k + 1) xs
theorem mapAll_eq (n : Nat) : ∀ (xs : List Int) (k : Nat), mapAll n k xs = (xs.all rp0 && !(xs.drop (n - k)).any nzI)
  | [], k => by simp [mapAll]
  | x :: xs, k => by
    unfold mapAll
    rw [mapAll_eq n xs (k + 1)]
    by_cases h : n ≤ k
    · rw [show n - k = 0 by omega, show n - (k + 1) = 0 by omega, decide_eq_true h]
      simp only [List.drop_zero, List.all_cons, List.any_cons, Bool.true_and]
      cases rp0 x <;> cases nzI x <;> simp
    · obtain ⟨d, hd⟩ : ∃ d, n - k = d + 1 := ⟨n - k - 1, by omega⟩
      rw [hd, show n - (k + 1) = d by omega, decide_eq_false h]
      simp [Bool.and_assoc]
theorem mapOk_all (y y0 y1 y2 y3 y4 y5 y6 : Int) (h : chOk y = true) (n : Nat) (hn : chN y = n) : mapOk y y0 y1 y2 y3 y4 y5 y6 = mapAll n 0 [y0, y1, y2, y3, y4, y5, y6] := by
  unfold mapOk
  rw [h, hn, mapAll_eq, ptrs_all, Nat.sub_zero, Int.toNat_natCast, Bool.true_and]
set_option maxHeartbeats 4000000 in
theorem rMapR_any (y y0 y1 y2 y3 y4 y5 y6 : Int) (w : World) : Calls Try.prog 19 #[.agg #[.int .i64 y, .int .i64 y0, .int .i64 y1, .int .i64 y2, .int .i64 y3, .int .i64 y4, .int .i64 y5, .int .i64 y6]] w fun e w' => e = .returned (.bool (mapOk y y0 y1 y2 y3 y4 y5 y6)) ∧ Below w.heap.size w w' := by
  have hx := Blk.new w 39 #[.int .i64 y, .int .i64 y0, .int .i64 y1, .int .i64 y2, .int .i64 y3, .int .i64 y4, .int .i64 y5, .int .i64 y6]
  have hB := (Below.refl _ w).alloc (Nat.le_refl _) (.cells #[.int .i64 y, .int .i64 y0, .int .i64 y1, .int .i64 y2, .int .i64 y3, .int .i64 y4, .int .i64 y5, .int .i64 y6] 39)
  by_cases c1 : y < 0
  · have e1 : Hid (mapOk y y0 y1 y2 y3 y4 y5 y6 = false) := Lib.hid (by unfold mapOk chOk; rw [decide_eq_false (by omega : ¬ 0 ≤ y)]; simp)
    go_enter Try.func19, Try.ntmps19
    go_wp2
    go_ret
    exact ⟨by rw [e1.out]; rfl, hB⟩
  · by_cases c2 : 448 < y
    · have e1 : Hid (mapOk y y0 y1 y2 y3 y4 y5 y6 = false) := Lib.hid (by unfold mapOk chOk; rw [decide_eq_false (by omega : ¬ y ≤ 448)]; simp)
      go_enter Try.func19, Try.ntmps19
      go_wp2
      go_ret
      exact ⟨by rw [e1.out]; rfl, hB⟩
    · have hch : chOk y = true := by unfold chOk; rw [decide_eq_true (by omega : 0 ≤ y), decide_eq_true (by omega : y ≤ 448)]; rfl
      obtain ⟨n, hn⟩ : ∃ n : Nat, chN y = n := ⟨(chN y).toNat, by unfold chN; rw [if_pos hch]; omega⟩
      have hall := Lib.hid (mapOk_all y y0 y1 y2 y3 y4 y5 y6 hch n hn)
      have hC := Lib.hid (rChunks_any y hch)
      rw [hn] at hC
      have ks := hx.cell 0
      simp at ks
      clear hch hn
      go_enter Try.func19, Try.ntmps19
      go_wp2
      go_loop [3] (fun i => ∃ k : Nat, k ≤ 7 ∧ i = .int .i64 k ∧ mapOk y y0 y1 y2 y3 y4 y5 y6 = mapAll n k ([y0, y1, y2, y3, y4, y5, y6].drop k)) (fun i => 7 - (intOf i).toNat)
      case atStart => exact ⟨0, by omega, rfl, hall.out⟩
      case round =>
        obtain ⟨k, hk, rfl, hal⟩ := hrel
        by_cases hlt : k < 7
        · have hor : k = 0 ∨ k = 1 ∨ k = 2 ∨ k = 3 ∨ k = 4 ∨ k = 5 ∨ k = 6 := by omega
          clear hk hlt
          rcases hor with rfl | rfl | rfl | rfl | rfl | rfl | rfl
          · have hP := Lib.hid (point0_any y0)
            have kx := hx.cell 1
            simp at kx
            have hal2 : mapOk y y0 y1 y2 y3 y4 y5 y6 = ((rp0 y0 && !(decide (n ≤ 0) && nzI y0)) && mapAll n 1 [y1, y2, y3, y4, y5, y6]) := hal
            clear hal
            cases hv : rp0 y0
            · have hf : Hid (mapOk y y0 y1 y2 y3 y4 y5 y6 = false) := Lib.hid (by rw [hal2, hv]; rfl)
              rw [hv] at hP
              clear hv hal2
              go_wp2_with fail
              refine (hP.out _).mono ?_
              rintro e w1 ⟨rfl, rfl⟩
              go_wp2
              go_ret
              exact ⟨by rw [hf.out]; rfl, hB⟩
            · rw [hv, Bool.true_and] at hal2
              rw [hv] at hP
              by_cases hnk : n ≤ 0
              · cases hz : nzI y0
                · have hf : Hid (mapOk y y0 y1 y2 y3 y4 y5 y6 = mapAll n 1 [y1, y2, y3, y4, y5, y6]) := Lib.hid (by rw [hal2, hz]; simp)
                  have hz2 : (y0 != 0) = false := hz
                  have hnk2 : (n : Int) ≤ 0 := by omega
                  clear hv hal2 hz
                  go_wp2_with fail
                  refine (hP.out _).mono ?_
                  rintro e w1 ⟨rfl, rfl⟩
                  go_wp2_with fail
                  refine (hC.out _).mono ?_
                  rintro e w2 ⟨rfl, rfl⟩
                  go_wp2
                  go_round
                  case rel => exact ⟨1, by omega, by simp, hf.out⟩
                  case measure => simp [intOf]
                · have hf : Hid (mapOk y y0 y1 y2 y3 y4 y5 y6 = false) := Lib.hid (by rw [hal2, hz, decide_eq_true hnk]; rfl)
                  have hz2 : (y0 != 0) = true := hz
                  have hnk2 : (n : Int) ≤ 0 := by omega
                  clear hv hal2 hz
                  go_wp2_with fail
                  refine (hP.out _).mono ?_
                  rintro e w1 ⟨rfl, rfl⟩
                  go_wp2_with fail
                  refine (hC.out _).mono ?_
                  rintro e w2 ⟨rfl, rfl⟩
                  go_wp2
                  go_ret
                  exact ⟨by rw [hf.out]; rfl, hB⟩
              · have hf : Hid (mapOk y y0 y1 y2 y3 y4 y5 y6 = mapAll n 1 [y1, y2, y3, y4, y5, y6]) := Lib.hid (by rw [hal2, decide_eq_false hnk]; simp)
                have hnk2 : ¬ (n : Int) ≤ 0 := by omega
                clear hv hal2
                go_wp2_with fail
                refine (hP.out _).mono ?_
                rintro e w1 ⟨rfl, rfl⟩
                go_wp2_with fail
                refine (hC.out _).mono ?_
                rintro e w2 ⟨rfl, rfl⟩
                go_wp2
                go_round
                case rel => exact ⟨1, by omega, by simp, hf.out⟩
                case measure => simp [intOf]
          · have hP := Lib.hid (point0_any y1)
            have kx := hx.cell 2
            simp at kx
            have hal2 : mapOk y y0 y1 y2 y3 y4 y5 y6 = ((rp0 y1 && !(decide (n ≤ 1) && nzI y1)) && mapAll n 2 [y2, y3, y4, y5, y6]) := hal
            clear hal
            cases hv : rp0 y1
            · have hf : Hid (mapOk y y0 y1 y2 y3 y4 y5 y6 = false) := Lib.hid (by rw [hal2, hv]; rfl)
              rw [hv] at hP
              clear hv hal2
              go_wp2_with fail
              refine (hP.out _).mono ?_
              rintro e w1 ⟨rfl, rfl⟩
              go_wp2
              go_ret
              exact ⟨by rw [hf.out]; rfl, hB⟩
            · rw [hv, Bool.true_and] at hal2
              rw [hv] at hP
              by_cases hnk : n ≤ 1
              · cases hz : nzI y1
                · have hf : Hid (mapOk y y0 y1 y2 y3 y4 y5 y6 = mapAll n 2 [y2, y3, y4, y5, y6]) := Lib.hid (by rw [hal2, hz]; simp)
                  have hz2 : (y1 != 0) = false := hz
                  have hnk2 : (n : Int) ≤ 1 := by omega
                  clear hv hal2 hz
                  go_wp2_with fail
                  refine (hP.out _).mono ?_
                  rintro e w1 ⟨rfl, rfl⟩
                  go_wp2_with fail
                  refine (hC.out _).mono ?_
                  rintro e w2 ⟨rfl, rfl⟩
                  go_wp2
                  go_round
                  case rel => exact ⟨2, by omega, by simp, hf.out⟩
                  case measure => simp [intOf]
                · have hf : Hid (mapOk y y0 y1 y2 y3 y4 y5 y6 = false) := Lib.hid (by rw [hal2, hz, decide_eq_true hnk]; rfl)
                  have hz2 : (y1 != 0) = true := hz
                  have hnk2 : (n : Int) ≤ 1 := by omega
                  clear hv hal2 hz
                  go_wp2_with fail
                  refine (hP.out _).mono ?_
                  rintro e w1 ⟨rfl, rfl⟩
                  go_wp2_with fail
                  refine (hC.out _).mono ?_
                  rintro e w2 ⟨rfl, rfl⟩
                  go_wp2
                  go_ret
                  exact ⟨by rw [hf.out]; rfl, hB⟩
              · have hf : Hid (mapOk y y0 y1 y2 y3 y4 y5 y6 = mapAll n 2 [y2, y3, y4, y5, y6]) := Lib.hid (by rw [hal2, decide_eq_false hnk]; simp)
                have hnk2 : ¬ (n : Int) ≤ 1 := by omega
                clear hv hal2
                go_wp2_with fail
                refine (hP.out _).mono ?_
                rintro e w1 ⟨rfl, rfl⟩
                go_wp2_with fail
                refine (hC.out _).mono ?_
                rintro e w2 ⟨rfl, rfl⟩
                go_wp2
                go_round
                case rel => exact ⟨2, by omega, by simp, hf.out⟩
                case measure => simp [intOf]
          · have hP := Lib.hid (point0_any y2)
            have kx := hx.cell 3
            simp at kx
            have hal2 : mapOk y y0 y1 y2 y3 y4 y5 y6 = ((rp0 y2 && !(decide (n ≤ 2) && nzI y2)) && mapAll n 3 [y3, y4, y5, y6]) := hal
            clear hal
            cases hv : rp0 y2
            · have hf : Hid (mapOk y y0 y1 y2 y3 y4 y5 y6 = false) := Lib.hid (by rw [hal2, hv]; rfl)
              rw [hv] at hP
              clear hv hal2
              go_wp2_with fail
              refine (hP.out _).mono ?_
              rintro e w1 ⟨rfl, rfl⟩
              go_wp2
              go_ret
              exact ⟨by rw [hf.out]; rfl, hB⟩
            · rw [hv, Bool.true_and] at hal2
              rw [hv] at hP
              by_cases hnk : n ≤ 2
              · cases hz : nzI y2
                · have hf : Hid (mapOk y y0 y1 y2 y3 y4 y5 y6 = mapAll n 3 [y3, y4, y5, y6]) := Lib.hid (by rw [hal2, hz]; simp)
                  have hz2 : (y2 != 0) = false := hz
                  have hnk2 : (n : Int) ≤ 2 := by omega
                  clear hv hal2 hz
                  go_wp2_with fail
                  refine (hP.out _).mono ?_
                  rintro e w1 ⟨rfl, rfl⟩
                  go_wp2_with fail
                  refine (hC.out _).mono ?_
                  rintro e w2 ⟨rfl, rfl⟩
                  go_wp2
                  go_round
                  case rel => exact ⟨3, by omega, by simp, hf.out⟩
                  case measure => simp [intOf]
                · have hf : Hid (mapOk y y0 y1 y2 y3 y4 y5 y6 = false) := Lib.hid (by rw [hal2, hz, decide_eq_true hnk]; rfl)
                  have hz2 : (y2 != 0) = true := hz
                  have hnk2 : (n : Int) ≤ 2 := by omega
                  clear hv hal2 hz
                  go_wp2_with fail
                  refine (hP.out _).mono ?_
                  rintro e w1 ⟨rfl, rfl⟩
                  go_wp2_with fail
                  refine (hC.out _).mono ?_
                  rintro e w2 ⟨rfl, rfl⟩
                  go_wp2
                  go_ret
                  exact ⟨by rw [hf.out]; rfl, hB⟩
              · have hf : Hid (mapOk y y0 y1 y2 y3 y4 y5 y6 = mapAll n 3 [y3, y4, y5, y6]) := Lib.hid (by rw [hal2, decide_eq_false hnk]; simp)
                have hnk2 : ¬ (n : Int) ≤ 2 := by omega
                clear hv hal2
                go_wp2_with fail
                refine (hP.out _).mono ?_
                rintro e w1 ⟨rfl, rfl⟩
                go_wp2_with fail
                refine (hC.out _).mono ?_
                rintro e w2 ⟨rfl, rfl⟩
                go_wp2
                go_round
                case rel => exact ⟨3, by omega, by simp, hf.out⟩
                case measure => simp [intOf]
          · have hP := Lib.hid (point0_any y3)
            have kx := hx.cell 4
            simp at kx
            have hal2 : mapOk y y0 y1 y2 y3 y4 y5 y6 = ((rp0 y3 && !(decide (n ≤ 3) && nzI y3)) && mapAll n 4 [y4, y5, y6]) := hal
            clear hal
            cases hv : rp0 y3
            · have hf : Hid (mapOk y y0 y1 y2 y3 y4 y5 y6 = false) := Lib.hid (by rw [hal2, hv]; rfl)
              rw [hv] at hP
              clear hv hal2
              go_wp2_with fail
              refine (hP.out _).mono ?_
              rintro e w1 ⟨rfl, rfl⟩
              go_wp2
              go_ret
              exact ⟨by rw [hf.out]; rfl, hB⟩
            · rw [hv, Bool.true_and] at hal2
              rw [hv] at hP
              by_cases hnk : n ≤ 3
              · cases hz : nzI y3
                · have hf : Hid (mapOk y y0 y1 y2 y3 y4 y5 y6 = mapAll n 4 [y4, y5, y6]) := Lib.hid (by rw [hal2, hz]; simp)
                  have hz2 : (y3 != 0) = false := hz
                  have hnk2 : (n : Int) ≤ 3 := by omega
                  clear hv hal2 hz
                  go_wp2_with fail
                  refine (hP.out _).mono ?_
                  rintro e w1 ⟨rfl, rfl⟩
                  go_wp2_with fail
                  refine (hC.out _).mono ?_
                  rintro e w2 ⟨rfl, rfl⟩
                  go_wp2
                  go_round
                  case rel => exact ⟨4, by omega, by simp, hf.out⟩
                  case measure => simp [intOf]
                · have hf : Hid (mapOk y y0 y1 y2 y3 y4 y5 y6 = false) := Lib.hid (by rw [hal2, hz, decide_eq_true hnk]; rfl)
                  have hz2 : (y3 != 0) = true := hz
                  have hnk2 : (n : Int) ≤ 3 := by omega
                  clear hv hal2 hz
                  go_wp2_with fail
                  refine (hP.out _).mono ?_
                  rintro e w1 ⟨rfl, rfl⟩
                  go_wp2_with fail
                  refine (hC.out _).mono ?_
                  rintro e w2 ⟨rfl, rfl⟩
                  go_wp2
                  go_ret
                  exact ⟨by rw [hf.out]; rfl, hB⟩
              · have hf : Hid (mapOk y y0 y1 y2 y3 y4 y5 y6 = mapAll n 4 [y4, y5, y6]) := Lib.hid (by rw [hal2, decide_eq_false hnk]; simp)
                have hnk2 : ¬ (n : Int) ≤ 3 := by omega
                clear hv hal2
                go_wp2_with fail
                refine (hP.out _).mono ?_
                rintro e w1 ⟨rfl, rfl⟩
                go_wp2_with fail
                refine (hC.out _).mono ?_
                rintro e w2 ⟨rfl, rfl⟩
                go_wp2
                go_round
                case rel => exact ⟨4, by omega, by simp, hf.out⟩
                case measure => simp [intOf]
          · have hP := Lib.hid (point0_any y4)
            have kx := hx.cell 5
            simp at kx
            have hal2 : mapOk y y0 y1 y2 y3 y4 y5 y6 = ((rp0 y4 && !(decide (n ≤ 4) && nzI y4)) && mapAll n 5 [y5, y6]) := hal
            clear hal
            cases hv : rp0 y4
            · have hf : Hid (mapOk y y0 y1 y2 y3 y4 y5 y6 = false) := Lib.hid (by rw [hal2, hv]; rfl)
              rw [hv] at hP
              clear hv hal2
              go_wp2_with fail
              refine (hP.out _).mono ?_
              rintro e w1 ⟨rfl, rfl⟩
              go_wp2
              go_ret
              exact ⟨by rw [hf.out]; rfl, hB⟩
            · rw [hv, Bool.true_and] at hal2
              rw [hv] at hP
              by_cases hnk : n ≤ 4
              · cases hz : nzI y4
                · have hf : Hid (mapOk y y0 y1 y2 y3 y4 y5 y6 = mapAll n 5 [y5, y6]) := Lib.hid (by rw [hal2, hz]; simp)
                  have hz2 : (y4 != 0) = false := hz
                  have hnk2 : (n : Int) ≤ 4 := by omega
                  clear hv hal2 hz
                  go_wp2_with fail
                  refine (hP.out _).mono ?_
                  rintro e w1 ⟨rfl, rfl⟩
                  go_wp2_with fail
                  refine (hC.out _).mono ?_
                  rintro e w2 ⟨rfl, rfl⟩
                  go_wp2
                  go_round
                  case rel => exact ⟨5, by omega, by simp, hf.out⟩
                  case measure => simp [intOf]
                · have hf : Hid (mapOk y y0 y1 y2 y3 y4 y5 y6 = false) := Lib.hid (by rw [hal2, hz, decide_eq_true hnk]; rfl)
                  have hz2 : (y4 != 0) = true := hz
                  have hnk2 : (n : Int) ≤ 4 := by omega
                  clear hv hal2 hz
                  go_wp2_with fail
                  refine (hP.out _).mono ?_
                  rintro e w1 ⟨rfl, rfl⟩
                  go_wp2_with fail
                  refine (hC.out _).mono ?_
                  rintro e w2 ⟨rfl, rfl⟩
                  go_wp2
                  go_ret
                  exact ⟨by rw [hf.out]; rfl, hB⟩
              · have hf : Hid (mapOk y y0 y1 y2 y3 y4 y5 y6 = mapAll n 5 [y5, y6]) := Lib.hid (by rw [hal2, decide_eq_false hnk]; simp)
                have hnk2 : ¬ (n : Int) ≤ 4 := by omega
                clear hv hal2
                go_wp2_with fail
                refine (hP.out _).mono ?_
                rintro e w1 ⟨rfl, rfl⟩
                go_wp2_with fail
                refine (hC.out _).mono ?_
                rintro e w2 ⟨rfl, rfl⟩
                go_wp2
                go_round
                case rel => exact ⟨5, by omega, by simp, hf.out⟩
                case measure => simp [intOf]
          · have hP := Lib.hid (point0_any y5)
            have kx := hx.cell 6
            simp at kx
            have hal2 : mapOk y y0 y1 y2 y3 y4 y5 y6 = ((rp0 y5 && !(decide (n ≤ 5) && nzI y5)) && mapAll n 6 [y6]) := hal
            clear hal
            cases hv : rp0 y5
            · have hf : Hid (mapOk y y0 y1 y2 y3 y4 y5 y6 = false) := Lib.hid (by rw [hal2, hv]; rfl)
              rw [hv] at hP
              clear hv hal2
              go_wp2_with fail
              refine (hP.out _).mono ?_
              rintro e w1 ⟨rfl, rfl⟩
              go_wp2
              go_ret
              exact ⟨by rw [hf.out]; rfl, hB⟩
            · rw [hv, Bool.true_and] at hal2
              rw [hv] at hP
              by_cases hnk : n ≤ 5
              · cases hz : nzI y5
                · have hf : Hid (mapOk y y0 y1 y2 y3 y4 y5 y6 = mapAll n 6 [y6]) := Lib.hid (by rw [hal2, hz]; simp)
                  have hz2 : (y5 != 0) = false := hz
                  have hnk2 : (n : Int) ≤ 5 := by omega
                  clear hv hal2 hz
                  go_wp2_with fail
                  refine (hP.out _).mono ?_
                  rintro e w1 ⟨rfl, rfl⟩
                  go_wp2_with fail
                  refine (hC.out _).mono ?_
                  rintro e w2 ⟨rfl, rfl⟩
                  go_wp2
                  go_round
                  case rel => exact ⟨6, by omega, by simp, hf.out⟩
                  case measure => simp [intOf]
                · have hf : Hid (mapOk y y0 y1 y2 y3 y4 y5 y6 = false) := Lib.hid (by rw [hal2, hz, decide_eq_true hnk]; rfl)
                  have hz2 : (y5 != 0) = true := hz
                  have hnk2 : (n : Int) ≤ 5 := by omega
                  clear hv hal2 hz
                  go_wp2_with fail
                  refine (hP.out _).mono ?_
                  rintro e w1 ⟨rfl, rfl⟩
                  go_wp2_with fail
                  refine (hC.out _).mono ?_
                  rintro e w2 ⟨rfl, rfl⟩
                  go_wp2
                  go_ret
                  exact ⟨by rw [hf.out]; rfl, hB⟩
              · have hf : Hid (mapOk y y0 y1 y2 y3 y4 y5 y6 = mapAll n 6 [y6]) := Lib.hid (by rw [hal2, decide_eq_false hnk]; simp)
                have hnk2 : ¬ (n : Int) ≤ 5 := by omega
                clear hv hal2
                go_wp2_with fail
                refine (hP.out _).mono ?_
                rintro e w1 ⟨rfl, rfl⟩
                go_wp2_with fail
                refine (hC.out _).mono ?_
                rintro e w2 ⟨rfl, rfl⟩
                go_wp2
                go_round
                case rel => exact ⟨6, by omega, by simp, hf.out⟩
                case measure => simp [intOf]
          · have hP := Lib.hid (point0_any y6)
            have kx := hx.cell 7
            simp at kx
            have hal2 : mapOk y y0 y1 y2 y3 y4 y5 y6 = ((rp0 y6 && !(decide (n ≤ 6) && nzI y6)) && mapAll n 7 []) := hal
            clear hal
            cases hv : rp0 y6
            · have hf : Hid (mapOk y y0 y1 y2 y3 y4 y5 y6 = false) := Lib.hid (by rw [hal2, hv]; rfl)
              rw [hv] at hP
              clear hv hal2
              go_wp2_with fail
              refine (hP.out _).mono ?_
              rintro e w1 ⟨rfl, rfl⟩
              go_wp2
              go_ret
              exact ⟨by rw [hf.out]; rfl, hB⟩
            · rw [hv, Bool.true_and] at hal2
              rw [hv] at hP
              by_cases hnk : n ≤ 6
              · cases hz : nzI y6
                · have hf : Hid (mapOk y y0 y1 y2 y3 y4 y5 y6 = mapAll n 7 []) := Lib.hid (by rw [hal2, hz]; simp)
                  have hz2 : (y6 != 0) = false := hz
                  have hnk2 : (n : Int) ≤ 6 := by omega
                  clear hv hal2 hz
                  go_wp2_with fail
                  refine (hP.out _).mono ?_
                  rintro e w1 ⟨rfl, rfl⟩
                  go_wp2_with fail
                  refine (hC.out _).mono ?_
                  rintro e w2 ⟨rfl, rfl⟩
                  go_wp2
                  go_round
                  case rel => exact ⟨7, by omega, by simp, hf.out⟩
                  case measure => simp [intOf]
                · have hf : Hid (mapOk y y0 y1 y2 y3 y4 y5 y6 = false) := Lib.hid (by rw [hal2, hz, decide_eq_true hnk]; rfl)
                  have hz2 : (y6 != 0) = true := hz
                  have hnk2 : (n : Int) ≤ 6 := by omega
                  clear hv hal2 hz
                  go_wp2_with fail
                  refine (hP.out _).mono ?_
                  rintro e w1 ⟨rfl, rfl⟩
                  go_wp2_with fail
                  refine (hC.out _).mono ?_
                  rintro e w2 ⟨rfl, rfl⟩
                  go_wp2
                  go_ret
                  exact ⟨by rw [hf.out]; rfl, hB⟩
              · have hf : Hid (mapOk y y0 y1 y2 y3 y4 y5 y6 = mapAll n 7 []) := Lib.hid (by rw [hal2, decide_eq_false hnk]; simp)
                have hnk2 : ¬ (n : Int) ≤ 6 := by omega
                clear hv hal2
                go_wp2_with fail
                refine (hP.out _).mono ?_
                rintro e w1 ⟨rfl, rfl⟩
                go_wp2_with fail
                refine (hC.out _).mono ?_
                rintro e w2 ⟨rfl, rfl⟩
                go_wp2
                go_round
                case rel => exact ⟨7, by omega, by simp, hf.out⟩
                case measure => simp [intOf]
        · obtain rfl : k = 7 := by omega
          have hf : Hid (mapOk y y0 y1 y2 y3 y4 y5 y6 = true) := Lib.hid hal
          clear hal
          go_wp2
          go_ret
          exact ⟨by rw [hf.out]; rfl, hB⟩
/-- What the document's answer says of a map's words, whether it may be or not. -/
def rmapL (y y0 y1 y2 y3 y4 y5 y6 : Int) : Array Value := ln8 (IntKind.u64.wrap y) (IntKind.u64.wrap y0) (IntKind.u64.wrap y1) (IntKind.u64.wrap y2) (IntKind.u64.wrap y3) (IntKind.u64.wrap y4) (IntKind.u64.wrap y5) (IntKind.u64.wrap y6)
theorem rmapL_ok {y y0 y1 y2 y3 y4 y5 y6 : Int} (h : mapOk y y0 y1 y2 y3 y4 y5 y6 = true) : mapL y y0 y1 y2 y3 y4 y5 y6 = rmapL y y0 y1 y2 y3 y4 y5 y6 := by
  have h2 := h
  simp only [mapOk, Bool.and_eq_true, chOk, decide_eq_true_eq] at h2
  have hw := ptr_wrap (by omega) h2.1.2
  unfold mapL
  rw [if_pos h]
  unfold rmapL
  rw [show IntKind.u64.wrap y = y by rw [IntKind.wrap_u64]; omega, hw y0 (by simp), hw y1 (by simp), hw y2 (by simp), hw y3 (by simp), hw y4 (by simp), hw y5 (by simp), hw y6 (by simp)]
set_option maxRecDepth 100000 in
set_option maxHeartbeats 4000000 in
theorem rMapP_any (y y0 y1 y2 y3 y4 y5 y6 : Int) (w : World) : Calls Try.prog 18 #[.agg #[.int .i64 y, .int .i64 y0, .int .i64 y1, .int .i64 y2, .int .i64 y3, .int .i64 y4, .int .i64 y5, .int .i64 y6]] w fun e w' => e = .returned (.agg (rmapL y y0 y1 y2 y3 y4 y5 y6)) ∧ Below w.heap.size w w' := by
  have k0 := Blk.new w 39 #[.int .i64 y, .int .i64 y0, .int .i64 y1, .int .i64 y2, .int .i64 y3, .int .i64 y4, .int .i64 y5, .int .i64 y6]
  have k1 := Blk.new (w.alloc (.cells #[.int .i64 y, .int .i64 y0, .int .i64 y1, .int .i64 y2, .int .i64 y3, .int .i64 y4, .int .i64 y5, .int .i64 y6] 39)) 26 #[.int .u64 0, .int .u64 0, .int .u64 0, .int .u64 0, .int .u64 0, .int .u64 0, .int .u64 0, .int .u64 0]
  have n2 := Blk.new ((w.alloc (.cells #[.int .i64 y, .int .i64 y0, .int .i64 y1, .int .i64 y2, .int .i64 y3, .int .i64 y4, .int .i64 y5, .int .i64 y6] 39)).alloc (.cells #[.int .u64 0, .int .u64 0, .int .u64 0, .int .u64 0, .int .u64 0, .int .u64 0, .int .u64 0, .int .u64 0] 26)) 26 #[.int .u64 0, .int .u64 0, .int .u64 0, .int .u64 0, .int .u64 0, .int .u64 0, .int .u64 0, .int .u64 0]
  replace k0 := (k0.alloc (.cells #[.int .u64 0, .int .u64 0, .int .u64 0, .int .u64 0, .int .u64 0, .int .u64 0, .int .u64 0, .int .u64 0] 26)).alloc (.cells #[.int .u64 0, .int .u64 0, .int .u64 0, .int .u64 0, .int .u64 0, .int .u64 0, .int .u64 0, .int .u64 0] 26)
  replace k1 := k1.alloc (.cells #[.int .u64 0, .int .u64 0, .int .u64 0, .int .u64 0, .int .u64 0, .int .u64 0, .int .u64 0, .int .u64 0] 26)
  simp only [World.size_alloc] at k0 k1 n2
  have hB := (((Below.refl _ w).alloc (Nat.le_refl _) (.cells #[.int .i64 y, .int .i64 y0, .int .i64 y1, .int .i64 y2, .int .i64 y3, .int .i64 y4, .int .i64 y5, .int .i64 y6] 39)).alloc (by simp) (.cells #[.int .u64 0, .int .u64 0, .int .u64 0, .int .u64 0, .int .u64 0, .int .u64 0, .int .u64 0, .int .u64 0] 26)).alloc (by simp; omega) (.cells #[.int .u64 0, .int .u64 0, .int .u64 0, .int .u64 0, .int .u64 0, .int .u64 0, .int .u64 0, .int .u64 0] 26)
  have k2 := n2.setRow (mapAt (IntKind.u64.wrap y) (IntKind.u64.wrap y0) (IntKind.u64.wrap y1) (IntKind.u64.wrap y2) (IntKind.u64.wrap y3) (IntKind.u64.wrap y4) (IntKind.u64.wrap y5) (IntKind.u64.wrap y6) 0)
  replace k0 := k0.farRow (g' := w.heap.size + 1 + 1) (by omega) (mapAt (IntKind.u64.wrap y) (IntKind.u64.wrap y0) (IntKind.u64.wrap y1) (IntKind.u64.wrap y2) (IntKind.u64.wrap y3) (IntKind.u64.wrap y4) (IntKind.u64.wrap y5) (IntKind.u64.wrap y6) 0)
  replace k1 := k1.farRow (g' := w.heap.size + 1 + 1) (by omega) (mapAt (IntKind.u64.wrap y) (IntKind.u64.wrap y0) (IntKind.u64.wrap y1) (IntKind.u64.wrap y2) (IntKind.u64.wrap y3) (IntKind.u64.wrap y4) (IntKind.u64.wrap y5) (IntKind.u64.wrap y6) 0)
  replace hB := below_setRow hB (g := w.heap.size + 1 + 1) (by omega) (mapAt (IntKind.u64.wrap y) (IntKind.u64.wrap y0) (IntKind.u64.wrap y1) (IntKind.u64.wrap y2) (IntKind.u64.wrap y3) (IntKind.u64.wrap y4) (IntKind.u64.wrap y5) (IntKind.u64.wrap y6) 0)
  have H := Lib.hid (And.intro k0 (And.intro k1 (And.intro k2 hB)))
  clear k0 k1 k2 hB
  go_enter Try.func18, Try.ntmps18
  go_wp2_with (refine row_store (w.heap.size + 1 + 1) 26 _ _ n2 26 _ _ rfl rfl rfl rfl (by kernel_rfl) rfl (by kernel_rfl) ?_)
  go_loopw [4] (fun i wr => ∃ k : Nat, k ≤ 7 ∧ i = .int .i64 k ∧ Blk wr w.heap.size 39 #[.int .i64 y, .int .i64 y0, .int .i64 y1, .int .i64 y2, .int .i64 y3, .int .i64 y4, .int .i64 y5, .int .i64 y6] ∧ Blk wr (w.heap.size + 1) 26 #[.int .u64 0, .int .u64 0, .int .u64 0, .int .u64 0, .int .u64 0, .int .u64 0, .int .u64 0, .int .u64 0] ∧ Blk wr (w.heap.size + 1 + 1) 26 (mapAt (IntKind.u64.wrap y) (IntKind.u64.wrap y0) (IntKind.u64.wrap y1) (IntKind.u64.wrap y2) (IntKind.u64.wrap y3) (IntKind.u64.wrap y4) (IntKind.u64.wrap y5) (IntKind.u64.wrap y6) k) ∧ Below w.heap.size w wr) (fun i _ => 7 - (intOf i).toNat)
  case atStart => exact ⟨0, by omega, rfl, H.out⟩
  case round =>
    obtain ⟨k, hk, rfl, k0, k1, k2, hB⟩ := hrel
    obtain ⟨wo, rfl⟩ : ∃ wo : World, wo = wr := ⟨_, rfl⟩
    clear n2
    by_cases hlt : k < 7
    · have hor : k = 0 ∨ k = 1 ∨ k = 2 ∨ k = 3 ∨ k = 4 ∨ k = 5 ∨ k = 6 := by omega
      clear hk hlt
      rcases hor with rfl | rfl | rfl | rfl | rfl | rfl | rfl
      · have kx := k0.cell 1
        have kl := k2.cell 1
        have kf := k2.frozen 1
        have kz := k2.set_ 1 (.int .u64 (IntKind.u64.wrap y0))
        simp [mapAt, ln8] at kx kl kz
        go_wp2
        go_roundw
        case rel => exact ⟨1, by omega, by simp, k0.far (p := ⟨w.heap.size + 1 + 1, 1, none⟩) (by simp; omega) _, k1.far (p := ⟨w.heap.size + 1 + 1, 1, none⟩) (by simp) _, kz, hB.setCell (p := ⟨w.heap.size + 1 + 1, 1, none⟩) (by simp; omega) _⟩
        case measure => simp [intOf]
      · have kx := k0.cell 2
        have kl := k2.cell 2
        have kf := k2.frozen 2
        have kz := k2.set_ 2 (.int .u64 (IntKind.u64.wrap y1))
        simp [mapAt, ln8] at kx kl kz
        go_wp2
        go_roundw
        case rel => exact ⟨2, by omega, by simp, k0.far (p := ⟨w.heap.size + 1 + 1, 2, none⟩) (by simp; omega) _, k1.far (p := ⟨w.heap.size + 1 + 1, 2, none⟩) (by simp) _, kz, hB.setCell (p := ⟨w.heap.size + 1 + 1, 2, none⟩) (by simp; omega) _⟩
        case measure => simp [intOf]
      · have kx := k0.cell 3
        have kl := k2.cell 3
        have kf := k2.frozen 3
        have kz := k2.set_ 3 (.int .u64 (IntKind.u64.wrap y2))
        simp [mapAt, ln8] at kx kl kz
        go_wp2
        go_roundw
        case rel => exact ⟨3, by omega, by simp, k0.far (p := ⟨w.heap.size + 1 + 1, 3, none⟩) (by simp; omega) _, k1.far (p := ⟨w.heap.size + 1 + 1, 3, none⟩) (by simp) _, kz, hB.setCell (p := ⟨w.heap.size + 1 + 1, 3, none⟩) (by simp; omega) _⟩
        case measure => simp [intOf]
      · have kx := k0.cell 4
        have kl := k2.cell 4
        have kf := k2.frozen 4
        have kz := k2.set_ 4 (.int .u64 (IntKind.u64.wrap y3))
        simp [mapAt, ln8] at kx kl kz
        go_wp2
        go_roundw
        case rel => exact ⟨4, by omega, by simp, k0.far (p := ⟨w.heap.size + 1 + 1, 4, none⟩) (by simp; omega) _, k1.far (p := ⟨w.heap.size + 1 + 1, 4, none⟩) (by simp) _, kz, hB.setCell (p := ⟨w.heap.size + 1 + 1, 4, none⟩) (by simp; omega) _⟩
        case measure => simp [intOf]
      · have kx := k0.cell 5
        have kl := k2.cell 5
        have kf := k2.frozen 5
        have kz := k2.set_ 5 (.int .u64 (IntKind.u64.wrap y4))
        simp [mapAt, ln8] at kx kl kz
        go_wp2
        go_roundw
        case rel => exact ⟨5, by omega, by simp, k0.far (p := ⟨w.heap.size + 1 + 1, 5, none⟩) (by simp; omega) _, k1.far (p := ⟨w.heap.size + 1 + 1, 5, none⟩) (by simp) _, kz, hB.setCell (p := ⟨w.heap.size + 1 + 1, 5, none⟩) (by simp; omega) _⟩
        case measure => simp [intOf]
      · have kx := k0.cell 6
        have kl := k2.cell 6
        have kf := k2.frozen 6
        have kz := k2.set_ 6 (.int .u64 (IntKind.u64.wrap y5))
        simp [mapAt, ln8] at kx kl kz
        go_wp2
        go_roundw
        case rel => exact ⟨6, by omega, by simp, k0.far (p := ⟨w.heap.size + 1 + 1, 6, none⟩) (by simp; omega) _, k1.far (p := ⟨w.heap.size + 1 + 1, 6, none⟩) (by simp) _, kz, hB.setCell (p := ⟨w.heap.size + 1 + 1, 6, none⟩) (by simp; omega) _⟩
        case measure => simp [intOf]
      · have kx := k0.cell 7
        have kl := k2.cell 7
        have kf := k2.frozen 7
        have kz := k2.set_ 7 (.int .u64 (IntKind.u64.wrap y6))
        simp [mapAt, ln8] at kx kl kz
        go_wp2
        go_roundw
        case rel => exact ⟨7, by omega, by simp, k0.far (p := ⟨w.heap.size + 1 + 1, 7, none⟩) (by simp; omega) _, k1.far (p := ⟨w.heap.size + 1 + 1, 7, none⟩) (by simp) _, kz, hB.setCell (p := ⟨w.heap.size + 1 + 1, 7, none⟩) (by simp; omega) _⟩
        case measure => simp [intOf]
    · obtain rfl : k = 7 := by omega
      have k2' : Blk wo (w.heap.size + 1 + 1) 26 (rmapL y y0 y1 y2 y3 y4 y5 y6) := k2
      clear k2
      go_wp2_with (first | (refine row_load (w.heap.size + 1 + 1) 26 _ k2' 26 _ rfl rfl rfl _ Try.underlying26 rfl (by kernel_rfl) ?_) | (refine row_store (w.heap.size + 1) 26 _ _ k1 26 _ _ rfl rfl rfl rfl (by kernel_rfl) rfl (by kernel_rfl) ?_))
      refine bodyPost_ret (results_cell1 rfl _ _ (w.heap.size + 1) 26 _ _ rfl (k1.setRow _) Try.underlying26 rfl (by kernel_rfl)) rfl ?_
      exact ⟨rfl, below_setRow hB (by omega) _⟩
theorem put_map (y y0 y1 y2 y3 y4 y5 y6 : Int) (w : World) : Calls Try.prog 17 #[.agg (mapL y y0 y1 y2 y3 y4 y5 y6), .agg (rmapL y y0 y1 y2 y3 y4 y5 y6), .int .i64 (mapE y y0 y1 y2 y3 y4 y5 y6), .bool (mapOk y y0 y1 y2 y3 y4 y5 y6)] w fun e w' => e = .returned (.bool true) ∧ Below w.heap.size w w' :=
  put_both _ _ _ _ (fun h => ⟨rmapL_ok h, by unfold mapE; rw [h]; rfl, [y, y0, y1, y2, y3, y4, y5, y6], rfl, by unfold mapL; rw [h]; rfl⟩) (fun h => by unfold mapL mapE; rw [h]; exact ⟨rfl, rfl⟩) w
end Go.Proofs.Ytdgnbmcckknfiaa
