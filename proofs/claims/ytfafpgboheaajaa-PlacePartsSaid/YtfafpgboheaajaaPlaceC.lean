/- The walks of Distance, of the reference's Right, There, Address, At, and of num. Conditions: none on places but 64 bits. -/
import Derived.Deep.RegionWith
import Derived.Test.YtfafpgboheaajaaPlaceB
namespace Go.Proofs.Ytfafpgboheaajaa
open Go.RowKit

set_option maxHeartbeats 400000 in
theorem num_any (n : Int) (w : World) : Calls Try.prog 12 #[.int .i64 n] w fun e w' => e = .returned (.int .i64 n) ∧ w = w' := by
  go_enter Try.func12, Try.ntmps12
  go_wp2
  go_ret
  exact ⟨rfl, rfl⟩

set_option maxHeartbeats 400000 in
theorem rright_any (a b : Int) (w : World) :
    Calls Try.prog 11 #[.agg #[.int .i64 a, .int .i64 b]] w fun e w' => e = .returned (.bool (inPlace a b)) ∧ Below w.heap.size w w' := by
  have hb := Lib.hid ((Below.refl _ w).alloc (Nat.le_refl _) (.cells #[.int .i64 a, .int .i64 b] 23))
  go_enter Try.func11, Try.ntmps11
  go_wp2
  all_goals
    go_ret
    exact ⟨by simp [inPlace, *] <;> omega, hb.out⟩

set_option maxHeartbeats 400000 in
theorem rthere_any (n : Int) (w : World) :
    Calls Try.prog 14 #[.int .i64 n] w fun e w' => e = .returned (.bool (decide (0 ≤ n ∧ n < 8192))) ∧ w = w' := by
  go_enter Try.func14, Try.ntmps14
  go_wp2
  all_goals
    go_ret
    exact ⟨by simp [*] <;> omega, rfl⟩

set_option maxHeartbeats 400000 in
theorem raddress_any (a b : Int) (w : World) (hin : inPlace a b = true) :
    Calls Try.prog 13 #[.agg #[.int .i64 a, .int .i64 b]] w fun e w' => e = .returned (.int .i64 (8 * a + b)) ∧ Below w.heap.size w w' := by
  have hb := Lib.hid ((Below.refl _ w).alloc (Nat.le_refl _) (.cells #[.int .i64 a, .int .i64 b] 23))
  obtain ⟨h1, h2, h3, h4⟩ := (inPlace_iff a b).1 hin
  have e1 : IntKind.i64.wrap (8 * a) = 8 * a := by rw [IntKind.wrap_i64]; omega
  have e2 : IntKind.i64.wrap (8 * a + b) = 8 * a + b := by rw [IntKind.wrap_i64]; omega
  clear hin h1 h2 h3 h4
  go_enter Try.func13, Try.ntmps13
  go_wp2
  go_ret
  exact ⟨rfl, hb.out⟩

set_option maxHeartbeats 400000 in
theorem rat_any (n : Int) (w : World) (h0 : 0 ≤ n) (h1 : n < 8192) :
    Calls Try.prog 16 #[.int .i64 n] w fun e w' => e = .returned (.agg #[.int .i64 (n / 8), .int .i64 (n % 8)]) ∧ Below w.heap.size w w' := by
  obtain ⟨q, hq⟩ : ∃ q, n / 8 = q := ⟨_, rfl⟩
  obtain ⟨r, hr⟩ : ∃ r, n % 8 = r := ⟨_, rfl⟩
  have q8 : n.tdiv 8 = q := by rw [Int.tdiv_eq_ediv_of_nonneg (by omega)]; omega
  have q9 : n.tmod 8 = r := by rw [Int.tmod_eq_emod_of_nonneg (by omega)]; omega
  have w8 : IntKind.i64.wrap q = q := by rw [IntKind.wrap_i64]; omega
  have w9 : IntKind.i64.wrap r = r := by rw [IntKind.wrap_i64]; omega
  have hb := Lib.hid ((Below.refl _ w).alloc (Nat.le_refl _) (.cells #[.int .i64 q, .int .i64 r] 23))
  rw [hq, hr]
  clear hq hr
  go_enter Try.func16, Try.ntmps16
  go_wp2
  refine bodyPost_ret (v := .agg #[.int .i64 q, .int .i64 r]) (by simp [results, Try.results16, go_sem]) rfl ⟨rfl, hb.out⟩

/-- What Distance tells. -/
def distOf (a b c d : Int) : Int := if inPlace a b && inPlace c d then (c - a) * 8 + (d - b) else 0
def distErr (a b c d : Int) : Int := if inPlace a b && inPlace c d then 0 else 2

set_option maxHeartbeats 800000 in
theorem distance_any (a b c d : Int) (w : World) :
    Calls Try.prog 18 #[.agg #[.int .i64 a, .int .i64 b], .agg #[.int .i64 c, .int .i64 d]] w fun e w' => e = .returned (.tuple #[.int .i64 (distOf a b c d), .int .i64 (distErr a b c d)]) ∧ Below w.heap.size w w' := by
  have hb0 : Below w.heap.size w ((w.alloc (.cells #[.int .i64 a, .int .i64 b] 23)).alloc (.cells #[.int .i64 c, .int .i64 d] 23)) := ((Below.refl _ w).alloc (Nat.le_refl _) _).alloc (by simp) _
  have hone := two_places ((w.alloc (.cells #[.int .i64 a, .int .i64 b] 23)).alloc (.cells #[.int .i64 c, .int .i64 d] 23)) a b c d 23
  simp only [World.size_alloc] at hone
  replace hone := Lib.hid hone
  have hb1 := Lib.hid (hb0.alloc hb0.size (.cells #[.int .i64 a, .int .i64 b, .int .i64 c, .int .i64 d] 23))
  have hA := Lib.hid (((Blk.new w 23 #[.int .i64 a, .int .i64 b]).alloc (.cells #[.int .i64 c, .int .i64 d] 23)).alloc (.cells #[.int .i64 a, .int .i64 b, .int .i64 c, .int .i64 d] 23))
  have hC := Lib.hid ((Blk.new (w.alloc (.cells #[.int .i64 a, .int .i64 b] 23)) 23 #[.int .i64 c, .int .i64 d]).alloc (.cells #[.int .i64 a, .int .i64 b, .int .i64 c, .int .i64 d] 23))
  cases hin : inPlace a b && inPlace c d
  · have e1 : Hid (distOf a b c d = 0 ∧ distErr a b c d = 2) := Lib.hid (by simp [distOf, distErr, hin])
    have Hin := Lib.hid hin
    clear hin hb0 hA hC
    go_enter Try.func18, Try.ntmps18
    go_wp2_with fail
    refine (right_any [(a, b), (c, d)] _ 2 2 _ (hone.out.more (by simp)) (by omega)).mono ?_
    rintro e w1 ⟨rfl, hb⟩
    have hbb := Lib.hid (hb1.out.trans (hb.mono (by simp only [World.size_alloc]; omega)))
    rw [show (([(a, b), (c, d)] : List (Int × Int)).all fun p => inPlace p.1 p.2) = false from by simpa using Hin.out]
    go_wp2
    go_ret2
    exact ⟨by rw [e1.out.1, e1.out.2]; rfl, hbb.out⟩
  · have hin' := hin
    rw [Bool.and_eq_true] at hin'
    obtain ⟨h1, h2, h3, h4⟩ := (inPlace_iff a b).1 hin'.1
    obtain ⟨h5, h6, h7, h8⟩ := (inPlace_iff c d).1 hin'.2
    have e1 : Hid (distOf a b c d = (c - a) * 8 + (d - b) ∧ distErr a b c d = 0) := Lib.hid (by simp [distOf, distErr, hin])
    have Hin := Lib.hid hin
    have hs : ∀ W, (binOp .sub 50 (.complex .f64 (fz c) (fz d)) (.complex .f64 (fz a) (fz b))).run Try.prog W = .ok (.complex .f64 (fz (c - a)) (fz (d - b))) W := fun W => by
      have h : cSumBits .sub .f64 (fz c) (fz d) (fz a) (fz b) = some (fz (c - a), fz (d - b)) := by
        unfold cSumBits
        rw [sub_fz c a (by omega) (by omega), Option.bind_some, sub_fz d b (by omega) (by omega), Option.bind_some]
      exact run_complex_sum W .sub (.inr rfl) 50 .f64 _ _ _ _ _ _ h
    have c1 := conv_fz (c - a) (by omega)
    have c2 := conv_fz (d - b) (by omega)
    have x1 : IntKind.i64.wrap ((c - a) * 8) = (c - a) * 8 := by rw [IntKind.wrap_i64]; omega
    have x2 : IntKind.i64.wrap ((c - a) * 8 + (d - b)) = (c - a) * 8 + (d - b) := by rw [IntKind.wrap_i64]; omega
    clear hin hin' hb0 h1 h2 h3 h4 h5 h6 h7 h8
    go_enter Try.func18, Try.ntmps18
    go_wp2_with fail
    refine (right_any [(a, b), (c, d)] _ 2 2 _ (hone.out.more (by simp)) (by omega)).mono ?_
    rintro e w1 ⟨rfl, hb⟩
    have hA1 := hA.out.below hb hA.out.lt
    have hC1 := hC.out.below hb hC.out.lt
    simp only [World.size_alloc] at hC1
    have hbb := hb1.out.trans (hb.mono (by simp only [World.size_alloc]; omega))
    rw [show (([(a, b), (c, d)] : List (Int × Int)).all fun p => inPlace p.1 p.2) = true from by simpa using Hin.out]
    have ka := hA1.cell 0
    have kb := hA1.cell 1
    have kc := hC1.cell 0
    have kd := hC1.cell 1
    simp at ka kb kc kd
    clear hb
    have hB := Below.refl w1.heap.size w1
    go_wp2_with fail
    go_region_with (go_at_call 26; go_must (refine (point_any _ _ _).mono ?_; rintro e w2 ⟨rfl, hb2⟩; have hB := (by first | exact Below.trans hB (Below.mono hb2 (Below.size hB)) | exact Below.trans (Below.drew hB) (Below.mono hb2 (Nat.le_refl _)) : Below w1.heap.size w1 w2); have ka := (hA1.below hB hA1.lt).cell 0; have kb := (hA1.below hB hA1.lt).cell 1; have kc := (hC1.below hB hC1.lt).cell 0; have kd := (hC1.below hB hC1.lt).cell 1; simp at ka kb kc kd; clear hb2))
    all_goals
      go_wp2
      go_ret2
      exact ⟨by rw [e1.out.1, e1.out.2]; rfl, hbb.trans (hB.mono hbb.size)⟩
end Go.Proofs.Ytfafpgboheaajaa
