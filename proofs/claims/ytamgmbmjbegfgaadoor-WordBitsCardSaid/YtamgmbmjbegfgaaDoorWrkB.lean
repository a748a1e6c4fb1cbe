/- The walk of the law's works: the chapter's rows answer true. Conditions: the library's table reads as its text lays it. -/
import Derived.Test.YtamgmbmjbegfgaaDoorWrkA
namespace Go.Proofs.YtamgmbmjbegfgaaDoor
open Go.RowKit
attribute [local go_sem] Oper.semAt_some wide_fn wide_depth

theorem below_al {B : Nat} {a w : World} (h : Below B a w) (o : Obj) (hB : B ≤ w.heap.size) : Below B a (w.alloc o) := h.alloc hB o
/-- The number that the loop over bits has reckoned. -/
def nAt : Nat → Nat
  | 0 => 0
  | 1 => 0
  | 2 => 2
  | _ => 27
/-- What holds between two rounds of the loop over bits, k bits having come. -/
def WrkIn (w : World) (k : Nat) (X : World) : Prop := Blk X w.heap.size 3 #[.int .i64 (nAt k)] ∧ Blk X (w.heap.size + 1 + 1) 22 #[.int .u64 133] ∧ Below w.heap.size w X
theorem WrkIn.below {w : World} {k : Nat} {X Y : World} (h : WrkIn w k X) (hb : Below X.heap.size X Y) : WrkIn w k Y := by
  obtain ⟨h1, h2, h3⟩ := h
  exact ⟨h1.below hb h1.lt, h2.below hb h2.lt, h3.trans (hb.mono (Nat.le_of_lt h1.lt))⟩
theorem WrkIn.only {w : World} {k : Nat} {X Y : World} (h : WrkIn w k X) (hb : X.grownBy Y (some (w.heap.size + 3 + 1))) : WrkIn w k Y := by
  obtain ⟨h1, h2, h3⟩ := h
  exact ⟨blk_only h1 hb (by omega), blk_only h2 hb (by omega), h3.trans (below_only hb (by omega) (Nat.le_of_lt h1.lt))⟩

set_option maxRecDepth 100000 in
set_option maxHeartbeats 4000000 in
theorem works_any (w : World) (hT : TabIn w) : Calls Tryd.prog 14 #[] w fun e w' => e = .returned (.bool true) ∧ Below w.heap.size w w' := by
  refine (callsIn_wide (n := 3)).1 (callsIn_of_wp_marks Tryd.func14 rfl trivial ?_ rfl)
  simp only [Tryd.ntmps14, List.size_toArray, List.length_nil, Nat.reduceSub, Array.replicate_succ, Array.replicate_zero, List.push_toArray, List.append_toArray, List.nil_append, List.cons_append]
  have B0 : Below w.heap.size w (w.alloc (.cells #[.int .i64 4, .int .i64 8] 24)) := (Below.refl _ w).alloc (Nat.le_refl _) _
  have hp := Blk.new w 24 #[.int .i64 4, .int .i64 8]
  have hnf : ∀ (p : Nat) (W : World), (binOp .eql 51 (.func (.func 38) #[] #[.pointer (some ⟨p, 0, none⟩)]) .nilFunc).run Tryd.prog W = .ok (.bool false) W := fun p W => by kernel_rfl
  have HT := Lib.hid hT
  clear hT
  gi_wp2_with fail
  refine (callsIn_wide.2 (get_any 4660 4 8 _ (by omega))).mono ?_
  rintro e w1 ⟨rfl, hb⟩
  rw [show getV 4660 4 8 = 35 from by decide +kernel, show getE 4 8 = 0 from by decide]
  replace hp := hp.below hb hp.lt
  have B1 := B0.trans (hb.mono B0.size)
  have ka := hp.cell 0
  have kb := hp.cell 1
  simp at ka kb
  clear hb B0
  gi_wp2_with fail
  refine (callsIn_wide.2 (put_any 4660 4 8 255 _ (by omega))).mono ?_
  rintro e w2 ⟨rfl, hb⟩
  rw [show putV 4660 4 8 255 = 8180 from by decide +kernel, show putE 4 8 255 = 0 from by decide +kernel]
  replace hp := hp.below hb hp.lt
  have B2 := B1.trans (hb.mono B1.size)
  replace ka := hp.cell 0
  replace kb := hp.cell 1
  simp at ka kb
  clear hb B1
  gi_wp2_with fail
  refine (callsIn_wide.2 (put_any 0 4 8 256 _ (by omega))).mono ?_
  rintro e w3 ⟨rfl, hb⟩
  rw [show putV 0 4 8 256 = 0 from by decide +kernel, show putE 4 8 256 = 2 from by decide +kernel]
  replace hp := hp.below hb hp.lt
  have B3 := B2.trans (hb.mono B2.size)
  replace ka := hp.cell 0
  replace kb := hp.cell 1
  simp at ka kb
  clear hb B2
  gi_wp2_with fail
  refine (callsIn_wide.2 (get_any 1 63 2 _ (by omega))).mono ?_
  rintro e w4 ⟨rfl, hb⟩
  rw [show getV 1 63 2 = 0 from by decide +kernel, show getE 63 2 = 2 from by decide]
  replace hp := hp.below hb hp.lt
  have B4 := B3.trans (hb.mono B3.size)
  clear hb B3
  clear ka kb hp
  gi_wp2_with fail
  have hN : Reads (w4.alloc (.cells #[.int .u8 1, .int .u8 2, .int .u8 3, .int .u8 4, .int .u8 5, .int .u8 6, .int .u8 7, .int .u8 8, .int .u8 9] 5)) (w4.heap.size + 1) 1 (some ⟨w4.heap.size, 0, none⟩) 9 (cells8 [1, 2, 3, 4, 5, 6, 7, 8, 9]) := by
    refine ⟨rfl, fun _ => ⟨_, rfl, by simp, fun j u hu => ?_⟩⟩
    have hz : (⟨w4.heap.size, 0, none⟩ : Addr).add j = ⟨w4.heap.size, j, none⟩ := by unfold Addr.add; split <;> simp_all
    rw [hz, (Blk.new w4 5 #[.int .u8 1, .int .u8 2, .int .u8 3, .int .u8 4, .int .u8 5, .int .u8 6, .int .u8 7, .int .u8 8, .int .u8 9]).cell j]
    simpa [cells8] using hu
  have B5 := below_al B4 (.cells #[.int .u8 1, .int .u8 2, .int .u8 3, .int .u8 4, .int .u8 5, .int .u8 6, .int .u8 7, .int .u8 8, .int .u8 9] 5) B4.size
  refine (callsIn_wide.2 (words_n [1, 2, 3, 4, 5, 6, 7, 8, 9] _ 9 _ _ (hN.more (by simp)) (by decide) (by omega) (by omega))).mono ?_
  rintro e w5 ⟨v5, rfl, hr5, hb⟩
  rw [show wordsN [1, 2, 3, 4, 5, 6, 7, 8, 9] = [578437695752307201, 9] from by decide +kernel] at hr5
  obtain ⟨A5, c5, rfl⟩ := own_form hr5
  have hL := Reads.of_own hr5
  replace hN := hN.below (hb.mono (Nat.le_of_eq (by simp)))
  have B6 := B5.trans (hb.mono B5.size)
  have z5 : w4.heap.size + 1 ≤ w5.heap.size := by have := hb.size; simpa using this
  clear hb hr5 B4 B5
  gi_wp2_with fail
  refine (callsIn_wide.2 (wbytes_any [578437695752307201, 9] 9 _ 2 _ _ hL (by decide) (by unfold maxLen; omega) (by decide))).mono ?_
  rintro e w6 ⟨A6, m6, rfl, hC, hb⟩
  rw [show bytesL [578437695752307201, 9] 9 = [1, 2, 3, 4, 5, 6, 7, 8, 9] from by decide +kernel] at hC
  rw [show bytesE [578437695752307201, 9] 9 = 0 from by decide +kernel]
  obtain rfl : m6 = 9 := by have := hC.1; simp [cells8] at this; omega
  replace hL := (hL.below hb)
  replace hN := hN.below (hb.mono z5)
  have B7 := B6.trans (hb.mono B6.size)
  have z6 : w5.heap.size ≤ w6.heap.size := hb.size
  clear hb B6
  gi_wp2_with fail
  refine (callsIn_wide.2 (wbytes_any [578437695752307201, 9] 8 _ 2 _ _ (hL.more z6) (by decide) (by unfold maxLen; omega) (by decide))).mono ?_
  rintro e w7 ⟨A7, m7, rfl, _, hb⟩
  rw [show bytesE [578437695752307201, 9] 8 = 110 from by decide +kernel]
  replace hL := hL.below (hb.mono z6)
  replace hN := hN.below (hb.mono (Nat.le_trans z5 z6))
  replace hC := hC.below hb
  have B8 := B7.trans (hb.mono B7.size)
  have z7 : w6.heap.size ≤ w7.heap.size := hb.size
  have hTg := HT.out.lt
  have z8 : w.heap.size ≤ w7.heap.size := B8.size
  clear hb B7
  gi_wp2_with fail
  refine (callsIn_wide.2 (mkbits_any 133 _)).mono ?_
  rintro e w8 ⟨rfl, rfl⟩
  gi_wp2_with fail
  refine (callsIn_wide.2 (mkbits_any 133 _)).mono ?_
  rintro e w8 ⟨rfl, rfl⟩
  gi_wp2_with fail
  have hin0 : ∀ WS, WS = ((w7.alloc (.cells #[.int .i64 0] 3)).alloc (.cells #[.int .u64 133] 22)).alloc (.cells #[.int .u64 133] 22) → WrkIn w7 0 WS ∧ WS.heap.size = w7.heap.size + 3 := by
    rintro WS rfl
    have k0 := ((Blk.new w7 3 #[.int .i64 0]).alloc (.cells #[.int .u64 133] 22)).alloc (.cells #[.int .u64 133] 22)
    have k2 := Blk.new ((w7.alloc (.cells #[.int .i64 0] 3)).alloc (.cells #[.int .u64 133] 22)) 22 #[.int .u64 133]
    simp only [World.size_alloc] at k0 k2
    exact ⟨⟨k0, k2, (((Below.refl _ w7).alloc (Nat.le_refl _) _).alloc (by simp) _).alloc (by simp; omega) _⟩, by simp⟩
  obtain ⟨in0, hs⟩ := hin0 _ rfl
  clear hin0 hnf
  generalize ((w7.alloc (.cells #[.int .i64 0] 3)).alloc (.cells #[.int .u64 133] 22)).alloc (.cells #[.int .u64 133] 22) = WS at *
  have Hs := Lib.hid hs
  have hon : onesL 133 = [0, 2, 7] := by decide
  have Hon := Lib.hid hon
  have HT7 : Hid (∀ Y, Below w7.heap.size w7 Y → TabIn Y) := Lib.hid (fun Y hY => (HT.out.below (B8.trans (hY.mono B8.size)) hTg))
  clear hs hon
  refine rangeFunc_break (gf := 38) (lb := #[.pointer (some ⟨w7.heap.size + 1 + 1, 0, none⟩)]) rfl (enters_of Tryd.func38 (by kernel_rfl) rfl) (bits_iter (w7.heap.size + 1 + 1) 133 (by omega)) (fun _ => rfl)
    (fun k Y => WrkIn w7 k Y) (fun _ _ => False) (fun Y => WrkIn w7 3 Y)
    ?hI ?hIx ?hIl ?hIxl ?hIR ?h0 ?hround ?hG1 ?hG2 ?rest
  case hI =>
    intro k Y Z hi hle hb
    simp only [Bool.false_eq_true, if_false] at hb
    exact hi.below hb
  case hIx => exact fun _ _ _ h => h.elim
  case hIl =>
    intro k Y Z hi hb
    rw [Hs.out] at hb
    exact hi.only hb
  case hIxl => exact fun _ _ _ h => h.elim
  case hIR =>
    intro k Y hi
    exact ⟨by simpa using hi.2.1.cell 0, HT7.out _ hi.2.2⟩
  case h0 =>
    intro Y hb
    exact in0.below hb
  case hG1 => exact fun Y h => by rw [Hon.out] at h; exact h
  case hG2 => exact fun _ _ _ _ h => h.elim
  case hround =>
    intro k Y hk hi hle
    rw [Hon.out] at hk
    have hgo : ∀ (x n m : Nat), (onesL 133).getD k 0 = x → nAt k = n → nAt (k + 1) = m → 10 * n + x = m → m ≤ 1000 → x ≤ 10 → n ≤ 10 → ∀ (P : Prop), ((∃ x n m : Nat, (onesL 133).getD k 0 = x ∧ nAt k = n ∧ nAt (k + 1) = m ∧ 10 * n + x = m ∧ m ≤ 1000 ∧ x ≤ 10 ∧ n ≤ 10) → P) → P := fun x n m a1 a2 a3 a4 a5 a6 a7 P h => h ⟨x, n, m, a1, a2, a3, a4, a5, a6, a7⟩
    obtain ⟨x, n, m, e1, e2, e3, e4, e5, e6, e7⟩ : ∃ x n m : Nat, (onesL 133).getD k 0 = x ∧ nAt k = n ∧ nAt (k + 1) = m ∧ 10 * n + x = m ∧ m ≤ 1000 ∧ x ≤ 10 ∧ n ≤ 10 := by
      rw [Hon.out]
      simp at hk
      have h3 : k = 0 ∨ k = 1 ∨ k = 2 := by omega
      rcases h3 with rfl | rfl | rfl
      · exact ⟨0, 0, 0, rfl, rfl, rfl, rfl, by omega, by omega, by omega⟩
      · exact ⟨2, 0, 2, rfl, rfl, rfl, rfl, by omega, by omega, by omega⟩
      · exact ⟨7, 2, 27, rfl, rfl, rfl, rfl, by omega, by omega, by omega⟩
    clear hgo
    rw [e1]
    gi_wp2
    refine ⟨Bk.refl _ _, fun Z hYZ hsz => ?_⟩
    have hiZ : WrkIn w7 k Z := hi.only (by rw [Hs.out] at hYZ; exact hYZ)
    obtain ⟨h1, h2, h3⟩ := hiZ
    rw [e2] at h1
    have cn := h1.cell 0
    have fn := h1.frozen 0
    simp at cn
    have hfin : Bk WS.heap.size Z (Z.setCell ⟨w7.heap.size, 0, none⟩ (.int .i64 m)) ∧ Kp false (WS.heap.size + 2) Y (Z.setCell ⟨w7.heap.size, 0, none⟩ (.int .i64 m)) ∧ WrkIn w7 (k + 1) (Z.setCell ⟨w7.heap.size, 0, none⟩ (.int .i64 m)) ∧ (Z.setCell ⟨w7.heap.size, 0, none⟩ (.int .i64 m)).cell? ⟨w7.heap.size, 0, none⟩ = some (.int .i64 m) := by
      have hsz' := Hs.out
      have hn := h1.set_ 0 (.int .i64 m)
      refine ⟨⟨by simp [World.setCell], Below.heap_setCell Z ⟨w7.heap.size, 0, none⟩ _ _ (show WS.heap.size ≠ w7.heap.size by omega), Below.heap_setCell Z ⟨w7.heap.size, 0, none⟩ _ _ (show WS.heap.size + 1 ≠ w7.heap.size by omega)⟩, (fun e => by cases e), ⟨?_, (h2.far (show w7.heap.size + 1 + 1 ≠ w7.heap.size by omega) _), h3.setCell (p := ⟨w7.heap.size, 0, none⟩) (Nat.le_refl _) _⟩, ?_⟩
      · rw [e3]
        simpa using hn
      · simpa using hn.cell 0
    obtain ⟨f1, f2, f3, f4⟩ := hfin
    have F1 := Lib.hid f1
    have F2 := Lib.hid f2
    have F3 := Lib.hid f3
    have ev : 10 * (n : Int) + (x : Int) = (m : Int) := by omega
    have E3 := Lib.hid e3
    have E2 := Lib.hid e2
    have E1 := Lib.hid e1
    have E4 := Lib.hid e4
    clear f1 f2 f3 e1 e2 e3 e4 hi h1 h2 h3 hk
    gi_wp2
    exact ⟨F1.out, F2.out, F3.out⟩
  case rest =>
    intro Y hi hle hD
    obtain ⟨h1, h2, h3⟩ := hi
    rw [show nAt 3 = 27 from rfl] at h1
    have cn := h1.cell 0
    simp at cn
    replace hL := (hL.below (h3.mono (Nat.le_trans z6 z7)))
    replace hN := hN.below (h3.mono (Nat.le_trans z5 (Nat.le_trans z6 z7)))
    replace hC := hC.below (h3.mono z7)
    have B9 := B8.trans (h3.mono B8.size)
    have z9 : w7.heap.size ≤ Y.heap.size := h3.size
    clear cn
    gi_wp2_with (gi_at_call 13; refine (callsIn_wide.2 (num_any _ _)).mono ?_; rintro e w' ⟨rfl, rfl⟩)
    have hK : Reads (Y.alloc (.cells #[.int .u64 578437695752307201, .int .u64 9] 22)) (Y.heap.size + 1) 1 (some ⟨Y.heap.size, 0, none⟩) 2 (cells64 [578437695752307201, 9]) := by
      refine ⟨rfl, fun _ => ⟨_, rfl, by simp, fun j u hu => ?_⟩⟩
      have hz : (⟨Y.heap.size, 0, none⟩ : Addr).add j = ⟨Y.heap.size, j, none⟩ := by unfold Addr.add; split <;> simp_all
      rw [hz, (Blk.new Y 22 #[.int .u64 578437695752307201, .int .u64 9]).cell j]
      simpa [cells64] using hu
    have hA := (Below.refl Y.heap.size Y).alloc (Nat.le_refl _) (.cells #[.int .u64 578437695752307201, .int .u64 9] 22)
    have hlt : w.heap.size ≤ Y.heap.size := B9.size
    refine (callsIn_wide.2 (rsame_eq [578437695752307201, 9] _ _ 2 _ _ w5.heap.size (Y.heap.size + 1) _ (hL.below (hA.mono (by omega))) hK (by simp; omega) (by simp) (by omega))).mono ?_
    rintro e X ⟨rfl, hb⟩
    have hX : Below Y.heap.size Y X := hA.trans (hb.mono (by simp))
    have cv1 := conv_reads 9 (hC.below (hX.mono (by omega)))
    have cv2 := conv_reads 9 (hN.below (hX.mono (by omega)))
    replace h1 := h1.below hX h1.lt
    have cn := h1.cell 0
    simp at cn
    have BX := B9.trans (hX.mono hlt)
    have hDX : X.heap[WS.heap.size]? = some (.deferred (some [])) := (hX.block _ (by omega)).trans hD
    have hlX : Y.heap.size ≤ X.heap.size := hX.size
    clear hb hK hA hX hL hN hC h1 h2 h3 B9 B8 hD
    gi_wp2_with (gi_at_call 13; refine (callsIn_wide.2 (num_any _ _)).mono ?_; rintro e w' ⟨rfl, rfl⟩)
    have hs := Hs.out
    refine ⟨by simp, .inl ⟨_, _, rfl, run_takeDeferred hDX, ?_⟩⟩
    have hb9 : Below w.heap.size X (X.putObj WS.heap.size (.deferred none)) := below_only (grown_put _ _ _) (by omega) (by omega)
    exact ⟨.bool true, by simp [results, Tryd.results14, go_sem], rfl, BX.trans hb9⟩
end Go.Proofs.YtamgmbmjbegfgaaDoor
