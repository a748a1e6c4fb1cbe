/- The walks of the laws WordTwice and WordHolds. Conditions: words of 64 bits; the library's table reads as its text lays it. -/
import Derived.Test.YtamgmbmjbegfgaaDoorLawF
import Derived.Test.YtamgmbmjbegfgaaDoorApaA
namespace Go.Proofs.YtamgmbmjbegfgaaDoor
open Go.RowKit

theorem putV_lt (x : Nat) (f d : Int) (n : Nat) (hx : x < 18446744073709551616) : putV x f d n < 18446744073709551616 := by
  unfold putV
  split
  · next h =>
    rw [Bool.and_eq_true, decide_eq_true_eq] at h
    obtain ⟨F, D, rfl, rfl, h1, h2⟩ := fldOk_nat h.1
    have := h.2
    rw [Int.toNat_natCast] at this
    rw [Int.toNat_natCast, Int.toNat_natCast]
    exact putN_lt x F D n hx h2 this
  · omega
theorem getV_lt (x : Nat) (f d : Int) (hx : x < 18446744073709551616) : getV x f d < 18446744073709551616 := by
  unfold getV
  split
  · unfold getN
    exact Nat.lt_of_le_of_lt (Nat.mod_le _ _) (Nat.lt_of_le_of_lt (Nat.div_le_self _ _) hx)
  · omega
theorem putE_ok (f d : Int) (n : Nat) : (putE f d n = 0 ∧ ∃ F D : Nat, f = F ∧ d = D ∧ 1 ≤ D ∧ F + D ≤ 64 ∧ n < 2 ^ D ∧ ∀ x, putV x f d n = putN x F D n) ∨ putE f d n = 2 := by
  unfold putE putV
  cases h : fldOk f d && decide (n < 2 ^ d.toNat)
  · right; rfl
  · left
    rw [Bool.and_eq_true, decide_eq_true_eq] at h
    obtain ⟨F, D, rfl, rfl, h1, h2⟩ := fldOk_nat h.1
    have := h.2
    rw [Int.toNat_natCast] at this
    exact ⟨rfl, F, D, rfl, rfl, h1, h2, this, fun x => by simp⟩
theorem fldOk_of {F D : Nat} (h : 1 ≤ D) (h2 : F + D ≤ 64) : fldOk F D = true := (fldOk_iff _ _).2 (by omega)
theorem get_ok {F D : Nat} (h : 1 ≤ D) (h2 : F + D ≤ 64) (x : Nat) : getV x F D = getN x F D ∧ getE F D = 0 := by
  simp [getV, getE, fldOk_of h h2]
theorem put_ok {F D : Nat} (h : 1 ≤ D) (h2 : F + D ≤ 64) (x n : Nat) (hn : n < 2 ^ D) : putV x F D n = putN x F D n ∧ putE F D n = 0 := by
  simp [putV, putE, fldOk_of h h2, hn]
theorem apart_two (f d g e : Int) (h : apFrom 0 [(f, d), (g, e)] = true) : ∃ F D G E : Nat, f = F ∧ d = D ∧ g = G ∧ e = E ∧ 1 ≤ D ∧ F + D ≤ 64 ∧ 1 ≤ E ∧ G + E ≤ 64 ∧ apartN F D G E := by
  simp only [apFrom, Nat.zero_or, Bool.and_true, Bool.and_eq_true, decide_eq_true_eq] at h
  obtain ⟨⟨h1, _⟩, h2, h3⟩ := h
  obtain ⟨F, D, rfl, rfl, q1, q2⟩ := fldOk_nat h1
  obtain ⟨G, E, rfl, rfl, q3, q4⟩ := fldOk_nat h2
  refine ⟨F, D, G, E, rfl, rfl, rfl, rfl, q1, q2, q3, q4, ?_⟩
  simp only [Int.toNat_natCast] at h3
  unfold apartN
  rcases Nat.lt_or_ge G (F + D) with h4 | h4
  · rcases Nat.lt_or_ge F (G + E) with h5 | h5
    · exfalso
      have h6 : (hiM F D &&& hiM G E).testBit (max F G) = false := by rw [h3]; simp
      rw [Nat.testBit_and, hiM_bit, hiM_bit, decide_eq_true (by omega), decide_eq_true (by omega)] at h6
      cases h6
    · exact .inr h5
  · exact .inl h4
theorem two_fields (w : World) (f d g e : Int) (T : TypeId) : FReads (w.alloc (.cells #[.int .i64 f, .int .i64 d, .int .i64 g, .int .i64 e] T)) (w.heap.size + 1) (some ⟨w.heap.size, 0, none⟩) 2 [(f, d), (g, e)] := by
  have hk := Blk.new w T #[.int .i64 f, .int .i64 d, .int .i64 g, .int .i64 e]
  refine ⟨rfl, fun _ => ⟨_, rfl, by simp, fun i p hp => ?_⟩⟩
  have hz : ∀ j, (⟨w.heap.size, 0, none⟩ : Addr).add j = ⟨w.heap.size, j, none⟩ := fun j => by unfold Addr.add; split <;> simp_all
  rw [hz, hz, hk.cell, hk.cell]
  match i, hp with
  | 0, hp => simp at hp; subst hp; exact ⟨rfl, rfl⟩
  | 1, hp => simp at hp; subst hp; exact ⟨rfl, rfl⟩
theorem FReads.more {w : World} {B B' n : Nat} {A : Option Addr} {zs : List (Int × Int)} (h : FReads w B A n zs) (hB : B ≤ B') : FReads w B' A n zs :=
  ⟨h.1, fun hn => by
    obtain ⟨ad, e, h1, hc⟩ := h.2 hn
    exact ⟨ad, e, by omega, hc⟩⟩

set_option maxRecDepth 100000 in
set_option maxHeartbeats 4000000 in
theorem wordTwice_any (x : Nat) (f d g ee : Int) (m n : Nat) (w : World) (hx : x < 18446744073709551616) (hT : TabIn w) :
    Calls Tryd.prog 9 #[.int .u64 x, .agg #[.int .i64 f, .int .i64 d], .agg #[.int .i64 g, .int .i64 ee], .agg #[.int .u64 m, .int .u64 n]] w fun e w' => e = .returned (.bool true) ∧ Below w.heap.size w w' := by
  have hf := ((Blk.new w 24 #[.int .i64 f, .int .i64 d]).alloc (.cells #[.int .i64 g, .int .i64 ee] 24)).alloc (.cells #[.int .u64 m, .int .u64 n] 57)
  have hg := (Blk.new (w.alloc (.cells #[.int .i64 f, .int .i64 d] 24)) 24 #[.int .i64 g, .int .i64 ee]).alloc (.cells #[.int .u64 m, .int .u64 n] 57)
  have hm := Blk.new ((w.alloc (.cells #[.int .i64 f, .int .i64 d] 24)).alloc (.cells #[.int .i64 g, .int .i64 ee] 24)) 57 #[.int .u64 m, .int .u64 n]
  simp only [World.size_alloc] at hg hm
  have B0 : Below w.heap.size w (((w.alloc (.cells #[.int .i64 f, .int .i64 d] 24)).alloc (.cells #[.int .i64 g, .int .i64 ee] 24)).alloc (.cells #[.int .u64 m, .int .u64 n] 57)) := (((Below.refl _ w).alloc (Nat.le_refl _) _).alloc (by simp) _).alloc (by simp; omega) _
  have hTl := hT.lt
  have HT := Lib.hid hT
  clear hT
  have kf := hf.cell 0
  have kd := hf.cell 1
  have kg := hg.cell 0
  have ke := hg.cell 1
  have km := hm.cell 0
  have kn := hm.cell 1
  simp at kf kd kg ke km kn
  obtain ⟨a, ha⟩ : ∃ a, putV x f d m = a := ⟨_, rfl⟩
  obtain ⟨e1, he1⟩ : ∃ a, putE f d m = a := ⟨_, rfl⟩
  obtain ⟨b, hbb⟩ : ∃ q, putV a f d n = q := ⟨_, rfl⟩
  obtain ⟨e2, he2⟩ : ∃ a, putE f d n = a := ⟨_, rfl⟩
  have ha64 : a < 18446744073709551616 := by rw [← ha]; exact putV_lt x f d m hx
  have G1 := fun W => put_any x f d m W hx
  have G2 := fun W => put_any a f d n W ha64
  simp only [ha, he1] at G1
  simp only [hbb, he2] at G2
  have HG1 := Lib.hid G1
  have HG2 := Lib.hid G2
  have hc1 := putE_ok f d m
  have hc2 := putE_ok f d n
  rw [he1] at hc1
  rw [he2] at hc2
  have h12 : (e1 = 0 ∨ e1 = 2) ∧ (e2 = 0 ∨ e2 = 2) := ⟨hc1.elim (fun h => .inl h.1) .inr, hc2.elim (fun h => .inl h.1) .inr⟩
  have Hc1 := Lib.hid hc1
  have Hc2 := Lib.hid hc2
  have Ha := Lib.hid ha
  have Hb := Lib.hid hbb
  have H12 := Lib.hid h12
  clear G1 G2 hc1 hc2 ha hbb he1 he2 h12
  go_enter Tryd.func9, Tryd.ntmps9
  go_wp2_with fail
  refine (HG1.out _).mono ?_
  rintro e w1 ⟨rfl, hb⟩
  replace hf := hf.below hb hf.lt
  replace hg := hg.below hb hg.lt
  replace hm := hm.below hb hm.lt
  have B1 := B0.trans (hb.mono B0.size)
  replace kf := hf.cell 0
  replace kd := hf.cell 1
  replace kg := hg.cell 0
  replace ke := hg.cell 1
  replace km := hm.cell 0
  replace kn := hm.cell 1
  simp at kf kd kg ke km kn
  clear hb B0
  go_wp2_with fail
  refine (HG2.out _).mono ?_
  rintro e w2 ⟨rfl, hb⟩
  replace hf := hf.below hb hf.lt
  replace hg := hg.below hb hg.lt
  replace hm := hm.below hb hm.lt
  have B2 := B1.trans (hb.mono B1.size)
  replace kf := hf.cell 0
  replace kd := hf.cell 1
  replace kg := hg.cell 0
  replace ke := hg.cell 1
  replace km := hm.cell 0
  replace kn := hm.cell 1
  simp at kf kd kg ke km kn
  clear hb B1
  by_cases hz : e1 = 0 ∧ e2 = 0
  · obtain ⟨rfl, rfl⟩ := hz
    obtain ⟨F, D, rfl, rfl, hD, hFD, hmD, hp1⟩ : ∃ F D : Nat, f = F ∧ d = D ∧ 1 ≤ D ∧ F + D ≤ 64 ∧ m < 2 ^ D ∧ ∀ x, putV x f d m = putN x F D m := Hc1.out.elim (fun h => h.2) (fun h => by omega)
    have hnD : n < 2 ^ D := by
      rcases Hc2.out with ⟨_, F', D', e3, e4, _, _, h3, _⟩ | h
      · rw [show D = D' by omega]; exact h3
      · omega
    have ebx : b = putN x F D n := by
      have e5 := Hb.out
      have e6 := Ha.out
      rw [(put_ok hD hFD x m hmD).1] at e6
      rw [(put_ok hD hFD a n hnD).1, ← e6, put_put x F D m n hx hFD hmD hnD] at e5
      exact e5.symm
    have hb64 : b < 18446744073709551616 := by rw [ebx]; exact putN_lt x F D n hx hFD hnD
    have G3 := fun W => put_any x F D n W hx
    simp only [(put_ok hD hFD x n hnD).1, (put_ok hD hFD x n hnD).2, ← ebx] at G3
    have HG3 := Lib.hid G3
    have Eb := Lib.hid ebx
    have HnD := Lib.hid hnD
    clear hp1 hnD ebx G3 Hc1 Hc2 hmD
    go_wp2_with (go_at_call 13; refine (num_any _ _).mono ?_; rintro e w' ⟨rfl, rfl⟩)
    refine (HG3.out _).mono ?_
    rintro e w3 ⟨rfl, hb⟩
    replace hf := hf.below hb hf.lt
    replace hg := hg.below hb hg.lt
    replace hm := hm.below hb hm.lt
    have B3 := B2.trans (hb.mono B2.size)
    replace kf := hf.cell 0
    replace kd := hf.cell 1
    replace kg := hg.cell 0
    replace ke := hg.cell 1
    replace km := hm.cell 0
    replace kn := hm.cell 1
    simp at kf kd kg ke km kn
    clear hb B2
    have hfr : FReads (w3.alloc (.cells #[.int .i64 (F : Int), .int .i64 (D : Int), .int .i64 g, .int .i64 ee] 24)) (w3.heap.size + 1) (some ⟨w3.heap.size, 0, none⟩) 2 [((F : Int), (D : Int)), (g, ee)] := two_fields w3 F D g ee 24
    have hfr' := Lib.hid hfr
    have BA := below_al B3 (.cells #[.int .i64 (F : Int), .int .i64 (D : Int), .int .i64 g, .int .i64 ee] 24) B3.size
    replace hf := hf.alloc (.cells #[.int .i64 (F : Int), .int .i64 (D : Int), .int .i64 g, .int .i64 ee] 24)
    replace hg := hg.alloc (.cells #[.int .i64 (F : Int), .int .i64 (D : Int), .int .i64 g, .int .i64 ee] 24)
    replace hm := hm.alloc (.cells #[.int .i64 (F : Int), .int .i64 (D : Int), .int .i64 g, .int .i64 ee] 24)
    obtain ⟨ap, hap⟩ : ∃ ap, apFrom 0 [((F : Int), (D : Int)), (g, ee)] = ap := ⟨_, rfl⟩
    have Hap := Lib.hid hap
    clear hfr hap
    go_wp2_with (go_at_call 13; refine (num_any _ _).mono ?_; rintro e w' ⟨rfl, rfl⟩)
    refine (apart_any _ _ 2 2 _ (hfr'.out.more (by simp)) (by omega) (HT.out.below BA hTl)).mono ?_
    rintro e w4 ⟨rfl, hb⟩
    replace hf := hf.below hb hf.lt
    replace hg := hg.below hb hg.lt
    replace hm := hm.below hb hm.lt
    have B4 := BA.trans (hb.mono BA.size)
    replace kf := hf.cell 0
    replace kd := hf.cell 1
    replace kg := hg.cell 0
    replace ke := hg.cell 1
    replace km := hm.cell 0
    replace kn := hm.cell 1
    simp at kf kd kg ke km kn
    clear hb BA
    rw [Hap.out]
    cases ap
    · go_wp2_with (go_at_call 13; refine (num_any _ _).mono ?_; rintro e w' ⟨rfl, rfl⟩)
      refine (works_any _ (HT.out.below B4 hTl)).mono ?_
      rintro e wz ⟨rfl, hb⟩
      go_wp2
      go_ret
      exact ⟨rfl, B4.trans (hb.mono B4.size)⟩
    · obtain ⟨F', D', G, E, q1, q2, rfl, rfl, _, _, hE, hGE, hapn⟩ := apart_two _ _ _ _ Hap.out
      have hgg := get_apart x F D n G E hx hFD HnD.out (by rw [show F = F' by omega, show D = D' by omega]; exact hapn)
      rw [← Eb.out] at hgg
      have G4 := fun W => get_any x G E W hx
      have G5 := fun W => get_any b G E W hb64
      simp only [(get_ok hE hGE x).1, (get_ok hE hGE x).2] at G4
      simp only [(get_ok hE hGE b).1, (get_ok hE hGE b).2, hgg] at G5
      have HG4 := Lib.hid G4
      have HG5 := Lib.hid G5
      clear hgg G4 G5 hapn q1 q2
      go_wp2_with fail
      refine (HG4.out _).mono ?_
      rintro e w5 ⟨rfl, hb⟩
      replace hf := hf.below hb hf.lt
      replace hg := hg.below hb hg.lt
      replace hm := hm.below hb hm.lt
      have B5 := B4.trans (hb.mono B4.size)
      replace kf := hf.cell 0
      replace kd := hf.cell 1
      replace kg := hg.cell 0
      replace ke := hg.cell 1
      replace km := hm.cell 0
      replace kn := hm.cell 1
      simp at kf kd kg ke km kn
      clear hb B4
      go_wp2_with fail
      refine (HG5.out _).mono ?_
      rintro e w6 ⟨rfl, hb⟩
      replace hf := hf.below hb hf.lt
      replace hg := hg.below hb hg.lt
      replace hm := hm.below hb hm.lt
      have B6 := B5.trans (hb.mono B5.size)
      replace kf := hf.cell 0
      replace kd := hf.cell 1
      replace kg := hg.cell 0
      replace ke := hg.cell 1
      replace km := hm.cell 0
      replace kn := hm.cell 1
      simp at kf kd kg ke km kn
      clear hb B5
      go_wp2_with (go_at_call 13; refine (num_any _ _).mono ?_; rintro e w' ⟨rfl, rfl⟩)
      refine (works_any _ (HT.out.below B6 hTl)).mono ?_
      rintro e wz ⟨rfl, hb⟩
      go_wp2
      go_ret
      exact ⟨rfl, B6.trans (hb.mono B6.size)⟩
  · have hs : ((e1 + e2) != 0) = true := by have := H12.out; simp; omega
    have hs2 : IntKind.i64.wrap (e1 + e2) = e1 + e2 := by have := H12.out; rw [IntKind.wrap_i64]; omega
    clear hz
    go_wp2_with (go_at_call 13; refine (num_any _ _).mono ?_; rintro e w' ⟨rfl, rfl⟩)
    refine (works_any _ (HT.out.below B2 hTl)).mono ?_
    rintro e wz ⟨rfl, hb⟩
    go_wp2
    go_ret
    exact ⟨rfl, B2.trans (hb.mono B2.size)⟩

set_option maxRecDepth 100000 in
set_option maxHeartbeats 4000000 in
theorem wordHolds_any (x : Nat) (f d g ee : Int) (m n : Nat) (w : World) (hx : x < 18446744073709551616) (hT : TabIn w) :
    Calls Tryd.prog 8 #[.int .u64 x, .agg #[.int .i64 f, .int .i64 d], .agg #[.int .i64 g, .int .i64 ee], .agg #[.int .u64 m, .int .u64 n]] w fun e w' => e = .returned (.bool true) ∧ Below w.heap.size w w' := by
  have hf := ((Blk.new w 24 #[.int .i64 f, .int .i64 d]).alloc (.cells #[.int .i64 g, .int .i64 ee] 24)).alloc (.cells #[.int .u64 m, .int .u64 n] 57)
  have hg := (Blk.new (w.alloc (.cells #[.int .i64 f, .int .i64 d] 24)) 24 #[.int .i64 g, .int .i64 ee]).alloc (.cells #[.int .u64 m, .int .u64 n] 57)
  have hm := Blk.new ((w.alloc (.cells #[.int .i64 f, .int .i64 d] 24)).alloc (.cells #[.int .i64 g, .int .i64 ee] 24)) 57 #[.int .u64 m, .int .u64 n]
  simp only [World.size_alloc] at hg hm
  have B0 : Below w.heap.size w (((w.alloc (.cells #[.int .i64 f, .int .i64 d] 24)).alloc (.cells #[.int .i64 g, .int .i64 ee] 24)).alloc (.cells #[.int .u64 m, .int .u64 n] 57)) := (((Below.refl _ w).alloc (Nat.le_refl _) _).alloc (by simp) _).alloc (by simp; omega) _
  have hTl := hT.lt
  have HT := Lib.hid hT
  clear hT
  have kf := hf.cell 0
  have kd := hf.cell 1
  have kg := hg.cell 0
  have ke := hg.cell 1
  have km := hm.cell 0
  have kn := hm.cell 1
  simp at kf kd kg ke km kn
  obtain ⟨a, ha⟩ : ∃ a, putV x f d m = a := ⟨_, rfl⟩
  obtain ⟨e1, he1⟩ : ∃ a, putE f d m = a := ⟨_, rfl⟩
  have ha64 : a < 18446744073709551616 := by rw [← ha]; exact putV_lt x f d m hx
  have G1 := fun W => put_any x f d m W hx
  simp only [ha, he1] at G1
  have HG1 := Lib.hid G1
  have hc1 := putE_ok f d m
  rw [he1] at hc1
  have Hc1 := Lib.hid hc1
  have Ha := Lib.hid ha
  clear G1 hc1 ha he1
  go_enter Tryd.func8, Tryd.ntmps8
  go_wp2_with fail
  refine (HG1.out _).mono ?_
  rintro e w1 ⟨rfl, hb⟩
  replace hf := hf.below hb hf.lt
  replace hg := hg.below hb hg.lt
  replace hm := hm.below hb hm.lt
  have B1 := B0.trans (hb.mono B0.size)
  replace kf := hf.cell 0
  replace kd := hf.cell 1
  replace kg := hg.cell 0
  replace ke := hg.cell 1
  replace km := hm.cell 0
  replace kn := hm.cell 1
  simp at kf kd kg ke km kn
  clear hb B0
  by_cases hz : e1 = 0
  · subst hz
    obtain ⟨F, D, rfl, rfl, hD, hFD, hmD, hp1⟩ : ∃ F D : Nat, f = F ∧ d = D ∧ 1 ≤ D ∧ F + D ≤ 64 ∧ m < 2 ^ D ∧ ∀ x, putV x f d m = putN x F D m := Hc1.out.elim (fun h => h.2) (fun h => by omega)
    have eax : a = putN x F D m := by rw [← Ha.out]; exact hp1 x
    have e2 : getN a F D = m := by rw [eax]; exact get_put x F D m hx hFD hmD
    obtain ⟨y, hy⟩ : ∃ y, getN x F D = y := ⟨_, rfl⟩
    have hyD : y < 2 ^ D := by rw [← hy]; exact getN_lt x F D
    have e3 : putN x F D y = x := by rw [← hy]; exact put_get x F D hx hFD
    have G2 := fun W => get_any a F D W ha64
    have G3 := fun W => get_any x F D W hx
    have G4 := fun W => put_any x F D y W hx
    simp only [(get_ok hD hFD a).1, (get_ok hD hFD a).2, e2] at G2
    simp only [(get_ok hD hFD x).1, (get_ok hD hFD x).2, hy] at G3
    simp only [(put_ok hD hFD x y hyD).1, (put_ok hD hFD x y hyD).2, e3] at G4
    obtain ⟨c, hcc⟩ : ∃ c, putV a g ee n = c := ⟨_, rfl⟩
    obtain ⟨e4, he4⟩ : ∃ c, putE g ee n = c := ⟨_, rfl⟩
    have hc64 : c < 18446744073709551616 := by rw [← hcc]; exact putV_lt a g ee n ha64
    have G5 := fun W => put_any a g ee n W ha64
    simp only [hcc, he4] at G5
    have hc4 := putE_ok g ee n
    rw [he4] at hc4
    have HG2 := Lib.hid G2
    have HG3 := Lib.hid G3
    have HG4 := Lib.hid G4
    have HG5 := Lib.hid G5
    have Hc4 := Lib.hid hc4
    have Hcc := Lib.hid hcc
    have Eax := Lib.hid eax
    have HmD := Lib.hid hmD
    clear hp1 eax e2 hy hyD e3 G2 G3 G4 G5 hcc he4 hc4 hmD
    go_wp2_with (go_at_call 13; refine (num_any _ _).mono ?_; rintro e w' ⟨rfl, rfl⟩)
    refine (HG2.out _).mono ?_
    rintro e w2 ⟨rfl, hb⟩
    replace hf := hf.below hb hf.lt
    replace hg := hg.below hb hg.lt
    replace hm := hm.below hb hm.lt
    have B2 := B1.trans (hb.mono B1.size)
    replace kf := hf.cell 0
    replace kd := hf.cell 1
    replace kg := hg.cell 0
    replace ke := hg.cell 1
    replace km := hm.cell 0
    replace kn := hm.cell 1
    simp at kf kd kg ke km kn
    clear hb B1
    go_wp2_with fail
    refine (HG3.out _).mono ?_
    rintro e w3 ⟨rfl, hb⟩
    replace hf := hf.below hb hf.lt
    replace hg := hg.below hb hg.lt
    replace hm := hm.below hb hm.lt
    have B3 := B2.trans (hb.mono B2.size)
    replace kf := hf.cell 0
    replace kd := hf.cell 1
    replace kg := hg.cell 0
    replace ke := hg.cell 1
    replace km := hm.cell 0
    replace kn := hm.cell 1
    simp at kf kd kg ke km kn
    clear hb B2
    go_wp2_with fail
    refine (HG4.out _).mono ?_
    rintro e w4 ⟨rfl, hb⟩
    replace hf := hf.below hb hf.lt
    replace hg := hg.below hb hg.lt
    replace hm := hm.below hb hm.lt
    have B4 := B3.trans (hb.mono B3.size)
    replace kf := hf.cell 0
    replace kd := hf.cell 1
    replace kg := hg.cell 0
    replace ke := hg.cell 1
    replace km := hm.cell 0
    replace kn := hm.cell 1
    simp at kf kd kg ke km kn
    clear hb B3
    go_wp2_with (go_at_call 13; refine (num_any _ _).mono ?_; rintro e w' ⟨rfl, rfl⟩)
    refine (HG5.out _).mono ?_
    rintro e w5 ⟨rfl, hb⟩
    replace hf := hf.below hb hf.lt
    replace hg := hg.below hb hg.lt
    replace hm := hm.below hb hm.lt
    have B5 := B4.trans (hb.mono B4.size)
    replace kf := hf.cell 0
    replace kd := hf.cell 1
    replace kg := hg.cell 0
    replace ke := hg.cell 1
    replace km := hm.cell 0
    replace kn := hm.cell 1
    simp at kf kd kg ke km kn
    clear hb B4
    have hfr : FReads (w5.alloc (.cells #[.int .i64 (F : Int), .int .i64 (D : Int), .int .i64 g, .int .i64 ee] 24)) (w5.heap.size + 1) (some ⟨w5.heap.size, 0, none⟩) 2 [((F : Int), (D : Int)), (g, ee)] := two_fields w5 F D g ee 24
    have hfr' := Lib.hid hfr
    have BA := below_al B5 (.cells #[.int .i64 (F : Int), .int .i64 (D : Int), .int .i64 g, .int .i64 ee] 24) B5.size
    replace hf := hf.alloc (.cells #[.int .i64 (F : Int), .int .i64 (D : Int), .int .i64 g, .int .i64 ee] 24)
    replace hg := hg.alloc (.cells #[.int .i64 (F : Int), .int .i64 (D : Int), .int .i64 g, .int .i64 ee] 24)
    replace hm := hm.alloc (.cells #[.int .i64 (F : Int), .int .i64 (D : Int), .int .i64 g, .int .i64 ee] 24)
    obtain ⟨ap, hap⟩ : ∃ ap, apFrom 0 [((F : Int), (D : Int)), (g, ee)] = ap := ⟨_, rfl⟩
    have Hap := Lib.hid hap
    clear hfr hap
    go_wp2_with fail
    refine (apart_any _ _ 2 2 _ (hfr'.out.more (by simp)) (by omega) (HT.out.below BA hTl)).mono ?_
    rintro e w6 ⟨rfl, hb⟩
    replace hf := hf.below hb hf.lt
    replace hg := hg.below hb hg.lt
    replace hm := hm.below hb hm.lt
    have B6 := BA.trans (hb.mono BA.size)
    replace kf := hf.cell 0
    replace kd := hf.cell 1
    replace kg := hg.cell 0
    replace ke := hg.cell 1
    replace km := hm.cell 0
    replace kn := hm.cell 1
    simp at kf kd kg ke km kn
    clear hb BA
    rw [Hap.out]
    cases ap
    · go_wp2_with (go_at_call 13; refine (num_any _ _).mono ?_; rintro e w' ⟨rfl, rfl⟩)
      refine (works_any _ (HT.out.below B6 hTl)).mono ?_
      rintro e wz ⟨rfl, hb⟩
      go_wp2
      go_ret
      exact ⟨rfl, B6.trans (hb.mono B6.size)⟩
    · by_cases hz4 : e4 = 0
      · subst hz4
        obtain ⟨F', D', G, E, q1, q2, rfl, rfl, _, _, hE, hGE, hapn⟩ := apart_two _ _ _ _ Hap.out
        have hnE : n < 2 ^ E := by
          rcases Hc4.out with ⟨_, G', E', e5, e6, _, _, h3, _⟩ | h
          · rw [show E = E' by omega]; exact h3
          · omega
        rw [← show F = F' by omega, ← show D = D' by omega] at hapn
        have ecx : c = putN (putN x F D m) G E n := by rw [← Hcc.out, (put_ok hE hGE a n hnE).1, Eax.out]
        have hsw := put_apart x F D m G E n hx hFD HmD.out hGE hnE hapn
        obtain ⟨dd, hdd⟩ : ∃ dd, putN x G E n = dd := ⟨_, rfl⟩
        have hd64 : dd < 18446744073709551616 := by rw [← hdd]; exact putN_lt x G E n hx hGE hnE
        have e7 : putN dd F D m = c := by rw [← hdd, ← hsw, ← ecx]
        have e8 : getN c F D = m := by rw [← e7]; exact get_put dd F D m hd64 hFD HmD.out
        have G6 := fun W => put_any x G E n W hx
        have G7 := fun W => put_any dd F D m W hd64
        have G8 := fun W => get_any c F D W hc64
        simp only [(put_ok hE hGE x n hnE).1, (put_ok hE hGE x n hnE).2, hdd] at G6
        simp only [(put_ok hD hFD dd m HmD.out).1, (put_ok hD hFD dd m HmD.out).2, e7] at G7
        simp only [(get_ok hD hFD c).1, (get_ok hD hFD c).2, e8] at G8
        have HG6 := Lib.hid G6
        have HG7 := Lib.hid G7
        have HG8 := Lib.hid G8
        clear G6 G7 G8 ecx hsw hdd e7 e8 hapn hnE q1 q2
        go_wp2_with (go_at_call 13; refine (num_any _ _).mono ?_; rintro e w' ⟨rfl, rfl⟩)
        refine (HG6.out _).mono ?_
        rintro e w7 ⟨rfl, hb⟩
        replace hf := hf.below hb hf.lt
        replace hg := hg.below hb hg.lt
        replace hm := hm.below hb hm.lt
        have B7 := B6.trans (hb.mono B6.size)
        replace kf := hf.cell 0
        replace kd := hf.cell 1
        replace kg := hg.cell 0
        replace ke := hg.cell 1
        replace km := hm.cell 0
        replace kn := hm.cell 1
        simp at kf kd kg ke km kn
        clear hb B6
        go_wp2_with fail
        refine (HG7.out _).mono ?_
        rintro e w8 ⟨rfl, hb⟩
        replace hf := hf.below hb hf.lt
        replace hg := hg.below hb hg.lt
        replace hm := hm.below hb hm.lt
        have B8 := B7.trans (hb.mono B7.size)
        replace kf := hf.cell 0
        replace kd := hf.cell 1
        replace kg := hg.cell 0
        replace ke := hg.cell 1
        replace km := hm.cell 0
        replace kn := hm.cell 1
        simp at kf kd kg ke km kn
        clear hb B7
        go_wp2_with fail
        refine (HG8.out _).mono ?_
        rintro e w9 ⟨rfl, hb⟩
        replace hf := hf.below hb hf.lt
        replace hg := hg.below hb hg.lt
        replace hm := hm.below hb hm.lt
        have B9 := B8.trans (hb.mono B8.size)
        replace kf := hf.cell 0
        replace kd := hf.cell 1
        replace kg := hg.cell 0
        replace ke := hg.cell 1
        replace km := hm.cell 0
        replace kn := hm.cell 1
        simp at kf kd kg ke km kn
        clear hb B8
        go_wp2_with (go_at_call 13; refine (num_any _ _).mono ?_; rintro e w' ⟨rfl, rfl⟩)
        refine (works_any _ (HT.out.below B9 hTl)).mono ?_
        rintro e wz ⟨rfl, hb⟩
        go_wp2
        go_ret
        exact ⟨rfl, B9.trans (hb.mono B9.size)⟩
      · have hs : (e4 != 0) = true := by simpa using hz4
        clear hz4
        go_wp2_with (go_at_call 13; refine (num_any _ _).mono ?_; rintro e w' ⟨rfl, rfl⟩)
        refine (works_any _ (HT.out.below B6 hTl)).mono ?_
        rintro e wz ⟨rfl, hb⟩
        go_wp2
        go_ret
        exact ⟨rfl, B6.trans (hb.mono B6.size)⟩
  · have hs : (e1 != 0) = true := by simpa using hz
    clear hz
    go_wp2_with (go_at_call 13; refine (num_any _ _).mono ?_; rintro e w' ⟨rfl, rfl⟩)
    refine (works_any _ (HT.out.below B1 hTl)).mono ?_
    rintro e wz ⟨rfl, hb⟩
    go_wp2
    go_ret
    exact ⟨rfl, B1.trans (hb.mono B1.size)⟩
end Go.Proofs.YtamgmbmjbegfgaaDoor
