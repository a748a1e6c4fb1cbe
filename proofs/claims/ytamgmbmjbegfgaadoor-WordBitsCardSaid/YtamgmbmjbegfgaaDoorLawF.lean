/- The walk of the law WordFields. Conditions: words of 64 bits; the library's table reads as its text lays it. -/
import Derived.Test.YtamgmbmjbegfgaaDoorRefA
import Derived.Test.YtamgmbmjbegfgaaDoorWrkB
namespace Go.Proofs.YtamgmbmjbegfgaaDoor
open Go.RowKit

theorem u64_nat {a : Int} (h : (Lit.int .u64 a).wf = true) : ∃ x : Nat, a = x ∧ x < 18446744073709551616 := by
  have : 0 ≤ a ∧ a ≤ 18446744073709551615 := by simpa [Lit.wf, IntKind.min, IntKind.max, IntKind.signed, IntKind.bits] using h
  exact ⟨a.toNat, by omega, by omega⟩

set_option maxRecDepth 100000 in
set_option maxHeartbeats 2000000 in
theorem wordFields_any (x : Nat) (f d : Int) (n : Nat) (w : World) (hx : x < 18446744073709551616) (hn : n < 18446744073709551616) (hT : TabIn w) :
    Calls Tryd.prog 3 #[.int .u64 x, .agg #[.int .i64 f, .int .i64 d], .int .u64 n] w fun e w' => e = .returned (.bool true) ∧ Below w.heap.size w w' := by
  have B0 : Below w.heap.size w (w.alloc (.cells #[.int .i64 f, .int .i64 d] 24)) := (Below.refl _ w).alloc (Nat.le_refl _) _
  have hp := Blk.new w 24 #[.int .i64 f, .int .i64 d]
  have hTl := hT.lt
  have HT := Lib.hid hT
  have eG : Hid (getE f d = if fldOk f d then 0 else 2) := Lib.hid rfl
  obtain ⟨gv, hgv⟩ : ∃ v, getV x f d = v := ⟨_, rfl⟩
  obtain ⟨ge, hge⟩ : ∃ v, getE f d = v := ⟨_, rfl⟩
  obtain ⟨pv, hpv⟩ : ∃ v, putV x f d n = v := ⟨_, rfl⟩
  obtain ⟨pe, hpe⟩ : ∃ v, putE f d n = v := ⟨_, rfl⟩
  have G1 := fun W => get_any x f d W hx
  have G2 := fun W => put_any x f d n W hx
  simp only [hgv, hge] at G1
  simp only [hpv, hpe] at G2
  have HG1 := Lib.hid G1
  have HG2 := Lib.hid G2
  have Hgv := Lib.hid hgv
  have Hge := Lib.hid hge
  have Hpv := Lib.hid hpv
  have Hpe := Lib.hid hpe
  clear hT G1 G2 hgv hge hpv hpe
  go_enter Tryd.func3, Tryd.ntmps3
  go_wp2_with fail
  refine (HG1.out _).mono ?_
  rintro e w1 ⟨rfl, hb⟩
  replace hp := hp.below hb hp.lt
  have B1 := B0.trans (hb.mono B0.size)
  have ka := hp.cell 0
  have kb := hp.cell 1
  simp at ka kb
  clear hb B0
  go_wp2_with fail
  refine (HG2.out _).mono ?_
  rintro e w2 ⟨rfl, hb⟩
  replace hp := hp.below hb hp.lt
  have B2 := B1.trans (hb.mono B1.size)
  replace ka := hp.cell 0
  replace kb := hp.cell 1
  simp at ka kb
  clear hb B1
  go_wp2_with fail
  refine (rright_any f d _).mono ?_
  rintro e w3 ⟨rfl, hb⟩
  replace hp := hp.below hb hp.lt
  have B3 := B2.trans (hb.mono B2.size)
  replace ka := hp.cell 0
  replace kb := hp.cell 1
  simp at ka kb
  clear hb B2
  cases hok : fldOk f d
  · have z1 : gv = 0 := by rw [← Hgv.out]; simp [getV, hok]
    have z2 : ge = 2 := by rw [← Hge.out]; simp [getE, hok]
    have z3 : pv = 0 := by rw [← Hpv.out]; simp [putV, hok]
    have z4 : pe = 2 := by rw [← Hpe.out]; simp [putE, hok]
    subst z1 z2 z3 z4
    clear hok
    go_wp2_with (go_at_call 13; refine (num_any _ _).mono ?_; rintro e w' ⟨rfl, rfl⟩)
    refine (works_any _ (HT.out.below B3 hTl)).mono ?_
    rintro e w9 ⟨rfl, hb⟩
    go_wp2
    go_ret
    exact ⟨rfl, B3.trans (hb.mono B3.size)⟩
  · obtain ⟨F, D, rfl, rfl, hD, hFD⟩ := fldOk_nat hok
    have z1 : gv = getN x F D := by rw [← Hgv.out]; simp [getV, hok]
    have z2 : ge = 0 := by rw [← Hge.out]; simp [getE, hok]
    subst z2
    by_cases hc : n < 2 ^ D
    · have z3 : pv = putN x F D n := by rw [← Hpv.out]; simp [putV, hok, hc]
      have z4 : pe = 0 := by rw [← Hpe.out]; simp [putE, hok, hc]
      have z5 : rputV x F D n = pv := by rw [z3]; unfold rputV; rw [if_pos hc]
      have z6 : rputB D n = true := by simp [rputB, hc]
      subst z4
      have Z1 := Lib.hid z1
      have Z5 := Lib.hid z5
      have Z6 := Lib.hid z6
      clear hok hc z1 z3 z5 z6
      go_wp2_with fail
      refine (rput_any x F D n _ hx hn hFD).mono ?_
      rintro e w4 ⟨rfl, hb⟩
      rw [Z5.out, Z6.out]
      replace hp := hp.below hb hp.lt
      have B4 := B3.trans (hb.mono B3.size)
      replace ka := hp.cell 0
      replace kb := hp.cell 1
      simp at ka kb
      clear hb B3
      go_wp2_with fail
      refine (rget_any x F D _ hx hFD).mono ?_
      rintro e w5 ⟨rfl, hb⟩
      rw [← Z1.out]
      have B5 := B4.trans (hb.mono B4.size)
      clear hb B4
      go_wp2_with (go_at_call 13; refine (num_any _ _).mono ?_; rintro e w' ⟨rfl, rfl⟩)
      refine (works_any _ (HT.out.below B5 hTl)).mono ?_
      rintro e w9 ⟨rfl, hb⟩
      go_wp2
      go_ret
      exact ⟨rfl, B5.trans (hb.mono B5.size)⟩
    · have z3 : pv = 0 := by rw [← Hpv.out]; simp [putV, hok, hc]
      have z4 : pe = 2 := by rw [← Hpe.out]; simp [putE, hok, hc]
      have z6 : rputB D n = false := by simp [rputB, hc]
      subst z3 z4
      have Z1 := Lib.hid z1
      have Z6 := Lib.hid z6
      clear hok hc z1 z6
      go_wp2_with fail
      refine (rput_any x F D n _ hx hn hFD).mono ?_
      rintro e w4 ⟨rfl, hb⟩
      rw [Z6.out]
      replace hp := hp.below hb hp.lt
      have B4 := B3.trans (hb.mono B3.size)
      replace ka := hp.cell 0
      replace kb := hp.cell 1
      simp at ka kb
      clear hb B3
      go_wp2_with fail
      refine (rget_any x F D _ hx hFD).mono ?_
      rintro e w5 ⟨rfl, hb⟩
      rw [← Z1.out]
      have B5 := B4.trans (hb.mono B4.size)
      clear hb B4
      go_wp2_with (go_at_call 13; refine (num_any _ _).mono ?_; rintro e w' ⟨rfl, rfl⟩)
      refine (works_any _ (HT.out.below B5 hTl)).mono ?_
      rintro e w9 ⟨rfl, hb⟩
      go_wp2
      go_ret
      exact ⟨rfl, B5.trans (hb.mono B5.size)⟩
end Go.Proofs.YtamgmbmjbegfgaaDoor
