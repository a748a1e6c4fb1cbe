/- The walks of a field's right, masks, of, and of Get and Put. Conditions: a word of 64 bits. -/
import Derived.Test.YtdgnbmcckknfiaaGreatProg
import Derived.Deep.QuietTactic
import Derived.BigQuiet
import Derived.Deep.RegionHeld3
import Derived.Deep.RegionWith
import Derived.Test.YtdgnbmcckknfiaaGreatWords
import Derived.Test.YtdgnbmcckknfiaaGreatFldP
namespace Go.Proofs.YtdgnbmcckknfiaaGreat
open Go.RowKit

set_option maxHeartbeats 400000 in
theorem num_any (n : Int) (w : World) : Calls Tryz.prog 35 #[.int .i64 n] w fun e w' => e = .returned (.int .i64 n) ∧ w = w' := by
  go_enter Tryz.func35, Tryz.ntmps35
  go_wp2
  go_ret
  exact ⟨rfl, rfl⟩

theorem below_boxed {w w1 : World} {o : Obj} (hb : Below (w.alloc o).heap.size (w.alloc o) w1) : Below w.heap.size w w1 :=
  ((Below.refl _ w).alloc (Nat.le_refl _) o).trans (hb.mono (by simp))

set_option maxHeartbeats 400000 in
theorem sright_any (f d : Int) (w : World) :
    Calls Tryz.prog 85 #[.agg #[.int .i64 f, .int .i64 d]] w fun e w' => e = .returned (.bool (fldOk f d)) ∧ Below w.heap.size w w' := by
  go_enter Tryz.func85, Tryz.ntmps85
  go_wp2
  all_goals
    go_ret
    exact ⟨by simp [fldOk, *] <;> omega, (Below.refl _ w).alloc (Nat.le_refl _) _⟩

set_option maxHeartbeats 400000 in
theorem masks_any (f d : Nat) (w : World) (h0 : 1 ≤ d) (h : f + d ≤ 64) :
    Calls Tryz.prog 86 #[.agg #[.int .i64 f, .int .i64 d]] w fun e w' => e = .returned (.agg #[.int .u64 (lowM d), .int .u64 (hiM f d)]) ∧ Below w.heap.size w w' := by
  go_enter Tryz.func86, Tryz.ntmps86
  go_wp2
  have e1 := lowM_allZ (d := d) (by omega) h0
  have e2 := lowM_shZ h h0
  refine bodyPost_ret (v := .agg #[.int .u64 ((18446744073709551615 : Int) / 2 ^ (64 - d)), .int .u64 (IntKind.u64.wrap ((18446744073709551615 : Int) / 2 ^ (64 - d) * 2 ^ f))]) (by simp [results, Tryz.results86, go_sem]) rfl ⟨by rw [e2, e1], ?_⟩
  exact ((Below.refl _ w).alloc (Nat.le_refl _) _).alloc (by simp) _

theorem ix0 (x y : Value) (w : World) : (Instr.index 148 (.agg #[x, y]) (.int .i64 0)).run Tryz.prog w = .ok x w := by kernel_rfl
theorem ix1 (x y : Value) (w : World) : (Instr.index 148 (.agg #[x, y]) (.int .i64 1)).run Tryz.prog w = .ok y w := by kernel_rfl

set_option maxHeartbeats 800000 in
theorem of_any (x f d : Nat) (w : World) (hx : x < 18446744073709551616) (h0 : 1 ≤ d) (h : f + d ≤ 64) :
    Calls Tryz.prog 87 #[.agg #[.int .i64 f, .int .i64 d], .int .u64 x] w fun e w' => e = .returned (.int .u64 (getN x f d)) ∧ Below w.heap.size w w' := by
  have hp := Blk.new w 147 #[.int .i64 f, .int .i64 d]
  have B0 : Below w.heap.size w (w.alloc (.cells #[.int .i64 f, .int .i64 d] 147)) := (Below.refl _ w).alloc (Nat.le_refl _) _
  have i0 := ix0 (.int .u64 (lowM d)) (.int .u64 (hiM f d))
  go_enter Tryz.func87, Tryz.ntmps87
  go_wp2_with fail
  go_region_held3 (fun w' => w'.cell? ⟨w.heap.size, 0, none⟩ = some (.int .i64 f) ∧ w'.cell? ⟨w.heap.size, 1, none⟩ = some (.int .i64 d))
    (first | go_keep | exact ⟨ka, kb⟩)
    (first | (go_at_call 86; refine (masks_any f d _ h0 h).mono ?_; rintro e wq ⟨rfl, hb2⟩; have hB : Below (w.heap.size + 1) (w.alloc (.cells #[.int .i64 f, .int .i64 d] 147)) wq := (by first | exact hb2.mono (by simp) | exact ((Below.refl _ _).drew).trans (hb2.mono (by simp))); have ka := (hp.below hB (by omega)).cell 0; have kb := (hp.below hB (by omega)).cell 1; simp at ka kb))
  all_goals
    go_wp2
    go_ret
    exact ⟨by rw [and_Z x f d hx (by omega)]; rfl, B0.trans (hB.mono (by simp))⟩

/-- What Get tells, what Put tells. -/
def getV (x : Nat) (f d : Int) : Nat := if fldOk f d then getN x f.toNat d.toNat else 0
def getE (f d : Int) : Int := if fldOk f d then 0 else 2
def putV (x : Nat) (f d : Int) (n : Nat) : Nat := if fldOk f d && decide (n < 2 ^ d.toNat) then putN x f.toNat d.toNat n else 0
def putE (f d : Int) (n : Nat) : Int := if fldOk f d && decide (n < 2 ^ d.toNat) then 0 else 2

set_option maxHeartbeats 800000 in
theorem get_any (x : Nat) (f d : Int) (w : World) (hx : x < 18446744073709551616) :
    Calls Tryz.prog 56 #[.int .u64 x, .agg #[.int .i64 f, .int .i64 d]] w fun e w' => e = .returned (.tuple #[.int .u64 (getV x f d), .int .i64 (getE f d)]) ∧ Below w.heap.size w w' := by
  have B0 : Below w.heap.size w ((w.alloc (.cells #[.int .i64 f, .int .i64 d] 120)).alloc (.cells #[.int .i64 f, .int .i64 d] 147)) := ((Below.refl _ w).alloc (Nat.le_refl _) _).alloc (by simp) _
  have hq := Blk.new (w.alloc (.cells #[.int .i64 f, .int .i64 d] 120)) 147 #[.int .i64 f, .int .i64 d]
  simp only [World.size_alloc] at hq
  cases hok : fldOk f d
  · have e1 : Hid (getV x f d = 0 ∧ getE f d = 2) := Lib.hid (by simp [getV, getE, hok])
    have Hok := Lib.hid hok
    clear hok
    go_enter Tryz.func56, Tryz.ntmps56
    go_wp2_with fail
    refine (sright_any f d _).mono ?_
    rintro e w1 ⟨rfl, hb⟩
    rw [Hok.out]
    have B1 := B0.trans (hb.mono B0.size)
    clear hb
    go_wp2
    go_ret2
    exact ⟨by rw [e1.out.1, e1.out.2]; rfl, B1⟩
  · obtain ⟨F, D, rfl, rfl, hD, hFD⟩ := fldOk_nat hok
    have e1 : Hid (getV x F D = getN x F D ∧ getE F D = 0) := Lib.hid (by simp [getV, getE, hok])
    have Hok := Lib.hid hok
    clear hok
    go_enter Tryz.func56, Tryz.ntmps56
    go_wp2_with fail
    refine (sright_any F D _).mono ?_
    rintro e w1 ⟨rfl, hb⟩
    rw [Hok.out]
    replace hq := hq.below hb hq.lt
    have B1 := B0.trans (hb.mono B0.size)
    have ka := hq.cell 0
    have kb := hq.cell 1
    simp at ka kb
    clear hb
    go_wp2_with fail
    refine (of_any x F D _ hx hD hFD).mono ?_
    rintro e w2 ⟨rfl, hb⟩
    have B2 := B1.trans (hb.mono B1.size)
    clear hb
    go_wp2
    go_ret2
    exact ⟨by rw [e1.out.1, e1.out.2]; rfl, B2⟩

set_option maxHeartbeats 800000 in
theorem put_any (x : Nat) (f d : Int) (n : Nat) (w : World) (hx : x < 18446744073709551616) :
    Calls Tryz.prog 53 #[.int .u64 x, .agg #[.int .i64 f, .int .i64 d], .int .u64 n] w fun e w' => e = .returned (.tuple #[.int .u64 (putV x f d n), .int .i64 (putE f d n)]) ∧ Below w.heap.size w w' := by
  have B0 : Below w.heap.size w ((w.alloc (.cells #[.int .i64 f, .int .i64 d] 120)).alloc (.cells #[.int .i64 f, .int .i64 d] 147)) := ((Below.refl _ w).alloc (Nat.le_refl _) _).alloc (by simp) _
  have hp := (Blk.new w 120 #[.int .i64 f, .int .i64 d]).alloc (.cells #[.int .i64 f, .int .i64 d] 147)
  have hq := Blk.new (w.alloc (.cells #[.int .i64 f, .int .i64 d] 120)) 147 #[.int .i64 f, .int .i64 d]
  simp only [World.size_alloc] at hq
  cases hok : fldOk f d
  · have e1 : Hid (putV x f d n = 0 ∧ putE f d n = 2) := Lib.hid (by simp [putV, putE, hok])
    have Hok := Lib.hid hok
    clear hok
    go_enter Tryz.func53, Tryz.ntmps53
    go_wp2_with fail
    refine wp_scope_goto 0 rfl fun J hJ => ?_
    go_wp2_with fail
    refine (sright_any f d _).mono ?_
    rintro e w1 ⟨rfl, hb⟩
    rw [Hok.out]
    have B1 := B0.trans (hb.mono B0.size)
    clear hb
    go_wp2
    go_step3
    refine ⟨rfl, hJ _ _ ?_⟩
    go_wp2
    first | rw [Exit.noGoto_ret] | rw [Exit.jump_ret] | skip
    go_ret2
    exact ⟨by rw [e1.out.1, e1.out.2]; rfl, B1⟩
  · obtain ⟨F, D, rfl, rfl, hD, hFD⟩ := fldOk_nat hok
    have Hok := Lib.hid hok
    have i0 := ix0 (.int .u64 (lowM D)) (.int .u64 (hiM F D))
    have i1 := ix1 (.int .u64 (lowM D)) (.int .u64 (hiM F D))
    have hpw := Nat.two_pow_pos D
    have hlow : lowM D + 1 = 2 ^ D := by unfold lowM; omega
    obtain ⟨m, hm⟩ : ∃ m, lowM D = m := ⟨_, rfl⟩
    by_cases hc : n < 2 ^ D
    · have e1 : Hid (putV x F D n = putN x F D n ∧ putE F D n = 0) := Lib.hid (by simp [putV, putE, hok, hc])
      have hle : ¬ (m : Int) < (n : Int) := by omega
      have Hm := Lib.hid hm
      have Hc := Lib.hid hc
      clear hok hlow hpw hm hc
      go_enter Tryz.func53, Tryz.ntmps53
      go_wp2_with fail
      refine wp_scope_goto 0 rfl fun J hJ => ?_
      go_wp2_with fail
      refine (sright_any F D _).mono ?_
      rintro e w1 ⟨rfl, hb⟩
      rw [Hok.out]
      replace hq := hq.below hb hq.lt
      replace hp := hp.below hb hp.lt
      have B1 := B0.trans (hb.mono B0.size)
      have ka := hq.cell 0
      have kb := hq.cell 1
      simp at ka kb
      clear hb B0
      go_wp2_with fail
      refine (masks_any F D _ hD hFD).mono ?_
      rintro e w2 ⟨rfl, hb⟩
      replace hq := hq.below hb hq.lt
      replace hp := hp.below hb hp.lt
      have B2 := B1.trans (hb.mono B1.size)
      replace ka := hq.cell 0
      replace kb := hq.cell 1
      have kc := hp.cell 0
      have kd := hp.cell 1
      simp at ka kb kc kd
      rw [Hm.out] at i0 i1 ⊢
      clear hb B1
      go_wp2_with fail
      have hB := Below.refl w2.heap.size w2
      go_region_held3 (fun w' => w'.cell? ⟨w.heap.size, 0, none⟩ = some (.int .i64 F) ∧ w'.cell? ⟨w.heap.size, 1, none⟩ = some (.int .i64 D) ∧ w'.cell? ⟨w.heap.size + 1, 0, none⟩ = some (.int .i64 F) ∧ w'.cell? ⟨w.heap.size + 1, 1, none⟩ = some (.int .i64 D))
        (first | go_keep | exact ⟨kc, kd, ka, kb⟩)
        (first | (go_at_call 86; refine (masks_any F D _ hD hFD).mono ?_; rintro e wq ⟨rfl, hb2⟩; have hB : Below w2.heap.size w2 wq := (by first | exact hb2 | exact ((Below.refl _ w2).drew).trans (hb2.mono (Nat.le_refl _))); rw [Hm.out]; have ka := (hq.below hB hq.lt).cell 0; have kb := (hq.below hB hq.lt).cell 1; have kc := (hp.below hB hp.lt).cell 0; have kd := (hp.below hB hp.lt).cell 1; simp at ka kb kc kd))
      all_goals
        go_wp2
        first | rw [Exit.noGoto_ret] | rw [Exit.jump_ret] | skip
        go_ret2
        exact ⟨by rw [e1.out.1, e1.out.2, ← put_Z x F D n hx hFD Hc.out]; rfl, B2.trans (hB.mono B2.size)⟩
    · have e1 : Hid (putV x F D n = 0 ∧ putE F D n = 2) := Lib.hid (by simp [putV, putE, hok, hc])
      have hle : (m : Int) < (n : Int) := by omega
      have Hm := Lib.hid hm
      clear hok hlow hpw hm hc
      go_enter Tryz.func53, Tryz.ntmps53
      go_wp2_with fail
      refine wp_scope_goto 0 rfl fun J hJ => ?_
      go_wp2_with fail
      refine (sright_any F D _).mono ?_
      rintro e w1 ⟨rfl, hb⟩
      rw [Hok.out]
      replace hq := hq.below hb hq.lt
      have B1 := B0.trans (hb.mono B0.size)
      have ka := hq.cell 0
      have kb := hq.cell 1
      simp at ka kb
      clear hb B0 hp
      go_wp2_with fail
      refine (masks_any F D _ hD hFD).mono ?_
      rintro e w2 ⟨rfl, hb⟩
      have B2 := B1.trans (hb.mono B1.size)
      rw [Hm.out] at i0 i1 ⊢
      clear hb B1
      go_wp2
      go_step3
      refine ⟨rfl, hJ _ _ ?_⟩
      go_wp2
      first | rw [Exit.noGoto_ret] | rw [Exit.jump_ret] | skip
      go_ret2
      exact ⟨by rw [e1.out.1, e1.out.2]; rfl, B2⟩
end Go.Proofs.YtdgnbmcckknfiaaGreat
