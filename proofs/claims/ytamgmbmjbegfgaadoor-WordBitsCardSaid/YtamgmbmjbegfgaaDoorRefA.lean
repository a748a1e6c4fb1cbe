/- The walks of the reference's Right, With, Get and Put. Conditions: words of 64 bits, a field that may be. -/
import Derived.Test.YtamgmbmjbegfgaaDoorWordD
import Derived.Test.YtamgmbmjbegfgaaDoorWrkA
namespace Go.Proofs.YtamgmbmjbegfgaaDoor
open Go.RowKit

set_option maxHeartbeats 400000 in
theorem rright_any (f d : Int) (w : World) :
    Calls Tryd.prog 12 #[.agg #[.int .i64 f, .int .i64 d]] w fun e w' => e = .returned (.bool (fldOk f d)) ∧ Below w.heap.size w w' := by
  go_enter Tryd.func12, Tryd.ntmps12
  go_wp2
  all_goals
    go_ret
    exact ⟨by simp [fldOk, *] <;> omega, (Below.refl _ w).alloc (Nat.le_refl _) _⟩

theorem xor_any (x i : Nat) (hx : x < 18446744073709551616) (hi : i < 64) : bits .xor .u64 x (IntKind.u64.wrap (2 ^ i)) = ((x ^^^ 2 ^ i : Nat) : Int) := by
  have h1 : 2 ^ i < 18446744073709551616 := Nat.pow_lt_pow_right (by omega) hi
  have hw : IntKind.u64.wrap ((2 : Int) ^ i) = ((2 ^ i : Nat) : Int) := by
    rw [show ((2 : Int) ^ i) = ((2 ^ i : Nat) : Int) from by norm_cast, IntKind.wrap_u64]
    exact Int.emod_eq_of_lt (Int.natCast_nonneg _) (Int.ofNat_lt.2 h1)
  rw [hw, bits_xor_u64_nat x (2 ^ i) hx h1]

set_option maxHeartbeats 400000 in
theorem with_any (x i : Nat) (b : Bool) (w : World) (hx : x < 18446744073709551616) (hi : i < 64) :
    Calls Tryd.prog 23 #[.int .u64 x, .int .i64 i, .bool b] w fun e w' => e = .returned (.int .u64 (withN x i b)) ∧ w = w' := by
  have ho := Lib.hid (xor_any x i hx hi)
  by_cases h : x.testBit i = b
  · have e : Hid (withN x i b = x) := Lib.hid (by unfold withN; rw [if_pos h])
    subst h
    go_enter Tryd.func23, Tryd.ntmps23
    go_wp2_with fail
    refine (bit_any x i _ hx hi).mono ?_
    rintro e w1 ⟨rfl, rfl⟩
    go_wp2
    go_ret
    exact ⟨by rw [e.out]; rfl, rfl⟩
  · have e : Hid (withN x i b = x ^^^ 2 ^ i) := Lib.hid (by unfold withN; rw [if_neg h])
    have hb : (x.testBit i == b) = false := by simpa using h
    have Hh := Lib.hid h
    clear h
    go_enter Tryd.func23, Tryd.ntmps23
    go_wp2_with fail
    refine (bit_any x i _ hx hi).mono ?_
    rintro e w1 ⟨rfl, rfl⟩
    go_wp2
    go_ret
    exact ⟨by rw [e.out, ← ho.out]; rfl, rfl⟩

set_option maxHeartbeats 800000 in
theorem rget_any (x f d : Nat) (w : World) (hx : x < 18446744073709551616) (h : f + d ≤ 64) :
    Calls Tryd.prog 16 #[.int .u64 x, .agg #[.int .i64 f, .int .i64 d]] w fun e w' => e = .returned (.int .u64 (getN x f d)) ∧ Below w.heap.size w w' := by
  have B0 : Below w.heap.size w (w.alloc (.cells #[.int .i64 f, .int .i64 d] 24)) := (Below.refl _ w).alloc (Nat.le_refl _) _
  have e0 : getN x f 0 = 0 := by unfold getN; simp [Nat.mod_one]
  have E0 := Lib.hid e0
  clear e0
  go_enter Tryd.func16, Tryd.ntmps16
  go_wp2
  go_loop [5, 6] (fun t i => ∃ k : Nat, k ≤ d ∧ i = .int .i64 k ∧ t = .int .u64 (getN x f k)) (fun _ i => d - (intOf i).toNat)
  case atStart => exact ⟨0, Nat.zero_le _, rfl, by rw [E0.out]; rfl⟩
  case round =>
    obtain ⟨k, hk, rfl, rfl⟩ := hrel
    by_cases hlt : k < d
    · have hg := getN_lt x f k
      have hp : 2 ^ k ≤ 2 ^ 64 := Nat.pow_le_pow_right (by omega) (by omega)
      have hg2 : getN x f k < 18446744073709551616 := by omega
      have hst := Lib.hid (get_step x f k)
      obtain ⟨j, hj⟩ : ∃ j, f + k = j := ⟨_, rfl⟩
      have hfk : (f : Int) + k = (j : Int) := by omega
      have hwj : IntKind.i64.wrap (j : Int) = (j : Int) := by rw [IntKind.wrap_i64]; omega
      rw [hj] at hst
      have hj64 : j < 64 := by omega
      obtain ⟨g, hgg⟩ : ∃ g, getN x f k = g := ⟨_, rfl⟩
      rw [hgg] at hst hg2 ⊢
      clear hg hp hj hgg
      go_wp2_with fail
      refine (bit_any x j _ hx hj64).mono ?_
      rintro e w1 ⟨rfl, rfl⟩
      go_wp2_with fail
      refine (with_any g k (x.testBit j) _ hg2 (by omega)).mono ?_
      rintro e w1 ⟨rfl, rfl⟩
      rw [hst.out]
      go_wp2
      go_round
      case rel => exact ⟨k + 1, by omega, by go_num, rfl⟩
      case measure => simp [intOf]; omega
    · obtain rfl : k = d := by omega
      go_wp2
      go_ret
      exact ⟨rfl, B0⟩

/-- What the reference's Put tells. -/
def rputV (x f d n : Nat) : Nat := if n < 2 ^ d then putN x f d n else 0
def rputB (d n : Nat) : Bool := decide (n < 2 ^ d)
/-- The reference's Put, after k bits. -/
def putTo (x f d n k : Nat) : Nat := putN x f (min k d) (n % 2 ^ min k d)
theorem lt_of_bits {n d : Nat} (hn : n < 18446744073709551616) (h : ∀ j, d ≤ j → j < 64 → n.testBit j = false) : n < 2 ^ d := by
  refine Nat.lt_pow_two_of_testBit n fun i hi => ?_
  rcases Nat.lt_or_ge i 64 with h1 | h1
  · exact h i hi h1
  · exact bit_lt (d := 64) hn h1

set_option maxHeartbeats 1600000 in
theorem rput_any (x f d n : Nat) (w : World) (hx : x < 18446744073709551616) (hn : n < 18446744073709551616) (h : f + d ≤ 64) :
    Calls Tryd.prog 15 #[.int .u64 x, .agg #[.int .i64 f, .int .i64 d], .int .u64 n] w fun e w' => e = .returned (.tuple #[.int .u64 (rputV x f d n), .bool (rputB d n)]) ∧ Below w.heap.size w w' := by
  have B0 : Below w.heap.size w (w.alloc (.cells #[.int .i64 f, .int .i64 d] 24)) := (Below.refl _ w).alloc (Nat.le_refl _) _
  have hp := Blk.new w 24 #[.int .i64 f, .int .i64 d]
  have e0 : putTo x f d n 0 = x := by unfold putTo; rw [Nat.zero_min]; exact putN_zero x f hx (by omega) n
  have E0 := Lib.hid e0
  clear e0
  go_enter Tryd.func15, Tryd.ntmps15
  go_wp2
  go_loopw [0, 8] (fun t i wr => ∃ k : Nat, k ≤ 64 ∧ i = .int .i64 k ∧ t = .int .u64 (putTo x f d n k) ∧ (∀ j, d ≤ j → j < k → n.testBit j = false) ∧ Below (w.heap.size + 1) (w.alloc (.cells #[.int .i64 f, .int .i64 d] 24)) wr) (fun _ i _ => 64 - (intOf i).toNat)
  case atStart => exact ⟨0, Nat.zero_le _, rfl, by rw [E0.out], fun j _ h => absurd h (by omega), Below.refl _ _⟩
  case round =>
    obtain ⟨k, hk, rfl, rfl, hno, hb⟩ := hrel
    have hpr := hp.below hb (by omega)
    have ka := hpr.cell 0
    have kb := hpr.cell 1
    simp at ka kb
    have BB := Lib.hid (B0.trans (hb.mono (by omega)))
    by_cases hlt : k < 64
    · by_cases hkd : k < d
      · have hmod : n % 2 ^ k < 2 ^ k := Nat.mod_lt _ (Nat.two_pow_pos k)
        have hpl : putTo x f d n k < 18446744073709551616 := by
          unfold putTo
          rw [Nat.min_eq_left (by omega)]
          exact putN_lt x f k _ hx (by omega) hmod
        have hst : withN (putTo x f d n k) (f + k) (n.testBit k) = putTo x f d n (k + 1) := by
          unfold putTo
          rw [Nat.min_eq_left (by omega), Nat.min_eq_left (by omega)]
          exact put_step x f k n hx (by omega)
        have hno' : ∀ j, d ≤ j → j < k + 1 → n.testBit j = false := fun j h1 h2 => absurd h1 (by omega)
        obtain ⟨j, hj⟩ : ∃ j, f + k = j := ⟨_, rfl⟩
        have hfk : (f : Int) + k = (j : Int) := by omega
        have hwj : IntKind.i64.wrap (j : Int) = (j : Int) := by rw [IntKind.wrap_i64]; omega
        rw [hj] at hst
        have hj64 : j < 64 := by omega
        obtain ⟨g, hgg⟩ : ∃ g, putTo x f d n k = g := ⟨_, rfl⟩
        rw [hgg] at hst hpl ⊢
        have Hst := Lib.hid hst
        have Hno := Lib.hid hno'
        have Hb := Lib.hid hb
        have HW := Lib.hid (fun W => with_any g j (n.testBit k) W hpl hj64)
        clear hmod hst hno hno' hj hgg hb hp hpr B0
        go_wp2
        go_quiet (first | (go_at_call 29; exact Calls.quiet_of_same ((bit_any n k _ hn hlt).mono (fun _ _ h => ⟨h.1, h.2.symm⟩))) | (go_at_call 23; exact Calls.quiet_of_same ((HW.out _).mono (fun _ _ h => ⟨h.1, h.2.symm⟩))))
        rw [Hst.out]
        go_wp2
        go_roundw
        case rel => exact ⟨k + 1, by omega, by go_num, rfl, Hno.out, below_drewN Hb.out _⟩
        case measure => simp [intOf]; omega
      · have hsame : putTo x f d n (k + 1) = putTo x f d n k := by unfold putTo; rw [Nat.min_eq_right (by omega), Nat.min_eq_right (by omega)]
        have Hsame := Lib.hid hsame
        cases hbit : n.testBit k
        · have hno' : Hid (∀ j, d ≤ j → j < k + 1 → n.testBit j = false) := Lib.hid (fun j h1 h2 => by
            rcases Nat.lt_or_ge j k with h3 | h3
            · exact hno j h1 h3
            · rw [show j = k by omega]; exact hbit)
          have Hbit := Lib.hid hbit
          clear hno hsame hbit
          go_wp2_with fail
          refine (bit_any n k _ hn hlt).mono ?_
          rintro e w1 ⟨rfl, rfl⟩
          rw [Hbit.out]
          go_wp2
          go_roundw
          case rel => exact ⟨k + 1, by omega, by go_num, by rw [Hsame.out], hno'.out, hb⟩
          case measure => simp [intOf]; omega
        · have hnl : ¬ n < 2 ^ d := by
            intro hl
            rw [bit_lt hl (by omega)] at hbit
            cases hbit
          have e1 : Hid (rputV x f d n = 0 ∧ rputB d n = false) := Lib.hid ⟨if_neg hnl, decide_eq_false hnl⟩
          have Hbit := Lib.hid hbit
          clear hno hsame hbit hnl
          go_wp2_with fail
          refine (bit_any n k _ hn hlt).mono ?_
          rintro e w1 ⟨rfl, rfl⟩
          rw [Hbit.out]
          go_wp2
          go_ret2
          exact ⟨by rw [e1.out.1, e1.out.2]; rfl, BB.out⟩
    · obtain rfl : k = 64 := by omega
      have hl : n < 2 ^ d := lt_of_bits hn hno
      have e1 : Hid (rputV x f d n = putTo x f d n 64 ∧ rputB d n = true) := Lib.hid ⟨by unfold rputV putTo; rw [if_pos hl]; rw [Nat.min_eq_right (by omega), Nat.mod_eq_of_lt hl], decide_eq_true hl⟩
      clear hno hl
      go_wp2
      go_ret2
      exact ⟨by rw [e1.out.1, e1.out.2]; rfl, BB.out⟩
end Go.Proofs.YtamgmbmjbegfgaaDoor
