/- Plain laws of floating point numbers that are small whole numbers: what read, add, take off, multiply and cut give. No program in sight. -/
import Derived.Laws.ComplexArith
import Derived.WalkKit
namespace Go.Proofs.Ytfafpgboheaajaa
open Go.RowKit

/-- A whole number as a word of 64 bits. -/
def fz (n : Int) : Nat := floatOfInt .f64 n
theorem fz_of (n : Int) : floatOfInt .f64 n = fz n := rfl

theorem cut_none (neg : Bool) (n : Nat) : Ieee.Toward.even.cut neg n 0 = n := by
  simp [Ieee.Toward.cut, Nat.mod_one]

theorem log2_shift (n d : Nat) (hn : 0 < n) : (n * 2 ^ d).log2 = n.log2 + d := by
  induction d with
  | zero => simp
  | succ d ih =>
    rw [Nat.pow_succ, ← Nat.mul_assoc, Nat.mul_comm, Nat.log2_two_mul (by have := Nat.mul_pos hn (Nat.two_pow_pos d); omega), ih]
    omega

theorem cut_all (neg : Bool) (n d : Nat) (hn : 0 < n) : Ieee.Toward.even.cut neg (n * 2 ^ d) d = n := by
  have hl := log2_shift n d hn
  have hm : min d ((n * 2 ^ d).log2 + 2) = d := by rw [hl]; omega
  have h1 : n * 2 ^ d / 1 <<< d = n := by
    rw [Nat.one_shiftLeft]
    exact Nat.mul_div_cancel _ (Nat.two_pow_pos d)
  have h2 : n * 2 ^ d % 1 <<< d = 0 := by
    rw [Nat.one_shiftLeft]
    exact Nat.mul_mod_left _ _
  have h3 : 1 <<< d ≠ 0 := by
    rw [Nat.one_shiftLeft]
    have := Nat.two_pow_pos d
    omega
  unfold Ieee.Toward.cut
  rw [hm]
  simp only [h1, h2]
  simp [h3]

theorem nearest_shift (neg : Bool) (m k : Nat) (hm : m < 9007199254740992) : Ieee.double.nearest neg (m * 2 ^ k) (-(k : Int)) = Ieee.double.nearest neg m 0 := by
  by_cases h0 : m = 0
  · subst h0
    simp [Ieee.Format.nearest]
  · have hp := Nat.two_pow_pos k
    have hne : m * 2 ^ k ≠ 0 := Nat.mul_ne_zero h0 (by omega)
    have hL : m.log2 ≤ 52 := by
      have := (Nat.log2_lt h0 (k := 53)).2 hm
      omega
    have hleast : Ieee.double.leastPlace = -1074 := by decide
    have hfr : Ieee.double.fractionBits = 52 := rfl
    unfold Ieee.Format.nearest
    rw [if_neg hne, if_neg h0, log2_shift m k (by omega), hleast, hfr]
    have e1 : max (-(k : Int) + ((m.log2 + k : Nat) : Int) - ((52 : Nat) : Int)) (-1074) = (m.log2 : Int) - 52 := by omega
    have e2 : max ((0 : Int) + (m.log2 : Int) - ((52 : Nat) : Int)) (-1074) = (m.log2 : Int) - 52 := by omega
    simp only [e1, e2]
    have e3 : Ieee.Toward.even.cut neg ((m * 2 ^ k) <<< (-(k : Int) - ((m.log2 : Int) - 52)).toNat) ((m.log2 : Int) - 52 - -(k : Int)).toNat = m * 2 ^ (52 - m.log2) := by
      by_cases hk : k ≤ 52 - m.log2
      · rw [show ((m.log2 : Int) - 52 - -(k : Int)).toNat = 0 from by omega, cut_none, Nat.shiftLeft_eq, show (-(k : Int) - ((m.log2 : Int) - 52)).toNat = 52 - m.log2 - k from by omega, Nat.mul_assoc, ← Nat.pow_add, show k + (52 - m.log2 - k) = 52 - m.log2 from by omega]
      · rw [show (-(k : Int) - ((m.log2 : Int) - 52)).toNat = 0 from by omega, Nat.shiftLeft_zero]
        have e4 : m * 2 ^ k = m * 2 ^ (52 - m.log2) * 2 ^ (((m.log2 : Int) - 52 - -(k : Int)).toNat) := by
          rw [Nat.mul_assoc, ← Nat.pow_add]
          congr 2
          omega
        rw [e4]
        exact cut_all neg _ _ (Nat.mul_pos (by omega) (Nat.two_pow_pos _))
    have e5 : Ieee.Toward.even.cut neg (m <<< (0 - ((m.log2 : Int) - 52)).toNat) ((m.log2 : Int) - 52 - 0).toNat = m * 2 ^ (52 - m.log2) := by
      rw [show ((m.log2 : Int) - 52 - 0).toNat = 0 from by omega, cut_none, Nat.shiftLeft_eq, show (0 - ((m.log2 : Int) - 52)).toNat = 52 - m.log2 from by omega]
    rw [e3, e5]

theorem read_nearest (neg : Bool) (n : Nat) (hn : n < 9007199254740992) : ∃ k : Nat, Ieee.double.read (Ieee.double.nearest neg n 0) = .number neg (n * 2 ^ k) (-(k : Int)) := by
  by_cases h0 : n = 0
  · subst h0
    obtain ⟨k, hk⟩ : ∃ k : Nat, k = 1074 := ⟨_, rfl⟩
    refine ⟨k, ?_⟩
    rw [Nat.zero_mul, show (-(k : Int)) = -1074 from by omega]
    cases neg <;> decide
  · have hlt : n.log2 < 53 := (Nat.log2_lt h0).2 (by omega)
    obtain ⟨L, hL⟩ : ∃ L, n.log2 = L := ⟨_, rfl⟩
    have h1 : 2 ^ L ≤ n := by rw [← hL]; exact Nat.log2_self_le h0
    have h2 : n < 2 ^ (L + 1) := by rw [← hL]; exact Nat.lt_log2_self
    obtain ⟨e, he⟩ : ∃ e, 52 - L = e := ⟨_, rfl⟩
    have h3 : 2 ^ L * 2 ^ e = 4503599627370496 := by rw [← Nat.pow_add, show L + e = 52 from by omega]
    have h4 : 4503599627370496 ≤ n * 2 ^ e := by rw [← h3]; exact Nat.mul_le_mul_right _ h1
    have h5 : n * 2 ^ e < 9007199254740992 := by
      have : n * 2 ^ e < 2 ^ (L + 1) * 2 ^ e := Nat.mul_lt_mul_of_pos_right h2 (Nat.two_pow_pos e)
      rw [Nat.pow_succ, Nat.mul_right_comm, h3] at this
      exact this
    have hleast : Ieee.double.leastPlace = -1074 := by decide
    have hfr : Ieee.double.fractionBits = 52 := rfl
    have hbin : Ieee.double.binade = 4503599627370496 := by decide
    have hinf : Ieee.double.infRung = 9218868437227405312 := by decide
    have hsig : Ieee.double.signWeight = 9223372036854775808 := by decide
    refine ⟨e, ?_⟩
    obtain ⟨F, hF⟩ : ∃ F, n * 2 ^ e = F := ⟨_, rfl⟩
    rw [hF] at h4 h5
    obtain ⟨R, hR⟩ : ∃ R, (L + 1022) * 4503599627370496 + F = R := ⟨_, rfl⟩
    have hR1 : R ≤ 9218868437227405312 := by omega
    have hR2 : R < 9218868437227405312 := by omega
    have hR3 : 4503599627370496 ≤ R := by omega
    have hw : Ieee.double.nearest neg n 0 = (if neg then 9223372036854775808 else 0) + R := by
      unfold Ieee.Format.nearest Ieee.Format.word
      rw [if_neg h0, hL, hleast, hfr, hbin, hinf, hsig]
      have e1 : max ((0 : Int) + (L : Int) - ((52 : Nat) : Int)) (-1074) = (L : Int) - 52 := by omega
      simp only [e1]
      have e2 : Ieee.Toward.even.cut neg (n <<< (0 - ((L : Int) - 52)).toNat) ((L : Int) - 52 - 0).toNat = F := by
        rw [show ((L : Int) - 52 - 0).toNat = 0 from by omega, cut_none, Nat.shiftLeft_eq, show (0 - ((L : Int) - 52)).toNat = e from by omega]
        exact hF
      rw [e2, show ((L : Int) - 52 - -1074).toNat = L + 1022 from by omega]
      rw [hR, Nat.min_eq_left hR1]
      clear hR
      cases neg
      · exact (Nat.zero_add R).symm
      · rfl
    rw [hw]
    unfold Ieee.Format.read
    rw [hleast, hbin, hinf, hsig]
    have e4 : ((if neg then 9223372036854775808 else 0) + R) % 9223372036854775808 = R := by cases neg <;> simp <;> omega
    have e5 : (((if neg then 9223372036854775808 else 0) + R) / 9223372036854775808 % 2 == 1) = neg := by
      cases neg
      · simp; omega
      · simp; omega
    simp only [e4, e5]
    rw [if_neg (by omega), if_pos hR2]
    obtain ⟨G, hG⟩ : ∃ G, F = 4503599627370496 + G := ⟨F - 4503599627370496, by omega⟩
    have hG' : G < 4503599627370496 := by omega
    have hRG : R = G + 4503599627370496 * (L + 1023) := by omega
    have e6 : 4503599627370496 + R % 4503599627370496 = F := by rw [hRG, Nat.add_mul_mod_self_left, Nat.mod_eq_of_lt hG', hG]
    have e7 : R / 4503599627370496 - 1 = L + 1022 := by rw [hRG, Nat.add_mul_div_left _ _ (by decide), Nat.div_eq_of_lt hG']; omega
    rw [e6, e7]
    show Ieee.Datum.number _ _ _ = Ieee.Datum.number _ _ _
    rw [← hF, show (-1074 : Int) + ((L + 1022 : Nat) : Int) = -(e : Int) from by omega]

theorem signed_up (s : Bool) (m k up : Nat) : Ieee.signed s (m * 2 ^ k) up = (if s then -(m : Int) else m) * 2 ^ (k + up) := by
  unfold Ieee.signed
  rw [Nat.shiftLeft_eq, Nat.mul_assoc, ← Nat.pow_add]
  cases s
  · simp
  · simp [Int.neg_mul]

theorem sum_nearest (s t : Bool) (m n i j : Nat) (d : Int) (hd : (if s then -(m : Int) else m) + (if t then -(n : Int) else n) = d) (hz : d = 0 → (s && t) = false) (hb : d.natAbs < 9007199254740992) :
    ((Ieee.Datum.number s (m * 2 ^ i) (-(i : Int))).sum (Ieee.Datum.number t (n * 2 ^ j) (-(j : Int)))).map Ieee.double.write = some (fz d) := by
  simp only [Ieee.Datum.sum, Option.map_some]
  obtain ⟨K, hK⟩ : ∃ K : Nat, max i j = K := ⟨_, rfl⟩
  have hm : min (-(i : Int)) (-(j : Int)) = -(K : Int) := by omega
  rw [hm, signed_up, signed_up, show i + (-(i : Int) - -(K : Int)).toNat = K from by omega, show j + (-(j : Int) - -(K : Int)).toNat = K from by omega, ← Int.add_mul, hd]
  have hp : (0 : Int) < 2 ^ K := Int.pow_pos (by omega)
  have hneg : decide (d * 2 ^ K < 0) = decide (d < 0) := by
    apply decide_eq_decide.2
    constructor
    · intro h
      rcases Int.lt_or_le d 0 with h' | h'
      · exact h'
      · exact absurd (Int.mul_nonneg h' (Int.le_of_lt hp)) (by omega)
    · intro h
      exact Int.mul_neg_of_neg_of_pos h hp
  have hab : (d * 2 ^ K).natAbs = d.natAbs * 2 ^ K := by
    rw [Int.natAbs_mul, Int.natAbs_pow]
    rfl
  have hs : (if d * 2 ^ K = 0 then s && t else decide (d * 2 ^ K < 0)) = decide (d < 0) := by
    by_cases h : d = 0
    · rw [h, Int.zero_mul, if_pos rfl, hz h]
      rfl
    · rw [if_neg, hneg]
      intro h'
      rcases Int.mul_eq_zero.1 h' with h'' | h''
      · exact h h''
      · omega
  rw [hs, hab]
  show some (Ieee.double.nearest _ _ _) = some (Ieee.double.nearest (decide (d < 0)) d.natAbs 0)
  rw [nearest_shift _ _ _ hb]

theorem read_fz (d : Int) (h : d.natAbs < 9007199254740992) : ∃ k : Nat, Ieee.double.read (fz d) = .number (decide (d < 0)) (d.natAbs * 2 ^ k) (-(k : Int)) := read_nearest (decide (d < 0)) d.natAbs h

theorem add_fz (x y : Int) (hx : x.natAbs < 4503599627370496) (hy : y.natAbs < 4503599627370496) : floatBits .add .f64 (fz x) (fz y) = some (fz (x + y)) := by
  obtain ⟨i, h1⟩ := read_fz x (by omega)
  obtain ⟨j, h2⟩ := read_fz y (by omega)
  show (((Ieee.double.read (fz x)).sum (Ieee.double.read (fz y))).map Ieee.double.write) = _
  rw [h1, h2]
  refine sum_nearest _ _ _ _ _ _ _ ?_ ?_ (by omega)
  · by_cases hx0 : x < 0 <;> by_cases hy0 : y < 0 <;> simp [hx0, hy0] <;> omega
  · intro h
    by_cases hx0 : x < 0 <;> by_cases hy0 : y < 0 <;> simp [hx0, hy0] <;> omega

theorem sub_fz (x y : Int) (hx : x.natAbs < 4503599627370496) (hy : y.natAbs < 4503599627370496) : floatBits .sub .f64 (fz x) (fz y) = some (fz (x - y)) := by
  obtain ⟨i, h1⟩ := read_fz x (by omega)
  obtain ⟨j, h2⟩ := read_fz y (by omega)
  show (((Ieee.double.read (fz x)).sum (Ieee.double.read (fz y)).opposite).map Ieee.double.write) = _
  rw [h1, h2]
  refine sum_nearest _ _ _ _ _ _ _ ?_ ?_ (by omega)
  · by_cases hx0 : x < 0 <;> by_cases hy0 : y < 0 <;> simp [hx0, hy0] <;> omega
  · intro h
    by_cases hx0 : x < 0 <;> by_cases hy0 : y < 0 <;> simp [hx0, hy0] <;> omega

theorem mul_fzn (x y : Nat) (hx : x < 67108864) (hy : y < 67108864) : floatBits .mul .f64 (fz x) (fz y) = some (fz ((x * y : Nat) : Int)) := by
  obtain ⟨i, h1⟩ := read_nearest false x (by omega)
  obtain ⟨j, h2⟩ := read_nearest false y (by omega)
  have f : ∀ n : Nat, fz (n : Int) = Ieee.double.nearest false n 0 := fun n => by
    show Ieee.double.nearest (decide ((n : Int) < 0)) (n : Int).natAbs 0 = _
    rw [show decide ((n : Int) < 0) = false from decide_eq_false (by omega), show (n : Int).natAbs = n from rfl]
  show (((Ieee.double.read (fz x)).product (Ieee.double.read (fz y))).map Ieee.double.write) = _
  rw [f x, f y, h1, h2, f (x * y)]
  have hb : x * y < 9007199254740992 := by
    have : x * y ≤ 67108863 * 67108863 := Nat.mul_le_mul (by omega) (by omega)
    omega
  simp only [Ieee.Datum.product, Option.map_some]
  show some (Ieee.double.nearest _ _ _) = _
  rw [show x * 2 ^ i * (y * 2 ^ j) = x * y * 2 ^ (i + j) from by rw [Nat.pow_add]; exact Nat.mul_mul_mul_comm .., show (-(i : Int)) + -(j : Int) = -((i + j : Nat) : Int) from by omega, nearest_shift _ _ _ hb]
  rfl

theorem cut_zero (neg : Bool) (n k : Nat) : Ieee.Toward.zero.cut neg (n * 2 ^ k) k = n := by
  unfold Ieee.Toward.cut
  by_cases h0 : n = 0
  · subst h0
    simp
  · have hl := log2_shift n k (by omega)
    have hm : min k ((n * 2 ^ k).log2 + 2) = k := by rw [hl]; omega
    rw [hm]
    simp only [Nat.one_shiftLeft]
    rw [Nat.mul_div_cancel _ (Nat.two_pow_pos k)]
    rfl

theorem int_fz (d : Int) (h : d.natAbs < 9007199254740992) : floatToIntVal .f64 (fz d) .i64 = some d := by
  obtain ⟨k, h1⟩ := read_fz d h
  have h2 : (FloatKind.f64.decode (fz d)).toInt .zero = some d := by
    show (Ieee.double.read (fz d)).toInt .zero = some d
    rw [h1]
    unfold Ieee.Datum.toInt Ieee.Datum.integral
    simp only []
    rw [show (-(k : Int)).toNat = 0 from by omega, Nat.shiftLeft_zero, show (- -(k : Int)).toNat = k from by omega, cut_zero]
    have := signed_up (decide (d < 0)) d.natAbs 0 0
    rw [Nat.pow_zero, Nat.mul_one] at this
    rw [this]
    by_cases h0 : d < 0 <;> simp [h0] <;> omega
  unfold floatToIntVal
  rw [h2]
  simp only []
  rw [if_pos]
  show (-9223372036854775808 : Int) ≤ d ∧ d ≤ 9223372036854775807
  omega

theorem mul_fz (a b : Nat) (ha : a < 1024) (hb : b < 1024) : cMulBits (fz a) (fz b) (fz 8) (fz 0) = some (fz ((8 * a : Nat) : Int), fz ((8 * b : Nat) : Int)) := by
  have e8 : fz 8 = fz ((8 : Nat) : Int) := rfl
  have e0 : fz 0 = fz ((0 : Nat) : Int) := rfl
  unfold cMulBits
  rw [e8, e0, mul_fzn a 8 (by omega) (by omega), Option.bind_some, mul_fzn b 0 (by omega) (by omega), Option.bind_some, sub_fz _ _ (by omega) (by omega), Option.bind_some, mul_fzn a 0 (by omega) (by omega), Option.bind_some, mul_fzn b 8 (by omega) (by omega), Option.bind_some, add_fz _ _ (by omega) (by omega), Option.bind_some]
  rw [show ((a * 8 : Nat) : Int) - ((b * 0 : Nat) : Int) = ((8 * a : Nat) : Int) from by omega, show ((a * 0 : Nat) : Int) + ((b * 8 : Nat) : Int) = ((8 * b : Nat) : Int) from by omega]
theorem sub_fzc (a b c d : Nat) (ha : a < 1024) (hb : b < 1024) (hc : c < 1024) (hd : d < 1024) : cSumBits .sub .f64 (fz a) (fz b) (fz c) (fz d) = some (fz ((a : Int) - c), fz ((b : Int) - d)) := by
  unfold cSumBits
  rw [sub_fz a c (by omega) (by omega), Option.bind_some, sub_fz b d (by omega) (by omega), Option.bind_some]
end Go.Proofs.Ytfafpgboheaajaa
