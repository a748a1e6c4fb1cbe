/- Plain laws of fields of bits: what a field has, and a word in which it has another number, bit by bit. No program in sight. -/
import Derived.Laws.BitsAllLaws
import Derived.Test.YtdgnbmcckknfiaaGreatWordP
namespace Go.Proofs.YtdgnbmcckknfiaaGreat
open Go.RowKit

/-- May a field be? -/
def fldOk (f d : Int) : Bool := decide (0 ≤ f ∧ f < 64 ∧ 1 ≤ d ∧ d ≤ 64 - f)
theorem fldOk_iff (f d : Int) : fldOk f d = true ↔ 0 ≤ f ∧ f < 64 ∧ 1 ≤ d ∧ d ≤ 64 - f := by simp [fldOk]
theorem fldOk_nat {f d : Int} (h : fldOk f d = true) : ∃ F D : Nat, f = F ∧ d = D ∧ 1 ≤ D ∧ F + D ≤ 64 := by
  obtain ⟨h1, h2, h3, h4⟩ := (fldOk_iff f d).1 h
  exact ⟨f.toNat, d.toNat, by omega, by omega, by omega, by omega⟩

/-- The lowest bits, all 1. -/
def lowM (d : Nat) : Nat := 2 ^ d - 1
theorem lowM_bit (d i : Nat) : (lowM d).testBit i = decide (i < d) := by
  unfold lowM
  exact Nat.testBit_two_pow_sub_one d i
theorem lowM_lt {d : Nat} (h : d ≤ 64) : lowM d < 18446744073709551616 := by
  have h1 : 2 ^ d ≤ 2 ^ 64 := Nat.pow_le_pow_right (by omega) h
  have := Nat.two_pow_pos d
  unfold lowM
  omega
theorem lowM_sh {f d : Nat} (h : f + d ≤ 64) : lowM d * 2 ^ f < 18446744073709551616 := by
  have h1 : lowM d * 2 ^ f < 2 ^ d * 2 ^ f := Nat.mul_lt_mul_of_pos_right (by unfold lowM; have := Nat.two_pow_pos d; omega) (Nat.two_pow_pos f)
  rw [← Nat.pow_add] at h1
  have h2 : 2 ^ (d + f) ≤ 2 ^ 64 := Nat.pow_le_pow_right (by omega) (by omega)
  omega
theorem lowM_all {d : Nat} (h : d ≤ 64) (h0 : 1 ≤ d) : 18446744073709551615 / 2 ^ (64 - d) = lowM d := by
  have h1 : 2 ^ (64 - d) * 2 ^ d = 18446744073709551616 := by rw [← Nat.pow_add, show 64 - d + d = 64 from by omega]
  have h2 := Nat.two_pow_pos (64 - d)
  have h3 := Nat.two_pow_pos d
  unfold lowM
  apply Nat.div_eq_of_lt_le
  · rw [Nat.sub_mul, Nat.mul_comm, h1]; omega
  · have : 2 ^ d - 1 + 1 = 2 ^ d := by omega
    rw [this, Nat.mul_comm, h1]; omega

theorem lowM_allZ {d : Nat} (h : d ≤ 64) (h0 : 1 ≤ d) : (18446744073709551615 : Int) / 2 ^ (64 - d) = (lowM d : Int) := by
  have e := congrArg (fun n : Nat => (n : Int)) (lowM_all h h0)
  simp only [Int.natCast_ediv, Int.natCast_pow] at e
  exact e
/-- The bits of a field. -/
def hiM (f d : Nat) : Nat := lowM d * 2 ^ f
theorem lowM_shZ {f d : Nat} (h : f + d ≤ 64) (h0 : 1 ≤ d) : IntKind.u64.wrap ((18446744073709551615 : Int) / 2 ^ (64 - d) * 2 ^ f) = (hiM f d : Int) := by
  unfold hiM
  rw [lowM_allZ (by omega) h0, IntKind.wrap_u64]
  have := lowM_sh h
  have e : ((lowM d : Int) * 2 ^ f) = ((lowM d * 2 ^ f : Nat) : Int) := by
    rw [Int.natCast_mul, Int.natCast_pow]
    rfl
  rw [e]
  omega

/-- What a field has. -/
def getN (w f d : Nat) : Nat := w / 2 ^ f % 2 ^ d
theorem getN_bit (w f d i : Nat) : (getN w f d).testBit i = (decide (i < d) && w.testBit (f + i)) := by
  unfold getN
  rw [Nat.testBit_mod_two_pow, Nat.testBit_div_two_pow, Nat.add_comm]
theorem getN_lt (w f d : Nat) : getN w f d < 2 ^ d := Nat.mod_lt _ (Nat.two_pow_pos d)
theorem getN_and (w f d : Nat) : w / 2 ^ f &&& lowM d = getN w f d := by
  unfold lowM getN
  exact Nat.and_two_pow_sub_one_eq_mod _ _

/-- A word in which a field has a number. -/
def putN (w f d n : Nat) : Nat := (w &&& (18446744073709551615 - lowM d * 2 ^ f)) ||| n * 2 ^ f
theorem sh_bit (n f i : Nat) : (n * 2 ^ f).testBit i = (decide (f ≤ i) && n.testBit (i - f)) := by
  rw [Nat.mul_comm, Nat.testBit_two_pow_mul]
theorem bit_lt {n d i : Nat} (h : n < 2 ^ d) (hi : d ≤ i) : n.testBit i = false := Nat.testBit_lt_two_pow (Nat.lt_of_lt_of_le h (Nat.pow_le_pow_right (by omega) hi))
theorem putN_bit (w f d n i : Nat) (hw : w < 18446744073709551616) (hfd : f + d ≤ 64) (hn : n < 2 ^ d) :
    (putN w f d n).testBit i = if f ≤ i ∧ i < f + d then n.testBit (i - f) else w.testBit i := by
  have hm := lowM_sh hfd
  have e : 18446744073709551615 - lowM d * 2 ^ f = 2 ^ 64 - (lowM d * 2 ^ f + 1) := by omega
  unfold putN
  rw [Nat.testBit_or, Nat.testBit_and, e, Nat.testBit_two_pow_sub_succ hm, sh_bit, sh_bit, lowM_bit]
  by_cases h1 : f ≤ i
  · by_cases h2 : i < f + d
    · rw [if_pos ⟨h1, h2⟩]
      simp [h1]
      intro _ _ h3
      omega
    · rw [if_neg (fun h => h2 h.2), bit_lt hn (by omega)]
      by_cases h3 : i < 64
      · simp [h1, h3]
        intro _
        omega
      · rw [bit_lt (d := 64) hw (by omega)]
        simp
  · rw [if_neg (fun h => h1 h.1)]
    by_cases h3 : i < 64
    · simp [h1, h3]
    · rw [bit_lt (d := 64) hw (by omega)]
      simp [h1]
theorem or_lt {a b : Nat} (ha : a < 18446744073709551616) (hb : b < 18446744073709551616) : a ||| b < 18446744073709551616 := Nat.or_lt_two_pow (n := 64) ha hb
theorem put_sh {n f d : Nat} (h : f + d ≤ 64) (hn : n < 2 ^ d) : n * 2 ^ f < 18446744073709551616 := by
  have h1 : n * 2 ^ f < 2 ^ d * 2 ^ f := Nat.mul_lt_mul_of_pos_right hn (Nat.two_pow_pos f)
  rw [← Nat.pow_add] at h1
  have h2 : 2 ^ (d + f) ≤ 2 ^ 64 := Nat.pow_le_pow_right (by omega) (by omega)
  omega
theorem putN_lt (w f d n : Nat) (hw : w < 18446744073709551616) (hfd : f + d ≤ 64) (hn : n < 2 ^ d) : putN w f d n < 18446744073709551616 :=
  or_lt (Nat.lt_of_le_of_lt Nat.and_le_left hw) (put_sh hfd hn)
theorem word_ext {a b : Nat} (h : ∀ i, a.testBit i = b.testBit i) : a = b := Nat.eq_of_testBit_eq h

/-- A word with a bit. -/
def withN (x i : Nat) (b : Bool) : Nat := if x.testBit i = b then x else x ^^^ 2 ^ i
theorem withN_bit (x i : Nat) (b : Bool) (j : Nat) : (withN x i b).testBit j = if j = i then b else x.testBit j := by
  unfold withN
  by_cases h : x.testBit i = b
  · rw [if_pos h]
    by_cases hj : j = i
    · subst hj; rw [if_pos rfl, h]
    · rw [if_neg hj]
  · rw [if_neg h, Nat.testBit_xor, Nat.testBit_two_pow]
    by_cases hj : j = i
    · subst hj
      rw [if_pos rfl, decide_eq_true rfl]
      cases hx : x.testBit j <;> cases b <;> simp_all
    · rw [if_neg hj, decide_eq_false (fun e => hj e.symm)]
      simp
theorem withN_lt (x i : Nat) (b : Bool) (hx : x < 18446744073709551616) (hi : i < 64) : withN x i b < 18446744073709551616 := by
  unfold withN
  split
  · exact hx
  · exact Nat.xor_lt_two_pow (n := 64) hx (Nat.pow_lt_pow_right (by omega) hi)

/-- The reference's Get, after k bits. -/
theorem get_step (w f k : Nat) : withN (getN w f k) k (w.testBit (f + k)) = getN w f (k + 1) := by
  apply word_ext
  intro i
  rw [withN_bit, getN_bit, getN_bit]
  by_cases h : i = k
  · subst h; simp
  · rw [if_neg h]
    by_cases h2 : i < k
    · simp [h2, show i < k + 1 by omega]
    · simp [h2, show ¬ i < k + 1 by omega]
/-- The reference's Put, after k bits. -/
theorem put_step (w f k n : Nat) (hw : w < 18446744073709551616) (hk : f + (k + 1) ≤ 64) : withN (putN w f k (n % 2 ^ k)) (f + k) (n.testBit k) = putN w f (k + 1) (n % 2 ^ (k + 1)) := by
  apply word_ext
  intro i
  rw [withN_bit, putN_bit w f k _ i hw (by omega) (Nat.mod_lt _ (Nat.two_pow_pos _)), putN_bit w f (k + 1) _ i hw (by omega) (Nat.mod_lt _ (Nat.two_pow_pos _)), Nat.testBit_mod_two_pow, Nat.testBit_mod_two_pow]
  by_cases h : i = f + k
  · subst h
    rw [if_pos rfl, if_pos (by omega), show f + k - f = k by omega]
    simp
  · rw [if_neg h]
    by_cases h2 : f ≤ i ∧ i < f + k
    · rw [if_pos h2, if_pos (by omega)]
      simp [show i - f < k by omega, show i - f < k + 1 by omega]
    · rw [if_neg h2, if_neg (by omega)]
theorem putN_zero (w f : Nat) (hw : w < 18446744073709551616) (hf : f ≤ 64) (n : Nat) : putN w f 0 (n % 2 ^ 0) = w := by
  apply word_ext
  intro i
  rw [putN_bit w f 0 _ i hw (by omega) (Nat.mod_lt _ (Nat.two_pow_pos _)), if_neg (by omega)]

theorem get_put (w f d n : Nat) (hw : w < 18446744073709551616) (hfd : f + d ≤ 64) (hn : n < 2 ^ d) : getN (putN w f d n) f d = n := by
  apply word_ext
  intro i
  rw [getN_bit, putN_bit w f d n _ hw hfd hn]
  by_cases h : i < d
  · rw [if_pos (by omega), show f + i - f = i by omega]
    simp [h]
  · simp [h, bit_lt hn (show d ≤ i by omega)]
theorem put_get (w f d : Nat) (hw : w < 18446744073709551616) (hfd : f + d ≤ 64) : putN w f d (getN w f d) = w := by
  apply word_ext
  intro i
  rw [putN_bit w f d _ i hw hfd (getN_lt w f d)]
  by_cases h : f ≤ i ∧ i < f + d
  · rw [if_pos h, getN_bit, show f + (i - f) = i by omega]
    simp
    omega
  · rw [if_neg h]
theorem put_put (w f d n m : Nat) (hw : w < 18446744073709551616) (hfd : f + d ≤ 64) (hn : n < 2 ^ d) (hm : m < 2 ^ d) : putN (putN w f d n) f d m = putN w f d m := by
  apply word_ext
  intro i
  rw [putN_bit _ f d m i (putN_lt w f d n hw hfd hn) hfd hm, putN_bit w f d m i hw hfd hm, putN_bit w f d n i hw hfd hn]
  by_cases h : f ≤ i ∧ i < f + d
  · rw [if_pos h, if_pos h]
  · rw [if_neg h, if_neg h, if_neg h]
/-- Two fields that are apart. -/
def apartN (f d g e : Nat) : Prop := f + d ≤ g ∨ g + e ≤ f
theorem put_apart (w f d n g e m : Nat) (hw : w < 18446744073709551616) (hfd : f + d ≤ 64) (hn : n < 2 ^ d) (hge : g + e ≤ 64) (hm : m < 2 ^ e) (ha : apartN f d g e) :
    putN (putN w f d n) g e m = putN (putN w g e m) f d n := by
  apply word_ext
  intro i
  rw [putN_bit _ g e m i (putN_lt w f d n hw hfd hn) hge hm, putN_bit _ f d n i (putN_lt w g e m hw hge hm) hfd hn, putN_bit w f d n i hw hfd hn, putN_bit w g e m i hw hge hm]
  unfold apartN at ha
  by_cases h : f ≤ i ∧ i < f + d
  · rw [if_pos h, if_neg (by omega), if_pos h]
  · rw [if_neg h, if_neg h]
theorem get_apart (w f d n g e : Nat) (hw : w < 18446744073709551616) (hfd : f + d ≤ 64) (hn : n < 2 ^ d) (ha : apartN f d g e) : getN (putN w f d n) g e = getN w g e := by
  apply word_ext
  intro i
  rw [getN_bit, getN_bit, putN_bit w f d n _ hw hfd hn]
  unfold apartN at ha
  by_cases h : i < e
  · rw [if_neg (by omega)]
  · simp [h]
theorem and_Z (x f d : Nat) (hx : x < 18446744073709551616) (hd : d ≤ 64) : bits .and .u64 ((x : Int) / 2 ^ f) (lowM d) = (getN x f d : Int) := by
  have e : ((x : Int) / 2 ^ f) = ((x / 2 ^ f : Nat) : Int) := by
    rw [Int.natCast_ediv, Int.natCast_pow]
    rfl
  rw [e, bits_and_u64_nat _ _ (Nat.lt_of_le_of_lt (Nat.div_le_self _ _) hx) (lowM_lt hd), getN_and]
theorem put_Z (x f d n : Nat) (hx : x < 18446744073709551616) (hfd : f + d ≤ 64) (hn : n < 2 ^ d) : bits .or .u64 (bits .andNot .u64 x (hiM f d)) (IntKind.u64.wrap ((n : Int) * 2 ^ f)) = (putN x f d n : Int) := by
  have h1 := put_sh hfd hn
  have e : IntKind.u64.wrap ((n : Int) * 2 ^ f) = ((n * 2 ^ f : Nat) : Int) := by
    rw [IntKind.wrap_u64, show ((n : Int) * 2 ^ f) = ((n * 2 ^ f : Nat) : Int) from by rw [Int.natCast_mul, Int.natCast_pow]; rfl]
    omega
  rw [e, u64_andNot_nat x (hiM f d) hx (lowM_sh hfd), bits_or_u64_nat _ _ (Nat.lt_of_le_of_lt Nat.and_le_left hx) h1]
  rfl
end Go.Proofs.YtdgnbmcckknfiaaGreat
