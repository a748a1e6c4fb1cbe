/- Plain laws of the sum: each step is one to one, so words of which one alone is another one have unlike sums. Conditions: words below 2^64. -/
import Derived.Test.YtbdlkcdiioleiaaSumB
namespace Go.Proofs.Ytbdlkcdiioleiaa
open Go.RowKit

/-- A number that a word holds. -/
def U64 (x : Int) : Prop := 0 ≤ x ∧ x < 18446744073709551616

theorem u64_of_wf {x : Int} (h : (Lit.int .u64 x).wf = true) : U64 x := by
  have : 0 ≤ x ∧ x ≤ 18446744073709551615 := by simpa [Lit.wf, IntKind.min, IntKind.max, IntKind.signed, IntKind.bits] using h
  exact ⟨this.1, by omega⟩

theorem stp_eq (s x : Nat) (hs : s < 18446744073709551616) (hx : x < 18446744073709551616) : stp s x = ((s ^^^ x : Nat) : Int) * 1099511628211 % 18446744073709551616 := by
  unfold stp
  rw [IntKind.wrap_u64, bits_xor_u64_nat s x hs hx]

theorem stp_in (s x : Int) : U64 (stp s x) := by
  unfold stp U64
  rw [IntKind.wrap_u64]
  exact ⟨Int.emod_nonneg _ (by decide), Int.emod_lt_of_pos _ (by decide)⟩

theorem mul_back (a : Int) (ha : U64 a) : (a * 1099511628211 % 18446744073709551616 * 14886173955864302971) % 18446744073709551616 = a := by
  rw [Int.mul_emod, Int.emod_emod, ← Int.mul_emod, Int.mul_assoc, show (1099511628211 * 14886173955864302971 : Int) = 1 + 18446744073709551616 * 887285111055 from by decide,
    Int.mul_add, Int.mul_one, Int.mul_left_comm, Int.add_mul_emod_self_left]
  exact Int.emod_eq_of_lt ha.1 ha.2

theorem mul_inj (a b : Int) (ha : U64 a) (hb : U64 b) (h : a * 1099511628211 % 18446744073709551616 = b * 1099511628211 % 18446744073709551616) : a = b := by
  rw [← mul_back a ha, ← mul_back b hb, h]

theorem xor_lt (s x : Nat) (hs : s < 18446744073709551616) (hx : x < 18446744073709551616) : s ^^^ x < 18446744073709551616 :=
  Nat.xor_lt_two_pow (n := 64) hs hx

theorem xor_left_inj (a b c : Nat) (h : a ^^^ c = b ^^^ c) : a = b := by
  have := congrArg (· ^^^ c) h
  simpa [Nat.xor_assoc] using this

/-- A step is one to one in the sum. -/
theorem stp_sum (s t x : Int) (hs : U64 s) (ht : U64 t) (hx : U64 x) (h : stp s x = stp t x) : s = t := by
  obtain ⟨s, rfl⟩ := Int.eq_ofNat_of_zero_le hs.1
  obtain ⟨t, rfl⟩ := Int.eq_ofNat_of_zero_le ht.1
  obtain ⟨x, rfl⟩ := Int.eq_ofNat_of_zero_le hx.1
  unfold U64 at *
  rw [stp_eq s x (by omega) (by omega), stp_eq t x (by omega) (by omega)] at h
  have k1 := xor_lt s x (by omega) (by omega)
  have k2 := xor_lt t x (by omega) (by omega)
  have := mul_inj _ _ ⟨Int.natCast_nonneg _, Int.ofNat_lt.2 k1⟩ ⟨Int.natCast_nonneg _, Int.ofNat_lt.2 k2⟩ h
  rw [xor_left_inj s t x (Int.ofNat.inj this)]

/-- A step is one to one in the word. -/
theorem stp_word (s x y : Int) (hs : U64 s) (hx : U64 x) (hy : U64 y) (h : stp s x = stp s y) : x = y := by
  obtain ⟨s, rfl⟩ := Int.eq_ofNat_of_zero_le hs.1
  obtain ⟨y, rfl⟩ := Int.eq_ofNat_of_zero_le hy.1
  obtain ⟨x, rfl⟩ := Int.eq_ofNat_of_zero_le hx.1
  unfold U64 at *
  rw [stp_eq s x (by omega) (by omega), stp_eq s y (by omega) (by omega)] at h
  have k1 := xor_lt s x (by omega) (by omega)
  have k2 := xor_lt s y (by omega) (by omega)
  have := mul_inj _ _ ⟨Int.natCast_nonneg _, Int.ofNat_lt.2 k1⟩ ⟨Int.natCast_nonneg _, Int.ofNat_lt.2 k2⟩ h
  rw [xor_left_inj x y s (by rw [Nat.xor_comm x, Nat.xor_comm y]; exact Int.ofNat.inj this)]

theorem mor_in (s : Int) (xs : List Int) (hs : U64 s) : U64 (mor s xs) := by
  induction xs generalizing s with
  | nil => exact hs
  | cons x xs ih => exact ih (stp s x) (stp_in s x)

theorem mor_inj (xs : List Int) : ∀ (s t : Int), U64 s → U64 t → (∀ x ∈ xs, U64 x) → mor s xs = mor t xs → s = t := by
  induction xs with
  | nil => exact fun _ _ _ _ _ h => h
  | cons x xs ih =>
    intro s t hs ht hx h
    exact stp_sum s t x hs ht (hx x (by simp)) (ih _ _ (stp_in _ _) (stp_in _ _) (fun y hy => hx y (by simp [hy])) h)

theorem fnv_in : U64 fnv := by unfold U64 fnv; omega

theorem mor_split (s : Int) (xs : List Int) (k : Nat) (hk : k < xs.length) : mor s xs = mor (stp (mor s (xs.take k)) xs[k]) (xs.drop (k + 1)) := by
  have h : xs = xs.take k ++ xs[k] :: xs.drop (k + 1) := by rw [List.getElem_cons_drop, List.take_append_drop]
  unfold mor
  conv => lhs; rw [h]
  rw [List.foldl_append]
  rfl

/-- The stage's theorem: one word another one, another sum. -/
theorem mor_set (xs : List Int) (k : Nat) (hk : k < xs.length) (y : Int) (hx : ∀ x ∈ xs, U64 x) (hy : U64 y) (hne : xs[k] ≠ y) : mor fnv xs ≠ mor fnv (xs.set k y) := by
  intro h
  rw [mor_split fnv xs k hk, mor_split fnv (xs.set k y) k (by simpa using hk)] at h
  have e1 : (xs.set k y).take k = xs.take k := by rw [List.take_set_of_le (Nat.le_refl _)]
  have e2 : (xs.set k y).drop (k + 1) = xs.drop (k + 1) := by rw [List.drop_set_of_lt (by omega)]
  rw [e1, e2] at h
  have e3 : (xs.set k y)[k]'(by simpa using hk) = y := by simp
  rw [e3] at h
  have hin := mor_in fnv (xs.take k) fnv_in
  have h1 := mor_inj _ _ _ (stp_in _ _) (stp_in _ _) (fun z hz => hx z (List.mem_of_mem_drop hz)) h
  exact hne (stp_word _ _ _ hin (hx _ (List.getElem_mem hk)) hy h1)

theorem xor_bits (a b : Int) (ha : U64 a) (hb : U64 b) (h : b ≠ 0) : U64 (bits .xor .u64 a b) ∧ a ≠ bits .xor .u64 a b := by
  obtain ⟨a, rfl⟩ := Int.eq_ofNat_of_zero_le ha.1
  obtain ⟨b, rfl⟩ := Int.eq_ofNat_of_zero_le hb.1
  unfold U64 at *
  rw [bits_xor_u64_nat a b (by omega) (by omega)]
  have := xor_lt a b (by omega) (by omega)
  refine ⟨⟨by omega, by omega⟩, fun e => h ?_⟩
  have e' : a = a ^^^ b := by omega
  have e2 := congrArg (a ^^^ ·) e'
  simp [← Nat.xor_assoc] at e2
  omega

theorem seal_ne (xs : List Int) : sealOf xs ≠ 0 := by
  unfold sealOf
  split <;> omega
end Go.Proofs.Ytbdlkcdiioleiaa
