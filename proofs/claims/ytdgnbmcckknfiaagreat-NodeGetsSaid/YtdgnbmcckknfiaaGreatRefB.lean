/- The walks of the reference's With, Get and Byte; a string of bytes that are read. Conditions: words that read as a list; numbers of 64 bits. -/
import Derived.Laws.BytesArg
import Derived.Test.YtdgnbmcckknfiaaGreatWordD
import Derived.Test.YtdgnbmcckknfiaaGreatBytB
import Derived.Test.YtdgnbmcckknfiaaGreatBytQ
namespace Go.Proofs.YtdgnbmcckknfiaaGreat
open Go.RowKit

/-- A string of bytes. -/
def strOf (xs : List Nat) : ByteArray := ⟨(xs.map fun n => UInt8.ofNat n).toArray⟩
theorem conv_reads {w : World} {B n : Nat} {A : Option Addr} {xs : List Nat} (c : Nat) (h : Reads w B 1 A n (cells8 xs)) :
    (convert 140 9 (.slice A n c)).run Tryz.prog w = .ok (.string (strOf xs)) w := by
  have hl : xs.length = n := by have := h.1; rw [cells8_len] at this; omega
  rcases A with _ | ad
  · have h0 : n = 0 := by
      rcases Nat.eq_zero_or_pos n with h0 | h0
      · exact h0
      · obtain ⟨ad, e, _⟩ := h.2 h0
        cases e
    subst h0
    have hx : xs = [] := List.eq_nil_of_length_eq_zero hl
    subst hx
    exact run_convert_bytes_nil w 140 5 (by kernel_rfl) (by kernel_rfl) 0 c 9 (by kernel_rfl)
  · have hload : (loadCells ad n).run Tryz.prog w = .ok ((xs.map fun x : Nat => (x : Int)).map (Value.int .u8)).toArray w := by
      have := run_loadCells_list (P := Tryz.prog) w ad (cells8 xs) (fun j v hj => by
        rcases Nat.eq_zero_or_pos n with h0 | h0
        · have hx : xs = [] := List.eq_nil_of_length_eq_zero (by omega)
          subst hx
          simp [cells8] at hj
        · obtain ⟨ad', e, _, hc⟩ := h.2 h0
          cases e
          exact hc j v hj)
      rw [cells8_len, hl] at this
      rw [this]
      unfold cells8
      rw [List.map_map]
      rfl
    rw [run_convert_bytes_string w 140 9 5 _ n c (by kernel_rfl) (by kernel_rfl) (by kernel_rfl), run_bytesToString w _ n c _ hload, foldl_push_bytes]
    unfold strOf
    rw [List.map_map]
    have e : (xs.map ((fun n : Int => UInt8.ofNat n.toNat) ∘ fun x : Nat => (x : Int))) = xs.map fun n => UInt8.ofNat n := List.map_congr_left fun x _ => rfl
    rw [e]
    simp [ByteArray.empty, ByteArray.emptyWithCapacity]
    rfl
theorem xor_any (x i : Nat) (hx : x < 18446744073709551616) (hi : i < 64) : bits .xor .u64 x (IntKind.u64.wrap (2 ^ i)) = ((x ^^^ 2 ^ i : Nat) : Int) := by
  have h1 : 2 ^ i < 18446744073709551616 := Nat.pow_lt_pow_right (by omega) hi
  have hw : IntKind.u64.wrap ((2 : Int) ^ i) = ((2 ^ i : Nat) : Int) := by
    rw [show ((2 : Int) ^ i) = ((2 ^ i : Nat) : Int) from by norm_cast, IntKind.wrap_u64]
    exact Int.emod_eq_of_lt (Int.natCast_nonneg _) (Int.ofNat_lt.2 h1)
  rw [hw, bits_xor_u64_nat x (2 ^ i) hx h1]
set_option maxHeartbeats 400000 in
theorem with_any (x i : Nat) (b : Bool) (w : World) (hx : x < 18446744073709551616) (hi : i < 64) :
    Calls Tryz.prog 103 #[.int .u64 x, .int .i64 i, .bool b] w fun e w' => e = .returned (.int .u64 (withN x i b)) ∧ w = w' := by
  have ho := Lib.hid (xor_any x i hx hi)
  by_cases h : x.testBit i = b
  · have e : Hid (withN x i b = x) := Lib.hid (by unfold withN; rw [if_pos h])
    subst h
    go_enter Tryz.func103, Tryz.ntmps103
    go_wp2_with fail
    refine (bit_any x i _ hx hi).mono ?_
    rintro e w1 ⟨rfl, rfl⟩
    go_wp2
    go_ret
    exact ⟨by rw [e.out]; rfl, rfl⟩
  · have e : Hid (withN x i b = x ^^^ 2 ^ i) := Lib.hid (by unfold withN; rw [if_neg h])
    have hb : (x.testBit i == b) = false := by simpa using h
    have Hh := Lib.hid h
    clear h
    go_enter Tryz.func103, Tryz.ntmps103
    go_wp2_with fail
    refine (bit_any x i _ hx hi).mono ?_
    rintro e w1 ⟨rfl, rfl⟩
    go_wp2
    go_ret
    exact ⟨by rw [e.out, ← ho.out]; rfl, rfl⟩
set_option maxHeartbeats 800000 in
theorem rget_any (x f d : Nat) (w : World) (hx : x < 18446744073709551616) (h : f + d ≤ 64) :
    Calls Tryz.prog 93 #[.int .u64 x, .agg #[.int .i64 f, .int .i64 d]] w fun e w' => e = .returned (.int .u64 (getN x f d)) ∧ Below w.heap.size w w' := by
  have B0 : Below w.heap.size w (w.alloc (.cells #[.int .i64 f, .int .i64 d] 120)) := (Below.refl _ w).alloc (Nat.le_refl _) _
  have e0 : getN x f 0 = 0 := by unfold getN; simp [Nat.mod_one]
  have E0 := Lib.hid e0
  clear e0
  go_enter Tryz.func93, Tryz.ntmps93
  go_wp2
  go_loop [5, 6] (fun t i => ∃ k : Nat, k ≤ d ∧ i = .int .i64 k ∧ t = .int .u64 (getN x f k)) (fun _ i => d - (intOf i).toNat)
  case atStart => exact ⟨0, Nat.zero_le _, rfl, by rw [E0.out]; rfl⟩
  case round =>
    obtain ⟨k, hk, rfl, rfl⟩ := hrel
    by_cases hlt : k < d
    · have hg := getN_lt x f k
      have hp : 2 ^ k ≤ 2 ^ 64 := Nat.pow_le_pow_right (by omega) (by omega)
      have hg2 : getN x f k < 18446744073709551616 := by omega
      have hst := Lib.hid (get_step x f k)
      obtain ⟨j, hj⟩ : ∃ j, f + k = j := ⟨_, rfl⟩
      have hfk : (f : Int) + k = (j : Int) := by omega
      have hwj : IntKind.i64.wrap (j : Int) = (j : Int) := by rw [IntKind.wrap_i64]; omega
      rw [hj] at hst
      have hj64 : j < 64 := by omega
      obtain ⟨g, hgg⟩ : ∃ g, getN x f k = g := ⟨_, rfl⟩
      rw [hgg] at hst hg2 ⊢
      clear hg hp hj hgg
      go_wp2_with fail
      refine (bit_any x j _ hx hj64).mono ?_
      rintro e w1 ⟨rfl, rfl⟩
      go_wp2_with fail
      refine (with_any g k (x.testBit j) _ hg2 (by omega)).mono ?_
      rintro e w1 ⟨rfl, rfl⟩
      rw [hst.out]
      go_wp2
      go_round
      case rel => exact ⟨k + 1, by omega, by go_num, rfl⟩
      case measure => simp [intOf]; omega
    · obtain rfl : k = d := by omega
      go_wp2
      go_ret
      exact ⟨rfl, B0⟩
theorem getN_byte (x i : Nat) : getN x (8 * i) 8 = wbyte x i := rfl
theorem byte_wrap (y : Nat) (h : y < 256) : IntKind.u8.wrap (y : Int) = (y : Int) := by
  simp [IntKind.wrap, IntKind.signed, IntKind.bits]
  omega
set_option maxHeartbeats 800000 in
theorem rbyte_any (l : List Nat) (A : Option Addr) (q c i : Nat) (w : World) (hr : Reads w w.heap.size 1 A q (cells64 l)) (hx : ∀ x ∈ l, x < 18446744073709551616) (hi : i < 8 * q) (hq : q ≤ 5000) :
    Calls Tryz.prog 81 #[.slice A q c, .int .i64 i] w fun e w' => ∃ y : Nat, e = .returned (.int .u8 (y : Int)) ∧ (bytesOf l)[i]? = some y ∧ y < 256 ∧ Below w.heap.size w w' := by
  obtain ⟨k, hk⟩ : ∃ k, i / 8 = k := ⟨_, rfl⟩
  obtain ⟨j, hj⟩ : ∃ j, i % 8 = j := ⟨_, rfl⟩
  obtain ⟨ad, x, rfl, hbl, hxx, hc1⟩ := u64_at l hr (show k < q by omega)
  have hat := bytesOf_at l k j (by omega)
  rw [show 8 * k + j = i by omega, hxx] at hat
  have Hat : Hid ((bytesOf l)[i]? = some (wbyte x j)) := Lib.hid hat
  have hx64 := hx x (List.mem_of_getElem? hxx)
  have hw := wbyte_lt x j
  have hgb := Lib.hid (getN_byte x j)
  have hbw := Lib.hid (byte_wrap _ hw)
  have q8 : (i : Int).tdiv 8 = (k : Int) := by rw [Int.tdiv_eq_ediv_of_nonneg (by omega)]; omega
  have q9 : (i : Int) / 8 = (k : Int) := by omega
  have r8 : (i : Int).tmod 8 = (j : Int) := by rw [Int.tmod_eq_emod_of_nonneg (by omega)]; omega
  have r9 : (i : Int) % 8 = (j : Int) := by omega
  have w1' : IntKind.i64.wrap (k : Int) = (k : Int) := by rw [IntKind.wrap_i64]; omega
  have w2' : IntKind.i64.wrap (8 * (j : Int)) = ((8 * j : Nat) : Int) := by rw [IntKind.wrap_i64]; omega
  have w3' : 8 * (j : Int) = ((8 * j : Nat) : Int) := by omega
  have hk0 : (0 : Int) ≤ (k : Int) := by omega
  have hkq : (k : Int) < (q : Int) := by omega
  have hj8 : j < 8 := by omega
  obtain ⟨f, hf⟩ : ∃ f, 8 * j = f := ⟨_, rfl⟩
  rw [hf] at w2' w3' hgb
  have hf8 : f + 8 ≤ 64 := by omega
  clear hat hxx hx hk hj hf hr
  go_enter Tryz.func81, Tryz.ntmps81
  go_wp2_with fail
  refine (rget_any x f 8 _ hx64 hf8).mono ?_
  rintro e w2 ⟨rfl, hb⟩
  rw [hgb.out]
  obtain ⟨y, hy⟩ : ∃ y, wbyte x j = y := ⟨_, rfl⟩
  rw [hy] at hbw hw Hat ⊢
  clear hy
  go_wp2
  go_ret
  exact ⟨y, rfl, Hat.out, hw, hb⟩
theorem cells8_snoc (l : List Nat) (j y : Nat) (h : l[j]? = some y) : cells8 (l.take (j + 1)) = cells8 (l.take j) ++ [.int .u8 (y : Int)] := by
  rw [List.take_add_one, h]
  simp [cells8]
end Go.Proofs.YtdgnbmcckknfiaaGreat
