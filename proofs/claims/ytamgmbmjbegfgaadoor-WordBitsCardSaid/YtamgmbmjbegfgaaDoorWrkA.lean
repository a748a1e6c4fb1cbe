/- Strings of bytes that are read; the walk of the reference's Same at two lists that are one; word.Words of numbers. Conditions: lists that are read. -/
import Derived.Laws.BytesArg
import Derived.Test.YtamgmbmjbegfgaaDoorBytB
import Derived.Test.YtamgmbmjbegfgaaDoorBitA
namespace Go.Proofs.YtamgmbmjbegfgaaDoor
open Go.RowKit

/-- A string of bytes. -/
def strOf (xs : List Nat) : ByteArray := ⟨(xs.map fun n => UInt8.ofNat n).toArray⟩
theorem conv_reads {w : World} {B n : Nat} {A : Option Addr} {xs : List Nat} (c : Nat) (h : Reads w B 1 A n (cells8 xs)) :
    (convert 36 9 (.slice A n c)).run Tryd.prog w = .ok (.string (strOf xs)) w := by
  have hl : xs.length = n := by have := h.1; rw [cells8_len] at this; omega
  rcases A with _ | ad
  · have h0 : n = 0 := by
      rcases Nat.eq_zero_or_pos n with h0 | h0
      · exact h0
      · obtain ⟨ad, e, _⟩ := h.2 h0
        cases e
    subst h0
    have hx : xs = [] := List.eq_nil_of_length_eq_zero hl
    subst hx
    exact run_convert_bytes_nil w 36 5 (by kernel_rfl) (by kernel_rfl) 0 c 9 (by kernel_rfl)
  · have hload : (loadCells ad n).run Tryd.prog w = .ok ((xs.map fun x : Nat => (x : Int)).map (Value.int .u8)).toArray w := by
      have := run_loadCells_list (P := Tryd.prog) w ad (cells8 xs) (fun j v hj => by
        rcases Nat.eq_zero_or_pos n with h0 | h0
        · have hx : xs = [] := List.eq_nil_of_length_eq_zero (by omega)
          subst hx
          simp [cells8] at hj
        · obtain ⟨ad', e, _, hc⟩ := h.2 h0
          cases e
          exact hc j v hj)
      rw [cells8_len, hl] at this
      rw [this]
      unfold cells8
      rw [List.map_map]
      rfl
    rw [run_convert_bytes_string w 36 9 5 _ n c (by kernel_rfl) (by kernel_rfl) (by kernel_rfl), run_bytesToString w _ n c _ hload, foldl_push_bytes]
    unfold strOf
    rw [List.map_map]
    have e : (xs.map ((fun n : Int => UInt8.ofNat n.toNat) ∘ fun x : Nat => (x : Int))) = xs.map fun n => UInt8.ofNat n := List.map_congr_left fun x _ => rfl
    rw [e]
    simp [ByteArray.empty, ByteArray.emptyWithCapacity]
    rfl

theorem below_drewN {B : Nat} {a w : World} (h : Below B a w) (n : Nat) : Below B a (w.drewN n) := ⟨h.os, h.tape, h.output, h.size, h.block⟩

set_option maxHeartbeats 400000 in
theorem rsame_eq (xs : List Nat) (A1 A2 : Option Addr) (n c1 c2 B1 B2 : Nat) (w : World) (h1 : Reads w B1 1 A1 n (cells64 xs)) (h2 : Reads w B2 1 A2 n (cells64 xs)) (hB1 : B1 ≤ w.heap.size) (hB2 : B2 ≤ w.heap.size) (hn : n ≤ 100000) :
    Calls Tryd.prog 19 #[.slice A1 n c1, .slice A2 n c2] w fun e w' => e = .returned (.bool true) ∧ Below w.heap.size w w' := by
  go_enter Tryd.func19, Tryd.ntmps19
  go_wp2
  go_loopw [5] (fun i wr => ∃ j : Nat, j ≤ n ∧ i = .int .i64 j ∧ Below w.heap.size w wr) (fun i _ => n - (intOf i).toNat)
  case atStart => exact ⟨0, Nat.zero_le _, rfl, Below.refl _ _⟩
  case round =>
    obtain ⟨j, hj, rfl, hb⟩ := hrel
    by_cases hlt : j < n
    · obtain ⟨ad, x, rfl, hbl, hx, ca⟩ := u64_at xs (Reads.below h1 (hb.mono hB1)) hlt
      obtain ⟨ad2, x2, rfl, hbl2, hx2, ca2⟩ := u64_at xs (Reads.below h2 (hb.mono hB2)) hlt
      rw [hx] at hx2
      cases hx2
      have Hb := Lib.hid hb
      clear hb h1 h2 hx
      go_wp2
      go_quiet (fail)
      go_wp2
      go_roundw
      case rel => exact ⟨j + 1, by omega, by go_num, below_drewN Hb.out _⟩
      case measure => simp [intOf]; omega
    · go_wp2
      go_ret
      exact ⟨rfl, hb⟩

theorem words_n (bs : List Nat) (A : Option Addr) (n c : Nat) (w : World) (hr : Reads w w.heap.size 1 A n (cells8 bs)) (hx : ∀ x ∈ bs, x < 256) (hc : n ≤ c) (hn : n ≤ 4096) :
    Calls Tryd.prog 17 #[.slice A n c] w fun e w' => ∃ v, e = .returned (.tuple #[v, .int .i64 0]) ∧
      w'.ownsRow w.heap.size 22 1 v ((n + 7) / 8) (cells64 (wordsN bs)) ∧ Below w.heap.size w w' := by
  have e : (bs.map Int.ofNat).map (Value.int .u8) = cells8 bs := by unfold cells8; rw [List.map_map]; rfl
  rw [← wordsOf_nat bs hx]
  refine words_any (bs.map Int.ofNat) A n c w ?_ ?_ hc hn
  · unfold U8s
    rw [e]
    exact hr
  · intro x h
    obtain ⟨y, hy, rfl⟩ := List.mem_map.1 h
    have := hx y hy
    show 0 ≤ ((y : Nat) : Int) ∧ ((y : Nat) : Int) < 256
    omega
theorem wordN_lt (bs : List Nat) (hx : ∀ x ∈ bs, x < 256) (k : Nat) : wordN bs k < 18446744073709551616 := by
  have h1 := leN_lt ((bs.drop (8 * k)).take 8) (fun x h => hx x (List.mem_of_mem_drop (List.mem_of_mem_take h)))
  have h2 : 2 ^ (8 * ((bs.drop (8 * k)).take 8).length) ≤ 2 ^ 64 := Nat.pow_le_pow_right (by omega) (by rw [List.length_take]; omega)
  unfold wordN
  omega
theorem wordsN_lt (bs : List Nat) (hx : ∀ x ∈ bs, x < 256) : ∀ x ∈ wordsN bs, x < 18446744073709551616 := by
  intro x h
  unfold wordsN at h
  obtain ⟨k, _, rfl⟩ := List.mem_map.1 h
  exact wordN_lt bs hx k
end Go.Proofs.YtamgmbmjbegfgaaDoor
