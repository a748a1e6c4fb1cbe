/- The walks under word.Words: its closure, folded, Clone, Reverse, Chunk. Conditions: slices of bytes that read as lists. -/
import Derived.Test.YtdgnbmcckknfiaaGreatRows
import Derived.Test.YtdgnbmcckknfiaaGreatDraw
namespace Go.Proofs.YtdgnbmcckknfiaaGreat
open Go.RowKit
attribute [local go_sem] Oper.semAt_some wide_fn wide_depth

/-- A slice of bytes that reads as a list. -/
def U8s (w : World) (B : Nat) (A : Option Addr) (n : Nat) (xs : List Int) : Prop := Reads w B 1 A n (xs.map (Value.int .u8))
theorem U8s.len {w : World} {B : Nat} {A : Option Addr} {n : Nat} {xs : List Int} (h : U8s w B A n xs) : xs.length = n := by
  have := h.1; simpa using this
theorem U8s.at_ {w : World} {B : Nat} {A : Option Addr} {n k : Nat} {xs : List Int} (h : U8s w B A n xs) (hk : k < n) :
    ∃ ad, A = some ad ∧ ad.block < B ∧ w.cell? (ad.add k) = some (.int .u8 (xs[k]'(by rw [h.len]; exact hk))) := by
  obtain ⟨ad, u, e, hb, hx, hc⟩ := Reads.at_ h hk
  refine ⟨ad, e, hb, ?_⟩
  rw [hc]
  have hl : k < xs.length := by rw [h.len]; exact hk
  rw [List.getElem?_map, List.getElem?_eq_getElem hl] at hx
  simpa using hx.symm

/-- A word with a byte more at its bottom. -/
def byin (a c : Int) : Int := bits .or .u64 (IntKind.u64.wrap (a * 256)) c

set_option maxHeartbeats 400000 in
theorem words1_any (a c : Int) (w : World) (hc : 0 ≤ c ∧ c < 256) :
    Calls Tryz.prog 100 #[.int .u64 a, .int .u8 c] w fun e w' => e = .returned (.int .u64 (byin a c)) ∧ w = w' := by
  obtain ⟨h1, h2⟩ := hc
  go_enter Tryz.func100, Tryz.ntmps100
  go_wp2
  go_ret
  exact ⟨rfl, rfl⟩

def fold8 (a : Int) (xs : List Int) : Int := xs.foldl byin a
theorem fold8_take (a : Int) (xs : List Int) (k : Nat) (h : k < xs.length) : fold8 a (xs.take (k + 1)) = byin (fold8 a (xs.take k)) xs[k] := by
  unfold fold8
  rw [List.take_succ_eq_append_getElem h, List.foldl_append]
  rfl

set_option maxHeartbeats 400000 in
theorem folded_any (a : Int) (xs : List Int) (A : Option Addr) (n c B : Nat) (w : World) (hr : U8s w B A n xs) (hx : ∀ x ∈ xs, 0 ≤ x ∧ x < 256) (hn : n ≤ maxLen) :
    Calls Tryz.prog 99 #[.int .u64 a, .func (.func 100) #[] #[], .slice A n c] w fun e w' => e = .returned (.int .u64 (fold8 a xs)) ∧ w = w' := by
  have hl1 : n ≤ xs.length := by rw [hr.len]; exact Nat.le_refl _
  have hl2 : xs.length ≤ n := by rw [hr.len]; exact Nat.le_refl _
  unfold maxLen at hn
  go_enter Tryz.func99, Tryz.ntmps99
  go_wp2
  go_loop [0, 11] (fun t i => ∃ k : Nat, k ≤ n ∧ i = .int .i64 k ∧ t = .int .u64 (fold8 a (xs.take k))) (fun _ i => n - (intOf i).toNat)
  case atStart => exact ⟨0, Nat.zero_le _, rfl, rfl⟩
  case round =>
    obtain ⟨k, hk, rfl, rfl⟩ := hrel
    by_cases hlt : k < n
    · obtain ⟨ad, rfl, hbl, hc⟩ := hr.at_ hlt
      have hst : Hid (fold8 a (xs.take (k + 1)) = byin (fold8 a (xs.take k)) (xs[k]'(by omega))) := fold8_take a xs k (by omega)
      have hb8 := hx (xs[k]'(by omega)) (List.getElem_mem _)
      have Hb8 := Lib.hid hb8
      have Hx := Lib.hid hx
      clear hb8 hx
      go_wp2_with fail
      refine (words1_any _ _ _ Hb8.out).mono ?_
      rintro e w' ⟨rfl, rfl⟩
      go_wp2
      go_round
      case rel => exact ⟨k + 1, by omega, by go_num, by rw [hst.out]⟩
      case measure => simp [intOf]; omega
    · have hx : Hid (xs.take k = xs) := List.take_of_length_le (by omega)
      go_wp2
      go_ret
      rw [hx.out]
      exact ⟨rfl, rfl⟩
end Go.Proofs.YtdgnbmcckknfiaaGreat
