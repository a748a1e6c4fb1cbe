/- The walks of the functions of package sum, first part: with, add, each, More, Of, Seal, Sealed. No conditions but that a slice reads as a list. -/
import Derived.Test.YtbdlkcdiioleiaaRows
import Derived.Test.YtbdlkcdiioleiaaWords
namespace Go.Proofs.Ytbdlkcdiioleiaa
open Go.RowKit

/-- One step of the sum. -/
def stp (s w : Int) : Int := IntKind.u64.wrap (bits .xor .u64 s w * 1099511628211)

set_option maxHeartbeats 400000 in
theorem with_any (s x : Int) (w : World) :
    Calls Try.prog 27 #[.int .u64 s, .int .u64 x] w fun e w' => e = .returned (.int .u64 (stp s x)) ∧ w = w' := by
  go_enter Try.func27, Try.ntmps27
  go_wp2
  go_ret
  exact ⟨rfl, rfl⟩

set_option maxHeartbeats 400000 in
theorem add_any (s x : Int) (g : Nat) (w : World) (hg : Blk w g 48 #[.int .u64 s]) :
    Calls Try.prog 22 #[.pointer (some ⟨g, 0, none⟩), .int .u64 x] w fun e w' => e = .returned (.tuple #[]) ∧ w.setCell ⟨g, 0, none⟩ (.int .u64 (stp s x)) = w' := by
  have hc := hg.cell 0
  have hf := hg.frozen 0
  simp at hc
  go_enter Try.func22, Try.ntmps22
  go_wp2_with (go_at_call 27; refine (with_any _ _ _).mono ?_; rintro e w' ⟨rfl, rfl⟩)
  go_end0
  exact ⟨rfl, rfl⟩

/-- The sum of words behind a sum. -/
def mor (s : Int) (xs : List Int) : Int := xs.foldl stp s
theorem mor_take (s : Int) (xs : List Int) (k : Nat) (h : k < xs.length) : mor s (xs.take (k + 1)) = stp (mor s (xs.take k)) xs[k] := by
  unfold mor
  rw [List.take_succ_eq_append_getElem h, List.foldl_append]
  rfl

/-- A slice of words that reads as a list. -/
def U64s (w : World) (B : Nat) (A : Option Addr) (n : Nat) (xs : List Int) : Prop := Reads w B 1 A n (xs.map (Value.int .u64))
theorem U64s.len {w : World} {B : Nat} {A : Option Addr} {n : Nat} {xs : List Int} (h : U64s w B A n xs) : xs.length = n := by
  have := h.1; simpa using this
theorem U64s.at_ {w : World} {B : Nat} {A : Option Addr} {n k : Nat} {xs : List Int} (h : U64s w B A n xs) (hk : k < n) :
    ∃ ad, A = some ad ∧ ad.block < B ∧ w.cell? (ad.add k) = some (.int .u64 (xs[k]'(by rw [h.len]; exact hk))) := by
  obtain ⟨ad, u, e, hb, hx, hc⟩ := Reads.at_ h hk
  refine ⟨ad, e, hb, ?_⟩
  rw [hc]
  have hl : k < xs.length := by rw [h.len]; exact hk
  rw [List.getElem?_map, List.getElem?_eq_getElem hl] at hx
  simpa using hx.symm

set_option maxHeartbeats 400000 in
theorem each_any (s : Int) (xs : List Int) (g : Nat) (A : Option Addr) (n c B : Nat) (w : World) (hg : Blk w g 48 #[.int .u64 s]) (hr : U64s w B A n xs) (hB : B ≤ g) (hn : n ≤ maxLen) :
    Calls Try.prog 21 #[.func (Fn.func 22) #[.pointer (some ⟨g, 0, none⟩)] #[], .slice A n c] w fun e w' => e = .returned (.tuple #[]) ∧ Blk w' g 48 #[.int .u64 (mor s xs)] ∧ w.grownBy w' (some g) := by
  have hl1 : n ≤ xs.length := by rw [hr.len]; exact Nat.le_refl _
  have hl2 : xs.length ≤ n := by rw [hr.len]; exact Nat.le_refl _
  unfold maxLen at hn
  go_enter Try.func21, Try.ntmps21
  go_wp2
  go_loopw [8] (fun i wr => ∃ k : Nat, k ≤ n ∧ i = .int .i64 k ∧ Blk wr g 48 #[.int .u64 (mor s (xs.take k))] ∧ w.grownBy wr (some g)) (fun i _ => n - (intOf i).toNat)
  case atStart => exact ⟨0, Nat.zero_le _, rfl, hg, World.grownBy.refl _ _⟩
  case round =>
    obtain ⟨k, hk, rfl, hb, hgr⟩ := hrel
    by_cases hlt : k < n
    · have hrr : U64s wr B A n xs := Reads.keep hr (fun p hp => World.cell?_of_block (hgr.block p.block (by have := hg.lt; omega) (by simp; omega)))
      obtain ⟨ad, rfl, hbl, hc⟩ := hrr.at_ hlt
      have hst : Hid (mor s (xs.take (k + 1)) = stp (mor s (xs.take k)) (xs[k]'(by omega))) := mor_take s xs k (by omega)
      go_wp2_with (go_at_call 22; refine (add_any _ _ _ _ hb).mono ?_; rintro e w' ⟨rfl, rfl⟩)
      go_roundw
      case rel => exact ⟨k + 1, by omega, by go_num, by rw [hst.out]; exact hb.set_ 0 _, only_setCell hgr (.inl rfl) _⟩
      case measure => simp [intOf]; omega
    · have hx : xs.take k = xs := List.take_of_length_le (by omega)
      rw [hx] at hb
      clear hx
      go_wp2
      go_end0
      exact ⟨rfl, hb, hgr⟩

theorem blk_in {w : World} (s : Int) : Blk (w.alloc (.cells #[.int .u64 s] 48)) w.heap.size 48 #[.int .u64 s] := Blk.new w 48 _

set_option maxHeartbeats 400000 in
theorem more_fit (s : Int) (xs : List Int) (A : Option Addr) (n c : Nat) (w : World) (hr : U64s w w.heap.size A n xs) (hn : n ≤ 4096) :
    Calls Try.prog 12 #[.int .u64 s, .slice A n c] w fun e w' => e = .returned (.tuple #[.int .u64 (mor s xs), .int .i64 0]) ∧ Below w.heap.size w w' := by
  have hb0 := Blk.new w 48 #[.int .u64 s]
  have hr0 : U64s (w.alloc (.cells #[.int .u64 s] 48)) w.heap.size A n xs := Reads.alloc hr (Nat.le_refl _) _
  go_enter Try.func12, Try.ntmps12
  go_wp2
  go_step3
  go_wp2_with fail
  refine (each_any s xs _ A n c _ _ hb0 hr0 (Nat.le_refl _) (by unfold maxLen; omega)).mono ?_
  rintro e w1 ⟨rfl, hb1, hg1⟩
  have hc := hb1.cell 0
  simp at hc
  go_wp2
  first | rw [Exit.noGoto_ret] | rw [Exit.jump_ret] | skip
  go_ret2
  exact ⟨rfl, ((Below.refl _ _).alloc (Nat.le_refl _) _).grown hg1 (by simp) (by simp)⟩

set_option maxHeartbeats 400000 in
theorem more_long (s : Int) (A : Option Addr) (n c : Nat) (w : World) (hn : 4096 < n) :
    Calls Try.prog 12 #[.int .u64 s, .slice A n c] w fun e w' => e = .returned (.tuple #[.int .u64 0, .int .i64 3]) ∧ Below w.heap.size w w' := by
  go_enter Try.func12, Try.ntmps12
  go_wp2
  refine wp_scope_goto 0 rfl fun J hJ => ?_
  go_wp2
  go_step3
  refine ⟨rfl, hJ _ _ ?_⟩
  go_wp2
  first | rw [Exit.noGoto_ret] | rw [Exit.jump_ret] | skip
  go_ret2
  exact ⟨rfl, (Below.refl _ _).alloc (Nat.le_refl _) _⟩

end Go.Proofs.Ytbdlkcdiioleiaa
