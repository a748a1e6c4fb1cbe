/- The walks of sum.Text and of the reference's Text. Conditions: at most 4096 bytes that read as a list, or more. -/
import Derived.Test.YtbdlkcdiioleiaaSumC
import Derived.Test.YtbdlkcdiioleiaaWordE
namespace Go.Proofs.Ytbdlkcdiioleiaa
open Go.RowKit

/-- The words whose sum is the sum of bytes. -/
def textL (bs : List Nat) : List Int := (wordsN bs).map (fun x : Nat => (x : Int)) ++ [(bs.length : Int)]
theorem textL_len (bs : List Nat) : (textL bs).length = (bs.length + 7) / 8 + 1 := by simp [textL, wordsN_len]
theorem textL_cells (bs : List Nat) (n : Nat) (h : bs.length = n) : cells64 (wordsN bs) ++ [.int .u64 (n : Int)] = (textL bs).map (Value.int .u64) := by
  subst h
  simp [cells64, textL, List.map_map, Function.comp]

set_option maxRecDepth 100000 in
set_option maxHeartbeats 1000000 in
theorem stext_fit (bs : List Nat) (A : Option Addr) (n c : Nat) (w : World) (hr : U8s w w.heap.size A n (bs.map Int.ofNat)) (hx : ∀ x ∈ bs, x < 256) (hc : n ≤ c) (hn : n ≤ 4096) :
    Calls Try.prog 19 #[.slice A n c] w fun e w' => e = .returned (.tuple #[.int .u64 (mor fnv (textL bs)), .int .i64 0]) ∧ Below w.heap.size w w' := by
  obtain ⟨i0, hi0, hz0, hz1, hz2⟩ := info_parts info64
  have hlen : bs.length = n := by have := hr.len; simpa using this
  have hcells := Lib.hid (textL_cells bs n hlen)
  have htl : (textL bs).length = (n + 7) / 8 + 1 := by rw [textL_len, hlen]
  have hx' : ∀ x ∈ bs.map Int.ofNat, 0 ≤ x ∧ x < 256 := by
    intro x h
    obtain ⟨y, hy, rfl⟩ := List.mem_map.1 h
    have := hx y hy
    show 0 ≤ ((y : Nat) : Int) ∧ ((y : Nat) : Int) < 256
    omega
  have Hlen := Lib.hid hlen
  have Htl := Lib.hid htl
  have Hx := Lib.hid hx
  have Hx' := Lib.hid hx'
  clear hlen htl hx hx'
  have hwn : IntKind.u64.wrap (n : Int) = (n : Int) := by rw [IntKind.wrap_u64]; omega
  go_enter Try.func19, Try.ntmps19
  go_wp2_with fail
  refine (words_any _ A n c _ hr Hx'.out hc hn).mono ?_
  rintro e w1 ⟨v, rfl, hown, hb⟩
  rw [wordsOf_nat bs Hx.out] at hown
  obtain ⟨q, hq⟩ : ∃ q, (n + 7) / 8 = q := ⟨_, rfl⟩
  have hq1 : q ≤ 512 := by omega
  rw [hq] at hown
  have Htl' : Hid ((textL bs).length = q + 1) := Lib.hid (by rw [Htl.out, hq])
  obtain ⟨A1, c1, rfl⟩ := own_form hown
  go_wp2_with (at_builtin; go_must (refine wpList_append_own _ rfl (.tmp 14) (.tmp 18) _ rfl w.heap.size 23 i0 _ 1 8 Try.underlying22 hi0 hz0 hz1 hz2 rfl (by omega) (.slice A1 q c1) q _ rfl (hown.alloc _) ⟨w1.heap.size, 0, none⟩ 1 1 [.int .u64 n] rfl rfl (by exact cell_one_new _ _ _) (by simp [Value.oneCell']) (by simp only [maxLen]; omega) (by omega) (by simp; have := hb.size; omega) ?_); intro v' w2 hown' hgrow _; obtain ⟨g', cap', rfl, hg1', hg2'⟩ := hown'.form (by omega))
  have hb2 : Below w.heap.size w w2 := (hb.alloc hb.size _).grown hgrow (by simp; have := hb.size; omega) (fun k h => (hown.lt k h).1)
  rw [hcells.out] at hown'
  refine (of_fit _ _ (q + 1) cap' _ (Reads.of_own hown') (by omega)).mono ?_
  rintro e w3 ⟨rfl, hb3⟩
  go_wp2
  go_ret2
  exact ⟨rfl, hb2.trans (hb3.mono hb2.size)⟩

set_option maxHeartbeats 400000 in
theorem stext_long (A : Option Addr) (n c : Nat) (w : World) (hl : 4096 < n) (hn : n ≤ maxLen) :
    Calls Try.prog 19 #[.slice A n c] w fun e w' => e = .returned (.tuple #[.int .u64 0, .int .i64 3]) ∧ Below w.heap.size w w' := by
  go_enter Try.func19, Try.ntmps19
  go_wp2_with fail
  refine (words_long A n c _ hl hn).mono ?_
  rintro e w1 ⟨rfl, hb⟩
  go_wp2
  go_ret2
  exact ⟨rfl, hb⟩

set_option maxRecDepth 100000 in
set_option maxHeartbeats 1000000 in
theorem rtext_any (bs : List Nat) (A : Option Addr) (n c : Nat) (w : World) (hr : U8s w w.heap.size A n (bs.map Int.ofNat)) (hx : ∀ x ∈ bs, x < 256) (hn : n ≤ 5000) :
    Calls Try.prog 20 #[.slice A n c] w fun e w' => e = .returned (.int .u64 (mor fnv (textL bs))) ∧ Below w.heap.size w w' := by
  obtain ⟨i0, hi0, hz0, hz1, hz2⟩ := info_parts info64
  have hlen : bs.length = n := by have := hr.len; simpa using this
  have hcells := Lib.hid (textL_cells bs n hlen)
  have Hx := Lib.hid hx
  clear hlen hx
  have hwn : IntKind.u64.wrap (n : Int) = (n : Int) := by rw [IntKind.wrap_u64]; omega
  go_enter Try.func20, Try.ntmps20
  go_wp2_with fail
  refine (rwords_any _ A n c _ hr Hx.out hn).mono ?_
  rintro e w1 ⟨v, rfl, hown, hb⟩
  obtain ⟨q, hq⟩ : ∃ q, (n + 7) / 8 = q := ⟨_, rfl⟩
  have hq1 : q ≤ 800 := by omega
  rw [hq] at hown
  obtain ⟨A1, c1, rfl⟩ := own_form hown
  go_wp2_with (at_builtin; go_must (refine wpList_append_own _ rfl (.tmp 4) (.tmp 8) _ rfl w.heap.size 23 i0 _ 1 8 Try.underlying22 hi0 hz0 hz1 hz2 rfl (by omega) (.slice A1 q c1) q _ rfl (hown.alloc _) ⟨w1.heap.size, 0, none⟩ 1 1 [.int .u64 n] rfl rfl (by exact cell_one_new _ _ _) (by simp [Value.oneCell']) (by simp only [maxLen]; omega) (by omega) (by simp; have := hb.size; omega) ?_); intro v' w2 hown' hgrow _; obtain ⟨g', cap', rfl, hg1', hg2'⟩ := hown'.form (by omega))
  have hb2 : Below w.heap.size w w2 := (hb.alloc hb.size _).grown hgrow (by simp; have := hb.size; omega) (fun k h => (hown.lt k h).1)
  rw [hcells.out] at hown'
  refine (rof_any _ _ (q + 1) cap' _ _ (Reads.of_own hown') (by unfold maxLen; omega)).mono ?_
  rintro e w3 ⟨rfl, rfl⟩
  go_wp2
  go_ret
  exact ⟨rfl, hb2⟩
end Go.Proofs.Ytbdlkcdiioleiaa
