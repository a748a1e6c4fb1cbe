/- The walks of the law's same and of the reference's Ints, at two lists that are one. Conditions: at most 10000 elements. -/
import Derived.Deep.QuietTactic
import Derived.BigQuiet
import Derived.Test.YtfafpgboheaajaaPlaceS
namespace Go.Proofs.Ytfafpgboheaajaa
open Go.RowKit

theorem below_drewN {B : Nat} {a w : World} (h : Below B a w) (n : Nat) : Below B a (w.drewN n) := ⟨h.os, h.tape, h.output, h.size, h.block⟩

theorem info_place : ∃ i, Try.prog.info? 23 = some i ∧ i.zero = some (.agg #[.int .i64 0, .int .i64 0]) ∧ i.size = 2 ∧ i.bytes = 16 := by
  have h := infoPlace
  cases h' : Try.prog.info? 23 with
  | none => rw [h'] at h; cases h
  | some i =>
    rw [h'] at h
    simp only [Option.map_some, Option.some.injEq, Prod.mk.injEq] at h
    exact ⟨i, rfl, h⟩

set_option maxHeartbeats 400000 in
theorem same_eq (xs : List (Int × Int)) (A1 A2 : Option Addr) (n c1 c2 : Nat) (w : World) (h1 : PReads w w.heap.size A1 n xs) (h2 : PReads w w.heap.size A2 n xs) (hn : n ≤ 10000) :
    Calls Try.prog 21 #[.slice A1 n c1, .slice A2 n c2] w fun e w' => e = .returned (.bool true) ∧ Below w.heap.size w w' := by
  go_enter Try.func21, Try.ntmps21
  go_wp2
  go_loopw [5] (fun i wr => ∃ j : Nat, j ≤ n ∧ i = .int .i64 j ∧ Below w.heap.size w wr) (fun i _ => n - (intOf i).toNat)
  case atStart => exact ⟨0, Nat.zero_le _, rfl, Below.refl _ _⟩
  case round =>
    obtain ⟨j, hj, rfl, hb⟩ := hrel
    by_cases hlt : j < n
    · obtain ⟨g, a, b, rfl, hbl, hx, ca, cb⟩ := PReads.at_ (PReads.below h1 hb) hlt
      obtain ⟨g2, a2, b2, rfl, hbl2, hx2, ca2, cb2⟩ := PReads.at_ (PReads.below h2 hb) hlt
      rw [hx] at hx2
      cases hx2
      have Hb := Lib.hid hb
      clear hb h1 h2 hx
      go_wp2
      go_quiet (fail)
      go_wp2
      go_roundw
      case rel => exact ⟨j + 1, by omega, by go_num, below_drewN Hb.out _⟩
      case measure => simp [intOf]; omega
    · go_wp2
      go_ret
      exact ⟨rfl, hb⟩

set_option maxHeartbeats 400000 in
theorem ints_eq (xs : List Value) (A1 A2 : Option Addr) (n c1 c2 : Nat) (w : World) (h1 : Reads w w.heap.size 1 A1 n xs) (h2 : Reads w w.heap.size 1 A2 n xs) (hi : ∀ x ∈ xs, ∃ i, x = .int .i64 i) (hn : n ≤ 10000) :
    Calls Try.prog 23 #[.slice A1 n c1, .slice A2 n c2] w fun e w' => e = .returned (.bool true) ∧ Below w.heap.size w w' := by
  go_enter Try.func23, Try.ntmps23
  go_wp2
  go_loopw [5] (fun i wr => ∃ j : Nat, j ≤ n ∧ i = .int .i64 j ∧ Below w.heap.size w wr) (fun i _ => n - (intOf i).toNat)
  case atStart => exact ⟨0, Nat.zero_le _, rfl, Below.refl _ _⟩
  case round =>
    obtain ⟨j, hj, rfl, hb⟩ := hrel
    by_cases hlt : j < n
    · obtain ⟨ad, u, rfl, hbl, hx, ca⟩ := Reads.at_ (Reads.below h1 hb) hlt
      obtain ⟨ad2, u2, rfl, hbl2, hx2, ca2⟩ := Reads.at_ (Reads.below h2 hb) hlt
      rw [hx] at hx2
      cases hx2
      obtain ⟨z, rfl⟩ := hi u (List.mem_of_getElem? hx)
      have Hb := Lib.hid hb
      have Hi := Lib.hid hi
      clear hb h1 h2 hx hi
      go_wp2
      go_quiet (fail)
      go_wp2
      go_roundw
      case rel => exact ⟨j + 1, by omega, by go_num, below_drewN Hb.out _⟩
      case measure => simp [intOf]; omega
    · clear hi
      go_wp2
      go_ret
      exact ⟨rfl, hb⟩

set_option maxRecDepth 100000 in
set_option maxHeartbeats 800000 in
theorem rrun_any (a b m : Int) (w : World) (hm : -9223372036854775808 ≤ m ∧ m ≤ 9223372036854775807) :
    Calls Try.prog 19 #[.agg #[.int .i64 a, .int .i64 b], .int .i64 m] w fun e w' => ∃ v, e = .returned v ∧
      w'.ownsRow w.heap.size 23 2 v (runN a b m) (pcells (pts a b (runN a b m))) ∧ Below w.heap.size w w' := by
  obtain ⟨i0, hi0, hz0, hz1, hz2⟩ := info_place
  have hb0 := Lib.hid ((Below.refl _ w).alloc (Nat.le_refl _) (.cells #[.int .i64 a, .int .i64 b] 23))
  have hk0 := Lib.hid (Blk.new w 23 #[.int .i64 a, .int .i64 b])
  cases hin : inPlace a b
  · have e2 : Hid (runN a b m = 0) := Lib.hid (by simp [runN, hin])
    have Hin := Lib.hid hin
    clear hin
    go_enter Try.func19, Try.ntmps19
    go_wp2_with fail
    refine (rright_any a b _).mono ?_
    rintro e w1 ⟨rfl, hb⟩
    rw [Hin.out]
    have hbb := Lib.hid (below_boxed hb)
    clear hb
    go_wp2
    go_ret
    exact ⟨_, rfl, by rw [e2.out]; exact World.ownsRow_nil _ _ _ _, hbb.out⟩
  · obtain ⟨h1, h2, h3, h4⟩ := (inPlace_iff a b).1 hin
    obtain ⟨n0, hn0⟩ : ∃ n0, 8 * a + b = n0 := ⟨_, rfl⟩
    have e2 : Hid (runN a b m = min (8192 - n0).toNat m.toNat) := Lib.hid (by simp [runN, hin, hn0])
    have e3 : Hid (∀ k : Nat, runAt a b k = ((n0 + k) / 8, (n0 + k) % 8)) := Lib.hid (fun k => by simp [runAt, hn0])
    have g1 : 0 ≤ n0 := by omega
    have g2 : n0 < 8192 := by omega
    have Hin := Lib.hid hin
    have Hn0 := Lib.hid hn0
    have hN := Lib.hid (runN_le a b m)
    clear hin h1 h2 h3 h4 hn0
    go_enter Try.func19, Try.ntmps19
    go_wp2_with fail
    refine (rright_any a b _).mono ?_
    rintro e w1 ⟨rfl, hb⟩
    rw [Hin.out]
    have hk1 := hk0.out.below hb hk0.out.lt
    have hbb := below_boxed hb
    have ka := hk1.cell 0
    have kb := hk1.cell 1
    simp at ka kb
    clear hb
    go_wp2_with fail
    refine (raddress_any a b _ Hin.out).mono ?_
    rintro e w2 ⟨rfl, hb2⟩
    rw [Hn0.out]
    have hbb2 := hbb.trans (hb2.mono hbb.size)
    clear hbb hb2 hk1 ka kb
    go_wp2
    go_loopw [5, 6] (fun t i wr => ∃ k : Nat, k ≤ runN a b m ∧ i = .int .i64 (n0 + k) ∧ wr.ownsRow w.heap.size 23 2 t k (pcells (pts a b k)) ∧ Below w.heap.size w wr) (fun _ i _ => 8192 - (intOf i).toNat)
    case atStart => exact ⟨0, Nat.zero_le _, by simp, by simpa [pts, pcells] using World.ownsRow_nil _ _ _ _, hbb2⟩
    case round =>
      obtain ⟨k, hk, rfl, hown, hb⟩ := hrel
      obtain ⟨wo, rfl⟩ : ∃ wo : World, wo = wr := ⟨_, rfl⟩
      obtain ⟨A1, cp1, rfl⟩ := own_form hown
      have e2' := e2.out
      have x2 : IntKind.i64.wrap (n0 + k + 1) = n0 + k + 1 := by rw [IntKind.wrap_i64]; omega
      by_cases hlt : k < runN a b m
      · have y1 : n0 + k < 8192 := by omega
        have y2 : (k : Int) < m := by omega
        have hsucc := pts_succ a b k
        rw [e3.out k] at hsucc
        have y0 : 0 ≤ n0 + k := by omega
        have Hsucc := Lib.hid hsucc
        have hN' := hN.out
        clear e2' hsucc
        go_wp2_with fail
        refine (rat_any (n0 + k) _ y0 y1).mono ?_
        rintro e w3 ⟨rfl, hb3⟩
        have hown3 := own_below hown hb3
        have hbb3 := hb.trans (hb3.mono hb.size)
        clear hown hb hb3
        generalize (n0 + k) / 8 = x at *
        generalize (n0 + k) % 8 = y at *
        go_wp2_with (at_builtin; go_must (refine wpList_append_own _ rfl _ _ 39 rfl w.heap.size 23 i0 (.agg #[.int .i64 0, .int .i64 0]) 2 16 Try.underlying39 hi0 hz0 hz1 hz2 rfl (by decide) (.slice A1 k cp1) k (pcells (pts a b k)) rfl (hown3.alloc _) ⟨w3.heap.size, 0, none⟩ 1 1 [.int .i64 x, .int .i64 y] rfl rfl (by exact cell_two_new _ _ _ _) (by simp [Value.oneCell']) (by simp only [maxLen]; omega) (by omega) (by simp; have := hbb3.size; omega) ?_); intro v' w4 hown' hgrow _; obtain ⟨g', cap', rfl, hg1', hg2'⟩ := hown'.form (by omega))
        have hb4 : Below w.heap.size w w4 := (hbb3.alloc hbb3.size _).grown hgrow (by simp; have := hbb3.size; omega) (fun j h => (hown3.lt j h).1)
        exact ⟨⟨k + 1, by omega, by go_num, by rw [Hsucc.out, pcells_app]; exact hown', hb4⟩, by simp [intOf]; omega⟩
      · have hke : k = runN a b m := by omega
        have y : ¬ (n0 + k < 8192) ∨ ((n0 + k < 8192) ∧ ¬ (k : Int) < m) := by omega
        have Hke := Lib.hid hke
        clear hke e2' hlt
        rcases y with y | ⟨y1, y2⟩
        · go_wp2
          go_ret
          exact ⟨_, rfl, by rw [← Hke.out]; exact hown, hb⟩
        · go_wp2
          go_ret
          exact ⟨_, rfl, by rw [← Hke.out]; exact hown, hb⟩
end Go.Proofs.Ytfafpgboheaajaa
