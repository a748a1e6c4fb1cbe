/- The iterator of place.Run. No conditions but that its boxes hold a place and a number of 64 bits. -/
import Derived.Test.YtfafpgboheaajaaDraw
import Derived.Test.YtfafpgboheaajaaPlaceC
namespace Go.Proofs.Ytfafpgboheaajaa
open Go.RowKit
attribute [local go_sem] Oper.semAt_some wide_fn wide_depth

/-- How many places a run has. -/
def runN (a b m : Int) : Nat := if inPlace a b then min (8192 - (8 * a + b)).toNat m.toNat else 0
/-- The k-th place of a run. -/
def runAt (a b : Int) (k : Nat) : Int × Int := ((8 * a + b + k) / 8, (8 * a + b + k) % 8)
/-- The places of a run. -/
def runL (a b m : Int) : List (Int × Int) := (List.range (runN a b m)).map (runAt a b)

set_option maxHeartbeats 400000 in
theorem mkrun_any (a b m : Int) (w : World) :
    Calls Try.prog 28 #[.agg #[.int .i64 a, .int .i64 b], .int .i64 m] w fun e w' => e = .returned (.func (.func 32) #[] #[.pointer (some ⟨w.heap.size, 0, none⟩), .pointer (some ⟨w.heap.size + 1, 0, none⟩)]) ∧ (w.alloc (.cells #[.int .i64 a, .int .i64 b] 23)).alloc (.cells #[.int .i64 m] 3) = w' := by
  go_enter Try.func28, Try.ntmps28
  go_wp2
  go_ret
  exact ⟨rfl, rfl⟩

set_option maxRecDepth 100000 in
set_option maxHeartbeats 1000000 in
theorem run_iter (b1 b2 : Nat) (a b m : Int) (hm : -9223372036854775808 ≤ m ∧ m ≤ 9223372036854775807) :
    IterC false Try.prog 32 #[.pointer (some ⟨b1, 0, none⟩), .pointer (some ⟨b2, 0, none⟩)] (runN a b m) (fun k => #[.agg #[.int .i64 (runAt a b k).1, .int .i64 (runAt a b k).2]])
      (fun W => (W.cell? ⟨b1, 0, none⟩ = some (.int .i64 a) ∧ W.cell? ⟨b1, 1, none⟩ = some (.int .i64 b)) ∧ W.cell? ⟨b2, 0, none⟩ = some (.int .i64 m)) := by
  intro n l W J Jx hJ hJx hR hR2 hY h0
  refine callsIn_of_wp Try.func32 rfl trivial ?_ rfl
  simp only [Try.ntmps32, List.size_toArray, List.length_cons, List.length_nil, Nat.reduceAdd, Nat.reduceSub, Array.replicate_succ, Array.replicate_zero, List.push_toArray, List.append_toArray, List.nil_append, List.cons_append]
  obtain ⟨⟨⟨ca, cb⟩, cm⟩, hle0⟩ := hR 0 W h0
  cases hin : inPlace a b
  · have e1 : Hid (addrOf a b = 0 ∧ addrErr a b = 2) := Lib.hid (by simp [addrOf, addrErr, hin])
    have e2 : Hid (runN a b m = 0) := Lib.hid (by simp [runN, hin])
    clear hin
    gi_wp2_with fail
    refine (callsIn_wide.2 (address_any a b _)).mono ?_
    rintro e w1 ⟨rfl, hb⟩
    rw [e1.out.1, e1.out.2]
    have hj := Lib.hid (hJ 0 W w1 h0 hle0 (St.new hb hle0))
    clear hJ hJx hR hR2 hY h0 ca cb cm
    gi_wp2
    refine bodyPost_ret (results_none rfl _ _ _) rfl ?_
    exact ⟨⟨_, rfl⟩, .inl (by rw [e2.out]; exact hj.out)⟩
  · obtain ⟨h1, h2, h3, h4⟩ := (inPlace_iff a b).1 hin
    have e1 : Hid (addrOf a b = 8 * a + b ∧ addrErr a b = 0) := Lib.hid (by simp [addrOf, addrErr, hin])
    obtain ⟨n0, hn0⟩ : ∃ n0, 8 * a + b = n0 := ⟨_, rfl⟩
    rw [hn0] at e1
    have e2 : Hid (runN a b m = min (8192 - n0).toNat m.toNat) := Lib.hid (by simp [runN, hin, hn0])
    have e3 : Hid (∀ k : Nat, runAt a b k = ((n0 + k) / 8, (n0 + k) % 8)) := Lib.hid (fun k => by simp [runAt, hn0])
    have g1 : 0 ≤ n0 := by omega
    have g2 : n0 < 8192 := by omega
    clear hin h1 h2 h3 h4 hn0
    gi_wp2_with fail
    refine (callsIn_wide.2 (address_any a b _)).mono ?_
    rintro e w1 ⟨rfl, hb⟩
    rw [e1.out.1, e1.out.2]
    replace h0 := hJ 0 W w1 h0 hle0 (St.new hb hle0)
    clear ca cb cm hb
    gi_wp2
    gi_loopw [6] (fun i wr => ∃ k : Nat, k ≤ runN a b m ∧ i = .int .i64 (n0 + k) ∧ J k wr) (fun i _ => 8192 - (intOf i).toNat)
    case atStart => exact ⟨0, Nat.zero_le _, by simp, h0⟩
    case round =>
      obtain ⟨k, hk, rfl, hj⟩ := hrel
      obtain ⟨⟨⟨ca, cb⟩, cm⟩, hle⟩ := hR k wr hj
      have e2' := e2.out
      have x1 : IntKind.i64.wrap (n0 + k - n0) = (k : Int) := by rw [IntKind.wrap_i64]; omega
      have x2 : IntKind.i64.wrap (n0 + k + 1) = n0 + k + 1 := by rw [IntKind.wrap_i64]; omega
      have x3 : n0 + k - n0 = (k : Int) := by omega
      by_cases hlt : k < runN a b m
      · have y1 : n0 + k < 8192 := by omega
        have y2 : (k : Int) < m := by omega
        have hat : Hid (atPlace (n0 + k) = runAt a b k ∧ atErr (n0 + k) = 0) := Lib.hid (by rw [e3.out k]; unfold atPlace atErr; rw [if_pos (by omega), if_pos (by omega)]; exact ⟨rfl, rfl⟩)
        clear e2'
        gi_wp2_with fail
        refine (callsIn_wide.2 (at_any _ _)).mono ?_
        rintro e w2 ⟨rfl, hb2⟩
        rw [hat.out.1, hat.out.2]
        have hb3 := hb2.alloc hb2.size (.cells #[.int .i64 (runAt a b k).1, .int .i64 (runAt a b k).2] 23)
        obtain ⟨fn, tmps, assign, body, hy, hRd⟩ := hY k _ hlt (hJ k wr _ hj hle (St.new hb3 hle))
        have HY := Lib.hid hY
        have HJ := Lib.hid hJ
        have HR := Lib.hid hR
        clear hY hJ hR hJx hR2 hb2 hb3
        clear ca cb
        gi_wp2
        refine hRd.mono ?_
        rintro e W3 ⟨_, (⟨rfl, hJ3⟩ | ⟨rfl, hJx3⟩)⟩
        · have c3 := ((HR.out _ W3 hJ3).1).2
          clear hy
          gi_wp2
          go_roundw
          case rel => exact ⟨k + 1, by omega, by go_num, hJ3⟩
          case measure => simp [intOf]; omega
        · clear hy
          gi_wp2
          refine bodyPost_ret (results_none rfl _ _ _) rfl ?_
          exact ⟨⟨_, rfl⟩, .inr ⟨k + 1, by omega, by omega, hJx3⟩⟩
      · have hke : k = runN a b m := by omega
        have y : ¬ (n0 + k < 8192) ∨ ((n0 + k < 8192) ∧ ¬ (k : Int) < m) := by omega
        rw [hke] at hj
        have Hke := Lib.hid hke
        clear hke e2' hY hJ hJx hR hR2 hlt
        rcases y with y | ⟨y1, y2⟩
        · gi_wp2
          go_end0
          exact ⟨⟨_, rfl⟩, .inl hj⟩
        · gi_wp2
          go_end0
          exact ⟨⟨_, rfl⟩, .inl hj⟩
end Go.Proofs.Ytfafpgboheaajaa
