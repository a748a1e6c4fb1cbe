/- The walks of node's small parts: pointers, small, places; and slices.ContainsFunc of numbers under them. Conditions: slices of numbers that read as lists, at most 100000. -/
import Derived.Test.YtdgnbmcckknfiaaGreatDraw
import Derived.Test.YtdgnbmcckknfiaaGreatFldA
namespace Go.Proofs.YtdgnbmcckknfiaaGreat
open Go.RowKit
set_option linter.unusedSimpArgs false
attribute [local go_sem] Oper.semAt_some wide_fn wide_depth

def cellsI (l : List Int) : List Value := l.map (Value.int .i64)
theorem cellsI_len (l : List Int) : (cellsI l).length = l.length := by simp [cellsI]
theorem i64_at (xs : List Int) {w : World} {B : Nat} {A : Option Addr} {n k : Nat} (h : Reads w B 1 A n (cellsI xs)) (hk : k < n) : ∃ ad x, A = some ad ∧ ad.block < B ∧ xs[k]? = some x ∧ w.cell? (ad.add k) = some (.int .i64 x) := by
  obtain ⟨ad, u, e, hb, hx, hc⟩ := Reads.at_ h hk
  unfold cellsI at hx
  rw [List.getElem?_map] at hx
  cases h' : xs[k]? with
  | none => rw [h'] at hx; cases hx
  | some x =>
    rw [h'] at hx
    simp at hx
    exact ⟨ad, x, e, hb, rfl, by rw [hc, ← hx]⟩
theorem any_take (p : Int → Bool) (xs : List Int) (j : Nat) (x : Int) (h : xs[j]? = some x) (h0 : (xs.take j).any p = false) (h1 : p x = false) : (xs.take (j + 1)).any p = false := by
  rw [List.take_add_one, h, List.any_append, h0]
  simp [h1]
theorem any_at (p : Int → Bool) (xs : List Int) (j : Nat) (x : Int) (h : xs[j]? = some x) (h1 : p x = true) : xs.any p = true := List.any_eq_true.2 ⟨x, List.mem_of_getElem? h, h1⟩

/-- Is a number no pointer from one on? -/
def badP (least n : Int) : Bool := decide (n < least) || decide (1024 ≤ n)
/-- Is a number not 0? -/
def nzI (n : Int) : Bool := n != 0
/-- Are all pointers? -/
def ptrs (least : Int) (xs : List Int) : Bool := !xs.any (badP least)

set_option maxHeartbeats 400000 in
theorem ptr1_any (least n : Int) (b : Nat) (w : World) (h : w.cell? ⟨b, 0, none⟩ = some (.int .i64 least)) :
    Calls Tryz.prog 84 #[.int .i64 n, .pointer (some ⟨b, 0, none⟩)] w fun e w' => e = .returned (.bool (badP least n)) ∧ w = w' := by
  by_cases h1 : n < least
  · have h2 : Hid (badP least n = true) := Lib.hid (by simp [badP, h1])
    go_enter Tryz.func84, Tryz.ntmps84
    go_wp2
    go_ret
    exact ⟨by rw [h2.out]; rfl, rfl⟩
  · by_cases h3 : 1024 ≤ n
    · have h2 : Hid (badP least n = true) := Lib.hid (by simp [badP, h3])
      go_enter Tryz.func84, Tryz.ntmps84
      go_wp2
      go_ret
      exact ⟨by rw [h2.out]; rfl, rfl⟩
    · have h2 : Hid (badP least n = false) := Lib.hid (by simp only [badP, decide_eq_false h1, decide_eq_false h3, Bool.or_self])
      go_enter Tryz.func84, Tryz.ntmps84
      go_wp2
      go_ret
      exact ⟨by rw [h2.out]; rfl, rfl⟩

set_option maxHeartbeats 400000 in
theorem nz1_any (n : Int) (w : World) :
    Calls Tryz.prog 62 #[.int .i64 n] w fun e w' => e = .returned (.bool (nzI n)) ∧ w = w' := by
  go_enter Tryz.func62, Tryz.ntmps62
  go_wp2
  go_ret
  exact ⟨rfl, rfl⟩

set_option maxHeartbeats 400000 in
theorem iindexP_any (least : Int) (b : Nat) (xs : List Int) (A : Option Addr) (n c : Nat) (w : World) (hr : Reads w w.heap.size 1 A n (cellsI xs)) (hb : w.cell? ⟨b, 0, none⟩ = some (.int .i64 least)) (hn : n ≤ 100000) :
    Calls Tryz.prog 88 #[.slice A n c, .func (.func 84) #[] #[.pointer (some ⟨b, 0, none⟩)]] w fun e w' => ∃ k : Int, e = .returned (.int .i64 k) ∧ decide (0 ≤ k) = xs.any (badP least) ∧ w = w' := by
  have hl : xs.length = n := by have := hr.1; rw [cellsI_len] at this; omega
  have Hl := Lib.hid hl
  clear hl
  go_enter Tryz.func88, Tryz.ntmps88
  go_wp2
  go_loop [8] (fun i => ∃ j : Nat, j ≤ n ∧ i = .int .i64 j ∧ (xs.take j).any (badP least) = false) (fun i => n - (intOf i).toNat)
  case atStart => exact ⟨0, Nat.zero_le _, rfl, rfl⟩
  case round =>
    obtain ⟨j, hj, rfl, hany⟩ := hrel
    by_cases hlt : j < n
    · obtain ⟨ad, x, rfl, hbl, hx, hc1⟩ := i64_at xs hr hlt
      have hin : Hid (∀ k : Int, (badP least) x = true → 0 ≤ k → decide (0 ≤ k) = xs.any (badP least)) := by
        intro k hab hk
        rw [decide_eq_true hk, any_at (badP least) xs j x hx hab]
      have hnx : Hid ((badP least) x = false → (xs.take (j + 1)).any (badP least) = false) := fun hab => any_take (badP least) xs j x hx hany hab
      clear hany hx
      go_wp2_with fail
      refine (ptr1_any least x b _ hb).mono ?_
      rintro e w1 ⟨rfl, rfl⟩
      cases hab : (badP least) x
      · have hh := Lib.hid (hnx.out hab)
        clear hab
        go_wp2
        go_round
        case rel => exact ⟨j + 1, by omega, by simp, hh.out⟩
        case measure => simp [intOf]; omega
      · have hh := Lib.hid (hin.out j hab (by omega))
        clear hab
        go_wp2
        go_ret
        exact ⟨(j : Int), rfl, hh.out, rfl⟩
    · have hjn : j = n := by omega
      have hh : Hid (decide ((0 : Int) ≤ -1) = xs.any (badP least)) := Lib.hid (by rw [show xs = xs.take j from (List.take_of_length_le (by have := Hl.out; omega)).symm, hany]; rfl)
      clear hany
      go_wp2
      go_ret
      exact ⟨-1, rfl, hh.out, rfl⟩

set_option maxHeartbeats 400000 in
theorem icontainsP_any (least : Int) (b : Nat) (xs : List Int) (A : Option Addr) (n c : Nat) (w : World) (hr : Reads w w.heap.size 1 A n (cellsI xs)) (hb : w.cell? ⟨b, 0, none⟩ = some (.int .i64 least)) (hn : n ≤ 100000) :
    Calls Tryz.prog 61 #[.slice A n c, .func (.func 84) #[] #[.pointer (some ⟨b, 0, none⟩)]] w fun e w' => e = .returned (.bool (xs.any (badP least))) ∧ w = w' := by
  go_enter Tryz.func61, Tryz.ntmps61
  go_wp2_with fail
  refine (iindexP_any least b xs A n c _ hr hb hn).mono ?_
  rintro e w1 ⟨k, rfl, hk, rfl⟩
  have Hk := Lib.hid hk
  clear hk
  go_wp2
  go_ret
  exact ⟨by rw [← Hk.out]; rfl, rfl⟩

set_option maxHeartbeats 400000 in
theorem iindexN_any (xs : List Int) (A : Option Addr) (n c : Nat) (w : World) (hr : Reads w w.heap.size 1 A n (cellsI xs)) (hn : n ≤ 100000) :
    Calls Tryz.prog 88 #[.slice A n c, .func (.func 62) #[] #[]] w fun e w' => ∃ k : Int, e = .returned (.int .i64 k) ∧ decide (0 ≤ k) = xs.any nzI ∧ w = w' := by
  have hl : xs.length = n := by have := hr.1; rw [cellsI_len] at this; omega
  have Hl := Lib.hid hl
  clear hl
  go_enter Tryz.func88, Tryz.ntmps88
  go_wp2
  go_loop [8] (fun i => ∃ j : Nat, j ≤ n ∧ i = .int .i64 j ∧ (xs.take j).any nzI = false) (fun i => n - (intOf i).toNat)
  case atStart => exact ⟨0, Nat.zero_le _, rfl, rfl⟩
  case round =>
    obtain ⟨j, hj, rfl, hany⟩ := hrel
    by_cases hlt : j < n
    · obtain ⟨ad, x, rfl, hbl, hx, hc1⟩ := i64_at xs hr hlt
      have hin : Hid (∀ k : Int, nzI x = true → 0 ≤ k → decide (0 ≤ k) = xs.any nzI) := by
        intro k hab hk
        rw [decide_eq_true hk, any_at nzI xs j x hx hab]
      have hnx : Hid (nzI x = false → (xs.take (j + 1)).any nzI = false) := fun hab => any_take nzI xs j x hx hany hab
      clear hany hx
      go_wp2_with fail
      refine (nz1_any x _).mono ?_
      rintro e w1 ⟨rfl, rfl⟩
      cases hab : nzI x
      · have hh := Lib.hid (hnx.out hab)
        clear hab
        go_wp2
        go_round
        case rel => exact ⟨j + 1, by omega, by simp, hh.out⟩
        case measure => simp [intOf]; omega
      · have hh := Lib.hid (hin.out j hab (by omega))
        clear hab
        go_wp2
        go_ret
        exact ⟨(j : Int), rfl, hh.out, rfl⟩
    · have hjn : j = n := by omega
      have hh : Hid (decide ((0 : Int) ≤ -1) = xs.any nzI) := Lib.hid (by rw [show xs = xs.take j from (List.take_of_length_le (by have := Hl.out; omega)).symm, hany]; rfl)
      clear hany
      go_wp2
      go_ret
      exact ⟨-1, rfl, hh.out, rfl⟩

set_option maxHeartbeats 400000 in
theorem icontainsN_any (xs : List Int) (A : Option Addr) (n c : Nat) (w : World) (hr : Reads w w.heap.size 1 A n (cellsI xs)) (hn : n ≤ 100000) :
    Calls Tryz.prog 61 #[.slice A n c, .func (.func 62) #[] #[]] w fun e w' => e = .returned (.bool (xs.any nzI)) ∧ w = w' := by
  go_enter Tryz.func61, Tryz.ntmps61
  go_wp2_with fail
  refine (iindexN_any xs A n c _ hr hn).mono ?_
  rintro e w1 ⟨k, rfl, hk, rfl⟩
  have Hk := Lib.hid hk
  clear hk
  go_wp2
  go_ret
  exact ⟨by rw [← Hk.out]; rfl, rfl⟩

set_option maxHeartbeats 400000 in
theorem pointers_any (least : Int) (xs : List Int) (A : Option Addr) (n c : Nat) (w : World) (hr : Reads w w.heap.size 1 A n (cellsI xs)) (hn : n ≤ 100000) :
    Calls Tryz.prog 51 #[.int .i64 least, .slice A n c] w fun e w' => e = .returned (.bool (ptrs least xs)) ∧ Below w.heap.size w w' := by
  have hr2 : Reads (w.alloc (.cells #[.int .i64 least] 3)) (w.alloc (.cells #[.int .i64 least] 3)).heap.size 1 A n (cellsI xs) := (hr.alloc (Nat.le_refl _) _).more (by simp)
  go_enter Tryz.func51, Tryz.ntmps51
  go_wp2_with fail
  refine (icontainsP_any least w.heap.size xs A n c _ hr2 (by simp) hn).mono ?_
  rintro e w1 ⟨rfl, rfl⟩
  go_wp2
  go_ret
  exact ⟨rfl, (Below.refl _ w).alloc (Nat.le_refl _) _⟩

/-- A word as a number below 2^20; -1: it is greater. -/
def smallI (x : Nat) : Int := if x < 1048576 then x else -1

set_option maxHeartbeats 400000 in
theorem small_any (x : Nat) (w : World) (hx : x < 18446744073709551616) :
    Calls Tryz.prog 47 #[.int .u64 x] w fun e w' => e = .returned (.int .i64 (smallI x)) ∧ Below w.heap.size w w' := by
  obtain ⟨v, hv⟩ : ∃ v, getV x 0 20 = v := ⟨_, rfl⟩
  have hv2 : v = x % 1048576 := by rw [← hv]; simp [getV, fldOk, getN]
  have Hg := Lib.hid (fun W => get_any x 0 20 W hx)
  simp only [hv] at Hg
  clear hv
  by_cases h : x < 1048576
  · have e : Hid (smallI x = (v : Int)) := Lib.hid (by rw [smallI, if_pos h, hv2]; omega)
    have h2 : v = x := by omega
    subst h2
    have hb : ((v : Int) != v) = false := by simp
    clear hv2
    go_enter Tryz.func47, Tryz.ntmps47
    go_wp2_with fail
    refine (Hg.out _).mono ?_
    rintro e w1 ⟨rfl, hb⟩
    go_wp2
    go_ret
    exact ⟨by rw [e.out]; rfl, hb⟩
  · have e : Hid (smallI x = -1) := Lib.hid (by rw [smallI, if_neg h])
    have h2 : ((v : Int) != x) = true := by simp; omega
    clear h hv2
    go_enter Tryz.func47, Tryz.ntmps47
    go_wp2_with fail
    refine (Hg.out _).mono ?_
    rintro e w1 ⟨rfl, hb⟩
    go_wp2
    go_ret
    exact ⟨by rw [e.out]; rfl, hb⟩

set_option maxHeartbeats 400000 in
theorem places_any (m : Int) (w : World) :
    Calls Tryz.prog 64 #[.int .i64 m] w fun e w' => e = .returned (.func (.func 89) #[] #[.pointer (some ⟨w.heap.size, 0, none⟩)]) ∧ w.alloc (.cells #[.int .i64 m] 3) = w' := by
  go_enter Tryz.func64, Tryz.ntmps64
  go_wp2
  go_ret
  exact ⟨rfl, rfl⟩

set_option maxRecDepth 100000 in
set_option maxHeartbeats 1000000 in
theorem places_iter (b m : Nat) (hm : m ≤ 1000) :
    IterC false Tryz.prog 89 #[.pointer (some ⟨b, 0, none⟩)] m (fun k => #[.int .i64 (k : Int)]) (fun W => W.cell? ⟨b, 0, none⟩ = some (.int .i64 m)) := by
  intro n l W J Jx hJ hJx hR hR2 hY h0
  refine callsIn_of_wp Tryz.func89 rfl trivial ?_ rfl
  simp only [Tryz.ntmps89, List.size_toArray, List.length_cons, List.length_nil, Nat.reduceAdd, Nat.reduceSub, Array.replicate_succ, Array.replicate_zero, List.push_toArray, List.append_toArray, List.nil_append, List.cons_append]
  obtain ⟨cx, hle0⟩ := hR 0 W h0
  gi_wp2
  gi_loopw [5] (fun t wr => ∃ k : Nat, t = .int .i64 k ∧ k ≤ m ∧ J k wr) (fun t _ => m - (intOf t).toNat)
  case atStart => exact ⟨0, rfl, Nat.zero_le _, h0⟩
  case round =>
    obtain ⟨k, rfl, hk, hj⟩ := hrel
    by_cases hlt : k < m
    · obtain ⟨fn, tmps, assign, body, hy, hRd⟩ := hY k wr hlt hj
      have HY := Lib.hid hY
      have HJ := Lib.hid hJ
      have HR := Lib.hid hR
      clear hY hJ hR hJx hR2 cx hj
      gi_wp2_with fail
      refine hRd.mono ?_
      rintro e W3 ⟨_, (⟨rfl, hJ3⟩ | ⟨rfl, hJx3⟩)⟩
      · clear hy
        gi_wp2
        go_roundw
        case rel => exact ⟨k + 1, by simp, by omega, hJ3⟩
        case measure => simp [intOf]; omega
      · clear hy
        gi_wp2
        refine bodyPost_ret (results_none rfl _ _ _) rfl ?_
        exact ⟨⟨_, rfl⟩, .inr ⟨k + 1, by omega, by omega, hJx3⟩⟩
    · have hke : k = m := by omega
      subst hke
      clear hY hJ hJx hR hR2 cx
      gi_wp2
      go_end0
      exact ⟨⟨_, rfl⟩, .inl hj⟩
end Go.Proofs.YtdgnbmcckknfiaaGreat
