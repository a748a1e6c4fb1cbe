/- The walks under word.Words, second part: Clone, Reverse, Chunk. Conditions: slices of bytes that read as lists. -/
import Derived.Test.YtdgnbmcckknfiaaGreatWordA
namespace Go.Proofs.YtdgnbmcckknfiaaGreat
open Go.RowKit
attribute [local go_sem] Oper.semAt_some wide_fn wide_depth

theorem info8 : (Tryz.prog.info? 5).map (fun i => (i.zero, i.size, i.bytes)) = some (some (.int .u8 0), 1, 1) := by kernel_rfl

set_option maxHeartbeats 400000 in
/-- Clone of bytes that are there: a row of its own. -/
theorem clone_any (xs : List Int) (ad : Addr) (n c : Nat) (w : World) (hr : U8s w w.heap.size (some ad) n xs) (hn : 0 < n) (hm : n ≤ 65536) :
    Calls Tryz.prog 97 #[.slice (some ad) n c] w fun e w' => ∃ g cap, e = .returned (.slice (some ⟨g, 0, none⟩) n cap) ∧
      w'.ownsRow w.heap.size 5 1 (.slice (some ⟨g, 0, none⟩) n cap) n (xs.map (Value.int .u8)) ∧ Below w.heap.size w w' := by
  obtain ⟨i0, hi0, hz0, hz1, hz2⟩ := info_parts info8
  have hnil : ∀ W : World, (binOp .eql 140 (.slice (some ad) n c) (.slice none 0 0)).run Tryz.prog W = .ok (.bool false) W := fun W => by
    have := Lib.run_eql_slice_nil W 140 5 (some ad) n c 0 0 Tryz.underlying140
    simpa using this
  go_enter Tryz.func97, Tryz.ntmps97
  go_wp2_with (at_builtin; refine wpList_append_any _ rfl (.tmp 5) (.tmp 6) _ rfl w.heap.size 5 i0 _ 1 1 Tryz.underlying140 hi0 hz0 hz1 hz2 rfl (by omega) (.slice (some ⟨w.heap.size, 0, none⟩) 0 0) 0 [] rfl (World.ownsRow_lit w #[] 0 (Nat.le_refl _) (by decide) rfl) w.heap.size (some ad) n c (xs.map (Value.int .u8)) rfl (Reads.alloc hr (Nat.le_refl _) _) (ints_oneCell _ _) (by simp only [maxLen]; omega) (by omega) (by simp) ?_; intro v1 w1 hown1 hg1 hat1; obtain ⟨g, cap, rfl, hgb, hglt⟩ := hown1.form (by omega); simp only [Nat.zero_add, List.nil_append] at hown1; rw [Nat.zero_add])
  go_ret
  exact ⟨g, cap, rfl, hown1, ((Below.refl _ w).alloc (Nat.le_refl _) _).grown hg1 (by simp) (by simp [Value.ownBlock])⟩

/-- What lies in the row when k exchanges are done. -/
def RevTo (xs ys : List Int) (k : Nat) : Prop := ys.length = xs.length ∧ ∀ i (h : i < xs.length) (h' : i < ys.length), ys[i] = if i < k ∨ xs.length - k ≤ i then xs[xs.length - 1 - i]'(by omega) else xs[i]
theorem RevTo.zero (xs : List Int) : RevTo xs xs 0 := ⟨rfl, fun i h h' => by rw [if_neg (by omega)]⟩
theorem RevTo.done {xs ys : List Int} {k : Nat} (h : RevTo xs ys k) (hk : xs.length ≤ 2 * k + 1) : ys = xs.reverse := by
  refine List.ext_getElem (by simp [h.1]) fun i h1 h2 => ?_
  have h3 : i < xs.length := by simpa using h2
  rw [h.2 i h3 h1, List.getElem_reverse]
  split
  · rfl
  · have : xs.length - 1 - i = i := by omega
    simp only [this]
theorem RevTo.next {xs ys : List Int} {k j : Nat} (h : RevTo xs ys k) (hj : k + j + 1 = xs.length) (hlt : k < j) :
    RevTo xs ((ys.set k (ys[j]'(by rw [h.1]; omega))).set j (ys[k]'(by rw [h.1]; omega))) (k + 1) := by
  refine ⟨by simp [h.1], fun i h1 h2 => ?_⟩
  have hy := h.1
  have ek := h.2 k (by omega) (by omega)
  have ej := h.2 j (by omega) (by omega)
  rw [if_neg (by omega)] at ek ej
  rw [List.getElem_set, List.getElem_set]
  by_cases e1 : j = i
  · subst e1
    rw [if_pos rfl, if_pos (by omega), ek]
    have : xs.length - 1 - j = k := by omega
    simp only [this]
  · rw [if_neg e1]
    by_cases e2 : k = i
    · subst e2
      rw [if_pos rfl, if_pos (by omega), ej]
      have : xs.length - 1 - k = j := by omega
      simp only [this]
    · rw [if_neg e2, h.2 i h1 (by simpa using h2)]
      by_cases e3 : i < k ∨ xs.length - k ≤ i
      · rw [if_pos e3, if_pos (by omega)]
      · rw [if_neg e3, if_neg (by omega)]

set_option maxHeartbeats 1000000 in
theorem reverse_any (xs : List Int) (g n cap B : Nat) (w : World) (ho : w.ownsRow B 5 1 (.slice (some ⟨g, 0, none⟩) n cap) n (xs.map (Value.int .u8))) (hm : n ≤ 65536) :
    Calls Tryz.prog 98 #[.slice (some ⟨g, 0, none⟩) n cap] w fun e w' => e = .returned (.tuple #[]) ∧
      w'.ownsRow B 5 1 (.slice (some ⟨g, 0, none⟩) n cap) n (xs.reverse.map (Value.int .u8)) ∧ w.grownBy w' (some g) := by
  have hlen : xs.length = n := by have := ho.1; simpa using this
  go_enter Tryz.func98, Tryz.ntmps98
  have Hlen := Lib.hid hlen
  clear hlen
  go_wp2
  go_loopw [2, 3] (fun i j wr => ∃ (k : Nat) (ys : List Int), k ≤ n ∧ i = .int .i64 k ∧ j = .int .i64 ((n : Int) - 1 - k) ∧ RevTo xs ys k ∧ wr.ownsRow B 5 1 (.slice (some ⟨g, 0, none⟩) n cap) n (ys.map (Value.int .u8)) ∧ w.grownBy wr (some g)) (fun i _ _ => n - (intOf i).toNat)
  case atStart => exact ⟨0, xs, Nat.zero_le _, rfl, by simp, RevTo.zero xs, ho, World.grownBy.refl _ _⟩
  case round =>
    obtain ⟨k, ys, hk, rfl, rfl, hrev, hown, hgr⟩ := hrel
    by_cases hlt : (k : Int) < (n : Int) - 1 - k
    · obtain ⟨j, hj⟩ : ∃ j : Nat, k + j + 1 = n := ⟨n - 1 - k, by omega⟩
      rw [show (n : Int) - 1 - k = (j : Int) from by omega] at hlt ⊢
      have hkn : k < n := by omega
      have hjn : j < n := by omega
      have hkj : k < j := by omega
      have Hj := Lib.hid hj
      clear hj
      have hyl1 : n ≤ ys.length := Nat.le_of_eq (hrev.1.trans Hlen.out).symm
      have ck := hown.cellAt k (by omega)
      have cj := hown.cellAt j (by omega)
      rw [List.getElem?_map, List.getElem?_eq_getElem (Nat.lt_of_lt_of_le hkn hyl1), Option.map_some] at ck
      rw [List.getElem?_map, List.getElem?_eq_getElem (Nat.lt_of_lt_of_le hjn hyl1), Option.map_some] at cj
      have fk := hown.frozenAt k
      have fj := hown.frozenAt j
      go_wp2
      go_region
      have h1 := (hown.stored k (.int .u8 (ys[j]'(Nat.lt_of_lt_of_le hjn hyl1))))
      have h2 := (h1.1.stored j (.int .u8 (ys[k]'(Nat.lt_of_lt_of_le hkn hyl1))))
      rw [← List.map_set, ← List.map_set] at h2
      have hnx := hrev.next (j := j) (by rw [Hlen.out]; exact Hj.out) hkj
      have hg2 : w.grownBy ((wr.setCell ⟨g, k, none⟩ (.int .u8 (ys[j]'(Nat.lt_of_lt_of_le hjn hyl1)))).setCell ⟨g, j, none⟩ (.int .u8 (ys[k]'(Nat.lt_of_lt_of_le hkn hyl1)))) (some g) :=
        only_setCell (only_setCell hgr (.inl rfl) _) (.inl rfl) _
      have hjj := Hj.out
      have H1 := Lib.hid h1
      have H2 := Lib.hid h2
      have H3 := Lib.hid hnx
      have Hjj := Lib.hid hjj
      clear h1 h2 hnx hjj ck cj fk fj
      go_wp2
      go_roundw
      case rel => exact ⟨k + 1, _, by omega, by go_num, by have := Hjj.out; rw [show (n : Int) - 1 - ((k + 1 : Nat) : Int) = (j : Int) - 1 from by omega], H3.out, H2.out.1.drew, ⟨hg2.os, hg2.tape, hg2.output, hg2.size, hg2.block⟩⟩
      case measure => have := Hjj.out; simp [intOf]; omega
    · have he := hrev.done (by rw [Hlen.out]; omega)
      subst he
      go_wp2
      go_end0
      exact ⟨rfl, by simpa using hown, hgr⟩
set_option maxHeartbeats 400000 in
/-- Chunk makes two boxes and the iterator over them. -/
theorem chunk_any (A : Option Addr) (n c : Nat) (w : World) :
    Calls Tryz.prog 96 #[.slice A n c, .int .i64 8] w fun e w' => e = .returned (.func (.func 106) #[] #[.pointer (some ⟨w.heap.size, 0, none⟩), .pointer (some ⟨w.heap.size + 1, 0, none⟩)]) ∧
      (w.alloc (.cells #[.slice A n c] 140)).alloc (.cells #[.int .i64 8] 3) = w' := by
  go_enter Tryz.func96, Tryz.ntmps96
  go_wp2
  go_ret
  exact ⟨rfl, rfl⟩

/-- The k-th chunk of eight bytes, as a slice. -/
def chunkAt (A : Option Addr) (n k : Nat) : Value := .slice (A.map (·.add (8 * k))) (min 8 (n - 8 * k)) (min 8 (n - 8 * k))
theorem chunkAt_eq (ad : Addr) (n k m : Nat) (h : min 8 (n - 8 * k) = m) : chunkAt (some ad) n k = .slice (some (ad.add (8 * k))) m m := by unfold chunkAt; rw [h]; rfl

set_option maxRecDepth 100000 in
set_option maxHeartbeats 1000000 in
theorem chunk_iter (b b2 : Nat) (A : Option Addr) (n c : Nat) (hn : n ≤ 65536) (hc : n ≤ c) (hA : 0 < n → ∃ ad, A = some ad) :
    IterC false Tryz.prog 106 #[.pointer (some ⟨b, 0, none⟩), .pointer (some ⟨b2, 0, none⟩)] ((n + 7) / 8) (fun k => #[chunkAt A n k])
      (fun W => W.cell? ⟨b, 0, none⟩ = some (.slice A n c) ∧ W.cell? ⟨b2, 0, none⟩ = some (.int .i64 8)) := by
  intro m l W J Jx hJ hJx hR hR2 hY h0
  refine callsIn_of_wp Tryz.func106 rfl trivial ?_ rfl
  simp only [Tryz.ntmps106, List.size_toArray, List.length_cons, List.length_nil, Nat.reduceAdd, Nat.reduceSub, Array.replicate_succ, Array.replicate_zero, List.push_toArray, List.append_toArray, List.nil_append, List.cons_append]
  have hord : Tryz.prog.follows .mixedOrders = true := by kernel_rfl
  gi_wp2
  gi_loopw [4] (fun i wr => ∃ k : Nat, k ≤ (n + 7) / 8 ∧ i = .int .i64 ((8 * k : Nat) : Int) ∧ J k wr) (fun i _ => n + 8 - (intOf i).toNat)
  case atStart => exact ⟨0, Nat.zero_le _, rfl, h0⟩
  case round =>
    obtain ⟨k, hk, rfl, hj⟩ := hrel
    obtain ⟨⟨c1, c2⟩, hle⟩ := hR k wr hj
    by_cases hlt : 8 * k < n
    · obtain ⟨ad, rfl⟩ := hA (by omega)
      clear hA
      obtain ⟨i, hi⟩ : ∃ i, 8 * k = i := ⟨_, rfl⟩
      obtain ⟨fn, tmps, assign, body, hy, hRd⟩ := hY k wr.drew (by omega) (hJ k wr _ hj hle (St.new ((Below.refl _ wr).drew) hle))
      have hch := chunkAt_eq ad n k _ rfl
      rw [hch] at hy
      rw [hi] at hlt hy ⊢
      obtain ⟨mm, hmm⟩ : ∃ mm, min 8 (n - i) = mm := ⟨_, rfl⟩
      rw [hmm] at hy
      have hm1 : 1 ≤ mm := by omega
      have hm2 : i + mm ≤ n := by omega
      obtain ⟨A', hsl, _⟩ := slice_from (P := Tryz.prog) (t := 140) (by kernel_rfl) (fun w => by kernel_rfl) (some ad) n c i (by omega) hc
      have hmin : ∀ X : World, (Builtin.min_ #[3, 3] 3 #[.int .i64 8, .int .i64 ((n - i : Nat) : Int)]).run Tryz.prog X = .ok (.int .i64 mm) X := fun X => by
        rw [run_min_int2]
        congr 2
        split <;> omega
      have hsl2 : ∀ X : World, (Instr.slice 140 (.slice (some ad) n c) (some (.int .i64 i)) (some (.int .i64 ((i : Int) + mm))) (some (.int .i64 ((i : Int) + mm)))).run Tryz.prog X = .ok (.slice (some (ad.add i)) mm mm) X := fun X => by
        rw [run_slice_lhm X 140 (some ad) n c (by kernel_rfl) .i64 .i64 .i64 i ((i : Int) + mm) ((i : Int) + mm) (by omega) (by omega) (by omega) (by omega), show (sizeOf (Tryz.prog.elem 140)).run Tryz.prog X = .ok 1 X from by kernel_rfl]
        simp [sliced]
        omega
      have Hmm := Lib.hid hmm
      have Hi := Lib.hid hi
      have HY := Lib.hid hY
      have HJ := Lib.hid hJ
      have HR := Lib.hid hR
      clear hmm hi hch hY hJ hR hJx hR2
      gi_wp2
      refine draw_wide 6 hord (by kernel_rfl) (by kernel_rfl) ?_
      simp only [List.take_succ_cons, List.take_zero, List.drop_succ_cons, List.drop_zero]
      repeat still_step
      refine wpStill_nil ?_
      clear hmin hsl
      gi_wp2
      refine hRd.mono ?_
      rintro e W3 ⟨_, (⟨rfl, hJ3⟩ | ⟨rfl, hJx3⟩)⟩
      · have c3 := ((HR.out _ W3 hJ3).1).2
        clear hsl2 hy c1 c2
        gi_wp2
        go_roundw
        case rel => have := Hi.out; exact ⟨k + 1, by omega, by rw [show ((8 * (k + 1) : Nat) : Int) = (i : Int) + 8 from by omega], hJ3⟩
        case measure => simp [intOf]; omega
      · clear hsl2 hy c1 c2
        gi_wp2
        refine bodyPost_ret (results_none rfl _ _ _) rfl ?_
        exact ⟨⟨_, rfl⟩, .inr ⟨k + 1, by omega, by have := Hi.out; omega, hJx3⟩⟩
    · have he : k = (n + 7) / 8 := by omega
      rw [he] at hj hlt ⊢
      clear he hY hJ hJx hR hR2 hA
      gi_wp2
      go_end0
      exact ⟨⟨_, rfl⟩, .inl hj⟩
end Go.Proofs.YtdgnbmcckknfiaaGreat
