/- The walks of the document's answers: a name's words, an entry's words. Conditions: a name. -/
import Derived.Test.YtdgnbmcckknfiaaRefE
namespace Go.Proofs.Ytdgnbmcckknfiaa
open Go.RowKit
set_option linter.unusedSimpArgs false

/-- Five words, of which so many are written. -/
def lwAt (a b c d e : Int) : Nat → Array Value
  | 0 => #[.int .u64 0, .int .u64 0, .int .u64 0, .int .u64 0, .int .u64 0]
  | 1 => #[.int .u64 a, .int .u64 0, .int .u64 0, .int .u64 0, .int .u64 0]
  | 2 => #[.int .u64 a, .int .u64 b, .int .u64 0, .int .u64 0, .int .u64 0]
  | 3 => #[.int .u64 a, .int .u64 b, .int .u64 c, .int .u64 0, .int .u64 0]
  | 4 => #[.int .u64 a, .int .u64 b, .int .u64 c, .int .u64 d, .int .u64 0]
  | _ => #[.int .u64 a, .int .u64 b, .int .u64 c, .int .u64 d, .int .u64 e]
theorem lw_words {s : ByteArray} (h : nameOk s = true) {a b c d e : Nat} (hl : lw s = [a, b, c, d, e]) (m : Nat) (hm : (s.size + 7) / 8 = m) :
    1 ≤ m ∧ m ≤ 5 ∧ (∀ k, k < m → (wordsN (sb s))[k]? = [a, b, c, d, e][k]?) ∧ lwAt a b c d e m = #[.int .u64 a, .int .u64 b, .int .u64 c, .int .u64 d, .int .u64 e] := by
  obtain ⟨n1, n2⟩ := nameOk_size h
  have hwl := wordsN_len (sb s)
  rw [sb_len, hm] at hwl
  have hp : wordsN (sb s) ++ List.replicate (5 - m) 0 = [a, b, c, d, e] := by rw [← hl]; simp [lw, h, pad5, hwl]
  refine ⟨by omega, by omega, fun k hk => ?_, ?_⟩
  · rw [← hp, List.getElem?_append_left (by omega)]
  · have hz : ∀ j, m ≤ j → j < 5 → [a, b, c, d, e][j]? = some 0 := fun j h1 h2 => by
      rw [← hp, List.getElem?_append_right (by omega), List.getElem?_replicate]
      rw [if_pos (by omega)]
    have hor : m = 1 ∨ m = 2 ∨ m = 3 ∨ m = 4 ∨ m = 5 := by omega
    have z1 := hz 1
    have z2 := hz 2
    have z3 := hz 3
    have z4 := hz 4
    clear hz hp hwl
    simp at z1 z2 z3 z4
    rcases hor with rfl | rfl | rfl | rfl | rfl
    · rw [z1 (by omega), z2 (by omega), z3 (by omega), z4 (by omega)]; rfl
    · rw [z2 (by omega), z3 (by omega), z4 (by omega)]; rfl
    · rw [z3 (by omega), z4 (by omega)]; rfl
    · rw [z4 (by omega)]; rfl
    · rfl
set_option maxRecDepth 100000 in
set_option maxHeartbeats 1000000 in
theorem rNameW_any (s : ByteArray) (hok : nameOk s = true) (a b c d e : Nat) (hl : lw s = [a, b, c, d, e]) (w : World) :
    Calls Try.prog 41 #[.string s] w fun r w' => r = .returned (.agg #[.int .u64 a, .int .u64 b, .int .u64 c, .int .u64 d, .int .u64 e]) ∧ Below w.heap.size w w' := by
  have k0 := (Blk.new w 94 #[.int .u64 0, .int .u64 0, .int .u64 0, .int .u64 0, .int .u64 0]).alloc (.cells #[.int .u64 0, .int .u64 0, .int .u64 0, .int .u64 0, .int .u64 0] 94)
  have k1 := Blk.new (w.alloc (.cells #[.int .u64 0, .int .u64 0, .int .u64 0, .int .u64 0, .int .u64 0] 94)) 94 #[.int .u64 0, .int .u64 0, .int .u64 0, .int .u64 0, .int .u64 0]
  rw [World.size_alloc] at k1
  have hB := ((Below.refl _ w).alloc (Nat.le_refl _) (.cells #[.int .u64 0, .int .u64 0, .int .u64 0, .int .u64 0, .int .u64 0] 94)).alloc (by simp) (.cells #[.int .u64 0, .int .u64 0, .int .u64 0, .int .u64 0, .int .u64 0] 94)
  obtain ⟨W, hW⟩ : ∃ W, W = (w.alloc (.cells #[.int .u64 0, .int .u64 0, .int .u64 0, .int .u64 0, .int .u64 0] 94)).alloc (.cells #[.int .u64 0, .int .u64 0, .int .u64 0, .int .u64 0, .int .u64 0] 94) := ⟨_, rfl⟩
  rw [← hW] at k0 k1 hB
  have hws : w.heap.size + 1 + 1 = W.heap.size := by rw [hW]; simp
  have Hws := Lib.hid hws
  have HW := Lib.hid hW
  obtain ⟨m, hm⟩ : ∃ m, (s.size + 7) / 8 = m := ⟨_, rfl⟩
  obtain ⟨m1, m5, hat, hend⟩ := lw_words hok hl m hm
  obtain ⟨n1, n2⟩ := nameOk_size hok
  have Hend := Lib.hid hend
  have Hat := Lib.hid hat
  have hcv := fun W => run_bytes_of_string (P := Try.prog) W 9 136 5 s Try.underlying9 Try.underlying136 Try.underlying5
  have H := Lib.hid (And.intro k0 (And.intro k1 hB))
  have Hm := Lib.hid hm
  clear k0 k1 hB hW hws hend hat hm hok hl
  go_enter Try.func41, Try.ntmps41
  go_wp2_with fail
  rw [← HW.out]
  try rw [Hws.out]
  have hgc := grownCap_ge W s.size 0 5
  have hrd := bytes_read W s (grownCap W s.size 0 5) ((bytesRow s (grownCap W s.size 0 5)).size, (bytesRow s (grownCap W s.size 0 5)).size + 1)
  have hb2 : Below W.heap.size W (W.drew.alloc (.cells (bytesRow s (grownCap W s.size 0 5)) 5 ((bytesRow s (grownCap W s.size 0 5)).size, (bytesRow s (grownCap W s.size 0 5)).size + 1))) := (Below.refl _ W).drew.alloc (Nat.le_refl _) _
  refine (rwords_any (sb s) _ _ _ _ hrd (sb_lt s) (by omega)).mono ?_
  rintro r w2 ⟨v, rfl, hown, hb⟩
  rw [Hm.out] at hown
  obtain ⟨k0, k1, hB⟩ := H.out
  replace k0 := (k0.below hb2 k0.lt).below hb (by have := hb2.size; have := k0.lt; omega)
  replace k1 := (k1.below hb2 k1.lt).below hb (by have := hb2.size; have := k1.lt; omega)
  replace hB := (hB.trans (hb2.mono hB.size)).trans (hb.mono (by have := hb2.size; have := hB.size; omega))
  obtain ⟨g, cap, rfl, hg1, hg2⟩ := hown.form (by omega)
  have hgl : w.heap.size + 1 + 1 < g := by
    have h9 := Hws.out
    simp at hg1
    omega
  have hl5 : m ≤ 5 := m5
  clear hb2 hb hrd hcv
  go_wp2
  go_loopw [5] (fun i wr => ∃ k : Nat, k ≤ m ∧ i = .int .i64 k ∧ Blk wr w.heap.size 94 #[.int .u64 0, .int .u64 0, .int .u64 0, .int .u64 0, .int .u64 0] ∧ Blk wr (w.heap.size + 1) 94 (lwAt a b c d e k) ∧ (∀ j, wr.cell? ⟨g, j, none⟩ = w2.cell? ⟨g, j, none⟩) ∧ Below w.heap.size w wr) (fun i _ => m - (intOf i).toNat)
  case atStart => exact ⟨0, by omega, rfl, k0, k1, fun _ => rfl, hB⟩
  case round =>
    obtain ⟨k, hk, rfl, k0, k1, hcl, hB⟩ := hrel
    obtain ⟨wo, rfl⟩ : ∃ wo : World, wo = wr := ⟨_, rfl⟩
    have Hcl := Lib.hid hcl
    have hgz := k1.lt
    clear hcl
    by_cases hlt : k < m
    · have hor : k = 0 ∨ k = 1 ∨ k = 2 ∨ k = 3 ∨ k = 4 := by omega
      clear hk
      rcases hor with rfl | rfl | rfl | rfl | rfl
      · have kc : wo.cell? ⟨g, 0, none⟩ = some (.int .u64 a) := by
          rw [Hcl.out 0, hown.cellAt 0 (by omega)]
          unfold cells64
          rw [List.getElem?_map, Hat.out 0 hlt]
          rfl
        have hkm : (0 : Int) < (m : Int) := by omega
        have kl := k1.cell 0
        have kf := k1.frozen 0
        have kz := k1.set_ 0 (.int .u64 a)
        have kh : ∀ j, (wo.setCell ⟨w.heap.size + 1, 0, none⟩ (.int .u64 a)).cell? ⟨g, j, none⟩ = w2.cell? ⟨g, j, none⟩ := fun j => by
          rw [World.cell?_setCell_other wo _ _ _ (by intro e; injection e with e1; omega)]
          exact Hcl.out j
        have KH := Lib.hid kh
        simp [lwAt] at kl kz
        clear hown kh
        go_wp2
        go_roundw
        case rel => exact ⟨1, by omega, by simp, k0.far (p := ⟨w.heap.size + 1, 0, none⟩) (by simp) _, kz, KH.out, hB.setCell (p := ⟨w.heap.size + 1, 0, none⟩) (by simp) _⟩
        case measure => simp [intOf]; omega
      · have kc : wo.cell? ⟨g, 1, none⟩ = some (.int .u64 b) := by
          rw [Hcl.out 1, hown.cellAt 1 (by omega)]
          unfold cells64
          rw [List.getElem?_map, Hat.out 1 hlt]
          rfl
        have hkm : (1 : Int) < (m : Int) := by omega
        have kl := k1.cell 1
        have kf := k1.frozen 1
        have kz := k1.set_ 1 (.int .u64 b)
        have kh : ∀ j, (wo.setCell ⟨w.heap.size + 1, 1, none⟩ (.int .u64 b)).cell? ⟨g, j, none⟩ = w2.cell? ⟨g, j, none⟩ := fun j => by
          rw [World.cell?_setCell_other wo _ _ _ (by intro e; injection e with e1; omega)]
          exact Hcl.out j
        have KH := Lib.hid kh
        simp [lwAt] at kl kz
        clear hown kh
        go_wp2
        go_roundw
        case rel => exact ⟨2, by omega, by simp, k0.far (p := ⟨w.heap.size + 1, 1, none⟩) (by simp) _, kz, KH.out, hB.setCell (p := ⟨w.heap.size + 1, 1, none⟩) (by simp) _⟩
        case measure => simp [intOf]; omega
      · have kc : wo.cell? ⟨g, 2, none⟩ = some (.int .u64 c) := by
          rw [Hcl.out 2, hown.cellAt 2 (by omega)]
          unfold cells64
          rw [List.getElem?_map, Hat.out 2 hlt]
          rfl
        have hkm : (2 : Int) < (m : Int) := by omega
        have kl := k1.cell 2
        have kf := k1.frozen 2
        have kz := k1.set_ 2 (.int .u64 c)
        have kh : ∀ j, (wo.setCell ⟨w.heap.size + 1, 2, none⟩ (.int .u64 c)).cell? ⟨g, j, none⟩ = w2.cell? ⟨g, j, none⟩ := fun j => by
          rw [World.cell?_setCell_other wo _ _ _ (by intro e; injection e with e1; omega)]
          exact Hcl.out j
        have KH := Lib.hid kh
        simp [lwAt] at kl kz
        clear hown kh
        go_wp2
        go_roundw
        case rel => exact ⟨3, by omega, by simp, k0.far (p := ⟨w.heap.size + 1, 2, none⟩) (by simp) _, kz, KH.out, hB.setCell (p := ⟨w.heap.size + 1, 2, none⟩) (by simp) _⟩
        case measure => simp [intOf]; omega
      · have kc : wo.cell? ⟨g, 3, none⟩ = some (.int .u64 d) := by
          rw [Hcl.out 3, hown.cellAt 3 (by omega)]
          unfold cells64
          rw [List.getElem?_map, Hat.out 3 hlt]
          rfl
        have hkm : (3 : Int) < (m : Int) := by omega
        have kl := k1.cell 3
        have kf := k1.frozen 3
        have kz := k1.set_ 3 (.int .u64 d)
        have kh : ∀ j, (wo.setCell ⟨w.heap.size + 1, 3, none⟩ (.int .u64 d)).cell? ⟨g, j, none⟩ = w2.cell? ⟨g, j, none⟩ := fun j => by
          rw [World.cell?_setCell_other wo _ _ _ (by intro e; injection e with e1; omega)]
          exact Hcl.out j
        have KH := Lib.hid kh
        simp [lwAt] at kl kz
        clear hown kh
        go_wp2
        go_roundw
        case rel => exact ⟨4, by omega, by simp, k0.far (p := ⟨w.heap.size + 1, 3, none⟩) (by simp) _, kz, KH.out, hB.setCell (p := ⟨w.heap.size + 1, 3, none⟩) (by simp) _⟩
        case measure => simp [intOf]; omega
      · have kc : wo.cell? ⟨g, 4, none⟩ = some (.int .u64 e) := by
          rw [Hcl.out 4, hown.cellAt 4 (by omega)]
          unfold cells64
          rw [List.getElem?_map, Hat.out 4 hlt]
          rfl
        have hkm : (4 : Int) < (m : Int) := by omega
        have kl := k1.cell 4
        have kf := k1.frozen 4
        have kz := k1.set_ 4 (.int .u64 e)
        have kh : ∀ j, (wo.setCell ⟨w.heap.size + 1, 4, none⟩ (.int .u64 e)).cell? ⟨g, j, none⟩ = w2.cell? ⟨g, j, none⟩ := fun j => by
          rw [World.cell?_setCell_other wo _ _ _ (by intro e; injection e with e1; omega)]
          exact Hcl.out j
        have KH := Lib.hid kh
        simp [lwAt] at kl kz
        clear hown kh
        go_wp2
        go_roundw
        case rel => exact ⟨5, by omega, by simp, k0.far (p := ⟨w.heap.size + 1, 4, none⟩) (by simp) _, kz, KH.out, hB.setCell (p := ⟨w.heap.size + 1, 4, none⟩) (by simp) _⟩
        case measure => simp [intOf]; omega
    · obtain rfl : k = m := by omega
      rw [Hend.out] at k1
      clear hown
      go_wp2_with (first | (refine row_load (w.heap.size + 1) 94 _ k1 94 _ rfl rfl rfl _ Try.underlying94 rfl (by kernel_rfl) ?_) | (refine row_store (w.heap.size) 94 _ _ k0 94 _ _ rfl rfl rfl rfl (by kernel_rfl) rfl (by kernel_rfl) ?_))
      refine bodyPost_ret (results_cell1 rfl _ _ w.heap.size 94 _ _ rfl (k0.setRow _) Try.underlying94 rfl (by kernel_rfl)) rfl ?_
      exact ⟨rfl, below_setRow hB (Nat.le_refl _) _⟩

theorem ent_wrap' {n m : Int} {s : ByteArray} (h : entOk n m s = true) : IntKind.u64.wrap n = n ∧ IntKind.u64.wrap m = m := by
  simp only [entOk, ptrs, badP, Bool.and_eq_true, decide_eq_true_eq, List.any_cons, List.any_nil, Bool.or_false, Bool.not_eq_true', Bool.or_eq_false_iff, decide_eq_false_iff_not] at h
  exact ⟨by rw [IntKind.wrap_u64]; omega, by rw [IntKind.wrap_u64]; omega⟩
/-- An entry's words, of which so many are written. -/
def entAt (n m z a b c d e : Int) : Nat → Array Value
  | 0 => #[.int .u64 n, .int .u64 m, .int .u64 z, .int .u64 0, .int .u64 0, .int .u64 0, .int .u64 0, .int .u64 0]
  | 1 => #[.int .u64 n, .int .u64 m, .int .u64 z, .int .u64 a, .int .u64 0, .int .u64 0, .int .u64 0, .int .u64 0]
  | 2 => #[.int .u64 n, .int .u64 m, .int .u64 z, .int .u64 a, .int .u64 b, .int .u64 0, .int .u64 0, .int .u64 0]
  | 3 => #[.int .u64 n, .int .u64 m, .int .u64 z, .int .u64 a, .int .u64 b, .int .u64 c, .int .u64 0, .int .u64 0]
  | 4 => #[.int .u64 n, .int .u64 m, .int .u64 z, .int .u64 a, .int .u64 b, .int .u64 c, .int .u64 d, .int .u64 0]
  | _ => ln8 n m z a b c d e
set_option maxRecDepth 100000 in
set_option maxHeartbeats 4000000 in
theorem rEntryP_any (n m : Int) (s : ByteArray) (h : entOk n m s = true) (w : World) : Calls Try.prog 16 #[.agg #[.int .i64 n, .int .i64 m, .string s]] w fun r w' => r = .returned (.agg (entL n m s)) ∧ Below w.heap.size w w' := by
  obtain ⟨a, b, c, d, e, hl⟩ := five (lw s) (lw_len s)
  have hEL : Hid (entL n m s = ln8 n m (s.size : Int) a b c d e) := Lib.hid (by unfold entL; rw [if_pos h]; exact entW_eq n m s a b c d e hl)
  have k0 := Blk.new w 23 #[.int .i64 n, .int .i64 m, .string s]
  have k1 := Blk.new (w.alloc (.cells #[.int .i64 n, .int .i64 m, .string s] 23)) 26 #[.int .u64 0, .int .u64 0, .int .u64 0, .int .u64 0, .int .u64 0, .int .u64 0, .int .u64 0, .int .u64 0]
  have n2 := Blk.new ((w.alloc (.cells #[.int .i64 n, .int .i64 m, .string s] 23)).alloc (.cells #[.int .u64 0, .int .u64 0, .int .u64 0, .int .u64 0, .int .u64 0, .int .u64 0, .int .u64 0, .int .u64 0] 26)) 26 #[.int .u64 0, .int .u64 0, .int .u64 0, .int .u64 0, .int .u64 0, .int .u64 0, .int .u64 0, .int .u64 0]
  replace k0 := (k0.alloc (.cells #[.int .u64 0, .int .u64 0, .int .u64 0, .int .u64 0, .int .u64 0, .int .u64 0, .int .u64 0, .int .u64 0] 26)).alloc (.cells #[.int .u64 0, .int .u64 0, .int .u64 0, .int .u64 0, .int .u64 0, .int .u64 0, .int .u64 0, .int .u64 0] 26)
  replace k1 := k1.alloc (.cells #[.int .u64 0, .int .u64 0, .int .u64 0, .int .u64 0, .int .u64 0, .int .u64 0, .int .u64 0, .int .u64 0] 26)
  simp only [World.size_alloc] at k0 k1 n2
  have hB := (((Below.refl _ w).alloc (Nat.le_refl _) (.cells #[.int .i64 n, .int .i64 m, .string s] 23)).alloc (by simp) (.cells #[.int .u64 0, .int .u64 0, .int .u64 0, .int .u64 0, .int .u64 0, .int .u64 0, .int .u64 0, .int .u64 0] 26)).alloc (by simp; omega) (.cells #[.int .u64 0, .int .u64 0, .int .u64 0, .int .u64 0, .int .u64 0, .int .u64 0, .int .u64 0, .int .u64 0] 26)
  have k2 := n2.setRow (entAt n m (s.size : Int) a b c d e 0)
  replace k0 := k0.farRow (g' := w.heap.size + 1 + 1) (by omega) (entAt n m (s.size : Int) a b c d e 0)
  replace k1 := k1.farRow (g' := w.heap.size + 1 + 1) (by omega) (entAt n m (s.size : Int) a b c d e 0)
  replace hB := below_setRow hB (g := w.heap.size + 1 + 1) (by omega) (entAt n m (s.size : Int) a b c d e 0)
  have hok := h
  simp only [entOk, Bool.and_eq_true] at hok
  have hnm := Lib.hid hok.2.2
  obtain ⟨n1, n2'⟩ := nameOk_size hok.2.2
  have hw1 := (ent_wrap' h).1
  have hw2 := (ent_wrap' h).2
  have hw3 : IntKind.u64.wrap (s.size : Int) = (s.size : Int) := by rw [IntKind.wrap_u64]; omega
  have Hl := Lib.hid hl
  have ks := k0.cell 2
  simp [entAt] at ks
  have H := Lib.hid (And.intro k0 (And.intro k1 (And.intro k2 hB)))
  clear h hok k0 k1 k2 hB hl
  go_enter Try.func16, Try.ntmps16
  go_wp2_with (refine row_store (w.heap.size + 1 + 1) 26 _ _ n2 26 _ _ rfl rfl rfl rfl (by kernel_rfl) rfl (by kernel_rfl) ?_)
  refine (rNameW_any s hnm.out a b c d e Hl.out _).mono ?_
  rintro r w1 ⟨rfl, hb⟩
  obtain ⟨k0, k1, k2, hB⟩ := H.out
  replace k0 := k0.below hb k0.lt
  replace k1 := k1.below hb k1.lt
  replace k2 := k2.below hb k2.lt
  replace hB := hB.trans (hb.mono hB.size)
  clear hb ks n2 hw1 hw2 hw3
  have l2 := k2.lt
  have n3 := Blk.new w1 94 #[.int .u64 0, .int .u64 0, .int .u64 0, .int .u64 0, .int .u64 0]
  have k3 := n3.setRow #[.int .u64 a, .int .u64 b, .int .u64 c, .int .u64 d, .int .u64 e]
  replace k0 := (k0.alloc (.cells #[.int .u64 0, .int .u64 0, .int .u64 0, .int .u64 0, .int .u64 0] 94)).farRow (g' := w1.heap.size) (by omega) #[.int .u64 a, .int .u64 b, .int .u64 c, .int .u64 d, .int .u64 e]
  replace k1 := (k1.alloc (.cells #[.int .u64 0, .int .u64 0, .int .u64 0, .int .u64 0, .int .u64 0] 94)).farRow (g' := w1.heap.size) (by omega) #[.int .u64 a, .int .u64 b, .int .u64 c, .int .u64 d, .int .u64 e]
  replace k2 := (k2.alloc (.cells #[.int .u64 0, .int .u64 0, .int .u64 0, .int .u64 0, .int .u64 0] 94)).farRow (g' := w1.heap.size) (by omega) #[.int .u64 a, .int .u64 b, .int .u64 c, .int .u64 d, .int .u64 e]
  replace hB := below_setRow (hB.alloc hB.size (.cells #[.int .u64 0, .int .u64 0, .int .u64 0, .int .u64 0, .int .u64 0] 94)) (g := w1.heap.size) hB.size #[.int .u64 a, .int .u64 b, .int .u64 c, .int .u64 d, .int .u64 e]
  have H := Lib.hid (And.intro k1 (And.intro k2 (And.intro k3 hB)))
  clear k0 k1 k2 k3 hB
  go_wp2_with (refine row_store (w1.heap.size) 94 _ _ n3 94 _ _ rfl rfl rfl rfl (by kernel_rfl) rfl (by kernel_rfl) ?_)
  go_loopw [5] (fun i wr => ∃ k : Nat, k ≤ 5 ∧ i = .int .i64 k ∧ Blk wr (w.heap.size + 1) 26 #[.int .u64 0, .int .u64 0, .int .u64 0, .int .u64 0, .int .u64 0, .int .u64 0, .int .u64 0, .int .u64 0] ∧ Blk wr (w.heap.size + 1 + 1) 26 (entAt n m (s.size : Int) a b c d e k) ∧ Blk wr w1.heap.size 94 #[.int .u64 a, .int .u64 b, .int .u64 c, .int .u64 d, .int .u64 e] ∧ Below w.heap.size w wr) (fun i _ => 5 - (intOf i).toNat)
  case atStart => exact ⟨0, by omega, rfl, H.out⟩
  case round =>
    obtain ⟨k, hk, rfl, k1, k2, k3, hB⟩ := hrel
    obtain ⟨wo, rfl⟩ : ∃ wo : World, wo = wr := ⟨_, rfl⟩
    clear n3
    by_cases hlt : k < 5
    · have hor : k = 0 ∨ k = 1 ∨ k = 2 ∨ k = 3 ∨ k = 4 := by omega
      clear hk hlt
      rcases hor with rfl | rfl | rfl | rfl | rfl
      · have kx := k3.cell 0
        have kl := k2.cell 3
        have kf := k2.frozen 3
        have kz := k2.set_ 3 (.int .u64 a)
        simp [entAt, ln8] at kx kl kz
        go_wp2
        go_roundw
        case rel => exact ⟨1, by omega, by simp, k1.far (p := ⟨w.heap.size + 1 + 1, 3, none⟩) (by simp) _, kz, k3.far (p := ⟨w.heap.size + 1 + 1, 3, none⟩) (by simp; omega) _, hB.setCell (p := ⟨w.heap.size + 1 + 1, 3, none⟩) (by simp; omega) _⟩
        case measure => simp [intOf]
      · have kx := k3.cell 1
        have kl := k2.cell 4
        have kf := k2.frozen 4
        have kz := k2.set_ 4 (.int .u64 b)
        simp [entAt, ln8] at kx kl kz
        go_wp2
        go_roundw
        case rel => exact ⟨2, by omega, by simp, k1.far (p := ⟨w.heap.size + 1 + 1, 4, none⟩) (by simp) _, kz, k3.far (p := ⟨w.heap.size + 1 + 1, 4, none⟩) (by simp; omega) _, hB.setCell (p := ⟨w.heap.size + 1 + 1, 4, none⟩) (by simp; omega) _⟩
        case measure => simp [intOf]
      · have kx := k3.cell 2
        have kl := k2.cell 5
        have kf := k2.frozen 5
        have kz := k2.set_ 5 (.int .u64 c)
        simp [entAt, ln8] at kx kl kz
        go_wp2
        go_roundw
        case rel => exact ⟨3, by omega, by simp, k1.far (p := ⟨w.heap.size + 1 + 1, 5, none⟩) (by simp) _, kz, k3.far (p := ⟨w.heap.size + 1 + 1, 5, none⟩) (by simp; omega) _, hB.setCell (p := ⟨w.heap.size + 1 + 1, 5, none⟩) (by simp; omega) _⟩
        case measure => simp [intOf]
      · have kx := k3.cell 3
        have kl := k2.cell 6
        have kf := k2.frozen 6
        have kz := k2.set_ 6 (.int .u64 d)
        simp [entAt, ln8] at kx kl kz
        go_wp2
        go_roundw
        case rel => exact ⟨4, by omega, by simp, k1.far (p := ⟨w.heap.size + 1 + 1, 6, none⟩) (by simp) _, kz, k3.far (p := ⟨w.heap.size + 1 + 1, 6, none⟩) (by simp; omega) _, hB.setCell (p := ⟨w.heap.size + 1 + 1, 6, none⟩) (by simp; omega) _⟩
        case measure => simp [intOf]
      · have kx := k3.cell 4
        have kl := k2.cell 7
        have kf := k2.frozen 7
        have kz := k2.set_ 7 (.int .u64 e)
        simp [entAt, ln8] at kx kl kz
        go_wp2
        go_roundw
        case rel => exact ⟨5, by omega, by simp, k1.far (p := ⟨w.heap.size + 1 + 1, 7, none⟩) (by simp) _, kz, k3.far (p := ⟨w.heap.size + 1 + 1, 7, none⟩) (by simp; omega) _, hB.setCell (p := ⟨w.heap.size + 1 + 1, 7, none⟩) (by simp; omega) _⟩
        case measure => simp [intOf]
    · obtain rfl : k = 5 := by omega
      have k2' : Blk wo (w.heap.size + 1 + 1) 26 (ln8 n m (s.size : Int) a b c d e) := k2
      clear k2
      go_wp2_with (first | (refine row_load (w.heap.size + 1 + 1) 26 _ k2' 26 _ rfl rfl rfl _ Try.underlying26 rfl (by kernel_rfl) ?_) | (refine row_store (w.heap.size + 1) 26 _ _ k1 26 _ _ rfl rfl rfl rfl (by kernel_rfl) rfl (by kernel_rfl) ?_))
      refine bodyPost_ret (results_cell1 rfl _ _ (w.heap.size + 1) 26 _ _ rfl (k1.setRow _) Try.underlying26 rfl (by kernel_rfl)) rfl ?_
      exact ⟨by rw [hEL.out], below_setRow hB (by omega) _⟩
theorem put_ent (n m : Int) (s : ByteArray) (w : World) : Calls Try.prog 17 #[.agg (entL n m s), .agg (entL n m s), .int .i64 (entE n m s), .bool (entOk n m s)] w fun e w' => e = .returned (.bool true) ∧ Below w.heap.size w w' :=
  put_both _ _ _ _ (fun h => ⟨rfl, by unfold entE; rw [h]; rfl, entW n m s, by rw [entW, List.length_append, List.length_map, lw_len]; rfl, by unfold entL; rw [h]; rfl⟩) (fun h => by unfold entL entE; rw [h]; exact ⟨rfl, rfl⟩) w
end Go.Proofs.Ytdgnbmcckknfiaa
