/- The walks of the reference's Bit, With and Words. Conditions: at most 5000 bytes that read as a list. -/
import Derived.StillTailTactics
import Derived.Laws.OwnMore
import Derived.Test.YtdgnbmcckknfiaaGreatWordC
import Derived.Test.YtdgnbmcckknfiaaGreatWordP
namespace Go.Proofs.YtdgnbmcckknfiaaGreat
open Go.RowKit

set_option maxHeartbeats 400000 in
theorem bit_any (x i : Nat) (w : World) (_hx : x < 18446744073709551616) (_hi : i < 64) :
    Calls Tryz.prog 104 #[.int .u64 x, .int .i64 i] w fun e w' => e = .returned (.bool (x.testBit i)) ∧ w = w' := by
  go_enter Tryz.func104, Tryz.ntmps104
  go_wp2
  go_ret
  exact ⟨by rw [bit_of]; rfl, rfl⟩

set_option maxHeartbeats 400000 in
theorem with_new (x i : Nat) (b : Bool) (w : World) (hx : x < 2 ^ i) (hi : i < 64) :
    Calls Tryz.prog 103 #[.int .u64 x, .int .i64 i, .bool b] w fun e w' => e = .returned (.int .u64 ((x + if b then 2 ^ i else 0 : Nat) : Int)) ∧ w = w' := by
  have hx64 : x < 18446744073709551616 := Nat.lt_of_lt_of_le hx (Nat.pow_le_pow_right (by omega) (Nat.le_of_lt hi))
  have hf : x.testBit i = false := Nat.testBit_lt_two_pow hx
  have ho : Hid (bits .xor .u64 x (IntKind.u64.wrap (2 ^ i)) = ((x + 2 ^ i : Nat) : Int)) := xor_one x i hx hi
  go_enter Tryz.func103, Tryz.ntmps103
  go_wp2_with fail
  refine (bit_any x i _ hx64 hi).mono ?_
  rintro e w1 ⟨rfl, rfl⟩
  rw [hf]
  cases b
  · go_wp2
    go_ret
    exact ⟨by simp, rfl⟩
  · go_wp2
    go_ret
    exact ⟨by rw [ho.out]; rfl, rfl⟩

/-- A list of numbers, as a row's cells. -/
def cells64 (l : List Nat) : List Value := l.map fun (x : Nat) => .int .u64 (x : Int)
/-- What the reference's Words has behind i bytes, and k bits of the next one. -/
def underN (bs : List Nat) (c k : Nat) : List Nat := (openN bs).set (bs.length / 8) (lowN bs + 2 ^ (8 * (bs.length % 8)) * (c % 2 ^ k))

theorem cells64_len (l : List Nat) : (cells64 l).length = l.length := by simp [cells64]
theorem cells64_at (l : List Nat) (k : Nat) : (cells64 l)[k]? = l[k]?.map fun (x : Nat) => Value.int .u64 (x : Int) := by simp [cells64]
theorem underN_zero (bs : List Nat) (c : Nat) : underN bs c 0 = openN bs := by
  unfold underN
  rw [Nat.pow_zero, Nat.mod_one, Nat.mul_zero, Nat.add_zero]
  apply List.ext_getElem?
  intro k
  by_cases h : k = bs.length / 8
  · subst h
    rw [List.getElem?_set_self (by rw [openN_len]; omega), openN_low]
  · rw [List.getElem?_set_ne (by omega)]
theorem underN_at (bs : List Nat) (c k : Nat) : (underN bs c k)[bs.length / 8]? = some (lowN bs + 2 ^ (8 * (bs.length % 8)) * (c % 2 ^ k)) := by
  unfold underN
  rw [List.getElem?_set_self (by rw [openN_len]; omega)]
theorem underN_more (bs : List Nat) (c k : Nat) : (underN bs c k).set (bs.length / 8) ((lowN bs + 2 ^ (8 * (bs.length % 8)) * (c % 2 ^ k)) + if c.testBit k then 2 ^ (8 * (bs.length % 8) + k) else 0) = underN bs c (k + 1) := by
  unfold underN
  rw [List.set_set, ← low_more]
theorem underN_all (bs : List Nat) (c : Nat) (hc : c < 256) : underN bs c 8 = wordsN (bs ++ [c]) := by
  unfold underN
  rw [wordsN_app, Nat.mod_eq_of_lt hc]

set_option maxRecDepth 100000 in
set_option maxHeartbeats 2000000 in
theorem rwords_any (bs : List Nat) (A : Option Addr) (n c : Nat) (w : World) (hr : U8s w w.heap.size A n (bs.map Int.ofNat)) (hx : ∀ x ∈ bs, x < 256) (hn : n ≤ 5000) :
    Calls Tryz.prog 94 #[.slice A n c] w fun e w' => ∃ v, e = .returned v ∧
      w'.ownsRow w.heap.size 22 1 v ((n + 7) / 8) (cells64 (wordsN bs)) ∧ Below w.heap.size w w' := by
  obtain ⟨i0, hi0, hz0, hz1, hz2⟩ := info_parts info64
  have hlen : bs.length = n := by have := hr.len; simpa using this
  have hl1 : n ≤ bs.length := by omega
  have hl2 : bs.length ≤ n := by omega
  clear hlen
  go_enter Tryz.func94, Tryz.ntmps94
  go_wp2
  go_loopw [3, 4, 5] (fun t i k wr => ∃ j : Nat, j ≤ n ∧ i = .int .i64 j ∧ wr.ownsRow w.heap.size 22 1 t ((j + 7) / 8) (cells64 (wordsN (bs.take j))) ∧ Below w.heap.size w wr) (fun _ i _ _ => n - (intOf i).toNat)
  case atStart => exact ⟨0, Nat.zero_le _, rfl, by simpa [wordsN, cells64] using World.ownsRow_nil w w.heap.size 22 1, Below.refl _ _⟩
  case round =>
    obtain ⟨j, hj, rfl, hown, hb⟩ := hrel
    obtain ⟨wo, rfl⟩ : ∃ wo : World, wo = wr := ⟨_, rfl⟩
    by_cases hlt : j < n
    · obtain ⟨b, hbb⟩ : ∃ b, bs[j]? = some b := ⟨_, List.getElem?_eq_getElem (by omega)⟩
      have hA : ∃ ad, A = some ad := by obtain ⟨ad, h, _⟩ := U8s.at_ hr hlt; exact ⟨ad, h⟩
      obtain ⟨ad, rfl⟩ := hA
      have h8 : j % 8 = 0 ∨ j % 8 ≠ 0 := by omega
      have Hr := Lib.hid hr
      have Hx := Lib.hid hx
      have hbytes : ∀ W, Below w.heap.size w W → W.cell? (ad.add j) = some (.int .u8 (b : Int)) := by
        intro W hW
        obtain ⟨ad', e, _, h⟩ := U8s.at_ (Reads.below hr hW) hlt
        cases e
        rw [h]
        rw [List.getElem?_eq_getElem (by omega)] at hbb
        simp at hbb
        simp [hbb]
      have Hbytes := Lib.hid hbytes
      clear hbytes hr hx
      obtain ⟨q, hq⟩ : ∃ q, j / 8 = q := ⟨_, rfl⟩
      obtain ⟨r, hr8⟩ : ∃ r, j % 8 = r := ⟨_, rfl⟩
      rw [hr8] at h8
      have hjq : (j : Int) / 8 = (q : Int) := by omega
      have hj8 : (j : Int) % 8 = (r : Int) := by omega
      have hq5 : q < 1000 := by omega
      have hr5 : r < 8 := by omega
      have htl : (bs.take j).length = j := by rw [List.length_take]; omega
      have hat : ∀ m, (underN (bs.take j) b m)[q]? = some (lowN (bs.take j) + 2 ^ (8 * r) * (b % 2 ^ m)) := fun m => by
        have := underN_at (bs.take j) b m
        rw [htl, hq, hr8] at this
        exact this
      have hl8 : lowN (bs.take j) < 2 ^ (8 * r) := by
        have := lowN_lt (bs.take j) (fun x h => Hx.out x (List.mem_of_mem_take h))
        rw [htl, hr8] at this
        exact this
      have hb8 : b < 256 := Hx.out b (List.mem_of_getElem? hbb)
      rcases h8 with h8 | h8
      · have hq2 : (j + 7) / 8 = q := by omega
        rw [hq2] at hown
        have hop : openN (bs.take j) = wordsN (bs.take j) ++ [0] := by unfold openN; rw [htl, hr8, if_pos h8]
        have Hop := Lib.hid hop
        have Hat := Lib.hid hat
        clear hop hat
        have h8' : ((r : Int) == 0) = true := by simp; omega
        go_wp2_with (at_builtin; go_must (refine wpList_append_own _ rfl (.tmp 15) (.tmp 16) _ rfl w.heap.size 22 i0 _ 1 8 Tryz.underlying135 hi0 hz0 hz1 hz2 rfl (by omega) u3 q _ rfl (hown.alloc _) ⟨wo.heap.size, 0, none⟩ 1 1 [.int .u64 0] rfl rfl (by exact cell_one_new _ _ _) (by simp [Value.oneCell']) (by simp only [maxLen]; omega) (by omega) (by simp; have := hb.size; omega) ?_); intro v' w1 hown' hgrow _; obtain ⟨g', cap', rfl, hg1', hg2'⟩ := hown'.form (by omega))
        have hopen : w1.ownsRow w.heap.size 22 1 (.slice (some ⟨g', 0, none⟩) (q + 1) cap') (q + 1) (cells64 (openN (bs.take j))) := by
          rw [Hop.out]
          unfold cells64
          rw [List.map_append]
          exact hown'
        have hb1 : Below w.heap.size w w1 := (hb.alloc hb.size _).grown hgrow (by simp; have := hb.size; omega) (fun k h => (hown.lt k h).1)
        have hat := Hat.out
        clear hown' hgrow hown
        have hqq : q < q + 1 := by omega
        generalize hq1 : q + 1 = q1 at *
        go_loopw [5] (fun k wr => ∃ m : Nat, m ≤ 8 ∧ k = .int .i64 m ∧ wr.ownsRow w.heap.size 22 1 (.slice (some ⟨g', 0, none⟩) q1 cap') q1 (cells64 (underN (bs.take j) b m)) ∧ Below w.heap.size w wr) (fun k _ => 8 - (intOf k).toNat)
        case atStart => exact ⟨0, Nat.zero_le _, rfl, by rw [underN_zero]; exact hopen, hb1⟩
        case round =>
          obtain ⟨m, hm, rfl, hrow, hbr⟩ := hrel
          by_cases hm8 : m < 8
          · have hcb := Hbytes.out _ hbr
            have hcw := hrow.cellAt q (by omega)
            rw [cells64_at, hat m] at hcw
            have hfw := hrow.frozenAt q
            have hlow := low_lt (lowN (bs.take j)) (8 * r) b m hl8
            have hmr := underN_more (bs.take j) b m
            rw [htl, hq, hr8] at hmr
            obtain ⟨V, hV⟩ : ∃ V, lowN (bs.take j) + 2 ^ (8 * r) * (b % 2 ^ m) = V := ⟨_, rfl⟩
            obtain ⟨i, hi⟩ : ∃ i, 8 * r + m = i := ⟨_, rfl⟩
            rw [hV, hi] at hlow hmr
            rw [hV] at hcw
            obtain ⟨V', hV'⟩ : ∃ V', (V + if b.testBit m then 2 ^ i else 0) = V' := ⟨_, rfl⟩
            rw [hV'] at hmr
            have hst := hrow.stored q (.int .u64 V')
            have hnew : (cells64 (underN (bs.take j) b m)).set q (.int .u64 (V' : Int)) = cells64 (underN (bs.take j) b (m + 1)) := by
              rw [← hmr]
              simp [cells64]
            rw [hnew] at hst
            have hi64 : i < 64 := by omega
            have hcall1 := fun W => bit_any b m W (by omega) (by omega)
            have hcall2 : ∀ W, Calls Tryz.prog 103 #[.int .u64 V, .int .i64 i, .bool (b.testBit m)] W fun e w' => e = .returned (.int .u64 V') ∧ W = w' := by
              rw [← hV']
              exact fun W => with_new V i (b.testBit m) W hlow hi64
            have hjt : (j : Int).tmod 8 = (r : Int) := by rw [Int.tmod_eq_emod_of_nonneg (Int.natCast_nonneg _)]; exact hj8
            have hwq : IntKind.i64.wrap (q : Int) = (q : Int) := by rw [IntKind.wrap_i64]; omega
            have hw8 : IntKind.i64.wrap (8 * (r : Int)) = 8 * (r : Int) := by rw [IntKind.wrap_i64]; omega
            have hri : 8 * (r : Int) + m = (i : Int) := by omega
            have hwi : IntKind.i64.wrap (i : Int) = (i : Int) := by rw [IntKind.wrap_i64]; omega
            have hwb : IntKind.u64.wrap (b : Int) = (b : Int) := by rw [IntKind.wrap_u64]; omega
            have Hst := Lib.hid hst
            have H8 := Lib.hid h8
            have Hq1 := Lib.hid hq1
            have Hcall1 := Lib.hid hcall1
            have Hcall2 := Lib.hid hcall2
            clear h8' h8 hst hnew hmr hV' hV hlow hrow hq1 hcall1 hcall2 hi hl8 hat htl
            go_wp2
            go_still_tail 22, (by kernel_rfl)
            still_call ((Hcall1.out _).mono (fun _ _ h => ⟨h.1, h.2.symm⟩))
            repeat still_step
            still_call ((Hcall2.out _).mono (fun _ _ h => ⟨h.1, h.2.symm⟩))
            repeat still_step
            refine wpStill_nil ?_
            go_wp2
            exact ⟨⟨m + 1, by omega, by go_num, Hst.out.1, (hbr.setCell (p := ⟨g', q, none⟩) hg1' _).drew⟩, by simp [intOf]; omega⟩
          · obtain rfl : m = 8 := by omega
            have hrow' : wr.ownsRow w.heap.size 22 1 (.slice (some ⟨g', 0, none⟩) q1 cap') ((j + 1 + 7) / 8) (cells64 (wordsN (bs.take (j + 1)))) := by
              rw [show (j + 1 + 7) / 8 = q1 by omega, List.take_add_one, hbb]
              show wr.ownsRow w.heap.size 22 1 _ q1 (cells64 (wordsN (bs.take j ++ [b])))
              rw [← underN_all _ _ hb8]
              exact hrow
            have Hrow' := Lib.hid hrow'
            clear hrow' hrow h8' h8
            go_wp2
            go_roundw
            case rel => exact ⟨j + 1, by omega, by go_num, Hrow'.out, hbr⟩
            case measure => simp [intOf]; omega
      · have hq2 : (j + 7) / 8 = q + 1 := by omega
        rw [hq2] at hown
        have hop : openN (bs.take j) = wordsN (bs.take j) := by unfold openN; rw [htl, hr8, if_neg h8]
        have h8' : ((r : Int) == 0) = false := by simp; omega
        have hopen : wo.ownsRow w.heap.size 22 1 u3 (q + 1) (cells64 (openN (bs.take j))) := by
          rw [hop]
          exact hown
        clear hown hop
        obtain ⟨g', cap', rfl, hg1', hg2'⟩ := hopen.form (by omega)
        have hb1 := hb
        have Hat := Lib.hid hat
        clear hat
        go_wp2
        simp only [hj8]
        have hat := Hat.out
        have hqq : q < q + 1 := by omega
        generalize hq1 : q + 1 = q1 at *
        go_loopw [5] (fun k wr => ∃ m : Nat, m ≤ 8 ∧ k = .int .i64 m ∧ wr.ownsRow w.heap.size 22 1 (.slice (some ⟨g', 0, none⟩) q1 cap') q1 (cells64 (underN (bs.take j) b m)) ∧ Below w.heap.size w wr) (fun k _ => 8 - (intOf k).toNat)
        case atStart => exact ⟨0, Nat.zero_le _, rfl, by rw [underN_zero]; exact hopen, hb1⟩
        case round =>
          obtain ⟨m, hm, rfl, hrow, hbr⟩ := hrel
          by_cases hm8 : m < 8
          · have hcb := Hbytes.out _ hbr
            have hcw := hrow.cellAt q (by omega)
            rw [cells64_at, hat m] at hcw
            have hfw := hrow.frozenAt q
            have hlow := low_lt (lowN (bs.take j)) (8 * r) b m hl8
            have hmr := underN_more (bs.take j) b m
            rw [htl, hq, hr8] at hmr
            obtain ⟨V, hV⟩ : ∃ V, lowN (bs.take j) + 2 ^ (8 * r) * (b % 2 ^ m) = V := ⟨_, rfl⟩
            obtain ⟨i, hi⟩ : ∃ i, 8 * r + m = i := ⟨_, rfl⟩
            rw [hV, hi] at hlow hmr
            rw [hV] at hcw
            obtain ⟨V', hV'⟩ : ∃ V', (V + if b.testBit m then 2 ^ i else 0) = V' := ⟨_, rfl⟩
            rw [hV'] at hmr
            have hst := hrow.stored q (.int .u64 V')
            have hnew : (cells64 (underN (bs.take j) b m)).set q (.int .u64 (V' : Int)) = cells64 (underN (bs.take j) b (m + 1)) := by
              rw [← hmr]
              simp [cells64]
            rw [hnew] at hst
            have hi64 : i < 64 := by omega
            have hcall1 := fun W => bit_any b m W (by omega) (by omega)
            have hcall2 : ∀ W, Calls Tryz.prog 103 #[.int .u64 V, .int .i64 i, .bool (b.testBit m)] W fun e w' => e = .returned (.int .u64 V') ∧ W = w' := by
              rw [← hV']
              exact fun W => with_new V i (b.testBit m) W hlow hi64
            have hjt : (j : Int).tmod 8 = (r : Int) := by rw [Int.tmod_eq_emod_of_nonneg (Int.natCast_nonneg _)]; exact hj8
            have hwq : IntKind.i64.wrap (q : Int) = (q : Int) := by rw [IntKind.wrap_i64]; omega
            have hw8 : IntKind.i64.wrap (8 * (r : Int)) = 8 * (r : Int) := by rw [IntKind.wrap_i64]; omega
            have hri : 8 * (r : Int) + m = (i : Int) := by omega
            have hwi : IntKind.i64.wrap (i : Int) = (i : Int) := by rw [IntKind.wrap_i64]; omega
            have hwb : IntKind.u64.wrap (b : Int) = (b : Int) := by rw [IntKind.wrap_u64]; omega
            have Hst := Lib.hid hst
            have H8 := Lib.hid h8
            have Hq1 := Lib.hid hq1
            have Hcall1 := Lib.hid hcall1
            have Hcall2 := Lib.hid hcall2
            clear h8' h8 hst hnew hmr hV' hV hlow hrow hq1 hcall1 hcall2 hi hl8 hat htl
            go_wp2
            go_still_tail 22, (by kernel_rfl)
            still_call ((Hcall1.out _).mono (fun _ _ h => ⟨h.1, h.2.symm⟩))
            repeat still_step
            still_call ((Hcall2.out _).mono (fun _ _ h => ⟨h.1, h.2.symm⟩))
            repeat still_step
            refine wpStill_nil ?_
            go_wp2
            go_roundw
            case rel => exact ⟨m + 1, by omega, by go_num, Hst.out.1, (hbr.setCell (p := ⟨g', q, none⟩) hg1' _).drew⟩
            case measure => simp [intOf]; omega
          · obtain rfl : m = 8 := by omega
            have hrow' : wr.ownsRow w.heap.size 22 1 (.slice (some ⟨g', 0, none⟩) q1 cap') ((j + 1 + 7) / 8) (cells64 (wordsN (bs.take (j + 1)))) := by
              rw [show (j + 1 + 7) / 8 = q1 by omega, List.take_add_one, hbb]
              show wr.ownsRow w.heap.size 22 1 _ q1 (cells64 (wordsN (bs.take j ++ [b])))
              rw [← underN_all _ _ hb8]
              exact hrow
            have Hrow' := Lib.hid hrow'
            clear hrow' hrow h8' h8
            go_wp2
            go_roundw
            case rel => exact ⟨j + 1, by omega, by go_num, Hrow'.out, hbr⟩
            case measure => simp [intOf]; omega
    · have hx : Hid (bs.take j = bs) := List.take_of_length_le (by omega)
      go_wp2
      go_ret
      have e : j = n := by omega
      subst e
      rw [hx.out] at hown
      exact ⟨_, rfl, hown, hb⟩
end Go.Proofs.YtdgnbmcckknfiaaGreat
