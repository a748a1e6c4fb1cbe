/- The walks of math/bits.TrailingZeros64 and of word.Bits and its iterator. Conditions: a word of 64 bits; the library's table reads as its text lays it. -/
import Derived.Test.YtamgmbmjbegfgaaDoorDraw
import Derived.Test.YtamgmbmjbegfgaaDoorBitP
import Derived.Test.YtamgmbmjbegfgaaDoorFldA
namespace Go.Proofs.YtamgmbmjbegfgaaDoor
open Go.RowKit
attribute [local go_sem] Oper.semAt_some wide_fn wide_depth

/-- The library's table lies in its variable. -/
def TabIn (w : World) : Prop := ∀ j, j < 64 → w.cell? ⟨0, j, none⟩ = some (.int .u8 (Lib.deBruijn64tab.getD j 0))
theorem TabIn.lt {w : World} (h : TabIn w) : 0 < w.heap.size := World.block_lt_of_cell? _ _ (h 0 (by omega))
theorem TabIn.below {w w' : World} {B : Nat} (h : TabIn w) (hb : Below B w w') (hB : 0 < B) : TabIn w' := fun j hj => (hb.cell (p := ⟨0, j, none⟩) hB).trans (h j hj)
theorem TabIn.alloc {w : World} (h : TabIn w) (o : Obj) : TabIn (w.alloc o) := fun j hj => (World.cell?_alloc_lt w o _ h.lt).trans (h j hj)
theorem TabIn.drew {w : World} (h : TabIn w) : TabIn w.drew := h
theorem TabIn.drewN {w : World} (h : TabIn w) (n : Nat) : TabIn (w.drewN n) := h

theorem tz_key (x a : Nat) (hx : x < 18446744073709551616) (hx0 : x ≠ 0) (hlow : x &&& (18446744073709551616 - x) = a) :
    IntKind.u64.wrap (bits BinOp.and IntKind.u64 (x : Int) (IntKind.u64.wrap (-(x : Int))) * 285870213051353865) / 288230376151711744 = ((a * 285870213051353865 % 18446744073709551616 / 288230376151711744 : Nat) : Int) := by
  have e1 : IntKind.u64.wrap (-(x : Int)) = ((18446744073709551616 - x : Nat) : Int) := by rw [IntKind.wrap_u64]; omega
  rw [e1, bits_and_u64_nat x _ hx (by omega), hlow, IntKind.wrap_u64]
  omega

set_option maxHeartbeats 1000000 in
theorem tz_core (x k idx : Nat) (w : World) (hx0 : ((x : Int) == 0) = false)
    (key : IntKind.u64.wrap (bits BinOp.and IntKind.u64 (x : Int) (IntKind.u64.wrap (-(x : Int))) * 285870213051353865) / 288230376151711744 = (idx : Int))
    (hi : idx < 64) (hk : k < 64) (hcell : w.cell? ⟨0, idx, none⟩ = some (.int .u8 k)) :
    Calls Tryd.prog 39 #[.int .u64 x] w fun e w' => e = .returned (.int .i64 k) ∧ w = w' := by
  go_enter Tryd.func39, Tryd.ntmps39
  go_wp2_with (simp only [key])
  go_ret
  exact ⟨rfl, rfl⟩

theorem tz_any (x : Nat) (w : World) (hx : x < 18446744073709551616) (hx0 : x ≠ 0) (hT : TabIn w) :
    Calls Tryd.prog 39 #[.int .u64 x] w fun e w' => e = .returned (.int .i64 (Lib.ctz 64 x : Nat)) ∧ w = w' := by
  obtain ⟨hlow, hk⟩ := Lib.lowest_bit 64 x hx0 hx
  obtain ⟨hi, htab⟩ := Lib.deBruijn64_at _ hk
  have hcell := hT _ hi
  rw [htab] at hcell
  exact tz_core x _ _ w (by simp; omega) (tz_key x _ hx hx0 hlow) hi hk hcell

set_option maxHeartbeats 400000 in
theorem mkbits_any (x : Nat) (w : World) :
    Calls Tryd.prog 22 #[.int .u64 x] w fun e w' => e = .returned (.func (.func 38) #[] #[.pointer (some ⟨w.heap.size, 0, none⟩)]) ∧ w.alloc (.cells #[.int .u64 x] 22) = w' := by
  go_enter Tryd.func22, Tryd.ntmps22
  go_wp2
  go_ret
  exact ⟨rfl, rfl⟩

theorem and_pred (x : Nat) (hx : x < 18446744073709551616) (h0 : x ≠ 0) : bits .and .u64 (x : Int) ((x : Int) - 1) = ((x &&& (x - 1) : Nat) : Int) := by
  have e : ((x : Int) - 1) = ((x - 1 : Nat) : Int) := by omega
  rw [e, bits_and_u64_nat x _ hx (by omega)]

set_option maxRecDepth 100000 in
set_option maxHeartbeats 1000000 in
theorem bits_iter (b x : Nat) (hx : x < 18446744073709551616) :
    IterC false Tryd.prog 38 #[.pointer (some ⟨b, 0, none⟩)] (onesL x).length (fun k => #[.int .i64 ((onesL x).getD k 0 : Nat)])
      (fun W => W.cell? ⟨b, 0, none⟩ = some (.int .u64 x) ∧ TabIn W) := by
  intro n l W J Jx hJ hJx hR hR2 hY h0
  refine callsIn_of_wp Tryd.func38 rfl trivial ?_ rfl
  simp only [Tryd.ntmps38, List.size_toArray, List.length_cons, List.length_nil, Nat.reduceAdd, Nat.reduceSub, Array.replicate_succ, Array.replicate_zero, List.push_toArray, List.append_toArray, List.nil_append, List.cons_append]
  obtain ⟨⟨cx, _⟩, hle0⟩ := hR 0 W h0
  gi_wp2
  gi_loopw [3] (fun t wr => ∃ left k : Nat, t = .int .u64 left ∧ left < 18446744073709551616 ∧ k ≤ (onesL x).length ∧ LeftAt x left k ∧ J k wr) (fun t _ => (intOf t).toNat)
  case atStart => exact ⟨x, 0, rfl, hx, Nat.zero_le _, LeftAt.start x, h0⟩
  case round =>
    obtain ⟨left, k, rfl, hl, hk, hat, hj⟩ := hrel
    obtain ⟨⟨_, hT⟩, hle⟩ := hR k wr hj
    by_cases hz : left = 0
    · subst hz
      have hke := hat.done
      rw [hke] at hj
      clear hke hY hJ hJx hR hR2 hat cx
      gi_wp2
      go_end0
      exact ⟨⟨_, rfl⟩, .inl hj⟩
    · obtain ⟨q1, q2, q3⟩ := hat.next hz hl
      have hlt := hat.more hz hl
      have hgd : (onesL x).getD k 0 = Lib.ctz 64 left := by rw [List.getD_eq_getElem?_getD, q1]; rfl
      have hne : ((left : Int) == 0) = false := by simp; omega
      have hne2 : ((left : Int) != 0) = true := by simp; omega
      have hap := Lib.hid (and_pred left hl hz)
      have hlt2 : left &&& (left - 1) < left := Nat.lt_of_le_of_lt Nat.and_le_right (by omega)
      obtain ⟨left2, hl2⟩ : ∃ l2, left &&& (left - 1) = l2 := ⟨_, rfl⟩
      rw [hl2] at hap q3 hlt2
      obtain ⟨c, hc⟩ : ∃ c, Lib.ctz 64 left = c := ⟨_, rfl⟩
      have htz := fun W => tz_any left W hl hz
      rw [hc] at hgd q2
      simp only [hc] at htz
      have Htz := Lib.hid htz
      obtain ⟨fn, tmps, assign, body, hy, hRd⟩ := hY k wr hlt hj
      rw [hgd] at hy
      have Hgd := Lib.hid hgd
      have HY := Lib.hid hY
      have HJ := Lib.hid hJ
      have HR := Lib.hid hR
      have Hat := Lib.hid q3
      have Hhz := Lib.hid hz
      clear hY hJ hR hJx hR2 hat q1 hgd hc htz hl2 hz hj cx q3
      gi_wp2_with fail
      refine (callsIn_wide.2 (Htz.out _ hT)).mono ?_
      rintro e w2 ⟨rfl, rfl⟩
      gi_wp2
      refine hRd.mono ?_
      rintro e W3 ⟨_, (⟨rfl, hJ3⟩ | ⟨rfl, hJx3⟩)⟩
      · clear hy
        gi_wp2
        rw [hap.out]
        go_roundw
        case rel => exact ⟨left2, k + 1, rfl, by omega, by omega, Hat.out, hJ3⟩
        case measure => simp [intOf]; omega
      · clear hy
        gi_wp2
        refine bodyPost_ret (results_none rfl _ _ _) rfl ?_
        exact ⟨⟨_, rfl⟩, .inr ⟨k + 1, by omega, by omega, hJx3⟩⟩
end Go.Proofs.YtamgmbmjbegfgaaDoor
