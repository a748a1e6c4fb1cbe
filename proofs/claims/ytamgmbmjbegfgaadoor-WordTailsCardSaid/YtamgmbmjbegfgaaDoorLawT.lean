/- The walks of the reference's Byte and Bytes, and of the law WordTails. Conditions: words that read as a list; a number of 64 bits; the library's table reads as its text lays it. -/
import Derived.Test.YtamgmbmjbegfgaaDoorBytQ
import Derived.Test.YtamgmbmjbegfgaaDoorRefA
import Derived.Test.YtamgmbmjbegfgaaDoorWrkB
namespace Go.Proofs.YtamgmbmjbegfgaaDoor
open Go.RowKit

theorem getN_byte (x i : Nat) : getN x (8 * i) 8 = wbyte x i := rfl
theorem byte_wrap (y : Nat) (h : y < 256) : IntKind.u8.wrap (y : Int) = (y : Int) := by
  simp [IntKind.wrap, IntKind.signed, IntKind.bits]
  omega

set_option maxHeartbeats 800000 in
theorem rbyte_any (l : List Nat) (A : Option Addr) (q c i : Nat) (w : World) (hr : Reads w w.heap.size 1 A q (cells64 l)) (hx : ∀ x ∈ l, x < 18446744073709551616) (hi : i < 8 * q) (hq : q ≤ 5000) :
    Calls Tryd.prog 37 #[.slice A q c, .int .i64 i] w fun e w' => ∃ y : Nat, e = .returned (.int .u8 (y : Int)) ∧ (bytesOf l)[i]? = some y ∧ y < 256 ∧ Below w.heap.size w w' := by
  obtain ⟨k, hk⟩ : ∃ k, i / 8 = k := ⟨_, rfl⟩
  obtain ⟨j, hj⟩ : ∃ j, i % 8 = j := ⟨_, rfl⟩
  obtain ⟨ad, x, rfl, hbl, hxx, hc1⟩ := u64_at l hr (show k < q by omega)
  have hat := bytesOf_at l k j (by omega)
  rw [show 8 * k + j = i by omega, hxx] at hat
  have Hat : Hid ((bytesOf l)[i]? = some (wbyte x j)) := Lib.hid hat
  have hx64 := hx x (List.mem_of_getElem? hxx)
  have hw := wbyte_lt x j
  have hgb := Lib.hid (getN_byte x j)
  have hbw := Lib.hid (byte_wrap _ hw)
  have q8 : (i : Int).tdiv 8 = (k : Int) := by rw [Int.tdiv_eq_ediv_of_nonneg (by omega)]; omega
  have q9 : (i : Int) / 8 = (k : Int) := by omega
  have r8 : (i : Int).tmod 8 = (j : Int) := by rw [Int.tmod_eq_emod_of_nonneg (by omega)]; omega
  have r9 : (i : Int) % 8 = (j : Int) := by omega
  have w1' : IntKind.i64.wrap (k : Int) = (k : Int) := by rw [IntKind.wrap_i64]; omega
  have w2' : IntKind.i64.wrap (8 * (j : Int)) = ((8 * j : Nat) : Int) := by rw [IntKind.wrap_i64]; omega
  have w3' : 8 * (j : Int) = ((8 * j : Nat) : Int) := by omega
  have hk0 : (0 : Int) ≤ (k : Int) := by omega
  have hkq : (k : Int) < (q : Int) := by omega
  have hj8 : j < 8 := by omega
  obtain ⟨f, hf⟩ : ∃ f, 8 * j = f := ⟨_, rfl⟩
  rw [hf] at w2' w3' hgb
  have hf8 : f + 8 ≤ 64 := by omega
  clear hat hxx hx hk hj hf hr
  go_enter Tryd.func37, Tryd.ntmps37
  go_wp2_with fail
  refine (rget_any x f 8 _ hx64 hf8).mono ?_
  rintro e w2 ⟨rfl, hb⟩
  rw [hgb.out]
  obtain ⟨y, hy⟩ : ∃ y, wbyte x j = y := ⟨_, rfl⟩
  rw [hy] at hbw hw Hat ⊢
  clear hy
  go_wp2
  go_ret
  exact ⟨y, rfl, Hat.out, hw, hb⟩

theorem cells8_snoc (l : List Nat) (j y : Nat) (h : l[j]? = some y) : cells8 (l.take (j + 1)) = cells8 (l.take j) ++ [.int .u8 (y : Int)] := by
  rw [List.take_add_one, h]
  simp [cells8]
theorem anyNz_cut (l : List Nat) (N j y : Nat) (h : l[j]? = some y) (hN : N ≤ j) (h0 : anyNz ((l.take j).drop N) = false) (h1 : y = 0) : anyNz ((l.take (j + 1)).drop N) = false := by
  have hl : j < l.length := (List.getElem?_eq_some_iff.1 h).1
  rw [List.take_add_one, h, List.drop_append_of_le_length (by rw [List.length_take]; omega)]
  unfold anyNz at h0 ⊢
  rw [List.any_append, h0]
  simp [nz, h1]
theorem anyNz_in (l : List Nat) (N j y : Nat) (h : l[j]? = some y) (hN : N ≤ j) (h1 : y ≠ 0) : anyNz (l.drop N) = true := by
  unfold anyNz
  rw [List.any_eq_true]
  refine ⟨y, ?_, by simp [nz, h1]⟩
  have : (l.drop N)[j - N]? = some y := by rw [List.getElem?_drop, show N + (j - N) = j by omega, h]
  exact List.mem_of_getElem? this

/-- What the reference's Bytes leaves. -/
def BytesLeft (l : List Nat) (n : Int) (w : World) (e : Ending) (w' : World) : Prop := ∃ A' m c', e = .returned (.tuple #[.slice A' m c', .int .i64 (bytesE l n)]) ∧ Reads w' w'.heap.size 1 A' m (cells8 (bytesL l n)) ∧ Below w.heap.size w w'
theorem BytesLeft.mk_ {l : List Nat} {n : Int} {w : World} {e : Ending} {w' : World} {ee : Int} {L : List Nat} (A' : Option Addr) (m c' : Nat) (h1 : bytesE l n = ee) (h2 : bytesL l n = L) (h : e = .returned (.tuple #[.slice A' m c', .int .i64 ee])) (hr : Reads w' w'.heap.size 1 A' m (cells8 L)) (hb : Below w.heap.size w w') : BytesLeft l n w e w' :=
  ⟨A', m, c', by rw [h1]; exact h, by rw [h2]; exact hr, hb⟩

set_option maxRecDepth 100000 in
set_option maxHeartbeats 2000000 in
theorem rbytes_any (l : List Nat) (n : Int) (A : Option Addr) (q c : Nat) (w : World) (hr : Reads w w.heap.size 1 A q (cells64 l)) (hx : ∀ x ∈ l, x < 18446744073709551616) (hq : q ≤ maxLen) (hn0 : (Lit.int .i64 n).wf = true) :
    Calls Tryd.prog 21 #[.slice A q c, .int .i64 n] w (BytesLeft l n w) := by
  have hn : -9223372036854775808 ≤ n ∧ n ≤ 9223372036854775807 := by
    simp [Lit.wf, IntKind.min, IntKind.max, IntKind.signed, IntKind.bits] at hn0
    omega
  clear hn0
  have hl : l.length = q := by have := hr.1; rw [cells64_len] at this; omega
  unfold maxLen at hq
  have B0 := Below.refl w.heap.size w
  by_cases h1 : n < 0
  · have e1 := Lib.hid (bytes_refused l n 2 (by unfold bytesE; rw [if_pos h1]) (by omega))
    clear hl hx
    go_enter Tryd.func21, Tryd.ntmps21
    go_wp2
    go_ret2
    exact BytesLeft.mk_ none 0 0 e1.out.2 e1.out.1 rfl Reads.none_ B0
  · by_cases h2 : 4096 < n ∨ 4096 < q
    · have e1 := Lib.hid (bytes_refused l n 3 (by unfold bytesE; rw [if_neg h1, hl, if_pos h2]) (by omega))
      have hor : 4096 < n ∨ (¬ 4096 < n ∧ 4096 < (q : Int)) := by omega
      clear h2 hl hx
      rcases hor with c1 | ⟨c1, c2⟩
      all_goals
        go_enter Tryd.func21, Tryd.ntmps21
        go_wp2
        go_ret2
        exact BytesLeft.mk_ none 0 0 e1.out.2 e1.out.1 rfl Reads.none_ B0
    · have h2a : ¬ 4096 < n := by omega
      have h2b : ¬ 4096 < (q : Int) := by omega
      have w8 : IntKind.i64.wrap (8 * (q : Int)) = 8 * (q : Int) := by rw [IntKind.wrap_i64]; omega
      have w9 : IntKind.i64.wrap (n + 7) = n + 7 := by rw [IntKind.wrap_i64]; omega
      obtain ⟨N, hN⟩ : ∃ N : Nat, n = N := ⟨n.toNat, by omega⟩
      subst hN
      by_cases h3 : 8 * (q : Int) < (N : Int)
      · have e1 := Lib.hid (bytes_refused l N 4 (by unfold bytesE; rw [if_neg h1, hl, if_neg h2, if_pos h3]) (by omega))
        clear h2 hl hx
        go_enter Tryd.func21, Tryd.ntmps21
        go_wp2
        go_ret2
        exact BytesLeft.mk_ none 0 0 e1.out.2 e1.out.1 rfl Reads.none_ B0
      · obtain ⟨d, hd⟩ : ∃ d, (N + 7) / 8 = d := ⟨_, rfl⟩
        have td2 : ((N : Int) + 7).tdiv 8 = (d : Int) := by rw [Int.tdiv_eq_ediv_of_nonneg (by omega)]; omega
        have dd2 : ((N : Int) + 7) / 8 = (d : Int) := by omega
        have hd5 : d ≤ 600 := by omega
        have wd : IntKind.i64.wrap (d : Int) = (d : Int) := by rw [IntKind.wrap_i64]; omega
        by_cases h4 : q ≠ d
        · have e1 := Lib.hid (bytes_refused l N 110 (by unfold bytesE; rw [if_neg h1, hl, if_neg h2, if_neg h3, Int.toNat_natCast, hd, if_pos h4]) (by omega))
          have h4' : ((q : Int) != (d : Int)) = true := by simp; omega
          clear h2 hl hx hd h4
          go_enter Tryd.func21, Tryd.ntmps21
          go_wp2
          go_ret2
          exact BytesLeft.mk_ none 0 0 e1.out.2 e1.out.1 rfl Reads.none_ B0
        · have h4' : ((q : Int) != (d : Int)) = false := by simp; omega
          have hNq : N ≤ 8 * q := by omega
          have he : bytesE l N = if anyNz ((bytesOf l).drop N) then 110 else 0 := by
            unfold bytesE
            rw [if_neg h1, hl, if_neg h2, if_neg h3, Int.toNat_natCast, hd, if_neg h4]
          have hfl : (bytesOf l).length = 8 * q := by rw [bytesOf_len, hl]
          have hlv : bytesL l N = if bytesE l N = 0 then (bytesOf l).take N else [] := by unfold bytesL; rw [Int.toNat_natCast]
          obtain ⟨i0, hi0, hz0, hz1, hz2⟩ := info_parts info8
          have He := Lib.hid he
          have Hfl := Lib.hid hfl
          have Hlv := Lib.hid hlv
          have Hx := Lib.hid hx
          have q6 : q ≤ 600 := by omega
          obtain ⟨L, hL⟩ : ∃ L, bytesOf l = L := ⟨_, rfl⟩
          rw [hL] at He Hlv Hfl
          have HL := Lib.hid hL
          clear h2 hl hx hd h4 he hfl hlv hL
          go_enter Tryd.func21, Tryd.ntmps21
          go_wp2
          go_loopw [6, 7] (fun t i wr => ∃ j : Nat, j ≤ 8 * q ∧ i = .int .i64 j ∧ wr.ownsRow w.heap.size 5 1 t (min j N) (cells8 (L.take (min j N))) ∧ anyNz ((L.take j).drop N) = false ∧ Below w.heap.size w wr) (fun _ i _ => 8 * q - (intOf i).toNat)
          case atStart => exact ⟨0, Nat.zero_le _, rfl, by simpa [cells8] using World.ownsRow_nil _ _ _ _, by simp [anyNz], B0⟩
          case round =>
            obtain ⟨j, hj, rfl, hown, hno, hb⟩ := hrel
            obtain ⟨wo, rfl⟩ : ∃ wo : World, wo = wr := ⟨_, rfl⟩
            have hno' := Lib.hid hno
            clear hno
            by_cases hlt : j < 8 * q
            · have hlt' : (j : Int) < 8 * (q : Int) := by omega
              have hrr := (hr.below hb).more hb.size
              by_cases hjN : j < N
              · rw [show min j N = j by omega] at hown
                obtain ⟨A3, c3, rfl⟩ := own_form hown
                clear hr
                go_wp2_with fail
                refine (rbyte_any l A q c j _ hrr Hx.out hlt (by omega)).mono ?_
                rintro e w2 ⟨y, rfl, hy, hy8, hb2⟩
                rw [HL.out] at hy
                have hsn := Lib.hid (cells8_snoc L j y hy)
                have hno2 : Hid (anyNz ((L.take (j + 1)).drop N) = false) := Lib.hid (by rw [List.drop_of_length_le (by rw [List.length_take]; omega)]; rfl)
                have hown2 := own_below hown hb2
                have hbb := hb.trans (hb2.mono hb.size)
                have hs2 := hbb.size
                clear hy hb2 hown hb hrr
                go_wp2_with (at_builtin; go_must (refine wpList_append_own _ rfl (.tmp 42) (.tmp 46) _ rfl w.heap.size 5 i0 _ 1 1 Tryd.underlying36 hi0 hz0 hz1 hz2 rfl (by omega) (.slice A3 j c3) j _ rfl (hown2.alloc _) ⟨w2.heap.size, 0, none⟩ 1 1 [.int .u8 (y : Int)] rfl rfl (by exact cell_one_new _ _ _) (by simp [Value.oneCell']) (by simp only [maxLen]; omega) (by omega) (by simp; omega) ?_); intro v' w3 hown' hgrow _; obtain ⟨g', cap', rfl, hg1', hg2'⟩ := hown'.form (by omega))
                have hb3 : Below w.heap.size w w3 := (hbb.alloc hs2 _).grown hgrow (by simp; omega) (fun j h => (hown2.lt j h).1)
                go_roundw
                case rel => exact ⟨j + 1, by omega, by go_num, by rw [show min (j + 1) N = j + 1 by omega, hsn.out]; exact hown', hno2.out, hb3⟩
                case measure => simp [intOf]; omega
              · rw [show min j N = N by omega] at hown
                obtain ⟨A3, c3, rfl⟩ := own_form hown
                clear hr
                go_wp2_with fail
                refine (rbyte_any l A q c j _ hrr Hx.out hlt (by omega)).mono ?_
                rintro e w2 ⟨y, rfl, hy, hy8, hb2⟩
                rw [HL.out] at hy
                have hown2 := own_below hown hb2
                have hbb := hb.trans (hb2.mono hb.size)
                by_cases hy0 : y = 0
                · have hno2 := Lib.hid (anyNz_cut L N j y hy (by omega) hno'.out hy0)
                  subst hy0
                  clear hy hb2 hown hb hrr
                  go_wp2
                  go_roundw
                  case rel => exact ⟨j + 1, by omega, by go_num, by rw [show min (j + 1) N = N by omega]; exact hown2, hno2.out, hbb⟩
                  case measure => simp [intOf]; omega
                · have hz := anyNz_in L N j y hy (by omega) hy0
                  have e1 : Hid (bytesE l N = 110 ∧ bytesL l N = []) := Lib.hid (by
                    have h9 : bytesE l N = 110 := by rw [He.out, hz]; rfl
                    exact ⟨h9, by rw [Hlv.out, if_neg (by rw [h9]; omega)]⟩)
                  have hyn : ((y : Int) != 0) = true := by simp; omega
                  clear hy hb2 hown hb hrr hz hy0
                  go_wp2
                  go_ret2
                  exact BytesLeft.mk_ none 0 0 e1.out.1 e1.out.2 rfl Reads.none_ hbb
            · obtain rfl : j = 8 * q := by omega
              have hlt' : ¬ ((8 * q : Nat) : Int) < 8 * (q : Int) := by omega
              have hno := hno'.out
              rw [List.take_of_length_le (by have := Hfl.out; omega)] at hno
              have e1 : Hid (bytesE l N = 0 ∧ bytesL l N = L.take N) := Lib.hid (by
                have h9 : bytesE l N = 0 := by rw [He.out, hno]; rfl
                exact ⟨h9, by rw [Hlv.out, if_pos h9]⟩)
              rw [show min (8 * q) N = N by omega] at hown
              obtain ⟨A3, c3, rfl⟩ := own_form hown
              have hF := Lib.hid (Reads.of_own hown)
              clear hown hno hlt
              go_wp2
              go_ret2
              exact BytesLeft.mk_ A3 N c3 e1.out.1 e1.out.2 rfl hF.out hb

set_option maxRecDepth 100000 in
set_option maxHeartbeats 2000000 in
theorem wordTails_any (l : List Nat) (n : Int) (A : Option Addr) (q c : Nat) (w : World) (hr : Reads w w.heap.size 1 A q (cells64 l)) (hx : ∀ x ∈ l, x < 18446744073709551616) (hq : q ≤ maxLen) (hn0 : (Lit.int .i64 n).wf = true) (hT : TabIn w) :
    Calls Tryd.prog 5 #[.slice A q c, .int .i64 n] w fun e w' => e = .returned (.bool true) ∧ Below w.heap.size w w' := by
  have hTl := hT.lt
  have HT := Lib.hid hT
  have Hx := Lib.hid hx
  have Hn0 := Lib.hid hn0
  have Hq := Lib.hid hq
  unfold maxLen at hq
  clear hT hx hn0
  by_cases h1 : 4200 < q
  · go_enter Tryd.func5, Tryd.ntmps5
    go_wp2_with fail
    refine (works_any _ HT.out).mono ?_
    rintro e w1 ⟨rfl, hb⟩
    go_wp2
    go_ret
    exact ⟨rfl, hb⟩
  · obtain ⟨ee, hee⟩ : ∃ e, bytesE l n = e := ⟨_, rfl⟩
    have G1 := fun W hr => wbytes_any l n A q c W hr Hx.out Hq.out Hn0.out
    have G2 := fun W hr => (rbytes_any l n A q c W hr Hx.out Hq.out Hn0.out).mono (fun e w' (h : BytesLeft l n W e w') => (show ∃ A' m c', e = .returned (.tuple #[.slice A' m c', .int .i64 (bytesE l n)]) ∧ Reads w' w'.heap.size 1 A' m (cells8 (bytesL l n)) ∧ Below W.heap.size W w' from h))
    simp only [hee] at G1 G2
    have HG1 := Lib.hid G1
    have HG2 := Lib.hid G2
    clear G1 G2 hee
    go_enter Tryd.func5, Tryd.ntmps5
    go_wp2_with fail
    refine (HG1.out _ hr).mono ?_
    rintro e w1 ⟨A1, m1, rfl, h1, hb⟩
    replace hr := (hr.below hb).more hb.size
    have B1 := hb
    clear hb
    go_wp2_with fail
    refine (HG2.out _ hr).mono ?_
    rintro e w2 ⟨A2, m2, c2, rfl, h2, hb⟩
    have cv1 := conv_reads m1 (h1.below hb)
    have cv2 := conv_reads c2 h2
    have B2 := B1.trans (hb.mono B1.size)
    clear hb h1 h2 B1
    go_wp2_with (go_at_call 13; refine (num_any _ _).mono ?_; rintro e w' ⟨rfl, rfl⟩)
    refine (works_any _ (HT.out.below B2 hTl)).mono ?_
    rintro e w9 ⟨rfl, hb⟩
    go_wp2
    go_ret
    exact ⟨rfl, B2.trans (hb.mono B2.size)⟩
end Go.Proofs.YtamgmbmjbegfgaaDoor
