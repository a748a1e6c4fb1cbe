/- The walk of the law WordBits. Conditions: a word of 64 bits; a slice of fields that reads as a list; the library's table reads as its text lays it. -/
import Derived.Test.YtamgmbmjbegfgaaDoorLawW
import Derived.Test.YtamgmbmjbegfgaaDoorApaB
namespace Go.Proofs.YtamgmbmjbegfgaaDoor
open Go.RowKit
set_option linter.unusedSimpArgs false
attribute [local go_sem] Oper.semAt_some wide_fn wide_depth

/-- The word of its first k ones, one after another put. -/
def bk (x : Nat) : Nat → Nat
  | 0 => 0
  | k + 1 => withN (bk x k) ((onesL x).getD k 0) true
theorem bk_bit (x : Nat) : ∀ (k : Nat), k ≤ (onesL x).length → ∀ i, (bk x k).testBit i = decide (i ∈ (onesL x).take k)
  | 0, _, i => by simp [bk]
  | k + 1, h, i => by
    have hk : k < (onesL x).length := h
    have e : (onesL x).getD k 0 = (onesL x)[k] := by rw [List.getD_eq_getElem?_getD, List.getElem?_eq_getElem hk]; rfl
    rw [show bk x (k + 1) = withN (bk x k) ((onesL x).getD k 0) true from rfl, withN_bit, bk_bit x k (by omega), e, List.take_add_one, List.getElem?_eq_getElem hk]
    by_cases h2 : i = (onesL x)[k]
    · rw [if_pos h2, decide_eq_true (List.mem_append.2 (.inr (by simp [h2])))]
    · rw [if_neg h2]
      refine decide_eq_decide.2 ⟨fun h3 => List.mem_append.2 (.inl h3), fun h3 => ?_⟩
      rcases List.mem_append.1 h3 with h4 | h4
      · exact h4
      · exact absurd (by simpa using h4) h2
theorem bk_lt (x k : Nat) (h : k ≤ (onesL x).length) : bk x k < 18446744073709551616 := by
  refine Nat.lt_pow_two_of_testBit (n := 64) _ fun i hi => ?_
  rw [bk_bit x k h]
  refine decide_eq_false fun hm => ?_
  have := ((onesL_mem x i).1 (List.mem_of_mem_take hm)).1
  omega
theorem bk_in (x k : Nat) (h : k ≤ (onesL x).length) : bk x k &&& x = bk x k := by
  apply word_ext
  intro i
  rw [Nat.testBit_and, bk_bit x k h]
  by_cases hm : i ∈ (onesL x).take k
  · rw [((onesL_mem x i).1 (List.mem_of_mem_take hm)).2, Bool.and_true]
  · rw [decide_eq_false hm, Bool.false_and]
theorem bk_all (x : Nat) (hx : x < 18446744073709551616) : bk x (onesL x).length = x := by
  apply word_ext
  intro i
  rw [bk_bit x _ (Nat.le_refl _), List.take_length]
  by_cases hm : i ∈ onesL x
  · rw [decide_eq_true hm, ((onesL_mem x i).1 hm).2]
  · rw [decide_eq_false hm]
    rcases Nat.lt_or_ge i 64 with hi | hi
    · cases hb : x.testBit i
      · rfl
      · exact absurd ((onesL_mem x i).2 ⟨hi, hb⟩) hm
    · exact (bit_lt (d := 64) hx hi).symm
/-- The number of the last one that came; none is -1. -/
def lastB (x : Nat) : Nat → Int
  | 0 => -1
  | k + 1 => ((onesL x).getD k 0 : Nat)
theorem lastB_lt (x k : Nat) (hk : k < (onesL x).length) : lastB x k < ((onesL x).getD k 0 : Nat) := by
  cases k with
  | zero => simp only [lastB]; omega
  | succ m =>
    have hp : (onesL x).Pairwise (· < ·) := (List.pairwise_lt_range (n := 64)).filter _
    have := List.pairwise_iff_getElem.1 hp m (m + 1) (by omega) hk (by omega)
    simp only [lastB, List.getD_eq_getElem?_getD, List.getElem?_eq_getElem hk, List.getElem?_eq_getElem (show m < (onesL x).length by omega), Option.getD_some]
    omega
theorem onesL_len (x : Nat) : (onesL x).length ≤ 64 := by
  have := List.length_filter_le x.testBit (List.range 64)
  simpa [onesL] using this

/-- The boxes of WordBits: how many, and the answer. -/
def BitBox (B : Nat) (many : Int) (W : World) : Prop := Blk W B 3 #[.int .i64 many] ∧ Blk W (B + 1) 4 #[.bool false]
theorem BitBox.same {B : Nat} {many : Int} {W W' : World} (h : BitBox B many W) (hb : ∀ b, B ≤ b → b < B + 2 → W'.heap[b]? = W.heap[b]?) : BitBox B many W' :=
  ⟨(hb _ (by omega) (by omega)).trans h.1, (hb _ (by omega) (by omega)).trans h.2⟩

/-- The frame of WordBits at the head of its loop. -/
def frameBi (x : Nat) (A : Option Addr) (n c : Nat) (many : Int) (B g : Nat) (u : Nat → Value) : Array Value := #[.int .u64 x, .slice A n c, .int .i64 many, undef, undef, .pointer (some ⟨B, 0, none⟩), .pointer (some ⟨B + 1, 0, none⟩), .pointer (some ⟨g, 0, none⟩), u 8, u 9, u 10, u 11, .slice A n c, .int .i64 n, .bool (decide (20 < (n : Int))), undef, u 16, u 17, u 18, u 19, u 20, u 21, u 22, u 23, u 24, u 25, u 26, u 27, u 28, u 29, u 30, u 31, u 32, u 33, u 34, u 35, u 36, u 37, u 38, u 39, u 40, u 41, u 42, u 43, u 44, u 45, u 46, u 47, u 48, u 49, u 50, u 51, u 52, u 53, u 54, u 55, u 56, u 57, u 58, u 59, u 60, u 61, u 62, u 63, u 64, u 65, u 66, u 67, u 68, u 69, u 70, u 71, u 72]

/-- What holds at the head of the loop, j rounds being still to come. -/
def HeadBi (w : World) (x : Nat) (A : Option Addr) (n c : Nat) (many : Int) (j : Nat) (a : Act) (X : World) : Prop :=
  ∃ (T : Int) (g : Nat) (u : Nat → Value) (Ds : List Nat), a = { tmps := frameBi x A n c many w.heap.size g u, defers := Ds.map markOf } ∧ 0 ≤ T ∧ T + j = 2 ∧
    BitBox w.heap.size many X ∧ w.heap.size + 2 ≤ g ∧ Blk X g 3 #[.int .i64 T] ∧ Below w.heap.size w X ∧ (∀ D ∈ Ds, w.heap.size + 2 ≤ D ∧ X.heap[D]? = some (.deferred (some []))) ∧ Ds.Nodup

/-- What holds between two rounds, k bits having come. -/
def InB (w : World) (x : Nat) (many : Int) (g gn : Nat) (T : Int) (Ds : List Nat) (k : Nat) (Y : World) : Prop :=
  BitBox w.heap.size many Y ∧ Blk Y g 3 #[.int .i64 T] ∧ Blk Y gn 3 #[.int .i64 k] ∧ Blk Y (gn + 1) 3 #[.int .i64 (lastB x k)] ∧ Blk Y (gn + 2) 22 #[.int .u64 (bk x k)] ∧ Blk Y (gn + 4) 22 #[.int .u64 x] ∧
    Below w.heap.size w Y ∧ (∀ D ∈ Ds, Y.heap[D]? = some (.deferred (some [])))
theorem InB.below {w : World} {x : Nat} {many : Int} {g gn : Nat} {T : Int} {Ds : List Nat} {k : Nat} {Y Y' : World} (h : InB w x many g gn T Ds k Y) (hb : Below (gn + 5) Y Y') (hg : w.heap.size + 2 ≤ g) (hgn : g < gn) (hD : ∀ D ∈ Ds, D < gn) :
    InB w x many g gn T Ds k Y' :=
  ⟨h.1.same fun b _ h2 => hb.block b (by omega), h.2.1.below hb (by omega), h.2.2.1.below hb (by omega), h.2.2.2.1.below hb (by omega), h.2.2.2.2.1.below hb (by omega), h.2.2.2.2.2.1.below hb (by omega),
    h.2.2.2.2.2.2.1.trans (hb.mono (by omega)), fun D hd => (hb.block D (by have := hD D hd; omega)).trans (h.2.2.2.2.2.2.2 D hd)⟩

set_option maxRecDepth 100000 in
set_option maxHeartbeats 2000000 in
theorem wordBits_out (x : Nat) (many : Int) (A : Option Addr) (n c : Nat) (w : World) (h1 : 20 < n) (hT : TabIn w) :
    Calls Tryd.prog 7 #[.int .u64 x, .slice A n c, .int .i64 many] w fun e w' => e = .returned (.bool true) ∧ Below w.heap.size w w' := by
  have HT := Lib.hid hT
  clear hT
  refine (callsIn_wide (n := 3)).1 (callsIn_of_wp_marks Tryd.func7 rfl trivial ?_ rfl)
  simp only [Tryd.ntmps7, List.size_toArray, List.length_cons, List.length_nil, Nat.reduceAdd, Nat.reduceSub, Array.replicate_succ, Array.replicate_zero, List.push_toArray, List.append_toArray, List.nil_append, List.cons_append]
  gi_wp2_with fail
  refine (callsIn_wide.2 (works_any _ ((HT.out.alloc _).alloc _))).mono ?_
  rintro e w1 ⟨rfl, hb⟩
  have k2 : Blk w1 (w.heap.size + 1) 4 #[.bool false] := by
    have := Blk.new (w.alloc (.cells #[.int .i64 many] 3)) 4 #[.bool false]
    simp only [World.size_alloc] at this
    exact this.below hb (by simp)
  have hc := k2.cell 0
  have hf := k2.frozen 0
  have hcs := (k2.set_ 0 (.bool true)).cell 0
  simp at hc hcs
  gi_wp2
  refine ⟨_, by simp [results, Tryd.results7, go_sem, hcs], rfl, ?_⟩
  exact (((((Below.refl _ w).alloc (Nat.le_refl _) _).alloc (by simp) _).trans (hb.mono (by simp; omega)))).setCell (p := ⟨w.heap.size + 1, 0, none⟩) (by simp) _

set_option maxRecDepth 100000 in
set_option maxHeartbeats 4000000 in
theorem wordBits_in (x : Nat) (many : Int) (zs : List (Int × Int)) (A : Option Addr) (n c : Nat) (w : World) (hx : x < 18446744073709551616) (hr : FReads w w.heap.size A n zs) (h1 : n ≤ 20) (hT : TabIn w) :
    Calls Tryd.prog 7 #[.int .u64 x, .slice A n c, .int .i64 many] w fun e w' => e = .returned (.bool true) ∧ Below w.heap.size w w' := by
  have hTl := hT.lt
  have HT := Lib.hid hT
  clear hT
  refine (callsIn_wide (n := 3)).1 (callsIn_of_wp_marks Tryd.func7 rfl trivial ?_ rfl)
  simp only [Tryd.ntmps7, List.size_toArray, List.length_cons, List.length_nil, Nat.reduceAdd, Nat.reduceSub, Array.replicate_succ, Array.replicate_zero, List.push_toArray, List.append_toArray, List.nil_append, List.cons_append]
  gi_wp2_with fail
  have hhead : ∀ W5, W5 = (((w.alloc (.cells #[.int .i64 many] 3)).alloc (.cells #[.bool false] 4)).alloc (.cells #[.int .i64 0] 3)) →
      BitBox w.heap.size many W5 ∧ Blk W5 (w.heap.size + 1 + 1) 3 #[.int .i64 0] ∧ Below w.heap.size w W5 := by
    rintro W5 rfl
    have k0 := (Blk.new w 3 #[.int .i64 many])
    have k1 := Blk.new (w.alloc (.cells #[.int .i64 many] 3)) 4 #[.bool false]
    have k2 := Blk.new ((w.alloc (.cells #[.int .i64 many] 3)).alloc (.cells #[.bool false] 4)) 3 #[.int .i64 0]
    replace k0 := (k0.alloc (.cells #[.bool false] 4)).alloc (.cells #[.int .i64 0] 3)
    replace k1 := k1.alloc (.cells #[.int .i64 0] 3)
    simp only [World.size_alloc] at k0 k1 k2
    exact ⟨⟨k0, k1⟩, k2, (((Below.refl _ w).alloc (Nat.le_refl _) _).alloc (by simp) _).alloc (by simp; omega) _⟩
  obtain ⟨hbox, ht, hbl⟩ := hhead _ rfl
  clear hhead
  generalize (((w.alloc (.cells #[.int .i64 many] 3)).alloc (.cells #[.bool false] 4)).alloc (.cells #[.int .i64 0] 3)) = W5 at *
  refine wpIn_loop_ghost (HeadBi w x A n c many) 2 ⟨0, w.heap.size + 1 + 1, fun _ => undef, [], rfl, by omega, by omega, hbox, by omega, ht, hbl, by simp, List.nodup_nil⟩ ?_
  clear hbox ht hbl
  rintro j a X ⟨T, g, u, Ds, rfl, hT0, hT, hbox, hg, ht, hbl, hD, hDn⟩ K hK
  unfold frameBi
  have ct := ht.cell 0
  have cm := hbox.1.cell 0
  simp at ct cm
  by_cases hT2 : T = 2
  · subst hT2
    have HD := Lib.hid hD
    have HDX : Hid (∀ D ∈ Ds, D < X.heap.size) := Lib.hid (fun D hd => (Array.getElem?_eq_some_iff.1 (hD D hd).2).1)
    have hTX : Hid (TabIn X) := Lib.hid (HT.out.below hbl hTl)
    have hTXl : 0 < X.heap.size := hTX.out.lt
    have hrX : FReads X w.heap.size A n zs := hr.below hbl (Nat.le_refl _)
    have HrX := Lib.hid hrX
    have hw := hbl.size
    clear hD hK hrX
    gi_wp2_with fail
    refine (callsIn_wide.2 (apart_any zs _ _ _ _ ⟨HrX.out.1, fun h => by obtain ⟨ad, e, h2, h3⟩ := HrX.out.2 h; exact ⟨ad, e, by omega, h3⟩⟩ (by omega) hTX.out)).mono ?_
    rintro e w1 ⟨rfl, hb⟩
    have b1 : Below X.heap.size X w1 := hb
    have s1 := b1.size
    clear hb
    gi_wp2_with fail
    have HrX1 := Lib.hid (HrX.out.below b1 hw)
    refine (callsIn_wide.2 (rapart_any zs _ _ _ _ ⟨HrX1.out.1, fun h => by obtain ⟨ad, e, h2, h3⟩ := HrX1.out.2 h; exact ⟨ad, e, by omega, h3⟩⟩ (by omega))).mono ?_
    rintro e w2 ⟨rfl, hb⟩
    have b2 : Below X.heap.size X w2 := b1.trans (hb.mono s1)
    have s2 := b2.size
    have hq : (apFrom 0 zs == apFrom 0 zs) = true := beq_self_eq_true _
    clear hb b1 s1
    gi_wp2_with fail
    refine (callsIn_wide.2 (works_any _ (hTX.out.below b2 hTXl))).mono ?_
    rintro e w3 ⟨rfl, hb⟩
    have b3 : Below X.heap.size X w3 := b2.trans (hb.mono s2)
    have k2 : Blk w3 (w.heap.size + 1) 4 #[.bool false] := hbox.2.below b3 hbox.2.lt
    have hk := k2.cell 0
    have hf := k2.frozen 0
    simp at hk
    have hset := k2.set_ 0 (.bool true)
    simp at hset
    have hDD' : Hid (∀ D ∈ Ds, w.heap.size + 2 ≤ D ∧ (w3.setCell ⟨w.heap.size + 1, 0, none⟩ (.bool true)).heap[D]? = some (.deferred (some []))) := Lib.hid (fun D hd => by
      obtain ⟨h1, h2⟩ := HD.out D hd
      exact ⟨h1, (Below.heap_setCell w3 ⟨w.heap.size + 1, 0, none⟩ _ D (show D ≠ w.heap.size + 1 by omega)).trans ((b3.block D (HDX.out D hd)).trans h2)⟩)
    have hbl2 : Below w.heap.size w (w3.setCell ⟨w.heap.size + 1, 0, none⟩ (.bool true)) := (hbl.trans (b3.mono hbl.size)).setCell (p := ⟨w.heap.size + 1, 0, none⟩) (show w.heap.size ≤ w.heap.size + 1 by omega) _
    clear hb b2 b3
    gi_wp2
    refine leaves_marks (w.heap.size + 2) Ds _ hDD'.out hDn fun W' hW => ?_
    have hcs := (hset.below hW (by omega)).cell 0
    simp at hcs
    exact ⟨_, by simp [results, Tryd.results7, go_sem, hcs], rfl, hbl2.trans (hW.mono (by omega))⟩
  · have hlt : T < 2 := by omega
    have hgX : g < X.heap.size := ht.lt
    have hDX : ∀ D ∈ Ds, D < X.heap.size := fun D hd => (Array.getElem?_eq_some_iff.1 (hD D hd).2).1
    have HDX := Lib.hid hDX
    have HD := Lib.hid hD
    have HDn := Lib.hid hDn
    have HK := Lib.hid hK
    have HX : Hid (∀ X6, X6 = (((((X.alloc (.cells #[.int .i64 0] 3)).alloc (.cells #[.int .i64 (-1)] 3)).alloc (.cells #[.int .u64 0] 22)).alloc (.cells #[.int .u64 x] 22)).alloc (.cells #[.int .u64 x] 22)) →
        InB w x many g X.heap.size T Ds 0 X6 ∧ X6.heap.size = X.heap.size + 5) := Lib.hid (by
      rintro X6 rfl
      have k0 := Blk.new X 3 #[.int .i64 0]
      have k1 := Blk.new (X.alloc (.cells #[.int .i64 0] 3)) 3 #[.int .i64 (-1)]
      have k2 := Blk.new ((X.alloc (.cells #[.int .i64 0] 3)).alloc (.cells #[.int .i64 (-1)] 3)) 22 #[.int .u64 0]
      have k4 := Blk.new ((((X.alloc (.cells #[.int .i64 0] 3)).alloc (.cells #[.int .i64 (-1)] 3)).alloc (.cells #[.int .u64 0] 22)).alloc (.cells #[.int .u64 x] 22)) 22 #[.int .u64 x]
      replace k0 := (((k0.alloc (.cells #[.int .i64 (-1)] 3)).alloc (.cells #[.int .u64 0] 22)).alloc (.cells #[.int .u64 x] 22)).alloc (.cells #[.int .u64 x] 22)
      replace k1 := ((k1.alloc (.cells #[.int .u64 0] 22)).alloc (.cells #[.int .u64 x] 22)).alloc (.cells #[.int .u64 x] 22)
      replace k2 := (k2.alloc (.cells #[.int .u64 x] 22)).alloc (.cells #[.int .u64 x] 22)
      simp only [World.size_alloc] at k0 k1 k2 k4
      have hbX : Below X.heap.size X (((((X.alloc (.cells #[.int .i64 0] 3)).alloc (.cells #[.int .i64 (-1)] 3)).alloc (.cells #[.int .u64 0] 22)).alloc (.cells #[.int .u64 x] 22)).alloc (.cells #[.int .u64 x] 22)) :=
        (((((Below.refl _ X).alloc (Nat.le_refl _) _).alloc (by simp) _).alloc (by simp; omega) _).alloc (by simp; omega) _).alloc (by simp; omega) _
      have hsw := hbl.size
      exact ⟨⟨hbox.same fun b _ h2 => hbX.block b (by omega), ht.below hbX hgX, k0, k1, k2, k4, hbl.trans (hbX.mono hsw), fun D hd => (hbX.block D (hDX D hd)).trans (hD D hd).2⟩, by simp⟩)
    have hnf : ∀ (b : Nat) (W : World), (binOp .eql 51 (.func (.func 38) #[] #[.pointer (some ⟨b, 0, none⟩)]) .nilFunc).run Tryd.prog W = .ok (.bool false) W := fun b W => by kernel_rfl
    clear hDX hD hDn hK
    gi_wp2_with fail
    refine (callsIn_wide.2 (mkbits_any x _)).mono ?_
    rintro e w4 ⟨rfl, rfl⟩
    gi_wp2_with fail
    refine (callsIn_wide.2 (mkbits_any x _)).mono ?_
    rintro e w4 ⟨rfl, rfl⟩
    gi_wp2_with fail
    obtain ⟨in0, hs6⟩ := HX.out _ rfl
    clear HX
    generalize (((((X.alloc (.cells #[.int .i64 0] 3)).alloc (.cells #[.int .i64 (-1)] 3)).alloc (.cells #[.int .u64 0] 22)).alloc (.cells #[.int .u64 x] 22)).alloc (.cells #[.int .u64 x] 22)) = X6 at *
    have Hs6 := Lib.hid hs6
    have hNl := onesL_len x
    clear ct cm hbox ht hs6
    refine rangeFunc_break (gf := 38) (lb := #[.pointer (some ⟨X.heap.size + 1 + 1 + 1 + 1, 0, none⟩)]) rfl (enters_of Tryd.func38 (by kernel_rfl) rfl) (bits_iter (X.heap.size + 4) x hx) (fun _ => rfl)
      (fun k Y => InB w x many g X.heap.size T Ds k Y)
      (fun k Y => InB w x many g X.heap.size T Ds k Y ∧ T = 0)
      (fun Y => ∃ k : Nat, k ≤ (onesL x).length ∧ InB w x many g X.heap.size T Ds k Y ∧ (T = 1 → k = (onesL x).length))
      ?hI ?hIx ?hIl ?hIxl ?hIR ?h0 ?hround ?hG1 ?hG2 ?rest
    case hI =>
      rintro k Y Z hi hle hb
      simp only [Bool.false_eq_true, if_false] at hb
      exact hi.below (hb.mono (by have := Hs6.out; omega)) hg hgX HDX.out
    case hIx =>
      rintro k Y Z ⟨hi, hf⟩ hle hb
      simp only [Bool.false_eq_true, if_false] at hb
      exact ⟨hi.below (hb.mono (by have := Hs6.out; omega)) hg hgX HDX.out, hf⟩
    case hIl =>
      rintro k Y Z hi hb
      exact hi.below (below_only hb (by have := Hs6.out; omega) (by have := hi.2.2.2.2.2.1.lt; omega)) hg hgX HDX.out
    case hIxl =>
      rintro k Y Z ⟨hi, hf⟩ hb
      exact ⟨hi.below (below_only hb (by have := Hs6.out; omega) (by have := hi.2.2.2.2.2.1.lt; omega)) hg hgX HDX.out, hf⟩
    case hIR =>
      rintro k Y hi
      exact ⟨by simpa using hi.2.2.2.2.2.1.cell 0, HT.out.below hi.2.2.2.2.2.2.1 hTl⟩
    case h0 =>
      intro Y hb
      exact in0.below (hb.mono (by have := Hs6.out; omega)) hg hgX HDX.out
    case hG1 =>
      rintro Y hi
      exact ⟨_, Nat.le_refl _, hi, fun _ => rfl⟩
    case hG2 =>
      rintro k Y hk0 hkn ⟨hi, hf⟩
      exact ⟨k, hkn, hi, (fun h => by omega)⟩
    case hround =>
      rintro k Y hk hi hle
      obtain ⟨i, hi'⟩ : ∃ i, (onesL x).getD k 0 = i := ⟨_, rfl⟩
      have hmem : i ∈ onesL x := by
        rw [← hi', List.getD_eq_getElem?_getD, List.getElem?_eq_getElem hk]
        exact List.getElem_mem _
      have hi64 := ((onesL_mem x i).1 hmem).1
      have hlast := lastB_lt x k hk
      have hbk := bk_lt x k (Nat.le_of_lt hk)
      have hbn : withN (bk x k) i true = bk x (k + 1) := by rw [← hi']; rfl
      have hln : ((i : Nat) : Int) = lastB x (k + 1) := by rw [← hi']; rfl
      rw [hi'] at hlast ⊢
      have Hbn := Lib.hid hbn
      have Hln := Lib.hid hln
      have Hbk := Lib.hid hbk
      clear hbn hln hi' hmem hbk
      gi_wp2
      refine ⟨Bk.refl _ _, fun Z hYZ hsz => ?_⟩
      have hiZ : InB w x many g X.heap.size T Ds k Z := hi.below (below_only hYZ (by have := Hs6.out; omega) (by have := hi.2.2.2.2.2.1.lt; omega)) hg hgX HDX.out
      have ct := hiZ.2.1.cell 0
      have cm := hiZ.1.1.cell 0
      have cn := hiZ.2.2.1.cell 0
      have fn := hiZ.2.2.1.frozen 0
      have cl := hiZ.2.2.2.1.cell 0
      have fl := hiZ.2.2.2.1.frozen 0
      have cb := hiZ.2.2.2.2.1.cell 0
      have fb := hiZ.2.2.2.2.1.frozen 0
      simp at ct cm cn cl cb
      have hkn : (k : Int) + 1 ≤ 64 := by omega
      have HV : Hid (∀ (v : Nat) (q : Int), v = bk x (k + 1) → q = lastB x (k + 1) →
          Bk X6.heap.size Z (((Z.setCell ⟨X.heap.size + 2, 0, none⟩ (.int .u64 v)).setCell ⟨X.heap.size + 1, 0, none⟩ (.int .i64 q)).setCell ⟨X.heap.size, 0, none⟩ (.int .i64 ((k : Int) + 1))) ∧
          InB w x many g X.heap.size T Ds (k + 1) (((Z.setCell ⟨X.heap.size + 2, 0, none⟩ (.int .u64 v)).setCell ⟨X.heap.size + 1, 0, none⟩ (.int .i64 q)).setCell ⟨X.heap.size, 0, none⟩ (.int .i64 ((k : Int) + 1)))) := Lib.hid (by
        rintro v q rfl rfl
        have h6 := Hs6.out
        have hot : ∀ b, b ≠ X.heap.size → b ≠ X.heap.size + 1 → b ≠ X.heap.size + 2 → (((Z.setCell ⟨X.heap.size + 2, 0, none⟩ (.int .u64 (bk x (k + 1) : Nat))).setCell ⟨X.heap.size + 1, 0, none⟩ (.int .i64 (lastB x (k + 1)))).setCell ⟨X.heap.size, 0, none⟩ (.int .i64 ((k : Int) + 1))).heap[b]? = Z.heap[b]? := fun b hb1 hb2 hb3 =>
          (Below.heap_setCell _ ⟨X.heap.size, 0, none⟩ _ b hb1).trans ((Below.heap_setCell _ ⟨X.heap.size + 1, 0, none⟩ _ b hb2).trans (Below.heap_setCell Z ⟨X.heap.size + 2, 0, none⟩ _ b hb3))
        have s2 := hiZ.2.2.2.2.1.set_ 0 (.int .u64 (bk x (k + 1) : Nat))
        have s1 := hiZ.2.2.2.1.set_ 0 (.int .i64 (lastB x (k + 1)))
        refine ⟨⟨by simp [World.setCell], hot _ (by omega) (by omega) (by omega), hot _ (by omega) (by omega) (by omega)⟩,
          hiZ.1.same fun b _ h2 => hot b (by omega) (by omega) (by omega), (hot g (by omega) (by omega) (by omega)).trans hiZ.2.1, ?_, ?_, ?_, (hot _ (by omega) (by omega) (by omega)).trans hiZ.2.2.2.2.2.1,
          ((hiZ.2.2.2.2.2.2.1.setCell (p := ⟨X.heap.size + 2, 0, none⟩) (show w.heap.size ≤ X.heap.size + 2 by omega) _).setCell (p := ⟨X.heap.size + 1, 0, none⟩) (show w.heap.size ≤ X.heap.size + 1 by omega) _).setCell (p := ⟨X.heap.size, 0, none⟩) (show w.heap.size ≤ X.heap.size by omega) _,
          fun D hd => (hot D (by have := HDX.out D hd; omega) (by have := HDX.out D hd; omega) (by have := HDX.out D hd; omega)).trans (hiZ.2.2.2.2.2.2.2 D hd)⟩
        · have hz : Blk ((Z.setCell ⟨X.heap.size + 2, 0, none⟩ (.int .u64 (bk x (k + 1) : Nat))).setCell ⟨X.heap.size + 1, 0, none⟩ (.int .i64 (lastB x (k + 1)))) X.heap.size 3 #[.int .i64 k] :=
            (Below.heap_setCell _ ⟨X.heap.size + 1, 0, none⟩ _ _ (show X.heap.size ≠ X.heap.size + 1 by omega)).trans ((Below.heap_setCell Z ⟨X.heap.size + 2, 0, none⟩ _ _ (show X.heap.size ≠ X.heap.size + 2 by omega)).trans hiZ.2.2.1)
          have := hz.set_ 0 (.int .i64 ((k : Int) + 1))
          rw [show (((k + 1 : Nat)) : Int) = (k : Int) + 1 from by omega]
          simpa using this
        · have hz : Blk (Z.setCell ⟨X.heap.size + 2, 0, none⟩ (.int .u64 (bk x (k + 1) : Nat))) (X.heap.size + 1) 3 #[.int .i64 (lastB x k)] :=
            (Below.heap_setCell Z ⟨X.heap.size + 2, 0, none⟩ _ _ (show X.heap.size + 1 ≠ X.heap.size + 2 by omega)).trans hiZ.2.2.2.1
          have := hz.set_ 0 (.int .i64 (lastB x (k + 1)))
          simp at this
          exact (Below.heap_setCell _ ⟨X.heap.size, 0, none⟩ _ _ (show X.heap.size + 1 ≠ X.heap.size by omega)).trans this
        · simp at s2
          exact (Below.heap_setCell _ ⟨X.heap.size, 0, none⟩ _ _ (show X.heap.size + 2 ≠ X.heap.size by omega)).trans ((Below.heap_setCell _ ⟨X.heap.size + 1, 0, none⟩ _ _ (show X.heap.size + 2 ≠ X.heap.size + 1 by omega)).trans s2))
      have Hsz := Lib.hid hsz
      obtain ⟨q, hq⟩ : ∃ q, lastB x k = q := ⟨_, rfl⟩
      obtain ⟨v, hv⟩ : ∃ v, bk x k = v := ⟨_, rfl⟩
      rw [hq] at hlast cl
      rw [hv] at cb Hbk Hbn
      clear hsz hi hiZ hq hv
      gi_wp2_with fail
      refine (calls_round _ _ (with_any v i true _ Hbk.out hi64)).mono ?_
      rintro e w' ⟨rfl, rfl⟩
      rcases (show T = 0 ∨ T = 1 by omega) with rfl | rfl
      · by_cases hm : many ≤ (k : Int) + 1
        · gi_wp2
          obtain ⟨v1, v2⟩ := HV.out _ _ Hbn.out Hln.out
          exact ⟨rfl, v1, (fun e => by cases e), v2⟩
        · gi_wp2
          obtain ⟨v1, v2⟩ := HV.out _ _ Hbn.out Hln.out
          exact ⟨v1, (fun e => by cases e), v2⟩
      · gi_wp2
        obtain ⟨v1, v2⟩ := HV.out _ _ Hbn.out Hln.out
        exact ⟨v1, (fun e => by cases e), v2⟩
    case rest =>
      rintro Y ⟨k, hk, hi, hf1⟩ hle hDk
      have ct := hi.2.1.cell 0
      have cb := hi.2.2.2.2.1.cell 0
      simp at ct cb
      have hend : ∀ (T' : Int) (arr : Array Value), 0 ≤ T' → T' + ((j - 1 : Nat) : Int) = 2 → arr = frameBi x A n c many w.heap.size Y.heap.size (fun i => arr.getD i undef) →
          K { tmps := arr, defers := { target := .collected X6.heap.size, args := #[] } :: Ds.map markOf } (Y.alloc (.cells #[.int .i64 T'] 3)) := by
        intro T' arr h1 h2 h3
        have h6 := Hs6.out
        refine HK.out (j - 1) _ _ (by omega) ⟨T', Y.heap.size, fun i => arr.getD i undef, X6.heap.size :: Ds, ?_, h1, h2, hi.1.same fun b _ h => Below.heap_alloc Y _ b (by omega), by omega, Blk.new Y 3 _, hi.2.2.2.2.2.2.1.alloc hi.2.2.2.2.2.2.1.size _, ?_, List.nodup_cons.2 ⟨fun h => by have := HDX.out _ h; omega, HDn.out⟩⟩
        · rw [← h3]; rfl
        · intro D hd
          rcases List.mem_cons.1 hd with rfl | hd
          · exact ⟨by omega, (Below.heap_alloc Y _ _ (by omega)).trans hDk⟩
          · have := HDX.out D hd
            exact ⟨(HD.out D hd).1, (Below.heap_alloc Y _ _ (by omega)).trans (hi.2.2.2.2.2.2.2 D hd)⟩
      have Hend := Lib.hid hend
      have hin := bk_in x k hk
      have hbl := bk_lt x k hk
      rcases (show T = 0 ∨ T = 1 by omega) with rfl | rfl
      · obtain ⟨v, hv⟩ : ∃ v, bk x k = v := ⟨_, rfl⟩
        rw [hv] at hin hbl cb
        have ha : Hid (bits .and .u64 (v : Int) (x : Int) = (v : Int)) := Lib.hid (by rw [bits_and_u64_nat v x hbl hx, hin])
        have hq : ((v : Int) != v) = false := by simp
        clear hend hi hDk hv hin hf1
        gi_wp2_with (simp only [ha.out])
        exact Hend.out 1 _ (by omega) (by omega) rfl
      · have hkn := hf1 rfl
        subst hkn
        rw [bk_all x hx] at cb
        have hq : ((x : Int) != x) = false := by simp
        clear hend hi hDk hin hf1
        gi_wp2
        exact Hend.out 2 _ (by omega) (by omega) rfl
end Go.Proofs.YtamgmbmjbegfgaaDoor
