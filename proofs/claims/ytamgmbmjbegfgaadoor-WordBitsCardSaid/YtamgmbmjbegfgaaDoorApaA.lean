/- The walk of word.Apart. Conditions: a slice of fields that reads as a list; the library's table reads as its text lays it. -/
import Derived.Test.YtamgmbmjbegfgaaDoorWrkB
namespace Go.Proofs.YtamgmbmjbegfgaaDoor
open Go.RowKit
set_option linter.unusedSimpArgs false
attribute [local go_sem] Oper.semAt_some wide_fn wide_depth

/-- A slice of fields that reads as a list. -/
def FReads (w : World) (B : Nat) (A : Option Addr) (n : Nat) (zs : List (Int × Int)) : Prop :=
  zs.length = n ∧ (0 < n → ∃ ad, A = some ad ∧ ad.block < B ∧ ∀ i p, zs[i]? = some p → w.cell? (ad.add (i * 2)) = some (.int .i64 p.1) ∧ w.cell? (ad.add (i * 2 + 1)) = some (.int .i64 p.2))
theorem FReads.at_ {w : World} {B n k : Nat} {A : Option Addr} {zs : List (Int × Int)} (h : FReads w B A n zs) (hk : k < n) :
    ∃ (ad : Addr) (f d : Int), A = some ad ∧ ad.block < B ∧ zs[k]? = some (f, d) ∧ w.cell? (ad.add (k * 2)) = some (.int .i64 f) ∧ w.cell? ⟨(ad.add (k * 2)).block, (ad.add (k * 2)).off + 1, none⟩ = some (.int .i64 d) := by
  obtain ⟨ad, e, hb, hc⟩ := h.2 (by omega)
  have hl : k < zs.length := by rw [h.1]; exact hk
  have hx : zs[k]? = some zs[k] := List.getElem?_eq_getElem hl
  have h2 := hc k _ hx
  exact ⟨ad, _, _, e, hb, hx, h2.1, (congrArg w.cell? (show (⟨(ad.add (k * 2)).block, (ad.add (k * 2)).off + 1, none⟩ : Addr) = ad.add (k * 2 + 1) from add_of_add ad (k * 2) 1)).trans h2.2⟩
theorem FReads.below {w w' : World} {B B' n : Nat} {A : Option Addr} {zs : List (Int × Int)} (h : FReads w B A n zs) (hb : Below B' w w') (hB : B ≤ B') : FReads w' B A n zs :=
  ⟨h.1, fun hn => by
    obtain ⟨ad, e, h1, hc⟩ := h.2 hn
    refine ⟨ad, e, h1, fun i p hp => ?_⟩
    obtain ⟨h3, h4⟩ := hc i p hp
    exact ⟨(hb.cell (by rw [block_of_add]; omega)).trans h3, (hb.cell (by rw [block_of_add]; omega)).trans h4⟩⟩

/-- Are fields apart, and apart from what was seen? -/
def apFrom : Nat → List (Int × Int) → Bool
  | _, [] => true
  | S, p :: t => fldOk p.1 p.2 && decide (S &&& hiM p.1.toNat p.2.toNat = 0) && apFrom (S ||| hiM p.1.toNat p.2.toNat) t
theorem hiM_bit (f d i : Nat) : (hiM f d).testBit i = decide (f ≤ i ∧ i < f + d) := by
  unfold hiM
  rw [sh_bit, lowM_bit]
  by_cases h : f ≤ i
  · by_cases h2 : i < f + d
    · simp [h, h2]; omega
    · simp [h, h2]; omega
  · simp [h]
theorem hiM_lt {f d : Nat} (h : f + d ≤ 64) : hiM f d < 18446744073709551616 := lowM_sh h
theorem and_zero (S M : Nat) (hM : M < 18446744073709551616) : S &&& M = 0 ↔ ∀ i ∈ onesL M, S.testBit i = false := by
  constructor
  · intro h i hi
    have h1 := ((onesL_mem M i).1 hi).2
    have h2 : (S &&& M).testBit i = false := by rw [h]; simp
    rw [Nat.testBit_and, h1] at h2
    simpa using h2
  · intro h
    apply word_ext
    intro i
    rw [Nat.testBit_and, Nat.zero_testBit]
    rcases Nat.lt_or_ge i 64 with hi | hi
    · cases hm : M.testBit i
      · simp
      · rw [h i ((onesL_mem M i).2 ⟨hi, hm⟩)]; rfl
    · rw [bit_lt (d := 64) hM hi]; simp
theorem bit_Z (S i : Nat) (hS : S < 18446744073709551616) : bits .and .u64 ((S : Int) / 2 ^ i) 1 = if S.testBit i then 1 else 0 := by
  have h := and_Z S i 1 hS (by omega)
  rw [show (lowM 1 : Nat) = 1 from rfl] at h
  rw [show bits .and .u64 ((S : Int) / 2 ^ i) 1 = (getN S i 1 : Int) from h]
  unfold getN
  rw [Nat.testBit_eq_decide_div_mod_eq, show (2 : Nat) ^ 1 = 2 from rfl]
  rcases Nat.mod_two_eq_zero_or_one (S / 2 ^ i) with h1 | h1 <;> rw [h1] <;> rfl

/-- The frame at the loop's head. -/
def frameAp (A : Option Addr) (n c B k : Nat) (u : Nat → Value) : Array Value := #[.slice A n c, u 1, .pointer (some ⟨B, 0, none⟩), .pointer (some ⟨B + 1, 0, none⟩), u 4, u 5, u 6, u 7, .slice A n c, .int .i64 n, .int .i64 k, u 11, u 12, u 13, u 14, u 15, u 16, u 17, u 18, u 19, u 20, u 21, u 22, u 23, u 24, u 25, u 26, u 27, u 28, u 29, u 30, u 31, u 32, u 33, u 34, u 35, u 36, u 37, u 38]
def markOf (D : Nat) : Deferred := { target := .collected D, args := #[] }
/-- What holds at the loop's head, j fields being still to come. -/
def HeadAp (w : World) (A : Option Addr) (n c : Nat) (zs : List (Int × Int)) (j : Nat) (a : Act) (X : World) : Prop :=
  ∃ (k S : Nat) (u : Nat → Value) (Ds : List Nat), a = { tmps := frameAp A n c w.heap.size k u, defers := Ds.map markOf } ∧ k + j = n ∧ S < 18446744073709551616 ∧ apFrom 0 zs = apFrom S (zs.drop k) ∧
    Blk X w.heap.size 4 #[.bool false] ∧ Blk X (w.heap.size + 1) 22 #[.int .u64 S] ∧ Below w.heap.size w X ∧ (∀ D ∈ Ds, w.heap.size + 2 ≤ D ∧ X.heap[D]? = some (.deferred (some []))) ∧ Ds.Nodup

set_option maxRecDepth 100000 in
set_option maxHeartbeats 4000000 in
theorem apart_any (zs : List (Int × Int)) (A : Option Addr) (n c : Nat) (w : World) (hr : FReads w w.heap.size A n zs) (hn : n ≤ 100) (hT : TabIn w) :
    Calls Tryd.prog 24 #[.slice A n c] w fun e w' => e = .returned (.bool (apFrom 0 zs)) ∧ Below w.heap.size w w' := by
  have hTl := hT.lt
  have HT := Lib.hid hT
  have hlen := Lib.hid hr.1
  have hord : Tryd.prog.follows .mixedOrders = true := by kernel_rfl
  clear hT
  refine (callsIn_wide (n := 3)).1 (callsIn_of_wp_marks Tryd.func24 rfl trivial ?_ rfl)
  simp only [Tryd.ntmps24, List.size_toArray, List.length_cons, List.length_nil, Nat.reduceAdd, Nat.reduceSub, Array.replicate_succ, Array.replicate_zero, List.push_toArray, List.append_toArray, List.nil_append, List.cons_append]
  gi_wp2_with fail
  have hhead : ∀ X, X = (w.alloc (.cells #[.bool false] 4)).alloc (.cells #[.int .u64 0] 22) → Blk X w.heap.size 4 #[.bool false] ∧ Blk X (w.heap.size + 1) 22 #[.int .u64 ((0 : Nat) : Int)] ∧ Below w.heap.size w X := by
    rintro X rfl
    have k1 := Blk.new (w.alloc (.cells #[.bool false] 4)) 22 #[.int .u64 0]
    simp only [World.size_alloc] at k1
    exact ⟨(Blk.new w 4 #[.bool false]).alloc _, k1, ((Below.refl _ w).alloc (Nat.le_refl _) _).alloc (by simp) _⟩
  obtain ⟨b0, b1, hbl⟩ := hhead _ rfl
  clear hhead
  generalize (w.alloc (.cells #[.bool false] 4)).alloc (.cells #[.int .u64 0] 22) = X0 at *
  refine wpIn_loop_ghost (HeadAp w A n c zs) n ⟨0, 0, fun _ => undef, [], rfl, by omega, by omega, by simp, b0, b1, hbl, by simp, List.nodup_nil⟩ ?_
  clear b0 b1 hbl
  rintro j a X ⟨k, S, u, Ds, rfl, hkj, hS, hap, hb0, hb1, hbl, hD, hDn⟩ K hK
  unfold frameAp
  have hXw : w.heap.size + 2 ≤ X.heap.size := by have := hb1.lt; omega
  by_cases hkn : k < n
  · obtain ⟨ad, f, d, rfl, hadb, hz, cf, cd⟩ := (hr.below hbl (Nat.le_refl _)).at_ hkn
    have hdrop : zs.drop k = (f, d) :: zs.drop (k + 1) := by
      have h1 := List.getElem?_eq_some_iff.1 hz
      obtain ⟨h2, h3⟩ := h1
      rw [List.drop_eq_getElem_cons h2, h3]
    rw [hdrop] at hap
    have hap' : apFrom 0 zs = (fldOk f d && decide (S &&& hiM f.toNat d.toNat = 0) && apFrom (S ||| hiM f.toNat d.toNat) (zs.drop (k + 1))) := hap
    have Hap := Lib.hid hap'
    have HD := Lib.hid hD
    have HDn := Lib.hid hDn
    have HDX : Hid (∀ D ∈ Ds, D < X.heap.size) := Lib.hid (fun D hd => (Array.getElem?_eq_some_iff.1 (hD D hd).2).1)
    have HK := Lib.hid hK
    have hk0 : (0 : Int) ≤ (k : Int) := by omega
    have hk1 : (k : Int) < (n : Int) := by omega
    clear hap hap' hdrop hz hD hDn hK
    gi_wp2_with fail
    have hX2 : ∀ X2, X2 = (X.alloc (.cells #[.int .i64 f, .int .i64 d] 24)).alloc (.cells #[.int .i64 f, .int .i64 d] 62) → Blk X2 (X.heap.size + 1) 62 #[.int .i64 f, .int .i64 d] ∧ Below X.heap.size X X2 ∧ X2.heap.size = X.heap.size + 2 := by
      rintro X2 rfl
      have k1 := Blk.new (X.alloc (.cells #[.int .i64 f, .int .i64 d] 24)) 62 #[.int .i64 f, .int .i64 d]
      simp only [World.size_alloc] at k1
      exact ⟨k1, ((Below.refl _ X).alloc (Nat.le_refl _) _).alloc (by simp) _, by simp⟩
    refine wpIn_scope_straight ?_
    gi_wp2_with fail
    obtain ⟨hx6, hbX, hsX⟩ := hX2 _ rfl
    clear hX2
    generalize (X.alloc (.cells #[.int .i64 f, .int .i64 d] 24)).alloc (.cells #[.int .i64 f, .int .i64 d] 62) = X2 at *
    refine (callsIn_wide.2 (sright_any f d _)).mono ?_
    rintro e W3 ⟨rfl, hb⟩
    have hb3 : Below X.heap.size X W3 := hbX.trans (hb.mono (by omega))
    replace hx6 := hx6.below hb hx6.lt
    have HsX := Lib.hid hsX
    clear hb hbX hsX cf cd
    cases hok : fldOk f d
    · have he : Hid (apFrom 0 zs = false) := Lib.hid (by rw [Hap.out, hok]; rfl)
      have hc0 := (hb0.below hb3 hb0.lt)
      have kb := hc0.cell 0
      have kf := hc0.frozen 0
      have hset := hc0.set_ 0 (.bool false)
      simp at kb hset
      have hDD : ∀ D ∈ Ds, w.heap.size + 2 ≤ D ∧ (W3.setCell ⟨w.heap.size, 0, none⟩ (.bool false)).heap[D]? = some (.deferred (some [])) := fun D hd => by
        obtain ⟨h1, h2⟩ := HD.out D hd
        exact ⟨h1, (Below.heap_setCell W3 ⟨w.heap.size, 0, none⟩ _ D (show D ≠ w.heap.size by omega)).trans ((hb3.block D (HDX.out D hd)).trans h2)⟩
      have hbl2 : Below w.heap.size w (W3.setCell ⟨w.heap.size, 0, none⟩ (.bool false)) := (hbl.trans (hb3.mono (by omega))).setCell (p := ⟨w.heap.size, 0, none⟩) (Nat.le_refl _) _
      have hDD' := Lib.hid hDD
      clear hDD hok
      gi_wp2
      refine leaves_marks (w.heap.size + 2) Ds _ hDD'.out HDn.out fun W' hW => ?_
      have hcs := (hset.below hW (by omega)).cell 0
      simp at hcs
      exact ⟨.bool false, by simp [results, Tryd.results24, go_sem, hcs], by rw [he.out], hbl2.trans (hW.mono (by omega))⟩
    · obtain ⟨F, D, rfl, rfl, hD1, hFD⟩ := fldOk_nat hok
      have hap2 : apFrom 0 zs = (decide (S &&& hiM F D = 0) && apFrom (S ||| hiM F D) (zs.drop (k + 1))) := by rw [Hap.out, hok, Int.toNat_natCast, Int.toNat_natCast, Bool.true_and]
      have i1 := ix1 (.int .u64 (lowM D)) (.int .u64 (hiM F D))
      have kc := hx6.cell 0
      have kd := hx6.cell 1
      simp at kc kd
      have hMl := hiM_lt hFD
      have hMM := and_zero S (hiM F D) hMl
      obtain ⟨M, hM⟩ : ∃ M, hiM F D = M := ⟨_, rfl⟩
      rw [hM] at hap2 hMM hMl i1
      have HMl := Lib.hid hMl
      have HMM := Lib.hid hMM
      have Hap2 := Lib.hid hap2
      have HM := Lib.hid hM
      clear hok hap2 hMM hMl hM Hap
      gi_wp2_with fail
      refine wpIn_label ?_
      gi_wp2_with fail
      refine (callsIn_wide.2 (masks_any F D _ hD1 hFD)).mono ?_
      rintro e W4 ⟨rfl, hb⟩
      rw [HM.out]
      have hb4 : Below X.heap.size X W4 := hb3.trans (hb.mono hb3.size)
      replace hx6 := hx6.below hb hx6.lt
      have hx6l := hx6.lt
      clear hb hb3 kc kd
      gi_wp2_with fail
      refine (callsIn_wide.2 (mkbits_any M _)).mono ?_
      rintro e W5 ⟨rfl, rfl⟩
      gi_wp2_with fail
      have hin : ∀ W5, W5 = W4.alloc (.cells #[.int .u64 M] 22) → Blk W5 W4.heap.size 22 #[.int .u64 M] ∧ Below X.heap.size X W5 ∧ Blk W5 (X.heap.size + 1) 62 #[.int .i64 (F : Int), .int .i64 (D : Int)] ∧ W5.heap.size = W4.heap.size + 1 := by
        rintro W5 rfl
        exact ⟨Blk.new W4 _ _, hb4.alloc hb4.size _, hx6.alloc _, by simp⟩
      obtain ⟨hbb, hb5, hx5, hs5⟩ := hin _ rfl
      clear hin hx6
      have z4 : X.heap.size ≤ W4.heap.size := hb4.size
      clear hb4
      generalize W4.alloc (.cells #[.int .u64 M] 22) = W5 at *
      have Hs5 := Lib.hid hs5
      have z5 : X.heap.size ≤ W5.heap.size := hb5.size
      have HT5 : Hid (TabIn W5) := Lib.hid (HT.out.below (hbl.trans (hb5.mono (by omega))) hTl)
      have hb05 := hb0.below hb5 hb0.lt
      have hb15 := hb1.below hb5 hb1.lt
      have hbl5 := hbl.trans (hb5.mono (by omega))
      have HD5 : Hid (∀ D ∈ Ds, w.heap.size + 2 ≤ D ∧ D < X.heap.size ∧ W5.heap[D]? = some (.deferred (some []))) := Lib.hid (fun D hd => by
        obtain ⟨h1, h2⟩ := HD.out D hd
        exact ⟨h1, HDX.out D hd, (hb5.block D (HDX.out D hd)).trans h2⟩)
      clear hs5 hb0 hb1 hbl
      refine rangeFunc_law (gf := 38) (lb := #[.pointer (some ⟨W4.heap.size, 0, none⟩)]) rfl (enters_of Tryd.func38 (by kernel_rfl) rfl) (bits_iter W4.heap.size M HMl.out) (fun _ => rfl)
        (fun k Y => Below W5.heap.size W5 Y ∧ ∀ i, i < k → S.testBit ((onesL M).getD i 0) = false)
        (fun c _ Y => c = .ret ∧ S &&& M ≠ 0 ∧ Blk Y w.heap.size 4 #[.bool false] ∧ Below w.heap.size w Y ∧ ∀ D ∈ Ds, Y.heap[D]? = some (.deferred (some [])))
        ?hI ?hIx ?hIl ?hIxl ?hIR ?h0 ?hround ?hdone ?hstop
      case hI =>
        rintro k Y Z ⟨hi, hf⟩ hle hb
        simp only [Bool.false_eq_true, if_false] at hb
        exact ⟨hi.trans (hb.mono (by omega)), hf⟩
      case hIx =>
        rintro c k Y Z ⟨h1, h2, h3, h4, h5⟩ hle hb
        simp only [Bool.false_eq_true, if_false] at hb
        exact ⟨h1, h2, h3.below hb h3.lt, h4.trans (hb.mono (by have := h3.lt; omega)), fun D hd => (hb.block D (Array.getElem?_eq_some_iff.1 (h5 D hd)).1).trans (h5 D hd)⟩
      case hIl =>
        rintro k Y Z ⟨hi, hf⟩ hb
        exact ⟨hi.trans (below_only hb (by omega) hi.size), hf⟩
      case hIxl =>
        rintro c k Y Z ⟨h1, h2, h3, h4, h5⟩ hb
        have hlt := h3.lt
        exact ⟨h1, h2, blk_only h3 hb (by omega), h4.trans (below_only hb (by omega) (by omega)), fun D hd => (hb.block D (Array.getElem?_eq_some_iff.1 (h5 D hd)).1 (by have := (HD5.out D hd).2.1; simp; omega)).trans (h5 D hd)⟩
      case hIR =>
        rintro k Y ⟨hi, _⟩
        refine ⟨?_, HT5.out.below hi HT5.out.lt⟩
        have := (hbb.below hi hbb.lt).cell 0
        simpa using this
      case h0 =>
        intro Y hb
        exact ⟨hb, fun i h => absurd h (by omega)⟩
      case hround =>
        rintro k' Y hk' ⟨hi, hf⟩ hle
        obtain ⟨i, hi'⟩ : ∃ i, (onesL M).getD k' 0 = i := ⟨_, rfl⟩
        have hmem : i ∈ onesL M := by
          rw [← hi', List.getD_eq_getElem?_getD, List.getElem?_eq_getElem hk']
          exact List.getElem_mem _
        have hi64 := ((onesL_mem M i).1 hmem).1
        rw [hi']
        gi_wp2
        refine ⟨Bk.refl _ _, fun Z hYZ hsz => ?_⟩
        have hiZ : Below W5.heap.size W5 Z := hi.trans (below_only hYZ (by omega) hi.size)
        have hc0 := hb05.below hiZ hb05.lt
        have hc1 := (hb15.below hiZ hb15.lt).cell 0
        have kb := hc0.cell 0
        have kf := hc0.frozen 0
        simp at hc1 kb
        have hz := bit_Z S i hS
        cases hbit : S.testBit i
        · rw [hbit] at hz
          have hf' : Hid (∀ q, q < k' + 1 → S.testBit ((onesL M).getD q 0) = false) := Lib.hid (fun q hq => by
            rcases Nat.lt_or_ge q k' with h | h
            · exact hf q h
            · rw [show q = k' by omega, hi']; exact hbit)
          simp only [Bool.false_eq_true, if_false] at hz
          have HZ := Lib.hid hiZ
          clear hf hbit hi hi' hmem hiZ
          gi_wp2
          exact ⟨Bk.refl _ _, (fun e => by cases e), HZ.out, hf'.out⟩
        · rw [hbit] at hz
          simp only [if_true] at hz
          have hne : Hid (S &&& M ≠ 0) := Lib.hid (fun h0 => by
            rw [HMM.out.1 h0 i hmem] at hbit
            cases hbit)
          have hfin : Bk W5.heap.size Z (Z.setCell ⟨w.heap.size, 0, none⟩ (.bool false)) ∧ Blk (Z.setCell ⟨w.heap.size, 0, none⟩ (.bool false)) w.heap.size 4 #[.bool false] ∧ Below w.heap.size w (Z.setCell ⟨w.heap.size, 0, none⟩ (.bool false)) ∧ ∀ D ∈ Ds, (Z.setCell ⟨w.heap.size, 0, none⟩ (.bool false)).heap[D]? = some (.deferred (some [])) := by
            have hset := hc0.set_ 0 (.bool false)
            simp at hset
            have hne : ∀ b, b ≠ w.heap.size → (Z.setCell ⟨w.heap.size, 0, none⟩ (.bool false)).heap[b]? = Z.heap[b]? := fun b hb => Below.heap_setCell Z ⟨w.heap.size, 0, none⟩ _ b hb
            refine ⟨⟨by simp [World.setCell], hne _ (by omega), hne _ (by omega)⟩, hset, (hbl5.trans (hiZ.mono (by omega))).setCell (p := ⟨w.heap.size, 0, none⟩) (Nat.le_refl _) _, fun D hd => ?_⟩
            obtain ⟨h1, h2, h3⟩ := HD5.out D hd
            exact (hne D (by omega)).trans ((hiZ.block D (by omega)).trans h3)
          have Hfin := Lib.hid hfin
          clear hf hbit hi hi' hmem hiZ hfin
          gi_wp2
          obtain ⟨f1, f2, f3, f4⟩ := Hfin.out
          exact ⟨f1, (fun e => by cases e), rfl, hne.out, f2, f3, f4⟩
      case hdone =>
        rintro Y ⟨hi, hf⟩ hle hDk
        have hz : S &&& M = 0 := HMM.out.2 (fun i hmem => by
          obtain ⟨q, hq, e⟩ := List.mem_iff_getElem.1 hmem
          have := hf q hq
          rw [List.getD_eq_getElem?_getD, List.getElem?_eq_getElem hq, Option.getD_some, e] at this
          exact this)
        have he : apFrom 0 zs = apFrom (S ||| M) (zs.drop (k + 1)) := by rw [Hap2.out, decide_eq_true hz, Bool.true_and]
        have hor : bits .or .u64 (S : Int) (M : Int) = ((S ||| M : Nat) : Int) := bits_or_u64_nat S M hS HMl.out
        have hSM := or_lt hS HMl.out
        obtain ⟨S', hS'⟩ : ∃ S', S ||| M = S' := ⟨_, rfl⟩
        rw [hS'] at he hor hSM
        have hend : ∀ (W6 : World) (arr : Array Value), Below Y.heap.size Y W6 → arr = frameAp (some ad) n c w.heap.size (k + 1) (fun i => arr.getD i undef) →
            K { tmps := arr, defers := { target := .collected W5.heap.size, args := #[] } :: Ds.map markOf } (W6.setCell ⟨w.heap.size + 1, 0, none⟩ (.int .u64 (S' : Int))) := by
          intro W6 arr hY6 harr
          have h56 : Below W5.heap.size W5 W6 := hi.trans (hY6.mono hi.size)
          have hyl : W5.heap.size ≤ Y.heap.size := hi.size
          have hne : ∀ b, b ≠ w.heap.size + 1 → (W6.setCell ⟨w.heap.size + 1, 0, none⟩ (.int .u64 (S' : Int))).heap[b]? = W6.heap[b]? := fun b hb => Below.heap_setCell W6 ⟨w.heap.size + 1, 0, none⟩ _ b hb
          have hset := (hb15.below h56 hb15.lt).set_ 0 (.int .u64 (S' : Int))
          simp at hset
          refine HK.out (j - 1) _ _ (by omega) ⟨k + 1, S', fun i => arr.getD i undef, W5.heap.size :: Ds, ?_, by omega, hSM, he, ?_, hset, (hbl5.trans (h56.mono (by omega))).setCell (p := ⟨w.heap.size + 1, 0, none⟩) (show w.heap.size ≤ w.heap.size + 1 by omega) _, ?_, List.nodup_cons.2 ⟨fun h => by have := (HD5.out _ h).2.1; omega, HDn.out⟩⟩
          · rw [← harr]; rfl
          · exact (hne _ (by omega)).trans (hb05.below h56 hb05.lt)
          · intro D hd
            rcases List.mem_cons.1 hd with rfl | hd
            · exact ⟨by omega, (hne _ (by omega)).trans ((hY6.block _ (by omega)).trans hDk)⟩
            · obtain ⟨h1, h2, h3⟩ := HD5.out D hd
              exact ⟨h1, (hne D (by omega)).trans ((h56.block D (by omega)).trans h3)⟩
        have Hend := Lib.hid hend
        have hc1 := hb15.below hi hb15.lt
        have hcx := hx5.below hi hx5.lt
        have kb := hc1.cell 0
        have kf := hc1.frozen 0
        have kc := hcx.cell 0
        have kd := hcx.cell 1
        simp at kb kc kd
        have Hor := Lib.hid hor
        have HS' := Lib.hid hS'
        clear he hz hf hend hSM hor hS' hDk
        gi_wp2_with fail
        refine draw_orders [[0, 1, 2, 3, 4, 5, 6], [1, 0, 2, 3, 4, 5, 6], [1, 2, 0, 3, 4, 5, 6], [1, 2, 3, 0, 4, 5, 6], [1, 2, 3, 4, 0, 5, 6]] hord (by kernel_rfl) ?_
        intro o ho
        simp only [List.mem_cons, List.not_mem_nil, or_false] at ho
        rcases ho with rfl | rfl | rfl | rfl | rfl
        all_goals refine ⟨_, ⟨_, _, rfl, rfl, _, _, rfl, rfl, _, _, rfl, rfl, _, _, rfl, rfl, _, _, rfl, rfl, _, _, rfl, rfl, _, _, rfl, rfl, rfl⟩, ?_⟩
        all_goals simp only [List.getElem_toArray, List.getElem_cons_zero, List.getElem_cons_succ]
        all_goals
          gi_wp2_with fail
          refine (callsIn_wide.2 (masks_any F D _ hD1 hFD)).mono ?_
          rintro e W6 ⟨rfl, hb⟩
          rw [HM.out]
          have hY6 : Below Y.heap.size Y W6 := (by first | exact hb | exact ((Below.refl _ Y).drew).trans (hb.mono (Nat.le_refl _)))
          have kb6 := (hc1.below hY6 hc1.lt).cell 0
          have kf6 := (hc1.below hY6 hc1.lt).frozen 0
          simp at kb6
          have hfin := Hend.out W6
          have Hfin := Lib.hid hfin
          have HY6 := Lib.hid hY6
          clear hb hY6 hfin kb kf kc kd
          gi_wp2
          rw [Hor.out]
          rw [Exit.noGoto_normal]
          gi_wp2
          refine Hfin.out _ HY6.out ?_
          rfl
      case hstop =>
        rintro c k' Y h0 hk' ⟨rfl, hne, h3, h4, h5⟩ hle hDk
        have he : Hid (apFrom 0 zs = false) := Lib.hid (by rw [Hap2.out, decide_eq_false hne]; rfl)
        have hDD : Hid (∀ D ∈ W5.heap.size :: Ds, w.heap.size + 2 ≤ D ∧ Y.heap[D]? = some (.deferred (some []))) := Lib.hid (fun D hd => by
          rcases List.mem_cons.1 hd with rfl | hd
          · exact ⟨by omega, hDk⟩
          · exact ⟨(HD5.out D hd).1, h5 D hd⟩)
        have hnd : Hid ((W5.heap.size :: Ds).Nodup) := Lib.hid (List.nodup_cons.2 ⟨fun h => by have := (HD5.out _ h).2.1; omega, HDn.out⟩)
        clear hne h5 hDk
        gi_wp2
        refine leaves_marks (w.heap.size + 2) (W5.heap.size :: Ds) _ hDD.out hnd.out fun W' hW => ?_
        have hcs := (h3.below hW (by omega)).cell 0
        simp at hcs
        exact ⟨.bool false, by simp [results, Tryd.results24, go_sem, hcs], by rw [he.out], h4.trans (hW.mono (by omega))⟩
  · have he : Hid (apFrom 0 zs = true) := Lib.hid (by rw [hap, List.drop_of_length_le (by have := hlen.out; omega)]; rfl)
    have kb := hb0.cell 0
    have kf := hb0.frozen 0
    have hset := hb0.set_ 0 (.bool true)
    simp at kb hset
    have hDD : Hid (∀ D ∈ Ds, w.heap.size + 2 ≤ D ∧ (X.setCell ⟨w.heap.size, 0, none⟩ (.bool true)).heap[D]? = some (.deferred (some []))) := Lib.hid (fun D hd => by
      obtain ⟨h1, h2⟩ := hD D hd
      exact ⟨h1, (Below.heap_setCell X ⟨w.heap.size, 0, none⟩ _ D (show D ≠ w.heap.size by omega)).trans h2⟩)
    have hbl2 : Below w.heap.size w (X.setCell ⟨w.heap.size, 0, none⟩ (.bool true)) := hbl.setCell (p := ⟨w.heap.size, 0, none⟩) (Nat.le_refl _) _
    clear hap hD hK
    gi_wp2
    refine leaves_marks (w.heap.size + 2) Ds _ hDD.out hDn fun W' hW => ?_
    have hcs := (hset.below hW (by omega)).cell 0
    simp at hcs
    exact ⟨.bool true, by simp [results, Tryd.results24, go_sem, hcs], by rw [he.out], hbl2.trans (hW.mono (by omega))⟩
end Go.Proofs.YtamgmbmjbegfgaaDoor
