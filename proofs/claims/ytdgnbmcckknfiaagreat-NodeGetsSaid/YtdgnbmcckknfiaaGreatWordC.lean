/- The walk of word.Words. Conditions: at most 4096 bytes that read as a list. -/
import Derived.Test.YtdgnbmcckknfiaaGreatWordB
namespace Go.Proofs.YtdgnbmcckknfiaaGreat
open Go.RowKit
attribute [local go_sem] Oper.semAt_some wide_fn wide_depth

/-- The k-th word of bytes, and the first k words. -/
def wordAt (bs : List Int) (k : Nat) : Int := fold8 0 ((bs.drop (8 * k)).take 8).reverse
def wordsTo (bs : List Int) (k : Nat) : List Int := (List.range k).map (wordAt bs)
def wordsOf (bs : List Int) : List Int := wordsTo bs ((bs.length + 7) / 8)
theorem wordsTo_succ (bs : List Int) (k : Nat) : wordsTo bs (k + 1) = wordsTo bs k ++ [wordAt bs k] := by
  unfold wordsTo
  rw [List.range_succ, List.map_append]
  rfl

theorem own_below {X Y : World} {base : Nat} {e : TypeId} {size n : Nat} {v : Value} {xs : List Value} (h : X.ownsRow base e size v n xs) (hb : Below X.heap.size X Y) : Y.ownsRow base e size v n xs :=
  h.kept (row := none) ⟨hb.os, hb.tape, hb.output, hb.size, fun i hi _ => hb.block i hi⟩ (by
    cases h' : v.ownBlock
    · exact .inl rfl
    · exact .inr (by simp))

theorem own_form {w : World} {base : Nat} {e : TypeId} {size n : Nat} {v : Value} {xs : List Value} (h : w.ownsRow base e size v n xs) : ∃ A c, v = .slice A n c := by
  rcases h.2 with ⟨rfl, rfl⟩ | ⟨g, c, _, rfl, _⟩
  · exact ⟨_, _, rfl⟩
  · exact ⟨_, _, rfl⟩

theorem own_more {w : World} {base base' : Nat} {e : TypeId} {size n : Nat} {v : Value} {xs : List Value} (h : w.ownsRow base e size v n xs) (hb : base' ≤ base) : w.ownsRow base' e size v n xs := by
  refine ⟨h.1, ?_⟩
  rcases h.2 with hn | ⟨g, c, cur, rfl, h1, h2⟩
  · exact .inl hn
  · exact .inr ⟨g, c, cur, rfl, Nat.le_trans hb h1, h2⟩

/-- What holds between two rounds of Words, k words having come. -/
def WordsIn (B : Nat) (bs : List Int) (A : Option Addr) (n c : Nat) (w : World) (k : Nat) (X : World) : Prop :=
  (∃ v, Blk X B 135 #[v] ∧ X.ownsRow (B + 5) 22 1 v k ((wordsTo bs k).map (Value.int .u64))) ∧ Blk X (B + 1) 140 #[.slice A n c] ∧ Blk X (B + 1 + 1) 3 #[.int .i64 8] ∧ Below B w X
theorem WordsIn.below {B : Nat} {bs : List Int} {A : Option Addr} {n c : Nat} {w : World} {k : Nat} {X Y : World} (h : WordsIn B bs A n c w k X) (hb : Below X.heap.size X Y) : WordsIn B bs A n c w k Y := by
  obtain ⟨⟨v, h1, h2⟩, h3, h4, h5⟩ := h
  exact ⟨⟨v, h1.below hb h1.lt, own_below h2 hb⟩, h3.below hb h3.lt, h4.below hb h4.lt, h5.trans (hb.mono (by have := h3.lt; omega))⟩
theorem WordsIn.only {B : Nat} {bs : List Int} {A : Option Addr} {n c : Nat} {w : World} {k : Nat} {X Y : World} (h : WordsIn B bs A n c w k X) (hb : X.grownBy Y (some (B + 3 + 1))) : WordsIn B bs A n c w k Y := by
  obtain ⟨⟨v, h1, h2⟩, h3, h4, h5⟩ := h
  refine ⟨⟨v, blk_only h1 hb (by omega), h2.kept hb ?_⟩, blk_only h3 hb (by omega), blk_only h4 hb (by omega), h5.trans (below_only hb (by omega) (by have := h3.lt; omega))⟩
  cases h' : v.ownBlock with
  | none => exact .inl rfl
  | some g =>
    refine .inr ?_
    have := h2.lt g h'
    simp
    omega

theorem info64 : (Tryz.prog.info? 22).map (fun i => (i.zero, i.size, i.bytes)) = some (some (.int .u64 0), 1, 8) := by kernel_rfl

set_option maxRecDepth 100000 in
set_option maxHeartbeats 2000000 in
theorem words_any (bs : List Int) (A : Option Addr) (n c : Nat) (w : World) (hr : U8s w w.heap.size A n bs) (hx : ∀ x ∈ bs, 0 ≤ x ∧ x < 256) (hc : n ≤ c) (hn : n ≤ 4096) :
    Calls Tryz.prog 91 #[.slice A n c] w fun e w' => ∃ v, e = .returned (.tuple #[v, .int .i64 0]) ∧
      w'.ownsRow w.heap.size 22 1 v ((n + 7) / 8) ((wordsOf bs).map (Value.int .u64)) ∧ Below w.heap.size w w' := by
  obtain ⟨i0, hi0, hz0, hz1, hz2⟩ := info_parts info64
  have hlen := hr.len
  have hA : 0 < n → ∃ ad, A = some ad := fun h => by obtain ⟨ad, h1, _⟩ := hr.at_ h; exact ⟨ad, h1⟩
  refine (callsIn_wide (n := 3)).1 (callsIn_of_wp_marks Tryz.func91 rfl trivial ?_ rfl)
  simp only [Tryz.ntmps91, List.size_toArray, List.length_cons, List.length_nil, Nat.reduceAdd, Nat.reduceSub, Array.replicate_succ, Array.replicate_zero, List.push_toArray, List.append_toArray, List.nil_append, List.cons_append]
  gi_wp2_with fail
  refine (callsIn_wide.2 (chunk_any _ _ _ _)).mono ?_
  rintro e w1 ⟨rfl, rfl⟩
  gi_wp2_with fail
  have hin0 : ∀ W3, W3 = (((w.alloc (.cells #[.slice none 0 0] 135)).alloc (.cells #[.slice A n c] 140)).alloc (.cells #[.int .i64 8] 3)) → WordsIn w.heap.size bs A n c w 0 W3 ∧ W3.heap.size = w.heap.size + 3 := by
    rintro W3 rfl
    have k0 := Blk.new w 135 #[.slice none 0 0]
    have k1 := Blk.new (w.alloc (.cells #[.slice none 0 0] 135)) 140 #[.slice A n c]
    have k2 := Blk.new ((w.alloc (.cells #[.slice none 0 0] 135)).alloc (.cells #[.slice A n c] 140)) 3 #[.int .i64 8]
    replace k0 := (k0.alloc (.cells #[.slice A n c] 140)).alloc (.cells #[.int .i64 8] 3)
    replace k1 := k1.alloc (.cells #[.int .i64 8] 3)
    simp only [World.size_alloc] at k0 k1 k2
    exact ⟨⟨⟨_, k0, by simpa [wordsTo] using World.ownsRow_nil _ _ _ _⟩, k1, k2, (((Below.refl _ w).alloc (Nat.le_refl _) _).alloc (by simp) _).alloc (by simp; omega) _⟩, by simp⟩
  obtain ⟨in0, hs3⟩ := hin0 _ rfl
  clear hin0
  generalize (((w.alloc (.cells #[.slice none 0 0] 135)).alloc (.cells #[.slice A n c] 140)).alloc (.cells #[.int .i64 8] 3)) = W3 at *
  have Hs3 := Lib.hid hs3
  have Hlen := Lib.hid hlen
  have HA := Lib.hid hA
  have Hx := Lib.hid hx
  clear hs3 hlen hA hx
  refine rangeFunc_break (gf := 106) (lb := #[.pointer (some ⟨w.heap.size + 1, 0, none⟩), .pointer (some ⟨w.heap.size + 1 + 1, 0, none⟩)]) rfl (enters_of Tryz.func106 (by kernel_rfl) rfl) (chunk_iter (w.heap.size + 1) (w.heap.size + 1 + 1) A n c (by omega) hc HA.out) (fun _ => rfl)
    (fun k Y => WordsIn w.heap.size bs A n c w k Y) (fun _ _ => False) (fun Y => WordsIn w.heap.size bs A n c w ((n + 7) / 8) Y)
    ?hI ?hIx ?hIl ?hIxl ?hIR ?h0 ?hround ?hG1 ?hG2 ?rest
  case hI =>
    intro k Y Z hi hle hb
    simp only [Bool.false_eq_true, if_false] at hb
    exact hi.below hb
  case hIx => exact fun _ _ _ h => h.elim
  case hIl =>
    intro k Y Z hi hb
    rw [Hs3.out] at hb
    exact hi.only hb
  case hIxl => exact fun _ _ _ h => h.elim
  case hIR =>
    intro k Y hi
    exact ⟨by simpa using hi.2.1.cell 0, by simpa using hi.2.2.1.cell 0⟩
  case h0 =>
    intro Y hb
    exact in0.below hb
  case hG1 => exact fun Y h => h
  case hG2 => exact fun _ _ _ _ h => h.elim
  case hround =>
    intro k Y hk hi hle
    obtain ⟨ad, rfl⟩ := HA.out (by omega)
    obtain ⟨mm, hmm⟩ : ∃ mm, min 8 (n - 8 * k) = mm := ⟨_, rfl⟩
    rw [chunkAt_eq ad n k mm hmm]
    gi_wp2
    refine ⟨Bk.refl _ _, fun Z hYZ hsz => ?_⟩
    have hiZ : WordsIn w.heap.size bs (some ad) n c w k Z := hi.only (by rw [Hs3.out] at hYZ; exact hYZ)
    have hch : U8s Z Z.heap.size (some (ad.add (8 * k))) mm ((bs.drop (8 * k)).take mm) := by
      have h1 := Reads.cut (k := 8 * k) (cap := 8 * k + n) (Reads.more (Reads.below hr hiZ.2.2.2) hiZ.2.2.2.size) (by omega) (by omega)
      rw [if_neg (by omega)] at h1
      have h2 := Reads.front (k := mm) (by simpa using h1) (by omega)
      unfold U8s
      rw [List.map_take, List.map_drop]
      simpa using h2
    have htk : (bs.drop (8 * k)).take 8 = (bs.drop (8 * k)).take mm := by
      rcases Nat.le_total 8 (n - 8 * k) with h | h
      · rw [show mm = 8 by omega]
      · rw [List.take_of_length_le (by rw [List.length_drop, Hlen.out]; omega), List.take_of_length_le (by rw [List.length_drop, Hlen.out]; omega)]
    have hwk : wordAt bs k = fold8 0 ((bs.drop (8 * k)).take mm).reverse := by unfold wordAt; rw [htk]
    have hin8 : ∀ x ∈ ((bs.drop (8 * k)).take mm).reverse, 0 ≤ x ∧ x < 256 := fun x h => Hx.out x (List.mem_of_mem_drop (List.mem_of_mem_take (List.mem_reverse.1 h)))
    have Hwk := Lib.hid hwk
    have Hin8 := Lib.hid hin8
    have Hmm := Lib.hid hmm
    have Hsz := Lib.hid hsz
    clear hwk hin8 htk hmm hsz
    have hm1 : 0 < mm := by have := Hmm.out; omega
    have hm8 : mm ≤ 8 := by have := Hmm.out; omega
    gi_wp2_with fail
    refine (calls_round _ _ (clone_any _ _ mm mm _ hch hm1 (by omega))).mono ?_
    rintro e Z1 ⟨g, cap, rfl, hown1, hb1⟩
    gi_wp2_with fail
    refine (calls_round _ _ (reverse_any _ g mm cap Z.heap.size _ hown1 (by omega))).mono ?_
    rintro e Z2 ⟨rfl, hown2, hg2⟩
    have hgZ : Z.heap.size ≤ g := (hown1.lt g rfl).1
    have hb2 : Below Z.heap.size Z Z2 := hb1.grown hg2 hb1.size (by simp; omega)
    have hi2 : WordsIn w.heap.size bs (some ad) n c w k Z2 := hiZ.below hb2
    have hfr : U8s Z2 Z2.heap.size (some ⟨g, 0, none⟩) mm ((bs.drop (8 * k)).take mm).reverse := Reads.of_own hown2
    obtain ⟨⟨v, hbox, hrow⟩, hi3, hi4, hbl⟩ := hi2
    have hord : Tryz.prog.follows .mixedOrders = true := by kernel_rfl
    have hvb : ∀ b, v.ownBlock = some b → w.heap.size + 5 ≤ b ∧ b < Z2.heap.size := hrow.lt
    have hfin : ∀ (w0 w1 : World) (g' cap' : Nat), Below Z2.heap.size Z2 w0 → w1.ownsRow (w.heap.size + 5) 22 1 (.slice (some ⟨g', 0, none⟩) (k + 1) cap') (k + 1) ((wordsTo bs k).map (Value.int .u64) ++ [.int .u64 (fold8 0 ((bs.drop (8 * k)).take mm).reverse)]) → w0.grownBy w1 v.ownBlock →
        Blk w1 w.heap.size 135 #[v] ∧ Bk W3.heap.size Z (w1.setCell ⟨w.heap.size, 0, none⟩ (.slice (some ⟨g', 0, none⟩) (k + 1) cap')) ∧ Kp false (W3.heap.size + 2) Y (w1.setCell ⟨w.heap.size, 0, none⟩ (.slice (some ⟨g', 0, none⟩) (k + 1) cap')) ∧
          WordsIn w.heap.size bs (some ad) n c w (k + 1) (w1.setCell ⟨w.heap.size, 0, none⟩ (.slice (some ⟨g', 0, none⟩) (k + 1) cap')) := by
      intro w0 w1 g' cap' h0 h1 h2
      have h3 := Hs3.out
      have hq2 : w.heap.size + 5 ≤ Z.heap.size := by have := Hsz.out; omega
      have hz3 : Z.heap.size ≤ Z2.heap.size := hb2.size
      have hlow : ∀ b, b < w.heap.size + 5 → w1.heap[b]? = Z2.heap[b]? := fun b hb =>
        (h2.block b (by have := h0.size; omega) (fun e => by have := hvb b e.symm; omega)).trans (h0.block b (by omega))
      have hset : ∀ b, b ≠ w.heap.size → (w1.setCell ⟨w.heap.size, 0, none⟩ (.slice (some ⟨g', 0, none⟩) (k + 1) cap')).heap[b]? = w1.heap[b]? := fun b hb => Below.heap_setCell w1 ⟨w.heap.size, 0, none⟩ _ b hb
      have hb1' : Blk w1 w.heap.size 135 #[v] := (hlow _ (by omega)).trans hbox
      have hg' : w.heap.size + 5 ≤ g' := (h1.lt g' rfl).1
      have hsz1 : w0.heap.size ≤ w1.heap.size := h2.size
      refine ⟨hb1', ⟨?_, ?_, ?_⟩, (fun e => by cases e), ⟨.slice (some ⟨g', 0, none⟩) (k + 1) cap', ?_, ?_⟩, ?_, ?_, ?_⟩
      · have := h0.size; simp [World.setCell]; omega
      · exact ((hset _ (by omega)).trans (hlow _ (by omega))).trans (hb2.block _ (by omega))
      · exact ((hset _ (by omega)).trans (hlow _ (by omega))).trans (hb2.block _ (by omega))
      · simpa using hb1'.set_ 0 (.slice (some ⟨g', 0, none⟩) (k + 1) cap')
      · have h4 : (w1.setCell ⟨w.heap.size, 0, none⟩ (.slice (some ⟨g', 0, none⟩) (k + 1) cap')).ownsRow (w.heap.size + 5) 22 1 (.slice (some ⟨g', 0, none⟩) (k + 1) cap') (k + 1) ((wordsTo bs k).map (Value.int .u64) ++ [.int .u64 (fold8 0 ((bs.drop (8 * k)).take mm).reverse)]) :=
          h1.kept (row := some w.heap.size) (grownBy_setCell' w1 w.heap.size _) (.inr (by simp [Value.ownBlock]; omega))
        rw [wordsTo_succ, List.map_append, Hwk.out]
        exact h4
      · exact (hset _ (by omega)).trans ((hlow _ (by omega)).trans hi3)
      · exact (hset _ (by omega)).trans ((hlow _ (by omega)).trans hi4)
      · refine (hbl.trans (⟨h2.os.trans h0.os, h2.tape.trans h0.tape, h2.output.trans h0.output, by have := h0.size; omega, fun b hb => hlow b (by omega)⟩ : Below w.heap.size Z2 w1)).setCell (p := ⟨w.heap.size, 0, none⟩) (Nat.le_refl _) _
    have Hfin := Lib.hid hfin
    have cb := hbox.cell 0
    have fb := hbox.frozen 0
    simp at cb
    have hq3 : w.heap.size + 5 ≤ Z2.heap.size := by have := hb2.size; have := Hsz.out; have := Hs3.out; omega
    have hbz : w.heap.size < Z2.heap.size := hbox.lt
    clear hfin hvb hi3 hi4 hbl
    gi_wp2
    refine draw_orders [[0, 1, 2, 3, 4, 5], [1, 0, 2, 3, 4, 5], [1, 2, 0, 3, 4, 5], [1, 2, 3, 0, 4, 5]] hord (by kernel_rfl) ?_
    intro o ho
    simp only [List.mem_cons, List.not_mem_nil, or_false] at ho
    rcases ho with rfl | rfl | rfl | rfl
    all_goals refine ⟨_, ⟨_, _, rfl, rfl, _, _, rfl, rfl, _, _, rfl, rfl, _, _, rfl, rfl, _, _, rfl, rfl, _, _, rfl, rfl, rfl⟩, ?_⟩
    all_goals simp only [List.getElem_toArray, List.getElem_cons_zero, List.getElem_cons_succ]
    all_goals
      gi_wp2_with fail
      refine (calls_round _ _ (folded_any 0 _ _ mm cap Z2.heap.size _ (Reads.drew hfr) Hin8.out (by unfold maxLen; omega))).mono ?_
      rintro e w' ⟨rfl, rfl⟩
      gi_wp2_with (gi_at_builtin; go_must (refine wpListIn_append_own _ rfl _ _ 135 rfl (w.heap.size + 5) 22 i0 (.int .u64 0) 1 8 Tryz.underlying135 hi0 hz0 hz1 hz2 rfl (by decide) v k ((wordsTo bs k).map (Value.int .u64)) rfl (by first | exact hrow.drew.alloc _ | exact (hrow.alloc _).drew) ⟨Z2.heap.size, 0, none⟩ 1 1 [.int .u64 (fold8 0 ((bs.drop (8 * k)).take mm).reverse)] rfl rfl (by exact cell_one_new _ _ _) (by simp [Value.oneCell']) (by simp only [maxLen]; omega) (by omega) (by simp; omega) ?_); intro v' w1 hown' hgrow _; obtain ⟨g', cap', rfl, hg1', hg2'⟩ := hown'.form (by omega); obtain ⟨hb5, hb6, hb7, hb8⟩ := Hfin.out _ w1 g' cap' (by first | exact ((Below.refl _ _).drew.alloc (Nat.le_refl _) _) | exact ((Below.refl _ _).alloc (Nat.le_refl _) _).drew | exact (((Below.refl _ _).alloc (Nat.le_refl _) _).drew).drew | exact ((Below.refl _ _).drew.alloc (Nat.le_refl _) _).drew) hown' hgrow; have cb5 := hb5.cell 0; have fb5 := hb5.frozen 0; simp at cb5)
      try exact ⟨hb6, hb7, hb8⟩
  case rest =>
    intro Y hi hle hD
    obtain ⟨⟨v, hbox, hrow⟩, hi3, hi4, hbl⟩ := hi
    have cb := hbox.cell 0
    have fb := hbox.frozen 0
    simp at cb
    obtain ⟨A', c', rfl⟩ := own_form hrow
    have hfin : (Y.setCell ⟨w.heap.size, 0, none⟩ (.slice A' ((n + 7) / 8) c')).ownsRow (w.heap.size + 5) 22 1 (.slice A' ((n + 7) / 8) c') ((n + 7) / 8) ((wordsTo bs ((n + 7) / 8)).map (Value.int .u64)) := by
      refine hrow.kept (row := some w.heap.size) (grownBy_setCell' Y w.heap.size _) ?_
      cases h' : (Value.slice A' ((n + 7) / 8) c').ownBlock with
      | none => exact .inl rfl
      | some g =>
        refine .inr ?_
        have := (hrow.lt g h').1
        simp
        omega
    have Hfin := Lib.hid hfin
    clear hfin
    gi_wp2_with fail
    have hq : W3.heap.size < Y.heap.size := (Array.getElem?_eq_some_iff.1 hD).1
    have hs3 := Hs3.out
    have hD' : (Y.setCell ⟨w.heap.size, 0, none⟩ (.slice A' ((n + 7) / 8) c')).heap[W3.heap.size]? = some (.deferred (some [])) := (Below.heap_setCell Y ⟨w.heap.size, 0, none⟩ _ _ (by simp; omega)).trans hD
    have hbx := hbox.set_ 0 (.slice A' ((n + 7) / 8) c')
    have hne : w.heap.size ≠ W3.heap.size := by omega
    have hb9 : Below (w.heap.size + 3) (Y.setCell ⟨w.heap.size, 0, none⟩ (.slice A' ((n + 7) / 8) c')) ((Y.setCell ⟨w.heap.size, 0, none⟩ (.slice A' ((n + 7) / 8) c')).putObj W3.heap.size (.deferred none)) := below_only (grown_put _ _ _) (by omega) (by simp [World.setCell]; omega)
    refine ⟨by simp, .inl ⟨_, _, rfl, run_takeDeferred hD', ?_⟩⟩
    have hcs := (hbx.below hb9 (by omega)).cell 0
    simp at hcs
    refine ⟨.tuple #[.slice A' ((n + 7) / 8) c', .int .i64 0], by simp [results, Tryz.results91, go_sem, hcs], _, rfl, ?_, ?_⟩
    · unfold wordsOf
      rw [Hlen.out]
      refine (own_more Hfin.out (by omega)).kept (row := some W3.heap.size) (grown_put _ _ _) ?_
      cases h' : (Value.slice A' ((n + 7) / 8) c').ownBlock with
      | none => exact .inl rfl
      | some g =>
        refine .inr ?_
        intro e
        injection e with e
        subst e
        obtain ⟨_, h5⟩ := Hfin.out
        rcases h5 with ⟨h6, _⟩ | ⟨g, cap, cur, h6, _, h7, _⟩
        · rw [h6] at h'; cases h'
        · rw [h6] at h'
          simp [Value.ownBlock] at h'
          rw [h', hD'] at h7
          cases h7
    · exact (hbl.setCell (p := ⟨w.heap.size, 0, none⟩) (Nat.le_refl _) _).trans (hb9.mono (by omega))
end Go.Proofs.YtdgnbmcckknfiaaGreat
