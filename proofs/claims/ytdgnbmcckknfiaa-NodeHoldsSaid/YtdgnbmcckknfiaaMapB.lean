/- The walks of node's get of maps. Conditions: words of 64 bits. -/
import Derived.Test.YtdgnbmcckknfiaaNodC
import Derived.Test.YtdgnbmcckknfiaaMapA
namespace Go.Proofs.Ytdgnbmcckknfiaa
open Go.RowKit
set_option linter.unusedSimpArgs false
attribute [local go_sem] Oper.semAt_some wide_fn wide_depth

/-- What is read when so many words are. -/
def mapRd (a b c d e f g h : Nat) : Nat → Array Value
  | 0 => #[.int .i64 (smallI a), .int .i64 0, .int .i64 0, .int .i64 0, .int .i64 0, .int .i64 0, .int .i64 0, .int .i64 0]
  | 1 => #[.int .i64 (smallI a), .int .i64 (smallI b), .int .i64 0, .int .i64 0, .int .i64 0, .int .i64 0, .int .i64 0, .int .i64 0]
  | 2 => #[.int .i64 (smallI a), .int .i64 (smallI b), .int .i64 (smallI c), .int .i64 0, .int .i64 0, .int .i64 0, .int .i64 0, .int .i64 0]
  | 3 => #[.int .i64 (smallI a), .int .i64 (smallI b), .int .i64 (smallI c), .int .i64 (smallI d), .int .i64 0, .int .i64 0, .int .i64 0, .int .i64 0]
  | 4 => #[.int .i64 (smallI a), .int .i64 (smallI b), .int .i64 (smallI c), .int .i64 (smallI d), .int .i64 (smallI e), .int .i64 0, .int .i64 0, .int .i64 0]
  | 5 => #[.int .i64 (smallI a), .int .i64 (smallI b), .int .i64 (smallI c), .int .i64 (smallI d), .int .i64 (smallI e), .int .i64 (smallI f), .int .i64 0, .int .i64 0]
  | 6 => #[.int .i64 (smallI a), .int .i64 (smallI b), .int .i64 (smallI c), .int .i64 (smallI d), .int .i64 (smallI e), .int .i64 (smallI f), .int .i64 (smallI g), .int .i64 0]
  | _ => #[.int .i64 (smallI a), .int .i64 (smallI b), .int .i64 (smallI c), .int .i64 (smallI d), .int .i64 (smallI e), .int .i64 (smallI f), .int .i64 (smallI g), .int .i64 (smallI h)]
set_option maxRecDepth 100000 in
set_option maxHeartbeats 4000000 in
theorem mapread_any (a b c d e f g h : Nat) (ha : a < 18446744073709551616) (hb : b < 18446744073709551616) (hc : c < 18446744073709551616) (hd : d < 18446744073709551616) (he : e < 18446744073709551616) (hf : f < 18446744073709551616) (hg : g < 18446744073709551616) (hh : h < 18446744073709551616) (w : World) :
    Calls Try.prog 71 #[.agg (ln8 a b c d e f g h)] w fun r w' => r = .returned (.agg #[.int .i64 (smallI a), .int .i64 (smallI b), .int .i64 (smallI c), .int .i64 (smallI d), .int .i64 (smallI e), .int .i64 (smallI f), .int .i64 (smallI g), .int .i64 (smallI h)]) ∧ Below w.heap.size w w' := by
  show Calls Try.prog 71 #[.agg #[.int .u64 a, .int .u64 b, .int .u64 c, .int .u64 d, .int .u64 e, .int .u64 f, .int .u64 g, .int .u64 h]] w _
  obtain ⟨W2, hW2⟩ : ∃ W2, W2 = ((w.alloc (.cells #[.int .u64 a, .int .u64 b, .int .u64 c, .int .u64 d, .int .u64 e, .int .u64 f, .int .u64 g, .int .u64 h] 113)).alloc (.cells #[.int .i64 0, .int .i64 0, .int .i64 0, .int .i64 0, .int .i64 0, .int .i64 0, .int .i64 0, .int .i64 0] 39)) := ⟨_, rfl⟩
  have HW : Hid (Blk W2 w.heap.size 113 #[.int .u64 a, .int .u64 b, .int .u64 c, .int .u64 d, .int .u64 e, .int .u64 f, .int .u64 g, .int .u64 h] ∧ Blk W2 (w.heap.size + 1) 39 #[.int .i64 0, .int .i64 0, .int .i64 0, .int .i64 0, .int .i64 0, .int .i64 0, .int .i64 0, .int .i64 0] ∧ Below w.heap.size w W2 ∧ W2.heap.size = w.heap.size + 2) := Lib.hid (by
    subst hW2
    have k0 := Blk.new w 113 #[.int .u64 a, .int .u64 b, .int .u64 c, .int .u64 d, .int .u64 e, .int .u64 f, .int .u64 g, .int .u64 h]
    have k1 := Blk.new (w.alloc (.cells #[.int .u64 a, .int .u64 b, .int .u64 c, .int .u64 d, .int .u64 e, .int .u64 f, .int .u64 g, .int .u64 h] 113)) 39 #[.int .i64 0, .int .i64 0, .int .i64 0, .int .i64 0, .int .i64 0, .int .i64 0, .int .i64 0, .int .i64 0]
    replace k0 := (k0.alloc (.cells #[.int .i64 0, .int .i64 0, .int .i64 0, .int .i64 0, .int .i64 0, .int .i64 0, .int .i64 0, .int .i64 0] 39))
    simp only [World.size_alloc] at k0 k1
    have hb : Below w.heap.size w ((w.alloc (.cells #[.int .u64 a, .int .u64 b, .int .u64 c, .int .u64 d, .int .u64 e, .int .u64 f, .int .u64 g, .int .u64 h] 113)).alloc (.cells #[.int .i64 0, .int .i64 0, .int .i64 0, .int .i64 0, .int .i64 0, .int .i64 0, .int .i64 0, .int .i64 0] 39)) := ((Below.refl _ w).alloc (Nat.le_refl _) _).alloc (by simp) _
    exact ⟨k0, k1, hb, by simp⟩)
  have HW2 := Lib.hid hW2
  clear hW2
  refine (callsIn_wide (n := 3)).1 (callsIn_of_wp_marks Try.func71 rfl trivial ?_ rfl)
  simp only [Try.ntmps71, List.size_toArray, List.length_cons, List.length_nil, Nat.reduceAdd, Nat.reduceSub, Array.replicate_succ, Array.replicate_zero, List.push_toArray, List.append_toArray, List.nil_append, List.cons_append]
  gi_wp2_with fail
  rw [← HW2.out]
  obtain ⟨k0, k1, hB, hs⟩ := HW.out
  have Hs := Lib.hid hs
  have c0 := k0.cell 0
  simp at c0
  clear hs
  gi_wp2_with fail
  refine (callsIn_wide.2 (small_any a _ ha)).mono ?_
  rintro r W3 ⟨rfl, hb1⟩
  replace k0 := k0.below hb1 k0.lt
  have hle3 : w.heap.size + 1 + 1 ≤ W3.heap.size := by have := hb1.size; have := Hs.out; omega
  have Hle3 := Lib.hid hle3
  replace k1 := k1.below hb1 k1.lt
  replace hB := hB.trans (hb1.mono hB.size)
  clear hb1 c0 hle3
  have c1 := k1.cell 0
  have f1 := k1.frozen 0
  simp at c1
  have Hk := Lib.hid (And.intro k0 (And.intro k1 hB))
  clear k0 k1 hB
  gi_wp2_with fail
  clear c1 f1
  obtain ⟨W4, hW4⟩ : ∃ W4, W4 = W3.setCell ⟨w.heap.size + 1, 0, none⟩ (.int .i64 (smallI a)) := ⟨_, rfl⟩
  rw [← hW4]
  have HX : Hid (Blks (W4.alloc (.cells #[.int .i64 7] 3)) [(w.heap.size, 113, #[.int .u64 a, .int .u64 b, .int .u64 c, .int .u64 d, .int .u64 e, .int .u64 f, .int .u64 g, .int .u64 h]), (W4.heap.size, 3, #[.int .i64 7]), (w.heap.size + 1, 39, mapRd a b c d e f g h 0)] ∧ Below w.heap.size w (W4.alloc (.cells #[.int .i64 7] 3)) ∧ (W4.alloc (.cells #[.int .i64 7] 3)).heap.size = W4.heap.size + 1 ∧ w.heap.size + 2 ≤ W4.heap.size) := Lib.hid (by
    obtain ⟨k0, k1, hb⟩ := Hk.out
    have hs := Hle3.out
    have s3 : W4.heap.size = W3.heap.size := by rw [hW4]; simp [World.setCell]
    have q0 := k0.far (p := ⟨w.heap.size + 1, 0, none⟩) (by simp) (.int .i64 (smallI a))
    have q3 := k1.set_ 0 (.int .i64 (smallI a))
    have q4 := hb.setCell (p := ⟨w.heap.size + 1, 0, none⟩) (by simp) (.int .i64 (smallI a))
    rw [← hW4] at q0 q3 q4
    simp at q3
    exact ⟨Blks.cons (q0.alloc _) (Blks.cons (Blk.new W4 _ _) (Blks.cons (q3.alloc _) Blks.nil)), q4.alloc (by omega) _, by simp, by omega⟩)
  clear hW4
  refine (callsIn_wide.2 (places_any _ _)).mono ?_
  rintro r w4 ⟨rfl, rfl⟩
  gi_wp2_with fail
  obtain ⟨hX, hbX, hsX, hs3⟩ := HX.out
  obtain ⟨V, hV⟩ : ∃ V, V = W4.alloc (.cells #[.int .i64 7] 3) := ⟨_, rfl⟩
  rw [← hV] at hX hbX hsX ⊢
  have HsX := Lib.hid hsX
  have Hs3 := Lib.hid hs3
  clear hV hs3
  refine places_break (pb := W4.heap.size) (N := 7) (B := w.heap.size) (w0 := w) (lt := 3) rfl (by omega) rfl
    (fun k => [(w.heap.size, 113, #[.int .u64 a, .int .u64 b, .int .u64 c, .int .u64 d, .int .u64 e, .int .u64 f, .int .u64 g, .int .u64 h]), (W4.heap.size, 3, #[.int .i64 7]), (w.heap.size + 1, 39, mapRd a b c d e f g h k)]) [(w.heap.size + 1, 39, #[.int .i64 (smallI a), .int .i64 (smallI b), .int .i64 (smallI c), .int .i64 (smallI d), .int .i64 (smallI e), .int .i64 (smallI f), .int .i64 (smallI g), .int .i64 (smallI h)])]
    ?hlt (fun p h => by rw [List.mem_singleton.1 h]; show w.heap.size + 1 < V.heap.size; have := Hs3.out; omega) (fun _ => by simp) (by have := Hs3.out; omega) hX hbX ?hround ?rest
  case hlt =>
    intro k p hp
    have := Hs3.out
    simp only [List.mem_cons, List.not_mem_nil, or_false] at hp
    rcases hp with rfl | rfl | rfl <;> simp <;> omega
  case hround =>
    intro k Y hk hl hbY hle
    clear hX hbX hsX
    revert k
    refine lt7 ?_ ?_ ?_ ?_ ?_ ?_ ?_
    · intro hl
      gi_wp2
      refine ⟨trivial, fun Z hlZ hbZ hleZ => ?_⟩
      clear hl hbY hle
      have kx := hlZ.head.cell 1
      simp at kx
      gi_wp2_with fail
      refine (calls_round _ _ (small_any b _ hb)).mono ?_
      rintro r Z2 ⟨rfl, hb⟩
      have h1 := HsX.out
      have h3 := Hs3.out
      have hl2 := hlZ.below hb (by
        intro p hp
        simp only [List.mem_cons, List.not_mem_nil, or_false] at hp
        rcases hp with rfl | rfl | rfl <;> simp <;> omega)
      have hb2 := hbZ.trans (hb.mono (by omega))
      have hbk : Bk V.heap.size Z Z2 := Bk.of_below hb hleZ
      clear hlZ hbZ hb kx
      have kl := hl2.tail.tail.head.cell 1
      have kf := hl2.tail.tail.head.frozen 1
      have hz := hl2.tail.tail.head.set_ 1 (.int .i64 (smallI b))
      simp [mapRd] at kl hz
      clear h1 h3
      gi_wp2
      have h1 := HsX.out
      have h3 := Hs3.out
      exact ⟨bk_set' hbk _ (by omega), Blks.cons (hl2.head.far (p := ⟨w.heap.size + 1, 1, none⟩) (by simp) _) (Blks.cons (hl2.tail.head.far (p := ⟨w.heap.size + 1, 1, none⟩) (by simp; omega) _) (Blks.cons hz Blks.nil)), hb2.setCell (p := ⟨w.heap.size + 1, 1, none⟩) (by simp) _⟩
    · intro hl
      gi_wp2
      refine ⟨trivial, fun Z hlZ hbZ hleZ => ?_⟩
      clear hl hbY hle
      have kx := hlZ.head.cell 2
      simp at kx
      gi_wp2_with fail
      refine (calls_round _ _ (small_any c _ hc)).mono ?_
      rintro r Z2 ⟨rfl, hb⟩
      have h1 := HsX.out
      have h3 := Hs3.out
      have hl2 := hlZ.below hb (by
        intro p hp
        simp only [List.mem_cons, List.not_mem_nil, or_false] at hp
        rcases hp with rfl | rfl | rfl <;> simp <;> omega)
      have hb2 := hbZ.trans (hb.mono (by omega))
      have hbk : Bk V.heap.size Z Z2 := Bk.of_below hb hleZ
      clear hlZ hbZ hb kx
      have kl := hl2.tail.tail.head.cell 2
      have kf := hl2.tail.tail.head.frozen 2
      have hz := hl2.tail.tail.head.set_ 2 (.int .i64 (smallI c))
      simp [mapRd] at kl hz
      clear h1 h3
      gi_wp2
      have h1 := HsX.out
      have h3 := Hs3.out
      exact ⟨bk_set' hbk _ (by omega), Blks.cons (hl2.head.far (p := ⟨w.heap.size + 1, 2, none⟩) (by simp) _) (Blks.cons (hl2.tail.head.far (p := ⟨w.heap.size + 1, 2, none⟩) (by simp; omega) _) (Blks.cons hz Blks.nil)), hb2.setCell (p := ⟨w.heap.size + 1, 2, none⟩) (by simp) _⟩
    · intro hl
      gi_wp2
      refine ⟨trivial, fun Z hlZ hbZ hleZ => ?_⟩
      clear hl hbY hle
      have kx := hlZ.head.cell 3
      simp at kx
      gi_wp2_with fail
      refine (calls_round _ _ (small_any d _ hd)).mono ?_
      rintro r Z2 ⟨rfl, hb⟩
      have h1 := HsX.out
      have h3 := Hs3.out
      have hl2 := hlZ.below hb (by
        intro p hp
        simp only [List.mem_cons, List.not_mem_nil, or_false] at hp
        rcases hp with rfl | rfl | rfl <;> simp <;> omega)
      have hb2 := hbZ.trans (hb.mono (by omega))
      have hbk : Bk V.heap.size Z Z2 := Bk.of_below hb hleZ
      clear hlZ hbZ hb kx
      have kl := hl2.tail.tail.head.cell 3
      have kf := hl2.tail.tail.head.frozen 3
      have hz := hl2.tail.tail.head.set_ 3 (.int .i64 (smallI d))
      simp [mapRd] at kl hz
      clear h1 h3
      gi_wp2
      have h1 := HsX.out
      have h3 := Hs3.out
      exact ⟨bk_set' hbk _ (by omega), Blks.cons (hl2.head.far (p := ⟨w.heap.size + 1, 3, none⟩) (by simp) _) (Blks.cons (hl2.tail.head.far (p := ⟨w.heap.size + 1, 3, none⟩) (by simp; omega) _) (Blks.cons hz Blks.nil)), hb2.setCell (p := ⟨w.heap.size + 1, 3, none⟩) (by simp) _⟩
    · intro hl
      gi_wp2
      refine ⟨trivial, fun Z hlZ hbZ hleZ => ?_⟩
      clear hl hbY hle
      have kx := hlZ.head.cell 4
      simp at kx
      gi_wp2_with fail
      refine (calls_round _ _ (small_any e _ he)).mono ?_
      rintro r Z2 ⟨rfl, hb⟩
      have h1 := HsX.out
      have h3 := Hs3.out
      have hl2 := hlZ.below hb (by
        intro p hp
        simp only [List.mem_cons, List.not_mem_nil, or_false] at hp
        rcases hp with rfl | rfl | rfl <;> simp <;> omega)
      have hb2 := hbZ.trans (hb.mono (by omega))
      have hbk : Bk V.heap.size Z Z2 := Bk.of_below hb hleZ
      clear hlZ hbZ hb kx
      have kl := hl2.tail.tail.head.cell 4
      have kf := hl2.tail.tail.head.frozen 4
      have hz := hl2.tail.tail.head.set_ 4 (.int .i64 (smallI e))
      simp [mapRd] at kl hz
      clear h1 h3
      gi_wp2
      have h1 := HsX.out
      have h3 := Hs3.out
      exact ⟨bk_set' hbk _ (by omega), Blks.cons (hl2.head.far (p := ⟨w.heap.size + 1, 4, none⟩) (by simp) _) (Blks.cons (hl2.tail.head.far (p := ⟨w.heap.size + 1, 4, none⟩) (by simp; omega) _) (Blks.cons hz Blks.nil)), hb2.setCell (p := ⟨w.heap.size + 1, 4, none⟩) (by simp) _⟩
    · intro hl
      gi_wp2
      refine ⟨trivial, fun Z hlZ hbZ hleZ => ?_⟩
      clear hl hbY hle
      have kx := hlZ.head.cell 5
      simp at kx
      gi_wp2_with fail
      refine (calls_round _ _ (small_any f _ hf)).mono ?_
      rintro r Z2 ⟨rfl, hb⟩
      have h1 := HsX.out
      have h3 := Hs3.out
      have hl2 := hlZ.below hb (by
        intro p hp
        simp only [List.mem_cons, List.not_mem_nil, or_false] at hp
        rcases hp with rfl | rfl | rfl <;> simp <;> omega)
      have hb2 := hbZ.trans (hb.mono (by omega))
      have hbk : Bk V.heap.size Z Z2 := Bk.of_below hb hleZ
      clear hlZ hbZ hb kx
      have kl := hl2.tail.tail.head.cell 5
      have kf := hl2.tail.tail.head.frozen 5
      have hz := hl2.tail.tail.head.set_ 5 (.int .i64 (smallI f))
      simp [mapRd] at kl hz
      clear h1 h3
      gi_wp2
      have h1 := HsX.out
      have h3 := Hs3.out
      exact ⟨bk_set' hbk _ (by omega), Blks.cons (hl2.head.far (p := ⟨w.heap.size + 1, 5, none⟩) (by simp) _) (Blks.cons (hl2.tail.head.far (p := ⟨w.heap.size + 1, 5, none⟩) (by simp; omega) _) (Blks.cons hz Blks.nil)), hb2.setCell (p := ⟨w.heap.size + 1, 5, none⟩) (by simp) _⟩
    · intro hl
      gi_wp2
      refine ⟨trivial, fun Z hlZ hbZ hleZ => ?_⟩
      clear hl hbY hle
      have kx := hlZ.head.cell 6
      simp at kx
      gi_wp2_with fail
      refine (calls_round _ _ (small_any g _ hg)).mono ?_
      rintro r Z2 ⟨rfl, hb⟩
      have h1 := HsX.out
      have h3 := Hs3.out
      have hl2 := hlZ.below hb (by
        intro p hp
        simp only [List.mem_cons, List.not_mem_nil, or_false] at hp
        rcases hp with rfl | rfl | rfl <;> simp <;> omega)
      have hb2 := hbZ.trans (hb.mono (by omega))
      have hbk : Bk V.heap.size Z Z2 := Bk.of_below hb hleZ
      clear hlZ hbZ hb kx
      have kl := hl2.tail.tail.head.cell 6
      have kf := hl2.tail.tail.head.frozen 6
      have hz := hl2.tail.tail.head.set_ 6 (.int .i64 (smallI g))
      simp [mapRd] at kl hz
      clear h1 h3
      gi_wp2
      have h1 := HsX.out
      have h3 := Hs3.out
      exact ⟨bk_set' hbk _ (by omega), Blks.cons (hl2.head.far (p := ⟨w.heap.size + 1, 6, none⟩) (by simp) _) (Blks.cons (hl2.tail.head.far (p := ⟨w.heap.size + 1, 6, none⟩) (by simp; omega) _) (Blks.cons hz Blks.nil)), hb2.setCell (p := ⟨w.heap.size + 1, 6, none⟩) (by simp) _⟩
    · intro hl
      gi_wp2
      refine ⟨trivial, fun Z hlZ hbZ hleZ => ?_⟩
      clear hl hbY hle
      have kx := hlZ.head.cell 7
      simp at kx
      gi_wp2_with fail
      refine (calls_round _ _ (small_any h _ hh)).mono ?_
      rintro r Z2 ⟨rfl, hb⟩
      have h1 := HsX.out
      have h3 := Hs3.out
      have hl2 := hlZ.below hb (by
        intro p hp
        simp only [List.mem_cons, List.not_mem_nil, or_false] at hp
        rcases hp with rfl | rfl | rfl <;> simp <;> omega)
      have hb2 := hbZ.trans (hb.mono (by omega))
      have hbk : Bk V.heap.size Z Z2 := Bk.of_below hb hleZ
      clear hlZ hbZ hb kx
      have kl := hl2.tail.tail.head.cell 7
      have kf := hl2.tail.tail.head.frozen 7
      have hz := hl2.tail.tail.head.set_ 7 (.int .i64 (smallI h))
      simp [mapRd] at kl hz
      clear h1 h3
      gi_wp2
      have h1 := HsX.out
      have h3 := Hs3.out
      exact ⟨bk_set' hbk _ (by omega), Blks.cons (hl2.head.far (p := ⟨w.heap.size + 1, 7, none⟩) (by simp) _) (Blks.cons (hl2.tail.head.far (p := ⟨w.heap.size + 1, 7, none⟩) (by simp; omega) _) (Blks.cons hz Blks.nil)), hb2.setCell (p := ⟨w.heap.size + 1, 7, none⟩) (by simp) _⟩
  case rest =>
    intro Y hor hbY hle hDk
    have hfin : Blk Y (w.heap.size + 1) 39 #[.int .i64 (smallI a), .int .i64 (smallI b), .int .i64 (smallI c), .int .i64 (smallI d), .int .i64 (smallI e), .int .i64 (smallI f), .int .i64 (smallI g), .int .i64 (smallI h)] := by
      rcases hor with h | h
      · exact h.tail.tail.head
      · exact h.head
    have hDE : Hid (∀ D ∈ [V.heap.size], w.heap.size + 1 + 1 ≤ D ∧ (Y.setRow (w.heap.size + 1) #[.int .i64 (smallI a), .int .i64 (smallI b), .int .i64 (smallI c), .int .i64 (smallI d), .int .i64 (smallI e), .int .i64 (smallI f), .int .i64 (smallI g), .int .i64 (smallI h)]).heap[D]? = some (.deferred (some []))) := Lib.hid (fun D hd => by
      rw [List.mem_singleton.1 hd]
      have := HsX.out
      have := Hs3.out
      exact ⟨by omega, (setRow_other Y (w.heap.size + 1) _ _ (by omega)).trans hDk⟩)
    clear hDk hor hX hbX hsX
    gi_wp2_with (first | (refine row_load_in (w.heap.size + 1) 39 _ hfin 39 _ rfl rfl rfl _ Try.underlying39 rfl (by kernel_rfl) ?_) | (refine row_store_in (w.heap.size + 1) 39 _ _ hfin 39 _ _ rfl rfl rfl rfl (by kernel_rfl) rfl (by kernel_rfl) ?_))
    have hfin2 := hfin.setRow #[.int .i64 (smallI a), .int .i64 (smallI b), .int .i64 (smallI c), .int .i64 (smallI d), .int .i64 (smallI e), .int .i64 (smallI f), .int .i64 (smallI g), .int .i64 (smallI h)]
    have hb2 := below_setRow hbY (g := w.heap.size + 1) (by omega) #[.int .i64 (smallI a), .int .i64 (smallI b), .int .i64 (smallI c), .int .i64 (smallI d), .int .i64 (smallI e), .int .i64 (smallI f), .int .i64 (smallI g), .int .i64 (smallI h)]
    refine leaves_marks (w.heap.size + 1 + 1) [V.heap.size] _ hDE.out (by simp) fun W' hW => ?_
    exact ⟨_, results_cell1 rfl _ _ (w.heap.size + 1) 39 _ _ rfl (hfin2.below hW (by omega)) Try.underlying39 rfl (by kernel_rfl), rfl, hb2.trans (hW.mono (by omega))⟩

/-- Is a line a map? -/
def mapIs (a b c d e f g h : Nat) : Bool := mapOk (smallI a) (smallI b) (smallI c) (smallI d) (smallI e) (smallI f) (smallI g) (smallI h) && decide (mapW (smallI a) (smallI b) (smallI c) (smallI d) (smallI e) (smallI f) (smallI g) (smallI h) = [(a : Int), b, c, d, e, f, g, h])
theorem isMap_eq (a b c d e f g h : Nat) : mapIs a b c d e f g h = (mapOk (smallI a) (smallI b) (smallI c) (smallI d) (smallI e) (smallI f) (smallI g) (smallI h) && decide (mapW (smallI a) (smallI b) (smallI c) (smallI d) (smallI e) (smallI f) (smallI g) (smallI h) = [(a : Int), b, c, d, e, f, g, h])) := rfl
theorem lineMap_eq (a b c d e f g h : Nat) (y y0 y1 y2 y3 y4 y5 y6 : Int) (hok : mapOk y y0 y1 y2 y3 y4 y5 y6 = true) (W : World) :
    (Op.equalIn 10000 26 (.agg (mapL y y0 y1 y2 y3 y4 y5 y6)) (.agg (ln8 a b c d e f g h))).run Try.prog W = .ok (decide (mapW y y0 y1 y2 y3 y4 y5 y6 = [(a : Int), b, c, d, e, f, g, h])) W := by
  have e1 : mapL y y0 y1 y2 y3 y4 y5 y6 = ((mapW y y0 y1 y2 y3 y4 y5 y6).map (Value.int .u64)).toArray := by unfold mapL; rw [hok]; rfl
  have e2 : ln8 (a : Int) b c d e f g h = (([a, b, c, d, e, f, g, h] : List Int).map (Value.int .u64)).toArray := rfl
  rw [e1, e2]
  exact line_eq8 _ _ rfl rfl W

set_option maxHeartbeats 400000 in
theorem clearMap (b : Nat) (old : Array Value) (ho : old.size = 8) (w : World) (hB : Blk w b 39 old) :
    Calls Try.prog 83 #[.pointer (some ⟨b, 0, none⟩)] w fun e w' => e = .returned (.tuple #[]) ∧ Blk w' b 39 #[.int .i64 0, .int .i64 0, .int .i64 0, .int .i64 0, .int .i64 0, .int .i64 0, .int .i64 0, .int .i64 0] ∧ Below b w w' ∧ ∀ q, q ≠ b → q < w.heap.size → w'.heap[q]? = w.heap[q]? := by
  have hn := Blk.new w 39 #[.int .i64 0, .int .i64 0, .int .i64 0, .int .i64 0, .int .i64 0, .int .i64 0, .int .i64 0, .int .i64 0]
  have hb := hB.alloc (.cells #[.int .i64 0, .int .i64 0, .int .i64 0, .int .i64 0, .int .i64 0, .int .i64 0, .int .i64 0, .int .i64 0] 39)
  have hlt := hB.lt
  go_enter Try.func83, Try.ntmps83
  go_wp2_with (first | (refine row_load (w.heap.size) 39 _ hn 39 _ rfl rfl rfl _ Try.underlying39 rfl (by kernel_rfl) ?_) | (refine row_store (b) 39 _ _ hb 39 _ _ rfl rfl rfl rfl (by kernel_rfl) (ho) (by kernel_rfl) ?_))
  go_end0
  exact ⟨rfl, hb.setRow _, below_setRow (((Below.refl _ w).alloc (Nat.le_refl _) _).mono (by omega)) (Nat.le_refl _) _, fun q h1 h2 => (setRow_other _ b q _ h1).trans (Below.heap_alloc w _ q h2)⟩

/-- What a line is told to be. -/
def mapIsV (a b c d e f g h : Nat) : Array Value := if mapIs a b c d e f g h then #[.int .i64 (smallI a), .int .i64 (smallI b), .int .i64 (smallI c), .int .i64 (smallI d), .int .i64 (smallI e), .int .i64 (smallI f), .int .i64 (smallI g), .int .i64 (smallI h)] else #[.int .i64 0, .int .i64 0, .int .i64 0, .int .i64 0, .int .i64 0, .int .i64 0, .int .i64 0, .int .i64 0]
/-- The error beside it. -/
def mapIsE (a b c d e f g h : Nat) : Int := if mapIs a b c d e f g h then 0 else 180
set_option maxRecDepth 100000 in
set_option maxHeartbeats 4000000 in
theorem getMap_any (a b c d e f g h : Nat) (ha : a < 18446744073709551616) (hb : b < 18446744073709551616) (hc : c < 18446744073709551616) (hd : d < 18446744073709551616) (he : e < 18446744073709551616) (hf : f < 18446744073709551616) (hg : g < 18446744073709551616) (hh : h < 18446744073709551616) (w : World) :
    Calls Try.prog 47 #[.agg #[.func (.func 66) #[] #[], .func (.func 69) #[] #[], .func (.func 71) #[] #[]], .agg (ln8 a b c d e f g h)] w fun r w' => r = .returned (.tuple #[.agg (mapIsV a b c d e f g h), .int .i64 (mapIsE a b c d e f g h)]) ∧ Below w.heap.size w w' := by
  have hmf : ∀ (fn : Fn) (first cap : Array Value) (w : World), (Instr.makeFunc fn first cap).run Try.prog w = .ok (.func fn first cap) w := fun _ _ _ _ => rfl
  have k0 := Blk.new w 90 #[.func (.func 66) #[] #[], .func (.func 69) #[] #[], .func (.func 71) #[] #[]]
  have k1 := Blk.new (w.alloc (.cells #[.func (.func 66) #[] #[], .func (.func 69) #[] #[], .func (.func 71) #[] #[]] 90)) 26 (ln8 a b c d e f g h)
  have k2 := Blk.new ((w.alloc (.cells #[.func (.func 66) #[] #[], .func (.func 69) #[] #[], .func (.func 71) #[] #[]] 90)).alloc (.cells (ln8 a b c d e f g h) 26)) 39 #[.int .i64 0, .int .i64 0, .int .i64 0, .int .i64 0, .int .i64 0, .int .i64 0, .int .i64 0, .int .i64 0]
  have k3 := Blk.new (((w.alloc (.cells #[.func (.func 66) #[] #[], .func (.func 69) #[] #[], .func (.func 71) #[] #[]] 90)).alloc (.cells (ln8 a b c d e f g h) 26)).alloc (.cells #[.int .i64 0, .int .i64 0, .int .i64 0, .int .i64 0, .int .i64 0, .int .i64 0, .int .i64 0, .int .i64 0] 39)) 27 #[.int .i64 0]
  replace k0 := ((k0.alloc (.cells (ln8 a b c d e f g h) 26)).alloc (.cells #[.int .i64 0, .int .i64 0, .int .i64 0, .int .i64 0, .int .i64 0, .int .i64 0, .int .i64 0, .int .i64 0] 39)).alloc (.cells #[.int .i64 0] 27)
  replace k1 := (k1.alloc (.cells #[.int .i64 0, .int .i64 0, .int .i64 0, .int .i64 0, .int .i64 0, .int .i64 0, .int .i64 0, .int .i64 0] 39)).alloc (.cells #[.int .i64 0] 27)
  replace k2 := k2.alloc (.cells #[.int .i64 0] 27)
  simp only [World.size_alloc] at k0 k1 k2 k3
  have hB : Below w.heap.size w ((((w.alloc (.cells #[.func (.func 66) #[] #[], .func (.func 69) #[] #[], .func (.func 71) #[] #[]] 90)).alloc (.cells (ln8 a b c d e f g h) 26)).alloc (.cells #[.int .i64 0, .int .i64 0, .int .i64 0, .int .i64 0, .int .i64 0, .int .i64 0, .int .i64 0, .int .i64 0] 39)).alloc (.cells #[.int .i64 0] 27)) := ((((Below.refl _ w).alloc (Nat.le_refl _) _).alloc (by simp) _).alloc (by simp; omega) _).alloc (by simp; omega) _
  go_enter_defers Try.func47, Try.ntmps47
  go_wp2_with (refine row_load (w.heap.size + 1) 26 _ k1 26 _ rfl rfl rfl _ Try.underlying26 rfl (by kernel_rfl) ?_)
  refine (mapread_any a b c d e f g h ha hb hc hd he hf hg hh _).mono ?_
  rintro r w1 ⟨rfl, hb1⟩
  replace k0 := k0.below hb1 k0.lt
  replace k1 := k1.below hb1 k1.lt
  replace k2 := k2.below hb1 k2.lt
  replace k3 := k3.below hb1 k3.lt
  replace hB := hB.trans (hb1.mono hB.size)
  clear hb1
  have hisd := isMap_eq a b c d e f g h
  obtain ⟨y, hy⟩ : ∃ v, smallI a = v := ⟨_, rfl⟩
  obtain ⟨y0, hy0⟩ : ∃ v, smallI b = v := ⟨_, rfl⟩
  obtain ⟨y1, hy1⟩ : ∃ v, smallI c = v := ⟨_, rfl⟩
  obtain ⟨y2, hy2⟩ : ∃ v, smallI d = v := ⟨_, rfl⟩
  obtain ⟨y3, hy3⟩ : ∃ v, smallI e = v := ⟨_, rfl⟩
  obtain ⟨y4, hy4⟩ : ∃ v, smallI f = v := ⟨_, rfl⟩
  obtain ⟨y5, hy5⟩ : ∃ v, smallI g = v := ⟨_, rfl⟩
  obtain ⟨y6, hy6⟩ : ∃ v, smallI h = v := ⟨_, rfl⟩
  rw [hy, hy0, hy1, hy2, hy3, hy4, hy5, hy6] at hisd ⊢
  have q2 := k2.setRow #[.int .i64 y, .int .i64 y0, .int .i64 y1, .int .i64 y2, .int .i64 y3, .int .i64 y4, .int .i64 y5, .int .i64 y6]
  have q0 := k0.farRow (g' := w.heap.size + 1 + 1) (by omega) #[.int .i64 y, .int .i64 y0, .int .i64 y1, .int .i64 y2, .int .i64 y3, .int .i64 y4, .int .i64 y5, .int .i64 y6]
  have q1 := k1.farRow (g' := w.heap.size + 1 + 1) (by omega) #[.int .i64 y, .int .i64 y0, .int .i64 y1, .int .i64 y2, .int .i64 y3, .int .i64 y4, .int .i64 y5, .int .i64 y6]
  have q3 := k3.farRow (g' := w.heap.size + 1 + 1) (by omega) #[.int .i64 y, .int .i64 y0, .int .i64 y1, .int .i64 y2, .int .i64 y3, .int .i64 y4, .int .i64 y5, .int .i64 y6]
  have qB := below_setRow hB (g := w.heap.size + 1 + 1) (by omega) #[.int .i64 y, .int .i64 y0, .int .i64 y1, .int .i64 y2, .int .i64 y3, .int .i64 y4, .int .i64 y5, .int .i64 y6]
  go_wp2_with (first | (refine row_store (w.heap.size + 1 + 1) 39 _ _ k2 39 _ _ rfl rfl rfl rfl (by kernel_rfl) (rfl) (by kernel_rfl) ?_) | (refine row_load (w.heap.size) 90 _ q0 90 _ rfl rfl rfl _ Try.underlying90 rfl (by kernel_rfl) ?_) | (refine row_load (w.heap.size + 1 + 1) 39 _ q2 39 _ rfl rfl rfl _ Try.underlying39 rfl (by kernel_rfl) ?_))
  refine (putMap_any y y0 y1 y2 y3 y4 y5 y6 _).mono ?_
  rintro r w2 ⟨rfl, hb2⟩
  replace q1 := q1.below hb2 q1.lt
  replace q2 := q2.below hb2 q2.lt
  replace q3 := q3.below hb2 q3.lt
  replace qB := qB.trans (hb2.mono qB.size)
  clear hb2 k0 k1 k2 k3 hB q0
  have Hsz : Hid ((mapL y y0 y1 y2 y3 y4 y5 y6).size = 8) := Lib.hid (by unfold mapL; split <;> rfl)
  have Hone : Hid ((mapL y y0 y1 y2 y3 y4 y5 y6).all (·.oneCell') = true) := Lib.hid (by unfold mapL; split <;> kernel_rfl)
  have hsz := Hsz.out
  have hone := Hone.out
  have n2 := Blk.new w2 26 #[.int .u64 0, .int .u64 0, .int .u64 0, .int .u64 0, .int .u64 0, .int .u64 0, .int .u64 0, .int .u64 0]
  have l3 := q3.lt
  have r3 := (q3.alloc (.cells #[.int .u64 0, .int .u64 0, .int .u64 0, .int .u64 0, .int .u64 0, .int .u64 0, .int .u64 0, .int .u64 0] 26)).farRow (g' := w2.heap.size) (by omega) (mapL y y0 y1 y2 y3 y4 y5 y6)
  have c3 := r3.cell 0
  have f3 := r3.frozen 0
  simp only [List.getElem?_toArray, List.getElem?_cons_zero] at c3
  cases hok : mapOk y y0 y1 y2 y3 y4 y5 y6
  · have he : mapE y y0 y1 y2 y3 y4 y5 y6 = 2 := by unfold mapE; rw [hok]; rfl
    have his : Hid (mapIs a b c d e f g h = false) := Lib.hid (by rw [hisd, hok]; rfl)
    rw [he]
    go_wp2_with (refine row_store w2.heap.size 26 _ _ n2 26 _ _ rfl rfl rfl rfl (by rw [hsz]; kernel_rfl) (by rw [hsz]; rfl) hone ?_)
    refine (must_not 180 _).mono ?_
    rintro r w3 ⟨rfl, rfl⟩
    have m3 := r3.set_ 0 (.int .i64 2)
    have m2 := ((q2.alloc (.cells #[.int .u64 0, .int .u64 0, .int .u64 0, .int .u64 0, .int .u64 0, .int .u64 0, .int .u64 0, .int .u64 0] 26)).farRow (g' := w2.heap.size) (by omega) (mapL y y0 y1 y2 y3 y4 y5 y6)).far (p := ⟨w.heap.size + 1 + 1 + 1, 0, none⟩) (by simp) (.int .i64 2)
    refine leaves_cons (f := 80) (args := #[.pointer (some ⟨w.heap.size + 1 + 1 + 1, 0, none⟩), .func (.func 83) #[] #[.pointer (some ⟨w.heap.size + 1 + 1, 0, none⟩)]]) (by simp) (by simp [go_sem]) ?_
    have e3 := m3.cell 0
    have e4 := m3.frozen 0
    simp at e3
    have m4 := m3.set_ 0 (.int .i64 180)
    have m5 := m2.far (p := ⟨w.heap.size + 1 + 1 + 1, 0, none⟩) (by simp) (.int .i64 180)
    have mB := ((((below_setRow (qB.alloc qB.size (.cells #[.int .u64 0, .int .u64 0, .int .u64 0, .int .u64 0, .int .u64 0, .int .u64 0, .int .u64 0, .int .u64 0] 26)) (g := w2.heap.size) qB.size (mapL y y0 y1 y2 y3 y4 y5 y6)).setCell (p := ⟨w.heap.size + 1 + 1 + 1, 0, none⟩) (show w.heap.size ≤ w.heap.size + 1 + 1 + 1 by omega) (.int .i64 2)).setCell (p := ⟨w.heap.size + 1 + 1 + 1, 0, none⟩) (show w.heap.size ≤ w.heap.size + 1 + 1 + 1 by omega) (.int .i64 180)))
    generalize hM : (((w2.alloc (.cells #[.int .u64 0, .int .u64 0, .int .u64 0, .int .u64 0, .int .u64 0, .int .u64 0, .int .u64 0, .int .u64 0] 26)).setRow w2.heap.size (mapL y y0 y1 y2 y3 y4 y5 y6)).setCell ⟨w.heap.size + 1 + 1 + 1, 0, none⟩ (.int .i64 2)) = M at *
    have l4 := m4.lt
    refine (caught_panic ⟨w.heap.size + 1 + 1 + 1, 0, none⟩ 2 180 83 #[.pointer (some ⟨w.heap.size + 1 + 1, 0, none⟩)] M (fun w' => Blk w' (w.heap.size + 1 + 1) 39 #[.int .i64 0, .int .i64 0, .int .i64 0, .int .i64 0, .int .i64 0, .int .i64 0, .int .i64 0, .int .i64 0] ∧ Blk w' (w.heap.size + 1 + 1 + 1) 27 #[.int .i64 180] ∧ Below w.heap.size w w') e3 e4 (fun W => by kernel_rfl) ((clearMap _ _ rfl _ m5).mono ?_)).mono ?_
    · rintro r w4 ⟨rfl, h1, h2, h3⟩
      exact ⟨rfl, h1, (h3 _ (by omega) l4).trans m4, mB.trans (h2.mono (by omega))⟩
    · rintro r u' w4 ⟨rfl, rfl, h1, h2, h3⟩
      have e5 := h2.cell 0
      simp at e5
      exact leaves_settled (results_cell_cell rfl _ _ (w.heap.size + 1 + 1) 39 _ _ rfl h1 Try.underlying39 rfl (by kernel_rfl) ⟨w.heap.size + 1 + 1 + 1, 0, none⟩ _ rfl (load_int1 Try.underlying27 e5)) ⟨by unfold mapIsV mapIsE; rw [his.out]; rfl, h3⟩
  · have he : mapE y y0 y1 y2 y3 y4 y5 y6 = 0 := by unfold mapE; rw [hok]; rfl
    rw [hok, Bool.true_and] at hisd
    rw [he]
    have n3 := (n2.setRow (mapL y y0 y1 y2 y3 y4 y5 y6)).far (p := ⟨w.heap.size + 1 + 1 + 1, 0, none⟩) (by simp; omega) (.int .i64 0)
    have p1 := ((q1.alloc (.cells #[.int .u64 0, .int .u64 0, .int .u64 0, .int .u64 0, .int .u64 0, .int .u64 0, .int .u64 0, .int .u64 0] 26)).farRow (g' := w2.heap.size) (by have := q1.lt; omega) (mapL y y0 y1 y2 y3 y4 y5 y6)).far (p := ⟨w.heap.size + 1 + 1 + 1, 0, none⟩) (by simp) (.int .i64 0)
    have heq : ∀ W : World, (Op.equalIn 10000 26 (.agg (mapL y y0 y1 y2 y3 y4 y5 y6)) (.agg (ln8 a b c d e f g h))).run Try.prog W = .ok (mapIs a b c d e f g h) W := fun W => by
      rw [hisd]
      exact (lineMap_eq a b c d e f g h y y0 y1 y2 y3 y4 y5 y6 hok W)
    cases his0 : mapIs a b c d e f g h
    · have his := Lib.hid his0
      rw [his0] at heq
      clear his0
      go_wp2_with (first | (refine row_store w2.heap.size 26 _ _ n2 26 _ _ rfl rfl rfl rfl (by rw [hsz]; kernel_rfl) (by rw [hsz]; rfl) hone ?_) | (refine row_load_w (w2.heap.size) 26 _ n3 26 _ rfl rfl rfl _ Try.underlying26 rfl (by rw [hsz]; kernel_rfl) ?_) | (refine row_load_w (w.heap.size + 1) 26 _ p1 26 _ rfl rfl rfl _ Try.underlying26 rfl (by kernel_rfl) ?_))
      refine (must_not 180 _).mono ?_
      rintro r w3 ⟨rfl, rfl⟩
      have m3 := r3.set_ 0 (.int .i64 0)
      have m2 := ((q2.alloc (.cells #[.int .u64 0, .int .u64 0, .int .u64 0, .int .u64 0, .int .u64 0, .int .u64 0, .int .u64 0, .int .u64 0] 26)).farRow (g' := w2.heap.size) (by omega) (mapL y y0 y1 y2 y3 y4 y5 y6)).far (p := ⟨w.heap.size + 1 + 1 + 1, 0, none⟩) (by simp) (.int .i64 0)
      refine leaves_cons (f := 80) (args := #[.pointer (some ⟨w.heap.size + 1 + 1 + 1, 0, none⟩), .func (.func 83) #[] #[.pointer (some ⟨w.heap.size + 1 + 1, 0, none⟩)]]) (by simp) (by simp [go_sem]) ?_
      have e3 := m3.cell 0
      have e4 := m3.frozen 0
      simp at e3
      have m4 := m3.set_ 0 (.int .i64 180)
      have m5 := m2.far (p := ⟨w.heap.size + 1 + 1 + 1, 0, none⟩) (by simp) (.int .i64 180)
      have mB := ((((below_setRow (qB.alloc qB.size (.cells #[.int .u64 0, .int .u64 0, .int .u64 0, .int .u64 0, .int .u64 0, .int .u64 0, .int .u64 0, .int .u64 0] 26)) (g := w2.heap.size) qB.size (mapL y y0 y1 y2 y3 y4 y5 y6)).setCell (p := ⟨w.heap.size + 1 + 1 + 1, 0, none⟩) (show w.heap.size ≤ w.heap.size + 1 + 1 + 1 by omega) (.int .i64 0)).setCell (p := ⟨w.heap.size + 1 + 1 + 1, 0, none⟩) (show w.heap.size ≤ w.heap.size + 1 + 1 + 1 by omega) (.int .i64 180)))
      generalize hM : (((w2.alloc (.cells #[.int .u64 0, .int .u64 0, .int .u64 0, .int .u64 0, .int .u64 0, .int .u64 0, .int .u64 0, .int .u64 0] 26)).setRow w2.heap.size (mapL y y0 y1 y2 y3 y4 y5 y6)).setCell ⟨w.heap.size + 1 + 1 + 1, 0, none⟩ (.int .i64 0)) = M at *
      have l4 := m4.lt
      refine (caught_panic ⟨w.heap.size + 1 + 1 + 1, 0, none⟩ 0 180 83 #[.pointer (some ⟨w.heap.size + 1 + 1, 0, none⟩)] M (fun w' => Blk w' (w.heap.size + 1 + 1) 39 #[.int .i64 0, .int .i64 0, .int .i64 0, .int .i64 0, .int .i64 0, .int .i64 0, .int .i64 0, .int .i64 0] ∧ Blk w' (w.heap.size + 1 + 1 + 1) 27 #[.int .i64 180] ∧ Below w.heap.size w w') e3 e4 (fun W => by kernel_rfl) ((clearMap _ _ rfl _ m5).mono ?_)).mono ?_
      · rintro r w4 ⟨rfl, h1, h2, h3⟩
        exact ⟨rfl, h1, (h3 _ (by omega) l4).trans m4, mB.trans (h2.mono (by omega))⟩
      · rintro r u' w4 ⟨rfl, rfl, h1, h2, h3⟩
        have e5 := h2.cell 0
        simp at e5
        exact leaves_settled (results_cell_cell rfl _ _ (w.heap.size + 1 + 1) 39 _ _ rfl h1 Try.underlying39 rfl (by kernel_rfl) ⟨w.heap.size + 1 + 1 + 1, 0, none⟩ _ rfl (load_int1 Try.underlying27 e5)) ⟨by unfold mapIsV mapIsE; rw [his.out]; rfl, h3⟩
    · have his := Lib.hid his0
      rw [his0] at heq
      clear his0
      go_wp2_with (first | (refine row_store w2.heap.size 26 _ _ n2 26 _ _ rfl rfl rfl rfl (by rw [hsz]; kernel_rfl) (by rw [hsz]; rfl) hone ?_) | (refine row_load_w (w2.heap.size) 26 _ n3 26 _ rfl rfl rfl _ Try.underlying26 rfl (by rw [hsz]; kernel_rfl) ?_) | (refine row_load_w (w.heap.size + 1) 26 _ p1 26 _ rfl rfl rfl _ Try.underlying26 rfl (by kernel_rfl) ?_))
      refine (must_ok 180 _).mono ?_
      rintro r w3 ⟨rfl, rfl⟩
      have m3 := r3.set_ 0 (.int .i64 0)
      have m2 := ((q2.alloc (.cells #[.int .u64 0, .int .u64 0, .int .u64 0, .int .u64 0, .int .u64 0, .int .u64 0, .int .u64 0, .int .u64 0] 26)).farRow (g' := w2.heap.size) (by omega) (mapL y y0 y1 y2 y3 y4 y5 y6)).far (p := ⟨w.heap.size + 1 + 1 + 1, 0, none⟩) (by simp) (.int .i64 0)
      have mB := ((below_setRow (qB.alloc qB.size (.cells #[.int .u64 0, .int .u64 0, .int .u64 0, .int .u64 0, .int .u64 0, .int .u64 0, .int .u64 0, .int .u64 0] 26)) (g := w2.heap.size) qB.size (mapL y y0 y1 y2 y3 y4 y5 y6)).setCell (p := ⟨w.heap.size + 1 + 1 + 1, 0, none⟩) (show w.heap.size ≤ w.heap.size + 1 + 1 + 1 by omega) (.int .i64 0))
      generalize hM : (((w2.alloc (.cells #[.int .u64 0, .int .u64 0, .int .u64 0, .int .u64 0, .int .u64 0, .int .u64 0, .int .u64 0, .int .u64 0] 26)).setRow w2.heap.size (mapL y y0 y1 y2 y3 y4 y5 y6)).setCell ⟨w.heap.size + 1 + 1 + 1, 0, none⟩ (.int .i64 0)) = M at *
      have z2 := m2.setRow #[.int .i64 y, .int .i64 y0, .int .i64 y1, .int .i64 y2, .int .i64 y3, .int .i64 y4, .int .i64 y5, .int .i64 y6]
      have z3 := m3.farRow (g' := w.heap.size + 1 + 1) (by omega) #[.int .i64 y, .int .i64 y0, .int .i64 y1, .int .i64 y2, .int .i64 y3, .int .i64 y4, .int .i64 y5, .int .i64 y6]
      have c4 := z3.cell 0
      have f4 := z3.frozen 0
      simp at c4
      go_wp2_with (first | (refine row_load (w.heap.size + 1 + 1) 39 _ m2 39 _ rfl rfl rfl _ Try.underlying39 rfl (by kernel_rfl) ?_) | (refine row_store (w.heap.size + 1 + 1) 39 _ _ m2 39 _ _ rfl rfl rfl rfl (by kernel_rfl) (rfl) (by kernel_rfl) ?_))
      have z4 := z3.set_ 0 (.int .i64 0)
      have z5 := z2.far (p := ⟨w.heap.size + 1 + 1 + 1, 0, none⟩) (by simp) (.int .i64 0)
      have zB := (below_setRow mB (g := w.heap.size + 1 + 1) (by omega) #[.int .i64 y, .int .i64 y0, .int .i64 y1, .int .i64 y2, .int .i64 y3, .int .i64 y4, .int .i64 y5, .int .i64 y6]).setCell (p := ⟨w.heap.size + 1 + 1 + 1, 0, none⟩) (show w.heap.size ≤ w.heap.size + 1 + 1 + 1 by omega) (.int .i64 0)
      refine leaves_cons (f := 80) (args := #[.pointer (some ⟨w.heap.size + 1 + 1 + 1, 0, none⟩), .func (.func 83) #[] #[.pointer (some ⟨w.heap.size + 1 + 1, 0, none⟩)]]) (by simp) (by simp [go_sem]) ?_
      refine (caught_idle ⟨w.heap.size + 1 + 1 + 1, 0, none⟩ _ _).mono ?_
      rintro r u' w4 ⟨rfl, rfl, rfl⟩
      have e5 := z4.cell 0
      simp at e5
      exact leaves_done (results_cell_cell rfl _ _ (w.heap.size + 1 + 1) 39 _ _ rfl z5 Try.underlying39 rfl (by kernel_rfl) ⟨w.heap.size + 1 + 1 + 1, 0, none⟩ _ rfl (load_int1 Try.underlying27 e5)) ⟨by unfold mapIsV mapIsE; rw [his.out]; simp only [hy, hy0, hy1, hy2, hy3, hy4, hy5, hy6]; rfl, zB⟩

theorem mapIsV_size (a b c d e f g h : Nat) : (mapIsV a b c d e f g h).size = 8 := by unfold mapIsV; split <;> rfl
theorem mapIsV_one (a b c d e f g h : Nat) : (mapIsV a b c d e f g h).all (·.oneCell') = true := by unfold mapIsV; split <;> kernel_rfl
set_option maxRecDepth 100000 in
set_option maxHeartbeats 2000000 in
theorem GetMap_any (a b c d e f g h : Nat) (ha : a < 18446744073709551616) (hb : b < 18446744073709551616) (hc : c < 18446744073709551616) (hd : d < 18446744073709551616) (he : e < 18446744073709551616) (hf : f < 18446744073709551616) (hg : g < 18446744073709551616) (hh : h < 18446744073709551616) (w : World) :
    Calls Try.prog 29 #[.agg (ln8 a b c d e f g h)] w fun r w' => r = .returned (.tuple #[.agg (mapIsV a b c d e f g h), .int .i64 (mapIsE a b c d e f g h)]) ∧ Below w.heap.size w w' := by
  have hord : Try.prog.follows .mixedOrders = true := by kernel_rfl
  have hx := (Blk.new w 26 (ln8 a b c d e f g h)).alloc (.cells #[.int .i64 0, .int .i64 0, .int .i64 0, .int .i64 0, .int .i64 0, .int .i64 0, .int .i64 0, .int .i64 0] 39)
  have hr := Blk.new (w.alloc (.cells (ln8 a b c d e f g h) 26)) 39 #[.int .i64 0, .int .i64 0, .int .i64 0, .int .i64 0, .int .i64 0, .int .i64 0, .int .i64 0, .int .i64 0]
  have hB := ((Below.refl _ w).alloc (Nat.le_refl _) (.cells (ln8 a b c d e f g h) 26)).alloc (by simp) (.cells #[.int .i64 0, .int .i64 0, .int .i64 0, .int .i64 0, .int .i64 0, .int .i64 0, .int .i64 0, .int .i64 0] 39)
  simp only [World.size_alloc] at hr
  have Hsz := Lib.hid (mapIsV_size a b c d e f g h)
  have Hone := Lib.hid (mapIsV_one a b c d e f g h)
  go_enter Try.func29, Try.ntmps29
  go_wp2_with fail
  refine draw_orders0 [[0, 1, 2, 3, 4, 5, 6], [1, 0, 2, 3, 4, 5, 6], [0, 1, 2, 4, 3, 5, 6], [1, 0, 2, 4, 3, 5, 6]] hord (by kernel_rfl) ?_
  intro o ho
  simp only [List.mem_cons, List.not_mem_nil, or_false] at ho
  rcases ho with rfl | rfl | rfl | rfl
  all_goals refine ⟨_, ⟨_, _, rfl, rfl, _, _, rfl, rfl, _, _, rfl, rfl, _, _, rfl, rfl, _, _, rfl, rfl, _, _, rfl, rfl, _, _, rfl, rfl, rfl⟩, ?_⟩
  all_goals simp only [List.getElem_toArray, List.getElem_cons_zero, List.getElem_cons_succ]
  all_goals
    replace hx := hx.drew
    replace hr := hr.drew
    replace hB := hB.drew
    go_wp2_with (refine row_load (w.heap.size) 26 _ hx 26 _ rfl rfl rfl _ Try.underlying26 rfl (by kernel_rfl) ?_)
    refine (maps_any _).mono ?_
    rintro r w1 ⟨rfl, hb⟩
    replace hx := hx.below hb hx.lt
    replace hr := hr.below hb hr.lt
    replace hB := hB.trans (hb.mono hB.size)
    clear hb
    go_wp2_with (refine row_load (w.heap.size) 26 _ hx 26 _ rfl rfl rfl _ Try.underlying26 rfl (by kernel_rfl) ?_)
    refine (getMap_any a b c d e f g h ha hb hc hd he hf hg hh _).mono ?_
    rintro r w2 ⟨rfl, hb⟩
    replace hr := hr.below hb hr.lt
    replace hB := hB.trans (hb.mono hB.size)
    clear hb
    obtain ⟨v, hv⟩ : ∃ v, mapIsV a b c d e f g h = v := ⟨_, rfl⟩
    have hsz := Hsz.out
    have hone := Hone.out
    rw [hv] at hsz hone ⊢
    go_wp2_with (refine row_store (w.heap.size + 1) 39 _ _ hr 39 _ _ rfl rfl rfl rfl (by rw [hsz]; kernel_rfl) (by rw [hsz]; rfl) hone ?_)
    refine bodyPost_ret (results_cell_slot rfl _ _ (w.heap.size + 1) 39 _ _ rfl (hr.setRow _) Try.underlying39 rfl (by rw [hsz]; kernel_rfl) _ rfl) rfl ?_
    exact ⟨by rw [hv]; rfl, below_setRow hB (by omega) _⟩
end Go.Proofs.Ytdgnbmcckknfiaa
