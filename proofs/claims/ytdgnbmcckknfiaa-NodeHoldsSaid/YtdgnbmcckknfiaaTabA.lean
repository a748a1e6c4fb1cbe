/- The walks of node's tables: which may be, how their words are written, and put. Conditions: none. -/
import Derived.Test.YtdgnbmcckknfiaaNodL
import Derived.Test.YtdgnbmcckknfiaaEqs
import Derived.Test.YtdgnbmcckknfiaaPlc
namespace Go.Proofs.Ytdgnbmcckknfiaa
open Go.RowKit
set_option linter.unusedSimpArgs false
attribute [local go_sem] Oper.semAt_some wide_fn wide_depth

/-- May a table be? -/
def tabOk (y0 y1 y2 y3 y4 y5 y6 : Int) : Bool := ptrs 0 [y0, y1, y2, y3, y4, y5, y6]
theorem idx7 {α : Type} {xs : List α} {ys : Array α} {off : Nat} (h7 : xs.length = 7) (h : ∀ j, j < 7 → xs[j]? = ys[off + j]?) : ∀ j u, xs[j]? = some u → ys[off + j]? = some u := fun j u hu => by
  rw [← h j (by have := (List.getElem?_eq_some_iff.1 hu).1; omega)]
  exact hu
theorem lt7 {p : Nat → Prop} (h0 : p 0) (h1 : p 1) (h2 : p 2) (h3 : p 3) (h4 : p 4) (h5 : p 5) (h6 : p 6) : ∀ j, j < 7 → p j := fun j hj => by
  match j, hj with
  | 0, _ => exact h0
  | 1, _ => exact h1
  | 2, _ => exact h2
  | 3, _ => exact h3
  | 4, _ => exact h4
  | 5, _ => exact h5
  | 6, _ => exact h6
set_option maxHeartbeats 1000000 in
theorem tabright_any (y0 y1 y2 y3 y4 y5 y6 : Int) (w : World) :
    Calls Try.prog 77 #[.agg #[.int .i64 y0, .int .i64 y1, .int .i64 y2, .int .i64 y3, .int .i64 y4, .int .i64 y5, .int .i64 y6]] w fun e w' => e = .returned (.bool (tabOk y0 y1 y2 y3 y4 y5 y6)) ∧ Below w.heap.size w w' := by
  have hB := (Below.refl _ w).alloc (Nat.le_refl _) (.cells #[.int .i64 y0, .int .i64 y1, .int .i64 y2, .int .i64 y3, .int .i64 y4, .int .i64 y5, .int .i64 y6] 53)
  have hr := blk_reads (xs := cellsI [y0, y1, y2, y3, y4, y5, y6]) (off := 0) (n := 7) (Blk.new w 53 #[.int .i64 y0, .int .i64 y1, .int .i64 y2, .int .i64 y3, .int .i64 y4, .int .i64 y5, .int .i64 y6]) rfl (idx7 rfl (lt7 rfl rfl rfl rfl rfl rfl rfl))
  go_enter Try.func77, Try.ntmps77
  go_wp2_with fail
  refine (pointers_any 0 [y0, y1, y2, y3, y4, y5, y6] _ _ _ _ hr (by omega)).mono ?_
  rintro e w1 ⟨rfl, hb⟩
  go_wp2
  go_ret
  exact ⟨rfl, hB.trans (hb.mono hB.size)⟩

/-- A table's words. -/
def tabW (y0 y1 y2 y3 y4 y5 y6 : Int) : List Int := [y0, y1, y2, y3, y4, y5, y6, 0]
def tabL (y0 y1 y2 y3 y4 y5 y6 : Int) : Array Value := if tabOk y0 y1 y2 y3 y4 y5 y6 then ln8 y0 y1 y2 y3 y4 y5 y6 0 else ln8 0 0 0 0 0 0 0 0
def tabE (y0 y1 y2 y3 y4 y5 y6 : Int) : Int := if tabOk y0 y1 y2 y3 y4 y5 y6 then 0 else 2
/-- The words when so many are written. -/
def tabAt (y0 y1 y2 y3 y4 y5 y6 : Int) : Nat → Array Value
  | 0 => ln8  0 0 0 0 0 0 0 0 
  | 1 => ln8 y0 0 0 0 0 0 0 0 
  | 2 => ln8 y0 y1 0 0 0 0 0 0 
  | 3 => ln8 y0 y1 y2 0 0 0 0 0 
  | 4 => ln8 y0 y1 y2 y3 0 0 0 0 
  | 5 => ln8 y0 y1 y2 y3 y4 0 0 0 
  | 6 => ln8 y0 y1 y2 y3 y4 y5 0 0 
  | _ => ln8 y0 y1 y2 y3 y4 y5 y6 0
theorem ptr_wrap {least : Int} (h0 : 0 ≤ least) {xs : List Int} (h : ptrs least xs = true) : ∀ x ∈ xs, IntKind.u64.wrap x = x := fun x hx => by
  unfold ptrs at h
  rw [Bool.not_eq_true', List.any_eq_false] at h
  have := h x hx
  simp [badP] at this
  rw [IntKind.wrap_u64]
  omega
set_option maxRecDepth 100000 in
set_option maxHeartbeats 4000000 in
theorem tabwrite_ok (y0 y1 y2 y3 y4 y5 y6 : Int) (h : tabOk y0 y1 y2 y3 y4 y5 y6 = true) (b : Nat) (w : World) (hB : Blk w b 113 #[.int .u64 0, .int .u64 0, .int .u64 0, .int .u64 0, .int .u64 0, .int .u64 0, .int .u64 0, .int .u64 0]) :
    Calls Try.prog 78 #[.agg #[.int .i64 y0, .int .i64 y1, .int .i64 y2, .int .i64 y3, .int .i64 y4, .int .i64 y5, .int .i64 y6], .pointer (some ⟨b, 0, none⟩)] w fun e w' => e = .returned (.tuple #[]) ∧
      Blk w' b 113 (ln8 y0 y1 y2 y3 y4 y5 y6 0) ∧ Below b w w' := by
  have hwr := ptr_wrap (by omega) h
  have hbl := hB.lt
  obtain ⟨W3, hW3⟩ : ∃ W3, W3 = ((w.alloc (.cells #[.int .i64 y0, .int .i64 y1, .int .i64 y2, .int .i64 y3, .int .i64 y4, .int .i64 y5, .int .i64 y6] 53)).alloc (.cells #[.pointer (some ⟨b, 0, none⟩)] 114)).alloc (.cells #[.int .i64 7] 3) := ⟨_, rfl⟩
  have HW : Hid (Blk W3 w.heap.size 53 #[.int .i64 y0, .int .i64 y1, .int .i64 y2, .int .i64 y3, .int .i64 y4, .int .i64 y5, .int .i64 y6] ∧ Blk W3 (w.heap.size + 1) 114 #[.pointer (some ⟨b, 0, none⟩)] ∧ Blk W3 (w.heap.size + 1 + 1) 3 #[.int .i64 7] ∧ Blk W3 b 113 #[.int .u64 0, .int .u64 0, .int .u64 0, .int .u64 0, .int .u64 0, .int .u64 0, .int .u64 0, .int .u64 0] ∧ Below w.heap.size w W3 ∧ W3.heap.size = w.heap.size + 3) := Lib.hid (by
    subst hW3
    have k0 := Blk.new w 53 #[.int .i64 y0, .int .i64 y1, .int .i64 y2, .int .i64 y3, .int .i64 y4, .int .i64 y5, .int .i64 y6]
    have k1 := Blk.new (w.alloc (.cells #[.int .i64 y0, .int .i64 y1, .int .i64 y2, .int .i64 y3, .int .i64 y4, .int .i64 y5, .int .i64 y6] 53)) 114 #[.pointer (some ⟨b, 0, none⟩)]
    have k2 := Blk.new ((w.alloc (.cells #[.int .i64 y0, .int .i64 y1, .int .i64 y2, .int .i64 y3, .int .i64 y4, .int .i64 y5, .int .i64 y6] 53)).alloc (.cells #[.pointer (some ⟨b, 0, none⟩)] 114)) 3 #[.int .i64 7]
    replace k0 := (k0.alloc (.cells #[.pointer (some ⟨b, 0, none⟩)] 114)).alloc (.cells #[.int .i64 7] 3)
    replace k1 := k1.alloc (.cells #[.int .i64 7] 3)
    simp only [World.size_alloc] at k0 k1 k2
    have hb : Below w.heap.size w (((w.alloc (.cells #[.int .i64 y0, .int .i64 y1, .int .i64 y2, .int .i64 y3, .int .i64 y4, .int .i64 y5, .int .i64 y6] 53)).alloc (.cells #[.pointer (some ⟨b, 0, none⟩)] 114)).alloc (.cells #[.int .i64 7] 3)) := (((Below.refl _ w).alloc (Nat.le_refl _) _).alloc (by simp) _).alloc (by simp; omega) _
    exact ⟨k0, k1, k2, hB.below hb hbl, hb, by simp⟩)
  have hord : Try.prog.follows .mixedOrders = true := by kernel_rfl
  have Hw := Lib.hid hwr
  have Hbl := Lib.hid hbl
  have HW3 := Lib.hid hW3
  clear hwr h hB hbl hW3
  refine (callsIn_wide (n := 3)).1 (callsIn_of_wp_marks Try.func78 rfl trivial ?_ rfl)
  simp only [Try.ntmps78, List.size_toArray, List.length_cons, List.length_nil, Nat.reduceAdd, Nat.reduceSub, Array.replicate_succ, Array.replicate_zero, List.push_toArray, List.append_toArray, List.nil_append, List.cons_append]
  gi_wp2_with fail
  refine (callsIn_wide.2 (places_any _ _)).mono ?_
  rintro e w4 ⟨rfl, rfl⟩
  gi_wp2_with fail
  rw [← HW3.out]
  obtain ⟨k0, k1, k2, k3, hb, hs⟩ := HW.out
  have Hs := Lib.hid hs
  have hbl := Hbl.out
  refine places_break (pb := w.heap.size + 1 + 1) (N := 7) (B := b) (w0 := w) (lt := 3) rfl (by omega) rfl
    (fun k => [(w.heap.size, 53, #[.int .i64 y0, .int .i64 y1, .int .i64 y2, .int .i64 y3, .int .i64 y4, .int .i64 y5, .int .i64 y6]), (w.heap.size + 1, 114, #[.pointer (some ⟨b, 0, none⟩)]), (w.heap.size + 1 + 1, 3, #[.int .i64 7]), (b, 113, tabAt y0 y1 y2 y3 y4 y5 y6 k)]) [(b, 113, ln8 y0 y1 y2 y3 y4 y5 y6 0)]
    ?hlt (fun p h => by rw [List.mem_singleton.1 h]; show b < W3.heap.size; omega) (fun _ => by simp) (by omega) (Blks.cons k0 (Blks.cons k1 (Blks.cons k2 (Blks.cons k3 Blks.nil)))) (hb.mono (by omega)) ?hround ?rest
  case hlt =>
    intro k p hp
    simp only [List.mem_cons, List.not_mem_nil, or_false] at hp
    rcases hp with rfl | rfl | rfl | rfl <;> simp <;> omega
  case hround =>
    intro k Y hk hl hbY hle
    clear hs hbl hb k0 k1 k2 k3
    revert k
    refine lt7 ?_ ?_ ?_ ?_ ?_ ?_ ?_
    · intro hl
      gi_wp2
      refine ⟨trivial, fun Z hlZ hbZ hleZ => ?_⟩
      clear hl hbY hle
      have kx := hlZ.head.drew.cell 0
      have kp := hlZ.tail.head.drew.cell 0
      have kl := hlZ.tail.tail.tail.head.drew.cell 0
      have kf := hlZ.tail.tail.tail.head.drew.frozen 0
      have hz := hlZ.tail.tail.tail.head.drew.set_ 0 (.int .u64 y0)
      have hwk := Hw.out y0 (by simp)
      simp [tabAt, ln8] at kx kp kl hz
      gi_wp2
      refine draw_round 9 hord (by kernel_rfl) (by kernel_rfl) ?_
      simp only [List.take_succ_cons, List.take_zero, List.drop_succ_cons, List.drop_zero]
      repeat still_step
      refine wpStill_nil ?_
      gi_wp2
      have h1 := Hs.out
      have h2 := Hbl.out
      exact ⟨bk_set Z _ (by omega), Blks.cons (hlZ.head.drew.far (p := ⟨b, 0, none⟩) (by simp; omega) _) (Blks.cons (hlZ.tail.head.drew.far (p := ⟨b, 0, none⟩) (by simp; omega) _) (Blks.cons (hlZ.tail.tail.head.drew.far (p := ⟨b, 0, none⟩) (by simp; omega) _) (Blks.cons hz Blks.nil))), (hbZ.setCell (p := ⟨b, 0, none⟩) (Nat.le_refl _) _).drew⟩
    · intro hl
      gi_wp2
      refine ⟨trivial, fun Z hlZ hbZ hleZ => ?_⟩
      clear hl hbY hle
      have kx := hlZ.head.drew.cell 1
      have kp := hlZ.tail.head.drew.cell 0
      have kl := hlZ.tail.tail.tail.head.drew.cell 1
      have kf := hlZ.tail.tail.tail.head.drew.frozen 1
      have hz := hlZ.tail.tail.tail.head.drew.set_ 1 (.int .u64 y1)
      have hwk := Hw.out y1 (by simp)
      simp [tabAt, ln8] at kx kp kl hz
      gi_wp2
      refine draw_round 9 hord (by kernel_rfl) (by kernel_rfl) ?_
      simp only [List.take_succ_cons, List.take_zero, List.drop_succ_cons, List.drop_zero]
      repeat still_step
      refine wpStill_nil ?_
      gi_wp2
      have h1 := Hs.out
      have h2 := Hbl.out
      exact ⟨bk_set Z _ (by omega), Blks.cons (hlZ.head.drew.far (p := ⟨b, 1, none⟩) (by simp; omega) _) (Blks.cons (hlZ.tail.head.drew.far (p := ⟨b, 1, none⟩) (by simp; omega) _) (Blks.cons (hlZ.tail.tail.head.drew.far (p := ⟨b, 1, none⟩) (by simp; omega) _) (Blks.cons hz Blks.nil))), (hbZ.setCell (p := ⟨b, 1, none⟩) (Nat.le_refl _) _).drew⟩
    · intro hl
      gi_wp2
      refine ⟨trivial, fun Z hlZ hbZ hleZ => ?_⟩
      clear hl hbY hle
      have kx := hlZ.head.drew.cell 2
      have kp := hlZ.tail.head.drew.cell 0
      have kl := hlZ.tail.tail.tail.head.drew.cell 2
      have kf := hlZ.tail.tail.tail.head.drew.frozen 2
      have hz := hlZ.tail.tail.tail.head.drew.set_ 2 (.int .u64 y2)
      have hwk := Hw.out y2 (by simp)
      simp [tabAt, ln8] at kx kp kl hz
      gi_wp2
      refine draw_round 9 hord (by kernel_rfl) (by kernel_rfl) ?_
      simp only [List.take_succ_cons, List.take_zero, List.drop_succ_cons, List.drop_zero]
      repeat still_step
      refine wpStill_nil ?_
      gi_wp2
      have h1 := Hs.out
      have h2 := Hbl.out
      exact ⟨bk_set Z _ (by omega), Blks.cons (hlZ.head.drew.far (p := ⟨b, 2, none⟩) (by simp; omega) _) (Blks.cons (hlZ.tail.head.drew.far (p := ⟨b, 2, none⟩) (by simp; omega) _) (Blks.cons (hlZ.tail.tail.head.drew.far (p := ⟨b, 2, none⟩) (by simp; omega) _) (Blks.cons hz Blks.nil))), (hbZ.setCell (p := ⟨b, 2, none⟩) (Nat.le_refl _) _).drew⟩
    · intro hl
      gi_wp2
      refine ⟨trivial, fun Z hlZ hbZ hleZ => ?_⟩
      clear hl hbY hle
      have kx := hlZ.head.drew.cell 3
      have kp := hlZ.tail.head.drew.cell 0
      have kl := hlZ.tail.tail.tail.head.drew.cell 3
      have kf := hlZ.tail.tail.tail.head.drew.frozen 3
      have hz := hlZ.tail.tail.tail.head.drew.set_ 3 (.int .u64 y3)
      have hwk := Hw.out y3 (by simp)
      simp [tabAt, ln8] at kx kp kl hz
      gi_wp2
      refine draw_round 9 hord (by kernel_rfl) (by kernel_rfl) ?_
      simp only [List.take_succ_cons, List.take_zero, List.drop_succ_cons, List.drop_zero]
      repeat still_step
      refine wpStill_nil ?_
      gi_wp2
      have h1 := Hs.out
      have h2 := Hbl.out
      exact ⟨bk_set Z _ (by omega), Blks.cons (hlZ.head.drew.far (p := ⟨b, 3, none⟩) (by simp; omega) _) (Blks.cons (hlZ.tail.head.drew.far (p := ⟨b, 3, none⟩) (by simp; omega) _) (Blks.cons (hlZ.tail.tail.head.drew.far (p := ⟨b, 3, none⟩) (by simp; omega) _) (Blks.cons hz Blks.nil))), (hbZ.setCell (p := ⟨b, 3, none⟩) (Nat.le_refl _) _).drew⟩
    · intro hl
      gi_wp2
      refine ⟨trivial, fun Z hlZ hbZ hleZ => ?_⟩
      clear hl hbY hle
      have kx := hlZ.head.drew.cell 4
      have kp := hlZ.tail.head.drew.cell 0
      have kl := hlZ.tail.tail.tail.head.drew.cell 4
      have kf := hlZ.tail.tail.tail.head.drew.frozen 4
      have hz := hlZ.tail.tail.tail.head.drew.set_ 4 (.int .u64 y4)
      have hwk := Hw.out y4 (by simp)
      simp [tabAt, ln8] at kx kp kl hz
      gi_wp2
      refine draw_round 9 hord (by kernel_rfl) (by kernel_rfl) ?_
      simp only [List.take_succ_cons, List.take_zero, List.drop_succ_cons, List.drop_zero]
      repeat still_step
      refine wpStill_nil ?_
      gi_wp2
      have h1 := Hs.out
      have h2 := Hbl.out
      exact ⟨bk_set Z _ (by omega), Blks.cons (hlZ.head.drew.far (p := ⟨b, 4, none⟩) (by simp; omega) _) (Blks.cons (hlZ.tail.head.drew.far (p := ⟨b, 4, none⟩) (by simp; omega) _) (Blks.cons (hlZ.tail.tail.head.drew.far (p := ⟨b, 4, none⟩) (by simp; omega) _) (Blks.cons hz Blks.nil))), (hbZ.setCell (p := ⟨b, 4, none⟩) (Nat.le_refl _) _).drew⟩
    · intro hl
      gi_wp2
      refine ⟨trivial, fun Z hlZ hbZ hleZ => ?_⟩
      clear hl hbY hle
      have kx := hlZ.head.drew.cell 5
      have kp := hlZ.tail.head.drew.cell 0
      have kl := hlZ.tail.tail.tail.head.drew.cell 5
      have kf := hlZ.tail.tail.tail.head.drew.frozen 5
      have hz := hlZ.tail.tail.tail.head.drew.set_ 5 (.int .u64 y5)
      have hwk := Hw.out y5 (by simp)
      simp [tabAt, ln8] at kx kp kl hz
      gi_wp2
      refine draw_round 9 hord (by kernel_rfl) (by kernel_rfl) ?_
      simp only [List.take_succ_cons, List.take_zero, List.drop_succ_cons, List.drop_zero]
      repeat still_step
      refine wpStill_nil ?_
      gi_wp2
      have h1 := Hs.out
      have h2 := Hbl.out
      exact ⟨bk_set Z _ (by omega), Blks.cons (hlZ.head.drew.far (p := ⟨b, 5, none⟩) (by simp; omega) _) (Blks.cons (hlZ.tail.head.drew.far (p := ⟨b, 5, none⟩) (by simp; omega) _) (Blks.cons (hlZ.tail.tail.head.drew.far (p := ⟨b, 5, none⟩) (by simp; omega) _) (Blks.cons hz Blks.nil))), (hbZ.setCell (p := ⟨b, 5, none⟩) (Nat.le_refl _) _).drew⟩
    · intro hl
      gi_wp2
      refine ⟨trivial, fun Z hlZ hbZ hleZ => ?_⟩
      clear hl hbY hle
      have kx := hlZ.head.drew.cell 6
      have kp := hlZ.tail.head.drew.cell 0
      have kl := hlZ.tail.tail.tail.head.drew.cell 6
      have kf := hlZ.tail.tail.tail.head.drew.frozen 6
      have hz := hlZ.tail.tail.tail.head.drew.set_ 6 (.int .u64 y6)
      have hwk := Hw.out y6 (by simp)
      simp [tabAt, ln8] at kx kp kl hz
      gi_wp2
      refine draw_round 9 hord (by kernel_rfl) (by kernel_rfl) ?_
      simp only [List.take_succ_cons, List.take_zero, List.drop_succ_cons, List.drop_zero]
      repeat still_step
      refine wpStill_nil ?_
      gi_wp2
      have h1 := Hs.out
      have h2 := Hbl.out
      exact ⟨bk_set Z _ (by omega), Blks.cons (hlZ.head.drew.far (p := ⟨b, 6, none⟩) (by simp; omega) _) (Blks.cons (hlZ.tail.head.drew.far (p := ⟨b, 6, none⟩) (by simp; omega) _) (Blks.cons (hlZ.tail.tail.head.drew.far (p := ⟨b, 6, none⟩) (by simp; omega) _) (Blks.cons hz Blks.nil))), (hbZ.setCell (p := ⟨b, 6, none⟩) (Nat.le_refl _) _).drew⟩
  case rest =>
    intro Y hor hbY hle hDk
    have hfin : Blk Y b 113 (ln8 y0 y1 y2 y3 y4 y5 y6 0) := by
      rcases hor with h | h
      · exact h.tail.tail.tail.head
      · exact h.head
    have hDD : Hid (∀ D ∈ [W3.heap.size], w.heap.size ≤ D ∧ Y.heap[D]? = some (.deferred (some []))) := Lib.hid (fun D hd => by
      rw [List.mem_singleton.1 hd]
      exact ⟨by have := Hs.out; omega, hDk⟩)
    clear hDk hor hs hb k0 k1 k2 k3
    gi_wp2
    refine leaves_marks w.heap.size [W3.heap.size] _ hDD.out (by simp) fun W' hW => ?_
    exact ⟨_, by simp [results, Try.results78, go_sem], rfl, hfin.below hW hbl, hbY.trans (hW.mono (by omega))⟩

set_option maxRecDepth 100000 in
set_option maxHeartbeats 2000000 in
theorem putTable_any (y0 y1 y2 y3 y4 y5 y6 : Int) (w : World) :
    Calls Try.prog 44 #[.agg #[.func (.func 77) #[] #[], .func (.func 78) #[] #[], .func (.func 79) #[] #[]], .agg #[.int .i64 y0, .int .i64 y1, .int .i64 y2, .int .i64 y3, .int .i64 y4, .int .i64 y5, .int .i64 y6]] w fun e w' => e = .returned (.tuple #[.agg (tabL y0 y1 y2 y3 y4 y5 y6), .int .i64 (tabE y0 y1 y2 y3 y4 y5 y6)]) ∧ Below w.heap.size w w' := by
  have HX : Hid (∀ X, X = (((((w.alloc (.cells #[.func (.func 77) #[] #[], .func (.func 78) #[] #[], .func (.func 79) #[] #[]] 106)).alloc (.cells #[.int .i64 y0, .int .i64 y1, .int .i64 y2, .int .i64 y3, .int .i64 y4, .int .i64 y5, .int .i64 y6] 53)).alloc (.cells #[.int .u64 0, .int .u64 0, .int .u64 0, .int .u64 0, .int .u64 0, .int .u64 0, .int .u64 0, .int .u64 0] 26)).alloc (.cells #[.int .u64 0, .int .u64 0, .int .u64 0, .int .u64 0, .int .u64 0, .int .u64 0, .int .u64 0, .int .u64 0] 113))).setRow (w.heap.size + 1 + 1 + 1) #[.int .u64 0, .int .u64 0, .int .u64 0, .int .u64 0, .int .u64 0, .int .u64 0, .int .u64 0, .int .u64 0] →
      Blk X w.heap.size 106 #[.func (.func 77) #[] #[], .func (.func 78) #[] #[], .func (.func 79) #[] #[]] ∧ Blk X (w.heap.size + 1) 53 #[.int .i64 y0, .int .i64 y1, .int .i64 y2, .int .i64 y3, .int .i64 y4, .int .i64 y5, .int .i64 y6] ∧ Blk X (w.heap.size + 1 + 1) 26 #[.int .u64 0, .int .u64 0, .int .u64 0, .int .u64 0, .int .u64 0, .int .u64 0, .int .u64 0, .int .u64 0] ∧ Blk X (w.heap.size + 1 + 1 + 1) 113 #[.int .u64 0, .int .u64 0, .int .u64 0, .int .u64 0, .int .u64 0, .int .u64 0, .int .u64 0, .int .u64 0] ∧ Below w.heap.size w X) := Lib.hid (by
    rintro X rfl
    have k0 := Blk.new w 106 #[.func (.func 77) #[] #[], .func (.func 78) #[] #[], .func (.func 79) #[] #[]]
    have k1 := Blk.new (w.alloc (.cells #[.func (.func 77) #[] #[], .func (.func 78) #[] #[], .func (.func 79) #[] #[]] 106)) 53 #[.int .i64 y0, .int .i64 y1, .int .i64 y2, .int .i64 y3, .int .i64 y4, .int .i64 y5, .int .i64 y6]
    have k2 := Blk.new ((w.alloc (.cells #[.func (.func 77) #[] #[], .func (.func 78) #[] #[], .func (.func 79) #[] #[]] 106)).alloc (.cells #[.int .i64 y0, .int .i64 y1, .int .i64 y2, .int .i64 y3, .int .i64 y4, .int .i64 y5, .int .i64 y6] 53)) 26 #[.int .u64 0, .int .u64 0, .int .u64 0, .int .u64 0, .int .u64 0, .int .u64 0, .int .u64 0, .int .u64 0]
    have k3 := Blk.new (((w.alloc (.cells #[.func (.func 77) #[] #[], .func (.func 78) #[] #[], .func (.func 79) #[] #[]] 106)).alloc (.cells #[.int .i64 y0, .int .i64 y1, .int .i64 y2, .int .i64 y3, .int .i64 y4, .int .i64 y5, .int .i64 y6] 53)).alloc (.cells #[.int .u64 0, .int .u64 0, .int .u64 0, .int .u64 0, .int .u64 0, .int .u64 0, .int .u64 0, .int .u64 0] 26)) 113 #[.int .u64 0, .int .u64 0, .int .u64 0, .int .u64 0, .int .u64 0, .int .u64 0, .int .u64 0, .int .u64 0]
    replace k0 := ((k0.alloc (.cells #[.int .i64 y0, .int .i64 y1, .int .i64 y2, .int .i64 y3, .int .i64 y4, .int .i64 y5, .int .i64 y6] 53)).alloc (.cells #[.int .u64 0, .int .u64 0, .int .u64 0, .int .u64 0, .int .u64 0, .int .u64 0, .int .u64 0, .int .u64 0] 26)).alloc (.cells #[.int .u64 0, .int .u64 0, .int .u64 0, .int .u64 0, .int .u64 0, .int .u64 0, .int .u64 0, .int .u64 0] 113)
    replace k1 := (k1.alloc (.cells #[.int .u64 0, .int .u64 0, .int .u64 0, .int .u64 0, .int .u64 0, .int .u64 0, .int .u64 0, .int .u64 0] 26)).alloc (.cells #[.int .u64 0, .int .u64 0, .int .u64 0, .int .u64 0, .int .u64 0, .int .u64 0, .int .u64 0, .int .u64 0] 113)
    replace k2 := k2.alloc (.cells #[.int .u64 0, .int .u64 0, .int .u64 0, .int .u64 0, .int .u64 0, .int .u64 0, .int .u64 0, .int .u64 0] 113)
    simp only [World.size_alloc] at k0 k1 k2 k3
    exact ⟨k0.farRow (by omega) _, k1.farRow (by omega) _, k2.farRow (by omega) _, k3.setRow _, below_setRow ((((((Below.refl _ w).alloc (Nat.le_refl _) _).alloc (by simp) _).alloc (by simp; omega) _).alloc (by simp; omega) _)) (by omega) _⟩)
  have hn := Blk.new (((w.alloc (.cells #[.func (.func 77) #[] #[], .func (.func 78) #[] #[], .func (.func 79) #[] #[]] 106)).alloc (.cells #[.int .i64 y0, .int .i64 y1, .int .i64 y2, .int .i64 y3, .int .i64 y4, .int .i64 y5, .int .i64 y6] 53)).alloc (.cells #[.int .u64 0, .int .u64 0, .int .u64 0, .int .u64 0, .int .u64 0, .int .u64 0, .int .u64 0, .int .u64 0] 26)) 113 #[.int .u64 0, .int .u64 0, .int .u64 0, .int .u64 0, .int .u64 0, .int .u64 0, .int .u64 0, .int .u64 0]
  simp only [World.size_alloc] at hn
  cases hok : tabOk y0 y1 y2 y3 y4 y5 y6
  · have e1 : Hid (tabL y0 y1 y2 y3 y4 y5 y6 = #[.int .u64 0, .int .u64 0, .int .u64 0, .int .u64 0, .int .u64 0, .int .u64 0, .int .u64 0, .int .u64 0]) := Lib.hid (by unfold tabL; rw [hok]; rfl)
    have e2 : Hid (tabE y0 y1 y2 y3 y4 y5 y6 = 2) := Lib.hid (by unfold tabE; rw [hok]; rfl)
    have Hok := Lib.hid hok
    clear hok
    go_enter Try.func44, Try.ntmps44
    go_wp2_with fail
    refine wp_scope_goto 0 rfl fun J hJ => ?_
    obtain ⟨X, hX⟩ : ∃ X, X = (((((w.alloc (.cells #[.func (.func 77) #[] #[], .func (.func 78) #[] #[], .func (.func 79) #[] #[]] 106)).alloc (.cells #[.int .i64 y0, .int .i64 y1, .int .i64 y2, .int .i64 y3, .int .i64 y4, .int .i64 y5, .int .i64 y6] 53)).alloc (.cells #[.int .u64 0, .int .u64 0, .int .u64 0, .int .u64 0, .int .u64 0, .int .u64 0, .int .u64 0, .int .u64 0] 26)).alloc (.cells #[.int .u64 0, .int .u64 0, .int .u64 0, .int .u64 0, .int .u64 0, .int .u64 0, .int .u64 0, .int .u64 0] 113))).setRow (w.heap.size + 1 + 1 + 1) #[.int .u64 0, .int .u64 0, .int .u64 0, .int .u64 0, .int .u64 0, .int .u64 0, .int .u64 0, .int .u64 0] := ⟨_, rfl⟩
    obtain ⟨b0, b1, b2, b3, hB⟩ := HX.out X hX
    have c0 := b0.cell 0
    have c1 := b0.cell 1
    simp at c0 c1
    have HX2 := Lib.hid hX
    clear HX hX
    go_wp2_with (first | ((refine row_store (w.heap.size + 1 + 1 + 1) 113 _ _ hn 113 _ _ rfl rfl rfl rfl (by kernel_rfl) rfl (by kernel_rfl) ?_); rw [← HX2.out]) | (refine row_load (w.heap.size + 1) 53 _ b1 53 _ rfl rfl rfl _ Try.underlying53 rfl (by kernel_rfl) ?_))
    clear HX2 hn
    refine (tabright_any y0 y1 y2 y3 y4 y5 y6 _).mono ?_
    rintro r w1 ⟨rfl, hb⟩
    rw [Hok.out]
    replace b0 := b0.below hb b0.lt
    replace b1 := b1.below hb b1.lt
    replace b2 := b2.below hb b2.lt
    replace b3 := b3.below hb b3.lt
    replace hB := hB.trans (hb.mono hB.size)
    clear hb c0 c1
    go_wp2
    go_step3
    refine ⟨rfl, hJ _ _ ?_⟩
    go_wp2_with (first | (refine row_load (w.heap.size + 1 + 1) 26 _ b2 26 _ rfl rfl rfl _ Try.underlying26 rfl (by kernel_rfl) ?_) | (refine row_store (w.heap.size + 1 + 1) 26 _ _ b2 26 _ _ rfl rfl rfl rfl (by kernel_rfl) rfl (by kernel_rfl) ?_))
    first | rw [Exit.noGoto_ret] | rw [Exit.jump_ret] | skip
    refine bodyPost_ret (results_cell_slot rfl _ _ (w.heap.size + 1 + 1) 26 _ _ rfl (b2.setRow _) Try.underlying26 rfl (by kernel_rfl) _ rfl) rfl ?_
    exact ⟨by rw [e1.out, e2.out]; rfl, below_setRow hB (by omega) _⟩
  · have e2 : Hid (tabE y0 y1 y2 y3 y4 y5 y6 = 0) := Lib.hid (by unfold tabE; rw [hok]; rfl)
    have Hok := Lib.hid hok
    have e1 : Hid (tabL y0 y1 y2 y3 y4 y5 y6 = ln8 y0 y1 y2 y3 y4 y5 y6 0) := Lib.hid (by unfold tabL; rw [hok]; rfl)
    clear hok
    go_enter Try.func44, Try.ntmps44
    go_wp2_with fail
    refine wp_scope_goto 0 rfl fun J hJ => ?_
    obtain ⟨X, hX⟩ : ∃ X, X = (((((w.alloc (.cells #[.func (.func 77) #[] #[], .func (.func 78) #[] #[], .func (.func 79) #[] #[]] 106)).alloc (.cells #[.int .i64 y0, .int .i64 y1, .int .i64 y2, .int .i64 y3, .int .i64 y4, .int .i64 y5, .int .i64 y6] 53)).alloc (.cells #[.int .u64 0, .int .u64 0, .int .u64 0, .int .u64 0, .int .u64 0, .int .u64 0, .int .u64 0, .int .u64 0] 26)).alloc (.cells #[.int .u64 0, .int .u64 0, .int .u64 0, .int .u64 0, .int .u64 0, .int .u64 0, .int .u64 0, .int .u64 0] 113))).setRow (w.heap.size + 1 + 1 + 1) #[.int .u64 0, .int .u64 0, .int .u64 0, .int .u64 0, .int .u64 0, .int .u64 0, .int .u64 0, .int .u64 0] := ⟨_, rfl⟩
    obtain ⟨b0, b1, b2, b3, hB⟩ := HX.out X hX
    have c0 := b0.cell 0
    have c1 := b0.cell 1
    simp at c0 c1
    have HX2 := Lib.hid hX
    clear HX hX
    go_wp2_with (first | ((refine row_store (w.heap.size + 1 + 1 + 1) 113 _ _ hn 113 _ _ rfl rfl rfl rfl (by kernel_rfl) rfl (by kernel_rfl) ?_); rw [← HX2.out]) | (refine row_load (w.heap.size + 1) 53 _ b1 53 _ rfl rfl rfl _ Try.underlying53 rfl (by kernel_rfl) ?_))
    clear HX2 hn
    refine (tabright_any y0 y1 y2 y3 y4 y5 y6 _).mono ?_
    rintro r w1 ⟨rfl, hb⟩
    rw [Hok.out]
    replace b0 := b0.below hb b0.lt
    replace b1 := b1.below hb b1.lt
    replace b2 := b2.below hb b2.lt
    replace b3 := b3.below hb b3.lt
    replace hB := hB.trans (hb.mono hB.size)
    clear hb c0 c1
    have c1 := b0.cell 1
    simp at c1
    go_wp2_with (refine row_load (w.heap.size + 1) 53 _ b1 53 _ rfl rfl rfl _ Try.underlying53 rfl (by kernel_rfl) ?_)
    refine (tabwrite_ok y0 y1 y2 y3 y4 y5 y6 Hok.out _ _ b3).mono ?_
    rintro r w2 ⟨rfl, hl, hb⟩
    replace b2 := b2.below hb (by omega)
    replace hB := hB.trans (hb.mono (by omega))
    clear hb c1 b0 b1 b3
    go_wp2_with (first | (refine row_load (w.heap.size + 1 + 1 + 1) 113 _ hl 113 _ rfl rfl rfl _ Try.underlying113 rfl (by kernel_rfl) ?_) | (refine row_store (w.heap.size + 1 + 1) 26 _ _ b2 26 _ _ rfl rfl rfl rfl (by kernel_rfl) rfl (by kernel_rfl) ?_))
    first | rw [Exit.noGoto_ret] | rw [Exit.jump_ret] | skip
    refine bodyPost_ret (results_cell_slot rfl _ _ (w.heap.size + 1 + 1) 26 _ _ rfl (b2.setRow _) Try.underlying26 rfl (by kernel_rfl) _ rfl) rfl ?_
    exact ⟨by rw [e1.out, e2.out]; rfl, below_setRow hB (by omega) _⟩

set_option maxHeartbeats 400000 in
theorem tables_any (w : World) : Calls Try.prog 45 #[] w fun e w' => e = .returned (.agg #[.func (.func 77) #[] #[], .func (.func 78) #[] #[], .func (.func 79) #[] #[]]) ∧ Below w.heap.size w w' := by
  have hp := Blk.new w 106 #[.nilFunc, .nilFunc, .nilFunc]
  go_enter Try.func45, Try.ntmps45
  go_wp2_with (refine row_store w.heap.size 106 _ _ hp 106 _ _ rfl rfl rfl rfl (by kernel_rfl) rfl (by kernel_rfl) ?_)
  refine bodyPost_ret (results_cell1 rfl _ _ w.heap.size 106 _ _ rfl (hp.setRow _) Try.underlying106 rfl (by kernel_rfl)) rfl ?_
  exact ⟨rfl, below_setRow ((Below.refl _ w).alloc (Nat.le_refl _) _) (Nat.le_refl _) _⟩

set_option maxRecDepth 100000 in
set_option maxHeartbeats 2000000 in
theorem PutTable_any (y0 y1 y2 y3 y4 y5 y6 : Int) (w : World) :
    Calls Try.prog 21 #[.agg #[.int .i64 y0, .int .i64 y1, .int .i64 y2, .int .i64 y3, .int .i64 y4, .int .i64 y5, .int .i64 y6]] w fun e w' => e = .returned (.tuple #[.agg (tabL y0 y1 y2 y3 y4 y5 y6), .int .i64 (tabE y0 y1 y2 y3 y4 y5 y6)]) ∧ Below w.heap.size w w' := by
  have hord : Try.prog.follows .mixedOrders = true := by kernel_rfl
  have hx := (Blk.new w 53 #[.int .i64 y0, .int .i64 y1, .int .i64 y2, .int .i64 y3, .int .i64 y4, .int .i64 y5, .int .i64 y6]).alloc (.cells #[.int .u64 0, .int .u64 0, .int .u64 0, .int .u64 0, .int .u64 0, .int .u64 0, .int .u64 0, .int .u64 0] 26)
  have hr := Blk.new (w.alloc (.cells #[.int .i64 y0, .int .i64 y1, .int .i64 y2, .int .i64 y3, .int .i64 y4, .int .i64 y5, .int .i64 y6] 53)) 26 #[.int .u64 0, .int .u64 0, .int .u64 0, .int .u64 0, .int .u64 0, .int .u64 0, .int .u64 0, .int .u64 0]
  have hB := ((Below.refl _ w).alloc (Nat.le_refl _) (.cells #[.int .i64 y0, .int .i64 y1, .int .i64 y2, .int .i64 y3, .int .i64 y4, .int .i64 y5, .int .i64 y6] 53)).alloc (by simp) (.cells #[.int .u64 0, .int .u64 0, .int .u64 0, .int .u64 0, .int .u64 0, .int .u64 0, .int .u64 0, .int .u64 0] 26)
  simp only [World.size_alloc] at hr
  have Hsz : Hid ((tabL y0 y1 y2 y3 y4 y5 y6).size = 8) := Lib.hid (by unfold tabL; split <;> rfl)
  have Hone : Hid ((tabL y0 y1 y2 y3 y4 y5 y6).all (·.oneCell') = true) := Lib.hid (by unfold tabL; split <;> kernel_rfl)
  go_enter Try.func21, Try.ntmps21
  go_wp2_with fail
  refine draw_orders0 [[0, 1, 2, 3, 4, 5, 6], [1, 0, 2, 3, 4, 5, 6], [0, 1, 2, 4, 3, 5, 6], [1, 0, 2, 4, 3, 5, 6]] hord (by kernel_rfl) ?_
  intro o ho
  simp only [List.mem_cons, List.not_mem_nil, or_false] at ho
  rcases ho with rfl | rfl | rfl | rfl
  all_goals refine ⟨_, ⟨_, _, rfl, rfl, _, _, rfl, rfl, _, _, rfl, rfl, _, _, rfl, rfl, _, _, rfl, rfl, _, _, rfl, rfl, _, _, rfl, rfl, rfl⟩, ?_⟩
  all_goals simp only [List.getElem_toArray, List.getElem_cons_zero, List.getElem_cons_succ]
  all_goals
    replace hx := hx.drew
    replace hr := hr.drew
    replace hB := hB.drew
    go_wp2_with (refine row_load w.heap.size 53 _ hx 53 _ rfl rfl rfl _ Try.underlying53 rfl (by kernel_rfl) ?_)
    refine (tables_any _).mono ?_
    rintro r w1 ⟨rfl, hb⟩
    replace hx := hx.below hb hx.lt
    replace hr := hr.below hb hr.lt
    replace hB := hB.trans (hb.mono hB.size)
    clear hb
    go_wp2_with (refine row_load w.heap.size 53 _ hx 53 _ rfl rfl rfl _ Try.underlying53 rfl (by kernel_rfl) ?_)
    refine (putTable_any y0 y1 y2 y3 y4 y5 y6 _).mono ?_
    rintro r w2 ⟨rfl, hb⟩
    replace hr := hr.below hb hr.lt
    replace hB := hB.trans (hb.mono hB.size)
    clear hb
    obtain ⟨v, hv⟩ : ∃ v, tabL y0 y1 y2 y3 y4 y5 y6 = v := ⟨_, rfl⟩
    have hsz := Hsz.out
    have hone := Hone.out
    rw [hv] at hsz hone ⊢
    go_wp2_with (refine row_store (w.heap.size + 1) 26 _ _ hr 26 _ _ rfl rfl rfl rfl (by rw [hsz]; kernel_rfl) (by rw [hsz]; rfl) hone ?_)
    refine bodyPost_ret (results_cell_slot rfl _ _ (w.heap.size + 1) 26 _ _ rfl (hr.setRow _) Try.underlying26 rfl (by rw [hsz]; kernel_rfl) _ rfl) rfl ?_
    exact ⟨by rw [hv]; rfl, below_setRow hB (by omega) _⟩
end Go.Proofs.Ytdgnbmcckknfiaa
