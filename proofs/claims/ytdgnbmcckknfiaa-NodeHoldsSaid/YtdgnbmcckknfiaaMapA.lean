/- The walks of node.Chunks, of node's maps: which may be, how their words are written, and put. Conditions: none. -/
import Derived.Test.YtdgnbmcckknfiaaTabA
namespace Go.Proofs.Ytdgnbmcckknfiaa
open Go.RowKit
set_option linter.unusedSimpArgs false
attribute [local go_sem] Oper.semAt_some wide_fn wide_depth

/-- May a size be? -/
def chOk (y : Int) : Bool := decide (0 ≤ y) && decide (y ≤ 448)
def chN (y : Int) : Int := if chOk y then (y + 63) / 64 else 0
def chE (y : Int) : Int := if chOk y then 0 else 2
set_option maxHeartbeats 1000000 in
theorem Chunks_any (y : Int) (w : World) : Calls Try.prog 13 #[.int .i64 y] w fun e w' => e = .returned (.tuple #[.int .i64 (chN y), .int .i64 (chE y)]) ∧ w = w' := by
  by_cases c1 : y < 0
  · have e1 : Hid (chN y = 0 ∧ chE y = 2) := Lib.hid (by simp [chN, chE, chOk, c1]; omega)
    go_enter Try.func13, Try.ntmps13
    go_wp2
    go_ret2
    exact ⟨by rw [e1.out.1, e1.out.2]; rfl, rfl⟩
  · by_cases c2 : 448 < y
    · have e1 : Hid (chN y = 0 ∧ chE y = 2) := Lib.hid (by simp [chN, chE, chOk]; omega)
      go_enter Try.func13, Try.ntmps13
      go_wp2
      go_ret2
      exact ⟨by rw [e1.out.1, e1.out.2]; rfl, rfl⟩
    · have e1 : Hid (chN y = (y + 63) / 64 ∧ chE y = 0) := Lib.hid (by simp [chN, chE, chOk]; omega)
      have c3 : 0 ≤ y := by omega
      have c4 : y ≤ 448 := by omega
      obtain ⟨d, hd⟩ : ∃ d, (y + 63) / 64 = d := ⟨_, rfl⟩
      have td : (y + 64 - 1).tdiv 64 = d := by rw [Int.tdiv_eq_ediv_of_nonneg (by omega), ← hd]; congr 1; omega
      have d0 : 0 ≤ d := by omega
      have d1 : d ≤ 8 := by omega
      have td2 : (y + 63).tdiv 64 = d := by rw [Int.tdiv_eq_ediv_of_nonneg (by omega), hd]
      rw [hd] at e1
      clear c1 c2 hd
      go_enter Try.func13, Try.ntmps13
      go_wp2
      go_ret2
      exact ⟨by rw [e1.out.1, e1.out.2]; rfl, rfl⟩

/-- May a map be? -/
def mapOk (y y0 y1 y2 y3 y4 y5 y6 : Int) : Bool := chOk y && ptrs 0 [y0, y1, y2, y3, y4, y5, y6] && !([y0, y1, y2, y3, y4, y5, y6].drop (chN y).toNat).any nzI
set_option maxRecDepth 100000 in
set_option maxHeartbeats 2000000 in
theorem mapright_any (y y0 y1 y2 y3 y4 y5 y6 : Int) (w : World) :
    Calls Try.prog 66 #[.agg #[.int .i64 y, .int .i64 y0, .int .i64 y1, .int .i64 y2, .int .i64 y3, .int .i64 y4, .int .i64 y5, .int .i64 y6]] w fun e w' => e = .returned (.bool (mapOk y y0 y1 y2 y3 y4 y5 y6)) ∧ Below w.heap.size w w' := by
  have hB := (Below.refl _ w).alloc (Nat.le_refl _) (.cells #[.int .i64 y, .int .i64 y0, .int .i64 y1, .int .i64 y2, .int .i64 y3, .int .i64 y4, .int .i64 y5, .int .i64 y6] 39)
  have hx := Blk.new w 39 #[.int .i64 y, .int .i64 y0, .int .i64 y1, .int .i64 y2, .int .i64 y3, .int .i64 y4, .int .i64 y5, .int .i64 y6]
  have hr := blk_reads (xs := cellsI [y0, y1, y2, y3, y4, y5, y6]) (off := 1) (n := 7) hx rfl (idx7 rfl (lt7 rfl rfl rfl rfl rfl rfl rfl))
  have HC := Lib.hid (Chunks_any y)
  have key : ∀ v u : Bool, chOk y = v → ptrs 0 [y0, y1, y2, y3, y4, y5, y6] = u → mapOk y y0 y1 y2 y3 y4 y5 y6 = (v && u && !([y0, y1, y2, y3, y4, y5, y6].drop (chN y).toNat).any nzI) := fun v u h1 h2 => by unfold mapOk; rw [h1, h2]
  cases c1 : chOk y
  · have e1 : Hid (mapOk y y0 y1 y2 y3 y4 y5 y6 = false) := Lib.hid (by rw [key false _ c1 rfl]; rfl)
    have e2 : Hid (chE y = 2) := Lib.hid (by simp [chE, c1])
    clear key c1
    go_enter Try.func66, Try.ntmps66
    go_wp2_with fail
    refine (HC.out _).mono ?_
    rintro e w1 ⟨rfl, rfl⟩
    rw [e2.out]
    go_wp2
    go_ret
    exact ⟨by rw [e1.out]; rfl, hB⟩
  · have e2 : Hid (chE y = 0) := Lib.hid (by simp [chE, c1])
    cases c2 : ptrs 0 [y0, y1, y2, y3, y4, y5, y6]
    · have e1 : Hid (mapOk y y0 y1 y2 y3 y4 y5 y6 = false) := Lib.hid (by rw [key _ false c1 c2]; rfl)
      have c2' := Lib.hid c2
      clear key c1 c2
      go_enter Try.func66, Try.ntmps66
      go_wp2_with fail
      refine (HC.out _).mono ?_
      rintro e w1 ⟨rfl, rfl⟩
      rw [e2.out]
      go_wp2_with fail
      refine (pointers_any 0 [y0, y1, y2, y3, y4, y5, y6] _ _ _ _ hr (by omega)).mono ?_
      rintro e w2 ⟨rfl, hb⟩
      rw [c2'.out]
      go_wp2
      go_ret
      exact ⟨by rw [e1.out]; rfl, hB.trans (hb.mono hB.size)⟩
    · obtain ⟨n, hn⟩ : ∃ n : Nat, chN y = n := ⟨(chN y).toNat, by unfold chN; rw [if_pos c1]; simp [chOk] at c1; omega⟩
      have hn7 : n ≤ 7 := by unfold chN at hn; rw [if_pos c1] at hn; simp [chOk] at c1; omega
      have e1 : Hid (mapOk y y0 y1 y2 y3 y4 y5 y6 = !([y0, y1, y2, y3, y4, y5, y6].drop n).any nzI) := Lib.hid (by rw [key _ _ c1 c2, hn]; rfl)
      obtain ⟨A', hsl, hrd⟩ := arr_from (P := Try.prog) (t := 37) (m := 7) Try.underlying37 (fun _ => by kernel_rfl) w.heap.size 1 n hn7
      have Hrd := Lib.hid hrd
      have c2' := Lib.hid c2
      rw [hn] at HC
      have hn1 : (0 : Int) ≤ n := by omega
      have hn2 : (n : Int) ≤ 7 := by omega
      clear key c1 c2 hn hrd
      go_enter Try.func66, Try.ntmps66
      go_wp2_with fail
      refine (HC.out _).mono ?_
      rintro e w1 ⟨rfl, rfl⟩
      rw [e2.out]
      go_wp2_with fail
      refine (pointers_any 0 [y0, y1, y2, y3, y4, y5, y6] _ _ _ _ hr (by omega)).mono ?_
      rintro e w2 ⟨rfl, hb⟩
      rw [c2'.out]
      have hr2 := Hrd.out _ _ _ ((hr.below hb).more hb.size)
      go_wp2_with fail
      refine (icontainsN_any ([y0, y1, y2, y3, y4, y5, y6].drop n) A' (7 - n) (7 - n) _ (by unfold cellsI; rw [List.map_drop]; exact hr2) (by omega)).mono ?_
      rintro e w3 ⟨rfl, rfl⟩
      go_wp2
      go_ret
      exact ⟨by rw [e1.out]; rfl, hB.trans (hb.mono hB.size)⟩

/-- A map's words. -/
def mapW (y y0 y1 y2 y3 y4 y5 y6 : Int) : List Int := [y, y0, y1, y2, y3, y4, y5, y6]
def mapL (y y0 y1 y2 y3 y4 y5 y6 : Int) : Array Value := if mapOk y y0 y1 y2 y3 y4 y5 y6 then ln8 y y0 y1 y2 y3 y4 y5 y6 else ln8 0 0 0 0 0 0 0 0
def mapE (y y0 y1 y2 y3 y4 y5 y6 : Int) : Int := if mapOk y y0 y1 y2 y3 y4 y5 y6 then 0 else 2
/-- The words when so many chunks are written. -/
def mapAt (y y0 y1 y2 y3 y4 y5 y6 : Int) : Nat → Array Value
  | 0 => ln8 y  0 0 0 0 0 0 0 
  | 1 => ln8 y y0 0 0 0 0 0 0 
  | 2 => ln8 y y0 y1 0 0 0 0 0 
  | 3 => ln8 y y0 y1 y2 0 0 0 0 
  | 4 => ln8 y y0 y1 y2 y3 0 0 0 
  | 5 => ln8 y y0 y1 y2 y3 y4 0 0 
  | 6 => ln8 y y0 y1 y2 y3 y4 y5 0 
  | _ => ln8 y y0 y1 y2 y3 y4 y5 y6
set_option maxRecDepth 100000 in
set_option maxHeartbeats 4000000 in
theorem mapwrite_ok (y y0 y1 y2 y3 y4 y5 y6 : Int) (h : mapOk y y0 y1 y2 y3 y4 y5 y6 = true) (b : Nat) (w : World) (hB : Blk w b 113 #[.int .u64 0, .int .u64 0, .int .u64 0, .int .u64 0, .int .u64 0, .int .u64 0, .int .u64 0, .int .u64 0]) :
    Calls Try.prog 69 #[.agg #[.int .i64 y, .int .i64 y0, .int .i64 y1, .int .i64 y2, .int .i64 y3, .int .i64 y4, .int .i64 y5, .int .i64 y6], .pointer (some ⟨b, 0, none⟩)] w fun e w' => e = .returned (.tuple #[]) ∧
      Blk w' b 113 (ln8 y y0 y1 y2 y3 y4 y5 y6) ∧ Below b w w' := by
  have hwr : (∀ x ∈ [y0, y1, y2, y3, y4, y5, y6], IntKind.u64.wrap x = x) ∧ IntKind.u64.wrap y = y := by
    simp only [mapOk, Bool.and_eq_true, chOk, decide_eq_true_eq] at h
    exact ⟨ptr_wrap (by omega) h.1.2, by rw [IntKind.wrap_u64]; omega⟩
  have hwy := hwr.2
  have hbl := hB.lt
  obtain ⟨W2, hW2⟩ : ∃ W2, W2 = ((w.alloc (.cells #[.int .i64 y, .int .i64 y0, .int .i64 y1, .int .i64 y2, .int .i64 y3, .int .i64 y4, .int .i64 y5, .int .i64 y6] 39)).alloc (.cells #[.pointer (some ⟨b, 0, none⟩)] 114)) := ⟨_, rfl⟩
  have HW : Hid (Blk W2 w.heap.size 39 #[.int .i64 y, .int .i64 y0, .int .i64 y1, .int .i64 y2, .int .i64 y3, .int .i64 y4, .int .i64 y5, .int .i64 y6] ∧ Blk W2 (w.heap.size + 1) 114 #[.pointer (some ⟨b, 0, none⟩)] ∧ Blk W2 b 113 #[.int .u64 0, .int .u64 0, .int .u64 0, .int .u64 0, .int .u64 0, .int .u64 0, .int .u64 0, .int .u64 0] ∧ Below w.heap.size w W2 ∧ W2.heap.size = w.heap.size + 2) := Lib.hid (by
    subst hW2
    have k0 := Blk.new w 39 #[.int .i64 y, .int .i64 y0, .int .i64 y1, .int .i64 y2, .int .i64 y3, .int .i64 y4, .int .i64 y5, .int .i64 y6]
    have k1 := Blk.new (w.alloc (.cells #[.int .i64 y, .int .i64 y0, .int .i64 y1, .int .i64 y2, .int .i64 y3, .int .i64 y4, .int .i64 y5, .int .i64 y6] 39)) 114 #[.pointer (some ⟨b, 0, none⟩)]
    replace k0 := k0.alloc (.cells #[.pointer (some ⟨b, 0, none⟩)] 114)
    simp only [World.size_alloc] at k0 k1
    have hb : Below w.heap.size w ((w.alloc (.cells #[.int .i64 y, .int .i64 y0, .int .i64 y1, .int .i64 y2, .int .i64 y3, .int .i64 y4, .int .i64 y5, .int .i64 y6] 39)).alloc (.cells #[.pointer (some ⟨b, 0, none⟩)] 114)) := ((Below.refl _ w).alloc (Nat.le_refl _) _).alloc (by simp) _
    exact ⟨k0, k1, hB.below hb hbl, hb, by simp⟩)
  have hord : Try.prog.follows .mixedOrders = true := by kernel_rfl
  have Hw := Lib.hid hwr
  have Hbl := Lib.hid hbl
  have HW2 := Lib.hid hW2
  clear h hB hbl hW2 hwr
  refine (callsIn_wide (n := 3)).1 (callsIn_of_wp_marks Try.func69 rfl trivial ?_ rfl)
  simp only [Try.ntmps69, List.size_toArray, List.length_cons, List.length_nil, Nat.reduceAdd, Nat.reduceSub, Array.replicate_succ, Array.replicate_zero, List.push_toArray, List.append_toArray, List.nil_append, List.cons_append]
  gi_wp2_with fail
  rw [← HW2.out]
  obtain ⟨k0, k1, k3, hb, hs⟩ := HW.out
  have Hs := Lib.hid hs
  have kx := k0.drew.cell 0
  have kp := k1.drew.cell 0
  have kl := k3.drew.cell 0
  have kf := k3.drew.frozen 0
  simp at kx kp kl
  have Hbl2 := Hbl.out
  have Hk := Lib.hid (And.intro k0 (And.intro k1 (And.intro k3 hb)))
  clear k0 k1 k3 hb hs
  refine draw_wide 6 hord (by kernel_rfl) (by kernel_rfl) ?_
  simp only [List.take_succ_cons, List.take_zero, List.drop_succ_cons, List.drop_zero]
  repeat still_step
  refine wpStill_nil ?_
  gi_wp2_with fail
  clear kx kp kl kf hwy
  obtain ⟨W3, hW3⟩ : ∃ W3, W3 = (W2.setCell ⟨b, 0, none⟩ (.int .u64 y)).drew := ⟨_, rfl⟩
  have HW3 := Lib.hid hW3
  rw [← hW3]
  clear hW3
  have HX : Hid (Blks (W3.alloc (.cells #[.int .i64 7] 3)) [(w.heap.size, 39, #[.int .i64 y, .int .i64 y0, .int .i64 y1, .int .i64 y2, .int .i64 y3, .int .i64 y4, .int .i64 y5, .int .i64 y6]), (w.heap.size + 1, 114, #[.pointer (some ⟨b, 0, none⟩)]), (W3.heap.size, 3, #[.int .i64 7]), (b, 113, mapAt y y0 y1 y2 y3 y4 y5 y6 0)] ∧ Below b w (W3.alloc (.cells #[.int .i64 7] 3)) ∧ (W3.alloc (.cells #[.int .i64 7] 3)).heap.size = w.heap.size + 3 ∧ W3.heap.size = w.heap.size + 2) := Lib.hid (by
    obtain ⟨k0, k1, k3, hb⟩ := Hk.out
    have hs := Hs.out
    have s3 : W3.heap.size = W2.heap.size := by rw [HW3.out]; simp [World.setCell]
    have q0 := (k0.far (p := ⟨b, 0, none⟩) (by simp; omega) (.int .u64 y)).drew
    have q1 := (k1.far (p := ⟨b, 0, none⟩) (by simp; omega) (.int .u64 y)).drew
    have q3 := (k3.set_ 0 (.int .u64 y)).drew
    have q4 := ((hb.mono (Nat.le_of_lt Hbl2)).setCell (p := ⟨b, 0, none⟩) (Nat.le_refl _) (.int .u64 y)).drew
    rw [← HW3.out] at q0 q1 q3 q4
    simp at q3
    exact ⟨Blks.cons (q0.alloc _) (Blks.cons (q1.alloc _) (Blks.cons (Blk.new W3 _ _) (Blks.cons (q3.alloc _) Blks.nil))), q4.alloc (by omega) _, by simp; omega, by omega⟩)
  refine (callsIn_wide.2 (places_any _ _)).mono ?_
  rintro e w4 ⟨rfl, rfl⟩
  gi_wp2_with fail
  obtain ⟨hX, hbX, hsX, hs3⟩ := HX.out
  obtain ⟨V, hV⟩ : ∃ V, V = W3.alloc (.cells #[.int .i64 7] 3) := ⟨_, rfl⟩
  rw [← hV] at hX hbX hsX ⊢
  have HsX := Lib.hid hsX
  have Hs3 := Lib.hid hs3
  clear hV hs3
  refine places_break (pb := W3.heap.size) (N := 7) (B := b) (w0 := w) (lt := 3) rfl (by omega) rfl
    (fun k => [(w.heap.size, 39, #[.int .i64 y, .int .i64 y0, .int .i64 y1, .int .i64 y2, .int .i64 y3, .int .i64 y4, .int .i64 y5, .int .i64 y6]), (w.heap.size + 1, 114, #[.pointer (some ⟨b, 0, none⟩)]), (W3.heap.size, 3, #[.int .i64 7]), (b, 113, mapAt y y0 y1 y2 y3 y4 y5 y6 k)]) [(b, 113, ln8 y y0 y1 y2 y3 y4 y5 y6)]
    ?hlt (fun p h => by rw [List.mem_singleton.1 h]; show b < V.heap.size; omega) (fun _ => by simp) (by omega) hX hbX ?hround ?rest
  case hlt =>
    intro k p hp
    have := Hs3.out
    simp only [List.mem_cons, List.not_mem_nil, or_false] at hp
    rcases hp with rfl | rfl | rfl | rfl <;> simp <;> omega
  case hround =>
    intro k Y hk hl hbY hle
    clear hX hbX hsX
    revert k
    refine lt7 ?_ ?_ ?_ ?_ ?_ ?_ ?_
    · intro hl
      gi_wp2
      refine ⟨trivial, fun Z hlZ hbZ hleZ => ?_⟩
      clear hl hbY hle
      have kx := hlZ.head.drew.cell 1
      have kp := hlZ.tail.head.drew.cell 0
      have kl := hlZ.tail.tail.tail.head.drew.cell 1
      have kf := hlZ.tail.tail.tail.head.drew.frozen 1
      have hz := hlZ.tail.tail.tail.head.drew.set_ 1 (.int .u64 y0)
      have hwk := Hw.out.1 y0 (by simp)
      have hwi : IntKind.i64.wrap 1 = 1 := by rw [IntKind.wrap_i64]; omega
      simp [mapAt, ln8] at kx kp kl hz
      gi_wp2
      refine draw_round 10 hord (by kernel_rfl) (by kernel_rfl) ?_
      simp only [List.take_succ_cons, List.take_zero, List.drop_succ_cons, List.drop_zero]
      repeat still_step
      refine wpStill_nil ?_
      gi_wp2
      have h1 := HsX.out
      have h2 := Hbl.out
      have h3 := Hs3.out
      exact ⟨bk_set Z _ (by omega), Blks.cons (hlZ.head.drew.far (p := ⟨b, 1, none⟩) (by simp; omega) _) (Blks.cons (hlZ.tail.head.drew.far (p := ⟨b, 1, none⟩) (by simp; omega) _) (Blks.cons (hlZ.tail.tail.head.drew.far (p := ⟨b, 1, none⟩) (by simp; omega) _) (Blks.cons hz Blks.nil))), (hbZ.setCell (p := ⟨b, 1, none⟩) (Nat.le_refl _) _).drew⟩
    · intro hl
      gi_wp2
      refine ⟨trivial, fun Z hlZ hbZ hleZ => ?_⟩
      clear hl hbY hle
      have kx := hlZ.head.drew.cell 2
      have kp := hlZ.tail.head.drew.cell 0
      have kl := hlZ.tail.tail.tail.head.drew.cell 2
      have kf := hlZ.tail.tail.tail.head.drew.frozen 2
      have hz := hlZ.tail.tail.tail.head.drew.set_ 2 (.int .u64 y1)
      have hwk := Hw.out.1 y1 (by simp)
      have hwi : IntKind.i64.wrap 2 = 2 := by rw [IntKind.wrap_i64]; omega
      simp [mapAt, ln8] at kx kp kl hz
      gi_wp2
      refine draw_round 10 hord (by kernel_rfl) (by kernel_rfl) ?_
      simp only [List.take_succ_cons, List.take_zero, List.drop_succ_cons, List.drop_zero]
      repeat still_step
      refine wpStill_nil ?_
      gi_wp2
      have h1 := HsX.out
      have h2 := Hbl.out
      have h3 := Hs3.out
      exact ⟨bk_set Z _ (by omega), Blks.cons (hlZ.head.drew.far (p := ⟨b, 2, none⟩) (by simp; omega) _) (Blks.cons (hlZ.tail.head.drew.far (p := ⟨b, 2, none⟩) (by simp; omega) _) (Blks.cons (hlZ.tail.tail.head.drew.far (p := ⟨b, 2, none⟩) (by simp; omega) _) (Blks.cons hz Blks.nil))), (hbZ.setCell (p := ⟨b, 2, none⟩) (Nat.le_refl _) _).drew⟩
    · intro hl
      gi_wp2
      refine ⟨trivial, fun Z hlZ hbZ hleZ => ?_⟩
      clear hl hbY hle
      have kx := hlZ.head.drew.cell 3
      have kp := hlZ.tail.head.drew.cell 0
      have kl := hlZ.tail.tail.tail.head.drew.cell 3
      have kf := hlZ.tail.tail.tail.head.drew.frozen 3
      have hz := hlZ.tail.tail.tail.head.drew.set_ 3 (.int .u64 y2)
      have hwk := Hw.out.1 y2 (by simp)
      have hwi : IntKind.i64.wrap 3 = 3 := by rw [IntKind.wrap_i64]; omega
      simp [mapAt, ln8] at kx kp kl hz
      gi_wp2
      refine draw_round 10 hord (by kernel_rfl) (by kernel_rfl) ?_
      simp only [List.take_succ_cons, List.take_zero, List.drop_succ_cons, List.drop_zero]
      repeat still_step
      refine wpStill_nil ?_
      gi_wp2
      have h1 := HsX.out
      have h2 := Hbl.out
      have h3 := Hs3.out
      exact ⟨bk_set Z _ (by omega), Blks.cons (hlZ.head.drew.far (p := ⟨b, 3, none⟩) (by simp; omega) _) (Blks.cons (hlZ.tail.head.drew.far (p := ⟨b, 3, none⟩) (by simp; omega) _) (Blks.cons (hlZ.tail.tail.head.drew.far (p := ⟨b, 3, none⟩) (by simp; omega) _) (Blks.cons hz Blks.nil))), (hbZ.setCell (p := ⟨b, 3, none⟩) (Nat.le_refl _) _).drew⟩
    · intro hl
      gi_wp2
      refine ⟨trivial, fun Z hlZ hbZ hleZ => ?_⟩
      clear hl hbY hle
      have kx := hlZ.head.drew.cell 4
      have kp := hlZ.tail.head.drew.cell 0
      have kl := hlZ.tail.tail.tail.head.drew.cell 4
      have kf := hlZ.tail.tail.tail.head.drew.frozen 4
      have hz := hlZ.tail.tail.tail.head.drew.set_ 4 (.int .u64 y3)
      have hwk := Hw.out.1 y3 (by simp)
      have hwi : IntKind.i64.wrap 4 = 4 := by rw [IntKind.wrap_i64]; omega
      simp [mapAt, ln8] at kx kp kl hz
      gi_wp2
      refine draw_round 10 hord (by kernel_rfl) (by kernel_rfl) ?_
      simp only [List.take_succ_cons, List.take_zero, List.drop_succ_cons, List.drop_zero]
      repeat still_step
      refine wpStill_nil ?_
      gi_wp2
      have h1 := HsX.out
      have h2 := Hbl.out
      have h3 := Hs3.out
      exact ⟨bk_set Z _ (by omega), Blks.cons (hlZ.head.drew.far (p := ⟨b, 4, none⟩) (by simp; omega) _) (Blks.cons (hlZ.tail.head.drew.far (p := ⟨b, 4, none⟩) (by simp; omega) _) (Blks.cons (hlZ.tail.tail.head.drew.far (p := ⟨b, 4, none⟩) (by simp; omega) _) (Blks.cons hz Blks.nil))), (hbZ.setCell (p := ⟨b, 4, none⟩) (Nat.le_refl _) _).drew⟩
    · intro hl
      gi_wp2
      refine ⟨trivial, fun Z hlZ hbZ hleZ => ?_⟩
      clear hl hbY hle
      have kx := hlZ.head.drew.cell 5
      have kp := hlZ.tail.head.drew.cell 0
      have kl := hlZ.tail.tail.tail.head.drew.cell 5
      have kf := hlZ.tail.tail.tail.head.drew.frozen 5
      have hz := hlZ.tail.tail.tail.head.drew.set_ 5 (.int .u64 y4)
      have hwk := Hw.out.1 y4 (by simp)
      have hwi : IntKind.i64.wrap 5 = 5 := by rw [IntKind.wrap_i64]; omega
      simp [mapAt, ln8] at kx kp kl hz
      gi_wp2
      refine draw_round 10 hord (by kernel_rfl) (by kernel_rfl) ?_
      simp only [List.take_succ_cons, List.take_zero, List.drop_succ_cons, List.drop_zero]
      repeat still_step
      refine wpStill_nil ?_
      gi_wp2
      have h1 := HsX.out
      have h2 := Hbl.out
      have h3 := Hs3.out
      exact ⟨bk_set Z _ (by omega), Blks.cons (hlZ.head.drew.far (p := ⟨b, 5, none⟩) (by simp; omega) _) (Blks.cons (hlZ.tail.head.drew.far (p := ⟨b, 5, none⟩) (by simp; omega) _) (Blks.cons (hlZ.tail.tail.head.drew.far (p := ⟨b, 5, none⟩) (by simp; omega) _) (Blks.cons hz Blks.nil))), (hbZ.setCell (p := ⟨b, 5, none⟩) (Nat.le_refl _) _).drew⟩
    · intro hl
      gi_wp2
      refine ⟨trivial, fun Z hlZ hbZ hleZ => ?_⟩
      clear hl hbY hle
      have kx := hlZ.head.drew.cell 6
      have kp := hlZ.tail.head.drew.cell 0
      have kl := hlZ.tail.tail.tail.head.drew.cell 6
      have kf := hlZ.tail.tail.tail.head.drew.frozen 6
      have hz := hlZ.tail.tail.tail.head.drew.set_ 6 (.int .u64 y5)
      have hwk := Hw.out.1 y5 (by simp)
      have hwi : IntKind.i64.wrap 6 = 6 := by rw [IntKind.wrap_i64]; omega
      simp [mapAt, ln8] at kx kp kl hz
      gi_wp2
      refine draw_round 10 hord (by kernel_rfl) (by kernel_rfl) ?_
      simp only [List.take_succ_cons, List.take_zero, List.drop_succ_cons, List.drop_zero]
      repeat still_step
      refine wpStill_nil ?_
      gi_wp2
      have h1 := HsX.out
      have h2 := Hbl.out
      have h3 := Hs3.out
      exact ⟨bk_set Z _ (by omega), Blks.cons (hlZ.head.drew.far (p := ⟨b, 6, none⟩) (by simp; omega) _) (Blks.cons (hlZ.tail.head.drew.far (p := ⟨b, 6, none⟩) (by simp; omega) _) (Blks.cons (hlZ.tail.tail.head.drew.far (p := ⟨b, 6, none⟩) (by simp; omega) _) (Blks.cons hz Blks.nil))), (hbZ.setCell (p := ⟨b, 6, none⟩) (Nat.le_refl _) _).drew⟩
    · intro hl
      gi_wp2
      refine ⟨trivial, fun Z hlZ hbZ hleZ => ?_⟩
      clear hl hbY hle
      have kx := hlZ.head.drew.cell 7
      have kp := hlZ.tail.head.drew.cell 0
      have kl := hlZ.tail.tail.tail.head.drew.cell 7
      have kf := hlZ.tail.tail.tail.head.drew.frozen 7
      have hz := hlZ.tail.tail.tail.head.drew.set_ 7 (.int .u64 y6)
      have hwk := Hw.out.1 y6 (by simp)
      have hwi : IntKind.i64.wrap 7 = 7 := by rw [IntKind.wrap_i64]; omega
      simp [mapAt, ln8] at kx kp kl hz
      gi_wp2
      refine draw_round 10 hord (by kernel_rfl) (by kernel_rfl) ?_
      simp only [List.take_succ_cons, List.take_zero, List.drop_succ_cons, List.drop_zero]
      repeat still_step
      refine wpStill_nil ?_
      gi_wp2
      have h1 := HsX.out
      have h2 := Hbl.out
      have h3 := Hs3.out
      exact ⟨bk_set Z _ (by omega), Blks.cons (hlZ.head.drew.far (p := ⟨b, 7, none⟩) (by simp; omega) _) (Blks.cons (hlZ.tail.head.drew.far (p := ⟨b, 7, none⟩) (by simp; omega) _) (Blks.cons (hlZ.tail.tail.head.drew.far (p := ⟨b, 7, none⟩) (by simp; omega) _) (Blks.cons hz Blks.nil))), (hbZ.setCell (p := ⟨b, 7, none⟩) (Nat.le_refl _) _).drew⟩
  case rest =>
    intro Y hor hbY hle hDk
    have hfin : Blk Y b 113 (ln8 y y0 y1 y2 y3 y4 y5 y6) := by
      rcases hor with h | h
      · exact h.tail.tail.tail.head
      · exact h.head
    have hDD : Hid (∀ D ∈ [V.heap.size], w.heap.size ≤ D ∧ Y.heap[D]? = some (.deferred (some []))) := Lib.hid (fun D hd => by
      rw [List.mem_singleton.1 hd]
      exact ⟨by have := HsX.out; omega, hDk⟩)
    clear hDk hor hX hbX hsX
    gi_wp2
    refine leaves_marks w.heap.size [V.heap.size] _ hDD.out (by simp) fun W' hW => ?_
    have h2 := Hbl.out
    exact ⟨_, by simp [results, Try.results69, go_sem], rfl, hfin.below hW h2, hbY.trans (hW.mono (by omega))⟩

set_option maxRecDepth 100000 in
set_option maxHeartbeats 2000000 in
theorem putMap_any (y y0 y1 y2 y3 y4 y5 y6 : Int) (w : World) :
    Calls Try.prog 37 #[.agg #[.func (.func 66) #[] #[], .func (.func 69) #[] #[], .func (.func 71) #[] #[]], .agg #[.int .i64 y, .int .i64 y0, .int .i64 y1, .int .i64 y2, .int .i64 y3, .int .i64 y4, .int .i64 y5, .int .i64 y6]] w fun e w' => e = .returned (.tuple #[.agg (mapL y y0 y1 y2 y3 y4 y5 y6), .int .i64 (mapE y y0 y1 y2 y3 y4 y5 y6)]) ∧ Below w.heap.size w w' := by
  have HX : Hid (∀ X, X = (((((w.alloc (.cells #[.func (.func 66) #[] #[], .func (.func 69) #[] #[], .func (.func 71) #[] #[]] 90)).alloc (.cells #[.int .i64 y, .int .i64 y0, .int .i64 y1, .int .i64 y2, .int .i64 y3, .int .i64 y4, .int .i64 y5, .int .i64 y6] 39)).alloc (.cells #[.int .u64 0, .int .u64 0, .int .u64 0, .int .u64 0, .int .u64 0, .int .u64 0, .int .u64 0, .int .u64 0] 26)).alloc (.cells #[.int .u64 0, .int .u64 0, .int .u64 0, .int .u64 0, .int .u64 0, .int .u64 0, .int .u64 0, .int .u64 0] 113))).setRow (w.heap.size + 1 + 1 + 1) #[.int .u64 0, .int .u64 0, .int .u64 0, .int .u64 0, .int .u64 0, .int .u64 0, .int .u64 0, .int .u64 0] →
      Blk X w.heap.size 90 #[.func (.func 66) #[] #[], .func (.func 69) #[] #[], .func (.func 71) #[] #[]] ∧ Blk X (w.heap.size + 1) 39 #[.int .i64 y, .int .i64 y0, .int .i64 y1, .int .i64 y2, .int .i64 y3, .int .i64 y4, .int .i64 y5, .int .i64 y6] ∧ Blk X (w.heap.size + 1 + 1) 26 #[.int .u64 0, .int .u64 0, .int .u64 0, .int .u64 0, .int .u64 0, .int .u64 0, .int .u64 0, .int .u64 0] ∧ Blk X (w.heap.size + 1 + 1 + 1) 113 #[.int .u64 0, .int .u64 0, .int .u64 0, .int .u64 0, .int .u64 0, .int .u64 0, .int .u64 0, .int .u64 0] ∧ Below w.heap.size w X) := Lib.hid (by
    rintro X rfl
    have k0 := Blk.new w 90 #[.func (.func 66) #[] #[], .func (.func 69) #[] #[], .func (.func 71) #[] #[]]
    have k1 := Blk.new (w.alloc (.cells #[.func (.func 66) #[] #[], .func (.func 69) #[] #[], .func (.func 71) #[] #[]] 90)) 39 #[.int .i64 y, .int .i64 y0, .int .i64 y1, .int .i64 y2, .int .i64 y3, .int .i64 y4, .int .i64 y5, .int .i64 y6]
    have k2 := Blk.new ((w.alloc (.cells #[.func (.func 66) #[] #[], .func (.func 69) #[] #[], .func (.func 71) #[] #[]] 90)).alloc (.cells #[.int .i64 y, .int .i64 y0, .int .i64 y1, .int .i64 y2, .int .i64 y3, .int .i64 y4, .int .i64 y5, .int .i64 y6] 39)) 26 #[.int .u64 0, .int .u64 0, .int .u64 0, .int .u64 0, .int .u64 0, .int .u64 0, .int .u64 0, .int .u64 0]
    have k3 := Blk.new (((w.alloc (.cells #[.func (.func 66) #[] #[], .func (.func 69) #[] #[], .func (.func 71) #[] #[]] 90)).alloc (.cells #[.int .i64 y, .int .i64 y0, .int .i64 y1, .int .i64 y2, .int .i64 y3, .int .i64 y4, .int .i64 y5, .int .i64 y6] 39)).alloc (.cells #[.int .u64 0, .int .u64 0, .int .u64 0, .int .u64 0, .int .u64 0, .int .u64 0, .int .u64 0, .int .u64 0] 26)) 113 #[.int .u64 0, .int .u64 0, .int .u64 0, .int .u64 0, .int .u64 0, .int .u64 0, .int .u64 0, .int .u64 0]
    replace k0 := ((k0.alloc (.cells #[.int .i64 y, .int .i64 y0, .int .i64 y1, .int .i64 y2, .int .i64 y3, .int .i64 y4, .int .i64 y5, .int .i64 y6] 39)).alloc (.cells #[.int .u64 0, .int .u64 0, .int .u64 0, .int .u64 0, .int .u64 0, .int .u64 0, .int .u64 0, .int .u64 0] 26)).alloc (.cells #[.int .u64 0, .int .u64 0, .int .u64 0, .int .u64 0, .int .u64 0, .int .u64 0, .int .u64 0, .int .u64 0] 113)
    replace k1 := (k1.alloc (.cells #[.int .u64 0, .int .u64 0, .int .u64 0, .int .u64 0, .int .u64 0, .int .u64 0, .int .u64 0, .int .u64 0] 26)).alloc (.cells #[.int .u64 0, .int .u64 0, .int .u64 0, .int .u64 0, .int .u64 0, .int .u64 0, .int .u64 0, .int .u64 0] 113)
    replace k2 := k2.alloc (.cells #[.int .u64 0, .int .u64 0, .int .u64 0, .int .u64 0, .int .u64 0, .int .u64 0, .int .u64 0, .int .u64 0] 113)
    simp only [World.size_alloc] at k0 k1 k2 k3
    exact ⟨k0.farRow (by omega) _, k1.farRow (by omega) _, k2.farRow (by omega) _, k3.setRow _, below_setRow ((((((Below.refl _ w).alloc (Nat.le_refl _) _).alloc (by simp) _).alloc (by simp; omega) _).alloc (by simp; omega) _)) (by omega) _⟩)
  have hn := Blk.new (((w.alloc (.cells #[.func (.func 66) #[] #[], .func (.func 69) #[] #[], .func (.func 71) #[] #[]] 90)).alloc (.cells #[.int .i64 y, .int .i64 y0, .int .i64 y1, .int .i64 y2, .int .i64 y3, .int .i64 y4, .int .i64 y5, .int .i64 y6] 39)).alloc (.cells #[.int .u64 0, .int .u64 0, .int .u64 0, .int .u64 0, .int .u64 0, .int .u64 0, .int .u64 0, .int .u64 0] 26)) 113 #[.int .u64 0, .int .u64 0, .int .u64 0, .int .u64 0, .int .u64 0, .int .u64 0, .int .u64 0, .int .u64 0]
  simp only [World.size_alloc] at hn
  cases hok : mapOk y y0 y1 y2 y3 y4 y5 y6
  · have e1 : Hid (mapL y y0 y1 y2 y3 y4 y5 y6 = #[.int .u64 0, .int .u64 0, .int .u64 0, .int .u64 0, .int .u64 0, .int .u64 0, .int .u64 0, .int .u64 0]) := Lib.hid (by unfold mapL; rw [hok]; rfl)
    have e2 : Hid (mapE y y0 y1 y2 y3 y4 y5 y6 = 2) := Lib.hid (by unfold mapE; rw [hok]; rfl)
    have Hok := Lib.hid hok
    clear hok
    go_enter Try.func37, Try.ntmps37
    go_wp2_with fail
    refine wp_scope_goto 0 rfl fun J hJ => ?_
    obtain ⟨X, hX⟩ : ∃ X, X = (((((w.alloc (.cells #[.func (.func 66) #[] #[], .func (.func 69) #[] #[], .func (.func 71) #[] #[]] 90)).alloc (.cells #[.int .i64 y, .int .i64 y0, .int .i64 y1, .int .i64 y2, .int .i64 y3, .int .i64 y4, .int .i64 y5, .int .i64 y6] 39)).alloc (.cells #[.int .u64 0, .int .u64 0, .int .u64 0, .int .u64 0, .int .u64 0, .int .u64 0, .int .u64 0, .int .u64 0] 26)).alloc (.cells #[.int .u64 0, .int .u64 0, .int .u64 0, .int .u64 0, .int .u64 0, .int .u64 0, .int .u64 0, .int .u64 0] 113))).setRow (w.heap.size + 1 + 1 + 1) #[.int .u64 0, .int .u64 0, .int .u64 0, .int .u64 0, .int .u64 0, .int .u64 0, .int .u64 0, .int .u64 0] := ⟨_, rfl⟩
    obtain ⟨b0, b1, b2, b3, hB⟩ := HX.out X hX
    have c0 := b0.cell 0
    have c1 := b0.cell 1
    simp at c0 c1
    have HX2 := Lib.hid hX
    clear HX hX
    go_wp2_with (first | ((refine row_store (w.heap.size + 1 + 1 + 1) 113 _ _ hn 113 _ _ rfl rfl rfl rfl (by kernel_rfl) rfl (by kernel_rfl) ?_); rw [← HX2.out]) | (refine row_load (w.heap.size + 1) 39 _ b1 39 _ rfl rfl rfl _ Try.underlying39 rfl (by kernel_rfl) ?_))
    clear HX2 hn
    refine (mapright_any y y0 y1 y2 y3 y4 y5 y6 _).mono ?_
    rintro r w1 ⟨rfl, hb⟩
    rw [Hok.out]
    replace b0 := b0.below hb b0.lt
    replace b1 := b1.below hb b1.lt
    replace b2 := b2.below hb b2.lt
    replace b3 := b3.below hb b3.lt
    replace hB := hB.trans (hb.mono hB.size)
    clear hb c0 c1
    go_wp2
    go_step3
    refine ⟨rfl, hJ _ _ ?_⟩
    go_wp2_with (first | (refine row_load (w.heap.size + 1 + 1) 26 _ b2 26 _ rfl rfl rfl _ Try.underlying26 rfl (by kernel_rfl) ?_) | (refine row_store (w.heap.size + 1 + 1) 26 _ _ b2 26 _ _ rfl rfl rfl rfl (by kernel_rfl) rfl (by kernel_rfl) ?_))
    first | rw [Exit.noGoto_ret] | rw [Exit.jump_ret] | skip
    refine bodyPost_ret (results_cell_slot rfl _ _ (w.heap.size + 1 + 1) 26 _ _ rfl (b2.setRow _) Try.underlying26 rfl (by kernel_rfl) _ rfl) rfl ?_
    exact ⟨by rw [e1.out, e2.out]; rfl, below_setRow hB (by omega) _⟩
  · have e2 : Hid (mapE y y0 y1 y2 y3 y4 y5 y6 = 0) := Lib.hid (by unfold mapE; rw [hok]; rfl)
    have Hok := Lib.hid hok
    have e1 : Hid (mapL y y0 y1 y2 y3 y4 y5 y6 = ln8 y y0 y1 y2 y3 y4 y5 y6) := Lib.hid (by unfold mapL; rw [hok]; rfl)
    clear hok
    go_enter Try.func37, Try.ntmps37
    go_wp2_with fail
    refine wp_scope_goto 0 rfl fun J hJ => ?_
    obtain ⟨X, hX⟩ : ∃ X, X = (((((w.alloc (.cells #[.func (.func 66) #[] #[], .func (.func 69) #[] #[], .func (.func 71) #[] #[]] 90)).alloc (.cells #[.int .i64 y, .int .i64 y0, .int .i64 y1, .int .i64 y2, .int .i64 y3, .int .i64 y4, .int .i64 y5, .int .i64 y6] 39)).alloc (.cells #[.int .u64 0, .int .u64 0, .int .u64 0, .int .u64 0, .int .u64 0, .int .u64 0, .int .u64 0, .int .u64 0] 26)).alloc (.cells #[.int .u64 0, .int .u64 0, .int .u64 0, .int .u64 0, .int .u64 0, .int .u64 0, .int .u64 0, .int .u64 0] 113))).setRow (w.heap.size + 1 + 1 + 1) #[.int .u64 0, .int .u64 0, .int .u64 0, .int .u64 0, .int .u64 0, .int .u64 0, .int .u64 0, .int .u64 0] := ⟨_, rfl⟩
    obtain ⟨b0, b1, b2, b3, hB⟩ := HX.out X hX
    have c0 := b0.cell 0
    have c1 := b0.cell 1
    simp at c0 c1
    have HX2 := Lib.hid hX
    clear HX hX
    go_wp2_with (first | ((refine row_store (w.heap.size + 1 + 1 + 1) 113 _ _ hn 113 _ _ rfl rfl rfl rfl (by kernel_rfl) rfl (by kernel_rfl) ?_); rw [← HX2.out]) | (refine row_load (w.heap.size + 1) 39 _ b1 39 _ rfl rfl rfl _ Try.underlying39 rfl (by kernel_rfl) ?_))
    clear HX2 hn
    refine (mapright_any y y0 y1 y2 y3 y4 y5 y6 _).mono ?_
    rintro r w1 ⟨rfl, hb⟩
    rw [Hok.out]
    replace b0 := b0.below hb b0.lt
    replace b1 := b1.below hb b1.lt
    replace b2 := b2.below hb b2.lt
    replace b3 := b3.below hb b3.lt
    replace hB := hB.trans (hb.mono hB.size)
    clear hb c0 c1
    have c1 := b0.cell 1
    simp at c1
    go_wp2_with (refine row_load (w.heap.size + 1) 39 _ b1 39 _ rfl rfl rfl _ Try.underlying39 rfl (by kernel_rfl) ?_)
    refine (mapwrite_ok y y0 y1 y2 y3 y4 y5 y6 Hok.out _ _ b3).mono ?_
    rintro r w2 ⟨rfl, hl, hb⟩
    replace b2 := b2.below hb (by omega)
    replace hB := hB.trans (hb.mono (by omega))
    clear hb c1 b0 b1 b3
    go_wp2_with (first | (refine row_load (w.heap.size + 1 + 1 + 1) 113 _ hl 113 _ rfl rfl rfl _ Try.underlying113 rfl (by kernel_rfl) ?_) | (refine row_store (w.heap.size + 1 + 1) 26 _ _ b2 26 _ _ rfl rfl rfl rfl (by kernel_rfl) rfl (by kernel_rfl) ?_))
    first | rw [Exit.noGoto_ret] | rw [Exit.jump_ret] | skip
    refine bodyPost_ret (results_cell_slot rfl _ _ (w.heap.size + 1 + 1) 26 _ _ rfl (b2.setRow _) Try.underlying26 rfl (by kernel_rfl) _ rfl) rfl ?_
    exact ⟨by rw [e1.out, e2.out]; rfl, below_setRow hB (by omega) _⟩

set_option maxHeartbeats 400000 in
theorem maps_any (w : World) : Calls Try.prog 38 #[] w fun e w' => e = .returned (.agg #[.func (.func 66) #[] #[], .func (.func 69) #[] #[], .func (.func 71) #[] #[]]) ∧ Below w.heap.size w w' := by
  have hp := Blk.new w 90 #[.nilFunc, .nilFunc, .nilFunc]
  go_enter Try.func38, Try.ntmps38
  go_wp2_with (refine row_store w.heap.size 90 _ _ hp 90 _ _ rfl rfl rfl rfl (by kernel_rfl) rfl (by kernel_rfl) ?_)
  refine bodyPost_ret (results_cell1 rfl _ _ w.heap.size 90 _ _ rfl (hp.setRow _) Try.underlying90 rfl (by kernel_rfl)) rfl ?_
  exact ⟨rfl, below_setRow ((Below.refl _ w).alloc (Nat.le_refl _) _) (Nat.le_refl _) _⟩

set_option maxRecDepth 100000 in
set_option maxHeartbeats 2000000 in
theorem PutMap_any (y y0 y1 y2 y3 y4 y5 y6 : Int) (w : World) :
    Calls Try.prog 12 #[.agg #[.int .i64 y, .int .i64 y0, .int .i64 y1, .int .i64 y2, .int .i64 y3, .int .i64 y4, .int .i64 y5, .int .i64 y6]] w fun e w' => e = .returned (.tuple #[.agg (mapL y y0 y1 y2 y3 y4 y5 y6), .int .i64 (mapE y y0 y1 y2 y3 y4 y5 y6)]) ∧ Below w.heap.size w w' := by
  have hord : Try.prog.follows .mixedOrders = true := by kernel_rfl
  have hx := (Blk.new w 39 #[.int .i64 y, .int .i64 y0, .int .i64 y1, .int .i64 y2, .int .i64 y3, .int .i64 y4, .int .i64 y5, .int .i64 y6]).alloc (.cells #[.int .u64 0, .int .u64 0, .int .u64 0, .int .u64 0, .int .u64 0, .int .u64 0, .int .u64 0, .int .u64 0] 26)
  have hr := Blk.new (w.alloc (.cells #[.int .i64 y, .int .i64 y0, .int .i64 y1, .int .i64 y2, .int .i64 y3, .int .i64 y4, .int .i64 y5, .int .i64 y6] 39)) 26 #[.int .u64 0, .int .u64 0, .int .u64 0, .int .u64 0, .int .u64 0, .int .u64 0, .int .u64 0, .int .u64 0]
  have hB := ((Below.refl _ w).alloc (Nat.le_refl _) (.cells #[.int .i64 y, .int .i64 y0, .int .i64 y1, .int .i64 y2, .int .i64 y3, .int .i64 y4, .int .i64 y5, .int .i64 y6] 39)).alloc (by simp) (.cells #[.int .u64 0, .int .u64 0, .int .u64 0, .int .u64 0, .int .u64 0, .int .u64 0, .int .u64 0, .int .u64 0] 26)
  simp only [World.size_alloc] at hr
  have Hsz : Hid ((mapL y y0 y1 y2 y3 y4 y5 y6).size = 8) := Lib.hid (by unfold mapL; split <;> rfl)
  have Hone : Hid ((mapL y y0 y1 y2 y3 y4 y5 y6).all (·.oneCell') = true) := Lib.hid (by unfold mapL; split <;> kernel_rfl)
  go_enter Try.func12, Try.ntmps12
  go_wp2_with fail
  refine draw_orders0 [[0, 1, 2, 3, 4, 5, 6], [1, 0, 2, 3, 4, 5, 6], [0, 1, 2, 4, 3, 5, 6], [1, 0, 2, 4, 3, 5, 6]] hord (by kernel_rfl) ?_
  intro o ho
  simp only [List.mem_cons, List.not_mem_nil, or_false] at ho
  rcases ho with rfl | rfl | rfl | rfl
  all_goals refine ⟨_, ⟨_, _, rfl, rfl, _, _, rfl, rfl, _, _, rfl, rfl, _, _, rfl, rfl, _, _, rfl, rfl, _, _, rfl, rfl, _, _, rfl, rfl, rfl⟩, ?_⟩
  all_goals simp only [List.getElem_toArray, List.getElem_cons_zero, List.getElem_cons_succ]
  all_goals
    replace hx := hx.drew
    replace hr := hr.drew
    replace hB := hB.drew
    go_wp2_with (refine row_load w.heap.size 39 _ hx 39 _ rfl rfl rfl _ Try.underlying39 rfl (by kernel_rfl) ?_)
    refine (maps_any _).mono ?_
    rintro r w1 ⟨rfl, hb⟩
    replace hx := hx.below hb hx.lt
    replace hr := hr.below hb hr.lt
    replace hB := hB.trans (hb.mono hB.size)
    clear hb
    go_wp2_with (refine row_load w.heap.size 39 _ hx 39 _ rfl rfl rfl _ Try.underlying39 rfl (by kernel_rfl) ?_)
    refine (putMap_any y y0 y1 y2 y3 y4 y5 y6 _).mono ?_
    rintro r w2 ⟨rfl, hb⟩
    replace hr := hr.below hb hr.lt
    replace hB := hB.trans (hb.mono hB.size)
    clear hb
    obtain ⟨v, hv⟩ : ∃ v, mapL y y0 y1 y2 y3 y4 y5 y6 = v := ⟨_, rfl⟩
    have hsz := Hsz.out
    have hone := Hone.out
    rw [hv] at hsz hone ⊢
    go_wp2_with (refine row_store (w.heap.size + 1) 26 _ _ hr 26 _ _ rfl rfl rfl rfl (by rw [hsz]; kernel_rfl) (by rw [hsz]; rfl) hone ?_)
    refine bodyPost_ret (results_cell_slot rfl _ _ (w.heap.size + 1) 26 _ _ rfl (hr.setRow _) Try.underlying26 rfl (by rw [hsz]; kernel_rfl) _ rfl) rfl ?_
    exact ⟨by rw [hv]; rfl, below_setRow hB (by omega) _⟩
end Go.Proofs.Ytdgnbmcckknfiaa
