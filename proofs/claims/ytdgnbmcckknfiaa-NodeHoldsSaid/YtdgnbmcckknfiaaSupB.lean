/- The walks of node's get of super lines. Conditions: words of 64 bits. -/
import Derived.Test.YtdgnbmcckknfiaaNodC
import Derived.Test.YtdgnbmcckknfiaaSupA
namespace Go.Proofs.Ytdgnbmcckknfiaa
open Go.RowKit
set_option linter.unusedSimpArgs false

set_option maxRecDepth 100000 in
set_option maxHeartbeats 2000000 in
theorem supread_any (a b c d e f g h : Nat) (hb : b < 18446744073709551616) (hc : c < 18446744073709551616) (w : World) :
    Calls Try.prog 76 #[.agg (ln8 a b c d e f g h)] w fun r w' => r = .returned (.agg #[.int .i64 (smallI b), .int .i64 (smallI c)]) ∧ Below w.heap.size w w' := by
  have hl := (Blk.new w 113 (ln8 a b c d e f g h)).alloc (.cells #[.int .i64 0, .int .i64 0] 51)
  have hr := Blk.new (w.alloc (.cells (ln8 a b c d e f g h) 113)) 51 #[.int .i64 0, .int .i64 0]
  have hB := ((Below.refl _ w).alloc (Nat.le_refl _) (.cells (ln8 a b c d e f g h) 113)).alloc (by simp) (.cells #[.int .i64 0, .int .i64 0] 51)
  simp only [World.size_alloc] at hr
  go_enter Try.func76, Try.ntmps76
  go_wp2_with fail
  generalize hX : (w.alloc (.cells (ln8 a b c d e f g h) 113)).alloc (.cells #[.int .i64 0, .int .i64 0] 51) = Z at *
  clear hX
  have ca := hl.cell 1
  have cb := hl.cell 2
  simp [ln8] at ca cb
  have k0 := hr.cell 0
  have k1 := hr.cell 1
  have f0 := hr.frozen 0
  have f1 := hr.frozen 1
  simp at k0 k1
  have HR := Lib.hid hr
  have HB := Lib.hid hB
  clear hB hr
  go_region_held3 (fun w' => w'.cell? ⟨w.heap.size, 1, none⟩ = some (.int .u64 b) ∧ w'.cell? ⟨w.heap.size, 2, none⟩ = some (.int .u64 c))
    (first | go_keep | exact ⟨ca, cb⟩)
    (first
      | (go_at_call 58; have hh := hq; refine (small_any c _ hc).mono ?_; rintro r w6 ⟨rfl, hb3⟩; have hq2 : Below Z.heap.size Z w6 := (by exact hq.trans (hb3.mono hq.size)); have ca := (hl.below hq2 hl.lt).cell 1; have cb := (hl.below hq2 hl.lt).cell 2; have k0 := (HR.out.below hq2 HR.out.lt).cell 0; have k1 := (HR.out.below hq2 HR.out.lt).cell 1; have f0 := (HR.out.below hq2 HR.out.lt).frozen 0; have f1 := (HR.out.below hq2 HR.out.lt).frozen 1; simp [ln8] at ca cb k0 k1)
      | (go_at_call 58; refine (small_any b _ hb).mono ?_; rintro r w5 ⟨rfl, hb2⟩; have hq : Below Z.heap.size Z w5 := (by first | exact hb2 | exact ((Below.refl _ Z).drew).trans hb2); have ca := (hl.below hq hl.lt).cell 1; have cb := (hl.below hq hl.lt).cell 2; have k0 := (HR.out.below hq HR.out.lt).cell 0; have k1 := (HR.out.below hq HR.out.lt).cell 1; have f0 := (HR.out.below hq HR.out.lt).frozen 0; have f1 := (HR.out.below hq HR.out.lt).frozen 1; simp [ln8] at ca cb k0 k1))
  all_goals
    have h6 := ((HR.out.below hq2 HR.out.lt).set_ 0 (.int .i64 (smallI b))).set_ 1 (.int .i64 (smallI c))
    simp at h6
    have hB6 := (((HB.out.trans (hq2.mono HB.out.size)).setCell (p := ⟨w.heap.size + 1, 0, none⟩) (by simp) (.int .i64 (smallI b))).setCell (p := ⟨w.heap.size + 1, 1, none⟩) (by simp) (.int .i64 (smallI c)))
    go_wp2
    refine bodyPost_ret (results_cell1 rfl _ _ (w.heap.size + 1) 51 _ _ rfl h6 Try.underlying51 rfl (by kernel_rfl)) rfl ?_
    exact ⟨rfl, hB6⟩

/-- Is a line a super line? -/
def supIs (a b c d e f g h : Nat) : Bool := supOk (smallI b) (smallI c) && decide (supW (smallI b) (smallI c) = [(a : Int), b, c, d, e, f, g, h])
theorem isSuper_eq (a b c d e f g h : Nat) : supIs a b c d e f g h = (supOk (smallI b) (smallI c) && decide (supW (smallI b) (smallI c) = [(a : Int), b, c, d, e, f, g, h])) := rfl
theorem lineSuper_eq (a b c d e f g h : Nat) (r l : Int) (hok : supOk r l = true) (W : World) :
    (Op.equalIn 10000 26 (.agg (supL r l)) (.agg (ln8 a b c d e f g h))).run Try.prog W = .ok (decide (supW r l = [(a : Int), b, c, d, e, f, g, h])) W := by
  have e1 : supL r l = ((supW r l).map (Value.int .u64)).toArray := by unfold supL; rw [hok]; rfl
  have e2 : ln8 (a : Int) b c d e f g h = (([a, b, c, d, e, f, g, h] : List Int).map (Value.int .u64)).toArray := rfl
  rw [e1, e2]
  exact line_eq8 _ _ rfl rfl W

set_option maxHeartbeats 400000 in
theorem clearSuper (b : Nat) (old : Array Value) (ho : old.size = 2) (w : World) (hB : Blk w b 51 old) :
    Calls Try.prog 86 #[.pointer (some ⟨b, 0, none⟩)] w fun e w' => e = .returned (.tuple #[]) ∧ Blk w' b 51 #[.int .i64 0, .int .i64 0] ∧ Below b w w' ∧ ∀ q, q ≠ b → q < w.heap.size → w'.heap[q]? = w.heap[q]? := by
  have hn := Blk.new w 51 #[.int .i64 0, .int .i64 0]
  have hb := hB.alloc (.cells #[.int .i64 0, .int .i64 0] 51)
  have hlt := hB.lt
  go_enter Try.func86, Try.ntmps86
  go_wp2_with (first | (refine row_load (w.heap.size) 51 _ hn 51 _ rfl rfl rfl _ Try.underlying51 rfl (by kernel_rfl) ?_) | (refine row_store (b) 51 _ _ hb 51 _ _ rfl rfl rfl rfl (by kernel_rfl) (ho) (by kernel_rfl) ?_))
  go_end0
  exact ⟨rfl, hb.setRow _, below_setRow (((Below.refl _ w).alloc (Nat.le_refl _) _).mono (by omega)) (Nat.le_refl _) _, fun q h1 h2 => (setRow_other _ b q _ h1).trans (Below.heap_alloc w _ q h2)⟩

/-- What a line is told to be. -/
def supIsV (a b c d e f g h : Nat) : Array Value := if supIs a b c d e f g h then #[.int .i64 (smallI b), .int .i64 (smallI c)] else #[.int .i64 0, .int .i64 0]
/-- The error beside it. -/
def supIsE (a b c d e f g h : Nat) : Int := if supIs a b c d e f g h then 0 else 180
set_option maxRecDepth 100000 in
set_option maxHeartbeats 4000000 in
theorem getSuper_any (a b c d e f g h : Nat) (hb : b < 18446744073709551616) (hc : c < 18446744073709551616) (w : World) :
    Calls Try.prog 50 #[.agg #[.func (.func 73) #[] #[], .func (.func 75) #[] #[], .func (.func 76) #[] #[]], .agg (ln8 a b c d e f g h)] w fun r w' => r = .returned (.tuple #[.agg (supIsV a b c d e f g h), .int .i64 (supIsE a b c d e f g h)]) ∧ Below w.heap.size w w' := by
  have hmf : ∀ (fn : Fn) (first cap : Array Value) (w : World), (Instr.makeFunc fn first cap).run Try.prog w = .ok (.func fn first cap) w := fun _ _ _ _ => rfl
  have k0 := Blk.new w 100 #[.func (.func 73) #[] #[], .func (.func 75) #[] #[], .func (.func 76) #[] #[]]
  have k1 := Blk.new (w.alloc (.cells #[.func (.func 73) #[] #[], .func (.func 75) #[] #[], .func (.func 76) #[] #[]] 100)) 26 (ln8 a b c d e f g h)
  have k2 := Blk.new ((w.alloc (.cells #[.func (.func 73) #[] #[], .func (.func 75) #[] #[], .func (.func 76) #[] #[]] 100)).alloc (.cells (ln8 a b c d e f g h) 26)) 51 #[.int .i64 0, .int .i64 0]
  have k3 := Blk.new (((w.alloc (.cells #[.func (.func 73) #[] #[], .func (.func 75) #[] #[], .func (.func 76) #[] #[]] 100)).alloc (.cells (ln8 a b c d e f g h) 26)).alloc (.cells #[.int .i64 0, .int .i64 0] 51)) 27 #[.int .i64 0]
  replace k0 := ((k0.alloc (.cells (ln8 a b c d e f g h) 26)).alloc (.cells #[.int .i64 0, .int .i64 0] 51)).alloc (.cells #[.int .i64 0] 27)
  replace k1 := (k1.alloc (.cells #[.int .i64 0, .int .i64 0] 51)).alloc (.cells #[.int .i64 0] 27)
  replace k2 := k2.alloc (.cells #[.int .i64 0] 27)
  simp only [World.size_alloc] at k0 k1 k2 k3
  have hB : Below w.heap.size w ((((w.alloc (.cells #[.func (.func 73) #[] #[], .func (.func 75) #[] #[], .func (.func 76) #[] #[]] 100)).alloc (.cells (ln8 a b c d e f g h) 26)).alloc (.cells #[.int .i64 0, .int .i64 0] 51)).alloc (.cells #[.int .i64 0] 27)) := ((((Below.refl _ w).alloc (Nat.le_refl _) _).alloc (by simp) _).alloc (by simp; omega) _).alloc (by simp; omega) _
  go_enter_defers Try.func50, Try.ntmps50
  go_wp2_with (refine row_load (w.heap.size + 1) 26 _ k1 26 _ rfl rfl rfl _ Try.underlying26 rfl (by kernel_rfl) ?_)
  refine (supread_any a b c d e f g h hb hc _).mono ?_
  rintro r w1 ⟨rfl, hb1⟩
  replace k0 := k0.below hb1 k0.lt
  replace k1 := k1.below hb1 k1.lt
  replace k2 := k2.below hb1 k2.lt
  replace k3 := k3.below hb1 k3.lt
  replace hB := hB.trans (hb1.mono hB.size)
  clear hb1
  have hisd := isSuper_eq a b c d e f g h
  obtain ⟨rv, hrv⟩ : ∃ v, smallI b = v := ⟨_, rfl⟩
  obtain ⟨lv, hlv⟩ : ∃ v, smallI c = v := ⟨_, rfl⟩
  rw [hrv, hlv] at hisd ⊢
  have q2 := k2.setRow #[.int .i64 rv, .int .i64 lv]
  have q0 := k0.farRow (g' := w.heap.size + 1 + 1) (by omega) #[.int .i64 rv, .int .i64 lv]
  have q1 := k1.farRow (g' := w.heap.size + 1 + 1) (by omega) #[.int .i64 rv, .int .i64 lv]
  have q3 := k3.farRow (g' := w.heap.size + 1 + 1) (by omega) #[.int .i64 rv, .int .i64 lv]
  have qB := below_setRow hB (g := w.heap.size + 1 + 1) (by omega) #[.int .i64 rv, .int .i64 lv]
  go_wp2_with (first | (refine row_store (w.heap.size + 1 + 1) 51 _ _ k2 51 _ _ rfl rfl rfl rfl (by kernel_rfl) (rfl) (by kernel_rfl) ?_) | (refine row_load (w.heap.size) 100 _ q0 100 _ rfl rfl rfl _ Try.underlying100 rfl (by kernel_rfl) ?_) | (refine row_load (w.heap.size + 1 + 1) 51 _ q2 51 _ rfl rfl rfl _ Try.underlying51 rfl (by kernel_rfl) ?_))
  refine (putSuper_any rv lv _).mono ?_
  rintro r w2 ⟨rfl, hb2⟩
  replace q1 := q1.below hb2 q1.lt
  replace q2 := q2.below hb2 q2.lt
  replace q3 := q3.below hb2 q3.lt
  replace qB := qB.trans (hb2.mono qB.size)
  clear hb2 k0 k1 k2 k3 hB q0
  have Hsz : Hid ((supL rv lv).size = 8) := Lib.hid (by unfold supL; split <;> rfl)
  have Hone : Hid ((supL rv lv).all (·.oneCell') = true) := Lib.hid (by unfold supL; split <;> kernel_rfl)
  have hsz := Hsz.out
  have hone := Hone.out
  have n2 := Blk.new w2 26 #[.int .u64 0, .int .u64 0, .int .u64 0, .int .u64 0, .int .u64 0, .int .u64 0, .int .u64 0, .int .u64 0]
  have l3 := q3.lt
  have r3 := (q3.alloc (.cells #[.int .u64 0, .int .u64 0, .int .u64 0, .int .u64 0, .int .u64 0, .int .u64 0, .int .u64 0, .int .u64 0] 26)).farRow (g' := w2.heap.size) (by omega) (supL rv lv)
  have c3 := r3.cell 0
  have f3 := r3.frozen 0
  simp only [List.getElem?_toArray, List.getElem?_cons_zero] at c3
  cases hok : supOk rv lv
  · have he : supE rv lv = 2 := by unfold supE; rw [hok]; rfl
    have his : Hid (supIs a b c d e f g h = false) := Lib.hid (by rw [hisd, hok]; rfl)
    rw [he]
    go_wp2_with (refine row_store w2.heap.size 26 _ _ n2 26 _ _ rfl rfl rfl rfl (by rw [hsz]; kernel_rfl) (by rw [hsz]; rfl) hone ?_)
    refine (must_not 180 _).mono ?_
    rintro r w3 ⟨rfl, rfl⟩
    have m3 := r3.set_ 0 (.int .i64 2)
    have m2 := ((q2.alloc (.cells #[.int .u64 0, .int .u64 0, .int .u64 0, .int .u64 0, .int .u64 0, .int .u64 0, .int .u64 0, .int .u64 0] 26)).farRow (g' := w2.heap.size) (by omega) (supL rv lv)).far (p := ⟨w.heap.size + 1 + 1 + 1, 0, none⟩) (by simp) (.int .i64 2)
    refine leaves_cons (f := 80) (args := #[.pointer (some ⟨w.heap.size + 1 + 1 + 1, 0, none⟩), .func (.func 86) #[] #[.pointer (some ⟨w.heap.size + 1 + 1, 0, none⟩)]]) (by simp) (by simp [go_sem]) ?_
    have e3 := m3.cell 0
    have e4 := m3.frozen 0
    simp at e3
    have m4 := m3.set_ 0 (.int .i64 180)
    have m5 := m2.far (p := ⟨w.heap.size + 1 + 1 + 1, 0, none⟩) (by simp) (.int .i64 180)
    have mB := ((((below_setRow (qB.alloc qB.size (.cells #[.int .u64 0, .int .u64 0, .int .u64 0, .int .u64 0, .int .u64 0, .int .u64 0, .int .u64 0, .int .u64 0] 26)) (g := w2.heap.size) qB.size (supL rv lv)).setCell (p := ⟨w.heap.size + 1 + 1 + 1, 0, none⟩) (show w.heap.size ≤ w.heap.size + 1 + 1 + 1 by omega) (.int .i64 2)).setCell (p := ⟨w.heap.size + 1 + 1 + 1, 0, none⟩) (show w.heap.size ≤ w.heap.size + 1 + 1 + 1 by omega) (.int .i64 180)))
    generalize hM : (((w2.alloc (.cells #[.int .u64 0, .int .u64 0, .int .u64 0, .int .u64 0, .int .u64 0, .int .u64 0, .int .u64 0, .int .u64 0] 26)).setRow w2.heap.size (supL rv lv)).setCell ⟨w.heap.size + 1 + 1 + 1, 0, none⟩ (.int .i64 2)) = M at *
    have l4 := m4.lt
    refine (caught_panic ⟨w.heap.size + 1 + 1 + 1, 0, none⟩ 2 180 86 #[.pointer (some ⟨w.heap.size + 1 + 1, 0, none⟩)] M (fun w' => Blk w' (w.heap.size + 1 + 1) 51 #[.int .i64 0, .int .i64 0] ∧ Blk w' (w.heap.size + 1 + 1 + 1) 27 #[.int .i64 180] ∧ Below w.heap.size w w') e3 e4 (fun W => by kernel_rfl) ((clearSuper _ _ rfl _ m5).mono ?_)).mono ?_
    · rintro r w4 ⟨rfl, h1, h2, h3⟩
      exact ⟨rfl, h1, (h3 _ (by omega) l4).trans m4, mB.trans (h2.mono (by omega))⟩
    · rintro r u' w4 ⟨rfl, rfl, h1, h2, h3⟩
      have e5 := h2.cell 0
      simp at e5
      exact leaves_settled (results_cell_cell rfl _ _ (w.heap.size + 1 + 1) 51 _ _ rfl h1 Try.underlying51 rfl (by kernel_rfl) ⟨w.heap.size + 1 + 1 + 1, 0, none⟩ _ rfl (load_int1 Try.underlying27 e5)) ⟨by unfold supIsV supIsE; rw [his.out]; rfl, h3⟩
  · have he : supE rv lv = 0 := by unfold supE; rw [hok]; rfl
    rw [hok, Bool.true_and] at hisd
    rw [he]
    have n3 := (n2.setRow (supL rv lv)).far (p := ⟨w.heap.size + 1 + 1 + 1, 0, none⟩) (by simp; omega) (.int .i64 0)
    have p1 := ((q1.alloc (.cells #[.int .u64 0, .int .u64 0, .int .u64 0, .int .u64 0, .int .u64 0, .int .u64 0, .int .u64 0, .int .u64 0] 26)).farRow (g' := w2.heap.size) (by have := q1.lt; omega) (supL rv lv)).far (p := ⟨w.heap.size + 1 + 1 + 1, 0, none⟩) (by simp) (.int .i64 0)
    have heq : ∀ W : World, (Op.equalIn 10000 26 (.agg (supL rv lv)) (.agg (ln8 a b c d e f g h))).run Try.prog W = .ok (supIs a b c d e f g h) W := fun W => by
      rw [hisd]
      exact (lineSuper_eq a b c d e f g h rv lv hok W)
    cases his0 : supIs a b c d e f g h
    · have his := Lib.hid his0
      rw [his0] at heq
      clear his0
      go_wp2_with (first | (refine row_store w2.heap.size 26 _ _ n2 26 _ _ rfl rfl rfl rfl (by rw [hsz]; kernel_rfl) (by rw [hsz]; rfl) hone ?_) | (refine row_load_w (w2.heap.size) 26 _ n3 26 _ rfl rfl rfl _ Try.underlying26 rfl (by rw [hsz]; kernel_rfl) ?_) | (refine row_load_w (w.heap.size + 1) 26 _ p1 26 _ rfl rfl rfl _ Try.underlying26 rfl (by kernel_rfl) ?_))
      refine (must_not 180 _).mono ?_
      rintro r w3 ⟨rfl, rfl⟩
      have m3 := r3.set_ 0 (.int .i64 0)
      have m2 := ((q2.alloc (.cells #[.int .u64 0, .int .u64 0, .int .u64 0, .int .u64 0, .int .u64 0, .int .u64 0, .int .u64 0, .int .u64 0] 26)).farRow (g' := w2.heap.size) (by omega) (supL rv lv)).far (p := ⟨w.heap.size + 1 + 1 + 1, 0, none⟩) (by simp) (.int .i64 0)
      refine leaves_cons (f := 80) (args := #[.pointer (some ⟨w.heap.size + 1 + 1 + 1, 0, none⟩), .func (.func 86) #[] #[.pointer (some ⟨w.heap.size + 1 + 1, 0, none⟩)]]) (by simp) (by simp [go_sem]) ?_
      have e3 := m3.cell 0
      have e4 := m3.frozen 0
      simp at e3
      have m4 := m3.set_ 0 (.int .i64 180)
      have m5 := m2.far (p := ⟨w.heap.size + 1 + 1 + 1, 0, none⟩) (by simp) (.int .i64 180)
      have mB := ((((below_setRow (qB.alloc qB.size (.cells #[.int .u64 0, .int .u64 0, .int .u64 0, .int .u64 0, .int .u64 0, .int .u64 0, .int .u64 0, .int .u64 0] 26)) (g := w2.heap.size) qB.size (supL rv lv)).setCell (p := ⟨w.heap.size + 1 + 1 + 1, 0, none⟩) (show w.heap.size ≤ w.heap.size + 1 + 1 + 1 by omega) (.int .i64 0)).setCell (p := ⟨w.heap.size + 1 + 1 + 1, 0, none⟩) (show w.heap.size ≤ w.heap.size + 1 + 1 + 1 by omega) (.int .i64 180)))
      generalize hM : (((w2.alloc (.cells #[.int .u64 0, .int .u64 0, .int .u64 0, .int .u64 0, .int .u64 0, .int .u64 0, .int .u64 0, .int .u64 0] 26)).setRow w2.heap.size (supL rv lv)).setCell ⟨w.heap.size + 1 + 1 + 1, 0, none⟩ (.int .i64 0)) = M at *
      have l4 := m4.lt
      refine (caught_panic ⟨w.heap.size + 1 + 1 + 1, 0, none⟩ 0 180 86 #[.pointer (some ⟨w.heap.size + 1 + 1, 0, none⟩)] M (fun w' => Blk w' (w.heap.size + 1 + 1) 51 #[.int .i64 0, .int .i64 0] ∧ Blk w' (w.heap.size + 1 + 1 + 1) 27 #[.int .i64 180] ∧ Below w.heap.size w w') e3 e4 (fun W => by kernel_rfl) ((clearSuper _ _ rfl _ m5).mono ?_)).mono ?_
      · rintro r w4 ⟨rfl, h1, h2, h3⟩
        exact ⟨rfl, h1, (h3 _ (by omega) l4).trans m4, mB.trans (h2.mono (by omega))⟩
      · rintro r u' w4 ⟨rfl, rfl, h1, h2, h3⟩
        have e5 := h2.cell 0
        simp at e5
        exact leaves_settled (results_cell_cell rfl _ _ (w.heap.size + 1 + 1) 51 _ _ rfl h1 Try.underlying51 rfl (by kernel_rfl) ⟨w.heap.size + 1 + 1 + 1, 0, none⟩ _ rfl (load_int1 Try.underlying27 e5)) ⟨by unfold supIsV supIsE; rw [his.out]; rfl, h3⟩
    · have his := Lib.hid his0
      rw [his0] at heq
      clear his0
      go_wp2_with (first | (refine row_store w2.heap.size 26 _ _ n2 26 _ _ rfl rfl rfl rfl (by rw [hsz]; kernel_rfl) (by rw [hsz]; rfl) hone ?_) | (refine row_load_w (w2.heap.size) 26 _ n3 26 _ rfl rfl rfl _ Try.underlying26 rfl (by rw [hsz]; kernel_rfl) ?_) | (refine row_load_w (w.heap.size + 1) 26 _ p1 26 _ rfl rfl rfl _ Try.underlying26 rfl (by kernel_rfl) ?_))
      refine (must_ok 180 _).mono ?_
      rintro r w3 ⟨rfl, rfl⟩
      have m3 := r3.set_ 0 (.int .i64 0)
      have m2 := ((q2.alloc (.cells #[.int .u64 0, .int .u64 0, .int .u64 0, .int .u64 0, .int .u64 0, .int .u64 0, .int .u64 0, .int .u64 0] 26)).farRow (g' := w2.heap.size) (by omega) (supL rv lv)).far (p := ⟨w.heap.size + 1 + 1 + 1, 0, none⟩) (by simp) (.int .i64 0)
      have mB := ((below_setRow (qB.alloc qB.size (.cells #[.int .u64 0, .int .u64 0, .int .u64 0, .int .u64 0, .int .u64 0, .int .u64 0, .int .u64 0, .int .u64 0] 26)) (g := w2.heap.size) qB.size (supL rv lv)).setCell (p := ⟨w.heap.size + 1 + 1 + 1, 0, none⟩) (show w.heap.size ≤ w.heap.size + 1 + 1 + 1 by omega) (.int .i64 0))
      generalize hM : (((w2.alloc (.cells #[.int .u64 0, .int .u64 0, .int .u64 0, .int .u64 0, .int .u64 0, .int .u64 0, .int .u64 0, .int .u64 0] 26)).setRow w2.heap.size (supL rv lv)).setCell ⟨w.heap.size + 1 + 1 + 1, 0, none⟩ (.int .i64 0)) = M at *
      have z2 := m2.setRow #[.int .i64 rv, .int .i64 lv]
      have z3 := m3.farRow (g' := w.heap.size + 1 + 1) (by omega) #[.int .i64 rv, .int .i64 lv]
      have c4 := z3.cell 0
      have f4 := z3.frozen 0
      simp at c4
      go_wp2_with (first | (refine row_load (w.heap.size + 1 + 1) 51 _ m2 51 _ rfl rfl rfl _ Try.underlying51 rfl (by kernel_rfl) ?_) | (refine row_store (w.heap.size + 1 + 1) 51 _ _ m2 51 _ _ rfl rfl rfl rfl (by kernel_rfl) (rfl) (by kernel_rfl) ?_))
      have z4 := z3.set_ 0 (.int .i64 0)
      have z5 := z2.far (p := ⟨w.heap.size + 1 + 1 + 1, 0, none⟩) (by simp) (.int .i64 0)
      have zB := (below_setRow mB (g := w.heap.size + 1 + 1) (by omega) #[.int .i64 rv, .int .i64 lv]).setCell (p := ⟨w.heap.size + 1 + 1 + 1, 0, none⟩) (show w.heap.size ≤ w.heap.size + 1 + 1 + 1 by omega) (.int .i64 0)
      refine leaves_cons (f := 80) (args := #[.pointer (some ⟨w.heap.size + 1 + 1 + 1, 0, none⟩), .func (.func 86) #[] #[.pointer (some ⟨w.heap.size + 1 + 1, 0, none⟩)]]) (by simp) (by simp [go_sem]) ?_
      refine (caught_idle ⟨w.heap.size + 1 + 1 + 1, 0, none⟩ _ _).mono ?_
      rintro r u' w4 ⟨rfl, rfl, rfl⟩
      have e5 := z4.cell 0
      simp at e5
      exact leaves_done (results_cell_cell rfl _ _ (w.heap.size + 1 + 1) 51 _ _ rfl z5 Try.underlying51 rfl (by kernel_rfl) ⟨w.heap.size + 1 + 1 + 1, 0, none⟩ _ rfl (load_int1 Try.underlying27 e5)) ⟨by unfold supIsV supIsE; rw [his.out]; simp only [hrv, hlv]; rfl, zB⟩

theorem supIsV_size (a b c d e f g h : Nat) : (supIsV a b c d e f g h).size = 2 := by unfold supIsV; split <;> rfl
theorem supIsV_one (a b c d e f g h : Nat) : (supIsV a b c d e f g h).all (·.oneCell') = true := by unfold supIsV; split <;> kernel_rfl
set_option maxRecDepth 100000 in
set_option maxHeartbeats 2000000 in
theorem GetSuper_any (a b c d e f g h : Nat) (hb : b < 18446744073709551616) (hc : c < 18446744073709551616) (w : World) :
    Calls Try.prog 32 #[.agg (ln8 a b c d e f g h)] w fun r w' => r = .returned (.tuple #[.agg (supIsV a b c d e f g h), .int .i64 (supIsE a b c d e f g h)]) ∧ Below w.heap.size w w' := by
  have hord : Try.prog.follows .mixedOrders = true := by kernel_rfl
  have hx := (Blk.new w 26 (ln8 a b c d e f g h)).alloc (.cells #[.int .i64 0, .int .i64 0] 51)
  have hr := Blk.new (w.alloc (.cells (ln8 a b c d e f g h) 26)) 51 #[.int .i64 0, .int .i64 0]
  have hB := ((Below.refl _ w).alloc (Nat.le_refl _) (.cells (ln8 a b c d e f g h) 26)).alloc (by simp) (.cells #[.int .i64 0, .int .i64 0] 51)
  simp only [World.size_alloc] at hr
  have Hsz := Lib.hid (supIsV_size a b c d e f g h)
  have Hone := Lib.hid (supIsV_one a b c d e f g h)
  go_enter Try.func32, Try.ntmps32
  go_wp2_with fail
  refine draw_orders0 [[0, 1, 2, 3, 4, 5, 6], [1, 0, 2, 3, 4, 5, 6], [0, 1, 2, 4, 3, 5, 6], [1, 0, 2, 4, 3, 5, 6]] hord (by kernel_rfl) ?_
  intro o ho
  simp only [List.mem_cons, List.not_mem_nil, or_false] at ho
  rcases ho with rfl | rfl | rfl | rfl
  all_goals refine ⟨_, ⟨_, _, rfl, rfl, _, _, rfl, rfl, _, _, rfl, rfl, _, _, rfl, rfl, _, _, rfl, rfl, _, _, rfl, rfl, _, _, rfl, rfl, rfl⟩, ?_⟩
  all_goals simp only [List.getElem_toArray, List.getElem_cons_zero, List.getElem_cons_succ]
  all_goals
    replace hx := hx.drew
    replace hr := hr.drew
    replace hB := hB.drew
    go_wp2_with (refine row_load (w.heap.size) 26 _ hx 26 _ rfl rfl rfl _ Try.underlying26 rfl (by kernel_rfl) ?_)
    refine (supers_any _).mono ?_
    rintro r w1 ⟨rfl, hb⟩
    replace hx := hx.below hb hx.lt
    replace hr := hr.below hb hr.lt
    replace hB := hB.trans (hb.mono hB.size)
    clear hb
    go_wp2_with (refine row_load (w.heap.size) 26 _ hx 26 _ rfl rfl rfl _ Try.underlying26 rfl (by kernel_rfl) ?_)
    refine (getSuper_any a b c d e f g h hb hc _).mono ?_
    rintro r w2 ⟨rfl, hb⟩
    replace hr := hr.below hb hr.lt
    replace hB := hB.trans (hb.mono hB.size)
    clear hb
    obtain ⟨v, hv⟩ : ∃ v, supIsV a b c d e f g h = v := ⟨_, rfl⟩
    have hsz := Hsz.out
    have hone := Hone.out
    rw [hv] at hsz hone ⊢
    go_wp2_with (refine row_store (w.heap.size + 1) 51 _ _ hr 51 _ _ rfl rfl rfl rfl (by rw [hsz]; kernel_rfl) (by rw [hsz]; rfl) hone ?_)
    refine bodyPost_ret (results_cell_slot rfl _ _ (w.heap.size + 1) 51 _ _ rfl (hr.setRow _) Try.underlying51 rfl (by rw [hsz]; kernel_rfl) _ rfl) rfl ?_
    exact ⟨by rw [hv]; rfl, below_setRow hB (by omega) _⟩
end Go.Proofs.Ytdgnbmcckknfiaa
