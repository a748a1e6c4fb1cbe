/- The walks of node's super lines: which may be, how their words are written, and put. Conditions: none. -/
import Derived.Test.YtdgnbmcckknfiaaNodL
import Derived.Test.YtdgnbmcckknfiaaEqs
namespace Go.Proofs.Ytdgnbmcckknfiaa
open Go.RowKit
set_option linter.unusedSimpArgs false

/-- May a super line be? -/
def supOk (r l : Int) : Bool := ptrs 1 [r] && decide (8 ≤ l) && decide (l ≤ 1024)
set_option maxHeartbeats 1000000 in
theorem sup74_any (r l : Int) (w : World) :
    Calls Try.prog 74 #[.agg #[.int .i64 r, .int .i64 l]] w fun e w' => e = .returned (.bool (supOk r l)) ∧ Below w.heap.size w w' := by
  have B1 : Below w.heap.size w ((w.alloc (.cells #[.int .i64 r, .int .i64 l] 138)).alloc (.cells #[.int .i64 r] 3)) := ((Below.refl _ w).alloc (Nat.le_refl _) _).alloc (by simp) _
  have kk := (Blk.new w 138 #[.int .i64 r, .int .i64 l]).alloc (.cells #[.int .i64 r] 3)
  have hr := one_read (w.alloc (.cells #[.int .i64 r, .int .i64 l] 138)) 3 r
  simp only [World.size_alloc] at hr
  have key : ∀ v : Bool, ptrs 1 [r] = v → supOk r l = (v && decide (8 ≤ l) && decide (l ≤ 1024)) := fun v h => by unfold supOk; rw [h]
  cases c1 : ptrs 1 [r]
  · have e : Hid (supOk r l = false) := Lib.hid (by rw [key false c1]; rfl)
    have c1' := Lib.hid c1
    clear c1 key
    go_enter Try.func74, Try.ntmps74
    go_wp2_with fail
    refine (pointers_any 1 [r] _ _ _ _ (by rw [World.size_alloc, World.size_alloc]; exact hr) (by omega)).mono ?_
    rintro r w1 ⟨rfl, hb⟩
    rw [c1'.out]
    go_wp2
    go_ret
    exact ⟨by rw [e.out]; rfl, B1.trans (hb.mono B1.size)⟩
  · have e : Hid (supOk r l = (decide (8 ≤ l) && decide (l ≤ 1024))) := Lib.hid (by rw [key true c1]; simp)
    have c1' := Lib.hid c1
    clear c1 key
    by_cases c5 : (8 : Int) ≤ l
    · have e : Hid (supOk r l = decide (l ≤ 1024)) := Lib.hid (by rw [e.out, decide_eq_true c5]; rfl)
      go_enter Try.func74, Try.ntmps74
      go_wp2_with fail
      refine (pointers_any 1 [r] _ _ _ _ (by rw [World.size_alloc, World.size_alloc]; exact hr) (by omega)).mono ?_
      rintro r w1 ⟨rfl, hb⟩
      rw [c1'.out]
      have k1 := (kk.below (hb.mono (Nat.le_refl _)) (by simp; omega)).cell 1
      simp at k1
      go_wp2
      go_ret
      exact ⟨by rw [e.out]; rfl, B1.trans (hb.mono B1.size)⟩
    · have e : Hid (supOk r l = false) := Lib.hid (by rw [e.out, decide_eq_false c5]; rfl)
      go_enter Try.func74, Try.ntmps74
      go_wp2_with fail
      refine (pointers_any 1 [r] _ _ _ _ (by rw [World.size_alloc, World.size_alloc]; exact hr) (by omega)).mono ?_
      rintro r w1 ⟨rfl, hb⟩
      rw [c1'.out]
      have k1 := (kk.below (hb.mono (Nat.le_refl _)) (by simp; omega)).cell 1
      simp at k1
      go_wp2
      go_ret
      exact ⟨by rw [e.out]; rfl, B1.trans (hb.mono B1.size)⟩

set_option maxHeartbeats 1000000 in
theorem supright_any (r l : Int) (w : World) :
    Calls Try.prog 73 #[.agg #[.int .i64 r, .int .i64 l]] w fun e w' => e = .returned (.bool (supOk r l)) ∧ Below w.heap.size w w' := by
  have hx := Blk.new w 51 #[.int .i64 r, .int .i64 l]
  have hB := (Below.refl _ w).alloc (Nat.le_refl _) (.cells #[.int .i64 r, .int .i64 l] 51)
  go_enter Try.func73, Try.ntmps73
  go_wp2_with (refine row_load w.heap.size 51 _ hx 51 _ rfl rfl rfl _ Try.underlying51 rfl (by kernel_rfl) ?_)
  refine (sup74_any r l _).mono ?_
  rintro e w1 ⟨rfl, hb⟩
  go_wp2
  go_ret
  exact ⟨rfl, hB.trans (hb.mono hB.size)⟩

/-- A super line's words. -/
def supW (r l : Int) : List Int := [8602284742314584430, r, l, 0, 0, 0, 0, 0]
def supL (r l : Int) : Array Value := if supOk r l then ln8 8602284742314584430 r l 0 0 0 0 0 else ln8 0 0 0 0 0 0 0 0
def supE (r l : Int) : Int := if supOk r l then 0 else 2
set_option maxHeartbeats 1000000 in
theorem supwrite_ok (r l : Int) (h : supOk r l = true) (b : Nat) (old : Array Value) (ho : old.size = 8) (w : World) (hB : Blk w b 113 old) :
    Calls Try.prog 75 #[.agg #[.int .i64 r, .int .i64 l], .pointer (some ⟨b, 0, none⟩)] w fun e w' => e = .returned (.tuple #[]) ∧
      Blk w' b 113 (ln8 8602284742314584430 r l 0 0 0 0 0) ∧ Below b w w' := by
  have hbl := hB.lt
  have B0 : Below w.heap.size w (w.alloc (.cells #[.int .i64 r, .int .i64 l] 51)) := (Below.refl _ w).alloc (Nat.le_refl _) _
  have hB1 := hB.below B0 hbl
  simp only [supOk, ptrs, badP, Bool.and_eq_true, decide_eq_true_eq, List.any_cons, List.any_nil, Bool.or_false, Bool.not_eq_true', Bool.or_eq_false_iff, decide_eq_false_iff_not] at h
  have w1 : IntKind.u64.wrap r = r := by rw [IntKind.wrap_u64]; omega
  have w2 : IntKind.u64.wrap l = l := by rw [IntKind.wrap_u64]; omega
  clear h hB
  go_enter Try.func75, Try.ntmps75
  go_wp2_with (refine row_store b 113 _ _ hB1 113 _ _ rfl rfl rfl rfl (by kernel_rfl) ho (by kernel_rfl) ?_)
  go_end0
  exact ⟨rfl, hB1.setRow _, below_setRow (B0.mono (by omega)) (Nat.le_refl _) _⟩

set_option maxRecDepth 100000 in
set_option maxHeartbeats 2000000 in
theorem putSuper_any (r l : Int) (w : World) :
    Calls Try.prog 42 #[.agg #[.func (.func 73) #[] #[], .func (.func 75) #[] #[], .func (.func 76) #[] #[]], .agg #[.int .i64 r, .int .i64 l]] w fun e w' => e = .returned (.tuple #[.agg (supL r l), .int .i64 (supE r l)]) ∧ Below w.heap.size w w' := by
  have HX : Hid (∀ X, X = (((((w.alloc (.cells #[.func (.func 73) #[] #[], .func (.func 75) #[] #[], .func (.func 76) #[] #[]] 100)).alloc (.cells #[.int .i64 r, .int .i64 l] 51)).alloc (.cells #[.int .u64 0, .int .u64 0, .int .u64 0, .int .u64 0, .int .u64 0, .int .u64 0, .int .u64 0, .int .u64 0] 26)).alloc (.cells #[.int .u64 0, .int .u64 0, .int .u64 0, .int .u64 0, .int .u64 0, .int .u64 0, .int .u64 0, .int .u64 0] 113))).setRow (w.heap.size + 1 + 1 + 1) #[.int .u64 0, .int .u64 0, .int .u64 0, .int .u64 0, .int .u64 0, .int .u64 0, .int .u64 0, .int .u64 0] →
      Blk X w.heap.size 100 #[.func (.func 73) #[] #[], .func (.func 75) #[] #[], .func (.func 76) #[] #[]] ∧ Blk X (w.heap.size + 1) 51 #[.int .i64 r, .int .i64 l] ∧ Blk X (w.heap.size + 1 + 1) 26 #[.int .u64 0, .int .u64 0, .int .u64 0, .int .u64 0, .int .u64 0, .int .u64 0, .int .u64 0, .int .u64 0] ∧ Blk X (w.heap.size + 1 + 1 + 1) 113 #[.int .u64 0, .int .u64 0, .int .u64 0, .int .u64 0, .int .u64 0, .int .u64 0, .int .u64 0, .int .u64 0] ∧ Below w.heap.size w X) := Lib.hid (by
    rintro X rfl
    have k0 := Blk.new w 100 #[.func (.func 73) #[] #[], .func (.func 75) #[] #[], .func (.func 76) #[] #[]]
    have k1 := Blk.new (w.alloc (.cells #[.func (.func 73) #[] #[], .func (.func 75) #[] #[], .func (.func 76) #[] #[]] 100)) 51 #[.int .i64 r, .int .i64 l]
    have k2 := Blk.new ((w.alloc (.cells #[.func (.func 73) #[] #[], .func (.func 75) #[] #[], .func (.func 76) #[] #[]] 100)).alloc (.cells #[.int .i64 r, .int .i64 l] 51)) 26 #[.int .u64 0, .int .u64 0, .int .u64 0, .int .u64 0, .int .u64 0, .int .u64 0, .int .u64 0, .int .u64 0]
    have k3 := Blk.new (((w.alloc (.cells #[.func (.func 73) #[] #[], .func (.func 75) #[] #[], .func (.func 76) #[] #[]] 100)).alloc (.cells #[.int .i64 r, .int .i64 l] 51)).alloc (.cells #[.int .u64 0, .int .u64 0, .int .u64 0, .int .u64 0, .int .u64 0, .int .u64 0, .int .u64 0, .int .u64 0] 26)) 113 #[.int .u64 0, .int .u64 0, .int .u64 0, .int .u64 0, .int .u64 0, .int .u64 0, .int .u64 0, .int .u64 0]
    replace k0 := ((k0.alloc (.cells #[.int .i64 r, .int .i64 l] 51)).alloc (.cells #[.int .u64 0, .int .u64 0, .int .u64 0, .int .u64 0, .int .u64 0, .int .u64 0, .int .u64 0, .int .u64 0] 26)).alloc (.cells #[.int .u64 0, .int .u64 0, .int .u64 0, .int .u64 0, .int .u64 0, .int .u64 0, .int .u64 0, .int .u64 0] 113)
    replace k1 := (k1.alloc (.cells #[.int .u64 0, .int .u64 0, .int .u64 0, .int .u64 0, .int .u64 0, .int .u64 0, .int .u64 0, .int .u64 0] 26)).alloc (.cells #[.int .u64 0, .int .u64 0, .int .u64 0, .int .u64 0, .int .u64 0, .int .u64 0, .int .u64 0, .int .u64 0] 113)
    replace k2 := k2.alloc (.cells #[.int .u64 0, .int .u64 0, .int .u64 0, .int .u64 0, .int .u64 0, .int .u64 0, .int .u64 0, .int .u64 0] 113)
    simp only [World.size_alloc] at k0 k1 k2 k3
    exact ⟨k0.farRow (by omega) _, k1.farRow (by omega) _, k2.farRow (by omega) _, k3.setRow _, below_setRow ((((((Below.refl _ w).alloc (Nat.le_refl _) _).alloc (by simp) _).alloc (by simp; omega) _).alloc (by simp; omega) _)) (by omega) _⟩)
  have hn := Blk.new (((w.alloc (.cells #[.func (.func 73) #[] #[], .func (.func 75) #[] #[], .func (.func 76) #[] #[]] 100)).alloc (.cells #[.int .i64 r, .int .i64 l] 51)).alloc (.cells #[.int .u64 0, .int .u64 0, .int .u64 0, .int .u64 0, .int .u64 0, .int .u64 0, .int .u64 0, .int .u64 0] 26)) 113 #[.int .u64 0, .int .u64 0, .int .u64 0, .int .u64 0, .int .u64 0, .int .u64 0, .int .u64 0, .int .u64 0]
  simp only [World.size_alloc] at hn
  cases hok : supOk r l
  · have e1 : Hid (supL r l = #[.int .u64 0, .int .u64 0, .int .u64 0, .int .u64 0, .int .u64 0, .int .u64 0, .int .u64 0, .int .u64 0]) := Lib.hid (by unfold supL; rw [hok]; rfl)
    have e2 : Hid (supE r l = 2) := Lib.hid (by unfold supE; rw [hok]; rfl)
    have Hok := Lib.hid hok
    clear hok
    go_enter Try.func42, Try.ntmps42
    go_wp2_with fail
    refine wp_scope_goto 0 rfl fun J hJ => ?_
    obtain ⟨X, hX⟩ : ∃ X, X = (((((w.alloc (.cells #[.func (.func 73) #[] #[], .func (.func 75) #[] #[], .func (.func 76) #[] #[]] 100)).alloc (.cells #[.int .i64 r, .int .i64 l] 51)).alloc (.cells #[.int .u64 0, .int .u64 0, .int .u64 0, .int .u64 0, .int .u64 0, .int .u64 0, .int .u64 0, .int .u64 0] 26)).alloc (.cells #[.int .u64 0, .int .u64 0, .int .u64 0, .int .u64 0, .int .u64 0, .int .u64 0, .int .u64 0, .int .u64 0] 113))).setRow (w.heap.size + 1 + 1 + 1) #[.int .u64 0, .int .u64 0, .int .u64 0, .int .u64 0, .int .u64 0, .int .u64 0, .int .u64 0, .int .u64 0] := ⟨_, rfl⟩
    obtain ⟨b0, b1, b2, b3, hB⟩ := HX.out X hX
    have c0 := b0.cell 0
    have c1 := b0.cell 1
    simp at c0 c1
    have HX2 := Lib.hid hX
    clear HX hX
    go_wp2_with (first | ((refine row_store (w.heap.size + 1 + 1 + 1) 113 _ _ hn 113 _ _ rfl rfl rfl rfl (by kernel_rfl) rfl (by kernel_rfl) ?_); rw [← HX2.out]) | (refine row_load (w.heap.size + 1) 51 _ b1 51 _ rfl rfl rfl _ Try.underlying51 rfl (by kernel_rfl) ?_))
    clear HX2 hn
    refine (supright_any r l _).mono ?_
    rintro r w1 ⟨rfl, hb⟩
    rw [Hok.out]
    replace b0 := b0.below hb b0.lt
    replace b1 := b1.below hb b1.lt
    replace b2 := b2.below hb b2.lt
    replace b3 := b3.below hb b3.lt
    replace hB := hB.trans (hb.mono hB.size)
    clear hb c0 c1
    go_wp2
    go_step3
    refine ⟨rfl, hJ _ _ ?_⟩
    go_wp2_with (first | (refine row_load (w.heap.size + 1 + 1) 26 _ b2 26 _ rfl rfl rfl _ Try.underlying26 rfl (by kernel_rfl) ?_) | (refine row_store (w.heap.size + 1 + 1) 26 _ _ b2 26 _ _ rfl rfl rfl rfl (by kernel_rfl) rfl (by kernel_rfl) ?_))
    first | rw [Exit.noGoto_ret] | rw [Exit.jump_ret] | skip
    refine bodyPost_ret (results_cell_slot rfl _ _ (w.heap.size + 1 + 1) 26 _ _ rfl (b2.setRow _) Try.underlying26 rfl (by kernel_rfl) _ rfl) rfl ?_
    exact ⟨by rw [e1.out, e2.out]; rfl, below_setRow hB (by omega) _⟩
  · have e2 : Hid (supE r l = 0) := Lib.hid (by unfold supE; rw [hok]; rfl)
    have Hok := Lib.hid hok
    have e1 : Hid (supL r l = ln8 8602284742314584430 r l 0 0 0 0 0) := Lib.hid (by unfold supL; rw [hok]; rfl)
    clear hok
    go_enter Try.func42, Try.ntmps42
    go_wp2_with fail
    refine wp_scope_goto 0 rfl fun J hJ => ?_
    obtain ⟨X, hX⟩ : ∃ X, X = (((((w.alloc (.cells #[.func (.func 73) #[] #[], .func (.func 75) #[] #[], .func (.func 76) #[] #[]] 100)).alloc (.cells #[.int .i64 r, .int .i64 l] 51)).alloc (.cells #[.int .u64 0, .int .u64 0, .int .u64 0, .int .u64 0, .int .u64 0, .int .u64 0, .int .u64 0, .int .u64 0] 26)).alloc (.cells #[.int .u64 0, .int .u64 0, .int .u64 0, .int .u64 0, .int .u64 0, .int .u64 0, .int .u64 0, .int .u64 0] 113))).setRow (w.heap.size + 1 + 1 + 1) #[.int .u64 0, .int .u64 0, .int .u64 0, .int .u64 0, .int .u64 0, .int .u64 0, .int .u64 0, .int .u64 0] := ⟨_, rfl⟩
    obtain ⟨b0, b1, b2, b3, hB⟩ := HX.out X hX
    have c0 := b0.cell 0
    have c1 := b0.cell 1
    simp at c0 c1
    have HX2 := Lib.hid hX
    clear HX hX
    go_wp2_with (first | ((refine row_store (w.heap.size + 1 + 1 + 1) 113 _ _ hn 113 _ _ rfl rfl rfl rfl (by kernel_rfl) rfl (by kernel_rfl) ?_); rw [← HX2.out]) | (refine row_load (w.heap.size + 1) 51 _ b1 51 _ rfl rfl rfl _ Try.underlying51 rfl (by kernel_rfl) ?_))
    clear HX2 hn
    refine (supright_any r l _).mono ?_
    rintro r w1 ⟨rfl, hb⟩
    rw [Hok.out]
    replace b0 := b0.below hb b0.lt
    replace b1 := b1.below hb b1.lt
    replace b2 := b2.below hb b2.lt
    replace b3 := b3.below hb b3.lt
    replace hB := hB.trans (hb.mono hB.size)
    clear hb c0 c1
    have c1 := b0.cell 1
    simp at c1
    go_wp2_with (refine row_load (w.heap.size + 1) 51 _ b1 51 _ rfl rfl rfl _ Try.underlying51 rfl (by kernel_rfl) ?_)
    refine (supwrite_ok r l Hok.out _ _ rfl _ b3).mono ?_
    rintro r w2 ⟨rfl, hl, hb⟩
    replace b2 := b2.below hb (by omega)
    replace hB := hB.trans (hb.mono (by omega))
    clear hb c1 b0 b1 b3
    go_wp2_with (first | (refine row_load (w.heap.size + 1 + 1 + 1) 113 _ hl 113 _ rfl rfl rfl _ Try.underlying113 rfl (by kernel_rfl) ?_) | (refine row_store (w.heap.size + 1 + 1) 26 _ _ b2 26 _ _ rfl rfl rfl rfl (by kernel_rfl) rfl (by kernel_rfl) ?_))
    first | rw [Exit.noGoto_ret] | rw [Exit.jump_ret] | skip
    refine bodyPost_ret (results_cell_slot rfl _ _ (w.heap.size + 1 + 1) 26 _ _ rfl (b2.setRow _) Try.underlying26 rfl (by kernel_rfl) _ rfl) rfl ?_
    exact ⟨by rw [e1.out, e2.out]; rfl, below_setRow hB (by omega) _⟩

set_option maxHeartbeats 400000 in
theorem supers_any (w : World) : Calls Try.prog 43 #[] w fun e w' => e = .returned (.agg #[.func (.func 73) #[] #[], .func (.func 75) #[] #[], .func (.func 76) #[] #[]]) ∧ Below w.heap.size w w' := by
  have hp := Blk.new w 100 #[.nilFunc, .nilFunc, .nilFunc]
  go_enter Try.func43, Try.ntmps43
  go_wp2_with (refine row_store w.heap.size 100 _ _ hp 100 _ _ rfl rfl rfl rfl (by kernel_rfl) rfl (by kernel_rfl) ?_)
  refine bodyPost_ret (results_cell1 rfl _ _ w.heap.size 100 _ _ rfl (hp.setRow _) Try.underlying100 rfl (by kernel_rfl)) rfl ?_
  exact ⟨rfl, below_setRow ((Below.refl _ w).alloc (Nat.le_refl _) _) (Nat.le_refl _) _⟩

set_option maxRecDepth 100000 in
set_option maxHeartbeats 2000000 in
theorem PutSuper_any (r l : Int) (w : World) :
    Calls Try.prog 20 #[.agg #[.int .i64 r, .int .i64 l]] w fun e w' => e = .returned (.tuple #[.agg (supL r l), .int .i64 (supE r l)]) ∧ Below w.heap.size w w' := by
  have hord : Try.prog.follows .mixedOrders = true := by kernel_rfl
  have hx := (Blk.new w 51 #[.int .i64 r, .int .i64 l]).alloc (.cells #[.int .u64 0, .int .u64 0, .int .u64 0, .int .u64 0, .int .u64 0, .int .u64 0, .int .u64 0, .int .u64 0] 26)
  have hr := Blk.new (w.alloc (.cells #[.int .i64 r, .int .i64 l] 51)) 26 #[.int .u64 0, .int .u64 0, .int .u64 0, .int .u64 0, .int .u64 0, .int .u64 0, .int .u64 0, .int .u64 0]
  have hB := ((Below.refl _ w).alloc (Nat.le_refl _) (.cells #[.int .i64 r, .int .i64 l] 51)).alloc (by simp) (.cells #[.int .u64 0, .int .u64 0, .int .u64 0, .int .u64 0, .int .u64 0, .int .u64 0, .int .u64 0, .int .u64 0] 26)
  simp only [World.size_alloc] at hr
  have Hsz : Hid ((supL r l).size = 8) := Lib.hid (by unfold supL; split <;> rfl)
  have Hone : Hid ((supL r l).all (·.oneCell') = true) := Lib.hid (by unfold supL; split <;> kernel_rfl)
  go_enter Try.func20, Try.ntmps20
  go_wp2_with fail
  refine draw_orders0 [[0, 1, 2, 3, 4, 5, 6], [1, 0, 2, 3, 4, 5, 6], [0, 1, 2, 4, 3, 5, 6], [1, 0, 2, 4, 3, 5, 6]] hord (by kernel_rfl) ?_
  intro o ho
  simp only [List.mem_cons, List.not_mem_nil, or_false] at ho
  rcases ho with rfl | rfl | rfl | rfl
  all_goals refine ⟨_, ⟨_, _, rfl, rfl, _, _, rfl, rfl, _, _, rfl, rfl, _, _, rfl, rfl, _, _, rfl, rfl, _, _, rfl, rfl, _, _, rfl, rfl, rfl⟩, ?_⟩
  all_goals simp only [List.getElem_toArray, List.getElem_cons_zero, List.getElem_cons_succ]
  all_goals
    replace hx := hx.drew
    replace hr := hr.drew
    replace hB := hB.drew
    go_wp2_with (refine row_load w.heap.size 51 _ hx 51 _ rfl rfl rfl _ Try.underlying51 rfl (by kernel_rfl) ?_)
    refine (supers_any _).mono ?_
    rintro r w1 ⟨rfl, hb⟩
    replace hx := hx.below hb hx.lt
    replace hr := hr.below hb hr.lt
    replace hB := hB.trans (hb.mono hB.size)
    clear hb
    go_wp2_with (refine row_load w.heap.size 51 _ hx 51 _ rfl rfl rfl _ Try.underlying51 rfl (by kernel_rfl) ?_)
    refine (putSuper_any r l _).mono ?_
    rintro r w2 ⟨rfl, hb⟩
    replace hr := hr.below hb hr.lt
    replace hB := hB.trans (hb.mono hB.size)
    clear hb
    obtain ⟨v, hv⟩ : ∃ v, supL r l = v := ⟨_, rfl⟩
    have hsz := Hsz.out
    have hone := Hone.out
    rw [hv] at hsz hone ⊢
    go_wp2_with (refine row_store (w.heap.size + 1) 26 _ _ hr 26 _ _ rfl rfl rfl rfl (by rw [hsz]; kernel_rfl) (by rw [hsz]; rfl) hone ?_)
    refine bodyPost_ret (results_cell_slot rfl _ _ (w.heap.size + 1) 26 _ _ rfl (hr.setRow _) Try.underlying26 rfl (by rw [hsz]; kernel_rfl) _ rfl) rfl ?_
    exact ⟨by rw [hv]; rfl, below_setRow hB (by omega) _⟩
end Go.Proofs.Ytdgnbmcckknfiaa
