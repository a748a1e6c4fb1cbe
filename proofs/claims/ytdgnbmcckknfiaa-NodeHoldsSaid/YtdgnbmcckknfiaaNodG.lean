/- The walk of node's get of inodes. Conditions: words of 64 bits. -/
import Derived.Test.YtdgnbmcckknfiaaNodM
import Derived.Test.YtdgnbmcckknfiaaNodC
import Derived.Test.YtdgnbmcckknfiaaNodL
import Derived.Test.YtdgnbmcckknfiaaEqs
namespace Go.Proofs.Ytdgnbmcckknfiaa
open Go.RowKit
set_option linter.unusedSimpArgs false

/-- An inode's words. -/
def inoW (k l t : Int) : List Int := [k + 256 * l, t, 0, 0, 0, 0, 0, 0]
/-- Is a line an inode's? -/
def inoIs (a b c d e f g h : Nat) : Bool := inoOk (inoK a) (inoLk a) (smallI b) && decide (inoW (inoK a) (inoLk a) (smallI b) = [(a : Int), b, c, d, e, f, g, h])
theorem isInode_eq (a b c d e f g h : Nat) : inoIs a b c d e f g h = (inoOk (inoK a) (inoLk a) (smallI b) && decide (inoW (inoK a) (inoLk a) (smallI b) = [(a : Int), b, c, d, e, f, g, h])) := rfl
theorem lineInode_eq (a b c d e f g h : Nat) (k l t : Int) (hok : inoOk k l t = true) (W : World) :
    (Op.equalIn 10000 26 (.agg (inoL k l t)) (.agg (ln8 a b c d e f g h))).run Try.prog W = .ok (decide (inoW k l t = [(a : Int), b, c, d, e, f, g, h])) W := by
  have e1 : inoL k l t = ((inoW k l t).map (Value.int .u64)).toArray := by unfold inoL; rw [hok]; rfl
  have e2 : ln8 (a : Int) b c d e f g h = (([a, b, c, d, e, f, g, h] : List Int).map (Value.int .u64)).toArray := rfl
  rw [e1, e2]
  exact line_eq8 _ _ rfl rfl W

set_option maxHeartbeats 400000 in
theorem clearInode (b : Nat) (old : Array Value) (ho : old.size = 3) (w : World) (hB : Blk w b 35 old) :
    Calls Try.prog 81 #[.pointer (some ⟨b, 0, none⟩)] w fun e w' => e = .returned (.tuple #[]) ∧ Blk w' b 35 #[.int .i64 0, .int .i64 0, .int .i64 0] ∧ Below b w w' ∧ ∀ q, q ≠ b → q < w.heap.size → w'.heap[q]? = w.heap[q]? := by
  have hn := Blk.new w 35 #[.int .i64 0, .int .i64 0, .int .i64 0]
  have hb := hB.alloc (.cells #[.int .i64 0, .int .i64 0, .int .i64 0] 35)
  have hlt := hB.lt
  go_enter Try.func81, Try.ntmps81
  go_wp2_with (first | (refine row_load (w.heap.size) 35 _ hn 35 _ rfl rfl rfl _ Try.underlying35 rfl (by kernel_rfl) ?_) | (refine row_store (b) 35 _ _ hb 35 _ _ rfl rfl rfl rfl (by kernel_rfl) (ho) (by kernel_rfl) ?_))
  go_end0
  exact ⟨rfl, hb.setRow _, below_setRow (((Below.refl _ w).alloc (Nat.le_refl _) _).mono (by omega)) (Nat.le_refl _) _, fun q h1 h2 => (setRow_other _ b q _ h1).trans (Below.heap_alloc w _ q h2)⟩

/-- What a line is told to be. -/
def inoIsV (a b c d e f g h : Nat) : Array Value := if inoIs a b c d e f g h then #[.int .i64 (inoK a), .int .i64 (inoLk a), .int .i64 (smallI b)] else #[.int .i64 0, .int .i64 0, .int .i64 0]
/-- The error beside it. -/
def inoIsE (a b c d e f g h : Nat) : Int := if inoIs a b c d e f g h then 0 else 180
set_option maxRecDepth 100000 in
set_option maxHeartbeats 4000000 in
theorem getInode_any (a b c d e f g h : Nat) (ha : a < 18446744073709551616) (hb : b < 18446744073709551616) (w : World) :
    Calls Try.prog 46 #[.agg #[.func (.func 59) #[] #[], .func (.func 60) #[] #[], .func (.func 63) #[] #[]], .agg (ln8 a b c d e f g h)] w fun r w' => r = .returned (.tuple #[.agg (inoIsV a b c d e f g h), .int .i64 (inoIsE a b c d e f g h)]) ∧ Below w.heap.size w w' := by
  have hmf : ∀ (fn : Fn) (first cap : Array Value) (w : World), (Instr.makeFunc fn first cap).run Try.prog w = .ok (.func fn first cap) w := fun _ _ _ _ => rfl
  have k0 := Blk.new w 84 #[.func (.func 59) #[] #[], .func (.func 60) #[] #[], .func (.func 63) #[] #[]]
  have k1 := Blk.new (w.alloc (.cells #[.func (.func 59) #[] #[], .func (.func 60) #[] #[], .func (.func 63) #[] #[]] 84)) 26 (ln8 a b c d e f g h)
  have k2 := Blk.new ((w.alloc (.cells #[.func (.func 59) #[] #[], .func (.func 60) #[] #[], .func (.func 63) #[] #[]] 84)).alloc (.cells (ln8 a b c d e f g h) 26)) 35 #[.int .i64 0, .int .i64 0, .int .i64 0]
  have k3 := Blk.new (((w.alloc (.cells #[.func (.func 59) #[] #[], .func (.func 60) #[] #[], .func (.func 63) #[] #[]] 84)).alloc (.cells (ln8 a b c d e f g h) 26)).alloc (.cells #[.int .i64 0, .int .i64 0, .int .i64 0] 35)) 27 #[.int .i64 0]
  replace k0 := ((k0.alloc (.cells (ln8 a b c d e f g h) 26)).alloc (.cells #[.int .i64 0, .int .i64 0, .int .i64 0] 35)).alloc (.cells #[.int .i64 0] 27)
  replace k1 := (k1.alloc (.cells #[.int .i64 0, .int .i64 0, .int .i64 0] 35)).alloc (.cells #[.int .i64 0] 27)
  replace k2 := k2.alloc (.cells #[.int .i64 0] 27)
  simp only [World.size_alloc] at k0 k1 k2 k3
  have hB : Below w.heap.size w ((((w.alloc (.cells #[.func (.func 59) #[] #[], .func (.func 60) #[] #[], .func (.func 63) #[] #[]] 84)).alloc (.cells (ln8 a b c d e f g h) 26)).alloc (.cells #[.int .i64 0, .int .i64 0, .int .i64 0] 35)).alloc (.cells #[.int .i64 0] 27)) := ((((Below.refl _ w).alloc (Nat.le_refl _) _).alloc (by simp) _).alloc (by simp; omega) _).alloc (by simp; omega) _
  go_enter_defers Try.func46, Try.ntmps46
  go_wp2_with (refine row_load (w.heap.size + 1) 26 _ k1 26 _ rfl rfl rfl _ Try.underlying26 rfl (by kernel_rfl) ?_)
  refine (inoread_any a b c d e f g h ha hb _).mono ?_
  rintro r w1 ⟨rfl, hb1⟩
  replace k0 := k0.below hb1 k0.lt
  replace k1 := k1.below hb1 k1.lt
  replace k2 := k2.below hb1 k2.lt
  replace k3 := k3.below hb1 k3.lt
  replace hB := hB.trans (hb1.mono hB.size)
  clear hb1
  have hisd := isInode_eq a b c d e f g h
  obtain ⟨kv, hkv⟩ : ∃ v, inoK a = v := ⟨_, rfl⟩
  obtain ⟨lv, hlv⟩ : ∃ v, inoLk a = v := ⟨_, rfl⟩
  obtain ⟨tv, htv⟩ : ∃ v, smallI b = v := ⟨_, rfl⟩
  rw [hkv, hlv, htv] at hisd ⊢
  have q2 := k2.setRow #[.int .i64 kv, .int .i64 lv, .int .i64 tv]
  have q0 := k0.farRow (g' := w.heap.size + 1 + 1) (by omega) #[.int .i64 kv, .int .i64 lv, .int .i64 tv]
  have q1 := k1.farRow (g' := w.heap.size + 1 + 1) (by omega) #[.int .i64 kv, .int .i64 lv, .int .i64 tv]
  have q3 := k3.farRow (g' := w.heap.size + 1 + 1) (by omega) #[.int .i64 kv, .int .i64 lv, .int .i64 tv]
  have qB := below_setRow hB (g := w.heap.size + 1 + 1) (by omega) #[.int .i64 kv, .int .i64 lv, .int .i64 tv]
  go_wp2_with (first | (refine row_store (w.heap.size + 1 + 1) 35 _ _ k2 35 _ _ rfl rfl rfl rfl (by kernel_rfl) (rfl) (by kernel_rfl) ?_) | (refine row_load (w.heap.size) 84 _ q0 84 _ rfl rfl rfl _ Try.underlying84 rfl (by kernel_rfl) ?_) | (refine row_load (w.heap.size + 1 + 1) 35 _ q2 35 _ rfl rfl rfl _ Try.underlying35 rfl (by kernel_rfl) ?_))
  refine (putInode_any kv lv tv _).mono ?_
  rintro r w2 ⟨rfl, hb2⟩
  replace q1 := q1.below hb2 q1.lt
  replace q2 := q2.below hb2 q2.lt
  replace q3 := q3.below hb2 q3.lt
  replace qB := qB.trans (hb2.mono qB.size)
  clear hb2 k0 k1 k2 k3 hB q0
  have Hsz : Hid ((inoL kv lv tv).size = 8) := Lib.hid (by unfold inoL; split <;> rfl)
  have Hone : Hid ((inoL kv lv tv).all (·.oneCell') = true) := Lib.hid (by unfold inoL; split <;> kernel_rfl)
  have hsz := Hsz.out
  have hone := Hone.out
  have n2 := Blk.new w2 26 #[.int .u64 0, .int .u64 0, .int .u64 0, .int .u64 0, .int .u64 0, .int .u64 0, .int .u64 0, .int .u64 0]
  have l3 := q3.lt
  have r3 := (q3.alloc (.cells #[.int .u64 0, .int .u64 0, .int .u64 0, .int .u64 0, .int .u64 0, .int .u64 0, .int .u64 0, .int .u64 0] 26)).farRow (g' := w2.heap.size) (by omega) (inoL kv lv tv)
  have c3 := r3.cell 0
  have f3 := r3.frozen 0
  simp only [List.getElem?_toArray, List.getElem?_cons_zero] at c3
  cases hok : inoOk kv lv tv
  · have he : inoE kv lv tv = 2 := by unfold inoE; rw [hok]; rfl
    have his : Hid (inoIs a b c d e f g h = false) := Lib.hid (by rw [hisd, hok]; rfl)
    rw [he]
    go_wp2_with (refine row_store w2.heap.size 26 _ _ n2 26 _ _ rfl rfl rfl rfl (by rw [hsz]; kernel_rfl) (by rw [hsz]; rfl) hone ?_)
    refine (must_not 180 _).mono ?_
    rintro r w3 ⟨rfl, rfl⟩
    have m3 := r3.set_ 0 (.int .i64 2)
    have m2 := ((q2.alloc (.cells #[.int .u64 0, .int .u64 0, .int .u64 0, .int .u64 0, .int .u64 0, .int .u64 0, .int .u64 0, .int .u64 0] 26)).farRow (g' := w2.heap.size) (by omega) (inoL kv lv tv)).far (p := ⟨w.heap.size + 1 + 1 + 1, 0, none⟩) (by simp) (.int .i64 2)
    refine leaves_cons (f := 80) (args := #[.pointer (some ⟨w.heap.size + 1 + 1 + 1, 0, none⟩), .func (.func 81) #[] #[.pointer (some ⟨w.heap.size + 1 + 1, 0, none⟩)]]) (by simp) (by simp [go_sem]) ?_
    have e3 := m3.cell 0
    have e4 := m3.frozen 0
    simp at e3
    have m4 := m3.set_ 0 (.int .i64 180)
    have m5 := m2.far (p := ⟨w.heap.size + 1 + 1 + 1, 0, none⟩) (by simp) (.int .i64 180)
    have mB := ((((below_setRow (qB.alloc qB.size (.cells #[.int .u64 0, .int .u64 0, .int .u64 0, .int .u64 0, .int .u64 0, .int .u64 0, .int .u64 0, .int .u64 0] 26)) (g := w2.heap.size) qB.size (inoL kv lv tv)).setCell (p := ⟨w.heap.size + 1 + 1 + 1, 0, none⟩) (show w.heap.size ≤ w.heap.size + 1 + 1 + 1 by omega) (.int .i64 2)).setCell (p := ⟨w.heap.size + 1 + 1 + 1, 0, none⟩) (show w.heap.size ≤ w.heap.size + 1 + 1 + 1 by omega) (.int .i64 180)))
    generalize hM : (((w2.alloc (.cells #[.int .u64 0, .int .u64 0, .int .u64 0, .int .u64 0, .int .u64 0, .int .u64 0, .int .u64 0, .int .u64 0] 26)).setRow w2.heap.size (inoL kv lv tv)).setCell ⟨w.heap.size + 1 + 1 + 1, 0, none⟩ (.int .i64 2)) = M at *
    have l4 := m4.lt
    refine (caught_panic ⟨w.heap.size + 1 + 1 + 1, 0, none⟩ 2 180 81 #[.pointer (some ⟨w.heap.size + 1 + 1, 0, none⟩)] M (fun w' => Blk w' (w.heap.size + 1 + 1) 35 #[.int .i64 0, .int .i64 0, .int .i64 0] ∧ Blk w' (w.heap.size + 1 + 1 + 1) 27 #[.int .i64 180] ∧ Below w.heap.size w w') e3 e4 (fun W => by kernel_rfl) ((clearInode _ _ rfl _ m5).mono ?_)).mono ?_
    · rintro r w4 ⟨rfl, h1, h2, h3⟩
      exact ⟨rfl, h1, (h3 _ (by omega) l4).trans m4, mB.trans (h2.mono (by omega))⟩
    · rintro r u' w4 ⟨rfl, rfl, h1, h2, h3⟩
      have e5 := h2.cell 0
      simp at e5
      exact leaves_settled (results_cell_cell rfl _ _ (w.heap.size + 1 + 1) 35 _ _ rfl h1 Try.underlying35 rfl (by kernel_rfl) ⟨w.heap.size + 1 + 1 + 1, 0, none⟩ _ rfl (load_int1 Try.underlying27 e5)) ⟨by unfold inoIsV inoIsE; rw [his.out]; rfl, h3⟩
  · have he : inoE kv lv tv = 0 := by unfold inoE; rw [hok]; rfl
    rw [hok, Bool.true_and] at hisd
    rw [he]
    have n3 := (n2.setRow (inoL kv lv tv)).far (p := ⟨w.heap.size + 1 + 1 + 1, 0, none⟩) (by simp; omega) (.int .i64 0)
    have p1 := ((q1.alloc (.cells #[.int .u64 0, .int .u64 0, .int .u64 0, .int .u64 0, .int .u64 0, .int .u64 0, .int .u64 0, .int .u64 0] 26)).farRow (g' := w2.heap.size) (by have := q1.lt; omega) (inoL kv lv tv)).far (p := ⟨w.heap.size + 1 + 1 + 1, 0, none⟩) (by simp) (.int .i64 0)
    have heq : ∀ W : World, (Op.equalIn 10000 26 (.agg (inoL kv lv tv)) (.agg (ln8 a b c d e f g h))).run Try.prog W = .ok (inoIs a b c d e f g h) W := fun W => by
      rw [hisd]
      exact (lineInode_eq a b c d e f g h kv lv tv hok W)
    cases his0 : inoIs a b c d e f g h
    · have his := Lib.hid his0
      rw [his0] at heq
      clear his0
      go_wp2_with (first | (refine row_store w2.heap.size 26 _ _ n2 26 _ _ rfl rfl rfl rfl (by rw [hsz]; kernel_rfl) (by rw [hsz]; rfl) hone ?_) | (refine row_load_w (w2.heap.size) 26 _ n3 26 _ rfl rfl rfl _ Try.underlying26 rfl (by rw [hsz]; kernel_rfl) ?_) | (refine row_load_w (w.heap.size + 1) 26 _ p1 26 _ rfl rfl rfl _ Try.underlying26 rfl (by kernel_rfl) ?_))
      refine (must_not 180 _).mono ?_
      rintro r w3 ⟨rfl, rfl⟩
      have m3 := r3.set_ 0 (.int .i64 0)
      have m2 := ((q2.alloc (.cells #[.int .u64 0, .int .u64 0, .int .u64 0, .int .u64 0, .int .u64 0, .int .u64 0, .int .u64 0, .int .u64 0] 26)).farRow (g' := w2.heap.size) (by omega) (inoL kv lv tv)).far (p := ⟨w.heap.size + 1 + 1 + 1, 0, none⟩) (by simp) (.int .i64 0)
      refine leaves_cons (f := 80) (args := #[.pointer (some ⟨w.heap.size + 1 + 1 + 1, 0, none⟩), .func (.func 81) #[] #[.pointer (some ⟨w.heap.size + 1 + 1, 0, none⟩)]]) (by simp) (by simp [go_sem]) ?_
      have e3 := m3.cell 0
      have e4 := m3.frozen 0
      simp at e3
      have m4 := m3.set_ 0 (.int .i64 180)
      have m5 := m2.far (p := ⟨w.heap.size + 1 + 1 + 1, 0, none⟩) (by simp) (.int .i64 180)
      have mB := ((((below_setRow (qB.alloc qB.size (.cells #[.int .u64 0, .int .u64 0, .int .u64 0, .int .u64 0, .int .u64 0, .int .u64 0, .int .u64 0, .int .u64 0] 26)) (g := w2.heap.size) qB.size (inoL kv lv tv)).setCell (p := ⟨w.heap.size + 1 + 1 + 1, 0, none⟩) (show w.heap.size ≤ w.heap.size + 1 + 1 + 1 by omega) (.int .i64 0)).setCell (p := ⟨w.heap.size + 1 + 1 + 1, 0, none⟩) (show w.heap.size ≤ w.heap.size + 1 + 1 + 1 by omega) (.int .i64 180)))
      generalize hM : (((w2.alloc (.cells #[.int .u64 0, .int .u64 0, .int .u64 0, .int .u64 0, .int .u64 0, .int .u64 0, .int .u64 0, .int .u64 0] 26)).setRow w2.heap.size (inoL kv lv tv)).setCell ⟨w.heap.size + 1 + 1 + 1, 0, none⟩ (.int .i64 0)) = M at *
      have l4 := m4.lt
      refine (caught_panic ⟨w.heap.size + 1 + 1 + 1, 0, none⟩ 0 180 81 #[.pointer (some ⟨w.heap.size + 1 + 1, 0, none⟩)] M (fun w' => Blk w' (w.heap.size + 1 + 1) 35 #[.int .i64 0, .int .i64 0, .int .i64 0] ∧ Blk w' (w.heap.size + 1 + 1 + 1) 27 #[.int .i64 180] ∧ Below w.heap.size w w') e3 e4 (fun W => by kernel_rfl) ((clearInode _ _ rfl _ m5).mono ?_)).mono ?_
      · rintro r w4 ⟨rfl, h1, h2, h3⟩
        exact ⟨rfl, h1, (h3 _ (by omega) l4).trans m4, mB.trans (h2.mono (by omega))⟩
      · rintro r u' w4 ⟨rfl, rfl, h1, h2, h3⟩
        have e5 := h2.cell 0
        simp at e5
        exact leaves_settled (results_cell_cell rfl _ _ (w.heap.size + 1 + 1) 35 _ _ rfl h1 Try.underlying35 rfl (by kernel_rfl) ⟨w.heap.size + 1 + 1 + 1, 0, none⟩ _ rfl (load_int1 Try.underlying27 e5)) ⟨by unfold inoIsV inoIsE; rw [his.out]; rfl, h3⟩
    · have his := Lib.hid his0
      rw [his0] at heq
      clear his0
      go_wp2_with (first | (refine row_store w2.heap.size 26 _ _ n2 26 _ _ rfl rfl rfl rfl (by rw [hsz]; kernel_rfl) (by rw [hsz]; rfl) hone ?_) | (refine row_load_w (w2.heap.size) 26 _ n3 26 _ rfl rfl rfl _ Try.underlying26 rfl (by rw [hsz]; kernel_rfl) ?_) | (refine row_load_w (w.heap.size + 1) 26 _ p1 26 _ rfl rfl rfl _ Try.underlying26 rfl (by kernel_rfl) ?_))
      refine (must_ok 180 _).mono ?_
      rintro r w3 ⟨rfl, rfl⟩
      have m3 := r3.set_ 0 (.int .i64 0)
      have m2 := ((q2.alloc (.cells #[.int .u64 0, .int .u64 0, .int .u64 0, .int .u64 0, .int .u64 0, .int .u64 0, .int .u64 0, .int .u64 0] 26)).farRow (g' := w2.heap.size) (by omega) (inoL kv lv tv)).far (p := ⟨w.heap.size + 1 + 1 + 1, 0, none⟩) (by simp) (.int .i64 0)
      have mB := ((below_setRow (qB.alloc qB.size (.cells #[.int .u64 0, .int .u64 0, .int .u64 0, .int .u64 0, .int .u64 0, .int .u64 0, .int .u64 0, .int .u64 0] 26)) (g := w2.heap.size) qB.size (inoL kv lv tv)).setCell (p := ⟨w.heap.size + 1 + 1 + 1, 0, none⟩) (show w.heap.size ≤ w.heap.size + 1 + 1 + 1 by omega) (.int .i64 0))
      generalize hM : (((w2.alloc (.cells #[.int .u64 0, .int .u64 0, .int .u64 0, .int .u64 0, .int .u64 0, .int .u64 0, .int .u64 0, .int .u64 0] 26)).setRow w2.heap.size (inoL kv lv tv)).setCell ⟨w.heap.size + 1 + 1 + 1, 0, none⟩ (.int .i64 0)) = M at *
      have z2 := m2.setRow #[.int .i64 kv, .int .i64 lv, .int .i64 tv]
      have z3 := m3.farRow (g' := w.heap.size + 1 + 1) (by omega) #[.int .i64 kv, .int .i64 lv, .int .i64 tv]
      have c4 := z3.cell 0
      have f4 := z3.frozen 0
      simp at c4
      go_wp2_with (first | (refine row_load (w.heap.size + 1 + 1) 35 _ m2 35 _ rfl rfl rfl _ Try.underlying35 rfl (by kernel_rfl) ?_) | (refine row_store (w.heap.size + 1 + 1) 35 _ _ m2 35 _ _ rfl rfl rfl rfl (by kernel_rfl) (rfl) (by kernel_rfl) ?_))
      have z4 := z3.set_ 0 (.int .i64 0)
      have z5 := z2.far (p := ⟨w.heap.size + 1 + 1 + 1, 0, none⟩) (by simp) (.int .i64 0)
      have zB := (below_setRow mB (g := w.heap.size + 1 + 1) (by omega) #[.int .i64 kv, .int .i64 lv, .int .i64 tv]).setCell (p := ⟨w.heap.size + 1 + 1 + 1, 0, none⟩) (show w.heap.size ≤ w.heap.size + 1 + 1 + 1 by omega) (.int .i64 0)
      refine leaves_cons (f := 80) (args := #[.pointer (some ⟨w.heap.size + 1 + 1 + 1, 0, none⟩), .func (.func 81) #[] #[.pointer (some ⟨w.heap.size + 1 + 1, 0, none⟩)]]) (by simp) (by simp [go_sem]) ?_
      refine (caught_idle ⟨w.heap.size + 1 + 1 + 1, 0, none⟩ _ _).mono ?_
      rintro r u' w4 ⟨rfl, rfl, rfl⟩
      have e5 := z4.cell 0
      simp at e5
      exact leaves_done (results_cell_cell rfl _ _ (w.heap.size + 1 + 1) 35 _ _ rfl z5 Try.underlying35 rfl (by kernel_rfl) ⟨w.heap.size + 1 + 1 + 1, 0, none⟩ _ rfl (load_int1 Try.underlying27 e5)) ⟨by unfold inoIsV inoIsE; rw [his.out]; simp only [hkv, hlv, htv]; rfl, zB⟩

theorem inoIsV_size (a b c d e f g h : Nat) : (inoIsV a b c d e f g h).size = 3 := by unfold inoIsV; split <;> rfl
theorem inoIsV_one (a b c d e f g h : Nat) : (inoIsV a b c d e f g h).all (·.oneCell') = true := by unfold inoIsV; split <;> kernel_rfl
set_option maxRecDepth 100000 in
set_option maxHeartbeats 2000000 in
theorem GetInode_any (a b c d e f g h : Nat) (ha : a < 18446744073709551616) (hb : b < 18446744073709551616) (w : World) :
    Calls Try.prog 28 #[.agg (ln8 a b c d e f g h)] w fun r w' => r = .returned (.tuple #[.agg (inoIsV a b c d e f g h), .int .i64 (inoIsE a b c d e f g h)]) ∧ Below w.heap.size w w' := by
  have hord : Try.prog.follows .mixedOrders = true := by kernel_rfl
  have hx := (Blk.new w 26 (ln8 a b c d e f g h)).alloc (.cells #[.int .i64 0, .int .i64 0, .int .i64 0] 35)
  have hr := Blk.new (w.alloc (.cells (ln8 a b c d e f g h) 26)) 35 #[.int .i64 0, .int .i64 0, .int .i64 0]
  have hB := ((Below.refl _ w).alloc (Nat.le_refl _) (.cells (ln8 a b c d e f g h) 26)).alloc (by simp) (.cells #[.int .i64 0, .int .i64 0, .int .i64 0] 35)
  simp only [World.size_alloc] at hr
  have Hsz := Lib.hid (inoIsV_size a b c d e f g h)
  have Hone := Lib.hid (inoIsV_one a b c d e f g h)
  go_enter Try.func28, Try.ntmps28
  go_wp2_with fail
  refine draw_orders0 [[0, 1, 2, 3, 4, 5, 6], [1, 0, 2, 3, 4, 5, 6], [0, 1, 2, 4, 3, 5, 6], [1, 0, 2, 4, 3, 5, 6]] hord (by kernel_rfl) ?_
  intro o ho
  simp only [List.mem_cons, List.not_mem_nil, or_false] at ho
  rcases ho with rfl | rfl | rfl | rfl
  all_goals refine ⟨_, ⟨_, _, rfl, rfl, _, _, rfl, rfl, _, _, rfl, rfl, _, _, rfl, rfl, _, _, rfl, rfl, _, _, rfl, rfl, _, _, rfl, rfl, rfl⟩, ?_⟩
  all_goals simp only [List.getElem_toArray, List.getElem_cons_zero, List.getElem_cons_succ]
  all_goals
    replace hx := hx.drew
    replace hr := hr.drew
    replace hB := hB.drew
    go_wp2_with (refine row_load (w.heap.size) 26 _ hx 26 _ rfl rfl rfl _ Try.underlying26 rfl (by kernel_rfl) ?_)
    refine (inodes_any _).mono ?_
    rintro r w1 ⟨rfl, hb⟩
    replace hx := hx.below hb hx.lt
    replace hr := hr.below hb hr.lt
    replace hB := hB.trans (hb.mono hB.size)
    clear hb
    go_wp2_with (refine row_load (w.heap.size) 26 _ hx 26 _ rfl rfl rfl _ Try.underlying26 rfl (by kernel_rfl) ?_)
    refine (getInode_any a b c d e f g h ha hb _).mono ?_
    rintro r w2 ⟨rfl, hb⟩
    replace hr := hr.below hb hr.lt
    replace hB := hB.trans (hb.mono hB.size)
    clear hb
    obtain ⟨v, hv⟩ : ∃ v, inoIsV a b c d e f g h = v := ⟨_, rfl⟩
    have hsz := Hsz.out
    have hone := Hone.out
    rw [hv] at hsz hone ⊢
    go_wp2_with (refine row_store (w.heap.size + 1) 35 _ _ hr 35 _ _ rfl rfl rfl rfl (by rw [hsz]; kernel_rfl) (by rw [hsz]; rfl) hone ?_)
    refine bodyPost_ret (results_cell_slot rfl _ _ (w.heap.size + 1) 35 _ _ rfl (hr.setRow _) Try.underlying35 rfl (by rw [hsz]; kernel_rfl) _ rfl) rfl ?_
    exact ⟨by rw [hv]; rfl, below_setRow hB (by omega) _⟩
end Go.Proofs.Ytdgnbmcckknfiaa
