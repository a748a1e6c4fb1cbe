/- The walks of node's get of entries. Conditions: words of 64 bits. -/
import Derived.Test.YtdgnbmcckknfiaaNodC
import Derived.Test.YtdgnbmcckknfiaaEntA
namespace Go.Proofs.Ytdgnbmcckknfiaa
open Go.RowKit
set_option linter.unusedSimpArgs false

set_option maxRecDepth 100000 in
set_option maxHeartbeats 4000000 in
theorem entread_any (a b c d e f g h : Nat) (ha : a < 18446744073709551616) (hb : b < 18446744073709551616) (hc : c < 18446744073709551616) (hd : d < 18446744073709551616) (he : e < 18446744073709551616) (hf : f < 18446744073709551616) (hg : g < 18446744073709551616) (hh : h < 18446744073709551616) (w : World) :
    Calls Try.prog 56 #[.agg (ln8 a b c d e f g h)] w fun r w' => r = .returned (.agg #[.int .i64 (smallI a), .int .i64 (smallI b), .string (rdS [d, e, f, g, h] (smallI c))]) ∧ Below w.heap.size w w' := by
  have hl := (Blk.new w 113 (ln8 a b c d e f g h)).alloc (.cells #[.int .i64 0, .int .i64 0, .string ⟨#[]⟩] 23)
  have hr := Blk.new (w.alloc (.cells (ln8 a b c d e f g h) 113)) 23 #[.int .i64 0, .int .i64 0, .string ⟨#[]⟩]
  have hB := ((Below.refl _ w).alloc (Nat.le_refl _) (.cells (ln8 a b c d e f g h) 113)).alloc (by simp) (.cells #[.int .i64 0, .int .i64 0, .string ⟨#[]⟩] 23)
  simp only [World.size_alloc] at hr
  obtain ⟨S, hS⟩ : ∃ S, (rdS [d, e, f, g, h] (smallI c)) = S := ⟨_, rfl⟩
  have HRd := Lib.hid (fun W => lread_any d e f g h (by intro x hx; simp only [List.mem_cons, List.not_mem_nil, or_false] at hx; rcases hx with rfl | rfl | rfl | rfl | rfl <;> assumption) (smallI c) W)
  rw [hS] at HRd ⊢
  obtain ⟨E, hE⟩ : ∃ E, rdE [d, e, f, g, h] (smallI c) = E := ⟨_, rfl⟩
  rw [hE] at HRd
  obtain ⟨cv, hcv⟩ : ∃ cv, smallI c = cv := ⟨_, rfl⟩
  have Hsm := Lib.hid (fun W => small_any c W hc)
  rw [hcv] at HRd Hsm
  clear hS hE hcv
  have harr : ∀ W : World, (Instr.arrayAt 94 (.slice (some ⟨w.heap.size, 3, none⟩) 5 5)).run Try.prog W = .ok (.pointer (some ⟨w.heap.size, 3, none⟩)) W := fun W => by kernel_rfl
  go_enter Try.func56, Try.ntmps56
  go_wp2_with fail
  generalize hX : (w.alloc (.cells (ln8 a b c d e f g h) 113)).alloc (.cells #[.int .i64 0, .int .i64 0, .string ⟨#[]⟩] 23) = Z at *
  clear hX
  have k2 := hl.cell 2; have k3 := hl.cell 3; have k4 := hl.cell 4; have k5 := hl.cell 5; have k6 := hl.cell 6; have k7 := hl.cell 7
  simp [ln8] at k2 k3 k4 k5 k6 k7
  go_region_held3 (fun w' => w'.cell? ⟨w.heap.size, 2, none⟩ = some (.int .u64 c) ∧ w'.cell? ⟨w.heap.size, 3, none⟩ = some (.int .u64 d) ∧ w'.cell? ⟨w.heap.size, 4, none⟩ = some (.int .u64 e) ∧ w'.cell? ⟨w.heap.size, 5, none⟩ = some (.int .u64 f) ∧ w'.cell? ⟨w.heap.size, 6, none⟩ = some (.int .u64 g) ∧ w'.cell? ⟨w.heap.size, 7, none⟩ = some (.int .u64 h))
    (first | go_keep | exact ⟨k2, k3, k4, k5, k6, k7⟩)
    (first
      | (go_at_call 57; have hh := hq; refine (HRd.out _).mono ?_; rintro r w6 ⟨rfl, hb3⟩; have hq2 : Below Z.heap.size Z w6 := (by exact hq.trans (hb3.mono hq.size)); have k2 := (hl.below hq2 hl.lt).cell 2; have k3 := (hl.below hq2 hl.lt).cell 3; have k4 := (hl.below hq2 hl.lt).cell 4; have k5 := (hl.below hq2 hl.lt).cell 5; have k6 := (hl.below hq2 hl.lt).cell 6; have k7 := (hl.below hq2 hl.lt).cell 7; simp [ln8] at k2 k3 k4 k5 k6 k7)
      | (go_at_call 58; refine (Hsm.out _).mono ?_; rintro r w5 ⟨rfl, hb2⟩; have hq : Below Z.heap.size Z w5 := (by first | exact hb2 | exact ((Below.refl _ Z).drew).trans hb2); have k2 := (hl.below hq hl.lt).cell 2; have k3 := (hl.below hq hl.lt).cell 3; have k4 := (hl.below hq hl.lt).cell 4; have k5 := (hl.below hq hl.lt).cell 5; have k6 := (hl.below hq hl.lt).cell 6; have k7 := (hl.below hq hl.lt).cell 7; simp [ln8] at k2 k3 k4 k5 k6 k7))
  all_goals
    replace hl := hl.below hq2 hl.lt
    replace hr := hr.below hq2 hr.lt
    replace hB := hB.trans (hq2.mono hB.size)
    clear hq hb2 hb3 hq2 k2 k3 k4 k5 k6 k7 harr
    go_wp2_with fail
    generalize w6 = Z2 at *
    have k0 := hl.cell 0
    have k1 := hl.cell 1
    simp [ln8] at k0 k1
    have e0 := hr.cell 0
    have e1 := hr.cell 1
    have e2 := hr.cell 2
    have f0 := hr.frozen 0
    have f1 := hr.frozen 1
    have f2 := hr.frozen 2
    simp at e0 e1 e2
    have HR := Lib.hid hr
    have HB := Lib.hid hB
    clear hB hr
    go_region_held3 (fun w' => w'.cell? ⟨w.heap.size, 0, none⟩ = some (.int .u64 a) ∧ w'.cell? ⟨w.heap.size, 1, none⟩ = some (.int .u64 b))
      (first | go_keep | exact ⟨k0, k1⟩)
      (first
        | (go_at_call 58; have hh := hq; refine (small_any b _ hb).mono ?_; rintro r w8 ⟨rfl, hb3⟩; have hq2 : Below Z2.heap.size Z2 w8 := (by exact hq.trans (hb3.mono hq.size)); have k0 := (hl.below hq2 hl.lt).cell 0; have k1 := (hl.below hq2 hl.lt).cell 1; have e0 := (HR.out.below hq2 HR.out.lt).cell 0; have e1 := (HR.out.below hq2 HR.out.lt).cell 1; have e2 := (HR.out.below hq2 HR.out.lt).cell 2; have f0 := (HR.out.below hq2 HR.out.lt).frozen 0; have f1 := (HR.out.below hq2 HR.out.lt).frozen 1; have f2 := (HR.out.below hq2 HR.out.lt).frozen 2; simp [ln8] at k0 k1 e0 e1 e2)
        | (go_at_call 58; refine (small_any a _ ha).mono ?_; rintro r w7 ⟨rfl, hb2⟩; have hq : Below Z2.heap.size Z2 w7 := (by first | exact hb2 | exact ((Below.refl _ Z2).drew).trans hb2); have k0 := (hl.below hq hl.lt).cell 0; have k1 := (hl.below hq hl.lt).cell 1; have e0 := (HR.out.below hq HR.out.lt).cell 0; have e1 := (HR.out.below hq HR.out.lt).cell 1; have e2 := (HR.out.below hq HR.out.lt).cell 2; have f0 := (HR.out.below hq HR.out.lt).frozen 0; have f1 := (HR.out.below hq HR.out.lt).frozen 1; have f2 := (HR.out.below hq HR.out.lt).frozen 2; simp [ln8] at k0 k1 e0 e1 e2))
    all_goals
      have h6 := (((HR.out.below hq2 HR.out.lt).set_ 0 (.int .i64 (smallI a))).set_ 1 (.int .i64 (smallI b))).set_ 2 (.string S)
      simp at h6
      have hB6 := ((((HB.out.trans (hq2.mono HB.out.size)).setCell (p := ⟨w.heap.size + 1, 0, none⟩) (by simp) (.int .i64 (smallI a))).setCell (p := ⟨w.heap.size + 1, 1, none⟩) (by simp) (.int .i64 (smallI b))).setCell (p := ⟨w.heap.size + 1, 2, none⟩) (by simp) (.string S))
      go_wp2
      refine bodyPost_ret (results_cell1 rfl _ _ (w.heap.size + 1) 23 _ _ rfl h6 Try.underlying23 rfl (by kernel_rfl)) rfl ?_
      exact ⟨rfl, hB6⟩
theorem entW_len (n m : Int) (s : ByteArray) : (entW n m s).length = 8 := by
  rw [entW, List.length_append, List.length_map, lw_len]; rfl
/-- Is a line an entry? -/
def entIs (a b c d e f g h : Nat) : Bool := entOk (smallI a) (smallI b) (rdS [d, e, f, g, h] (smallI c)) && decide (entW (smallI a) (smallI b) (rdS [d, e, f, g, h] (smallI c)) = [(a : Int), b, c, d, e, f, g, h])
theorem isEntry_eq (a b c d e f g h : Nat) : entIs a b c d e f g h = (entOk (smallI a) (smallI b) (rdS [d, e, f, g, h] (smallI c)) && decide (entW (smallI a) (smallI b) (rdS [d, e, f, g, h] (smallI c)) = [(a : Int), b, c, d, e, f, g, h])) := rfl
theorem lineEntry_eq (a b c d e f g h : Nat) (n m : Int) (s : ByteArray) (hok : entOk n m s = true) (W : World) :
    (Op.equalIn 10000 26 (.agg (entL n m s)) (.agg (ln8 a b c d e f g h))).run Try.prog W = .ok (decide (entW n m s = [(a : Int), b, c, d, e, f, g, h])) W := by
  have e1 : entL n m s = ((entW n m s).map (Value.int .u64)).toArray := by unfold entL; rw [hok]; rfl
  have e2 : ln8 (a : Int) b c d e f g h = (([a, b, c, d, e, f, g, h] : List Int).map (Value.int .u64)).toArray := rfl
  rw [e1, e2]
  exact line_eq8 _ _ (entW_len n m s) rfl W

set_option maxHeartbeats 400000 in
theorem clearEntry (b : Nat) (old : Array Value) (ho : old.size = 3) (w : World) (hB : Blk w b 23 old) :
    Calls Try.prog 84 #[.pointer (some ⟨b, 0, none⟩)] w fun e w' => e = .returned (.tuple #[]) ∧ Blk w' b 23 #[.int .i64 0, .int .i64 0, .string ⟨#[]⟩] ∧ Below b w w' ∧ ∀ q, q ≠ b → q < w.heap.size → w'.heap[q]? = w.heap[q]? := by
  have hn := Blk.new w 23 #[.int .i64 0, .int .i64 0, .string ⟨#[]⟩]
  have hb := hB.alloc (.cells #[.int .i64 0, .int .i64 0, .string ⟨#[]⟩] 23)
  have hlt := hB.lt
  go_enter Try.func84, Try.ntmps84
  go_wp2_with (first | (refine row_load (w.heap.size) 23 _ hn 23 _ rfl rfl rfl _ Try.underlying23 rfl (by kernel_rfl) ?_) | (refine row_store (b) 23 _ _ hb 23 _ _ rfl rfl rfl rfl (by kernel_rfl) (ho) (by kernel_rfl) ?_))
  go_end0
  exact ⟨rfl, hb.setRow _, below_setRow (((Below.refl _ w).alloc (Nat.le_refl _) _).mono (by omega)) (Nat.le_refl _) _, fun q h1 h2 => (setRow_other _ b q _ h1).trans (Below.heap_alloc w _ q h2)⟩

/-- What a line is told to be. -/
def entIsV (a b c d e f g h : Nat) : Array Value := if entIs a b c d e f g h then #[.int .i64 (smallI a), .int .i64 (smallI b), .string (rdS [d, e, f, g, h] (smallI c))] else #[.int .i64 0, .int .i64 0, .string ⟨#[]⟩]
/-- The error beside it. -/
def entIsE (a b c d e f g h : Nat) : Int := if entIs a b c d e f g h then 0 else 180
set_option maxRecDepth 100000 in
set_option maxHeartbeats 4000000 in
theorem getEntry_any (a b c d e f g h : Nat) (ha : a < 18446744073709551616) (hb : b < 18446744073709551616) (hc : c < 18446744073709551616) (hd : d < 18446744073709551616) (he : e < 18446744073709551616) (hf : f < 18446744073709551616) (hg : g < 18446744073709551616) (hh : h < 18446744073709551616) (w : World) :
    Calls Try.prog 48 #[.agg #[.func (.func 51) #[] #[], .func (.func 54) #[] #[], .func (.func 56) #[] #[]], .agg (ln8 a b c d e f g h)] w fun r w' => r = .returned (.tuple #[.agg (entIsV a b c d e f g h), .int .i64 (entIsE a b c d e f g h)]) ∧ Below w.heap.size w w' := by
  have hmf : ∀ (fn : Fn) (first cap : Array Value) (w : World), (Instr.makeFunc fn first cap).run Try.prog w = .ok (.func fn first cap) w := fun _ _ _ _ => rfl
  have k0 := Blk.new w 78 #[.func (.func 51) #[] #[], .func (.func 54) #[] #[], .func (.func 56) #[] #[]]
  have k1 := Blk.new (w.alloc (.cells #[.func (.func 51) #[] #[], .func (.func 54) #[] #[], .func (.func 56) #[] #[]] 78)) 26 (ln8 a b c d e f g h)
  have k2 := Blk.new ((w.alloc (.cells #[.func (.func 51) #[] #[], .func (.func 54) #[] #[], .func (.func 56) #[] #[]] 78)).alloc (.cells (ln8 a b c d e f g h) 26)) 23 #[.int .i64 0, .int .i64 0, .string ⟨#[]⟩]
  have k3 := Blk.new (((w.alloc (.cells #[.func (.func 51) #[] #[], .func (.func 54) #[] #[], .func (.func 56) #[] #[]] 78)).alloc (.cells (ln8 a b c d e f g h) 26)).alloc (.cells #[.int .i64 0, .int .i64 0, .string ⟨#[]⟩] 23)) 27 #[.int .i64 0]
  replace k0 := ((k0.alloc (.cells (ln8 a b c d e f g h) 26)).alloc (.cells #[.int .i64 0, .int .i64 0, .string ⟨#[]⟩] 23)).alloc (.cells #[.int .i64 0] 27)
  replace k1 := (k1.alloc (.cells #[.int .i64 0, .int .i64 0, .string ⟨#[]⟩] 23)).alloc (.cells #[.int .i64 0] 27)
  replace k2 := k2.alloc (.cells #[.int .i64 0] 27)
  simp only [World.size_alloc] at k0 k1 k2 k3
  have hB : Below w.heap.size w ((((w.alloc (.cells #[.func (.func 51) #[] #[], .func (.func 54) #[] #[], .func (.func 56) #[] #[]] 78)).alloc (.cells (ln8 a b c d e f g h) 26)).alloc (.cells #[.int .i64 0, .int .i64 0, .string ⟨#[]⟩] 23)).alloc (.cells #[.int .i64 0] 27)) := ((((Below.refl _ w).alloc (Nat.le_refl _) _).alloc (by simp) _).alloc (by simp; omega) _).alloc (by simp; omega) _
  go_enter_defers Try.func48, Try.ntmps48
  go_wp2_with (refine row_load (w.heap.size + 1) 26 _ k1 26 _ rfl rfl rfl _ Try.underlying26 rfl (by kernel_rfl) ?_)
  refine (entread_any a b c d e f g h ha hb hc hd he hf hg hh _).mono ?_
  rintro r w1 ⟨rfl, hb1⟩
  replace k0 := k0.below hb1 k0.lt
  replace k1 := k1.below hb1 k1.lt
  replace k2 := k2.below hb1 k2.lt
  replace k3 := k3.below hb1 k3.lt
  replace hB := hB.trans (hb1.mono hB.size)
  clear hb1
  have hisd := isEntry_eq a b c d e f g h
  obtain ⟨nv, hnv⟩ : ∃ v, smallI a = v := ⟨_, rfl⟩
  obtain ⟨mv, hmv⟩ : ∃ v, smallI b = v := ⟨_, rfl⟩
  obtain ⟨sv, hsv⟩ : ∃ v, rdS [d, e, f, g, h] (smallI c) = v := ⟨_, rfl⟩
  rw [hnv, hmv, hsv] at hisd ⊢
  have q2 := k2.setRow #[.int .i64 nv, .int .i64 mv, .string sv]
  have q0 := k0.farRow (g' := w.heap.size + 1 + 1) (by omega) #[.int .i64 nv, .int .i64 mv, .string sv]
  have q1 := k1.farRow (g' := w.heap.size + 1 + 1) (by omega) #[.int .i64 nv, .int .i64 mv, .string sv]
  have q3 := k3.farRow (g' := w.heap.size + 1 + 1) (by omega) #[.int .i64 nv, .int .i64 mv, .string sv]
  have qB := below_setRow hB (g := w.heap.size + 1 + 1) (by omega) #[.int .i64 nv, .int .i64 mv, .string sv]
  go_wp2_with (first | (refine row_store (w.heap.size + 1 + 1) 23 _ _ k2 23 _ _ rfl rfl rfl rfl (by kernel_rfl) (rfl) (by kernel_rfl) ?_) | (refine row_load (w.heap.size) 78 _ q0 78 _ rfl rfl rfl _ Try.underlying78 rfl (by kernel_rfl) ?_) | (refine row_load (w.heap.size + 1 + 1) 23 _ q2 23 _ rfl rfl rfl _ Try.underlying23 rfl (by kernel_rfl) ?_))
  refine (putEntry_any nv mv sv _).mono ?_
  rintro r w2 ⟨rfl, hb2⟩
  replace q1 := q1.below hb2 q1.lt
  replace q2 := q2.below hb2 q2.lt
  replace q3 := q3.below hb2 q3.lt
  replace qB := qB.trans (hb2.mono qB.size)
  clear hb2 k0 k1 k2 k3 hB q0
  have Hsz : Hid ((entL nv mv sv).size = 8) := Lib.hid (entL_size nv mv sv)
  have Hone : Hid ((entL nv mv sv).all (·.oneCell') = true) := Lib.hid (entL_one nv mv sv)
  have hsz := Hsz.out
  have hone := Hone.out
  have n2 := Blk.new w2 26 #[.int .u64 0, .int .u64 0, .int .u64 0, .int .u64 0, .int .u64 0, .int .u64 0, .int .u64 0, .int .u64 0]
  have l3 := q3.lt
  have r3 := (q3.alloc (.cells #[.int .u64 0, .int .u64 0, .int .u64 0, .int .u64 0, .int .u64 0, .int .u64 0, .int .u64 0, .int .u64 0] 26)).farRow (g' := w2.heap.size) (by omega) (entL nv mv sv)
  have c3 := r3.cell 0
  have f3 := r3.frozen 0
  simp only [List.getElem?_toArray, List.getElem?_cons_zero] at c3
  cases hok : entOk nv mv sv
  · have he : entE nv mv sv = 2 := by unfold entE; rw [hok]; rfl
    have his : Hid (entIs a b c d e f g h = false) := Lib.hid (by rw [hisd, hok]; rfl)
    rw [he]
    go_wp2_with (refine row_store w2.heap.size 26 _ _ n2 26 _ _ rfl rfl rfl rfl (by rw [hsz]; kernel_rfl) (by rw [hsz]; rfl) hone ?_)
    refine (must_not 180 _).mono ?_
    rintro r w3 ⟨rfl, rfl⟩
    have m3 := r3.set_ 0 (.int .i64 2)
    have m2 := ((q2.alloc (.cells #[.int .u64 0, .int .u64 0, .int .u64 0, .int .u64 0, .int .u64 0, .int .u64 0, .int .u64 0, .int .u64 0] 26)).farRow (g' := w2.heap.size) (by omega) (entL nv mv sv)).far (p := ⟨w.heap.size + 1 + 1 + 1, 0, none⟩) (by simp) (.int .i64 2)
    refine leaves_cons (f := 80) (args := #[.pointer (some ⟨w.heap.size + 1 + 1 + 1, 0, none⟩), .func (.func 84) #[] #[.pointer (some ⟨w.heap.size + 1 + 1, 0, none⟩)]]) (by simp) (by simp [go_sem]) ?_
    have e3 := m3.cell 0
    have e4 := m3.frozen 0
    simp at e3
    have m4 := m3.set_ 0 (.int .i64 180)
    have m5 := m2.far (p := ⟨w.heap.size + 1 + 1 + 1, 0, none⟩) (by simp) (.int .i64 180)
    have mB := ((((below_setRow (qB.alloc qB.size (.cells #[.int .u64 0, .int .u64 0, .int .u64 0, .int .u64 0, .int .u64 0, .int .u64 0, .int .u64 0, .int .u64 0] 26)) (g := w2.heap.size) qB.size (entL nv mv sv)).setCell (p := ⟨w.heap.size + 1 + 1 + 1, 0, none⟩) (show w.heap.size ≤ w.heap.size + 1 + 1 + 1 by omega) (.int .i64 2)).setCell (p := ⟨w.heap.size + 1 + 1 + 1, 0, none⟩) (show w.heap.size ≤ w.heap.size + 1 + 1 + 1 by omega) (.int .i64 180)))
    generalize hM : (((w2.alloc (.cells #[.int .u64 0, .int .u64 0, .int .u64 0, .int .u64 0, .int .u64 0, .int .u64 0, .int .u64 0, .int .u64 0] 26)).setRow w2.heap.size (entL nv mv sv)).setCell ⟨w.heap.size + 1 + 1 + 1, 0, none⟩ (.int .i64 2)) = M at *
    have l4 := m4.lt
    refine (caught_panic ⟨w.heap.size + 1 + 1 + 1, 0, none⟩ 2 180 84 #[.pointer (some ⟨w.heap.size + 1 + 1, 0, none⟩)] M (fun w' => Blk w' (w.heap.size + 1 + 1) 23 #[.int .i64 0, .int .i64 0, .string ⟨#[]⟩] ∧ Blk w' (w.heap.size + 1 + 1 + 1) 27 #[.int .i64 180] ∧ Below w.heap.size w w') e3 e4 (fun W => by kernel_rfl) ((clearEntry _ _ rfl _ m5).mono ?_)).mono ?_
    · rintro r w4 ⟨rfl, h1, h2, h3⟩
      exact ⟨rfl, h1, (h3 _ (by omega) l4).trans m4, mB.trans (h2.mono (by omega))⟩
    · rintro r u' w4 ⟨rfl, rfl, h1, h2, h3⟩
      have e5 := h2.cell 0
      simp at e5
      exact leaves_settled (results_cell_cell rfl _ _ (w.heap.size + 1 + 1) 23 _ _ rfl h1 Try.underlying23 rfl (by kernel_rfl) ⟨w.heap.size + 1 + 1 + 1, 0, none⟩ _ rfl (load_int1 Try.underlying27 e5)) ⟨by unfold entIsV entIsE; rw [his.out]; rfl, h3⟩
  · have he : entE nv mv sv = 0 := by unfold entE; rw [hok]; rfl
    rw [hok, Bool.true_and] at hisd
    rw [he]
    have n3 := (n2.setRow (entL nv mv sv)).far (p := ⟨w.heap.size + 1 + 1 + 1, 0, none⟩) (by simp; omega) (.int .i64 0)
    have p1 := ((q1.alloc (.cells #[.int .u64 0, .int .u64 0, .int .u64 0, .int .u64 0, .int .u64 0, .int .u64 0, .int .u64 0, .int .u64 0] 26)).farRow (g' := w2.heap.size) (by have := q1.lt; omega) (entL nv mv sv)).far (p := ⟨w.heap.size + 1 + 1 + 1, 0, none⟩) (by simp) (.int .i64 0)
    have heq : ∀ W : World, (Op.equalIn 10000 26 (.agg (entL nv mv sv)) (.agg (ln8 a b c d e f g h))).run Try.prog W = .ok (entIs a b c d e f g h) W := fun W => by
      rw [hisd]
      exact (lineEntry_eq a b c d e f g h nv mv sv hok W)
    cases his0 : entIs a b c d e f g h
    · have his := Lib.hid his0
      rw [his0] at heq
      clear his0
      go_wp2_with (first | (refine row_store w2.heap.size 26 _ _ n2 26 _ _ rfl rfl rfl rfl (by rw [hsz]; kernel_rfl) (by rw [hsz]; rfl) hone ?_) | (refine row_load_w (w2.heap.size) 26 _ n3 26 _ rfl rfl rfl _ Try.underlying26 rfl (by rw [hsz]; kernel_rfl) ?_) | (refine row_load_w (w.heap.size + 1) 26 _ p1 26 _ rfl rfl rfl _ Try.underlying26 rfl (by kernel_rfl) ?_))
      refine (must_not 180 _).mono ?_
      rintro r w3 ⟨rfl, rfl⟩
      have m3 := r3.set_ 0 (.int .i64 0)
      have m2 := ((q2.alloc (.cells #[.int .u64 0, .int .u64 0, .int .u64 0, .int .u64 0, .int .u64 0, .int .u64 0, .int .u64 0, .int .u64 0] 26)).farRow (g' := w2.heap.size) (by omega) (entL nv mv sv)).far (p := ⟨w.heap.size + 1 + 1 + 1, 0, none⟩) (by simp) (.int .i64 0)
      refine leaves_cons (f := 80) (args := #[.pointer (some ⟨w.heap.size + 1 + 1 + 1, 0, none⟩), .func (.func 84) #[] #[.pointer (some ⟨w.heap.size + 1 + 1, 0, none⟩)]]) (by simp) (by simp [go_sem]) ?_
      have e3 := m3.cell 0
      have e4 := m3.frozen 0
      simp at e3
      have m4 := m3.set_ 0 (.int .i64 180)
      have m5 := m2.far (p := ⟨w.heap.size + 1 + 1 + 1, 0, none⟩) (by simp) (.int .i64 180)
      have mB := ((((below_setRow (qB.alloc qB.size (.cells #[.int .u64 0, .int .u64 0, .int .u64 0, .int .u64 0, .int .u64 0, .int .u64 0, .int .u64 0, .int .u64 0] 26)) (g := w2.heap.size) qB.size (entL nv mv sv)).setCell (p := ⟨w.heap.size + 1 + 1 + 1, 0, none⟩) (show w.heap.size ≤ w.heap.size + 1 + 1 + 1 by omega) (.int .i64 0)).setCell (p := ⟨w.heap.size + 1 + 1 + 1, 0, none⟩) (show w.heap.size ≤ w.heap.size + 1 + 1 + 1 by omega) (.int .i64 180)))
      generalize hM : (((w2.alloc (.cells #[.int .u64 0, .int .u64 0, .int .u64 0, .int .u64 0, .int .u64 0, .int .u64 0, .int .u64 0, .int .u64 0] 26)).setRow w2.heap.size (entL nv mv sv)).setCell ⟨w.heap.size + 1 + 1 + 1, 0, none⟩ (.int .i64 0)) = M at *
      have l4 := m4.lt
      refine (caught_panic ⟨w.heap.size + 1 + 1 + 1, 0, none⟩ 0 180 84 #[.pointer (some ⟨w.heap.size + 1 + 1, 0, none⟩)] M (fun w' => Blk w' (w.heap.size + 1 + 1) 23 #[.int .i64 0, .int .i64 0, .string ⟨#[]⟩] ∧ Blk w' (w.heap.size + 1 + 1 + 1) 27 #[.int .i64 180] ∧ Below w.heap.size w w') e3 e4 (fun W => by kernel_rfl) ((clearEntry _ _ rfl _ m5).mono ?_)).mono ?_
      · rintro r w4 ⟨rfl, h1, h2, h3⟩
        exact ⟨rfl, h1, (h3 _ (by omega) l4).trans m4, mB.trans (h2.mono (by omega))⟩
      · rintro r u' w4 ⟨rfl, rfl, h1, h2, h3⟩
        have e5 := h2.cell 0
        simp at e5
        exact leaves_settled (results_cell_cell rfl _ _ (w.heap.size + 1 + 1) 23 _ _ rfl h1 Try.underlying23 rfl (by kernel_rfl) ⟨w.heap.size + 1 + 1 + 1, 0, none⟩ _ rfl (load_int1 Try.underlying27 e5)) ⟨by unfold entIsV entIsE; rw [his.out]; rfl, h3⟩
    · have his := Lib.hid his0
      rw [his0] at heq
      clear his0
      go_wp2_with (first | (refine row_store w2.heap.size 26 _ _ n2 26 _ _ rfl rfl rfl rfl (by rw [hsz]; kernel_rfl) (by rw [hsz]; rfl) hone ?_) | (refine row_load_w (w2.heap.size) 26 _ n3 26 _ rfl rfl rfl _ Try.underlying26 rfl (by rw [hsz]; kernel_rfl) ?_) | (refine row_load_w (w.heap.size + 1) 26 _ p1 26 _ rfl rfl rfl _ Try.underlying26 rfl (by kernel_rfl) ?_))
      refine (must_ok 180 _).mono ?_
      rintro r w3 ⟨rfl, rfl⟩
      have m3 := r3.set_ 0 (.int .i64 0)
      have m2 := ((q2.alloc (.cells #[.int .u64 0, .int .u64 0, .int .u64 0, .int .u64 0, .int .u64 0, .int .u64 0, .int .u64 0, .int .u64 0] 26)).farRow (g' := w2.heap.size) (by omega) (entL nv mv sv)).far (p := ⟨w.heap.size + 1 + 1 + 1, 0, none⟩) (by simp) (.int .i64 0)
      have mB := ((below_setRow (qB.alloc qB.size (.cells #[.int .u64 0, .int .u64 0, .int .u64 0, .int .u64 0, .int .u64 0, .int .u64 0, .int .u64 0, .int .u64 0] 26)) (g := w2.heap.size) qB.size (entL nv mv sv)).setCell (p := ⟨w.heap.size + 1 + 1 + 1, 0, none⟩) (show w.heap.size ≤ w.heap.size + 1 + 1 + 1 by omega) (.int .i64 0))
      generalize hM : (((w2.alloc (.cells #[.int .u64 0, .int .u64 0, .int .u64 0, .int .u64 0, .int .u64 0, .int .u64 0, .int .u64 0, .int .u64 0] 26)).setRow w2.heap.size (entL nv mv sv)).setCell ⟨w.heap.size + 1 + 1 + 1, 0, none⟩ (.int .i64 0)) = M at *
      have z2 := m2.setRow #[.int .i64 nv, .int .i64 mv, .string sv]
      have z3 := m3.farRow (g' := w.heap.size + 1 + 1) (by omega) #[.int .i64 nv, .int .i64 mv, .string sv]
      have c4 := z3.cell 0
      have f4 := z3.frozen 0
      simp at c4
      go_wp2_with (first | (refine row_load (w.heap.size + 1 + 1) 23 _ m2 23 _ rfl rfl rfl _ Try.underlying23 rfl (by kernel_rfl) ?_) | (refine row_store (w.heap.size + 1 + 1) 23 _ _ m2 23 _ _ rfl rfl rfl rfl (by kernel_rfl) (rfl) (by kernel_rfl) ?_))
      have z4 := z3.set_ 0 (.int .i64 0)
      have z5 := z2.far (p := ⟨w.heap.size + 1 + 1 + 1, 0, none⟩) (by simp) (.int .i64 0)
      have zB := (below_setRow mB (g := w.heap.size + 1 + 1) (by omega) #[.int .i64 nv, .int .i64 mv, .string sv]).setCell (p := ⟨w.heap.size + 1 + 1 + 1, 0, none⟩) (show w.heap.size ≤ w.heap.size + 1 + 1 + 1 by omega) (.int .i64 0)
      refine leaves_cons (f := 80) (args := #[.pointer (some ⟨w.heap.size + 1 + 1 + 1, 0, none⟩), .func (.func 84) #[] #[.pointer (some ⟨w.heap.size + 1 + 1, 0, none⟩)]]) (by simp) (by simp [go_sem]) ?_
      refine (caught_idle ⟨w.heap.size + 1 + 1 + 1, 0, none⟩ _ _).mono ?_
      rintro r u' w4 ⟨rfl, rfl, rfl⟩
      have e5 := z4.cell 0
      simp at e5
      exact leaves_done (results_cell_cell rfl _ _ (w.heap.size + 1 + 1) 23 _ _ rfl z5 Try.underlying23 rfl (by kernel_rfl) ⟨w.heap.size + 1 + 1 + 1, 0, none⟩ _ rfl (load_int1 Try.underlying27 e5)) ⟨by unfold entIsV entIsE; rw [his.out]; simp only [hnv, hmv, hsv]; rfl, zB⟩

theorem entIsV_size (a b c d e f g h : Nat) : (entIsV a b c d e f g h).size = 3 := by unfold entIsV; split <;> rfl
theorem entIsV_one (a b c d e f g h : Nat) : (entIsV a b c d e f g h).all (·.oneCell') = true := by unfold entIsV; split <;> kernel_rfl
set_option maxRecDepth 100000 in
set_option maxHeartbeats 2000000 in
theorem GetEntry_any (a b c d e f g h : Nat) (ha : a < 18446744073709551616) (hb : b < 18446744073709551616) (hc : c < 18446744073709551616) (hd : d < 18446744073709551616) (he : e < 18446744073709551616) (hf : f < 18446744073709551616) (hg : g < 18446744073709551616) (hh : h < 18446744073709551616) (w : World) :
    Calls Try.prog 30 #[.agg (ln8 a b c d e f g h)] w fun r w' => r = .returned (.tuple #[.agg (entIsV a b c d e f g h), .int .i64 (entIsE a b c d e f g h)]) ∧ Below w.heap.size w w' := by
  have hord : Try.prog.follows .mixedOrders = true := by kernel_rfl
  have hx := (Blk.new w 26 (ln8 a b c d e f g h)).alloc (.cells #[.int .i64 0, .int .i64 0, .string ⟨#[]⟩] 23)
  have hr := Blk.new (w.alloc (.cells (ln8 a b c d e f g h) 26)) 23 #[.int .i64 0, .int .i64 0, .string ⟨#[]⟩]
  have hB := ((Below.refl _ w).alloc (Nat.le_refl _) (.cells (ln8 a b c d e f g h) 26)).alloc (by simp) (.cells #[.int .i64 0, .int .i64 0, .string ⟨#[]⟩] 23)
  simp only [World.size_alloc] at hr
  have Hsz := Lib.hid (entIsV_size a b c d e f g h)
  have Hone := Lib.hid (entIsV_one a b c d e f g h)
  go_enter Try.func30, Try.ntmps30
  go_wp2_with fail
  refine draw_orders0 [[0, 1, 2, 3, 4, 5, 6], [1, 0, 2, 3, 4, 5, 6], [0, 1, 2, 4, 3, 5, 6], [1, 0, 2, 4, 3, 5, 6]] hord (by kernel_rfl) ?_
  intro o ho
  simp only [List.mem_cons, List.not_mem_nil, or_false] at ho
  rcases ho with rfl | rfl | rfl | rfl
  all_goals refine ⟨_, ⟨_, _, rfl, rfl, _, _, rfl, rfl, _, _, rfl, rfl, _, _, rfl, rfl, _, _, rfl, rfl, _, _, rfl, rfl, _, _, rfl, rfl, rfl⟩, ?_⟩
  all_goals simp only [List.getElem_toArray, List.getElem_cons_zero, List.getElem_cons_succ]
  all_goals
    replace hx := hx.drew
    replace hr := hr.drew
    replace hB := hB.drew
    go_wp2_with (refine row_load (w.heap.size) 26 _ hx 26 _ rfl rfl rfl _ Try.underlying26 rfl (by kernel_rfl) ?_)
    refine (entries_any _).mono ?_
    rintro r w1 ⟨rfl, hb⟩
    replace hx := hx.below hb hx.lt
    replace hr := hr.below hb hr.lt
    replace hB := hB.trans (hb.mono hB.size)
    clear hb
    go_wp2_with (refine row_load (w.heap.size) 26 _ hx 26 _ rfl rfl rfl _ Try.underlying26 rfl (by kernel_rfl) ?_)
    refine (getEntry_any a b c d e f g h ha hb hc hd he hf hg hh _).mono ?_
    rintro r w2 ⟨rfl, hb⟩
    replace hr := hr.below hb hr.lt
    replace hB := hB.trans (hb.mono hB.size)
    clear hb
    obtain ⟨v, hv⟩ : ∃ v, entIsV a b c d e f g h = v := ⟨_, rfl⟩
    have hsz := Hsz.out
    have hone := Hone.out
    rw [hv] at hsz hone ⊢
    go_wp2_with (refine row_store (w.heap.size + 1) 23 _ _ hr 23 _ _ rfl rfl rfl rfl (by rw [hsz]; kernel_rfl) (by rw [hsz]; rfl) hone ?_)
    refine bodyPost_ret (results_cell_slot rfl _ _ (w.heap.size + 1) 23 _ _ rfl (hr.setRow _) Try.underlying23 rfl (by rw [hsz]; kernel_rfl) _ rfl) rfl ?_
    exact ⟨by rw [hv]; rfl, below_setRow hB (by omega) _⟩
end Go.Proofs.Ytdgnbmcckknfiaa
