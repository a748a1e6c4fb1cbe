/- The walks of node's entries: which may be, how their words are written. Conditions: none. -/
import Derived.Test.YtdgnbmcckknfiaaNodL
import Derived.Test.YtdgnbmcckknfiaaLabD
namespace Go.Proofs.Ytdgnbmcckknfiaa
open Go.RowKit
set_option linter.unusedSimpArgs false

/-- May an entry be? -/
def entOk (n m : Int) (s : ByteArray) : Bool := ptrs 0 [n] && (ptrs 1 [m] && nameOk s)
theorem one_read2 (w : World) (e : TypeId) (x : Int) : Reads (w.alloc (.cells #[.int .i64 x] e)) (w.heap.size + 1) 1 (some ⟨w.heap.size, 0, none⟩) 1 (cellsI [x]) := by
  have := one_read w e x
  rwa [World.size_alloc] at this
set_option maxHeartbeats 2000000 in
theorem entright_any (n m : Int) (s : ByteArray) (w : World) :
    Calls Try.prog 51 #[.agg #[.int .i64 n, .int .i64 m, .string s]] w fun e w' => e = .returned (.bool (entOk n m s)) ∧ Below w.heap.size w w' := by
  have B1 : Below w.heap.size w ((w.alloc (.cells #[.int .i64 n, .int .i64 m, .string s] 23)).alloc (.cells #[.int .i64 n] 3)) := ((Below.refl _ w).alloc (Nat.le_refl _) _).alloc (by simp) _
  have kk := (Blk.new w 23 #[.int .i64 n, .int .i64 m, .string s]).alloc (.cells #[.int .i64 n] 3)
  have hr := one_read (w.alloc (.cells #[.int .i64 n, .int .i64 m, .string s] 23)) 3 n
  simp only [World.size_alloc] at hr
  have key : ∀ u v : Bool, ptrs 0 [n] = u → ptrs 1 [m] = v → entOk n m s = (u && (v && nameOk s)) := fun u v h1 h2 => by unfold entOk; rw [h1, h2]
  have hck := Lib.hid (check_any s)
  cases c1 : ptrs 0 [n]
  · have e1 : Hid (entOk n m s = false) := Lib.hid (by rw [key false _ c1 rfl]; rfl)
    have c1' := Lib.hid c1
    clear c1 key
    go_enter Try.func51, Try.ntmps51
    go_wp2_with fail
    refine (pointers_any 0 [n] _ _ _ _ (by rw [World.size_alloc, World.size_alloc]; exact hr) (by omega)).mono ?_
    rintro e w1 ⟨rfl, hb⟩
    rw [c1'.out]
    go_wp2
    go_ret
    exact ⟨by rw [e1.out]; rfl, B1.trans (hb.mono B1.size)⟩
  · cases c2 : ptrs 1 [m]
    · have e1 : Hid (entOk n m s = false) := Lib.hid (by rw [key _ false c1 c2]; rfl)
      have c1' := Lib.hid c1
      have c2' := Lib.hid c2
      clear c1 c2 key
      go_enter Try.func51, Try.ntmps51
      go_wp2_with fail
      refine (pointers_any 0 [n] _ _ _ _ (by rw [World.size_alloc, World.size_alloc]; exact hr) (by omega)).mono ?_
      rintro e w1 ⟨rfl, hb⟩
      rw [c1'.out]
      have k1 := (kk.below (hb.mono (Nat.le_refl _)) (by simp; omega)).cell 1
      simp at k1
      have B2 := B1.trans (hb.mono B1.size)
      clear hb hr
      go_wp2_with fail
      have hr := one_read w1 3 m
      refine (pointers_any 1 [m] _ _ _ _ hr (by omega)).mono ?_
      rintro e w2 ⟨rfl, hb⟩
      rw [c2'.out]
      have B3 := (B2.alloc B2.size (.cells #[.int .i64 m] 3)).trans (hb.mono (by rw [World.size_alloc]; have := B2.size; omega))
      clear hb hr
      go_wp2
      go_ret
      exact ⟨by rw [e1.out]; rfl, B3⟩
    · have e1 : Hid (entOk n m s = nameOk s) := Lib.hid (by rw [key _ _ c1 c2]; simp)
      have hne : Hid (decide (nameE s = 0) = nameOk s) := Lib.hid (by unfold nameE; cases nameOk s <;> rfl)
      have c1' := Lib.hid c1
      have c2' := Lib.hid c2
      obtain ⟨ev, hev⟩ : ∃ ev, nameE s = ev := ⟨_, rfl⟩
      rw [hev] at hck hne
      clear c1 c2 key hev
      go_enter Try.func51, Try.ntmps51
      go_wp2_with fail
      refine (pointers_any 0 [n] _ _ _ _ (by rw [World.size_alloc, World.size_alloc]; exact hr) (by omega)).mono ?_
      rintro e w1 ⟨rfl, hb⟩
      rw [c1'.out]
      have kw := kk.below (hb.mono (Nat.le_refl _)) (by simp; omega)
      have k1 := kw.cell 1
      simp at k1
      have B2 := B1.trans (hb.mono B1.size)
      clear hb hr
      go_wp2_with fail
      have hr := one_read w1 3 m
      refine (pointers_any 1 [m] _ _ _ _ hr (by omega)).mono ?_
      rintro e w2 ⟨rfl, hb⟩
      rw [c2'.out]
      have B3 := (B2.alloc B2.size (.cells #[.int .i64 m] 3)).trans (hb.mono (by rw [World.size_alloc]; have := B2.size; omega))
      have kw2 := (kw.alloc (.cells #[.int .i64 m] 3)).below hb (by rw [World.size_alloc]; have := kw.lt; omega)
      have k2 := kw2.cell 2
      simp at k2
      clear hb hr k1
      go_wp2_with fail
      refine (hck.out _).mono ?_
      rintro e w3 ⟨rfl, hb⟩
      go_wp2
      go_ret
      exact ⟨by rw [e1.out, ← hne.out]; first | rfl | (congr 2), B3.trans (hb.mono B3.size)⟩

/-- An entry's words. -/
def entW (n m : Int) (s : ByteArray) : List Int := [n, m, (s.size : Int)] ++ (lw s).map Int.ofNat
def entL (n m : Int) (s : ByteArray) : Array Value := if entOk n m s then ((entW n m s).map (Value.int .u64)).toArray else ln8 0 0 0 0 0 0 0 0
def entE (n m : Int) (s : ByteArray) : Int := if entOk n m s then 0 else 2
theorem entW_eq (n m : Int) (s : ByteArray) (a b c d e : Nat) (h : lw s = [a, b, c, d, e]) : ((entW n m s).map (Value.int .u64)).toArray = ln8 n m (s.size : Int) a b c d e := by
  unfold entW
  rw [h]
  rfl
set_option maxRecDepth 100000 in
set_option maxHeartbeats 4000000 in
theorem entwrite_any (n m : Int) (s : ByteArray) (h : entOk n m s = true) (a b c d e : Nat) (hl : lw s = [a, b, c, d, e]) (q : Nat) (old : Array Value) (ho : old.size = 8) (w : World) (hB : Blk w q 113 old) :
    Calls Try.prog 54 #[.agg #[.int .i64 n, .int .i64 m, .string s], .pointer (some ⟨q, 0, none⟩)] w fun r w' => r = .returned (.tuple #[]) ∧
      Blk w' q 113 (ln8 n m (s.size : Int) a b c d e) ∧ Below q w w' := by
  have hbl := hB.lt
  have B0 : Below w.heap.size w (w.alloc (.cells #[.int .i64 n, .int .i64 m, .string s] 23)) := (Below.refl _ w).alloc (Nat.le_refl _) _
  have hB1 := hB.below B0 hbl
  have hx := Blk.new w 23 #[.int .i64 n, .int .i64 m, .string s]
  simp only [entOk, ptrs, badP, Bool.and_eq_true, decide_eq_true_eq, List.any_cons, List.any_nil, Bool.or_false, Bool.not_eq_true', Bool.or_eq_false_iff, decide_eq_false_iff_not] at h
  have hsz := nameOk_size h.2.2
  have hw1 : IntKind.u64.wrap n = n := by rw [IntKind.wrap_u64]; omega
  have hw2 : IntKind.u64.wrap m = m := by rw [IntKind.wrap_u64]; omega
  have hw3 : IntKind.u64.wrap (s.size : Int) = (s.size : Int) := by rw [IntKind.wrap_u64]; omega
  have hord : Try.prog.follows .mixedOrders = true := by kernel_rfl
  have hs0 := hx.farRow (g' := q) (by omega) #[.int .u64 n, .int .u64 m, .int .u64 (s.size : Int), .int .u64 0, .int .u64 0, .int .u64 0, .int .u64 0, .int .u64 0]
  have hs2 := hs0.cell 2
  simp at hs2
  clear h hB
  go_enter Try.func54, Try.ntmps54
  go_wp2_with (refine row_store q 113 _ _ hB1 113 _ _ rfl rfl rfl rfl (by kernel_rfl) ho (by kernel_rfl) ?_)
  refine (lwords_any s a b c d e hl _).mono ?_
  rintro r w2 ⟨rfl, hb2⟩
  have q1 := (hB1.setRow #[.int .u64 n, .int .u64 m, .int .u64 (s.size : Int), .int .u64 0, .int .u64 0, .int .u64 0, .int .u64 0, .int .u64 0]).below hb2 (by simp; omega)
  have qB := (below_setRow (B0.mono (Nat.le_of_lt hbl)) (g := q) (Nat.le_refl _) #[.int .u64 n, .int .u64 m, .int .u64 (s.size : Int), .int .u64 0, .int .u64 0, .int .u64 0, .int .u64 0, .int .u64 0]).trans (hb2.mono (by simp; omega))
  have hsz2 : w.heap.size + 1 ≤ w2.heap.size := by have := hb2.size; simpa using this
  clear hb2 hs0 hs2 hB1 hx hw1 hw2 hw3
  have n2 := Blk.new w2 94 #[.int .u64 0, .int .u64 0, .int .u64 0, .int .u64 0, .int .u64 0]
  go_wp2_with (refine row_store w2.heap.size 94 _ _ n2 94 _ _ rfl rfl rfl rfl (by kernel_rfl) rfl (by kernel_rfl) ?_)
  have n3 := n2.setRow #[.int .u64 a, .int .u64 b, .int .u64 c, .int .u64 d, .int .u64 e]
  have q3 := (q1.alloc (.cells #[.int .u64 0, .int .u64 0, .int .u64 0, .int .u64 0, .int .u64 0] 94)).farRow (g' := w2.heap.size) (by omega) #[.int .u64 a, .int .u64 b, .int .u64 c, .int .u64 d, .int .u64 e]
  have qB3 := below_setRow (qB.alloc (by omega) (.cells #[.int .u64 0, .int .u64 0, .int .u64 0, .int .u64 0, .int .u64 0] 94)) (g := w2.heap.size) (by omega) #[.int .u64 a, .int .u64 b, .int .u64 c, .int .u64 d, .int .u64 e]
  generalize (w2.alloc (.cells #[.int .u64 0, .int .u64 0, .int .u64 0, .int .u64 0, .int .u64 0] 94)).setRow w2.heap.size #[.int .u64 a, .int .u64 b, .int .u64 c, .int .u64 d, .int .u64 e] = Z at *
  have hcp := fun ty => run_copy_row (P := Try.prog) Z.drew 119 119 ty 25 q 3 5 5 ⟨w2.heap.size, 0, none⟩ 5 5 #[.int .u64 n, .int .u64 m, .int .u64 (s.size : Int), .int .u64 0, .int .u64 0, .int .u64 0, .int .u64 0, .int .u64 0] 113 [.int .u64 a, .int .u64 b, .int .u64 c, .int .u64 d, .int .u64 e] Try.underlying119 (by kernel_rfl) q3.drew rfl (by
    intro j v hv
    rw [add_off, Nat.zero_add, n3.drew.cell j]
    simpa using hv) (by simp) (by intro v hv; simp only [List.mem_cons, List.not_mem_nil, or_false] at hv; rcases hv with rfl | rfl | rfl | rfl | rfl <;> rfl)
  have harr : (List.take 3 (#[.int .u64 n, .int .u64 m, .int .u64 (s.size : Int), .int .u64 0, .int .u64 0, .int .u64 0, .int .u64 0, .int .u64 0] : Array Value).toList ++ ([Value.int .u64 a, Value.int .u64 b, Value.int .u64 c, Value.int .u64 d, Value.int .u64 e] : List Value) ++ List.drop (3 + ([Value.int .u64 a, Value.int .u64 b, Value.int .u64 c, Value.int .u64 d, Value.int .u64 e] : List Value).length) (#[.int .u64 n, .int .u64 m, .int .u64 (s.size : Int), .int .u64 0, .int .u64 0, .int .u64 0, .int .u64 0, .int .u64 0] : Array Value).toList).toArray = ln8 n m (s.size : Int) a b c d e := rfl
  rw [harr] at hcp
  have q4 := q3.drew.setRow (ln8 n m (s.size : Int) a b c d e)
  have qB4 := below_setRow qB3.drew (g := q) (Nat.le_refl _) (ln8 n m (s.size : Int) a b c d e)
  refine draw_orders0 [[0, 1, 2, 3, 4], [0, 1, 3, 2, 4], [0, 3, 1, 2, 4], [3, 0, 1, 2, 4]] hord (by kernel_rfl) ?_
  intro o ho
  simp only [List.mem_cons, List.not_mem_nil, or_false] at ho
  rcases ho with rfl | rfl | rfl | rfl
  all_goals refine ⟨_, ⟨_, _, rfl, rfl, _, _, rfl, rfl, _, _, rfl, rfl, _, _, rfl, rfl, _, _, rfl, rfl, rfl⟩, ?_⟩
  all_goals simp only [List.getElem_toArray, List.getElem_cons_zero, List.getElem_cons_succ]
  all_goals
    go_wp2
    go_end0
    exact ⟨rfl, q4, qB4⟩
theorem entL_size (n m : Int) (s : ByteArray) : (entL n m s).size = 8 := by
  unfold entL
  split
  · rw [List.size_toArray, List.length_map, entW, List.length_append, List.length_map, lw_len]; rfl
  · rfl
theorem entL_one (n m : Int) (s : ByteArray) : (entL n m s).all (·.oneCell') = true := by
  unfold entL
  split
  · rw [Array.all_eq_true]
    intro i hi
    simp only [List.getElem_toArray, List.getElem_map]
    rfl
  · kernel_rfl

set_option maxRecDepth 100000 in
set_option maxHeartbeats 2000000 in
theorem putEntry_any (n m : Int) (s : ByteArray) (w : World) :
    Calls Try.prog 33 #[.agg #[.func (.func 51) #[] #[], .func (.func 54) #[] #[], .func (.func 56) #[] #[]], .agg #[.int .i64 n, .int .i64 m, .string s]] w fun e w' => e = .returned (.tuple #[.agg (entL n m s), .int .i64 (entE n m s)]) ∧ Below w.heap.size w w' := by
  have HX : Hid (∀ X, X = (((((w.alloc (.cells #[.func (.func 51) #[] #[], .func (.func 54) #[] #[], .func (.func 56) #[] #[]] 78)).alloc (.cells #[.int .i64 n, .int .i64 m, .string s] 23)).alloc (.cells #[.int .u64 0, .int .u64 0, .int .u64 0, .int .u64 0, .int .u64 0, .int .u64 0, .int .u64 0, .int .u64 0] 26)).alloc (.cells #[.int .u64 0, .int .u64 0, .int .u64 0, .int .u64 0, .int .u64 0, .int .u64 0, .int .u64 0, .int .u64 0] 113))).setRow (w.heap.size + 1 + 1 + 1) #[.int .u64 0, .int .u64 0, .int .u64 0, .int .u64 0, .int .u64 0, .int .u64 0, .int .u64 0, .int .u64 0] →
      Blk X w.heap.size 78 #[.func (.func 51) #[] #[], .func (.func 54) #[] #[], .func (.func 56) #[] #[]] ∧ Blk X (w.heap.size + 1) 23 #[.int .i64 n, .int .i64 m, .string s] ∧ Blk X (w.heap.size + 1 + 1) 26 #[.int .u64 0, .int .u64 0, .int .u64 0, .int .u64 0, .int .u64 0, .int .u64 0, .int .u64 0, .int .u64 0] ∧ Blk X (w.heap.size + 1 + 1 + 1) 113 #[.int .u64 0, .int .u64 0, .int .u64 0, .int .u64 0, .int .u64 0, .int .u64 0, .int .u64 0, .int .u64 0] ∧ Below w.heap.size w X) := Lib.hid (by
    rintro X rfl
    have k0 := Blk.new w 78 #[.func (.func 51) #[] #[], .func (.func 54) #[] #[], .func (.func 56) #[] #[]]
    have k1 := Blk.new (w.alloc (.cells #[.func (.func 51) #[] #[], .func (.func 54) #[] #[], .func (.func 56) #[] #[]] 78)) 23 #[.int .i64 n, .int .i64 m, .string s]
    have k2 := Blk.new ((w.alloc (.cells #[.func (.func 51) #[] #[], .func (.func 54) #[] #[], .func (.func 56) #[] #[]] 78)).alloc (.cells #[.int .i64 n, .int .i64 m, .string s] 23)) 26 #[.int .u64 0, .int .u64 0, .int .u64 0, .int .u64 0, .int .u64 0, .int .u64 0, .int .u64 0, .int .u64 0]
    have k3 := Blk.new (((w.alloc (.cells #[.func (.func 51) #[] #[], .func (.func 54) #[] #[], .func (.func 56) #[] #[]] 78)).alloc (.cells #[.int .i64 n, .int .i64 m, .string s] 23)).alloc (.cells #[.int .u64 0, .int .u64 0, .int .u64 0, .int .u64 0, .int .u64 0, .int .u64 0, .int .u64 0, .int .u64 0] 26)) 113 #[.int .u64 0, .int .u64 0, .int .u64 0, .int .u64 0, .int .u64 0, .int .u64 0, .int .u64 0, .int .u64 0]
    replace k0 := ((k0.alloc (.cells #[.int .i64 n, .int .i64 m, .string s] 23)).alloc (.cells #[.int .u64 0, .int .u64 0, .int .u64 0, .int .u64 0, .int .u64 0, .int .u64 0, .int .u64 0, .int .u64 0] 26)).alloc (.cells #[.int .u64 0, .int .u64 0, .int .u64 0, .int .u64 0, .int .u64 0, .int .u64 0, .int .u64 0, .int .u64 0] 113)
    replace k1 := (k1.alloc (.cells #[.int .u64 0, .int .u64 0, .int .u64 0, .int .u64 0, .int .u64 0, .int .u64 0, .int .u64 0, .int .u64 0] 26)).alloc (.cells #[.int .u64 0, .int .u64 0, .int .u64 0, .int .u64 0, .int .u64 0, .int .u64 0, .int .u64 0, .int .u64 0] 113)
    replace k2 := k2.alloc (.cells #[.int .u64 0, .int .u64 0, .int .u64 0, .int .u64 0, .int .u64 0, .int .u64 0, .int .u64 0, .int .u64 0] 113)
    simp only [World.size_alloc] at k0 k1 k2 k3
    exact ⟨k0.farRow (by omega) _, k1.farRow (by omega) _, k2.farRow (by omega) _, k3.setRow _, below_setRow ((((((Below.refl _ w).alloc (Nat.le_refl _) _).alloc (by simp) _).alloc (by simp; omega) _).alloc (by simp; omega) _)) (by omega) _⟩)
  have hn := Blk.new (((w.alloc (.cells #[.func (.func 51) #[] #[], .func (.func 54) #[] #[], .func (.func 56) #[] #[]] 78)).alloc (.cells #[.int .i64 n, .int .i64 m, .string s] 23)).alloc (.cells #[.int .u64 0, .int .u64 0, .int .u64 0, .int .u64 0, .int .u64 0, .int .u64 0, .int .u64 0, .int .u64 0] 26)) 113 #[.int .u64 0, .int .u64 0, .int .u64 0, .int .u64 0, .int .u64 0, .int .u64 0, .int .u64 0, .int .u64 0]
  simp only [World.size_alloc] at hn
  cases hok : entOk n m s
  · have e1 : Hid (entL n m s = #[.int .u64 0, .int .u64 0, .int .u64 0, .int .u64 0, .int .u64 0, .int .u64 0, .int .u64 0, .int .u64 0]) := Lib.hid (by unfold entL; rw [hok]; rfl)
    have e2 : Hid (entE n m s = 2) := Lib.hid (by unfold entE; rw [hok]; rfl)
    have Hok := Lib.hid hok
    clear hok
    go_enter Try.func33, Try.ntmps33
    go_wp2_with fail
    refine wp_scope_goto 0 rfl fun J hJ => ?_
    obtain ⟨X, hX⟩ : ∃ X, X = (((((w.alloc (.cells #[.func (.func 51) #[] #[], .func (.func 54) #[] #[], .func (.func 56) #[] #[]] 78)).alloc (.cells #[.int .i64 n, .int .i64 m, .string s] 23)).alloc (.cells #[.int .u64 0, .int .u64 0, .int .u64 0, .int .u64 0, .int .u64 0, .int .u64 0, .int .u64 0, .int .u64 0] 26)).alloc (.cells #[.int .u64 0, .int .u64 0, .int .u64 0, .int .u64 0, .int .u64 0, .int .u64 0, .int .u64 0, .int .u64 0] 113))).setRow (w.heap.size + 1 + 1 + 1) #[.int .u64 0, .int .u64 0, .int .u64 0, .int .u64 0, .int .u64 0, .int .u64 0, .int .u64 0, .int .u64 0] := ⟨_, rfl⟩
    obtain ⟨b0, b1, b2, b3, hB⟩ := HX.out X hX
    have c0 := b0.cell 0
    have c1 := b0.cell 1
    simp at c0 c1
    have HX2 := Lib.hid hX
    clear HX hX
    go_wp2_with (first | ((refine row_store (w.heap.size + 1 + 1 + 1) 113 _ _ hn 113 _ _ rfl rfl rfl rfl (by kernel_rfl) rfl (by kernel_rfl) ?_); rw [← HX2.out]) | (refine row_load (w.heap.size + 1) 23 _ b1 23 _ rfl rfl rfl _ Try.underlying23 rfl (by kernel_rfl) ?_))
    clear HX2 hn
    refine (entright_any n m s _).mono ?_
    rintro r w1 ⟨rfl, hb⟩
    rw [Hok.out]
    replace b0 := b0.below hb b0.lt
    replace b1 := b1.below hb b1.lt
    replace b2 := b2.below hb b2.lt
    replace b3 := b3.below hb b3.lt
    replace hB := hB.trans (hb.mono hB.size)
    clear hb c0 c1
    go_wp2
    go_step3
    refine ⟨rfl, hJ _ _ ?_⟩
    go_wp2_with (first | (refine row_load (w.heap.size + 1 + 1) 26 _ b2 26 _ rfl rfl rfl _ Try.underlying26 rfl (by kernel_rfl) ?_) | (refine row_store (w.heap.size + 1 + 1) 26 _ _ b2 26 _ _ rfl rfl rfl rfl (by kernel_rfl) rfl (by kernel_rfl) ?_))
    first | rw [Exit.noGoto_ret] | rw [Exit.jump_ret] | skip
    refine bodyPost_ret (results_cell_slot rfl _ _ (w.heap.size + 1 + 1) 26 _ _ rfl (b2.setRow _) Try.underlying26 rfl (by kernel_rfl) _ rfl) rfl ?_
    exact ⟨by rw [e1.out, e2.out]; rfl, below_setRow hB (by omega) _⟩
  · have e2 : Hid (entE n m s = 0) := Lib.hid (by unfold entE; rw [hok]; rfl)
    have Hok := Lib.hid hok
    obtain ⟨a1, a2, a3, a4, a5, hlw⟩ := five (lw s) (lw_len s)
    have HL := Lib.hid hlw
    have e1 : Hid (entL n m s = ln8 n m (s.size : Int) a1 a2 a3 a4 a5) := Lib.hid (by unfold entL; rw [hok]; exact entW_eq n m s a1 a2 a3 a4 a5 hlw)
    clear hlw
    clear hok
    go_enter Try.func33, Try.ntmps33
    go_wp2_with fail
    refine wp_scope_goto 0 rfl fun J hJ => ?_
    obtain ⟨X, hX⟩ : ∃ X, X = (((((w.alloc (.cells #[.func (.func 51) #[] #[], .func (.func 54) #[] #[], .func (.func 56) #[] #[]] 78)).alloc (.cells #[.int .i64 n, .int .i64 m, .string s] 23)).alloc (.cells #[.int .u64 0, .int .u64 0, .int .u64 0, .int .u64 0, .int .u64 0, .int .u64 0, .int .u64 0, .int .u64 0] 26)).alloc (.cells #[.int .u64 0, .int .u64 0, .int .u64 0, .int .u64 0, .int .u64 0, .int .u64 0, .int .u64 0, .int .u64 0] 113))).setRow (w.heap.size + 1 + 1 + 1) #[.int .u64 0, .int .u64 0, .int .u64 0, .int .u64 0, .int .u64 0, .int .u64 0, .int .u64 0, .int .u64 0] := ⟨_, rfl⟩
    obtain ⟨b0, b1, b2, b3, hB⟩ := HX.out X hX
    have c0 := b0.cell 0
    have c1 := b0.cell 1
    simp at c0 c1
    have HX2 := Lib.hid hX
    clear HX hX
    go_wp2_with (first | ((refine row_store (w.heap.size + 1 + 1 + 1) 113 _ _ hn 113 _ _ rfl rfl rfl rfl (by kernel_rfl) rfl (by kernel_rfl) ?_); rw [← HX2.out]) | (refine row_load (w.heap.size + 1) 23 _ b1 23 _ rfl rfl rfl _ Try.underlying23 rfl (by kernel_rfl) ?_))
    clear HX2 hn
    refine (entright_any n m s _).mono ?_
    rintro r w1 ⟨rfl, hb⟩
    rw [Hok.out]
    replace b0 := b0.below hb b0.lt
    replace b1 := b1.below hb b1.lt
    replace b2 := b2.below hb b2.lt
    replace b3 := b3.below hb b3.lt
    replace hB := hB.trans (hb.mono hB.size)
    clear hb c0 c1
    have c1 := b0.cell 1
    simp at c1
    go_wp2_with (refine row_load (w.heap.size + 1) 23 _ b1 23 _ rfl rfl rfl _ Try.underlying23 rfl (by kernel_rfl) ?_)
    refine (entwrite_any n m s Hok.out a1 a2 a3 a4 a5 HL.out _ _ rfl _ b3).mono ?_
    rintro r w2 ⟨rfl, hl, hb⟩
    replace b2 := b2.below hb (by omega)
    replace hB := hB.trans (hb.mono (by omega))
    clear hb c1 b0 b1 b3
    go_wp2_with (first | (refine row_load (w.heap.size + 1 + 1 + 1) 113 _ hl 113 _ rfl rfl rfl _ Try.underlying113 rfl (by kernel_rfl) ?_) | (refine row_store (w.heap.size + 1 + 1) 26 _ _ b2 26 _ _ rfl rfl rfl rfl (by kernel_rfl) rfl (by kernel_rfl) ?_))
    first | rw [Exit.noGoto_ret] | rw [Exit.jump_ret] | skip
    refine bodyPost_ret (results_cell_slot rfl _ _ (w.heap.size + 1 + 1) 26 _ _ rfl (b2.setRow _) Try.underlying26 rfl (by kernel_rfl) _ rfl) rfl ?_
    exact ⟨by rw [e1.out, e2.out]; rfl, below_setRow hB (by omega) _⟩

set_option maxHeartbeats 400000 in
theorem entries_any (w : World) : Calls Try.prog 34 #[] w fun e w' => e = .returned (.agg #[.func (.func 51) #[] #[], .func (.func 54) #[] #[], .func (.func 56) #[] #[]]) ∧ Below w.heap.size w w' := by
  have hp := Blk.new w 78 #[.nilFunc, .nilFunc, .nilFunc]
  go_enter Try.func34, Try.ntmps34
  go_wp2_with (refine row_store w.heap.size 78 _ _ hp 78 _ _ rfl rfl rfl rfl (by kernel_rfl) rfl (by kernel_rfl) ?_)
  refine bodyPost_ret (results_cell1 rfl _ _ w.heap.size 78 _ _ rfl (hp.setRow _) Try.underlying78 rfl (by kernel_rfl)) rfl ?_
  exact ⟨rfl, below_setRow ((Below.refl _ w).alloc (Nat.le_refl _) _) (Nat.le_refl _) _⟩

set_option maxRecDepth 100000 in
set_option maxHeartbeats 2000000 in
theorem PutEntry_any (n m : Int) (s : ByteArray) (w : World) :
    Calls Try.prog 9 #[.agg #[.int .i64 n, .int .i64 m, .string s]] w fun e w' => e = .returned (.tuple #[.agg (entL n m s), .int .i64 (entE n m s)]) ∧ Below w.heap.size w w' := by
  have hord : Try.prog.follows .mixedOrders = true := by kernel_rfl
  have hx := (Blk.new w 23 #[.int .i64 n, .int .i64 m, .string s]).alloc (.cells #[.int .u64 0, .int .u64 0, .int .u64 0, .int .u64 0, .int .u64 0, .int .u64 0, .int .u64 0, .int .u64 0] 26)
  have hr := Blk.new (w.alloc (.cells #[.int .i64 n, .int .i64 m, .string s] 23)) 26 #[.int .u64 0, .int .u64 0, .int .u64 0, .int .u64 0, .int .u64 0, .int .u64 0, .int .u64 0, .int .u64 0]
  have hB := ((Below.refl _ w).alloc (Nat.le_refl _) (.cells #[.int .i64 n, .int .i64 m, .string s] 23)).alloc (by simp) (.cells #[.int .u64 0, .int .u64 0, .int .u64 0, .int .u64 0, .int .u64 0, .int .u64 0, .int .u64 0, .int .u64 0] 26)
  simp only [World.size_alloc] at hr
  have Hsz : Hid ((entL n m s).size = 8) := Lib.hid (entL_size n m s)
  have Hone : Hid ((entL n m s).all (·.oneCell') = true) := Lib.hid (entL_one n m s)
  go_enter Try.func9, Try.ntmps9
  go_wp2_with fail
  refine draw_orders0 [[0, 1, 2, 3, 4, 5, 6], [1, 0, 2, 3, 4, 5, 6], [0, 1, 2, 4, 3, 5, 6], [1, 0, 2, 4, 3, 5, 6]] hord (by kernel_rfl) ?_
  intro o ho
  simp only [List.mem_cons, List.not_mem_nil, or_false] at ho
  rcases ho with rfl | rfl | rfl | rfl
  all_goals refine ⟨_, ⟨_, _, rfl, rfl, _, _, rfl, rfl, _, _, rfl, rfl, _, _, rfl, rfl, _, _, rfl, rfl, _, _, rfl, rfl, _, _, rfl, rfl, rfl⟩, ?_⟩
  all_goals simp only [List.getElem_toArray, List.getElem_cons_zero, List.getElem_cons_succ]
  all_goals
    replace hx := hx.drew
    replace hr := hr.drew
    replace hB := hB.drew
    go_wp2_with (refine row_load w.heap.size 23 _ hx 23 _ rfl rfl rfl _ Try.underlying23 rfl (by kernel_rfl) ?_)
    refine (entries_any _).mono ?_
    rintro r w1 ⟨rfl, hb⟩
    replace hx := hx.below hb hx.lt
    replace hr := hr.below hb hr.lt
    replace hB := hB.trans (hb.mono hB.size)
    clear hb
    go_wp2_with (refine row_load w.heap.size 23 _ hx 23 _ rfl rfl rfl _ Try.underlying23 rfl (by kernel_rfl) ?_)
    refine (putEntry_any n m s _).mono ?_
    rintro r w2 ⟨rfl, hb⟩
    replace hr := hr.below hb hr.lt
    replace hB := hB.trans (hb.mono hB.size)
    clear hb
    obtain ⟨v, hv⟩ : ∃ v, entL n m s = v := ⟨_, rfl⟩
    have hsz := Hsz.out
    have hone := Hone.out
    rw [hv] at hsz hone ⊢
    go_wp2_with (refine row_store (w.heap.size + 1) 26 _ _ hr 26 _ _ rfl rfl rfl rfl (by rw [hsz]; kernel_rfl) (by rw [hsz]; rfl) hone ?_)
    refine bodyPost_ret (results_cell_slot rfl _ _ (w.heap.size + 1) 26 _ _ rfl (hr.setRow _) Try.underlying26 rfl (by rw [hsz]; kernel_rfl) _ rfl) rfl ?_
    exact ⟨by rw [hv]; rfl, below_setRow hB (by omega) _⟩
end Go.Proofs.Ytdgnbmcckknfiaa
