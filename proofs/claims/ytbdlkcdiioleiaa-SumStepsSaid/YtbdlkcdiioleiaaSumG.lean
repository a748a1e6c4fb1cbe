/- The iterators of package sum: count, Steps. Conditions: the slice reads as a list. -/
import Derived.Test.YtbdlkcdiioleiaaDraw
import Derived.Test.YtbdlkcdiioleiaaSumE
import Derived.Shelf.RegionOpen
namespace Go.Proofs.Ytbdlkcdiioleiaa
open Go.RowKit
attribute [local go_sem] Oper.semAt_some wide_fn wide_depth

set_option maxHeartbeats 1000000 in
theorem count_iter (b N : Nat) (hN : N ≤ maxLen) :
    IterC false Try.prog 28 #[.pointer (some ⟨b, 0, none⟩)] N (fun k => #[.int .i64 k]) (fun W => W.cell? ⟨b, 0, none⟩ = some (.int .i64 N)) := by
  intro n l W J Jx hJ hJx hR hR2 hY h0
  unfold maxLen at hN
  refine callsIn_of_wp Try.func28 rfl trivial ?_ rfl
  simp only [Try.ntmps28, List.size_toArray, List.length_cons, List.length_nil, Nat.reduceAdd, Nat.reduceSub, Array.replicate_succ, Array.replicate_zero, List.push_toArray, List.append_toArray, List.nil_append, List.cons_append]
  have hc := (hR 0 W h0).1
  gi_wp2
  gi_loopw [5] (fun i wr => ∃ k : Nat, k ≤ N ∧ i = .int .i64 k ∧ J k wr) (fun i _ => N - (intOf i).toNat)
  case atStart => exact ⟨0, Nat.zero_le _, rfl, h0⟩
  case round =>
    obtain ⟨k, hk, rfl, hj⟩ := hrel
    by_cases hlt : k < N
    · obtain ⟨fn, tmps, assign, body, hy, hRd⟩ := hY k wr hlt hj
      gi_wp2
      refine hRd.mono ?_
      rintro e W3 ⟨_, (⟨rfl, hJ3⟩ | ⟨rfl, hJx3⟩)⟩
      · gi_wp2
        go_roundw
        case rel => exact ⟨k + 1, by omega, by go_num, hJ3⟩
        case measure => simp [intOf]; omega
      · gi_wp2
        refine bodyPost_ret (results_none rfl _ _ _) rfl ?_
        exact ⟨⟨_, rfl⟩, .inr ⟨k + 1, by omega, by omega, hJx3⟩⟩
    · obtain rfl : k = N := by omega
      gi_wp2
      go_end0
      exact ⟨⟨_, rfl⟩, .inl hj⟩

set_option maxHeartbeats 400000 in
/-- count makes a box with the number and the iterator over it. -/
theorem count_any (n : Nat) (w : World) :
    Calls Try.prog 24 #[.int .i64 n] w fun e w' => e = .returned (.func (.func 28) #[] #[.pointer (some ⟨w.heap.size, 0, none⟩)]) ∧ w.alloc (.cells #[.int .i64 n] 3) = w' := by
  go_enter Try.func24, Try.ntmps24
  go_wp2
  go_ret
  exact ⟨rfl, rfl⟩

set_option maxHeartbeats 400000 in
theorem steps_any (A : Option Addr) (n c : Nat) (w : World) :
    Calls Try.prog 18 #[.slice A n c] w fun e w' => e = .returned (.func (.func 23) #[] #[.pointer (some ⟨w.heap.size, 0, none⟩)]) ∧ w.alloc (.cells #[.slice A n c] 22) = w' := by
  go_enter Try.func18, Try.ntmps18
  go_wp2
  go_ret
  exact ⟨rfl, rfl⟩

/-- What Steps keeps of its own: the box of yield, the sum under way, the pointer to it, the box of how many there are. -/
def StepsOwn (g l n : Nat) (s : Int) (w : World) : Prop :=
  Blk w g 51 #[.func (.yield l) #[] #[]] ∧ Blk w (g + 1) 48 #[.int .u64 s] ∧ Blk w (g + 1 + 1) 45 #[.pointer (some ⟨g + 1, 0, none⟩)] ∧ Blk w (g + 1 + 1 + 1) 3 #[.int .i64 n]
theorem StepsOwn.same {g l n : Nat} {s : Int} {w w' : World} (h : StepsOwn g l n s w) (hb : ∀ b, g ≤ b → b < g + 4 → w'.heap[b]? = w.heap[b]?) : StepsOwn g l n s w' :=
  ⟨(hb _ (by omega) (by omega)).trans h.1, (hb _ (by omega) (by omega)).trans h.2.1, (hb _ (by omega) (by omega)).trans h.2.2.1, (hb _ (by omega) (by omega)).trans h.2.2.2⟩

set_option maxRecDepth 100000 in
set_option maxHeartbeats 2000000 in
/-- The steps: each word's place, and the sum up to it. -/
theorem steps_iter (b : Nat) (xs : List Int) (A : Option Addr) (n c B : Nat) (hn : n ≤ 4096) (hx : xs.length = n) :
    IterC true Try.prog 23 #[.pointer (some ⟨b, 0, none⟩)] n (fun k => #[.int .i64 k, .int .u64 (mor fnv (xs.take (k + 1)))])
      (fun W => W.cell? ⟨b, 0, none⟩ = some (.slice A n c) ∧ U64s W B A n xs) := by
  intro m l W J Jx hJ hJx hR hR2 hY h0
  refine callsIn_of_wp_marks Try.func23 rfl trivial ?_ rfl
  simp only [Try.ntmps23, List.size_toArray, List.length_cons, List.length_nil, Nat.reduceAdd, Nat.reduceSub, Array.replicate_succ, Array.replicate_zero, List.push_toArray, List.append_toArray, List.nil_append, List.cons_append]
  have hc := (hR 0 W h0).1.1
  gi_wp2
  refine wpIn_scope_straight ?_
  have hc3 : (((W.alloc (.cells #[.func (.yield l) #[] #[]] 51)).alloc (.cells #[.int .u64 14695981039346656037] 48)).alloc (.cells #[.pointer (some ⟨W.heap.size + 1, 0, none⟩)] 45)).cell? ⟨b, 0, none⟩ = some (.slice A n c) :=
    cell_al _ (cell_al _ (cell_al _ hc))
  gi_wp2_with (refine ⟨trivial, ?_⟩; gi_at_call 24; refine (callsIn_wide.2 (count_any _ _)).mono ?_; rintro e w' ⟨rfl, rfl⟩)
  refine wpIn_label ?_
  gi_wp2_with fail
  refine (callsIn_wide.2 (count_any _ _)).mono ?_
  rintro e w' ⟨rfl, rfl⟩
  gi_wp2_with fail
  have k0 : Blk (W.alloc (.cells #[.func (.yield l) #[] #[]] 51)) W.heap.size 51 #[.func (.yield l) #[] #[]] := Blk.new W 51 _
  have k1 := Blk.new (W.alloc (.cells #[.func (.yield l) #[] #[]] 51)) 48 #[.int .u64 14695981039346656037]
  have k2 := Blk.new ((W.alloc (.cells #[.func (.yield l) #[] #[]] 51)).alloc (.cells #[.int .u64 14695981039346656037] 48)) 45 #[.pointer (some ⟨W.heap.size + 1, 0, none⟩)]
  have k3 := Blk.new (((W.alloc (.cells #[.func (.yield l) #[] #[]] 51)).alloc (.cells #[.int .u64 14695981039346656037] 48)).alloc (.cells #[.pointer (some ⟨W.heap.size + 1, 0, none⟩)] 45)) 3 #[.int .i64 n]
  have b4 : Below W.heap.size W ((((W.alloc (.cells #[.func (.yield l) #[] #[]] 51)).alloc (.cells #[.int .u64 14695981039346656037] 48)).alloc (.cells #[.pointer (some ⟨W.heap.size + 1, 0, none⟩)] 45)).alloc (.cells #[.int .i64 n] 3)) :=
    ((((Below.refl _ W).alloc (Nat.le_refl _) _).alloc (by simp) _).alloc (by simp; omega) _).alloc (by simp; omega) _
  have s4 : ((((W.alloc (.cells #[.func (.yield l) #[] #[]] 51)).alloc (.cells #[.int .u64 14695981039346656037] 48)).alloc (.cells #[.pointer (some ⟨W.heap.size + 1, 0, none⟩)] 45)).alloc (.cells #[.int .i64 n] 3)).heap.size = W.heap.size + 4 := by simp
  replace k0 := ((k0.alloc (.cells #[.int .u64 14695981039346656037] 48)).alloc (.cells #[.pointer (some ⟨W.heap.size + 1, 0, none⟩)] 45)).alloc (.cells #[.int .i64 n] 3)
  replace k1 := (k1.alloc (.cells #[.pointer (some ⟨W.heap.size + 1, 0, none⟩)] 45)).alloc (.cells #[.int .i64 n] 3)
  replace k2 := k2.alloc (.cells #[.int .i64 n] 3)
  simp only [World.size_alloc] at k0 k1 k2 k3
  clear hc3 hc
  have hsz := Lib.hid s4
  clear s4
  generalize ((((W.alloc (.cells #[.func (.yield l) #[] #[]] 51)).alloc (.cells #[.int .u64 14695981039346656037] 48)).alloc (.cells #[.pointer (some ⟨W.heap.size + 1, 0, none⟩)] 45)).alloc (.cells #[.int .i64 n] 3)) = w4 at *
  have own4 : StepsOwn W.heap.size l n (mor fnv (xs.take 0)) w4 := ⟨k0, k1, k2, k3⟩
  have hJ4 : ∀ k X Y, J k X → W.heap.size ≤ X.heap.size → Below W.heap.size X Y → J k Y := fun k X Y h hle hb => hJ k X Y h hle hb
  have hJx4 : ∀ k X Y, Jx k X → W.heap.size ≤ X.heap.size → Below W.heap.size X Y → Jx k Y := fun k X Y h hle hb => hJx k X Y h hle hb
  have h04 : J 0 w4 := hJ4 0 W w4 h0 (Nat.le_refl _) b4
  have hs4 := hsz.out
  clear k0 k1 k2 k3 h0 hJ hJx
  refine rangeFunc_law (gf := 28) (lb := #[.pointer (some ⟨W.heap.size + 1 + 1 + 1, 0, none⟩)]) rfl (enters_of Try.func28 (by kernel_rfl) rfl) (count_iter (W.heap.size + 1 + 1 + 1) n (by unfold maxLen; omega)) (fun _ => rfl)
    (fun k X => J k X ∧ StepsOwn W.heap.size l n (mor fnv (xs.take k)) X) (fun c k X => c = .exit 0 ∧ Jx k X) ?hI ?hIx ?hIl ?hIxl ?hIR ?h0 ?hround ?hdone ?hstop
  case hI =>
    rintro k X Y ⟨hj, ho⟩ hle hb
    simp only [Bool.false_eq_true, if_false] at hb
    exact ⟨hJ4 k X Y hj (by omega) (hb.mono (by omega)), ho.same fun b h1 h2 => hb.block b (by omega)⟩
  case hIx =>
    rintro c k X Y ⟨hc, hj⟩ hle hb
    simp only [Bool.false_eq_true, if_false] at hb
    exact ⟨hc, hJx4 k X Y hj (by omega) (hb.mono (by omega))⟩
  case hIl =>
    rintro k X Y ⟨hj, ho⟩ hb
    exact ⟨hJ4 k X Y hj (hR k X hj).2 (below_only hb (by omega) (hR k X hj).2), ho.same fun b h1 h2 => hb.block b (by have := (hR k X hj).2; have := ho.2.2.2.lt; omega) (by simp; omega)⟩
  case hIxl =>
    rintro c k X Y ⟨hc, hj⟩ hb
    exact ⟨hc, hJx4 k X Y hj (hR2 k X hj) (below_only hb (by omega) (hR2 k X hj))⟩
  case hIR =>
    rintro k X ⟨hj, ho⟩
    simpa using ho.2.2.2.cell 0
  case h0 =>
    intro W1 hb
    exact ⟨hJ4 0 w4 W1 h04 (by omega) (hb.mono (by omega)), own4.same fun b h1 h2 => hb.block b (by omega)⟩
  case hround =>
    rintro k X hk ⟨hj, ho⟩ hle
    gi_wp2
    refine ⟨Bk.refl _ _, fun Y hY2 hs2 => ?_⟩
    have hjY : J k Y := hJ4 k X Y hj (by omega) (below_only hY2 (by omega) (by omega))
    have hoY : StepsOwn W.heap.size l n (mor fnv (xs.take k)) Y := ho.same fun b' h1 h2 => hY2.block b' (by omega) (by simp; omega)
    have hst : Hid (mor fnv (xs.take (k + 1)) = stp (mor fnv (xs.take k)) (xs[k]'(by omega))) := mor_take fnv xs k (by omega)
    have ⟨⟨cb, hrY⟩, _⟩ := hR k Y hjY
    obtain ⟨ad, rfl, hbl, hce⟩ := hrY.at_ hk
    have c1 := hoY.2.2.1.cell 0
    have c2 := hoY.1.cell 0
    simp at c1 c2
    have hord : Try.prog.follows .mixedOrders = true := by kernel_rfl
    have hH1 := Lib.hid hs2
    have hH2 := Lib.hid hsz.out
    have HJ := Lib.hid hJ4
    have HJx := Lib.hid hJx4
    clear hs2 hs4 hJ4 hJx4 hR hR2 h04 own4 hj ho
    gi_wp2
    refine draw_round 5 hord (by kernel_rfl) (by kernel_rfl) ?_
    simp only [List.take_succ_cons, List.take_zero, List.drop_succ_cons, List.drop_zero]
    repeat still_step
    refine wpStill_nil ?_
    gi_wp2_with fail
    refine (calls_round _ _ (add_any _ _ _ _ hoY.2.1.drew)).mono ?_
    rintro e w' ⟨rfl, rfl⟩
    have hlY : W.heap.size + 2 < Y.heap.size := by have := hoY.2.2.1.lt; omega
    have bZ : Below W.heap.size Y (Y.drew.setCell ⟨W.heap.size + 1, 0, none⟩ (.int .u64 (stp (mor fnv (xs.take k)) (xs[k]'(by omega))))) :=
      ((Below.refl _ Y).drew.setCell (p := ⟨W.heap.size + 1, 0, none⟩) (by simp) _)
    have hoZ : StepsOwn W.heap.size l n (mor fnv (xs.take (k + 1))) (Y.drew.setCell ⟨W.heap.size + 1, 0, none⟩ (.int .u64 (stp (mor fnv (xs.take k)) (xs[k]'(by omega))))) := by
      rw [hst.out]
      exact ⟨hoY.1.drew.far (p := ⟨W.heap.size + 1, 0, none⟩) (by simp <;> omega) _, hoY.2.1.drew.set_ 0 _, hoY.2.2.1.drew.far (p := ⟨W.heap.size + 1, 0, none⟩) (by simp <;> omega) _, hoY.2.2.2.drew.far (p := ⟨W.heap.size + 1, 0, none⟩) (by simp <;> omega) _⟩
    have kZ : Bk w4.heap.size Y (Y.drew.setCell ⟨W.heap.size + 1, 0, none⟩ (.int .u64 (stp (mor fnv (xs.take k)) (xs[k]'(by omega))))) := by
      have h2 := hH2.out
      refine ⟨bZ.size, ?_, ?_⟩
      · exact Below.heap_setCell Y.drew ⟨W.heap.size + 1, 0, none⟩ _ w4.heap.size (by simp; omega)
      · exact Below.heap_setCell Y.drew ⟨W.heap.size + 1, 0, none⟩ _ (w4.heap.size + 1) (by simp; omega)
    generalize (Y.drew.setCell ⟨W.heap.size + 1, 0, none⟩ (.int .u64 (stp (mor fnv (xs.take k)) (xs[k]'(by omega))))) = Z at *
    have hjZ : J k Z := HJ.out k Y Z hjY (by omega) bZ
    clear c1 c2 cb hce hoY hjY
    have c1 := hoZ.2.2.1.cell 0
    have c2 := hoZ.1.cell 0
    have c3 := hoZ.2.1.cell 0
    simp at c1 c2 c3
    have hj5 : J k Z.drew := HJ.out k Z _ hjZ (by have := bZ.size; omega) ((Below.refl _ Z).drew)
    obtain ⟨fn, tmps, assign, body, hy, hRd⟩ := hY k Z.drew hk hj5
    clear hY
    gi_wp2
    refine draw_round 6 hord (by kernel_rfl) (by kernel_rfl) ?_
    simp only [List.take_succ_cons, List.take_zero, List.drop_succ_cons, List.drop_zero]
    repeat still_step
    refine wpStill_nil ?_
    gi_wp2
    refine (round_any hRd).mono ?_
    rintro e V ⟨hkp, hres⟩
    obtain ⟨hzV, hkV⟩ := hkp rfl
    have hh2 := hH2.out
    have hh1 := hH1.out
    have hlZ : Y.heap.size ≤ Z.heap.size := bZ.size
    have hoV : StepsOwn W.heap.size l n (mor fnv (xs.take (k + 1))) V := hoZ.same fun b' h1 h2 => hkV b' h1 (by show _ < Z.heap.size; omega)
    have kV : Bk w4.heap.size Y V := kZ.trans ⟨hzV, hkV _ (by omega) (by show _ < Z.heap.size; omega), hkV _ (by omega) (by show _ < Z.heap.size; omega)⟩
    clear hh1 hh2 hkV c1 c2 c3 hy
    rcases hres with ⟨rfl, hj'⟩ | ⟨rfl, hj'⟩
    · gi_wp2
      exact ⟨kV, (fun e => by cases e), hj', hoV⟩
    · gi_wp2
      exact ⟨kV, (fun e => by cases e), rfl, hj'⟩
  case hdone =>
    rintro W' ⟨hj, ho⟩ hle hD
    gi_wp2
    rw [Exit.noGoto_normal]
    refine ⟨by simp, .inl ⟨_, _, rfl, run_takeDeferred hD, ?_⟩⟩
    exact ⟨_, results_none rfl _ _ _, ⟨_, rfl⟩, .inl (hJ4 n W' _ hj (by omega) (below_only (grown_put W' _ _) (by omega) (by omega)))⟩
  case hstop =>
    rintro c k W' hk0 hkn ⟨rfl, hj⟩ hle hD
    gi_wp2
    rw [Exit.noGoto_normal]
    refine ⟨by simp, .inl ⟨_, _, rfl, run_takeDeferred hD, ?_⟩⟩
    exact ⟨_, results_none rfl _ _ _, ⟨_, rfl⟩, .inr ⟨k, hk0, hkn, hJx4 k W' _ hj (by omega) (below_only (grown_put W' _ _) (by omega) (by omega))⟩⟩
end Go.Proofs.Ytbdlkcdiioleiaa
