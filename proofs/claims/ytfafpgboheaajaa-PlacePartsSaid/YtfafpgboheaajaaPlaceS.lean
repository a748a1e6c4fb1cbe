/- The walk of the law's run: the places of a run, so many at most. Conditions: numbers of 64 bits. -/
import Derived.Test.YtfafpgboheaajaaPlaceR
namespace Go.Proofs.Ytfafpgboheaajaa
open Go.RowKit
attribute [local go_sem] Oper.semAt_some wide_fn wide_depth

theorem own_below {X Y : World} {base : Nat} {e : TypeId} {size n : Nat} {v : Value} {xs : List Value} (h : X.ownsRow base e size v n xs) (hb : Below X.heap.size X Y) : Y.ownsRow base e size v n xs :=
  h.kept (row := none) ⟨hb.os, hb.tape, hb.output, hb.size, fun i hi _ => hb.block i hi⟩ (by
    cases h' : v.ownBlock
    · exact .inl rfl
    · exact .inr (by simp))
theorem own_form {w : World} {base : Nat} {e : TypeId} {size n : Nat} {v : Value} {xs : List Value} (h : w.ownsRow base e size v n xs) : ∃ A c, v = .slice A n c := by
  rcases h.2 with ⟨rfl, rfl⟩ | ⟨g, c, _, rfl, _⟩
  · exact ⟨_, _, rfl⟩
  · exact ⟨_, _, rfl⟩
theorem own_more {w : World} {base base' : Nat} {e : TypeId} {size n : Nat} {v : Value} {xs : List Value} (h : w.ownsRow base e size v n xs) (hb : base' ≤ base) : w.ownsRow base' e size v n xs := by
  refine ⟨h.1, ?_⟩
  rcases h.2 with hn | ⟨g, c, cur, rfl, h1, h2⟩
  · exact .inl hn
  · exact .inr ⟨g, c, cur, rfl, Nat.le_trans hb h1, h2⟩
theorem grownBy_setCell' (w : World) (b : Nat) (u : Value) : w.grownBy (w.setCell ⟨b, 0, none⟩ u) (some b) := only_setCell ⟨rfl, rfl, rfl, Nat.le_refl _, fun _ _ _ => rfl⟩ (.inl rfl) u

/-- The first places of a run. -/
def pts (a b : Int) (k : Nat) : List (Int × Int) := (List.range k).map (runAt a b)
theorem pts_succ (a b : Int) (k : Nat) : pts a b (k + 1) = pts a b k ++ [runAt a b k] := by
  unfold pts
  rw [List.range_succ, List.map_append]
  rfl
theorem pts_len (a b : Int) (k : Nat) : (pts a b k).length = k := by simp [pts]

/-- What holds between two rounds, k places having come. -/
def RunIn (B : Nat) (a b m most : Int) (w : World) (k : Nat) (X : World) : Prop :=
  (∃ v, Blk X (B + 1 + 1) 39 #[v] ∧ X.ownsRow (B + 9) 23 2 v k (pcells (pts a b k))) ∧ Blk X B 23 #[.int .i64 a, .int .i64 b] ∧ Blk X (B + 1) 3 #[.int .i64 most] ∧ Blk X (B + 5) 23 #[.int .i64 a, .int .i64 b] ∧ Blk X (B + 6) 3 #[.int .i64 m] ∧ Below B w X
theorem RunIn.below {B : Nat} {a b m most : Int} {w : World} {k : Nat} {X Y : World} (h : RunIn B a b m most w k X) (hb : Below X.heap.size X Y) : RunIn B a b m most w k Y := by
  obtain ⟨⟨v, h1, h2⟩, h3, h4, h5, h6, h7⟩ := h
  exact ⟨⟨v, h1.below hb h1.lt, own_below h2 hb⟩, h3.below hb h3.lt, h4.below hb h4.lt, h5.below hb h5.lt, h6.below hb h6.lt, h7.trans (hb.mono (by have := h3.lt; omega))⟩
theorem RunIn.only {B : Nat} {a b m most : Int} {w : World} {k : Nat} {X Y : World} (h : RunIn B a b m most w k X) (hb : X.grownBy Y (some (B + 7 + 1))) : RunIn B a b m most w k Y := by
  obtain ⟨⟨v, h1, h2⟩, h3, h4, h5, h6, h7⟩ := h
  refine ⟨⟨v, blk_only h1 hb (by omega), h2.kept hb ?_⟩, blk_only h3 hb (by omega), blk_only h4 hb (by omega), blk_only h5 hb (by omega), blk_only h6 hb (by omega), h7.trans (below_only hb (by omega) (by have := h3.lt; omega))⟩
  cases h' : v.ownBlock with
  | none => exact .inl rfl
  | some g =>
    refine .inr ?_
    have := h2.lt g h'
    simp
    omega

theorem cell_two_new (w : World) (a b : Value) (t : TypeId) (j : Nat) (u : Value) (h : [a, b][j]? = some u) : (w.alloc (.cells #[a, b] t)).cell? ((⟨w.heap.size, 0, none⟩ : Addr).add j) = some u := by
  rw [add_zero_off, (Blk.new w t #[a, b]).cell j]
  simpa using h

theorem infoPlace : (Try.prog.info? 23).map (fun i => (i.zero, i.size, i.bytes)) = some (some (.agg #[.int .i64 0, .int .i64 0]), 2, 16) := by kernel_rfl

/-- How many places the law's run takes. -/
def lrunN (a b m most : Int) : Nat := min (runN a b m) (max 1 most.toNat)
theorem runN_le (a b m : Int) : runN a b m ≤ 8192 := by
  unfold runN
  split
  · next h =>
    obtain ⟨h1, h2, h3, h4⟩ := (inPlace_iff a b).1 h
    omega
  · omega

set_option maxRecDepth 100000 in
set_option maxHeartbeats 2000000 in
theorem lrun_any (a b m most : Int) (w : World) (hm : -9223372036854775808 ≤ m ∧ m ≤ 9223372036854775807) :
    Calls Try.prog 22 #[.agg #[.int .i64 a, .int .i64 b], .int .i64 m, .int .i64 most] w fun e w' => ∃ v, e = .returned v ∧
      w'.ownsRow w.heap.size 23 2 v (lrunN a b m most) (pcells (pts a b (lrunN a b m most))) ∧ Below w.heap.size w w' := by
  obtain ⟨i0, hi0, hz0, hz1, hz2⟩ : ∃ i, Try.prog.info? 23 = some i ∧ i.zero = some (.agg #[.int .i64 0, .int .i64 0]) ∧ i.size = 2 ∧ i.bytes = 16 := by
    have h := infoPlace
    cases h' : Try.prog.info? 23 with
    | none => rw [h'] at h; cases h
    | some i =>
      rw [h'] at h
      simp only [Option.map_some, Option.some.injEq, Prod.mk.injEq] at h
      exact ⟨i, rfl, h⟩
  refine (callsIn_wide (n := 3)).1 (callsIn_of_wp_marks Try.func22 rfl trivial ?_ rfl)
  simp only [Try.ntmps22, List.size_toArray, List.length_cons, List.length_nil, Nat.reduceAdd, Nat.reduceSub, Array.replicate_succ, Array.replicate_zero, List.push_toArray, List.append_toArray, List.nil_append, List.cons_append]
  have hnf : ∀ (p q : Nat) (W : World), (binOp .eql 57 (.func (.func 32) #[] #[.pointer (some ⟨p, 0, none⟩), .pointer (some ⟨q, 0, none⟩)]) .nilFunc).run Try.prog W = .ok (.bool false) W := fun p q W => by kernel_rfl
  gi_wp2_with fail
  refine (callsIn_wide.2 (mkrun_any _ _ _ _)).mono ?_
  rintro e w1 ⟨rfl, rfl⟩
  gi_wp2_with fail
  refine (callsIn_wide.2 (mkrun_any _ _ _ _)).mono ?_
  rintro e w1 ⟨rfl, rfl⟩
  gi_wp2_with fail
  have hin0 : ∀ W7, W7 = (((((((w.alloc (.cells #[.int .i64 a, .int .i64 b] 23)).alloc (.cells #[.int .i64 most] 3)).alloc (.cells #[.slice none 0 0] 39)).alloc (.cells #[.int .i64 a, .int .i64 b] 23)).alloc (.cells #[.int .i64 m] 3)).alloc (.cells #[.int .i64 a, .int .i64 b] 23)).alloc (.cells #[.int .i64 m] 3)) → RunIn w.heap.size a b m most w 0 W7 ∧ W7.heap.size = w.heap.size + 7 := by
    rintro W7 rfl
    have k0 := Blk.new w 23 #[.int .i64 a, .int .i64 b]
    have k1 := Blk.new (w.alloc (.cells #[.int .i64 a, .int .i64 b] 23)) 3 #[.int .i64 most]
    have k2 := Blk.new ((w.alloc (.cells #[.int .i64 a, .int .i64 b] 23)).alloc (.cells #[.int .i64 most] 3)) 39 #[.slice none 0 0]
    have k3 := Blk.new (((w.alloc (.cells #[.int .i64 a, .int .i64 b] 23)).alloc (.cells #[.int .i64 most] 3)).alloc (.cells #[.slice none 0 0] 39)) 23 #[.int .i64 a, .int .i64 b]
    have k4 := Blk.new ((((w.alloc (.cells #[.int .i64 a, .int .i64 b] 23)).alloc (.cells #[.int .i64 most] 3)).alloc (.cells #[.slice none 0 0] 39)).alloc (.cells #[.int .i64 a, .int .i64 b] 23)) 3 #[.int .i64 m]
    have k5 := Blk.new (((((w.alloc (.cells #[.int .i64 a, .int .i64 b] 23)).alloc (.cells #[.int .i64 most] 3)).alloc (.cells #[.slice none 0 0] 39)).alloc (.cells #[.int .i64 a, .int .i64 b] 23)).alloc (.cells #[.int .i64 m] 3)) 23 #[.int .i64 a, .int .i64 b]
    have k6 := Blk.new ((((((w.alloc (.cells #[.int .i64 a, .int .i64 b] 23)).alloc (.cells #[.int .i64 most] 3)).alloc (.cells #[.slice none 0 0] 39)).alloc (.cells #[.int .i64 a, .int .i64 b] 23)).alloc (.cells #[.int .i64 m] 3)).alloc (.cells #[.int .i64 a, .int .i64 b] 23)) 3 #[.int .i64 m]
    replace k0 := ((((((k0.alloc (.cells #[.int .i64 most] 3)).alloc (.cells #[.slice none 0 0] 39)).alloc (.cells #[.int .i64 a, .int .i64 b] 23)).alloc (.cells #[.int .i64 m] 3)).alloc (.cells #[.int .i64 a, .int .i64 b] 23)).alloc (.cells #[.int .i64 m] 3))
    replace k1 := (((((k1.alloc (.cells #[.slice none 0 0] 39)).alloc (.cells #[.int .i64 a, .int .i64 b] 23)).alloc (.cells #[.int .i64 m] 3)).alloc (.cells #[.int .i64 a, .int .i64 b] 23)).alloc (.cells #[.int .i64 m] 3))
    replace k2 := ((((k2.alloc (.cells #[.int .i64 a, .int .i64 b] 23)).alloc (.cells #[.int .i64 m] 3)).alloc (.cells #[.int .i64 a, .int .i64 b] 23)).alloc (.cells #[.int .i64 m] 3))
    replace k3 := (((k3.alloc (.cells #[.int .i64 m] 3)).alloc (.cells #[.int .i64 a, .int .i64 b] 23)).alloc (.cells #[.int .i64 m] 3))
    replace k4 := ((k4.alloc (.cells #[.int .i64 a, .int .i64 b] 23)).alloc (.cells #[.int .i64 m] 3))
    replace k5 := (k5.alloc (.cells #[.int .i64 m] 3))
    simp only [World.size_alloc, Nat.add_assoc, Nat.reduceAdd] at k0 k1 k2 k3 k4 k5 k6
    exact ⟨⟨⟨_, k2, by simpa [pts, pcells] using World.ownsRow_nil _ _ _ _⟩, k0, k1, k5, k6, ((((((((Below.refl _ w).alloc (Nat.le_refl _) (.cells #[.int .i64 a, .int .i64 b] 23)).alloc (by simp <;> omega) (.cells #[.int .i64 most] 3)).alloc (by simp <;> omega) (.cells #[.slice none 0 0] 39)).alloc (by simp <;> omega) (.cells #[.int .i64 a, .int .i64 b] 23)).alloc (by simp <;> omega) (.cells #[.int .i64 m] 3)).alloc (by simp <;> omega) (.cells #[.int .i64 a, .int .i64 b] 23)).alloc (by simp <;> omega) (.cells #[.int .i64 m] 3))⟩, by simp⟩
  obtain ⟨in0, hs7⟩ := hin0 _ rfl
  clear hin0
  generalize (((((((w.alloc (.cells #[.int .i64 a, .int .i64 b] 23)).alloc (.cells #[.int .i64 most] 3)).alloc (.cells #[.slice none 0 0] 39)).alloc (.cells #[.int .i64 a, .int .i64 b] 23)).alloc (.cells #[.int .i64 m] 3)).alloc (.cells #[.int .i64 a, .int .i64 b] 23)).alloc (.cells #[.int .i64 m] 3)) = W7 at *
  have Hs7 := Lib.hid hs7
  clear hs7 hnf
  have hN := Lib.hid (runN_le a b m)
  refine rangeFunc_break (gf := 32) (lb := #[.pointer (some ⟨w.heap.size + 1 + 1 + 1 + 1 + 1, 0, none⟩), .pointer (some ⟨w.heap.size + 1 + 1 + 1 + 1 + 1 + 1, 0, none⟩)]) rfl (enters_of Try.func32 (by kernel_rfl) rfl) (run_iter (w.heap.size + 1 + 1 + 1 + 1 + 1) (w.heap.size + 1 + 1 + 1 + 1 + 1 + 1) a b m hm) (fun _ => rfl)
    (fun k Y => RunIn w.heap.size a b m most w k Y ∧ (k = 0 ∨ (k : Int) < most))
    (fun k Y => RunIn w.heap.size a b m most w k Y ∧ most ≤ k ∧ (k = 1 ∨ (k : Int) - 1 < most))
    (fun Y => RunIn w.heap.size a b m most w (lrunN a b m most) Y)
    ?hI ?hIx ?hIl ?hIxl ?hIR ?h0 ?hround ?hG1 ?hG2 ?rest
  case hI =>
    rintro k Y Z ⟨hi, hf⟩ hle hb
    simp only [Bool.false_eq_true, if_false] at hb
    exact ⟨hi.below hb, hf⟩
  case hIx =>
    rintro k Y Z ⟨hi, hf⟩ hle hb
    simp only [Bool.false_eq_true, if_false] at hb
    exact ⟨hi.below hb, hf⟩
  case hIl =>
    rintro k Y Z ⟨hi, hf⟩ hb
    rw [Hs7.out] at hb
    exact ⟨hi.only hb, hf⟩
  case hIxl =>
    rintro k Y Z ⟨hi, hf⟩ hb
    rw [Hs7.out] at hb
    exact ⟨hi.only hb, hf⟩
  case hIR =>
    rintro k Y ⟨⟨_, _, _, h5, h6, _⟩, _⟩
    exact ⟨⟨by simpa using h5.cell 0, by simpa using h5.cell 1⟩, by simpa using h6.cell 0⟩
  case h0 =>
    intro Y hb
    exact ⟨in0.below hb, .inl rfl⟩
  case hG1 =>
    rintro Y ⟨hi, hf⟩
    have e : lrunN a b m most = runN a b m := by unfold lrunN; omega
    rw [e]
    exact hi
  case hG2 =>
    rintro k Y hk0 hkn ⟨hi, h1, h2⟩
    have e : lrunN a b m most = k := by unfold lrunN; omega
    rw [e]
    exact hi
  case hround =>
    rintro k Y hk ⟨hi, hf⟩ hle
    gi_wp2
    have hb0 := (Below.refl Y.heap.size Y).alloc (Nat.le_refl _) (.cells #[.int .i64 (runAt a b k).1, .int .i64 (runAt a b k).2] 23)
    refine ⟨Bk.of_below hb0 hle, fun Z hYZ hsz => ?_⟩
    have hiY := hi.below hb0
    have hbk : Blk Z Y.heap.size 23 #[.int .i64 (runAt a b k).1, .int .i64 (runAt a b k).2] := (Blk.new Y _ _).grown hYZ (by simp; omega)
    rw [Hs7.out] at hYZ
    have hiZ := hiY.only hYZ
    have hsucc := pts_succ a b k
    obtain ⟨⟨x, y⟩, hxy⟩ : ∃ p, runAt a b k = p := ⟨_, rfl⟩
    rw [hxy] at hbk hsucc ⊢
    clear hi hiY hb0
    obtain ⟨⟨v, hbox, hrow⟩, h3, h4, h5, h6, h7⟩ := hiZ
    have hvb : ∀ c, v.ownBlock = some c → w.heap.size + 9 ≤ c ∧ c < Z.heap.size := hrow.lt
    have hzs : w.heap.size + 9 ≤ Z.heap.size := by
      have := hbk.lt
      have := Hs7.out
      omega
    have hfin : ∀ (w1 : World) (g' cap' : Nat), w1.ownsRow (w.heap.size + 9) 23 2 (.slice (some ⟨g', 0, none⟩) (k + 1) cap') (k + 1) (pcells (pts a b k) ++ [.int .i64 x, .int .i64 y]) → (Z.alloc (.cells #[.int .i64 x, .int .i64 y] 23)).grownBy w1 v.ownBlock →
        Blk w1 (w.heap.size + 1 + 1) 39 #[v] ∧ Blk w1 (w.heap.size + 1) 3 #[.int .i64 most] ∧ Bk W7.heap.size Z (w1.setCell ⟨w.heap.size + 1 + 1, 0, none⟩ (.slice (some ⟨g', 0, none⟩) (k + 1) cap')) ∧ Kp false (W7.heap.size + 2) Y (w1.setCell ⟨w.heap.size + 1 + 1, 0, none⟩ (.slice (some ⟨g', 0, none⟩) (k + 1) cap')) ∧
          RunIn w.heap.size a b m most w (k + 1) (w1.setCell ⟨w.heap.size + 1 + 1, 0, none⟩ (.slice (some ⟨g', 0, none⟩) (k + 1) cap')) := by
      intro w1 g' cap' q1 q2
      have s7 := Hs7.out
      have hlow : ∀ c, c < w.heap.size + 9 → w1.heap[c]? = Z.heap[c]? := fun c hc =>
        (q2.block c (by simp; omega) (fun e => by have := hvb c e.symm; omega)).trans (Below.heap_alloc Z _ c (by omega))
      have hset : ∀ c, c ≠ w.heap.size + 1 + 1 → (w1.setCell ⟨w.heap.size + 1 + 1, 0, none⟩ (.slice (some ⟨g', 0, none⟩) (k + 1) cap')).heap[c]? = w1.heap[c]? := fun c hc => Below.heap_setCell w1 ⟨w.heap.size + 1 + 1, 0, none⟩ _ c hc
      have hb1' : Blk w1 (w.heap.size + 1 + 1) 39 #[v] := (hlow _ (by omega)).trans hbox
      have hg' : w.heap.size + 9 ≤ g' := (q1.lt g' rfl).1
      have hsz1 : Z.heap.size + 1 ≤ w1.heap.size := by have := q2.size; simpa using this
      refine ⟨hb1', (hlow _ (by omega)).trans h4, ⟨?_, ?_, ?_⟩, (fun e => by cases e), ⟨.slice (some ⟨g', 0, none⟩) (k + 1) cap', ?_, ?_⟩, ?_, ?_, ?_, ?_, ?_⟩
      · simp [World.setCell]; omega
      · exact (hset _ (by omega)).trans (hlow _ (by omega))
      · exact (hset _ (by omega)).trans (hlow _ (by omega))
      · simpa using hb1'.set_ 0 (.slice (some ⟨g', 0, none⟩) (k + 1) cap')
      · have h8 : (w1.setCell ⟨w.heap.size + 1 + 1, 0, none⟩ (.slice (some ⟨g', 0, none⟩) (k + 1) cap')).ownsRow (w.heap.size + 9) 23 2 (.slice (some ⟨g', 0, none⟩) (k + 1) cap') (k + 1) (pcells (pts a b k) ++ [.int .i64 x, .int .i64 y]) :=
          q1.kept (row := some (w.heap.size + 1 + 1)) (grownBy_setCell' w1 _ _) (.inr (by simp [Value.ownBlock]; omega))
        rw [hsucc, pcells_app]
        exact h8
      · exact (hset _ (by omega)).trans ((hlow _ (by omega)).trans h3)
      · exact (hset _ (by omega)).trans ((hlow _ (by omega)).trans h4)
      · exact (hset _ (by omega)).trans ((hlow _ (by omega)).trans h5)
      · exact (hset _ (by omega)).trans ((hlow _ (by omega)).trans h6)
      · have q3 : Below w.heap.size Z w1 := ⟨q2.os, q2.tape, q2.output, by omega, fun c hc => hlow c (by omega)⟩
        exact (h7.trans q3).setCell (p := ⟨w.heap.size + 1 + 1, 0, none⟩) (by simp; omega) _
    have Hfin := Lib.hid hfin
    have cb := hbox.cell 0
    have fb := hbox.frozen 0
    have cx := hbk.cell 0
    have cy := hbk.cell 1
    simp at cb cx cy
    have hbz := hbox.lt
    have hN' := hN.out
    clear hfin hvb h3 h4 h5 h6 h7 hsucc hxy hsz
    gi_wp2_with (gi_at_builtin; go_must (refine wpListIn_append_own _ rfl _ _ 39 rfl (w.heap.size + 9) 23 i0 (.agg #[.int .i64 0, .int .i64 0]) 2 16 Try.underlying39 hi0 hz0 hz1 hz2 rfl (by decide) v k (pcells (pts a b k)) rfl (hrow.alloc _) ⟨Z.heap.size, 0, none⟩ 1 1 [.int .i64 x, .int .i64 y] rfl rfl (by exact cell_two_new _ _ _ _) (by simp [Value.oneCell']) (by simp only [maxLen]; omega) (by omega) (by simp; omega) ?_); intro v' w1 hown' hgrow _; obtain ⟨g', cap', rfl, hg1', hg2'⟩ := hown'.form (by omega); obtain ⟨hb5, hb6, hb7, hb8, hb9⟩ := Hfin.out w1 g' cap' hown' hgrow; have cb5 := hb5.cell 0; have fb5 := hb5.frozen 0; have cm5 := hb6.cell 0; simp at cb5 cm5)
    · exact ⟨rfl, hb7, hb8, hb9, by omega, by omega⟩
    · exact ⟨hb7, hb8, hb9, by omega⟩
  case rest =>
    rintro Y hi hle hD
    obtain ⟨⟨v, hbox, hrow⟩, h3, h4, h5, h6, h7⟩ := hi
    have cb := hbox.cell 0
    have fb := hbox.frozen 0
    simp at cb
    gi_wp2_with fail
    have hD' := run_takeDeferred (P := Try.prog) hD
    have hq : W7.heap.size < Y.heap.size := (Array.getElem?_eq_some_iff.1 hD).1
    have hs7 := Hs7.out
    refine ⟨by simp, .inl ⟨_, _, rfl, hD', ?_⟩⟩
    have hb9 : Below (w.heap.size + 7) Y (Y.putObj W7.heap.size (.deferred none)) := below_only (grown_put _ _ _) (by omega) (by omega)
    refine ⟨v, by simp [results, Try.results22, go_sem], v, rfl, ?_, h7.trans (hb9.mono (by omega))⟩
    refine (own_more hrow (by omega)).kept (row := some W7.heap.size) (grown_put _ _ _) ?_
    cases h' : v.ownBlock with
    | none => exact .inl rfl
    | some g =>
      refine .inr ?_
      have := (hrow.lt g h').1
      simp
      omega
end Go.Proofs.Ytfafpgboheaajaa
