/- The walk of place.Lines. Conditions: a number of 64 bits. -/
import Derived.Test.YtfafpgboheaajaaQuietR
import Derived.Test.YtfafpgboheaajaaPlaceE
namespace Go.Proofs.Ytfafpgboheaajaa
open Go.RowKit
attribute [local go_sem] Oper.semAt_some wide_fn wide_depth

/-- What holds between two rounds of Lines, k places having come. -/
def LinesIn (B : Nat) (a b m : Int) (w : World) (k : Nat) (X : World) : Prop :=
  (∃ v, Blk X B 41 #[v] ∧ X.ownsRow (B + 5) 3 1 v (lns a b k).length (icells (lns a b k))) ∧ Blk X (B + 1) 23 #[.int .i64 a, .int .i64 b] ∧ Blk X (B + 1 + 1) 3 #[.int .i64 m] ∧ Below B w X
theorem LinesIn.below {B : Nat} {a b m : Int} {w : World} {k : Nat} {X Y : World} (h : LinesIn B a b m w k X) (hb : Below X.heap.size X Y) : LinesIn B a b m w k Y := by
  obtain ⟨⟨v, h1, h2⟩, h3, h4, h5⟩ := h
  exact ⟨⟨v, h1.below hb h1.lt, own_below h2 hb⟩, h3.below hb h3.lt, h4.below hb h4.lt, h5.trans (hb.mono (by have := h3.lt; omega))⟩
theorem LinesIn.only {B : Nat} {a b m : Int} {w : World} {k : Nat} {X Y : World} (h : LinesIn B a b m w k X) (hb : X.grownBy Y (some (B + 3 + 1))) : LinesIn B a b m w k Y := by
  obtain ⟨⟨v, h1, h2⟩, h3, h4, h5⟩ := h
  refine ⟨⟨v, blk_only h1 hb (by omega), h2.kept hb ?_⟩, blk_only h3 hb (by omega), blk_only h4 hb (by omega), h5.trans (below_only hb (by omega) (by have := h3.lt; omega))⟩
  cases h' : v.ownBlock with
  | none => exact .inl rfl
  | some g =>
    refine .inr ?_
    have := h2.lt g h'
    simp
    omega

/-- What Lines tells. -/
def plL (a b m : Int) : List Int := if inPlace a b && decide (0 ≤ m) && decide (m ≤ 8192 - (8 * a + b)) then lns a b (runN a b m) else []
def plE (a b m : Int) : Int := if inPlace a b && decide (0 ≤ m) then (if m ≤ 8192 - (8 * a + b) then 0 else 4) else 2

set_option maxRecDepth 100000 in
set_option maxHeartbeats 2000000 in
theorem plines_any (a b m : Int) (w : World) (hm : -9223372036854775808 ≤ m ∧ m ≤ 9223372036854775807) :
    Calls Try.prog 20 #[.agg #[.int .i64 a, .int .i64 b], .int .i64 m] w fun e w' => ∃ v, e = .returned (.tuple #[v, .int .i64 (plE a b m)]) ∧
      w'.ownsRow w.heap.size 3 1 v (plL a b m).length (icells (plL a b m)) ∧ Below w.heap.size w w' := by
  obtain ⟨i0, hi0, hz0, hz1, hz2⟩ := info_int
  have hord : Try.prog.follows .mixedOrders = true := by kernel_rfl
  have hk0 := Lib.hid (Blk.new w 23 #[.int .i64 a, .int .i64 b])
  refine (callsIn_wide (n := 3)).1 (callsIn_of_wp_marks Try.func20 rfl trivial ?_ rfl)
  simp only [Try.ntmps20, List.size_toArray, List.length_cons, List.length_nil, Nat.reduceAdd, Nat.reduceSub, Array.replicate_succ, Array.replicate_zero, List.push_toArray, List.append_toArray, List.nil_append, List.cons_append]
  gi_wp2_with fail
  refine wpIn_scope_straight ?_
  gi_wp2_with fail
  refine (callsIn_wide.2 (address_any a b _)).mono ?_
  rintro e w1 ⟨rfl, hb⟩
  have hbb := Lib.hid (below_boxed hb)
  have hk1 := hk0.out.below hb hk0.out.lt
  have ka := hk1.cell 0
  have kb := hk1.cell 1
  simp at ka kb
  clear hb
  cases hin : inPlace a b
  · have e1 : Hid (addrOf a b = 0 ∧ addrErr a b = 2) := Lib.hid (by simp [addrOf, addrErr, hin])
    have e2 : Hid (plL a b m = [] ∧ plE a b m = 2) := Lib.hid (by simp [plL, plE, hin])
    rw [e1.out.1, e1.out.2]
    clear hin
    gi_wp2
    exact ⟨.tuple #[.slice none 0 0, .int .i64 2], by simp [results, Try.results20, go_sem], _, by rw [e2.out.2], by rw [e2.out.1]; exact World.ownsRow_nil _ _ _ _, hbb.out⟩
  · obtain ⟨h1, h2, h3, h4⟩ := (inPlace_iff a b).1 hin
    have e1 : Hid (addrOf a b = 8 * a + b ∧ addrErr a b = 0) := Lib.hid (by simp [addrOf, addrErr, hin])
    obtain ⟨n0, hn0⟩ : ∃ n0, 8 * a + b = n0 := ⟨_, rfl⟩
    have g1 : 0 ≤ n0 := by omega
    have g2 : n0 < 8192 := by omega
    have e3 : Hid (plE a b m = (if 0 ≤ m then (if m ≤ 8192 - n0 then 0 else 4) else 2) ∧ plL a b m = (if 0 ≤ m ∧ m ≤ 8192 - n0 then lns a b (runN a b m) else [])) := Lib.hid (by simp [plE, plL, hin, hn0])
    rw [hn0] at e1
    rw [e1.out.1, e1.out.2]
    have x1 : IntKind.i64.wrap (8192 - n0) = 8192 - n0 := by rw [IntKind.wrap_i64]; omega
    clear hin h1 h2 h3 h4 hn0
    by_cases m0 : m < 0
    · have e2 : Hid (plL a b m = [] ∧ plE a b m = 2) := Lib.hid ⟨by rw [e3.out.2, if_neg (by omega)], by rw [e3.out.1, if_neg (by omega)]⟩
      gi_wp2
      exact ⟨.tuple #[.slice none 0 0, .int .i64 2], by simp [results, Try.results20, go_sem], _, by rw [e2.out.2], by rw [e2.out.1]; exact World.ownsRow_nil _ _ _ _, hbb.out⟩
    · by_cases m1 : 8192 - n0 < m
      · have e2 : Hid (plL a b m = [] ∧ plE a b m = 4) := Lib.hid ⟨by rw [e3.out.2, if_neg (by omega)], by rw [e3.out.1, if_pos (by omega), if_neg (by omega)]⟩
        gi_wp2
        exact ⟨.tuple #[.slice none 0 0, .int .i64 4], by simp [results, Try.results20, go_sem], _, by rw [e2.out.2], by rw [e2.out.1]; exact World.ownsRow_nil _ _ _ _, hbb.out⟩
      · have e2 : Hid (plL a b m = lns a b (runN a b m) ∧ plE a b m = 0) := Lib.hid ⟨by rw [e3.out.2, if_pos (by omega)], by rw [e3.out.1, if_pos (by omega), if_pos (by omega)]⟩
        have ka2 := cell_al (.cells #[.slice none 0 0] 41) ka
        have kb2 := cell_al (.cells #[.slice none 0 0] 41) kb
        clear ka kb
        gi_wp2_with fail
        refine wpIn_label ?_
        gi_wp2_with fail
        refine (callsIn_wide.2 (mkrun_any _ _ _ _)).mono ?_
        rintro e w2 ⟨rfl, rfl⟩
        gi_wp2_with fail
        have hin0 : ∀ W4, W4 = (((w1.alloc (.cells #[.slice none 0 0] 41)).alloc (.cells #[.int .i64 a, .int .i64 b] 23)).alloc (.cells #[.int .i64 m] 3)) → LinesIn w1.heap.size a b m w1 0 W4 ∧ W4.heap.size = w1.heap.size + 3 := by
          rintro W4 rfl
          have k0 := Blk.new w1 41 #[.slice none 0 0]
          have k1 := Blk.new (w1.alloc (.cells #[.slice none 0 0] 41)) 23 #[.int .i64 a, .int .i64 b]
          have k2 := Blk.new ((w1.alloc (.cells #[.slice none 0 0] 41)).alloc (.cells #[.int .i64 a, .int .i64 b] 23)) 3 #[.int .i64 m]
          replace k0 := (k0.alloc (.cells #[.int .i64 a, .int .i64 b] 23)).alloc (.cells #[.int .i64 m] 3)
          replace k1 := k1.alloc (.cells #[.int .i64 m] 3)
          simp only [World.size_alloc] at k0 k1 k2
          exact ⟨⟨⟨_, k0, by simpa [lns, icells] using World.ownsRow_nil _ _ _ _⟩, k1, k2, (((Below.refl _ w1).alloc (Nat.le_refl _) _).alloc (by simp) _).alloc (by simp; omega) _⟩, by simp⟩
        obtain ⟨in0, hs4⟩ := hin0 _ rfl
        clear hin0 ka2 kb2 hk1
        generalize (((w1.alloc (.cells #[.slice none 0 0] 41)).alloc (.cells #[.int .i64 a, .int .i64 b] 23)).alloc (.cells #[.int .i64 m] 3)) = W4 at *
        have Hs4 := Lib.hid hs4
        have hN := Lib.hid (runN_le a b m)
        clear hs4
        refine rangeFunc_law (gf := 32) (lb := #[.pointer (some ⟨w1.heap.size + 1, 0, none⟩), .pointer (some ⟨w1.heap.size + 1 + 1, 0, none⟩)]) rfl (enters_of Try.func32 (by kernel_rfl) rfl) (run_iter (w1.heap.size + 1) (w1.heap.size + 1 + 1) a b m hm) (fun _ => rfl)
          (fun k Y => LinesIn w1.heap.size a b m w1 k Y) (fun _ _ _ => False) ?hI ?hIx ?hIl ?hIxl ?hIR ?h0 ?hround ?hdone ?hstop
        case hI =>
          intro k Y Z hi hle hb
          simp only [Bool.false_eq_true, if_false] at hb
          exact hi.below hb
        case hIx => exact fun _ _ _ _ h => h.elim
        case hIl =>
          intro k Y Z hi hb
          rw [Hs4.out] at hb
          exact hi.only hb
        case hIxl => exact fun _ _ _ _ h => h.elim
        case hIR =>
          rintro k Y ⟨_, h3, h4, _⟩
          exact ⟨⟨by simpa using h3.cell 0, by simpa using h3.cell 1⟩, by simpa using h4.cell 0⟩
        case h0 =>
          intro Y hb
          exact in0.below hb
        case hstop => exact fun _ _ _ _ _ h => h.elim
        case hround =>
          intro k Y hk hi hle
          gi_wp2
          have hb0 := (Below.refl Y.heap.size Y).alloc (Nat.le_refl _) (.cells #[.int .i64 (runAt a b k).1, .int .i64 (runAt a b k).2] 23)
          refine ⟨Bk.of_below hb0 hle, fun Z hYZ hsz => ?_⟩
          have hiY := hi.below hb0
          have hbk : Blk Z Y.heap.size 23 #[.int .i64 (runAt a b k).1, .int .i64 (runAt a b k).2] := (Blk.new Y _ _).grown hYZ (by simp; omega)
          rw [Hs4.out] at hYZ
          have hiZ := hiY.only hYZ
          have hxk : lineAt a b k = (runAt a b k).1 := rfl
          have hsucc : lns a b (k + 1) = if (lns a b k).getLast? = some (lineAt a b k) then lns a b k else lns a b k ++ [lineAt a b k] := rfl
          obtain ⟨⟨x, y⟩, hxy⟩ : ∃ p, runAt a b k = p := ⟨_, rfl⟩
          rw [hxk, hxy] at hsucc
          rw [hxy] at hbk ⊢
          clear hi hiY hb0 hxk hxy
          obtain ⟨⟨v, hbox, hrow⟩, h3, h4, h5⟩ := hiZ
          have hll := lns_len a b k
          obtain ⟨L, hL⟩ : ∃ L, lns a b k = L := ⟨_, rfl⟩
          rw [hL] at hrow hsucc hll
          have hzs : w1.heap.size + 5 ≤ Z.heap.size := by
            have := hbk.lt
            have := Hs4.out
            omega
          have cb := hbox.cell 0
          have fb := hbox.frozen 0
          have cx := hbk.cell 0
          simp at cb cx
          clear hL hsz
          gi_wp2
          have hvb : ∀ c, v.ownBlock = some c → w1.heap.size + 5 ≤ c ∧ c < Z.heap.size := hrow.lt
          obtain ⟨A2, cp2, rfl⟩ := own_form hrow
          have hfin : ∀ (j : Nat) (W : World) (g' cap' : Nat), W.ownsRow (w1.heap.size + 5) 3 1 (.slice (some ⟨g', 0, none⟩) (L.length + 1) cap') (L.length + 1) (icells (L ++ [x])) → ((Z.drewN j).alloc (.cells #[.int .i64 x] 3)).grownBy W (Value.slice A2 L.length cp2).ownBlock → lns a b (k + 1) = L ++ [x] →
              Blk W w1.heap.size 41 #[.slice A2 L.length cp2] ∧ Bk W4.heap.size Z (W.setCell ⟨w1.heap.size, 0, none⟩ (.slice (some ⟨g', 0, none⟩) (L.length + 1) cap')) ∧ Kp false (W4.heap.size + 2) Y (W.setCell ⟨w1.heap.size, 0, none⟩ (.slice (some ⟨g', 0, none⟩) (L.length + 1) cap')) ∧
                LinesIn w1.heap.size a b m w1 (k + 1) (W.setCell ⟨w1.heap.size, 0, none⟩ (.slice (some ⟨g', 0, none⟩) (L.length + 1) cap')) := by
            intro j W g' cap' q1 q2 q3
            have s4 := Hs4.out
            have hzd : (Z.drewN j).heap.size = Z.heap.size := rfl
            have hlow : ∀ c, c < w1.heap.size + 5 → W.heap[c]? = Z.heap[c]? := fun c hc =>
              (q2.block c (by simp; omega) (fun e => by have := hvb c e.symm; omega)).trans (Below.heap_alloc (Z.drewN j) _ c (by omega))
            have hset : ∀ c, c ≠ w1.heap.size → (W.setCell ⟨w1.heap.size, 0, none⟩ (.slice (some ⟨g', 0, none⟩) (L.length + 1) cap')).heap[c]? = W.heap[c]? := fun c hc => Below.heap_setCell W ⟨w1.heap.size, 0, none⟩ _ c hc
            have hb1' : Blk W w1.heap.size 41 #[.slice A2 L.length cp2] := (hlow _ (by omega)).trans hbox
            have hg' : w1.heap.size + 5 ≤ g' := (q1.lt g' rfl).1
            have hsz1 : Z.heap.size + 1 ≤ W.heap.size := by have := q2.size; simpa using this
            refine ⟨hb1', ⟨?_, ?_, ?_⟩, (fun e => by cases e), ⟨.slice (some ⟨g', 0, none⟩) (L.length + 1) cap', ?_, ?_⟩, ?_, ?_, ?_⟩
            · simp [World.setCell]; omega
            · exact (hset _ (by omega)).trans (hlow _ (by omega))
            · exact (hset _ (by omega)).trans (hlow _ (by omega))
            · simpa using hb1'.set_ 0 (.slice (some ⟨g', 0, none⟩) (L.length + 1) cap')
            · rw [q3, List.length_append]
              exact q1.kept (row := some w1.heap.size) (grownBy_setCell' W _ _) (.inr (by simp [Value.ownBlock]; omega))
            · exact (hset _ (by omega)).trans ((hlow _ (by omega)).trans h3)
            · exact (hset _ (by omega)).trans ((hlow _ (by omega)).trans h4)
            · have q4 : Below w1.heap.size Z W := ⟨q2.os, q2.tape, q2.output, by omega, fun c hc => hlow c (by omega)⟩
              exact (h5.trans q4).setCell (p := ⟨w1.heap.size, 0, none⟩) (by simp) _
          have Hfin := Lib.hid hfin
          have hbz := hbox.lt
          have hN' := hN.out
          have hkeep : ∀ j : Nat, lns a b (k + 1) = L → Bk W4.heap.size Z (Z.drewN j) ∧ Kp false (W4.heap.size + 2) Y (Z.drewN j) ∧ LinesIn w1.heap.size a b m w1 (k + 1) (Z.drewN j) := by
            intro j hl
            refine ⟨⟨Nat.le_refl _, rfl, rfl⟩, (fun e => by cases e), ⟨_, hbox, by rw [hl]; exact hrow⟩, h3, h4, below_drewN h5 j⟩
          have Hkeep := Lib.hid hkeep
          clear hfin hvb h3 h4 h5 hkeep
          rcases nil_or_app L with rfl | ⟨L', z, rfl⟩
          · have hs : Hid (lns a b (k + 1) = [] ++ [x]) := Lib.hid (by rw [hsucc]; simp)
            clear hsucc
            refine quiet_round hord (by kernel_rfl) (by kernel_rfl) ?_
            repeat (gi_big_quiet_step (fail))
            refine wpQuietIn_nil ?_
            rintro _ ⟨nq, rfl⟩
            have cb2 : (Z.drewN nq).cell? ⟨w1.heap.size, 0, none⟩ = some (.slice A2 0 cp2) := cb
            have fb2 : (Z.drewN nq).frozen? ⟨w1.heap.size, 0, none⟩ = false := fb
            have cx2 : (Z.drewN nq).cell? ⟨Y.heap.size, 0, none⟩ = some (.int .i64 x) := cx
            have hrow2 : (Z.drewN nq).ownsRow (w1.heap.size + 5) 3 1 (.slice A2 0 cp2) 0 (icells []) := hrow
            have hfin2 := Hfin.out nq
            have hzs2 : w1.heap.size + 5 ≤ (Z.drewN nq).heap.size := hzs
            have Hfin2 := Lib.hid hfin2
            clear hfin2 cb fb cx hrow
            generalize Z.drewN nq = wd at *
            gi_wp2_with (gi_at_builtin; go_must (refine wpListIn_append_own _ rfl _ _ 41 rfl (w1.heap.size + 5) 3 i0 (.int .i64 0) 1 8 Try.underlying41 hi0 hz0 hz1 hz2 rfl (by decide) (.slice A2 0 cp2) 0 (icells []) rfl (hrow2.alloc _) ⟨wd.heap.size, 0, none⟩ 1 1 [.int .i64 x] rfl rfl (by exact cell_one_new _ _ _) (by simp [Value.oneCell']) (by simp only [maxLen]; omega) (by omega) (by simp; omega) ?_); intro v' wq hown' hgrow _; obtain ⟨g', cap', rfl, hg1', hg2'⟩ := hown'.form (by omega); obtain ⟨hb5, hb6, hb7, hb8⟩ := Hfin2.out wq g' cap' (by simpa [icells] using hown') hgrow hs.out; have cb5 := hb5.cell 0; have fb5 := hb5.frozen 0; simp at cb5)
            exact ⟨hb6, hb7, hb8⟩
          · obtain ⟨q, hq⟩ : ∃ q, L'.length = q := ⟨_, rfl⟩
            have hlq : (L' ++ [z]).length = q + 1 := by simp [hq]
            rw [hlq] at hrow hll cb Hfin
            obtain ⟨gz, capz, hvz, hgz1, hgz2⟩ := hrow.form (by omega)
            cases hvz
            have cz := hrow.cellAt q (by omega)
            have hcz : (icells (L' ++ [z]))[q]? = some (.int .i64 z) := by simp [icells, ← hq]
            rw [hcz] at cz
            have hgd : (((q : Int) + 1) == 0) = false := by simp; omega
            have hgp : (0 : Int) < (q : Int) + 1 := by omega
            have hwq : IntKind.i64.wrap (q : Int) = (q : Int) := by rw [IntKind.wrap_i64]; omega
            have hq0 : (q : Int) < (q : Int) + 1 := by omega
            by_cases hxz : z = x
            · subst hxz
              have hs : Hid (lns a b (k + 1) = L' ++ [z]) := Lib.hid (by rw [hsucc]; simp)
              clear hsucc hcz hq
              refine quiet_round hord (by kernel_rfl) (by kernel_rfl) ?_
              repeat (gi_big_quiet_step (fail))
              refine wpQuietIn_nil ?_
              rintro _ ⟨nq, rfl⟩
              gi_wp2
              exact Hkeep.out nq hs.out
            · have hs : Hid (lns a b (k + 1) = L' ++ [z] ++ [x]) := Lib.hid (by rw [hsucc, if_neg (by simpa using hxz)])
              have hne : (z == x) = false := by simpa using hxz
              clear hsucc hcz hq
              refine quiet_round hord (by kernel_rfl) (by kernel_rfl) ?_
              repeat (gi_big_quiet_step (fail))
              refine wpQuietIn_nil ?_
              rintro _ ⟨nq, rfl⟩
              have cb2 : (Z.drewN nq).cell? ⟨w1.heap.size, 0, none⟩ = some (.slice (some ⟨gz, 0, none⟩) (q + 1) cp2) := cb
              have fb2 : (Z.drewN nq).frozen? ⟨w1.heap.size, 0, none⟩ = false := fb
              have cx2 : (Z.drewN nq).cell? ⟨Y.heap.size, 0, none⟩ = some (.int .i64 x) := cx
              have hrow2 : (Z.drewN nq).ownsRow (w1.heap.size + 5) 3 1 (.slice (some ⟨gz, 0, none⟩) (q + 1) cp2) (q + 1) (icells (L' ++ [z])) := hrow
              have hfin2 := Hfin.out nq
              have hzs2 : w1.heap.size + 5 ≤ (Z.drewN nq).heap.size := hzs
              have Hfin2 := Lib.hid hfin2
              clear hfin2 cb fb cx hrow
              generalize Z.drewN nq = wd at *
              gi_wp2_with (gi_at_builtin; go_must (refine wpListIn_append_own _ rfl _ _ 41 rfl (w1.heap.size + 5) 3 i0 (.int .i64 0) 1 8 Try.underlying41 hi0 hz0 hz1 hz2 rfl (by decide) (.slice (some ⟨gz, 0, none⟩) (q + 1) cp2) (q + 1) (icells (L' ++ [z])) rfl (hrow2.alloc _) ⟨wd.heap.size, 0, none⟩ 1 1 [.int .i64 x] rfl rfl (by exact cell_one_new _ _ _) (by simp [Value.oneCell']) (by simp only [maxLen]; omega) (by omega) (by simp; omega) ?_); intro v' wq hown' hgrow _; obtain ⟨g', cap', rfl, hg1', hg2'⟩ := hown'.form (by omega); obtain ⟨hb5, hb6, hb7, hb8⟩ := Hfin2.out wq g' cap' (by rw [icells_app]; exact hown') hgrow hs.out; have cb5 := hb5.cell 0; have fb5 := hb5.frozen 0; simp at cb5)
              exact ⟨hb6, hb7, hb8⟩
        case hdone =>
          intro Y hi hle hD
          obtain ⟨⟨v, hbox, hrow⟩, h3, h4, h5⟩ := hi
          have cb := hbox.cell 0
          have fb := hbox.frozen 0
          simp at cb
          gi_wp2_with fail
          first | rw [Exit.noGoto_ret] | skip
          have hD' := run_takeDeferred (P := Try.prog) hD
          have hq : W4.heap.size < Y.heap.size := (Array.getElem?_eq_some_iff.1 hD).1
          have hs4 := Hs4.out
          refine ⟨by simp, .inl ⟨_, _, rfl, hD', ?_⟩⟩
          have hb9 : Below (w1.heap.size + 3) Y (Y.putObj W4.heap.size (.deferred none)) := below_only (grown_put _ _ _) (by omega) (by omega)
          have hbw := hbb.out
          refine ⟨.tuple #[v, .int .i64 0], by simp [results, Try.results20, go_sem], v, by rw [e2.out.2], ?_, hbw.trans ((h5.mono hbw.size).trans (hb9.mono (by have := hbw.size; omega)))⟩
          rw [e2.out.1]
          refine (own_more hrow (by have := hbw.size; omega)).kept (row := some W4.heap.size) (grown_put _ _ _) ?_
          cases h' : v.ownBlock with
          | none => exact .inl rfl
          | some g =>
            refine .inr ?_
            have := (hrow.lt g h').1
            simp
            omega
end Go.Proofs.Ytfafpgboheaajaa
