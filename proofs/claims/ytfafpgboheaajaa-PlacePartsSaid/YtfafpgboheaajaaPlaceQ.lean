/- The walk of the law PlaceParts. Conditions: numbers of 64 bits. -/
import Derived.Deep.RegionHeld3
import Derived.Test.YtfafpgboheaajaaPlaceZ
namespace Go.Proofs.Ytfafpgboheaajaa
open Go.RowKit
set_option linter.unusedSimpArgs false

theorem pcells_one (xs : List (Int × Int)) : ∀ u ∈ pcells xs, u.oneCell' = true := by
  intro u hu
  unfold pcells at hu
  obtain ⟨p, _, hp⟩ := List.mem_flatMap.1 hu
  simp at hp
  rcases hp with rfl | rfl <;> rfl
theorem pts_cat (a b x y : Int) (i n : Nat) (h : 8 * x + y = 8 * a + b + i) : pts a b (i + n) = pts a b i ++ pts x y n := by
  unfold pts
  rw [List.range_add, List.map_append, List.map_map]
  congr 1
  apply List.map_congr_left
  intro k _
  unfold runAt
  show ((8 * a + b + ((i + k : Nat) : Int)) / 8, (8 * a + b + ((i + k : Nat) : Int)) % 8) = _
  rw [show 8 * a + b + ((i + k : Nat) : Int) = 8 * x + y + k from by omega]

set_option maxRecDepth 100000 in
set_option maxHeartbeats 8000000 in
theorem placeParts_any (a b n m : Int) (w : World) (hn0 : (Lit.int .i64 n).wf = true) :
    Calls Try.prog 8 #[.agg #[.int .i64 a, .int .i64 b], .int .i64 n, .int .i64 m] w fun e w' => e = .returned (.bool true) ∧ Below w.heap.size w w' := by
  obtain ⟨i0, hi0, hz0, hz1, hz2⟩ := info_place
  have hp := Blk.new w 23 #[.int .i64 a, .int .i64 b]
  have B0 : Below w.heap.size w (w.alloc (.cells #[.int .i64 a, .int .i64 b] 23)) := (Below.refl _ w).alloc (Nat.le_refl _) _
  by_cases hout : n < 0 ∨ 100 < n ∨ m < 0 ∨ 100 < m
  · have hq : n < 0 ∨ (¬ n < 0 ∧ (100 < n ∨ (¬ 100 < n ∧ (m < 0 ∨ (¬ m < 0 ∧ 100 < m))))) := by omega
    clear hout
    rcases hq with c1 | ⟨c1, c2 | ⟨c2, c3 | ⟨c3, c4⟩⟩⟩
    all_goals
      go_enter Try.func8, Try.ntmps8
      go_wp2_with fail
      refine (works_any _).mono ?_
      rintro e w9 ⟨rfl, hb⟩
      go_wp2
      go_ret
      exact ⟨rfl, B0.trans (hb.mono B0.size)⟩
  · have c1 : ¬ n < 0 := by omega
    have c2 : ¬ 100 < n := by omega
    have c3 : ¬ m < 0 := by omega
    have c4 : ¬ 100 < m := by omega
    have x1 : IntKind.i64.wrap (n + m) = n + m := by rw [IntKind.wrap_i64]; omega
    obtain ⟨⟨x, y⟩, hxy⟩ : ∃ p, movePlace a b n = p := ⟨_, rfl⟩
    obtain ⟨ee, hee⟩ : ∃ e, moveErr a b n = e := ⟨_, rfl⟩
    clear hout
    go_enter Try.func8, Try.ntmps8
    go_wp2_with fail
    refine (move_any a b n _ hn0).mono ?_
    rintro e w1 ⟨rfl, hb⟩
    rw [hxy, hee]
    replace hp := (hp.below hb hp.lt).alloc (.cells #[.int .i64 x, .int .i64 y] 23)
    have hq := Blk.new w1 23 #[.int .i64 x, .int .i64 y]
    have B1 := B0.trans (hb.mono B0.size)
    have B2 := below_al B1 (.cells #[.int .i64 x, .int .i64 y] 23) B1.size
    clear hb B0 B1
    by_cases hz : ee = 0
    · subst hz
      obtain ⟨i1, i2, i3, i4⟩ := move_ok a b n hee
      rw [hxy] at i4
      have e1 : x = (8 * a + b + n) / 8 := congrArg Prod.fst i4
      have e2 : y = (8 * a + b + n) % 8 := congrArg Prod.snd i4
      obtain ⟨q1, q2, q3, q4⟩ := (inPlace_iff a b).1 i1
      have e3 : inPlace x y = true := (inPlace_iff _ _).2 (by omega)
      obtain ⟨NB, hNB⟩ : ∃ NB : Nat, n = NB := ⟨n.toNat, by omega⟩
      obtain ⟨NC, hNC⟩ : ∃ NC : Nat, min (8192 - (8 * x + y)).toNat m.toNat = NC := ⟨_, rfl⟩
      have l1 : lrunN a b (n + m) 300 = NB + NC := by unfold lrunN runN; rw [if_pos i1]; omega
      have l2 : lrunN a b n 300 = NB := by unfold lrunN runN; rw [if_pos i1]; omega
      have l3 : lrunN x y m 300 = NC := by unfold lrunN runN; rw [if_pos e3]; omega
      have hct := pts_cat a b x y NB NC (by omega)
      obtain ⟨NA, hNA⟩ : ∃ NA, NB + NC = NA := ⟨_, rfl⟩
      rw [hNA] at l1 hct
      have hcat : Hid (pcells (pts a b NB) ++ pcells (pts x y NC) = pcells (pts a b NA) ∧ NB + NC = NA) := Lib.hid ⟨by rw [hct, pcells_app], hNA⟩
      have L1 := fun W => lrun_any a b (n + m) 300 W (by omega)
      have L2 := fun W => lrun_any a b n 300 W (by omega)
      have L3 := fun W => lrun_any x y m 300 W (by omega)
      simp only [l1] at L1
      simp only [l2] at L2
      simp only [l3] at L3
      have HL1 := Lib.hid L1
      have HL2 := Lib.hid L2
      have HL3 := Lib.hid L3
      have hNA1 : NA ≤ 200 := by omega
      have hNB1 : NB ≤ 100 := by omega
      have hNC1 : NC ≤ 100 := by omega
      clear L1 L2 L3 l1 l2 l3 hNA hct hNB hNC e1 e2 e3 i1 i2 i3 i4 q1 q2 q3 q4 hee hxy
      go_wp2_with (go_at_call 12; refine (num_any _ _).mono ?_; rintro e w' ⟨rfl, rfl⟩)
      generalize w1.alloc (.cells #[.int .i64 x, .int .i64 y] 23) = w2 at *
      have hB0 := Nat.le_refl w2.heap.size
      refine wp_region_held_drew (S := fun w' => Below w2.heap.size w2 w') (by kernel_rfl) (Below.refl _ w2).drew (fun hHeld => ?_)
      have hB : Below w2.heap.size w2 w2.drew := hHeld
      refine wpAnyH_take (i := 0) (v := ?_) rfl (by kernel_rfl) (by kernel_rfl) (by kernel_rfl) (fun _ _ _ h => h) (Or.inl ⟨by rfl, ?_⟩) hHeld ?_
      rotate_left
      · (intro wx hSw; have k0 := (hp.below hSw hp.lt).cell 0; have k1 := (hp.below hSw hp.lt).cell 1; simp at k0 k1; go_simp; try (with_reducible rfl))
      try simp only [Act.put, List.setIfInBounds_toArray, List.set_cons_zero, List.set_cons_succ]
      refine wpAnyH_take (i := 1) (v := ?_) rfl (by kernel_rfl) (by kernel_rfl) (by kernel_rfl) (fun _ _ _ h => h) (Or.inl ⟨by rfl, ?_⟩) hHeld ?_
      rotate_left
      · (intro wx hSw; go_simp; try (with_reducible rfl))
      try simp only [Act.put, List.setIfInBounds_toArray, List.set_cons_zero, List.set_cons_succ]
      refine wpAnyH_take (i := 2) (v := ?_) rfl (by kernel_rfl) (by kernel_rfl) (by kernel_rfl) (fun _ _ _ h => h) (Or.inl ⟨by rfl, ?_⟩) hHeld ?_
      rotate_left
      · (intro wx hSw; go_simp; try (with_reducible rfl))
      try simp only [Act.put, List.setIfInBounds_toArray, List.set_cons_zero, List.set_cons_succ]
      refine wpAnyH_take (i := 3) (v := ?_) rfl (by kernel_rfl) (by kernel_rfl) (by kernel_rfl) (fun _ _ _ h => h) (Or.inl ⟨by rfl, ?_⟩) hHeld ?_
      rotate_left
      · (intro wx hSw; go_simp; try (with_reducible rfl))
      try simp only [Act.put, List.setIfInBounds_toArray, List.set_cons_zero, List.set_cons_succ]
      refine wpAnyH_take (i := 6) (v := ?_) rfl (by kernel_rfl) (by kernel_rfl) (by kernel_rfl) (fun _ _ _ h => h) (Or.inl ⟨by rfl, ?_⟩) hHeld ?_
      rotate_left
      · (intro wx hSw; have k0 := (hp.below hSw hp.lt).cell 0; have k1 := (hp.below hSw hp.lt).cell 1; simp at k0 k1; go_simp; try (with_reducible rfl))
      try simp only [Act.put, List.setIfInBounds_toArray, List.set_cons_zero, List.set_cons_succ]
      refine wpAnyH_take (i := 7) (v := ?_) rfl (by kernel_rfl) (by kernel_rfl) (by kernel_rfl) (fun _ _ _ h => h) (Or.inl ⟨by rfl, ?_⟩) hHeld ?_
      rotate_left
      · (intro wx hSw; go_simp; try (with_reducible rfl))
      try simp only [Act.put, List.setIfInBounds_toArray, List.set_cons_zero, List.set_cons_succ]
      refine wpAnyH_take (i := 10) (v := ?_) rfl (by kernel_rfl) (by kernel_rfl) (by kernel_rfl) (fun _ _ _ h => h) (Or.inl ⟨by rfl, ?_⟩) hHeld ?_
      rotate_left
      · (intro wx hSw; have k0 := (hq.below hSw hq.lt).cell 0; have k1 := (hq.below hSw hq.lt).cell 1; simp at k0 k1; go_simp; try (with_reducible rfl))
      try simp only [Act.put, List.setIfInBounds_toArray, List.set_cons_zero, List.set_cons_succ]
      refine wpAnyH_take (i := 11) (v := ?_) rfl (by kernel_rfl) (by kernel_rfl) (by kernel_rfl) (fun _ _ _ h => h) (Or.inl ⟨by rfl, ?_⟩) hHeld ?_
      rotate_left
      · (intro wx hSw; go_simp; try (with_reducible rfl))
      try simp only [Act.put, List.setIfInBounds_toArray, List.set_cons_zero, List.set_cons_succ]
      refine wpAnyH_ready (rs := [4, 5]) (by kernel_rfl) (by simp) ?_
      refine AllReadyH.cons rfl (fun K hK => ?_) ?_
      · go_simp
        refine (HL1.out _).mono ?_
        rintro e u1 ⟨v, rfl, hrow, hb2⟩
        obtain ⟨oAA, oAc, rfl⟩ := own_form hrow
        have hB : Below w2.heap.size w2 u1 := (by first | exact hB.trans (hb2.mono hB.size) | exact hB.drew.trans (hb2.mono (Nat.le_refl _)))
        have z0 : w2.heap.size ≤ u1.heap.size := hb2.size
        have oA := hrow
        have oAl : ∀ g, (Value.slice oAA NA oAc).ownBlock = some g → w2.heap.size ≤ g ∧ g < u1.heap.size := hrow.lt
        clear hrow hb2
        go_wp2_with fail
        refine hK.out _ _ hB (fun hHeld => ?_)
        clear hK K
        try simp only [Act.put, List.setIfInBounds_toArray, List.set_cons_zero, List.set_cons_succ]
        refine wpAnyH_ready (rs := [5, 8]) (by kernel_rfl) (by simp) ?_
        refine AllReadyH.cons rfl (fun K hK => ?_) ?_
        · go_simp
          have hB : Below w2.heap.size w2 ((u1.alloc (.cells #[] 23))) := hB.alloc hB.size _
          have z1 : u1.heap.size < ((u1.alloc (.cells #[] 23))).heap.size := by simp
          replace oA := oA.alloc (.cells #[] 23)
          have oD : ((u1.alloc (.cells #[] 23))).ownsRow 0 23 2 (.slice (some ⟨u1.heap.size, 0, none⟩) 0 0) 0 (pcells (pts a b 0)) := World.ownsRow_lit _ #[] 0 (Nat.zero_le _) (by decide) rfl
          have oDl : ∀ g, (Value.slice (some ⟨u1.heap.size, 0, none⟩) 0 0).ownBlock = some g → g = u1.heap.size := by intro g hg; simpa [Value.ownBlock, eq_comm] using hg
          refine hK.out _ _ hB (fun hHeld => ?_)
          clear hK K
          generalize (u1.alloc (.cells #[] 23)) = u2 at *
          try simp only [Act.put, List.setIfInBounds_toArray, List.set_cons_zero, List.set_cons_succ]
          refine wpAnyH_ready (rs := [8]) (by kernel_rfl) (by simp) ?_
          refine AllReadyH.cons rfl (fun K hK => ?_) ?_
          · go_simp
            refine (HL2.out _).mono ?_
            rintro e u3 ⟨v, rfl, hrow, hb2⟩
            obtain ⟨oBA, oBc, rfl⟩ := own_form hrow
            have hB : Below w2.heap.size w2 u3 := (by first | exact hB.trans (hb2.mono hB.size) | exact hB.drew.trans (hb2.mono (Nat.le_refl _)))
            have z2 : u2.heap.size ≤ u3.heap.size := hb2.size
            replace oA := own_below oA hb2
            replace oD := own_below oD hb2
            have oB := hrow
            have oBl : ∀ g, (Value.slice oBA NB oBc).ownBlock = some g → u2.heap.size ≤ g ∧ g < u3.heap.size := hrow.lt
            clear hrow hb2
            go_wp2_with fail
            refine hK.out _ _ hB (fun hHeld => ?_)
            clear hK K
            try simp only [Act.put, List.setIfInBounds_toArray, List.set_cons_zero, List.set_cons_succ]
            refine wpAnyH_ready (rs := [9]) (by kernel_rfl) (by simp) ?_
            refine AllReadyH.cons rfl (fun K hK => ?_) ?_
            · refine step_append_any _ rfl (.tmp 39) (.tmp 42) _ rfl 0 23 i0 _ 2 16 Try.underlying39 hi0 hz0 hz1 hz2 rfl (by omega) _ 0 (pcells (pts a b 0)) rfl oD u3.heap.size _ _ _ (pcells (pts a b NB)) rfl (Reads.of_own oB) (pcells_one _) (by unfold maxLen; omega) (by omega) (Nat.zero_le _) ?_
              intro v u4 oE hgrow hat
              obtain ⟨dA9, dc9, rfl⟩ := own_form oE
              have z3 : u3.heap.size ≤ u4.heap.size := hgrow.size
              replace oA := oA.kept hgrow (by cases h9 : (Value.slice oAA NA oAc).ownBlock with | none => exact .inl rfl | some g => exact .inr (by intro e; have h1 := oAl g h9; have h2 := oDl g e.symm; omega))
              replace oB := oB.kept hgrow (by cases h9 : (Value.slice oBA NB oBc).ownBlock with | none => exact .inl rfl | some g => exact .inr (by intro e; have h1 := oBl g h9; have h2 := oDl g e.symm; omega))
              have hB : Below w2.heap.size w2 u4 := hB.grown hgrow hB.size (by intro g hg; have := oDl g hg; have := hB0; omega)
              have oDl : ∀ g, (Value.slice dA9 (0 + NB) dc9).ownBlock = some g → (g = u1.heap.size ∨ g = u3.heap.size) ∧ g < u4.heap.size := fun g hg => ⟨hat.elim (fun h => .inl (oDl g (h ▸ hg))) (fun h => .inr (by rw [h] at hg; injection hg with hg; exact hg.symm)), (oE.lt g hg).2⟩
              rw [show pcells (pts a b 0) ++ pcells (pts a b NB) = pcells (pts a b NB) from rfl] at oE
              simp only [Nat.zero_add] at oE oDl ⊢
              have oD := oE
              clear oE hgrow hat
              refine hK.out _ _ hB (fun hHeld => ?_)
              clear hK K
              try simp only [Act.put, List.setIfInBounds_toArray, List.set_cons_zero, List.set_cons_succ]
              refine wpAnyH_ready (rs := [12]) (by kernel_rfl) (by simp) ?_
              refine AllReadyH.cons rfl (fun K hK => ?_) ?_
              · go_simp
                refine (HL3.out _).mono ?_
                rintro e u5 ⟨v, rfl, hrow, hb2⟩
                obtain ⟨oCA, oCc, rfl⟩ := own_form hrow
                have hB : Below w2.heap.size w2 u5 := (by first | exact hB.trans (hb2.mono hB.size) | exact hB.drew.trans (hb2.mono (Nat.le_refl _)))
                have z4 : u4.heap.size ≤ u5.heap.size := hb2.size
                replace oA := own_below oA hb2
                replace oB := own_below oB hb2
                replace oD := own_below oD hb2
                have oC := hrow
                have oCl : ∀ g, (Value.slice oCA NC oCc).ownBlock = some g → u4.heap.size ≤ g ∧ g < u5.heap.size := hrow.lt
                clear hrow hb2
                go_wp2_with fail
                refine hK.out _ _ hB (fun hHeld => ?_)
                clear hK K
                try simp only [Act.put, List.setIfInBounds_toArray, List.set_cons_zero, List.set_cons_succ]
                refine wpAnyH_ready (rs := [13]) (by kernel_rfl) (by simp) ?_
                refine AllReadyH.cons rfl (fun K hK => ?_) ?_
                · refine step_append_any _ rfl (.tmp 43) (.tmp 46) _ rfl 0 23 i0 _ 2 16 Try.underlying39 hi0 hz0 hz1 hz2 rfl (by omega) _ NB (pcells (pts a b NB)) rfl oD u5.heap.size _ _ _ (pcells (pts x y NC)) rfl (Reads.of_own oC) (pcells_one _) (by unfold maxLen; omega) (by omega) (Nat.zero_le _) ?_
                  intro v u6 oE hgrow hat
                  obtain ⟨dA13, dc13, rfl⟩ := own_form oE
                  have z5 : u5.heap.size ≤ u6.heap.size := hgrow.size
                  replace oA := oA.kept hgrow (by cases h9 : (Value.slice oAA NA oAc).ownBlock with | none => exact .inl rfl | some g => exact .inr (by intro e; have h1 := oAl g h9; have h2 := oDl g e.symm; omega))
                  replace oB := oB.kept hgrow (by cases h9 : (Value.slice oBA NB oBc).ownBlock with | none => exact .inl rfl | some g => exact .inr (by intro e; have h1 := oBl g h9; have h2 := oDl g e.symm; omega))
                  replace oC := oC.kept hgrow (by cases h9 : (Value.slice oCA NC oCc).ownBlock with | none => exact .inl rfl | some g => exact .inr (by intro e; have h1 := oCl g h9; have h2 := oDl g e.symm; omega))
                  have hB : Below w2.heap.size w2 u6 := hB.grown hgrow hB.size (by intro g hg; have := oDl g hg; have := hB0; omega)
                  have oD := oE
                  clear oE hgrow hat
                  refine hK.out _ _ hB (fun hHeld => ?_)
                  clear hK K
                  try simp only [Act.put, List.setIfInBounds_toArray, List.set_cons_zero, List.set_cons_succ]
                  refine wpAnyH_ready (rs := [14]) (by kernel_rfl) (by simp) ?_
                  refine AllReadyH.cons rfl (fun K hK => ?_) ?_
                  · go_simp
                    rw [hcat.out.1, hcat.out.2] at oD
                    rw [hcat.out.2]
                    have hq1 := PReads.of_own oA
                    have hq2 := PReads.of_own oD
                    refine (same_eq _ _ _ _ _ _ _ hq1 hq2 (by omega)).mono ?_
                    rintro e u7 ⟨rfl, hb2⟩
                    have hB : Below w2.heap.size w2 u7 := hB.trans (hb2.mono hB.size)
                    go_wp2_with fail
                    refine hK.out _ _ hB (fun hHeld => ?_)
                    clear hK K
                    try simp only [Act.put, List.setIfInBounds_toArray, List.set_cons_zero, List.set_cons_succ]
                    refine wpAnyH_take (i := 15) (v := ?_) rfl (by kernel_rfl) (by kernel_rfl) (by kernel_rfl) (fun _ _ _ h => h) (Or.inl ⟨by rfl, ?_⟩) hHeld ?_
                    rotate_left
                    · (intro wx hSw; go_simp; try (with_reducible rfl))
                    try simp only [Act.put, List.setIfInBounds_toArray, List.set_cons_zero, List.set_cons_succ]
                    refine wpAnyH_ready (rs := [16]) (by kernel_rfl) (by simp) ?_
                    refine AllReadyH.cons rfl (fun K hK => ?_) ?_
                    · go_simp
                      refine (works_any _).mono ?_
                      rintro e u8 ⟨rfl, hb2⟩
                      have hB : Below w2.heap.size w2 u8 := hB.trans (hb2.mono hB.size)
                      go_wp2_with fail
                      refine hK.out _ _ hB (fun hHeld => ?_)
                      clear hK K
                      try simp only [Act.put, List.setIfInBounds_toArray, List.set_cons_zero, List.set_cons_succ]
                      refine wpAnyH_ready (rs := [17]) (by kernel_rfl) (by simp) (AllReadyH.cons rfl (fun K hK => ?_) AllReadyH.nil)
                      go_simp
                      refine hK.out _ _ hB (fun hHeld => ?_)
                      clear hK K
                      try simp only [Act.put, List.setIfInBounds_toArray, List.set_cons_zero, List.set_cons_succ]
                      refine wpAnyH_ready (rs := [18]) (by kernel_rfl) (by simp) (AllReadyH.cons rfl (fun K hK => ?_) AllReadyH.nil)
                      go_simp
                      refine hK.out _ _ hB (fun hHeld => ?_)
                      clear hK K
                      try simp only [Act.put, List.setIfInBounds_toArray, List.set_cons_zero, List.set_cons_succ]
                      refine wpAnyH_done (by kernel_rfl) ?_ _
                      replace B2 := B2.trans (hB.mono B2.size)
                      clear hB
                      go_wp2
                      go_ret
                      exact ⟨rfl, B2⟩
                    exact AllReadyH.nil
                  exact AllReadyH.nil
                exact AllReadyH.nil
              exact AllReadyH.nil
            exact AllReadyH.nil
          exact AllReadyH.nil
        refine AllReadyH.cons rfl (fun K hK => ?_) ?_
        · go_simp
          refine (HL2.out _).mono ?_
          rintro e u2 ⟨v, rfl, hrow, hb2⟩
          obtain ⟨oBA, oBc, rfl⟩ := own_form hrow
          have hB : Below w2.heap.size w2 u2 := (by first | exact hB.trans (hb2.mono hB.size) | exact hB.drew.trans (hb2.mono (Nat.le_refl _)))
          have z1 : u1.heap.size ≤ u2.heap.size := hb2.size
          replace oA := own_below oA hb2
          have oB := hrow
          have oBl : ∀ g, (Value.slice oBA NB oBc).ownBlock = some g → u1.heap.size ≤ g ∧ g < u2.heap.size := hrow.lt
          clear hrow hb2
          go_wp2_with fail
          refine hK.out _ _ hB (fun hHeld => ?_)
          clear hK K
          try simp only [Act.put, List.setIfInBounds_toArray, List.set_cons_zero, List.set_cons_succ]
          refine wpAnyH_ready (rs := [5]) (by kernel_rfl) (by simp) ?_
          refine AllReadyH.cons rfl (fun K hK => ?_) ?_
          · go_simp
            have hB : Below w2.heap.size w2 ((u2.alloc (.cells #[] 23))) := hB.alloc hB.size _
            have z2 : u2.heap.size < ((u2.alloc (.cells #[] 23))).heap.size := by simp
            replace oA := oA.alloc (.cells #[] 23)
            replace oB := oB.alloc (.cells #[] 23)
            have oD : ((u2.alloc (.cells #[] 23))).ownsRow 0 23 2 (.slice (some ⟨u2.heap.size, 0, none⟩) 0 0) 0 (pcells (pts a b 0)) := World.ownsRow_lit _ #[] 0 (Nat.zero_le _) (by decide) rfl
            have oDl : ∀ g, (Value.slice (some ⟨u2.heap.size, 0, none⟩) 0 0).ownBlock = some g → g = u2.heap.size := by intro g hg; simpa [Value.ownBlock, eq_comm] using hg
            refine hK.out _ _ hB (fun hHeld => ?_)
            clear hK K
            generalize (u2.alloc (.cells #[] 23)) = u3 at *
            try simp only [Act.put, List.setIfInBounds_toArray, List.set_cons_zero, List.set_cons_succ]
            refine wpAnyH_ready (rs := [9]) (by kernel_rfl) (by simp) ?_
            refine AllReadyH.cons rfl (fun K hK => ?_) ?_
            · refine step_append_any _ rfl (.tmp 39) (.tmp 42) _ rfl 0 23 i0 _ 2 16 Try.underlying39 hi0 hz0 hz1 hz2 rfl (by omega) _ 0 (pcells (pts a b 0)) rfl oD u3.heap.size _ _ _ (pcells (pts a b NB)) rfl (Reads.of_own oB) (pcells_one _) (by unfold maxLen; omega) (by omega) (Nat.zero_le _) ?_
              intro v u4 oE hgrow hat
              obtain ⟨dA9, dc9, rfl⟩ := own_form oE
              have z3 : u3.heap.size ≤ u4.heap.size := hgrow.size
              replace oA := oA.kept hgrow (by cases h9 : (Value.slice oAA NA oAc).ownBlock with | none => exact .inl rfl | some g => exact .inr (by intro e; have h1 := oAl g h9; have h2 := oDl g e.symm; omega))
              replace oB := oB.kept hgrow (by cases h9 : (Value.slice oBA NB oBc).ownBlock with | none => exact .inl rfl | some g => exact .inr (by intro e; have h1 := oBl g h9; have h2 := oDl g e.symm; omega))
              have hB : Below w2.heap.size w2 u4 := hB.grown hgrow hB.size (by intro g hg; have := oDl g hg; have := hB0; omega)
              have oDl : ∀ g, (Value.slice dA9 (0 + NB) dc9).ownBlock = some g → (g = u2.heap.size ∨ g = u3.heap.size) ∧ g < u4.heap.size := fun g hg => ⟨hat.elim (fun h => .inl (oDl g (h ▸ hg))) (fun h => .inr (by rw [h] at hg; injection hg with hg; exact hg.symm)), (oE.lt g hg).2⟩
              rw [show pcells (pts a b 0) ++ pcells (pts a b NB) = pcells (pts a b NB) from rfl] at oE
              simp only [Nat.zero_add] at oE oDl ⊢
              have oD := oE
              clear oE hgrow hat
              refine hK.out _ _ hB (fun hHeld => ?_)
              clear hK K
              try simp only [Act.put, List.setIfInBounds_toArray, List.set_cons_zero, List.set_cons_succ]
              refine wpAnyH_ready (rs := [12]) (by kernel_rfl) (by simp) ?_
              refine AllReadyH.cons rfl (fun K hK => ?_) ?_
              · go_simp
                refine (HL3.out _).mono ?_
                rintro e u5 ⟨v, rfl, hrow, hb2⟩
                obtain ⟨oCA, oCc, rfl⟩ := own_form hrow
                have hB : Below w2.heap.size w2 u5 := (by first | exact hB.trans (hb2.mono hB.size) | exact hB.drew.trans (hb2.mono (Nat.le_refl _)))
                have z4 : u4.heap.size ≤ u5.heap.size := hb2.size
                replace oA := own_below oA hb2
                replace oB := own_below oB hb2
                replace oD := own_below oD hb2
                have oC := hrow
                have oCl : ∀ g, (Value.slice oCA NC oCc).ownBlock = some g → u4.heap.size ≤ g ∧ g < u5.heap.size := hrow.lt
                clear hrow hb2
                go_wp2_with fail
                refine hK.out _ _ hB (fun hHeld => ?_)
                clear hK K
                try simp only [Act.put, List.setIfInBounds_toArray, List.set_cons_zero, List.set_cons_succ]
                refine wpAnyH_ready (rs := [13]) (by kernel_rfl) (by simp) ?_
                refine AllReadyH.cons rfl (fun K hK => ?_) ?_
                · refine step_append_any _ rfl (.tmp 43) (.tmp 46) _ rfl 0 23 i0 _ 2 16 Try.underlying39 hi0 hz0 hz1 hz2 rfl (by omega) _ NB (pcells (pts a b NB)) rfl oD u5.heap.size _ _ _ (pcells (pts x y NC)) rfl (Reads.of_own oC) (pcells_one _) (by unfold maxLen; omega) (by omega) (Nat.zero_le _) ?_
                  intro v u6 oE hgrow hat
                  obtain ⟨dA13, dc13, rfl⟩ := own_form oE
                  have z5 : u5.heap.size ≤ u6.heap.size := hgrow.size
                  replace oA := oA.kept hgrow (by cases h9 : (Value.slice oAA NA oAc).ownBlock with | none => exact .inl rfl | some g => exact .inr (by intro e; have h1 := oAl g h9; have h2 := oDl g e.symm; omega))
                  replace oB := oB.kept hgrow (by cases h9 : (Value.slice oBA NB oBc).ownBlock with | none => exact .inl rfl | some g => exact .inr (by intro e; have h1 := oBl g h9; have h2 := oDl g e.symm; omega))
                  replace oC := oC.kept hgrow (by cases h9 : (Value.slice oCA NC oCc).ownBlock with | none => exact .inl rfl | some g => exact .inr (by intro e; have h1 := oCl g h9; have h2 := oDl g e.symm; omega))
                  have hB : Below w2.heap.size w2 u6 := hB.grown hgrow hB.size (by intro g hg; have := oDl g hg; have := hB0; omega)
                  have oD := oE
                  clear oE hgrow hat
                  refine hK.out _ _ hB (fun hHeld => ?_)
                  clear hK K
                  try simp only [Act.put, List.setIfInBounds_toArray, List.set_cons_zero, List.set_cons_succ]
                  refine wpAnyH_ready (rs := [14]) (by kernel_rfl) (by simp) ?_
                  refine AllReadyH.cons rfl (fun K hK => ?_) ?_
                  · go_simp
                    rw [hcat.out.1, hcat.out.2] at oD
                    rw [hcat.out.2]
                    have hq1 := PReads.of_own oA
                    have hq2 := PReads.of_own oD
                    refine (same_eq _ _ _ _ _ _ _ hq1 hq2 (by omega)).mono ?_
                    rintro e u7 ⟨rfl, hb2⟩
                    have hB : Below w2.heap.size w2 u7 := hB.trans (hb2.mono hB.size)
                    go_wp2_with fail
                    refine hK.out _ _ hB (fun hHeld => ?_)
                    clear hK K
                    try simp only [Act.put, List.setIfInBounds_toArray, List.set_cons_zero, List.set_cons_succ]
                    refine wpAnyH_take (i := 15) (v := ?_) rfl (by kernel_rfl) (by kernel_rfl) (by kernel_rfl) (fun _ _ _ h => h) (Or.inl ⟨by rfl, ?_⟩) hHeld ?_
                    rotate_left
                    · (intro wx hSw; go_simp; try (with_reducible rfl))
                    try simp only [Act.put, List.setIfInBounds_toArray, List.set_cons_zero, List.set_cons_succ]
                    refine wpAnyH_ready (rs := [16]) (by kernel_rfl) (by simp) ?_
                    refine AllReadyH.cons rfl (fun K hK => ?_) ?_
                    · go_simp
                      refine (works_any _).mono ?_
                      rintro e u8 ⟨rfl, hb2⟩
                      have hB : Below w2.heap.size w2 u8 := hB.trans (hb2.mono hB.size)
                      go_wp2_with fail
                      refine hK.out _ _ hB (fun hHeld => ?_)
                      clear hK K
                      try simp only [Act.put, List.setIfInBounds_toArray, List.set_cons_zero, List.set_cons_succ]
                      refine wpAnyH_ready (rs := [17]) (by kernel_rfl) (by simp) (AllReadyH.cons rfl (fun K hK => ?_) AllReadyH.nil)
                      go_simp
                      refine hK.out _ _ hB (fun hHeld => ?_)
                      clear hK K
                      try simp only [Act.put, List.setIfInBounds_toArray, List.set_cons_zero, List.set_cons_succ]
                      refine wpAnyH_ready (rs := [18]) (by kernel_rfl) (by simp) (AllReadyH.cons rfl (fun K hK => ?_) AllReadyH.nil)
                      go_simp
                      refine hK.out _ _ hB (fun hHeld => ?_)
                      clear hK K
                      try simp only [Act.put, List.setIfInBounds_toArray, List.set_cons_zero, List.set_cons_succ]
                      refine wpAnyH_done (by kernel_rfl) ?_ _
                      replace B2 := B2.trans (hB.mono B2.size)
                      clear hB
                      go_wp2
                      go_ret
                      exact ⟨rfl, B2⟩
                    exact AllReadyH.nil
                  exact AllReadyH.nil
                exact AllReadyH.nil
              exact AllReadyH.nil
            exact AllReadyH.nil
          exact AllReadyH.nil
        exact AllReadyH.nil
      refine AllReadyH.cons rfl (fun K hK => ?_) ?_
      · go_simp
        have hB : Below w2.heap.size w2 ((w2.alloc (.cells #[] 23)).drew) := ((Below.refl _ w2).alloc (Nat.le_refl _) _).drew
        have z0 : w2.heap.size < ((w2.alloc (.cells #[] 23)).drew).heap.size := by simp
        have oD : ((w2.alloc (.cells #[] 23)).drew).ownsRow 0 23 2 (.slice (some ⟨w2.heap.size, 0, none⟩) 0 0) 0 (pcells (pts a b 0)) := (World.ownsRow_lit w2 #[] 0 (Nat.zero_le _) (by decide) rfl).drew
        have oDl : ∀ g, (Value.slice (some ⟨w2.heap.size, 0, none⟩) 0 0).ownBlock = some g → g = w2.heap.size := by intro g hg; simpa [Value.ownBlock, eq_comm] using hg
        refine hK.out _ _ hB (fun hHeld => ?_)
        clear hK K
        generalize (w2.alloc (.cells #[] 23)).drew = u1 at *
        try simp only [Act.put, List.setIfInBounds_toArray, List.set_cons_zero, List.set_cons_succ]
        refine wpAnyH_ready (rs := [4]) (by kernel_rfl) (by simp) ?_
        refine AllReadyH.cons rfl (fun K hK => ?_) ?_
        · go_simp
          refine (HL1.out _).mono ?_
          rintro e u2 ⟨v, rfl, hrow, hb2⟩
          obtain ⟨oAA, oAc, rfl⟩ := own_form hrow
          have hB : Below w2.heap.size w2 u2 := (by first | exact hB.trans (hb2.mono hB.size) | exact hB.drew.trans (hb2.mono (Nat.le_refl _)))
          have z1 : u1.heap.size ≤ u2.heap.size := hb2.size
          replace oD := own_below oD hb2
          have oA := hrow
          have oAl : ∀ g, (Value.slice oAA NA oAc).ownBlock = some g → u1.heap.size ≤ g ∧ g < u2.heap.size := hrow.lt
          clear hrow hb2
          go_wp2_with fail
          refine hK.out _ _ hB (fun hHeld => ?_)
          clear hK K
          try simp only [Act.put, List.setIfInBounds_toArray, List.set_cons_zero, List.set_cons_succ]
          refine wpAnyH_ready (rs := [8]) (by kernel_rfl) (by simp) ?_
          refine AllReadyH.cons rfl (fun K hK => ?_) ?_
          · go_simp
            refine (HL2.out _).mono ?_
            rintro e u3 ⟨v, rfl, hrow, hb2⟩
            obtain ⟨oBA, oBc, rfl⟩ := own_form hrow
            have hB : Below w2.heap.size w2 u3 := (by first | exact hB.trans (hb2.mono hB.size) | exact hB.drew.trans (hb2.mono (Nat.le_refl _)))
            have z2 : u2.heap.size ≤ u3.heap.size := hb2.size
            replace oA := own_below oA hb2
            replace oD := own_below oD hb2
            have oB := hrow
            have oBl : ∀ g, (Value.slice oBA NB oBc).ownBlock = some g → u2.heap.size ≤ g ∧ g < u3.heap.size := hrow.lt
            clear hrow hb2
            go_wp2_with fail
            refine hK.out _ _ hB (fun hHeld => ?_)
            clear hK K
            try simp only [Act.put, List.setIfInBounds_toArray, List.set_cons_zero, List.set_cons_succ]
            refine wpAnyH_ready (rs := [9]) (by kernel_rfl) (by simp) ?_
            refine AllReadyH.cons rfl (fun K hK => ?_) ?_
            · refine step_append_any _ rfl (.tmp 39) (.tmp 42) _ rfl 0 23 i0 _ 2 16 Try.underlying39 hi0 hz0 hz1 hz2 rfl (by omega) _ 0 (pcells (pts a b 0)) rfl oD u3.heap.size _ _ _ (pcells (pts a b NB)) rfl (Reads.of_own oB) (pcells_one _) (by unfold maxLen; omega) (by omega) (Nat.zero_le _) ?_
              intro v u4 oE hgrow hat
              obtain ⟨dA9, dc9, rfl⟩ := own_form oE
              have z3 : u3.heap.size ≤ u4.heap.size := hgrow.size
              replace oA := oA.kept hgrow (by cases h9 : (Value.slice oAA NA oAc).ownBlock with | none => exact .inl rfl | some g => exact .inr (by intro e; have h1 := oAl g h9; have h2 := oDl g e.symm; omega))
              replace oB := oB.kept hgrow (by cases h9 : (Value.slice oBA NB oBc).ownBlock with | none => exact .inl rfl | some g => exact .inr (by intro e; have h1 := oBl g h9; have h2 := oDl g e.symm; omega))
              have hB : Below w2.heap.size w2 u4 := hB.grown hgrow hB.size (by intro g hg; have := oDl g hg; have := hB0; omega)
              have oDl : ∀ g, (Value.slice dA9 (0 + NB) dc9).ownBlock = some g → (g = w2.heap.size ∨ g = u3.heap.size) ∧ g < u4.heap.size := fun g hg => ⟨hat.elim (fun h => .inl (oDl g (h ▸ hg))) (fun h => .inr (by rw [h] at hg; injection hg with hg; exact hg.symm)), (oE.lt g hg).2⟩
              rw [show pcells (pts a b 0) ++ pcells (pts a b NB) = pcells (pts a b NB) from rfl] at oE
              simp only [Nat.zero_add] at oE oDl ⊢
              have oD := oE
              clear oE hgrow hat
              refine hK.out _ _ hB (fun hHeld => ?_)
              clear hK K
              try simp only [Act.put, List.setIfInBounds_toArray, List.set_cons_zero, List.set_cons_succ]
              refine wpAnyH_ready (rs := [12]) (by kernel_rfl) (by simp) ?_
              refine AllReadyH.cons rfl (fun K hK => ?_) ?_
              · go_simp
                refine (HL3.out _).mono ?_
                rintro e u5 ⟨v, rfl, hrow, hb2⟩
                obtain ⟨oCA, oCc, rfl⟩ := own_form hrow
                have hB : Below w2.heap.size w2 u5 := (by first | exact hB.trans (hb2.mono hB.size) | exact hB.drew.trans (hb2.mono (Nat.le_refl _)))
                have z4 : u4.heap.size ≤ u5.heap.size := hb2.size
                replace oA := own_below oA hb2
                replace oB := own_below oB hb2
                replace oD := own_below oD hb2
                have oC := hrow
                have oCl : ∀ g, (Value.slice oCA NC oCc).ownBlock = some g → u4.heap.size ≤ g ∧ g < u5.heap.size := hrow.lt
                clear hrow hb2
                go_wp2_with fail
                refine hK.out _ _ hB (fun hHeld => ?_)
                clear hK K
                try simp only [Act.put, List.setIfInBounds_toArray, List.set_cons_zero, List.set_cons_succ]
                refine wpAnyH_ready (rs := [13]) (by kernel_rfl) (by simp) ?_
                refine AllReadyH.cons rfl (fun K hK => ?_) ?_
                · refine step_append_any _ rfl (.tmp 43) (.tmp 46) _ rfl 0 23 i0 _ 2 16 Try.underlying39 hi0 hz0 hz1 hz2 rfl (by omega) _ NB (pcells (pts a b NB)) rfl oD u5.heap.size _ _ _ (pcells (pts x y NC)) rfl (Reads.of_own oC) (pcells_one _) (by unfold maxLen; omega) (by omega) (Nat.zero_le _) ?_
                  intro v u6 oE hgrow hat
                  obtain ⟨dA13, dc13, rfl⟩ := own_form oE
                  have z5 : u5.heap.size ≤ u6.heap.size := hgrow.size
                  replace oA := oA.kept hgrow (by cases h9 : (Value.slice oAA NA oAc).ownBlock with | none => exact .inl rfl | some g => exact .inr (by intro e; have h1 := oAl g h9; have h2 := oDl g e.symm; omega))
                  replace oB := oB.kept hgrow (by cases h9 : (Value.slice oBA NB oBc).ownBlock with | none => exact .inl rfl | some g => exact .inr (by intro e; have h1 := oBl g h9; have h2 := oDl g e.symm; omega))
                  replace oC := oC.kept hgrow (by cases h9 : (Value.slice oCA NC oCc).ownBlock with | none => exact .inl rfl | some g => exact .inr (by intro e; have h1 := oCl g h9; have h2 := oDl g e.symm; omega))
                  have hB : Below w2.heap.size w2 u6 := hB.grown hgrow hB.size (by intro g hg; have := oDl g hg; have := hB0; omega)
                  have oD := oE
                  clear oE hgrow hat
                  refine hK.out _ _ hB (fun hHeld => ?_)
                  clear hK K
                  try simp only [Act.put, List.setIfInBounds_toArray, List.set_cons_zero, List.set_cons_succ]
                  refine wpAnyH_ready (rs := [14]) (by kernel_rfl) (by simp) ?_
                  refine AllReadyH.cons rfl (fun K hK => ?_) ?_
                  · go_simp
                    rw [hcat.out.1, hcat.out.2] at oD
                    rw [hcat.out.2]
                    have hq1 := PReads.of_own oA
                    have hq2 := PReads.of_own oD
                    refine (same_eq _ _ _ _ _ _ _ hq1 hq2 (by omega)).mono ?_
                    rintro e u7 ⟨rfl, hb2⟩
                    have hB : Below w2.heap.size w2 u7 := hB.trans (hb2.mono hB.size)
                    go_wp2_with fail
                    refine hK.out _ _ hB (fun hHeld => ?_)
                    clear hK K
                    try simp only [Act.put, List.setIfInBounds_toArray, List.set_cons_zero, List.set_cons_succ]
                    refine wpAnyH_take (i := 15) (v := ?_) rfl (by kernel_rfl) (by kernel_rfl) (by kernel_rfl) (fun _ _ _ h => h) (Or.inl ⟨by rfl, ?_⟩) hHeld ?_
                    rotate_left
                    · (intro wx hSw; go_simp; try (with_reducible rfl))
                    try simp only [Act.put, List.setIfInBounds_toArray, List.set_cons_zero, List.set_cons_succ]
                    refine wpAnyH_ready (rs := [16]) (by kernel_rfl) (by simp) ?_
                    refine AllReadyH.cons rfl (fun K hK => ?_) ?_
                    · go_simp
                      refine (works_any _).mono ?_
                      rintro e u8 ⟨rfl, hb2⟩
                      have hB : Below w2.heap.size w2 u8 := hB.trans (hb2.mono hB.size)
                      go_wp2_with fail
                      refine hK.out _ _ hB (fun hHeld => ?_)
                      clear hK K
                      try simp only [Act.put, List.setIfInBounds_toArray, List.set_cons_zero, List.set_cons_succ]
                      refine wpAnyH_ready (rs := [17]) (by kernel_rfl) (by simp) (AllReadyH.cons rfl (fun K hK => ?_) AllReadyH.nil)
                      go_simp
                      refine hK.out _ _ hB (fun hHeld => ?_)
                      clear hK K
                      try simp only [Act.put, List.setIfInBounds_toArray, List.set_cons_zero, List.set_cons_succ]
                      refine wpAnyH_ready (rs := [18]) (by kernel_rfl) (by simp) (AllReadyH.cons rfl (fun K hK => ?_) AllReadyH.nil)
                      go_simp
                      refine hK.out _ _ hB (fun hHeld => ?_)
                      clear hK K
                      try simp only [Act.put, List.setIfInBounds_toArray, List.set_cons_zero, List.set_cons_succ]
                      refine wpAnyH_done (by kernel_rfl) ?_ _
                      replace B2 := B2.trans (hB.mono B2.size)
                      clear hB
                      go_wp2
                      go_ret
                      exact ⟨rfl, B2⟩
                    exact AllReadyH.nil
                  exact AllReadyH.nil
                exact AllReadyH.nil
              exact AllReadyH.nil
            exact AllReadyH.nil
          exact AllReadyH.nil
        exact AllReadyH.nil
      exact AllReadyH.nil
    · have z1 : (ee != 0) = true := by simpa using hz
      clear hz
      go_wp2_with (go_at_call 12; refine (num_any _ _).mono ?_; rintro e w' ⟨rfl, rfl⟩)
      refine (works_any _).mono ?_
      rintro e w9 ⟨rfl, hb⟩
      go_wp2
      go_ret
      exact ⟨rfl, B2.trans (hb.mono B2.size)⟩
end Go.Proofs.Ytfafpgboheaajaa
