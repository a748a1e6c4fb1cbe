/- The walk of the law PlaceRuns. Conditions: numbers of 64 bits. -/
import Derived.Test.YtfafpgboheaajaaPlaceW
namespace Go.Proofs.Ytfafpgboheaajaa
open Go.RowKit

theorem PReads.front {w : World} {B n k : Nat} {A : Option Addr} {a b : Int} (h : PReads w B A n (pts a b n)) (hk : k ≤ n) : PReads w B A k (pts a b k) := by
  refine ⟨pts_len a b k, fun hn => ?_⟩
  obtain ⟨g, rfl, hb, hc⟩ := h.2 (by omega)
  refine ⟨g, rfl, hb, fun j u hu => hc j u ?_⟩
  have e : pts a b n = pts a b k ++ (pts a b n).drop k := by
    have h1 : pts a b k = (pts a b n).take k := by
      unfold pts
      rw [← List.map_take, List.take_range, Nat.min_eq_left hk]
    rw [h1, List.take_append_drop]
  rw [e, pcells_app, List.getElem?_append_left]
  · exact hu
  · rcases Nat.lt_or_ge j (pcells (pts a b k)).length with h' | h'
    · exact h'
    · rw [List.getElem?_eq_none h'] at hu
      cases hu

theorem own_cap {w : World} {base : Nat} {e : TypeId} {size n c : Nat} {A : Option Addr} {xs : List Value} (h : w.ownsRow base e size (.slice A n c) n xs) : n ≤ c := by
  rcases h.2 with ⟨h1, h2⟩ | ⟨g, cap, cur, h1, _, _, h3, _⟩
  · omega
  · injection h1 with _ _ h1
    omega

theorem slice_head (A : Option Addr) (n c h : Nat) (hh : h ≤ c) (w : World) :
    (Instr.slice 39 (.slice A n c) none (some (.int .i64 (h : Int))) none).run Try.prog w = .ok (.slice A h c) w := by
  rw [run_slice_h w 39 A n c (by kernel_rfl) .i64 (h : Int) (by omega) (by omega), show (sizeOf (Try.prog.elem 39)).run Try.prog w = .ok 2 w from by kernel_rfl]
  have : A.map (·.add 0) = A := by cases A <;> simp [Addr.add]
  simp [sliced, this]

theorem plL_cases (a b m : Int) : (inPlace a b = false ∨ m < 0) ∧ plL a b m = [] ∧ plE a b m = 2 ∨ inPlace a b = true ∧ 0 ≤ m ∧ 8192 - (8 * a + b) < m ∧ plL a b m = [] ∧ plE a b m = 4 ∨
    inPlace a b = true ∧ 0 ≤ m ∧ m ≤ 8192 - (8 * a + b) ∧ plL a b m = lns a b (runN a b m) ∧ plE a b m = 0 := by
  unfold plL plE
  cases hin : inPlace a b
  · left
    simp
  · by_cases h0 : 0 ≤ m
    · by_cases h1 : m ≤ 8192 - (8 * a + b)
      · right; right
        simp [h0, h1]
      · right; left
        simp [h0, h1]
        omega
    · left
      simp [h0]
      omega

theorem icells_int (L : List Int) : ∀ x ∈ icells L, ∃ i, x = .int .i64 i := by
  intro x hx
  unfold icells at hx
  obtain ⟨y, _, rfl⟩ := List.mem_map.1 hx
  exact ⟨y, rfl⟩

set_option maxRecDepth 100000 in
set_option maxHeartbeats 4000000 in
theorem placeRuns_any (a b m s : Int) (w : World) (hm0 : (Lit.int .i64 m).wf = true) (hs0 : (Lit.int .i64 s).wf = true) :
    Calls Try.prog 5 #[.agg #[.int .i64 a, .int .i64 b], .int .i64 m, .int .i64 s] w fun e w' => e = .returned (.bool true) ∧ Below w.heap.size w w' := by
  have hm : -9223372036854775808 ≤ m ∧ m ≤ 9223372036854775807 := by
    simp [Lit.wf, IntKind.min, IntKind.max, IntKind.signed, IntKind.bits] at hm0
    omega
  have hs : -9223372036854775808 ≤ s ∧ s ≤ 9223372036854775807 := by
    simp [Lit.wf, IntKind.min, IntKind.max, IntKind.signed, IntKind.bits] at hs0
    omega
  clear hm0 hs0
  have hp := Blk.new w 23 #[.int .i64 a, .int .i64 b]
  have B0 : Below w.heap.size w (w.alloc (.cells #[.int .i64 a, .int .i64 b] 23)) := (Below.refl _ w).alloc (Nat.le_refl _) _
  by_cases hout : 300 < m ∧ m < 8000
  · obtain ⟨c1, c2⟩ := hout
    go_enter Try.func5, Try.ntmps5
    go_wp2_with fail
    refine (works_any _).mono ?_
    rintro e w9 ⟨rfl, hb⟩
    go_wp2
    go_ret
    exact ⟨rfl, B0.trans (hb.mono B0.size)⟩
  · have hor : ¬ 300 < m ∨ (300 < m ∧ ¬ m < 8000) := by omega
    obtain ⟨M, hM⟩ : ∃ M, (if 9000 < m then 9000 else m) = M := ⟨_, rfl⟩
    have hMb : -9223372036854775808 ≤ M ∧ M ≤ 9223372036854775807 := by subst hM; split <;> omega
    obtain ⟨N, hN⟩ : ∃ N, runN a b m = N := ⟨_, rfl⟩
    have hMN : runN a b M = N := by
      rw [← hN, ← hM]
      unfold runN
      split
      · next h =>
        obtain ⟨h1, h2, h3, h4⟩ := (inPlace_iff a b).1 h
        split <;> omega
      · rfl
    obtain ⟨T, hT⟩ : ∃ T, (if s > 1 then s else 1) = T := ⟨_, rfl⟩
    have hTb : 1 ≤ T := by subst hT; split <;> omega
    obtain ⟨h, hh⟩ : ∃ h, min N T.toNat = h := ⟨_, rfl⟩
    have hN8 : N ≤ 8192 := by rw [← hN]; exact runN_le a b m
    have e1 : lrunN a b m T = h := by unfold lrunN; rw [hN]; omega
    have e2 : lrunN a b m 9000 = N := by unfold lrunN; rw [hN]; omega
    have hhN : h ≤ N := by omega
    have hmin : ∀ X, (Builtin.min_ #[3, 3] 3 #[.int .i64 m, .int .i64 9000]).run Try.prog X = .ok (.int .i64 M) X := fun X => by rw [run_min_int2, hM]
    have hmax : ∀ X, (Builtin.max_ #[3, 3] 3 #[.int .i64 1, .int .i64 s]).run Try.prog X = .ok (.int .i64 T) X := fun X => by rw [run_max_int2, hT]
    have hmin2 : ∀ X, (Builtin.min_ #[3, 3] 3 #[.int .i64 (N : Int), .int .i64 T]).run Try.prog X = .ok (.int .i64 (h : Int)) X := fun X => by
      rw [run_min_int2]
      congr 2
      split <;> omega
    have L0 := fun W => rrun_any a b M W hMb
    have L1 := fun W => lrun_any a b m T W hm
    have L2 := fun W => lrun_any a b m 9000 W hm
    simp only [hMN] at L0
    simp only [e1] at L1
    simp only [e2] at L2
    have HL0 := Lib.hid L0
    have HL1 := Lib.hid L1
    have HL2 := Lib.hid L2
    have HN := Lib.hid hN
    clear hout hM hMN hT hh e1 e2 L0 L1 L2 hN hs
    rcases hor with c1 | ⟨c1, c2⟩
    all_goals
      go_enter Try.func5, Try.ntmps5
      go_wp2_with fail
      refine (HL0.out _).mono ?_
      rintro e w1 ⟨v1, rfl, hr1, hb⟩
      have hN1 := own_form hr1
      obtain ⟨A1, c1, rfl⟩ := hN1
      have hcap := own_cap hr1
      have hL := PReads.of_own hr1
      replace hp := hp.below hb hp.lt
      have B1 := B0.trans (hb.mono B0.size)
      have ka := hp.cell 0
      have kb := hp.cell 1
      simp at ka kb
      clear hb hr1 B0 hmin
      go_wp2_with fail
      refine (plines_any a b m _ hm).mono ?_
      rintro e w2 ⟨v2, rfl, hr2, hb⟩
      obtain ⟨LL, hLL⟩ : ∃ LL, plL a b m = LL := ⟨_, rfl⟩
      obtain ⟨ee, hee⟩ : ∃ ee, plE a b m = ee := ⟨_, rfl⟩
      have hpl := plL_cases a b m
      rw [hLL, hee, HN.out] at hpl
      rw [hLL] at hr2
      rw [hee]
      obtain ⟨A2, c2, rfl⟩ := own_form hr2
      have hR := Reads.of_own hr2
      replace hL := (hL.below hb).more hb.size
      replace hp := hp.below hb hp.lt
      have B2 := B1.trans (hb.mono B1.size)
      replace ka := hp.cell 0
      replace kb := hp.cell 1
      simp at ka kb
      have Hpl := Lib.hid hpl
      clear hb hr2 B1 hLL hee hpl
      have hB := Below.refl w2.heap.size w2
      have hsl := slice_head A1 N c1 h (by omega)
      go_wp2_with fail
      refine wp_region_any (by kernel_rfl) ?_
      (change wpAny _ _ _ _ _ _ _ (World.drew _))
      refine wpAny_take (i := 1) (v := ?_) rfl (by kernel_rfl) (by kernel_rfl) (by kernel_rfl) (fun _ _ _ h => h) (Or.inl ⟨by rfl, ?_⟩) ?_
      rotate_left
      · (intro wx; go_simp; try (with_reducible rfl))
      refine wpAny_take (i := 2) (v := ?_) rfl (by kernel_rfl) (by kernel_rfl) (by kernel_rfl) (fun _ _ _ h => h) (Or.inl ⟨by rfl, ?_⟩) ?_
      rotate_left
      · (intro wx; go_simp; try (with_reducible rfl))
      refine wpAny_take (i := 3) (v := ?_) rfl (by kernel_rfl) (by kernel_rfl) (by kernel_rfl) (fun _ _ _ h => h) (Or.inl ⟨by rfl, ?_⟩) ?_
      rotate_left
      · (intro wx; go_simp; try (with_reducible rfl))
      refine wpAny_take (i := 5) (v := ?_) rfl (by kernel_rfl) (by kernel_rfl) (by kernel_rfl) (fun _ _ _ h => h) (Or.inl ⟨by rfl, ?_⟩) ?_
      rotate_left
      · (intro wx; go_simp; try (with_reducible rfl))
      refine wpAny_take (i := 6) (v := ?_) rfl (by kernel_rfl) (by kernel_rfl) (by kernel_rfl) (fun _ _ _ h => h) (Or.inl ⟨by rfl, ?_⟩) ?_
      rotate_left
      · (intro wx; go_simp; try (with_reducible rfl))
      refine wpAny_take (i := 7) (v := ?_) rfl (by kernel_rfl) (by kernel_rfl) (by kernel_rfl) (fun _ _ _ h => h) (Or.inl ⟨by rfl, ?_⟩) ?_
      rotate_left
      · (intro wx; go_simp; try (with_reducible rfl))
      refine wpAny_take (i := 8) (v := ?_) rfl (by kernel_rfl) (by kernel_rfl) (by kernel_rfl) (fun _ _ _ h => h) (Or.inl ⟨by rfl, ?_⟩) ?_
      rotate_left
      · (intro wx; go_simp; try (with_reducible rfl))
      refine wpAny_take (i := 9) (v := ?_) rfl (by kernel_rfl) (by kernel_rfl) (by kernel_rfl) (fun _ _ _ h => h) (Or.inl ⟨by rfl, ?_⟩) ?_
      rotate_left
      · (intro wx; go_simp; try (with_reducible rfl))
      refine wpAny_take (i := 10) (v := ?_) rfl (by kernel_rfl) (by kernel_rfl) (by kernel_rfl) (fun _ _ _ h => h) (Or.inl ⟨by rfl, ?_⟩) ?_
      rotate_left
      · (intro wx; go_simp; try (with_reducible rfl))
      refine wpAny_take (i := 11) (v := ?_) rfl (by kernel_rfl) (by kernel_rfl) (by kernel_rfl) (fun _ _ _ h => h) (Or.inl ⟨by rfl, ?_⟩) ?_
      rotate_left
      · (intro wx; go_simp; try (with_reducible rfl))
      refine wpAny_ready (rs := [0]) (by kernel_rfl) (by simp) (AllReady.cons rfl (fun K hK => ?_) AllReady.nil)
      go_simp
      refine hK _ _ ?_
      clear hK K
      refine wpAny_ready (rs := [4]) (by kernel_rfl) (by simp) (AllReady.cons rfl (fun K hK => ?_) AllReady.nil)
      go_simp
      go_wp2_with (go_at_call 22; go_must (refine (HL1.out _).mono ?_; rintro e wq ⟨vq, rfl, hrow, hb2⟩; obtain ⟨Aq, cq, rfl⟩ := own_form hrow; have hq := PReads.of_own hrow; have hB := (by first | exact Below.trans hB (Below.mono hb2 (Below.size hB)) | exact Below.trans (Below.drew hB) (Below.mono hb2 (Nat.le_refl _)) : Below w2.heap.size w2 wq); have hwL := PReads.more (hL.below hB) hB.size; have hwS := PReads.front hwL hhN; have ka := (hp.below hB hp.lt).cell 0; have kb := (hp.below hB hp.lt).cell 1; simp at ka kb; clear hb2 hrow))
      refine wpAny_ready (rs := [12]) (by kernel_rfl) (by simp) (AllReady.cons rfl (fun K hK => ?_) AllReady.nil)
      go_simp
      go_wp2_with (go_at_call 21; go_must (refine (same_eq _ _ _ _ _ _ _ hq hwS (by omega)).mono ?_; rintro e wq ⟨rfl, hb2⟩; have hB := (by first | exact Below.trans hB (Below.mono hb2 (Below.size hB)) | exact Below.trans (Below.drew hB) (Below.mono hb2 (Nat.le_refl _)) : Below w2.heap.size w2 wq); have ka := (hp.below hB hp.lt).cell 0; have kb := (hp.below hB hp.lt).cell 1; simp at ka kb; clear hb2 hq))
      refine wpAny_take (i := 13) (v := ?_) rfl (by kernel_rfl) (by kernel_rfl) (by kernel_rfl) (fun _ _ _ h => h) (Or.inl ⟨by rfl, ?_⟩) ?_
      rotate_left
      · (intro wx; go_simp; try (with_reducible rfl))
      refine wpAny_take (i := 14) (v := ?_) rfl (by kernel_rfl) (by kernel_rfl) (by kernel_rfl) (fun _ _ _ h => h) (Or.inl ⟨by rfl, ?_⟩) ?_
      rotate_left
      · (intro wx; go_simp; try (with_reducible rfl))
      refine wpAny_take (i := 16) (v := ?_) rfl (by kernel_rfl) (by kernel_rfl) (by kernel_rfl) (fun _ _ _ h => h) (Or.inl ⟨by rfl, ?_⟩) ?_
      rotate_left
      · (intro wx; go_simp; try (with_reducible rfl))
      refine wpAny_take (i := 18) (v := ?_) rfl (by kernel_rfl) (by kernel_rfl) (by kernel_rfl) (fun _ _ _ h => h) (Or.inl ⟨by rfl, ?_⟩) ?_
      rotate_left
      · (intro wx; go_simp; try (with_reducible rfl))
      refine wpAny_ready (rs := [15]) (by kernel_rfl) (by simp) (AllReady.cons rfl (fun K hK => ?_) AllReady.nil)
      go_simp
      refine hK _ _ ?_
      clear hK K
      refine wpAny_ready (rs := [17]) (by kernel_rfl) (by simp) (AllReady.cons rfl (fun K hK => ?_) AllReady.nil)
      go_simp
      go_wp2_with (go_at_call 22; go_must (refine (HL2.out _).mono ?_; rintro e wq ⟨vq, rfl, hrow, hb2⟩; obtain ⟨Aq, cq, rfl⟩ := own_form hrow; have hq := PReads.of_own hrow; have hB := (by first | exact Below.trans hB (Below.mono hb2 (Below.size hB)) | exact Below.trans (Below.drew hB) (Below.mono hb2 (Nat.le_refl _)) : Below w2.heap.size w2 wq); have hwL := PReads.more (hL.below hB) hB.size; have hwS := PReads.front hwL hhN; have ka := (hp.below hB hp.lt).cell 0; have kb := (hp.below hB hp.lt).cell 1; simp at ka kb; clear hb2 hrow))
      refine wpAny_ready (rs := [19]) (by kernel_rfl) (by simp) (AllReady.cons rfl (fun K hK => ?_) AllReady.nil)
      go_simp
      go_wp2_with (go_at_call 21; go_must (refine (same_eq _ _ _ _ _ _ _ hq hwL (by omega)).mono ?_; rintro e wq ⟨rfl, hb2⟩; have hB := (by first | exact Below.trans hB (Below.mono hb2 (Below.size hB)) | exact Below.trans (Below.drew hB) (Below.mono hb2 (Nat.le_refl _)) : Below w2.heap.size w2 wq); have ka := (hp.below hB hp.lt).cell 0; have kb := (hp.below hB hp.lt).cell 1; simp at ka kb; clear hb2 hq))
      refine wpAny_take (i := 20) (v := ?_) rfl (by kernel_rfl) (by kernel_rfl) (by kernel_rfl) (fun _ _ _ h => h) (Or.inl ⟨by rfl, ?_⟩) ?_
      rotate_left
      · (intro wx; go_simp; try (with_reducible rfl))
      refine wpAny_take (i := 21) (v := ?_) rfl (by kernel_rfl) (by kernel_rfl) (by kernel_rfl) (fun _ _ _ h => h) (Or.inl ⟨by rfl, ?_⟩) ?_
      rotate_left
      · (intro wx; go_simp; try (with_reducible rfl))
      refine wpAny_done (by kernel_rfl) ?_ _
      have B3 := B2.trans (hB.mono B2.size)
      replace hp := hp.below hB hp.lt
      replace hR := (hR.below hB).more hB.size
      clear hB hsl hmax hmin2 hL hwL hwS
      try clear hB
      go_wp2_with fail
      refine (rright_any a b _).mono ?_
      rintro e w7 ⟨rfl, hb⟩
      replace hp := hp.below hb hp.lt
      replace hR := (hR.below hb).more hb.size
      have B4 := B3.trans (hb.mono B3.size)
      replace ka := hp.cell 0
      replace kb := hp.cell 1
      simp at ka kb
      clear hb B3
      cases hin : inPlace a b
      · obtain ⟨rfl, rfl⟩ : LL = [] ∧ ee = 2 := by
          have := Hpl.out
          simpa [hin] using this
        clear hin
        go_wp2_with (go_at_call 12; refine (num_any _ _).mono ?_; rintro e w' ⟨rfl, rfl⟩)
        refine (works_any _).mono ?_
        rintro e w9 ⟨rfl, hb⟩
        go_wp2
        go_ret
        exact ⟨rfl, B4.trans (hb.mono B4.size)⟩
      · by_cases hm0 : m < 0
        · obtain ⟨rfl, rfl⟩ : LL = [] ∧ ee = 2 := by
            rcases Hpl.out with ⟨_, h1, h2⟩ | ⟨_, h1, _⟩ | ⟨_, h1, _⟩
            · exact ⟨h1, h2⟩
            · omega
            · omega
          clear hin
          go_wp2_with (go_at_call 12; refine (num_any _ _).mono ?_; rintro e w' ⟨rfl, rfl⟩)
          refine (works_any _).mono ?_
          rintro e w9 ⟨rfl, hb⟩
          go_wp2
          go_ret
          exact ⟨rfl, B4.trans (hb.mono B4.size)⟩
        · obtain ⟨q1, q2, q3, q4⟩ := (inPlace_iff a b).1 hin
          obtain ⟨n0, hn0⟩ : ∃ n0, 8 * a + b = n0 := ⟨_, rfl⟩
          have ww : IntKind.i64.wrap (8192 - n0) = 8192 - n0 := by rw [IntKind.wrap_i64]; omega
          have Hin := Lib.hid hin
          have hpl := Hpl.out
          rw [hn0] at hpl
          have Hn0 := Lib.hid hn0
          by_cases hm1 : 8192 - n0 < m
          · obtain ⟨rfl, rfl⟩ : LL = [] ∧ ee = 4 := by
              rcases hpl with ⟨h1, _⟩ | ⟨_, _, _, h1, h2⟩ | ⟨_, _, h1, _⟩
              · rcases h1 with h1 | h1
                · rw [hin] at h1; cases h1
                · omega
              · exact ⟨h1, h2⟩
              · omega
            clear hin hn0 q1 q2 q3 q4 hpl
            go_wp2_with fail
            refine (raddress_any a b _ Hin.out).mono ?_
            rintro e w8 ⟨rfl, hb⟩
            rw [Hn0.out]
            have B5 := B4.trans (hb.mono B4.size)
            clear hb B4 ka kb hp
            go_wp2_with (go_at_call 12; refine (num_any _ _).mono ?_; rintro e w' ⟨rfl, rfl⟩)
            refine (works_any _).mono ?_
            rintro e w9 ⟨rfl, hb⟩
            go_wp2
            go_ret
            exact ⟨rfl, B5.trans (hb.mono B5.size)⟩
          · obtain ⟨hLL, rfl⟩ : LL = lns a b N ∧ ee = 0 := by
              rcases hpl with ⟨h1, _⟩ | ⟨_, _, h1, _⟩ | ⟨_, _, _, h1, h2⟩
              · rcases h1 with h1 | h1
                · rw [hin] at h1; cases h1
                · omega
              · omega
              · exact ⟨h1, h2⟩
            have hLL8 : LL.length ≤ 10000 := by
              have := lns_len a b N
              rw [hLL]
              omega
            have HLL := Lib.hid hLL
            clear hin hn0 q1 q2 q3 q4 hpl hLL
            go_wp2_with fail
            refine (raddress_any a b _ Hin.out).mono ?_
            rintro e w8 ⟨rfl, hb⟩
            rw [Hn0.out]
            replace hp := hp.below hb hp.lt
            replace hR := (hR.below hb).more hb.size
            have B5 := B4.trans (hb.mono B4.size)
            replace ka := hp.cell 0
            replace kb := hp.cell 1
            simp at ka kb
            clear hb B4
            go_wp2_with fail
            refine (rlines_any a b m _ hm).mono ?_
            rintro e w9 ⟨v3, rfl, hr3, hb⟩
            rw [HN.out, ← HLL.out] at hr3
            obtain ⟨A3, c3, rfl⟩ := own_form hr3
            have hR3 := Reads.of_own hr3
            replace hR := (hR.below hb).more hb.size
            have B6 := B5.trans (hb.mono B5.size)
            clear hb B5 hr3 ka kb
            go_wp2_with fail
            refine (ints_eq (icells LL) _ _ LL.length _ _ _ hR hR3 (icells_int LL) hLL8).mono ?_
            rintro e wa ⟨rfl, hb⟩
            have B7 := B6.trans (hb.mono B6.size)
            clear hb B6
            go_wp2_with (go_at_call 12; refine (num_any _ _).mono ?_; rintro e w' ⟨rfl, rfl⟩)
            refine (works_any _).mono ?_
            rintro e w9 ⟨rfl, hb⟩
            go_wp2
            go_ret
            exact ⟨rfl, B7.trans (hb.mono B7.size)⟩
end Go.Proofs.Ytfafpgboheaajaa
