/- The walk of the document's GetEntry. Conditions: words of 64 bits. -/
import Derived.Test.YtdgnbmcckknfiaaGreatRefH
namespace Go.Proofs.YtdgnbmcckknfiaaGreat
open Go.RowKit
set_option linter.unusedSimpArgs false

set_option maxRecDepth 100000 in
set_option maxHeartbeats 4000000 in
theorem rGetEntry_any (a b c d e f g h : Nat) (hx : ∀ x ∈ [d, e, f, g, h], x < 18446744073709551616) (w : World) : Calls Tryz.prog 13 #[.agg (ln8 a b c d e f g h)] w fun r w' => r = .returned (.tuple #[.agg (entIsV a b c d e f g h), .bool (entIs a b c d e f g h)]) ∧ Below w.heap.size w w' := by
  show Calls Tryz.prog 13 #[.agg #[.int .u64 a, .int .u64 b, .int .u64 c, .int .u64 d, .int .u64 e, .int .u64 f, .int .u64 g, .int .u64 h]] w _
  have kl := (Blk.new w 23 #[.int .u64 a, .int .u64 b, .int .u64 c, .int .u64 d, .int .u64 e, .int .u64 f, .int .u64 g, .int .u64 h]).alloc (.cells #[.int .i64 0, .int .i64 0, .string ⟨#[]⟩] 44)
  have kr := Blk.new (w.alloc (.cells #[.int .u64 a, .int .u64 b, .int .u64 c, .int .u64 d, .int .u64 e, .int .u64 f, .int .u64 g, .int .u64 h] 23)) 44 #[.int .i64 0, .int .i64 0, .string ⟨#[]⟩]
  have hB := ((Below.refl _ w).alloc (Nat.le_refl _) (.cells #[.int .u64 a, .int .u64 b, .int .u64 c, .int .u64 d, .int .u64 e, .int .u64 f, .int .u64 g, .int .u64 h] 23)).alloc (by simp) (.cells #[.int .i64 0, .int .i64 0, .string ⟨#[]⟩] 44)
  simp only [World.size_alloc] at kr
  have hlt0 := kr.lt
  have hi := ent_alt a b c d e f g h
  have hV : ∀ S, (rdS [d, e, f, g, h] (smallI c)) = S → entIs a b c d e f g h = true → entIsV a b c d e f g h = #[.int .i64 (smallI a), .int .i64 (smallI b), .string S] := fun S hS he => by unfold entIsV; rw [he, ← hS]; rfl
  have hRd := rread_any d e f g h hx (smallI c)
  obtain ⟨S, hS⟩ : ∃ S, (rdS [d, e, f, g, h] (smallI c)) = S := ⟨_, rfl⟩
  replace hV := hV S hS
  have HV := Lib.hid hV
  rw [hS] at hRd hi
  obtain ⟨ok, hok⟩ : ∃ ok, rdOk [d, e, f, g, h] (smallI c) = ok := ⟨_, rfl⟩
  rw [hok] at hRd hi
  obtain ⟨cv, hcv⟩ : ∃ cv, smallI c = cv := ⟨_, rfl⟩
  have hsm := rsmall_any c
  rw [hcv] at hsm hRd
  have HRd := Lib.hid hRd
  have Hsm := Lib.hid hsm
  have Hi := Lib.hid hi
  clear hS hok hcv hsm hRd hi hV hx
  go_enter Tryz.func13, Tryz.ntmps13
  go_wp2_with fail
  generalize (w.alloc (.cells #[.int .u64 a, .int .u64 b, .int .u64 c, .int .u64 d, .int .u64 e, .int .u64 f, .int .u64 g, .int .u64 h] 23)).alloc (.cells #[.int .i64 0, .int .i64 0, .string ⟨#[]⟩] 44) = Z at *
  have hS : ∀ w', Below Z.heap.size Z w' → w'.cell? ⟨w.heap.size, 2, none⟩ = some (.int .u64 c) ∧ w'.cell? ⟨w.heap.size, 3, none⟩ = some (.int .u64 d) ∧ w'.cell? ⟨w.heap.size, 4, none⟩ = some (.int .u64 e) ∧ w'.cell? ⟨w.heap.size, 5, none⟩ = some (.int .u64 f) ∧ w'.cell? ⟨w.heap.size, 6, none⟩ = some (.int .u64 g) ∧ w'.cell? ⟨w.heap.size, 7, none⟩ = some (.int .u64 h) := fun w' hq => ⟨((kl.below hq kl.lt).cell 2).trans rfl, ((kl.below hq kl.lt).cell 3).trans rfl, ((kl.below hq kl.lt).cell 4).trans rfl, ((kl.below hq kl.lt).cell 5).trans rfl, ((kl.below hq kl.lt).cell 6).trans rfl, ((kl.below hq kl.lt).cell 7).trans rfl⟩
  have hq : Below Z.heap.size Z Z.drew := (Below.refl _ Z).drew
  have H := Lib.hid (And.intro kl (And.intro kr hB))
  clear kl kr hB
  have HS := Lib.hid hS
  clear hS
  have hS0 := HS.out _ hq
  go_region_held3 (fun w' => w'.cell? ⟨w.heap.size, 2, none⟩ = some (.int .u64 c) ∧ w'.cell? ⟨w.heap.size, 3, none⟩ = some (.int .u64 d) ∧ w'.cell? ⟨w.heap.size, 4, none⟩ = some (.int .u64 e) ∧ w'.cell? ⟨w.heap.size, 5, none⟩ = some (.int .u64 f) ∧ w'.cell? ⟨w.heap.size, 6, none⟩ = some (.int .u64 g) ∧ w'.cell? ⟨w.heap.size, 7, none⟩ = some (.int .u64 h))
    (first | exact hS0 | exact HS.out _ hq | go_keep)
    (first
      | (go_at_call 26; ((with_reducible refine (Hsm.out _).mono ?_); rintro r wq ⟨rfl, rfl⟩))
      | (go_at_call 33; ((with_reducible refine (HRd.out _).mono ?_); rintro r w9 ⟨rfl, hb⟩); replace hq := hq.trans (hb.mono hq.size); clear hb; have hS0 := HS.out _ hq))
  all_goals
    obtain ⟨kl, kr, hB⟩ := H.out
    replace kl := kl.below hq kl.lt
    replace kr := kr.below hq kr.lt
    replace hB := hB.trans (hq.mono hB.size)
    clear hS0 HS hq H HRd Hsm
    go_wp2_with fail
    clear hlt0
    generalize w9 = Y at *
    have hS : ∀ w', Below Y.heap.size Y w' → w'.cell? ⟨w.heap.size, 0, none⟩ = some (.int .u64 a) ∧ w'.cell? ⟨w.heap.size, 1, none⟩ = some (.int .u64 b) := fun w' hq => ⟨((kl.below hq kl.lt).cell 0).trans rfl, ((kl.below hq kl.lt).cell 1).trans rfl⟩
    have hq : Below Y.heap.size Y Y.drew := (Below.refl _ Y).drew
    have H := Lib.hid (And.intro kl (And.intro kr hB))
    clear kl kr hB
    have HS := Lib.hid hS
    clear hS
    have hS0 := HS.out _ hq
    go_region_held3 (fun w' => w'.cell? ⟨w.heap.size, 0, none⟩ = some (.int .u64 a) ∧ w'.cell? ⟨w.heap.size, 1, none⟩ = some (.int .u64 b))
      (first | exact hS0 | exact HS.out _ (hq.alloc (Nat.le_refl _) _) | exact HS.out _ ((hq.alloc (Nat.le_refl _) _).setCell (by simp) _) | exact HS.out _ (((hq.alloc (Nat.le_refl _) _).setCell (by simp) _).setCell (by simp) _) | exact HS.out _ ((((hq.alloc (Nat.le_refl _) _).setCell (by simp) _).setCell (by simp) _).setCell (by simp) _) | go_keep)
      (first
        | (go_at_call 26; ((with_reducible refine (rsmall_any a _).mono ?_); rintro r wq ⟨rfl, rfl⟩))
        | (go_at_call 26; ((with_reducible refine (rsmall_any b _).mono ?_); rintro r wq ⟨rfl, rfl⟩)))
    all_goals
      obtain ⟨kl, kr, hB⟩ := H.out
      have hlt := kr.lt
      have kx := (Blk.new Y 44 #[.int .i64 (smallI a), .int .i64 (smallI b), .string S]).drew
      replace kl := (kl.alloc (.cells #[.int .i64 (smallI a), .int .i64 (smallI b), .string S] 44)).drew
      replace kr := (kr.alloc (.cells #[.int .i64 (smallI a), .int .i64 (smallI b), .string S] 44)).drew
      replace hB := (hB.alloc hB.size (.cells #[.int .i64 (smallI a), .int .i64 (smallI b), .string S] 44)).drew
      have hi := Hi.out
      clear hS0 HS hq H Hi
      generalize (Y.alloc (.cells #[.int .i64 (smallI a), .int .i64 (smallI b), .string S] 44)).drew = U at *
      generalize Y.heap.size = n at *
      have hR := rEntryR_any (smallI a) (smallI b) S
      cases ok
      · have e0 := Lib.hid (hi.trans (Bool.false_and _))
        clear hi
        go_wp2_with (refine row_store (w.heap.size + 1) 44 _ _ kr 44 _ _ rfl rfl rfl rfl (by kernel_rfl) rfl (by kernel_rfl) ?_)
        refine bodyPost_ret (results_cell_slot rfl _ _ (w.heap.size + 1) 44 _ _ rfl (kr.setRow _) Tryz.underlying44 rfl (by kernel_rfl) _ rfl) rfl ?_
        exact ⟨by unfold entIsV; rw [e0.out]; rfl, below_setRow hB (by omega) _⟩
      · rw [Bool.true_and] at hi
        cases hv : entOk (smallI a) (smallI b) S
        · rw [hv] at hi hR
          have e0 := Lib.hid hi
          clear hi hv
          go_wp2_with (refine row_load_w (n) 44 _ kx 44 _ rfl rfl rfl _ Tryz.underlying44 rfl (by kernel_rfl) ?_)
          refine (hR _).mono ?_
          rintro r w1 ⟨rfl, hb⟩
          replace kx := kx.below hb kx.lt; replace kl := kl.below hb kl.lt; replace kr := kr.below hb kr.lt; replace hB := hB.trans (hb.mono hB.size); clear hb
          go_wp2_with (refine row_store (w.heap.size + 1) 44 _ _ kr 44 _ _ rfl rfl rfl rfl (by kernel_rfl) rfl (by kernel_rfl) ?_)
          refine bodyPost_ret (results_cell_slot rfl _ _ (w.heap.size + 1) 44 _ _ rfl (kr.setRow _) Tryz.underlying44 rfl (by kernel_rfl) _ rfl) rfl ?_
          exact ⟨by unfold entIsV; rw [e0.out]; rfl, below_setRow hB (by omega) _⟩
        · rw [hv] at hi hR
          have e0 := Lib.hid (And.intro hi (HV.out hi))
          clear hi hv
          go_wp2_with (refine row_load_w (n) 44 _ kx 44 _ rfl rfl rfl _ Tryz.underlying44 rfl (by kernel_rfl) ?_)
          refine (hR _).mono ?_
          rintro r w1 ⟨rfl, hb⟩
          replace kx := kx.below hb kx.lt; replace kl := kl.below hb kl.lt; replace kr := kr.below hb kr.lt; replace hB := hB.trans (hb.mono hB.size); clear hb
          go_wp2_with (first | (refine row_load_w (n) 44 _ kx 44 _ rfl rfl rfl _ Tryz.underlying44 rfl (by kernel_rfl) ?_) | (refine row_store (w.heap.size + 1) 44 _ _ kr 44 _ _ rfl rfl rfl rfl (by kernel_rfl) rfl (by kernel_rfl) ?_))
          refine bodyPost_ret (results_cell_slot rfl _ _ (w.heap.size + 1) 44 _ _ rfl (kr.setRow _) Tryz.underlying44 rfl (by kernel_rfl) _ rfl) rfl ?_
          exact ⟨by rw [e0.out.2, e0.out.1]; rfl, below_setRow hB (by omega) _⟩
end Go.Proofs.YtdgnbmcckknfiaaGreat
