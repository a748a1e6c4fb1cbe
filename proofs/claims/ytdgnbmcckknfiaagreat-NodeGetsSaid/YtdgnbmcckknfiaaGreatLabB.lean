/- The walks of name.right and of label.Check. Conditions: none but that the text is a string. -/
import Derived.Test.YtdgnbmcckknfiaaGreatLabA
namespace Go.Proofs.YtdgnbmcckknfiaaGreat
open Go.RowKit
set_option linter.unusedSimpArgs false
attribute [local go_sem] Oper.semAt_some wide_fn wide_depth

theorem all_take (p : Nat → Bool) (l : List Nat) (N : Nat) (hN : l.length = N) (h : ∀ q, q < N → p (l.getD q 0) = true) : l.all p = true := by
  rw [List.all_eq_true]
  intro x hx
  obtain ⟨q, hq, e⟩ := List.mem_iff_getElem.1 hx
  have := h q (by omega)
  rwa [List.getD_eq_getElem?_getD, List.getElem?_eq_getElem hq, Option.getD_some, e] at this
theorem all_not (p : Nat → Bool) (l : List Nat) (q : Nat) (hq : q < l.length) (h : p (l.getD q 0) = false) : l.all p = false := by
  rw [Bool.eq_false_iff]
  intro hall
  have := List.all_eq_true.1 hall _ (List.getElem_mem hq)
  rw [List.getD_eq_getElem?_getD, List.getElem?_eq_getElem hq, Option.getD_some, this] at h
  cases h

set_option maxRecDepth 100000 in
set_option maxHeartbeats 4000000 in
theorem lright_any (s : ByteArray) (w : World) :
    Calls Tryz.prog 90 #[.agg #[.string s]] w fun e w' => e = .returned (.bool (nameOk s)) ∧ Below w.heap.size w w' := by
  have hno : Hid (nameOk s = (formOk s && (runes s).all okR)) := Lib.hid (by rw [runes_ok]; rfl)
  refine (callsIn_wide (n := 3)).1 (callsIn_of_wp_marks Tryz.func90 rfl trivial ?_ rfl)
  simp only [Tryz.ntmps90, List.size_toArray, List.length_cons, List.length_nil, Nat.reduceAdd, Nat.reduceSub, Array.replicate_succ, Array.replicate_zero, List.push_toArray, List.append_toArray, List.nil_append, List.cons_append]
  by_cases g1 : (1 : Int) ≤ s.size
  · by_cases g2 : (s.size : Int) ≤ 40
    · cases g3 : (s.toList == [46])
      · cases g4 : (s.toList == [46, 46])
        · have hF : Hid (formOk s = true) := Lib.hid (by unfold formOk dot1 dot2; rw [g3, g4, decide_eq_true (by omega : 1 ≤ s.size), decide_eq_true (by omega : s.size ≤ 40)]; rfl)
          have HX : Hid (∀ X, X = (((w.alloc (.cells #[.string s] 154)).alloc (.cells #[.bool true] 4)).alloc (.cells #[.string s] 152)) →
              Blk X (w.heap.size + 1) 4 #[.bool true] ∧ Blk X (w.heap.size + 1 + 1) 152 #[.string s] ∧ Below w.heap.size w X ∧ X.heap.size = w.heap.size + 3) := Lib.hid (by
            rintro X rfl
            have k1 := Blk.new (w.alloc (.cells #[.string s] 154)) 4 #[.bool true]
            have k2 := Blk.new ((w.alloc (.cells #[.string s] 154)).alloc (.cells #[.bool true] 4)) 152 #[.string s]
            replace k1 := k1.alloc (.cells #[.string s] 152)
            simp only [World.size_alloc] at k1 k2
            exact ⟨k1, k2, (((Below.refl _ w).alloc (Nat.le_refl _) _).alloc (by simp) _).alloc (by simp; omega) _, by simp⟩)
          gi_wp2_with fail
          refine wpIn_scope_straight ?_
          gi_wp2_with fail
          refine wpIn_label ?_
          gi_wp2_with fail
          refine (callsIn_wide.2 (letters_any s _)).mono ?_
          rintro e w4 ⟨rfl, rfl⟩
          gi_wp2_with fail
          obtain ⟨hb1, hb2, hbl, hs⟩ := HX.out _ rfl
          clear HX
          generalize (((w.alloc (.cells #[.string s] 154)).alloc (.cells #[.bool true] 4)).alloc (.cells #[.string s] 152)) = X at *
          have Hs := Lib.hid hs
          clear hs
          refine rangeFunc_break (gf := 105) (lb := #[.pointer (some ⟨w.heap.size + 1 + 1, 0, none⟩)]) rfl (enters_of Tryz.func105 (by kernel_rfl) rfl) (letters_iter (w.heap.size + 1 + 1) s) (fun _ => rfl)
            (fun k Y => Blk Y (w.heap.size + 1) 4 #[.bool true] ∧ Blk Y (w.heap.size + 1 + 1) 152 #[.string s] ∧ Below w.heap.size w Y ∧ ∀ q, q < k → okR ((runes s).getD q 0) = true)
            (fun k Y => Blk Y (w.heap.size + 1) 4 #[.bool false] ∧ Below w.heap.size w Y ∧ (runes s).all okR = false)
            (fun Y => Blk Y (w.heap.size + 1) 4 #[.bool (nameOk s)] ∧ Below w.heap.size w Y)
            ?hI ?hIx ?hIl ?hIxl ?hIR ?h0 ?hround ?hG1 ?hG2 ?rest
          case hI =>
            rintro k Y Z ⟨h1, h2, h3, h4⟩ hle hb
            simp only [if_true] at hb
            have := Hs.out
            exact ⟨h1.below hb (by omega), h2.below hb (by omega), h3.trans (hb.mono (by omega)), h4⟩
          case hIx =>
            rintro k Y Z ⟨h1, h3, h4⟩ hle hb
            simp only [if_true] at hb
            have := Hs.out
            exact ⟨h1.below hb (by omega), h3.trans (hb.mono (by omega)), h4⟩
          case hIl =>
            rintro k Y Z ⟨h1, h2, h3, h4⟩ hb
            have := Hs.out
            exact ⟨blk_only h1 hb (by omega), blk_only h2 hb (by omega), h3.trans (below_only hb (by omega) (by have := h1.lt; omega)), h4⟩
          case hIxl =>
            rintro k Y Z ⟨h1, h3, h4⟩ hb
            have := Hs.out
            exact ⟨blk_only h1 hb (by omega), h3.trans (below_only hb (by omega) (by have := h1.lt; omega)), h4⟩
          case hIR =>
            rintro k Y ⟨h1, h2, h3, h4⟩
            simpa using h2.cell 0
          case h0 =>
            intro Y hb
            have := Hs.out
            exact ⟨hb1.below hb (by omega), hb2.below hb (by omega), hbl.trans (hb.mono (by omega)), fun q h => absurd h (by omega)⟩
          case hG1 =>
            rintro Y ⟨h1, h2, h3, h4⟩
            refine ⟨?_, h3⟩
            rw [hno.out, hF.out, all_take okR (runes s) _ rfl h4]
            exact h1
          case hG2 =>
            rintro k Y _ _ ⟨h1, h3, h4⟩
            refine ⟨?_, h3⟩
            rw [hno.out, hF.out, h4]
            exact h1
          case hround =>
            rintro k Y hk ⟨h1, h2, h3, h4⟩ hle
            obtain ⟨c, hc⟩ : ∃ c, (runes s).getD k 0 = c := ⟨_, rfl⟩
            have hc31 : c ≤ 2147483647 := by
              have := runesF_bound s s.size 0 (runes s)[k] (List.getElem_mem hk)
              rw [List.getD_eq_getElem?_getD, List.getElem?_eq_getElem hk] at hc
              simp at hc
              omega
            rw [hc]
            have Hc := Lib.hid hc
            clear hc
            gi_wp2
            refine ⟨Bk.refl _ _, fun Z hYZ hsz => ?_⟩
            have hs3 := Hs.out
            have z1 : Blk Z (w.heap.size + 1) 4 #[.bool true] := blk_only h1 hYZ (by omega)
            have z2 : Blk Z (w.heap.size + 1 + 1) 152 #[.string s] := blk_only h2 hYZ (by omega)
            have z3 : Below w.heap.size w Z := h3.trans (below_only hYZ (by omega) (by have := h1.lt; omega))
            have kc := z1.cell 0
            have kf := z1.frozen 0
            simp at kc
            have hbad : Hid (okR c = false → Bk X.heap.size Z (Z.setCell ⟨w.heap.size + 1, 0, none⟩ (.bool false)) ∧ Kp true (X.heap.size + 2) Y (Z.setCell ⟨w.heap.size + 1, 0, none⟩ (.bool false)) ∧
                Blk (Z.setCell ⟨w.heap.size + 1, 0, none⟩ (.bool false)) (w.heap.size + 1) 4 #[.bool false] ∧ Below w.heap.size w (Z.setCell ⟨w.heap.size + 1, 0, none⟩ (.bool false)) ∧ (runes s).all okR = false) := Lib.hid (fun hbad => by
              have hot : ∀ b, b ≠ w.heap.size + 1 → (Z.setCell ⟨w.heap.size + 1, 0, none⟩ (.bool false)).heap[b]? = Z.heap[b]? := fun b hb => Below.heap_setCell Z ⟨w.heap.size + 1, 0, none⟩ _ b hb
              have hset := z1.set_ 0 (.bool false)
              simp at hset
              exact ⟨⟨by simp [World.setCell], hot _ (by omega), hot _ (by omega)⟩, fun _ => ⟨by simp [World.setCell]; omega, fun b q1 q2 => (hot b (by omega)).trans (hYZ.block b q2 (by simp; omega))⟩, hset,
                z3.setCell (p := ⟨w.heap.size + 1, 0, none⟩) (show w.heap.size ≤ w.heap.size + 1 by omega) _, all_not okR (runes s) k hk (by rw [Hc.out]; exact hbad)⟩)
            have hgood : Hid (okR c = true → Kp true (X.heap.size + 2) Y Z ∧ Blk Z (w.heap.size + 1) 4 #[.bool true] ∧ Blk Z (w.heap.size + 1 + 1) 152 #[.string s] ∧ Below w.heap.size w Z ∧ ∀ q, q < k + 1 → okR ((runes s).getD q 0) = true) := Lib.hid (fun hg =>
              ⟨fun _ => ⟨by omega, fun b q1 q2 => hYZ.block b q2 (by simp; omega)⟩, z1, z2, z3, fun q hq => by
                rcases Nat.lt_or_ge q k with h | h
                · exact h4 q h
                · rw [show q = k by omega, Hc.out]; exact hg⟩)
            clear h1 h2 h3 h4 z1 z2 z3 hsz
            by_cases c1 : c < 33
            · have hb := Lib.hid (hbad.out (by simp only [okR, decide_eq_false (show ¬ 33 ≤ c by omega), Bool.false_and]))
              have c1' : (c : Int) < 33 := by omega
              clear hbad hgood
              gi_wp2
              obtain ⟨q1, q2, q3, q4, q5⟩ := hb.out
              exact ⟨rfl, q1, q2, q3, q4, q5⟩
            · by_cases c2 : 126 < c
              · have hb := Lib.hid (hbad.out (by simp only [okR, decide_eq_false (show ¬ c ≤ 126 by omega), Bool.false_and, Bool.and_false]))
                have c2' : (126 : Int) < c := by omega
                clear hbad hgood
                gi_wp2
                obtain ⟨q1, q2, q3, q4, q5⟩ := hb.out
                exact ⟨rfl, q1, q2, q3, q4, q5⟩
              · by_cases c3 : c = 47
                · have hb := Lib.hid (hbad.out (by subst c3; rfl))
                  have c3' : ((c : Int) == 47) = true := by simp; omega
                  clear hbad hgood c3
                  gi_wp2
                  obtain ⟨q1, q2, q3, q4, q5⟩ := hb.out
                  exact ⟨rfl, q1, q2, q3, q4, q5⟩
                · have hb := Lib.hid (hgood.out (by simp only [okR, decide_eq_true (show 33 ≤ c by omega), decide_eq_true (show c ≤ 126 by omega), decide_eq_true (show c ≠ 47 from c3), Bool.and_self]))
                  have c3' : ((c : Int) == 47) = false := by simp; omega
                  clear hbad hgood c3
                  gi_wp2
                  obtain ⟨q2, q3, q4, q5, q6⟩ := hb.out
                  exact ⟨Bk.refl _ _, q2, q3, q4, q5, q6⟩
          case rest =>
            rintro Y ⟨h1, h2⟩ hle hDk
            have kc := h1.cell 0
            simp at kc
            have hDD : Hid (∀ D ∈ [X.heap.size], w.heap.size ≤ D ∧ Y.heap[D]? = some (.deferred (some []))) := Lib.hid (fun D hd => by
              rw [List.mem_singleton.1 hd]
              exact ⟨by have := Hs.out; omega, hDk⟩)
            clear hDk
            gi_wp2
            refine leaves_marks w.heap.size [X.heap.size] _ hDD.out (by simp) fun W' hW => ?_
            exact ⟨_, by simp [results, Tryz.results90, go_sem], rfl, h2.trans hW⟩
        · have hF : Hid (formOk s = false) := Lib.hid (by unfold formOk dot1 dot2; rw [g4]; simp)
          have HX : Hid (∀ X, X = (((w.alloc (.cells #[.string s] 154)).alloc (.cells #[.bool false] 4)).alloc (.cells #[.string s] 152)) →
              Blk X (w.heap.size + 1) 4 #[.bool false] ∧ Blk X (w.heap.size + 1 + 1) 152 #[.string s] ∧ Below w.heap.size w X ∧ X.heap.size = w.heap.size + 3) := Lib.hid (by
            rintro X rfl
            have k1 := Blk.new (w.alloc (.cells #[.string s] 154)) 4 #[.bool false]
            have k2 := Blk.new ((w.alloc (.cells #[.string s] 154)).alloc (.cells #[.bool false] 4)) 152 #[.string s]
            replace k1 := k1.alloc (.cells #[.string s] 152)
            simp only [World.size_alloc] at k1 k2
            exact ⟨k1, k2, (((Below.refl _ w).alloc (Nat.le_refl _) _).alloc (by simp) _).alloc (by simp; omega) _, by simp⟩)
          gi_wp2_with fail
          refine wpIn_scope_straight ?_
          gi_wp2_with fail
          refine wpIn_label ?_
          gi_wp2_with fail
          refine (callsIn_wide.2 (letters_any s _)).mono ?_
          rintro e w4 ⟨rfl, rfl⟩
          gi_wp2_with fail
          obtain ⟨hb1, hb2, hbl, hs⟩ := HX.out _ rfl
          clear HX
          generalize (((w.alloc (.cells #[.string s] 154)).alloc (.cells #[.bool false] 4)).alloc (.cells #[.string s] 152)) = X at *
          have Hs := Lib.hid hs
          clear hs
          refine rangeFunc_break (gf := 105) (lb := #[.pointer (some ⟨w.heap.size + 1 + 1, 0, none⟩)]) rfl (enters_of Tryz.func105 (by kernel_rfl) rfl) (letters_iter (w.heap.size + 1 + 1) s) (fun _ => rfl)
            (fun k Y => Blk Y (w.heap.size + 1) 4 #[.bool false] ∧ Blk Y (w.heap.size + 1 + 1) 152 #[.string s] ∧ Below w.heap.size w Y ∧ ∀ q, q < k → okR ((runes s).getD q 0) = true)
            (fun k Y => Blk Y (w.heap.size + 1) 4 #[.bool false] ∧ Below w.heap.size w Y ∧ (runes s).all okR = false)
            (fun Y => Blk Y (w.heap.size + 1) 4 #[.bool (nameOk s)] ∧ Below w.heap.size w Y)
            ?hI ?hIx ?hIl ?hIxl ?hIR ?h0 ?hround ?hG1 ?hG2 ?rest
          case hI =>
            rintro k Y Z ⟨h1, h2, h3, h4⟩ hle hb
            simp only [if_true] at hb
            have := Hs.out
            exact ⟨h1.below hb (by omega), h2.below hb (by omega), h3.trans (hb.mono (by omega)), h4⟩
          case hIx =>
            rintro k Y Z ⟨h1, h3, h4⟩ hle hb
            simp only [if_true] at hb
            have := Hs.out
            exact ⟨h1.below hb (by omega), h3.trans (hb.mono (by omega)), h4⟩
          case hIl =>
            rintro k Y Z ⟨h1, h2, h3, h4⟩ hb
            have := Hs.out
            exact ⟨blk_only h1 hb (by omega), blk_only h2 hb (by omega), h3.trans (below_only hb (by omega) (by have := h1.lt; omega)), h4⟩
          case hIxl =>
            rintro k Y Z ⟨h1, h3, h4⟩ hb
            have := Hs.out
            exact ⟨blk_only h1 hb (by omega), h3.trans (below_only hb (by omega) (by have := h1.lt; omega)), h4⟩
          case hIR =>
            rintro k Y ⟨h1, h2, h3, h4⟩
            simpa using h2.cell 0
          case h0 =>
            intro Y hb
            have := Hs.out
            exact ⟨hb1.below hb (by omega), hb2.below hb (by omega), hbl.trans (hb.mono (by omega)), fun q h => absurd h (by omega)⟩
          case hG1 =>
            rintro Y ⟨h1, h2, h3, h4⟩
            refine ⟨?_, h3⟩
            rw [hno.out, hF.out, all_take okR (runes s) _ rfl h4]
            exact h1
          case hG2 =>
            rintro k Y _ _ ⟨h1, h3, h4⟩
            refine ⟨?_, h3⟩
            rw [hno.out, hF.out, h4]
            exact h1
          case hround =>
            rintro k Y hk ⟨h1, h2, h3, h4⟩ hle
            obtain ⟨c, hc⟩ : ∃ c, (runes s).getD k 0 = c := ⟨_, rfl⟩
            have hc31 : c ≤ 2147483647 := by
              have := runesF_bound s s.size 0 (runes s)[k] (List.getElem_mem hk)
              rw [List.getD_eq_getElem?_getD, List.getElem?_eq_getElem hk] at hc
              simp at hc
              omega
            rw [hc]
            have Hc := Lib.hid hc
            clear hc
            gi_wp2
            refine ⟨Bk.refl _ _, fun Z hYZ hsz => ?_⟩
            have hs3 := Hs.out
            have z1 : Blk Z (w.heap.size + 1) 4 #[.bool false] := blk_only h1 hYZ (by omega)
            have z2 : Blk Z (w.heap.size + 1 + 1) 152 #[.string s] := blk_only h2 hYZ (by omega)
            have z3 : Below w.heap.size w Z := h3.trans (below_only hYZ (by omega) (by have := h1.lt; omega))
            have kc := z1.cell 0
            have kf := z1.frozen 0
            simp at kc
            have hbad : Hid (okR c = false → Bk X.heap.size Z (Z.setCell ⟨w.heap.size + 1, 0, none⟩ (.bool false)) ∧ Kp true (X.heap.size + 2) Y (Z.setCell ⟨w.heap.size + 1, 0, none⟩ (.bool false)) ∧
                Blk (Z.setCell ⟨w.heap.size + 1, 0, none⟩ (.bool false)) (w.heap.size + 1) 4 #[.bool false] ∧ Below w.heap.size w (Z.setCell ⟨w.heap.size + 1, 0, none⟩ (.bool false)) ∧ (runes s).all okR = false) := Lib.hid (fun hbad => by
              have hot : ∀ b, b ≠ w.heap.size + 1 → (Z.setCell ⟨w.heap.size + 1, 0, none⟩ (.bool false)).heap[b]? = Z.heap[b]? := fun b hb => Below.heap_setCell Z ⟨w.heap.size + 1, 0, none⟩ _ b hb
              have hset := z1.set_ 0 (.bool false)
              simp at hset
              exact ⟨⟨by simp [World.setCell], hot _ (by omega), hot _ (by omega)⟩, fun _ => ⟨by simp [World.setCell]; omega, fun b q1 q2 => (hot b (by omega)).trans (hYZ.block b q2 (by simp; omega))⟩, hset,
                z3.setCell (p := ⟨w.heap.size + 1, 0, none⟩) (show w.heap.size ≤ w.heap.size + 1 by omega) _, all_not okR (runes s) k hk (by rw [Hc.out]; exact hbad)⟩)
            have hgood : Hid (okR c = true → Kp true (X.heap.size + 2) Y Z ∧ Blk Z (w.heap.size + 1) 4 #[.bool false] ∧ Blk Z (w.heap.size + 1 + 1) 152 #[.string s] ∧ Below w.heap.size w Z ∧ ∀ q, q < k + 1 → okR ((runes s).getD q 0) = true) := Lib.hid (fun hg =>
              ⟨fun _ => ⟨by omega, fun b q1 q2 => hYZ.block b q2 (by simp; omega)⟩, z1, z2, z3, fun q hq => by
                rcases Nat.lt_or_ge q k with h | h
                · exact h4 q h
                · rw [show q = k by omega, Hc.out]; exact hg⟩)
            clear h1 h2 h3 h4 z1 z2 z3 hsz
            by_cases c1 : c < 33
            · have hb := Lib.hid (hbad.out (by simp only [okR, decide_eq_false (show ¬ 33 ≤ c by omega), Bool.false_and]))
              have c1' : (c : Int) < 33 := by omega
              clear hbad hgood
              gi_wp2
              obtain ⟨q1, q2, q3, q4, q5⟩ := hb.out
              exact ⟨rfl, q1, q2, q3, q4, q5⟩
            · by_cases c2 : 126 < c
              · have hb := Lib.hid (hbad.out (by simp only [okR, decide_eq_false (show ¬ c ≤ 126 by omega), Bool.false_and, Bool.and_false]))
                have c2' : (126 : Int) < c := by omega
                clear hbad hgood
                gi_wp2
                obtain ⟨q1, q2, q3, q4, q5⟩ := hb.out
                exact ⟨rfl, q1, q2, q3, q4, q5⟩
              · by_cases c3 : c = 47
                · have hb := Lib.hid (hbad.out (by subst c3; rfl))
                  have c3' : ((c : Int) == 47) = true := by simp; omega
                  clear hbad hgood c3
                  gi_wp2
                  obtain ⟨q1, q2, q3, q4, q5⟩ := hb.out
                  exact ⟨rfl, q1, q2, q3, q4, q5⟩
                · have hb := Lib.hid (hgood.out (by simp only [okR, decide_eq_true (show 33 ≤ c by omega), decide_eq_true (show c ≤ 126 by omega), decide_eq_true (show c ≠ 47 from c3), Bool.and_self]))
                  have c3' : ((c : Int) == 47) = false := by simp; omega
                  clear hbad hgood c3
                  gi_wp2
                  obtain ⟨q2, q3, q4, q5, q6⟩ := hb.out
                  exact ⟨Bk.refl _ _, q2, q3, q4, q5, q6⟩
          case rest =>
            rintro Y ⟨h1, h2⟩ hle hDk
            have kc := h1.cell 0
            simp at kc
            have hDD : Hid (∀ D ∈ [X.heap.size], w.heap.size ≤ D ∧ Y.heap[D]? = some (.deferred (some []))) := Lib.hid (fun D hd => by
              rw [List.mem_singleton.1 hd]
              exact ⟨by have := Hs.out; omega, hDk⟩)
            clear hDk
            gi_wp2
            refine leaves_marks w.heap.size [X.heap.size] _ hDD.out (by simp) fun W' hW => ?_
            exact ⟨_, by simp [results, Tryz.results90, go_sem], rfl, h2.trans hW⟩
      · have hF : Hid (formOk s = false) := Lib.hid (by unfold formOk dot1 dot2; rw [g3]; simp)
        have HX : Hid (∀ X, X = (((w.alloc (.cells #[.string s] 154)).alloc (.cells #[.bool false] 4)).alloc (.cells #[.string s] 152)) →
            Blk X (w.heap.size + 1) 4 #[.bool false] ∧ Blk X (w.heap.size + 1 + 1) 152 #[.string s] ∧ Below w.heap.size w X ∧ X.heap.size = w.heap.size + 3) := Lib.hid (by
          rintro X rfl
          have k1 := Blk.new (w.alloc (.cells #[.string s] 154)) 4 #[.bool false]
          have k2 := Blk.new ((w.alloc (.cells #[.string s] 154)).alloc (.cells #[.bool false] 4)) 152 #[.string s]
          replace k1 := k1.alloc (.cells #[.string s] 152)
          simp only [World.size_alloc] at k1 k2
          exact ⟨k1, k2, (((Below.refl _ w).alloc (Nat.le_refl _) _).alloc (by simp) _).alloc (by simp; omega) _, by simp⟩)
        gi_wp2_with fail
        refine wpIn_scope_straight ?_
        gi_wp2_with fail
        refine wpIn_label ?_
        gi_wp2_with fail
        refine (callsIn_wide.2 (letters_any s _)).mono ?_
        rintro e w4 ⟨rfl, rfl⟩
        gi_wp2_with fail
        obtain ⟨hb1, hb2, hbl, hs⟩ := HX.out _ rfl
        clear HX
        generalize (((w.alloc (.cells #[.string s] 154)).alloc (.cells #[.bool false] 4)).alloc (.cells #[.string s] 152)) = X at *
        have Hs := Lib.hid hs
        clear hs
        refine rangeFunc_break (gf := 105) (lb := #[.pointer (some ⟨w.heap.size + 1 + 1, 0, none⟩)]) rfl (enters_of Tryz.func105 (by kernel_rfl) rfl) (letters_iter (w.heap.size + 1 + 1) s) (fun _ => rfl)
          (fun k Y => Blk Y (w.heap.size + 1) 4 #[.bool false] ∧ Blk Y (w.heap.size + 1 + 1) 152 #[.string s] ∧ Below w.heap.size w Y ∧ ∀ q, q < k → okR ((runes s).getD q 0) = true)
          (fun k Y => Blk Y (w.heap.size + 1) 4 #[.bool false] ∧ Below w.heap.size w Y ∧ (runes s).all okR = false)
          (fun Y => Blk Y (w.heap.size + 1) 4 #[.bool (nameOk s)] ∧ Below w.heap.size w Y)
          ?hI ?hIx ?hIl ?hIxl ?hIR ?h0 ?hround ?hG1 ?hG2 ?rest
        case hI =>
          rintro k Y Z ⟨h1, h2, h3, h4⟩ hle hb
          simp only [if_true] at hb
          have := Hs.out
          exact ⟨h1.below hb (by omega), h2.below hb (by omega), h3.trans (hb.mono (by omega)), h4⟩
        case hIx =>
          rintro k Y Z ⟨h1, h3, h4⟩ hle hb
          simp only [if_true] at hb
          have := Hs.out
          exact ⟨h1.below hb (by omega), h3.trans (hb.mono (by omega)), h4⟩
        case hIl =>
          rintro k Y Z ⟨h1, h2, h3, h4⟩ hb
          have := Hs.out
          exact ⟨blk_only h1 hb (by omega), blk_only h2 hb (by omega), h3.trans (below_only hb (by omega) (by have := h1.lt; omega)), h4⟩
        case hIxl =>
          rintro k Y Z ⟨h1, h3, h4⟩ hb
          have := Hs.out
          exact ⟨blk_only h1 hb (by omega), h3.trans (below_only hb (by omega) (by have := h1.lt; omega)), h4⟩
        case hIR =>
          rintro k Y ⟨h1, h2, h3, h4⟩
          simpa using h2.cell 0
        case h0 =>
          intro Y hb
          have := Hs.out
          exact ⟨hb1.below hb (by omega), hb2.below hb (by omega), hbl.trans (hb.mono (by omega)), fun q h => absurd h (by omega)⟩
        case hG1 =>
          rintro Y ⟨h1, h2, h3, h4⟩
          refine ⟨?_, h3⟩
          rw [hno.out, hF.out, all_take okR (runes s) _ rfl h4]
          exact h1
        case hG2 =>
          rintro k Y _ _ ⟨h1, h3, h4⟩
          refine ⟨?_, h3⟩
          rw [hno.out, hF.out, h4]
          exact h1
        case hround =>
          rintro k Y hk ⟨h1, h2, h3, h4⟩ hle
          obtain ⟨c, hc⟩ : ∃ c, (runes s).getD k 0 = c := ⟨_, rfl⟩
          have hc31 : c ≤ 2147483647 := by
            have := runesF_bound s s.size 0 (runes s)[k] (List.getElem_mem hk)
            rw [List.getD_eq_getElem?_getD, List.getElem?_eq_getElem hk] at hc
            simp at hc
            omega
          rw [hc]
          have Hc := Lib.hid hc
          clear hc
          gi_wp2
          refine ⟨Bk.refl _ _, fun Z hYZ hsz => ?_⟩
          have hs3 := Hs.out
          have z1 : Blk Z (w.heap.size + 1) 4 #[.bool false] := blk_only h1 hYZ (by omega)
          have z2 : Blk Z (w.heap.size + 1 + 1) 152 #[.string s] := blk_only h2 hYZ (by omega)
          have z3 : Below w.heap.size w Z := h3.trans (below_only hYZ (by omega) (by have := h1.lt; omega))
          have kc := z1.cell 0
          have kf := z1.frozen 0
          simp at kc
          have hbad : Hid (okR c = false → Bk X.heap.size Z (Z.setCell ⟨w.heap.size + 1, 0, none⟩ (.bool false)) ∧ Kp true (X.heap.size + 2) Y (Z.setCell ⟨w.heap.size + 1, 0, none⟩ (.bool false)) ∧
              Blk (Z.setCell ⟨w.heap.size + 1, 0, none⟩ (.bool false)) (w.heap.size + 1) 4 #[.bool false] ∧ Below w.heap.size w (Z.setCell ⟨w.heap.size + 1, 0, none⟩ (.bool false)) ∧ (runes s).all okR = false) := Lib.hid (fun hbad => by
            have hot : ∀ b, b ≠ w.heap.size + 1 → (Z.setCell ⟨w.heap.size + 1, 0, none⟩ (.bool false)).heap[b]? = Z.heap[b]? := fun b hb => Below.heap_setCell Z ⟨w.heap.size + 1, 0, none⟩ _ b hb
            have hset := z1.set_ 0 (.bool false)
            simp at hset
            exact ⟨⟨by simp [World.setCell], hot _ (by omega), hot _ (by omega)⟩, fun _ => ⟨by simp [World.setCell]; omega, fun b q1 q2 => (hot b (by omega)).trans (hYZ.block b q2 (by simp; omega))⟩, hset,
              z3.setCell (p := ⟨w.heap.size + 1, 0, none⟩) (show w.heap.size ≤ w.heap.size + 1 by omega) _, all_not okR (runes s) k hk (by rw [Hc.out]; exact hbad)⟩)
          have hgood : Hid (okR c = true → Kp true (X.heap.size + 2) Y Z ∧ Blk Z (w.heap.size + 1) 4 #[.bool false] ∧ Blk Z (w.heap.size + 1 + 1) 152 #[.string s] ∧ Below w.heap.size w Z ∧ ∀ q, q < k + 1 → okR ((runes s).getD q 0) = true) := Lib.hid (fun hg =>
            ⟨fun _ => ⟨by omega, fun b q1 q2 => hYZ.block b q2 (by simp; omega)⟩, z1, z2, z3, fun q hq => by
              rcases Nat.lt_or_ge q k with h | h
              · exact h4 q h
              · rw [show q = k by omega, Hc.out]; exact hg⟩)
          clear h1 h2 h3 h4 z1 z2 z3 hsz
          by_cases c1 : c < 33
          · have hb := Lib.hid (hbad.out (by simp only [okR, decide_eq_false (show ¬ 33 ≤ c by omega), Bool.false_and]))
            have c1' : (c : Int) < 33 := by omega
            clear hbad hgood
            gi_wp2
            obtain ⟨q1, q2, q3, q4, q5⟩ := hb.out
            exact ⟨rfl, q1, q2, q3, q4, q5⟩
          · by_cases c2 : 126 < c
            · have hb := Lib.hid (hbad.out (by simp only [okR, decide_eq_false (show ¬ c ≤ 126 by omega), Bool.false_and, Bool.and_false]))
              have c2' : (126 : Int) < c := by omega
              clear hbad hgood
              gi_wp2
              obtain ⟨q1, q2, q3, q4, q5⟩ := hb.out
              exact ⟨rfl, q1, q2, q3, q4, q5⟩
            · by_cases c3 : c = 47
              · have hb := Lib.hid (hbad.out (by subst c3; rfl))
                have c3' : ((c : Int) == 47) = true := by simp; omega
                clear hbad hgood c3
                gi_wp2
                obtain ⟨q1, q2, q3, q4, q5⟩ := hb.out
                exact ⟨rfl, q1, q2, q3, q4, q5⟩
              · have hb := Lib.hid (hgood.out (by simp only [okR, decide_eq_true (show 33 ≤ c by omega), decide_eq_true (show c ≤ 126 by omega), decide_eq_true (show c ≠ 47 from c3), Bool.and_self]))
                have c3' : ((c : Int) == 47) = false := by simp; omega
                clear hbad hgood c3
                gi_wp2
                obtain ⟨q2, q3, q4, q5, q6⟩ := hb.out
                exact ⟨Bk.refl _ _, q2, q3, q4, q5, q6⟩
        case rest =>
          rintro Y ⟨h1, h2⟩ hle hDk
          have kc := h1.cell 0
          simp at kc
          have hDD : Hid (∀ D ∈ [X.heap.size], w.heap.size ≤ D ∧ Y.heap[D]? = some (.deferred (some []))) := Lib.hid (fun D hd => by
            rw [List.mem_singleton.1 hd]
            exact ⟨by have := Hs.out; omega, hDk⟩)
          clear hDk
          gi_wp2
          refine leaves_marks w.heap.size [X.heap.size] _ hDD.out (by simp) fun W' hW => ?_
          exact ⟨_, by simp [results, Tryz.results90, go_sem], rfl, h2.trans hW⟩
    · have hF : Hid (formOk s = false) := Lib.hid (by unfold formOk dot1 dot2; rw [decide_eq_false (by omega : ¬ s.size ≤ 40)]; simp)
      have HX : Hid (∀ X, X = (((w.alloc (.cells #[.string s] 154)).alloc (.cells #[.bool false] 4)).alloc (.cells #[.string s] 152)) →
          Blk X (w.heap.size + 1) 4 #[.bool false] ∧ Blk X (w.heap.size + 1 + 1) 152 #[.string s] ∧ Below w.heap.size w X ∧ X.heap.size = w.heap.size + 3) := Lib.hid (by
        rintro X rfl
        have k1 := Blk.new (w.alloc (.cells #[.string s] 154)) 4 #[.bool false]
        have k2 := Blk.new ((w.alloc (.cells #[.string s] 154)).alloc (.cells #[.bool false] 4)) 152 #[.string s]
        replace k1 := k1.alloc (.cells #[.string s] 152)
        simp only [World.size_alloc] at k1 k2
        exact ⟨k1, k2, (((Below.refl _ w).alloc (Nat.le_refl _) _).alloc (by simp) _).alloc (by simp; omega) _, by simp⟩)
      gi_wp2_with fail
      refine wpIn_scope_straight ?_
      gi_wp2_with fail
      refine wpIn_label ?_
      gi_wp2_with fail
      refine (callsIn_wide.2 (letters_any s _)).mono ?_
      rintro e w4 ⟨rfl, rfl⟩
      gi_wp2_with fail
      obtain ⟨hb1, hb2, hbl, hs⟩ := HX.out _ rfl
      clear HX
      generalize (((w.alloc (.cells #[.string s] 154)).alloc (.cells #[.bool false] 4)).alloc (.cells #[.string s] 152)) = X at *
      have Hs := Lib.hid hs
      clear hs
      refine rangeFunc_break (gf := 105) (lb := #[.pointer (some ⟨w.heap.size + 1 + 1, 0, none⟩)]) rfl (enters_of Tryz.func105 (by kernel_rfl) rfl) (letters_iter (w.heap.size + 1 + 1) s) (fun _ => rfl)
        (fun k Y => Blk Y (w.heap.size + 1) 4 #[.bool false] ∧ Blk Y (w.heap.size + 1 + 1) 152 #[.string s] ∧ Below w.heap.size w Y ∧ ∀ q, q < k → okR ((runes s).getD q 0) = true)
        (fun k Y => Blk Y (w.heap.size + 1) 4 #[.bool false] ∧ Below w.heap.size w Y ∧ (runes s).all okR = false)
        (fun Y => Blk Y (w.heap.size + 1) 4 #[.bool (nameOk s)] ∧ Below w.heap.size w Y)
        ?hI ?hIx ?hIl ?hIxl ?hIR ?h0 ?hround ?hG1 ?hG2 ?rest
      case hI =>
        rintro k Y Z ⟨h1, h2, h3, h4⟩ hle hb
        simp only [if_true] at hb
        have := Hs.out
        exact ⟨h1.below hb (by omega), h2.below hb (by omega), h3.trans (hb.mono (by omega)), h4⟩
      case hIx =>
        rintro k Y Z ⟨h1, h3, h4⟩ hle hb
        simp only [if_true] at hb
        have := Hs.out
        exact ⟨h1.below hb (by omega), h3.trans (hb.mono (by omega)), h4⟩
      case hIl =>
        rintro k Y Z ⟨h1, h2, h3, h4⟩ hb
        have := Hs.out
        exact ⟨blk_only h1 hb (by omega), blk_only h2 hb (by omega), h3.trans (below_only hb (by omega) (by have := h1.lt; omega)), h4⟩
      case hIxl =>
        rintro k Y Z ⟨h1, h3, h4⟩ hb
        have := Hs.out
        exact ⟨blk_only h1 hb (by omega), h3.trans (below_only hb (by omega) (by have := h1.lt; omega)), h4⟩
      case hIR =>
        rintro k Y ⟨h1, h2, h3, h4⟩
        simpa using h2.cell 0
      case h0 =>
        intro Y hb
        have := Hs.out
        exact ⟨hb1.below hb (by omega), hb2.below hb (by omega), hbl.trans (hb.mono (by omega)), fun q h => absurd h (by omega)⟩
      case hG1 =>
        rintro Y ⟨h1, h2, h3, h4⟩
        refine ⟨?_, h3⟩
        rw [hno.out, hF.out, all_take okR (runes s) _ rfl h4]
        exact h1
      case hG2 =>
        rintro k Y _ _ ⟨h1, h3, h4⟩
        refine ⟨?_, h3⟩
        rw [hno.out, hF.out, h4]
        exact h1
      case hround =>
        rintro k Y hk ⟨h1, h2, h3, h4⟩ hle
        obtain ⟨c, hc⟩ : ∃ c, (runes s).getD k 0 = c := ⟨_, rfl⟩
        have hc31 : c ≤ 2147483647 := by
          have := runesF_bound s s.size 0 (runes s)[k] (List.getElem_mem hk)
          rw [List.getD_eq_getElem?_getD, List.getElem?_eq_getElem hk] at hc
          simp at hc
          omega
        rw [hc]
        have Hc := Lib.hid hc
        clear hc
        gi_wp2
        refine ⟨Bk.refl _ _, fun Z hYZ hsz => ?_⟩
        have hs3 := Hs.out
        have z1 : Blk Z (w.heap.size + 1) 4 #[.bool false] := blk_only h1 hYZ (by omega)
        have z2 : Blk Z (w.heap.size + 1 + 1) 152 #[.string s] := blk_only h2 hYZ (by omega)
        have z3 : Below w.heap.size w Z := h3.trans (below_only hYZ (by omega) (by have := h1.lt; omega))
        have kc := z1.cell 0
        have kf := z1.frozen 0
        simp at kc
        have hbad : Hid (okR c = false → Bk X.heap.size Z (Z.setCell ⟨w.heap.size + 1, 0, none⟩ (.bool false)) ∧ Kp true (X.heap.size + 2) Y (Z.setCell ⟨w.heap.size + 1, 0, none⟩ (.bool false)) ∧
            Blk (Z.setCell ⟨w.heap.size + 1, 0, none⟩ (.bool false)) (w.heap.size + 1) 4 #[.bool false] ∧ Below w.heap.size w (Z.setCell ⟨w.heap.size + 1, 0, none⟩ (.bool false)) ∧ (runes s).all okR = false) := Lib.hid (fun hbad => by
          have hot : ∀ b, b ≠ w.heap.size + 1 → (Z.setCell ⟨w.heap.size + 1, 0, none⟩ (.bool false)).heap[b]? = Z.heap[b]? := fun b hb => Below.heap_setCell Z ⟨w.heap.size + 1, 0, none⟩ _ b hb
          have hset := z1.set_ 0 (.bool false)
          simp at hset
          exact ⟨⟨by simp [World.setCell], hot _ (by omega), hot _ (by omega)⟩, fun _ => ⟨by simp [World.setCell]; omega, fun b q1 q2 => (hot b (by omega)).trans (hYZ.block b q2 (by simp; omega))⟩, hset,
            z3.setCell (p := ⟨w.heap.size + 1, 0, none⟩) (show w.heap.size ≤ w.heap.size + 1 by omega) _, all_not okR (runes s) k hk (by rw [Hc.out]; exact hbad)⟩)
        have hgood : Hid (okR c = true → Kp true (X.heap.size + 2) Y Z ∧ Blk Z (w.heap.size + 1) 4 #[.bool false] ∧ Blk Z (w.heap.size + 1 + 1) 152 #[.string s] ∧ Below w.heap.size w Z ∧ ∀ q, q < k + 1 → okR ((runes s).getD q 0) = true) := Lib.hid (fun hg =>
          ⟨fun _ => ⟨by omega, fun b q1 q2 => hYZ.block b q2 (by simp; omega)⟩, z1, z2, z3, fun q hq => by
            rcases Nat.lt_or_ge q k with h | h
            · exact h4 q h
            · rw [show q = k by omega, Hc.out]; exact hg⟩)
        clear h1 h2 h3 h4 z1 z2 z3 hsz
        by_cases c1 : c < 33
        · have hb := Lib.hid (hbad.out (by simp only [okR, decide_eq_false (show ¬ 33 ≤ c by omega), Bool.false_and]))
          have c1' : (c : Int) < 33 := by omega
          clear hbad hgood
          gi_wp2
          obtain ⟨q1, q2, q3, q4, q5⟩ := hb.out
          exact ⟨rfl, q1, q2, q3, q4, q5⟩
        · by_cases c2 : 126 < c
          · have hb := Lib.hid (hbad.out (by simp only [okR, decide_eq_false (show ¬ c ≤ 126 by omega), Bool.false_and, Bool.and_false]))
            have c2' : (126 : Int) < c := by omega
            clear hbad hgood
            gi_wp2
            obtain ⟨q1, q2, q3, q4, q5⟩ := hb.out
            exact ⟨rfl, q1, q2, q3, q4, q5⟩
          · by_cases c3 : c = 47
            · have hb := Lib.hid (hbad.out (by subst c3; rfl))
              have c3' : ((c : Int) == 47) = true := by simp; omega
              clear hbad hgood c3
              gi_wp2
              obtain ⟨q1, q2, q3, q4, q5⟩ := hb.out
              exact ⟨rfl, q1, q2, q3, q4, q5⟩
            · have hb := Lib.hid (hgood.out (by simp only [okR, decide_eq_true (show 33 ≤ c by omega), decide_eq_true (show c ≤ 126 by omega), decide_eq_true (show c ≠ 47 from c3), Bool.and_self]))
              have c3' : ((c : Int) == 47) = false := by simp; omega
              clear hbad hgood c3
              gi_wp2
              obtain ⟨q2, q3, q4, q5, q6⟩ := hb.out
              exact ⟨Bk.refl _ _, q2, q3, q4, q5, q6⟩
      case rest =>
        rintro Y ⟨h1, h2⟩ hle hDk
        have kc := h1.cell 0
        simp at kc
        have hDD : Hid (∀ D ∈ [X.heap.size], w.heap.size ≤ D ∧ Y.heap[D]? = some (.deferred (some []))) := Lib.hid (fun D hd => by
          rw [List.mem_singleton.1 hd]
          exact ⟨by have := Hs.out; omega, hDk⟩)
        clear hDk
        gi_wp2
        refine leaves_marks w.heap.size [X.heap.size] _ hDD.out (by simp) fun W' hW => ?_
        exact ⟨_, by simp [results, Tryz.results90, go_sem], rfl, h2.trans hW⟩
  · have hF : Hid (formOk s = false) := Lib.hid (by unfold formOk dot1 dot2; rw [decide_eq_false (by omega : ¬ 1 ≤ s.size)]; simp)
    have HX : Hid (∀ X, X = (((w.alloc (.cells #[.string s] 154)).alloc (.cells #[.bool false] 4)).alloc (.cells #[.string s] 152)) →
        Blk X (w.heap.size + 1) 4 #[.bool false] ∧ Blk X (w.heap.size + 1 + 1) 152 #[.string s] ∧ Below w.heap.size w X ∧ X.heap.size = w.heap.size + 3) := Lib.hid (by
      rintro X rfl
      have k1 := Blk.new (w.alloc (.cells #[.string s] 154)) 4 #[.bool false]
      have k2 := Blk.new ((w.alloc (.cells #[.string s] 154)).alloc (.cells #[.bool false] 4)) 152 #[.string s]
      replace k1 := k1.alloc (.cells #[.string s] 152)
      simp only [World.size_alloc] at k1 k2
      exact ⟨k1, k2, (((Below.refl _ w).alloc (Nat.le_refl _) _).alloc (by simp) _).alloc (by simp; omega) _, by simp⟩)
    gi_wp2_with fail
    refine wpIn_scope_straight ?_
    gi_wp2_with fail
    refine wpIn_label ?_
    gi_wp2_with fail
    refine (callsIn_wide.2 (letters_any s _)).mono ?_
    rintro e w4 ⟨rfl, rfl⟩
    gi_wp2_with fail
    obtain ⟨hb1, hb2, hbl, hs⟩ := HX.out _ rfl
    clear HX
    generalize (((w.alloc (.cells #[.string s] 154)).alloc (.cells #[.bool false] 4)).alloc (.cells #[.string s] 152)) = X at *
    have Hs := Lib.hid hs
    clear hs
    refine rangeFunc_break (gf := 105) (lb := #[.pointer (some ⟨w.heap.size + 1 + 1, 0, none⟩)]) rfl (enters_of Tryz.func105 (by kernel_rfl) rfl) (letters_iter (w.heap.size + 1 + 1) s) (fun _ => rfl)
      (fun k Y => Blk Y (w.heap.size + 1) 4 #[.bool false] ∧ Blk Y (w.heap.size + 1 + 1) 152 #[.string s] ∧ Below w.heap.size w Y ∧ ∀ q, q < k → okR ((runes s).getD q 0) = true)
      (fun k Y => Blk Y (w.heap.size + 1) 4 #[.bool false] ∧ Below w.heap.size w Y ∧ (runes s).all okR = false)
      (fun Y => Blk Y (w.heap.size + 1) 4 #[.bool (nameOk s)] ∧ Below w.heap.size w Y)
      ?hI ?hIx ?hIl ?hIxl ?hIR ?h0 ?hround ?hG1 ?hG2 ?rest
    case hI =>
      rintro k Y Z ⟨h1, h2, h3, h4⟩ hle hb
      simp only [if_true] at hb
      have := Hs.out
      exact ⟨h1.below hb (by omega), h2.below hb (by omega), h3.trans (hb.mono (by omega)), h4⟩
    case hIx =>
      rintro k Y Z ⟨h1, h3, h4⟩ hle hb
      simp only [if_true] at hb
      have := Hs.out
      exact ⟨h1.below hb (by omega), h3.trans (hb.mono (by omega)), h4⟩
    case hIl =>
      rintro k Y Z ⟨h1, h2, h3, h4⟩ hb
      have := Hs.out
      exact ⟨blk_only h1 hb (by omega), blk_only h2 hb (by omega), h3.trans (below_only hb (by omega) (by have := h1.lt; omega)), h4⟩
    case hIxl =>
      rintro k Y Z ⟨h1, h3, h4⟩ hb
      have := Hs.out
      exact ⟨blk_only h1 hb (by omega), h3.trans (below_only hb (by omega) (by have := h1.lt; omega)), h4⟩
    case hIR =>
      rintro k Y ⟨h1, h2, h3, h4⟩
      simpa using h2.cell 0
    case h0 =>
      intro Y hb
      have := Hs.out
      exact ⟨hb1.below hb (by omega), hb2.below hb (by omega), hbl.trans (hb.mono (by omega)), fun q h => absurd h (by omega)⟩
    case hG1 =>
      rintro Y ⟨h1, h2, h3, h4⟩
      refine ⟨?_, h3⟩
      rw [hno.out, hF.out, all_take okR (runes s) _ rfl h4]
      exact h1
    case hG2 =>
      rintro k Y _ _ ⟨h1, h3, h4⟩
      refine ⟨?_, h3⟩
      rw [hno.out, hF.out, h4]
      exact h1
    case hround =>
      rintro k Y hk ⟨h1, h2, h3, h4⟩ hle
      obtain ⟨c, hc⟩ : ∃ c, (runes s).getD k 0 = c := ⟨_, rfl⟩
      have hc31 : c ≤ 2147483647 := by
        have := runesF_bound s s.size 0 (runes s)[k] (List.getElem_mem hk)
        rw [List.getD_eq_getElem?_getD, List.getElem?_eq_getElem hk] at hc
        simp at hc
        omega
      rw [hc]
      have Hc := Lib.hid hc
      clear hc
      gi_wp2
      refine ⟨Bk.refl _ _, fun Z hYZ hsz => ?_⟩
      have hs3 := Hs.out
      have z1 : Blk Z (w.heap.size + 1) 4 #[.bool false] := blk_only h1 hYZ (by omega)
      have z2 : Blk Z (w.heap.size + 1 + 1) 152 #[.string s] := blk_only h2 hYZ (by omega)
      have z3 : Below w.heap.size w Z := h3.trans (below_only hYZ (by omega) (by have := h1.lt; omega))
      have kc := z1.cell 0
      have kf := z1.frozen 0
      simp at kc
      have hbad : Hid (okR c = false → Bk X.heap.size Z (Z.setCell ⟨w.heap.size + 1, 0, none⟩ (.bool false)) ∧ Kp true (X.heap.size + 2) Y (Z.setCell ⟨w.heap.size + 1, 0, none⟩ (.bool false)) ∧
          Blk (Z.setCell ⟨w.heap.size + 1, 0, none⟩ (.bool false)) (w.heap.size + 1) 4 #[.bool false] ∧ Below w.heap.size w (Z.setCell ⟨w.heap.size + 1, 0, none⟩ (.bool false)) ∧ (runes s).all okR = false) := Lib.hid (fun hbad => by
        have hot : ∀ b, b ≠ w.heap.size + 1 → (Z.setCell ⟨w.heap.size + 1, 0, none⟩ (.bool false)).heap[b]? = Z.heap[b]? := fun b hb => Below.heap_setCell Z ⟨w.heap.size + 1, 0, none⟩ _ b hb
        have hset := z1.set_ 0 (.bool false)
        simp at hset
        exact ⟨⟨by simp [World.setCell], hot _ (by omega), hot _ (by omega)⟩, fun _ => ⟨by simp [World.setCell]; omega, fun b q1 q2 => (hot b (by omega)).trans (hYZ.block b q2 (by simp; omega))⟩, hset,
          z3.setCell (p := ⟨w.heap.size + 1, 0, none⟩) (show w.heap.size ≤ w.heap.size + 1 by omega) _, all_not okR (runes s) k hk (by rw [Hc.out]; exact hbad)⟩)
      have hgood : Hid (okR c = true → Kp true (X.heap.size + 2) Y Z ∧ Blk Z (w.heap.size + 1) 4 #[.bool false] ∧ Blk Z (w.heap.size + 1 + 1) 152 #[.string s] ∧ Below w.heap.size w Z ∧ ∀ q, q < k + 1 → okR ((runes s).getD q 0) = true) := Lib.hid (fun hg =>
        ⟨fun _ => ⟨by omega, fun b q1 q2 => hYZ.block b q2 (by simp; omega)⟩, z1, z2, z3, fun q hq => by
          rcases Nat.lt_or_ge q k with h | h
          · exact h4 q h
          · rw [show q = k by omega, Hc.out]; exact hg⟩)
      clear h1 h2 h3 h4 z1 z2 z3 hsz
      by_cases c1 : c < 33
      · have hb := Lib.hid (hbad.out (by simp only [okR, decide_eq_false (show ¬ 33 ≤ c by omega), Bool.false_and]))
        have c1' : (c : Int) < 33 := by omega
        clear hbad hgood
        gi_wp2
        obtain ⟨q1, q2, q3, q4, q5⟩ := hb.out
        exact ⟨rfl, q1, q2, q3, q4, q5⟩
      · by_cases c2 : 126 < c
        · have hb := Lib.hid (hbad.out (by simp only [okR, decide_eq_false (show ¬ c ≤ 126 by omega), Bool.false_and, Bool.and_false]))
          have c2' : (126 : Int) < c := by omega
          clear hbad hgood
          gi_wp2
          obtain ⟨q1, q2, q3, q4, q5⟩ := hb.out
          exact ⟨rfl, q1, q2, q3, q4, q5⟩
        · by_cases c3 : c = 47
          · have hb := Lib.hid (hbad.out (by subst c3; rfl))
            have c3' : ((c : Int) == 47) = true := by simp; omega
            clear hbad hgood c3
            gi_wp2
            obtain ⟨q1, q2, q3, q4, q5⟩ := hb.out
            exact ⟨rfl, q1, q2, q3, q4, q5⟩
          · have hb := Lib.hid (hgood.out (by simp only [okR, decide_eq_true (show 33 ≤ c by omega), decide_eq_true (show c ≤ 126 by omega), decide_eq_true (show c ≠ 47 from c3), Bool.and_self]))
            have c3' : ((c : Int) == 47) = false := by simp; omega
            clear hbad hgood c3
            gi_wp2
            obtain ⟨q2, q3, q4, q5, q6⟩ := hb.out
            exact ⟨Bk.refl _ _, q2, q3, q4, q5, q6⟩
    case rest =>
      rintro Y ⟨h1, h2⟩ hle hDk
      have kc := h1.cell 0
      simp at kc
      have hDD : Hid (∀ D ∈ [X.heap.size], w.heap.size ≤ D ∧ Y.heap[D]? = some (.deferred (some []))) := Lib.hid (fun D hd => by
        rw [List.mem_singleton.1 hd]
        exact ⟨by have := Hs.out; omega, hDk⟩)
      clear hDk
      gi_wp2
      refine leaves_marks w.heap.size [X.heap.size] _ hDD.out (by simp) fun W' hW => ?_
      exact ⟨_, by simp [results, Tryz.results90, go_sem], rfl, h2.trans hW⟩

/-- The error of a string as a name. -/
def nameE (s : ByteArray) : Int := if nameOk s then 0 else 160

set_option maxHeartbeats 400000 in
theorem check_any (s : ByteArray) (w : World) :
    Calls Tryz.prog 74 #[.string s] w fun e w' => e = .returned (.int .i64 (nameE s)) ∧ Below w.heap.size w w' := by
  cases hok : nameOk s
  · have e : Hid (nameE s = 160) := Lib.hid (by simp [nameE, hok])
    go_enter Tryz.func74, Tryz.ntmps74
    go_wp2_with fail
    refine (lright_any s _).mono ?_
    rintro e w1 ⟨rfl, hb⟩
    rw [hok]
    go_wp2
    go_ret
    exact ⟨by rw [e.out]; rfl, hb⟩
  · have e : Hid (nameE s = 0) := Lib.hid (by simp [nameE, hok])
    go_enter Tryz.func74, Tryz.ntmps74
    go_wp2_with fail
    refine (lright_any s _).mono ?_
    rintro e w1 ⟨rfl, hb⟩
    rw [hok]
    go_wp2
    go_ret
    exact ⟨by rw [e.out]; rfl, hb⟩
end Go.Proofs.YtdgnbmcckknfiaaGreat
