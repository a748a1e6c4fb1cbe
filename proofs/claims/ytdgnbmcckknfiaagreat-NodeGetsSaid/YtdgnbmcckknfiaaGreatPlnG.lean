/- Plain laws of the document's gets. No program's step in sight. No conditions. -/
import Derived.Test.YtdgnbmcckknfiaaGreatRefR
import Derived.Test.YtdgnbmcckknfiaaGreatEntB
import Derived.Test.YtdgnbmcckknfiaaGreatMapB
import Derived.Test.YtdgnbmcckknfiaaGreatNodG
import Derived.Test.YtdgnbmcckknfiaaGreatSupB
import Derived.Test.YtdgnbmcckknfiaaGreatTabB
namespace Go.Proofs.YtdgnbmcckknfiaaGreat
open Go.RowKit
set_option linter.unusedSimpArgs false

theorem small_id {x : Nat} (h : 0 ≤ smallI x) : smallI x = (x : Int) := by
  unfold smallI at h ⊢
  split at h
  · rename_i h1
    rw [if_pos h1]
  · omega
theorem ptr_ge {least : Int} (h0 : 0 ≤ least) {xs : List Int} (h : ptrs least xs = true) : ∀ x ∈ xs, 0 ≤ x ∧ x < 1024 := fun x hx => by
  unfold ptrs at h
  rw [Bool.not_eq_true', List.any_eq_false] at h
  have := h x hx
  simp [badP] at this
  omega
theorem map_alt (a b c d e f g h : Nat) : mapIs a b c d e f g h = mapOk (smallI a) (smallI b) (smallI c) (smallI d) (smallI e) (smallI f) (smallI g) (smallI h) := by
  cases hv : mapOk (smallI a) (smallI b) (smallI c) (smallI d) (smallI e) (smallI f) (smallI g) (smallI h)
  · unfold mapIs
    rw [hv, Bool.false_and]
  · have hok := hv
    simp only [mapOk, Bool.and_eq_true, chOk, decide_eq_true_eq] at hok
    have hp := ptr_ge (by omega) hok.1.2
    unfold mapIs
    rw [hv, Bool.true_and]
    apply decide_eq_true
    unfold mapW
    rw [small_id hok.1.1.1, small_id (hp (smallI b) (by simp)).1, small_id (hp (smallI c) (by simp)).1, small_id (hp (smallI d) (by simp)).1, small_id (hp (smallI e) (by simp)).1, small_id (hp (smallI f) (by simp)).1, small_id (hp (smallI g) (by simp)).1, small_id (hp (smallI h) (by simp)).1]
theorem tab_alt (a b c d e f g h : Nat) : tabIs a b c d e f g h = (tabOk (smallI a) (smallI b) (smallI c) (smallI d) (smallI e) (smallI f) (smallI g) && zer h) := by
  cases hv : tabOk (smallI a) (smallI b) (smallI c) (smallI d) (smallI e) (smallI f) (smallI g)
  · unfold tabIs
    rw [hv, Bool.false_and, Bool.false_and]
  · have hp := ptr_ge (by omega) hv
    unfold tabIs
    rw [hv, Bool.true_and, Bool.true_and]
    unfold tabW zer
    rw [small_id (hp (smallI a) (by simp)).1, small_id (hp (smallI b) (by simp)).1, small_id (hp (smallI c) (by simp)).1, small_id (hp (smallI d) (by simp)).1, small_id (hp (smallI e) (by simp)).1, small_id (hp (smallI f) (by simp)).1, small_id (hp (smallI g) (by simp)).1]
    by_cases h0 : h = 0
    · subst h0
      rw [show (((0 : Nat) : Int) == 0) = true from rfl]
      exact decide_eq_true rfl
    · have h1 : ((h : Int) == 0) = false := by simp; omega
      rw [h1]
      apply decide_eq_false
      intro hl
      simp at hl
      omega
theorem ino_alt (a b c d e f g h : Nat) : inoIs a b c d e f g h = (decide (a < 1048576) && (inoOk ((a : Int) % 256) ((a : Int) / 256) (smallI b) && nouB c d e f g h)) := by
  by_cases ha : a < 1048576
  · have h1 : inoK a = (a : Int) % 256 := rfl
    have h2 : inoLk a = (a : Int) / 256 := by
      unfold inoLk smallI
      rw [if_pos (by omega)]
      omega
    rw [decide_eq_true ha, Bool.true_and]
    unfold inoIs
    rw [h1, h2]
    cases hv : inoOk ((a : Int) % 256) ((a : Int) / 256) (smallI b)
    · rfl
    · have hok := hv
      simp only [inoOk, Bool.and_eq_true] at hok
      have hp := small_id (ptr_ge (by omega) hok.2 (smallI b) (by simp)).1
      rw [Bool.true_and, Bool.true_and]
      unfold inoW nouB
      rw [hp]
      by_cases hz : c = 0 ∧ d = 0 ∧ e = 0 ∧ f = 0 ∧ g = 0 ∧ h = 0
      · obtain ⟨rfl, rfl, rfl, rfl, rfl, rfl⟩ := hz
        rw [show [0, 0, 0, 0, 0, 0].all zer = true from by kernel_rfl]
        apply decide_eq_true
        rw [show (a : Int) % 256 + 256 * ((a : Int) / 256) = a by omega]
        rfl
      · rw [decide_eq_false (by intro hl; simp at hl; omega)]
        symm
        rw [Bool.eq_false_iff]
        intro hl
        simp [zer] at hl
        omega
  · rw [decide_eq_false ha, Bool.false_and]
    unfold inoIs
    have h3 : inoOk (inoK a) (inoLk a) (smallI b) = false := by
      have h4 : inoLk a < 1 ∨ 200 < inoLk a := by
        unfold inoLk smallI
        split <;> omega
      unfold inoOk
      rcases h4 with h | h
      · rw [decide_eq_false (by omega : ¬ 1 ≤ inoLk a)]; simp
      · rw [decide_eq_false (by omega : ¬ inoLk a ≤ 200)]; simp
    rw [h3, Bool.false_and]
theorem name_none : nameOk ⟨#[]⟩ = false := by
  unfold nameOk formOk
  rfl
theorem ent_alt (a b c d e f g h : Nat) : entIs a b c d e f g h = (rdOk [d, e, f, g, h] (smallI c) && entOk (smallI a) (smallI b) (rdS [d, e, f, g, h] (smallI c))) := by
  cases hr : rdOk [d, e, f, g, h] (smallI c)
  · have h1 : (rdS [d, e, f, g, h] (smallI c)) = ⟨#[]⟩ := (read_refused _ _ hr).1
    unfold entIs
    rw [h1]
    unfold entOk
    rw [name_none]
    simp
  · cases hv : entOk (smallI a) (smallI b) (rdS [d, e, f, g, h] (smallI c))
    · unfold entIs
      rw [hv]
      rfl
    · have h1 := (read_ok _ _ hr).1
      have hok := hv
      simp only [entOk, Bool.and_eq_true] at hok
      have ha := small_id (ptr_ge (by omega) hok.1 (smallI a) (by simp)).1
      have hb := small_id (ptr_ge (by omega) hok.2.1 (smallI b) (by simp)).1
      have hr2 := hr
      simp only [rdOk, Bool.and_eq_true, decide_eq_true_eq] at hr2
      have hc := small_id (x := c) (by omega)
      have hlw : lw (rdS [d, e, f, g, h] (smallI c)) = [d, e, f, g, h] := by rw [h1]; exact hr2.2.2
      have hsz : (rdS [d, e, f, g, h] (smallI c)).size = c := by
        rw [h1, ← sb_len, sb_rdStr, List.length_take, bytesOf_len]
        simp
        omega
      unfold entIs
      rw [hv, Bool.true_and, Bool.true_and]
      apply decide_eq_true
      unfold entW
      rw [hlw, hsz, ha, hb]
      rfl
end Go.Proofs.YtdgnbmcckknfiaaGreat
