/- The walk of the reference's Apart. Conditions: a slice of fields that reads as a list. -/
import Derived.Test.YtamgmbmjbegfgaaDoorRefA
import Derived.Test.YtamgmbmjbegfgaaDoorApaA
namespace Go.Proofs.YtamgmbmjbegfgaaDoor
open Go.RowKit

theorem seen_next (S F j : Nat) : withN (S ||| hiM F j) (F + j) true = S ||| hiM F (j + 1) := by
  apply word_ext
  intro i
  rw [withN_bit, Nat.testBit_or, Nat.testBit_or, hiM_bit, hiM_bit]
  by_cases h : i = F + j
  · subst h
    rw [if_pos rfl, decide_eq_true (by omega : F ≤ F + j ∧ F + j < F + (j + 1))]
    simp
  · rw [if_neg h]
    by_cases h2 : F ≤ i ∧ i < F + j
    · rw [decide_eq_true h2, decide_eq_true (by omega)]
    · rw [decide_eq_false h2, decide_eq_false (by omega)]
theorem seen_bit (S F j : Nat) : (S ||| hiM F j).testBit (F + j) = S.testBit (F + j) := by
  rw [Nat.testBit_or, hiM_bit, decide_eq_false (by omega)]
  simp
theorem hiM_zero (F : Nat) : hiM F 0 = 0 := by simp [hiM, lowM]
theorem hiM_hit (S F D i : Nat) (h : i < D) (hb : S.testBit (F + i) = true) : S &&& hiM F D ≠ 0 := by
  intro h0
  have h1 : (S &&& hiM F D).testBit (F + i) = false := by rw [h0]; simp
  rw [Nat.testBit_and, hb, hiM_bit, decide_eq_true (by omega)] at h1
  cases h1
theorem hiM_miss (S F D : Nat) (hno : ∀ i, i < D → S.testBit (F + i) = false) : S &&& hiM F D = 0 := by
  apply word_ext
  intro i
  rw [Nat.testBit_and, hiM_bit, Nat.zero_testBit]
  by_cases h : F ≤ i ∧ i < F + D
  · have := hno (i - F) (by omega)
    rw [show F + (i - F) = i by omega] at this
    rw [this]
    rfl
  · rw [decide_eq_false h]
    simp

set_option maxRecDepth 100000 in
set_option maxHeartbeats 2000000 in
theorem rapart_any (zs : List (Int × Int)) (A : Option Addr) (n c : Nat) (w : World) (hr : FReads w w.heap.size A n zs) (hn : n ≤ 100) :
    Calls Tryd.prog 25 #[.slice A n c] w fun e w' => e = .returned (.bool (apFrom 0 zs)) ∧ Below w.heap.size w w' := by
  have hlen := Lib.hid hr.1
  go_enter Tryd.func25, Tryd.ntmps25
  go_wp2
  go_loopw [3, 4, 5] (fun s i _ wr => ∃ (k S : Nat), k ≤ n ∧ i = .int .i64 k ∧ s = .int .u64 S ∧ S < 18446744073709551616 ∧ apFrom 0 zs = apFrom S (zs.drop k) ∧ Below w.heap.size w wr) (fun _ i _ _ => n - (intOf i).toNat)
  case atStart => exact ⟨0, 0, Nat.zero_le _, rfl, rfl, by omega, by simp, Below.refl _ _⟩
  case round =>
    obtain ⟨k, S, hk, rfl, rfl, hS, hap, hb⟩ := hrel
    obtain ⟨wo, rfl⟩ : ∃ wo : World, wo = wr := ⟨_, rfl⟩
    by_cases hlt : k < n
    · obtain ⟨ad, f, d, rfl, hadb, hz, cf, cd⟩ := (hr.below hb (Nat.le_refl _)).at_ hlt
      have hdrop : zs.drop k = (f, d) :: zs.drop (k + 1) := by
        obtain ⟨h2, h3⟩ := List.getElem?_eq_some_iff.1 hz
        rw [List.drop_eq_getElem_cons h2, h3]
      rw [hdrop] at hap
      have hap' : apFrom 0 zs = (fldOk f d && decide (S &&& hiM f.toNat d.toNat = 0) && apFrom (S ||| hiM f.toNat d.toNat) (zs.drop (k + 1))) := hap
      have Hap := Lib.hid hap'
      have hk0 : (0 : Int) ≤ (k : Int) := by omega
      have hk1 : (k : Int) < (n : Int) := by omega
      clear hap hap' hdrop hz
      go_wp2_with fail
      refine (rright_any f d _).mono ?_
      rintro e w2 ⟨rfl, hb2⟩
      have hbb := hb.trans (hb2.mono hb.size)
      have cf2 : ∀ W, Below w2.heap.size w2 W → W.cell? (ad.add (k * 2)) = some (.int .i64 f) ∧ W.cell? ⟨(ad.add (k * 2)).block, (ad.add (k * 2)).off + 1, none⟩ = some (.int .i64 d) := fun W hW => by
        have hB := hb2.trans (hW.mono hb2.size)
        have hl : (ad.add (k * 2)).block < wo.heap.size := by rw [block_of_add]; exact Nat.lt_of_lt_of_le hadb hb.size
        exact ⟨(hB.cell hl).trans cf, (hB.cell (p := ⟨(ad.add (k * 2)).block, (ad.add (k * 2)).off + 1, none⟩) hl).trans cd⟩
      have Cf2 := Lib.hid cf2
      obtain ⟨kf, kd⟩ := cf2 w2 (Below.refl _ _)
      clear cf cd hb2 hb cf2
      cases hok : fldOk f d
      · have he : Hid (apFrom 0 zs = false) := Lib.hid (by rw [Hap.out, hok]; rfl)
        clear hok
        go_wp2
        go_ret
        exact ⟨by rw [he.out]; rfl, hbb⟩
      · obtain ⟨F, D, rfl, rfl, hD1, hFD⟩ := fldOk_nat hok
        have hap2 : apFrom 0 zs = (decide (S &&& hiM F D = 0) && apFrom (S ||| hiM F D) (zs.drop (k + 1))) := by rw [Hap.out, hok, Int.toNat_natCast, Int.toNat_natCast, Bool.true_and]
        have Hap2 := Lib.hid hap2
        have hz0 := Lib.hid (hiM_zero F)
        clear hok hap2 Hap
        go_wp2
        go_loopw [3, 5] (fun s i wr => ∃ j : Nat, j ≤ D ∧ i = .int .i64 ((F + j : Nat) : Int) ∧ s = .int .u64 (S ||| hiM F j : Nat) ∧ (∀ q, q < j → S.testBit (F + q) = false) ∧ Below w2.heap.size w2 wr) (fun _ i _ => F + D - (intOf i).toNat)
        case atStart => exact ⟨0, Nat.zero_le _, rfl, by rw [hz0.out, Nat.or_zero], fun q h => absurd h (by omega), Below.refl _ _⟩
        case round =>
          obtain ⟨j, hj, rfl, rfl, hno, hbr⟩ := hrel
          obtain ⟨wi, rfl⟩ : ∃ wi : World, wi = wr := ⟨_, rfl⟩
          obtain ⟨kf, kd⟩ := Cf2.out wi hbr
          obtain ⟨p, hp⟩ : ∃ p, F + j = p := ⟨_, rfl⟩
          have wFD : IntKind.i64.wrap ((F : Int) + D) = (F : Int) + D := by rw [IntKind.wrap_i64]; omega
          have hseen : S ||| hiM F j < 18446744073709551616 := or_lt hS (hiM_lt (by omega))
          by_cases hjD : j < D
          · have hlt1 : (p : Int) < (F : Int) + D := by omega
            have hp64 : p < 64 := by omega
            have hsb := seen_bit S F j
            have hsn := seen_next S F j
            rw [hp] at hsb hsn ⊢
            obtain ⟨T, hTT⟩ : ∃ T, S ||| hiM F j = T := ⟨_, rfl⟩
            obtain ⟨T2, hT2⟩ : ∃ T2, S ||| hiM F (j + 1) = T2 := ⟨_, rfl⟩
            rw [hTT] at hsb hsn hseen ⊢
            rw [hT2] at hsn
            cases hbit : S.testBit p
            · rw [hbit] at hsb
              have hno' : Hid (∀ q, q < j + 1 → S.testBit (F + q) = false) := Lib.hid (fun q hq => by
                rcases Nat.lt_or_ge q j with h | h
                · exact hno q h
                · rw [show q = j by omega, hp]; exact hbit)
              have Hsb := Lib.hid hsb
              have Hsn := Lib.hid hsn
              have HT2 := Lib.hid hT2
              have Hp := Lib.hid hp
              have Hbr := Lib.hid hbr
              clear hno hbit hsb hsn hT2 hTT hp hbr
              go_wp2
              go_quiet (fail)
              go_wp2_with fail
              refine (bit_any T p _ hseen hp64).mono ?_
              rintro e w' ⟨rfl, rfl⟩
              rw [Hsb.out]
              go_wp2_with fail
              refine (with_any T p true _ hseen hp64).mono ?_
              rintro e w' ⟨rfl, rfl⟩
              rw [Hsn.out]
              go_wp2
              go_roundw
              case rel => have := Hp.out; exact ⟨j + 1, by omega, by rw [show F + (j + 1) = p + 1 by omega]; go_num, by rw [HT2.out], hno'.out, below_drewN Hbr.out _⟩
              case measure => simp [intOf]; omega
            · rw [hbit] at hsb
              have hne := hiM_hit S F D j hjD (by rw [hp]; exact hbit)
              have he : Hid (apFrom 0 zs = false) := Lib.hid (by rw [Hap2.out, decide_eq_false hne]; rfl)
              have Hsb := Lib.hid hsb
              have Hbr := Lib.hid hbr
              clear hno hbit hsb hsn hT2 hTT hp hne hbr
              go_wp2
              go_quiet (fail)
              go_wp2_with fail
              refine (bit_any T p _ hseen hp64).mono ?_
              rintro e w' ⟨rfl, rfl⟩
              rw [Hsb.out]
              go_wp2
              go_ret
              exact ⟨by rw [he.out]; rfl, hbb.trans ((below_drewN Hbr.out _).mono hbb.size)⟩
          · obtain rfl : j = D := by omega
            have hz := hiM_miss S F j hno
            have he : Hid (apFrom 0 zs = apFrom (S ||| hiM F j) (zs.drop (k + 1))) := Lib.hid (by rw [Hap2.out, decide_eq_true hz, Bool.true_and])
            obtain ⟨T, hTT⟩ : ∃ T, S ||| hiM F j = T := ⟨_, rfl⟩
            rw [hTT] at he hseen ⊢
            have hlt1 : ¬ (p : Int) < (F : Int) + j := by omega
            rw [hp]
            have Hbr := Lib.hid hbr
            clear hno hz hTT hp hbr
            go_wp2
            go_quiet (fail)
            go_wp2
            go_roundw
            case rel => exact ⟨k + 1, T, by omega, by go_num, rfl, hseen, he.out, hbb.trans ((below_drewN Hbr.out _).mono hbb.size)⟩
            case measure => simp [intOf]; omega
    · have he : Hid (apFrom 0 zs = true) := Lib.hid (by rw [hap, List.drop_of_length_le (by have := hlen.out; omega)]; rfl)
      clear hap
      go_wp2
      go_ret
      exact ⟨by rw [he.out]; rfl, hb⟩
end Go.Proofs.YtamgmbmjbegfgaaDoor
