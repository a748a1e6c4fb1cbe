/- The walks of the document's answers: names and entries. Conditions: none. -/
import Derived.Test.YtdgnbmcckknfiaaGreatRefM
import Derived.Test.YtdgnbmcckknfiaaGreatEntA
namespace Go.Proofs.YtdgnbmcckknfiaaGreat
open Go.RowKit
set_option linter.unusedSimpArgs false

theorem ok_take {l : List Nat} {k : Nat} {x : Nat} (hx : l[k]? = some x) (h : (l.take k).all okR = true) (h1 : okR x = true) : (l.take (k + 1)).all okR = true := by
  rw [List.take_add_one, hx, List.all_append, h]
  simp [h1]
theorem ok_not {l : List Nat} {k : Nat} {x : Nat} (hx : l[k]? = some x) (h1 : okR x = false) : l.all okR = false := by
  rw [List.all_eq_false]
  exact ⟨x, List.mem_of_getElem? hx, by simp [h1]⟩
set_option maxHeartbeats 4000000 in
theorem rNameR_any (s : ByteArray) (w : World) : Calls Tryz.prog 82 #[.string s] w fun e w' => e = .returned (.bool (nameOk s)) ∧ w = w' := by
  by_cases g1 : (s.size : Int) < 1
  · have e1 : Hid (nameOk s = false) := Lib.hid (by unfold nameOk formOk; rw [decide_eq_false (by omega : ¬ 1 ≤ s.size)]; rfl)
    go_enter Tryz.func82, Tryz.ntmps82
    go_wp2
    go_ret
    exact ⟨by rw [e1.out]; rfl, rfl⟩
  · by_cases g2 : (40 : Int) < s.size
    · have e1 : Hid (nameOk s = false) := Lib.hid (by unfold nameOk formOk; rw [decide_eq_false (by omega : ¬ s.size ≤ 40)]; simp)
      go_enter Tryz.func82, Tryz.ntmps82
      go_wp2
      go_ret
      exact ⟨by rw [e1.out]; rfl, rfl⟩
    · cases g3 : (s.toList == [46])
      · cases g4 : (s.toList == [46, 46])
        · have e1 : Hid (nameOk s = (sb s).all okR) := Lib.hid (by unfold nameOk formOk dot1 dot2; rw [g3, g4, decide_eq_true (by omega : 1 ≤ s.size), decide_eq_true (by omega : s.size ≤ 40)]; rfl)
          go_enter Tryz.func82, Tryz.ntmps82
          go_wp2
          go_loop [3] (fun i => ∃ k : Nat, k ≤ s.size ∧ i = .int .i64 k ∧ ((sb s).take k).all okR = true) (fun i => s.size - (intOf i).toNat)
          case atStart => exact ⟨0, by omega, rfl, rfl⟩
          case round =>
            obtain ⟨k, hk, rfl, hal⟩ := hrel
            by_cases hlt : k < s.size
            · have hat := sb_at s k hlt
              obtain ⟨c, hc⟩ : ∃ c, s[k] = c := ⟨_, rfl⟩
              have hc' : (s[k]'hlt).toNat = c.toNat := by rw [hc]
              rw [hc'] at hat
              have hbad : Hid (okR c.toNat = false → nameOk s = false) := Lib.hid (fun h => by rw [e1.out]; exact ok_not hat h)
              have hgood : Hid (okR c.toNat = true → ((sb s).take (k + 1)).all okR = true) := Lib.hid (fun h => ok_take hat hal h)
              clear hat hal hc'
              by_cases c1 : (c.toNat : Int) < 33
              · have hb := Lib.hid (hbad.out (by simp only [okR, decide_eq_false (show ¬ 33 ≤ c.toNat by omega), Bool.false_and]))
                clear hbad hgood
                go_wp2
                go_ret
                exact ⟨by rw [hb.out]; rfl, rfl⟩
              · by_cases c2 : (126 : Int) < c.toNat
                · have hb := Lib.hid (hbad.out (by simp only [okR, decide_eq_false (show ¬ c.toNat ≤ 126 by omega), Bool.false_and, Bool.and_false]))
                  clear hbad hgood
                  go_wp2
                  go_ret
                  exact ⟨by rw [hb.out]; rfl, rfl⟩
                · by_cases c3 : c.toNat = 47
                  · have hb := Lib.hid (hbad.out (by rw [c3]; rfl))
                    have c3' : ((c.toNat : Int) == 47) = true := by simp; omega
                    clear hbad hgood c3
                    go_wp2
                    go_ret
                    exact ⟨by rw [hb.out]; rfl, rfl⟩
                  · have hb := Lib.hid (hgood.out (by simp only [okR, decide_eq_true (show 33 ≤ c.toNat by omega), decide_eq_true (show c.toNat ≤ 126 by omega), decide_eq_true (show c.toNat ≠ 47 from c3), Bool.and_self]))
                    have c3' : ((c.toNat : Int) == 47) = false := by simp; omega
                    clear hbad hgood c3
                    go_wp2
                    go_round
                    case rel => exact ⟨k + 1, by omega, by go_num, hb.out⟩
                    case measure => simp [intOf]; omega
            · have hf : Hid (nameOk s = true) := Lib.hid (by rw [e1.out, ← hal, List.take_of_length_le (by rw [sb_len]; omega)])
              clear hal
              go_wp2
              go_ret
              exact ⟨by rw [hf.out]; rfl, rfl⟩
        · have e1 : Hid (nameOk s = false) := Lib.hid (by unfold nameOk formOk dot2; rw [g4]; simp)
          go_enter Tryz.func82, Tryz.ntmps82
          go_wp2
          go_ret
          exact ⟨by rw [e1.out]; rfl, rfl⟩
      · have e1 : Hid (nameOk s = false) := Lib.hid (by unfold nameOk formOk dot1; rw [g3]; simp)
        go_enter Tryz.func82, Tryz.ntmps82
        go_wp2
        go_ret
        exact ⟨by rw [e1.out]; rfl, rfl⟩

set_option maxHeartbeats 2000000 in
theorem rEntryR_any (n m : Int) (s : ByteArray) (w : World) : Calls Tryz.prog 34 #[.agg #[.int .i64 n, .int .i64 m, .string s]] w fun e w' => e = .returned (.bool (entOk n m s)) ∧ Below w.heap.size w w' := by
  have hB := (Below.refl _ w).alloc (Nat.le_refl _) (.cells #[.int .i64 n, .int .i64 m, .string s] 44)
  have key : ∀ u v : Bool, rp0 n = u → rp1 m = v → entOk n m s = (u && (v && nameOk s)) := fun u v h1 h2 => by rw [← h1, ← h2]; rfl
  have hP := Lib.hid (point0_any n)
  have hQ := Lib.hid (point1_any m)
  have hN := Lib.hid (rNameR_any s)
  obtain ⟨u, hu⟩ : ∃ u, rp0 n = u := ⟨_, rfl⟩
  obtain ⟨v, hv⟩ : ∃ v, rp1 m = v := ⟨_, rfl⟩
  have e0 := Lib.hid (key u v hu hv)
  rw [hu] at hP
  rw [hv] at hQ
  clear key hu hv
  cases u
  · go_enter Tryz.func34, Tryz.ntmps34
    go_wp2_with fail
    refine (hP.out _).mono ?_
    rintro e w1 ⟨rfl, rfl⟩
    go_wp2
    go_ret
    exact ⟨by rw [e0.out]; rfl, hB⟩
  · cases v
    · go_enter Tryz.func34, Tryz.ntmps34
      go_wp2_with fail
      refine (hP.out _).mono ?_
      rintro e w1 ⟨rfl, rfl⟩
      go_wp2_with fail
      refine (hQ.out _).mono ?_
      rintro e w1 ⟨rfl, rfl⟩
      go_wp2
      go_ret
      exact ⟨by rw [e0.out]; rfl, hB⟩
    · go_enter Tryz.func34, Tryz.ntmps34
      go_wp2_with fail
      refine (hP.out _).mono ?_
      rintro e w1 ⟨rfl, rfl⟩
      go_wp2_with fail
      refine (hQ.out _).mono ?_
      rintro e w1 ⟨rfl, rfl⟩
      go_wp2_with fail
      refine (hN.out _).mono ?_
      rintro e w1 ⟨rfl, rfl⟩
      go_wp2
      go_ret
      exact ⟨by rw [e0.out]; simp, hB⟩

end Go.Proofs.YtdgnbmcckknfiaaGreat
