/- The walk of the law WordBytes. Conditions: a slice of bytes that reads as a list; the library's table reads as its text lays it. -/
import Derived.Test.YtamgmbmjbegfgaaDoorBytQ
import Derived.Test.YtamgmbmjbegfgaaDoorWrkB
namespace Go.Proofs.YtamgmbmjbegfgaaDoor
open Go.RowKit

theorem rwords_n (bs : List Nat) (A : Option Addr) (n c : Nat) (w : World) (hr : Reads w w.heap.size 1 A n (cells8 bs)) (hx : ∀ x ∈ bs, x < 256) (hn : n ≤ 5000) :
    Calls Tryd.prog 20 #[.slice A n c] w fun e w' => ∃ v, e = .returned v ∧ w'.ownsRow w.heap.size 22 1 v ((n + 7) / 8) (cells64 (wordsN bs)) ∧ Below w.heap.size w w' := by
  have e : (bs.map Int.ofNat).map (Value.int .u8) = cells8 bs := by unfold cells8; rw [List.map_map]; rfl
  refine rwords_any bs A n c w ?_ hx hn
  unfold U8s
  rw [e]
  exact hr

set_option maxRecDepth 100000 in
set_option maxHeartbeats 2000000 in
theorem wordBytes_any (bs : List Nat) (A : Option Addr) (n c : Nat) (w : World) (hr : Reads w w.heap.size 1 A n (cells8 bs)) (hx : ∀ x ∈ bs, x < 256) (hc : n ≤ c) (hm : n ≤ maxLen) (hT : TabIn w) :
    Calls Tryd.prog 4 #[.slice A n c] w fun e w' => e = .returned (.bool true) ∧ Below w.heap.size w w' := by
  have hTl := hT.lt
  have HT := Lib.hid hT
  have hlen : bs.length = n := by have := hr.1; rw [cells8_len] at this; omega
  have Hlen := Lib.hid hlen
  have Hx := Lib.hid hx
  clear hT hlen hx
  by_cases h1 : 5000 < n
  · go_enter Tryd.func4, Tryd.ntmps4
    go_wp2_with fail
    refine (works_any _ HT.out).mono ?_
    rintro e w1 ⟨rfl, hb⟩
    go_wp2
    go_ret
    exact ⟨rfl, hb⟩
  · by_cases h2 : 4096 < n
    · go_enter Tryd.func4, Tryd.ntmps4
      go_wp2_with fail
      refine (words_long A n c _ h2 hm).mono ?_
      rintro e w1 ⟨rfl, hb⟩
      go_wp2_with (go_at_call 13; refine (num_any _ _).mono ?_; rintro e w' ⟨rfl, rfl⟩)
      refine (works_any _ (HT.out.below hb hTl)).mono ?_
      rintro e w3 ⟨rfl, hb3⟩
      go_wp2
      go_ret
      exact ⟨rfl, hb.trans (hb3.mono hb.size)⟩
    · have hwb := words_bytes bs Hx.out (by rw [Hlen.out]; omega)
      rw [Hlen.out] at hwb
      have Hwb := Lib.hid hwb
      have hn0 : (Lit.int .i64 (n : Int)).wf = true := by
        simp [Lit.wf, IntKind.min, IntKind.max, IntKind.signed, IntKind.bits]
        omega
      have Hn0 := Lib.hid hn0
      clear hwb hn0
      go_enter Tryd.func4, Tryd.ntmps4
      go_wp2_with fail
      refine (words_n bs A n c _ hr Hx.out hc (by omega)).mono ?_
      rintro e w1 ⟨v1, rfl, hr1, hb⟩
      obtain ⟨q, hq⟩ : ∃ q, (n + 7) / 8 = q := ⟨_, rfl⟩
      have hq6 : q ≤ 600 := by omega
      rw [hq] at hr1
      have Hq := Lib.hid hq
      clear hq
      obtain ⟨A1, c1, rfl⟩ := own_form hr1
      have hL := Reads.of_own hr1
      replace hr := (hr.below hb).more hb.size
      have B1 := hb
      clear hb hr1
      go_wp2_with fail
      refine (wbytes_any (wordsN bs) n A1 q c1 _ hL (wordsN_lt bs Hx.out) (by unfold maxLen; omega) Hn0.out).mono ?_
      rintro e w2 ⟨A2, m2, rfl, hC, hb⟩
      rw [Hwb.out.2] at hC
      rw [Hwb.out.1]
      obtain rfl : m2 = n := by have h9 := hC.1; rw [cells8_len, Hlen.out] at h9; omega
      replace hr := (hr.below hb).more hb.size
      replace hL := (hL.below hb)
      have z1 : w1.heap.size ≤ w2.heap.size := hb.size
      have B2 := B1.trans (hb.mono B1.size)
      clear hb B1
      go_wp2_with fail
      refine (rwords_n bs A m2 c _ hr Hx.out (by omega)).mono ?_
      rintro e w3 ⟨v3, rfl, hr3, hb⟩
      rw [Hq.out] at hr3
      obtain ⟨A3, c3, rfl⟩ := own_form hr3
      have hK := Reads.of_own hr3
      replace hr := (hr.below hb).more hb.size
      replace hC := (hC.below hb)
      replace hL := (hL.below (hb.mono z1))
      have z2 : w2.heap.size ≤ w3.heap.size := hb.size
      have B3 := B2.trans (hb.mono B2.size)
      clear hb B2 hr3
      go_wp2_with fail
      refine (rsame_eq (wordsN bs) A1 A3 q c1 c3 w1.heap.size w3.heap.size _ hL hK (by omega) (Nat.le_refl _) (by omega)).mono ?_
      rintro e w4 ⟨rfl, hb⟩
      have cv1 := conv_reads m2 (hC.below (hb.mono z2))
      have cv2 := conv_reads c (hr.below hb)
      have B4 := B3.trans (hb.mono B3.size)
      clear hb B3 hL hK hC hr
      go_wp2_with (go_at_call 13; refine (num_any _ _).mono ?_; rintro e w' ⟨rfl, rfl⟩)
      refine (works_any _ (HT.out.below B4 hTl)).mono ?_
      rintro e w9 ⟨rfl, hb⟩
      go_wp2
      go_ret
      exact ⟨rfl, B4.trans (hb.mono B4.size)⟩
end Go.Proofs.YtamgmbmjbegfgaaDoor
