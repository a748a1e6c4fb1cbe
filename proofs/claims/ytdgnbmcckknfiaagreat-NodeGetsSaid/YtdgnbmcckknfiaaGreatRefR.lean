/- The walks of the document's answers: a name that is read, small words, noughts; and of the law's got. Conditions: words of 64 bits. -/
import Derived.Test.YtdgnbmcckknfiaaGreatRefB
import Derived.Test.YtdgnbmcckknfiaaGreatRefW
import Derived.Test.YtdgnbmcckknfiaaGreatWrkN
import Derived.Test.YtdgnbmcckknfiaaGreatQuietR
namespace Go.Proofs.YtdgnbmcckknfiaaGreat
open Go.RowKit
set_option linter.unusedSimpArgs false

set_option maxRecDepth 100000 in
set_option maxHeartbeats 4000000 in
theorem rread_any (a b c d e : Nat) (hx : ∀ x ∈ [a, b, c, d, e], x < 18446744073709551616) (n : Int) (w : World) :
    Calls Tryz.prog 33 #[.agg #[.int .u64 a, .int .u64 b, .int .u64 c, .int .u64 d, .int .u64 e], .int .i64 n] w fun r w' =>
      r = .returned (.tuple #[.string (rdS [a, b, c, d, e] n), .bool (rdOk [a, b, c, d, e] n)]) ∧ Below w.heap.size w w' := by
  have key : ∀ v : Bool, (decide (1 ≤ n) && decide (n ≤ 40)) = v → rdOk [a, b, c, d, e] n = (v && (nameOk (rdStr [a, b, c, d, e] n.toNat) && decide (lw (rdStr [a, b, c, d, e] n.toNat) = [a, b, c, d, e]))) := fun v h => by unfold rdOk; rw [h]
  have hB := (Below.refl _ w).alloc (Nat.le_refl _) (.cells #[.int .u64 a, .int .u64 b, .int .u64 c, .int .u64 d, .int .u64 e] 100)
  have hk := Blk.new w 100 #[.int .u64 a, .int .u64 b, .int .u64 c, .int .u64 d, .int .u64 e]
  by_cases h1 : n < 1 ∨ 40 < n
  · have h0 : rdOk [a, b, c, d, e] n = false := by rw [key false (by rcases h1 with h | h; exact (by rw [decide_eq_false (by omega)]; rfl); exact (by rw [decide_eq_false (show ¬ n ≤ 40 by omega), Bool.and_false]))]; rfl
    have e1 := Lib.hid (And.intro (read_refused [a, b, c, d, e] n h0).1 h0)
    clear key h0
    have hor : n < 1 ∨ (¬ n < 1 ∧ 40 < n) := by omega
    clear h1
    rcases hor with c1 | ⟨c1, c2⟩
    all_goals
      go_enter Tryz.func33, Tryz.ntmps33
      go_wp2
      go_ret2
      exact ⟨by rw [e1.out.1, e1.out.2]; rfl, hB⟩
  · have c1 : ¬ n < 1 := by omega
    have c2 : ¬ 40 < n := by omega
    obtain ⟨N, hN⟩ : ∃ N : Nat, n = N := ⟨n.toNat, by omega⟩
    have Key := Lib.hid (key true (by rw [decide_eq_true (by omega), decide_eq_true (by omega)]; rfl))
    subst hN
    rw [Int.toNat_natCast] at Key
    have Hx := Lib.hid hx
    have Hk := Lib.hid (And.intro hk hB)
    obtain ⟨i0, hi0, hz0, hz1, hz2⟩ := info_parts info8
    clear key hx hk hB h1
    go_enter Tryz.func33, Tryz.ntmps33
    go_wp2
    go_loopw [6, 7] (fun t i wr => ∃ j : Nat, j ≤ N ∧ i = .int .i64 j ∧ wr.ownsRow (w.heap.size + 1) 5 1 t j (cells8 ((bytesOf [a, b, c, d, e]).take j)) ∧ Below w.heap.size w wr ∧ Blk wr w.heap.size 100 #[.int .u64 a, .int .u64 b, .int .u64 c, .int .u64 d, .int .u64 e]) (fun _ i _ => N - (intOf i).toNat)
    case atStart => exact ⟨0, by omega, rfl, by simpa [cells8] using World.ownsRow_nil _ _ _ _, Hk.out.2, Hk.out.1⟩
    case round =>
      obtain ⟨j, hj, rfl, hown, hb, hk⟩ := hrel
      obtain ⟨wo, rfl⟩ : ∃ wo : World, wo = wr := ⟨_, rfl⟩
      by_cases hlt : j < N
      · have hrd : Reads wo wo.heap.size 1 (some ⟨w.heap.size, 0, none⟩) 5 (cells64 [a, b, c, d, e]) := blk_reads (off := 0) hk rfl (fun j u h => by simpa [cells64] using h)
        obtain ⟨A3, c3, rfl⟩ := own_form hown
        have H2 := Lib.hid (And.intro hown (And.intro hk hb))
        clear hown hk hb
        go_wp2_with fail
        refine (rbyte_any [a, b, c, d, e] _ 5 5 j _ hrd Hx.out (by omega) (by omega)).mono ?_
        rintro r w2 ⟨y, rfl, hy, hy2, hb3⟩
        obtain ⟨q1, q2, q3⟩ := H2.out
        replace q1 := own_below q1 hb3
        replace q2 := q2.below hb3 q2.lt
        replace q3 := q3.trans (hb3.mono q3.size)
        have htk := Lib.hid (cells8_snoc (bytesOf [a, b, c, d, e]) j y hy)
        have hR : Reads (w2.alloc (.cells #[.int .u8 y] 5)) (w2.alloc (.cells #[.int .u8 y] 5)).heap.size 1 (some ⟨w2.heap.size, 0, none⟩) 1 [.int .u8 (y : Int)] := blk_reads (off := 0) (Blk.new w2 5 #[.int .u8 y]) rfl (fun j u h => by simpa using h)
        have q1' := own_below q1 ((Below.refl _ w2).alloc (Nat.le_refl _) (.cells #[.int .u8 y] 5))
        have q2' := q2.alloc (.cells #[.int .u8 y] 5)
        have q3' := q3.alloc q3.size (.cells #[.int .u8 y] 5)
        have H3 := Lib.hid (And.intro q1' (And.intro q2' q3'))
        have hsz : w.heap.size ≤ (w2.alloc (.cells #[.int .u8 y] 5)).heap.size := q3'.size
        have hkl := q2.lt
        clear q1 q2 q3 q2' q3' hb3 hrd hy
        go_wp2_with (at_builtin; go_must (refine wpList_append_any _ rfl (.tmp 20) (.tmp 24) _ rfl (w.heap.size + 1) 5 i0 _ 1 1 Tryz.underlying140 hi0 hz0 hz1 hz2 rfl (by omega) (.slice A3 j c3) j _ rfl q1' _ (some ⟨w2.heap.size, 0, none⟩) 1 1 _ rfl hR (by intro u hu; rw [List.mem_singleton.1 hu]; rfl) (by simp only [maxLen]; omega) (by omega) (by simp; omega) ?_); intro v' w3 hown' hgrow _; obtain ⟨A4, c4, rfl⟩ := own_form hown')
        obtain ⟨r1, r2, r3⟩ := H3.out
        have hb4 : Below w.heap.size w w3 := r3.grown hgrow hsz (fun k h => by have := (r1.lt k h).1; omega)
        have hk4 := r2.grown hgrow (fun h => by have := (r1.lt _ h.symm).1; omega)
        rw [← htk.out] at hown'
        clear r1 r2 r3 hgrow hR q1' hsz
        go_roundw
        case rel => exact ⟨j + 1, by omega, by go_num, hown', hb4, hk4⟩
        case measure => simp [intOf]; omega
      · obtain rfl : j = N := by omega
        obtain ⟨A3, c3, rfl⟩ := own_form hown
        have hcv : (convert 140 9 (.slice A3 j c3)).run Tryz.prog wo = .ok (.string (rdStr [a, b, c, d, e] j)) wo := conv_reads c3 (Reads.of_own hown)
        clear hown
        obtain ⟨S, hS⟩ : ∃ S, rdStr [a, b, c, d, e] j = S := ⟨_, rfl⟩
        rw [hS] at hcv Key
        have HS := Lib.hid hS
        have hRt := rNameR_any S
        clear hS
        cases hok : nameOk S
        · have h0 : rdOk [a, b, c, d, e] j = false := by rw [Key.out, hok]; rfl
          have e1 := Lib.hid (And.intro (read_refused [a, b, c, d, e] j h0).1 h0)
          rw [hok] at hRt
          have HR := Lib.hid hRt
          clear hok h0 hRt
          go_wp2_with fail
          go_quiet ((go_at_call 82; exact Calls.quiet_of_same ((HR.out _).mono (fun _ _ h => ⟨h.1, h.2.symm⟩))))
          go_wp2
          go_ret2
          exact ⟨by rw [e1.out.1, e1.out.2]; rfl, ⟨hb.os, hb.tape, hb.output, hb.size, hb.block⟩⟩
        · obtain ⟨a', b', c', d', e', hlw⟩ := five (lw S) (lw_len S)
          have hW := rNameW_any S hok a' b' c' d' e' hlw
          have heq : ∀ W : World, (Op.equalIn 10000 100 (.agg #[.int .u64 a', .int .u64 b', .int .u64 c', .int .u64 d', .int .u64 e']) (.agg #[.int .u64 a, .int .u64 b, .int .u64 c, .int .u64 d, .int .u64 e])).run Tryz.prog W = .ok (decide ([(a' : Int), b', c', d', e'] = [(a : Int), b, c, d, e])) W :=
            fun W => eq_ints .u64 9998 5 Tryz.underlying100 (by kernel_rfl) Tryz.underlying22 (by kernel_rfl) (by kernel_rfl) [(a' : Int), b', c', d', e'] [(a : Int), b, c, d, e] rfl rfl W
          have hsame : decide ([(a' : Int), b', c', d', e'] = [(a : Int), b, c, d, e]) = decide (lw S = [a, b, c, d, e]) := by
            rw [hlw]
            exact decide_eq_decide.2 (by simp only [List.cons.injEq, and_true, Int.natCast_inj])
          rw [hok] at hRt
          have HR := Lib.hid hRt
          have HW := Lib.hid hW
          cases hd : decide (lw S = [a, b, c, d, e])
          · have h0 : rdOk [a, b, c, d, e] j = false := by rw [Key.out, hok, hd]; rfl
            have e1 := Lib.hid (And.intro (read_refused [a, b, c, d, e] j h0).1 h0)
            rw [hsame, hd] at heq
            clear hok h0 hRt hW hlw hsame hd
            go_wp2_with fail
            have hS : ∀ w', Below wo.heap.size wo w' → w'.cell? ⟨w.heap.size, 0, none⟩ = some (.int .u64 a) ∧ w'.cell? ⟨w.heap.size, 1, none⟩ = some (.int .u64 b) ∧ w'.cell? ⟨w.heap.size, 2, none⟩ = some (.int .u64 c) ∧ w'.cell? ⟨w.heap.size, 3, none⟩ = some (.int .u64 d) ∧ w'.cell? ⟨w.heap.size, 4, none⟩ = some (.int .u64 e) := fun w' hq => ⟨((hk.below hq hk.lt).cell 0).trans rfl, ((hk.below hq hk.lt).cell 1).trans rfl, ((hk.below hq hk.lt).cell 2).trans rfl, ((hk.below hq hk.lt).cell 3).trans rfl, ((hk.below hq hk.lt).cell 4).trans rfl⟩
            have hq : Below wo.heap.size wo wo.drew := (Below.refl _ wo).drew
            have HB := Lib.hid hb
            clear hk hb
            have HS := Lib.hid hS
            clear hS
            have hS0 := HS.out _ hq
            go_region_held3 (fun w' => w'.cell? ⟨w.heap.size, 0, none⟩ = some (.int .u64 a) ∧ w'.cell? ⟨w.heap.size, 1, none⟩ = some (.int .u64 b) ∧ w'.cell? ⟨w.heap.size, 2, none⟩ = some (.int .u64 c) ∧ w'.cell? ⟨w.heap.size, 3, none⟩ = some (.int .u64 d) ∧ w'.cell? ⟨w.heap.size, 4, none⟩ = some (.int .u64 e))
              (first | exact hS0 | exact HS.out _ hq | go_keep)
              (first
                | (go_at_call 82; ((with_reducible refine (HR.out _).mono ?_); rintro e w9 ⟨rfl, rfl⟩))
                | (go_at_call 83; ((with_reducible refine (HW.out _).mono ?_); rintro e w9 ⟨rfl, hb⟩); replace hq := hq.trans (hb.mono hq.size); clear hb; have hS0 := HS.out _ hq))
            all_goals
              go_wp2
              go_ret2
              exact ⟨by rw [e1.out.1, e1.out.2]; rfl, HB.out.trans (hq.mono HB.out.size)⟩
          · have h0 : rdOk [a, b, c, d, e] j = true := by rw [Key.out, hok, hd]; rfl
            have h1 : rdS [a, b, c, d, e] j = S := by rw [(read_ok [a, b, c, d, e] j h0).1, Int.toNat_natCast, HS.out]
            have e1 := Lib.hid (And.intro h1 h0)
            rw [hsame, hd] at heq
            clear hok h0 h1 hRt hW hlw hsame hd HS
            go_wp2_with fail
            have hS : ∀ w', Below wo.heap.size wo w' → w'.cell? ⟨w.heap.size, 0, none⟩ = some (.int .u64 a) ∧ w'.cell? ⟨w.heap.size, 1, none⟩ = some (.int .u64 b) ∧ w'.cell? ⟨w.heap.size, 2, none⟩ = some (.int .u64 c) ∧ w'.cell? ⟨w.heap.size, 3, none⟩ = some (.int .u64 d) ∧ w'.cell? ⟨w.heap.size, 4, none⟩ = some (.int .u64 e) := fun w' hq => ⟨((hk.below hq hk.lt).cell 0).trans rfl, ((hk.below hq hk.lt).cell 1).trans rfl, ((hk.below hq hk.lt).cell 2).trans rfl, ((hk.below hq hk.lt).cell 3).trans rfl, ((hk.below hq hk.lt).cell 4).trans rfl⟩
            have hq : Below wo.heap.size wo wo.drew := (Below.refl _ wo).drew
            have HB := Lib.hid hb
            clear hk hb
            have HS := Lib.hid hS
            clear hS
            have hS0 := HS.out _ hq
            go_region_held3 (fun w' => w'.cell? ⟨w.heap.size, 0, none⟩ = some (.int .u64 a) ∧ w'.cell? ⟨w.heap.size, 1, none⟩ = some (.int .u64 b) ∧ w'.cell? ⟨w.heap.size, 2, none⟩ = some (.int .u64 c) ∧ w'.cell? ⟨w.heap.size, 3, none⟩ = some (.int .u64 d) ∧ w'.cell? ⟨w.heap.size, 4, none⟩ = some (.int .u64 e))
              (first | exact hS0 | exact HS.out _ hq | go_keep)
              (first
                | (go_at_call 82; ((with_reducible refine (HR.out _).mono ?_); rintro e w9 ⟨rfl, rfl⟩))
                | (go_at_call 83; ((with_reducible refine (HW.out _).mono ?_); rintro e w9 ⟨rfl, hb⟩); replace hq := hq.trans (hb.mono hq.size); clear hb; have hS0 := HS.out _ hq))
            all_goals
              go_wp2
              go_ret2
              exact ⟨by rw [e1.out.1, e1.out.2]; rfl, HB.out.trans (hq.mono HB.out.size)⟩

set_option maxHeartbeats 400000 in
theorem rsmall_any (x : Nat) (w : World) : Calls Tryz.prog 26 #[.int .u64 x] w fun e w' => e = .returned (.int .i64 (smallI x)) ∧ w = w' := by
  by_cases h : x < 1048576
  · have e : Hid (smallI x = (x : Int)) := Lib.hid (by unfold smallI; rw [if_pos h])
    have h2 : ¬ (1048576 : Int) ≤ x := by omega
    have h3 : IntKind.i64.wrap (x : Int) = x := by rw [IntKind.wrap_i64]; omega
    clear h
    go_enter Tryz.func26, Tryz.ntmps26
    go_wp2
    go_ret
    exact ⟨by rw [e.out]; rfl, rfl⟩
  · have e : Hid (smallI x = -1) := Lib.hid (by unfold smallI; rw [if_neg h])
    have h2 : (1048576 : Int) ≤ x := by omega
    clear h
    go_enter Tryz.func26, Tryz.ntmps26
    go_wp2
    go_ret
    exact ⟨by rw [e.out]; rfl, rfl⟩
/-- Are words nought? -/
def zer (n : Nat) : Bool := (n : Int) == 0
theorem zall_take {xs : List Nat} {k : Nat} {x : Nat} (hx : xs[k]? = some x) (h : (xs.take k).all zer = true) (h1 : zer x = true) : (xs.take (k + 1)).all zer = true := by
  rw [List.take_add_one, hx, List.all_append, h]
  simp [h1]
theorem zall_not {xs : List Nat} {k : Nat} {x : Nat} (hx : xs[k]? = some x) (h1 : zer x = false) : xs.all zer = false := by
  rw [List.all_eq_false]
  exact ⟨x, List.mem_of_getElem? hx, by simp [h1]⟩
/-- Are the words from the third one on nought? -/
def nouB (c d e f g h : Nat) : Bool := [c, d, e, f, g, h].all zer
set_option maxHeartbeats 2000000 in
theorem nou_any (a b c d e f g h : Nat) (w : World) : Calls Tryz.prog 30 #[.agg (ln8 a b c d e f g h), .int .i64 2] w fun r w' => r = .returned (.bool (nouB c d e f g h)) ∧ Below w.heap.size w w' := by
  show Calls Tryz.prog 30 #[.agg #[.int .u64 a, .int .u64 b, .int .u64 c, .int .u64 d, .int .u64 e, .int .u64 f, .int .u64 g, .int .u64 h], .int .i64 2] w _
  have hx := Blk.new w 23 #[.int .u64 a, .int .u64 b, .int .u64 c, .int .u64 d, .int .u64 e, .int .u64 f, .int .u64 g, .int .u64 h]
  have hB := (Below.refl _ w).alloc (Nat.le_refl _) (.cells #[.int .u64 a, .int .u64 b, .int .u64 c, .int .u64 d, .int .u64 e, .int .u64 f, .int .u64 g, .int .u64 h] 23)
  go_enter Tryz.func30, Tryz.ntmps30
  go_wp2
  go_loop [5] (fun i => ∃ k : Nat, k ≤ 6 ∧ i = .int .i64 ((k + 2 : Nat) : Int) ∧ ([c, d, e, f, g, h].take k).all zer = true) (fun i => 8 - (intOf i).toNat)
  case atStart => exact ⟨0, by omega, rfl, rfl⟩
  case round =>
    obtain ⟨k, hk, rfl, hal⟩ := hrel
    by_cases hlt : k < 6
    · have hor : k = 0 ∨ k = 1 ∨ k = 2 ∨ k = 3 ∨ k = 4 ∨ k = 5 := by omega
      clear hk hlt
      rcases hor with rfl | rfl | rfl | rfl | rfl | rfl
      · have kx := hx.cell 2
        simp at kx
        cases hv : zer c
        · have hf : Hid (nouB c d e f g h = false) := Lib.hid (zall_not (xs := [c, d, e, f, g, h]) (k := 0) (x := c) rfl hv)
          have hv2 : ((c : Int) != 0) = true := by simp only [bne, zer] at hv ⊢; rw [hv]; rfl
          clear hv hal
          go_wp2
          go_ret
          exact ⟨by rw [hf.out]; rfl, hB⟩
        · have hf := Lib.hid (zall_take (k := 0) (x := c) rfl hal hv)
          have hv2 : ((c : Int) != 0) = false := by simp only [bne, zer] at hv ⊢; rw [hv]; rfl
          clear hv hal
          go_wp2
          go_round
          case rel => exact ⟨1, by omega, by simp, hf.out⟩
          case measure => simp [intOf]
      · have kx := hx.cell 3
        simp at kx
        cases hv : zer d
        · have hf : Hid (nouB c d e f g h = false) := Lib.hid (zall_not (xs := [c, d, e, f, g, h]) (k := 1) (x := d) rfl hv)
          have hv2 : ((d : Int) != 0) = true := by simp only [bne, zer] at hv ⊢; rw [hv]; rfl
          clear hv hal
          go_wp2
          go_ret
          exact ⟨by rw [hf.out]; rfl, hB⟩
        · have hf := Lib.hid (zall_take (k := 1) (x := d) rfl hal hv)
          have hv2 : ((d : Int) != 0) = false := by simp only [bne, zer] at hv ⊢; rw [hv]; rfl
          clear hv hal
          go_wp2
          go_round
          case rel => exact ⟨2, by omega, by simp, hf.out⟩
          case measure => simp [intOf]
      · have kx := hx.cell 4
        simp at kx
        cases hv : zer e
        · have hf : Hid (nouB c d e f g h = false) := Lib.hid (zall_not (xs := [c, d, e, f, g, h]) (k := 2) (x := e) rfl hv)
          have hv2 : ((e : Int) != 0) = true := by simp only [bne, zer] at hv ⊢; rw [hv]; rfl
          clear hv hal
          go_wp2
          go_ret
          exact ⟨by rw [hf.out]; rfl, hB⟩
        · have hf := Lib.hid (zall_take (k := 2) (x := e) rfl hal hv)
          have hv2 : ((e : Int) != 0) = false := by simp only [bne, zer] at hv ⊢; rw [hv]; rfl
          clear hv hal
          go_wp2
          go_round
          case rel => exact ⟨3, by omega, by simp, hf.out⟩
          case measure => simp [intOf]
      · have kx := hx.cell 5
        simp at kx
        cases hv : zer f
        · have hf : Hid (nouB c d e f g h = false) := Lib.hid (zall_not (xs := [c, d, e, f, g, h]) (k := 3) (x := f) rfl hv)
          have hv2 : ((f : Int) != 0) = true := by simp only [bne, zer] at hv ⊢; rw [hv]; rfl
          clear hv hal
          go_wp2
          go_ret
          exact ⟨by rw [hf.out]; rfl, hB⟩
        · have hf := Lib.hid (zall_take (k := 3) (x := f) rfl hal hv)
          have hv2 : ((f : Int) != 0) = false := by simp only [bne, zer] at hv ⊢; rw [hv]; rfl
          clear hv hal
          go_wp2
          go_round
          case rel => exact ⟨4, by omega, by simp, hf.out⟩
          case measure => simp [intOf]
      · have kx := hx.cell 6
        simp at kx
        cases hv : zer g
        · have hf : Hid (nouB c d e f g h = false) := Lib.hid (zall_not (xs := [c, d, e, f, g, h]) (k := 4) (x := g) rfl hv)
          have hv2 : ((g : Int) != 0) = true := by simp only [bne, zer] at hv ⊢; rw [hv]; rfl
          clear hv hal
          go_wp2
          go_ret
          exact ⟨by rw [hf.out]; rfl, hB⟩
        · have hf := Lib.hid (zall_take (k := 4) (x := g) rfl hal hv)
          have hv2 : ((g : Int) != 0) = false := by simp only [bne, zer] at hv ⊢; rw [hv]; rfl
          clear hv hal
          go_wp2
          go_round
          case rel => exact ⟨5, by omega, by simp, hf.out⟩
          case measure => simp [intOf]
      · have kx := hx.cell 7
        simp at kx
        cases hv : zer h
        · have hf : Hid (nouB c d e f g h = false) := Lib.hid (zall_not (xs := [c, d, e, f, g, h]) (k := 5) (x := h) rfl hv)
          have hv2 : ((h : Int) != 0) = true := by simp only [bne, zer] at hv ⊢; rw [hv]; rfl
          clear hv hal
          go_wp2
          go_ret
          exact ⟨by rw [hf.out]; rfl, hB⟩
        · have hf := Lib.hid (zall_take (k := 5) (x := h) rfl hal hv)
          have hv2 : ((h : Int) != 0) = false := by simp only [bne, zer] at hv ⊢; rw [hv]; rfl
          clear hv hal
          go_wp2
          go_round
          case rel => exact ⟨6, by omega, by simp, hf.out⟩
          case measure => simp [intOf]
    · obtain rfl : k = 6 := by omega
      have hf : Hid (nouB c d e f g h = true) := Lib.hid hal
      clear hal
      go_wp2
      go_ret
      exact ⟨by rw [hf.out]; rfl, hB⟩
/-- What is read, told so. -/
theorem got_any (is : Bool) (e : Int) (he : e = if is then 0 else 180) (w : World) : Calls Tryz.prog 14 #[.bool true, .int .i64 e, .bool is] w fun r w' => r = .returned (.bool true) ∧ w = w' := by
  subst he
  cases is
  · go_enter Tryz.func14, Tryz.ntmps14
    go_wp2_with (go_at_call 35; refine (num_any _ _).mono ?_; rintro e w' ⟨rfl, rfl⟩)
    go_ret
    exact ⟨rfl, rfl⟩
  · go_enter Tryz.func14, Tryz.ntmps14
    go_wp2_with (go_at_call 35; refine (num_any _ _).mono ?_; rintro e w' ⟨rfl, rfl⟩)
    go_ret
    exact ⟨rfl, rfl⟩
end Go.Proofs.YtdgnbmcckknfiaaGreat
