/- The walk of the law PlaceHolds. Conditions: a number of 64 bits. -/
import Derived.Deep.RegionHeld3
import Derived.Test.YtfafpgboheaajaaPlaceV
import Derived.Test.YtfafpgboheaajaaPlaceZ
namespace Go.Proofs.Ytfafpgboheaajaa
open Go.RowKit

theorem at_addr (a b : Int) (h : inPlace a b = true) : atPlace (8 * a + b) = (a, b) ∧ atErr (8 * a + b) = 0 := by
  obtain ⟨h1, h2, h3, h4⟩ := (inPlace_iff a b).1 h
  unfold atPlace atErr
  rw [if_pos (by omega), if_pos (by omega)]
  refine ⟨?_, rfl⟩
  rw [show (8 * a + b) / 8 = a from by omega, show (8 * a + b) % 8 = b from by omega]
theorem move_to (a b c d : Int) (h : inPlace a b = true) (h' : inPlace c d = true) : moveErr a b (8 * c + d - (8 * a + b)) = 0 ∧ movePlace a b (8 * c + d - (8 * a + b)) = (c, d) := by
  obtain ⟨h1, h2, h3, h4⟩ := (inPlace_iff c d).1 h'
  obtain ⟨e1, e2⟩ := move_is a b (8 * c + d - (8 * a + b)) h (by omega) (by omega)
  refine ⟨e1, ?_⟩
  rw [e2, show 8 * a + b + (8 * c + d - (8 * a + b)) = 8 * c + d from by omega, show (8 * c + d) / 8 = c from by omega, show (8 * c + d) % 8 = d from by omega]
theorem dist_to (a b c d : Int) (h : inPlace a b = true) (h' : inPlace c d = true) : distOf a b c d = 8 * c + d - (8 * a + b) ∧ distErr a b c d = 0 := by
  unfold distOf distErr
  rw [h, h']
  simp
  omega
theorem lns_last (a b : Int) : ∀ k, 0 < k → (lns a b k).getLast? = some (lineAt a b (k - 1))
  | 0, h => absurd h (by omega)
  | k + 1, _ => by
    show (if (lns a b k).getLast? = some (lineAt a b k) then lns a b k else lns a b k ++ [lineAt a b k]).getLast? = _
    split
    · next h => rw [h]; rfl
    · rw [List.getLast?_append]; rfl
theorem lns_count (a b : Int) (k : Nat) : (lns a b (k + 1)).length = (lns a b k).length + if k = 0 ∨ lineAt a b k ≠ lineAt a b (k - 1) then 1 else 0 := by
  show (if (lns a b k).getLast? = some (lineAt a b k) then lns a b k else lns a b k ++ [lineAt a b k]).length = _
  by_cases h0 : k = 0
  · subst h0
    rfl
  · rw [lns_last a b k (by omega)]
    by_cases h1 : lineAt a b k = lineAt a b (k - 1)
    · rw [if_pos (by rw [h1]), if_neg (by simp [h0, h1])]
      rfl
    · rw [if_neg (by simpa using fun e => h1 e.symm), if_pos (.inr h1)]
      simp
theorem run_place (a b m : Int) (j : Nat) (h : j < runN a b m) : inPlace (runAt a b j).1 (runAt a b j).2 = true ∧ 8 * (runAt a b j).1 + (runAt a b j).2 = 8 * a + b + j := by
  unfold runN at h
  cases hin : inPlace a b
  · rw [hin] at h
    simp at h
  · rw [hin, if_pos rfl] at h
    obtain ⟨h1, h2, h3, h4⟩ := (inPlace_iff a b).1 hin
    unfold runAt
    refine ⟨(inPlace_iff _ _).2 (by omega), by omega⟩

set_option maxRecDepth 100000 in
set_option maxHeartbeats 4000000 in
theorem placeHolds_any (a b c d m : Int) (w : World) (hm0 : (Lit.int .i64 m).wf = true) :
    Calls Try.prog 6 #[.agg #[.int .i64 a, .int .i64 b], .agg #[.int .i64 c, .int .i64 d], .int .i64 m] w fun e w' => e = .returned (.bool true) ∧ Below w.heap.size w w' := by
  have hm : -9223372036854775808 ≤ m ∧ m ≤ 9223372036854775807 := by
    simp [Lit.wf, IntKind.min, IntKind.max, IntKind.signed, IntKind.bits] at hm0
    omega
  clear hm0
  have hp := (Blk.new w 23 #[.int .i64 a, .int .i64 b]).alloc (.cells #[.int .i64 c, .int .i64 d] 23)
  have hq := Blk.new (w.alloc (.cells #[.int .i64 a, .int .i64 b] 23)) 23 #[.int .i64 c, .int .i64 d]
  simp only [World.size_alloc] at hq
  have B0 : Below w.heap.size w ((w.alloc (.cells #[.int .i64 a, .int .i64 b] 23)).alloc (.cells #[.int .i64 c, .int .i64 d] 23)) := ((Below.refl _ w).alloc (Nat.le_refl _) _).alloc (by simp) _
  go_enter Try.func6, Try.ntmps6
  go_wp2_with fail
  refine (rright_any a b _).mono ?_
  rintro e w1 ⟨rfl, hb⟩
  replace hp := hp.below hb hp.lt
  replace hq := hq.below hb hq.lt
  have B1 := B0.trans (hb.mono B0.size)
  clear hb B0
  cases hin : inPlace a b
  · clear hin
    go_wp2_with (go_at_call 12; refine (num_any _ _).mono ?_; rintro e w' ⟨rfl, rfl⟩)
    refine (works_any _).mono ?_
    rintro e w9 ⟨rfl, hb⟩
    go_wp2
    go_ret
    exact ⟨rfl, B1.trans (hb.mono B1.size)⟩
  · have ka := hq.cell 0
    have kb := hq.cell 1
    simp at ka kb
    go_wp2_with fail
    refine (rright_any c d _).mono ?_
    rintro e w2 ⟨rfl, hb⟩
    replace hp := hp.below hb hp.lt
    replace hq := hq.below hb hq.lt
    have B2 := B1.trans (hb.mono B1.size)
    clear hb B1 ka kb
    cases hin2 : inPlace c d
    · clear hin hin2
      go_wp2_with (go_at_call 12; refine (num_any _ _).mono ?_; rintro e w' ⟨rfl, rfl⟩)
      refine (works_any _).mono ?_
      rintro e w9 ⟨rfl, hb⟩
      go_wp2
      go_ret
      exact ⟨rfl, B2.trans (hb.mono B2.size)⟩
    · by_cases hout : m < 0 ∨ 200 < m
      · have hor : m < 0 ∨ (¬ m < 0 ∧ 200 < m) := by omega
        clear hout hin hin2
        rcases hor with c1 | ⟨c1, c2⟩
        all_goals
          go_wp2_with (go_at_call 12; refine (num_any _ _).mono ?_; rintro e w' ⟨rfl, rfl⟩)
          refine (works_any _).mono ?_
          rintro e w9 ⟨rfl, hb⟩
          go_wp2
          go_ret
          exact ⟨rfl, B2.trans (hb.mono B2.size)⟩
      · have c1 : ¬ m < 0 := by omega
        have c2 : ¬ 200 < m := by omega
        have hm1 : 0 ≤ m := by omega
        have hm2 : m ≤ 200 := by omega
        obtain ⟨n0, hn0⟩ : ∃ n0, 8 * a + b = n0 := ⟨_, rfl⟩
        obtain ⟨D, hD⟩ : ∃ D, 8 * c + d - (8 * a + b) = D := ⟨_, rfl⟩
        have e1 : addrOf a b = n0 ∧ addrErr a b = 0 := by simp [addrOf, addrErr, hin, hn0]
        have e2 := at_addr a b hin
        have e3 := dist_to a b c d hin hin2
        have e4 := move_to a b c d hin hin2
        have e5 := move_to c d a b hin2 hin
        rw [hn0] at e2
        rw [hD] at e3 e4
        rw [show 8 * a + b - (8 * c + d) = -D from by omega] at e5
        obtain ⟨q1, q2, q3, q4⟩ := (inPlace_iff a b).1 hin
        obtain ⟨r1, r2, r3, r4⟩ := (inPlace_iff c d).1 hin2
        have hDD : -9000 ≤ D ∧ D ≤ 9000 := by omega
        have wD : (Lit.int .i64 D).wf = true := by
          simp [Lit.wf, IntKind.min, IntKind.max, IntKind.signed, IntKind.bits]
          omega
        have wD' : (Lit.int .i64 (-D)).wf = true := by
          simp [Lit.wf, IntKind.min, IntKind.max, IntKind.signed, IntKind.bits]
          omega
        have xD : IntKind.i64.wrap (-D) = -D := by rw [IntKind.wrap_i64]; omega
        have g0 : 0 ≤ n0 := by omega
        have g1 : n0 < 8192 := by omega
        have E1 := Lib.hid e1
        have E2 := Lib.hid e2
        have E3 := Lib.hid e3
        have E4 := Lib.hid e4
        have E5 := Lib.hid e5
        have Hin := Lib.hid hin
        have Hn0 := Lib.hid hn0
        have WD := Lib.hid wD
        have WD' := Lib.hid wD'
        have ka := hp.cell 0
        have kb := hp.cell 1
        simp at ka kb
        clear hout hin hin2 hn0 hD e1 e2 e3 e4 e5 q1 q2 q3 q4 r1 r2 r3 r4 wD wD'
        go_wp2_with fail
        refine (address_any a b _).mono ?_
        rintro e w3 ⟨rfl, hb⟩
        rw [E1.out.1, E1.out.2]
        replace hp := hp.below hb hp.lt
        replace hq := hq.below hb hq.lt
        have B3 := B2.trans (hb.mono B2.size)
        clear hb B2 ka kb
        go_wp2_with fail
        refine (at_any n0 _).mono ?_
        rintro e w4 ⟨rfl, hb⟩
        rw [E2.out.1, E2.out.2]
        replace hp := (hp.below hb hp.lt).alloc (.cells #[.int .i64 a, .int .i64 b] 23)
        replace hq := (hq.below hb hq.lt).alloc (.cells #[.int .i64 a, .int .i64 b] 23)
        have h9 := Blk.new w4 23 #[.int .i64 a, .int .i64 b]
        have B4' := B3.trans (hb.mono B3.size)
        have B4 := below_al B4' (.cells #[.int .i64 a, .int .i64 b] 23) B4'.size
        have ka := hp.cell 0
        have kb := hp.cell 1
        have kc := hq.cell 0
        have kd := hq.cell 1
        simp at ka kb kc kd
        clear hb B3 B4'
        go_wp2_with fail
        refine (distance_any a b c d _).mono ?_
        rintro e w5 ⟨rfl, hb⟩
        rw [E3.out.1, E3.out.2]
        replace hp := hp.below hb hp.lt
        replace hq := hq.below hb hq.lt
        replace h9 := h9.below hb h9.lt
        have B5 := B4.trans (hb.mono B4.size)
        replace ka := hp.cell 0
        replace kb := hp.cell 1
        simp at ka kb
        clear hb B4 kc kd
        go_wp2_with fail
        refine (move_any a b D _ WD.out).mono ?_
        rintro e w6 ⟨rfl, hb⟩
        rw [E4.out.1, E4.out.2]
        replace hp := (hp.below hb hp.lt).alloc (.cells #[.int .i64 c, .int .i64 d] 23)
        replace hq := (hq.below hb hq.lt).alloc (.cells #[.int .i64 c, .int .i64 d] 23)
        replace h9 := (h9.below hb h9.lt).alloc (.cells #[.int .i64 c, .int .i64 d] 23)
        have h13 := Blk.new w6 23 #[.int .i64 c, .int .i64 d]
        have B6' := B5.trans (hb.mono B5.size)
        have B6 := below_al B6' (.cells #[.int .i64 c, .int .i64 d] 23) B6'.size
        clear hb B5 B6' ka kb
        go_wp2_with fail
        refine (move_any c d (-D) _ WD'.out).mono ?_
        rintro e w7 ⟨rfl, hb⟩
        rw [E5.out.1, E5.out.2]
        replace hp := (hp.below hb hp.lt).alloc (.cells #[.int .i64 a, .int .i64 b] 23)
        replace hq := (hq.below hb hq.lt).alloc (.cells #[.int .i64 a, .int .i64 b] 23)
        replace h9 := (h9.below hb h9.lt).alloc (.cells #[.int .i64 a, .int .i64 b] 23)
        replace h13 := (h13.below hb h13.lt).alloc (.cells #[.int .i64 a, .int .i64 b] 23)
        have B7' := B6.trans (hb.mono B6.size)
        have B7 := below_al B7' (.cells #[.int .i64 a, .int .i64 b] 23) B7'.size
        have ka := hp.cell 0
        have kb := hp.cell 1
        have kc := hq.cell 0
        have kd := hq.cell 1
        have ke := h9.cell 0
        have kf := h9.cell 1
        have kg := h13.cell 0
        have kh := h13.cell 1
        simp at ka kb kc kd ke kf kg kh
        clear hb B6 B7' xD
        go_wp2_with (go_at_call 12; refine (num_any _ _).mono ?_; rintro e w' ⟨rfl, rfl⟩)
        refine (lrun_any a b m 300 _ hm).mono ?_
        rintro e w8 ⟨v8, rfl, hr, hb⟩
        obtain ⟨N, hN⟩ : ∃ N, runN a b m = N := ⟨_, rfl⟩
        have hNm : N = min (8192 - n0).toNat m.toNat := by rw [← hN]; unfold runN; rw [Hin.out, if_pos rfl, Hn0.out]
        have e6 : lrunN a b m 300 = N := by unfold lrunN; rw [hN]; omega
        rw [e6] at hr
        obtain ⟨A8, cp8, rfl⟩ := own_form hr
        have hL := PReads.of_own hr
        replace hp := hp.below hb hp.lt
        have B8 := B7.trans (hb.mono B7.size)
        have HN := Lib.hid hN
        have HNm := Lib.hid hNm
        replace ka := hp.cell 0
        replace kb := hp.cell 1
        simp at ka kb
        clear hb B7 hq h9 h13 kc kd ke kf kg kh hr hN hNm e6
        go_wp2_with fail
        refine (plines_any a b m _ hm).mono ?_
        rintro e w9 ⟨v9, rfl, hr, hb⟩
        have hpl := plL_cases a b m
        obtain ⟨LL, hLL⟩ : ∃ LL, plL a b m = LL := ⟨_, rfl⟩
        obtain ⟨ee, hee⟩ : ∃ ee, plE a b m = ee := ⟨_, rfl⟩
        rw [hLL, hee, HN.out, Hn0.out] at hpl
        rw [hLL] at hr
        rw [hee]
        obtain ⟨A9, cp9, rfl⟩ := own_form hr
        replace hp := hp.below hb hp.lt
        replace hL := (hL.below hb).more hb.size
        have B9 := B8.trans (hb.mono B8.size)
        have hor : (ee = 4 ∧ (N : Int) < m) ∨ (ee = 0 ∧ (N : Int) = m ∧ LL = lns a b N) := by
          have := HNm.out
          rcases hpl with ⟨h1, _⟩ | ⟨_, _, h1, _, h2⟩ | ⟨_, _, h1, h2, h3⟩
          · rcases h1 with h1 | h1
            · rw [Hin.out] at h1; cases h1
            · omega
          · exact .inl ⟨h2, by omega⟩
          · exact .inr ⟨h3, by omega, h2⟩
        clear hb B8 hr hLL hee hpl ka kb
        rcases hor with ⟨rfl, hlt⟩ | ⟨rfl, hNe, hLL⟩
        · clear hp hL
          go_wp2_with (go_at_call 12; refine (num_any _ _).mono ?_; rintro e w' ⟨rfl, rfl⟩)
          refine (works_any _).mono ?_
          rintro e wz ⟨rfl, hb⟩
          go_wp2
          go_ret
          exact ⟨rfl, B9.trans (hb.mono B9.size)⟩
        · subst hLL
          have hN2 : N ≤ 200 := by omega
          have HNe := Lib.hid hNe
          have HLs := Lib.hid (lns_len a b N)
          clear hNe
          go_wp2_with (go_at_call 12; refine (num_any _ _).mono ?_; rintro e w' ⟨rfl, rfl⟩)
          go_loopw [20, 21] (fun t i wr => ∃ j : Nat, j ≤ N ∧ i = .int .i64 j ∧ t = .int .i64 ((lns a b j).length : Int) ∧ Below w9.heap.size w9 wr) (fun _ i _ => N - (intOf i).toNat)
          case atStart => exact ⟨0, Nat.zero_le _, rfl, rfl, Below.refl _ _⟩
          case round =>
            obtain ⟨j, hj, rfl, rfl, hbr⟩ := hrel
            obtain ⟨wo, rfl⟩ : ∃ wo : World, wo = wr := ⟨_, rfl⟩
            by_cases hlt : j < N
            · have hpr := hp.below hbr hp.lt
              have hLr := hL.below hbr
              obtain ⟨g, x, y, rfl, hgl, hx, cx, cy⟩ := PReads.at_ hLr hlt
              have hrp := run_place a b m j (by rw [HN.out]; exact hlt)
              have hxy : runAt a b j = (x, y) := by
                have : (pts a b N)[j]? = some (runAt a b j) := by simp [pts, hlt]
                rw [this] at hx
                injection hx
              rw [hxy] at hrp
              have hd := dist_to a b x y Hin.out hrp.1
              rw [show 8 * x + y - (8 * a + b) = (j : Int) from by have := hrp.2; omega] at hd
              have Hd := Lib.hid hd
              have hlx : lineAt a b j = x := by unfold lineAt; rw [hxy]
              have ka := hpr.cell 0
              have kb := hpr.cell 1
              simp at ka kb
              have hcnt := lns_count a b j
              rw [hlx] at hcnt
              have hll := lns_len a b j
              obtain ⟨l, hl⟩ : ∃ l, (lns a b j).length = l := ⟨_, rfl⟩
              rw [hl] at hcnt hll ⊢
              have Hl := Lib.hid hl
              have Hcnt := Lib.hid hcnt
              have hj0 : (0 : Int) ≤ (j : Int) := by omega
              have hgo : g < wo.heap.size := Nat.lt_of_lt_of_le hgl hbr.size
              have hj1 : (j : Int) < (N : Int) := by omega
              clear hxy hrp hd hlx hcnt hx hl
              go_wp2_with fail
              go_region_held3 (fun w' => w'.cell? ⟨w.heap.size, 0, none⟩ = some (.int .i64 a) ∧ w'.cell? ⟨w.heap.size, 1, none⟩ = some (.int .i64 b) ∧ w'.cell? ⟨g, j * 2, none⟩ = some (.int .i64 x) ∧ w'.cell? ⟨g, j * 2 + 1, none⟩ = some (.int .i64 y))
                (first | go_keep | exact ⟨ka, kb, cx, cy⟩)
                (first | (go_at_call 18; refine (distance_any a b x y _).mono ?_; rintro e wq ⟨rfl, hb2⟩; rw [Hd.out.1, Hd.out.2]; have hbq : Below wo.heap.size wo wq := (by first | exact hb2 | exact ((Below.refl _ wo).drew).trans (hb2.mono (Nat.le_refl _))); replace ka := (hpr.below hbq hpr.lt).cell 0; replace kb := (hpr.below hbq hpr.lt).cell 1; replace cx := (hbq.cell (p := ⟨g, j * 2, none⟩) hgo).trans cx; replace cy := (hbq.cell (p := ⟨g, j * 2 + 1, none⟩) hgo).trans cy; simp at ka kb))
              have hbr2 := hbr.trans (hbq.mono hbr.size)
              clear ka kb cy
              by_cases h0 : j = 0
              · have hn := Hcnt.out
                rw [if_pos (.inl h0)] at hn
                have Hn := Lib.hid hn
                have hz : ((j : Int) == 0) = true := by simp; omega
                clear hn h0
                go_wp2_with (go_at_call 12; refine (num_any _ _).mono ?_; rintro e w' ⟨rfl, rfl⟩)
                go_quiet (fail)
                go_wp2
                go_roundw
                case rel => exact ⟨j + 1, by omega, by go_num, by rw [Hn.out]; go_num, below_drewN hbr2 _⟩
                case measure => simp [intOf]; omega
              · obtain ⟨i, hi⟩ : ∃ i : Nat, j = i + 1 := ⟨j - 1, by omega⟩
                obtain ⟨g', x', y', hgg, _, hx', cx', _⟩ := PReads.at_ (hL.below hbr2) (show i < N by omega)
                have hgg' : g' = g := by injection hgg with hgg; injection hgg with hgg; exact hgg.symm
                subst hgg'
                have hlx' : lineAt a b (j - 1) = x' := by
                  have : (pts a b N)[i]? = some (runAt a b i) := by
                    have : i < N := by omega
                    simp [pts, this]
                  rw [this] at hx'
                  injection hx' with hx'
                  unfold lineAt
                  rw [show j - 1 = i from by omega, hx']
                have hn := Hcnt.out
                rw [hlx'] at hn
                have hz : ((j : Int) == 0) = false := by simp; omega
                have hi0 : (0 : Int) ≤ (i : Int) := by omega
                have hi1 : (i : Int) < (N : Int) := by omega
                have hw : IntKind.i64.wrap ((j : Int) - 1) = (i : Int) := by rw [IntKind.wrap_i64]; omega
                have hs : (j : Int) - 1 = (i : Int) := by omega
                by_cases he : x = x'
                · subst he
                  rw [if_neg (by simp [h0])] at hn
                  have Hn := Lib.hid hn
                  clear hn h0 hi hx' hlx' hgg
                  go_wp2_with (go_at_call 12; refine (num_any _ _).mono ?_; rintro e w' ⟨rfl, rfl⟩)
                  go_quiet (fail)
                  go_wp2
                  go_roundw
                  case rel => exact ⟨j + 1, by omega, by go_num, by rw [Hn.out]; go_num, below_drewN hbr2 _⟩
                  case measure => simp [intOf]; omega
                · rw [if_pos (.inr he)] at hn
                  have Hn := Lib.hid hn
                  have hne : (x != x') = true := by simpa using he
                  clear hn h0 hi hx' hlx' hgg he
                  go_wp2_with (go_at_call 12; refine (num_any _ _).mono ?_; rintro e w' ⟨rfl, rfl⟩)
                  go_quiet (fail)
                  go_wp2
                  go_roundw
                  case rel => exact ⟨j + 1, by omega, by go_num, by rw [Hn.out]; go_num, below_drewN hbr2 _⟩
                  case measure => simp [intOf]; omega
            · obtain rfl : j = N := by omega
              have B10 := B9.trans (hbr.mono B9.size)
              have hNe := HNe.out
              have hNb : ((j : Int) == m) = true := by simpa using hNe
              clear hNe hL hp hbr hlt
              go_wp2_with (go_at_call 12; refine (num_any _ _).mono ?_; rintro e w' ⟨rfl, rfl⟩)
              refine (works_any _).mono ?_
              rintro e wz ⟨rfl, hb⟩
              go_wp2
              go_ret
              exact ⟨rfl, B10.trans (hb.mono B10.size)⟩
end Go.Proofs.Ytfafpgboheaajaa
