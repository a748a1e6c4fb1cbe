/- The walk of label.Read. Conditions: words of 64 bits. -/
import Derived.Test.YtdgnbmcckknfiaaLabC
import Derived.Test.YtdgnbmcckknfiaaBytB
import Derived.Test.YtdgnbmcckknfiaaPlc
import Derived.Test.YtdgnbmcckknfiaaEqs
namespace Go.Proofs.Ytdgnbmcckknfiaa
open Go.RowKit
set_option linter.unusedSimpArgs false

/-- The string of so many bytes of words. -/
def rdStr (ws : List Nat) (n : Nat) : ByteArray := ⟨(((bytesOf ws).take n).map UInt8.ofNat).toArray⟩
/-- Are words a name's? -/
def rdOk (ws : List Nat) (n : Int) : Bool := (decide (1 ≤ n) && decide (n ≤ 40)) && (nameOk (rdStr ws n.toNat) && decide (lw (rdStr ws n.toNat) = ws))
def rdS (ws : List Nat) (n : Int) : ByteArray := if rdOk ws n then rdStr ws n.toNat else ⟨#[]⟩
def rdE (ws : List Nat) (n : Int) : Int := if rdOk ws n then 0 else 161

theorem bytesL_one (x : Nat) : bytesL [x] 8 = wbytes x 8 ∧ bytesE [x] 8 = 0 := by
  have h0 : bytesOf [x] = wbytes x 8 := by simp [bytesOf]
  have hl := wbytes_len x 8
  have h1 : bytesE [x] 8 = 0 := by
    unfold bytesE
    rw [if_neg (by omega), if_neg (by simp), if_neg (by simp), if_neg (by simp), if_neg]
    rw [h0, List.drop_of_length_le (by rw [hl]; simp)]
    simp [anyNz]
  refine ⟨?_, h1⟩
  unfold bytesL
  rw [if_pos h1, h0, List.take_of_length_le (by rw [hl]; simp)]
theorem u8_map (l : List Nat) (h : ∀ x ∈ l, x < 256) : (l.map UInt8.ofNat).map (fun b => (b.toNat : Int)) = l.map (fun (x : Nat) => (x : Int)) := by
  rw [List.map_map]
  apply List.map_congr_left
  intro x hx
  have := h x hx
  simp [UInt8.toNat_ofNat']
  omega
theorem sb_rdStr (ws : List Nat) (n : Nat) : sb (rdStr ws n) = (bytesOf ws).take n := by
  unfold sb rdStr
  simp only [List.map_map]
  conv => rhs; rw [← List.map_id ((bytesOf ws).take n)]
  apply List.map_congr_left
  intro x hx
  have := bytesOf_lt ws x (List.mem_of_mem_take hx)
  simp [UInt8.toNat_ofNat']
  omega

theorem read_refused (ws : List Nat) (n : Int) (h : rdOk ws n = false) : rdS ws n = ⟨#[]⟩ ∧ rdE ws n = 161 := by simp [rdS, rdE, h]
theorem read_ok (ws : List Nat) (n : Int) (h : rdOk ws n = true) : rdS ws n = rdStr ws n.toNat ∧ rdE ws n = 0 := by simp [rdS, rdE, h]

theorem ix5_0 (a b c d e : Value) (W : World) : (Instr.index 94 (.agg #[a, b, c, d, e]) (.int .i64 0)).run Try.prog W = .ok a W := by kernel_rfl
theorem ix5_1 (a b c d e : Value) (W : World) : (Instr.index 94 (.agg #[a, b, c, d, e]) (.int .i64 1)).run Try.prog W = .ok b W := by kernel_rfl
theorem ix5_2 (a b c d e : Value) (W : World) : (Instr.index 94 (.agg #[a, b, c, d, e]) (.int .i64 2)).run Try.prog W = .ok c W := by kernel_rfl
theorem ix5_3 (a b c d e : Value) (W : World) : (Instr.index 94 (.agg #[a, b, c, d, e]) (.int .i64 3)).run Try.prog W = .ok d W := by kernel_rfl
theorem ix5_4 (a b c d e : Value) (W : World) : (Instr.index 94 (.agg #[a, b, c, d, e]) (.int .i64 4)).run Try.prog W = .ok e W := by kernel_rfl
theorem ix5 (a b c d e : Nat) (j : Nat) (x : Nat) (hx : [a, b, c, d, e][j]? = some x) (W : World) :
    (Instr.index 94 (.agg #[.int .u64 a, .int .u64 b, .int .u64 c, .int .u64 d, .int .u64 e]) (.int .i64 (j : Int))).run Try.prog W = .ok (.int .u64 x) W := by
  have h5 : j < 5 := (List.getElem?_eq_some_iff.1 hx).1
  have hor : j = 0 ∨ j = 1 ∨ j = 2 ∨ j = 3 ∨ j = 4 := by omega
  clear h5
  rcases hor with rfl | rfl | rfl | rfl | rfl
  · obtain rfl : a = x := by simpa using hx
    exact ix5_0 _ _ _ _ _ W
  · obtain rfl : b = x := by simpa using hx
    exact ix5_1 _ _ _ _ _ W
  · obtain rfl : c = x := by simpa using hx
    exact ix5_2 _ _ _ _ _ W
  · obtain rfl : d = x := by simpa using hx
    exact ix5_3 _ _ _ _ _ W
  · obtain rfl : e = x := by simpa using hx
    exact ix5_4 _ _ _ _ _ W

set_option maxRecDepth 100000 in
set_option maxHeartbeats 4000000 in
theorem lread_any (a b c d e : Nat) (hx : ∀ x ∈ [a, b, c, d, e], x < 18446744073709551616) (n : Int) (w : World) :
    Calls Try.prog 57 #[.agg #[.int .u64 a, .int .u64 b, .int .u64 c, .int .u64 d, .int .u64 e], .int .i64 n] w fun r w' =>
      r = .returned (.tuple #[.string (rdS [a, b, c, d, e] n), .int .i64 (rdE [a, b, c, d, e] n)]) ∧ Below w.heap.size w w' := by
  have key : ∀ v : Bool, (decide (1 ≤ n) && decide (n ≤ 40)) = v → rdOk [a, b, c, d, e] n = (v && (nameOk (rdStr [a, b, c, d, e] n.toNat) && decide (lw (rdStr [a, b, c, d, e] n.toNat) = [a, b, c, d, e]))) := fun v h => by unfold rdOk; rw [h]
  have hB := ((Below.refl _ w).alloc (Nat.le_refl _) (.cells #[.int .u64 a, .int .u64 b, .int .u64 c, .int .u64 d, .int .u64 e] 94)).alloc (by simp) (.cells #[] 5)
  have hk := (Blk.new w 94 #[.int .u64 a, .int .u64 b, .int .u64 c, .int .u64 d, .int .u64 e]).alloc (.cells #[] 5)
  by_cases h1 : n < 1 ∨ 40 < n
  · have e1 := Lib.hid (read_refused [a, b, c, d, e] n (by rw [key false (by rcases h1 with h | h; exact (by rw [decide_eq_false (by omega)]; rfl); exact (by rw [decide_eq_false (show ¬ n ≤ 40 by omega), Bool.and_false]))]; rfl))
    clear key
    have hor : n < 1 ∨ (¬ n < 1 ∧ 40 < n) := by omega
    clear h1
    rcases hor with c1 | ⟨c1, c2⟩
    all_goals
      go_enter Try.func57, Try.ntmps57
      go_wp2_with fail
      refine wp_scope_goto 0 rfl fun J hJ => ?_
      go_wp2
      go_step3
      refine ⟨rfl, hJ _ _ ?_⟩
      go_wp2
      first | rw [Exit.noGoto_ret] | rw [Exit.jump_ret] | skip
      go_ret2
      exact ⟨by rw [e1.out.1, e1.out.2]; rfl, hB⟩
  · have c1 : ¬ n < 1 := by omega
    have c2 : ¬ 40 < n := by omega
    obtain ⟨N, hN⟩ : ∃ N : Nat, n = N := ⟨n.toNat, by omega⟩
    have Key := Lib.hid (key true (by rw [decide_eq_true (by omega), decide_eq_true (by omega)]; rfl))
    subst hN
    rw [Int.toNat_natCast] at Key
    have Hx := Lib.hid hx
    have Hk := Lib.hid (And.intro hk hB)
    have hown0 := Lib.hid (World.ownsRow_lit (base := w.heap.size + 1) (e := 5) (size := 1) (w.alloc (.cells #[.int .u64 a, .int .u64 b, .int .u64 c, .int .u64 d, .int .u64 e] 94)) #[] 0 (by simp) (by simp [maxLen]) rfl)
    obtain ⟨i0, hi0, hz0, hz1, hz2⟩ := info_parts info8
    clear key hx hk hB h1
    go_enter Try.func57, Try.ntmps57
    go_wp2_with fail
    refine wp_scope_goto 0 rfl fun J hJ => ?_
    go_wp2_with (refine row_load w.heap.size 94 _ Hk.out.1 94 _ rfl rfl rfl _ Try.underlying94 rfl (by kernel_rfl) ?_)
    go_loopw [6, 21] (fun t i wr => ∃ j : Nat, j ≤ 5 ∧ i = .int .i64 j ∧ wr.ownsRow (w.heap.size + 1) 5 1 t (8 * j) (cells8 (bytesOf ([a, b, c, d, e].take j))) ∧ Below w.heap.size w wr ∧ Blk wr w.heap.size 94 #[.int .u64 a, .int .u64 b, .int .u64 c, .int .u64 d, .int .u64 e]) (fun _ i _ => 5 - (intOf i).toNat)
    case atStart => exact ⟨0, by omega, rfl, by simpa [bytesOf, cells8] using hown0.out, Hk.out.2, Hk.out.1⟩
    case round =>
      obtain ⟨j, hj, rfl, hown, hb, hk⟩ := hrel
      obtain ⟨wo, rfl⟩ : ∃ wo : World, wo = wr := ⟨_, rfl⟩
      by_cases hlt : j < 5
      · obtain ⟨x, hxx⟩ : ∃ x, [a, b, c, d, e][j]? = some x := ⟨_, List.getElem?_eq_getElem (by simpa using hlt)⟩
        have hx64 : x < 18446744073709551616 := Hx.out x (List.mem_of_getElem? hxx)
        have htk := bytesOf_take [a, b, c, d, e] j x hxx
        have hix := ix5 a b c d e j x hxx
        obtain ⟨P, hP⟩ : ∃ P, bytesOf ([a, b, c, d, e].take j) = P := ⟨_, rfl⟩
        rw [hP] at hown htk
        have Htk := Lib.hid htk
        have hrd : Reads (wo.alloc (.cells #[.int .u64 x] 25)) (wo.alloc (.cells #[.int .u64 x] 25)).heap.size 1 (some ⟨wo.heap.size, 0, none⟩) 1 (cells64 [x]) := blk_reads (off := 0) (Blk.new wo 25 #[.int .u64 x]) rfl (fun j u h => by simpa [cells64] using h)
        obtain ⟨p, hp⟩ : ∃ p, 8 * j = p := ⟨_, rfl⟩
        have h8 : p ≤ 40 := by omega
        rw [hp] at hown
        have Hp := Lib.hid hp
        have hown2 := own_below hown ((Below.refl _ wo).alloc (Nat.le_refl _) (.cells #[.int .u64 x] 25))
        have hk2 := hk.alloc (.cells #[.int .u64 x] 25)
        have hb2 := hb.alloc hb.size (.cells #[.int .u64 x] 25)
        have H2 := Lib.hid (And.intro hown2 (And.intro hk2 hb2))
        obtain ⟨A3, c3, rfl⟩ := own_form hown
        clear hP htk hxx hp hown hown2 hk2 hb2 hk hb
        go_wp2_with fail
        refine (wbytes_any [x] 8 _ 1 1 _ hrd (by intro y hy; rw [List.mem_singleton.1 hy]; exact hx64) (by simp [maxLen]) (by decide)).mono ?_
        rintro r w2 ⟨A2, m, rfl, hR, hb3⟩
        rw [(bytesL_one x).1] at hR
        have hm : m = 8 := by have := hR.1; rw [cells8_len, wbytes_len] at this; omega
        subst hm
        obtain ⟨q1, q2, q3⟩ := H2.out
        replace q1 := own_below q1 hb3
        replace q2 := q2.below hb3 q2.lt
        replace q3 := q3.trans (hb3.mono q3.size)
        have H3 := Lib.hid (And.intro q1 (And.intro q2 q3))
        have hsz := q3.size
        have hkl := q2.lt
        clear q2 q3 hb3 hrd hix
        rw [(bytesL_one x).2]
        go_wp2_with (at_builtin; go_must (refine wpList_append_any w2 rfl (.tmp 30) (.tmp 31) _ rfl (w.heap.size + 1) 5 i0 _ 1 1 Try.underlying136 hi0 hz0 hz1 hz2 rfl (by omega) (.slice A3 p c3) p _ rfl q1 _ A2 8 8 _ rfl hR (by intro u hu; obtain ⟨y, _, rfl⟩ := List.mem_map.1 hu; rfl) (by simp only [maxLen]; omega) (by omega) (by omega) ?_); intro v' w3 hown' hgrow _; obtain ⟨A4, c4, rfl⟩ := own_form hown')
        obtain ⟨r1, r2, r3⟩ := H3.out
        have hb4 : Below w.heap.size w w3 := r3.grown hgrow hsz (fun k h => by have := (r1.lt k h).1; omega)
        have hk4 := r2.grown hgrow (fun h => by have := (r1.lt _ h.symm).1; omega)
        have hrow' : w3.ownsRow (w.heap.size + 1) 5 1 (.slice A4 (p + 8) c4) (8 * (j + 1)) (cells8 (bytesOf ([a, b, c, d, e].take (j + 1)))) := by
          rw [Htk.out, cells8_app, show 8 * (j + 1) = p + 8 by have := Hp.out; omega]
          exact hown'
        clear r1 r2 r3 hgrow q1 hown' hR
        go_roundw
        case rel => exact ⟨j + 1, by omega, by go_num, hrow', hb4, hk4⟩
        case measure => simp [intOf]; omega
      · obtain rfl : j = 5 := by omega
        obtain ⟨A3, c3, rfl⟩ := own_form hown
        obtain ⟨g, cap, hform, hg1, hg2⟩ := hown.form (by omega)
        injection hform with hA _ hcc
        subst hA hcc
        have hcap := own_cap hown
        have hN40 : N ≤ 40 := by omega
        have hlen : (((bytesOf [a, b, c, d, e]).take N).map UInt8.ofNat).length = N := by
          have := bytesOf_len [a, b, c, d, e]
          simp at this ⊢
          omega
        have hcv := run_convert_bytes_back (P := Try.prog) wo 136 9 5 ⟨g, 0, none⟩ c3 (((bytesOf [a, b, c, d, e]).take N).map UInt8.ofNat) Try.underlying136 Try.underlying5 Try.underlying9 (by
          intro i hi
          rw [hlen] at hi
          have hi2 : i < (bytesOf [a, b, c, d, e]).length := by have := bytesOf_len [a, b, c, d, e]; simp at this; omega
          have hlt := bytesOf_lt [a, b, c, d, e] _ (List.getElem_mem hi2)
          rw [add_off, Nat.zero_add, hown.cellAt i (by omega), show [a, b, c, d, e].take 5 = [a, b, c, d, e] from rfl]
          simp only [cells8, List.getElem?_map, List.getElem?_eq_getElem hi2, Option.map_some, List.getElem_map, List.getElem_take, UInt8.toNat_ofNat']
          rw [Nat.mod_eq_of_lt hlt])
        rw [hlen] at hcv
        change _ = Result.ok (Value.string (rdStr [a, b, c, d, e] N)) wo at hcv
        have hsl : ∀ W, (Instr.slice 136 (.slice (some ⟨g, 0, none⟩) 40 c3) none (some (.int .i64 (N : Int))) none).run Try.prog W = .ok (.slice (some ⟨g, 0, none⟩) N c3) W := fun W => by
          rw [run_slice_h W 136 _ _ c3 (by kernel_rfl) .i64 (N : Int) (by omega) (by omega), show (sizeOf (Try.prog.elem 136)).run Try.prog W = .ok 1 W from by kernel_rfl]
          simp [sliced, Addr.add]
        have Hf := Lib.hid (And.intro hb hk)
        clear hown hb hk hlen
        go_wp2_with fail
        obtain ⟨a', b', c', d', e', hlw⟩ := five (lw (rdStr [a, b, c, d, e] N)) (lw_len _)
        have hlw2 := Lib.hid hlw
        refine (lwords_any (rdStr [a, b, c, d, e] N) a' b' c' d' e' hlw _).mono ?_
        rintro r w2 ⟨rfl, hb2⟩
        obtain ⟨hb, hk⟩ := Hf.out
        replace hk := hk.below hb2 hk.lt
        replace hb := hb.trans (hb2.mono hb.size)
        clear hb2 hlw hcv hsl
        have n2 := Blk.new w2 94 #[.int .u64 0, .int .u64 0, .int .u64 0, .int .u64 0, .int .u64 0]
        have n3 := n2.setRow #[.int .u64 a', .int .u64 b', .int .u64 c', .int .u64 d', .int .u64 e']
        have hkl := hk.lt
        have k3 := (hk.alloc (.cells #[.int .u64 0, .int .u64 0, .int .u64 0, .int .u64 0, .int .u64 0] 94)).farRow (g' := w2.heap.size) (by omega) #[.int .u64 a', .int .u64 b', .int .u64 c', .int .u64 d', .int .u64 e']
        have hb3 := below_setRow (hb.alloc hb.size (.cells #[.int .u64 0, .int .u64 0, .int .u64 0, .int .u64 0, .int .u64 0] 94)) (g := w2.heap.size) hb.size #[.int .u64 a', .int .u64 b', .int .u64 c', .int .u64 d', .int .u64 e']
        have heq : ∀ W : World, (Op.equalIn 10000 94 (.agg #[.int .u64 a', .int .u64 b', .int .u64 c', .int .u64 d', .int .u64 e']) (.agg #[.int .u64 a, .int .u64 b, .int .u64 c, .int .u64 d, .int .u64 e])).run Try.prog W = .ok (decide ([(a' : Int), b', c', d', e'] = [(a : Int), b, c, d, e])) W :=
          fun W => eq_ints .u64 9998 5 Try.underlying94 (by kernel_rfl) Try.underlying25 (by kernel_rfl) (by kernel_rfl) [(a' : Int), b', c', d', e'] [(a : Int), b, c, d, e] rfl rfl W
        clear hk hb
        cases hok : nameOk (rdStr [a, b, c, d, e] N)
        · have hE : nameE (rdStr [a, b, c, d, e] N) = 160 := by simp [nameE, hok]
          have e1 := Lib.hid (read_refused [a, b, c, d, e] N (by rw [Key.out, hok]; rfl))
          clear hok heq
          rw [hE]
          go_wp2_with (refine row_store w2.heap.size 94 _ _ n2 94 _ _ rfl rfl rfl rfl (by kernel_rfl) rfl (by kernel_rfl) ?_)
          go_step3
          refine ⟨rfl, hJ _ _ ?_⟩
          go_wp2
          first | rw [Exit.noGoto_ret] | rw [Exit.jump_ret] | skip
          go_ret2
          exact ⟨by rw [e1.out.1, e1.out.2]; rfl, hb3⟩
        · have hE : nameE (rdStr [a, b, c, d, e] N) = 0 := by simp [nameE, hok]
          have hsame : decide ([(a' : Int), b', c', d', e'] = [(a : Int), b, c, d, e]) = decide (lw (rdStr [a, b, c, d, e] N) = [a, b, c, d, e]) := by
            rw [hlw2.out]
            exact decide_eq_decide.2 (by simp only [List.cons.injEq, and_true, Int.natCast_inj])
          rw [hE]
          cases hd : decide (lw (rdStr [a, b, c, d, e] N) = [a, b, c, d, e])
          · have e1 := Lib.hid (read_refused [a, b, c, d, e] N (by rw [Key.out, hok, hd]; rfl))
            rw [hsame, hd] at heq
            clear hok hd hsame hE
            go_wp2_with (first | (refine row_store w2.heap.size 94 _ _ n2 94 _ _ rfl rfl rfl rfl (by kernel_rfl) rfl (by kernel_rfl) ?_) | (refine row_load_w w2.heap.size 94 _ n3 94 _ rfl rfl rfl _ Try.underlying94 rfl (by kernel_rfl) ?_) | (refine row_load_w w.heap.size 94 _ k3 94 _ rfl rfl rfl _ Try.underlying94 rfl (by kernel_rfl) ?_))
            go_step3
            refine ⟨rfl, hJ _ _ ?_⟩
            go_wp2
            first | rw [Exit.noGoto_ret] | rw [Exit.jump_ret] | skip
            go_ret2
            exact ⟨by rw [e1.out.1, e1.out.2]; rfl, hb3⟩
          · have e1 := Lib.hid (read_ok [a, b, c, d, e] N (by rw [Key.out, hok, hd]; rfl))
            rw [hsame, hd] at heq
            clear hok hd hsame hE
            go_wp2_with (first | (refine row_store w2.heap.size 94 _ _ n2 94 _ _ rfl rfl rfl rfl (by kernel_rfl) rfl (by kernel_rfl) ?_) | (refine row_load_w w2.heap.size 94 _ n3 94 _ rfl rfl rfl _ Try.underlying94 rfl (by kernel_rfl) ?_) | (refine row_load_w w.heap.size 94 _ k3 94 _ rfl rfl rfl _ Try.underlying94 rfl (by kernel_rfl) ?_))
            first | rw [Exit.noGoto_ret] | rw [Exit.jump_ret] | skip
            go_ret2
            exact ⟨by rw [e1.out.1, e1.out.2]; rfl, hb3⟩
end Go.Proofs.Ytdgnbmcckknfiaa
