/- The walk of word.Bytes, whole. Conditions: words that read as a list; a number of 64 bits. -/
import Derived.Test.YtdgnbmcckknfiaaGreatBytA
namespace Go.Proofs.YtdgnbmcckknfiaaGreat
open Go.RowKit

theorem bytes_refused (l : List Nat) (n : Int) (e : Int) (he : bytesE l n = e) (h : e ≠ 0) : bytesL l n = [] ∧ bytesE l n = e := ⟨by unfold bytesL; rw [if_neg (by rw [he]; exact h)], he⟩
theorem slice_cut (A : Option Addr) (n c h : Nat) (hh : h ≤ c) (w : World) :
    (Instr.slice 140 (.slice A n c) none (some (.int .i64 (h : Int))) (some (.int .i64 (h : Int)))).run Tryz.prog w = .ok (.slice A h h) w := by
  rw [run_slice_hm w 140 A n c (by kernel_rfl) .i64 .i64 (h : Int) (h : Int) (by omega) (by omega) (by omega), show (sizeOf (Tryz.prog.elem 140)).run Tryz.prog w = .ok 1 w from by kernel_rfl]
  have : A.map (·.add 0) = A := by cases A <;> simp [Addr.add]
  simp [sliced, this]
theorem own_cap {w : World} {base : Nat} {e : TypeId} {size n c : Nat} {A : Option Addr} {xs : List Value} (h : w.ownsRow base e size (.slice A n c) n xs) : n ≤ c := by
  rcases h.2 with ⟨h1, h2⟩ | ⟨g, cap, cur, h1, _, _, h3, _⟩
  · omega
  · injection h1 with _ _ h1
    omega
theorem u64_at (xs : List Nat) {w : World} {B : Nat} {A : Option Addr} {n k : Nat} (h : Reads w B 1 A n (cells64 xs)) (hk : k < n) : ∃ ad x, A = some ad ∧ ad.block < B ∧ xs[k]? = some x ∧ w.cell? (ad.add k) = some (.int .u64 (x : Int)) := by
  obtain ⟨ad, u, e, hb, hx, hc⟩ := Reads.at_ h hk
  unfold cells64 at hx
  rw [List.getElem?_map] at hx
  cases h' : xs[k]? with
  | none => rw [h'] at hx; cases hx
  | some x =>
    rw [h'] at hx
    simp at hx
    exact ⟨ad, x, e, hb, rfl, by rw [hc, ← hx]⟩
theorem cells8_drop (l : List Nat) (k : Nat) : (cells8 l).drop k = cells8 (l.drop k) := by simp [cells8]
theorem cells8_take (l : List Nat) (k : Nat) : (cells8 l).take k = cells8 (l.take k) := by simp [cells8]

set_option maxRecDepth 100000 in
set_option maxHeartbeats 2000000 in
theorem wbytes_any (l : List Nat) (n : Int) (A : Option Addr) (q c : Nat) (w : World) (hr : Reads w w.heap.size 1 A q (cells64 l)) (hx : ∀ x ∈ l, x < 18446744073709551616) (hq : q ≤ maxLen) (hn0 : (Lit.int .i64 n).wf = true) :
    Calls Tryz.prog 92 #[.slice A q c, .int .i64 n] w fun e w' => ∃ A' m, e = .returned (.tuple #[.slice A' m m, .int .i64 (bytesE l n)]) ∧ Reads w' w'.heap.size 1 A' m (cells8 (bytesL l n)) ∧ Below w.heap.size w w' := by
  have hn : -9223372036854775808 ≤ n ∧ n ≤ 9223372036854775807 := by
    simp [Lit.wf, IntKind.min, IntKind.max, IntKind.signed, IntKind.bits] at hn0
    omega
  clear hn0
  have hl : l.length = q := by have := hr.1; rw [cells64_len] at this; omega
  unfold maxLen at hq
  have B0 := Below.refl w.heap.size w
  by_cases h1 : n < 0
  · have e1 := Lib.hid (bytes_refused l n 2 (by unfold bytesE; rw [if_pos h1]) (by omega))
    clear hl hx
    go_enter Tryz.func92, Tryz.ntmps92
    go_wp2_with fail
    refine wp_scope_goto 0 rfl fun J hJ => ?_
    go_wp2
    go_step3
    refine ⟨rfl, hJ _ _ ?_⟩
    go_wp2
    first | rw [Exit.noGoto_ret] | rw [Exit.jump_ret] | skip
    go_ret2
    exact ⟨none, 0, by rw [e1.out.2]; rfl, by rw [e1.out.1]; exact Reads.none_, B0⟩
  · by_cases h2 : 4096 < n ∨ 4096 < q
    · have e1 := Lib.hid (bytes_refused l n 3 (by unfold bytesE; rw [if_neg h1, hl, if_pos h2]) (by omega))
      have hor : 4096 < n ∨ (¬ 4096 < n ∧ 4096 < (q : Int)) := by omega
      clear h2 hl hx
      rcases hor with c1 | ⟨c1, c2⟩
      all_goals
        go_enter Tryz.func92, Tryz.ntmps92
        go_wp2_with fail
        refine wp_scope_goto 0 rfl fun J hJ => ?_
        go_wp2
        go_step3
        refine ⟨rfl, hJ _ _ ?_⟩
        go_wp2
        first | rw [Exit.noGoto_ret] | rw [Exit.jump_ret] | skip
        go_ret2
        exact ⟨none, 0, by rw [e1.out.2]; rfl, by rw [e1.out.1]; exact Reads.none_, B0⟩
    · have h2a : ¬ 4096 < n := by omega
      have h2b : ¬ 4096 < (q : Int) := by omega
      have w8 : IntKind.i64.wrap (8 * (q : Int)) = 8 * (q : Int) := by rw [IntKind.wrap_i64]; omega
      have w9 : IntKind.i64.wrap (n + 8) = n + 8 := by rw [IntKind.wrap_i64]; omega
      have w10 : IntKind.i64.wrap (n + 8 - 1) = n + 8 - 1 := by rw [IntKind.wrap_i64]; omega
      obtain ⟨N, hN⟩ : ∃ N : Nat, n = N := ⟨n.toNat, by omega⟩
      subst hN
      by_cases h3 : 8 * (q : Int) < (N : Int)
      · have e1 := Lib.hid (bytes_refused l N 4 (by unfold bytesE; rw [if_neg h1, hl, if_neg h2, if_pos h3]) (by omega))
        clear h2 hl hx
        go_enter Tryz.func92, Tryz.ntmps92
        go_wp2_with fail
        refine wp_scope_goto 0 rfl fun J hJ => ?_
        go_wp2
        go_step3
        refine ⟨rfl, hJ _ _ ?_⟩
        go_wp2
        first | rw [Exit.noGoto_ret] | rw [Exit.jump_ret] | skip
        go_ret2
        exact ⟨none, 0, by rw [e1.out.2]; rfl, by rw [e1.out.1]; exact Reads.none_, B0⟩
      · obtain ⟨d, hd⟩ : ∃ d, (N + 7) / 8 = d := ⟨_, rfl⟩
        have td : ((N : Int) + 8 - 1).tdiv 8 = (d : Int) := by rw [Int.tdiv_eq_ediv_of_nonneg (by omega)]; omega
        have td2 : ((N : Int) + 7).tdiv 8 = (d : Int) := by rw [Int.tdiv_eq_ediv_of_nonneg (by omega)]; omega
        have dd : ((N : Int) + 8 - 1) / 8 = (d : Int) := by omega
        have dd2 : ((N : Int) + 7) / 8 = (d : Int) := by omega
        have hd5 : d ≤ 600 := by omega
        have wd : IntKind.i64.wrap (d : Int) = (d : Int) := by rw [IntKind.wrap_i64]; omega
        by_cases h4 : q ≠ d
        · have e1 := Lib.hid (bytes_refused l N 110 (by unfold bytesE; rw [if_neg h1, hl, if_neg h2, if_neg h3, Int.toNat_natCast, hd, if_pos h4]) (by omega))
          have h4' : ((q : Int) != (d : Int)) = true := by simp; omega
          clear h2 hl hx hd h4
          go_enter Tryz.func92, Tryz.ntmps92
          go_wp2_with fail
          refine wp_scope_goto 0 rfl fun J hJ => ?_
          go_wp2
          go_step3
          refine ⟨rfl, hJ _ _ ?_⟩
          go_wp2
          first | rw [Exit.noGoto_ret] | rw [Exit.jump_ret] | skip
          go_ret2
          exact ⟨none, 0, by rw [e1.out.2]; rfl, by rw [e1.out.1]; exact Reads.none_, B0⟩
        · have hqd : q = d := by omega
          have h4' : ((q : Int) != (d : Int)) = false := by simp; omega
          have hNq : N ≤ 8 * q := by omega
          have he : bytesE l N = if anyNz ((bytesOf l).drop N) then 110 else 0 := by
            unfold bytesE
            rw [if_neg h1, hl, if_neg h2, if_neg h3, Int.toNat_natCast, hd, if_neg h4]
          have hfl : (bytesOf l).length = 8 * q := by rw [bytesOf_len, hl]
          have hlv : bytesL l N = if bytesE l N = 0 then (bytesOf l).take N else [] := by unfold bytesL; rw [Int.toNat_natCast]
          obtain ⟨i0, hi0, hz0, hz1, hz2⟩ := info_parts info8
          have He := Lib.hid he
          have Hfl := Lib.hid hfl
          have Hlv := Lib.hid hlv
          have Hl := Lib.hid hl
          have Hx := Lib.hid hx
          have Hd := Lib.hid hd
          have Hqd := Lib.hid hqd
          have q6 : q ≤ 600 := by omega
          clear h2 hl hx hd h4 he hfl hlv hqd
          go_enter Tryz.func92, Tryz.ntmps92
          go_wp2_with fail
          refine wp_scope_goto 0 rfl fun J hJ => ?_
          go_wp2
          go_loopw [4, 32] (fun t i wr => ∃ j : Nat, j ≤ q ∧ i = .int .i64 j ∧ wr.ownsRow w.heap.size 5 1 t (8 * j) (cells8 (bytesOf (l.take j))) ∧ Below w.heap.size w wr) (fun _ i _ => q - (intOf i).toNat)
          case atStart => exact ⟨0, Nat.zero_le _, rfl, by simpa [bytesOf, cells8] using World.ownsRow_nil _ _ _ _, B0⟩
          case round =>
            obtain ⟨j, hj, rfl, hown, hb⟩ := hrel
            obtain ⟨wo, rfl⟩ : ∃ wo : World, wo = wr := ⟨_, rfl⟩
            by_cases hlt : j < q
            · obtain ⟨ad, x, rfl, hbl, hxx, hc1⟩ := u64_at l (Reads.below hr hb) hlt
              have hx64 : x < 18446744073709551616 := Hx.out x (List.mem_of_getElem? hxx)
              have htk := bytesOf_take l j x hxx
              obtain ⟨P, hP⟩ : ∃ P, bytesOf (l.take j) = P := ⟨_, rfl⟩
              rw [hP] at hown htk
              have Htk := Lib.hid htk
              have h8j : 8 * j ≤ 4800 := by omega
              obtain ⟨p, hp⟩ : ∃ p, 8 * j = p := ⟨_, rfl⟩
              rw [hp] at hown h8j
              have Hp := Lib.hid hp
              have Hr := Lib.hid hr
              clear hP htk hxx hp hr
              go_wp2
              go_loopw [4, 36] (fun t i wr => ∃ k : Nat, k ≤ 8 ∧ i = .int .i64 k ∧ wr.ownsRow w.heap.size 5 1 t (p + k) (cells8 (P ++ wbytes x k)) ∧ Below w.heap.size w wr) (fun _ i _ => 8 - (intOf i).toNat)
              case atStart => exact ⟨0, by omega, rfl, by simpa [wbytes] using hown, hb⟩
              case round =>
                obtain ⟨k, hk, rfl, hrow, hbr⟩ := hrel
                obtain ⟨wi, rfl⟩ : ∃ wi : World, wi = wr := ⟨_, rfl⟩
                by_cases hk8 : k < 8
                · have hbz := Lib.hid (wbyte_Z x k)
                  have hsu := Lib.hid (wbytes_succ x k)
                  have hwb := wbyte_lt x k
                  have hrs := hbr.size
                  obtain ⟨y, hy⟩ : ∃ y, wbyte x k = y := ⟨_, rfl⟩
                  obtain ⟨A3, c3, rfl⟩ := own_form hrow
                  rw [hy] at hbz hsu hwb
                  have w11 : IntKind.i64.wrap (8 * (k : Int)) = 8 * (k : Int) := by rw [IntKind.wrap_i64]; omega
                  clear hy hown hb hc1
                  go_wp2_with (at_builtin; go_must (refine wpList_append_own _ rfl (.tmp 39) (.tmp 45) _ rfl w.heap.size 5 i0 _ 1 1 Tryz.underlying140 hi0 hz0 hz1 hz2 rfl (by omega) (.slice A3 (p + k) c3) (p + k) _ rfl (hrow.alloc _) ⟨wi.heap.size, 0, none⟩ 1 1 [.int .u8 _] rfl rfl (by exact cell_one_new _ _ _) (by simp [Value.oneCell']) (by simp only [maxLen]; omega) (by omega) (by simp; omega) ?_); intro v' w1 hown' hgrow _; obtain ⟨g', cap', rfl, hg1', hg2'⟩ := hown'.form (by omega))
                  have hb1 : Below w.heap.size w w1 := (hbr.alloc hrs _).grown hgrow (by simp; omega) (fun j h => (hrow.lt j h).1)
                  rw [hbz.out] at hown'
                  go_roundw
                  case rel => exact ⟨k + 1, by omega, by go_num, by rw [hsu.out, ← List.append_assoc, cells8_app]; exact hown', hb1⟩
                  case measure => simp [intOf]; omega
                · obtain rfl : k = 8 := by omega
                  have hp8 := Hp.out
                  have hrow' : wi.ownsRow w.heap.size 5 1 u4 (8 * (j + 1)) (cells8 (bytesOf (l.take (j + 1)))) := by
                    rw [Htk.out, show 8 * (j + 1) = p + 8 by omega]
                    exact hrow
                  have Hrow' := Lib.hid hrow'
                  clear hrow' hrow hown
                  go_wp2
                  go_roundw
                  case rel => exact ⟨j + 1, by omega, by go_num, Hrow'.out, hbr⟩
                  case measure => simp [intOf]; omega
            · obtain rfl : j = q := by omega
              rw [List.take_of_length_le (by have := Hl.out; omega)] at hown
              obtain ⟨A3, c3, rfl⟩ := own_form hown
              have hcap := own_cap hown
              have hR := Reads.of_own hown
              obtain ⟨A4, hsl, hsr⟩ := slice_from (P := Tryz.prog) (t := 140) (by kernel_rfl) (fun w => by kernel_rfl) A3 (8 * j) c3 N (by omega) hcap
              have hS := hsr _ _ _ hR
              rw [cells8_drop] at hS
              have hcut := fun W => slice_cut A3 (8 * j) c3 N (by omega) W
              have hF := Reads.front hR (k := N) (by omega)
              rw [cells8_take] at hF
              have HF := Lib.hid hF
              have HS := Lib.hid hS
              have Hb := Lib.hid hb
              clear hF hS hR hsr hown hb hr hlt
              go_wp2_with fail
              refine (bcontains_any _ A4 (8 * j - N) (c3 - N) _ HS.out (by omega)).mono ?_
              rintro e w2 ⟨rfl, rfl⟩
              cases hz : anyNz ((bytesOf l).drop N)
              · have e1 : Hid (bytesE l N = 0 ∧ bytesL l N = (bytesOf l).take N) := Lib.hid (by
                  have h9 : bytesE l N = 0 := by rw [He.out, hz]; rfl
                  exact ⟨h9, by rw [Hlv.out, if_pos h9]⟩)
                clear hz
                go_wp2
                first | rw [Exit.noGoto_ret] | rw [Exit.jump_ret] | skip
                go_ret2
                exact ⟨A3, N, by rw [e1.out.1]; rfl, by rw [e1.out.2]; exact HF.out, Hb.out⟩
              · have e1 : Hid (bytesE l N = 110 ∧ bytesL l N = []) := Lib.hid (by
                  have h9 : bytesE l N = 110 := by rw [He.out, hz]; rfl
                  exact ⟨h9, by rw [Hlv.out, if_neg (by rw [h9]; omega)]⟩)
                clear hz
                go_wp2
                go_step3
                refine ⟨rfl, hJ _ _ ?_⟩
                go_wp2
                first | rw [Exit.noGoto_ret] | rw [Exit.jump_ret] | skip
                go_ret2
                exact ⟨none, 0, by rw [e1.out.1]; rfl, by rw [e1.out.2]; exact Reads.none_, Hb.out⟩
end Go.Proofs.YtdgnbmcckknfiaaGreat
