/- The walk of the reference's Lines. Conditions: a number of 64 bits. -/
import Derived.Test.YtfafpgboheaajaaPlaceD
namespace Go.Proofs.Ytfafpgboheaajaa
open Go.RowKit

/-- The line of the k-th place of a run; the lines of its first k places. -/
def lineAt (a b : Int) (k : Nat) : Int := (runAt a b k).1
def lns (a b : Int) : Nat → List Int
  | 0 => []
  | k + 1 => if (lns a b k).getLast? = some (lineAt a b k) then lns a b k else lns a b k ++ [lineAt a b k]
theorem lns_len (a b : Int) : ∀ k, (lns a b k).length ≤ k
  | 0 => Nat.le_refl _
  | k + 1 => by
    have := lns_len a b k
    unfold lns
    split
    · omega
    · simp; omega

theorem nil_or_app (L : List Int) : L = [] ∨ ∃ L' z, L = L' ++ [z] := by
  rcases List.eq_nil_or_concat L with rfl | ⟨L', z, rfl⟩
  · exact .inl rfl
  · exact .inr ⟨L', z, by simp⟩

theorem info_int : ∃ i, Try.prog.info? 3 = some i ∧ i.zero = some (.int .i64 0) ∧ i.size = 1 ∧ i.bytes = 8 := by
  have h : (Try.prog.info? 3).map (fun i => (i.zero, i.size, i.bytes)) = some (some (.int .i64 0), 1, 8) := by kernel_rfl
  cases h' : Try.prog.info? 3 with
  | none => rw [h'] at h; cases h
  | some i =>
    rw [h'] at h
    simp only [Option.map_some, Option.some.injEq, Prod.mk.injEq] at h
    exact ⟨i, rfl, h⟩

/-- Numbers as cells. -/
def icells (l : List Int) : List Value := l.map (Value.int .i64)
theorem icells_len (l : List Int) : (icells l).length = l.length := by simp [icells]
theorem icells_app (l : List Int) (x : Int) : icells (l ++ [x]) = icells l ++ [.int .i64 x] := by simp [icells]

set_option maxRecDepth 100000 in
set_option maxHeartbeats 1000000 in
theorem rlines_any (a b m : Int) (w : World) (hm : -9223372036854775808 ≤ m ∧ m ≤ 9223372036854775807) :
    Calls Try.prog 24 #[.agg #[.int .i64 a, .int .i64 b], .int .i64 m] w fun e w' => ∃ v, e = .returned v ∧
      w'.ownsRow w.heap.size 3 1 v (lns a b (runN a b m)).length (icells (lns a b (runN a b m))) ∧ Below w.heap.size w w' := by
  obtain ⟨i0, hi0, hz0, hz1, hz2⟩ := info_int
  have hb0 := Lib.hid ((Below.refl _ w).alloc (Nat.le_refl _) (.cells #[.int .i64 a, .int .i64 b] 23))
  obtain ⟨N, hNe⟩ : ∃ N, runN a b m = N := ⟨_, rfl⟩
  have hN : N ≤ 8192 := by rw [← hNe]; exact runN_le a b m
  rw [hNe]
  go_enter Try.func24, Try.ntmps24
  go_wp2_with fail
  refine (rrun_any a b m _ hm).mono ?_
  rintro e w1 ⟨v, rfl, hown, hb⟩
  rw [hNe] at hown
  have hbb := below_boxed hb
  obtain ⟨A1, cp1, rfl⟩ := own_form hown
  have hr := PReads.of_own hown
  clear hown hb
  have Hne := Lib.hid hNe
  clear hNe
  go_wp2
  go_loopw [5, 7] (fun t i wr => ∃ k : Nat, k ≤ N ∧ i = .int .i64 k ∧ wr.ownsRow w1.heap.size 3 1 t (lns a b k).length (icells (lns a b k)) ∧ Below w1.heap.size w1 wr) (fun _ i _ => N - (intOf i).toNat)
  case atStart => exact ⟨0, Nat.zero_le _, rfl, by simpa [lns, icells] using World.ownsRow_nil _ _ _ _, Below.refl _ _⟩
  case round =>
    obtain ⟨k, hk, rfl, hown, hbr⟩ := hrel
    obtain ⟨wo, rfl⟩ : ∃ wo : World, wo = wr := ⟨_, rfl⟩
    obtain ⟨A2, cp2, rfl⟩ := own_form hown
    by_cases hlt : k < N
    · obtain ⟨g, x, y, rfl, hgl, hx, cx, cy⟩ := PReads.at_ (hr.below hbr) hlt
      have hxk : lineAt a b k = x := by
        unfold lineAt
        have : (pts a b N)[k]? = some (runAt a b k) := by simp [pts, hlt]
        rw [this] at hx
        cases h : runAt a b k
        rw [h] at hx
        cases hx
        rfl
      have hsucc : lns a b (k + 1) = if (lns a b k).getLast? = some (lineAt a b k) then lns a b k else lns a b k ++ [lineAt a b k] := rfl
      rw [hxk] at hsucc
      have hle := lns_len a b k
      obtain ⟨L, hL⟩ : ∃ L, lns a b k = L := ⟨_, rfl⟩
      rw [hL] at hown hsucc hle ⊢
      clear hL hxk hx
      rcases nil_or_app L with rfl | ⟨L', z, rfl⟩
      · have hs : Hid (lns a b (k + 1) = [x]) := Lib.hid (by rw [hsucc]; simp)
        have Hbr := Lib.hid hbr
        have Hr := Lib.hid hr
        clear hsucc hbr hr
        go_wp2
        go_quiet (fail)
        have hown2 : (wo.drewN nq).ownsRow w1.heap.size 3 1 (.slice A2 0 cp2) 0 (icells []) := hown
        have hbr2 := below_drewN Hbr.out nq
        have cx2 : (wo.drewN nq).cell? ⟨g, k * 2, none⟩ = some (.int .i64 x) := cx
        clear hown cx
        generalize wo.drewN nq = wd at *
        go_wp2_with (at_builtin; go_must (refine wpList_append_own _ rfl _ _ 41 rfl w1.heap.size 3 i0 (.int .i64 0) 1 8 Try.underlying41 hi0 hz0 hz1 hz2 rfl (by decide) (.slice A2 0 cp2) 0 (icells []) rfl (hown2.alloc _) ⟨wd.heap.size, 0, none⟩ 1 1 [.int .i64 x] rfl rfl (by exact cell_one_new _ _ _) (by simp [Value.oneCell']) (by simp only [maxLen]; omega) (by omega) (by simp; have := hbr2.size; omega) ?_); intro v' w4 hown' hgrow _; obtain ⟨g', cap', rfl, hg1', hg2'⟩ := hown'.form (by omega))
        have hb4 : Below w1.heap.size w1 w4 := (hbr2.alloc hbr2.size _).grown hgrow (by simp; have := hbr2.size; omega) (fun j h => (hown2.lt j h).1)
        exact ⟨⟨k + 1, by omega, by go_num, by rw [hs.out]; simpa [icells] using hown', hb4⟩, by simp [intOf]; omega⟩
      · obtain ⟨q, hq⟩ : ∃ q, L'.length = q := ⟨_, rfl⟩
        have hlq : (L' ++ [z]).length = q + 1 := by simp [hq]
        rw [hlq] at hown hle ⊢
        obtain ⟨gz, capz, hvz, hgz1, hgz2⟩ := hown.form (by omega)
        cases hvz
        have cz := hown.cellAt q (by omega)
        have hcz : (icells (L' ++ [z]))[q]? = some (.int .i64 z) := by simp [icells, ← hq]
        rw [hcz] at cz
        have hgd : (((q : Int) + 1) == 0) = false := by simp; omega
        have hwq : IntKind.i64.wrap (q : Int) = (q : Int) := by rw [IntKind.wrap_i64]; omega
        have hq0 : (q : Int) < (q : Int) + 1 := by omega
        by_cases hxz : z = x
        · subst hxz
          have hs : Hid (lns a b (k + 1) = L' ++ [z]) := Lib.hid (by rw [hsucc]; simp)
          have Hbr := Lib.hid hbr
          have Hr := Lib.hid hr
          have Hlq := Lib.hid hlq
          clear hsucc hbr hr hlq hcz hq
          go_wp2
          go_quiet (fail)
          have hown2 : (wo.drewN nq).ownsRow w1.heap.size 3 1 (.slice (some ⟨gz, 0, none⟩) (q + 1) cp2) (q + 1) (icells (L' ++ [z])) := hown
          have hbr2 := below_drewN Hbr.out nq
          clear hown
          generalize wo.drewN nq = wd at *
          go_wp2
          exact ⟨⟨k + 1, by omega, by go_num, by rw [hs.out, Hlq.out]; exact hown2, hbr2⟩, by simp [intOf]; omega⟩
        · have hs : Hid (lns a b (k + 1) = L' ++ [z] ++ [x]) := Lib.hid (by rw [hsucc, if_neg (by simpa using hxz)])
          have Hbr := Lib.hid hbr
          have Hr := Lib.hid hr
          have Hlq := Lib.hid hlq
          have hne : (z != x) = true := by simpa using hxz
          clear hsucc hbr hr hlq hcz hq
          go_wp2
          go_quiet (fail)
          have hown2 : (wo.drewN nq).ownsRow w1.heap.size 3 1 (.slice (some ⟨gz, 0, none⟩) (q + 1) cp2) (q + 1) (icells (L' ++ [z])) := hown
          have hbr2 := below_drewN Hbr.out nq
          have cx2 : (wo.drewN nq).cell? ⟨g, k * 2, none⟩ = some (.int .i64 x) := cx
          clear hown cx cz
          generalize wo.drewN nq = wd at *
          go_wp2_with (at_builtin; go_must (refine wpList_append_own _ rfl _ _ 41 rfl w1.heap.size 3 i0 (.int .i64 0) 1 8 Try.underlying41 hi0 hz0 hz1 hz2 rfl (by decide) (.slice (some ⟨gz, 0, none⟩) (q + 1) cp2) (q + 1) (icells (L' ++ [z])) rfl (hown2.alloc _) ⟨wd.heap.size, 0, none⟩ 1 1 [.int .i64 x] rfl rfl (by exact cell_one_new _ _ _) (by simp [Value.oneCell']) (by simp only [maxLen]; omega) (by omega) (by simp; have := hbr2.size; omega) ?_); intro v' w4 hown' hgrow _; obtain ⟨g', cap', rfl, hg1', hg2'⟩ := hown'.form (by omega))
          have hb4 : Below w1.heap.size w1 w4 := (hbr2.alloc hbr2.size _).grown hgrow (by simp; have := hbr2.size; omega) (fun j h => (hown2.lt j h).1)
          exact ⟨⟨k + 1, by omega, by go_num, by rw [hs.out, List.length_append, Hlq.out, icells_app]; exact hown', hb4⟩, by simp [intOf]; omega⟩
    · have hke : k = N := by omega
      have Hke := Lib.hid hke
      clear hke
      go_wp2
      go_ret
      exact ⟨_, rfl, by rw [← Hke.out]; exact own_more hown hbb.size, hbb.trans (hbr.mono hbb.size)⟩
end Go.Proofs.Ytfafpgboheaajaa
