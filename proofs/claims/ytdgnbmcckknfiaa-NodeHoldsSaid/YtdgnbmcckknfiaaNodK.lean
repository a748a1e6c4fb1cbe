/- The walks of node's put of inodes. Conditions: none. -/
import Derived.Test.YtdgnbmcckknfiaaNodJ
namespace Go.Proofs.Ytdgnbmcckknfiaa
open Go.RowKit
set_option linter.unusedSimpArgs false

def inoL (k l t : Int) : Array Value := if inoOk k l t then ln8 (k + 256 * l) t 0 0 0 0 0 0 else ln8 0 0 0 0 0 0 0 0
def inoE (k l t : Int) : Int := if inoOk k l t then 0 else 2
theorem inoOk_nat {k l t : Int} (h : inoOk k l t = true) : ∃ K L T : Nat, k = K ∧ l = L ∧ t = T ∧ K < 256 ∧ L < 1048576 ∧ T < 1048576 := by
  simp only [inoOk, ptrs, badP, Bool.and_eq_true, Bool.or_eq_true, beq_iff_eq, decide_eq_true_eq, List.any_cons, List.any_nil, Bool.or_false, Bool.not_eq_true', Bool.or_eq_false_iff, decide_eq_false_iff_not] at h
  obtain ⟨⟨⟨h1, h2⟩, h3⟩, h4, h5⟩ := h
  have hk : k = 1 ∨ k = 2 := by rcases h1 with h | h; exact .inl h; exact .inr h.1
  exact ⟨k.toNat, l.toNat, t.toNat, by omega, by omega, by omega, by omega, by omega, by omega⟩

theorem inowrite_ok (k l t : Int) (h : inoOk k l t = true) (b : Nat) (old : Array Value) (ho : old.size = 8) (w : World) (hB : Blk w b 113 old) :
    Calls Try.prog 60 #[.agg #[.int .i64 k, .int .i64 l, .int .i64 t], .pointer (some ⟨b, 0, none⟩)] w fun e w' => e = .returned (.tuple #[]) ∧
      Blk w' b 113 (ln8 (k + 256 * l) t 0 0 0 0 0 0) ∧ Below b w w' := by
  obtain ⟨K, L, T, rfl, rfl, rfl, hK, hL, hT⟩ := inoOk_nat h
  exact inowrite_any K L T hK hL hT b old ho w hB

set_option maxRecDepth 100000 in
set_option maxHeartbeats 2000000 in
theorem putInode_any (k l t : Int) (w : World) :
    Calls Try.prog 35 #[.agg #[.func (.func 59) #[] #[], .func (.func 60) #[] #[], .func (.func 63) #[] #[]], .agg #[.int .i64 k, .int .i64 l, .int .i64 t]] w fun e w' => e = .returned (.tuple #[.agg (inoL k l t), .int .i64 (inoE k l t)]) ∧ Below w.heap.size w w' := by
  have HX : Hid (∀ X, X = (((((w.alloc (.cells #[.func (.func 59) #[] #[], .func (.func 60) #[] #[], .func (.func 63) #[] #[]] 84)).alloc (.cells #[.int .i64 k, .int .i64 l, .int .i64 t] 35)).alloc (.cells #[.int .u64 0, .int .u64 0, .int .u64 0, .int .u64 0, .int .u64 0, .int .u64 0, .int .u64 0, .int .u64 0] 26)).alloc (.cells #[.int .u64 0, .int .u64 0, .int .u64 0, .int .u64 0, .int .u64 0, .int .u64 0, .int .u64 0, .int .u64 0] 113))).setRow (w.heap.size + 1 + 1 + 1) #[.int .u64 0, .int .u64 0, .int .u64 0, .int .u64 0, .int .u64 0, .int .u64 0, .int .u64 0, .int .u64 0] →
      Blk X w.heap.size 84 #[.func (.func 59) #[] #[], .func (.func 60) #[] #[], .func (.func 63) #[] #[]] ∧ Blk X (w.heap.size + 1) 35 #[.int .i64 k, .int .i64 l, .int .i64 t] ∧ Blk X (w.heap.size + 1 + 1) 26 #[.int .u64 0, .int .u64 0, .int .u64 0, .int .u64 0, .int .u64 0, .int .u64 0, .int .u64 0, .int .u64 0] ∧ Blk X (w.heap.size + 1 + 1 + 1) 113 #[.int .u64 0, .int .u64 0, .int .u64 0, .int .u64 0, .int .u64 0, .int .u64 0, .int .u64 0, .int .u64 0] ∧ Below w.heap.size w X) := Lib.hid (by
    rintro X rfl
    have k0 := Blk.new w 84 #[.func (.func 59) #[] #[], .func (.func 60) #[] #[], .func (.func 63) #[] #[]]
    have k1 := Blk.new (w.alloc (.cells #[.func (.func 59) #[] #[], .func (.func 60) #[] #[], .func (.func 63) #[] #[]] 84)) 35 #[.int .i64 k, .int .i64 l, .int .i64 t]
    have k2 := Blk.new ((w.alloc (.cells #[.func (.func 59) #[] #[], .func (.func 60) #[] #[], .func (.func 63) #[] #[]] 84)).alloc (.cells #[.int .i64 k, .int .i64 l, .int .i64 t] 35)) 26 #[.int .u64 0, .int .u64 0, .int .u64 0, .int .u64 0, .int .u64 0, .int .u64 0, .int .u64 0, .int .u64 0]
    have k3 := Blk.new (((w.alloc (.cells #[.func (.func 59) #[] #[], .func (.func 60) #[] #[], .func (.func 63) #[] #[]] 84)).alloc (.cells #[.int .i64 k, .int .i64 l, .int .i64 t] 35)).alloc (.cells #[.int .u64 0, .int .u64 0, .int .u64 0, .int .u64 0, .int .u64 0, .int .u64 0, .int .u64 0, .int .u64 0] 26)) 113 #[.int .u64 0, .int .u64 0, .int .u64 0, .int .u64 0, .int .u64 0, .int .u64 0, .int .u64 0, .int .u64 0]
    replace k0 := ((k0.alloc (.cells #[.int .i64 k, .int .i64 l, .int .i64 t] 35)).alloc (.cells #[.int .u64 0, .int .u64 0, .int .u64 0, .int .u64 0, .int .u64 0, .int .u64 0, .int .u64 0, .int .u64 0] 26)).alloc (.cells #[.int .u64 0, .int .u64 0, .int .u64 0, .int .u64 0, .int .u64 0, .int .u64 0, .int .u64 0, .int .u64 0] 113)
    replace k1 := (k1.alloc (.cells #[.int .u64 0, .int .u64 0, .int .u64 0, .int .u64 0, .int .u64 0, .int .u64 0, .int .u64 0, .int .u64 0] 26)).alloc (.cells #[.int .u64 0, .int .u64 0, .int .u64 0, .int .u64 0, .int .u64 0, .int .u64 0, .int .u64 0, .int .u64 0] 113)
    replace k2 := k2.alloc (.cells #[.int .u64 0, .int .u64 0, .int .u64 0, .int .u64 0, .int .u64 0, .int .u64 0, .int .u64 0, .int .u64 0] 113)
    simp only [World.size_alloc] at k0 k1 k2 k3
    exact ⟨k0.farRow (by omega) _, k1.farRow (by omega) _, k2.farRow (by omega) _, k3.setRow _, below_setRow ((((((Below.refl _ w).alloc (Nat.le_refl _) _).alloc (by simp) _).alloc (by simp; omega) _).alloc (by simp; omega) _)) (by omega) _⟩)
  have hn := Blk.new (((w.alloc (.cells #[.func (.func 59) #[] #[], .func (.func 60) #[] #[], .func (.func 63) #[] #[]] 84)).alloc (.cells #[.int .i64 k, .int .i64 l, .int .i64 t] 35)).alloc (.cells #[.int .u64 0, .int .u64 0, .int .u64 0, .int .u64 0, .int .u64 0, .int .u64 0, .int .u64 0, .int .u64 0] 26)) 113 #[.int .u64 0, .int .u64 0, .int .u64 0, .int .u64 0, .int .u64 0, .int .u64 0, .int .u64 0, .int .u64 0]
  simp only [World.size_alloc] at hn
  cases hok : inoOk k l t
  · have e1 : Hid (inoL k l t = #[.int .u64 0, .int .u64 0, .int .u64 0, .int .u64 0, .int .u64 0, .int .u64 0, .int .u64 0, .int .u64 0]) := Lib.hid (by unfold inoL; rw [hok]; rfl)
    have e2 : Hid (inoE k l t = 2) := Lib.hid (by unfold inoE; rw [hok]; rfl)
    have Hok := Lib.hid hok
    clear hok
    go_enter Try.func35, Try.ntmps35
    go_wp2_with fail
    refine wp_scope_goto 0 rfl fun J hJ => ?_
    obtain ⟨X, hX⟩ : ∃ X, X = (((((w.alloc (.cells #[.func (.func 59) #[] #[], .func (.func 60) #[] #[], .func (.func 63) #[] #[]] 84)).alloc (.cells #[.int .i64 k, .int .i64 l, .int .i64 t] 35)).alloc (.cells #[.int .u64 0, .int .u64 0, .int .u64 0, .int .u64 0, .int .u64 0, .int .u64 0, .int .u64 0, .int .u64 0] 26)).alloc (.cells #[.int .u64 0, .int .u64 0, .int .u64 0, .int .u64 0, .int .u64 0, .int .u64 0, .int .u64 0, .int .u64 0] 113))).setRow (w.heap.size + 1 + 1 + 1) #[.int .u64 0, .int .u64 0, .int .u64 0, .int .u64 0, .int .u64 0, .int .u64 0, .int .u64 0, .int .u64 0] := ⟨_, rfl⟩
    obtain ⟨b0, b1, b2, b3, hB⟩ := HX.out X hX
    have c0 := b0.cell 0
    have c1 := b0.cell 1
    simp at c0 c1
    have HX2 := Lib.hid hX
    clear HX hX
    go_wp2_with (first | ((refine row_store (w.heap.size + 1 + 1 + 1) 113 _ _ hn 113 _ _ rfl rfl rfl rfl (by kernel_rfl) rfl (by kernel_rfl) ?_); rw [← HX2.out]) | (refine row_load (w.heap.size + 1) 35 _ b1 35 _ rfl rfl rfl _ Try.underlying35 rfl (by kernel_rfl) ?_))
    clear HX2 hn
    refine (inoright_any k l t _).mono ?_
    rintro r w1 ⟨rfl, hb⟩
    rw [Hok.out]
    replace b0 := b0.below hb b0.lt
    replace b1 := b1.below hb b1.lt
    replace b2 := b2.below hb b2.lt
    replace b3 := b3.below hb b3.lt
    replace hB := hB.trans (hb.mono hB.size)
    clear hb c0 c1
    go_wp2
    go_step3
    refine ⟨rfl, hJ _ _ ?_⟩
    go_wp2_with (first | (refine row_load (w.heap.size + 1 + 1) 26 _ b2 26 _ rfl rfl rfl _ Try.underlying26 rfl (by kernel_rfl) ?_) | (refine row_store (w.heap.size + 1 + 1) 26 _ _ b2 26 _ _ rfl rfl rfl rfl (by kernel_rfl) rfl (by kernel_rfl) ?_))
    first | rw [Exit.noGoto_ret] | rw [Exit.jump_ret] | skip
    refine bodyPost_ret (results_cell_slot rfl _ _ (w.heap.size + 1 + 1) 26 _ _ rfl (b2.setRow _) Try.underlying26 rfl (by kernel_rfl) _ rfl) rfl ?_
    exact ⟨by rw [e1.out, e2.out]; rfl, below_setRow hB (by omega) _⟩
  · have e2 : Hid (inoE k l t = 0) := Lib.hid (by unfold inoE; rw [hok]; rfl)
    have Hok := Lib.hid hok
    have e1 : Hid (inoL k l t = ln8 (k + 256 * l) t 0 0 0 0 0 0) := Lib.hid (by unfold inoL; rw [hok]; rfl)
    clear hok
    go_enter Try.func35, Try.ntmps35
    go_wp2_with fail
    refine wp_scope_goto 0 rfl fun J hJ => ?_
    obtain ⟨X, hX⟩ : ∃ X, X = (((((w.alloc (.cells #[.func (.func 59) #[] #[], .func (.func 60) #[] #[], .func (.func 63) #[] #[]] 84)).alloc (.cells #[.int .i64 k, .int .i64 l, .int .i64 t] 35)).alloc (.cells #[.int .u64 0, .int .u64 0, .int .u64 0, .int .u64 0, .int .u64 0, .int .u64 0, .int .u64 0, .int .u64 0] 26)).alloc (.cells #[.int .u64 0, .int .u64 0, .int .u64 0, .int .u64 0, .int .u64 0, .int .u64 0, .int .u64 0, .int .u64 0] 113))).setRow (w.heap.size + 1 + 1 + 1) #[.int .u64 0, .int .u64 0, .int .u64 0, .int .u64 0, .int .u64 0, .int .u64 0, .int .u64 0, .int .u64 0] := ⟨_, rfl⟩
    obtain ⟨b0, b1, b2, b3, hB⟩ := HX.out X hX
    have c0 := b0.cell 0
    have c1 := b0.cell 1
    simp at c0 c1
    have HX2 := Lib.hid hX
    clear HX hX
    go_wp2_with (first | ((refine row_store (w.heap.size + 1 + 1 + 1) 113 _ _ hn 113 _ _ rfl rfl rfl rfl (by kernel_rfl) rfl (by kernel_rfl) ?_); rw [← HX2.out]) | (refine row_load (w.heap.size + 1) 35 _ b1 35 _ rfl rfl rfl _ Try.underlying35 rfl (by kernel_rfl) ?_))
    clear HX2 hn
    refine (inoright_any k l t _).mono ?_
    rintro r w1 ⟨rfl, hb⟩
    rw [Hok.out]
    replace b0 := b0.below hb b0.lt
    replace b1 := b1.below hb b1.lt
    replace b2 := b2.below hb b2.lt
    replace b3 := b3.below hb b3.lt
    replace hB := hB.trans (hb.mono hB.size)
    clear hb c0 c1
    have c1 := b0.cell 1
    simp at c1
    go_wp2_with (refine row_load (w.heap.size + 1) 35 _ b1 35 _ rfl rfl rfl _ Try.underlying35 rfl (by kernel_rfl) ?_)
    refine (inowrite_ok k l t Hok.out _ _ rfl _ b3).mono ?_
    rintro r w2 ⟨rfl, hl, hb⟩
    replace b2 := b2.below hb (by omega)
    replace hB := hB.trans (hb.mono (by omega))
    clear hb c1 b0 b1 b3
    go_wp2_with (first | (refine row_load (w.heap.size + 1 + 1 + 1) 113 _ hl 113 _ rfl rfl rfl _ Try.underlying113 rfl (by kernel_rfl) ?_) | (refine row_store (w.heap.size + 1 + 1) 26 _ _ b2 26 _ _ rfl rfl rfl rfl (by kernel_rfl) rfl (by kernel_rfl) ?_))
    first | rw [Exit.noGoto_ret] | rw [Exit.jump_ret] | skip
    refine bodyPost_ret (results_cell_slot rfl _ _ (w.heap.size + 1 + 1) 26 _ _ rfl (b2.setRow _) Try.underlying26 rfl (by kernel_rfl) _ rfl) rfl ?_
    exact ⟨by rw [e1.out, e2.out]; rfl, below_setRow hB (by omega) _⟩
end Go.Proofs.Ytdgnbmcckknfiaa
