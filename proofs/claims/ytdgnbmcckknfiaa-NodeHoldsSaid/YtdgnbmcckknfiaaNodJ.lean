/- The walks of node's inodes: how their words are written. Conditions: numbers that are small. -/
import Derived.Test.YtdgnbmcckknfiaaNodI
namespace Go.Proofs.Ytdgnbmcckknfiaa
open Go.RowKit
set_option linter.unusedSimpArgs false

theorem putN_links (K L : Nat) (hK : K < 256) (hL : L < 2 ^ 56) : putN K 8 56 L = K + 256 * L := by
  have e : K + 256 * L = 2 ^ 8 * L + K := by omega
  apply word_ext
  intro i
  rw [putN_bit K 8 56 L i (by omega) (by omega) hL, e, Nat.testBit_two_pow_mul_add _ (by omega)]
  by_cases h : i < 8
  · simp [h, show ¬ 8 ≤ i by omega]
  · by_cases h2 : i < 64
    · simp [h, show 8 ≤ i by omega, h2]
    · have h3 : L.testBit (i - 8) = false := bit_lt (d := 56) hL (by omega)
      have h4 : K.testBit i = false := bit_lt (d := 8) (by omega) (by omega)
      simp [h, h2, h3, h4]

/-- A line's cells. -/
def ln8 (a b c d e f g h : Int) : Array Value := #[.int .u64 a, .int .u64 b, .int .u64 c, .int .u64 d, .int .u64 e, .int .u64 f, .int .u64 g, .int .u64 h]

set_option maxHeartbeats 1000000 in
theorem inowrite_any (K L T : Nat) (hK : K < 256) (hL : L < 1048576) (hT : T < 1048576) (b : Nat) (old : Array Value) (ho : old.size = 8) (w : World) (hB : Blk w b 113 old) :
    Calls Try.prog 60 #[.agg #[.int .i64 K, .int .i64 L, .int .i64 T], .pointer (some ⟨b, 0, none⟩)] w fun e w' => e = .returned (.tuple #[]) ∧
      Blk w' b 113 (ln8 ((K : Int) + 256 * (L : Int)) T 0 0 0 0 0 0) ∧ Below b w w' := by
  have hx := Blk.new w 35 #[.int .i64 K, .int .i64 L, .int .i64 T]
  have B0 : Below w.heap.size w (w.alloc (.cells #[.int .i64 K, .int .i64 L, .int .i64 T] 35)) := (Below.refl _ w).alloc (Nat.le_refl _) _
  have hbl := hB.lt
  have hB1 := hB.below B0 hbl
  have hpv : Hid (putV K 8 56 L = K + 256 * L) := Lib.hid (by
    have : putV K 8 56 L = putN K 8 56 L := by simp [putV, fldOk]; omega
    rw [this, putN_links K L hK (by omega)])
  have hpe : Hid (putE 8 56 L = 0) := Lib.hid (by simp [putE, fldOk]; omega)
  have wk : IntKind.u64.wrap (K : Int) = K := by rw [IntKind.wrap_u64]; omega
  have wl : IntKind.u64.wrap (L : Int) = L := by rw [IntKind.wrap_u64]; omega
  have wt : IntKind.u64.wrap (T : Int) = T := by rw [IntKind.wrap_u64]; omega
  have HP := Lib.hid (fun W => put_any K 8 56 L W (by omega))
  have hBr := Below.refl (w.heap.size + 1) (w.alloc (.cells #[.int .i64 K, .int .i64 L, .int .i64 T] 35))
  clear hB
  go_enter Try.func60, Try.ntmps60
  go_wp2_with fail
  go_region_held3 (fun w' => w'.cell? ⟨w.heap.size, 0, none⟩ = some (.int .i64 K) ∧ w'.cell? ⟨w.heap.size, 1, none⟩ = some (.int .i64 L) ∧ w'.cell? ⟨w.heap.size, 2, none⟩ = some (.int .i64 T))
    (first | go_keep | exact ⟨ka, kb, kc⟩)
    (first
      | (go_at_call 62; refine (linksF_any _).mono ?_; rintro e wq ⟨rfl, hb2⟩; have hq : Below (w.heap.size + 1) (w.alloc (.cells #[.int .i64 K, .int .i64 L, .int .i64 T] 35)) wq := (by first | exact hb2.mono (by simp) | exact ((Below.refl _ _).drew).trans (hb2.mono (by simp))); have ka := (hx.below hq (by omega)).cell 0; have kb := (hx.below hq (by omega)).cell 1; have kc := (hx.below hq (by omega)).cell 2; simp at ka kb kc)
      | (go_at_call 61; refine (HP.out _).mono ?_; rintro e wr ⟨rfl, hb3⟩; have hr : Below (w.heap.size + 1) (w.alloc (.cells #[.int .i64 K, .int .i64 L, .int .i64 T] 35)) wr := (by exact hq.trans (hb3.mono (by have := hq.size; rw [World.size_alloc] at this; exact this))); rw [hpv.out, hpe.out]; have ka := (hx.below hr (by omega)).cell 0; have kb := (hx.below hr (by omega)).cell 1; have kc := (hx.below hr (by omega)).cell 2; simp at ka kb kc))
  all_goals
    have hBr := hB1.below (hr.mono (Nat.le_refl _)) (by omega)
    go_wp2_with (refine row_store b 113 _ _ hBr 113 _ _ rfl rfl rfl rfl (by kernel_rfl) ho (by kernel_rfl) ?_)
    go_end0
    exact ⟨rfl, hBr.setRow _, below_setRow ((B0.trans (hr.mono (by omega))).mono (by omega)) (Nat.le_refl _) _⟩
end Go.Proofs.Ytdgnbmcckknfiaa
