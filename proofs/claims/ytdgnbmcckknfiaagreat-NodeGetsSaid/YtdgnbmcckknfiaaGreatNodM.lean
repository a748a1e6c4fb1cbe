/- The walk of node's inodes: how they are read. Conditions: words of 64 bits. -/
import Derived.Test.YtdgnbmcckknfiaaGreatNodK
namespace Go.Proofs.YtdgnbmcckknfiaaGreat
open Go.RowKit
set_option linter.unusedSimpArgs false

/-- What an inode's line tells. -/
def inoK (a : Nat) : Int := (a : Int) % 256
def inoLk (a : Nat) : Int := smallI (a / 256)

set_option maxRecDepth 100000 in
set_option maxHeartbeats 2000000 in
theorem inoread_any (a b c d e f g h : Nat) (ha : a < 18446744073709551616) (hb : b < 18446744073709551616) (w : World) :
    Calls Tryz.prog 55 #[.agg (ln8 a b c d e f g h)] w fun r w' => r = .returned (.agg #[.int .i64 (inoK a), .int .i64 (inoLk a), .int .i64 (smallI b)]) ∧ Below w.heap.size w w' := by
  have hl := (Blk.new w 114 (ln8 a b c d e f g h)).alloc (.cells #[.int .i64 0, .int .i64 0, .int .i64 0] 31)
  have hr := Blk.new (w.alloc (.cells (ln8 a b c d e f g h) 114)) 31 #[.int .i64 0, .int .i64 0, .int .i64 0]
  have hB := ((Below.refl _ w).alloc (Nat.le_refl _) (.cells (ln8 a b c d e f g h) 114)).alloc (by simp) (.cells #[.int .i64 0, .int .i64 0, .int .i64 0] 31)
  simp only [World.size_alloc] at hr
  have e1 : getV a 0 8 = a % 256 := by simp [getV, fldOk, getN]
  have e2 : getV a 8 56 = a / 256 := by
    have : a / 256 < 72057594037927936 := by omega
    simp [getV, fldOk, getN]
    omega
  have e3 : getE 0 8 = 0 := by simp [getE, fldOk]
  have e4 : getE 8 56 = 0 := by simp [getE, fldOk]
  have G1 := Lib.hid (fun W => get_any a 0 8 W ha)
  have G2 := Lib.hid (fun W => get_any a 8 56 W ha)
  simp only [e1, e2, e3, e4] at G1 G2
  have hm : IntKind.i64.wrap ((a : Int) % 256) = (a : Int) % 256 := by rw [IntKind.wrap_i64]; omega
  obtain ⟨A, hA⟩ : ∃ A, a / 256 = A := ⟨_, rfl⟩
  have hA2 : A < 18446744073709551616 := by omega
  rw [hA] at G2
  have HA := Lib.hid hA
  clear e1 e2 e3 e4 hA
  go_enter Tryz.func55, Tryz.ntmps55
  go_wp2_with fail
  generalize hX : (w.alloc (.cells (ln8 a b c d e f g h) 114)).alloc (.cells #[.int .i64 0, .int .i64 0, .int .i64 0] 31) = X at *
  clear hX
  have ca := hl.cell 0
  have cb := hl.cell 1
  simp [ln8] at ca cb
  go_region_held3 (fun w' => w'.cell? ⟨w.heap.size, 0, none⟩ = some (.int .u64 a) ∧ w'.cell? ⟨w.heap.size, 1, none⟩ = some (.int .u64 b))
    (first | go_keep | exact ⟨ca, cb⟩)
    (first
      | (go_at_call 57; refine (kindF_any _).mono ?_; rintro r wq ⟨rfl, hb2⟩; have hq : Below X.heap.size X wq := (by first | exact hb2 | exact ((Below.refl _ X).drew).trans hb2); have ca := (hl.below hq hl.lt).cell 0; have cb := (hl.below hq hl.lt).cell 1; simp [ln8] at ca cb)
      | (go_at_call 56; refine (G1.out _).mono ?_; rintro r Y ⟨rfl, hb3⟩; have hq2 : Below X.heap.size X Y := (by exact hq.trans (hb3.mono hq.size)); have ca := (hl.below hq2 hl.lt).cell 0; have cb := (hl.below hq2 hl.lt).cell 1; simp [ln8] at ca cb))
  all_goals replace hl := hl.below hq2 hl.lt
  all_goals replace hr := hr.below hq2 hr.lt
  all_goals replace hB := hB.trans (hq2.mono hB.size)
  all_goals clear hq hb2 hb3 hq2
  all_goals go_wp2_with fail
  go_region_held3 (fun w' => w'.cell? ⟨w.heap.size, 0, none⟩ = some (.int .u64 a) ∧ w'.cell? ⟨w.heap.size, 1, none⟩ = some (.int .u64 b))
    (first | go_keep | exact ⟨ca, cb⟩)
    (first
      | (go_at_call 54; refine (linksF_any _).mono ?_; rintro r wq ⟨rfl, hb2⟩; have hq : Below Y.heap.size Y wq := (by first | exact hb2 | exact ((Below.refl _ Y).drew).trans hb2); have ca := (hl.below hq hl.lt).cell 0; have cb := (hl.below hq hl.lt).cell 1; simp [ln8] at ca cb)
      | (go_at_call 56; refine (G2.out _).mono ?_; rintro r Z ⟨rfl, hb3⟩; have hq2 : Below Y.heap.size Y Z := (by exact hq.trans (hb3.mono hq.size)); have ca := (hl.below hq2 hl.lt).cell 0; have cb := (hl.below hq2 hl.lt).cell 1; simp [ln8] at ca cb))
  all_goals replace hl := hl.below hq2 hl.lt
  all_goals replace hr := hr.below hq2 hr.lt
  all_goals replace hB := hB.trans (hq2.mono hB.size)
  all_goals clear hq hb2 hb3 hq2
  all_goals go_wp2_with fail
  have k0 := hr.cell 0
  have k1 := hr.cell 1
  have k2 := hr.cell 2
  have f0 := hr.frozen 0
  have f1 := hr.frozen 1
  have f2 := hr.frozen 2
  simp at k0 k1 k2
  clear G1 G2 ha
  have HR := Lib.hid hr
  have HB := Lib.hid hB
  clear hB hr
  go_region_held3 (fun w' => w'.cell? ⟨w.heap.size, 1, none⟩ = some (.int .u64 b))
    (first | go_keep | exact cb)
    (first
      | (go_at_call 47; have hh := hq; refine (small_any b _ hb).mono ?_; rintro r w6 ⟨rfl, hb3⟩; have hq2 : Below Z.heap.size Z w6 := (by exact hq.trans (hb3.mono hq.size)); have ca := (hl.below hq2 hl.lt).cell 0; have cb := (hl.below hq2 hl.lt).cell 1; have k0 := (HR.out.below hq2 HR.out.lt).cell 0; have k1 := (HR.out.below hq2 HR.out.lt).cell 1; have k2 := (HR.out.below hq2 HR.out.lt).cell 2; have f0 := (HR.out.below hq2 HR.out.lt).frozen 0; have f1 := (HR.out.below hq2 HR.out.lt).frozen 1; have f2 := (HR.out.below hq2 HR.out.lt).frozen 2; simp [ln8] at ca cb k0 k1 k2)
      | (go_at_call 47; refine (small_any A _ hA2).mono ?_; rintro r w5 ⟨rfl, hb2⟩; have hq : Below Z.heap.size Z w5 := (by first | exact hb2 | exact ((Below.refl _ Z).drew).trans hb2); have ca := (hl.below hq hl.lt).cell 0; have cb := (hl.below hq hl.lt).cell 1; have k0 := (HR.out.below hq HR.out.lt).cell 0; have k1 := (HR.out.below hq HR.out.lt).cell 1; have k2 := (HR.out.below hq HR.out.lt).cell 2; have f0 := (HR.out.below hq HR.out.lt).frozen 0; have f1 := (HR.out.below hq HR.out.lt).frozen 1; have f2 := (HR.out.below hq HR.out.lt).frozen 2; simp [ln8] at ca cb k0 k1 k2))
  all_goals
    have h6 := (((HR.out.below hq2 HR.out.lt).set_ 0 (.int .i64 ((a : Int) % 256))).set_ 1 (.int .i64 (smallI A))).set_ 2 (.int .i64 (smallI b))
    simp at h6
    have hB6 := ((((HB.out.trans (hq2.mono HB.out.size)).setCell (p := ⟨w.heap.size + 1, 0, none⟩) (by simp) (.int .i64 ((a : Int) % 256))).setCell (p := ⟨w.heap.size + 1, 1, none⟩) (by simp) (.int .i64 (smallI A))).setCell (p := ⟨w.heap.size + 1, 2, none⟩) (by simp) (.int .i64 (smallI b)))
    go_wp2
    refine bodyPost_ret (results_cell1 rfl _ _ (w.heap.size + 1) 31 _ _ rfl h6 Tryz.underlying31 rfl (by kernel_rfl)) rfl ?_
    exact ⟨by unfold inoK inoLk; rw [HA.out], hB6⟩
end Go.Proofs.YtdgnbmcckknfiaaGreat
