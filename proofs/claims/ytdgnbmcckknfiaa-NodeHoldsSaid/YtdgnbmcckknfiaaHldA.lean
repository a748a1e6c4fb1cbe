/- The first part of NodeHolds: what is put is got. Conditions: words of 64 bits. -/
import Derived.Test.YtdgnbmcckknfiaaLawX
import Derived.Test.YtdgnbmcckknfiaaEqS
import Derived.Test.YtdgnbmcckknfiaaPln
namespace Go.Proofs.Ytdgnbmcckknfiaa
open Go.RowKit
set_option linter.unusedSimpArgs false
set_option linter.unusedVariables false

theorem inoL_zero {k l t : Int} (h : inoOk k l t = false) : inoL k l t = #[.int .u64 0, .int .u64 0, .int .u64 0, .int .u64 0, .int .u64 0, .int .u64 0, .int .u64 0, .int .u64 0] := (inoL_no h).1
theorem mapL_no {y y0 y1 y2 y3 y4 y5 y6 : Int} (h : mapOk y y0 y1 y2 y3 y4 y5 y6 = false) : mapL y y0 y1 y2 y3 y4 y5 y6 = #[.int .u64 0, .int .u64 0, .int .u64 0, .int .u64 0, .int .u64 0, .int .u64 0, .int .u64 0, .int .u64 0] ∧ mapE y y0 y1 y2 y3 y4 y5 y6 = 2 := by
  unfold mapL mapE
  rw [h]
  exact ⟨rfl, rfl⟩
/-- The first statement of a sequence, and what follows it. -/
def seqA : Code → Code
  | .seq c _ => c
  | c => c
def seqB : Code → Code
  | .seq _ c => c
  | c => c
/-- So many values, one by one. -/
def Cur : Nat → (List Value → Prop) → Prop
  | 0, p => p []
  | n + 1, p => ∀ u : Value, Cur n (fun l => p (u :: l))
theorem cur_all : ∀ (n : Nat) (p : List Value → Prop), Cur n p → ∀ l, l.length = n → p l
  | 0, p, h, l, hl => by
    rw [List.length_eq_zero_iff.1 hl]
    exact h
  | n + 1, p, h, l, hl => by
    cases l with
    | nil => simp at hl
    | cons u l => exact cur_all n (fun l => p (u :: l)) (h u) l (by simpa using hl)
theorem wp_seq_cut {P : Program} {S T : Code} {Q : Exit → Act → World → Prop} {a : Act} {w : World} (R : Act → World → Prop) (h1 : S.wp P (Exit.then R Q) a w) (h2 : ∀ a' w', R a' w' → T.wp P Q a' w') : (Code.seq S T).wp P Q a w := by
  refine wp_seq (wp_mono h1 ?_)
  intro e a' w' h
  cases e with
  | normal => exact h2 _ _ h
  | ret => exact h
  | exit id => exact h
  | goto l => exact h
  | panic ch => exact h
  | outgrown => exact h
/-- What holds between two statements of NodeHolds. -/
def HInv (a b c d e f g h : Nat) (k l t : Int) (y y0 y1 y2 y3 y4 y5 y6 : Int) (n m : Int) (s : ByteArray) (w : World) (a₀ : Act) (W : World) : Prop := ∃ us : List Value, a₀ = ⟨([Value.agg (ln8 a b c d e f g h), Value.agg #[.int .i64 k, .int .i64 l, .int .i64 t], Value.agg #[.int .i64 y, .int .i64 y0, .int .i64 y1, .int .i64 y2, .int .i64 y3, .int .i64 y4, .int .i64 y5, .int .i64 y6], Value.agg #[.int .i64 n, .int .i64 m, .string s], Value.pointer (some ⟨w.heap.size, 0, none⟩), Value.pointer (some ⟨w.heap.size + 1, 0, none⟩), Value.pointer (some ⟨w.heap.size + 1 + 1, 0, none⟩), Value.pointer (some ⟨w.heap.size + 1 + 1 + 1, 0, none⟩)] ++ us).toArray, []⟩ ∧ us.length = 210 ∧
  Blk W w.heap.size 26 (ln8 a b c d e f g h) ∧ Blk W (w.heap.size + 1) 35 #[.int .i64 k, .int .i64 l, .int .i64 t] ∧ Blk W (w.heap.size + 1 + 1) 39 #[.int .i64 y, .int .i64 y0, .int .i64 y1, .int .i64 y2, .int .i64 y3, .int .i64 y4, .int .i64 y5, .int .i64 y6] ∧ Blk W (w.heap.size + 1 + 1 + 1) 23 #[.int .i64 n, .int .i64 m, .string s] ∧ Below w.heap.size w W

set_option maxRecDepth 1000000 in
set_option maxHeartbeats 8000000 in
theorem hold1 (a b c d e f g h : Nat) (k l t : Int) (y y0 y1 y2 y3 y4 y5 y6 : Int) (n m : Int) (s : ByteArray) (ha : a < 18446744073709551616) (hb : b < 18446744073709551616) (hc : c < 18446744073709551616) (hd : d < 18446744073709551616) (he : e < 18446744073709551616) (hf : f < 18446744073709551616) (hg : g < 18446744073709551616) (hh : h < 18446744073709551616) (w W : World) (a₀ : Act) (hI : HInv a b c d e f g h k l t y y0 y1 y2 y3 y4 y5 y6 n m s w a₀ W) (Q : Exit → Act → World → Prop) :
    Code.wp Try.prog (seqA (seqB (seqB (Try.f7.body.getD .skip)))) (Exit.then (HInv a b c d e f g h k l t y y0 y1 y2 y3 y4 y5 y6 n m s w) Q) a₀ W := by
  obtain ⟨us, rfl, hl, B4, B5, B6, B7, hB⟩ := hI
  refine cur_all 210 (fun us => Code.wp Try.prog (seqA (seqB (seqB (Try.f7.body.getD .skip)))) (Exit.then (HInv a b c d e f g h k l t y y0 y1 y2 y3 y4 y5 y6 n m s w) Q) ⟨([Value.agg (ln8 a b c d e f g h), Value.agg #[.int .i64 k, .int .i64 l, .int .i64 t], Value.agg #[.int .i64 y, .int .i64 y0, .int .i64 y1, .int .i64 y2, .int .i64 y3, .int .i64 y4, .int .i64 y5, .int .i64 y6], Value.agg #[.int .i64 n, .int .i64 m, .string s], Value.pointer (some ⟨w.heap.size, 0, none⟩), Value.pointer (some ⟨w.heap.size + 1, 0, none⟩), Value.pointer (some ⟨w.heap.size + 1 + 1, 0, none⟩), Value.pointer (some ⟨w.heap.size + 1 + 1 + 1, 0, none⟩)] ++ us).toArray, []⟩ W) ?_ us hl
  clear hl us
  intro u8 u9 u10 u11 u12 u13 u14 u15 u16 u17 u18 u19 u20 u21 u22 u23 u24 u25 u26 u27 u28 u29 u30 u31 u32 u33 u34 u35 u36 u37 u38 u39 u40 u41 u42 u43 u44 u45 u46 u47 u48 u49 u50 u51 u52 u53 u54 u55 u56 u57 u58 u59 u60 u61 u62 u63 u64 u65 u66 u67 u68 u69 u70 u71 u72 u73 u74 u75 u76 u77 u78 u79 u80 u81 u82 u83 u84 u85 u86 u87 u88 u89 u90 u91 u92 u93 u94 u95 u96 u97 u98 u99 u100 u101 u102 u103 u104 u105 u106 u107 u108 u109 u110 u111 u112 u113 u114 u115 u116 u117 u118 u119 u120 u121 u122 u123 u124 u125 u126 u127 u128 u129 u130 u131 u132 u133 u134 u135 u136 u137 u138 u139 u140 u141 u142 u143 u144 u145 u146 u147 u148 u149 u150 u151 u152 u153 u154 u155 u156 u157 u158 u159 u160 u161 u162 u163 u164 u165 u166 u167 u168 u169 u170 u171 u172 u173 u174 u175 u176 u177 u178 u179 u180 u181 u182 u183 u184 u185 u186 u187 u188 u189 u190 u191 u192 u193 u194 u195 u196 u197 u198 u199 u200 u201 u202 u203 u204 u205 u206 u207 u208 u209 u210 u211 u212 u213 u214 u215 u216 u217
  dsimp only [Cur, List.cons_append, List.nil_append]
  conv => arg 2; whnf
  cases hok : inoOk k l t
  · have E1 := Lib.hid (inoL_no hok)
    clear hok
    go_wp2_with (refine row_load (w.heap.size + 1) 35 _ B5 35 _ rfl rfl rfl _ Try.underlying35 rfl (by kernel_rfl) ?_)
    refine (PutInode_any k l t _).mono ?_
    rintro r w1 ⟨rfl, hb⟩
    rw [E1.out.1, E1.out.2]
    replace B4 := B4.below hb B4.lt
    replace B5 := B5.below hb B5.lt
    replace B6 := B6.below hb B6.lt
    replace B7 := B7.below hb B7.lt
    replace hB := hB.trans (hb.mono hB.size)
    clear hb
    have n1 := Blk.new w1 26 #[.int .u64 0, .int .u64 0, .int .u64 0, .int .u64 0, .int .u64 0, .int .u64 0, .int .u64 0, .int .u64 0]
    have lB4 := B4.lt
    replace B4 := (B4.alloc (.cells #[.int .u64 0, .int .u64 0, .int .u64 0, .int .u64 0, .int .u64 0, .int .u64 0, .int .u64 0, .int .u64 0] 26)).farRow (g' := w1.heap.size) (by omega) (#[.int .u64 0, .int .u64 0, .int .u64 0, .int .u64 0, .int .u64 0, .int .u64 0, .int .u64 0, .int .u64 0])
    clear lB4
    have lB5 := B5.lt
    replace B5 := (B5.alloc (.cells #[.int .u64 0, .int .u64 0, .int .u64 0, .int .u64 0, .int .u64 0, .int .u64 0, .int .u64 0, .int .u64 0] 26)).farRow (g' := w1.heap.size) (by omega) (#[.int .u64 0, .int .u64 0, .int .u64 0, .int .u64 0, .int .u64 0, .int .u64 0, .int .u64 0, .int .u64 0])
    clear lB5
    have lB6 := B6.lt
    replace B6 := (B6.alloc (.cells #[.int .u64 0, .int .u64 0, .int .u64 0, .int .u64 0, .int .u64 0, .int .u64 0, .int .u64 0, .int .u64 0] 26)).farRow (g' := w1.heap.size) (by omega) (#[.int .u64 0, .int .u64 0, .int .u64 0, .int .u64 0, .int .u64 0, .int .u64 0, .int .u64 0, .int .u64 0])
    clear lB6
    have lB7 := B7.lt
    replace B7 := (B7.alloc (.cells #[.int .u64 0, .int .u64 0, .int .u64 0, .int .u64 0, .int .u64 0, .int .u64 0, .int .u64 0, .int .u64 0] 26)).farRow (g' := w1.heap.size) (by omega) (#[.int .u64 0, .int .u64 0, .int .u64 0, .int .u64 0, .int .u64 0, .int .u64 0, .int .u64 0, .int .u64 0])
    clear lB7
    replace hB := below_setRow (hB.alloc hB.size (.cells #[.int .u64 0, .int .u64 0, .int .u64 0, .int .u64 0, .int .u64 0, .int .u64 0, .int .u64 0, .int .u64 0] 26)) (g := w1.heap.size) hB.size (#[.int .u64 0, .int .u64 0, .int .u64 0, .int .u64 0, .int .u64 0, .int .u64 0, .int .u64 0, .int .u64 0])
    go_wp2_with (first | (go_at_call 10; refine (num_any _ _).mono ?_; rintro e w' ⟨rfl, rfl⟩) | (refine row_store (w1.heap.size) 26 _ _ n1 26 _ _ rfl rfl rfl rfl (by kernel_rfl) rfl (by kernel_rfl) ?_))
    exact ⟨_, rfl, rfl, B4, B5, B6, B7, hB⟩
  · obtain ⟨a', b', qa, qb, e1, e2, e3, e4⟩ := ino_get hok
    have E1 := Lib.hid (And.intro e1 (And.intro e2 (And.intro e3 e4)))
    clear hok e1 e2 e3 e4
    have heq := fun W => eqS_inode k l t W
    go_wp2_with (refine row_load (w.heap.size + 1) 35 _ B5 35 _ rfl rfl rfl _ Try.underlying35 rfl (by kernel_rfl) ?_)
    refine (PutInode_any k l t _).mono ?_
    rintro r w1 ⟨rfl, hb⟩
    rw [E1.out.1, E1.out.2.1]
    replace B4 := B4.below hb B4.lt
    replace B5 := B5.below hb B5.lt
    replace B6 := B6.below hb B6.lt
    replace B7 := B7.below hb B7.lt
    replace hB := hB.trans (hb.mono hB.size)
    clear hb
    have n1 := Blk.new w1 26 #[.int .u64 0, .int .u64 0, .int .u64 0, .int .u64 0, .int .u64 0, .int .u64 0, .int .u64 0, .int .u64 0]
    have k1 := n1.setRow (ln8 a' b' 0 0 0 0 0 0)
    have lB4 := B4.lt
    replace B4 := (B4.alloc (.cells #[.int .u64 0, .int .u64 0, .int .u64 0, .int .u64 0, .int .u64 0, .int .u64 0, .int .u64 0, .int .u64 0] 26)).farRow (g' := w1.heap.size) (by omega) (ln8 a' b' 0 0 0 0 0 0)
    clear lB4
    have lB5 := B5.lt
    replace B5 := (B5.alloc (.cells #[.int .u64 0, .int .u64 0, .int .u64 0, .int .u64 0, .int .u64 0, .int .u64 0, .int .u64 0, .int .u64 0] 26)).farRow (g' := w1.heap.size) (by omega) (ln8 a' b' 0 0 0 0 0 0)
    clear lB5
    have lB6 := B6.lt
    replace B6 := (B6.alloc (.cells #[.int .u64 0, .int .u64 0, .int .u64 0, .int .u64 0, .int .u64 0, .int .u64 0, .int .u64 0, .int .u64 0] 26)).farRow (g' := w1.heap.size) (by omega) (ln8 a' b' 0 0 0 0 0 0)
    clear lB6
    have lB7 := B7.lt
    replace B7 := (B7.alloc (.cells #[.int .u64 0, .int .u64 0, .int .u64 0, .int .u64 0, .int .u64 0, .int .u64 0, .int .u64 0, .int .u64 0] 26)).farRow (g' := w1.heap.size) (by omega) (ln8 a' b' 0 0 0 0 0 0)
    clear lB7
    replace hB := below_setRow (hB.alloc hB.size (.cells #[.int .u64 0, .int .u64 0, .int .u64 0, .int .u64 0, .int .u64 0, .int .u64 0, .int .u64 0, .int .u64 0] 26)) (g := w1.heap.size) hB.size (ln8 a' b' 0 0 0 0 0 0)
    go_wp2_with (first | (go_at_call 10; refine (num_any _ _).mono ?_; rintro e w' ⟨rfl, rfl⟩) | (refine row_store (w1.heap.size) 26 _ _ n1 26 _ _ rfl rfl rfl rfl (by kernel_rfl) rfl (by kernel_rfl) ?_) | (refine row_load (w1.heap.size) 26 _ k1 26 _ rfl rfl rfl _ Try.underlying26 rfl (by kernel_rfl) ?_))
    refine (GetInode_any a' b' 0 0 0 0 0 0 qa qb _).mono ?_
    rintro r w2 ⟨rfl, hb⟩
    rw [E1.out.2.2.1, E1.out.2.2.2]
    replace B4 := B4.below hb B4.lt
    replace B5 := B5.below hb B5.lt
    replace B6 := B6.below hb B6.lt
    replace B7 := B7.below hb B7.lt
    replace hB := hB.trans (hb.mono hB.size)
    clear hb
    have n2 := Blk.new w2 35 #[.int .i64 0, .int .i64 0, .int .i64 0]
    have k2 := n2.setRow (#[.int .i64 k, .int .i64 l, .int .i64 t])
    have lB4 := B4.lt
    replace B4 := (B4.alloc (.cells #[.int .i64 0, .int .i64 0, .int .i64 0] 35)).farRow (g' := w2.heap.size) (by omega) (#[.int .i64 k, .int .i64 l, .int .i64 t])
    clear lB4
    have lB5 := B5.lt
    replace B5 := (B5.alloc (.cells #[.int .i64 0, .int .i64 0, .int .i64 0] 35)).farRow (g' := w2.heap.size) (by omega) (#[.int .i64 k, .int .i64 l, .int .i64 t])
    clear lB5
    have lB6 := B6.lt
    replace B6 := (B6.alloc (.cells #[.int .i64 0, .int .i64 0, .int .i64 0] 35)).farRow (g' := w2.heap.size) (by omega) (#[.int .i64 k, .int .i64 l, .int .i64 t])
    clear lB6
    have lB7 := B7.lt
    replace B7 := (B7.alloc (.cells #[.int .i64 0, .int .i64 0, .int .i64 0] 35)).farRow (g' := w2.heap.size) (by omega) (#[.int .i64 k, .int .i64 l, .int .i64 t])
    clear lB7
    replace hB := below_setRow (hB.alloc hB.size (.cells #[.int .i64 0, .int .i64 0, .int .i64 0] 35)) (g := w2.heap.size) hB.size (#[.int .i64 k, .int .i64 l, .int .i64 t])
    clear n1 k1
    go_wp2_with (first | (go_at_call 10; refine (num_any _ _).mono ?_; rintro e w' ⟨rfl, rfl⟩) | (refine row_store (w2.heap.size) 35 _ _ n2 35 _ _ rfl rfl rfl rfl (by kernel_rfl) rfl (by kernel_rfl) ?_) | (refine row_load (w2.heap.size) 35 _ k2 35 _ rfl rfl rfl _ Try.underlying35 rfl (by kernel_rfl) ?_) | (refine row_load (w.heap.size + 1) 35 _ B5 35 _ rfl rfl rfl _ Try.underlying35 rfl (by kernel_rfl) ?_))
    exact ⟨_, rfl, rfl, B4, B5, B6, B7, hB⟩

set_option maxRecDepth 1000000 in
set_option maxHeartbeats 8000000 in
theorem hold2 (a b c d e f g h : Nat) (k l t : Int) (y y0 y1 y2 y3 y4 y5 y6 : Int) (n m : Int) (s : ByteArray) (ha : a < 18446744073709551616) (hb : b < 18446744073709551616) (hc : c < 18446744073709551616) (hd : d < 18446744073709551616) (he : e < 18446744073709551616) (hf : f < 18446744073709551616) (hg : g < 18446744073709551616) (hh : h < 18446744073709551616) (w W : World) (a₀ : Act) (hI : HInv a b c d e f g h k l t y y0 y1 y2 y3 y4 y5 y6 n m s w a₀ W) (Q : Exit → Act → World → Prop) :
    Code.wp Try.prog (seqA (seqB (seqB (seqB (Try.f7.body.getD .skip))))) (Exit.then (HInv a b c d e f g h k l t y y0 y1 y2 y3 y4 y5 y6 n m s w) Q) a₀ W := by
  obtain ⟨us, rfl, hl, B4, B5, B6, B7, hB⟩ := hI
  refine cur_all 210 (fun us => Code.wp Try.prog (seqA (seqB (seqB (seqB (Try.f7.body.getD .skip))))) (Exit.then (HInv a b c d e f g h k l t y y0 y1 y2 y3 y4 y5 y6 n m s w) Q) ⟨([Value.agg (ln8 a b c d e f g h), Value.agg #[.int .i64 k, .int .i64 l, .int .i64 t], Value.agg #[.int .i64 y, .int .i64 y0, .int .i64 y1, .int .i64 y2, .int .i64 y3, .int .i64 y4, .int .i64 y5, .int .i64 y6], Value.agg #[.int .i64 n, .int .i64 m, .string s], Value.pointer (some ⟨w.heap.size, 0, none⟩), Value.pointer (some ⟨w.heap.size + 1, 0, none⟩), Value.pointer (some ⟨w.heap.size + 1 + 1, 0, none⟩), Value.pointer (some ⟨w.heap.size + 1 + 1 + 1, 0, none⟩)] ++ us).toArray, []⟩ W) ?_ us hl
  clear hl us
  intro u8 u9 u10 u11 u12 u13 u14 u15 u16 u17 u18 u19 u20 u21 u22 u23 u24 u25 u26 u27 u28 u29 u30 u31 u32 u33 u34 u35 u36 u37 u38 u39 u40 u41 u42 u43 u44 u45 u46 u47 u48 u49 u50 u51 u52 u53 u54 u55 u56 u57 u58 u59 u60 u61 u62 u63 u64 u65 u66 u67 u68 u69 u70 u71 u72 u73 u74 u75 u76 u77 u78 u79 u80 u81 u82 u83 u84 u85 u86 u87 u88 u89 u90 u91 u92 u93 u94 u95 u96 u97 u98 u99 u100 u101 u102 u103 u104 u105 u106 u107 u108 u109 u110 u111 u112 u113 u114 u115 u116 u117 u118 u119 u120 u121 u122 u123 u124 u125 u126 u127 u128 u129 u130 u131 u132 u133 u134 u135 u136 u137 u138 u139 u140 u141 u142 u143 u144 u145 u146 u147 u148 u149 u150 u151 u152 u153 u154 u155 u156 u157 u158 u159 u160 u161 u162 u163 u164 u165 u166 u167 u168 u169 u170 u171 u172 u173 u174 u175 u176 u177 u178 u179 u180 u181 u182 u183 u184 u185 u186 u187 u188 u189 u190 u191 u192 u193 u194 u195 u196 u197 u198 u199 u200 u201 u202 u203 u204 u205 u206 u207 u208 u209 u210 u211 u212 u213 u214 u215 u216 u217
  dsimp only [Cur, List.cons_append, List.nil_append]
  conv => arg 2; whnf
  cases hok : mapOk y y0 y1 y2 y3 y4 y5 y6
  · have E1 := Lib.hid (mapL_no hok)
    clear hok
    go_wp2_with (refine row_load (w.heap.size + 1 + 1) 39 _ B6 39 _ rfl rfl rfl _ Try.underlying39 rfl (by kernel_rfl) ?_)
    refine (PutMap_any y y0 y1 y2 y3 y4 y5 y6 _).mono ?_
    rintro r w1 ⟨rfl, hb⟩
    rw [E1.out.1, E1.out.2]
    replace B4 := B4.below hb B4.lt
    replace B5 := B5.below hb B5.lt
    replace B6 := B6.below hb B6.lt
    replace B7 := B7.below hb B7.lt
    replace hB := hB.trans (hb.mono hB.size)
    clear hb
    have n1 := Blk.new w1 26 #[.int .u64 0, .int .u64 0, .int .u64 0, .int .u64 0, .int .u64 0, .int .u64 0, .int .u64 0, .int .u64 0]
    have lB4 := B4.lt
    replace B4 := (B4.alloc (.cells #[.int .u64 0, .int .u64 0, .int .u64 0, .int .u64 0, .int .u64 0, .int .u64 0, .int .u64 0, .int .u64 0] 26)).farRow (g' := w1.heap.size) (by omega) (#[.int .u64 0, .int .u64 0, .int .u64 0, .int .u64 0, .int .u64 0, .int .u64 0, .int .u64 0, .int .u64 0])
    clear lB4
    have lB5 := B5.lt
    replace B5 := (B5.alloc (.cells #[.int .u64 0, .int .u64 0, .int .u64 0, .int .u64 0, .int .u64 0, .int .u64 0, .int .u64 0, .int .u64 0] 26)).farRow (g' := w1.heap.size) (by omega) (#[.int .u64 0, .int .u64 0, .int .u64 0, .int .u64 0, .int .u64 0, .int .u64 0, .int .u64 0, .int .u64 0])
    clear lB5
    have lB6 := B6.lt
    replace B6 := (B6.alloc (.cells #[.int .u64 0, .int .u64 0, .int .u64 0, .int .u64 0, .int .u64 0, .int .u64 0, .int .u64 0, .int .u64 0] 26)).farRow (g' := w1.heap.size) (by omega) (#[.int .u64 0, .int .u64 0, .int .u64 0, .int .u64 0, .int .u64 0, .int .u64 0, .int .u64 0, .int .u64 0])
    clear lB6
    have lB7 := B7.lt
    replace B7 := (B7.alloc (.cells #[.int .u64 0, .int .u64 0, .int .u64 0, .int .u64 0, .int .u64 0, .int .u64 0, .int .u64 0, .int .u64 0] 26)).farRow (g' := w1.heap.size) (by omega) (#[.int .u64 0, .int .u64 0, .int .u64 0, .int .u64 0, .int .u64 0, .int .u64 0, .int .u64 0, .int .u64 0])
    clear lB7
    replace hB := below_setRow (hB.alloc hB.size (.cells #[.int .u64 0, .int .u64 0, .int .u64 0, .int .u64 0, .int .u64 0, .int .u64 0, .int .u64 0, .int .u64 0] 26)) (g := w1.heap.size) hB.size (#[.int .u64 0, .int .u64 0, .int .u64 0, .int .u64 0, .int .u64 0, .int .u64 0, .int .u64 0, .int .u64 0])
    go_wp2_with (first | (go_at_call 10; refine (num_any _ _).mono ?_; rintro e w' ⟨rfl, rfl⟩) | (refine row_store (w1.heap.size) 26 _ _ n1 26 _ _ rfl rfl rfl rfl (by kernel_rfl) rfl (by kernel_rfl) ?_))
    exact ⟨_, rfl, rfl, B4, B5, B6, B7, hB⟩
  · obtain ⟨a', b', c', d', e', f', g', h', qa, qb, qc, qd, qe, qf, qg, qh, e1, e2, e3, e4⟩ := map_get hok
    have E1 := Lib.hid (And.intro e1 (And.intro e2 (And.intro e3 e4)))
    clear hok e1 e2 e3 e4
    have heq := fun W => eqS_map y y0 y1 y2 y3 y4 y5 y6 W
    go_wp2_with (refine row_load (w.heap.size + 1 + 1) 39 _ B6 39 _ rfl rfl rfl _ Try.underlying39 rfl (by kernel_rfl) ?_)
    refine (PutMap_any y y0 y1 y2 y3 y4 y5 y6 _).mono ?_
    rintro r w1 ⟨rfl, hb⟩
    rw [E1.out.1, E1.out.2.1]
    replace B4 := B4.below hb B4.lt
    replace B5 := B5.below hb B5.lt
    replace B6 := B6.below hb B6.lt
    replace B7 := B7.below hb B7.lt
    replace hB := hB.trans (hb.mono hB.size)
    clear hb
    have n1 := Blk.new w1 26 #[.int .u64 0, .int .u64 0, .int .u64 0, .int .u64 0, .int .u64 0, .int .u64 0, .int .u64 0, .int .u64 0]
    have k1 := n1.setRow (ln8 a' b' c' d' e' f' g' h')
    have lB4 := B4.lt
    replace B4 := (B4.alloc (.cells #[.int .u64 0, .int .u64 0, .int .u64 0, .int .u64 0, .int .u64 0, .int .u64 0, .int .u64 0, .int .u64 0] 26)).farRow (g' := w1.heap.size) (by omega) (ln8 a' b' c' d' e' f' g' h')
    clear lB4
    have lB5 := B5.lt
    replace B5 := (B5.alloc (.cells #[.int .u64 0, .int .u64 0, .int .u64 0, .int .u64 0, .int .u64 0, .int .u64 0, .int .u64 0, .int .u64 0] 26)).farRow (g' := w1.heap.size) (by omega) (ln8 a' b' c' d' e' f' g' h')
    clear lB5
    have lB6 := B6.lt
    replace B6 := (B6.alloc (.cells #[.int .u64 0, .int .u64 0, .int .u64 0, .int .u64 0, .int .u64 0, .int .u64 0, .int .u64 0, .int .u64 0] 26)).farRow (g' := w1.heap.size) (by omega) (ln8 a' b' c' d' e' f' g' h')
    clear lB6
    have lB7 := B7.lt
    replace B7 := (B7.alloc (.cells #[.int .u64 0, .int .u64 0, .int .u64 0, .int .u64 0, .int .u64 0, .int .u64 0, .int .u64 0, .int .u64 0] 26)).farRow (g' := w1.heap.size) (by omega) (ln8 a' b' c' d' e' f' g' h')
    clear lB7
    replace hB := below_setRow (hB.alloc hB.size (.cells #[.int .u64 0, .int .u64 0, .int .u64 0, .int .u64 0, .int .u64 0, .int .u64 0, .int .u64 0, .int .u64 0] 26)) (g := w1.heap.size) hB.size (ln8 a' b' c' d' e' f' g' h')
    go_wp2_with (first | (go_at_call 10; refine (num_any _ _).mono ?_; rintro e w' ⟨rfl, rfl⟩) | (refine row_store (w1.heap.size) 26 _ _ n1 26 _ _ rfl rfl rfl rfl (by kernel_rfl) rfl (by kernel_rfl) ?_) | (refine row_load (w1.heap.size) 26 _ k1 26 _ rfl rfl rfl _ Try.underlying26 rfl (by kernel_rfl) ?_))
    refine (GetMap_any a' b' c' d' e' f' g' h' qa qb qc qd qe qf qg qh _).mono ?_
    rintro r w2 ⟨rfl, hb⟩
    rw [E1.out.2.2.1, E1.out.2.2.2]
    replace B4 := B4.below hb B4.lt
    replace B5 := B5.below hb B5.lt
    replace B6 := B6.below hb B6.lt
    replace B7 := B7.below hb B7.lt
    replace hB := hB.trans (hb.mono hB.size)
    clear hb
    have n2 := Blk.new w2 39 #[.int .i64 0, .int .i64 0, .int .i64 0, .int .i64 0, .int .i64 0, .int .i64 0, .int .i64 0, .int .i64 0]
    have k2 := n2.setRow (#[.int .i64 y, .int .i64 y0, .int .i64 y1, .int .i64 y2, .int .i64 y3, .int .i64 y4, .int .i64 y5, .int .i64 y6])
    have lB4 := B4.lt
    replace B4 := (B4.alloc (.cells #[.int .i64 0, .int .i64 0, .int .i64 0, .int .i64 0, .int .i64 0, .int .i64 0, .int .i64 0, .int .i64 0] 39)).farRow (g' := w2.heap.size) (by omega) (#[.int .i64 y, .int .i64 y0, .int .i64 y1, .int .i64 y2, .int .i64 y3, .int .i64 y4, .int .i64 y5, .int .i64 y6])
    clear lB4
    have lB5 := B5.lt
    replace B5 := (B5.alloc (.cells #[.int .i64 0, .int .i64 0, .int .i64 0, .int .i64 0, .int .i64 0, .int .i64 0, .int .i64 0, .int .i64 0] 39)).farRow (g' := w2.heap.size) (by omega) (#[.int .i64 y, .int .i64 y0, .int .i64 y1, .int .i64 y2, .int .i64 y3, .int .i64 y4, .int .i64 y5, .int .i64 y6])
    clear lB5
    have lB6 := B6.lt
    replace B6 := (B6.alloc (.cells #[.int .i64 0, .int .i64 0, .int .i64 0, .int .i64 0, .int .i64 0, .int .i64 0, .int .i64 0, .int .i64 0] 39)).farRow (g' := w2.heap.size) (by omega) (#[.int .i64 y, .int .i64 y0, .int .i64 y1, .int .i64 y2, .int .i64 y3, .int .i64 y4, .int .i64 y5, .int .i64 y6])
    clear lB6
    have lB7 := B7.lt
    replace B7 := (B7.alloc (.cells #[.int .i64 0, .int .i64 0, .int .i64 0, .int .i64 0, .int .i64 0, .int .i64 0, .int .i64 0, .int .i64 0] 39)).farRow (g' := w2.heap.size) (by omega) (#[.int .i64 y, .int .i64 y0, .int .i64 y1, .int .i64 y2, .int .i64 y3, .int .i64 y4, .int .i64 y5, .int .i64 y6])
    clear lB7
    replace hB := below_setRow (hB.alloc hB.size (.cells #[.int .i64 0, .int .i64 0, .int .i64 0, .int .i64 0, .int .i64 0, .int .i64 0, .int .i64 0, .int .i64 0] 39)) (g := w2.heap.size) hB.size (#[.int .i64 y, .int .i64 y0, .int .i64 y1, .int .i64 y2, .int .i64 y3, .int .i64 y4, .int .i64 y5, .int .i64 y6])
    clear n1 k1
    go_wp2_with (first | (go_at_call 10; refine (num_any _ _).mono ?_; rintro e w' ⟨rfl, rfl⟩) | (refine row_store (w2.heap.size) 39 _ _ n2 39 _ _ rfl rfl rfl rfl (by kernel_rfl) rfl (by kernel_rfl) ?_) | (refine row_load (w2.heap.size) 39 _ k2 39 _ rfl rfl rfl _ Try.underlying39 rfl (by kernel_rfl) ?_) | (refine row_load (w.heap.size + 1 + 1) 39 _ B6 39 _ rfl rfl rfl _ Try.underlying39 rfl (by kernel_rfl) ?_))
    exact ⟨_, rfl, rfl, B4, B5, B6, B7, hB⟩

set_option maxRecDepth 1000000 in
set_option maxHeartbeats 8000000 in
theorem hold3 (a b c d e f g h : Nat) (k l t : Int) (y y0 y1 y2 y3 y4 y5 y6 : Int) (n m : Int) (s : ByteArray) (ha : a < 18446744073709551616) (hb : b < 18446744073709551616) (hc : c < 18446744073709551616) (hd : d < 18446744073709551616) (he : e < 18446744073709551616) (hf : f < 18446744073709551616) (hg : g < 18446744073709551616) (hh : h < 18446744073709551616) (w W : World) (a₀ : Act) (hI : HInv a b c d e f g h k l t y y0 y1 y2 y3 y4 y5 y6 n m s w a₀ W) (Q : Exit → Act → World → Prop) :
    Code.wp Try.prog (seqA (seqB (seqB (seqB (seqB (Try.f7.body.getD .skip)))))) (Exit.then (HInv a b c d e f g h k l t y y0 y1 y2 y3 y4 y5 y6 n m s w) Q) a₀ W := by
  obtain ⟨us, rfl, hl, B4, B5, B6, B7, hB⟩ := hI
  refine cur_all 210 (fun us => Code.wp Try.prog (seqA (seqB (seqB (seqB (seqB (Try.f7.body.getD .skip)))))) (Exit.then (HInv a b c d e f g h k l t y y0 y1 y2 y3 y4 y5 y6 n m s w) Q) ⟨([Value.agg (ln8 a b c d e f g h), Value.agg #[.int .i64 k, .int .i64 l, .int .i64 t], Value.agg #[.int .i64 y, .int .i64 y0, .int .i64 y1, .int .i64 y2, .int .i64 y3, .int .i64 y4, .int .i64 y5, .int .i64 y6], Value.agg #[.int .i64 n, .int .i64 m, .string s], Value.pointer (some ⟨w.heap.size, 0, none⟩), Value.pointer (some ⟨w.heap.size + 1, 0, none⟩), Value.pointer (some ⟨w.heap.size + 1 + 1, 0, none⟩), Value.pointer (some ⟨w.heap.size + 1 + 1 + 1, 0, none⟩)] ++ us).toArray, []⟩ W) ?_ us hl
  clear hl us
  intro u8 u9 u10 u11 u12 u13 u14 u15 u16 u17 u18 u19 u20 u21 u22 u23 u24 u25 u26 u27 u28 u29 u30 u31 u32 u33 u34 u35 u36 u37 u38 u39 u40 u41 u42 u43 u44 u45 u46 u47 u48 u49 u50 u51 u52 u53 u54 u55 u56 u57 u58 u59 u60 u61 u62 u63 u64 u65 u66 u67 u68 u69 u70 u71 u72 u73 u74 u75 u76 u77 u78 u79 u80 u81 u82 u83 u84 u85 u86 u87 u88 u89 u90 u91 u92 u93 u94 u95 u96 u97 u98 u99 u100 u101 u102 u103 u104 u105 u106 u107 u108 u109 u110 u111 u112 u113 u114 u115 u116 u117 u118 u119 u120 u121 u122 u123 u124 u125 u126 u127 u128 u129 u130 u131 u132 u133 u134 u135 u136 u137 u138 u139 u140 u141 u142 u143 u144 u145 u146 u147 u148 u149 u150 u151 u152 u153 u154 u155 u156 u157 u158 u159 u160 u161 u162 u163 u164 u165 u166 u167 u168 u169 u170 u171 u172 u173 u174 u175 u176 u177 u178 u179 u180 u181 u182 u183 u184 u185 u186 u187 u188 u189 u190 u191 u192 u193 u194 u195 u196 u197 u198 u199 u200 u201 u202 u203 u204 u205 u206 u207 u208 u209 u210 u211 u212 u213 u214 u215 u216 u217
  dsimp only [Cur, List.cons_append, List.nil_append]
  conv => arg 2; whnf
  cases hok : entOk n m s
  · have E1 := Lib.hid (entL_no hok)
    clear hok
    go_wp2_with (refine row_load (w.heap.size + 1 + 1 + 1) 23 _ B7 23 _ rfl rfl rfl _ Try.underlying23 rfl (by kernel_rfl) ?_)
    refine (PutEntry_any n m s _).mono ?_
    rintro r w1 ⟨rfl, hb⟩
    rw [E1.out.1, E1.out.2]
    replace B4 := B4.below hb B4.lt
    replace B5 := B5.below hb B5.lt
    replace B6 := B6.below hb B6.lt
    replace B7 := B7.below hb B7.lt
    replace hB := hB.trans (hb.mono hB.size)
    clear hb
    have n1 := Blk.new w1 26 #[.int .u64 0, .int .u64 0, .int .u64 0, .int .u64 0, .int .u64 0, .int .u64 0, .int .u64 0, .int .u64 0]
    have lB4 := B4.lt
    replace B4 := (B4.alloc (.cells #[.int .u64 0, .int .u64 0, .int .u64 0, .int .u64 0, .int .u64 0, .int .u64 0, .int .u64 0, .int .u64 0] 26)).farRow (g' := w1.heap.size) (by omega) (#[.int .u64 0, .int .u64 0, .int .u64 0, .int .u64 0, .int .u64 0, .int .u64 0, .int .u64 0, .int .u64 0])
    clear lB4
    have lB5 := B5.lt
    replace B5 := (B5.alloc (.cells #[.int .u64 0, .int .u64 0, .int .u64 0, .int .u64 0, .int .u64 0, .int .u64 0, .int .u64 0, .int .u64 0] 26)).farRow (g' := w1.heap.size) (by omega) (#[.int .u64 0, .int .u64 0, .int .u64 0, .int .u64 0, .int .u64 0, .int .u64 0, .int .u64 0, .int .u64 0])
    clear lB5
    have lB6 := B6.lt
    replace B6 := (B6.alloc (.cells #[.int .u64 0, .int .u64 0, .int .u64 0, .int .u64 0, .int .u64 0, .int .u64 0, .int .u64 0, .int .u64 0] 26)).farRow (g' := w1.heap.size) (by omega) (#[.int .u64 0, .int .u64 0, .int .u64 0, .int .u64 0, .int .u64 0, .int .u64 0, .int .u64 0, .int .u64 0])
    clear lB6
    have lB7 := B7.lt
    replace B7 := (B7.alloc (.cells #[.int .u64 0, .int .u64 0, .int .u64 0, .int .u64 0, .int .u64 0, .int .u64 0, .int .u64 0, .int .u64 0] 26)).farRow (g' := w1.heap.size) (by omega) (#[.int .u64 0, .int .u64 0, .int .u64 0, .int .u64 0, .int .u64 0, .int .u64 0, .int .u64 0, .int .u64 0])
    clear lB7
    replace hB := below_setRow (hB.alloc hB.size (.cells #[.int .u64 0, .int .u64 0, .int .u64 0, .int .u64 0, .int .u64 0, .int .u64 0, .int .u64 0, .int .u64 0] 26)) (g := w1.heap.size) hB.size (#[.int .u64 0, .int .u64 0, .int .u64 0, .int .u64 0, .int .u64 0, .int .u64 0, .int .u64 0, .int .u64 0])
    go_wp2_with (first | (go_at_call 10; refine (num_any _ _).mono ?_; rintro e w' ⟨rfl, rfl⟩) | (refine row_store (w1.heap.size) 26 _ _ n1 26 _ _ rfl rfl rfl rfl (by kernel_rfl) rfl (by kernel_rfl) ?_))
    exact ⟨_, rfl, rfl, B4, B5, B6, B7, hB⟩
  · obtain ⟨a', b', c', d', e', f', g', h', qa, qb, qc, qd, qe, qf, qg, qh, e1, e2, e3, e4⟩ := ent_get hok
    have E1 := Lib.hid (And.intro e1 (And.intro e2 (And.intro e3 e4)))
    clear hok e1 e2 e3 e4
    have heq := fun W => eqS_entry n m s W
    go_wp2_with (refine row_load (w.heap.size + 1 + 1 + 1) 23 _ B7 23 _ rfl rfl rfl _ Try.underlying23 rfl (by kernel_rfl) ?_)
    refine (PutEntry_any n m s _).mono ?_
    rintro r w1 ⟨rfl, hb⟩
    rw [E1.out.1, E1.out.2.1]
    replace B4 := B4.below hb B4.lt
    replace B5 := B5.below hb B5.lt
    replace B6 := B6.below hb B6.lt
    replace B7 := B7.below hb B7.lt
    replace hB := hB.trans (hb.mono hB.size)
    clear hb
    have n1 := Blk.new w1 26 #[.int .u64 0, .int .u64 0, .int .u64 0, .int .u64 0, .int .u64 0, .int .u64 0, .int .u64 0, .int .u64 0]
    have k1 := n1.setRow (ln8 a' b' c' d' e' f' g' h')
    have lB4 := B4.lt
    replace B4 := (B4.alloc (.cells #[.int .u64 0, .int .u64 0, .int .u64 0, .int .u64 0, .int .u64 0, .int .u64 0, .int .u64 0, .int .u64 0] 26)).farRow (g' := w1.heap.size) (by omega) (ln8 a' b' c' d' e' f' g' h')
    clear lB4
    have lB5 := B5.lt
    replace B5 := (B5.alloc (.cells #[.int .u64 0, .int .u64 0, .int .u64 0, .int .u64 0, .int .u64 0, .int .u64 0, .int .u64 0, .int .u64 0] 26)).farRow (g' := w1.heap.size) (by omega) (ln8 a' b' c' d' e' f' g' h')
    clear lB5
    have lB6 := B6.lt
    replace B6 := (B6.alloc (.cells #[.int .u64 0, .int .u64 0, .int .u64 0, .int .u64 0, .int .u64 0, .int .u64 0, .int .u64 0, .int .u64 0] 26)).farRow (g' := w1.heap.size) (by omega) (ln8 a' b' c' d' e' f' g' h')
    clear lB6
    have lB7 := B7.lt
    replace B7 := (B7.alloc (.cells #[.int .u64 0, .int .u64 0, .int .u64 0, .int .u64 0, .int .u64 0, .int .u64 0, .int .u64 0, .int .u64 0] 26)).farRow (g' := w1.heap.size) (by omega) (ln8 a' b' c' d' e' f' g' h')
    clear lB7
    replace hB := below_setRow (hB.alloc hB.size (.cells #[.int .u64 0, .int .u64 0, .int .u64 0, .int .u64 0, .int .u64 0, .int .u64 0, .int .u64 0, .int .u64 0] 26)) (g := w1.heap.size) hB.size (ln8 a' b' c' d' e' f' g' h')
    go_wp2_with (first | (go_at_call 10; refine (num_any _ _).mono ?_; rintro e w' ⟨rfl, rfl⟩) | (refine row_store (w1.heap.size) 26 _ _ n1 26 _ _ rfl rfl rfl rfl (by kernel_rfl) rfl (by kernel_rfl) ?_) | (refine row_load (w1.heap.size) 26 _ k1 26 _ rfl rfl rfl _ Try.underlying26 rfl (by kernel_rfl) ?_))
    refine (GetEntry_any a' b' c' d' e' f' g' h' qa qb qc qd qe qf qg qh _).mono ?_
    rintro r w2 ⟨rfl, hb⟩
    rw [E1.out.2.2.1, E1.out.2.2.2]
    replace B4 := B4.below hb B4.lt
    replace B5 := B5.below hb B5.lt
    replace B6 := B6.below hb B6.lt
    replace B7 := B7.below hb B7.lt
    replace hB := hB.trans (hb.mono hB.size)
    clear hb
    have n2 := Blk.new w2 23 #[.int .i64 0, .int .i64 0, .string ⟨#[]⟩]
    have k2 := n2.setRow (#[.int .i64 n, .int .i64 m, .string s])
    have lB4 := B4.lt
    replace B4 := (B4.alloc (.cells #[.int .i64 0, .int .i64 0, .string ⟨#[]⟩] 23)).farRow (g' := w2.heap.size) (by omega) (#[.int .i64 n, .int .i64 m, .string s])
    clear lB4
    have lB5 := B5.lt
    replace B5 := (B5.alloc (.cells #[.int .i64 0, .int .i64 0, .string ⟨#[]⟩] 23)).farRow (g' := w2.heap.size) (by omega) (#[.int .i64 n, .int .i64 m, .string s])
    clear lB5
    have lB6 := B6.lt
    replace B6 := (B6.alloc (.cells #[.int .i64 0, .int .i64 0, .string ⟨#[]⟩] 23)).farRow (g' := w2.heap.size) (by omega) (#[.int .i64 n, .int .i64 m, .string s])
    clear lB6
    have lB7 := B7.lt
    replace B7 := (B7.alloc (.cells #[.int .i64 0, .int .i64 0, .string ⟨#[]⟩] 23)).farRow (g' := w2.heap.size) (by omega) (#[.int .i64 n, .int .i64 m, .string s])
    clear lB7
    replace hB := below_setRow (hB.alloc hB.size (.cells #[.int .i64 0, .int .i64 0, .string ⟨#[]⟩] 23)) (g := w2.heap.size) hB.size (#[.int .i64 n, .int .i64 m, .string s])
    clear n1 k1
    go_wp2_with (first | (go_at_call 10; refine (num_any _ _).mono ?_; rintro e w' ⟨rfl, rfl⟩) | (refine row_store (w2.heap.size) 23 _ _ n2 23 _ _ rfl rfl rfl rfl (by kernel_rfl) rfl (by kernel_rfl) ?_) | (refine row_load (w2.heap.size) 23 _ k2 23 _ rfl rfl rfl _ Try.underlying23 rfl (by kernel_rfl) ?_) | (refine row_load (w.heap.size + 1 + 1 + 1) 23 _ B7 23 _ rfl rfl rfl _ Try.underlying23 rfl (by kernel_rfl) ?_))
    exact ⟨_, rfl, rfl, B4, B5, B6, B7, hB⟩
end Go.Proofs.Ytdgnbmcckknfiaa
