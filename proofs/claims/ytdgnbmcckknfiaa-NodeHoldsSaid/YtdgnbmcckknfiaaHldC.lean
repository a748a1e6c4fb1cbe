/- The second part of NodeHolds: what is got is put, of tables and super lines. Conditions: words of 64 bits. -/
import Derived.Test.YtdgnbmcckknfiaaHldA
namespace Go.Proofs.Ytdgnbmcckknfiaa
open Go.RowKit
set_option linter.unusedSimpArgs false
set_option linter.unusedVariables false

set_option maxRecDepth 1000000 in
set_option maxHeartbeats 8000000 in
theorem hold6 (a b c d e f g h : Nat) (k l t : Int) (y y0 y1 y2 y3 y4 y5 y6 : Int) (n m : Int) (s : ByteArray) (ha : a < 18446744073709551616) (hb : b < 18446744073709551616) (hc : c < 18446744073709551616) (hd : d < 18446744073709551616) (he : e < 18446744073709551616) (hf : f < 18446744073709551616) (hg : g < 18446744073709551616) (hh : h < 18446744073709551616) (w W : World) (a₀ : Act) (hI : HInv a b c d e f g h k l t y y0 y1 y2 y3 y4 y5 y6 n m s w a₀ W) (Q : Exit → Act → World → Prop) :
    Code.wp Try.prog (seqA (seqB (seqB (seqB (seqB (seqB (seqB (seqB (Try.f7.body.getD .skip))))))))) (Exit.then (HInv a b c d e f g h k l t y y0 y1 y2 y3 y4 y5 y6 n m s w) Q) a₀ W := by
  obtain ⟨us, rfl, hl, B4, B5, B6, B7, hB⟩ := hI
  refine cur_all 210 (fun us => Code.wp Try.prog (seqA (seqB (seqB (seqB (seqB (seqB (seqB (seqB (Try.f7.body.getD .skip))))))))) (Exit.then (HInv a b c d e f g h k l t y y0 y1 y2 y3 y4 y5 y6 n m s w) Q) ⟨([Value.agg (ln8 a b c d e f g h), Value.agg #[.int .i64 k, .int .i64 l, .int .i64 t], Value.agg #[.int .i64 y, .int .i64 y0, .int .i64 y1, .int .i64 y2, .int .i64 y3, .int .i64 y4, .int .i64 y5, .int .i64 y6], Value.agg #[.int .i64 n, .int .i64 m, .string s], Value.pointer (some ⟨w.heap.size, 0, none⟩), Value.pointer (some ⟨w.heap.size + 1, 0, none⟩), Value.pointer (some ⟨w.heap.size + 1 + 1, 0, none⟩), Value.pointer (some ⟨w.heap.size + 1 + 1 + 1, 0, none⟩)] ++ us).toArray, []⟩ W) ?_ us hl
  clear hl us
  intro u8 u9 u10 u11 u12 u13 u14 u15 u16 u17 u18 u19 u20 u21 u22 u23 u24 u25 u26 u27 u28 u29 u30 u31 u32 u33 u34 u35 u36 u37 u38 u39 u40 u41 u42 u43 u44 u45 u46 u47 u48 u49 u50 u51 u52 u53 u54 u55 u56 u57 u58 u59 u60 u61 u62 u63 u64 u65 u66 u67 u68 u69 u70 u71 u72 u73 u74 u75 u76 u77 u78 u79 u80 u81 u82 u83 u84 u85 u86 u87 u88 u89 u90 u91 u92 u93 u94 u95 u96 u97 u98 u99 u100 u101 u102 u103 u104 u105 u106 u107 u108 u109 u110 u111 u112 u113 u114 u115 u116 u117 u118 u119 u120 u121 u122 u123 u124 u125 u126 u127 u128 u129 u130 u131 u132 u133 u134 u135 u136 u137 u138 u139 u140 u141 u142 u143 u144 u145 u146 u147 u148 u149 u150 u151 u152 u153 u154 u155 u156 u157 u158 u159 u160 u161 u162 u163 u164 u165 u166 u167 u168 u169 u170 u171 u172 u173 u174 u175 u176 u177 u178 u179 u180 u181 u182 u183 u184 u185 u186 u187 u188 u189 u190 u191 u192 u193 u194 u195 u196 u197 u198 u199 u200 u201 u202 u203 u204 u205 u206 u207 u208 u209 u210 u211 u212 u213 u214 u215 u216 u217
  dsimp only [Cur, List.cons_append, List.nil_append]
  conv => arg 2; whnf
  cases his : tabIs a b c d e f g h
  · have E1 := Lib.hid (tab_not a b c d e f g h his)
    have hs1 := tabIsV_size a b c d e f g h
    have ho1 := tabIsV_one a b c d e f g h
    obtain ⟨V1, hV1⟩ : ∃ V, tabIsV a b c d e f g h = V := ⟨_, rfl⟩
    rw [hV1] at hs1 ho1
    have HV1 := Lib.hid hV1
    clear his hV1
    go_wp2_with (refine row_load (w.heap.size) 26 _ B4 26 _ rfl rfl rfl _ Try.underlying26 rfl (by kernel_rfl) ?_)
    refine (GetTable_any a b c d e f g h ha hb hc hd he hf hg _).mono ?_
    rintro r w1 ⟨rfl, hb⟩
    rw [E1.out, HV1.out]
    replace B4 := B4.below hb B4.lt
    replace B5 := B5.below hb B5.lt
    replace B6 := B6.below hb B6.lt
    replace B7 := B7.below hb B7.lt
    replace hB := hB.trans (hb.mono hB.size)
    clear hb
    have n1 := Blk.new w1 53 #[.int .i64 0, .int .i64 0, .int .i64 0, .int .i64 0, .int .i64 0, .int .i64 0, .int .i64 0]
    have lB4 := B4.lt
    replace B4 := (B4.alloc (.cells #[.int .i64 0, .int .i64 0, .int .i64 0, .int .i64 0, .int .i64 0, .int .i64 0, .int .i64 0] 53)).farRow (g' := w1.heap.size) (by omega) (V1)
    clear lB4
    have lB5 := B5.lt
    replace B5 := (B5.alloc (.cells #[.int .i64 0, .int .i64 0, .int .i64 0, .int .i64 0, .int .i64 0, .int .i64 0, .int .i64 0] 53)).farRow (g' := w1.heap.size) (by omega) (V1)
    clear lB5
    have lB6 := B6.lt
    replace B6 := (B6.alloc (.cells #[.int .i64 0, .int .i64 0, .int .i64 0, .int .i64 0, .int .i64 0, .int .i64 0, .int .i64 0] 53)).farRow (g' := w1.heap.size) (by omega) (V1)
    clear lB6
    have lB7 := B7.lt
    replace B7 := (B7.alloc (.cells #[.int .i64 0, .int .i64 0, .int .i64 0, .int .i64 0, .int .i64 0, .int .i64 0, .int .i64 0] 53)).farRow (g' := w1.heap.size) (by omega) (V1)
    clear lB7
    replace hB := below_setRow (hB.alloc hB.size (.cells #[.int .i64 0, .int .i64 0, .int .i64 0, .int .i64 0, .int .i64 0, .int .i64 0, .int .i64 0] 53)) (g := w1.heap.size) hB.size (V1)
    go_wp2_with (first | (go_at_call 10; refine (num_any _ _).mono ?_; rintro e w' ⟨rfl, rfl⟩) | (refine row_store (w1.heap.size) 53 _ _ n1 53 _ _ rfl rfl rfl rfl (by rw [hs1]; kernel_rfl) (by rw [hs1]; rfl) ho1 ?_))
    exact ⟨_, rfl, rfl, B4, B5, B6, B7, hB⟩
  · have E1 := Lib.hid (tab_got a b c d e f g h his)
    have E2 := Lib.hid (tab_put a b c d e f g h his)
    clear his
    have heq := fun W => eqS_line a b c d e f g h W
    go_wp2_with (refine row_load (w.heap.size) 26 _ B4 26 _ rfl rfl rfl _ Try.underlying26 rfl (by kernel_rfl) ?_)
    refine (GetTable_any a b c d e f g h ha hb hc hd he hf hg _).mono ?_
    rintro r w1 ⟨rfl, hb⟩
    rw [E1.out.1, E1.out.2]
    replace B4 := B4.below hb B4.lt
    replace B5 := B5.below hb B5.lt
    replace B6 := B6.below hb B6.lt
    replace B7 := B7.below hb B7.lt
    replace hB := hB.trans (hb.mono hB.size)
    clear hb
    have n1 := Blk.new w1 53 #[.int .i64 0, .int .i64 0, .int .i64 0, .int .i64 0, .int .i64 0, .int .i64 0, .int .i64 0]
    have k1 := n1.setRow (#[.int .i64 (smallI a), .int .i64 (smallI b), .int .i64 (smallI c), .int .i64 (smallI d), .int .i64 (smallI e), .int .i64 (smallI f), .int .i64 (smallI g)])
    have lB4 := B4.lt
    replace B4 := (B4.alloc (.cells #[.int .i64 0, .int .i64 0, .int .i64 0, .int .i64 0, .int .i64 0, .int .i64 0, .int .i64 0] 53)).farRow (g' := w1.heap.size) (by omega) (#[.int .i64 (smallI a), .int .i64 (smallI b), .int .i64 (smallI c), .int .i64 (smallI d), .int .i64 (smallI e), .int .i64 (smallI f), .int .i64 (smallI g)])
    clear lB4
    have lB5 := B5.lt
    replace B5 := (B5.alloc (.cells #[.int .i64 0, .int .i64 0, .int .i64 0, .int .i64 0, .int .i64 0, .int .i64 0, .int .i64 0] 53)).farRow (g' := w1.heap.size) (by omega) (#[.int .i64 (smallI a), .int .i64 (smallI b), .int .i64 (smallI c), .int .i64 (smallI d), .int .i64 (smallI e), .int .i64 (smallI f), .int .i64 (smallI g)])
    clear lB5
    have lB6 := B6.lt
    replace B6 := (B6.alloc (.cells #[.int .i64 0, .int .i64 0, .int .i64 0, .int .i64 0, .int .i64 0, .int .i64 0, .int .i64 0] 53)).farRow (g' := w1.heap.size) (by omega) (#[.int .i64 (smallI a), .int .i64 (smallI b), .int .i64 (smallI c), .int .i64 (smallI d), .int .i64 (smallI e), .int .i64 (smallI f), .int .i64 (smallI g)])
    clear lB6
    have lB7 := B7.lt
    replace B7 := (B7.alloc (.cells #[.int .i64 0, .int .i64 0, .int .i64 0, .int .i64 0, .int .i64 0, .int .i64 0, .int .i64 0] 53)).farRow (g' := w1.heap.size) (by omega) (#[.int .i64 (smallI a), .int .i64 (smallI b), .int .i64 (smallI c), .int .i64 (smallI d), .int .i64 (smallI e), .int .i64 (smallI f), .int .i64 (smallI g)])
    clear lB7
    replace hB := below_setRow (hB.alloc hB.size (.cells #[.int .i64 0, .int .i64 0, .int .i64 0, .int .i64 0, .int .i64 0, .int .i64 0, .int .i64 0] 53)) (g := w1.heap.size) hB.size (#[.int .i64 (smallI a), .int .i64 (smallI b), .int .i64 (smallI c), .int .i64 (smallI d), .int .i64 (smallI e), .int .i64 (smallI f), .int .i64 (smallI g)])
    go_wp2_with (first | (go_at_call 10; refine (num_any _ _).mono ?_; rintro e w' ⟨rfl, rfl⟩) | (refine row_store (w1.heap.size) 53 _ _ n1 53 _ _ rfl rfl rfl rfl (by kernel_rfl) rfl (by kernel_rfl) ?_) | (refine row_load (w1.heap.size) 53 _ k1 53 _ rfl rfl rfl _ Try.underlying53 rfl (by kernel_rfl) ?_))
    refine (PutTable_any (smallI a) (smallI b) (smallI c) (smallI d) (smallI e) (smallI f) (smallI g) _).mono ?_
    rintro r w2 ⟨rfl, hb⟩
    rw [E2.out.1, E2.out.2]
    replace B4 := B4.below hb B4.lt
    replace B5 := B5.below hb B5.lt
    replace B6 := B6.below hb B6.lt
    replace B7 := B7.below hb B7.lt
    replace hB := hB.trans (hb.mono hB.size)
    clear hb
    have n2 := Blk.new w2 26 #[.int .u64 0, .int .u64 0, .int .u64 0, .int .u64 0, .int .u64 0, .int .u64 0, .int .u64 0, .int .u64 0]
    have k2 := n2.setRow (ln8 a b c d e f g h)
    have lB4 := B4.lt
    replace B4 := (B4.alloc (.cells #[.int .u64 0, .int .u64 0, .int .u64 0, .int .u64 0, .int .u64 0, .int .u64 0, .int .u64 0, .int .u64 0] 26)).farRow (g' := w2.heap.size) (by omega) ((ln8 a b c d e f g h))
    clear lB4
    have lB5 := B5.lt
    replace B5 := (B5.alloc (.cells #[.int .u64 0, .int .u64 0, .int .u64 0, .int .u64 0, .int .u64 0, .int .u64 0, .int .u64 0, .int .u64 0] 26)).farRow (g' := w2.heap.size) (by omega) ((ln8 a b c d e f g h))
    clear lB5
    have lB6 := B6.lt
    replace B6 := (B6.alloc (.cells #[.int .u64 0, .int .u64 0, .int .u64 0, .int .u64 0, .int .u64 0, .int .u64 0, .int .u64 0, .int .u64 0] 26)).farRow (g' := w2.heap.size) (by omega) ((ln8 a b c d e f g h))
    clear lB6
    have lB7 := B7.lt
    replace B7 := (B7.alloc (.cells #[.int .u64 0, .int .u64 0, .int .u64 0, .int .u64 0, .int .u64 0, .int .u64 0, .int .u64 0, .int .u64 0] 26)).farRow (g' := w2.heap.size) (by omega) ((ln8 a b c d e f g h))
    clear lB7
    replace hB := below_setRow (hB.alloc hB.size (.cells #[.int .u64 0, .int .u64 0, .int .u64 0, .int .u64 0, .int .u64 0, .int .u64 0, .int .u64 0, .int .u64 0] 26)) (g := w2.heap.size) hB.size ((ln8 a b c d e f g h))
    clear n1 k1
    go_wp2_with (first | (go_at_call 10; refine (num_any _ _).mono ?_; rintro e w' ⟨rfl, rfl⟩) | (refine row_store (w2.heap.size) 26 _ _ n2 26 _ _ rfl rfl rfl rfl (by kernel_rfl) rfl (by kernel_rfl) ?_) | (refine row_load (w2.heap.size) 26 _ k2 26 _ rfl rfl rfl _ Try.underlying26 rfl (by kernel_rfl) ?_) | (refine row_load (w.heap.size) 26 _ B4 26 _ rfl rfl rfl _ Try.underlying26 rfl (by kernel_rfl) ?_))
    exact ⟨_, rfl, rfl, B4, B5, B6, B7, hB⟩

set_option maxRecDepth 1000000 in
set_option maxHeartbeats 8000000 in
theorem hold7 (a b c d e f g h : Nat) (k l t : Int) (y y0 y1 y2 y3 y4 y5 y6 : Int) (n m : Int) (s : ByteArray) (ha : a < 18446744073709551616) (hb : b < 18446744073709551616) (hc : c < 18446744073709551616) (hd : d < 18446744073709551616) (he : e < 18446744073709551616) (hf : f < 18446744073709551616) (hg : g < 18446744073709551616) (hh : h < 18446744073709551616) (w W : World) (a₀ : Act) (hI : HInv a b c d e f g h k l t y y0 y1 y2 y3 y4 y5 y6 n m s w a₀ W) (Q : Exit → Act → World → Prop) :
    Code.wp Try.prog (seqA (seqB (seqB (seqB (seqB (seqB (seqB (seqB (seqB (Try.f7.body.getD .skip)))))))))) (Exit.then (HInv a b c d e f g h k l t y y0 y1 y2 y3 y4 y5 y6 n m s w) Q) a₀ W := by
  obtain ⟨us, rfl, hl, B4, B5, B6, B7, hB⟩ := hI
  refine cur_all 210 (fun us => Code.wp Try.prog (seqA (seqB (seqB (seqB (seqB (seqB (seqB (seqB (seqB (Try.f7.body.getD .skip)))))))))) (Exit.then (HInv a b c d e f g h k l t y y0 y1 y2 y3 y4 y5 y6 n m s w) Q) ⟨([Value.agg (ln8 a b c d e f g h), Value.agg #[.int .i64 k, .int .i64 l, .int .i64 t], Value.agg #[.int .i64 y, .int .i64 y0, .int .i64 y1, .int .i64 y2, .int .i64 y3, .int .i64 y4, .int .i64 y5, .int .i64 y6], Value.agg #[.int .i64 n, .int .i64 m, .string s], Value.pointer (some ⟨w.heap.size, 0, none⟩), Value.pointer (some ⟨w.heap.size + 1, 0, none⟩), Value.pointer (some ⟨w.heap.size + 1 + 1, 0, none⟩), Value.pointer (some ⟨w.heap.size + 1 + 1 + 1, 0, none⟩)] ++ us).toArray, []⟩ W) ?_ us hl
  clear hl us
  intro u8 u9 u10 u11 u12 u13 u14 u15 u16 u17 u18 u19 u20 u21 u22 u23 u24 u25 u26 u27 u28 u29 u30 u31 u32 u33 u34 u35 u36 u37 u38 u39 u40 u41 u42 u43 u44 u45 u46 u47 u48 u49 u50 u51 u52 u53 u54 u55 u56 u57 u58 u59 u60 u61 u62 u63 u64 u65 u66 u67 u68 u69 u70 u71 u72 u73 u74 u75 u76 u77 u78 u79 u80 u81 u82 u83 u84 u85 u86 u87 u88 u89 u90 u91 u92 u93 u94 u95 u96 u97 u98 u99 u100 u101 u102 u103 u104 u105 u106 u107 u108 u109 u110 u111 u112 u113 u114 u115 u116 u117 u118 u119 u120 u121 u122 u123 u124 u125 u126 u127 u128 u129 u130 u131 u132 u133 u134 u135 u136 u137 u138 u139 u140 u141 u142 u143 u144 u145 u146 u147 u148 u149 u150 u151 u152 u153 u154 u155 u156 u157 u158 u159 u160 u161 u162 u163 u164 u165 u166 u167 u168 u169 u170 u171 u172 u173 u174 u175 u176 u177 u178 u179 u180 u181 u182 u183 u184 u185 u186 u187 u188 u189 u190 u191 u192 u193 u194 u195 u196 u197 u198 u199 u200 u201 u202 u203 u204 u205 u206 u207 u208 u209 u210 u211 u212 u213 u214 u215 u216 u217
  dsimp only [Cur, List.cons_append, List.nil_append]
  conv => arg 2; whnf
  cases his : supIs a b c d e f g h
  · have E1 := Lib.hid (sup_not a b c d e f g h his)
    have hs1 := supIsV_size a b c d e f g h
    have ho1 := supIsV_one a b c d e f g h
    obtain ⟨V1, hV1⟩ : ∃ V, supIsV a b c d e f g h = V := ⟨_, rfl⟩
    rw [hV1] at hs1 ho1
    have HV1 := Lib.hid hV1
    clear his hV1
    go_wp2_with (refine row_load (w.heap.size) 26 _ B4 26 _ rfl rfl rfl _ Try.underlying26 rfl (by kernel_rfl) ?_)
    refine (GetSuper_any a b c d e f g h hb hc _).mono ?_
    rintro r w1 ⟨rfl, hb⟩
    rw [E1.out, HV1.out]
    replace B4 := B4.below hb B4.lt
    replace B5 := B5.below hb B5.lt
    replace B6 := B6.below hb B6.lt
    replace B7 := B7.below hb B7.lt
    replace hB := hB.trans (hb.mono hB.size)
    clear hb
    have n1 := Blk.new w1 51 #[.int .i64 0, .int .i64 0]
    have lB4 := B4.lt
    replace B4 := (B4.alloc (.cells #[.int .i64 0, .int .i64 0] 51)).farRow (g' := w1.heap.size) (by omega) (V1)
    clear lB4
    have lB5 := B5.lt
    replace B5 := (B5.alloc (.cells #[.int .i64 0, .int .i64 0] 51)).farRow (g' := w1.heap.size) (by omega) (V1)
    clear lB5
    have lB6 := B6.lt
    replace B6 := (B6.alloc (.cells #[.int .i64 0, .int .i64 0] 51)).farRow (g' := w1.heap.size) (by omega) (V1)
    clear lB6
    have lB7 := B7.lt
    replace B7 := (B7.alloc (.cells #[.int .i64 0, .int .i64 0] 51)).farRow (g' := w1.heap.size) (by omega) (V1)
    clear lB7
    replace hB := below_setRow (hB.alloc hB.size (.cells #[.int .i64 0, .int .i64 0] 51)) (g := w1.heap.size) hB.size (V1)
    go_wp2_with (first | (go_at_call 10; refine (num_any _ _).mono ?_; rintro e w' ⟨rfl, rfl⟩) | (refine row_store (w1.heap.size) 51 _ _ n1 51 _ _ rfl rfl rfl rfl (by rw [hs1]; kernel_rfl) (by rw [hs1]; rfl) ho1 ?_))
    exact ⟨_, rfl, rfl, B4, B5, B6, B7, hB⟩
  · have E1 := Lib.hid (sup_got a b c d e f g h his)
    have E2 := Lib.hid (sup_put a b c d e f g h his)
    clear his
    have heq := fun W => eqS_line a b c d e f g h W
    go_wp2_with (refine row_load (w.heap.size) 26 _ B4 26 _ rfl rfl rfl _ Try.underlying26 rfl (by kernel_rfl) ?_)
    refine (GetSuper_any a b c d e f g h hb hc _).mono ?_
    rintro r w1 ⟨rfl, hb⟩
    rw [E1.out.1, E1.out.2]
    replace B4 := B4.below hb B4.lt
    replace B5 := B5.below hb B5.lt
    replace B6 := B6.below hb B6.lt
    replace B7 := B7.below hb B7.lt
    replace hB := hB.trans (hb.mono hB.size)
    clear hb
    have n1 := Blk.new w1 51 #[.int .i64 0, .int .i64 0]
    have k1 := n1.setRow (#[.int .i64 (smallI b), .int .i64 (smallI c)])
    have lB4 := B4.lt
    replace B4 := (B4.alloc (.cells #[.int .i64 0, .int .i64 0] 51)).farRow (g' := w1.heap.size) (by omega) (#[.int .i64 (smallI b), .int .i64 (smallI c)])
    clear lB4
    have lB5 := B5.lt
    replace B5 := (B5.alloc (.cells #[.int .i64 0, .int .i64 0] 51)).farRow (g' := w1.heap.size) (by omega) (#[.int .i64 (smallI b), .int .i64 (smallI c)])
    clear lB5
    have lB6 := B6.lt
    replace B6 := (B6.alloc (.cells #[.int .i64 0, .int .i64 0] 51)).farRow (g' := w1.heap.size) (by omega) (#[.int .i64 (smallI b), .int .i64 (smallI c)])
    clear lB6
    have lB7 := B7.lt
    replace B7 := (B7.alloc (.cells #[.int .i64 0, .int .i64 0] 51)).farRow (g' := w1.heap.size) (by omega) (#[.int .i64 (smallI b), .int .i64 (smallI c)])
    clear lB7
    replace hB := below_setRow (hB.alloc hB.size (.cells #[.int .i64 0, .int .i64 0] 51)) (g := w1.heap.size) hB.size (#[.int .i64 (smallI b), .int .i64 (smallI c)])
    go_wp2_with (first | (go_at_call 10; refine (num_any _ _).mono ?_; rintro e w' ⟨rfl, rfl⟩) | (refine row_store (w1.heap.size) 51 _ _ n1 51 _ _ rfl rfl rfl rfl (by kernel_rfl) rfl (by kernel_rfl) ?_) | (refine row_load (w1.heap.size) 51 _ k1 51 _ rfl rfl rfl _ Try.underlying51 rfl (by kernel_rfl) ?_))
    refine (PutSuper_any (smallI b) (smallI c) _).mono ?_
    rintro r w2 ⟨rfl, hb⟩
    rw [E2.out.1, E2.out.2]
    replace B4 := B4.below hb B4.lt
    replace B5 := B5.below hb B5.lt
    replace B6 := B6.below hb B6.lt
    replace B7 := B7.below hb B7.lt
    replace hB := hB.trans (hb.mono hB.size)
    clear hb
    have n2 := Blk.new w2 26 #[.int .u64 0, .int .u64 0, .int .u64 0, .int .u64 0, .int .u64 0, .int .u64 0, .int .u64 0, .int .u64 0]
    have k2 := n2.setRow (ln8 a b c d e f g h)
    have lB4 := B4.lt
    replace B4 := (B4.alloc (.cells #[.int .u64 0, .int .u64 0, .int .u64 0, .int .u64 0, .int .u64 0, .int .u64 0, .int .u64 0, .int .u64 0] 26)).farRow (g' := w2.heap.size) (by omega) ((ln8 a b c d e f g h))
    clear lB4
    have lB5 := B5.lt
    replace B5 := (B5.alloc (.cells #[.int .u64 0, .int .u64 0, .int .u64 0, .int .u64 0, .int .u64 0, .int .u64 0, .int .u64 0, .int .u64 0] 26)).farRow (g' := w2.heap.size) (by omega) ((ln8 a b c d e f g h))
    clear lB5
    have lB6 := B6.lt
    replace B6 := (B6.alloc (.cells #[.int .u64 0, .int .u64 0, .int .u64 0, .int .u64 0, .int .u64 0, .int .u64 0, .int .u64 0, .int .u64 0] 26)).farRow (g' := w2.heap.size) (by omega) ((ln8 a b c d e f g h))
    clear lB6
    have lB7 := B7.lt
    replace B7 := (B7.alloc (.cells #[.int .u64 0, .int .u64 0, .int .u64 0, .int .u64 0, .int .u64 0, .int .u64 0, .int .u64 0, .int .u64 0] 26)).farRow (g' := w2.heap.size) (by omega) ((ln8 a b c d e f g h))
    clear lB7
    replace hB := below_setRow (hB.alloc hB.size (.cells #[.int .u64 0, .int .u64 0, .int .u64 0, .int .u64 0, .int .u64 0, .int .u64 0, .int .u64 0, .int .u64 0] 26)) (g := w2.heap.size) hB.size ((ln8 a b c d e f g h))
    clear n1 k1
    go_wp2_with (first | (go_at_call 10; refine (num_any _ _).mono ?_; rintro e w' ⟨rfl, rfl⟩) | (refine row_store (w2.heap.size) 26 _ _ n2 26 _ _ rfl rfl rfl rfl (by kernel_rfl) rfl (by kernel_rfl) ?_) | (refine row_load (w2.heap.size) 26 _ k2 26 _ rfl rfl rfl _ Try.underlying26 rfl (by kernel_rfl) ?_) | (refine row_load (w.heap.size) 26 _ B4 26 _ rfl rfl rfl _ Try.underlying26 rfl (by kernel_rfl) ?_))
    exact ⟨_, rfl, rfl, B4, B5, B6, B7, hB⟩
end Go.Proofs.Ytdgnbmcckknfiaa
