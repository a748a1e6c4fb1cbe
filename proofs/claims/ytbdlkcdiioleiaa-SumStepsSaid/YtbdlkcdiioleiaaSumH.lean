/- The walk of the law SumSteps. No conditions but that the slice reads as a list. -/
import Derived.Test.YtbdlkcdiioleiaaSumG
namespace Go.Proofs.Ytbdlkcdiioleiaa
open Go.RowKit
attribute [local go_sem] Oper.semAt_some wide_fn wide_depth

/-- The boxes of SumSteps: the words, how many, the answer; and that of Steps. -/
def StepBox (B : Nat) (A : Option Addr) (n c : Nat) (many : Int) (W : World) : Prop :=
  Blk W B 22 #[.slice A n c] ∧ Blk W (B + 1) 3 #[.int .i64 many] ∧ Blk W (B + 1 + 1) 4 #[.bool false] ∧ Blk W (B + 1 + 1 + 1) 22 #[.slice A n c]
theorem StepBox.same {B : Nat} {A : Option Addr} {n c : Nat} {many : Int} {W W' : World} (h : StepBox B A n c many W) (hb : ∀ b, B ≤ b → b < B + 4 → W'.heap[b]? = W.heap[b]?) : StepBox B A n c many W' :=
  ⟨(hb _ (by omega) (by omega)).trans h.1, (hb _ (by omega) (by omega)).trans h.2.1, (hb _ (by omega) (by omega)).trans h.2.2.1, (hb _ (by omega) (by omega)).trans h.2.2.2⟩

/-- The frame of SumSteps at the head of its loop. -/
def frame7 (A : Option Addr) (n c : Nat) (many : Int) (B g : Nat) (u : Nat → Value) : Array Value := #[.slice A n c, .int .i64 many, .pointer (some ⟨B, 0, none⟩), .pointer (some ⟨B + 1, 0, none⟩), .pointer (some ⟨B + 1 + 1, 0, none⟩), .func (.func 23) #[] #[.pointer (some ⟨B + 1 + 1 + 1, 0, none⟩)], .pointer (some ⟨g, 0, none⟩), u 7, u 8, u 9, .slice A n c, .int .i64 n, .bool (decide (200 < (n : Int))), undef, .slice A n c, .func (.func 23) #[] #[.pointer (some ⟨B + 1 + 1 + 1, 0, none⟩)], u 16, u 17, u 18, u 19, u 20, u 21, u 22, u 23, u 24, u 25, u 26, u 27, u 28, u 29, u 30, u 31, u 32, u 33, u 34, u 35, u 36, u 37, u 38, u 39, u 40, u 41, u 42, u 43, u 44, u 45, u 46, u 47, u 48, u 49, u 50, u 51, u 52, u 53, u 54, u 55, u 56, u 57, u 58, u 59, u 60, u 61, u 62, u 63, u 64, u 65, u 66, u 67, u 68, u 69, u 70, u 71, u 72, u 73, u 74]

def markOf (D : Nat) : Deferred := { target := .collected D, args := #[] }

/-- What holds at the head of the loop, j rounds being still to come. -/
def Head7 (w : World) (A : Option Addr) (n c : Nat) (many : Int) (j : Nat) (a : Act) (X : World) : Prop :=
  ∃ (T : Int) (g : Nat) (u : Nat → Value) (Ds : List Nat), a = { tmps := frame7 A n c many w.heap.size g u, defers := Ds.map markOf } ∧ 0 ≤ T ∧ T + j = 2 ∧
    StepBox w.heap.size A n c many X ∧ w.heap.size + 4 ≤ g ∧ Blk X g 3 #[.int .i64 T] ∧ Below w.heap.size w X ∧ (∀ D ∈ Ds, w.heap.size + 4 ≤ D ∧ X.heap[D]? = some (.deferred (some []))) ∧ Ds.Nodup

set_option maxRecDepth 100000 in
set_option maxHeartbeats 2000000 in
theorem sumSteps_out (many : Int) (A : Option Addr) (n c : Nat) (w : World) (h1 : 200 < n) :
    Calls Try.prog 7 #[.slice A n c, .int .i64 many] w fun e w' => e = .returned (.bool true) ∧ Below w.heap.size w w' := by
  refine (callsIn_wide (n := 3)).1 (callsIn_of_wp_marks Try.func7 rfl trivial ?_ rfl)
  simp only [Try.ntmps7, List.size_toArray, List.length_cons, List.length_nil, Nat.reduceAdd, Nat.reduceSub, Array.replicate_succ, Array.replicate_zero, List.push_toArray, List.append_toArray, List.nil_append, List.cons_append]
  gi_wp2_with fail
  refine (callsIn_wide.2 (works_any _)).mono ?_
  rintro e w1 ⟨rfl, hb⟩
  have k2 : Blk w1 (w.heap.size + 1 + 1) 4 #[.bool false] := by
    have := Blk.new ((w.alloc (.cells #[.slice A n c] 22)).alloc (.cells #[.int .i64 many] 3)) 4 #[.bool false]
    simp only [World.size_alloc] at this
    exact this.below hb (by simp)
  have hc := k2.cell 0
  have hf := k2.frozen 0
  have hcs := (k2.set_ 0 (.bool true)).cell 0
  simp at hc hcs
  gi_wp2
  refine ⟨_, by simp [results, Try.results7, go_sem, hcs], rfl, ?_⟩
  exact ((((((Below.refl _ w).alloc (Nat.le_refl _) _).alloc (by simp) _).alloc (by simp; omega) _).trans (hb.mono (by simp; omega)))).setCell (p := ⟨w.heap.size + 1 + 1, 0, none⟩) (by simp; omega) _

/-- What holds between two rounds, k words having come. -/
def In7 (w : World) (A : Option Addr) (n c : Nat) (many : Int) (g gn : Nat) (T : Int) (Ds : List Nat) (k : Nat) (Y : World) : Prop :=
  StepBox w.heap.size A n c many Y ∧ Blk Y g 3 #[.int .i64 T] ∧ Blk Y gn 3 #[.int .i64 k] ∧ Below w.heap.size w Y ∧ (∀ D ∈ Ds, Y.heap[D]? = some (.deferred (some [])))
theorem In7.below {w : World} {A : Option Addr} {n c : Nat} {many : Int} {g gn : Nat} {T : Int} {Ds : List Nat} {k : Nat} {Y Y' : World} (h : In7 w A n c many g gn T Ds k Y) (hb : Below (gn + 1) Y Y') (hg : w.heap.size + 4 ≤ g) (hgn : g < gn) (hD : ∀ D ∈ Ds, D < gn) :
    In7 w A n c many g gn T Ds k Y' :=
  ⟨h.1.same fun b _ h2 => hb.block b (by omega), h.2.1.below hb (by omega), h.2.2.1.below hb (by omega), h.2.2.2.1.trans (hb.mono (by omega)), fun D hd => (hb.block D (by have := hD D hd; omega)).trans (h.2.2.2.2 D hd)⟩

set_option maxRecDepth 100000 in
set_option maxHeartbeats 2000000 in
theorem sumSteps_in (many : Int) (xs : List Int) (A : Option Addr) (n c : Nat) (w : World) (hr : U64s w w.heap.size A n xs) (hc : n ≤ c) (h1 : n ≤ 200) :
    Calls Try.prog 7 #[.slice A n c, .int .i64 many] w fun e w' => e = .returned (.bool true) ∧ Below w.heap.size w w' := by
  refine (callsIn_wide (n := 3)).1 (callsIn_of_wp_marks Try.func7 rfl trivial ?_ rfl)
  simp only [Try.ntmps7, List.size_toArray, List.length_cons, List.length_nil, Nat.reduceAdd, Nat.reduceSub, Array.replicate_succ, Array.replicate_zero, List.push_toArray, List.append_toArray, List.nil_append, List.cons_append]
  gi_wp2_with fail
  refine (callsIn_wide.2 (steps_any _ _ _ _)).mono ?_
  rintro e w1 ⟨rfl, rfl⟩
  gi_wp2_with fail
  have hhead : ∀ W5, W5 = (((((w.alloc (.cells #[.slice A n c] 22)).alloc (.cells #[.int .i64 many] 3)).alloc (.cells #[.bool false] 4)).alloc (.cells #[.slice A n c] 22)).alloc (.cells #[.int .i64 0] 3)) →
      StepBox w.heap.size A n c many W5 ∧ Blk W5 (w.heap.size + 1 + 1 + 1 + 1) 3 #[.int .i64 0] ∧ Below w.heap.size w W5 := by
    rintro W5 rfl
    have k0 := (Blk.new w 22 #[.slice A n c])
    have k1 := Blk.new (w.alloc (.cells #[.slice A n c] 22)) 3 #[.int .i64 many]
    have k2 := Blk.new ((w.alloc (.cells #[.slice A n c] 22)).alloc (.cells #[.int .i64 many] 3)) 4 #[.bool false]
    have k3 := Blk.new (((w.alloc (.cells #[.slice A n c] 22)).alloc (.cells #[.int .i64 many] 3)).alloc (.cells #[.bool false] 4)) 22 #[.slice A n c]
    have k4 := Blk.new ((((w.alloc (.cells #[.slice A n c] 22)).alloc (.cells #[.int .i64 many] 3)).alloc (.cells #[.bool false] 4)).alloc (.cells #[.slice A n c] 22)) 3 #[.int .i64 0]
    replace k0 := (((k0.alloc (.cells #[.int .i64 many] 3)).alloc (.cells #[.bool false] 4)).alloc (.cells #[.slice A n c] 22)).alloc (.cells #[.int .i64 0] 3)
    replace k1 := ((k1.alloc (.cells #[.bool false] 4)).alloc (.cells #[.slice A n c] 22)).alloc (.cells #[.int .i64 0] 3)
    replace k2 := (k2.alloc (.cells #[.slice A n c] 22)).alloc (.cells #[.int .i64 0] 3)
    replace k3 := k3.alloc (.cells #[.int .i64 0] 3)
    simp only [World.size_alloc] at k0 k1 k2 k3 k4
    exact ⟨⟨k0, k1, k2, k3⟩, k4, (((((Below.refl _ w).alloc (Nat.le_refl _) _).alloc (by simp) _).alloc (by simp; omega) _).alloc (by simp; omega) _).alloc (by simp; omega) _⟩
  obtain ⟨hbox, ht, hbl⟩ := hhead _ rfl
  clear hhead
  generalize (((((w.alloc (.cells #[.slice A n c] 22)).alloc (.cells #[.int .i64 many] 3)).alloc (.cells #[.bool false] 4)).alloc (.cells #[.slice A n c] 22)).alloc (.cells #[.int .i64 0] 3)) = W5 at *
  refine wpIn_loop_ghost (Head7 w A n c many) 2 ⟨0, w.heap.size + 1 + 1 + 1 + 1, fun i => if i = 16 then undef else undef, [], rfl, by omega, by omega, hbox, by omega, ht, hbl, by simp, List.nodup_nil⟩ ?_
  clear hbox ht hbl
  rintro j a X ⟨T, g, u, Ds, rfl, hT0, hT, hbox, hg, ht, hbl, hD, hDn⟩ K hK
  unfold frame7
  have ct := ht.cell 0
  have cb := hbox.1.cell 0
  have cm := hbox.2.1.cell 0
  simp at ct cb cm
  by_cases hT2 : T = 2
  · subst hT2
    gi_wp2_with fail
    refine (callsIn_wide.2 (works_any _)).mono ?_
    rintro e w1 ⟨rfl, hb⟩
    have k2 : Blk w1 (w.heap.size + 1 + 1) 4 #[.bool false] := hbox.2.2.1.below hb hbox.2.2.1.lt
    have hk := k2.cell 0
    have hf := k2.frozen 0
    simp at hk
    have hset := k2.set_ 0 (.bool true)
    simp at hset
    have hDD : ∀ D ∈ Ds, w.heap.size + 4 ≤ D ∧ (w1.setCell ⟨w.heap.size + 1 + 1, 0, none⟩ (.bool true)).heap[D]? = some (.deferred (some [])) := fun D hd => by
      obtain ⟨h1, h2⟩ := hD D hd
      refine ⟨h1, (Below.heap_setCell w1 ⟨w.heap.size + 1 + 1, 0, none⟩ _ D (by simp; omega)).trans ((hb.block D ?_).trans h2)⟩
      exact (Array.getElem?_eq_some_iff.1 h2).1
    have hbl2 : Below w.heap.size w (w1.setCell ⟨w.heap.size + 1 + 1, 0, none⟩ (.bool true)) := (hbl.trans (hb.mono hbl.size)).setCell (p := ⟨w.heap.size + 1 + 1, 0, none⟩) (by simp; omega) _
    have hDD' := Lib.hid hDD
    clear hD hDD
    gi_wp2
    refine leaves_marks (w.heap.size + 4) Ds _ hDD'.out hDn fun W' hW => ?_
    have hset' : Blk W' (w.heap.size + 1 + 1) 4 #[.bool true] := hset.below hW (by omega)
    have hcs := hset'.cell 0
    simp at hcs
    refine ⟨_, by simp [results, Try.results7, go_sem, hcs], rfl, hbl2.trans (hW.mono (by omega))⟩
  · have hlt : T < 2 := by omega
    have hnf : ∀ W : World, (binOp .eql 38 (.func (.func 23) #[] #[.pointer (some ⟨w.heap.size + 1 + 1 + 1, 0, none⟩)]) .nilFunc).run Try.prog W = .ok (.bool false) W := fun W => by kernel_rfl
    gi_wp2_with fail
    have hgX : g < X.heap.size := ht.lt
    have hDX : ∀ D ∈ Ds, D < X.heap.size := fun D hd => (Array.getElem?_eq_some_iff.1 (hD D hd).2).1
    have hs6 : (X.alloc (.cells #[.int .i64 0] 3)).heap.size = X.heap.size + 1 := by simp
    have in0 : In7 w A n c many g X.heap.size T Ds 0 (X.alloc (.cells #[.int .i64 0] 3)) :=
      ⟨hbox.same fun b _ h2 => Below.heap_alloc X _ b (by omega), ht.alloc _, Blk.new X 3 _, hbl.alloc hbl.size _, fun D hd => (Below.heap_alloc X _ D (hDX D hd)).trans (hD D hd).2⟩
    generalize X.alloc (.cells #[.int .i64 0] 3) = X6 at *
    have HD := Lib.hid hD
    have HDX := Lib.hid hDX
    have Hs6 := Lib.hid hs6
    clear ct cb cm hbox ht hD hDX hs6
    have hlen : xs.length = n := hr.len
    refine rangeFunc_break (gf := 23) (lb := #[.pointer (some ⟨w.heap.size + 1 + 1 + 1, 0, none⟩)]) rfl (enters_of Try.func23 (by kernel_rfl) rfl) (steps_iter (w.heap.size + 1 + 1 + 1) xs A n c w.heap.size (by omega) hlen) (fun _ => rfl)
      (fun k Y => In7 w A n c many g X.heap.size T Ds k Y ∧ (T = 0 → k = 0 ∨ (k : Int) < many))
      (fun k Y => In7 w A n c many g X.heap.size T Ds k Y ∧ T = 0 ∧ many ≤ k ∧ (k = 1 ∨ (k : Int) - 1 < many))
      (fun Y => ∃ k : Nat, k ≤ n ∧ In7 w A n c many g X.heap.size T Ds k Y ∧ (T = 1 → k = n) ∧ (T = 0 → (n = 0 ∧ k = 0) ∨ (1 ≤ k ∧ ((k = n ∧ (k : Int) < many) ∨ (many ≤ k ∧ (k = 1 ∨ (k : Int) - 1 < many))))))
      ?hI ?hIx ?hIl ?hIxl ?hIR ?h0 ?hround ?hG1 ?hG2 ?rest
    case hI =>
      rintro k Y Z ⟨hi, hf⟩ hle hb
      simp only [if_true] at hb
      exact ⟨hi.below (hb.mono (by have := Hs6.out; omega)) hg hgX HDX.out, hf⟩
    case hIx =>
      rintro k Y Z ⟨hi, hf⟩ hle hb
      simp only [if_true] at hb
      exact ⟨hi.below (hb.mono (by have := Hs6.out; omega)) hg hgX HDX.out, hf⟩
    case hIl =>
      rintro k Y Z ⟨hi, hf⟩ hb
      exact ⟨hi.below (below_only hb (by have := Hs6.out; omega) (by have := hi.2.2.1.lt; omega)) hg hgX HDX.out, hf⟩
    case hIxl =>
      rintro k Y Z ⟨hi, hf⟩ hb
      exact ⟨hi.below (below_only hb (by have := Hs6.out; omega) (by have := hi.2.2.1.lt; omega)) hg hgX HDX.out, hf⟩
    case hIR =>
      rintro k Y ⟨hi, hf⟩
      exact ⟨by simpa using hi.1.2.2.2.cell 0, Reads.below hr hi.2.2.2.1⟩
    case h0 =>
      intro Y hb
      exact ⟨in0.below (hb.mono (by have := Hs6.out; omega)) hg hgX HDX.out, fun _ => .inl rfl⟩
    case hG1 =>
      rintro Y ⟨hi, hf⟩
      refine ⟨n, Nat.le_refl _, hi, fun _ => rfl, fun h => ?_⟩
      have := hf h
      omega
    case hG2 =>
      rintro k Y hk0 hkn ⟨hi, hf⟩
      exact ⟨k, hkn, hi, (fun h => by omega), fun _ => .inr ⟨hk0, .inr hf.2⟩⟩
    case hround =>
      rintro k Y hk ⟨hi, hf⟩ hle
      gi_wp2
      refine ⟨Bk.refl _ _, fun Z hYZ hsz => ?_⟩
      have hiZ : In7 w A n c many g X.heap.size T Ds k Z := hi.below (below_only hYZ (by have := Hs6.out; omega) (by have := hi.2.2.1.lt; omega)) hg hgX HDX.out
      have ct := hiZ.2.1.cell 0
      have cb := hiZ.1.1.cell 0
      have cm := hiZ.1.2.1.cell 0
      have cn := hiZ.2.2.1.cell 0
      have fn := hiZ.2.2.1.frozen 0
      simp at ct cb cm cn
      have hkn : (k : Int) + 1 ≤ 201 := by omega
      have hfr : U64s Z w.heap.size A (k + 1) (xs.take (k + 1)) := by
        have := Reads.front (Reads.below hr hiZ.2.2.2.1) (show k + 1 ≤ n by omega)
        rwa [← List.map_take] at this
      have hV : Bk X6.heap.size Z (Z.setCell ⟨X.heap.size, 0, none⟩ (.int .i64 ((k : Int) + 1))) ∧ Kp true (X6.heap.size + 2) Y (Z.setCell ⟨X.heap.size, 0, none⟩ (.int .i64 ((k : Int) + 1))) ∧
          In7 w A n c many g X.heap.size T Ds (k + 1) (Z.setCell ⟨X.heap.size, 0, none⟩ (.int .i64 ((k : Int) + 1))) := by
        have h6 := Hs6.out
        have hot : ∀ b, b ≠ X.heap.size → (Z.setCell ⟨X.heap.size, 0, none⟩ (.int .i64 ((k : Int) + 1))).heap[b]? = Z.heap[b]? := fun b hb => Below.heap_setCell Z ⟨X.heap.size, 0, none⟩ _ b hb
        refine ⟨⟨by simp [World.setCell], hot _ (by omega), hot _ (by omega)⟩, fun _ => ⟨by simp [World.setCell]; omega, fun b h1 h2 => (hot b (by omega)).trans (hYZ.block b h2 (by simp; omega))⟩,
          hiZ.1.same fun b _ h2 => hot b (by omega), (hot g (by omega)).trans hiZ.2.1, ?_, hiZ.2.2.2.1.setCell (p := ⟨X.heap.size, 0, none⟩) (by simp; omega) _, fun D hd => (hot D (by have := HDX.out D hd; omega)).trans (hiZ.2.2.2.2 D hd)⟩
        have := hiZ.2.2.1.set_ 0 (.int .i64 ((k : Int) + 1))
        rw [show (((k + 1 : Nat)) : Int) = (k : Int) + 1 from by omega]
        simpa using this
      have HV := Lib.hid hV
      have Hsz := Lib.hid hsz
      have Hlen := Lib.hid hlen
      clear hsz hlen hV
      gi_wp2_with fail
      refine (calls_round _ _ (rof_any (xs.take (k + 1)) A (k + 1) c w.heap.size _ hfr (by unfold maxLen; omega))).mono ?_
      rintro e w' ⟨rfl, rfl⟩
      rcases (show T = 0 ∨ T = 1 by omega) with rfl | rfl
      · by_cases hm : many ≤ (k : Int) + 1
        · gi_wp2
          obtain ⟨v1, v2, v3⟩ := HV.out
          exact ⟨rfl, v1, v2, v3, by omega, by have := hf (by simp); omega⟩
        · gi_wp2
          obtain ⟨v1, v2, v3⟩ := HV.out
          exact ⟨v1, v2, v3, by omega⟩
      · gi_wp2
        obtain ⟨v1, v2, v3⟩ := HV.out
        exact ⟨v1, v2, v3, fun h => by omega⟩
    case rest =>
      rintro Y ⟨k, hk, hi, hf1, hf0⟩ hle hDk
      have ct := hi.2.1.cell 0
      have cb := hi.1.1.cell 0
      have cm := hi.1.2.1.cell 0
      have cn := hi.2.2.1.cell 0
      simp at ct cb cm cn
      have Hlen := Lib.hid hlen
      have hend : ∀ (T' : Int) (arr : Array Value), 0 ≤ T' → T' + ((j - 1 : Nat) : Int) = 2 → arr = frame7 A n c many w.heap.size Y.heap.size (fun i => arr.getD i undef) →
          K { tmps := arr, defers := { target := .collected X6.heap.size, args := #[] } :: Ds.map markOf } (Y.alloc (.cells #[.int .i64 T'] 3)) := by
        intro T' arr h1 h2 h3
        have h6 := Hs6.out
        refine hK (j - 1) _ _ (by omega) ⟨T', Y.heap.size, fun i => arr.getD i undef, X6.heap.size :: Ds, ?_, h1, h2, hi.1.same fun b _ h => Below.heap_alloc Y _ b (by omega), by omega, Blk.new Y 3 _, hi.2.2.2.1.alloc hi.2.2.2.1.size _, ?_, List.nodup_cons.2 ⟨fun h => by have := HDX.out _ h; omega, hDn⟩⟩
        · rw [← h3]; rfl
        · intro D hd
          rcases List.mem_cons.1 hd with rfl | hd
          · exact ⟨by omega, (Below.heap_alloc Y _ _ (by omega)).trans hDk⟩
          · have := HDX.out D hd
            exact ⟨(HD.out D hd).1, (Below.heap_alloc Y _ _ (by omega)).trans (hi.2.2.2.2 D hd)⟩
      have Hend := Lib.hid hend
      clear hlen hend hK
      rcases (show T = 0 ∨ T = 1 by omega) with rfl | rfl
      · have hf := hf0 rfl
        clear hf0 hf1
        by_cases hm : 1 < many
        · by_cases hmn : many < n
          · have hq : ((k : Int) != many) = false := by simp; omega
            clear hf
            gi_wp2
            exact Hend.out 1 _ (by omega) (by omega) rfl
          · have hq : ((k : Int) != n) = false := by simp; omega
            clear hf
            gi_wp2
            exact Hend.out 1 _ (by omega) (by omega) rfl
        · by_cases hmn : (1 : Int) < n
          · have hq : ((k : Int) != 1) = false := by simp; omega
            clear hf
            gi_wp2
            exact Hend.out 1 _ (by omega) (by omega) rfl
          · have hq : ((k : Int) != n) = false := by simp; omega
            clear hf
            gi_wp2
            exact Hend.out 1 _ (by omega) (by omega) rfl
      · have hkn := hf1 rfl
        have hq : ((k : Int) != n) = false := by simp; omega
        clear hf0 hf1 hkn
        gi_wp2
        exact Hend.out 2 _ (by omega) (by omega) rfl
end Go.Proofs.Ytbdlkcdiioleiaa
