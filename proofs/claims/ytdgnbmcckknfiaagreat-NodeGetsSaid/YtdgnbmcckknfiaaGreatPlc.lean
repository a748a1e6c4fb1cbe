/- One law for a range over node's places, whose rounds write known blocks; slices of arrays. Conditions: none. -/
import Derived.Test.YtdgnbmcckknfiaaGreatNodA
import Derived.Test.YtdgnbmcckknfiaaGreatRws
namespace Go.Proofs.YtdgnbmcckknfiaaGreat
open Go.RowKit
set_option linter.unusedSimpArgs false

section
variable {P : Program} {F : Fence} {n : Nat} {ops : Array Oper} {rest : List Oper} {o : Oper} {a : Act} {w : World} {Q : Exit → Act → World → Prop}
theorem row_load_in (b : Nat) (t : TypeId) (cs : Array Value) (hB : Blk w b t cs) (ty : TypeId) (x : Operand) (ho : o.op = .load ty x) (hgd : o.guard = none) (hx : a.eval x = .pointer (some ⟨b, 0, none⟩)) (d : TypeDesc)
    (hu : P.underlying ty = some d) (hd : (match d with | .struct _ | .array _ _ => true | _ => false) = true) (hi : (P.info? ty).map (·.size) = some cs.size)
    (h : wpListIn F n P ops Q rest (a.put o.dst (.agg cs)) w) : wpListIn F n P ops Q (o :: rest) a w := by
  refine wpListIn_plain hgd fun K hK => ?_
  refine ⟨by simp [Oper.about, ho], ?_⟩
  rw [Oper.semAt_plain F _ _ (by rw [ho]; intro c hc; cases hc)]
  simp only [execOp, ho, hx, Instr.loadAt, Instr.sureAddr, Sem.run_bind, Sem.run_pure, Result.andThen_ok, run_loadVar_row w b t ty cs (0, 0) d hB hu hd hi]
  exact hK _ _ h
theorem row_store_in (b : Nat) (t : TypeId) (old cs : Array Value) (hB : Blk w b t old) (ty : TypeId) (x y : Operand) (ho : o.op = .store ty x y) (hgd : o.guard = none) (hx : a.eval x = .pointer (some ⟨b, 0, none⟩)) (hy : a.eval y = .agg cs)
    (hi : (P.info? ty).map (·.size) = some cs.size) (hold : old.size = cs.size) (h1 : cs.all (·.oneCell') = true)
    (h : wpListIn F n P ops Q rest (a.put o.dst undef) (w.setRow b cs)) : wpListIn F n P ops Q (o :: rest) a w := by
  refine wpListIn_plain hgd fun K hK => ?_
  refine ⟨by simp [Oper.about, ho], ?_⟩
  rw [Oper.semAt_plain F _ _ (by rw [ho]; intro c hc; cases hc)]
  simp only [execOp, ho, hx, hy, Instr.storeAt, Instr.sureAddr, Sem.run_bind, Sem.run_pure, Result.andThen_ok, run_storeVar_row w b t ty old cs hB hi hold h1]
  exact hK _ _ h
end
/-- Blocks that are known whole. -/
def Blks (W : World) (l : List (Nat × TypeId × Array Value)) : Prop := ∀ p ∈ l, Blk W p.1 p.2.1 p.2.2
theorem Blks.below {W W' : World} {B : Nat} {l : List (Nat × TypeId × Array Value)} (h : Blks W l) (hb : Below B W W') (hl : ∀ p ∈ l, p.1 < B) : Blks W' l := fun p hp => (h p hp).below hb (hl p hp)
theorem Blks.only {W W' : World} {g : Nat} {l : List (Nat × TypeId × Array Value)} (h : Blks W l) (hb : W.grownBy W' (some g)) (hl : ∀ p ∈ l, p.1 < g) : Blks W' l := fun p hp => blk_only (h p hp) hb (by have := hl p hp; omega)
theorem Blks.cons {W : World} {g : Nat} {t : TypeId} {cs : Array Value} {l : List (Nat × TypeId × Array Value)} (h : Blk W g t cs) (hl : Blks W l) : Blks W ((g, t, cs) :: l) := fun p hp => by
  rcases List.mem_cons.1 hp with rfl | hp
  · exact h
  · exact hl p hp
theorem Blks.nil {W : World} : Blks W [] := fun p hp => by cases hp
theorem Blks.head {W : World} {g : Nat} {t : TypeId} {cs : Array Value} {l : List (Nat × TypeId × Array Value)} (h : Blks W ((g, t, cs) :: l)) : Blk W g t cs := h (g, t, cs) (List.mem_cons_self ..)
theorem Blks.tail {W : World} {p : Nat × TypeId × Array Value} {l : List (Nat × TypeId × Array Value)} (h : Blks W (p :: l)) : Blks W l := fun q hq => h q (List.mem_cons_of_mem _ hq)

/-- How a round over places may be left. -/
def ppost (B0 B id : Nat) (w0 : World) (Ln Lx : List (Nat × TypeId × Array Value)) (Z : World) : Exit → Act → World → Prop
  | .normal, _, Z' => Bk B0 Z Z' ∧ Blks Z' Ln ∧ Below B w0 Z'
  | .exit id', _, Z' => id' = id ∧ Bk B0 Z Z' ∧ Blks Z' Lx ∧ Below B w0 Z'
  | _, _, _ => False

theorem places_break {g : Operand} {ps : Array Tmp} {assign body : Code} {Q : Exit → Act → World → Prop} {a : Act} {X w0 : World} {n N B pb id : Nat} {lt : TypeId}
    (hg : a.eval g = .func (.func 89) #[] #[.pointer (some ⟨pb, 0, none⟩)]) (hN : N ≤ 1000) (hps : ps.size = 1)
    (L : Nat → List (Nat × TypeId × Array Value)) (Lx : List (Nat × TypeId × Array Value)) (hlt : ∀ k, ∀ p ∈ L k, p.1 < X.heap.size) (hlx : ∀ p ∈ Lx, p.1 < X.heap.size)
    (hpb : ∀ k, (pb, lt, #[.int .i64 (N : Int)]) ∈ L k) (hB : B ≤ X.heap.size) (h0 : Blks X (L 0)) (hb0 : Below B w0 X)
    (hround : ∀ k Y, k < N → Blks Y (L k) → Below B w0 Y → X.heap.size + 2 ≤ Y.heap.size →
      assign.wpIn (Fence.wide.inRound (X.heap.size + 1)) (n - 1 - 1) Tryz.prog
        (Exit.then (fun a₁ Y₁ => Y₁ = Y ∧ ∀ Z, Blks Z (L k) → Below B w0 Z → X.heap.size + 2 ≤ Z.heap.size →
          body.wpIn (Fence.wide.inRound (X.heap.size + 1)) (n - 1 - 1) Tryz.prog (ppost X.heap.size B id w0 (L (k + 1)) Lx Z) a₁ Z) (fun _ _ _ => False))
        { tmps := (ps.zip #[.int .i64 (k : Int)]).foldl (fun t (p, v) => t.setIfInBounds p v) a.tmps, defers := [] } Y)
    (rest : ∀ Y, (Blks Y (L N) ∨ Blks Y Lx) → Below B w0 Y → X.heap.size + 2 ≤ Y.heap.size → Y.heap[X.heap.size]? = some (.deferred (some [])) → Q .normal { a with defers := { target := .collected X.heap.size, args := #[] } :: a.defers } Y) :
    (Code.rangeFunc g ps assign body).wpIn Fence.wide n Tryz.prog (Exit.inBlock id Q) a X := by
  refine rangeFunc_break hg (enters_of Tryz.func89 (by kernel_rfl) rfl) (places_iter pb N hN) (fun _ => by rw [hps]; rfl)
    (fun k Y => Blks Y (L k) ∧ Below B w0 Y ∧ X.heap.size ≤ Y.heap.size) (fun _ Y => Blks Y Lx ∧ Below B w0 Y ∧ X.heap.size ≤ Y.heap.size) (fun Y => (Blks Y (L N) ∨ Blks Y Lx) ∧ Below B w0 Y) ?_ ?_ ?_ ?_ ?_ ?_ ?_ ?_ ?_ ?_
  · rintro k A A' ⟨h1, h2, h3⟩ hle hb
    simp only [Bool.false_eq_true, if_false] at hb
    exact ⟨h1.below hb (fun p hp => by have := hlt k p hp; omega), h2.trans (hb.mono (by omega)), by have := hb.size; omega⟩
  · rintro k A A' ⟨h1, h2, h3⟩ hle hb
    simp only [Bool.false_eq_true, if_false] at hb
    exact ⟨h1.below hb (fun p hp => by have := hlx p hp; omega), h2.trans (hb.mono (by omega)), by have := hb.size; omega⟩
  · rintro k A A' ⟨h1, h2, h3⟩ hb
    exact ⟨h1.only hb (fun p hp => by have := hlt k p hp; omega), h2.trans (below_only hb (by omega) (by omega)), by have := hb.size; omega⟩
  · rintro k A A' ⟨h1, h2, h3⟩ hb
    exact ⟨h1.only hb (fun p hp => by have := hlx p hp; omega), h2.trans (below_only hb (by omega) (by omega)), by have := hb.size; omega⟩
  · rintro k A ⟨h1, h2, h3⟩
    simpa using (h1 _ (hpb k)).cell 0
  · intro W1 hb
    exact ⟨h0.below hb (hlt 0), hb0.trans (hb.mono hB), hb.size⟩
  · rintro k Y hk ⟨h1, h2, h3⟩ hle
    refine wpIn_mono (hround k Y hk h1 h2 hle) ?_
    intro e a₁ Y₁ h
    cases e with
    | normal =>
      obtain ⟨rfl, h⟩ := h
      refine ⟨Bk.refl _ _, fun Z hg2 hz => ?_⟩
      refine wpIn_mono (h Z (h1.only hg2 (fun p hp => by have := hlt k p hp; omega)) (h2.trans (below_only hg2 (by omega) (by omega))) (by omega)) ?_
      intro e a3 Z' hp
      have hz' : ∀ {q : Prop}, Bk X.heap.size Z Z' ∧ q → X.heap.size ≤ Z'.heap.size := fun hq => by have := hq.1.1; omega
      cases e with
      | normal => exact ⟨hp.1, fun e => (by cases e), hp.2.1, hp.2.2, hz' hp⟩
      | exit id' => obtain ⟨rfl, hp⟩ := hp; exact ⟨rfl, hp.1, fun e => (by cases e), hp.2.1, hp.2.2, hz' hp⟩
      | ret => exact hp.elim
      | goto t => exact hp.elim
      | panic ch => exact hp.elim
      | outgrown => exact hp.elim
    | ret => exact h.elim
    | exit id => exact h.elim
    | goto t => exact h.elim
    | panic ch => exact h.elim
    | outgrown => exact h.elim
  · rintro Y ⟨h1, h2, h3⟩
    exact ⟨.inl h1, h2⟩
  · rintro k Y _ _ ⟨h1, h2, h3⟩
    exact ⟨.inr h1, h2⟩
  · rintro Y ⟨h1, h2⟩ hle hd
    exact rest Y h1 h2 hle hd

theorem bk_set {B b i : Nat} (Z : World) (u : Value) (h : b < B) : Bk B Z ((Z.setCell ⟨b, i, none⟩ u).drew) :=
  ⟨by simp [World.setCell], Below.heap_setCell Z ⟨b, i, none⟩ u B (by simp; omega), Below.heap_setCell Z ⟨b, i, none⟩ u (B + 1) (by simp; omega)⟩
theorem bk_set' {B b i : Nat} {Z Y : World} (hZ : Bk B Z Y) (u : Value) (h : b < B) : Bk B Z (Y.setCell ⟨b, i, none⟩ u) :=
  hZ.trans ⟨by simp [World.setCell], Below.heap_setCell Y ⟨b, i, none⟩ u B (by simp; omega), Below.heap_setCell Y ⟨b, i, none⟩ u (B + 1) (by simp; omega)⟩
theorem add_off (b o j : Nat) : (⟨b, o, none⟩ : Addr).add j = ⟨b, o + j, none⟩ := by unfold Addr.add; split <;> simp_all
/-- A run of a block reads as a list. -/
theorem blk_reads {W : World} {b : Nat} {t : TypeId} {cells : Array Value} {xs : List Value} {off n : Nat} (h : Blk W b t cells) (hn : xs.length = n) (hx : ∀ j u, xs[j]? = some u → cells[off + j]? = some u) :
    Reads W W.heap.size 1 (some ⟨b, off, none⟩) n xs :=
  ⟨by omega, fun _ => ⟨_, rfl, h.lt, fun j u hu => by rw [add_off, h.cell]; exact hx j u hu⟩⟩
theorem arr_from {P : Program} {t : TypeId} {m : Nat} (ht : P.underlying t = some (.array m (P.elem t))) (hs : ∀ w, (sizeOf (P.elem t)).run P w = .ok 1 w) (b off k : Nat) (hk : k ≤ m) :
    ∃ A', (∀ w, (Instr.sliceAt t (.pointer (some ⟨b, off, none⟩)) (some (.int .i64 (k : Int))) none none).run P w = .ok (.slice A' (m - k) (m - k)) w) ∧
      ∀ w B xs, Reads w B 1 (some ⟨b, off, none⟩) m xs → Reads w B 1 A' (m - k) (xs.drop k) := by
  have hal : P.arrayLen t = m := by unfold Program.arrayLen; rw [ht]
  refine ⟨some (if m = k then ⟨b, off, none⟩ else (⟨b, off, none⟩ : Addr).add (k * 1)), fun w => ?_, fun w B xs h => ?_⟩
  · rw [run_sliceAt_array_l w t ⟨b, off, none⟩ (by rw [hal]; exact ht) .i64 (k : Int) (by omega) (by omega), hs]
    simp [slicedAt, hal]
  · have h2 := Reads.cut h hk (Nat.le_refl m)
    by_cases e : m = k
    · rw [if_pos e]; rw [if_pos e] at h2; simpa using h2
    · rw [if_neg e]; rw [if_neg e] at h2; simpa using h2
end Go.Proofs.YtdgnbmcckknfiaaGreat
