/- Regions that draw their order, inside a fence that lets every function in: what only reads, ahead of a tail in one forced order, is walked once. After the guide's text on such regions outside a fence. No conditions. -/
import Derived.StillTailTactics
import Derived.OrdersIn
import Derived.Shelf.RegionOpen
import Derived.Test.YtdgnbmcckknfiaaGreatRange
namespace Go.Proofs.YtdgnbmcckknfiaaGreat
open Go.RowKit

variable {F : Fence} {m : Nat} {P : Program} {ops : Array Oper} {w : World}

/-- No operation defers a call. -/
def noDefer (ops : Array Oper) : Bool := ops.all fun o => match o.op with | .defer _ => false | _ => true
theorem noDefer_spec (h : noDefer ops = true) {i : Nat} {o : Oper} (hi : ops[i]? = some o) : ∀ c, o.op ≠ .defer c := by
  intro c hc
  have := Array.all_eq_true'.1 h o (Array.mem_of_getElem? hi)
  rw [hc] at this
  cases this

theorem calls_in (hF : F.depth = none) (hfn : ∀ f, F.fn f) (hal : F.alive = false) {n : Nat} {f : FuncId} {args : Array Value} {R : Ending → World → Prop} (h : Calls P f args w R) : CallsIn F n P f args w R := by
  have e : ∀ X, Machine.fenced P F X ↔ Machine.fenced P Fence.wide X := fun X => by
    refine ⟨fun _ => fenced_wide P X, fun _ g _ => ⟨fun h => (by rw [hal] at h; cases h), .inl (hfn _), fun f _ => hfn f, fun d hd => by rw [hF] at hd; cases hd⟩⟩
  have e' : Machine.fenced P F = Machine.fenced P Fence.wide := funext fun X => propext (e X)
  refine ⟨hfn f, fun cs _ => ?_⟩
  obtain ⟨x, w', fr, r, s, y⟩ := h cs
  exact ⟨x, w', fr, r, by rw [e']; exact comesIn_wide.2 s, y⟩

theorem Oper.wpIn_of_still (hF : F.depth = none) (hfn : ∀ f, F.fn f) (hal : F.alive = false) {o : Oper} {a : Act} {K : Act → Prop} {K' : Act → World → Prop} {Q' : Exit → Act → World → Prop} (hnd : ∀ c, o.op ≠ .defer c)
    (h : ∀ a, K a → K' a w) (hh : o.still P a w K) : o.wpIn F m P a w K' Q' := by
  unfold Oper.wpIn
  rw [Oper.semAt_eq _ _ _ hnd]
  refine ⟨fun f _ => hfn f, ?_⟩
  unfold Oper.still at hh
  generalize (execOp a.eval o).run P w = r at *
  cases r with
  | ok x w' =>
    cases x with
    | value v => simp only [Oper.stillUpon] at hh; obtain ⟨rfl, hk⟩ := hh; exact h _ hk
    | skip => simp only [Oper.stillUpon] at hh; obtain ⟨rfl, hk⟩ := hh; exact h _ hk
    | enter f args =>
      simp only [Oper.stillUpon] at hh
      obtain ⟨rfl, v, hc, hn⟩ := hh
      refine ⟨fun hd => (by rw [hF] at hd; cases hd), (calls_in hF hfn hal hc).mono ?_⟩
      rintro e w'' ⟨rfl, rfl⟩
      exact h _ hn
    | defer d => exact hh.elim
    | row row args => exact hh.elim
    | round l f tmps assign body => exact hh.elim
    | _ => exact hh.elim
  | halt x w' => exact hh.elim

theorem wpOpIn_of_stOp (hF : F.depth = none) (hfn : ∀ f, F.fn f) (hal : F.alive = false) (hnd : noDefer ops = true) {i : Nat} {a : Act} {K : Act → Prop} {K' : Act → World → Prop} {Q' : Exit → Act → World → Prop}
    (h : ∀ a, K a → K' a w) (hh : stOp P ops w i K a) : wpOpIn F m P ops Q' i K' a w := by
  unfold stOp at hh
  unfold wpOpIn
  cases ho : ops[i]? with
  | none => simp only [ho] at hh ⊢; exact h _ hh
  | some o =>
    simp only [ho] at hh ⊢
    by_cases hw : Region.wanted o (yielded ops a.tmps) = true
    · simp only [hw, if_true] at hh ⊢
      exact Oper.wpIn_of_still hF hfn hal (noDefer_spec hnd ho) h hh
    · simp only [hw, if_false, Bool.false_eq_true] at hh ⊢
      exact ⟨fun f _ => hfn f, h _ hh⟩

theorem wpAnyIn_of_head (hF : F.depth = none) (hfn : ∀ f, F.fn f) (hal : F.alive = false) (hnd : noDefer ops = true) {md : Region.Mode} {n g : Nat} {L : Array Bool → Act → Prop} {Q' : Exit → Act → World → Prop} (hL : ∀ listed a, L listed a → wpAnyIn F m P md ops Q' g listed a w) :
    ∀ (f : Nat) (listed : Array Bool) (a : Act), wpAnyL P md ops w n L f listed a → wpAnyIn F m P md ops Q' (f + g) listed a w
  | 0, listed, a, h => by rw [Nat.zero_add]; exact hL _ _ h
  | f + 1, listed, a, h => by
    rw [show f + 1 + g = (f + g) + 1 by omega]
    exact ⟨fun h0 => absurd h0 h.1, fun i hi => wpOpIn_of_stOp hF hfn hal hnd (fun a' h' => wpAnyIn_of_head hF hfn hal hnd hL f _ a' h') (h.2 i hi).2⟩

theorem wpAnyIn_of_seq {md : Region.Mode} {Q' : Exit → Act → World → Prop} : ∀ (l : List Oper) (k : Nat) (listed : Array Bool) (a : Act) (w : World), (∀ j, l[j]? = ops[k + j]?) →
    Region.seqB md ops l.length k listed = true → wpListIn F m P ops Q' l a w → wpAnyIn F m P md ops Q' l.length listed a w
  | [], _, _, _, _, _, hB, h => ⟨by simpa [Region.seqB] using hB, h⟩
  | o :: l, k, listed, a, w, hl, hB, h => by
    have h0 : ops[k]? = some o := by simpa using (hl 0).symm
    simp only [List.length_cons, Region.seqB, Bool.and_eq_true, decide_eq_true_eq] at hB
    refine ⟨fun h1 => (by rw [hB.1] at h1; cases h1), fun i hi => ?_⟩
    rw [hB.1] at hi
    have hik : i = k := by simpa using hi
    subst hik
    have hw : wpOpIn F m P ops Q' i (wpListIn F m P ops Q' l) a w := by unfold wpOpIn; simp only [h0]; exact h
    exact wpOpIn_mono (fun a' w' h' => wpAnyIn_of_seq l (i + 1) _ a' w' (fun j => by have := hl (j + 1); simpa [Nat.add_assoc, Nat.add_comm 1 j] using this) hB.2 h') hw

/-- A region that draws: n operations that only read, then a tail in one order. -/
theorem wpIn_region_still_tail (hF : F.depth = none) (hfn : ∀ f, F.fn f) (hal : F.alive = false) {id : Nat} {Q : Exit → Act → World → Prop} {a : Act} {w : World} {l : List Oper} (n : Nat) (hm : P.follows .mixedOrders = true) (hB : Region.lexTailB .any l.toArray n = true) (hnd : noDefer l.toArray = true)
    (h : wpStill P l.toArray { w with drawn := w.drawn + 1 } (fun a' => wpListIn F m P l.toArray Q (l.drop n) a' { w with drawn := w.drawn + 1 }) (l.take n) a) : (Code.region id l.toArray true).wpIn F m P Q a w := by
  simp only [Region.lexTailB, Bool.and_eq_true, decide_eq_true_eq] at hB
  obtain ⟨⟨⟨⟨hsel, hn⟩, hs⟩, hc⟩, hlex⟩ := hB
  have hn' : n < l.length := by simpa using hn
  have htl : (l.take n).length = n := by simp; omega
  have hdl : (l.drop n).length = l.toArray.size - n := by simp
  have inv0 : HeadInv .any l.toArray n (Array.replicate l.toArray.size false) :=
    ⟨by simp, fun j oj _ hl => (by rw [getD_replicate_false] at hl; cases hl), fun t _ ht => getD_in (by simpa using ht) (getD_replicate_false _ _)⟩
  have H := wpAnyL_lex (md := .any) (g := l.toArray.size - n) hsel hs hc hn (l.take n) 0 _ a (fun j hj => by
    have hj' : j < n := by rw [htl] at hj; exact hj
    simp [hj']) (by simpa using htl) inv0 (by rw [htl]; exact hlex) h
  refine wpIn_region_any hm ?_
  have := wpAnyIn_of_head (F := F) (m := m) hF hfn hal hnd (Q' := Q) (g := l.toArray.size - n) (fun listed a' hL => by
    have := wpAnyIn_of_seq (F := F) (m := m) (md := .any) (Q' := Q) (l.drop n) n listed a' { w with drawn := w.drawn + 1 } (fun j => by simp [List.getElem?_drop]) (by rw [hdl]; exact hL.1) hL.2
    rwa [hdl] at this) _ _ _ H
  rw [htl, show n + (l.toArray.size - n) = l.toArray.size by omega] at this
  exact this

/-- The same at the wide fence, and in its rounds. -/
theorem draw_wide {id : Nat} {Q : Exit → Act → World → Prop} {a : Act} {w : World} {l : List Oper} (n : Nat) (hm : P.follows .mixedOrders = true) (hB : Region.lexTailB .any l.toArray n = true) (hnd : noDefer l.toArray = true)
    (h : wpStill P l.toArray w.drew (fun a' => wpListIn Fence.wide m P l.toArray Q (l.drop n) a' w.drew) (l.take n) a) : (Code.region id l.toArray true).wpIn Fence.wide m P Q a w :=
  wpIn_region_still_tail rfl (fun _ => trivial) rfl n hm hB hnd h
theorem draw_round {r id : Nat} {Q : Exit → Act → World → Prop} {a : Act} {w : World} {l : List Oper} (n : Nat) (hm : P.follows .mixedOrders = true) (hB : Region.lexTailB .any l.toArray n = true) (hnd : noDefer l.toArray = true)
    (h : wpStill P l.toArray w.drew (fun a' => wpListIn (Fence.wide.inRound r) m P l.toArray Q (l.drop n) a' w.drew) (l.take n) a) : (Code.region id l.toArray true).wpIn (Fence.wide.inRound r) m P Q a w :=
  wpIn_region_still_tail rfl (fun _ => trivial) rfl n hm hB hnd h

/-- All orders that a region's edges allow. -/
def allOrders (md : Region.Mode) (ops : Array Oper) : Nat → Array Bool → List (List Nat)
  | 0, _ => [[]]
  | f + 1, listed => match Region.ready md ops listed with
    | [] => [[]]
    | rs => rs.flatMap fun i => (allOrders md ops f (listed.setIfInBounds i true)).map (i :: ·)

theorem go_mem {md : Region.Mode} : ∀ (fuel t : Nat) (listed : Array Bool), Region.linearise.go md ops fuel t listed [] ∈ allOrders md ops fuel listed := by
  intro fuel
  induction fuel with
  | zero => intro t listed; simp [Region.linearise.go, allOrders]
  | succ fuel ih =>
    intro t listed
    simp only [Region.linearise.go, allOrders]
    change (match (Region.ready md ops listed)[t % (Region.ready md ops listed).length]? with
      | some i => Region.linearise.go md ops fuel (t / (Region.ready md ops listed).length) (listed.setIfInBounds i true) [i]
      | none => [].reverse) ∈ _
    cases hi : (Region.ready md ops listed)[t % (Region.ready md ops listed).length]? with
    | none =>
      cases hr : Region.ready md ops listed with
      | nil => simp
      | cons x xs =>
        rw [hr] at hi
        have hlt : t % (x :: xs).length < (x :: xs).length := Nat.mod_lt _ (by simp)
        simp at hi
        simp at hlt
        omega
    | some i =>
      have hmem := List.mem_of_getElem? hi
      cases hr : Region.ready md ops listed with
      | nil => rw [hr] at hmem; cases hmem
      | cons x xs =>
        rw [hr] at hmem
        simp only []
        rw [linearise_go_acc, List.reverse_singleton, List.singleton_append]
        exact List.mem_flatMap.2 ⟨i, hmem, List.mem_map.2 ⟨_, ih _ _, rfl⟩⟩

/-- The operations of a region in an order. -/
def Picks (ops : Array Oper) : List Nat → List Oper → Prop
  | [], l => l = []
  | i :: o, l => ∃ x l', ops[i]? = some x ∧ l = x :: l' ∧ Picks ops o l'

theorem wpOpsIn_list {Q : Exit → Act → World → Prop} : ∀ (o : List Nat) (l : List Oper) (a : Act) (w : World), Picks ops o l → wpListIn F m P ops Q l a w → wpOpsIn F m P ops Q o a w
  | [], l, _, _, e, h => by
    rw [show l = [] from e] at h
    exact h
  | i :: o, l, a, w, e, h => by
    obtain ⟨x, l', e1, rfl, e2⟩ := e
    rw [wpOpsIn_cons]
    have hw : wpOpIn F m P ops Q i (wpListIn F m P ops Q l') a w := by unfold wpOpIn; simp only [e1]; exact h
    exact wpOpIn_mono (fun a' w' h' => wpOpsIn_list o l' a' w' e2 h') hw

/-- A region that draws, order by order: L lists, of each order that may come up, the operations in that order. -/
theorem draw_orders {id : Nat} {Q : Exit → Act → World → Prop} {a : Act} {w : World} (L : List (List Nat)) (hm : P.follows .mixedOrders = true)
    (hL : (allOrders .any ops ops.size (Array.replicate ops.size false)).all (fun o => L.contains o) = true)
    (h : ∀ o ∈ L, ∃ l, Picks ops o l ∧ wpListIn F m P ops Q l a w.drew) : (Code.region id ops true).wpIn F m P Q a w :=
  wpIn_region_draw fun t => by
    simp only [Region.schedule, hm, Bool.true_or, if_true]
    have := List.all_eq_true.1 hL _ (go_mem (md := .any) ops.size t (Array.replicate ops.size false))
    obtain ⟨l, h1, h2⟩ := h _ (List.contains_iff_mem.1 this)
    exact wpOpsIn_list _ l a _ h1 h2
end Go.Proofs.YtdgnbmcckknfiaaGreat
