/- A range over a function, at the wide fence: a contract for iterators that tell their elements by number, and one law for the loop. The proof follows the guide's own text on such loops. No conditions. -/
import Derived.RangeFuncNested
import Derived.RangeFuncBound
import Derived.RangeFuncCalls
import Derived.RangeFuncLeaves
import Derived.OwnWalkIn
import Derived.TacticsInMore
import Derived.LoopNIn
import Derived.LoopIn
import Derived.Test.YtdgnbmcckknfiaaGreatWords
namespace Go.Proofs.YtdgnbmcckknfiaaGreat
open Go.RowKit

theorem stepR_scope {P : Program} {b : Frame} {a : Act} {k : List Item} {cs : List Frame} {w : World} {c : Code} :
    step P (lone (b.atR a (.code (.scope c) :: k)) cs w) = .next (lone (b.atR a (.code c :: .inScope c :: k)) cs w) :=
  step_lone_go (by simp [stepG, stepG.exec, Frame.atR])
theorem stepR_inScope {P : Program} {b : Frame} {a : Act} {k : List Item} {cs : List Frame} {w : World} {c : Code} :
    step P (lone (b.atR a (.inScope c :: k)) cs w) = .next (lone (b.atR a k) cs w) :=
  step_lone_go (by simp [stepG, stepG.exec, Frame.atR])

/-- A scope through which the run goes without a goto, inside a fence. -/
theorem wpIn_scope_straight {F : Fence} {n : Nat} {P : Program} {a : Act} {w : World} {Q : Exit → Act → World → Prop} {c : Code}
    (h : c.wpIn F n P (Exit.noGoto Q) a w) : (Code.scope c).wpIn F n P Q a w := by
  intro b k cs hro hb hr
  have h0 : (lone (b.atR a (.code (.scope c) :: k)) cs w).fenced P F := fenced_calm hb hr rfl
  obtain ⟨e, a₁, w₁, hq, harr⟩ := h b (.inScope c :: k) cs hro hb hr
  cases e with
  | normal => exact ⟨.normal, a₁, w₁, hq, .head h0 stepR_scope (StepsIn.trans harr (.one (fenced_calm hb hr rfl) stepR_inScope))⟩
  | exit id =>
    have hx : exitTo id (.inScope c :: k) = exitTo id k := by simp [exitTo]
    exact ⟨.exit id, a₁, w₁, hq, fun k' hk => .head h0 stepR_scope (harr.1 k' (by rw [hx]; exact hk)),
      fun hr' hk => let ⟨k₁, h1, h2⟩ := harr.2 hr' (by rw [hx]; exact hk); ⟨k₁, h1, .head h0 stepR_scope h2⟩⟩
  | goto l => exact hq.elim
  | ret => exact ⟨_, a₁, w₁, hq, .of_steps (.one h0 stepR_scope) harr⟩
  | panic ch => exact ⟨_, a₁, w₁, hq, .of_steps (.one h0 stepR_scope) harr⟩
  | outgrown => exact ⟨_, a₁, w₁, hq, .of_steps (.one h0 stepR_scope) harr⟩

/-- What an iterator may turn between two rounds: what is new; where it has state of its own, what is new since it began. -/
def St (mid : Bool) (B : Nat) (A A' : World) : Prop := Below (if mid then B else A.heap.size) A A'
/-- What a round keeps of the iterator's own. -/
def Kp (mid : Bool) (B : Nat) (A A' : World) : Prop := mid = true → (A.heap.size ≤ A'.heap.size ∧ ∀ b, B ≤ b → b < A.heap.size → A'.heap[b]? = A.heap[b]?)

theorem St.new {mid : Bool} {B : Nat} {A A' : World} (h : Below A.heap.size A A') (hB : B ≤ A.heap.size) : St mid B A A' := by
  unfold St
  cases mid
  · exact h
  · exact h.mono hB

/-- The contract of an iterator that tells N elements, the k-th one 'enc k', while R holds. -/
def IterC (mid : Bool) (P : Program) (f : FuncId) (lb : Array Value) (N : Nat) (enc : Nat → Array Value) (R : World → Prop) : Prop :=
  ∀ (n l : Nat) (W : World) (J Jx : Nat → World → Prop),
    (∀ k A A', J k A → W.heap.size ≤ A.heap.size → St mid W.heap.size A A' → J k A') →
    (∀ k A A', Jx k A → W.heap.size ≤ A.heap.size → St mid W.heap.size A A' → Jx k A') →
    (∀ k A, J k A → R A ∧ W.heap.size ≤ A.heap.size) → (∀ k A, Jx k A → W.heap.size ≤ A.heap.size) →
    (∀ k W1, k < N → J k W1 → YieldAt Fence.wide (n - 1) P l (enc k) W1 fun e W' =>
      Kp mid W.heap.size W1 W' ∧ ((e = .returned (.bool true) ∧ J (k + 1) W') ∨ (e = .returned (.bool false) ∧ Jx (k + 1) W'))) →
    J 0 W →
    CallsIn Fence.wide n P f (#[.func (.yield l) #[] #[]] ++ lb) W fun e W' => (∃ v, e = .returned v) ∧ (J N W' ∨ ∃ k, 0 < k ∧ k ≤ N ∧ Jx k W')

/-- The two blocks of a loop's book-keeping lie as they lay. -/
def Bk (B : Nat) (W W' : World) : Prop := W.heap.size ≤ W'.heap.size ∧ W'.heap[B]? = W.heap[B]? ∧ W'.heap[B + 1]? = W.heap[B + 1]?
theorem Bk.refl (B : Nat) (W : World) : Bk B W W := ⟨Nat.le_refl _, rfl, rfl⟩
theorem Bk.trans {B : Nat} {X Y Z : World} (h : Bk B X Y) (k : Bk B Y Z) : Bk B X Z := ⟨Nat.le_trans h.1 k.1, k.2.1.trans h.2.1, k.2.2.trans h.2.2⟩
theorem Bk.of_below {B C : Nat} {W W' : World} (h : Below C W W') (hC : B + 2 ≤ C) : Bk B W W' := ⟨h.size, h.block B (by omega), h.block (B + 1) (by omega)⟩

/-- How a round may be left. -/
def rpost (mid : Bool) (B : Nat) (I : Nat → World → Prop) (Ix : Code → Nat → World → Prop) (k : Nat) (W W₂ : World) : Exit → Act → World → Prop
  | .normal, _, W' => Bk B W₂ W' ∧ Kp mid (B + 2) W W' ∧ I (k + 1) W'
  | .ret, _, W' => Bk B W₂ W' ∧ Kp mid (B + 2) W W' ∧ Ix .ret (k + 1) W'
  | .exit id, _, W' => Bk B W₂ W' ∧ Kp mid (B + 2) W W' ∧ Ix (.exit id) (k + 1) W'
  | .goto t, _, W' => Bk B W₂ W' ∧ Kp mid (B + 2) W W' ∧ Ix (.goto t) (k + 1) W'
  | .panic _, _, _ => False
  | .outgrown, _, _ => False

theorem grown_put (W : World) (l : Nat) (o : Obj) : W.grownBy (W.putObj l o) (some l) := grownBy_putObj' W l o

theorem kp_put {mid : Bool} {B l : Nat} {W W' : World} {o : Obj} (h : Kp mid B W W') (hl : l < B) : Kp mid B W (W'.putObj l o) := fun e =>
  ⟨by simpa using (h e).1, fun b hb hlt => (World.putObj_heap_other (by omega)).trans ((h e).2 b hb hlt)⟩

theorem wide_fn (f : FuncId) : Fence.wide.fn f = True := rfl
theorem wide_depth : Fence.wide.depth = none := rfl
theorem wide_room {n : Nat} : Fence.wide.depth.isSome = true → 1 ≤ n := fun h => by simp [Fence.wide] at h
theorem round_room {n l : Nat} : (Fence.wide.inRound l).depth.isSome = true → 1 ≤ n := fun h => by simp [Fence.wide, Fence.inRound] at h
/-- A contract at the wide fence, in a round's frame. -/
theorem calls_round {P : Program} {f : FuncId} {args : Array Value} {w : World} {R : Ending → World → Prop} (l n : Nat) (h : Calls P f args w R) : CallsIn (Fence.wide.inRound l) n P f args w R :=
  CallsIn.inRound l (callsIn_wide.2 h)

theorem round_any {P : Program} {l f n m l2 : Nat} {tmps : Array Value} {assign body : Code} {w : World} {R : Ending → World → Prop} (h : RoundIn Fence.wide n P l f tmps assign body w R) :
    RoundIn (Fence.wide.inRound l2) m P l f tmps assign body w R := ⟨h.1, fun c cs _ => h.2 c cs (room_wide _)⟩

theorem cell_al {W : World} {a : Addr} {v : Value} (o : Obj) (h : W.cell? a = some v) : (W.alloc o).cell? a = some v :=
  (World.cell?_alloc_lt W o a (World.block_lt_of_cell? _ _ h)).trans h

theorem blk_only {w w' : World} {g l : Nat} {t : TypeId} {cs : Array Value} (h : Blk w g t cs) (hb : w.grownBy w' (some l)) (hg : g ≠ l) : Blk w' g t cs := h.grown hb (by simpa using hg)

theorem below_only {B l : Nat} {w w' : World} (hb : w.grownBy w' (some l)) (hB : B ≤ l) (hw : B ≤ w.heap.size) : Below B w w' := (Below.refl B w).grown hb hw (fun k hk => by cases hk; exact hB)

/-- The law of a range over a function. -/
theorem rangeFunc_law {P : Program} {g : Operand} {ps : Array Tmp} {assign body : Code} {Q : Exit → Act → World → Prop} {a : Act} {w : World} {n : Nat}
    {gf : Nat} {lb : Array Value} (hg : a.eval g = .func (.func gf) #[] lb) (eg : ∀ args w, (callFunc gf args).run P w = .ok (.enter gf args) w)
    {mid : Bool} {N : Nat} {enc : Nat → Array Value} {R : World → Prop} (hit : IterC mid P gf lb N enc R) (hps : ∀ k, (enc k).size = ps.size)
    (I : Nat → World → Prop) (Ix : Code → Nat → World → Prop)
    (hI : ∀ k A A', I k A → w.heap.size + 2 ≤ A.heap.size → Below (if mid then w.heap.size + 2 else A.heap.size) A A' → I k A')
    (hIx : ∀ c k A A', Ix c k A → w.heap.size + 2 ≤ A.heap.size → Below (if mid then w.heap.size + 2 else A.heap.size) A A' → Ix c k A')
    (hIl : ∀ k A A', I k A → A.grownBy A' (some (w.heap.size + 1)) → I k A') (hIxl : ∀ c k A A', Ix c k A → A.grownBy A' (some (w.heap.size + 1)) → Ix c k A')
    (hIR : ∀ k A, I k A → R A)
    (h0 : ∀ W1, Below w.heap.size w W1 → I 0 W1)
    (hround : ∀ k W, k < N → I k W → w.heap.size + 2 ≤ W.heap.size →
      assign.wpIn (Fence.wide.inRound (w.heap.size + 1)) (n - 1 - 1) P
        (Exit.then (fun a₁ W₁ => Bk w.heap.size W W₁ ∧ ∀ W₂, W₁.grownBy W₂ (some (w.heap.size + 1)) → W₂.heap.size = W₁.heap.size →
          body.wpIn (Fence.wide.inRound (w.heap.size + 1)) (n - 1 - 1) P (rpost mid w.heap.size I Ix k W W₂) a₁ W₂) (fun _ _ _ => False))
        { tmps := (ps.zip (enc k)).foldl (fun t (p, v) => t.setIfInBounds p v) a.tmps, defers := [] } W)
    (hdone : ∀ W', I N W' → w.heap.size + 2 ≤ W'.heap.size → W'.heap[w.heap.size]? = some (.deferred (some [])) → Q .normal { a with defers := { target := .collected w.heap.size, args := #[] } :: a.defers } W')
    (hstop : ∀ c k W', 0 < k → k ≤ N → Ix c k W' → w.heap.size + 2 ≤ W'.heap.size → W'.heap[w.heap.size]? = some (.deferred (some [])) → c.wpIn Fence.wide n P Q { a with defers := { target := .collected w.heap.size, args := #[] } :: a.defers } W') :
    (Code.rangeFunc g ps assign body).wpIn Fence.wide n P Q a w := by
  refine wpIn_rangeFunc ?_
  intro fn hfn
  rw [show Fence.wide.round = none from rfl]
  obtain ⟨rec, hrec⟩ : ∃ rec : LoopState → Option Code → Loop, rec = fun st pe => { state := st, pending := pe, fn, tmps := a.tmps, params := ps, assign, body, defers := w.heap.size } := ⟨_, rfl⟩
  obtain ⟨W1, hW1⟩ : ∃ W1, (w.alloc (.deferred (some []))).alloc (.loop (rec .ready none)) = W1 := ⟨_, rfl⟩
  have hsz : W1.heap.size = w.heap.size + 2 := by rw [← hW1]; simp
  have hL1 : W1.heap[w.heap.size + 1]? = some (.loop (rec .ready none)) := by
    rw [← hW1]; have := World.alloc_heap_new (w.alloc (.deferred (some []))) (.loop (rec .ready none)); rwa [World.size_alloc] at this
  have hK1 : W1.heap[w.heap.size]? = some (.deferred (some [])) := by
    rw [← hW1]; exact (Below.heap_alloc _ _ _ (by simp)).trans (World.alloc_heap_new w _)
  have hb1 : Below w.heap.size w W1 := by
    rw [← hW1]; exact ((Below.refl _ w).alloc (Nat.le_refl _) _).alloc (by simp) _
  have hI1 : I 0 W1 := h0 W1 hb1
  refine ⟨w.heap.size + 1, [{ target := .collected w.heap.size, args := #[] }], W1, { target := .fn (.func gf) lb, args := #[.func (.yield (w.heap.size + 1)) #[] #[]] }, W1, gf,
    #[.func (.yield (w.heap.size + 1)) #[] #[]] ++ lb, W1, ?_, ?_, ?_, ?_, (fun h => by simp [Fence.wide] at h), ?_⟩
  · rw [← hW1, hrec]; exact run_enterLoop_outer _ _ _ _ _
  · simp only [resolve, hg]
    simp [go_sem]
  · exact fun _ _ => trivial
  · simp [invoke, go_sem, eg]
  · have hst : ∀ {A A' : World}, W1.heap.size ≤ A.heap.size → St mid W1.heap.size A A' → Below (if mid then w.heap.size + 2 else A.heap.size) A A' ∧ A'.heap[w.heap.size + 1]? = A.heap[w.heap.size + 1]? ∧ A'.heap[w.heap.size]? = A.heap[w.heap.size]? ∧ A.heap.size ≤ A'.heap.size := by
      intro A A' hle h
      unfold St at h
      rw [hsz] at h hle
      refine ⟨h, ?_, ?_, h.size⟩
      · exact h.block _ (by split <;> omega)
      · exact h.block _ (by split <;> omega)
    refine (hit (n - 1) (w.heap.size + 1) W1
      (fun k W => I k W ∧ W.heap[w.heap.size + 1]? = some (.loop (rec .ready none)) ∧ W.heap[w.heap.size]? = some (.deferred (some [])) ∧ w.heap.size + 2 ≤ W.heap.size)
      (fun k W => (∃ c, Ix c k W ∧ W.heap[w.heap.size + 1]? = some (.loop (rec .done (some c)))) ∧ W.heap[w.heap.size]? = some (.deferred (some [])) ∧ w.heap.size + 2 ≤ W.heap.size)
      ?_ ?_ (fun k A h => ⟨hIR k A h.1, by rw [hsz]; exact h.2.2.2⟩) (fun k A h => by rw [hsz]; exact h.2.2) ?_ ⟨hI1, hL1, hK1, by rw [hsz]; exact Nat.le_refl _⟩).mono ?_
    · rintro k A A' ⟨hi, hl, hk, hle⟩ hA h
      obtain ⟨h1, h2, h3, h4⟩ := hst hA h
      exact ⟨hI k A A' hi hle h1, h2.trans hl, h3.trans hk, Nat.le_trans hle h4⟩
    · rintro k A A' ⟨⟨c, hi, hl⟩, hk, hle⟩ hA h
      obtain ⟨h1, h2, h3, h4⟩ := hst hA h
      exact ⟨⟨c, hIx c k A A' hi hle h1, h2.trans hl⟩, h3.trans hk, Nat.le_trans hle h4⟩
    · -- one round
      rintro k W hkN ⟨hi, hl, hk, hle⟩
      have hy := run_yield (P := P) (args := enc k) hl (by rw [hrec]; exact hps k)
      rw [hrec] at hy
      refine ⟨fn, _, assign, body, hy, roundIn_of_wpIn hfn (wpIn_mono (hround k W hkN hi hle) ?_)⟩
      intro e0 a₁ W₁ h1
      cases e0 with
      | normal =>
        obtain ⟨hbk, hrest⟩ := h1
        have hl1 : W₁.heap[w.heap.size + 1]? = some (.loop (rec .ready none)) := hbk.2.2.trans hl
        have hk1 : W₁.heap[w.heap.size]? = some (.deferred (some [])) := hbk.2.1.trans hk
        have hlt : w.heap.size + 1 < W₁.heap.size := (Array.getElem?_eq_some_iff.1 hl1).1
        refine ⟨_, run_beginRound hl1 (by rw [hrec]), ?_⟩
        have hl2 : (W₁.putObj (w.heap.size + 1) (.loop { rec .ready none with state := .busy })).heap[w.heap.size + 1]? = some (.loop { rec .ready none with state := .busy }) := World.putObj_heap_same hlt
        have hk2 : (W₁.putObj (w.heap.size + 1) (.loop { rec .ready none with state := .busy })).heap[w.heap.size]? = some (.deferred (some [])) := (World.putObj_heap_other (by omega)).trans hk1
        have hs2 : (W₁.putObj (w.heap.size + 1) (.loop { rec .ready none with state := .busy })).heap.size = W₁.heap.size := World.putObj_size
        have hb := hrest _ (grown_put W₁ (w.heap.size + 1) (.loop { rec .ready none with state := .busy })) hs2
        generalize W₁.putObj (w.heap.size + 1) (.loop { rec .ready none with state := .busy }) = W₂ at *
        refine wpIn_mono hb ?_
        have hle2 : w.heap.size + 2 ≤ W₂.heap.size := by have := hbk.1; omega
        have fin : ∀ (jump : Option Code) (W3 : World), Bk w.heap.size W₂ W3 →
            (Instr.endRound (w.heap.size + 1) jump).run P W3 = .ok (.bool jump.isNone) (W3.putObj (w.heap.size + 1) (.loop (rec (if jump.isNone then .ready else .done) jump))) ∧
            (W3.putObj (w.heap.size + 1) (.loop (rec (if jump.isNone then .ready else .done) jump))).heap[w.heap.size + 1]? = some (.loop (rec (if jump.isNone then .ready else .done) jump)) ∧
            (W3.putObj (w.heap.size + 1) (.loop (rec (if jump.isNone then .ready else .done) jump))).heap[w.heap.size]? = some (.deferred (some [])) ∧
            w.heap.size + 2 ≤ (W3.putObj (w.heap.size + 1) (.loop (rec (if jump.isNone then .ready else .done) jump))).heap.size := fun jump W3 hk3 => by
          have hl3 := hk3.2.2.trans hl2
          have := run_endRound (P := P) jump hl3
          rw [hrec] at this ⊢
          have hsz3 := hk3.1
          exact ⟨this, World.putObj_heap_same (by omega), (World.putObj_heap_other (by omega)).trans (hk3.2.1.trans hk2), by rw [World.putObj_size]; omega⟩
        rintro e a3 W3 hp
        cases e with
        | normal =>
          obtain ⟨hk3, hkp3, hi3⟩ := hp
          obtain ⟨hr, hl4, hk4, hz4⟩ := fin none W3 hk3
          exact ⟨_, _, hr, by rw [hsz]; exact kp_put hkp3 (by omega), .inl ⟨rfl, hIl _ _ _ hi3 (grown_put W3 _ _), hl4, hk4, hz4⟩⟩
        | ret =>
          obtain ⟨hk3, hkp3, hi3⟩ := hp
          obtain ⟨hr, hl4, hk4, hz4⟩ := fin (some .ret) W3 hk3
          exact ⟨_, _, hr, by rw [hsz]; exact kp_put hkp3 (by omega), .inr ⟨rfl, ⟨.ret, hIxl _ _ _ _ hi3 (grown_put W3 _ _), hl4⟩, hk4, hz4⟩⟩
        | exit id =>
          obtain ⟨hk3, hkp3, hi3⟩ := hp
          obtain ⟨hr, hl4, hk4, hz4⟩ := fin (some (.exit id)) W3 hk3
          exact ⟨_, _, hr, by rw [hsz]; exact kp_put hkp3 (by omega), .inr ⟨rfl, ⟨.exit id, hIxl _ _ _ _ hi3 (grown_put W3 _ _), hl4⟩, hk4, hz4⟩⟩
        | goto t =>
          obtain ⟨hk3, hkp3, hi3⟩ := hp
          obtain ⟨hr, hl4, hk4, hz4⟩ := fin (some (.goto t)) W3 hk3
          exact ⟨_, _, hr, by rw [hsz]; exact kp_put hkp3 (by omega), .inr ⟨rfl, ⟨.goto t, hIxl _ _ _ _ hi3 (grown_put W3 _ _), hl4⟩, hk4, hz4⟩⟩
        | panic ch => exact hp.elim
        | outgrown => exact hp.elim
      | ret => exact h1.elim
      | exit id => exact h1.elim
      | goto t => exact h1.elim
      | panic ch => exact h1.elim
      | outgrown => exact h1.elim
    · -- behind the iterator
      rintro e W2 ⟨⟨v, rfl⟩, (⟨hi, hl, hk, hz⟩ | ⟨k, hk0, hkN, ⟨c, hi, hl⟩, hk, hz⟩)⟩
      · exact ⟨none, _, by have := run_endLoop (P := P) hl (by rw [hrec]; simp); rw [hrec] at this; exact this, hdone _ (hIl _ _ _ hi (grown_put W2 _ _)) (by rw [World.putObj_size]; exact hz) ((World.putObj_heap_other (by omega)).trans hk)⟩
      · exact ⟨some c, _, by have := run_endLoop (P := P) hl (by rw [hrec]; simp); rw [hrec] at this; exact this, hstop c k _ hk0 hkN (hIxl _ _ _ _ hi (grown_put W2 _ _)) (by rw [World.putObj_size]; exact hz) ((World.putObj_heap_other (by omega)).trans hk)⟩

/-- How a round may be left where it can only go on or break. -/
def bpost (mid : Bool) (B id : Nat) (I Ix : Nat → World → Prop) (k : Nat) (W W₂ : World) : Exit → Act → World → Prop
  | .normal, _, W' => Bk B W₂ W' ∧ Kp mid (B + 2) W W' ∧ I (k + 1) W'
  | .exit id', _, W' => id' = id ∧ Bk B W₂ W' ∧ Kp mid (B + 2) W W' ∧ Ix (k + 1) W'
  | _, _, _ => False

/-- The law where the body goes on or breaks: both ways come to G. -/
theorem rangeFunc_break {P : Program} {g : Operand} {ps : Array Tmp} {assign body : Code} {Q : Exit → Act → World → Prop} {a : Act} {w : World} {n id : Nat}
    {gf : Nat} {lb : Array Value} (hg : a.eval g = .func (.func gf) #[] lb) (eg : ∀ args w, (callFunc gf args).run P w = .ok (.enter gf args) w)
    {mid : Bool} {N : Nat} {enc : Nat → Array Value} {R : World → Prop} (hit : IterC mid P gf lb N enc R) (hps : ∀ k, (enc k).size = ps.size)
    (I Ix : Nat → World → Prop) (G : World → Prop)
    (hI : ∀ k A A', I k A → w.heap.size + 2 ≤ A.heap.size → Below (if mid then w.heap.size + 2 else A.heap.size) A A' → I k A')
    (hIx : ∀ k A A', Ix k A → w.heap.size + 2 ≤ A.heap.size → Below (if mid then w.heap.size + 2 else A.heap.size) A A' → Ix k A')
    (hIl : ∀ k A A', I k A → A.grownBy A' (some (w.heap.size + 1)) → I k A') (hIxl : ∀ k A A', Ix k A → A.grownBy A' (some (w.heap.size + 1)) → Ix k A')
    (hIR : ∀ k A, I k A → R A)
    (h0 : ∀ W1, Below w.heap.size w W1 → I 0 W1)
    (hround : ∀ k W, k < N → I k W → w.heap.size + 2 ≤ W.heap.size →
      assign.wpIn (Fence.wide.inRound (w.heap.size + 1)) (n - 1 - 1) P
        (Exit.then (fun a₁ W₁ => Bk w.heap.size W W₁ ∧ ∀ W₂, W₁.grownBy W₂ (some (w.heap.size + 1)) → W₂.heap.size = W₁.heap.size →
          body.wpIn (Fence.wide.inRound (w.heap.size + 1)) (n - 1 - 1) P (bpost mid w.heap.size id I Ix k W W₂) a₁ W₂) (fun _ _ _ => False))
        { tmps := (ps.zip (enc k)).foldl (fun t (p, v) => t.setIfInBounds p v) a.tmps, defers := [] } W)
    (hG1 : ∀ X, I N X → G X) (hG2 : ∀ k X, 0 < k → k ≤ N → Ix k X → G X)
    (rest : ∀ X, G X → w.heap.size + 2 ≤ X.heap.size → X.heap[w.heap.size]? = some (.deferred (some [])) → Q .normal { a with defers := { target := .collected w.heap.size, args := #[] } :: a.defers } X) :
    (Code.rangeFunc g ps assign body).wpIn Fence.wide n P (Exit.inBlock id Q) a w := by
  refine rangeFunc_law hg eg hit hps I (fun c k X => c = .exit id ∧ Ix k X) hI (fun c k X Y h hle hb => ⟨h.1, hIx k X Y h.2 hle hb⟩) hIl (fun c k X Y h hb => ⟨h.1, hIxl k X Y h.2 hb⟩) hIR h0 ?_ ?_ ?_
  · intro k W hk hi hle
    refine wpIn_mono (hround k W hk hi hle) ?_
    intro e a₁ W₁ h
    cases e with
    | normal =>
      refine ⟨h.1, fun W₂ h1 h2 => wpIn_mono (h.2 W₂ h1 h2) ?_⟩
      intro e a3 W3 hp
      cases e with
      | normal => exact hp
      | exit id' => obtain ⟨rfl, h3, h4, h5⟩ := hp; exact ⟨h3, h4, rfl, h5⟩
      | ret => exact hp.elim
      | goto t => exact hp.elim
      | panic ch => exact hp.elim
      | outgrown => exact hp.elim
    | ret => exact h.elim
    | exit id => exact h.elim
    | goto t => exact h.elim
    | panic ch => exact h.elim
    | outgrown => exact h.elim
  · intro X hi hle hD
    exact rest X (hG1 X hi) hle hD
  · rintro c k X h0 hk ⟨rfl, hx⟩ hle hD
    refine wpIn_exit ?_
    simp only [Exit.inBlock, if_true]
    exact rest X (hG2 k X h0 hk hx) hle hD

/-- A loop whose measure stands in no slot, inside a fence. -/
theorem wpIn_loop_ghost {F : Fence} {m : Nat} {P : Program} {Q : Exit → Act → World → Prop} {a : Act} {w : World} {c : Code} (I : Nat → Act → World → Prop) (n₀ : Nat) (h₀ : I n₀ a w)
    (round : ∀ n a w, I n a w → ∀ K : Act → World → Prop, (∀ n' a' w', n' < n → I n' a' w' → K a' w') → c.wpIn F m P (Exit.then K Q) a w) : (Code.loop c).wpIn F m P Q a w := by
  refine wpIn_loop (fun a w => ∃ n, I n a w) (fun a w => leastOf (fun n => I n a w)) ⟨n₀, h₀⟩ ?_
  intro a w hI
  refine round _ a w (leastOf_spec hI).1 _ fun n' a' w' hlt hI' => ?_
  exact ⟨⟨n', hI'⟩, Nat.lt_of_le_of_lt ((leastOf_spec ⟨n', hI'⟩).2 n' hI') hlt⟩

/-- The marks of a function's loops, on its way out. -/
theorem leaves_marks {F : Fence} {n : Nat} {P : Program} {fn : Func} {tmps : Array Value} {R : Ending → World → Prop} (B : Nat) : ∀ (Ds : List Nat) (W : World), (∀ D ∈ Ds, B ≤ D ∧ W.heap[D]? = some (.deferred (some []))) → Ds.Nodup →
    (∀ W', Below B W W' → LeavesIn F n P fn tmps R [] .returning W') → LeavesInM F n P fn tmps R (Ds.map fun D => { target := .collected D, args := #[] }) .returning W
  | [], W, _, _, h => h W (Below.refl _ _)
  | D :: Ds, W, hD, hnd, h => by
    refine ⟨by simp, .inl ⟨D, _, rfl, run_takeDeferred (hD D (by simp)).2, ?_⟩⟩
    have hlt : D < W.heap.size := (Array.getElem?_eq_some_iff.1 (hD D (by simp)).2).1
    have hb : Below B W (W.putObj D (.deferred none)) := below_only (grown_put W _ _) (hD D (by simp)).1 (Nat.le_of_lt (Nat.lt_of_le_of_lt (hD D (by simp)).1 hlt))
    refine leaves_marks B Ds _ (fun D' h' => ⟨(hD D' (by simp [h'])).1, ?_⟩) (List.nodup_cons.1 hnd).2 (fun W' hW => h W' (hb.trans hW))
    rw [World.putObj_heap_other (fun e => (List.nodup_cons.1 hnd).1 (by rw [← e]; exact h'))]
    exact (hD D' (by simp [h'])).2

end Go.Proofs.YtdgnbmcckknfiaaGreat
