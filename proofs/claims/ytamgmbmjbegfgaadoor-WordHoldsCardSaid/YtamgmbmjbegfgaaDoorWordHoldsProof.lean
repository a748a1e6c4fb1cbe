/- The law WordHolds answers true at every input, and leaves its arguments as they were; the library's table is tied to its text. No other conditions. -/
import Derived.Test.YtamgmbmjbegfgaaDoorRows
import Derived.Test.YtamgmbmjbegfgaaDoorTie
import Derived.Test.YtamgmbmjbegfgaaDoorCards
import Derived.Test.YtamgmbmjbegfgaaDoorLawW
import Derived.WalkKit
import Derived.ProofKit
import Derived.OpenShut
import Derived.ChangeOld
import Derived.Below
import Derived.Lib.SmallJoins
import Derived.LaidMore
import Derived.Stop.Joined
import Derived.SevenTiedAt
import Derived.Lib.LaidTab
namespace Go.Proofs.YtamgmbmjbegfgaaDoor.wordHolds
open Go.ChangeShapes Go.WideShapes Go.ChangeAt Go.RowKit Go.Joins
set_option linter.unusedVariables false

theorem own : ownKnob Tryd.prog.godebug = none := by kernel_rfl
theorem laidOut : laidOutB Tryd.prog = true := by kernel_rfl
theorem cellsP : Tryd.prog.cellsOf 24 = 2 := by kernel_rfl
theorem gT : Tryd.prog.globalNamed "math/bits.deBruijn64tab" = some 0 := by kernel_rfl
/-- The door's own heap meets the condition. -/
theorem door_met (os : Os) (args : Array Value) : laidMetH Tryd.prog Rows.wordHoldsRow.laid ((World.doorLaid Tryd.prog 400 os).forCall (fun _ _ => 0) ⟨#[], args, []⟩).memory :=
  laidMetH_of_parts3 (fuel := 8) (laidMet_of_run' 8 (by kernel_rfl) (by kernel_rfl)) (by kernel_rfl) (by kernel_rfl)
/-- What the condition gives. -/
theorem of_laid {W : World} (h : laidMetH Tryd.prog Rows.wordHoldsRow.laid W) : TabIn W := by
  rw [MakeChecks.laidMetH_plain _ _ _ (by kernel_rfl)] at h
  have h' : laidMet Tryd.prog (("math/bits.deBruijn64tab", Lib.tabData .u8 (Lib.deBruijn64tab.map fun x : Nat => (x : Int))) :: []) W := h
  have ht := Lib.tabIs_of_head (t := 80) (e := 5) (n := 64) gT (by kernel_rfl) Tryd.underlying80 Tryd.underlying5 (by kernel_rfl) (by kernel_rfl) h'
  intro j hj
  have := ht.cell gT j (by rw [List.length_map]; exact hj)
  rw [this]
  simp only [List.getD_eq_getElem?_getD, List.getElem?_map]
  cases Lib.deBruijn64tab[j]? <;> rfl
theorem open_two {H : Type} {enc : TypeId × Value → H} {W : World} {base b0 : Nat} {sp : Nat → Bool} {held : Bool} {r : Reach} {v : Value} {d : DataW H} {p : List MemPlace} (hv : Value.okWide Tryd.prog W r b0 57 v) (h : DataW.Trod enc Tryd.prog W base sp held 57 v d p) :
    ∃ a b : Int, v = .agg #[.int .u64 a, .int .u64 b] ∧ (Lit.int .u64 a).wf = true ∧ (Lit.int .u64 b).wf = true := by
  unfold Value.okWide at hv
  rw [Tryd.underlying57] at hv
  obtain ⟨cs, rfl, hsz, _⟩ := hv
  have c1 : Tryd.prog.cellsOf 22 = 1 := by kernel_rfl
  have c2 : Tryd.prog.cellsOf 57 = 2 := by kernel_rfl
  obtain ⟨x0, x1, rfl⟩ := array2 (hsz.trans c2)
  obtain ⟨fuel, hf⟩ := h
  obtain ⟨xs, m, rfl, _, _, hxl, hel⟩ := DataW.trod_array Tryd.underlying57 hf
  have h0 := hel 0 (by omega)
  have h1 := hel 1 (by omega)
  rw [c1, List.getElem?_eq_getElem (by omega)] at h0 h1
  simp [Value.cells] at h0 h1
  obtain ⟨a, ea, _, wa⟩ := DataW.trod_int Tryd.underlying22 h0
  obtain ⟨b, eb, _, wb⟩ := DataW.trod_int Tryd.underlying22 h1
  simp at ea eb
  subst ea eb
  exact ⟨a, b, rfl, wa, wb⟩

theorem walk (a0 : Int) (a1 b1 : Int) (a2 b2 : Int) (a3 b3 : Int) (w : World) (w0 : (Lit.int .u64 a0).wf = true) (w1 : (Lit.int .i64 a1).wf = true) (v1 : (Lit.int .i64 b1).wf = true) (w2 : (Lit.int .i64 a2).wf = true) (v2 : (Lit.int .i64 b2).wf = true) (w3 : (Lit.int .u64 a3).wf = true) (v3 : (Lit.int .u64 b3).wf = true) (hT : TabIn w) :
    Calls Tryd.prog 8 #[.int .u64 a0, .agg #[.int .i64 a1, .int .i64 b1], .agg #[.int .i64 a2, .int .i64 b2], .agg #[.int .u64 a3, .int .u64 b3]] w fun e w' => e = .returned (.bool true) ∧ Below w.heap.size w w' := by
  obtain ⟨x, rfl, hx⟩ := u64_nat w0
  obtain ⟨m, rfl, hm⟩ := u64_nat w3
  obtain ⟨n, rfl, hn⟩ := u64_nat v3
  exact wordHolds_any x a1 b1 a2 b2 m n w hx hT

set_option maxRecDepth 100000 in
theorem lifted (os : Os) (started : os.Started) (H : Type) (enc : TypeId × Value → H) :
    ReturnsInHanded {} Tryd.checked os 8 .any (fun w args => (Rows.wordHoldsSpec.pre enc Tryd.prog Tryd.f8 Rows.wordHoldsRow.domain false w args ∧ laidMetH Tryd.prog Rows.wordHoldsRow.laid w) ∧ sizedMet enc Tryd.prog Tryd.f8 (OpenSpec.ofChange Rows.wordHoldsSpec) false w args)
      (Rows.wordHoldsSpec.post enc Tryd.prog Tryd.f8 false true false false) := by
  refine returnsInHanded_of_change_and (C := Tryd.checked) (X := fun w _ => laidMetH Tryd.prog Rows.wordHoldsRow.laid w) (fun _ _ _ hh h => h.of_heap hh) own started (by kernel_rfl) Tryd.func8
    (ChangeSpec.witness_shaped (enc := enc) (C := Tryd.checked) (os := os) (X := fun w _ => laidMetH Tryd.prog Rows.wordHoldsRow.laid w) false (World.doorLaid Tryd.prog 400 os) #[.int .u64 0, .agg #[.int .i64 0, .int .i64 0], .agg #[.int .i64 0, .int .i64 0], .agg #[.int .u64 0, .int .u64 0]] 8 rfl (World.shaped_of_RefB (by kernel_rfl) (by kernel_rfl)) (by kernel_rfl) (by kernel_rfl) (by kernel_rfl) (door_met os _)) ?_
  intro W base args ds gs before hval0 hW _ _ hL _
  have hval : ∀ (j : Nat) t v, Tryd.f8.params[j]? = some t → args[j]? = some v → Value.okWide Tryd.prog W .any base t v := hval0
  have hW' := hW
  obtain ⟨p, q, hA0, hV, rfl, hfz, hnd⟩ := hW
  have hA : DataW.TrodAll enc Tryd.prog W 0 (fun _ => true) true Tryd.f8.params.toList args.toList ds p := hA0
  rw [Tryd.params8] at hA hval
  obtain ⟨v0, vs0, d0, ds0, p0, q0, hargs, rfl, rfl, h0, r0⟩ := trodAll_cons hA
  obtain ⟨v1, vs1, d1, ds1, p1, q1, rfl, rfl, rfl, h1, r1⟩ := trodAll_cons r0
  obtain ⟨v2, vs2, d2, ds2, p2, q2, rfl, rfl, rfl, h2, r2⟩ := trodAll_cons r1
  obtain ⟨v3, vs3, d3, ds3, p3, q3, rfl, rfl, rfl, h3, r3⟩ := trodAll_cons r2
  obtain ⟨rfl, rfl, rfl⟩ := trodAll_nil r3
  obtain rfl : args = #[v0, v1, v2, v3] := by cases args; simp_all
  obtain ⟨rfl, rfl⟩ := trodVars_none hV
  obtain ⟨a0, rfl, rfl, rfl, w0⟩ := open_int Tryd.underlying22 (hval 0 22 v0 rfl rfl) h0
  have k1 := h1
  have lt1 : ∀ x ∈ p1, x.block < W.heap.size := by obtain ⟨m, hm⟩ := k1; exact DataW.trod_lt m _ _ _ hm
  obtain ⟨x1, z1, y1, u1, m1, rfl, _, _, hy1, hu1⟩ := open_agg2 Tryd.underlying24 (by kernel_rfl) cellsP (hval 1 24 v1 rfl rfl) h1
  obtain ⟨a1, ea1, _, w1⟩ := DataW.trod_int Tryd.underlying3 hy1
  obtain ⟨b1, eb1, _, v1⟩ := DataW.trod_int Tryd.underlying3 hu1
  simp at ea1 eb1
  subst ea1 eb1
  have k2 := h2
  have lt2 : ∀ x ∈ p2, x.block < W.heap.size := by obtain ⟨m, hm⟩ := k2; exact DataW.trod_lt m _ _ _ hm
  obtain ⟨x2, z2, y2, u2, m2, rfl, _, _, hy2, hu2⟩ := open_agg2 Tryd.underlying24 (by kernel_rfl) cellsP (hval 2 24 v2 rfl rfl) h2
  obtain ⟨a2, ea2, _, w2⟩ := DataW.trod_int Tryd.underlying3 hy2
  obtain ⟨b2, eb2, _, v2⟩ := DataW.trod_int Tryd.underlying3 hu2
  simp at ea2 eb2
  subst ea2 eb2
  have k3 := h3
  have lt3 : ∀ x ∈ p3, x.block < W.heap.size := by obtain ⟨m, hm⟩ := k3; exact DataW.trod_lt m _ _ _ hm
  obtain ⟨a3, b3, rfl, w3, v3⟩ := open_two (hval 3 57 v3 rfl rfl) h3
  have hT := of_laid hL
  clear hA0 hval0
  refine (walk a0 a1 b1 a2 b2 a3 b3 W w0 w1 v1 w2 v2 w3 v3 hT).mono fun e W' ⟨he, bel⟩ => ?_
  subst he
  exact ⟨_, rfl, _, _, _, [], _, [], hW', trodAll_mk1 (shut_bool Tryd.underlying4 _), (trodAll_cons_mk (shut_int Tryd.underlying22 w0) (trodAll_cons_mk (Below.trod laidOut (by kernel_rfl) (of_decide_eq_true (by kernel_rfl)) k1 bel lt1) (trodAll_cons_mk (Below.trod laidOut (by kernel_rfl) (of_decide_eq_true (by kernel_rfl)) k2 bel lt2) (trodAll_cons_mk (Below.trod laidOut (by kernel_rfl) (of_decide_eq_true (by kernel_rfl)) k3 bel lt3) trodAll_mk0)))), rfl, bel.frame _, fun h => by cases h⟩

theorem over : Rows.wordHoldsRow.holds Tryd.pinned (OpenSpec.ofChange Rows.wordHoldsSpec) :=
  OpenClaim.holds_of_wide 8 Tryd.f8 rfl rfl rfl rfl rfl rfl rfl ⟨rfl, rfl, rfl, rfl, rfl⟩ rfl rfl rfl rfl rfl (by kernel_rfl) Tryd.func8 (by kernel_rfl)
    (of_decide_eq_true (by kernel_rfl)) (by unfold Func.isWrapper; first | (rw [if_pos (by decide +kernel)]; kernel_rfl) | (rw [if_neg (by decide +kernel)]; exact ⟨rfl, rfl⟩))
    (fun os started H enc _ => lifted os started H enc)

theorem proved : Rows.WordHoldsCardSaid :=
  Claim7.holds_tied_plain_at .later [] [.data] true (true, "07d771aedfa1bf558717cfd52acd92e599fbbd2e7b4f0271496256e17b045ea2") false
    over (fun _ h => by cases h) (by kernel_rfl) (fun _ h => by cases h) wordHolds_row_tie rfl ⟨rfl, rfl⟩ (by kernel_rfl) rfl
    (fun f fn hf hfn => by
      obtain rfl : f = 8 := Option.some.inj ((show Tryd.prog.funcNamed "waterline/waterlinelaw01.WordHolds" = some 8 by kernel_rfl).symm.trans hf) |>.symm
      obtain rfl : fn = Tryd.f8 := (Option.some.inj (Tryd.func8.symm.trans hfn)).symm
      exact ⟨by kernel_rfl, fun j t ht => by
        rw [Tryd.params8] at ht
        have hm : t ∈ [22, 24, 24, 57] := by simpa using Array.mem_of_getElem? ht
        have hall : ([22, 24, 24, 57].all fun u => !Tryd.prog.wantsStandIn u) = true := by kernel_rfl
        exact (show Tryd.prog.wantsStandIn t = false by simpa using List.all_eq_true.1 hall t hm)⟩)
    (by kernel_rfl)
#print axioms proved
end Go.Proofs.YtamgmbmjbegfgaaDoor.wordHolds
