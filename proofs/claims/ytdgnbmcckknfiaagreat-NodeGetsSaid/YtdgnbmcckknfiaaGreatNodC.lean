/- node.must, node.caught and what it clears, as deferred calls. No conditions. -/
import Derived.Defers
import Derived.Recover
import Derived.Test.YtdgnbmcckknfiaaGreatNodA
import Derived.Test.YtdgnbmcckknfiaaGreatRws
namespace Go.Proofs.YtdgnbmcckknfiaaGreat
open Go.RowKit
set_option linter.unusedSimpArgs false

theorem must_ok (e : Int) (w : World) : Calls Tryz.prog 42 #[.bool true, .int .i64 e] w fun r w' => r = .returned (.tuple #[]) ∧ w = w' := by
  go_enter Tryz.func42, Tryz.ntmps42
  go_wp2
  go_end0
  exact ⟨rfl, rfl⟩
theorem must_not (e : Int) (w : World) : Calls Tryz.prog 42 #[.bool false, .int .i64 e] w fun r w' => r = .panicked [{ v := .iface 26 (.int .i64 e), recovered := false }] ∧ w = w' := by
  go_enter Tryz.func42, Tryz.ntmps42
  go_wp2
  exact ⟨rfl, rfl, rfl⟩

theorem caught_idle (p : Addr) (c : Value) (w : World) :
    CallsD Tryz.prog 39 #[.pointer (some p), c] .returning w fun e u' w' => e = .returned (.tuple #[]) ∧ u' = .returning ∧ w' = w := by
  refine callsD_of_wpS Tryz.func39 rfl fun c₀ cs hu => ?_
  apply wpS_seq
  apply wpS_region
  simp [wpOpsS, go_sem, recoverD, hu, Tryz.ntmps39, Exit.thenS]
  refine wpS_of_wp ?_
  go_wp2
  cases c₀
  simp_all [bodyPostS, results, Tryz.results39, Exit.thenS]

set_option maxRecDepth 100000 in
set_option maxHeartbeats 1000000 in
/-- Behind a panic with an error: the error is told, and what is to be cleared is cleared. -/
theorem caught_panic (p : Addr) (n x : Int) (f : Nat) (cap : Array Value) (w : World) (R : World → Prop) (hc : w.cell? p = some (.int .i64 n)) (hz : w.frozen? p = false)
    (hen : ∀ W : World, (callFunc f cap).run Tryz.prog W = .ok (.enter f cap) W) (hcl : Calls Tryz.prog f cap (w.setCell p (.int .i64 x)) fun e w' => e = .returned (.tuple #[]) ∧ R w') :
    CallsD Tryz.prog 39 #[.pointer (some p), .func (.func f) #[] cap] (.panicking [{ v := .iface 26 (.int .i64 x), recovered := false }]) w fun e u' w' =>
      e = .returned (.tuple #[]) ∧ u' = .panicking [{ v := .iface 26 (.int .i64 x), recovered := true }] ∧ R w' := by
  refine callsD_of_wpS Tryz.func39 rfl fun c₀ cs hu => ?_
  apply wpS_seq
  apply wpS_region
  simp [wpOpsS, go_sem, recoverD, hu, Tryz.ntmps39, Exit.thenS]
  simp only [Array.replicate_succ, Array.replicate_zero, List.push_toArray, List.append_toArray, List.setIfInBounds_toArray, List.set_cons_succ, List.set_cons_zero, List.nil_append, List.cons_append]
  refine wpS_of_wp ?_
  have hta : ∀ W : World, (Instr.typeAssert (.iface 26 (.int .i64 x)) 20 26 false).run Tryz.prog W = .ok (.int .i64 x) W := fun W => by kernel_rfl
  go_wp2_with fail
  refine hcl.mono ?_
  rintro e w1 ⟨rfl, hR⟩
  go_wp2
  cases c₀
  simp_all [bodyPostS, results, Tryz.results39, Exit.thenS]
theorem leaves_settled {P : Program} {fn : Func} {tmps : Array Value} {R : Ending → World → Prop} {x v : Value} {w : World} (h : (results fn tmps).run P w = .ok v w) (hR : R (.returned v) w) :
    Leaves P fn tmps R [] (settle (.panicking [{ v := x, recovered := true }])) w := ⟨v, h, hR⟩
theorem leaves_done {P : Program} {fn : Func} {tmps : Array Value} {R : Ending → World → Prop} {v : Value} {w : World} (h : (results fn tmps).run P w = .ok v w) (hR : R (.returned v) w) :
    Leaves P fn tmps R [] (settle .returning) w := ⟨v, h, hR⟩
theorem load_int1 {P : Program} {ty : TypeId} {k : IntKind} {p : Addr} {v : Value} {w : World} (hu : P.underlying ty = some (.int k)) (h : w.cell? p = some v) : (loadVar ty p).run P w = .ok v w := by
  have hagg : (isAgg ty).run P w = .ok false w := by
    unfold isAgg
    rw [Sem.run_bind, run_underlying hu w]
    rfl
  unfold loadVar
  rw [Sem.run_bind, hagg]
  simp [h, go_sem]
end Go.Proofs.YtdgnbmcckknfiaaGreat
