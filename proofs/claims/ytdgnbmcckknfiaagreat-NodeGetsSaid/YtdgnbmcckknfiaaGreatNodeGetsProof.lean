/- The law NodeGets answers true at every input, and leaves its arguments as they were. No conditions. -/
import Derived.Test.YtdgnbmcckknfiaaGreatRows
import Derived.Test.YtdgnbmcckknfiaaGreatLawG
import Derived.Test.YtdgnbmcckknfiaaGreatOpn
import Derived.WalkKit
import Derived.ProofKit
import Derived.OpenShut
import Derived.ChangeOld
import Derived.Below
import Derived.Lib.SmallJoins
namespace Go.Proofs.YtdgnbmcckknfiaaGreat.nodeGets
open Go.ChangeShapes Go.WideShapes Go.ChangeAt Go.RowKit Go.Joins
set_option linter.unusedVariables false

theorem own : ownKnob Tryz.prog.godebug = none := by kernel_rfl
theorem laidOut : laidOutB Tryz.prog = true := by kernel_rfl

theorem walk (xa0 xb0 xc0 xd0 xe0 xf0 xg0 xh0 : Nat) (w : World) (wxa0 : xa0 < 18446744073709551616) (wxb0 : xb0 < 18446744073709551616) (wxc0 : xc0 < 18446744073709551616) (wxd0 : xd0 < 18446744073709551616) (wxe0 : xe0 < 18446744073709551616) (wxf0 : xf0 < 18446744073709551616) (wxg0 : xg0 < 18446744073709551616) (wxh0 : xh0 < 18446744073709551616) :
    Calls Tryz.prog 3 #[.agg (ln8 xa0 xb0 xc0 xd0 xe0 xf0 xg0 xh0)] w fun e w' => e = .returned (.bool true) ∧ Below w.heap.size w w' := by
  exact nodeGets_any xa0 xb0 xc0 xd0 xe0 xf0 xg0 xh0 wxa0 wxb0 wxc0 wxd0 wxe0 wxf0 wxg0 wxh0 w

set_option maxRecDepth 100000 in
theorem lifted (os : Os) (started : os.Started) (H : Type) (enc : TypeId × Value → H) :
    ReturnsInHanded {} Tryz.checked os 3 .any (Rows.nodeGetsSpec.pre6 enc Tryz.prog Tryz.f3 Rows.nodeGetsRow.domain false) (Rows.nodeGetsSpec.post enc Tryz.prog Tryz.f3 false true false false) := by
  refine returnsInHanded_of_change (C := Tryz.checked) own started (by kernel_rfl) Tryz.func3
    (ChangeSpec.witness6 (enc := enc) (C := Tryz.checked) false ⟨#[], #[.agg #[.int .u64 0, .int .u64 0, .int .u64 0, .int .u64 0, .int .u64 0, .int .u64 0, .int .u64 0, .int .u64 0]], []⟩ 8 (by kernel_rfl) (by kernel_rfl) (by kernel_rfl) (by kernel_rfl)) ?_
  intro W base args ds gs before hval0 hW hcnd _
  have hval : ∀ (j : Nat) t v, Tryz.f3.params[j]? = some t → args[j]? = some v → Value.okWide Tryz.prog W .any base t v := hval0
  have hW' := hW
  obtain ⟨p, q, hA0, hV, rfl, hfz, hnd⟩ := hW
  have hA : DataW.TrodAll enc Tryz.prog W 0 (fun _ => true) true Tryz.f3.params.toList args.toList ds p := hA0
  rw [Tryz.params3] at hA hval
  obtain ⟨v0, vs0, d0, ds0, p0, q0, hargs, rfl, rfl, h0, r0⟩ := trodAll_cons hA
  obtain ⟨rfl, rfl, rfl⟩ := trodAll_nil r0
  obtain rfl : args = #[v0] := by cases args; simp_all
  obtain ⟨rfl, rfl⟩ := trodVars_none hV
  have k0 := h0
  have lt0 : ∀ x ∈ p0, x.block < W.heap.size := by obtain ⟨m, hm⟩ := k0; exact DataW.trod_lt m _ _ _ hm
  obtain ⟨xa0, xb0, xc0, xd0, xe0, xf0, xg0, xh0, rfl, wxa0, wxb0, wxc0, wxd0, wxe0, wxf0, wxg0, wxh0⟩ := open_line (hval 0 23 v0 rfl rfl) h0
  clear hA0 hval0
  refine (walk xa0 xb0 xc0 xd0 xe0 xf0 xg0 xh0 W wxa0 wxb0 wxc0 wxd0 wxe0 wxf0 wxg0 wxh0).mono fun e W' ⟨he, bel⟩ => ?_
  subst he
  exact ⟨_, rfl, _, _, _, [], _, [], hW', trodAll_mk1 (shut_bool Tryz.underlying4 _), (trodAll_cons_mk (Below.trod laidOut (by kernel_rfl) (of_decide_eq_true (by kernel_rfl)) k0 bel lt0) trodAll_mk0), rfl, bel.frame _, fun h => by cases h⟩

theorem over : Rows.nodeGetsRow.holds Tryz.pinned (OpenSpec.ofChange Rows.nodeGetsSpec) :=
  OpenClaim.holds_of_wide 3 Tryz.f3 rfl rfl rfl rfl rfl rfl rfl ⟨rfl, rfl, rfl, rfl, rfl⟩ rfl rfl rfl rfl rfl (by kernel_rfl) Tryz.func3 (by kernel_rfl)
    (of_decide_eq_true (by kernel_rfl)) (by unfold Func.isWrapper; first | (rw [if_pos (by decide +kernel)]; kernel_rfl) | (rw [if_neg (by decide +kernel)]; exact ⟨rfl, rfl⟩))
    (fun os started H enc _ => lifted os started H enc)

theorem proved : Rows.NodeGetsSaid := over
#print axioms proved
end Go.Proofs.YtdgnbmcckknfiaaGreat.nodeGets
