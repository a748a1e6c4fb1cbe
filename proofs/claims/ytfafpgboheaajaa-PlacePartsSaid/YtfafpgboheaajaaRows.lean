/-
  No cell of these rows narrows 'for every input' (looked for: loops, veiled, ifaces, maps, wideKeys, modest, calm, conditions, laid).
  DERIVED. THE GIVEN ROWS OF THIS SEAT. 6 by the template 'for every input the law returns true; each argument reads behind the call as it read before'; 0 by the template 'total and deterministic' (their statements: YtfafpgboheaajaaTotals.lean).
  GIVEN WITH THE SEED: the statements are not yours to turn. If you find one false, say at which input.
  Laid BY PROGRAM, IN A SANDBOX (cutbox-rows.mjs): the forced cells as the released guide's own fill.sh prints them over the translation 83fef54dc78d4d55… (all of the seat's roots in one cut). By AI agents, Wed Nov 11 2026. No macro, syntax, notation, axiom, sorry.
-/
import Derived.Test.YtfafpgboheaajaaChecked
import GoSem.Claim
import GoSem.ClaimJoined
import GoSem.ClaimMapViews
import Derived.JoinedTies
import Derived.KernelRfl
namespace Go.Proofs.Ytfafpgboheaajaa
/- THE CELL 'sum', in the pinned program and in every row, IS THE sha256 OF THE DUMP (.gsa) THAT YtfafpgboheaajaaProg.lean LOADS. Nothing in Lean hashes anything: it is a label: what it is worth is what the hold of that sum in a sandbox is worth. -/
noncomputable def Try.pinned : Pinned := { name := "ytfafpgboheaajaa", sum := "83fef54dc78d4d55d80a074453e0720e3a85f214616c08ff0f96844fdc21300b", checked := Try.checked }
namespace Rows
def none {H : Type} : Left H := { results := [], args := [] }

/-- 'waterlinelaw03.PlaceAddresses': WHATEVER THE INPUT: true; the input reads as it did. -/
def placeAddressesSpec : ChangeSpec := { name := "placeAddresses", fn := fun _ => fun
  | [d1, d2] => { results := [.lit (.bool true)], args := [d1, d2] }
  | _ => none }
def placeAddressesRow : OpenClaim := { program := "ytfafpgboheaajaa", sum := "83fef54dc78d4d55d80a074453e0720e3a85f214616c08ff0f96844fdc21300b", func := "waterline/waterlinelaw03.PlaceAddresses", spec := "placeAddresses", unfollowed := true, recurses := true, apart := false }
def PlaceAddressesSaid : Prop := placeAddressesRow.holds Try.pinned (OpenSpec.ofChange placeAddressesSpec)

/-- ITS FALSE NEIGHBOUR: 'it returns false'. Refute it at one input. -/
def placeAddressesWrong : ChangeSpec := { name := "placeAddresses", fn := fun _ => fun
  | [d1, d2] => { results := [.lit (.bool false)], args := [d1, d2] }
  | _ => none }
def PlaceAddressesWrongFalsely : Prop := placeAddressesRow.holds Try.pinned (OpenSpec.ofChange placeAddressesWrong)

/-- 'waterlinelaw03.PlaceMoves': WHATEVER THE INPUT: true; the input reads as it did. -/
def placeMovesSpec : ChangeSpec := { name := "placeMoves", fn := fun _ => fun
  | [d1, d2, d3] => { results := [.lit (.bool true)], args := [d1, d2, d3] }
  | _ => none }
def placeMovesRow : OpenClaim := { program := "ytfafpgboheaajaa", sum := "83fef54dc78d4d55d80a074453e0720e3a85f214616c08ff0f96844fdc21300b", func := "waterline/waterlinelaw03.PlaceMoves", spec := "placeMoves", unfollowed := true, recurses := true, apart := false }
def PlaceMovesSaid : Prop := placeMovesRow.holds Try.pinned (OpenSpec.ofChange placeMovesSpec)

/-- ITS FALSE NEIGHBOUR: 'it returns false'. Refute it at one input. -/
def placeMovesWrong : ChangeSpec := { name := "placeMoves", fn := fun _ => fun
  | [d1, d2, d3] => { results := [.lit (.bool false)], args := [d1, d2, d3] }
  | _ => none }
def PlaceMovesWrongFalsely : Prop := placeMovesRow.holds Try.pinned (OpenSpec.ofChange placeMovesWrong)

/-- 'waterlinelaw03.PlaceRuns': WHATEVER THE INPUT: true; the input reads as it did. -/
def placeRunsSpec : ChangeSpec := { name := "placeRuns", fn := fun _ => fun
  | [d1, d2, d3] => { results := [.lit (.bool true)], args := [d1, d2, d3] }
  | _ => none }
def placeRunsRow : OpenClaim := { program := "ytfafpgboheaajaa", sum := "83fef54dc78d4d55d80a074453e0720e3a85f214616c08ff0f96844fdc21300b", func := "waterline/waterlinelaw03.PlaceRuns", spec := "placeRuns", unfollowed := true, recurses := true, apart := false }
def PlaceRunsSaid : Prop := placeRunsRow.holds Try.pinned (OpenSpec.ofChange placeRunsSpec)

/-- ITS FALSE NEIGHBOUR: 'it returns false'. Refute it at one input. -/
def placeRunsWrong : ChangeSpec := { name := "placeRuns", fn := fun _ => fun
  | [d1, d2, d3] => { results := [.lit (.bool false)], args := [d1, d2, d3] }
  | _ => none }
def PlaceRunsWrongFalsely : Prop := placeRunsRow.holds Try.pinned (OpenSpec.ofChange placeRunsWrong)

/-- 'waterlinelaw03.PlaceHolds': WHATEVER THE INPUT: true; the input reads as it did. -/
def placeHoldsSpec : ChangeSpec := { name := "placeHolds", fn := fun _ => fun
  | [d1, d2, d3] => { results := [.lit (.bool true)], args := [d1, d2, d3] }
  | _ => none }
def placeHoldsRow : OpenClaim := { program := "ytfafpgboheaajaa", sum := "83fef54dc78d4d55d80a074453e0720e3a85f214616c08ff0f96844fdc21300b", func := "waterline/waterlinelaw03.PlaceHolds", spec := "placeHolds", unfollowed := true, recurses := true, apart := false }
def PlaceHoldsSaid : Prop := placeHoldsRow.holds Try.pinned (OpenSpec.ofChange placeHoldsSpec)

/-- ITS FALSE NEIGHBOUR: 'it returns false'. Refute it at one input. -/
def placeHoldsWrong : ChangeSpec := { name := "placeHolds", fn := fun _ => fun
  | [d1, d2, d3] => { results := [.lit (.bool false)], args := [d1, d2, d3] }
  | _ => none }
def PlaceHoldsWrongFalsely : Prop := placeHoldsRow.holds Try.pinned (OpenSpec.ofChange placeHoldsWrong)

/-- 'waterlinelaw03.PlaceSteps': WHATEVER THE INPUT: true; the input reads as it did. -/
def placeStepsSpec : ChangeSpec := { name := "placeSteps", fn := fun _ => fun
  | [d1, d2, d3] => { results := [.lit (.bool true)], args := [d1, d2, d3] }
  | _ => none }
def placeStepsRow : OpenClaim := { program := "ytfafpgboheaajaa", sum := "83fef54dc78d4d55d80a074453e0720e3a85f214616c08ff0f96844fdc21300b", func := "waterline/waterlinelaw03.PlaceSteps", spec := "placeSteps", unfollowed := true, recurses := true, apart := false }
def PlaceStepsSaid : Prop := placeStepsRow.holds Try.pinned (OpenSpec.ofChange placeStepsSpec)

/-- ITS FALSE NEIGHBOUR: 'it returns false'. Refute it at one input. -/
def placeStepsWrong : ChangeSpec := { name := "placeSteps", fn := fun _ => fun
  | [d1, d2, d3] => { results := [.lit (.bool false)], args := [d1, d2, d3] }
  | _ => none }
def PlaceStepsWrongFalsely : Prop := placeStepsRow.holds Try.pinned (OpenSpec.ofChange placeStepsWrong)

/-- 'waterlinelaw03.PlaceParts': WHATEVER THE INPUT: true; the input reads as it did. -/
def placePartsSpec : ChangeSpec := { name := "placeParts", fn := fun _ => fun
  | [d1, d2, d3] => { results := [.lit (.bool true)], args := [d1, d2, d3] }
  | _ => none }
def placePartsRow : OpenClaim := { program := "ytfafpgboheaajaa", sum := "83fef54dc78d4d55d80a074453e0720e3a85f214616c08ff0f96844fdc21300b", func := "waterline/waterlinelaw03.PlaceParts", spec := "placeParts", unfollowed := true, recurses := true, apart := false }
def PlacePartsSaid : Prop := placePartsRow.holds Try.pinned (OpenSpec.ofChange placePartsSpec)

/-- ITS FALSE NEIGHBOUR: 'it returns false'. Refute it at one input. -/
def placePartsWrong : ChangeSpec := { name := "placeParts", fn := fun _ => fun
  | [d1, d2, d3] => { results := [.lit (.bool false)], args := [d1, d2, d3] }
  | _ => none }
def PlacePartsWrongFalsely : Prop := placePartsRow.holds Try.pinned (OpenSpec.ofChange placePartsWrong)

/- THE SECOND FORM. 'bulk': how many values and letters a reading holds, each counted each time it is reached (what is shared counts as often as it is met; a slice's spare places count too). A statement '..UptoSaid' is the law's where the arguments, and the package variables that the reading takes, are together of bulk at most 1048576: NARROWER than '..Said'. Prove '..Said' where nothing that the law and all that it calls make is longer than what came in: it says more and counts as full. Else prove '..UptoSaid'. A law counts once. -/
mutual
def uptoBulk {H : Type} : DataW H → Nat
  | .lit (.string bytes) => bytes.length + 1
  | .lit _ => 1
  | .nil => 1
  | .ptr d => uptoBulk d + 1
  | .slice elems spare => uptoBulkAll elems + uptoBulkAll spare + 1
  | .agg parts => uptoBulkAll parts + 1
  | .iface _ d => uptoBulk d + 1
  | .map entries => uptoBulkEntries entries + 1
  | .held _ => 1
def uptoBulkAll {H : Type} : List (DataW H) → Nat
  | [] => 0
  | d :: r => uptoBulk d + uptoBulkAll r
def uptoBulkEntries {H : Type} : List (Lit × DataW H) → Nat
  | [] => 0
  | x :: r => uptoBulkEntry x + uptoBulkEntries r
def uptoBulkEntry {H : Type} : Lit × DataW H → Nat
  | (.string bytes, d) => bytes.length + uptoBulk d + 1
  | (_, d) => uptoBulk d + 1
 end
def uptoSmall : (H : Type) → List (DataW H) → Bool := fun _ ds => decide (uptoBulkAll ds ≤ 1048576)
def OpenSpec.upto (s : _root_.Go.ChangeSpec) : _root_.Go.OpenSpec := { _root_.Go.OpenSpec.ofChange s with cond := some uptoSmall }

/-- 'waterlinelaw03.PlaceAddresses', WHERE WHAT IT READS IS OF BULK AT MOST 1048576: true; the input reads as it did. -/
def placeAddressesUptoRow : OpenClaim := { program := "ytfafpgboheaajaa", sum := "83fef54dc78d4d55d80a074453e0720e3a85f214616c08ff0f96844fdc21300b", func := "waterline/waterlinelaw03.PlaceAddresses", spec := "placeAddresses", unfollowed := true, recurses := true, apart := false, narrowed := true }
def PlaceAddressesUptoSaid : Prop := placeAddressesUptoRow.holds Try.pinned (OpenSpec.upto placeAddressesSpec)

/-- 'waterlinelaw03.PlaceMoves', WHERE WHAT IT READS IS OF BULK AT MOST 1048576: true; the input reads as it did. -/
def placeMovesUptoRow : OpenClaim := { program := "ytfafpgboheaajaa", sum := "83fef54dc78d4d55d80a074453e0720e3a85f214616c08ff0f96844fdc21300b", func := "waterline/waterlinelaw03.PlaceMoves", spec := "placeMoves", unfollowed := true, recurses := true, apart := false, narrowed := true }
def PlaceMovesUptoSaid : Prop := placeMovesUptoRow.holds Try.pinned (OpenSpec.upto placeMovesSpec)

/-- 'waterlinelaw03.PlaceRuns', WHERE WHAT IT READS IS OF BULK AT MOST 1048576: true; the input reads as it did. -/
def placeRunsUptoRow : OpenClaim := { program := "ytfafpgboheaajaa", sum := "83fef54dc78d4d55d80a074453e0720e3a85f214616c08ff0f96844fdc21300b", func := "waterline/waterlinelaw03.PlaceRuns", spec := "placeRuns", unfollowed := true, recurses := true, apart := false, narrowed := true }
def PlaceRunsUptoSaid : Prop := placeRunsUptoRow.holds Try.pinned (OpenSpec.upto placeRunsSpec)

/-- 'waterlinelaw03.PlaceHolds', WHERE WHAT IT READS IS OF BULK AT MOST 1048576: true; the input reads as it did. -/
def placeHoldsUptoRow : OpenClaim := { program := "ytfafpgboheaajaa", sum := "83fef54dc78d4d55d80a074453e0720e3a85f214616c08ff0f96844fdc21300b", func := "waterline/waterlinelaw03.PlaceHolds", spec := "placeHolds", unfollowed := true, recurses := true, apart := false, narrowed := true }
def PlaceHoldsUptoSaid : Prop := placeHoldsUptoRow.holds Try.pinned (OpenSpec.upto placeHoldsSpec)

/-- 'waterlinelaw03.PlaceSteps', WHERE WHAT IT READS IS OF BULK AT MOST 1048576: true; the input reads as it did. -/
def placeStepsUptoRow : OpenClaim := { program := "ytfafpgboheaajaa", sum := "83fef54dc78d4d55d80a074453e0720e3a85f214616c08ff0f96844fdc21300b", func := "waterline/waterlinelaw03.PlaceSteps", spec := "placeSteps", unfollowed := true, recurses := true, apart := false, narrowed := true }
def PlaceStepsUptoSaid : Prop := placeStepsUptoRow.holds Try.pinned (OpenSpec.upto placeStepsSpec)

/-- 'waterlinelaw03.PlaceParts', WHERE WHAT IT READS IS OF BULK AT MOST 1048576: true; the input reads as it did. -/
def placePartsUptoRow : OpenClaim := { program := "ytfafpgboheaajaa", sum := "83fef54dc78d4d55d80a074453e0720e3a85f214616c08ff0f96844fdc21300b", func := "waterline/waterlinelaw03.PlaceParts", spec := "placeParts", unfollowed := true, recurses := true, apart := false, narrowed := true }
def PlacePartsUptoSaid : Prop := placePartsUptoRow.holds Try.pinned (OpenSpec.upto placePartsSpec)

end Rows
end Go.Proofs.Ytfafpgboheaajaa
