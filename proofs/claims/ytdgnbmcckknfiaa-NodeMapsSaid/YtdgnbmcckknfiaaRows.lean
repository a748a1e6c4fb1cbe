/-
  No cell of these rows narrows 'for every input' (looked for: loops, veiled, ifaces, maps, wideKeys, modest, calm, conditions, laid).
  DERIVED. THE GIVEN ROWS OF THIS SEAT. 5 by the template 'for every input the law returns true; each argument reads behind the call as it read before'; 0 by the template 'total and deterministic' (their statements: YtdgnbmcckknfiaaTotals.lean).
  GIVEN WITH THE SEED: the statements are not yours to turn. If you find one false, say at which input.
  Laid BY PROGRAM, IN A SANDBOX (cutbox-rows.mjs): the forced cells as the released guide's own fill.sh prints them over the translation b03469ea18579759… (all of the seat's roots in one cut). By AI agents, Wed Nov 11 2026. No macro, syntax, notation, axiom, sorry.
-/
import Derived.Test.YtdgnbmcckknfiaaChecked
import GoSem.Claim
import GoSem.ClaimJoined
import GoSem.ClaimMapViews
import Derived.JoinedTies
import Derived.KernelRfl
namespace Go.Proofs.Ytdgnbmcckknfiaa
/- THE CELL 'sum', in the pinned program and in every row, IS THE sha256 OF THE DUMP (.gsa) THAT YtdgnbmcckknfiaaProg.lean LOADS. Nothing in Lean hashes anything: it is a label: what it is worth is what the hold of that sum in a sandbox is worth. -/
noncomputable def Try.pinned : Pinned := { name := "ytdgnbmcckknfiaa", sum := "b03469ea185797597b39a47826abd8fcd78ed4408b8559926fc6e44b5abd9d94", checked := Try.checked }
namespace Rows
def none {H : Type} : Left H := { results := [], args := [] }

/-- 'waterlinelaw08.NodeNext': WHATEVER THE INPUT: true; the input reads as it did. -/
def nodeNextSpec : ChangeSpec := { name := "nodeNext", fn := fun _ => fun
  | [d1, d2, d3] => { results := [.lit (.bool true)], args := [d1, d2, d3] }
  | _ => none }
def nodeNextRow : OpenClaim := { program := "ytdgnbmcckknfiaa", sum := "b03469ea185797597b39a47826abd8fcd78ed4408b8559926fc6e44b5abd9d94", func := "waterline/waterlinelaw08.NodeNext", spec := "nodeNext", unfollowed := true, recurses := true, apart := false }
def NodeNextSaid : Prop := nodeNextRow.holds Try.pinned (OpenSpec.ofChange nodeNextSpec)

/-- ITS FALSE NEIGHBOUR: 'it returns false'. Refute it at one input. -/
def nodeNextWrong : ChangeSpec := { name := "nodeNext", fn := fun _ => fun
  | [d1, d2, d3] => { results := [.lit (.bool false)], args := [d1, d2, d3] }
  | _ => none }
def NodeNextWrongFalsely : Prop := nodeNextRow.holds Try.pinned (OpenSpec.ofChange nodeNextWrong)

/-- 'waterlinelaw08.NodeLinks': WHATEVER THE INPUT: true; the input reads as it did. -/
def nodeLinksSpec : ChangeSpec := { name := "nodeLinks", fn := fun _ => fun
  | [d1, d2] => { results := [.lit (.bool true)], args := [d1, d2] }
  | _ => none }
def nodeLinksRow : OpenClaim := { program := "ytdgnbmcckknfiaa", sum := "b03469ea185797597b39a47826abd8fcd78ed4408b8559926fc6e44b5abd9d94", func := "waterline/waterlinelaw08.NodeLinks", spec := "nodeLinks", unfollowed := true, recurses := true, apart := false }
def NodeLinksSaid : Prop := nodeLinksRow.holds Try.pinned (OpenSpec.ofChange nodeLinksSpec)

/-- ITS FALSE NEIGHBOUR: 'it returns false'. Refute it at one input. -/
def nodeLinksWrong : ChangeSpec := { name := "nodeLinks", fn := fun _ => fun
  | [d1, d2] => { results := [.lit (.bool false)], args := [d1, d2] }
  | _ => none }
def NodeLinksWrongFalsely : Prop := nodeLinksRow.holds Try.pinned (OpenSpec.ofChange nodeLinksWrong)

/-- 'waterlinelaw08.NodeMaps': WHATEVER THE INPUT: true; the input reads as it did. -/
def nodeMapsSpec : ChangeSpec := { name := "nodeMaps", fn := fun _ => fun
  | [d1, d2, d3] => { results := [.lit (.bool true)], args := [d1, d2, d3] }
  | _ => none }
def nodeMapsRow : OpenClaim := { program := "ytdgnbmcckknfiaa", sum := "b03469ea185797597b39a47826abd8fcd78ed4408b8559926fc6e44b5abd9d94", func := "waterline/waterlinelaw08.NodeMaps", spec := "nodeMaps", unfollowed := true, recurses := true, apart := false }
def NodeMapsSaid : Prop := nodeMapsRow.holds Try.pinned (OpenSpec.ofChange nodeMapsSpec)

/-- ITS FALSE NEIGHBOUR: 'it returns false'. Refute it at one input. -/
def nodeMapsWrong : ChangeSpec := { name := "nodeMaps", fn := fun _ => fun
  | [d1, d2, d3] => { results := [.lit (.bool false)], args := [d1, d2, d3] }
  | _ => none }
def NodeMapsWrongFalsely : Prop := nodeMapsRow.holds Try.pinned (OpenSpec.ofChange nodeMapsWrong)

/-- 'waterlinelaw08.NodePuts': WHATEVER THE INPUT: true; the input reads as it did. -/
def nodePutsSpec : ChangeSpec := { name := "nodePuts", fn := fun _ => fun
  | [d1, d2, d3] => { results := [.lit (.bool true)], args := [d1, d2, d3] }
  | _ => none }
def nodePutsRow : OpenClaim := { program := "ytdgnbmcckknfiaa", sum := "b03469ea185797597b39a47826abd8fcd78ed4408b8559926fc6e44b5abd9d94", func := "waterline/waterlinelaw08.NodePuts", spec := "nodePuts", unfollowed := true, recurses := true, apart := false }
def NodePutsSaid : Prop := nodePutsRow.holds Try.pinned (OpenSpec.ofChange nodePutsSpec)

/-- ITS FALSE NEIGHBOUR: 'it returns false'. Refute it at one input. -/
def nodePutsWrong : ChangeSpec := { name := "nodePuts", fn := fun _ => fun
  | [d1, d2, d3] => { results := [.lit (.bool false)], args := [d1, d2, d3] }
  | _ => none }
def NodePutsWrongFalsely : Prop := nodePutsRow.holds Try.pinned (OpenSpec.ofChange nodePutsWrong)

/-- 'waterlinelaw08.NodeHolds': WHATEVER THE INPUT: true; the input reads as it did. -/
def nodeHoldsSpec : ChangeSpec := { name := "nodeHolds", fn := fun _ => fun
  | [d1, d2, d3, d4] => { results := [.lit (.bool true)], args := [d1, d2, d3, d4] }
  | _ => none }
def nodeHoldsRow : OpenClaim := { program := "ytdgnbmcckknfiaa", sum := "b03469ea185797597b39a47826abd8fcd78ed4408b8559926fc6e44b5abd9d94", func := "waterline/waterlinelaw08.NodeHolds", spec := "nodeHolds", unfollowed := true, recurses := true, apart := false }
def NodeHoldsSaid : Prop := nodeHoldsRow.holds Try.pinned (OpenSpec.ofChange nodeHoldsSpec)

/-- ITS FALSE NEIGHBOUR: 'it returns false'. Refute it at one input. -/
def nodeHoldsWrong : ChangeSpec := { name := "nodeHolds", fn := fun _ => fun
  | [d1, d2, d3, d4] => { results := [.lit (.bool false)], args := [d1, d2, d3, d4] }
  | _ => none }
def NodeHoldsWrongFalsely : Prop := nodeHoldsRow.holds Try.pinned (OpenSpec.ofChange nodeHoldsWrong)

/- THE SECOND FORM. 'bulk': how many values and letters a reading holds, each counted each time it is reached (what is shared counts as often as it is met; a slice's spare places count too). A statement '..UptoSaid' is the law's where the arguments, and the package variables that the reading takes, are together of bulk at most 1048576: NARROWER than '..Said'. Prove '..Said' where nothing that the law and all that it calls make is longer than what came in: it says more and counts as full. Else prove '..UptoSaid'. A law counts once. -/
mutual
def uptoBulk {H : Type} : DataW H → Nat
  | .lit (.string bytes) => bytes.length + 1
  | .lit _ => 1
  | .nil => 1
  | .ptr d => uptoBulk d + 1
  | .slice elems spare => uptoBulkAll elems + uptoBulkAll spare + 1
  | .agg parts => uptoBulkAll parts + 1
  | .iface _ d => uptoBulk d + 1
  | .map entries => uptoBulkEntries entries + 1
  | .held _ => 1
def uptoBulkAll {H : Type} : List (DataW H) → Nat
  | [] => 0
  | d :: r => uptoBulk d + uptoBulkAll r
def uptoBulkEntries {H : Type} : List (Lit × DataW H) → Nat
  | [] => 0
  | x :: r => uptoBulkEntry x + uptoBulkEntries r
def uptoBulkEntry {H : Type} : Lit × DataW H → Nat
  | (.string bytes, d) => bytes.length + uptoBulk d + 1
  | (_, d) => uptoBulk d + 1
 end
def uptoSmall : (H : Type) → List (DataW H) → Bool := fun _ ds => decide (uptoBulkAll ds ≤ 1048576)
def OpenSpec.upto (s : _root_.Go.ChangeSpec) : _root_.Go.OpenSpec := { _root_.Go.OpenSpec.ofChange s with cond := some uptoSmall }

/-- 'waterlinelaw08.NodeNext', WHERE WHAT IT READS IS OF BULK AT MOST 1048576: true; the input reads as it did. -/
def nodeNextUptoRow : OpenClaim := { program := "ytdgnbmcckknfiaa", sum := "b03469ea185797597b39a47826abd8fcd78ed4408b8559926fc6e44b5abd9d94", func := "waterline/waterlinelaw08.NodeNext", spec := "nodeNext", unfollowed := true, recurses := true, apart := false, narrowed := true }
def NodeNextUptoSaid : Prop := nodeNextUptoRow.holds Try.pinned (OpenSpec.upto nodeNextSpec)

/-- 'waterlinelaw08.NodeLinks', WHERE WHAT IT READS IS OF BULK AT MOST 1048576: true; the input reads as it did. -/
def nodeLinksUptoRow : OpenClaim := { program := "ytdgnbmcckknfiaa", sum := "b03469ea185797597b39a47826abd8fcd78ed4408b8559926fc6e44b5abd9d94", func := "waterline/waterlinelaw08.NodeLinks", spec := "nodeLinks", unfollowed := true, recurses := true, apart := false, narrowed := true }
def NodeLinksUptoSaid : Prop := nodeLinksUptoRow.holds Try.pinned (OpenSpec.upto nodeLinksSpec)

/-- 'waterlinelaw08.NodeMaps', WHERE WHAT IT READS IS OF BULK AT MOST 1048576: true; the input reads as it did. -/
def nodeMapsUptoRow : OpenClaim := { program := "ytdgnbmcckknfiaa", sum := "b03469ea185797597b39a47826abd8fcd78ed4408b8559926fc6e44b5abd9d94", func := "waterline/waterlinelaw08.NodeMaps", spec := "nodeMaps", unfollowed := true, recurses := true, apart := false, narrowed := true }
def NodeMapsUptoSaid : Prop := nodeMapsUptoRow.holds Try.pinned (OpenSpec.upto nodeMapsSpec)

/-- 'waterlinelaw08.NodePuts', WHERE WHAT IT READS IS OF BULK AT MOST 1048576: true; the input reads as it did. -/
def nodePutsUptoRow : OpenClaim := { program := "ytdgnbmcckknfiaa", sum := "b03469ea185797597b39a47826abd8fcd78ed4408b8559926fc6e44b5abd9d94", func := "waterline/waterlinelaw08.NodePuts", spec := "nodePuts", unfollowed := true, recurses := true, apart := false, narrowed := true }
def NodePutsUptoSaid : Prop := nodePutsUptoRow.holds Try.pinned (OpenSpec.upto nodePutsSpec)

/-- 'waterlinelaw08.NodeHolds', WHERE WHAT IT READS IS OF BULK AT MOST 1048576: true; the input reads as it did. -/
def nodeHoldsUptoRow : OpenClaim := { program := "ytdgnbmcckknfiaa", sum := "b03469ea185797597b39a47826abd8fcd78ed4408b8559926fc6e44b5abd9d94", func := "waterline/waterlinelaw08.NodeHolds", spec := "nodeHolds", unfollowed := true, recurses := true, apart := false, narrowed := true }
def NodeHoldsUptoSaid : Prop := nodeHoldsUptoRow.holds Try.pinned (OpenSpec.upto nodeHoldsSpec)

end Rows
end Go.Proofs.Ytdgnbmcckknfiaa
