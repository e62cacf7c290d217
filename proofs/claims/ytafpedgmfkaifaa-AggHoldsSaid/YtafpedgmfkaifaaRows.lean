/-
  No cell of these rows narrows 'for every input' (looked for: loops, veiled, ifaces, maps, wideKeys, modest, calm, conditions, laid).
  DERIVED. THE GIVEN ROWS OF THIS SEAT. 4 by the template 'for every input the law returns true; each argument reads behind the call as it read before'; 0 by the template 'total and deterministic' (their statements: YtafpedgmfkaifaaTotals.lean).
  GIVEN WITH THE SEED: the statements are not yours to turn. If you find one false, say at which input.
  Laid BY PROGRAM, IN A SANDBOX (cutbox-rows.mjs): the forced cells as the released guide's own fill.sh prints them over the translation 90ae2bb5dc9d57a6… (all of the seat's roots in one cut). By AI agents, Wed Nov 11 2026. No macro, syntax, notation, axiom, sorry.
-/
import Derived.Test.YtafpedgmfkaifaaChecked
import GoSem.Claim
import GoSem.ClaimJoined
import GoSem.ClaimMapViews
import Derived.JoinedTies
import Derived.KernelRfl
namespace Go.Proofs.Ytafpedgmfkaifaa
/- THE CELL 'sum', in the pinned program and in every row, IS THE sha256 OF THE DUMP (.gsa) THAT YtafpedgmfkaifaaProg.lean LOADS. Nothing in Lean hashes anything: it is a label: what it is worth is what the hold of that sum in a sandbox is worth. -/
noncomputable def Try.pinned : Pinned := { name := "ytafpedgmfkaifaa", sum := "90ae2bb5dc9d57a606a74e00e725211ff67abf8434e00e6f1a1a34699d768575", checked := Try.checked }
namespace Rows
def none {H : Type} : Left H := { results := [], args := [] }

/-- 'tocsinlaw18.AggOf': WHATEVER THE INPUT: true; the input reads as it did. -/
def aggOfSpec : ChangeSpec := { name := "aggOf", fn := fun _ => fun
  | [d1, d2] => { results := [.lit (.bool true)], args := [d1, d2] }
  | _ => none }
def aggOfRow : OpenClaim := { program := "ytafpedgmfkaifaa", sum := "90ae2bb5dc9d57a606a74e00e725211ff67abf8434e00e6f1a1a34699d768575", func := "tocsin/tocsinlaw18.AggOf", spec := "aggOf", unfollowed := true, recurses := true, apart := false }
def AggOfSaid : Prop := aggOfRow.holds Try.pinned (OpenSpec.ofChange aggOfSpec)

/-- ITS FALSE NEIGHBOUR: 'it returns false'. Refute it at one input. -/
def aggOfWrong : ChangeSpec := { name := "aggOf", fn := fun _ => fun
  | [d1, d2] => { results := [.lit (.bool false)], args := [d1, d2] }
  | _ => none }
def AggOfWrongFalsely : Prop := aggOfRow.holds Try.pinned (OpenSpec.ofChange aggOfWrong)

/-- 'tocsinlaw18.AggHolds': WHATEVER THE INPUT: true; the input reads as it did. -/
def aggHoldsSpec : ChangeSpec := { name := "aggHolds", fn := fun _ => fun
  | [d1, d2, d3] => { results := [.lit (.bool true)], args := [d1, d2, d3] }
  | _ => none }
def aggHoldsRow : OpenClaim := { program := "ytafpedgmfkaifaa", sum := "90ae2bb5dc9d57a606a74e00e725211ff67abf8434e00e6f1a1a34699d768575", func := "tocsin/tocsinlaw18.AggHolds", spec := "aggHolds", unfollowed := true, recurses := true, apart := false }
def AggHoldsSaid : Prop := aggHoldsRow.holds Try.pinned (OpenSpec.ofChange aggHoldsSpec)

/-- ITS FALSE NEIGHBOUR: 'it returns false'. Refute it at one input. -/
def aggHoldsWrong : ChangeSpec := { name := "aggHolds", fn := fun _ => fun
  | [d1, d2, d3] => { results := [.lit (.bool false)], args := [d1, d2, d3] }
  | _ => none }
def AggHoldsWrongFalsely : Prop := aggHoldsRow.holds Try.pinned (OpenSpec.ofChange aggHoldsWrong)

/-- 'tocsinlaw18.AggBounds': WHATEVER THE INPUT: true; the input reads as it did. -/
def aggBoundsSpec : ChangeSpec := { name := "aggBounds", fn := fun _ => fun
  | [d1, d2] => { results := [.lit (.bool true)], args := [d1, d2] }
  | _ => none }
def aggBoundsRow : OpenClaim := { program := "ytafpedgmfkaifaa", sum := "90ae2bb5dc9d57a606a74e00e725211ff67abf8434e00e6f1a1a34699d768575", func := "tocsin/tocsinlaw18.AggBounds", spec := "aggBounds", unfollowed := true, recurses := true, apart := false }
def AggBoundsSaid : Prop := aggBoundsRow.holds Try.pinned (OpenSpec.ofChange aggBoundsSpec)

/-- ITS FALSE NEIGHBOUR: 'it returns false'. Refute it at one input. -/
def aggBoundsWrong : ChangeSpec := { name := "aggBounds", fn := fun _ => fun
  | [d1, d2] => { results := [.lit (.bool false)], args := [d1, d2] }
  | _ => none }
def AggBoundsWrongFalsely : Prop := aggBoundsRow.holds Try.pinned (OpenSpec.ofChange aggBoundsWrong)

/-- 'tocsinlaw18.AggOne': WHATEVER THE INPUT: true; the input reads as it did. -/
def aggOneSpec : ChangeSpec := { name := "aggOne", fn := fun _ => fun
  | [d1, d2] => { results := [.lit (.bool true)], args := [d1, d2] }
  | _ => none }
def aggOneRow : OpenClaim := { program := "ytafpedgmfkaifaa", sum := "90ae2bb5dc9d57a606a74e00e725211ff67abf8434e00e6f1a1a34699d768575", func := "tocsin/tocsinlaw18.AggOne", spec := "aggOne", unfollowed := true, recurses := true, apart := false }
def AggOneSaid : Prop := aggOneRow.holds Try.pinned (OpenSpec.ofChange aggOneSpec)

/-- ITS FALSE NEIGHBOUR: 'it returns false'. Refute it at one input. -/
def aggOneWrong : ChangeSpec := { name := "aggOne", fn := fun _ => fun
  | [d1, d2] => { results := [.lit (.bool false)], args := [d1, d2] }
  | _ => none }
def AggOneWrongFalsely : Prop := aggOneRow.holds Try.pinned (OpenSpec.ofChange aggOneWrong)

/- THE SECOND FORM. 'bulk': how many values and letters a reading holds, each counted each time it is reached (what is shared counts as often as it is met; a slice's spare places count too). A statement '..UptoSaid' is the law's where the arguments, and the package variables that the reading takes, are together of bulk at most 1048576: NARROWER than '..Said'. Prove '..Said' where nothing that the law and all that it calls make is longer than what came in: it says more and counts as full. Else prove '..UptoSaid'. A law counts once. -/
mutual
def uptoBulk {H : Type} : DataW H → Nat
  | .lit (.string bytes) => bytes.length + 1
  | .lit _ => 1
  | .nil => 1
  | .ptr d => uptoBulk d + 1
  | .slice elems spare => uptoBulkAll elems + uptoBulkAll spare + 1
  | .agg parts => uptoBulkAll parts + 1
  | .iface _ d => uptoBulk d + 1
  | .map entries => uptoBulkEntries entries + 1
  | .held _ => 1
def uptoBulkAll {H : Type} : List (DataW H) → Nat
  | [] => 0
  | d :: r => uptoBulk d + uptoBulkAll r
def uptoBulkEntries {H : Type} : List (Lit × DataW H) → Nat
  | [] => 0
  | x :: r => uptoBulkEntry x + uptoBulkEntries r
def uptoBulkEntry {H : Type} : Lit × DataW H → Nat
  | (.string bytes, d) => bytes.length + uptoBulk d + 1
  | (_, d) => uptoBulk d + 1
 end
def uptoSmall : (H : Type) → List (DataW H) → Bool := fun _ ds => decide (uptoBulkAll ds ≤ 1048576)
def OpenSpec.upto (s : _root_.Go.ChangeSpec) : _root_.Go.OpenSpec := { _root_.Go.OpenSpec.ofChange s with cond := some uptoSmall }

/-- 'tocsinlaw18.AggOf', WHERE WHAT IT READS IS OF BULK AT MOST 1048576: true; the input reads as it did. -/
def aggOfUptoRow : OpenClaim := { program := "ytafpedgmfkaifaa", sum := "90ae2bb5dc9d57a606a74e00e725211ff67abf8434e00e6f1a1a34699d768575", func := "tocsin/tocsinlaw18.AggOf", spec := "aggOf", unfollowed := true, recurses := true, apart := false, narrowed := true }
def AggOfUptoSaid : Prop := aggOfUptoRow.holds Try.pinned (OpenSpec.upto aggOfSpec)

/-- 'tocsinlaw18.AggHolds', WHERE WHAT IT READS IS OF BULK AT MOST 1048576: true; the input reads as it did. -/
def aggHoldsUptoRow : OpenClaim := { program := "ytafpedgmfkaifaa", sum := "90ae2bb5dc9d57a606a74e00e725211ff67abf8434e00e6f1a1a34699d768575", func := "tocsin/tocsinlaw18.AggHolds", spec := "aggHolds", unfollowed := true, recurses := true, apart := false, narrowed := true }
def AggHoldsUptoSaid : Prop := aggHoldsUptoRow.holds Try.pinned (OpenSpec.upto aggHoldsSpec)

/-- 'tocsinlaw18.AggBounds', WHERE WHAT IT READS IS OF BULK AT MOST 1048576: true; the input reads as it did. -/
def aggBoundsUptoRow : OpenClaim := { program := "ytafpedgmfkaifaa", sum := "90ae2bb5dc9d57a606a74e00e725211ff67abf8434e00e6f1a1a34699d768575", func := "tocsin/tocsinlaw18.AggBounds", spec := "aggBounds", unfollowed := true, recurses := true, apart := false, narrowed := true }
def AggBoundsUptoSaid : Prop := aggBoundsUptoRow.holds Try.pinned (OpenSpec.upto aggBoundsSpec)

/-- 'tocsinlaw18.AggOne', WHERE WHAT IT READS IS OF BULK AT MOST 1048576: true; the input reads as it did. -/
def aggOneUptoRow : OpenClaim := { program := "ytafpedgmfkaifaa", sum := "90ae2bb5dc9d57a606a74e00e725211ff67abf8434e00e6f1a1a34699d768575", func := "tocsin/tocsinlaw18.AggOne", spec := "aggOne", unfollowed := true, recurses := true, apart := false, narrowed := true }
def AggOneUptoSaid : Prop := aggOneUptoRow.holds Try.pinned (OpenSpec.upto aggOneSpec)

end Rows
end Go.Proofs.Ytafpedgmfkaifaa
