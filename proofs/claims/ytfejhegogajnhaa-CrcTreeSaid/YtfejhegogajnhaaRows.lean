/-
  No cell of these rows narrows 'for every input' (looked for: loops, veiled, ifaces, maps, wideKeys, modest, calm, conditions, laid).
  DERIVED. THE GIVEN ROWS OF THIS SEAT. 7 by the template 'for every input the law returns true; each argument reads behind the call as it read before'; 0 by the template 'total and deterministic' (their statements: YtfejhegogajnhaaTotals.lean).
  GIVEN WITH THE SEED: the statements are not yours to turn. If you find one false, say at which input.
  Laid BY PROGRAM, IN A SANDBOX (cutbox-rows.mjs): the forced cells as the released guide's own fill.sh prints them over the translation 37b37f1c0161ffd1… (all of the seat's roots in one cut). By AI agents, Wed Nov 11 2026. No macro, syntax, notation, axiom, sorry.
-/
import Derived.Test.YtfejhegogajnhaaChecked
import GoSem.Claim
import GoSem.ClaimJoined
import GoSem.ClaimMapViews
import Derived.JoinedTies
import Derived.KernelRfl
namespace Go.Proofs.Ytfejhegogajnhaa
/- THE CELL 'sum', in the pinned program and in every row, IS THE sha256 OF THE DUMP (.gsa) THAT YtfejhegogajnhaaProg.lean LOADS. Nothing in Lean hashes anything: it is a label: what it is worth is what the hold of that sum in a sandbox is worth. -/
noncomputable def Try.pinned : Pinned := { name := "ytfejhegogajnhaa", sum := "37b37f1c0161ffd1f5d62f881b6d254f0feae8b5f98bccd62ef7588db1111fef", checked := Try.checked }
namespace Rows
def none {H : Type} : Left H := { results := [], args := [] }

/-- 'tocsinlaw02.CrcLeaves': WHATEVER THE INPUT: true; the input reads as it did. -/
def crcLeavesSpec : ChangeSpec := { name := "crcLeaves", fn := fun _ => fun
  | [d] => { results := [.lit (.bool true)], args := [d] }
  | _ => none }
def crcLeavesRow : OpenClaim := { program := "ytfejhegogajnhaa", sum := "37b37f1c0161ffd1f5d62f881b6d254f0feae8b5f98bccd62ef7588db1111fef", func := "tocsin/tocsinlaw02.CrcLeaves", spec := "crcLeaves", apart := false }
def CrcLeavesSaid : Prop := crcLeavesRow.holds Try.pinned (OpenSpec.ofChange crcLeavesSpec)

/-- ITS FALSE NEIGHBOUR: 'it returns false'. Refute it at one input. -/
def crcLeavesWrong : ChangeSpec := { name := "crcLeaves", fn := fun _ => fun
  | [d] => { results := [.lit (.bool false)], args := [d] }
  | _ => none }
def CrcLeavesWrongFalsely : Prop := crcLeavesRow.holds Try.pinned (OpenSpec.ofChange crcLeavesWrong)

/-- 'tocsinlaw02.CrcJoined': WHATEVER THE INPUT: true; the input reads as it did. -/
def crcJoinedSpec : ChangeSpec := { name := "crcJoined", fn := fun _ => fun
  | [d1, d2, d3] => { results := [.lit (.bool true)], args := [d1, d2, d3] }
  | _ => none }
def crcJoinedRow : OpenClaim := { program := "ytfejhegogajnhaa", sum := "37b37f1c0161ffd1f5d62f881b6d254f0feae8b5f98bccd62ef7588db1111fef", func := "tocsin/tocsinlaw02.CrcJoined", spec := "crcJoined", apart := false }
def CrcJoinedSaid : Prop := crcJoinedRow.holds Try.pinned (OpenSpec.ofChange crcJoinedSpec)

/-- ITS FALSE NEIGHBOUR: 'it returns false'. Refute it at one input. -/
def crcJoinedWrong : ChangeSpec := { name := "crcJoined", fn := fun _ => fun
  | [d1, d2, d3] => { results := [.lit (.bool false)], args := [d1, d2, d3] }
  | _ => none }
def CrcJoinedWrongFalsely : Prop := crcJoinedRow.holds Try.pinned (OpenSpec.ofChange crcJoinedWrong)

/-- 'tocsinlaw02.CrcTree': WHATEVER THE INPUT: true; the input reads as it did. -/
def crcTreeSpec : ChangeSpec := { name := "crcTree", fn := fun _ => fun
  | [d1, d2] => { results := [.lit (.bool true)], args := [d1, d2] }
  | _ => none }
def crcTreeRow : OpenClaim := { program := "ytfejhegogajnhaa", sum := "37b37f1c0161ffd1f5d62f881b6d254f0feae8b5f98bccd62ef7588db1111fef", func := "tocsin/tocsinlaw02.CrcTree", spec := "crcTree", apart := false }
def CrcTreeSaid : Prop := crcTreeRow.holds Try.pinned (OpenSpec.ofChange crcTreeSpec)

/-- ITS FALSE NEIGHBOUR: 'it returns false'. Refute it at one input. -/
def crcTreeWrong : ChangeSpec := { name := "crcTree", fn := fun _ => fun
  | [d1, d2] => { results := [.lit (.bool false)], args := [d1, d2] }
  | _ => none }
def CrcTreeWrongFalsely : Prop := crcTreeRow.holds Try.pinned (OpenSpec.ofChange crcTreeWrong)

/-- 'tocsinlaw02.CrcTurned': WHATEVER THE INPUT: true; the input reads as it did. -/
def crcTurnedSpec : ChangeSpec := { name := "crcTurned", fn := fun _ => fun
  | [d1, d2] => { results := [.lit (.bool true)], args := [d1, d2] }
  | _ => none }
def crcTurnedRow : OpenClaim := { program := "ytfejhegogajnhaa", sum := "37b37f1c0161ffd1f5d62f881b6d254f0feae8b5f98bccd62ef7588db1111fef", func := "tocsin/tocsinlaw02.CrcTurned", spec := "crcTurned", apart := false }
def CrcTurnedSaid : Prop := crcTurnedRow.holds Try.pinned (OpenSpec.ofChange crcTurnedSpec)

/-- ITS FALSE NEIGHBOUR: 'it returns false'. Refute it at one input. -/
def crcTurnedWrong : ChangeSpec := { name := "crcTurned", fn := fun _ => fun
  | [d1, d2] => { results := [.lit (.bool false)], args := [d1, d2] }
  | _ => none }
def CrcTurnedWrongFalsely : Prop := crcTurnedRow.holds Try.pinned (OpenSpec.ofChange crcTurnedWrong)

/-- 'tocsinlaw02.CrcOdd': WHATEVER THE INPUT: true; the input reads as it did. -/
def crcOddSpec : ChangeSpec := { name := "crcOdd", fn := fun _ => fun
  | [d1, d2] => { results := [.lit (.bool true)], args := [d1, d2] }
  | _ => none }
def crcOddRow : OpenClaim := { program := "ytfejhegogajnhaa", sum := "37b37f1c0161ffd1f5d62f881b6d254f0feae8b5f98bccd62ef7588db1111fef", func := "tocsin/tocsinlaw02.CrcOdd", spec := "crcOdd", apart := false }
def CrcOddSaid : Prop := crcOddRow.holds Try.pinned (OpenSpec.ofChange crcOddSpec)

/-- ITS FALSE NEIGHBOUR: 'it returns false'. Refute it at one input. -/
def crcOddWrong : ChangeSpec := { name := "crcOdd", fn := fun _ => fun
  | [d1, d2] => { results := [.lit (.bool false)], args := [d1, d2] }
  | _ => none }
def CrcOddWrongFalsely : Prop := crcOddRow.holds Try.pinned (OpenSpec.ofChange crcOddWrong)

/-- 'tocsinlaw02.CrcRound': WHATEVER THE INPUT: true; the input reads as it did. -/
def crcRoundSpec : ChangeSpec := { name := "crcRound", fn := fun _ => fun
  | [d1, d2, d3, d4, d5] => { results := [.lit (.bool true)], args := [d1, d2, d3, d4, d5] }
  | _ => none }
def crcRoundRow : OpenClaim := { program := "ytfejhegogajnhaa", sum := "37b37f1c0161ffd1f5d62f881b6d254f0feae8b5f98bccd62ef7588db1111fef", func := "tocsin/tocsinlaw02.CrcRound", spec := "crcRound", apart := false }
def CrcRoundSaid : Prop := crcRoundRow.holds Try.pinned (OpenSpec.ofChange crcRoundSpec)

/-- ITS FALSE NEIGHBOUR: 'it returns false'. Refute it at one input. -/
def crcRoundWrong : ChangeSpec := { name := "crcRound", fn := fun _ => fun
  | [d1, d2, d3, d4, d5] => { results := [.lit (.bool false)], args := [d1, d2, d3, d4, d5] }
  | _ => none }
def CrcRoundWrongFalsely : Prop := crcRoundRow.holds Try.pinned (OpenSpec.ofChange crcRoundWrong)

/-- 'tocsinlaw02.CrcWith': WHATEVER THE INPUT: true; the input reads as it did. -/
def crcWithSpec : ChangeSpec := { name := "crcWith", fn := fun _ => fun
  | [d1, d2] => { results := [.lit (.bool true)], args := [d1, d2] }
  | _ => none }
def crcWithRow : OpenClaim := { program := "ytfejhegogajnhaa", sum := "37b37f1c0161ffd1f5d62f881b6d254f0feae8b5f98bccd62ef7588db1111fef", func := "tocsin/tocsinlaw02.CrcWith", spec := "crcWith", apart := false }
def CrcWithSaid : Prop := crcWithRow.holds Try.pinned (OpenSpec.ofChange crcWithSpec)

/-- ITS FALSE NEIGHBOUR: 'it returns false'. Refute it at one input. -/
def crcWithWrong : ChangeSpec := { name := "crcWith", fn := fun _ => fun
  | [d1, d2] => { results := [.lit (.bool false)], args := [d1, d2] }
  | _ => none }
def CrcWithWrongFalsely : Prop := crcWithRow.holds Try.pinned (OpenSpec.ofChange crcWithWrong)

/- THE SECOND FORM. 'bulk': how many values and letters a reading holds, each counted each time it is reached (what is shared counts as often as it is met; a slice's spare places count too). A statement '..UptoSaid' is the law's where the arguments, and the package variables that the reading takes, are together of bulk at most 1048576: NARROWER than '..Said'. Prove '..Said' where nothing that the law and all that it calls make is longer than what came in: it says more and counts as full. Else prove '..UptoSaid'. A law counts once. -/
mutual
def uptoBulk {H : Type} : DataW H → Nat
  | .lit (.string bytes) => bytes.length + 1
  | .lit _ => 1
  | .nil => 1
  | .ptr d => uptoBulk d + 1
  | .slice elems spare => uptoBulkAll elems + uptoBulkAll spare + 1
  | .agg parts => uptoBulkAll parts + 1
  | .iface _ d => uptoBulk d + 1
  | .map entries => uptoBulkEntries entries + 1
  | .held _ => 1
def uptoBulkAll {H : Type} : List (DataW H) → Nat
  | [] => 0
  | d :: r => uptoBulk d + uptoBulkAll r
def uptoBulkEntries {H : Type} : List (Lit × DataW H) → Nat
  | [] => 0
  | x :: r => uptoBulkEntry x + uptoBulkEntries r
def uptoBulkEntry {H : Type} : Lit × DataW H → Nat
  | (.string bytes, d) => bytes.length + uptoBulk d + 1
  | (_, d) => uptoBulk d + 1
 end
def uptoSmall : (H : Type) → List (DataW H) → Bool := fun _ ds => decide (uptoBulkAll ds ≤ 1048576)
def OpenSpec.upto (s : _root_.Go.ChangeSpec) : _root_.Go.OpenSpec := { _root_.Go.OpenSpec.ofChange s with cond := some uptoSmall }

/-- 'tocsinlaw02.CrcLeaves', WHERE WHAT IT READS IS OF BULK AT MOST 1048576: true; the input reads as it did. -/
def crcLeavesUptoRow : OpenClaim := { program := "ytfejhegogajnhaa", sum := "37b37f1c0161ffd1f5d62f881b6d254f0feae8b5f98bccd62ef7588db1111fef", func := "tocsin/tocsinlaw02.CrcLeaves", spec := "crcLeaves", apart := false, narrowed := true }
def CrcLeavesUptoSaid : Prop := crcLeavesUptoRow.holds Try.pinned (OpenSpec.upto crcLeavesSpec)

/-- 'tocsinlaw02.CrcJoined', WHERE WHAT IT READS IS OF BULK AT MOST 1048576: true; the input reads as it did. -/
def crcJoinedUptoRow : OpenClaim := { program := "ytfejhegogajnhaa", sum := "37b37f1c0161ffd1f5d62f881b6d254f0feae8b5f98bccd62ef7588db1111fef", func := "tocsin/tocsinlaw02.CrcJoined", spec := "crcJoined", apart := false, narrowed := true }
def CrcJoinedUptoSaid : Prop := crcJoinedUptoRow.holds Try.pinned (OpenSpec.upto crcJoinedSpec)

/-- 'tocsinlaw02.CrcTree', WHERE WHAT IT READS IS OF BULK AT MOST 1048576: true; the input reads as it did. -/
def crcTreeUptoRow : OpenClaim := { program := "ytfejhegogajnhaa", sum := "37b37f1c0161ffd1f5d62f881b6d254f0feae8b5f98bccd62ef7588db1111fef", func := "tocsin/tocsinlaw02.CrcTree", spec := "crcTree", apart := false, narrowed := true }
def CrcTreeUptoSaid : Prop := crcTreeUptoRow.holds Try.pinned (OpenSpec.upto crcTreeSpec)

/-- 'tocsinlaw02.CrcTurned', WHERE WHAT IT READS IS OF BULK AT MOST 1048576: true; the input reads as it did. -/
def crcTurnedUptoRow : OpenClaim := { program := "ytfejhegogajnhaa", sum := "37b37f1c0161ffd1f5d62f881b6d254f0feae8b5f98bccd62ef7588db1111fef", func := "tocsin/tocsinlaw02.CrcTurned", spec := "crcTurned", apart := false, narrowed := true }
def CrcTurnedUptoSaid : Prop := crcTurnedUptoRow.holds Try.pinned (OpenSpec.upto crcTurnedSpec)

/-- 'tocsinlaw02.CrcOdd', WHERE WHAT IT READS IS OF BULK AT MOST 1048576: true; the input reads as it did. -/
def crcOddUptoRow : OpenClaim := { program := "ytfejhegogajnhaa", sum := "37b37f1c0161ffd1f5d62f881b6d254f0feae8b5f98bccd62ef7588db1111fef", func := "tocsin/tocsinlaw02.CrcOdd", spec := "crcOdd", apart := false, narrowed := true }
def CrcOddUptoSaid : Prop := crcOddUptoRow.holds Try.pinned (OpenSpec.upto crcOddSpec)

/-- 'tocsinlaw02.CrcRound', WHERE WHAT IT READS IS OF BULK AT MOST 1048576: true; the input reads as it did. -/
def crcRoundUptoRow : OpenClaim := { program := "ytfejhegogajnhaa", sum := "37b37f1c0161ffd1f5d62f881b6d254f0feae8b5f98bccd62ef7588db1111fef", func := "tocsin/tocsinlaw02.CrcRound", spec := "crcRound", apart := false, narrowed := true }
def CrcRoundUptoSaid : Prop := crcRoundUptoRow.holds Try.pinned (OpenSpec.upto crcRoundSpec)

/-- 'tocsinlaw02.CrcWith', WHERE WHAT IT READS IS OF BULK AT MOST 1048576: true; the input reads as it did. -/
def crcWithUptoRow : OpenClaim := { program := "ytfejhegogajnhaa", sum := "37b37f1c0161ffd1f5d62f881b6d254f0feae8b5f98bccd62ef7588db1111fef", func := "tocsin/tocsinlaw02.CrcWith", spec := "crcWith", apart := false, narrowed := true }
def CrcWithUptoSaid : Prop := crcWithUptoRow.holds Try.pinned (OpenSpec.upto crcWithSpec)

end Rows
end Go.Proofs.Ytfejhegogajnhaa
