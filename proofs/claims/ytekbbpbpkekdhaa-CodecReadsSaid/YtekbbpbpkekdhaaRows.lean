/-
  No cell of these rows narrows 'for every input' (looked for: loops, veiled, ifaces, maps, wideKeys, modest, calm, conditions, laid).
  DERIVED. THE GIVEN ROWS OF THIS SEAT. 10 by the template 'for every input the law returns true; each argument reads behind the call as it read before'; 0 by the template 'total and deterministic' (their statements: YtekbbpbpkekdhaaTotals.lean).
  GIVEN WITH THE SEED: the statements are not yours to turn. If you find one false, say at which input.
  Laid BY PROGRAM, IN A SANDBOX (cutbox-rows.mjs): the forced cells as the released guide's own fill.sh prints them over the translation ac675645423ad361… (all of the seat's roots in one cut). By AI agents, Wed Nov 11 2026. No macro, syntax, notation, axiom, sorry.
-/
import Derived.Test.YtekbbpbpkekdhaaChecked
import GoSem.Claim
import GoSem.ClaimJoined
import GoSem.ClaimMapViews
import Derived.JoinedTies
import Derived.KernelRfl
namespace Go.Proofs.Ytekbbpbpkekdhaa
/- THE CELL 'sum', in the pinned program and in every row, IS THE sha256 OF THE DUMP (.gsa) THAT YtekbbpbpkekdhaaProg.lean LOADS. Nothing in Lean hashes anything: it is a label: what it is worth is what the hold of that sum in a sandbox is worth. -/
noncomputable def Try.pinned : Pinned := { name := "ytekbbpbpkekdhaa", sum := "ac675645423ad3613ce6ce1c4db619df979c5e2f14aea854413489ae34c8d91b", checked := Try.checked }
namespace Rows
def none {H : Type} : Left H := { results := [], args := [] }

/-- 'tocsinlaw06.CodecWrites': WHATEVER THE INPUT: true; the input reads as it did. -/
def codecWritesSpec : ChangeSpec := { name := "codecWrites", fn := fun _ => fun
  | [d] => { results := [.lit (.bool true)], args := [d] }
  | _ => none }
def codecWritesRow : OpenClaim := { program := "ytekbbpbpkekdhaa", sum := "ac675645423ad3613ce6ce1c4db619df979c5e2f14aea854413489ae34c8d91b", func := "tocsin/tocsinlaw06.CodecWrites", spec := "codecWrites", apart := false }
def CodecWritesSaid : Prop := codecWritesRow.holds Try.pinned (OpenSpec.ofChange codecWritesSpec)

/-- ITS FALSE NEIGHBOUR: 'it returns false'. Refute it at one input. -/
def codecWritesWrong : ChangeSpec := { name := "codecWrites", fn := fun _ => fun
  | [d] => { results := [.lit (.bool false)], args := [d] }
  | _ => none }
def CodecWritesWrongFalsely : Prop := codecWritesRow.holds Try.pinned (OpenSpec.ofChange codecWritesWrong)

/-- 'tocsinlaw06.CodecReads': WHATEVER THE INPUT: true; the input reads as it did. -/
def codecReadsSpec : ChangeSpec := { name := "codecReads", fn := fun _ => fun
  | [d1, d2] => { results := [.lit (.bool true)], args := [d1, d2] }
  | _ => none }
def codecReadsRow : OpenClaim := { program := "ytekbbpbpkekdhaa", sum := "ac675645423ad3613ce6ce1c4db619df979c5e2f14aea854413489ae34c8d91b", func := "tocsin/tocsinlaw06.CodecReads", spec := "codecReads", apart := false }
def CodecReadsSaid : Prop := codecReadsRow.holds Try.pinned (OpenSpec.ofChange codecReadsSpec)

/-- ITS FALSE NEIGHBOUR: 'it returns false'. Refute it at one input. -/
def codecReadsWrong : ChangeSpec := { name := "codecReads", fn := fun _ => fun
  | [d1, d2] => { results := [.lit (.bool false)], args := [d1, d2] }
  | _ => none }
def CodecReadsWrongFalsely : Prop := codecReadsRow.holds Try.pinned (OpenSpec.ofChange codecReadsWrong)

/-- 'tocsinlaw06.CodecJoined': WHATEVER THE INPUT: true; the input reads as it did. -/
def codecJoinedSpec : ChangeSpec := { name := "codecJoined", fn := fun _ => fun
  | [d1, d2] => { results := [.lit (.bool true)], args := [d1, d2] }
  | _ => none }
def codecJoinedRow : OpenClaim := { program := "ytekbbpbpkekdhaa", sum := "ac675645423ad3613ce6ce1c4db619df979c5e2f14aea854413489ae34c8d91b", func := "tocsin/tocsinlaw06.CodecJoined", spec := "codecJoined", apart := false }
def CodecJoinedSaid : Prop := codecJoinedRow.holds Try.pinned (OpenSpec.ofChange codecJoinedSpec)

/-- ITS FALSE NEIGHBOUR: 'it returns false'. Refute it at one input. -/
def codecJoinedWrong : ChangeSpec := { name := "codecJoined", fn := fun _ => fun
  | [d1, d2] => { results := [.lit (.bool false)], args := [d1, d2] }
  | _ => none }
def CodecJoinedWrongFalsely : Prop := codecJoinedRow.holds Try.pinned (OpenSpec.ofChange codecJoinedWrong)

/-- 'tocsinlaw06.CodecShort': WHATEVER THE INPUT: true; the input reads as it did. -/
def codecShortSpec : ChangeSpec := { name := "codecShort", fn := fun _ => fun
  | [d1, d2] => { results := [.lit (.bool true)], args := [d1, d2] }
  | _ => none }
def codecShortRow : OpenClaim := { program := "ytekbbpbpkekdhaa", sum := "ac675645423ad3613ce6ce1c4db619df979c5e2f14aea854413489ae34c8d91b", func := "tocsin/tocsinlaw06.CodecShort", spec := "codecShort", apart := false }
def CodecShortSaid : Prop := codecShortRow.holds Try.pinned (OpenSpec.ofChange codecShortSpec)

/-- ITS FALSE NEIGHBOUR: 'it returns false'. Refute it at one input. -/
def codecShortWrong : ChangeSpec := { name := "codecShort", fn := fun _ => fun
  | [d1, d2] => { results := [.lit (.bool false)], args := [d1, d2] }
  | _ => none }
def CodecShortWrongFalsely : Prop := codecShortRow.holds Try.pinned (OpenSpec.ofChange codecShortWrong)

/-- 'tocsinlaw06.CodecSigns': WHATEVER THE INPUT: true; the input reads as it did. -/
def codecSignsSpec : ChangeSpec := { name := "codecSigns", fn := fun _ => fun
  | [d] => { results := [.lit (.bool true)], args := [d] }
  | _ => none }
def codecSignsRow : OpenClaim := { program := "ytekbbpbpkekdhaa", sum := "ac675645423ad3613ce6ce1c4db619df979c5e2f14aea854413489ae34c8d91b", func := "tocsin/tocsinlaw06.CodecSigns", spec := "codecSigns", apart := false }
def CodecSignsSaid : Prop := codecSignsRow.holds Try.pinned (OpenSpec.ofChange codecSignsSpec)

/-- ITS FALSE NEIGHBOUR: 'it returns false'. Refute it at one input. -/
def codecSignsWrong : ChangeSpec := { name := "codecSigns", fn := fun _ => fun
  | [d] => { results := [.lit (.bool false)], args := [d] }
  | _ => none }
def CodecSignsWrongFalsely : Prop := codecSignsRow.holds Try.pinned (OpenSpec.ofChange codecSignsWrong)

/-- 'tocsinlaw06.CodecBools': WHATEVER THE INPUT: true; the input reads as it did. -/
def codecBoolsSpec : ChangeSpec := { name := "codecBools", fn := fun _ => fun
  | [d] => { results := [.lit (.bool true)], args := [d] }
  | _ => none }
def codecBoolsRow : OpenClaim := { program := "ytekbbpbpkekdhaa", sum := "ac675645423ad3613ce6ce1c4db619df979c5e2f14aea854413489ae34c8d91b", func := "tocsin/tocsinlaw06.CodecBools", spec := "codecBools", apart := false }
def CodecBoolsSaid : Prop := codecBoolsRow.holds Try.pinned (OpenSpec.ofChange codecBoolsSpec)

/-- ITS FALSE NEIGHBOUR: 'it returns false'. Refute it at one input. -/
def codecBoolsWrong : ChangeSpec := { name := "codecBools", fn := fun _ => fun
  | [d] => { results := [.lit (.bool false)], args := [d] }
  | _ => none }
def CodecBoolsWrongFalsely : Prop := codecBoolsRow.holds Try.pinned (OpenSpec.ofChange codecBoolsWrong)

/-- 'tocsinlaw06.CodecNone': WHATEVER THE INPUT: true; the input reads as it did. -/
def codecNoneSpec : ChangeSpec := { name := "codecNone", fn := fun _ => fun
  | [d] => { results := [.lit (.bool true)], args := [d] }
  | _ => none }
def codecNoneRow : OpenClaim := { program := "ytekbbpbpkekdhaa", sum := "ac675645423ad3613ce6ce1c4db619df979c5e2f14aea854413489ae34c8d91b", func := "tocsin/tocsinlaw06.CodecNone", spec := "codecNone", apart := false }
def CodecNoneSaid : Prop := codecNoneRow.holds Try.pinned (OpenSpec.ofChange codecNoneSpec)

/-- ITS FALSE NEIGHBOUR: 'it returns false'. Refute it at one input. -/
def codecNoneWrong : ChangeSpec := { name := "codecNone", fn := fun _ => fun
  | [d] => { results := [.lit (.bool false)], args := [d] }
  | _ => none }
def CodecNoneWrongFalsely : Prop := codecNoneRow.holds Try.pinned (OpenSpec.ofChange codecNoneWrong)

/-- 'tocsinlaw06.CodecBack': WHATEVER THE INPUT: true; the input reads as it did. -/
def codecBackSpec : ChangeSpec := { name := "codecBack", fn := fun _ => fun
  | [d1, d2] => { results := [.lit (.bool true)], args := [d1, d2] }
  | _ => none }
def codecBackRow : OpenClaim := { program := "ytekbbpbpkekdhaa", sum := "ac675645423ad3613ce6ce1c4db619df979c5e2f14aea854413489ae34c8d91b", func := "tocsin/tocsinlaw06.CodecBack", spec := "codecBack", apart := false }
def CodecBackSaid : Prop := codecBackRow.holds Try.pinned (OpenSpec.ofChange codecBackSpec)

/-- ITS FALSE NEIGHBOUR: 'it returns false'. Refute it at one input. -/
def codecBackWrong : ChangeSpec := { name := "codecBack", fn := fun _ => fun
  | [d1, d2] => { results := [.lit (.bool false)], args := [d1, d2] }
  | _ => none }
def CodecBackWrongFalsely : Prop := codecBackRow.holds Try.pinned (OpenSpec.ofChange codecBackWrong)

/-- 'tocsinlaw06.CodecOne': WHATEVER THE INPUT: true; the input reads as it did. -/
def codecOneSpec : ChangeSpec := { name := "codecOne", fn := fun _ => fun
  | [d1, d2] => { results := [.lit (.bool true)], args := [d1, d2] }
  | _ => none }
def codecOneRow : OpenClaim := { program := "ytekbbpbpkekdhaa", sum := "ac675645423ad3613ce6ce1c4db619df979c5e2f14aea854413489ae34c8d91b", func := "tocsin/tocsinlaw06.CodecOne", spec := "codecOne", apart := false }
def CodecOneSaid : Prop := codecOneRow.holds Try.pinned (OpenSpec.ofChange codecOneSpec)

/-- ITS FALSE NEIGHBOUR: 'it returns false'. Refute it at one input. -/
def codecOneWrong : ChangeSpec := { name := "codecOne", fn := fun _ => fun
  | [d1, d2] => { results := [.lit (.bool false)], args := [d1, d2] }
  | _ => none }
def CodecOneWrongFalsely : Prop := codecOneRow.holds Try.pinned (OpenSpec.ofChange codecOneWrong)

/-- 'tocsinlaw06.CodecFails': WHATEVER THE INPUT: true; the input reads as it did. -/
def codecFailsSpec : ChangeSpec := { name := "codecFails", fn := fun _ => fun
  | [d1, d2] => { results := [.lit (.bool true)], args := [d1, d2] }
  | _ => none }
def codecFailsRow : OpenClaim := { program := "ytekbbpbpkekdhaa", sum := "ac675645423ad3613ce6ce1c4db619df979c5e2f14aea854413489ae34c8d91b", func := "tocsin/tocsinlaw06.CodecFails", spec := "codecFails", apart := false }
def CodecFailsSaid : Prop := codecFailsRow.holds Try.pinned (OpenSpec.ofChange codecFailsSpec)

/-- ITS FALSE NEIGHBOUR: 'it returns false'. Refute it at one input. -/
def codecFailsWrong : ChangeSpec := { name := "codecFails", fn := fun _ => fun
  | [d1, d2] => { results := [.lit (.bool false)], args := [d1, d2] }
  | _ => none }
def CodecFailsWrongFalsely : Prop := codecFailsRow.holds Try.pinned (OpenSpec.ofChange codecFailsWrong)

/- THE SECOND FORM. 'bulk': how many values and letters a reading holds, each counted each time it is reached (what is shared counts as often as it is met; a slice's spare places count too). A statement '..UptoSaid' is the law's where the arguments, and the package variables that the reading takes, are together of bulk at most 1048576: NARROWER than '..Said'. Prove '..Said' where nothing that the law and all that it calls make is longer than what came in: it says more and counts as full. Else prove '..UptoSaid'. A law counts once. -/
mutual
def uptoBulk {H : Type} : DataW H → Nat
  | .lit (.string bytes) => bytes.length + 1
  | .lit _ => 1
  | .nil => 1
  | .ptr d => uptoBulk d + 1
  | .slice elems spare => uptoBulkAll elems + uptoBulkAll spare + 1
  | .agg parts => uptoBulkAll parts + 1
  | .iface _ d => uptoBulk d + 1
  | .map entries => uptoBulkEntries entries + 1
  | .held _ => 1
def uptoBulkAll {H : Type} : List (DataW H) → Nat
  | [] => 0
  | d :: r => uptoBulk d + uptoBulkAll r
def uptoBulkEntries {H : Type} : List (Lit × DataW H) → Nat
  | [] => 0
  | x :: r => uptoBulkEntry x + uptoBulkEntries r
def uptoBulkEntry {H : Type} : Lit × DataW H → Nat
  | (.string bytes, d) => bytes.length + uptoBulk d + 1
  | (_, d) => uptoBulk d + 1
 end
def uptoSmall : (H : Type) → List (DataW H) → Bool := fun _ ds => decide (uptoBulkAll ds ≤ 1048576)
def OpenSpec.upto (s : _root_.Go.ChangeSpec) : _root_.Go.OpenSpec := { _root_.Go.OpenSpec.ofChange s with cond := some uptoSmall }

/-- 'tocsinlaw06.CodecWrites', WHERE WHAT IT READS IS OF BULK AT MOST 1048576: true; the input reads as it did. -/
def codecWritesUptoRow : OpenClaim := { program := "ytekbbpbpkekdhaa", sum := "ac675645423ad3613ce6ce1c4db619df979c5e2f14aea854413489ae34c8d91b", func := "tocsin/tocsinlaw06.CodecWrites", spec := "codecWrites", apart := false, narrowed := true }
def CodecWritesUptoSaid : Prop := codecWritesUptoRow.holds Try.pinned (OpenSpec.upto codecWritesSpec)

/-- 'tocsinlaw06.CodecReads', WHERE WHAT IT READS IS OF BULK AT MOST 1048576: true; the input reads as it did. -/
def codecReadsUptoRow : OpenClaim := { program := "ytekbbpbpkekdhaa", sum := "ac675645423ad3613ce6ce1c4db619df979c5e2f14aea854413489ae34c8d91b", func := "tocsin/tocsinlaw06.CodecReads", spec := "codecReads", apart := false, narrowed := true }
def CodecReadsUptoSaid : Prop := codecReadsUptoRow.holds Try.pinned (OpenSpec.upto codecReadsSpec)

/-- 'tocsinlaw06.CodecJoined', WHERE WHAT IT READS IS OF BULK AT MOST 1048576: true; the input reads as it did. -/
def codecJoinedUptoRow : OpenClaim := { program := "ytekbbpbpkekdhaa", sum := "ac675645423ad3613ce6ce1c4db619df979c5e2f14aea854413489ae34c8d91b", func := "tocsin/tocsinlaw06.CodecJoined", spec := "codecJoined", apart := false, narrowed := true }
def CodecJoinedUptoSaid : Prop := codecJoinedUptoRow.holds Try.pinned (OpenSpec.upto codecJoinedSpec)

/-- 'tocsinlaw06.CodecShort', WHERE WHAT IT READS IS OF BULK AT MOST 1048576: true; the input reads as it did. -/
def codecShortUptoRow : OpenClaim := { program := "ytekbbpbpkekdhaa", sum := "ac675645423ad3613ce6ce1c4db619df979c5e2f14aea854413489ae34c8d91b", func := "tocsin/tocsinlaw06.CodecShort", spec := "codecShort", apart := false, narrowed := true }
def CodecShortUptoSaid : Prop := codecShortUptoRow.holds Try.pinned (OpenSpec.upto codecShortSpec)

/-- 'tocsinlaw06.CodecSigns', WHERE WHAT IT READS IS OF BULK AT MOST 1048576: true; the input reads as it did. -/
def codecSignsUptoRow : OpenClaim := { program := "ytekbbpbpkekdhaa", sum := "ac675645423ad3613ce6ce1c4db619df979c5e2f14aea854413489ae34c8d91b", func := "tocsin/tocsinlaw06.CodecSigns", spec := "codecSigns", apart := false, narrowed := true }
def CodecSignsUptoSaid : Prop := codecSignsUptoRow.holds Try.pinned (OpenSpec.upto codecSignsSpec)

/-- 'tocsinlaw06.CodecBools', WHERE WHAT IT READS IS OF BULK AT MOST 1048576: true; the input reads as it did. -/
def codecBoolsUptoRow : OpenClaim := { program := "ytekbbpbpkekdhaa", sum := "ac675645423ad3613ce6ce1c4db619df979c5e2f14aea854413489ae34c8d91b", func := "tocsin/tocsinlaw06.CodecBools", spec := "codecBools", apart := false, narrowed := true }
def CodecBoolsUptoSaid : Prop := codecBoolsUptoRow.holds Try.pinned (OpenSpec.upto codecBoolsSpec)

/-- 'tocsinlaw06.CodecNone', WHERE WHAT IT READS IS OF BULK AT MOST 1048576: true; the input reads as it did. -/
def codecNoneUptoRow : OpenClaim := { program := "ytekbbpbpkekdhaa", sum := "ac675645423ad3613ce6ce1c4db619df979c5e2f14aea854413489ae34c8d91b", func := "tocsin/tocsinlaw06.CodecNone", spec := "codecNone", apart := false, narrowed := true }
def CodecNoneUptoSaid : Prop := codecNoneUptoRow.holds Try.pinned (OpenSpec.upto codecNoneSpec)

/-- 'tocsinlaw06.CodecBack', WHERE WHAT IT READS IS OF BULK AT MOST 1048576: true; the input reads as it did. -/
def codecBackUptoRow : OpenClaim := { program := "ytekbbpbpkekdhaa", sum := "ac675645423ad3613ce6ce1c4db619df979c5e2f14aea854413489ae34c8d91b", func := "tocsin/tocsinlaw06.CodecBack", spec := "codecBack", apart := false, narrowed := true }
def CodecBackUptoSaid : Prop := codecBackUptoRow.holds Try.pinned (OpenSpec.upto codecBackSpec)

/-- 'tocsinlaw06.CodecOne', WHERE WHAT IT READS IS OF BULK AT MOST 1048576: true; the input reads as it did. -/
def codecOneUptoRow : OpenClaim := { program := "ytekbbpbpkekdhaa", sum := "ac675645423ad3613ce6ce1c4db619df979c5e2f14aea854413489ae34c8d91b", func := "tocsin/tocsinlaw06.CodecOne", spec := "codecOne", apart := false, narrowed := true }
def CodecOneUptoSaid : Prop := codecOneUptoRow.holds Try.pinned (OpenSpec.upto codecOneSpec)

/-- 'tocsinlaw06.CodecFails', WHERE WHAT IT READS IS OF BULK AT MOST 1048576: true; the input reads as it did. -/
def codecFailsUptoRow : OpenClaim := { program := "ytekbbpbpkekdhaa", sum := "ac675645423ad3613ce6ce1c4db619df979c5e2f14aea854413489ae34c8d91b", func := "tocsin/tocsinlaw06.CodecFails", spec := "codecFails", apart := false, narrowed := true }
def CodecFailsUptoSaid : Prop := codecFailsUptoRow.holds Try.pinned (OpenSpec.upto codecFailsSpec)

end Rows
end Go.Proofs.Ytekbbpbpkekdhaa
