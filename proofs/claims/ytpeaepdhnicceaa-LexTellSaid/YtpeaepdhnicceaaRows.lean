/-
  No cell of these rows narrows 'for every input' (looked for: loops, veiled, ifaces, maps, wideKeys, modest, calm, conditions, laid).
  DERIVED. THE GIVEN ROWS OF THIS SEAT. 7 by the template 'for every input the law returns true; each argument reads behind the call as it read before'; 0 by the template 'total and deterministic' (their statements: YtpeaepdhnicceaaTotals.lean).
  GIVEN WITH THE SEED: the statements are not yours to turn. If you find one false, say at which input.
  Laid BY PROGRAM, IN A SANDBOX (cutbox-rows.mjs): the forced cells as the released guide's own fill.sh prints them over the translation 43efd3b5dc5ef1c9… (all of the seat's roots in one cut). By AI agents, Wed Nov 11 2026. No macro, syntax, notation, axiom, sorry.
-/
import Derived.Test.YtpeaepdhnicceaaChecked
import GoSem.Claim
import GoSem.ClaimJoined
import GoSem.ClaimMapViews
import Derived.JoinedTies
import Derived.KernelRfl
namespace Go.Proofs.Ytpeaepdhnicceaa
/- THE CELL 'sum', in the pinned program and in every row, IS THE sha256 OF THE DUMP (.gsa) THAT YtpeaepdhnicceaaProg.lean LOADS. Nothing in Lean hashes anything: it is a label: what it is worth is what the hold of that sum in a sandbox is worth. -/
noncomputable def Try.pinned : Pinned := { name := "ytpeaepdhnicceaa", sum := "43efd3b5dc5ef1c9b92d321b490fc0b09c856c7f49e31ddc17633029de3a4137", checked := Try.checked }
namespace Rows
def none {H : Type} : Left H := { results := [], args := [] }

/-- 'tocsinlaw09.LexAll': WHATEVER THE INPUT: true; the input reads as it did. -/
def lexAllSpec : ChangeSpec := { name := "lexAll", fn := fun _ => fun
  | [d] => { results := [.lit (.bool true)], args := [d] }
  | _ => none }
def lexAllRow : OpenClaim := { program := "ytpeaepdhnicceaa", sum := "43efd3b5dc5ef1c9b92d321b490fc0b09c856c7f49e31ddc17633029de3a4137", func := "tocsin/tocsinlaw09.LexAll", spec := "lexAll", inPlace := ["internal/bytealg.IndexByteString", "internal/abi.NoEscape"], unfollowed := true, recurses := true, apart := false }
def LexAllSaid : Prop := lexAllRow.holds Try.pinned (OpenSpec.ofChange lexAllSpec)

/-- ITS FALSE NEIGHBOUR: 'it returns false'. Refute it at one input. -/
def lexAllWrong : ChangeSpec := { name := "lexAll", fn := fun _ => fun
  | [d] => { results := [.lit (.bool false)], args := [d] }
  | _ => none }
def LexAllWrongFalsely : Prop := lexAllRow.holds Try.pinned (OpenSpec.ofChange lexAllWrong)

/-- 'tocsinlaw09.LexTell': WHATEVER THE INPUT: true; the input reads as it did. -/
def lexTellSpec : ChangeSpec := { name := "lexTell", fn := fun _ => fun
  | [d1, d2] => { results := [.lit (.bool true)], args := [d1, d2] }
  | _ => none }
def lexTellRow : OpenClaim := { program := "ytpeaepdhnicceaa", sum := "43efd3b5dc5ef1c9b92d321b490fc0b09c856c7f49e31ddc17633029de3a4137", func := "tocsin/tocsinlaw09.LexTell", spec := "lexTell", inPlace := ["internal/bytealg.IndexByteString", "internal/abi.NoEscape"], unfollowed := true, recurses := true, apart := false }
def LexTellSaid : Prop := lexTellRow.holds Try.pinned (OpenSpec.ofChange lexTellSpec)

/-- ITS FALSE NEIGHBOUR: 'it returns false'. Refute it at one input. -/
def lexTellWrong : ChangeSpec := { name := "lexTell", fn := fun _ => fun
  | [d1, d2] => { results := [.lit (.bool false)], args := [d1, d2] }
  | _ => none }
def LexTellWrongFalsely : Prop := lexTellRow.holds Try.pinned (OpenSpec.ofChange lexTellWrong)

/-- 'tocsinlaw09.LexPlaces': WHATEVER THE INPUT: true; the input reads as it did. -/
def lexPlacesSpec : ChangeSpec := { name := "lexPlaces", fn := fun _ => fun
  | [d] => { results := [.lit (.bool true)], args := [d] }
  | _ => none }
def lexPlacesRow : OpenClaim := { program := "ytpeaepdhnicceaa", sum := "43efd3b5dc5ef1c9b92d321b490fc0b09c856c7f49e31ddc17633029de3a4137", func := "tocsin/tocsinlaw09.LexPlaces", spec := "lexPlaces", inPlace := ["internal/bytealg.IndexByteString", "internal/abi.NoEscape"], unfollowed := true, recurses := true, apart := false }
def LexPlacesSaid : Prop := lexPlacesRow.holds Try.pinned (OpenSpec.ofChange lexPlacesSpec)

/-- ITS FALSE NEIGHBOUR: 'it returns false'. Refute it at one input. -/
def lexPlacesWrong : ChangeSpec := { name := "lexPlaces", fn := fun _ => fun
  | [d] => { results := [.lit (.bool false)], args := [d] }
  | _ => none }
def LexPlacesWrongFalsely : Prop := lexPlacesRow.holds Try.pinned (OpenSpec.ofChange lexPlacesWrong)

/-- 'tocsinlaw09.LexBack': WHATEVER THE INPUT: true; the input reads as it did. -/
def lexBackSpec : ChangeSpec := { name := "lexBack", fn := fun _ => fun
  | [d1, d2] => { results := [.lit (.bool true)], args := [d1, d2] }
  | _ => none }
def lexBackRow : OpenClaim := { program := "ytpeaepdhnicceaa", sum := "43efd3b5dc5ef1c9b92d321b490fc0b09c856c7f49e31ddc17633029de3a4137", func := "tocsin/tocsinlaw09.LexBack", spec := "lexBack", inPlace := ["internal/bytealg.IndexByteString", "internal/abi.NoEscape"], unfollowed := true, recurses := true, apart := false }
def LexBackSaid : Prop := lexBackRow.holds Try.pinned (OpenSpec.ofChange lexBackSpec)

/-- ITS FALSE NEIGHBOUR: 'it returns false'. Refute it at one input. -/
def lexBackWrong : ChangeSpec := { name := "lexBack", fn := fun _ => fun
  | [d1, d2] => { results := [.lit (.bool false)], args := [d1, d2] }
  | _ => none }
def LexBackWrongFalsely : Prop := lexBackRow.holds Try.pinned (OpenSpec.ofChange lexBackWrong)

/-- 'tocsinlaw09.LexTwo': WHATEVER THE INPUT: true; the input reads as it did. -/
def lexTwoSpec : ChangeSpec := { name := "lexTwo", fn := fun _ => fun
  | [d1, d2] => { results := [.lit (.bool true)], args := [d1, d2] }
  | _ => none }
def lexTwoRow : OpenClaim := { program := "ytpeaepdhnicceaa", sum := "43efd3b5dc5ef1c9b92d321b490fc0b09c856c7f49e31ddc17633029de3a4137", func := "tocsin/tocsinlaw09.LexTwo", spec := "lexTwo", inPlace := ["internal/bytealg.IndexByteString", "internal/abi.NoEscape"], unfollowed := true, recurses := true, apart := false }
def LexTwoSaid : Prop := lexTwoRow.holds Try.pinned (OpenSpec.ofChange lexTwoSpec)

/-- ITS FALSE NEIGHBOUR: 'it returns false'. Refute it at one input. -/
def lexTwoWrong : ChangeSpec := { name := "lexTwo", fn := fun _ => fun
  | [d1, d2] => { results := [.lit (.bool false)], args := [d1, d2] }
  | _ => none }
def LexTwoWrongFalsely : Prop := lexTwoRow.holds Try.pinned (OpenSpec.ofChange lexTwoWrong)

/-- 'tocsinlaw09.LexRefused': WHATEVER THE INPUT: true; the input reads as it did. -/
def lexRefusedSpec : ChangeSpec := { name := "lexRefused", fn := fun _ => fun
  | [d1, d2] => { results := [.lit (.bool true)], args := [d1, d2] }
  | _ => none }
def lexRefusedRow : OpenClaim := { program := "ytpeaepdhnicceaa", sum := "43efd3b5dc5ef1c9b92d321b490fc0b09c856c7f49e31ddc17633029de3a4137", func := "tocsin/tocsinlaw09.LexRefused", spec := "lexRefused", inPlace := ["internal/bytealg.IndexByteString", "internal/abi.NoEscape"], unfollowed := true, recurses := true, apart := false }
def LexRefusedSaid : Prop := lexRefusedRow.holds Try.pinned (OpenSpec.ofChange lexRefusedSpec)

/-- ITS FALSE NEIGHBOUR: 'it returns false'. Refute it at one input. -/
def lexRefusedWrong : ChangeSpec := { name := "lexRefused", fn := fun _ => fun
  | [d1, d2] => { results := [.lit (.bool false)], args := [d1, d2] }
  | _ => none }
def LexRefusedWrongFalsely : Prop := lexRefusedRow.holds Try.pinned (OpenSpec.ofChange lexRefusedWrong)

/-- 'tocsinlaw09.LexKinds': WHATEVER THE INPUT: true; the input reads as it did. -/
def lexKindsSpec : ChangeSpec := { name := "lexKinds", fn := fun _ => fun
  | [d1, d2] => { results := [.lit (.bool true)], args := [d1, d2] }
  | _ => none }
def lexKindsRow : OpenClaim := { program := "ytpeaepdhnicceaa", sum := "43efd3b5dc5ef1c9b92d321b490fc0b09c856c7f49e31ddc17633029de3a4137", func := "tocsin/tocsinlaw09.LexKinds", spec := "lexKinds", inPlace := ["internal/bytealg.IndexByteString", "internal/abi.NoEscape"], unfollowed := true, recurses := true, apart := false }
def LexKindsSaid : Prop := lexKindsRow.holds Try.pinned (OpenSpec.ofChange lexKindsSpec)

/-- ITS FALSE NEIGHBOUR: 'it returns false'. Refute it at one input. -/
def lexKindsWrong : ChangeSpec := { name := "lexKinds", fn := fun _ => fun
  | [d1, d2] => { results := [.lit (.bool false)], args := [d1, d2] }
  | _ => none }
def LexKindsWrongFalsely : Prop := lexKindsRow.holds Try.pinned (OpenSpec.ofChange lexKindsWrong)

/- THE SECOND FORM. 'bulk': how many values and letters a reading holds, each counted each time it is reached (what is shared counts as often as it is met; a slice's spare places count too). A statement '..UptoSaid' is the law's where the arguments, and the package variables that the reading takes, are together of bulk at most 1048576: NARROWER than '..Said'. Prove '..Said' where nothing that the law and all that it calls make is longer than what came in: it says more and counts as full. Else prove '..UptoSaid'. A law counts once. -/
mutual
def uptoBulk {H : Type} : DataW H → Nat
  | .lit (.string bytes) => bytes.length + 1
  | .lit _ => 1
  | .nil => 1
  | .ptr d => uptoBulk d + 1
  | .slice elems spare => uptoBulkAll elems + uptoBulkAll spare + 1
  | .agg parts => uptoBulkAll parts + 1
  | .iface _ d => uptoBulk d + 1
  | .map entries => uptoBulkEntries entries + 1
  | .held _ => 1
def uptoBulkAll {H : Type} : List (DataW H) → Nat
  | [] => 0
  | d :: r => uptoBulk d + uptoBulkAll r
def uptoBulkEntries {H : Type} : List (Lit × DataW H) → Nat
  | [] => 0
  | x :: r => uptoBulkEntry x + uptoBulkEntries r
def uptoBulkEntry {H : Type} : Lit × DataW H → Nat
  | (.string bytes, d) => bytes.length + uptoBulk d + 1
  | (_, d) => uptoBulk d + 1
 end
def uptoSmall : (H : Type) → List (DataW H) → Bool := fun _ ds => decide (uptoBulkAll ds ≤ 1048576)
def OpenSpec.upto (s : _root_.Go.ChangeSpec) : _root_.Go.OpenSpec := { _root_.Go.OpenSpec.ofChange s with cond := some uptoSmall }

/-- 'tocsinlaw09.LexAll', WHERE WHAT IT READS IS OF BULK AT MOST 1048576: true; the input reads as it did. -/
def lexAllUptoRow : OpenClaim := { program := "ytpeaepdhnicceaa", sum := "43efd3b5dc5ef1c9b92d321b490fc0b09c856c7f49e31ddc17633029de3a4137", func := "tocsin/tocsinlaw09.LexAll", spec := "lexAll", inPlace := ["internal/bytealg.IndexByteString", "internal/abi.NoEscape"], unfollowed := true, recurses := true, apart := false, narrowed := true }
def LexAllUptoSaid : Prop := lexAllUptoRow.holds Try.pinned (OpenSpec.upto lexAllSpec)

/-- 'tocsinlaw09.LexTell', WHERE WHAT IT READS IS OF BULK AT MOST 1048576: true; the input reads as it did. -/
def lexTellUptoRow : OpenClaim := { program := "ytpeaepdhnicceaa", sum := "43efd3b5dc5ef1c9b92d321b490fc0b09c856c7f49e31ddc17633029de3a4137", func := "tocsin/tocsinlaw09.LexTell", spec := "lexTell", inPlace := ["internal/bytealg.IndexByteString", "internal/abi.NoEscape"], unfollowed := true, recurses := true, apart := false, narrowed := true }
def LexTellUptoSaid : Prop := lexTellUptoRow.holds Try.pinned (OpenSpec.upto lexTellSpec)

/-- 'tocsinlaw09.LexPlaces', WHERE WHAT IT READS IS OF BULK AT MOST 1048576: true; the input reads as it did. -/
def lexPlacesUptoRow : OpenClaim := { program := "ytpeaepdhnicceaa", sum := "43efd3b5dc5ef1c9b92d321b490fc0b09c856c7f49e31ddc17633029de3a4137", func := "tocsin/tocsinlaw09.LexPlaces", spec := "lexPlaces", inPlace := ["internal/bytealg.IndexByteString", "internal/abi.NoEscape"], unfollowed := true, recurses := true, apart := false, narrowed := true }
def LexPlacesUptoSaid : Prop := lexPlacesUptoRow.holds Try.pinned (OpenSpec.upto lexPlacesSpec)

/-- 'tocsinlaw09.LexBack', WHERE WHAT IT READS IS OF BULK AT MOST 1048576: true; the input reads as it did. -/
def lexBackUptoRow : OpenClaim := { program := "ytpeaepdhnicceaa", sum := "43efd3b5dc5ef1c9b92d321b490fc0b09c856c7f49e31ddc17633029de3a4137", func := "tocsin/tocsinlaw09.LexBack", spec := "lexBack", inPlace := ["internal/bytealg.IndexByteString", "internal/abi.NoEscape"], unfollowed := true, recurses := true, apart := false, narrowed := true }
def LexBackUptoSaid : Prop := lexBackUptoRow.holds Try.pinned (OpenSpec.upto lexBackSpec)

/-- 'tocsinlaw09.LexTwo', WHERE WHAT IT READS IS OF BULK AT MOST 1048576: true; the input reads as it did. -/
def lexTwoUptoRow : OpenClaim := { program := "ytpeaepdhnicceaa", sum := "43efd3b5dc5ef1c9b92d321b490fc0b09c856c7f49e31ddc17633029de3a4137", func := "tocsin/tocsinlaw09.LexTwo", spec := "lexTwo", inPlace := ["internal/bytealg.IndexByteString", "internal/abi.NoEscape"], unfollowed := true, recurses := true, apart := false, narrowed := true }
def LexTwoUptoSaid : Prop := lexTwoUptoRow.holds Try.pinned (OpenSpec.upto lexTwoSpec)

/-- 'tocsinlaw09.LexRefused', WHERE WHAT IT READS IS OF BULK AT MOST 1048576: true; the input reads as it did. -/
def lexRefusedUptoRow : OpenClaim := { program := "ytpeaepdhnicceaa", sum := "43efd3b5dc5ef1c9b92d321b490fc0b09c856c7f49e31ddc17633029de3a4137", func := "tocsin/tocsinlaw09.LexRefused", spec := "lexRefused", inPlace := ["internal/bytealg.IndexByteString", "internal/abi.NoEscape"], unfollowed := true, recurses := true, apart := false, narrowed := true }
def LexRefusedUptoSaid : Prop := lexRefusedUptoRow.holds Try.pinned (OpenSpec.upto lexRefusedSpec)

/-- 'tocsinlaw09.LexKinds', WHERE WHAT IT READS IS OF BULK AT MOST 1048576: true; the input reads as it did. -/
def lexKindsUptoRow : OpenClaim := { program := "ytpeaepdhnicceaa", sum := "43efd3b5dc5ef1c9b92d321b490fc0b09c856c7f49e31ddc17633029de3a4137", func := "tocsin/tocsinlaw09.LexKinds", spec := "lexKinds", inPlace := ["internal/bytealg.IndexByteString", "internal/abi.NoEscape"], unfollowed := true, recurses := true, apart := false, narrowed := true }
def LexKindsUptoSaid : Prop := lexKindsUptoRow.holds Try.pinned (OpenSpec.upto lexKindsSpec)

end Rows
end Go.Proofs.Ytpeaepdhnicceaa
