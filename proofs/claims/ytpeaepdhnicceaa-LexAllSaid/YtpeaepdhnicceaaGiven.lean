/- What lex.All does, in the printer's own form. -/
import Derived.Test.YtpeaepdhnicceaaAl
namespace Go.Proofs.Ytpeaepdhnicceaa.Given
open Go.RowKit Go.Proofs.Ytpeaepdhnicceaa.Wk Go.Proofs.Ytpeaepdhnicceaa.PTy Go.Proofs.YtpeaepdhnicceaaW.PrintWords
def lex_All.f (a0 : ByteArray) : Option (List S31 × Int × Int) := if a0.size ≤ 140737488351232 then some (allF a0) else none
theorem lex_All.calls (a0 : ByteArray) (r1 : List S31) (r2 : Int) (r3 : Int) (w : World) (h : lex_All.f a0 = some (r1, r2, r3)) :
    Calls Try.prog 11 #[.string a0] w fun e w' => ∃ v0_ : Value, e = .returned (.tuple #[v0_, .int .i64 r2, .int .i64 r3]) ∧ Kd.R k31 31 w' w.heap.size (fun _ => True) v0_ r1 ∧ Below w.heap.size w w' := by
  unfold lex_All.f at h
  split at h
  · rename_i hs
    have e := Option.some.inj h
    refine (all_any a0 hs w).mono ?_
    rw [e]
    rintro e w' ⟨⟨v, rfl, hr⟩, hb⟩
    exact ⟨v, rfl, hr, hb⟩
  · cases h
end Go.Proofs.Ytpeaepdhnicceaa.Given
