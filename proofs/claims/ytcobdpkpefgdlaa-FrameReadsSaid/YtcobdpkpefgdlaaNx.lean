/- What frame's Next does, told by what it tells, in the printer's own form. -/
import Derived.Test.YtcobdpkpefgdlaaNextP
import Derived.Test.YtcobdpkpefgdlaaAwake
namespace Go.Proofs.Ytcobdpkpefgdlaa.Nx
open Go.RowKit Go.Proofs.Crc Go.Proofs.Ytcobdpkpefgdlaa.Cod Go.Proofs.Ytcobdpkpefgdlaa.PBase Go.Proofs.Ytcobdpkpefgdlaa.PMid Go.Proofs.Ytcobdpkpefgdlaa.Given Go.Proofs.Ytcobdpkpefgdlaa.Pure Go.Proofs.YtcobdpkpefgdlaaW.PrintWords Go.Proofs.YtcobdpkpefgdlaaW.PrintLast
theorem isB_ok {xs : List Int} (h : okB xs = true) : isB xs ∧ xs.length ≤ 140737488355328 := okB_is h
def frame_Next.f (l0 : List Int) : Option (List Int × Int × Int) := if okB l0 = true ∧ l0.length ≤ 1000000 then some (nextT (nextL l0)) else none
theorem frame_Next.calls (A0 : Option Addr) (c0 : Nat) (l0 : List Int) (r1 : List Int) (r2 : Int) (r3 : Int) (w : World) (hr0 : Kd.C (Kd.int .u8) w A0 l0.length l0) (hc0 : l0.length ≤ c0) (h : frame_Next.f l0 = some (r1, r2, r3)) :
    Calls Try.prog 16 #[.slice A0 l0.length c0] w fun e w' => ∃ v0_ : Value, e = .returned (.tuple #[v0_, .int .i64 r2, .int .i64 r3]) ∧ Kd.R (Kd.int .u8) 5 w' w.heap.size (fun _ => True) v0_ r1 ∧ Below w.heap.size w w' := by
  unfold frame_Next.f at h
  split at h
  · rename_i hok
    have hn := next_some (k := 10) l0 (isB_ok hok.1).1 hok.2 (by omega)
    rw [h] at hn
    refine (PAll.frame_Next.calls 10 (fun _ => True) A0 c0 l0 r1 r2 r3 w (V_of_C hr0 hc0) hn).mono ?_
    rintro e w' ⟨v, rfl, ho, hb⟩
    exact ⟨v, rfl, Kd.R_mono ho (fun _ _ => trivial), hb⟩
  · cases h
end Go.Proofs.Ytcobdpkpefgdlaa.Nx
