/- What frame's Whole does, in the printer's own form. -/
import Derived.Test.YtcobdpkpefgdlaaWhole
namespace Go.Proofs.Ytcobdpkpefgdlaa.Nx
open Go.RowKit Go.Proofs.Crc Go.Proofs.Ytcobdpkpefgdlaa.Cod Go.Proofs.Ytcobdpkpefgdlaa.Given Go.Proofs.Ytcobdpkpefgdlaa.Pure Go.Proofs.YtcobdpkpefgdlaaW.PrintWords Go.Proofs.YtcobdpkpefgdlaaW.PrintLast
def frame_Whole.f (l0 : List Int) : Option Int := if okB l0 = true ∧ l0.length ≤ 1000000 then some (wholeL l0 : Int) else none
theorem frame_Whole.calls (A0 : Option Addr) (c0 : Nat) (l0 : List Int) (r : Int) (w : World) (hr0 : Kd.C (Kd.int .u8) w A0 l0.length l0) (hc0 : l0.length ≤ c0) (h : frame_Whole.f l0 = some r) :
    Calls Try.prog 20 #[.slice A0 l0.length c0] w fun e w' => e = .returned (.int .i64 r) ∧ Below w.heap.size w w' := by
  unfold frame_Whole.f at h
  split at h
  · rename_i hok
    obtain rfl := Option.some.inj h
    exact whole_in A0 c0 l0 (isB_ok hok.1).1 hok.2 hc0 w hr0
  · cases h
end Go.Proofs.Ytcobdpkpefgdlaa.Nx
