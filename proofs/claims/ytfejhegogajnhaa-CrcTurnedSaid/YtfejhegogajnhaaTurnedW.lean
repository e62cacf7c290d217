/- What CrcTurned does: both ways. -/
import Derived.Test.YtfejhegogajnhaaTurnedLt
import Derived.Test.YtfejhegogajnhaaTurnedGe
import Derived.Test.YtfejhegogajnhaaOpen
namespace Go.Proofs.Ytfejhegogajnhaa.Given
open Go.RowKit Go.Proofs.Crc Go.Proofs.Ytfejhegogajnhaa.Open Go.Proofs.YtfejhegogajnhaaW.PrintWords Go.Proofs.YtfejhegogajnhaaW.PrintLast
theorem isB_of {xs : List Int} (h : wfAll (wfInt .u8) xs) : isB xs := fun x hx => by
  have := h x hx
  simp [wfInt, Lit.wf, IntKind.min, IntKind.max, IntKind.bits, IntKind.signed] at this; omega
theorem CrcTurned_walk (A0 : Option Addr) (c0 : Nat) (l0 : List Int) (A1 : Option Addr) (c1 : Nat) (l1 : List Int) (w : World) (hr0 : Kd.C (Kd.int .u8) w A0 l0.length l0) (hc0 : l0.length ≤ c0) (hb0 : wfAll (wfInt .u8) l0) (hr1 : Kd.C (Kd.int .u8) w A1 l1.length l1) (hc1 : l1.length ≤ c1) (hb1 : wfAll (wfInt .u8) l1) :
    Calls Try.prog 6 #[.slice A0 l0.length c0, .slice A1 l1.length c1] w fun e w' => e = .returned (.bool true) ∧ Below w.heap.size w w' := by
  by_cases hn : l1.length < l0.length
  · exact turned_lt A0 A1 c0 c1 l0 l1 w hr0 hc0 hr1 hc1 (isB_of hb0) (isB_of hb1) hn
  · exact turned_ge A0 A1 c0 c1 l0 l1 w hr0 hc0 hr1 hc1 (isB_of hb0) (isB_of hb1) hn
end Go.Proofs.Ytfejhegogajnhaa.Given
