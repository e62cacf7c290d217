/- What AggOf does: the walk. -/
import Derived.Test.YtafpedgmfkaifaaPureAggOf
import Derived.Test.YtafpedgmfkaifaaOpenSample
namespace Go.Proofs.Ytafpedgmfkaifaa.Given
open Go.RowKit Go.Proofs.Ytafpedgmfkaifaa.PBase Go.Proofs.Ytafpedgmfkaifaa.OpenS Go.Proofs.YtafpedgmfkaifaaW.PrintWords
theorem AggOf_walk (a0 : Int) (A1 : Option Addr) (c1 : Nat) (l1 : List S30) (w : World) (h0 : (Lit.int .u8 a0).wf = true) (hr1 : Kd.C k30 w A1 l1.length l1) (hc1 : l1.length ≤ c1) (_hw1 : wfAll (Try.prog.bytesOf 30) wfS l1) :
    Calls Try.prog 3 #[.int .u8 a0, .slice A1 l1.length c1] w fun e w' => e = .returned (.bool true) ∧ Below w.heap.size w w' := by
  simp [Lit.wf, IntKind.min, IntKind.max, IntKind.bits, IntKind.signed] at h0
  obtain ⟨k, hk⟩ := Pure.AggOf a0 l1 h0.1 h0.2
  exact PAll.tocsinlaw18_AggOf.calls k a0 A1 c1 l1 true w hr1 hc1 hk
end Go.Proofs.Ytafpedgmfkaifaa.Given
