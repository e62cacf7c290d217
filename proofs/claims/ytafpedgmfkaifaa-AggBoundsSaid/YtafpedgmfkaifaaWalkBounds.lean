/- What AggBounds does: the walk. -/
import Derived.Test.YtafpedgmfkaifaaPureAggBounds
import Derived.Test.YtafpedgmfkaifaaOpenSample
namespace Go.Proofs.Ytafpedgmfkaifaa.Given
open Go.RowKit Go.Proofs.Ytafpedgmfkaifaa.PBase Go.Proofs.Ytafpedgmfkaifaa.OpenS Go.Proofs.YtafpedgmfkaifaaW.PrintWords
theorem AggBounds_walk (A0 : Option Addr) (c0 : Nat) (l0 : List S30) (A1 : Option Addr) (c1 : Nat) (l1 : List S30) (w : World) (hr0 : Kd.C k30 w A0 l0.length l0) (hc0 : l0.length ≤ c0) (_hw0 : wfAll (Try.prog.bytesOf 30) wfS l0) (hr1 : Kd.C k30 w A1 l1.length l1) (hc1 : l1.length ≤ c1) (_hw1 : wfAll (Try.prog.bytesOf 30) wfS l1) :
    Calls Try.prog 5 #[.slice A0 l0.length c0, .slice A1 l1.length c1] w fun e w' => e = .returned (.bool true) ∧ Below w.heap.size w w' := by
  obtain ⟨k, hk⟩ := Pure.AggBounds l0 l1
  exact PAll.tocsinlaw18_AggBounds.calls k A0 c0 l0 A1 c1 l1 true w hr0 hc0 hr1 hc1 hk
end Go.Proofs.Ytafpedgmfkaifaa.Given
