/- Of two numbers just one of less, equal, greater holds; the other comparisons say the contrary. No conditions. -/
import Derived.Test.YtafpedgmfkaifaaPAllx3
import Derived.Test.YtafpedgmfkaifaaPureAggHolds
namespace Go.Proofs.Ytafpedgmfkaifaa.Pure
open Go.RowKit Go.Proofs.Ytafpedgmfkaifaa.PBase Go.Proofs.Ytafpedgmfkaifaa.Given Go.Proofs.Ytafpedgmfkaifaa.PAll Go.Proofs.YtafpedgmfkaifaaW.PrintWords Go.Proofs.YtafpedgmfkaifaaW.PrintLast
theorem AggOne : tocsinlaw18_AggOne.Pure := by
  intro a b _ _
  refine ⟨5, ?_⟩
  unfold tocsinlaw18_AggOne.f
  rcases Int.lt_trichotomy a b with h | h | h
  · have h1 : ¬ b < a := by omega
    have h2 : a ≠ b := by omega
    have h3 : a ≤ b := by omega
    have h4 : ¬ b ≤ a := by omega
    have h5 : (a == b) = false := beq_eq_false_iff_ne.2 h2
    have h6 : (a != b) = true := by rw [bne, h5]; rfl
    simp [agg_Holds.f, tocsinlaw18_AggOne.j0, tocsinlaw18_AggOne.j1, tocsinlaw18_AggOne.j2, awake_some, h, h1, h2, h3, h4, h5, h6]
  · subst h
    simp [agg_Holds.f, tocsinlaw18_AggOne.j0, tocsinlaw18_AggOne.j1, tocsinlaw18_AggOne.j2, awake_some, wrap64]
  · have h1 : ¬ a < b := by omega
    have h2 : a ≠ b := by omega
    have h3 : b ≤ a := by omega
    have h4 : ¬ a ≤ b := by omega
    have h5 : (a == b) = false := beq_eq_false_iff_ne.2 h2
    have h6 : (a != b) = true := by rw [bne, h5]; rfl
    simp [agg_Holds.f, tocsinlaw18_AggOne.j0, tocsinlaw18_AggOne.j1, tocsinlaw18_AggOne.j2, awake_some, h, h1, h2, h3, h4, h5, h6, wrap64]
end Go.Proofs.Ytafpedgmfkaifaa.Pure
