/- Whether a comparison holds is what the reference says, for any numbers. No conditions. -/
import Derived.Test.YtafpedgmfkaifaaPAllx1
namespace Go.Proofs.Ytafpedgmfkaifaa.Pure
open Go.RowKit Go.Proofs.Ytafpedgmfkaifaa.PBase Go.Proofs.Ytafpedgmfkaifaa.Given Go.Proofs.Ytafpedgmfkaifaa.PAll Go.Proofs.YtafpedgmfkaifaaW.PrintWords Go.Proofs.YtafpedgmfkaifaaW.PrintLast
theorem awake_some : tocsinlaw18_awake.f = some true := by decide +kernel
theorem refHolds (a c b : Int) : tocsinref18_Holds.f a c b = agg_Holds.f a c b := by
  unfold tocsinref18_Holds.f agg_Holds.f
  by_cases h0 : c = 0
  · subst h0; by_cases h : a < b <;> simp [h]
  by_cases h1 : c = 1
  · subst h1; by_cases h : a ≤ b <;> simp [h]
  by_cases h2 : c = 2
  · subst h2; by_cases h : b < a <;> simp [h]
  by_cases h3 : c = 3
  · subst h3; by_cases h : b ≤ a <;> simp [h]
  by_cases h4 : c = 4
  · subst h4; by_cases h : a = b <;> simp [h]
  by_cases h5 : c = 5
  · subst h5; simp
  simp [h0, h1, h2, h3, h4, h5]
theorem holds_def (a c b : Int) : ∃ r, agg_Holds.f a c b = some r := by
  unfold agg_Holds.f
  repeat' split
  all_goals exact ⟨_, rfl⟩
theorem AggHolds : tocsinlaw18_AggHolds.Pure := by
  intro a c b _ _ _
  unfold tocsinlaw18_AggHolds.f
  rw [refHolds, awake_some]
  obtain ⟨r, hr⟩ := holds_def a c b
  rw [hr]
  simp
end Go.Proofs.Ytafpedgmfkaifaa.Pure
