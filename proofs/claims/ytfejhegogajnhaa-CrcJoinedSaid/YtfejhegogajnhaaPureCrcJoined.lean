/- Any two numbers, joined over at most 5,000 bytes or below 0, are what the reference says. No conditions. -/
import Derived.Test.YtfejhegogajnhaaNum
namespace Go.Proofs.Ytfejhegogajnhaa.Pure
open Go.RowKit Go.Proofs.Crc Go.Proofs.Ytfejhegogajnhaa Go.Proofs.Ytfejhegogajnhaa.PBase Go.Proofs.YtfejhegogajnhaaW.PrintWords Go.Proofs.YtfejhegogajnhaaW.PrintLast
theorem CrcJoined : tocsinlaw02_CrcJoined.Pure := by
  intro a b n ha hb _
  obtain ⟨p, rfl⟩ := of_wf ha
  obtain ⟨q, rfl⟩ := of_wf hb
  refine ⟨40100, ?_⟩
  unfold tocsinlaw02_CrcJoined.f
  by_cases h5 : n > 5000
  · rw [if_pos h5]
  · rw [if_neg h5]
    by_cases h0 : n < 0
    · rw [Join_neg _ _ _ _ h0]; unfold tocsinref02_Join.f; rw [if_pos h0]; rfl
    · obtain ⟨m, rfl⟩ := Int.eq_ofNat_of_zero_le (show 0 ≤ n by omega)
      rw [Join_some p q m _ (by omega) (by omega), Option.bind_some, refJoin_some p q m _ (by omega) (by omega), Option.bind_some]
      simp
end Go.Proofs.Ytfejhegogajnhaa.Pure
