/- Joined over 2^31 - 1 bytes more, two numbers come to the same; over the sum of two lengths as over one behind the other; exclusive-or goes through. No conditions. -/
import Derived.Test.YtfejhegogajnhaaPAllx3
import Derived.Test.YtfejhegogajnhaaNum
namespace Go.Proofs.Ytfejhegogajnhaa.Pure
open Go.RowKit Go.Proofs.Crc Go.Proofs.Ytfejhegogajnhaa Go.Proofs.Ytfejhegogajnhaa.Given Go.Proofs.Ytfejhegogajnhaa.PAll Go.Proofs.YtfejhegogajnhaaW.PrintWords Go.Proofs.YtfejhegogajnhaaW.PrintLast
theorem CrcRound : tocsinlaw02_CrcRound.Pure := by
  intro a b c n m ha hb hc _ _
  obtain ⟨p, rfl⟩ := of_wf ha
  obtain ⟨q, rfl⟩ := of_wf hb
  obtain ⟨r, rfl⟩ := of_wf hc
  have early : ∀ k x1 x2 x3 x4 x5, tocsinlaw02_CrcRound.j0 (k + 1) x1 x2 x3 x4 x5 true = some true := fun _ _ _ _ _ _ => by simp [tocsinlaw02_CrcRound.j0]
  refine ⟨102, ?_⟩
  unfold tocsinlaw02_CrcRound.f
  unfold tocsinlaw02_awake.f
  rw [Option.bind_some, if_pos rfl]
  by_cases h1 : n < 0
  · rw [if_pos h1]; exact early 101 _ _ _ _ _
  rw [if_neg h1]
  by_cases h2 : m < 0
  · rw [if_pos h2]; exact early 101 _ _ _ _ _
  rw [if_neg h2]
  by_cases h3 : n > 1125899906842624
  · rw [if_pos h3]; exact early 101 _ _ _ _ _
  rw [if_neg h3]
  by_cases h4 : m > 1125899906842624
  · rw [decide_eq_true h4]; exact early 101 _ _ _ _ _
  rw [decide_eq_false h4]
  obtain ⟨n, rfl⟩ := Int.eq_ofNat_of_zero_le (show 0 ≤ n by omega)
  obtain ⟨m, rfl⟩ := Int.eq_ofNat_of_zero_le (show 0 ≤ m by omega)
  have e0 : (0 : Int) = I 0#32 := rfl
  have x1 : join p q (n + 2147483647) = join p q n := by
    unfold join; rw [show 8 * (n + 2147483647) = 8 * n + 2147483647 * 8 from by omega, pow_add, round_times]
  have x2 : join (join p 0#32 n) 0#32 m = join p 0#32 (n + m) := by
    unfold join; rw [BitVec.xor_zero, BitVec.xor_zero, BitVec.xor_zero, ← pow_add]; congr 1; omega
  have x3 : join (p ^^^ r) q n = join p q n ^^^ join r 0#32 n := by
    unfold join; rw [pow_xor, BitVec.xor_zero, xor_right_swap]
  show tocsinlaw02_CrcRound.j0 (101 + 1) _ _ _ _ _ _ = _
  simp only [tocsinlaw02_CrcRound.j0]
  rw [if_neg (by simp), w64 (by omega) (by omega), w64 (by omega) (by omega), Join_some p q n _ (by omega) (by omega), Option.bind_some,
    show ((n : Int) + 2147483647) = ((n + 2147483647 : Nat) : Int) from by omega, Join_some p q _ _ (by omega) (by omega), Option.bind_some, x1, if_pos rfl,
    e0, Join_some p 0#32 n _ (by omega) (by omega), Option.bind_some, Join_some _ 0#32 m _ (by omega) (by omega), Option.bind_some,
    show ((n : Int) + (m : Int)) = ((n + m : Nat) : Int) from by omega, Join_some p 0#32 _ _ (by omega) (by omega), Option.bind_some, x2]
  show tocsinlaw02_CrcRound.j1 (100 + 1) _ _ _ _ _ _ = _
  simp only [tocsinlaw02_CrcRound.j1]
  rw [if_neg (by simp), bits_xor, Join_some _ q n _ (by omega) (by omega), Option.bind_some, e0, Join_some r 0#32 n _ (by omega) (by omega), Option.bind_some, bits_xor, x3]
  simp
end Go.Proofs.Ytfejhegogajnhaa.Pure
