/- The printed functions on whole numbers come to the plain mathematics of the crc. -/
import Derived.Test.YtcobdpkpefgdlaaPBasex1
import Derived.Test.YtcobdpkpefgdlaaBits
namespace Go.Proofs.Ytcobdpkpefgdlaa
open Go.RowKit Go.Proofs.Crc Go.Proofs.Ytcobdpkpefgdlaa.PBase Go.Proofs.YtcobdpkpefgdlaaW.PrintWords Go.Proofs.YtcobdpkpefgdlaaW.PrintLast Go.Proofs.YtcobdpkpefgdlaaW.PrintMore
theorem w64 {n : Int} (h0 : -9223372036854775808 ≤ n) (h1 : n ≤ 9223372036854775807) : wrap64 n = n := by unfold wrap64; omega
theorem up_pure (p : W) : crc_up.f (I p) = some (I (Crc.up p)) := by
  unfold crc_up.f Crc.up
  rw [and_one]
  cases p.getLsbD 0 with
  | true => rw [if_pos rfl, if_pos rfl, if_pos rfl, show I p / (2 : Int) = I (p >>> 1) from half p, ← I_D, bits_xor]
  | false => rw [if_neg (by simp), if_neg (by simp)]; exact congrArg some (half p)
theorem number_some : ∀ k, 18 ≤ k → tocsinref02_number.f k [28, 27, 26, 25, 23, 22, 20, 19, 18, 14, 13, 11, 10, 9, 8, 6, 0] = some (I D) := by
  intro k hk
  obtain ⟨m, rfl⟩ : ∃ m, k = 18 + m := ⟨k - 18, by omega⟩
  induction m with
  | zero => decide +kernel
  | succ m ih => exact tocsinref02_number.mono _ _ _ (ih (by omega))
theorem Up_pure (p : W) : tocsinref02_Up.f (I p) (I D) = some (I (Crc.up p)) := by
  have hr := I_range p
  unfold tocsinref02_Up.f Crc.up
  have hd : Int.tdiv (I p) (2 : Int) % (4294967296 : Int) = I (p >>> 1) := by
    rw [Int.tdiv_eq_ediv_of_nonneg (by omega), show I p / (2 : Int) = I (p >>> 1) from half p]; have := I_range (p >>> 1); omega
  have hm : Int.tmod (I p) 2 = ((p.toNat % 2 : Nat) : Int) := by rw [Int.tmod_eq_emod_of_nonneg (by omega)]; unfold I; omega
  rw [hd, hm, bit0]
  by_cases h : p.toNat % 2 = 1
  · rw [if_pos (by omega), if_pos (by simp [h]), bits_xor]
  · rw [if_neg (by omega), if_neg (by simp [h])]
end Go.Proofs.Ytcobdpkpefgdlaa
