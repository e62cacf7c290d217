/- Any record is framed as the reference says, or refused; it stays. No conditions. -/
import Derived.Test.YtcobdpkpefgdlaaPlain
namespace Go.Proofs.Ytcobdpkpefgdlaa.Pure
open Go.RowKit Go.Proofs.Crc Go.Proofs.Ytcobdpkpefgdlaa.Cod Go.Proofs.Ytcobdpkpefgdlaa.PBase Go.Proofs.Ytcobdpkpefgdlaa.PMid Go.Proofs.Ytcobdpkpefgdlaa.Given Go.Proofs.Ytcobdpkpefgdlaa.PAll Go.Proofs.YtcobdpkpefgdlaaW.PrintWords Go.Proofs.YtcobdpkpefgdlaaW.PrintLast
theorem zeros_isB (n : Nat) : isB (List.replicate n 0) := fun x hx => by
  rw [List.mem_replicate] at hx
  omega
theorem FrameEncodes : tocsinlaw04_FrameEncodes.Pure := by
  intro l a _ _ hb _
  have hl := isB_of hb
  refine ⟨200002, ?_⟩
  unfold tocsinlaw04_FrameEncodes.f
  have hj : tocsinlaw04_FrameEncodes.j0 200002 l a true = some true := by rw [tocsinlaw04_FrameEncodes.j0, if_pos rfl]
  by_cases h1 : (l.length : Int) > 30000
  · rw [if_pos h1, hj]
  rw [if_neg h1]
  by_cases h2 : a < 0
  · rw [if_pos h2, hj]
  rw [if_neg h2]
  by_cases h3 : a > 70000
  · rw [decide_eq_true h3, hj]
  rw [decide_eq_false h3, tocsinlaw04_FrameEncodes.j0, if_neg (by simp), copy_some _ (by omega)]
  simp only [Option.bind_some]
  rw [if_pos (by omega), if_pos (by omega)]
  obtain ⟨all, hall⟩ : ∃ all, all = l ++ List.replicate a.toNat 0 := ⟨_, rfl⟩
  have hB : isB all := by rw [hall]; exact isB_append hl (zeros_isB _)
  have hL : all.length ≤ 100000 := by rw [hall, List.length_append, List.length_replicate]; omega
  rw [← hall, copy_some _ (by omega)]
  simp only [Option.bind_some]
  rw [encode_some _ hB]
  simp only [Option.bind_some]
  rw [same_some _ _ (by omega) (by omega)]
  simp only [Option.bind_some, decide_true]
  rw [if_pos trivial]
  by_cases hbig : 65536 < all.length
  · simp only [if_pos hbig]
    rw [if_pos (by omega), if_pos (by simp)]; simp
  · simp only [if_neg hbig]
    rw [if_neg (by omega), if_pos trivial, refFrame_some _ hB (by omega) (by omega)]
    simp only [Option.bind_some]
    have hfl : (frameL all).length ≤ 66000 := by
      have := enc_le10 (n := all.length) (by omega)
      unfold frameL sum4 four
      simp only [List.length_append, List.length_cons, List.length_nil]; omega
    rw [same_some _ _ (by omega) (by omega)]
    simp
end Go.Proofs.Ytcobdpkpefgdlaa.Pure
