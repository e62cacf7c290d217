/- What is read is framed as just the bytes that were read. No conditions. -/
import Derived.Test.YtcobdpkpefgdlaaPTrex1
import Derived.Test.YtcobdpkpefgdlaaNw
namespace Go.Proofs.Ytcobdpkpefgdlaa.Pure
open Go.RowKit Go.Proofs.Crc Go.Proofs.Ytcobdpkpefgdlaa.Cod Go.Proofs.Ytcobdpkpefgdlaa.PBase Go.Proofs.Ytcobdpkpefgdlaa.PMid Go.Proofs.Ytcobdpkpefgdlaa.Given Go.Proofs.Ytcobdpkpefgdlaa.Nx Go.Proofs.Ytcobdpkpefgdlaa.PTre Go.Proofs.YtcobdpkpefgdlaaW.PrintWords Go.Proofs.YtcobdpkpefgdlaaW.PrintLast
theorem fnext_some (b : List Int) (hb : isB b) (hl : b.length ≤ 1000000) : frame_Next.f b = some (nextT (nextL b)) := by
  unfold frame_Next.f; rw [if_pos ⟨okB_of hb (by omega), hl⟩]
theorem fwhole_some (b : List Int) (hb : isB b) (hl : b.length ≤ 1000000) : frame_Whole.f b = some (wholeL b : Int) := by
  unfold frame_Whole.f; rw [if_pos ⟨okB_of hb (by omega), hl⟩]
theorem FrameOne : tocsinlaw04_FrameOne.Pure := by
  intro l _ _ hb
  have hl := isB_of hb
  refine ⟨100000, ?_⟩
  unfold tocsinlaw04_FrameOne.f tocsinlaw04_awake.f
  rw [Option.bind_some, if_pos rfl]
  by_cases h1 : (l.length : Int) > 20000
  · rw [if_pos h1]
  rw [if_neg h1, fnext_some l hl (by omega), Option.bind_some]
  cases hn : nextL l with
  | none =>
    rw [if_neg (show ¬ (nextT none).2.2 = 0 by show ¬ ((40 : Int) = 0); omega), if_pos (show (nextT none).2.1 = 0 from rfl), if_pos (show ((nextT none).1.length : Int) = 0 from rfl), fwhole_some l hl (by omega), Option.bind_some, (wholeL_none hn).1]
    rfl
  | some q =>
    obtain ⟨p, m⟩ := q
    obtain ⟨r, hr, hm, hp⟩ := nextL_some hl hn
    have hs := wholeL_step hl hn
    have hfb : isB (frameL p) := fun y hy => hl y (by rw [hr]; exact List.mem_append_left _ hy)
    have hpB : isB p := fun y hy => hfb y (by unfold frameL; exact List.mem_append_left _ (List.mem_append_right _ hy))
    rw [if_pos (show (nextT (some (p, m))).2.2 = 0 from rfl)]
    show ((frame_Encode.f p).bind _) = _
    rw [encode_some p hpB, if_neg (by omega), Option.bind_some]
    rw [if_pos rfl]
    show (if (m : Int) ≤ (l.length : Int) then (if (0 : Int) ≤ (m : Int) then ((tocsinref04_Same.f 100000 (frameL p) (l.take ((m : Int)).toNat)).bind _) else none) else _) = _
    rw [if_pos (by omega), if_pos (by omega), Int.toNat_natCast]
    have ht : l.take m = frameL p := by rw [hr, hm, List.take_left]
    rw [ht, same_some _ _ (by omega) (by omega), Option.bind_some, if_pos (by simp), fwhole_some l hl (by omega), Option.bind_some]
    show some (decide ((wholeL l : Int) ≥ (m : Int))) = some true
    rw [decide_eq_true (by omega)]
end Go.Proofs.Ytcobdpkpefgdlaa.Pure
