/- What stands behind a frame changes nothing of what Next tells. No conditions. -/
import Derived.Test.YtcobdpkpefgdlaaPureFrameOne
namespace Go.Proofs.Ytcobdpkpefgdlaa.Pure
open Go.RowKit Go.Proofs.Crc Go.Proofs.Ytcobdpkpefgdlaa.Cod Go.Proofs.Ytcobdpkpefgdlaa.PBase Go.Proofs.Ytcobdpkpefgdlaa.PMid Go.Proofs.Ytcobdpkpefgdlaa.Given Go.Proofs.Ytcobdpkpefgdlaa.Nx Go.Proofs.Ytcobdpkpefgdlaa.PTre Go.Proofs.YtcobdpkpefgdlaaW.PrintWords Go.Proofs.YtcobdpkpefgdlaaW.PrintLast
theorem wholeF_le : ∀ (k : Nat) (b : List Int), isB b → wholeF k b ≤ b.length
  | 0, _, _ => Nat.zero_le _
  | k + 1, b, hb => by
    cases hn : nextL b with
    | none => simp only [wholeF, hn]; exact Nat.zero_le _
    | some q =>
      obtain ⟨p, m⟩ := q
      have hs := wholeL_step hb hn
      have := wholeF_le k (b.drop m) (isB_drop hb m)
      rw [List.length_drop] at this
      simp only [wholeF, hn]; omega
theorem FrameRest : tocsinlaw04_FrameRest.Pure := by
  intro l t _ _ hb _ _ hb2
  have hl := isB_of hb
  have ht := isB_of hb2
  refine ⟨100001, ?_⟩
  unfold tocsinlaw04_FrameRest.f tocsinlaw04_awake.f
  rw [Option.bind_some, if_pos rfl]
  have hj : tocsinlaw04_FrameRest.j0 100001 l t true = some true := by rw [tocsinlaw04_FrameRest.j0, if_pos rfl]
  by_cases h1 : (l.length : Int) > 20000
  · rw [if_pos h1, hj]
  rw [if_neg h1]
  by_cases h2 : (t.length : Int) > 20000
  · rw [decide_eq_true h2, hj]
  rw [decide_eq_false h2, tocsinlaw04_FrameRest.j0, if_neg (by simp), encode_some l hl, if_neg (by omega), Option.bind_some]
  dsimp only
  have hfl := frameL_len l
  have h10 := enc_le10 (n := l.length) (by omega)
  have hfB := isB_append (frameL_isB hl) ht
  have hL : (frameL l ++ t).length ≤ 1000000 := by rw [List.length_append]; omega
  rw [if_pos (by omega), Option.bind_some, fnext_some _ hfB hL, Option.bind_some, nextL_of l t (by omega)]
  rw [if_pos rfl, if_pos (show (nextT (some (l, (frameL l).length))).2.2 = 0 from rfl), if_pos (show (nextT (some (l, (frameL l).length))).2.1 = ((frameL l).length : Int) from rfl)]
  show ((tocsinref04_Same.f 100000 l l).bind _) = _
  have hw := (wholeL_frame (p := l) (r := t) hl ht (by omega)).1
  have hwt := wholeF_le (t.length + 1) t ht
  rw [same_some _ _ (by omega) (by omega), Option.bind_some, if_pos (by simp), fwhole_some _ hfB hL, Option.bind_some, fwhole_some t ht (by omega), Option.bind_some, hw]
  unfold wholeL
  rw [w64 (by omega) (by omega)]
  simp
end Go.Proofs.Ytcobdpkpefgdlaa.Pure
