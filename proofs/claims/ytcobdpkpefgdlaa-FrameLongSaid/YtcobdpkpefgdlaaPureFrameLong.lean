/- A frame has four bytes more than its record, and one, two or three for the length. No conditions. -/
import Derived.Test.YtcobdpkpefgdlaaPTwox1
import Derived.Test.YtcobdpkpefgdlaaNx
namespace Go.Proofs.Ytcobdpkpefgdlaa.Pure
open Go.RowKit Go.Proofs.Crc Go.Proofs.Ytcobdpkpefgdlaa.Cod Go.Proofs.Ytcobdpkpefgdlaa.PBase Go.Proofs.Ytcobdpkpefgdlaa.PMid Go.Proofs.Ytcobdpkpefgdlaa.Given Go.Proofs.Ytcobdpkpefgdlaa.Nx Go.Proofs.Ytcobdpkpefgdlaa.PTwo Go.Proofs.YtcobdpkpefgdlaaW.PrintWords Go.Proofs.YtcobdpkpefgdlaaW.PrintLast
theorem zeros_isB' (n : Nat) : isB (List.replicate n 0) := fun x hx => by
  rw [List.mem_replicate] at hx
  omega
theorem enc_len1 {n : Nat} (h : n < 128) : (enc n).length = 1 := by rw [enc_small h]; rfl
theorem enc_len2 {n : Nat} (h : 128 ≤ n) (h2 : n < 16384) : (enc n).length = 2 := by rw [enc_big (by omega), enc_small (by omega)]; rfl
theorem enc_len3 {n : Nat} (h : 16384 ≤ n) (h2 : n < 2097152) : (enc n).length = 3 := by rw [enc_big (by omega), enc_big (by omega), enc_small (by omega)]; rfl
theorem frame_mid (p : List Int) (u : Nat) (hu : (enc p.length).length = u) : ((frameL p).take (u + p.length)).drop u = p := by
  unfold frameL
  rw [← hu, List.take_append_of_le_length (by rw [List.length_append]; omega), ← List.length_append, List.take_length, List.drop_left]
theorem FrameLong : tocsinlaw04_FrameLong.Pure := by
  intro l a _ _ hb _
  have hl := isB_of hb
  refine ⟨200003, ?_⟩
  unfold tocsinlaw04_FrameLong.f tocsinlaw04_awake.f
  rw [Option.bind_some, if_pos rfl]
  have hj : tocsinlaw04_FrameLong.j0 200003 l a true = some true := by rw [tocsinlaw04_FrameLong.j0, if_pos rfl]
  by_cases h1 : (l.length : Int) > 30000
  · rw [if_pos h1, hj]
  rw [if_neg h1]
  by_cases h2 : a < 0
  · rw [if_pos h2, hj]
  rw [if_neg h2]
  by_cases h3 : a > 40000
  · rw [decide_eq_true h3, hj]
  rw [decide_eq_false h3, tocsinlaw04_FrameLong.j0, if_neg (by simp), copy_some _ (by omega), Option.bind_some]
  rw [if_pos (by omega), if_pos (by omega)]
  obtain ⟨all, hall⟩ : ∃ all, all = l ++ List.replicate a.toNat 0 := ⟨_, rfl⟩
  have hB : isB all := by rw [hall]; exact isB_append hl (zeros_isB' _)
  have hL : all.length ≤ 100000 := by rw [hall, List.length_append, List.length_replicate]; omega
  rw [← hall, Option.bind_some, encode_some _ hB, Option.bind_some]
  have hlen := frameL_len all
  by_cases hbig : 65536 < all.length
  · simp only [if_pos hbig]
    rw [if_pos (by omega), tocsinlaw04_FrameLong.j1, if_pos (by omega), if_pos (by omega), if_pos rfl]; rfl
  · simp only [if_neg hbig]
    by_cases h128 : (all.length : Int) ≥ 128
    · rw [if_pos h128]
      by_cases h16 : (all.length : Int) ≥ 16384
      · have e3 := enc_len3 (n := all.length) (by omega) (by omega)
        rw [tocsinlaw04_FrameLong.j1, if_pos h16, if_neg (by omega), if_pos rfl, w64 (x := 3 + (all.length : Int)) (by omega) (by omega), w64 (x := 3 + (all.length : Int) + 4) (by omega) (by omega)]
        rw [if_pos (by omega), if_pos (by omega), if_pos (by omega), show (3 + (all.length : Int)).toNat = 3 + all.length by omega, frame_mid all 3 e3, same_some _ _ (by omega) (by omega)]
        simp
      · have e2 := enc_len2 (n := all.length) (by omega) (by omega)
        rw [tocsinlaw04_FrameLong.j1, if_neg h16, if_neg (by omega), if_pos rfl, w64 (x := 2 + (all.length : Int)) (by omega) (by omega), w64 (x := 2 + (all.length : Int) + 4) (by omega) (by omega)]
        rw [if_pos (by omega), if_pos (by omega), if_pos (by omega), if_pos (by omega), show (2 + (all.length : Int)).toNat = 2 + all.length by omega, show (2 : Int).toNat = 2 from rfl, frame_mid all 2 e2, same_some _ _ (by omega) (by omega)]
        simp
    · rw [if_neg h128]
      have e1 := enc_len1 (n := all.length) (by omega)
      rw [tocsinlaw04_FrameLong.j1, if_neg (by omega), if_neg (by omega), if_pos rfl, w64 (x := 1 + (all.length : Int)) (by omega) (by omega), w64 (x := 1 + (all.length : Int) + 4) (by omega) (by omega)]
      rw [if_pos (by omega), if_pos (by omega), if_pos (by omega), if_pos (by omega), show (1 + (all.length : Int)).toNat = 1 + all.length by omega, show (1 : Int).toNat = 1 from rfl, frame_mid all 1 e1, same_some _ _ (by omega) (by omega)]
      simp
end Go.Proofs.Ytcobdpkpefgdlaa.Pure
