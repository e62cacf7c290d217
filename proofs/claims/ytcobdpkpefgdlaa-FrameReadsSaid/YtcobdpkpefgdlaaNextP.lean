/- What Next tells, and when; what a row of frames says: plain. -/
import Derived.Test.YtcobdpkpefgdlaaNextL
namespace Go.Proofs.Ytcobdpkpefgdlaa.Pure
open Go.RowKit Go.Proofs.Crc Go.Proofs.Ytcobdpkpefgdlaa.Cod Go.Proofs.Ytcobdpkpefgdlaa.PBase Go.Proofs.Ytcobdpkpefgdlaa.PMid Go.Proofs.Ytcobdpkpefgdlaa.Given Go.Proofs.Ytcobdpkpefgdlaa.PAll Go.Proofs.YtcobdpkpefgdlaaW.PrintWords Go.Proofs.YtcobdpkpefgdlaaW.PrintLast
/-- The record whose frame bytes begin with, and the frame's length. -/
def nextL (b : List Int) : Option (List Int × Nat) :=
  match getL b with
  | none => none
  | some (n, u) => if b.length < u + n + 4 then none else if sum4 (b.take (u + n)) = (b.drop (u + n)).take 4 then some ((b.drop u).take n, u + n + 4) else none
def nextT (o : Option (List Int × Nat)) : List Int × Int × Int := match o with | none => ([], 0, 40) | some (p, m) => (p, (m : Int), 0)
theorem isB_take {b : List Int} (h : isB b) (n : Nat) : isB (b.take n) := fun x hx => h x (List.mem_of_mem_take hx)
theorem isB_drop {b : List Int} (h : isB b) (n : Nat) : isB (b.drop n) := fun x hx => h x (List.mem_of_mem_drop hx)
theorem sum4_len (p : List Int) : (sum4 p).length = 4 := rfl
theorem next_some {k : Nat} (b : List Int) (hb : isB b) (hl : b.length ≤ 1000000) (hk : 10 ≤ k) : frame_Next.f k b = some (nextT (nextL b)) := by
  obtain ⟨k, rfl⟩ : ∃ m, k = m + 1 := ⟨k - 1, by omega⟩
  unfold frame_Next.f
  rw [get_some b hb (by omega) (by omega), Option.bind_some]
  unfold nextL
  have hj : ∀ n u, frame_Next.j0 (k + 1) b n u true = some (([] : List Int), 0, 40) := fun n u => by rw [frame_Next.j0, if_pos rfl]
  cases hg : getL b with
  | none =>
    show (if (0 : Int) = 0 then _ else _) = _
    rw [if_pos rfl, hj]; rfl
  | some p =>
    obtain ⟨n, u⟩ := p
    obtain ⟨r, hbr, hu, hn⟩ := getL_some hb hg
    have hu1 : 0 < u := by
      rw [← hu]
      by_cases hs : n < 128
      · rw [enc_small hs]; simp
      · rw [enc_big hs]; simp
    have hu2 : u ≤ 10 := by rw [← hu]; exact enc_le10 (by omega)
    show (if (u : Int) = 0 then _ else frame_Next.j0 (k + 1) b (n : Int) (u : Int) (decide ((wrap64 ((wrap64 ((b.length : Int) - (u : Int))) - 4)) < (n : Int)))) = _
    rw [if_neg (by omega), w64 (x := (b.length : Int) - u) (by omega) (by omega), w64 (x := (b.length : Int) - u - 4) (by omega) (by omega)]
    simp only []
    by_cases h4 : b.length < u + n + 4
    · rw [if_pos h4, decide_eq_true (by omega), hj]; rfl
    · rw [if_neg h4, decide_eq_false (by omega), frame_Next.j0, if_neg (by simp)]
      rw [w64 (x := (u : Int) + n) (by omega) (by omega), w64 (x := (u : Int) + n + 4) (by omega) (by omega)]
      rw [if_pos (by omega), if_pos (by omega), show ((u : Int) + n).toNat = u + n by omega, show ((u : Int) + n + 4).toNat = u + n + 4 by omega]
      rw [fsum_some _ (fun x hx => by
        simp only [List.mem_cons, List.not_mem_nil, or_false] at hx
        subst hx
        exact ⟨isB_take hb _, by rw [List.length_take]; omega⟩) (by simp), Option.bind_some, if_pos (by omega), if_pos (by omega), List.flatten_singleton]
      have hd : (b.take (u + n + 4)).drop (u + n) = (b.drop (u + n)).take 4 := by rw [List.drop_take]; congr 1; omega
      rw [hd, equal_some _ _ (by rw [sum4_len]; omega) (by rw [sum4_len]; omega), Option.bind_some]
      by_cases he : sum4 (b.take (u + n)) = (b.drop (u + n)).take 4
      · rw [if_pos (by simpa using he), if_pos he, if_pos (by omega), if_pos (by omega), Int.toNat_natCast]
        have hc : (b.take (u + n)).drop u = (b.drop u).take n := by rw [List.drop_take]; congr 1; omega
        rw [hc]
        unfold slices_Clone_byte_byte.f
        rw [if_pos (by rw [List.length_take, List.length_drop]; omega), Option.bind_some]
        show some _ = some ((b.drop u).take n, ((u + n + 4 : Nat) : Int), (0 : Int))
        rw [show ((u + n + 4 : Nat) : Int) = (u : Int) + n + 4 by omega]
      · rw [if_neg (by simpa using he), if_neg he]; rfl
theorem frameL_len (p : List Int) : (frameL p).length = (enc p.length).length + p.length + 4 := by
  unfold frameL; simp only [List.length_append, sum4_len]
theorem frameL_isB {p : List Int} (hp : isB p) : isB (frameL p) := by
  unfold frameL
  refine isB_append (isB_append (enc_isB _) hp) ?_
  unfold sum4 four
  intro x hx
  simp only [List.mem_cons, List.not_mem_nil, or_false] at hx
  omega
theorem enc_pos (n : Nat) : 0 < (enc n).length := by
  by_cases hs : n < 128
  · rw [enc_small hs]; simp
  · rw [enc_big hs]; simp
theorem frameL_pos (p : List Int) : 5 ≤ (frameL p).length := by rw [frameL_len]; have := enc_pos p.length; omega
/-- Next tells just a record that's framed ahead. -/
theorem nextL_some {b : List Int} (hb : isB b) {p : List Int} {m : Nat} (h : nextL b = some (p, m)) : ∃ r, b = frameL p ++ r ∧ m = (frameL p).length ∧ p.length ≤ 65536 := by
  unfold nextL at h
  cases hg : getL b with
  | none => rw [hg] at h; cases h
  | some q =>
    obtain ⟨n, u⟩ := q
    obtain ⟨r, hbr, hu, hn⟩ := getL_some hb hg
    rw [hg] at h
    simp only [] at h
    split at h
    · cases h
    · rename_i h4
      split at h
      · rename_i he
        simp only [Option.some.injEq, Prod.mk.injEq] at h
        obtain ⟨rfl, rfl⟩ := h
        have hd : b.drop u = r := by rw [hbr, ← hu, List.drop_left]
        have hl : b.length = u + r.length := by rw [hbr, List.length_append, hu]
        rw [hd]
        have hpl : (r.take n).length = n := by rw [List.length_take]; omega
        have ht : b.take (u + n) = enc n ++ r.take n := by rw [hbr, ← hu, List.take_length_add_append]
        have hd2 : b.drop (u + n) = r.drop n := by rw [← List.drop_drop, hd]
        rw [ht, hd2] at he
        refine ⟨(r.drop n).drop 4, ?_, ?_, by omega⟩
        · unfold frameL
          rw [hpl, he, List.append_assoc, List.take_append_drop, List.append_assoc, List.take_append_drop]
          exact hbr
        · rw [frameL_len, hpl]; omega
      · cases h
theorem nextL_of (p r : List Int) (hp : p.length ≤ 65536) : nextL (frameL p ++ r) = some (p, (frameL p).length) := by
  have hg : getL (frameL p ++ r) = some (p.length, (enc p.length).length) := by
    unfold frameL
    rw [List.append_assoc, List.append_assoc]
    exact getL_enc hp _
  unfold nextL
  rw [hg]
  simp only []
  have hl := frameL_len p
  rw [if_neg (by rw [List.length_append]; omega)]
  have ht : (frameL p ++ r).take ((enc p.length).length + p.length) = enc p.length ++ p := by
    unfold frameL
    rw [List.append_assoc, List.take_append_of_le_length (by rw [List.length_append]; omega), ← List.length_append, List.take_length]
  have hd : (frameL p ++ r).drop ((enc p.length).length + p.length) = sum4 (enc p.length ++ p) ++ r := by
    unfold frameL
    rw [List.append_assoc, ← List.length_append, List.drop_left]
  have hd2 : ((frameL p ++ r).drop (enc p.length).length).take p.length = p := by
    unfold frameL
    rw [List.append_assoc, List.append_assoc, List.drop_left, List.take_left]
  rw [ht, hd, hd2, List.take_append_of_le_length (by rw [sum4_len]; omega), show (sum4 (enc p.length ++ p)).take 4 = sum4 (enc p.length ++ p) from rfl, if_pos rfl, hl]
/-- How many bytes whole frames have; the records. -/
def wholeF : Nat → List Int → Nat
  | 0, _ => 0
  | k + 1, b => match nextL b with | none => 0 | some (_, m) => m + wholeF k (b.drop m)
def recsF : Nat → List Int → List (List Int)
  | 0, _ => []
  | k + 1, b => match nextL b with | none => [] | some (p, m) => p :: recsF k (b.drop m)
def wholeL (b : List Int) : Nat := wholeF (b.length + 1) b
def recsL (b : List Int) : List (List Int) := recsF (b.length + 1) b
theorem whole_none {b : List Int} (h : nextL b = none) (k : Nat) : wholeF k b = 0 ∧ recsF k b = [] := by
  cases k with
  | zero => exact ⟨rfl, rfl⟩
  | succ k => simp only [wholeF, recsF, h]; first | trivial | exact ⟨rfl, rfl⟩
/-- Rounds enough: as many as bytes. -/
theorem whole_more : ∀ (k j : Nat) (b : List Int), isB b → b.length < k → b.length < j → wholeF k b = wholeF j b ∧ recsF k b = recsF j b
  | 0, _, _, _, h, _ => by omega
  | _, 0, _, _, _, h => by omega
  | k + 1, j + 1, b, hb, hk, hj => by
    cases hn : nextL b with
    | none => simp only [wholeF, recsF, hn]; first | trivial | exact ⟨rfl, rfl⟩
    | some q =>
      obtain ⟨p, m⟩ := q
      obtain ⟨r, hbr, hm, _⟩ := nextL_some hb hn
      have h5 := frameL_pos p
      have hbl := congrArg List.length hbr
      rw [List.length_append] at hbl
      have hl : (b.drop m).length < k := by rw [List.length_drop]; omega
      have hl2 : (b.drop m).length < j := by rw [List.length_drop]; omega
      obtain ⟨e1, e2⟩ := whole_more k j (b.drop m) (isB_drop hb m) hl hl2
      simp only [wholeF, recsF, hn]
      rw [e1, e2]; exact ⟨rfl, rfl⟩
theorem wholeL_none {b : List Int} (h : nextL b = none) : wholeL b = 0 ∧ recsL b = [] := whole_none h _
theorem wholeL_frame {p r : List Int} (hp : isB p) (hr : isB r) (hl : p.length ≤ 65536) : wholeL (frameL p ++ r) = (frameL p).length + wholeL r ∧ recsL (frameL p ++ r) = p :: recsL r := by
  have hn := nextL_of p r hl
  have h5 := frameL_pos p
  unfold wholeL recsL
  have e1 : wholeF ((frameL p ++ r).length + 1) (frameL p ++ r) = (frameL p).length + wholeF (frameL p ++ r).length ((frameL p ++ r).drop (frameL p).length) := by
    rw [wholeF, hn]
  have e2 : recsF ((frameL p ++ r).length + 1) (frameL p ++ r) = p :: recsF (frameL p ++ r).length ((frameL p ++ r).drop (frameL p).length) := by
    rw [recsF, hn]
  rw [e1, e2, List.drop_left]
  obtain ⟨f1, f2⟩ := whole_more (frameL p ++ r).length (r.length + 1) r hr (by rw [List.length_append]; omega) (by omega)
  rw [f1, f2]; exact ⟨rfl, rfl⟩
end Go.Proofs.Ytcobdpkpefgdlaa.Pure
