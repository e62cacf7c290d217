/- Of a row of frames that is cut anywhere just those are told that are whole: plain; and FrameTorn tells true for every input. -/
import Derived.Test.YtcobdpkpefgdlaaPFoux1
import Derived.Test.YtcobdpkpefgdlaaNextP
import Derived.Test.YtcobdpkpefgdlaaOpenS
namespace Go.Proofs.Ytcobdpkpefgdlaa.Pure
open Go.RowKit Go.Proofs.Crc Go.Proofs.Ytcobdpkpefgdlaa.Cod Go.Proofs.Ytcobdpkpefgdlaa.PBase Go.Proofs.Ytcobdpkpefgdlaa.PMid Go.Proofs.Ytcobdpkpefgdlaa.Given Go.Proofs.Ytcobdpkpefgdlaa.PFou Go.Proofs.Ytcobdpkpefgdlaa.Tf Go.Proofs.YtcobdpkpefgdlaaW.PrintWords Go.Proofs.YtcobdpkpefgdlaaW.PrintLast
theorem xor_cancel {a b c : W} (h : a ^^^ c = b ^^^ c) : a = b := by
  have := congrArg (· ^^^ c) h
  simpa [BitVec.xor_assoc] using this
theorem xor_cancel' {a b c : W} (h : c ^^^ a = c ^^^ b) : a = b := by
  rw [BitVec.xor_comm c a, BitVec.xor_comm c b] at h; exact xor_cancel h
theorem run_inj (bs : List UInt8) : ∀ l m : W, run l bs = run m bs → l = m := by
  induction bs with
  | nil => intro l m h; exact h
  | cons x bs ih =>
    intro l m h
    have h2 := ih _ _ (show run (Crc.step l x) bs = run (Crc.step m x) bs from h)
    exact xor_cancel (pow_inj 8 h2)
theorem wide_inj {x y : UInt8} (h : wide x = wide y) : x = y := by
  unfold wide at h
  have h2 := congrArg BitVec.toNat h
  simp only [BitVec.toNat_setWidth] at h2
  have hx := x.toBitVec.isLt
  have hy := y.toBitVec.isLt
  rw [Nat.mod_eq_of_lt (by omega), Nat.mod_eq_of_lt (by omega)] at h2
  exact UInt8.eq_of_toBitVec_eq (BitVec.eq_of_toNat_eq h2)
theorem run_one (a b : List UInt8) (x y : UInt8) (l : W) (h : run l (a ++ x :: b) = run l (a ++ y :: b)) : x = y := by
  rw [run_append, run_append] at h
  have h2 := run_inj b _ _ (show run (Crc.step (run l a) x) b = run (Crc.step (run l a) y) b from h)
  exact wide_inj (xor_cancel' (pow_inj 8 h2))
theorem not_inj {a b : W} (h : ~~~ a = ~~~ b) : a = b := by
  have := congrArg (fun x => ~~~ x) h
  simpa using this
theorem sumN_one (a b : List Int) (x y : Int) (hx : 0 ≤ x ∧ x < 256) (hy : 0 ≤ y ∧ y < 256) (h : sumN (a ++ x :: b) = sumN (a ++ y :: b)) : x = y := by
  unfold sumN Crc.sum toB at h
  rw [List.map_append, List.map_append, List.map_cons, List.map_cons] at h
  have h2 := run_one _ _ _ _ _ (not_inj (BitVec.eq_of_toNat_eq h))
  have h3 := congrArg UInt8.toNat h2
  simp only [UInt8.toNat_ofNat'] at h3
  omega
theorem set_split {l : List Int} {i : Nat} (h : i < l.length) (v : Int) : l = l.take i ++ l[i] :: l.drop (i + 1) ∧ l.set i v = l.take i ++ v :: l.drop (i + 1) := by
  refine ⟨?_, ?_⟩
  · rw [← List.drop_eq_getElem_cons h, List.take_append_drop]
  · rw [List.set_eq_take_append_cons_drop, if_pos h]
theorem sum4_inj {a b : List Int} (h : sum4 a = sum4 b) : sumN a = sumN b := four_inj (sumN_lt a) (sumN_lt b) h
/-- Two frames of one length differ in no one byte. -/
theorem frames_apart {p q : List Int} (hp : isB p) (hq : isB q) {i : Nat} (hi : i < (frameL p).length) {v : Int} (hv : 0 ≤ v ∧ v < 256) (h : (frameL p).set i v = frameL q) : v = (frameL p)[i] := by
  have hl : (frameL p).length = (frameL q).length := by rw [← h, List.length_set]
  obtain ⟨A, hA⟩ : ∃ A, A = enc p.length ++ p := ⟨_, rfl⟩
  obtain ⟨B, hB⟩ : ∃ B, B = enc q.length ++ q := ⟨_, rfl⟩
  have ha : frameL p = A ++ sum4 A := by rw [hA]; rfl
  have hb : frameL q = B ++ sum4 B := by rw [hB]; rfl
  have hAB : isB A := by rw [hA]; exact isB_append (enc_isB _) hp
  have hlen : A.length = B.length := by
    rw [ha, hb, List.length_append, List.length_append, sum4_len, sum4_len] at hl; omega
  have hb2 := hb
  rw [← h] at hb2
  by_cases hlt : i < A.length
  · have e1 : (frameL p).set i v = A.set i v ++ sum4 A := by rw [ha, List.set_append_left _ _ hlt]
    rw [e1] at hb2
    obtain ⟨f1, f2⟩ := List.append_inj hb2 (by rw [List.length_set]; exact hlen)
    have f3 := sum4_inj f2
    rw [← f1] at f3
    obtain ⟨s1, s2⟩ := set_split hlt v
    rw [s2] at f3
    rw [s1] at f3
    have hx := hAB A[i] (List.getElem_mem hlt)
    have e := sumN_one _ _ _ _ hx hv (by
      have f4 := f3
      rw [← s1] at f4 ⊢
      exact f4)
    rw [← e]
    simp only [ha, List.getElem_append_left hlt]
  · have hge : A.length ≤ i := by omega
    have e1 : (frameL p).set i v = A ++ (sum4 A).set (i - A.length) v := by rw [ha, List.set_append_right _ _ hge]
    rw [e1] at hb2
    obtain ⟨f1, f2⟩ := List.append_inj hb2 hlen
    have e2 : (frameL p).set i v = frameL p := by rw [e1, f2, ← f1, ← ha]
    have e3 : ((frameL p).set i v)[i]'(by rw [List.length_set]; exact hi) = v := List.getElem_set_self _
    rw [← e3]
    simp only [e2]
theorem nextL_take (p : List Int) (hp : p.length ≤ 65536) (hb : isB p) {i : Nat} (hi : i < (frameL p).length) : nextL ((frameL p).take i) = none := by
  cases hn : nextL ((frameL p).take i) with
  | none => rfl
  | some q =>
    obtain ⟨q, m⟩ := q
    obtain ⟨r, hr, hm, hq⟩ := nextL_some (isB_take (frameL_isB hb) i) hn
    have h1 := nextL_of q (r ++ (frameL p).drop i) hq
    rw [← List.append_assoc, ← hr, List.take_append_drop] at h1
    have h2 := nextL_of p [] hp
    rw [List.append_nil, h1] at h2
    have h3 := congrArg List.length hr
    rw [List.length_take, List.length_append] at h3
    have h4 : (frameL q).length = (frameL p).length := by injection h2 with h2; injection h2
    omega
theorem zeros_isB' (n : Nat) : isB (List.replicate n 0) := fun x hx => by
  rw [(List.mem_replicate.mp hx).2]; omega
/-- Records' frames, one behind the other; where each one ends (from a on). -/
def rowL : List (List Int) → List Int
  | [] => []
  | p :: l => frameL p ++ rowL l
def endsF : Nat → List (List Int) → List Int
  | _, [] => []
  | a, p :: l => ((a + (frameL p).length : Nat) : Int) :: endsF (a + (frameL p).length) l
/-- Records that may be framed. -/
def Okr (l : List (List Int)) : Prop := ∀ p ∈ l, isB p ∧ p.length ≤ 20000
theorem rowL_isB {l : List (List Int)} (h : Okr l) : isB (rowL l) := by
  induction l with
  | nil => intro x hx; cases hx
  | cons p l ih => exact isB_append (frameL_isB (h p (by simp)).1) (ih fun q hq => h q (by simp [hq]))
theorem rowL_append (l m : List (List Int)) : rowL (l ++ m) = rowL l ++ rowL m := by
  induction l with
  | nil => rfl
  | cons p l ih => show frameL p ++ rowL (l ++ m) = (frameL p ++ rowL l) ++ rowL m; rw [ih, List.append_assoc]
theorem row_tells {l : List (List Int)} (h : Okr l) {r : List Int} (hr : isB r) : wholeL (rowL l ++ r) = (rowL l).length + wholeL r ∧ recsL (rowL l ++ r) = l ++ recsL r := by
  induction l with
  | nil => exact ⟨by simp [rowL], rfl⟩
  | cons p l ih =>
    obtain ⟨i1, i2⟩ := ih fun q hq => h q (by simp [hq])
    have hp := h p (by simp)
    have := wholeL_frame (p := p) (r := rowL l ++ r) hp.1 (isB_append (rowL_isB fun q hq => h q (by simp [hq])) hr) (by omega)
    show wholeL ((frameL p ++ rowL l) ++ r) = (frameL p ++ rowL l).length + _ ∧ recsL ((frameL p ++ rowL l) ++ r) = p :: (l ++ recsL r)
    rw [List.append_assoc, this.1, this.2, i1, i2, List.length_append]
    exact ⟨by omega, rfl⟩
theorem nil_tells : wholeL [] = 0 ∧ recsL [] = [] := wholeL_none rfl
theorem row_all {l : List (List Int)} (h : Okr l) : wholeL (rowL l) = (rowL l).length ∧ recsL (rowL l) = l := by
  have := row_tells h (r := []) (fun x hx => by cases hx)
  rw [List.append_nil, nil_tells.1, nil_tells.2, List.append_nil] at this
  exact this
theorem enc_first {n : Nat} {r : List Int} (h : enc n = 0 :: r) : n = 0 := by
  by_cases hs : n < 128
  · rw [enc_small hs] at h
    have := (List.cons.inj h).1
    omega
  · rw [enc_big hs] at h
    have := (List.cons.inj h).1
    omega
theorem zeros_none (n : Nat) : nextL (List.replicate n 0) = none := by
  cases hn : nextL (List.replicate n 0) with
  | none => rfl
  | some q =>
    obtain ⟨p, m⟩ := q
    obtain ⟨r, hr, hm, hp⟩ := nextL_some (zeros_isB' n) hn
    have hz : ∀ x ∈ frameL p, x = 0 := fun x hx => by
      have : x ∈ List.replicate n (0 : Int) := by rw [hr]; exact List.mem_append_left _ hx
      exact (List.mem_replicate.mp this).2
    have h0 : p.length = 0 := by
      cases he : enc p.length with
      | nil => have := enc_pos p.length; rw [he] at this; simp at this
      | cons x t =>
        have : x = 0 := hz x (by unfold frameL; rw [he]; simp)
        subst this
        exact enc_first he
    have hp0 : p = [] := List.length_eq_zero_iff.mp h0
    subst hp0
    have hs : sum4 [0] = [81, 83, 125, 82] := by decide +kernel
    have : (81 : Int) ∈ frameL [] := by
      unfold frameL
      rw [show enc (List.length ([] : List Int)) = [0] from enc_small (by decide), List.append_nil, hs]; simp
    have := hz _ this
    omega
/-- How many whole frames lie within so many bytes. -/
def fitF : Nat → List (List Int) → Nat
  | _, [] => 0
  | c, p :: l => if (frameL p).length ≤ c then 1 + fitF (c - (frameL p).length) l else 0
theorem fit_le (c : Nat) (l : List (List Int)) : fitF c l ≤ l.length := by
  induction l generalizing c with
  | nil => exact Nat.le_refl _
  | cons p l ih => unfold fitF; split
                   · have := ih (c - (frameL p).length); rw [List.length_cons]; omega
                   · omega
theorem fit_row (c : Nat) (l : List (List Int)) : (rowL (l.take (fitF c l))).length ≤ c ∨ l = [] := by
  induction l generalizing c with
  | nil => exact .inr rfl
  | cons p l ih =>
    left
    unfold fitF
    split
    · rename_i h
      rw [Nat.add_comm, List.take_succ_cons]
      show (frameL p ++ rowL _).length ≤ c
      rw [List.length_append]
      rcases ih (c - (frameL p).length) with h2 | h2
      · omega
      · subst h2; simp [rowL]; exact h
    · simp [rowL]
/-- Cut somewhere: the whole frames, and a proper beginning of one more. -/
theorem torn : ∀ (l : List (List Int)) (c : Nat), Okr l → c ≤ (rowL l).length → ∃ r, (rowL l).take c = rowL (l.take (fitF c l)) ++ r ∧ nextL r = none ∧ isB r ∧ (r = [] → c = (rowL (l.take (fitF c l))).length) ∧ (rowL (l.take (fitF c l))).length + r.length = c
  | [], c, _, hc => ⟨[], by simp [rowL], rfl, (fun x hx => by cases hx), fun _ => by simp [rowL] at hc ⊢; exact hc, by simp [rowL] at hc ⊢; exact hc.symm⟩
  | p :: l, c, h, hc => by
    have hp := h p (by simp)
    have hl : Okr l := fun q hq => h q (by simp [hq])
    unfold fitF
    by_cases hf : (frameL p).length ≤ c
    · rw [if_pos hf, Nat.add_comm, List.take_succ_cons]
      rw [show (rowL (p :: l)).length = (frameL p).length + (rowL l).length from List.length_append] at hc
      obtain ⟨r, h1, h2, h3, h4, h5⟩ := torn l (c - (frameL p).length) hl (by omega)
      refine ⟨r, ?_, h2, h3, fun e => ?_, ?_⟩
      · show (frameL p ++ rowL l).take c = (frameL p ++ rowL _) ++ r
        rw [List.take_append, List.take_of_length_le hf, h1, List.append_assoc]
      · have := h4 e
        show c = (frameL p ++ rowL _).length
        rw [List.length_append]; omega
      · show (frameL p ++ rowL _).length + r.length = c
        rw [List.length_append]; omega
    · rw [if_neg hf]
      refine ⟨(frameL p).take c, ?_, nextL_take p (by omega) hp.1 (by omega), fun x hx => frameL_isB hp.1 x (List.mem_of_mem_take hx), fun e => ?_, ?_⟩
      · show (frameL p ++ rowL l).take c = [] ++ _
        rw [List.take_append_of_le_length (by omega), List.nil_append]
      · have := congrArg List.length e
        rw [List.length_take, List.length_nil] at this
        simp [rowL]; omega
      · simp [rowL]; omega
end Go.Proofs.Ytcobdpkpefgdlaa.Pure

namespace Go.Proofs.Ytcobdpkpefgdlaa.Pure
open Go.RowKit Go.Proofs.Crc Go.Proofs.Ytcobdpkpefgdlaa.Cod Go.Proofs.Ytcobdpkpefgdlaa.PBase Go.Proofs.Ytcobdpkpefgdlaa.PMid Go.Proofs.Ytcobdpkpefgdlaa.Given Go.Proofs.Ytcobdpkpefgdlaa.PFou Go.Proofs.Ytcobdpkpefgdlaa.Tf Go.Proofs.YtcobdpkpefgdlaaW.PrintWords Go.Proofs.YtcobdpkpefgdlaaW.PrintLast
def totL : List (List Int) → Nat
  | [] => 0
  | p :: l => p.length + totL l
theorem rdL2 (l : List (List Int)) (i : Nat) (h : i < l.length) : PBase.rd_L2 l (i : Int) = l[i]'h := by
  unfold PBase.rd_L2; rw [Int.toNat_natCast, List.getD_eq_getElem?_getD, List.getElem?_eq_getElem h]; rfl
theorem next64 {i n : Nat} (h : i < n) (hn : n ≤ 1000000000) : wrap64 ((i : Int) + 1) = ((i + 1 : Nat) : Int) := by rw [w64 (by omega) (by omega)]; omega
theorem great_loop (l : List (List Int)) (hl : l.length ≤ 100) : ∀ (m k i : Nat) (left : Nat), i + m = l.length → m < k → left ≤ 20000 → ∃ b, tocsinlaw04_great.l0 k l (left : Int) (i : Int) = some b ∧ (b = false → totL (l.drop i) ≤ left)
  | _, 0, _, _, _, h, _ => by omega
  | 0, k + 1, i, left, hi, _, _ => by
    refine ⟨false, by rw [tocsinlaw04_great.l0, if_neg (by omega)], fun _ => ?_⟩
    rw [List.drop_of_length_le (by omega)]; exact Nat.zero_le _
  | m + 1, k + 1, i, left, hi, hk, hb => by
    have hlt : i < l.length := by omega
    rw [tocsinlaw04_great.l0, if_pos (by omega), if_pos (by omega), rdL2 l i hlt]
    by_cases hg : ((l[i]'hlt).length : Int) > (left : Int)
    · rw [if_pos hg]; exact ⟨true, rfl, fun h => by cases h⟩
    · rw [if_neg hg, next64 hlt (by omega), w64 (by omega) (by omega)]
      obtain ⟨b, h1, h2⟩ := great_loop l hl m k (i + 1) (left - (l[i]'hlt).length) (by omega) (by omega) (by omega)
      rw [show ((left : Int) - ((l[i]'hlt).length : Int)) = ((left - (l[i]'hlt).length : Nat) : Int) from by omega]
      refine ⟨b, h1, fun e => ?_⟩
      have := h2 e
      rw [List.drop_eq_getElem_cons hlt]
      show (l[i]'hlt).length + totL _ ≤ left
      omega
theorem great_some (l : List (List Int)) {k : Nat} (hk : 200 ≤ k) : ∃ b, tocsinlaw04_great.f k l = some b ∧ (b = false → l.length ≤ 100 ∧ totL l ≤ 20000) := by
  unfold tocsinlaw04_great.f
  by_cases h : (l.length : Int) > 100
  · rw [if_pos h]; exact ⟨true, rfl, fun e => by cases e⟩
  · rw [if_neg h]
    obtain ⟨b, h1, h2⟩ := great_loop l (by omega) l.length k 0 20000 (by omega) (by omega) (Nat.le_refl _)
    exact ⟨b, h1, fun e => ⟨by omega, by have := h2 e; rwa [List.drop_zero] at this⟩⟩
theorem tot_mem {l : List (List Int)} {p : List Int} (h : p ∈ l) : p.length ≤ totL l := by
  induction l with
  | nil => cases h
  | cons q l ih =>
    unfold totL
    rcases List.mem_cons.mp h with rfl | h
    · omega
    · have := ih h; omega
theorem rowL_len {l : List (List Int)} (h : Okr l) : (rowL l).length ≤ totL l + 14 * l.length := by
  induction l with
  | nil => exact Nat.le_refl _
  | cons p l ih =>
    have := ih fun q hq => h q (by simp [hq])
    have hp := (h p (by simp)).2
    have h10 : (enc p.length).length ≤ 10 := enc_le10 (by omega)
    show (frameL p ++ rowL l).length ≤ (p.length + totL l) + 14 * (l.length + 1)
    rw [List.length_append, frameL_len]; omega
theorem framed_loop (l : List (List Int)) (h : Okr l) (hl : l.length ≤ 100) : ∀ (m k i : Nat) (acc ends : List Int), i + m = l.length → m < k → acc.length + (rowL (l.drop i)).length ≤ 1000000 → ends.length ≤ i → PAll.tocsinlaw04_framed.l0 k l acc ends (i : Int) = some (acc ++ rowL (l.drop i), ends ++ endsF acc.length (l.drop i), true)
  | _, 0, _, _, _, _, h, _, _ => by omega
  | 0, k + 1, i, acc, ends, hi, _, _, _ => by
    rw [PAll.tocsinlaw04_framed.l0, if_neg (by omega), List.drop_of_length_le (by omega)]
    show some (acc, ends, true) = some (acc ++ [], ends ++ [], true)
    rw [List.append_nil, List.append_nil]
  | m + 1, k + 1, i, acc, ends, hi, hk, ha, he => by
    have hlt : i < l.length := by omega
    have hd := List.drop_eq_getElem_cons hlt
    obtain ⟨p, hp⟩ : ∃ p, p = l[i]'hlt := ⟨_, rfl⟩
    have hpo := h p (by rw [hp]; exact List.getElem_mem hlt)
    rw [hd, ← hp] at ha ⊢
    rw [show rowL (p :: l.drop (i + 1)) = frameL p ++ rowL (l.drop (i + 1)) from rfl, List.length_append] at ha
    have hrd : PAll.rd_L1 l (i : Int) = p := by
      unfold PAll.rd_L1; rw [Int.toNat_natCast, List.getD_eq_getElem?_getD, List.getElem?_eq_getElem hlt, ← hp]; rfl
    rw [PAll.tocsinlaw04_framed.l0, if_pos (by omega), if_pos (by omega), hrd, encode_some p hpo.1, if_neg (by omega), Option.bind_some, if_pos rfl]
    simp only
    rw [if_pos (by omega), Option.bind_some, if_pos (by omega), next64 hlt (by omega), framed_loop l h hl m k (i + 1) _ _ (by omega) (by omega) (by rw [List.length_append]; omega) (by rw [List.length_append]; simp; omega)]
    rw [List.append_assoc, List.append_assoc, List.length_append]
    rfl
theorem framed_some {l : List (List Int)} (h : Okr l) (hl : l.length ≤ 100) (ht : totL l ≤ 20000) {k : Nat} (hk : 200 ≤ k) : PAll.tocsinlaw04_framed.f k l = some (rowL l, endsF 0 l, true) := by
  unfold PAll.tocsinlaw04_framed.f
  have hb := rowL_len h
  have := framed_loop l h hl l.length k 0 [] [] (by omega) (by omega) (by rw [List.drop_zero]; simp; omega) (Nat.le_refl _)
  rw [List.drop_zero] at this
  exact this
theorem ends_len (s : Nat) (l : List (List Int)) : (endsF s l).length = l.length := by
  induction l generalizing s with
  | nil => rfl
  | cons p l ih => show (endsF _ l).length + 1 = l.length + 1; rw [ih]
theorem ends_get (s : Nat) (a : List (List Int)) (p : List Int) (b : List (List Int)) : (endsF s (a ++ p :: b))[a.length]? = some ((s + (rowL a).length + (frameL p).length : Nat) : Int) := by
  induction a generalizing s with
  | nil => show some _ = some _; rw [show (rowL ([] : List (List Int))).length = 0 from rfl, Nat.add_zero]
  | cons q a ih =>
    show (((s + (frameL q).length : Nat) : Int) :: endsF (s + (frameL q).length) (a ++ p :: b))[a.length + 1]? = _
    rw [List.getElem?_cons_succ, ih, show (rowL (q :: a)).length = (frameL q).length + (rowL a).length from List.length_append, Nat.add_assoc s]
theorem cut_loop (l : List (List Int)) (cut : Nat) (x2 : Int) (row : List Int) (hl : l.length ≤ 100) (hr : (rowL l).length ≤ 1000000) (K : Nat) (hK : ∀ k, K ≤ k → tocsinlaw04_FrameTorn.j4 k l (cut : Int) x2 row ((fitF cut l : Nat) : Int) (((rowL (l.take (fitF cut l))).length : Nat) : Int) = some true) :
    ∀ (b a : List (List Int)) (k : Nat), l = a ++ b → (rowL a).length ≤ cut → fitF cut l = a.length + fitF (cut - (rowL a).length) b → K + b.length + 2 ≤ k → tocsinlaw04_FrameTorn.l0 k l (cut : Int) x2 row (endsF 0 l) (a.length : Int) ((rowL a).length : Int) = some true
  | [], a, k, e, hc, hf, hk => by
    obtain ⟨k, rfl⟩ : ∃ k', k = k' + 1 := ⟨k - 1, by omega⟩
    have ha : a = l := by rw [e, List.append_nil]
    rw [tocsinlaw04_FrameTorn.l0, ends_len, if_neg (by rw [ha]; omega)]
    have := hK k (by omega)
    rw [hf, show fitF (cut - (rowL a).length) [] = 0 from rfl, Nat.add_zero, ← ha, List.take_of_length_le (Nat.le_refl _)] at this
    rw [← ha]; exact this
  | p :: b, a, k, e, hc, hf, hk => by
    obtain ⟨k, rfl⟩ : ∃ k', k = k' + 1 := ⟨k - 1, by omega⟩
    have hle := congrArg List.length e
    rw [List.length_append, List.length_cons] at hle
    have hrl : (rowL l).length = (rowL a).length + ((frameL p).length + (rowL b).length) := by
      rw [e, rowL_append, List.length_append]; congr 1; exact List.length_append
    have hg := ends_get 0 a p b
    rw [← e, Nat.zero_add] at hg
    rw [tocsinlaw04_FrameTorn.l0, ends_len, if_pos (by omega), if_pos (by omega), rd_some hg]
    rw [show fitF (cut - (rowL a).length) (p :: b) = (if (frameL p).length ≤ cut - (rowL a).length then 1 + fitF (cut - (rowL a).length - (frameL p).length) b else 0) from rfl] at hf
    by_cases hfit : (frameL p).length ≤ cut - (rowL a).length
    · rw [if_pos hfit] at hf
      rw [if_pos (by omega), next64 (n := l.length) (by omega) (by omega)]
      have hra : (rowL (a ++ [p])).length = (rowL a).length + (frameL p).length := by rw [rowL_append, List.length_append]; congr 1; simp [rowL]
      have := cut_loop l cut x2 row hl hr K hK b (a ++ [p]) k (by rw [List.append_assoc]; exact e) (by omega) (by rw [hra, List.length_append]; simp only [List.length_cons, List.length_nil]; rw [hf, Nat.sub_sub]; omega) (by rw [List.length_cons] at hk; omega)
      rw [hra, List.length_append] at this
      exact this
    · rw [if_neg hfit, Nat.add_zero] at hf
      rw [if_neg (by omega)]
      have := hK k (by omega)
      rw [hf] at this
      have ht : l.take a.length = a := by rw [e, List.take_left]
      rw [ht] at this
      exact this
theorem torn_true (l : List (List Int)) (hB : ∀ p ∈ l, isB p) (cut zs : Int) (hc : cut ≤ 9223372036854775807) : tocsinlaw04_FrameTorn.f 10000 l cut zs = some true := by
  unfold tocsinlaw04_FrameTorn.f
  have big : ∀ k, tocsinlaw04_FrameTorn.j0 (k + 1) l cut zs true = some true := fun k => by rw [tocsinlaw04_FrameTorn.j0, if_pos rfl]
  rw [show tocsinlaw04_awake.f = some true from rfl, Option.bind_some, if_pos rfl]
  obtain ⟨g, hg, hgf⟩ := great_some l (k := 10000) (by omega)
  rw [hg, Option.bind_some]
  cases g with
  | true => rw [if_pos rfl]; exact big _
  | false =>
    obtain ⟨hl, ht⟩ := hgf rfl
    have hok : Okr l := fun p hp => ⟨hB p hp, by have := tot_mem hp; omega⟩
    have hrb := rowL_len hok
    rw [if_neg (by decide)]
    by_cases hz : zs < 0
    · rw [if_pos hz]; exact big _
    rw [if_neg hz]
    by_cases hz2 : zs > 1000
    · rw [decide_eq_true hz2]; exact big _
    rw [decide_eq_false hz2, tocsinlaw04_FrameTorn.j0, if_neg (by decide), framed_some hok hl ht (by omega), Option.bind_some, if_pos rfl]
    have hall := row_all hok
    have hT : tocsinlaw04_tells.f (rowL l) l ((rowL l).length : Int) = some true := tells_some ⟨okB_of (rowL_isB hok) (by omega), by omega, hall.2, by rw [hall.1], by omega, fun x hx => by have := (hok x hx).2; omega⟩
    simp only
    rw [hT, Option.bind_some, tocsinlaw04_FrameTorn.j1, if_neg (by decide)]
    by_cases h0 : cut < 0
    · rw [if_pos h0, tocsinlaw04_FrameTorn.j2, if_pos rfl]
    rw [if_neg h0]
    by_cases h1 : cut > ((rowL l).length : Int)
    · rw [decide_eq_true h1, tocsinlaw04_FrameTorn.j2, if_pos rfl]
    rw [decide_eq_false h1, tocsinlaw04_FrameTorn.j2, if_neg (by decide)]
    obtain ⟨c, rfl⟩ : ∃ c : Nat, cut = (c : Int) := ⟨cut.toNat, by omega⟩
    obtain ⟨z, rfl⟩ : ∃ z : Nat, zs = (z : Int) := ⟨zs.toNat, by omega⟩
    refine cut_loop l c (z : Int) (rowL l) hl (by omega) 1 (fun k hk => ?_) l [] _ rfl (Nat.zero_le _) (by simp [rowL]) (by omega)
    obtain ⟨k, rfl⟩ : ∃ k', k = k' + 1 := ⟨k - 1, by omega⟩
    obtain ⟨r, t1, t2, t3, t4, t5⟩ := torn l c hok (by omega)
    have hfl := fit_le c l
    have hokt : Okr (l.take (fitF c l)) := fun p hp => hok p (List.mem_of_mem_take hp)
    have hmt : ∀ x ∈ l.take (fitF c l), x.length ≤ 1000000 := fun x hx => by have := (hokt x hx).2; omega
    have htl : (l.take (fitF c l)).length ≤ 1000000 := by rw [List.length_take]; omega
    rw [tocsinlaw04_FrameTorn.j4, if_pos (by omega), if_pos (by omega), Int.toNat_natCast, copy_some _ (by rw [List.length_take]; omega), Option.bind_some]
    have htc : ((rowL l).take c).length ≤ 1000000 := by rw [List.length_take]; omega
    by_cases he : (c : Int) = ((rowL (l.take (fitF c l))).length : Int)
    · have hr0 : r = [] := List.length_eq_zero_iff.mp (by omega)
      subst hr0
      rw [List.append_nil] at t1
      have hw := row_tells hokt (r := List.replicate z 0) (zeros_isB' z)
      have hz0 := wholeL_none (zeros_none z)
      rw [hz0.1, hz0.2, List.append_nil, Nat.add_zero] at hw
      rw [if_pos he, if_pos (by omega), Int.toNat_natCast, if_pos (by omega), if_pos (by omega), if_pos (by omega), Int.toNat_natCast, t1]
      rw [t1] at htc
      rw [tells_some ⟨okB_of (isB_append (rowL_isB hokt) (zeros_isB' z)) (by rw [List.length_append, List.length_replicate]; omega), by rw [List.length_append, List.length_replicate]; omega, hw.2, by rw [hw.1], htl, hmt⟩]
      rfl
    · have hw := row_tells hokt t3
      have hz0 := wholeL_none t2
      rw [hz0.1, hz0.2, List.append_nil, Nat.add_zero] at hw
      rw [if_neg he, if_pos (by omega), if_pos (by omega), Int.toNat_natCast, t1]
      rw [t1] at htc
      rw [tells_some ⟨okB_of (isB_append (rowL_isB hokt) t3) (by omega), by omega, hw.2, by rw [hw.1], htl, hmt⟩]
      rfl
end Go.Proofs.Ytcobdpkpefgdlaa.Pure

namespace Go.Proofs.Ytcobdpkpefgdlaa.Given
open Go.RowKit Go.Proofs.Crc Go.Proofs.Ytcobdpkpefgdlaa.Cod Go.Proofs.Ytcobdpkpefgdlaa.Pure Go.Proofs.Ytcobdpkpefgdlaa.PFou Go.Proofs.Ytcobdpkpefgdlaa.OpenS Go.Proofs.YtcobdpkpefgdlaaW.PrintWords
theorem isB_ofS {n : Nat} {xs : List Int} (h : wfAll n (wfInt .u8) xs) : isB xs := fun x hx => by
  have := h.2 x hx
  simp [wfInt, Lit.wf, IntKind.min, IntKind.max, IntKind.bits, IntKind.signed] at this; omega
theorem i64_le {a : Int} (h : (Lit.int .i64 a).wf = true) : a ≤ 9223372036854775807 := by
  simp [Lit.wf, IntKind.min, IntKind.max, IntKind.bits, IntKind.signed] at h; omega
theorem FrameTorn_walk (A0 : Option Addr) (c0 : Nat) (l0 : List (List Int)) (a1 a2 : Int) (w : World) (hr0 : Kd.C (Kd.slice 5 (Kd.int .u8)) w A0 l0.length l0) (hc0 : l0.length ≤ c0) (hw : wfAll (Try.prog.bytesOf 22) (wfAll (Try.prog.bytesOf 5) (wfInt .u8)) l0) (h1 : (Lit.int .i64 a1).wf = true) (_h2 : (Lit.int .i64 a2).wf = true) :
    Calls Try.prog 9 #[.slice A0 l0.length c0, .int .i64 a1, .int .i64 a2] w fun e w' => e = .returned (.bool true) ∧ Below w.heap.size w w' :=
  tocsinlaw04_FrameTorn.calls 10000 A0 c0 l0 a1 a2 true w hr0 hc0 (torn_true l0 (fun p hp => isB_ofS (hw.2 p hp)) a1 a2 (i64_le h1))
end Go.Proofs.Ytcobdpkpefgdlaa.Given
