/- What the reference's Next and All tell: plain. -/
import Derived.Test.YtcobdpkpefgdlaaNextP
import Derived.Test.YtcobdpkpefgdlaaPAllx3
namespace Go.Proofs.Ytcobdpkpefgdlaa.Pure
open Go.RowKit Go.Proofs.Crc Go.Proofs.Ytcobdpkpefgdlaa.Cod Go.Proofs.Ytcobdpkpefgdlaa.PBase Go.Proofs.Ytcobdpkpefgdlaa.PMid Go.Proofs.Ytcobdpkpefgdlaa.Given Go.Proofs.Ytcobdpkpefgdlaa.PAll Go.Proofs.YtcobdpkpefgdlaaW.PrintWords Go.Proofs.YtcobdpkpefgdlaaW.PrintLast
/-- The bytes begin with a frame whose count has kk bytes and says n. -/
def Cn (b : List Int) (kk n : Nat) : Prop := n ≤ 65536 ∧ kk + n + 4 ≤ b.length ∧ frameL ((b.drop kk).take n) = b.take (kk + n + 4)
theorem Cn.next {b : List Int} {kk n : Nat} (h : Cn b kk n) : nextT (nextL b) = ((b.drop kk).take n, ((kk + n + 4 : Nat) : Int), 0) := by
  obtain ⟨h1, h2, h3⟩ := h
  have hp : ((b.drop kk).take n).length = n := by rw [List.length_take, List.length_drop]; omega
  have hb : b = frameL ((b.drop kk).take n) ++ b.drop (kk + n + 4) := by rw [h3, List.take_append_drop]
  have hl := congrArg List.length h3
  rw [List.length_take] at hl
  have hx : nextL b = some ((b.drop kk).take n, (frameL ((b.drop kk).take n)).length) := by
    conv => lhs; rw [hb]
    exact nextL_of _ _ (by omega)
  rw [hx, hl]
  show (_, _, _) = _
  rw [show min (kk + n + 4) b.length = kk + n + 4 by omega]
theorem tail (b : List Int) (hb : isB b) (hl : b.length ≤ 100000) (kk n K : Nat) (h1 : 1 ≤ kk) (h3 : kk ≤ 3) (hn : n < 2097152) (hK : 200000 ≤ K) [Decidable (Cn b kk n)] :
    tocsinref04_Next.l1 (K + 2) b (kk : Int) (n : Int) (-1) = if Cn b kk n then some ((b.drop kk).take n, ((kk + n + 4 : Nat) : Int), 0) else tocsinref04_Next.l0 K b ((kk + 1 : Nat) : Int) := by
  rw [tocsinref04_Next.l1, if_neg (by omega)]
  have hj : tocsinref04_Next.j3 (K + 1) b (kk : Int) (n : Int) true = tocsinref04_Next.l0 K b ((kk + 1 : Nat) : Int) := by
    rw [tocsinref04_Next.j3, if_pos rfl, w64 (by omega) (by omega)]; rfl
  by_cases c1 : n ≤ 65536
  · rw [if_neg (by omega), w64 (x := (kk : Int) + n) (by omega) (by omega), w64 (x := (kk : Int) + n + 4) (by omega) (by omega)]
    by_cases c2 : kk + n + 4 ≤ b.length
    · rw [decide_eq_false (by omega), tocsinref04_Next.j3, if_neg (by simp)]
      rw [w64 (x := (kk : Int) + n) (by omega) (by omega), w64 (x := (kk : Int) + n + 4) (by omega) (by omega)]
      rw [if_pos (by omega), if_pos (by omega), if_pos (by omega), show ((kk : Int) + n).toNat = kk + n by omega, show ((kk : Int)).toNat = kk by omega, show ((kk : Int) + n + 4).toNat = kk + n + 4 by omega]
      have hd : (b.take (kk + n)).drop kk = (b.drop kk).take n := by rw [List.drop_take]; congr 1; omega
      have hp : ((b.drop kk).take n).length = n := by rw [List.length_take, List.length_drop]; omega
      have hle := frameL_len ((b.drop kk).take n)
      rw [hp] at hle
      have hen := enc_le10 (show n < 18446744073709551616 by omega)
      rw [hd, refFrame_some _ (isB_take (isB_drop hb _) _) (by omega) (by omega), Option.bind_some, if_pos (by omega), if_pos (by omega), same_some _ _ (by omega) (by omega), Option.bind_some]
      by_cases c3 : frameL ((b.drop kk).take n) = b.take (kk + n + 4)
      · rw [if_pos (by simpa using c3), if_pos (by simp; omega), if_pos ⟨c1, c2, c3⟩]
        simp
      · rw [if_neg (by simpa using c3), if_neg (fun h => c3 h.2.2), w64 (by omega) (by omega)]; rfl
    · rw [decide_eq_true (by omega), hj, if_neg (fun h => c2 h.2.1)]
  · rw [if_pos (by omega), hj, if_neg (fun h => c1 h.1)]
theorem l1_step {b : List Int} (hb : isB b) (kk : Int) {j acc k : Nat} {x : Int} (hx : b[j]? = some x) (ha : acc < 1000000) (hj : j < 3) :
    tocsinref04_Next.l1 (k + 1) b kk (acc : Int) (j : Int) = tocsinref04_Next.l1 k b kk ((128 * acc + x.toNat % 128 : Nat) : Int) ((j : Int) - 1) := by
  have hlt := (List.getElem?_eq_some_iff.1 hx).1
  have hxb := hb x (List.mem_of_getElem? hx)
  rw [tocsinref04_Next.l1, if_pos (by omega), if_pos (by omega), if_pos (by omega), rd_some hx]
  rw [w64 (x := x) (by omega) (by omega), w64 (x := 128 * (acc : Int)) (by omega) (by omega)]
  have ht : Int.tmod x 128 = ((x.toNat % 128 : Nat) : Int) := by rw [Int.tmod_eq_emod_of_nonneg hxb.1]; omega
  rw [ht, w64 (x := 128 * (acc : Int) + ((x.toNat % 128 : Nat) : Int)) (by omega) (by omega), w64 (x := (j : Int) - 1) (by omega) (by omega)]
  congr 1
/-- What the first kk bytes say. -/
def lv (b : List Int) (kk : Nat) : Nat :=
  let f := fun j : Nat => (b.getD j 0).toNat % 128
  if kk = 1 then f 0 else if kk = 2 then 128 * f 1 + f 0 else 128 * (128 * f 2 + f 1) + f 0
theorem getD_some {b : List Int} {j : Nat} (h : j < b.length) : b[j]? = some (b.getD j 0) := by
  rw [List.getD_eq_getElem?_getD, List.getElem?_eq_getElem h]; rfl
open Classical in
theorem l0_at (b : List Int) (hb : isB b) (hl : b.length ≤ 100000) (kk K : Nat) (h1 : 1 ≤ kk) (h3 : kk ≤ 3) (hK : 200000 ≤ K) :
    tocsinref04_Next.l0 (K + (kk + 4)) b (kk : Int) = if kk ≤ b.length then (if Cn b kk (lv b kk) then some (nextT (nextL b)) else tocsinref04_Next.l0 K b ((kk + 1 : Nat) : Int)) else some ([], 0, 40) := by
  rw [show K + (kk + 4) = (K + (kk + 3)) + 1 by omega, tocsinref04_Next.l0, if_pos (by omega), show K + (kk + 3) = (K + (kk + 2)) + 1 by omega, tocsinref04_Next.j1]
  by_cases hle : kk ≤ b.length
  · rw [if_pos hle, if_pos (by simpa using hle), w64 (by omega) (by omega)]
    have T : ∀ n : Nat, n < 2097152 → tocsinref04_Next.l1 (K + 2) b (kk : Int) (n : Int) (-1) = if Cn b kk n then some (nextT (nextL b)) else tocsinref04_Next.l0 K b ((kk + 1 : Nat) : Int) := fun n hn => by
      rw [tail b hb hl kk n K h1 h3 hn hK]
      split
      · rename_i hc; rw [hc.next]
      · rfl
    have hm : ∀ j : Nat, (b.getD j 0).toNat % 128 < 128 := fun j => by omega
    have m0 := hm 0
    have m1 := hm 1
    have m2 := hm 2
    rcases (show kk = 1 ∨ kk = 2 ∨ kk = 3 by omega) with rfl | rfl | rfl
    · have e : lv b 1 = 128 * 0 + (b.getD 0 0).toNat % 128 := by simp [lv]
      rw [e]
      have := T (128 * 0 + (b.getD 0 0).toNat % 128) (by omega)
      rw [← this]
      exact l1_step hb _ (j := 0) (acc := 0) (getD_some (by omega)) (by omega) (by omega)
    · have e : lv b 2 = 128 * (128 * 0 + (b.getD 1 0).toNat % 128) + (b.getD 0 0).toNat % 128 := by simp [lv]
      rw [e]
      have := T (128 * (128 * 0 + (b.getD 1 0).toNat % 128) + (b.getD 0 0).toNat % 128) (by omega)
      rw [← this]
      refine (l1_step hb _ (j := 1) (acc := 0) (getD_some (by omega)) (by omega) (by omega)).trans ?_
      exact l1_step hb _ (j := 0) (getD_some (by omega)) (by omega) (by omega)
    · have e : lv b 3 = 128 * (128 * (128 * 0 + (b.getD 2 0).toNat % 128) + (b.getD 1 0).toNat % 128) + (b.getD 0 0).toNat % 128 := by simp [lv]
      rw [e]
      have := T (128 * (128 * (128 * 0 + (b.getD 2 0).toNat % 128) + (b.getD 1 0).toNat % 128) + (b.getD 0 0).toNat % 128) (by omega)
      rw [← this]
      refine (l1_step hb _ (j := 2) (acc := 0) (getD_some (by omega)) (by omega) (by omega)).trans ?_
      refine (l1_step hb _ (j := 1) (getD_some (by omega)) (by omega) (by omega)).trans ?_
      exact l1_step hb _ (j := 0) (getD_some (by omega)) (by omega) (by omega)
  · rw [if_neg hle, if_neg (by simpa using hle)]
/-- The count that enc wrote is read again. -/
theorem lv_enc {n : Nat} (hn : n ≤ 65536) (r : List Int) : 1 ≤ (enc n).length ∧ (enc n).length ≤ 3 ∧ lv (enc n ++ r) (enc n).length = n := by
  by_cases h1 : n < 128
  · rw [enc_small h1]
    refine ⟨by simp, by simp, ?_⟩
    simp [lv]; omega
  by_cases h2 : n < 16384
  · rw [enc_big h1, enc_small (show n / 128 < 128 by omega)]
    refine ⟨by simp, by simp, ?_⟩
    simp [lv]; omega
  · rw [enc_big h1, enc_big (show ¬ n / 128 < 128 by omega), enc_small (show n / 128 / 128 < 128 by omega)]
    refine ⟨by simp, by simp, ?_⟩
    simp [lv]; omega
theorem cn_of_next {b : List Int} (hb : isB b) {p : List Int} {m : Nat} (h : nextL b = some (p, m)) : ∃ kk, 1 ≤ kk ∧ kk ≤ 3 ∧ kk ≤ b.length ∧ Cn b kk (lv b kk) := by
  obtain ⟨r, hbr, hm, hp⟩ := nextL_some hb h
  have hfl := frameL_len p
  have hb2 : b = enc p.length ++ (p ++ sum4 (enc p.length ++ p) ++ r) := by rw [hbr]; unfold frameL; simp [List.append_assoc]
  obtain ⟨e1, e2, e3⟩ := lv_enc hp (p ++ sum4 (enc p.length ++ p) ++ r)
  rw [← hb2] at e3
  have hlen := congrArg List.length hbr
  rw [List.length_append] at hlen
  refine ⟨_, e1, e2, by omega, ?_⟩
  rw [e3]
  refine ⟨hp, by omega, ?_⟩
  have hd : (b.drop (enc p.length).length).take p.length = p := by
    conv => lhs; rw [hb2]
    rw [List.drop_left, List.append_assoc, List.take_left]
  rw [hd]
  conv => rhs; rw [hbr]
  rw [← hfl, List.take_left]
open Classical in
theorem rnext_some {k : Nat} (b : List Int) (hb : isB b) (hl : b.length ≤ 100000) (hk : 300000 ≤ k) : tocsinref04_Next.f k b = some (nextT (nextL b)) := by
  obtain ⟨K, rfl⟩ : ∃ K, k = (((K + 2) + (3 + 4)) + (2 + 4)) + (1 + 4) := ⟨k - 20, by omega⟩
  unfold tocsinref04_Next.f
  have hend : tocsinref04_Next.l0 (K + 2) b ((3 + 1 : Nat) : Int) = some ([], 0, 40) := by
    rw [tocsinref04_Next.l0, if_neg (by omega), tocsinref04_Next.j1, if_neg (by simp)]
  have hno : ∀ x, nextL b = none → some x = some (nextT (nextL b)) → True := fun _ _ _ => trivial
  show tocsinref04_Next.l0 _ b ((1 : Nat) : Int) = _
  rw [l0_at b hb hl 1 _ (by omega) (by omega) (by omega), show ((1 + 1 : Nat) : Int) = ((2 : Nat) : Int) from rfl, l0_at b hb hl 2 _ (by omega) (by omega) (by omega), show ((2 + 1 : Nat) : Int) = ((3 : Nat) : Int) from rfl, l0_at b hb hl 3 _ (by omega) (by omega) (by omega), hend]
  cases hx : nextL b with
  | none => 
    show _ = some (([] : List Int), (0 : Int), (40 : Int))
    split
    · split
      · rfl
      · split
        · split
          · rfl
          · split
            · split <;> rfl
            · rfl
        · rfl
    · rfl
  | some q =>
    obtain ⟨p, m⟩ := q
    obtain ⟨kk, k1, k3, kl, hc⟩ := cn_of_next hb hx
    rcases (show kk = 1 ∨ kk = 2 ∨ kk = 3 by omega) with rfl | rfl | rfl
    · rw [if_pos kl, if_pos hc]
    · rw [if_pos (show 1 ≤ b.length by omega)]
      by_cases c1 : Cn b 1 (lv b 1)
      · rw [if_pos c1]
      · rw [if_neg c1, if_pos kl, if_pos hc]
    · rw [if_pos (show 1 ≤ b.length by omega), if_pos (show 2 ≤ b.length by omega)]
      by_cases c1 : Cn b 1 (lv b 1)
      · rw [if_pos c1]
      · rw [if_neg c1]
        by_cases c2 : Cn b 2 (lv b 2)
        · rw [if_pos c2]
        · rw [if_neg c2, if_pos kl, if_pos hc]
theorem rall_loop (b : List Int) (hb : isB b) (hl : b.length ≤ 100000) : ∀ (k at' : Nat) (out : List (List Int)), at' ≤ b.length → out.length ≤ at' → 300000 + (b.length - at') < k →
    tocsinref04_All.l0 k b out (at' : Int) = some (out ++ recsL (b.drop at'), ((at' + wholeL (b.drop at') : Nat) : Int))
  | 0, _, _, _, _, h => by omega
  | k + 1, at', out, h1, h2, hk => by
    rw [tocsinref04_All.l0, if_pos (by omega), if_pos (by omega), show ((at' : Int)).toNat = at' by omega, rnext_some _ (isB_drop hb _) (by rw [List.length_drop]; omega) (by omega), Option.bind_some]
    cases hn : nextL (b.drop at') with
    | none =>
      show (if (40 : Int) = 0 then _ else some (out, (at' : Int))) = _
      obtain ⟨e1, e2⟩ := wholeL_none hn
      rw [if_neg (by omega), e1, e2, List.append_nil]; rfl
    | some q =>
      obtain ⟨p, m⟩ := q
      obtain ⟨r, hbr, hm, hp⟩ := nextL_some (isB_drop hb _) hn
      have hpos := frameL_pos p
      have hlen := congrArg List.length hbr
      rw [List.length_append, List.length_drop] at hlen
      have hd : b.drop (at' + m) = r := by
        rw [← List.drop_drop, hbr, hm, List.drop_left]
      have hbb := isB_drop hb at'
      rw [hbr] at hbb
      obtain ⟨w1, w2⟩ := wholeL_frame (p := p) (r := r) (fun x hx => hbb x (List.mem_append_left _ (by unfold frameL; simp [hx]))) (fun x hx => hbb x (List.mem_append_right _ hx)) hp
      show (if (0 : Int) = 0 then (if out.length < 5864062014805 then tocsinref04_All.l0 k b (out ++ [p]) (wrap64 ((at' : Int) + (m : Int))) else none) else some (out, (at' : Int))) = _
      rw [if_pos rfl, if_pos (by omega), w64 (by omega) (by omega), show (at' : Int) + (m : Int) = ((at' + m : Nat) : Int) by omega]
      rw [rall_loop b hb hl k (at' + m) (out ++ [p]) (by omega) (by rw [List.length_append]; simp; omega) (by omega), hd, hbr, w1, w2, hm]
      rw [List.append_assoc]
      simp [Nat.add_assoc]
theorem rall_some {k : Nat} (b : List Int) (hb : isB b) (hl : b.length ≤ 100000) (hk : 400001 < k) : tocsinref04_All.f k b = some (recsL b, (wholeL b : Int)) := by
  have := rall_loop b hb hl k 0 [] (by omega) (by simp) (by omega)
  unfold tocsinref04_All.f
  simpa using this
end Go.Proofs.Ytcobdpkpefgdlaa.Pure
