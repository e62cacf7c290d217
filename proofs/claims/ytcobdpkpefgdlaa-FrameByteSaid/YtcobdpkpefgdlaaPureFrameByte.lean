/- A frame of which one byte is otherwise is none that is as long, and a proper beginning of one is none. No conditions. -/
import Derived.Test.YtcobdpkpefgdlaaPTwox1
import Derived.Test.YtcobdpkpefgdlaaNx
namespace Go.Proofs.Ytcobdpkpefgdlaa.Pure
open Go.RowKit Go.Proofs.Crc Go.Proofs.Ytcobdpkpefgdlaa.Cod Go.Proofs.Ytcobdpkpefgdlaa.PBase Go.Proofs.Ytcobdpkpefgdlaa.PMid Go.Proofs.Ytcobdpkpefgdlaa.Given Go.Proofs.Ytcobdpkpefgdlaa.Nx Go.Proofs.Ytcobdpkpefgdlaa.PTwo Go.Proofs.YtcobdpkpefgdlaaW.PrintWords Go.Proofs.YtcobdpkpefgdlaaW.PrintLast
theorem xor_cancel {a b c : W} (h : a ^^^ c = b ^^^ c) : a = b := by
  have := congrArg (· ^^^ c) h
  simpa [BitVec.xor_assoc] using this
theorem xor_cancel' {a b c : W} (h : c ^^^ a = c ^^^ b) : a = b := by
  rw [BitVec.xor_comm c a, BitVec.xor_comm c b] at h; exact xor_cancel h
theorem run_inj (bs : List UInt8) : ∀ l m : W, run l bs = run m bs → l = m := by
  induction bs with
  | nil => intro l m h; exact h
  | cons x bs ih =>
    intro l m h
    have h2 := ih _ _ (show run (Crc.step l x) bs = run (Crc.step m x) bs from h)
    exact xor_cancel (pow_inj 8 h2)
theorem wide_inj {x y : UInt8} (h : wide x = wide y) : x = y := by
  unfold wide at h
  have h2 := congrArg BitVec.toNat h
  simp only [BitVec.toNat_setWidth] at h2
  have hx := x.toBitVec.isLt
  have hy := y.toBitVec.isLt
  rw [Nat.mod_eq_of_lt (by omega), Nat.mod_eq_of_lt (by omega)] at h2
  exact UInt8.eq_of_toBitVec_eq (BitVec.eq_of_toNat_eq h2)
theorem run_one (a b : List UInt8) (x y : UInt8) (l : W) (h : run l (a ++ x :: b) = run l (a ++ y :: b)) : x = y := by
  rw [run_append, run_append] at h
  have h2 := run_inj b _ _ (show run (Crc.step (run l a) x) b = run (Crc.step (run l a) y) b from h)
  exact wide_inj (xor_cancel' (pow_inj 8 h2))
theorem not_inj {a b : W} (h : ~~~ a = ~~~ b) : a = b := by
  have := congrArg (fun x => ~~~ x) h
  simpa using this
theorem sumN_one (a b : List Int) (x y : Int) (hx : 0 ≤ x ∧ x < 256) (hy : 0 ≤ y ∧ y < 256) (h : sumN (a ++ x :: b) = sumN (a ++ y :: b)) : x = y := by
  unfold sumN Crc.sum toB at h
  rw [List.map_append, List.map_append, List.map_cons, List.map_cons] at h
  have h2 := run_one _ _ _ _ _ (not_inj (BitVec.eq_of_toNat_eq h))
  have h3 := congrArg UInt8.toNat h2
  simp only [UInt8.toNat_ofNat'] at h3
  omega
theorem set_split {l : List Int} {i : Nat} (h : i < l.length) (v : Int) : l = l.take i ++ l[i] :: l.drop (i + 1) ∧ l.set i v = l.take i ++ v :: l.drop (i + 1) := by
  refine ⟨?_, ?_⟩
  · rw [← List.drop_eq_getElem_cons h, List.take_append_drop]
  · rw [List.set_eq_take_append_cons_drop, if_pos h]
theorem sum4_inj {a b : List Int} (h : sum4 a = sum4 b) : sumN a = sumN b := four_inj (sumN_lt a) (sumN_lt b) h
/-- Two frames of one length differ in no one byte. -/
theorem frames_apart {p q : List Int} (hp : isB p) (hq : isB q) {i : Nat} (hi : i < (frameL p).length) {v : Int} (hv : 0 ≤ v ∧ v < 256) (h : (frameL p).set i v = frameL q) : v = (frameL p)[i] := by
  have hl : (frameL p).length = (frameL q).length := by rw [← h, List.length_set]
  obtain ⟨A, hA⟩ : ∃ A, A = enc p.length ++ p := ⟨_, rfl⟩
  obtain ⟨B, hB⟩ : ∃ B, B = enc q.length ++ q := ⟨_, rfl⟩
  have ha : frameL p = A ++ sum4 A := by rw [hA]; rfl
  have hb : frameL q = B ++ sum4 B := by rw [hB]; rfl
  have hAB : isB A := by rw [hA]; exact isB_append (enc_isB _) hp
  have hlen : A.length = B.length := by
    rw [ha, hb, List.length_append, List.length_append, sum4_len, sum4_len] at hl; omega
  have hb2 := hb
  rw [← h] at hb2
  by_cases hlt : i < A.length
  · have e1 : (frameL p).set i v = A.set i v ++ sum4 A := by rw [ha, List.set_append_left _ _ hlt]
    rw [e1] at hb2
    obtain ⟨f1, f2⟩ := List.append_inj hb2 (by rw [List.length_set]; exact hlen)
    have f3 := sum4_inj f2
    rw [← f1] at f3
    obtain ⟨s1, s2⟩ := set_split hlt v
    rw [s2] at f3
    rw [s1] at f3
    have hx := hAB A[i] (List.getElem_mem hlt)
    have e := sumN_one _ _ _ _ hx hv (by
      have f4 := f3
      rw [← s1] at f4 ⊢
      exact f4)
    rw [← e]
    simp only [ha, List.getElem_append_left hlt]
  · have hge : A.length ≤ i := by omega
    have e1 : (frameL p).set i v = A ++ (sum4 A).set (i - A.length) v := by rw [ha, List.set_append_right _ _ hge]
    rw [e1] at hb2
    obtain ⟨f1, f2⟩ := List.append_inj hb2 hlen
    have e2 : (frameL p).set i v = frameL p := by rw [e1, f2, ← f1, ← ha]
    have e3 : ((frameL p).set i v)[i]'(by rw [List.length_set]; exact hi) = v := List.getElem_set_self _
    rw [← e3]
    simp only [e2]
theorem nextL_take (p : List Int) (hp : p.length ≤ 65536) (hb : isB p) {i : Nat} (hi : i < (frameL p).length) : nextL ((frameL p).take i) = none := by
  cases hn : nextL ((frameL p).take i) with
  | none => rfl
  | some q =>
    obtain ⟨q, m⟩ := q
    obtain ⟨r, hr, hm, hq⟩ := nextL_some (isB_take (frameL_isB hb) i) hn
    have h1 := nextL_of q (r ++ (frameL p).drop i) hq
    rw [← List.append_assoc, ← hr, List.take_append_drop] at h1
    have h2 := nextL_of p [] hp
    rw [List.append_nil, h1] at h2
    have h3 := congrArg List.length hr
    rw [List.length_take, List.length_append] at h3
    have h4 : (frameL q).length = (frameL p).length := by injection h2 with h2; injection h2
    omega
theorem xor_range {a b : Int} (ha : 0 ≤ a ∧ a < 256) (hb : 0 ≤ b ∧ b < 256) : Go.bits .xor .u8 a b = ((a.toNat ^^^ b.toNat : Nat) : Int) ∧ a.toNat ^^^ b.toNat < 256 :=
  ⟨u8_xor a b ha.1 ha.2 hb.1 hb.2, Nat.xor_lt_two_pow (n := 8) (by omega) (by omega)⟩
theorem FrameByte : tocsinlaw04_FrameByte.Pure := by
  intro l a x _ _ hb ha hx
  have hl := isB_of hb
  simp [Lit.wf, IntKind.min, IntKind.max, IntKind.bits, IntKind.signed] at hx ha
  refine ⟨100000, ?_⟩
  unfold tocsinlaw04_FrameByte.f tocsinlaw04_awake.f
  rw [Option.bind_some, if_pos rfl]
  by_cases h1 : (l.length : Int) > 20000
  · rw [if_pos h1]
  rw [if_neg h1, encode_some _ hl, if_neg (by omega), Option.bind_some]
  dsimp only
  rw [if_pos rfl]
  have h5 := frameL_pos l
  have hlen := frameL_len l
  have h10 := enc_le10 (n := l.length) (by omega)
  have hB := frameL_isB hl
  obtain ⟨L, hL⟩ : ∃ L, L = frameL l := ⟨_, rfl⟩
  rw [← hL] at h5 hlen hB ⊢
  rw [if_neg (by omega)]
  have hm1 := Int.tmod_lt_of_pos a (b := (L.length : Int)) (by omega)
  have hm2 := Int.lt_tmod_of_pos a (b := (L.length : Int)) (by omega)
  rw [w64 (x := Int.tmod a (L.length : Int) + (L.length : Int)) (by omega) (by omega)]
  obtain ⟨i, hi, hil⟩ : ∃ i : Nat, Int.tmod (Int.tmod a (L.length : Int) + (L.length : Int)) (L.length : Int) = (i : Int) ∧ i < L.length := by
    have e0 : (0 : Int) ≤ Int.tmod a (L.length : Int) + (L.length : Int) := by omega
    have e1 := Int.tmod_nonneg (L.length : Int) e0
    have e2 := Int.tmod_lt_of_pos (Int.tmod a (L.length : Int) + (L.length : Int)) (b := (L.length : Int)) (by omega)
    exact ⟨(Int.tmod (Int.tmod a (L.length : Int) + (L.length : Int)) (L.length : Int)).toNat, by omega, by omega⟩
  rw [hi, if_pos (by omega), if_pos (by omega), Int.toNat_natCast]
  have hrd : rd L (i : Int) = L[i] := rd_some (List.getElem?_eq_getElem hil)
  have hli := hB L[i] (List.getElem_mem hil)
  have hxr := xor_range hli (show 0 ≤ x ∧ x < 256 by omega)
  obtain ⟨v, hv⟩ : ∃ v, v = Go.bits .xor .u8 (rd L (i : Int)) x := ⟨_, rfl⟩
  have hvr : 0 ≤ v ∧ v < 256 := by rw [hv, hrd, hxr.1]; omega
  rw [← hv]
  have hS : isB (L.set i v) := fun y hy => by
    rcases List.mem_or_eq_of_mem_set hy with h | rfl
    · exact hB y h
    · exact hvr
  unfold frame_Next.f
  rw [if_pos ⟨okB_of (isB_take hB i) (by rw [List.length_take]; omega), by rw [List.length_take]; omega⟩, Option.bind_some, if_pos (show (i : Int) < (L.length : Int) by omega)]
  rw [if_pos ⟨okB_of hS (by rw [List.length_set]; omega), by rw [List.length_set]; omega⟩, Option.bind_some]
  have hnt : nextL (L.take i) = none := by rw [hL]; exact nextL_take l (by omega) hl (by rw [← hL]; exact hil)
  rw [hnt]
  rw [if_pos (show (nextT none).2.2 = 40 from rfl)]
  by_cases h0 : x = 0
  · rw [if_pos h0]
    have hvx : v = L[i] := by
      rw [hv, hrd, hxr.1, h0]
      simp; omega
    have hset : L.set i v = frameL l ++ [] := by rw [hvx, List.set_getElem_self, List.append_nil, hL]
    rw [hset, nextL_of l [] (by omega), if_pos (show (nextT (some (l, (frameL l).length))).2.2 = 0 from rfl), if_pos (by rw [hL]; rfl)]
    show (tocsinref04_Same.f 100000 l l).bind _ = _
    rw [same_some _ _ (by omega) (by omega)]; simp
  · rw [if_neg h0]
    have hne : v ≠ L[i] := by
      rw [hv, hrd, hxr.1]
      intro e
      have e2 : L[i].toNat ^^^ x.toNat = L[i].toNat := by omega
      have e3 := congrArg (L[i].toNat ^^^ ·) e2
      simp only [Nat.xor_self, ← Nat.xor_assoc, Nat.zero_xor] at e3
      omega
    cases hn : nextL (L.set i v) with
    | none => rw [if_pos (show (nextT none).2.2 = 40 from rfl)]
    | some q =>
      obtain ⟨q, m⟩ := q
      rw [if_neg (show ¬ (nextT (some (q, m))).2.2 = 40 by show ¬ ((0 : Int) = 40); omega)]
      obtain ⟨r, hr, hm, hq⟩ := nextL_some hS hn
      have hlr := congrArg List.length hr
      rw [List.length_set, List.length_append] at hlr
      have hqB : isB q := by
        have h9 : isB (frameL q) := fun y hy => hS y (by rw [hr]; exact List.mem_append_left _ hy)
        intro y hy
        exact h9 y (by unfold frameL; exact List.mem_append_left _ (List.mem_append_right _ hy))
      have hlt : m < L.length := by
        rcases Nat.lt_or_ge m L.length with h | h
        · exact h
        · exfalso
          have hr0 : r = [] := List.length_eq_zero_iff.1 (by omega)
          rw [hr0, List.append_nil] at hr
          subst hL
          exact hne (frames_apart hl hqB hil hvr hr)
      show some (decide ((m : Int) < (L.length : Int))) = some true
      rw [decide_eq_true (by omega)]
end Go.Proofs.Ytcobdpkpefgdlaa.Pure
