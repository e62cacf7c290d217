/- What frame's Encode, the reference's Frame, and the small functions tell: plain. -/
import Derived.Test.YtcobdpkpefgdlaaPAllx1
namespace Go.Proofs.Ytcobdpkpefgdlaa.Pure
open Go.RowKit Go.Proofs.Crc Go.Proofs.Ytcobdpkpefgdlaa.Cod Go.Proofs.Ytcobdpkpefgdlaa.PBase Go.Proofs.Ytcobdpkpefgdlaa.PMid Go.Proofs.Ytcobdpkpefgdlaa.Given Go.Proofs.Ytcobdpkpefgdlaa.PAll Go.Proofs.YtcobdpkpefgdlaaW.PrintWords Go.Proofs.YtcobdpkpefgdlaaW.PrintLast
theorem w64 {x : Int} (h0 : -9223372036854775808 ≤ x) (h1 : x ≤ 9223372036854775807) : wrap64 x = x := by unfold wrap64; omega
theorem rd_some {xs : List Int} {j : Nat} {x : Int} (h : xs[j]? = some x) : rd xs (j : Int) = x := by
  unfold rd; rw [Int.toNat_natCast, List.getD_eq_getElem?_getD, h]; rfl
theorem same_loop (xs ys : List Int) (hl : xs.length = ys.length) (hb : xs.length ≤ 4611686018427387904) : ∀ (k j : Nat), j ≤ xs.length → xs.length < k + j → tocsinref04_Same.l0 k xs ys j = some (decide (xs.drop j = ys.drop j))
  | 0, j, hj, hk => by omega
  | k + 1, j, hj, hk => by
    rw [tocsinref04_Same.l0]
    by_cases h : j < xs.length
    · rw [if_pos (by omega), if_pos (by omega), if_pos (by omega)]
      have e1 : rd xs (j : Int) = xs[j] := rd_some (List.getElem?_eq_getElem h)
      have e2 : rd ys (j : Int) = ys[j]'(by omega) := rd_some (List.getElem?_eq_getElem _)
      rw [e1, e2, List.drop_eq_getElem_cons h, List.drop_eq_getElem_cons (show j < ys.length by omega)]
      by_cases he : xs[j] = ys[j]'(by omega)
      · rw [if_pos he, w64 (by omega) (by omega)]
        have := same_loop xs ys hl hb k (j + 1) (by omega) (by omega)
        rw [show ((j : Int) + 1) = ((j + 1 : Nat) : Int) by omega, this]
        congr 1
        rw [decide_eq_decide]
        constructor
        · intro h; rw [he, h]
        · intro h; exact (List.cons.inj h).2
      · rw [if_neg he]
        congr 1
        symm
        exact decide_eq_false fun h => he (List.cons.inj h).1
    · rw [if_neg (by omega), List.drop_eq_nil_of_le (by omega), List.drop_eq_nil_of_le (by omega)]; rfl
theorem same_some {k : Nat} (xs ys : List Int) (hb : xs.length ≤ 4611686018427387904) (hk : xs.length < k) : tocsinref04_Same.f k xs ys = some (decide (xs = ys)) := by
  unfold tocsinref04_Same.f
  by_cases h : xs.length = ys.length
  · rw [if_pos (by omega)]
    have := same_loop xs ys h hb k 0 (by omega) (by omega)
    simpa using this
  · rw [if_neg (by omega)]
    congr 1
    symm
    exact decide_eq_false fun e => h (by rw [e])
theorem equal_loop (xs ys : List Int) (hl : xs.length = ys.length) (hb : xs.length ≤ 4611686018427387904) : ∀ (k j : Nat), j ≤ xs.length → xs.length < k + j → slices_Equal_byte_byte.l0 k xs ys (xs.length : Int) j = some (decide (xs.drop j = ys.drop j))
  | 0, j, hj, hk => by omega
  | k + 1, j, hj, hk => by
    rw [slices_Equal_byte_byte.l0]
    by_cases h : j < xs.length
    · rw [if_pos (by omega), if_pos (by omega), if_pos (by omega), if_pos (by omega)]
      have e1 : rd xs (j : Int) = xs[j] := rd_some (List.getElem?_eq_getElem h)
      have e2 : rd ys (j : Int) = ys[j]'(by omega) := rd_some (List.getElem?_eq_getElem _)
      rw [e1, e2, List.drop_eq_getElem_cons h, List.drop_eq_getElem_cons (show j < ys.length by omega)]
      by_cases he : xs[j] = ys[j]'(by omega)
      · rw [if_pos he, w64 (by omega) (by omega)]
        have := equal_loop xs ys hl hb k (j + 1) (by omega) (by omega)
        rw [show ((j : Int) + 1) = ((j + 1 : Nat) : Int) by omega, this]
        congr 1
        rw [decide_eq_decide]
        constructor
        · intro h; rw [he, h]
        · intro h; exact (List.cons.inj h).2
      · rw [if_neg he]
        congr 1
        symm
        exact decide_eq_false fun h => he (List.cons.inj h).1
    · rw [if_neg (by omega), List.drop_eq_nil_of_le (by omega), List.drop_eq_nil_of_le (by omega)]; rfl
theorem equal_some {k : Nat} (xs ys : List Int) (hb : xs.length ≤ 4611686018427387904) (hk : xs.length < k) : slices_Equal_byte_byte.f k xs ys = some (decide (xs = ys)) := by
  unfold slices_Equal_byte_byte.f
  by_cases h : xs.length = ys.length
  · rw [if_pos (by omega)]
    have := equal_loop xs ys h hb k 0 (by omega) (by omega)
    simpa using this
  · rw [if_neg (by omega)]
    congr 1
    symm
    exact decide_eq_false fun e => h (by rw [e])
theorem copy_some (xs : List Int) (hb : xs.length < 140737488355328) : tocsinref04_Copy.f xs = some xs := by
  unfold tocsinref04_Copy.f
  rw [if_pos (by simpa using hb)]; rfl
theorem number_loop : ∀ (k n : Nat) (out : List Int), n < 18446744073709551616 → (enc n).length ≤ k → out.length + (enc n).length ≤ 140737488355328 → tocsinref04_Number.l0 k n out = some (out ++ enc n)
  | 0, n, out, hn, hk, _ => by
    by_cases h : n < 128
    · rw [enc_small h] at hk; simp at hk
    · rw [enc_big h] at hk; simp at hk
  | k + 1, n, out, hn, hk, ho => by
    rw [tocsinref04_Number.l0]
    by_cases h : n < 128
    · rw [enc_small h] at ho
      rw [if_neg (by omega), if_pos (by simp at ho; omega), enc_small h, show (n : Int) % 256 = n by omega]
    · rw [enc_big h, List.length_cons] at hk ho
      rw [if_pos (by omega), if_pos (by omega)]
      have e1 : IntKind.u64.wrap (Int.tdiv (n : Int) 128) = ((n / 128 : Nat) : Int) := by
        rw [wrap_u64, Int.tdiv_eq_ediv_of_nonneg (by omega)]; omega
      have e2 : IntKind.u64.wrap (128 + Int.tmod (n : Int) 128) % 256 = ((n % 128 + 128 : Nat) : Int) := by
        rw [wrap_u64, Int.tmod_eq_emod_of_nonneg (by omega)]; omega
      rw [e1, e2, number_loop k (n / 128) _ (by omega) (by omega) (by rw [List.length_append]; simp; omega), enc_big h, List.append_assoc]; rfl
theorem number_some {k : Nat} (n : Nat) (hn : n < 18446744073709551616) (hk : 10 ≤ k) : tocsinref04_Number.f k n = some (enc n) := by
  have := enc_le10 hn
  exact number_loop k n [] hn (by omega) (by simp; omega)
/-- Bytes' sum, as a number. -/
def sumN (p : List Int) : Nat := (Crc.sum (toB p)).toNat
theorem sumN_lt (p : List Int) : sumN p < 4294967296 := (Crc.sum (toB p)).isLt
/-- A number's four bytes, the lowest first. -/
def four (n : Nat) : List Int := [((n % 256 : Nat) : Int), ((n / 256 % 256 : Nat) : Int), ((n / 65536 % 256 : Nat) : Int), ((n / 16777216 % 256 : Nat) : Int)]
theorem four_inj {m n : Nat} (hm : m < 4294967296) (hn : n < 4294967296) (h : four m = four n) : m = n := by
  unfold four at h
  simp only [List.cons.injEq, and_true] at h
  omega
def sum4 (p : List Int) : List Int := four (sumN p)
/-- A frame. -/
def frameL (p : List Int) : List Int := enc p.length ++ p ++ sum4 (enc p.length ++ p)
theorem of_some (ls : List (List Int)) (h : ∀ x ∈ ls, isB x ∧ x.length ≤ 140737488355328) (hl : ls.length ≤ 140737488355328) : crc_Of.f ls = some (sumN ls.flatten : Int) := by
  unfold crc_Of.f sumN
  rw [if_pos]
  rw [Bool.and_eq_true, List.all_eq_true]
  exact ⟨fun x hx => okB_of (h x hx).1 (h x hx).2, decide_eq_true hl⟩
theorem fsum_some (ls : List (List Int)) (h : ∀ x ∈ ls, isB x ∧ x.length ≤ 140737488355328) (hl : ls.length ≤ 140737488355328) : frame_sum.f ls = some (sum4 ls.flatten) := by
  unfold frame_sum.f
  rw [of_some ls h hl]
  simp only [Option.bind_some, List.length_nil, List.nil_append]
  rw [if_pos (by simp)]
  unfold sum4 four
  have e1 : (sumN ls.flatten : Int) % 256 = ((sumN ls.flatten % 256 : Nat) : Int) := by omega
  have e2 : (sumN ls.flatten : Int) / 256 % 256 = ((sumN ls.flatten / 256 % 256 : Nat) : Int) := by omega
  have e3 : (sumN ls.flatten : Int) / 65536 % 256 = ((sumN ls.flatten / 65536 % 256 : Nat) : Int) := by omega
  have e4 : (sumN ls.flatten : Int) / 16777216 % 256 = ((sumN ls.flatten / 16777216 % 256 : Nat) : Int) := by omega
  rw [e1, e2, e3, e4]
theorem enc_isB (n : Nat) : isB (enc n) := fun x hx => enc_range n n (Nat.le_refl _) x hx
theorem isB_append {a b : List Int} (ha : isB a) (hb : isB b) : isB (a ++ b) := fun x hx => by
  rcases List.mem_append.1 hx with h | h
  · exact ha x h
  · exact hb x h
theorem encode_some (p : List Int) (hp : isB p) : frame_Encode.f p = some (if 65536 < p.length then ([], 3) else (frameL p, 0)) := by
  unfold frame_Encode.f
  by_cases h : 65536 < p.length
  · rw [if_pos h, if_pos h]
  · rw [if_neg h, if_neg h]
    have hl := enc_le10 (n := p.length) (by omega)
    rw [fsum_some _ (fun x hx => by
      simp only [List.mem_cons, List.not_mem_nil, or_false] at hx
      rcases hx with rfl | rfl
      · exact ⟨enc_isB _, by omega⟩
      · exact ⟨hp, by omega⟩) (by simp)]
    simp only [Option.bind_some]
    rw [if_pos (by simp [sum4, four])]
    unfold frameL
    simp
theorem sum_some (p : List Int) (hp : isB p) (hl : p.length ≤ 140737488355328) : tocsinref02_Sum.f p = some (sumN p : Int) := by
  unfold tocsinref02_Sum.f crc_Sum.f sumN
  rw [if_pos (okB_of hp hl)]
theorem refFrame_some {k : Nat} (p : List Int) (hp : isB p) (hl : p.length ≤ 1000000) (hk : 10 ≤ k) : tocsinref04_Frame.f k p = some (frameL p) := by
  unfold tocsinref04_Frame.f
  have e : IntKind.u64.wrap (p.length : Int) = ((p.length : Nat) : Int) := by rw [wrap_u64]; omega
  have hl2 := enc_le10 (n := p.length) (by omega)
  rw [e, number_some _ (by omega) hk]
  simp only [Option.bind_some]
  rw [if_pos (by omega), sum_some _ (isB_append (enc_isB _) hp) (by rw [List.length_append]; omega)]
  simp only [Option.bind_some]
  obtain ⟨k, rfl⟩ : ∃ m, k = m + 5 := ⟨k - 5, by omega⟩
  have hlt := sumN_lt (enc p.length ++ p)
  unfold frameL sum4 four
  generalize sumN (enc p.length ++ p) = s at *
  have hlen : (enc p.length ++ p).length ≤ 2000000 := by rw [List.length_append]; omega
  generalize enc p.length ++ p = q at *
  have d : ∀ n : Nat, n < 4294967296 → (Int.tdiv (n : Int) 256) % 4294967296 = ((n / 256 : Nat) : Int) := fun n hn => by rw [Int.tdiv_eq_ediv_of_nonneg (by omega)]; omega
  have m : ∀ n : Nat, n < 4294967296 → (Int.tmod (n : Int) 256) % 256 = ((n % 256 : Nat) : Int) := fun n hn => by rw [Int.tmod_eq_emod_of_nonneg (by omega)]; omega
  rw [tocsinref04_Frame.l0, if_pos (by omega), if_pos (by omega), m s hlt, d s hlt, w64 (x := 0 + 1) (by omega) (by omega)]
  rw [tocsinref04_Frame.l0, if_pos (by omega), if_pos (by simp; omega), m _ (by omega), d _ (by omega), w64 (x := 0 + 1 + 1) (by omega) (by omega)]
  rw [tocsinref04_Frame.l0, if_pos (by omega), if_pos (by simp; omega), m _ (by omega), d _ (by omega), w64 (x := 0 + 1 + 1 + 1) (by omega) (by omega)]
  rw [tocsinref04_Frame.l0, if_pos (by omega), if_pos (by simp; omega), m _ (by omega), d _ (by omega), w64 (x := 0 + 1 + 1 + 1 + 1) (by omega) (by omega)]
  rw [tocsinref04_Frame.l0, if_neg (by omega)]
  simp only [List.append_assoc, List.cons_append, List.nil_append, Nat.div_div_eq_div_mul]
theorem isB_of {l : List Int} (h : ∀ x ∈ l, (Lit.int .u8 x).wf = true) : isB l := fun x hx => by
  have := h x hx
  simp [Lit.wf, IntKind.min, IntKind.max, IntKind.bits, IntKind.signed] at this
  omega
end Go.Proofs.Ytcobdpkpefgdlaa.Pure
