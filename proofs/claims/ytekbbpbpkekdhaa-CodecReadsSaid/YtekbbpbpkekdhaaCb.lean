/- What the printed functions tell, in plain mathematics. -/
import Derived.Test.YtekbbpbpkekdhaaPBasex1
import Derived.Test.YtekbbpbpkekdhaaRm
namespace Go.Proofs.Ytekbbpbpkekdhaa.Cod
open Go.RowKit Go.Proofs.Ytekbbpbpkekdhaa.PBase Go.Proofs.YtekbbpbpkekdhaaW.PrintWords
theorem rd_some {xs : List Int} {j : Nat} {x : Int} (h : xs[j]? = some x) : rd xs (j : Int) = x := by
  unfold rd; rw [Int.toNat_natCast, List.getD_eq_getElem?_getD, h]; rfl
theorem same_loop (xs ys : List Int) (hl : xs.length = ys.length) (hb : xs.length ≤ 4611686018427387904) : ∀ (k j : Nat), j ≤ xs.length → xs.length < k + j → tocsinref04_Same.l0 k xs ys j = some (decide (xs.drop j = ys.drop j))
  | 0, j, hj, hk => by omega
  | k + 1, j, hj, hk => by
    rw [tocsinref04_Same.l0]
    by_cases h : j < xs.length
    · rw [if_pos (by omega), if_pos (by omega), if_pos (by omega)]
      have e1 : rd xs (j : Int) = xs[j] := rd_some (List.getElem?_eq_getElem h)
      have e2 : rd ys (j : Int) = ys[j]'(by omega) := rd_some (List.getElem?_eq_getElem _)
      rw [e1, e2, List.drop_eq_getElem_cons h, List.drop_eq_getElem_cons (show j < ys.length by omega)]
      by_cases he : xs[j] = ys[j]'(by omega)
      · rw [if_pos he, wrap64_id _ (by omega) (by omega)]
        have := same_loop xs ys hl hb k (j + 1) (by omega) (by omega)
        rw [show ((j : Int) + 1) = ((j + 1 : Nat) : Int) by omega, this]
        congr 1
        rw [decide_eq_decide]
        constructor
        · intro h; rw [he, h]
        · intro h; exact (List.cons.inj h).2
      · rw [if_neg he]
        congr 1
        symm
        exact decide_eq_false fun h => he (List.cons.inj h).1
    · rw [if_neg (by omega), List.drop_eq_nil_of_le (by omega), List.drop_eq_nil_of_le (by omega)]; rfl
theorem same_some (xs ys : List Int) (hb : xs.length ≤ 4611686018427387904) : tocsinref04_Same.f (xs.length + 1) xs ys = some (decide (xs = ys)) := by
  unfold tocsinref04_Same.f
  by_cases h : xs.length = ys.length
  · rw [if_pos (by omega)]
    have := same_loop xs ys h hb (xs.length + 1) 0 (by omega) (by omega)
    simpa using this
  · rw [if_neg (by omega)]
    congr 1
    symm
    exact decide_eq_false fun e => h (by rw [e])
theorem copy_some (xs : List Int) (hb : xs.length < 140737488355328) : tocsinref04_Copy.f xs = some xs := by
  unfold tocsinref04_Copy.f
  rw [if_pos (by simpa using hb)]; rfl
theorem number_loop : ∀ (k n : Nat) (out : List Int), n < 18446744073709551616 → (enc n).length ≤ k → out.length + k < 140737488355328 → tocsinref04_Number.l0 k n out = some (out ++ enc n)
  | 0, n, out, hn, hk, _ => by
    by_cases h : n < 128
    · rw [enc_small h] at hk; simp at hk
    · rw [enc_big h] at hk; simp at hk
  | k + 1, n, out, hn, hk, ho => by
    rw [tocsinref04_Number.l0]
    by_cases h : n < 128
    · rw [if_neg (by omega), if_pos (by omega), enc_small h, show (n : Int) % 256 = n by omega]
    · rw [enc_big h, List.length_cons] at hk
      rw [if_pos (by omega), if_pos (by omega)]
      have e1 : IntKind.u64.wrap (Int.tdiv (n : Int) 128) = ((n / 128 : Nat) : Int) := by
        rw [wrap_u64, Int.tdiv_eq_ediv_of_nonneg (by omega)]; omega
      have e2 : IntKind.u64.wrap (128 + Int.tmod (n : Int) 128) % 256 = ((n % 128 + 128 : Nat) : Int) := by
        rw [wrap_u64, Int.tmod_eq_emod_of_nonneg (by omega)]; omega
      rw [e1, e2, number_loop k (n / 128) _ (by omega) (by omega) (by rw [List.length_append]; simp; omega), enc_big h, List.append_assoc]; rfl
theorem number_some (n : Nat) (hn : n < 18446744073709551616) : tocsinref04_Number.f 10 n = some (enc n) := number_loop 10 n [] hn (enc_le10 hn) (by simp)
/-- The size of a value's row and text. -/
def weigh (x : S29) : Nat := x.f4.length + x.f5.size
theorem great_loop (l : List S29) (hl : l.length ≤ 300) : ∀ (k j left : Nat), j ≤ l.length → l.length < k + j → left ≤ 20000 → tocsinlaw06_great.l0 k l left j = some (decide (left < ((l.drop j).map weigh).sum))
  | 0, j, left, hj, hk, _ => by omega
  | k + 1, j, left, hj, hk, hle => by
    rw [tocsinlaw06_great.l0]
    by_cases h : j < l.length
    · rw [if_pos (by omega), if_pos (by omega)]
      have e1 : rd_T29 l (j : Int) = l[j] := by
        unfold rd_T29; rw [Int.toNat_natCast, List.getD_eq_getElem?_getD, List.getElem?_eq_getElem h]; rfl
      rw [e1, List.drop_eq_getElem_cons h, List.map_cons, List.sum_cons]
      by_cases h1 : (l[j].f4.length : Int) > left
      · rw [if_pos h1]; congr 1; symm; exact decide_eq_true (by unfold weigh; omega)
      · rw [if_neg h1, wrap64_id _ (by omega) (by omega)]
        by_cases h2 : (l[j].f5.size : Int) > (left : Int) - l[j].f4.length
        · rw [if_pos h2]; congr 1; symm; exact decide_eq_true (by unfold weigh; omega)
        · rw [if_neg h2, wrap64_id _ (by omega) (by omega), wrap64_id _ (by omega) (by omega)]
          rw [show (left : Int) - l[j].f4.length - l[j].f5.size = ((left - weigh l[j] : Nat) : Int) by unfold weigh; omega, show (j : Int) + 1 = ((j + 1 : Nat) : Int) by omega, great_loop l hl k (j + 1) _ (by omega) (by omega) (by omega)]
          congr 1
          rw [decide_eq_decide]
          unfold weigh at *; omega
    · rw [if_neg (by omega), List.drop_eq_nil_of_le (by omega)]; simp
theorem great_some (l : List S29) : tocsinlaw06_great.f 301 l = some (decide (300 < l.length ∨ 20000 < (l.map weigh).sum)) := by
  unfold tocsinlaw06_great.f
  by_cases h : l.length > 300
  · rw [if_pos (by omega)]; congr 1; symm; exact decide_eq_true (.inl h)
  · rw [if_neg (by omega)]
    have := great_loop l (by omega) 301 0 20000 (by omega) (by omega) (by omega)
    rw [List.drop_zero] at this
    refine (show tocsinlaw06_great.l0 301 l 20000 0 = _ from this).trans ?_
    congr 1
    rw [decide_eq_decide]
    omega
end Go.Proofs.Ytekbbpbpkekdhaa.Cod
