/- The printed Great and All come to what they say. -/
import Derived.Test.YtfejhegogajnhaaAwakeW
import Derived.Test.YtfejhegogajnhaaOpenS
namespace Go.Proofs.Ytfejhegogajnhaa.Given
open Go.RowKit Go.Proofs.Crc Go.Proofs.Ytfejhegogajnhaa.PBase Go.Proofs.YtfejhegogajnhaaW.PrintWords Go.Proofs.YtfejhegogajnhaaW.PrintLast Go.Proofs.YtfejhegogajnhaaW.PrintMore
theorem sum_some {xs : List Int} (h : isB xs) (hl : xs.length ≤ 140737488355328) : crc_Sum.f xs = some ((sum (toB xs)).toNat : Int) := by unfold crc_Sum.f; rw [if_pos (okB_of h hl)]
def total (l : List (List Int)) : Nat := l.length + l.flatten.length
def smallL (l : List (List Int)) : Prop := ∀ x ∈ l, x.length ≤ 140737488351232
theorem rdL1 (l : List (List Int)) (i : Nat) (h : i < l.length) : rd_L1 l (i : Int) = l[i] := by
  unfold rd_L1; rw [Int.toNat_natCast, List.getD_eq_getElem?_getD, List.getElem?_eq_getElem h]; rfl
theorem total_append (a b : List (List Int)) : total (a ++ b) = total a + total b := by
  unfold total; rw [List.flatten_append, List.length_append, List.length_append]; omega
theorem total_succ (l : List (List Int)) (i : Nat) (h : i < l.length) : total (l.take (i + 1)) = total (l.take i) + 1 + l[i].length := by
  rw [List.take_succ_eq_append_getElem h, total_append]
  have : total [l[i]] = 1 + l[i].length := by unfold total; rw [List.flatten_cons, List.flatten_nil, List.append_nil]; rfl
  omega
theorem total_mono (l : List (List Int)) (i : Nat) : total (l.take i) ≤ total l := by
  have h := total_append (l.take i) (l.drop i)
  rw [List.take_append_drop] at h
  omega
theorem Great_pure (l : List (List Int)) (hs : smallL l) (hl : l.length < 9223372036854775807) (d : Nat) : ∀ (k i : Nat), i ≤ l.length → l.length - i = d → d < k → total (l.take i) ≤ 10000 →
    tocsinlaw02_Great.l0 k l ((total (l.take i) : Nat) : Int) (i : Int) = some (decide (10000 < total l)) := by
  induction d with
  | zero =>
    intro k i hi hd hk ht
    obtain ⟨k, rfl⟩ : ∃ m, k = m + 1 := ⟨k - 1, by omega⟩
    obtain rfl : i = l.length := by omega
    rw [List.take_length] at ht
    simp only [tocsinlaw02_Great.l0]; rw [if_neg (by omega)]; congr 1; symm; rw [decide_eq_false_iff_not]; omega
  | succ d ih =>
    intro k i hi hd hk ht
    obtain ⟨k, rfl⟩ : ∃ m, k = m + 1 := ⟨k - 1, by omega⟩
    have hlt : i < l.length := by omega
    have hx := hs _ (List.getElem_mem hlt)
    have hsucc := total_succ l i hlt
    have hle := total_mono l (i + 1)
    simp only [tocsinlaw02_Great.l0]
    rw [if_pos (by omega), if_pos (by omega), rdL1 l i hlt, w64 (n := (i : Int) + 1) (by omega) (by omega), w64 (n := ((total (l.take i) : Nat) : Int) + 1) (by omega) (by omega), w64 (by omega) (by omega)]
    rw [show ((total (l.take i) : Nat) : Int) + 1 + (l[i].length : Int) = ((total (l.take (i + 1)) : Nat) : Int) from by rw [hsucc]; omega]
    by_cases hg : 10000 < total (l.take (i + 1))
    · rw [if_pos (by omega)]; congr 1; symm; rw [decide_eq_true_iff]; omega
    · rw [if_neg (by omega), show (i : Int) + 1 = ((i + 1 : Nat) : Int) from by omega]
      exact ih k (i + 1) (by omega) (by omega) (by omega) (by omega)
theorem Great_some (l : List (List Int)) (hs : smallL l) (hl : l.length < 9223372036854775807) : tocsinlaw02_Great.f (l.length + 1) l = some (decide (10000 < total l)) := by
  have h := Great_pure l hs hl l.length (l.length + 1) 0 (by omega) (by omega) (by omega) (by simp [total])
  rw [show ((total (l.take 0) : Nat) : Int) = 0 from by simp [total]] at h
  exact h
theorem All_pure (l : List (List Int)) (ht : total l < 140737488355328) (d : Nat) : ∀ (k i : Nat), i ≤ l.length → l.length - i = d → d < k →
    tocsinref02_All.l0 k l (l.take i).flatten (i : Int) = some l.flatten := by
  induction d with
  | zero =>
    intro k i hi hd hk
    obtain ⟨k, rfl⟩ : ∃ m, k = m + 1 := ⟨k - 1, by omega⟩
    obtain rfl : i = l.length := by omega
    simp only [tocsinref02_All.l0]; rw [if_neg (by omega), List.take_length]
  | succ d ih =>
    intro k i hi hd hk
    obtain ⟨k, rfl⟩ : ∃ m, k = m + 1 := ⟨k - 1, by omega⟩
    have hlt : i < l.length := by omega
    have hsucc := total_succ l i hlt
    have hle := total_mono l (i + 1)
    have hll : l.length ≤ total l := by unfold total; omega
    have hfl : (l.take i).flatten.length ≤ total (l.take i) := by unfold total; omega
    simp only [tocsinref02_All.l0]
    rw [if_pos (by omega), if_pos (by omega), rdL1 l i hlt, if_pos (by omega), w64 (by omega) (by omega), show (i : Int) + 1 = ((i + 1 : Nat) : Int) from by omega]
    have e : (l.take i).flatten ++ l[i] = (l.take (i + 1)).flatten := by rw [List.take_succ_eq_append_getElem hlt, List.flatten_append, List.flatten_cons, List.flatten_nil, List.append_nil]
    rw [e]
    exact ih k (i + 1) (by omega) (by omega) (by omega)
theorem All_some (l : List (List Int)) (ht : total l < 140737488355328) : tocsinref02_All.f (l.length + 1) l = some l.flatten := All_pure l ht l.length (l.length + 1) 0 (by omega) (by omega) (by omega)
end Go.Proofs.Ytfejhegogajnhaa.Given
