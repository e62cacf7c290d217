/- What the reference's Same, Expire, Window tell: plain. -/
import Derived.Test.YtcaagnfhefkoiaaWi
namespace Go.Proofs.Ytcaagnfhefkoiaa.Rg
open Go.RowKit Go.Proofs.Ytcaagnfhefkoiaa.PBase Go.Proofs.YtcaagnfhefkoiaaW.PrintWords Go.Proofs.YtcaagnfhefkoiaaW.PrintLast Go.Proofs.YtcaagnfhefkoiaaW.PrintMore
theorem rd_get {l : List S29} {i : Nat} {x : S29} (h : l[i]? = some x) : rd_T29 l (i : Int) = x := by
  unfold rd_T29; rw [Int.toNat_natCast, List.getD_eq_getElem?_getD, h]; rfl
theorem w64 {x : Int} (h0 : -9223372036854775808 ≤ x) (h1 : x < 9223372036854775808) : wrap64 x = x := by simp only [wrap64]; omega
theorem same_loop (a : List S29) (ha : a.length ≤ 100000) : ∀ k i : Nat, i ≤ a.length → a.length - i < k → tocsinref16_Same.l0 k a a (i : Int) = some true
  | 0, _, _, h => by omega
  | k + 1, i, hi, h => by
    rw [tocsinref16_Same.l0]
    by_cases hl : i < a.length
    · rw [if_pos (by omega), if_pos (by omega), if_pos (by omega), if_neg (by simp), w64 (by omega) (by omega), show (i : Int) + 1 = ((i + 1 : Nat) : Int) by omega]
      exact same_loop a ha k (i + 1) (by omega) (by omega)
    · rw [if_neg (by omega)]
theorem same_true (a : List S29) (ha : a.length ≤ 100000) : tocsinref16_Same.f (a.length + 1) a a = some true := by
  unfold tocsinref16_Same.f
  rw [if_pos rfl]
  exact same_loop a ha (a.length + 1) 0 (by omega) (by omega)
theorem s29_eta (x : S29) : (⟨x.f0, x.f1⟩ : S29) = x := rfl
theorem window_loop (l : List S29) (fr tt : Int) (hl : l.length ≤ 100000) : ∀ (k i : Nat) (out : List S29), i ≤ l.length → out.length ≤ i → l.length - i < k → tocsinref16_Window.l0 k l fr tt out (i : Int) = some (out ++ winF fr tt (l.drop i))
  | 0, _, _, _, _, h => by omega
  | k + 1, i, out, hi, ho, h => by
    rw [tocsinref16_Window.l0]
    by_cases hlt : i < l.length
    · obtain ⟨x, hx⟩ : ∃ x, l[i]? = some x := ⟨_, List.getElem?_eq_getElem hlt⟩
      have hd : l.drop i = x :: l.drop (i + 1) := by rw [List.drop_eq_getElem_cons hlt]; congr 1; exact (List.getElem?_eq_some_iff.1 hx).2
      rw [if_pos (by omega), if_pos (by omega), rd_get hx, w64 (by omega) (by omega), show (i : Int) + 1 = ((i + 1 : Nat) : Int) by omega, hd, s29_eta]
      by_cases h1 : fr < x.f0
      · rw [if_pos h1]
        by_cases h2 : x.f0 ≤ tt
        · rw [if_pos h2, if_pos (by omega), window_loop l fr tt hl k (i + 1) (out ++ [x]) (by omega) (by rw [List.length_append]; simp; omega) (by omega)]
          unfold winF
          rw [List.filter_cons_of_pos (by simp; omega), List.append_assoc]; rfl
        · rw [if_neg h2, window_loop l fr tt hl k (i + 1) out (by omega) (by omega) (by omega)]
          unfold winF
          rw [List.filter_cons_of_neg (by simp; omega)]
      · rw [if_neg h1, window_loop l fr tt hl k (i + 1) out (by omega) (by omega) (by omega)]
        unfold winF
        rw [List.filter_cons_of_neg (by simp; omega)]
    · rw [if_neg (by omega), List.drop_eq_nil_of_le (by omega)]
      simp [winF]
theorem ref_window (l : List S29) (fr tt : Int) (hl : l.length ≤ 100000) : tocsinref16_Window.f (l.length + 1) l fr tt = some (winF fr tt l) := by
  have := window_loop l fr tt hl (l.length + 1) 0 [] (by omega) (by simp) (by omega)
  unfold tocsinref16_Window.f
  simpa using this
theorem expire_loop (l : List S29) (t : Int) (hl : l.length ≤ 100000) : ∀ (k i : Nat) (out : List S29), i ≤ l.length → out.length ≤ i → l.length - i < k → tocsinref16_Expire.l0 k l t out (i : Int) = some (out ++ (l.drop i).filter fun x => decide (t < x.f0))
  | 0, _, _, _, _, h => by omega
  | k + 1, i, out, hi, ho, h => by
    rw [tocsinref16_Expire.l0]
    by_cases hlt : i < l.length
    · obtain ⟨x, hx⟩ : ∃ x, l[i]? = some x := ⟨_, List.getElem?_eq_getElem hlt⟩
      have hd : l.drop i = x :: l.drop (i + 1) := by rw [List.drop_eq_getElem_cons hlt]; congr 1; exact (List.getElem?_eq_some_iff.1 hx).2
      rw [if_pos (by omega), if_pos (by omega), rd_get hx, w64 (by omega) (by omega), show (i : Int) + 1 = ((i + 1 : Nat) : Int) by omega, hd, s29_eta]
      by_cases h1 : t < x.f0
      · rw [if_pos h1, if_pos (by omega), expire_loop l t hl k (i + 1) (out ++ [x]) (by omega) (by rw [List.length_append]; simp; omega) (by omega)]
        rw [List.filter_cons_of_pos (by simpa using h1), List.append_assoc]; rfl
      · rw [if_neg h1, expire_loop l t hl k (i + 1) out (by omega) (by omega) (by omega)]
        rw [List.filter_cons_of_neg (by simpa using h1)]
    · rw [if_neg (by omega), List.drop_eq_nil_of_le (by omega)]
      simp
theorem ref_expire (l : List S29) (t : Int) (hl : l.length ≤ 100000) : tocsinref16_Expire.f (l.length + 1) l t = some (l.filter fun x => decide (t < x.f0)) := by
  have := expire_loop l t hl (l.length + 1) 0 [] (by omega) (by simp) (by omega)
  unfold tocsinref16_Expire.f
  simpa using this
end Go.Proofs.Ytcaagnfhefkoiaa.Rg
