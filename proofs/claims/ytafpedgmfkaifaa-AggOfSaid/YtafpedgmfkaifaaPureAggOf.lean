/- What samples come to is what the reference says: plain. -/
import Derived.Test.YtafpedgmfkaifaaPAllx1
import Derived.Test.YtafpedgmfkaifaaPureAggHolds
namespace Go.Proofs.Ytafpedgmfkaifaa.Pure
open Go.RowKit Go.Proofs.Ytafpedgmfkaifaa.PBase Go.Proofs.Ytafpedgmfkaifaa.Given Go.Proofs.Ytafpedgmfkaifaa.PAll Go.Proofs.YtafpedgmfkaifaaW.PrintWords Go.Proofs.YtafpedgmfkaifaaW.PrintLast
theorem refSat (x : Int) : PBase.tocsinref01_Sat.f x = some (sat x) := by
  unfold PBase.tocsinref01_Sat.f sat mn mx
  by_cases h1 : x > 4611686018427387903
  · rw [if_pos h1, if_neg (show ¬ x < -4611686018427387903 by omega), if_pos (show 4611686018427387903 < x by omega)]
  · rw [if_neg h1]
    by_cases h2 : x < -4611686018427387903
    · rw [if_pos h2, if_pos h2]; rfl
    · rw [if_neg h2, if_neg h2, if_neg (show ¬ 4611686018427387903 < x by omega)]
theorem refAdd (a b : Int) : PBase.tocsinref01_Add.f a b = some (addI a b) := by
  have h1 := sat_lo a; have h2 := sat_hi a; have h3 := sat_lo b; have h4 := sat_hi b
  unfold PBase.tocsinref01_Add.f
  rw [refSat, Option.bind_some, refSat, Option.bind_some, refSat, Option.bind_some, w64 (by omega) (by omega)]; rfl
theorem refMean (s : Int) (n : Nat) : PBase.tocsinref01_Mean.f s (n : Int) = some (meanV s n) := by
  unfold PBase.tocsinref01_Mean.f meanV
  by_cases h : n = 0
  · subst h; rfl
  · rw [if_neg (by omega), if_neg h, refSat, Option.bind_some]
    have h1 := sat_lo s; have h2 := sat_hi s
    have := tdiv_bound (n := n) h1 h2
    rw [if_neg (by omega), w64 (by omega) (by omega)]
theorem rd30 {l : List S30} {j : Nat} (h : j < l.length) : (rd_T30 l (j : Int)).f1 = rd (vals l) (j : Int) := by
  rw [rd_eq (by rw [vals_len]; exact h)]
  unfold rd_T30 vals
  rw [Int.toNat_natCast, List.getD_eq_getElem?_getD, List.getElem?_eq_getElem h]; simp
theorem ref_l1 (a : Int) (l : List S30) (s : Int) (hl : l.length ≤ 100000) (hn : 0 < l.length) (ha : 2 ≤ a ∧ a ≤ 5) (B : Nat → Int)
    (h2 : a = 2 → B = minN (vals l)) (h3 : a = 3 → B = maxN (vals l)) :
    ∀ (k j : Nat) (b : Int), j ≤ l.length → l.length < k + j → (a = 2 ∨ a = 3 → b = B j) →
      tocsinref18_Of.l1 k a l s b j = some (if a = 4 then meanV s l.length else if a = 5 then rd (vals l) ((l.length - 1 : Nat) : Int) else B l.length, true)
  | 0, j, b, hj, hk, _ => by omega
  | k + 1, j, b, hj, hk, hb => by
    rw [tocsinref18_Of.l1]
    by_cases h : j < l.length
    · have ih := fun b' hb' => ref_l1 a l s hl hn ha B h2 h3 k (j + 1) b' (by omega) (by omega) hb'
      rw [if_pos (by omega), rd30 h, w64 (by omega) (by omega), show ((j : Int) + 1) = ((j + 1 : Nat) : Int) by omega]
      by_cases e2 : a = 2
      · have hB := hb (.inl e2)
        rw [if_pos e2, if_pos (by omega)]
        by_cases hlt : rd (vals l) (j : Int) < b
        · rw [if_pos hlt]
          refine ih _ fun _ => ?_
          rw [h2 e2] at hB ⊢
          show _ = if rd (vals l) (j : Int) < minN (vals l) j then rd (vals l) (j : Int) else minN (vals l) j
          rw [← hB, if_pos hlt]
        · rw [if_neg hlt, if_neg (by omega)]
          refine ih _ fun _ => ?_
          rw [h2 e2] at hB ⊢
          show _ = if rd (vals l) (j : Int) < minN (vals l) j then rd (vals l) (j : Int) else minN (vals l) j
          rw [← hB, if_neg hlt]
      · rw [if_neg e2]
        by_cases e3 : a = 3
        · have hB := hb (.inr e3)
          rw [if_pos e3, if_pos (by omega)]
          by_cases hlt : rd (vals l) (j : Int) > b
          · rw [if_pos hlt]
            refine ih _ fun _ => ?_
            rw [h3 e3] at hB ⊢
            show _ = if maxN (vals l) j < rd (vals l) (j : Int) then rd (vals l) (j : Int) else maxN (vals l) j
            rw [← hB, if_pos hlt]
          · rw [if_neg hlt]
            refine ih _ fun _ => ?_
            rw [h3 e3] at hB ⊢
            show _ = if maxN (vals l) j < rd (vals l) (j : Int) then rd (vals l) (j : Int) else maxN (vals l) j
            rw [← hB, if_neg hlt]
        · rw [if_neg e3]
          exact ih _ fun h => by omega
    · rw [if_neg (by omega)]
      obtain rfl : j = l.length := by omega
      by_cases e4 : a = 4
      · rw [if_pos e4, if_pos e4, refMean, Option.bind_some]
      · rw [if_neg e4, if_neg e4]
        by_cases e5 : a = 5
        · rw [if_pos e5, if_pos e5, w64 (by omega) (by omega), if_pos (by omega), if_pos (by omega), ← rd30 (by omega), show ((l.length : Int) - 1) = ((l.length - 1 : Nat) : Int) by omega]
        · rw [if_neg e5, if_neg e5, hb (by omega)]
theorem ref_l0 (a : Int) (l : List S30) (hl : l.length ≤ 100000) (K : Nat) :
    ∀ (k j : Nat) (s : Int), j ≤ l.length → l.length + K < k + j →
      ∃ k', K ≤ k' ∧ tocsinref18_Of.l0 k a l s j = (if a = 1 then (some (((vals l).drop j).foldl addI s, true)) else (if (l.length : Int) = 0 then (tocsinref18_Of.j1 k' a l (((vals l).drop j).foldl addI s) true) else (tocsinref18_Of.j1 k' a l (((vals l).drop j).foldl addI s) (decide (a > 5)))))
  | 0, j, s, hj, hk => by omega
  | k + 1, j, s, hj, hk => by
    rw [tocsinref18_Of.l0]
    by_cases h : j < l.length
    · rw [if_pos (by omega), if_pos (by omega), rd30 h, refAdd, Option.bind_some, w64 (by omega) (by omega), show ((j : Int) + 1) = ((j + 1 : Nat) : Int) by omega]
      obtain ⟨k', hk', e⟩ := ref_l0 a l hl K k (j + 1) (addI s (rd (vals l) (j : Int))) (by omega) (by omega)
      have hv : j < (vals l).length := by rw [vals_len]; exact h
      exact ⟨k', hk', by rw [e, List.drop_eq_getElem_cons hv, List.foldl_cons, rd_eq hv]⟩
    · rw [if_neg (by omega), List.drop_eq_nil_of_le (by rw [vals_len]; omega)]
      exact ⟨k, by omega, rfl⟩
theorem refOf (a : Int) (l : List S30) (hl : l.length ≤ 100000) (h0 : 0 ≤ a) (h1 : a ≤ 255) : tocsinref18_Of.f (2 * l.length + 10) a l = agg_Of.f a l := by
  unfold tocsinref18_Of.f agg_Of.f
  rw [if_neg (show ¬ (100000 < l.length ∨ a < 0 ∨ 255 < a) by omega)]
  by_cases e0 : a = 0
  · subst e0
    rw [if_pos rfl, if_neg (by omega), w64 (by omega) (by omega)]
    unfold aggV
    rw [if_pos rfl, vals_len]
  · rw [if_neg e0]
    obtain ⟨k', hk', e⟩ := ref_l0 a l hl (l.length + 5) (2 * l.length + 10) 0 0 (by omega) (by omega)
    rw [show ((0 : Nat) : Int) = 0 from rfl] at e
    rw [e, List.drop_zero]
    obtain ⟨k'', rfl⟩ : ∃ m, k' = m + 1 := ⟨k' - 1, by omega⟩
    by_cases e1 : a = 1
    · subst e1; rw [if_pos rfl, if_neg (by omega)]; rfl
    · rw [if_neg e1]
      by_cases hz : l.length = 0
      · rw [if_pos (by omega), if_pos (by omega), tocsinref18_Of.j1, if_pos rfl]
      · rw [if_neg (by omega)]
        by_cases h6 : 6 ≤ a
        · rw [if_pos (.inl h6), decide_eq_true (show a > 5 by omega), tocsinref18_Of.j1, if_pos rfl]
        · rw [if_neg (by omega), decide_eq_false (show ¬ a > 5 by omega), tocsinref18_Of.j1, if_neg (by simp), if_pos (by omega)]
          have h := ref_l1 a l ((vals l).foldl addI 0) hl (by omega) (by omega) (if a = 2 then minN (vals l) else maxN (vals l)) (fun h => if_pos h) (fun h => if_neg (by omega)) k'' 0 ((rd_T30 l 0).f1) (by omega) (by omega) (fun h => by
            have hr : (rd_T30 l 0).f1 = rd (vals l) 0 := rd30 (j := 0) (by omega)
            rw [hr]; split <;> rfl)
          rw [show ((0 : Nat) : Int) = 0 from rfl] at h
          rw [h]
          unfold aggV sumV minL maxL
          rw [if_neg e0, if_neg e1, vals_len]
          rcases (show a = 2 ∨ a = 3 ∨ a = 4 ∨ a = 5 by omega) with rfl | rfl | rfl | rfl <;> rfl
theorem same_l0 (xs : List S30) (hl : xs.length ≤ 100000) : ∀ (k j : Nat), j ≤ xs.length → xs.length < k + j → tocsinref16_Same.l0 k xs xs j = some true
  | 0, j, hj, hk => by omega
  | k + 1, j, hj, hk => by
    rw [tocsinref16_Same.l0]
    by_cases h : j < xs.length
    · rw [if_pos (by omega), if_pos (by omega), if_pos (by omega), if_neg (by simp), w64 (by omega) (by omega)]
      exact same_l0 xs hl k (j + 1) (by omega) (by omega)
    · rw [if_neg (by omega)]
theorem same_self (xs : List S30) (hl : xs.length ≤ 100000) (k : Nat) (hk : xs.length < k) : tocsinref16_Same.f k xs xs = some true := by
  unfold tocsinref16_Same.f
  rw [if_pos rfl]
  exact same_l0 xs hl k 0 (by omega) (by omega)
theorem AggOf (a : Int) (l : List S30) (h0 : 0 ≤ a) (h1 : a ≤ 255) : ∃ k, tocsinlaw18_AggOf.f k a l = some true := by
  refine ⟨2 * l.length + 10, ?_⟩
  unfold tocsinlaw18_AggOf.f
  by_cases h : (l.length : Int) > 2000
  · rw [if_pos h]
  · rw [if_neg h, Option.bind_some, if_pos (by simp; omega), Option.bind_some, List.nil_append, refOf a l (by omega) h0 h1, same_self l (by omega) _ (by omega), awake_some]
    have : ∃ r, agg_Of.f a l = some r := by
      unfold agg_Of.f
      rw [if_neg (show ¬ (100000 < l.length ∨ a < 0 ∨ 255 < a) by omega)]
      split <;> exact ⟨_, rfl⟩
    obtain ⟨r, hr⟩ := this
    rw [hr]; simp
end Go.Proofs.Ytafpedgmfkaifaa.Pure
