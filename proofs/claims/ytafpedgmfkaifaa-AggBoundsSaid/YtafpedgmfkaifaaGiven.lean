/- What agg.Of tells, in the printer's own form. -/
import Derived.Test.YtafpedgmfkaifaaOf
import Derived.Test.YtafpedgmfkaifaaPBasex3
import Derived.Test.YtafpedgmfkaifaaPBasex4
namespace Go.Proofs.Ytafpedgmfkaifaa.Given
open Go.RowKit Go.Proofs.Ytafpedgmfkaifaa.PBase Go.Proofs.YtafpedgmfkaifaaW.PrintWords Go.Proofs.YtafpedgmfkaifaaW.PrintLast Go.Proofs.YtafpedgmfkaifaaW.PrintMore
def sat (x : Int) : Int := mn (mx x (-4611686018427387903)) 4611686018427387903
theorem sat_lo (x : Int) : -4611686018427387903 ≤ sat x := by unfold sat mn mx; split <;> split <;> omega
theorem sat_hi (x : Int) : sat x ≤ 4611686018427387903 := by unfold sat mn mx; split <;> split <;> omega
theorem sat_id {x : Int} (h0 : -4611686018427387903 ≤ x) (h1 : x ≤ 4611686018427387903) : sat x = x := by unfold sat mn mx; rw [if_neg (show ¬ x < -4611686018427387903 by omega), if_neg (by omega)]
def addI (a b : Int) : Int := sat (sat a + sat b)
theorem w64 {x : Int} (h0 : -9223372036854775808 ≤ x) (h1 : x ≤ 9223372036854775807) : wrap64 x = x := by unfold wrap64; omega
theorem add_some (a b : Int) : fixed_Add.f a b = some (addI a b) := by
  have h1 := sat_lo a; have h2 := sat_hi a; have h3 := sat_lo b; have h4 := sat_hi b
  show some (sat (wrap64 (sat a + sat b))) = _
  rw [w64 (by omega) (by omega)]; rfl
def sumV (xs : List Int) : Int := xs.foldl addI 0
theorem rd_eq {xs : List Int} {j : Nat} (h : j < xs.length) : rd xs (j : Int) = xs[j] := by
  unfold rd; rw [Int.toNat_natCast, List.getD_eq_getElem?_getD, List.getElem?_eq_getElem h]; rfl
theorem sum_loop (xs : List Int) (hl : xs.length ≤ 1000000) : ∀ (k j : Nat) (acc : Int), j ≤ xs.length → xs.length < k + j → agg_values_sum.l0 k acc xs (xs.length : Int) j = some ((xs.drop j).foldl addI acc)
  | 0, j, acc, hj, hk => by omega
  | k + 1, j, acc, hj, hk => by
    rw [agg_values_sum.l0]
    by_cases h : j < xs.length
    · rw [if_pos (by omega), if_pos (by omega), if_pos (by omega), rd_eq h, add_some, Option.bind_some, w64 (by omega) (by omega)]
      have := sum_loop xs hl k (j + 1) (addI acc xs[j]) (by omega) (by omega)
      rw [show ((j : Int) + 1) = ((j + 1 : Nat) : Int) by omega, this, List.drop_eq_getElem_cons h, List.foldl_cons]
    · rw [if_neg (by omega), List.drop_eq_nil_of_le (by omega)]; rfl
theorem sum_some (xs : List Int) (hl : xs.length ≤ 1000000) : agg_values_sum.f (xs.length + 1) xs = some (sumV xs) := by
  have := sum_loop xs hl (xs.length + 1) 0 0 (by omega) (by omega)
  rw [List.drop_zero] at this
  exact this
def meanV (s : Int) (n : Nat) : Int := if n = 0 then 0 else (sat s).tdiv n
theorem tdiv_bound {x : Int} {n : Nat} (h0 : -4611686018427387903 ≤ x) (h1 : x ≤ 4611686018427387903) : -4611686018427387903 ≤ x.tdiv n ∧ x.tdiv n ≤ 4611686018427387903 := by
  have h := Int.natAbs_tdiv x (n : Int)
  have h2 : (x.tdiv n).natAbs ≤ x.natAbs := by rw [h]; exact Nat.div_le_self _ _
  omega
theorem mean_some (s : Int) (n : Nat) : fixed_Mean.f s (n : Int) = some (meanV s n) := by
  unfold fixed_Mean.f meanV
  by_cases h : n = 0
  · subst h; rfl
  · rw [if_neg (by omega), if_neg h]
    show (if (n : Int) = 0 then none else some (wrap64 ((sat s).tdiv n))) = _
    have h1 := sat_lo s; have h2 := sat_hi s
    have := tdiv_bound (n := n) h1 h2
    rw [if_neg (by omega), w64 (by omega) (by omega)]
/-- What values come to, by the aggregate's number. -/
def aggV (a : Int) (xs : List Int) : Int :=
  if a = 0 then 1000 * (xs.length : Int) else if a = 1 then sumV xs else if a = 2 then minL xs else if a = 3 then maxL xs else if a = 4 then meanV (sumV xs) xs.length else rd xs ((xs.length - 1 : Nat) : Int)
def agg_Of.f (a0 : Int) (l1 : List S30) : Option (Int × Bool) :=
  if 100000 < l1.length ∨ a0 < 0 ∨ 255 < a0 then none else if 6 ≤ a0 ∨ (2 ≤ a0 ∧ l1.length = 0) then some (0, false) else some (aggV a0 (vals l1), true)
theorem vals_len (l : List S30) : (vals l).length = l.length := List.length_map _
theorem agg_Of.calls (a0 : Int) (A1 : Option Addr) (c1 : Nat) (l1 : List (S30)) (r1 : Int) (r2 : Bool) (w : World) (hr1 : Kd.C k30 w A1 l1.length l1) (hc1 : l1.length ≤ c1) (h : agg_Of.f a0 l1 = some (r1, r2)) :
    Calls Try.prog 7 #[.int .u8 a0, .slice A1 l1.length c1] w fun e w' => e = .returned (.tuple #[.int .i64 r1, .bool r2]) ∧ Below w.heap.size w w' := by
  unfold agg_Of.f at h
  split at h
  · cases h
  rename_i hb
  split at h
  · rename_i h2
    injection h with h; injection h with h3 h4; subst h3 h4
    rcases h2 with h2 | ⟨h2, h3⟩
    · exact Of_big A1 c1 l1 a0 w h2 (by omega)
    · by_cases h6 : 6 ≤ a0
      · exact Of_big A1 c1 l1 a0 w h6 (by omega)
      · rw [h3]; exact Of_nil A1 c1 a0 w h2 (by omega)
  · rename_i h2
    injection h with h; injection h with h3 h4; subst h3 h4
    have hl : l1.length ≤ 100000 := by omega
    have hv := vals_len l1
    rcases (show a0 = 0 ∨ a0 = 1 ∨ a0 = 2 ∨ a0 = 3 ∨ a0 = 4 ∨ a0 = 5 by omega) with rfl | rfl | rfl | rfl | rfl | rfl
    · refine Of_0 A1 c1 l1 _ _ w hr1 hl rfl ⟨fun B d W hd hW => ?_⟩
      refine (agg_values_count.calls B d (vals l1) _ W hW hd ?_).mono fun e w' h => ⟨h.1, h.2.below⟩
      show some (wrap64 (((vals l1).length : Int) * 1000)) = _
      rw [w64 (by omega) (by omega), Int.mul_comm]; rfl
    · refine Of_1 A1 c1 l1 _ _ w hr1 hl rfl ⟨fun B d W hd hW => ?_⟩
      exact agg_values_sum.calls _ B d (vals l1) _ W hW hd (sum_some _ (by omega))
    · have h0 : ((l1.length : Int) == 0) = false := by rw [beq_eq_false_iff_ne]; omega
      refine Of_2 A1 c1 l1 _ w hr1 hl h0 ⟨fun B d W hd hW => ?_⟩
      exact (least_any B d (vals l1) W hW (by omega) (by omega)).mono fun e w' ⟨he, hw⟩ => ⟨he, hw ▸ Below.refl _ _⟩
    · have h0 : ((l1.length : Int) == 0) = false := by rw [beq_eq_false_iff_ne]; omega
      refine Of_3 A1 c1 l1 _ w hr1 hl h0 ⟨fun B d W hd hW => ?_⟩
      exact (most_any B d (vals l1) W hW (by omega) (by omega)).mono fun e w' ⟨he, hw⟩ => ⟨he, hw ▸ Below.refl _ _⟩
    · have h0 : ((l1.length : Int) == 0) = false := by rw [beq_eq_false_iff_ne]; omega
      refine Of_4 A1 c1 l1 _ w hr1 hl h0 ⟨fun B d W hd hW => ?_⟩
      refine agg_values_mean.calls ((vals l1).length + 1) B d (vals l1) _ W hW hd ?_
      unfold agg_values_mean.f
      rw [sum_some _ (by omega), Option.bind_some, mean_some, Option.bind_some]; rfl
    · have h0 : ((l1.length : Int) == 0) = false := by rw [beq_eq_false_iff_ne]; omega
      refine Of_5 A1 c1 l1 _ w hr1 hl h0 ⟨fun B d W hd hW => ?_⟩
      refine (agg_values_last.calls B d (vals l1) _ W hW hd ?_).mono fun e w' h => ⟨h.1, h.2.below⟩
      unfold agg_values_last.f
      rw [w64 (by omega) (by omega), if_pos (by omega), if_pos (by omega)]
      show some _ = some (rd (vals l1) (((vals l1).length - 1 : Nat) : Int))
      rw [show (((vals l1).length - 1 : Nat) : Int) = ((vals l1).length : Int) - 1 by omega]
end Go.Proofs.Ytafpedgmfkaifaa.Given
