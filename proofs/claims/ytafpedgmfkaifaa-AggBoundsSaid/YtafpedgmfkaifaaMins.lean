/- What slices.Min and slices.Max of whole numbers, and agg's values.least, values.most do: the walks. -/
import Derived.Test.YtafpedgmfkaifaaPBasex5
import Derived.Test.YtafpedgmfkaifaaPBasex2
import Derived.Outline
import Derived.Lib.Hide
namespace Go.Proofs.Ytafpedgmfkaifaa.Given
open Go.RowKit Go.Proofs.Ytafpedgmfkaifaa.PBase Go.Proofs.YtafpedgmfkaifaaW.PrintWords Go.Proofs.YtafpedgmfkaifaaW.PrintLast Go.Proofs.YtafpedgmfkaifaaW.PrintMore
attribute [local go_sem] max2_int min2_int max_two min_two
/-- The least of the first k. -/
def minN (xs : List Int) : Nat → Int
  | 0 => rd xs 0
  | k + 1 => if rd xs (k : Int) < minN xs k then rd xs (k : Int) else minN xs k
def maxN (xs : List Int) : Nat → Int
  | 0 => rd xs 0
  | k + 1 => if maxN xs k < rd xs (k : Int) then rd xs (k : Int) else maxN xs k
def minL (xs : List Int) : Int := minN xs xs.length
def maxL (xs : List Int) : Int := maxN xs xs.length
theorem add_zero' (ad : Addr) : ad.add 0 = ad := by
  unfold Addr.add
  split
  · cases ad; simp_all
  · cases ad; simp_all

set_option maxHeartbeats 400000 in
set_option maxRecDepth 100000 in
theorem min_any (A : Option Addr) (c : Nat) (xs : List Int) (w : World) (hr : Kd.C (Kd.int .i64) w A xs.length xs) (h0 : 1 ≤ xs.length) (hl : xs.length ≤ 9223372036854775807) :
    Calls Try.prog 25 #[.slice A xs.length c] w fun e w' => e = .returned (.int .i64 (minL xs)) ∧ w' = w := by
  have HR := Aside0.mk hr
  obtain ⟨ad, e0, hx0⟩ := Kd.at_int hr 0 (by omega) (by omega)
  cases e0
  have hx1 : w.cell? ad = some (.int .i64 (rd xs 0)) := by rw [← add_zero' ad]; exact hx0
  clear hr hx0
  have hd : decide ((xs.length : Int) < 1) = false := decide_eq_false (by omega)
  go_enter Try.func25, Try.ntmps25
  go_wp2
  go_loop [3, 4] (fun m i => ∃ k : Nat, 1 ≤ k ∧ k ≤ xs.length ∧ i = .int .i64 (k : Int) ∧ m = .int .i64 (minN xs k)) (fun _ i => xs.length - (intOf i).toNat)
  case atStart => exact ⟨1, Nat.le_refl _, h0, rfl, by simp [minN]⟩
  case round =>
    obtain ⟨k, hk1, hk, rfl, rfl⟩ := hrel
    by_cases hlt : k < xs.length
    · obtain ⟨ad2, e2, hx⟩ := Kd.at_int HR.out (k : Int) (by omega) (by omega)
      cases e2
      have HM := Aside0.mk (show minN xs (k + 1) = if rd xs (k : Int) < minN xs k then rd xs (k : Int) else minN xs k from rfl)
      simp only [Int.toNat_natCast] at hx
      go_wp2
      go_round
      case rel => exact ⟨k + 1, by omega, by omega, by go_num, by rw [HM.out]⟩
      case measure => simp [intOf]; omega
    · obtain rfl : k = xs.length := by omega
      go_wp2
      go_ret
      exact ⟨rfl, rfl⟩
set_option maxHeartbeats 400000 in
theorem least_any (A : Option Addr) (c : Nat) (xs : List Int) (w : World) (hr : Kd.C (Kd.int .i64) w A xs.length xs) (h0 : 1 ≤ xs.length) (hl : xs.length ≤ 9223372036854775807) :
    Calls Try.prog 19 #[.slice A xs.length c] w fun e w' => e = .returned (.int .i64 (minL xs)) ∧ w' = w := by
  have HR := Aside0.mk hr
  clear hr
  go_enter Try.func19, Try.ntmps19
  go_wp2_with fail
  refine (min_any A c xs w HR.out h0 hl).mono ?_
  rintro e w1 ⟨rfl, rfl⟩
  go_wp2_with fail
  go_ret
  exact ⟨rfl, rfl⟩

set_option maxHeartbeats 400000 in
set_option maxRecDepth 100000 in
theorem max_any (A : Option Addr) (c : Nat) (xs : List Int) (w : World) (hr : Kd.C (Kd.int .i64) w A xs.length xs) (h0 : 1 ≤ xs.length) (hl : xs.length ≤ 9223372036854775807) :
    Calls Try.prog 26 #[.slice A xs.length c] w fun e w' => e = .returned (.int .i64 (maxL xs)) ∧ w' = w := by
  have HR := Aside0.mk hr
  obtain ⟨ad, e0, hx0⟩ := Kd.at_int hr 0 (by omega) (by omega)
  cases e0
  have hx1 : w.cell? ad = some (.int .i64 (rd xs 0)) := by rw [← add_zero' ad]; exact hx0
  clear hr hx0
  have hd : decide ((xs.length : Int) < 1) = false := decide_eq_false (by omega)
  go_enter Try.func26, Try.ntmps26
  go_wp2
  go_loop [3, 4] (fun m i => ∃ k : Nat, 1 ≤ k ∧ k ≤ xs.length ∧ i = .int .i64 (k : Int) ∧ m = .int .i64 (maxN xs k)) (fun _ i => xs.length - (intOf i).toNat)
  case atStart => exact ⟨1, Nat.le_refl _, h0, rfl, by simp [maxN]⟩
  case round =>
    obtain ⟨k, hk1, hk, rfl, rfl⟩ := hrel
    by_cases hlt : k < xs.length
    · obtain ⟨ad2, e2, hx⟩ := Kd.at_int HR.out (k : Int) (by omega) (by omega)
      cases e2
      have HM := Aside0.mk (show maxN xs (k + 1) = if maxN xs k < rd xs (k : Int) then rd xs (k : Int) else maxN xs k from rfl)
      simp only [Int.toNat_natCast] at hx
      go_wp2
      go_round
      case rel => exact ⟨k + 1, by omega, by omega, by go_num, by rw [HM.out]⟩
      case measure => simp [intOf]; omega
    · obtain rfl : k = xs.length := by omega
      go_wp2
      go_ret
      exact ⟨rfl, rfl⟩
set_option maxHeartbeats 400000 in
theorem most_any (A : Option Addr) (c : Nat) (xs : List Int) (w : World) (hr : Kd.C (Kd.int .i64) w A xs.length xs) (h0 : 1 ≤ xs.length) (hl : xs.length ≤ 9223372036854775807) :
    Calls Try.prog 20 #[.slice A xs.length c] w fun e w' => e = .returned (.int .i64 (maxL xs)) ∧ w' = w := by
  have HR := Aside0.mk hr
  clear hr
  go_enter Try.func20, Try.ntmps20
  go_wp2_with fail
  refine (max_any A c xs w HR.out h0 hl).mono ?_
  rintro e w1 ⟨rfl, rfl⟩
  go_wp2_with fail
  go_ret
  exact ⟨rfl, rfl⟩
end Go.Proofs.Ytafpedgmfkaifaa.Given
