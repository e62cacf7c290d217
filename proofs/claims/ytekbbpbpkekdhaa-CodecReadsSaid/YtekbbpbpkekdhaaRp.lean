/- How a number is read, in plain mathematics. -/
import Derived.Test.YtekbbpbpkekdhaaRu
import Derived.Laws.DeepNot64
namespace Go.Proofs.Ytekbbpbpkekdhaa.Cod
open Go.RowKit
theorem pow_step {i : Nat} (h : i ≤ 8) : 2 ^ (64 - 7 * i) = 128 * 2 ^ (64 - 7 * (i + 1)) := by
  rw [show 64 - 7 * i = 7 + (64 - 7 * (i + 1)) by omega, Nat.pow_add]
theorem mul_step (a b i : Nat) : (a + 128 * b) * 2 ^ (7 * i) = a * 2 ^ (7 * i) + b * 2 ^ (7 * (i + 1)) := by
  rw [show 7 * (i + 1) = 7 * i + 7 by omega, Nat.pow_add, Nat.add_mul, Nat.mul_comm (2 ^ (7 * i)), ← Nat.mul_assoc, Nat.mul_comm b]
theorem rdU_sound : ∀ (f i v : Nat) (xs : List Int) (n : Nat) (r : List Int), f + i = 10 → isB xs → rdU f i v xs = some (n, r) → ∃ m, n = v + m * 2 ^ (7 * i) ∧ xs = enc m ++ r ∧ m < 2 ^ (64 - 7 * i) ∧ (0 < i → 0 < m)
  | 0, _, _, _, _, _, _, _, h => by cases h
  | _ + 1, _, _, [], _, _, _, _, h => by cases h
  | f + 1, i, v, x :: xs, n, r, hf, hx, h => by
    have hx0 := hx x List.mem_cons_self
    obtain ⟨y, rfl⟩ := Int.eq_ofNat_of_zero_le hx0.1
    rw [rdU] at h
    by_cases h9 : i = 9 ∧ 1 < (y : Int)
    · rw [if_pos h9] at h; cases h
    rw [if_neg h9] at h
    by_cases h128 : (y : Int) < 128
    · rw [if_pos h128] at h
      by_cases h0 : (y : Int) = 0 ∧ 0 < i
      · rw [if_pos h0] at h; cases h
      rw [if_neg h0] at h
      simp only [Option.some.injEq, Prod.mk.injEq] at h
      obtain ⟨rfl, rfl⟩ := h
      refine ⟨y, by rw [Int.toNat_natCast], by rw [enc_small (by omega)]; rfl, ?_, fun hi => by omega⟩
      by_cases hi : i = 9
      · subst hi
        show y < 2
        omega
      · have : 2 ^ 7 ≤ 2 ^ (64 - 7 * i) := Nat.pow_le_pow_right (by omega) (by omega)
        omega
    · rw [if_neg h128] at h
      obtain ⟨m, hn, he, hm, hp⟩ := rdU_sound f (i + 1) _ xs n r (by omega) (fun z hz => hx z (List.mem_cons_of_mem _ hz)) h
      have hm0 := hp (by omega)
      have hi8 : i ≤ 8 := by omega
      refine ⟨(y - 128) + 128 * m, ?_, ?_, ?_, fun _ => by omega⟩
      · rw [hn, Int.toNat_natCast, mul_step, Nat.add_assoc]
      · rw [enc_big (by omega), show ((y - 128) + 128 * m) / 128 = m by omega, show ((y - 128) + 128 * m) % 128 + 128 = y by omega, he]
        rfl
      · rw [pow_step hi8]; omega
theorem rdU_enc : ∀ (f i v m : Nat) (r : List Int), f + i = 10 → m < 2 ^ (64 - 7 * i) → (0 < i → 0 < m) → i ≤ 9 → rdU f i v (enc m ++ r) = some (v + m * 2 ^ (7 * i), r)
  | 0, i, _, _, _, hf, _, _, hi => by omega
  | f + 1, i, v, m, r, hf, hm, hp, hi => by
    by_cases h128 : m < 128
    · rw [enc_small h128]
      show rdU (f + 1) i v ((m : Int) :: r) = _
      rw [rdU, if_neg, if_pos (by omega), if_neg, Int.toNat_natCast]
      · rintro ⟨h, h'⟩
        have := hp h'
        omega
      · rintro ⟨rfl, h⟩
        have : m < 2 := hm
        omega
    · have hi8 : i ≤ 8 := by
        rcases Nat.lt_or_ge i 9 with h | h
        · omega
        · obtain rfl : i = 9 := by omega
          have : m < 2 := hm
          omega
      rw [pow_step hi8] at hm
      rw [enc_big h128]
      show rdU (f + 1) i v (((m % 128 + 128 : Nat) : Int) :: (enc (m / 128) ++ r)) = _
      rw [rdU, if_neg (by omega), if_neg (by omega), rdU_enc f (i + 1) _ (m / 128) r (by omega) (by omega) (fun _ => by omega) (by omega), Int.toNat_natCast, Nat.add_sub_cancel, Nat.add_assoc, ← mul_step]
      congr 3
      congr 1
      omega
theorem rdU_some {xs : List Int} (hx : isB xs) {n : Nat} {r : List Int} (h : rdU 10 0 0 xs = some (n, r)) : xs = enc n ++ r ∧ n < 18446744073709551616 := by
  obtain ⟨m, hn, he, hm, _⟩ := rdU_sound 10 0 0 xs n r rfl hx h
  have : n = m := by simpa using hn
  rw [this]
  exact ⟨he, hm⟩
theorem rdU_of {n : Nat} (hn : n < 18446744073709551616) (r : List Int) : rdU 10 0 0 (enc n ++ r) = some (n, r) := by
  rw [rdU_enc 10 0 0 n r rfl hn (by omega) (by omega)]; simp
theorem enc_isB (n : Nat) : isB (enc n) := enc_range n n (Nat.le_refl _)
theorem isB_append {xs ys : List Int} (h1 : isB xs) (h2 : isB ys) : isB (xs ++ ys) := fun x hx => (List.mem_append.1 hx).elim (h1 x) (h2 x)
theorem isB_right {xs ys : List Int} (h : isB (xs ++ ys)) : isB ys := fun x hx => h x (List.mem_append_right _ hx)
theorem isB_left {xs ys : List Int} (h : isB (xs ++ ys)) : isB xs := fun x hx => h x (List.mem_append_left _ hx)
/-- The signed number of an unsigned one. -/
def unzig (n : Nat) : Int := if n % 2 = 0 then ((n / 2 : Nat) : Int) else -((n / 2 : Nat) : Int) - 1
theorem wrap64_id (x : Int) (h0 : -9223372036854775808 ≤ x) (h1 : x < 9223372036854775808) : wrap64 x = x := by simp only [wrap64]; omega
theorem xor_comm64 (a b : Int) : bits .xor .i64 a b = bits .xor .i64 b a := by
  show IntKind.i64.wrap ((BitVec.ofInt 64 a ^^^ BitVec.ofInt 64 b).toNat : Int) = IntKind.i64.wrap ((BitVec.ofInt 64 b ^^^ BitVec.ofInt 64 a).toNat : Int)
  rw [BitVec.xor_comm]
theorem xor_zero64 (a : Nat) (h : a < 9223372036854775808) : bits .xor .i64 (a : Int) 0 = (a : Int) := by
  show IntKind.i64.wrap ((BitVec.ofInt 64 (a : Int) ^^^ BitVec.ofInt 64 0).toNat : Int) = _
  rw [show BitVec.ofInt 64 0 = 0#64 by decide, BitVec.xor_zero, ofInt_u64 a (by omega)]
  simp [IntKind.wrap, IntKind.bits, IntKind.signed]
  omega
theorem unzig_eq (n : Nat) (h : n < 18446744073709551616) : bits .xor .i64 (wrap64 ((n : Int) / 2)) (wrap64 (-wrap64 (bits .and .u64 (n : Int) 1))) = unzig n := by
  have e1 : bits .and .u64 (n : Int) 1 = ((n % 2 : Nat) : Int) := by
    rw [show (1 : Int) = ((1 : Nat) : Int) from rfl, u64_and_nat _ _ h (by omega), Nat.and_one_is_mod]
  rw [e1, wrap64_id ((n % 2 : Nat) : Int) (by omega) (by omega), wrap64_id (-((n % 2 : Nat) : Int)) (by omega) (by omega), wrap64_id ((n : Int) / 2) (by omega) (by omega), show (n : Int) / 2 = ((n / 2 : Nat) : Int) by omega]
  unfold unzig
  by_cases h2 : n % 2 = 0
  · rw [if_pos h2, h2]
    exact xor_zero64 _ (by omega)
  · rw [if_neg h2, show n % 2 = 1 by omega, xor_comm64]
    show bits .xor .i64 (-1) ((n / 2 : Nat) : Int) = _
    rw [i64_not _ (by omega)]
    omega
theorem unzig_zig (x : Int) : unzig (zig x) = x := by
  unfold unzig zig
  by_cases h : x < 0
  · rw [if_pos h, if_neg (by omega)]; omega
  · rw [if_neg h, if_pos (by omega)]; omega
theorem zig_unzig (n : Nat) : zig (unzig n) = n := by
  unfold unzig
  by_cases h : n % 2 = 0
  · rw [if_pos h]; unfold zig; rw [if_neg (by omega)]; omega
  · rw [if_neg h]; unfold zig; rw [if_pos (by omega)]; omega
theorem unzig_range {n : Nat} (h : n < 18446744073709551616) : -9223372036854775808 ≤ unzig n ∧ unzig n ≤ 9223372036854775807 := by
  unfold unzig; split <;> omega
end Go.Proofs.Ytekbbpbpkekdhaa.Cod
