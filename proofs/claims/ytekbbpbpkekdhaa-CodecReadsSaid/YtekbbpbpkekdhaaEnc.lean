/- Numbers in bytes: plain mathematics; and small lemmas on the machine's words. -/
import Derived.Laws.BitsAllLaws
import GoSem.Claim
namespace Go.Proofs.Ytekbbpbpkekdhaa.Cod
/-- A number in bytes: seven bits a byte, the lowest first; 128 more on each but the last. -/
def enc (n : Nat) : List Int := if n < 128 then [(n : Int)] else ((n % 128 + 128 : Nat) : Int) :: enc (n / 128)
termination_by n
decreasing_by omega
theorem enc_small {n : Nat} (h : n < 128) : enc n = [(n : Int)] := by rw [enc, if_pos h]
theorem enc_big {n : Nat} (h : ¬ n < 128) : enc n = ((n % 128 + 128 : Nat) : Int) :: enc (n / 128) := by rw [enc, if_neg h]
theorem enc_len (m : Nat) : ∀ n, n < 128 ^ (m + 1) → (enc n).length ≤ m + 1 := by
  induction m with
  | zero => intro n h; rw [enc_small (by simpa using h)]; simp
  | succ m ih =>
    intro n h
    by_cases hs : n < 128
    · rw [enc_small hs]; simp
    · rw [enc_big hs, List.length_cons]
      have := ih (n / 128) (by rw [Nat.pow_succ] at h; omega)
      omega
theorem enc_le10 {n : Nat} (h : n < 18446744073709551616) : (enc n).length ≤ 10 := enc_len 9 n (by omega)
theorem enc_range (m : Nat) : ∀ n, n ≤ m → ∀ x ∈ enc n, 0 ≤ x ∧ x < 256 := by
  induction m with
  | zero => intro n h x hx; rw [enc_small (by omega)] at hx; simp at hx; omega
  | succ m ih =>
    intro n h x hx
    by_cases hs : n < 128
    · rw [enc_small hs] at hx; simp at hx; omega
    · rw [enc_big hs] at hx
      rcases List.mem_cons.1 hx with rfl | hx
      · omega
      · exact ih (n / 128) (by omega) x hx
set_option maxRecDepth 100000 in
theorem or128 (n : Nat) : Go.bits .or .u8 ((n : Int) % 256) 128 = ((n % 128 + 128 : Nat) : Int) := by
  have h : ∀ a : Fin 256, (a.val ||| 128) = a.val % 128 + 128 := by decide
  have e : ((n : Int) % 256) = ((n % 256 : Nat) : Int) := by omega
  rw [e, show (128 : Int) = ((128 : Nat) : Int) from rfl, u8_or_nat _ _ (by omega) (by omega), h ⟨n % 256, by omega⟩]
  simp only []; congr 2; omega
/-- A signed number as an unsigned one. -/
def zig (x : Int) : Nat := if x < 0 then (-2 * x - 1).toNat else (2 * x).toNat
theorem zig_lt {x : Int} (h0 : -9223372036854775808 ≤ x) (h1 : x ≤ 9223372036854775807) : zig x < 18446744073709551616 := by unfold zig; split <;> omega
theorem wrap_u64 (n : Int) : IntKind.u64.wrap n = n % 18446744073709551616 := by simp [IntKind.wrap, IntKind.bits, IntKind.signed]
theorem xor_ones (a : Nat) (h : a < 18446744073709551616) : a ^^^ 18446744073709551615 = 18446744073709551615 - a := by
  have e : (BitVec.ofNat 64 a ^^^ BitVec.allOnes 64).toNat = (~~~ BitVec.ofNat 64 a).toNat := by rw [BitVec.xor_allOnes]
  rw [BitVec.toNat_xor, BitVec.toNat_not, BitVec.toNat_ofNat, BitVec.toNat_allOnes] at e
  have h2 : a % 2 ^ 64 = a := Nat.mod_eq_of_lt h
  rw [h2] at e
  simpa using e
theorem zig_eq (x : Int) (h0 : -9223372036854775808 ≤ x) (h1 : x ≤ 9223372036854775807) :
    Go.bits .xor .u64 (IntKind.u64.wrap (IntKind.u64.wrap x * 2)) (IntKind.u64.wrap (x / 9223372036854775808)) = (zig x : Int) := by
  rw [wrap_u64, wrap_u64, wrap_u64]
  unfold zig
  by_cases h : x < 0
  · rw [if_pos h]
    have e1 : x % 18446744073709551616 * 2 % 18446744073709551616 = (((2 * x + 18446744073709551616).toNat : Nat) : Int) := by omega
    have e2 : x / 9223372036854775808 % 18446744073709551616 = ((18446744073709551615 : Nat) : Int) := by omega
    rw [e1, e2, u64_xor_nat _ _ (by omega) (by omega), xor_ones _ (by omega)]
    omega
  · rw [if_neg h]
    have e1 : x % 18446744073709551616 * 2 % 18446744073709551616 = (((2 * x).toNat : Nat) : Int) := by omega
    have e2 : x / 9223372036854775808 % 18446744073709551616 = ((0 : Nat) : Int) := by omega
    rw [e1, e2, u64_xor_nat _ _ (by omega) (by omega), Nat.xor_zero]
end Go.Proofs.Ytekbbpbpkekdhaa.Cod
