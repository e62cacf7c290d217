/- The printed functions on whole numbers come to the plain mathematics of the crc. -/
import Derived.Test.YtfejhegogajnhaaPBasex1
import Derived.Test.YtfejhegogajnhaaBits
namespace Go.Proofs.Ytfejhegogajnhaa
open Go.RowKit Go.Proofs.Crc Go.Proofs.Ytfejhegogajnhaa.PBase Go.Proofs.YtfejhegogajnhaaW.PrintWords Go.Proofs.YtfejhegogajnhaaW.PrintLast Go.Proofs.YtfejhegogajnhaaW.PrintMore
theorem w64 {n : Int} (h0 : -9223372036854775808 ≤ n) (h1 : n ≤ 9223372036854775807) : wrap64 n = n := by unfold wrap64; omega
theorem up_pure (p : W) : crc_up.f (I p) = some (I (Crc.up p)) := by
  unfold crc_up.f Crc.up
  rw [and_one]
  cases p.getLsbD 0 with
  | true => rw [if_pos rfl, if_pos rfl, if_pos rfl, show I p / (2 : Int) = I (p >>> 1) from half p, ← I_D, bits_xor]
  | false => rw [if_neg (by simp), if_neg (by simp)]; exact congrArg some (half p)
theorem mask_bit (p : W) (i : Nat) (hi : i < 32) : (Go.bits .and .u32 (I p) (shr .u32 2147483648 (i : Int)) = 0) ↔ p.getLsbD (31 - i) = false := by
  have e : shr .u32 2147483648 (i : Int) = I (BitVec.twoPow 32 (31 - i)) := by
    have h : ∀ j : Fin 32, shr .u32 2147483648 ((j.val : Nat) : Int) = I (BitVec.twoPow 32 (31 - j.val)) := by decide
    exact h ⟨i, hi⟩
  rw [e, bits_and, BitVec.and_twoPow]
  cases p.getLsbD (31 - i) with
  | true =>
    rw [if_pos rfl]
    simp only [Bool.true_eq_false, iff_false]
    intro h
    have h2 : BitVec.twoPow 32 (31 - i) = 0#32 := I_inj h
    have h3 := congrArg (fun x : W => x.getLsbD (31 - i)) h2
    simp at h3
    omega
  | false => rw [if_neg (by simp)]; simp
theorem product_pure (p q : W) (d : Nat) : ∀ (k i : Nat), i ≤ 32 → 32 - i = d → d < k →
    crc_product.l0 k (I p) (I (pow i q)) (I (prodTo p q i)) (i : Int) = some (I (prod p q)) := by
  induction d with
  | zero =>
    intro k i hi hd hk
    obtain ⟨k, rfl⟩ : ∃ m, k = m + 1 := ⟨k - 1, by omega⟩
    obtain rfl : i = 32 := by omega
    simp only [crc_product.l0]; rw [if_neg (by omega)]; rfl
  | succ d ih =>
    intro k i hi hd hk
    obtain ⟨k, rfl⟩ : ∃ m, k = m + 1 := ⟨k - 1, by omega⟩
    have hlt : i < 32 := by omega
    have hn := ih k (i + 1) (by omega) (by omega) (by omega)
    simp only [crc_product.l0]
    rw [if_pos (by omega), if_pos (by omega), up_pure, Option.bind_some, Option.bind_some, w64 (by omega) (by omega)]
    rw [show ((i : Int) + 1) = ((i + 1 : Nat) : Int) from by omega]
    cases hb : p.getLsbD (31 - i) with
    | true =>
      rw [if_neg (by rw [mask_bit p i hlt, hb]; simp), bits_xor]
      have e : prodTo p q (i + 1) = prodTo p q i ^^^ pow i q := by simp only [prodTo]; rw [if_pos hb]
      rw [← e]; exact hn
    | false =>
      rw [if_pos (by rw [mask_bit p i hlt, hb])]
      have e : prodTo p q (i + 1) = prodTo p q i := by simp only [prodTo]; rw [if_neg (by rw [hb]; simp)]
      rw [← e]; exact hn
theorem product_some (p q : W) (k : Nat) (hk : 33 ≤ k) : crc_product.f k (I p) (I q) = some (I (prod p q)) := product_pure p q 32 k 0 (by omega) (by omega) (by omega)
theorem bytesUp_pure (m : Nat) : ∀ (n k a b : Nat), n < 2 ^ m → n < 9223372036854775808 → m + 35 ≤ k →
    crc_bytesUp.l0 k (n : Int) (I (pow a one)) (I (pow b one)) = some (I (pow (a + b * n) one)) := by
  induction m with
  | zero =>
    intro n k a b hn _ hk
    obtain ⟨k, rfl⟩ : ∃ m, k = m + 1 := ⟨k - 1, by omega⟩
    obtain rfl : n = 0 := by omega
    simp only [crc_bytesUp.l0]; rw [if_neg (by omega)]; rfl
  | succ m ih =>
    intro n k a b hn hn2 hk
    obtain ⟨k, rfl⟩ : ∃ m, k = m + 1 := ⟨k - 1, by omega⟩
    simp only [crc_bytesUp.l0]
    by_cases h0 : n = 0
    · subst h0; rw [if_neg (by omega)]; rfl
    · rw [if_pos (by omega)]
      have hd : Int.tdiv (n : Int) 2 = ((n / 2 : Nat) : Int) := by rw [Int.tdiv_eq_ediv_of_nonneg (by omega)]; omega
      have hm : Int.tmod (n : Int) 2 = ((n % 2 : Nat) : Int) := by rw [Int.tmod_eq_emod_of_nonneg (by omega)]; omega
      rw [hd, hm, w64 (by omega) (by omega), product_some _ _ k (by omega), product_some _ _ k (by omega), pow_square]
      have hlt : n / 2 < 2 ^ m := by rw [Nat.pow_succ] at hn; omega
      by_cases h1 : n % 2 = 1
      · rw [if_pos (by omega), Option.bind_some, Option.bind_some, prod_pow_any, ← pow_add, ih (n / 2) k _ _ hlt (by omega) (by omega)]
        congr 3
        have : n = 2 * (n / 2) + 1 := by omega
        generalize n / 2 = x at *
        rw [this, Nat.mul_add, Nat.mul_one, ← Nat.mul_assoc, Nat.mul_comm 2 b]; omega
      · rw [if_neg (by omega), Option.bind_some, ih (n / 2) k _ _ hlt (by omega) (by omega)]
        congr 3
        have : n = 2 * (n / 2) := by omega
        generalize n / 2 = x at *
        rw [this, ← Nat.mul_assoc, Nat.mul_comm 2 b]
theorem bytesUp_some (n k : Nat) (hn : n < 9223372036854775808) (hk : 100 ≤ k) : crc_bytesUp.f k (n : Int) = some (I (pow (8 * n) one)) := by
  have h := bytesUp_pure 63 n k 0 8 hn hn (by omega)
  rw [Nat.zero_add] at h
  exact h
theorem Join_some (a b : W) (n k : Nat) (hn : n < 9223372036854775808) (hk : 100 ≤ k) : crc_Join.f k (I a) (I b) (n : Int) = some (I (join a b n)) := by
  unfold crc_Join.f
  rw [if_neg (by omega), bytesUp_some n k hn hk, Option.bind_some, product_some _ _ k (by omega), Option.bind_some, prod_pow_any, bits_xor]; rfl
theorem Join_neg (a b : Int) (n : Int) (k : Nat) (hn : n < 0) : crc_Join.f k a b n = some 0 := by
  unfold crc_Join.f; rw [if_pos hn]
theorem number_some : ∀ k, 18 ≤ k → tocsinref02_number.f k [28, 27, 26, 25, 23, 22, 20, 19, 18, 14, 13, 11, 10, 9, 8, 6, 0] = some (I D) := by
  intro k hk
  obtain ⟨m, rfl⟩ : ∃ m, k = 18 + m := ⟨k - 18, by omega⟩
  induction m with
  | zero => decide +kernel
  | succ m ih => exact tocsinref02_number.mono _ _ _ (ih (by omega))
theorem Up_pure (p : W) : tocsinref02_Up.f (I p) (I D) = some (I (Crc.up p)) := by
  have hr := I_range p
  unfold tocsinref02_Up.f Crc.up
  have hd : Int.tdiv (I p) (2 : Int) % (4294967296 : Int) = I (p >>> 1) := by
    rw [Int.tdiv_eq_ediv_of_nonneg (by omega), show I p / (2 : Int) = I (p >>> 1) from half p]; have := I_range (p >>> 1); omega
  have hm : Int.tmod (I p) 2 = ((p.toNat % 2 : Nat) : Int) := by rw [Int.tmod_eq_emod_of_nonneg (by omega)]; unfold I; omega
  rw [hd, hm, bit0]
  by_cases h : p.toNat % 2 = 1
  · rw [if_pos (by omega), if_pos (by simp [h]), bits_xor]
  · rw [if_neg (by omega), if_neg (by simp [h])]
theorem refJoin_pure (b : W) (n : Nat) (hn : n ≤ 5000) (d : Nat) : ∀ (k i : Nat) (a : W), i ≤ 8 * n → 8 * n - i = d → d < k →
    tocsinref02_Join.l0 k (I a) (I b) (n : Int) (I D) (i : Int) = some (I (pow (8 * n - i) a ^^^ b)) := by
  induction d with
  | zero =>
    intro k i a hi hd hk
    obtain ⟨k, rfl⟩ : ∃ m, k = m + 1 := ⟨k - 1, by omega⟩
    simp only [tocsinref02_Join.l0]; rw [w64 (by omega) (by omega), if_neg (by omega), bits_xor, hd]; rfl
  | succ d ih =>
    intro k i a hi hd hk
    obtain ⟨k, rfl⟩ : ∃ m, k = m + 1 := ⟨k - 1, by omega⟩
    simp only [tocsinref02_Join.l0]
    rw [w64 (n := 8 * _) (by omega) (by omega), if_pos (by omega), Up_pure, Option.bind_some, w64 (by omega) (by omega), show ((i : Int) + 1) = ((i + 1 : Nat) : Int) from by omega, ih k (i + 1) _ (by omega) (by omega) (by omega)]
    congr 3
    rw [pow_up, show 8 * n - i = (8 * n - (i + 1)) + 1 from by omega]; rfl
theorem refJoin_some (a b : W) (n k : Nat) (hn : n ≤ 5000) (hk : 8 * n + 18 ≤ k) : tocsinref02_Join.f k (I a) (I b) (n : Int) = some (I (join a b n)) := by
  unfold tocsinref02_Join.f tocsinref02_powers.f
  rw [if_neg (by omega), Option.bind_some, number_some k (by omega), Option.bind_some]
  exact refJoin_pure b n hn (8 * n) k 0 a (by omega) (by omega) (by omega)
end Go.Proofs.Ytfejhegogajnhaa
