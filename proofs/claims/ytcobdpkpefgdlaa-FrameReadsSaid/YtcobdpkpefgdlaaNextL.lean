/- What frame's Next tells: plain. -/
import Derived.Test.YtcobdpkpefgdlaaPlain
import Derived.Test.YtcobdpkpefgdlaaPAllx2
namespace Go.Proofs.Ytcobdpkpefgdlaa.Pure
open Go.RowKit Go.Proofs.Crc Go.Proofs.Ytcobdpkpefgdlaa.Cod Go.Proofs.Ytcobdpkpefgdlaa.PBase Go.Proofs.Ytcobdpkpefgdlaa.PMid Go.Proofs.Ytcobdpkpefgdlaa.Given Go.Proofs.Ytcobdpkpefgdlaa.PAll Go.Proofs.YtcobdpkpefgdlaaW.PrintWords Go.Proofs.YtcobdpkpefgdlaaW.PrintLast
theorem i64_or_nat (a b : Nat) (ha : a < 4611686018427387904) (hb : b < 4611686018427387904) : Go.bits .or .i64 (a : Int) (b : Int) = ((a ||| b : Nat) : Int) := by
  have hx : a ||| b < 2 ^ 62 := Nat.or_lt_two_pow (by omega) (by omega)
  show IntKind.i64.wrap ((BitVec.ofInt 64 (a : Int) ||| BitVec.ofInt 64 (b : Int)).toNat : Int) = _
  rw [BitVec.toNat_or, BitVec.toNat_ofInt, BitVec.toNat_ofInt]
  have e1 : ((a : Int) % ((2 ^ 64 : Nat) : Int)).toNat = a := by omega
  have e2 : ((b : Int) % ((2 ^ 64 : Nat) : Int)).toNat = b := by omega
  rw [e1, e2]
  simp only [IntKind.wrap, IntKind.bits, IntKind.signed]
  generalize a ||| b = c at *
  simp
  omega
set_option maxRecDepth 100000 in
theorem and127 (x : Nat) (h : x < 256) : Go.bits .and .u8 (x : Int) 127 = ((x % 128 : Nat) : Int) := by
  have h2 : ∀ a : Fin 256, (a.val &&& 127) = a.val % 128 := by decide
  rw [show (127 : Int) = ((127 : Nat) : Int) from rfl, u8_and_nat _ _ h (by omega), h2 ⟨x, h⟩]
theorem or_step (v y i : Nat) (hv : v < 2 ^ (7 * i)) (hy : y < 128) (hi : i ≤ 2) : Go.bits .or .i64 (v : Int) (shl .i64 (y : Int) ((7 * i : Nat) : Int)) = ((v + y * 2 ^ (7 * i) : Nat) : Int) := by
  have hp : 2 ^ (7 * i) ≤ 2 ^ 14 := Nat.pow_le_pow_right (by omega) (by omega)
  have hpy : y * 2 ^ (7 * i) ≤ 127 * 2 ^ 14 := Nat.mul_le_mul (by omega) hp
  have e : shl .i64 (y : Int) ((7 * i : Nat) : Int) = ((y * 2 ^ (7 * i) : Nat) : Int) := by
    unfold shl
    rw [Int.toNat_natCast, Nat.min_eq_left (by simp [IntKind.bits]; omega)]
    rw [show (y : Int) * 2 ^ (7 * i) = ((y * 2 ^ (7 * i) : Nat) : Int) by rw [Int.natCast_mul, Int.natCast_pow]; rfl]
    simp only [IntKind.wrap, IntKind.bits, IntKind.signed]
    generalize y * 2 ^ (7 * i) = c at *
    simp
    omega
  rw [e, i64_or_nat _ _ (by omega) (by omega)]
  rw [Nat.or_comm, Nat.mul_comm y, ← Nat.two_pow_add_eq_or_of_lt hv, Nat.add_comm]
def g3 (v : Nat) : List Int → Option (Nat × Nat)
  | [] => none
  | z :: _ => if z < 128 then (if 65536 < v + z.toNat * 16384 then none else if z = 0 then none else some (v + z.toNat * 16384, 3)) else none
def g2 (v : Nat) : List Int → Option (Nat × Nat)
  | [] => none
  | y :: t => if y < 128 then (if y = 0 then none else some (v + y.toNat * 128, 2)) else g3 (v + y.toNat % 128 * 128) t
/-- A number of at most three bytes, at most 65,536, and how many bytes it has. -/
def getL : List Int → Option (Nat × Nat)
  | [] => none
  | x :: t => if x < 128 then some (x.toNat, 1) else g2 (x.toNat % 128) t
theorem getL_nil : getL [] = none := rfl
theorem getL_cons (x : Int) (t : List Int) : getL (x :: t) = if x < 128 then some (x.toNat, 1) else g2 (x.toNat % 128) t := rfl
theorem g2_nil (v : Nat) : g2 v [] = none := rfl
theorem g2_cons (v : Nat) (y : Int) (t : List Int) : g2 v (y :: t) = if y < 128 then (if y = 0 then none else some (v + y.toNat * 128, 2)) else g3 (v + y.toNat % 128 * 128) t := rfl
theorem g3_nil (v : Nat) : g3 v [] = none := rfl
theorem g3_cons (v : Nat) (z : Int) (t : List Int) : g3 v (z :: t) = if z < 128 then (if 65536 < v + z.toNat * 16384 then none else if z = 0 then none else some (v + z.toNat * 16384, 3)) else none := rfl
theorem getL_enc {n : Nat} (hn : n ≤ 65536) (r : List Int) : getL (enc n ++ r) = some (n, (enc n).length) := by
  by_cases h1 : n < 128
  · rw [enc_small h1, List.cons_append, getL_cons, if_pos (by omega)]; rfl
  · rw [enc_big h1, List.cons_append, getL_cons, if_neg (by omega)]
    by_cases h2 : n / 128 < 128
    · rw [enc_small h2, List.cons_append, g2_cons, if_pos (by omega), if_neg (by omega), Int.toNat_natCast, Int.toNat_natCast, show (n % 128 + 128) % 128 + n / 128 * 128 = n by omega]
      rfl
    · rw [enc_big h2, enc_small (by omega), List.cons_append, List.cons_append, g2_cons, if_neg (by omega), g3_cons, if_pos (by omega), Int.toNat_natCast, Int.toNat_natCast, Int.toNat_natCast,
        show (n % 128 + 128) % 128 + (n / 128 % 128 + 128) % 128 * 128 + n / 128 / 128 * 16384 = n by omega, if_neg (by omega), if_neg (by omega)]
      rfl
theorem getL_some {b : List Int} (hb : isB b) {n u : Nat} (h : getL b = some (n, u)) : ∃ r, b = enc n ++ r ∧ (enc n).length = u ∧ n ≤ 65536 := by
  match b with
  | [] => cases h
  | x :: t =>
    have hx := hb x List.mem_cons_self
    obtain ⟨a, rfl⟩ := Int.eq_ofNat_of_zero_le hx.1
    rw [getL_cons] at h
    by_cases h1 : (a : Int) < 128
    · rw [if_pos h1] at h
      simp only [Option.some.injEq, Prod.mk.injEq, Int.toNat_natCast] at h
      obtain ⟨rfl, rfl⟩ := h
      exact ⟨t, by rw [enc_small (by omega)]; rfl, by rw [enc_small (by omega)]; rfl, by omega⟩
    · rw [if_neg h1] at h
      match t with
      | [] => cases h
      | y :: t =>
        have hy := hb y (List.mem_cons_of_mem _ List.mem_cons_self)
        obtain ⟨c, rfl⟩ := Int.eq_ofNat_of_zero_le hy.1
        rw [g2_cons] at h
        by_cases h2 : (c : Int) < 128
        · rw [if_pos h2] at h
          by_cases h3 : (c : Int) = 0
          · rw [if_pos h3] at h; cases h
          · rw [if_neg h3] at h
            simp only [Option.some.injEq, Prod.mk.injEq, Int.toNat_natCast] at h
            obtain ⟨rfl, rfl⟩ := h
            have e : enc (a % 128 + c * 128) = [(a : Int), (c : Int)] := by
              rw [enc_big (by omega), show (a % 128 + c * 128) / 128 = c by omega, enc_small (by omega), show (a % 128 + c * 128) % 128 + 128 = a by omega]
            exact ⟨t, by rw [e]; rfl, by rw [e]; rfl, by omega⟩
        · rw [if_neg h2] at h
          match t with
          | [] => cases h
          | z :: t =>
            have hz := hb z (List.mem_cons_of_mem _ (List.mem_cons_of_mem _ List.mem_cons_self))
            obtain ⟨d, rfl⟩ := Int.eq_ofNat_of_zero_le hz.1
            rw [g3_cons] at h
            by_cases h3 : (d : Int) < 128
            · rw [if_pos h3] at h
              simp only [Int.toNat_natCast] at h
              by_cases h4 : 65536 < a % 128 + c % 128 * 128 + d * 16384
              · rw [if_pos h4] at h; cases h
              · rw [if_neg h4] at h
                by_cases h5 : (d : Int) = 0
                · rw [if_pos h5] at h; cases h
                · rw [if_neg h5] at h
                  simp only [Option.some.injEq, Prod.mk.injEq] at h
                  obtain ⟨rfl, rfl⟩ := h
                  have e : enc (a % 128 + c % 128 * 128 + d * 16384) = [(a : Int), (c : Int), (d : Int)] := by
                    rw [enc_big (by omega), show (a % 128 + c % 128 * 128 + d * 16384) / 128 = c % 128 + d * 128 by omega, show (a % 128 + c % 128 * 128 + d * 16384) % 128 + 128 = a by omega,
                      enc_big (by omega), show (c % 128 + d * 128) / 128 = d by omega, show (c % 128 + d * 128) % 128 + 128 = c by omega, enc_small (by omega)]
                  exact ⟨t, by rw [e]; rfl, by rw [e]; rfl, by omega⟩
            · rw [if_neg h3] at h; cases h
def getP (o : Option (Nat × Nat)) : Int × Int := match o with | none => (0, 0) | some (n, u) => ((n : Int), (u : Int))
theorem rd0 (x : Int) (t : List Int) : rd (x :: t) 0 = x := rfl
theorem get_some {k : Nat} (b : List Int) (hb : isB b) (hl : b.length ≤ 4611686018427387904) (hk : 4 ≤ k) : frame_get.f k b = some (getP (getL b)) := by
  obtain ⟨k, rfl⟩ : ∃ m, k = m + 4 := ⟨k - 4, by omega⟩
  have st : ∀ (v y i : Nat), v < 2 ^ (7 * i) → y < 256 → i ≤ 2 → Go.bits .or .i64 (v : Int) (shl .i64 (wrap64 (Go.bits .and .u8 (y : Int) 127)) (wrap64 (7 * (i : Int)))) = ((v + y % 128 * 2 ^ (7 * i) : Nat) : Int) := fun v y i hv hy hi => by
    rw [and127 y hy, w64 (by omega) (by omega), w64 (x := 7 * (i : Int)) (by omega) (by omega), show 7 * (i : Int) = ((7 * i : Nat) : Int) by omega, or_step v (y % 128) i hv (by omega) hi]
  unfold frame_get.f
  match b with
  | [] =>
    rw [frame_get.l0, if_neg (by simp [mn])]; rfl
  | x :: t =>
    have hx := hb x List.mem_cons_self
    obtain ⟨a, rfl⟩ := Int.eq_ofNat_of_zero_le hx.1
    have hm : 0 < mn (((a : Int) :: t).length : Int) 3 := by unfold mn; simp only [List.length_cons]; split <;> omega
    have s0 := st 0 a 0 (by decide) (by omega) (by omega)
    rw [show 0 + a % 128 * 2 ^ (7 * 0) = a % 128 by simp] at s0
    rw [frame_get.l0, if_pos hm, if_pos (by omega), if_pos (by simp only [List.length_cons]; omega), if_pos (by rw [w64] <;> omega), rd0]
    rw [show Go.bits .or .i64 0 (shl .i64 (wrap64 (Go.bits .and .u8 (a : Int) 127)) (wrap64 (7 * 0))) = ((a % 128 : Nat) : Int) from s0]
    by_cases h1 : (a : Int) < 128
    · rw [if_pos h1, if_neg (by omega)]
      have e : getL ((a : Int) :: t) = some (a, 1) := by rw [getL_cons, if_pos h1, Int.toNat_natCast]
      rw [e, w64 (x := 0 + 1) (by omega) (by omega)]
      have ha : a % 128 = a := by omega
      by_cases h0 : (a : Int) = 0
      · rw [if_pos h0, if_neg (by omega), ha]; rfl
      · rw [if_neg h0, ha]; rfl
    · rw [if_neg h1, w64 (x := 0 + 1) (by omega) (by omega)]
      match t with
      | [] =>
        rw [frame_get.l0, if_neg (by simp [mn])]
        rw [getL_cons, if_neg h1]; rfl
      | y :: t =>
        have hy := hb y (List.mem_cons_of_mem _ List.mem_cons_self)
        obtain ⟨c, rfl⟩ := Int.eq_ofNat_of_zero_le hy.1
        have hm : (0 + 1 : Int) < mn (((a : Int) :: (c : Int) :: t).length : Int) 3 := by unfold mn; simp only [List.length_cons]; split <;> omega
        have s1 := st (a % 128) c 1 (by omega) (by omega) (by omega)
        have r1 : rd ((a : Int) :: (c : Int) :: t) (0 + 1) = c := rfl
        rw [frame_get.l0, if_pos hm, if_pos (by omega), if_pos (by simp only [List.length_cons]; omega), if_pos (by rw [w64] <;> omega), r1]
        rw [show Go.bits .or .i64 ((a % 128 : Nat) : Int) (shl .i64 (wrap64 (Go.bits .and .u8 (c : Int) 127)) (wrap64 (7 * (0 + 1)))) = ((a % 128 + c % 128 * 2 ^ (7 * 1) : Nat) : Int) from s1]
        by_cases h2 : (c : Int) < 128
        · rw [if_pos h2, if_neg (by omega)]
          have hc : c % 128 = c := by omega
          by_cases h0 : (c : Int) = 0
          · rw [if_pos h0, if_pos (by omega)]
            have e : getL ((a : Int) :: (c : Int) :: t) = none := by
              rw [getL_cons, if_neg h1, g2_cons, if_pos h2, if_pos h0]
            rw [e]; rfl
          · rw [if_neg h0]
            have e : getL ((a : Int) :: (c : Int) :: t) = some (a % 128 + c * 128, 2) := by
              rw [getL_cons, if_neg h1, g2_cons, if_pos h2, if_neg h0, Int.toNat_natCast, Int.toNat_natCast]
            rw [e, w64 (x := 0 + 1 + 1) (by omega) (by omega), hc]; rfl
        · rw [if_neg h2, w64 (x := 0 + 1 + 1) (by omega) (by omega)]
          match t with
          | [] =>
            rw [frame_get.l0, if_neg (by simp [mn])]
            rw [getL_cons, if_neg h1, g2_cons, if_neg h2]; rfl
          | z :: t =>
            have hz := hb z (List.mem_cons_of_mem _ (List.mem_cons_of_mem _ List.mem_cons_self))
            obtain ⟨d, rfl⟩ := Int.eq_ofNat_of_zero_le hz.1
            have hm : mn (((a : Int) :: (c : Int) :: (d : Int) :: t).length : Int) 3 = 3 := by unfold mn; simp only [List.length_cons]; split <;> omega
            have s2 := st (a % 128 + c % 128 * 2 ^ (7 * 1)) d 2 (by omega) (by omega) (by omega)
            have r1 : rd ((a : Int) :: (c : Int) :: (d : Int) :: t) (0 + 1 + 1) = d := rfl
            rw [hm, frame_get.l0, if_pos (by omega), if_pos (by omega), if_pos (by simp only [List.length_cons]; omega), if_pos (by rw [w64] <;> omega), r1]
            rw [show Go.bits .or .i64 ((a % 128 + c % 128 * 2 ^ (7 * 1) : Nat) : Int) (shl .i64 (wrap64 (Go.bits .and .u8 (d : Int) 127)) (wrap64 (7 * (0 + 1 + 1)))) = ((a % 128 + c % 128 * 2 ^ (7 * 1) + d % 128 * 2 ^ (7 * 2) : Nat) : Int) from s2]
            have en : a % 128 + c % 128 * 2 ^ (7 * 1) + d % 128 * 2 ^ (7 * 2) = a % 128 + c % 128 * 128 + d % 128 * 16384 := by omega
            rw [en]
            by_cases h3 : (d : Int) < 128
            · have hd : d % 128 = d := by omega
              rw [if_pos h3, hd]
              by_cases h4 : 65536 < a % 128 + c % 128 * 128 + d * 16384
              · rw [if_pos (by omega)]
                have e : getL ((a : Int) :: (c : Int) :: (d : Int) :: t) = none := by
                  rw [getL_cons, if_neg h1, g2_cons, if_neg h2, g3_cons, if_pos h3, Int.toNat_natCast, Int.toNat_natCast, Int.toNat_natCast, if_pos h4]
                rw [e]; rfl
              · rw [if_neg (by omega)]
                by_cases h0 : (d : Int) = 0
                · rw [if_pos h0, if_pos (by omega)]
                  have e : getL ((a : Int) :: (c : Int) :: (d : Int) :: t) = none := by
                    rw [getL_cons, if_neg h1, g2_cons, if_neg h2, g3_cons, if_pos h3, Int.toNat_natCast, Int.toNat_natCast, Int.toNat_natCast, if_neg h4, if_pos h0]
                  rw [e]; rfl
                · rw [if_neg h0]
                  have e : getL ((a : Int) :: (c : Int) :: (d : Int) :: t) = some (a % 128 + c % 128 * 128 + d * 16384, 3) := by
                    rw [getL_cons, if_neg h1, g2_cons, if_neg h2, g3_cons, if_pos h3, Int.toNat_natCast, Int.toNat_natCast, Int.toNat_natCast, if_neg h4, if_neg h0]
                  rw [e, w64 (x := 0 + 1 + 1 + 1) (by omega) (by omega)]; rfl
            · rw [if_neg h3, w64 (x := 0 + 1 + 1 + 1) (by omega) (by omega), frame_get.l0, if_neg (by omega)]
              have e : getL ((a : Int) :: (c : Int) :: (d : Int) :: t) = none := by
                rw [getL_cons, if_neg h1, g2_cons, if_neg h2, g3_cons, if_neg h3]
              rw [e]; rfl
end Go.Proofs.Ytcobdpkpefgdlaa.Pure
