/- What tocsinref02.Sum does: the walk, in the printer's own form. -/
import Derived.Test.YtcobdpkpefgdlaaGiven
import Derived.Test.YtcobdpkpefgdlaaNum
namespace Go.Proofs.Ytcobdpkpefgdlaa.Given
open Go.RowKit Go.Proofs.Crc Go.Proofs.YtcobdpkpefgdlaaW.PrintWords Go.Proofs.YtcobdpkpefgdlaaW.PrintLast
def tocsinref02_Sum.f (l0 : List Int) : Option Int := crc_Sum.f l0
theorem pw_below_drawn {B : Nat} {w w1 w2 : World} (h : Below B w w1) (d : Drawn0 w1 w2) : Below B w w2 := by
  obtain ⟨n, rfl⟩ := d
  exact pw_below_drewN h n
theorem D_some : ∃ k, PBase.tocsinref02_powers.f = some [28, 27, 26, 25, 23, 22, 20, 19, 18, 14, 13, 11, 10, 9, 8, 6, 0] ∧ PBase.tocsinref02_number.f k [28, 27, 26, 25, 23, 22, 20, 19, 18, 14, 13, 11, 10, 9, 8, 6, 0] = some (2197175160 : Int) := ⟨18, rfl, number_some 18 (Nat.le_refl _)⟩
def byteAt (xs : List Int) (q : Nat) : UInt8 := UInt8.ofNat (xs.getD q 0).toNat
def refTo (xs : List Int) (i : Nat) : W := Crc.bits (run (~~~ 0#32) (toB (xs.take (i / 8)))) (wide (byteAt xs (i / 8))) (i % 8)
theorem refTo_succ (xs : List Int) (i : Nat) (h : i < 8 * xs.length) : refTo xs (i + 1) = Crc.up (refTo xs i ^^^ bitw ((wide (byteAt xs (i / 8))).getLsbD (i % 8))) := by
  unfold refTo
  by_cases e : i % 8 = 7
  · have e1 : (i + 1) / 8 = i / 8 + 1 := by omega
    have e2 : (i + 1) % 8 = 0 := by omega
    have hq : i / 8 < xs.length := by omega
    rw [e1, e2]
    show run _ _ = _
    rw [toB_take_succ xs (i / 8) hq, run_snoc, e]
    exact (bits_wide _ _).symm
  · have e1 : (i + 1) / 8 = i / 8 := by omega
    have e2 : (i + 1) % 8 = i % 8 + 1 := by omega
    rw [e1, e2]; rfl
theorem refTo_end (xs : List Int) : refTo xs (8 * xs.length) = run (~~~ 0#32) (toB xs) := by
  unfold refTo
  rw [show 8 * xs.length / 8 = xs.length from by omega, show 8 * xs.length % 8 = 0 from by omega, List.take_length]; rfl
set_option maxRecDepth 100000 in
/-- The bit of a byte, and how it is put to what is left. -/
theorem bit_val (x : Int) (h0 : 0 ≤ x) (h1 : x < 256) (j : Nat) (_hj : j < 8) : x / (2 ^ j : Int) % 2 = if (wide (UInt8.ofNat x.toNat)).getLsbD j = true then 1 else 0 := by
  obtain ⟨n, rfl⟩ := Int.eq_ofNat_of_zero_le h0
  have e : (wide (UInt8.ofNat (n : Int).toNat)).getLsbD j = decide (n / 2 ^ j % 2 = 1) := by
    unfold wide
    rw [BitVec.getLsbD_setWidth]
    rw [Int.toNat_natCast]
    have : j < 32 := by omega
    simp only [this, decide_true, Bool.true_and]
    have hm : n % 256 = n := by omega
    simp [BitVec.getLsbD, Nat.testBit, Nat.shiftRight_eq_div_pow]
    rw [show (n % 256) = n from hm]
    by_cases h : n / 2 ^ j % 2 = 1
    · simp [h]
    · have : n / 2 ^ j % 2 = 0 := by omega
      simp [this]
  rw [e]
  have hc : ((n : Int) / (2 ^ j : Int)) % (2 : Int) = ((n / 2 ^ j % 2 : Nat) : Int) := by norm_cast
  rw [hc]
  by_cases h : n / 2 ^ j % 2 = 1
  · simp [h]
  · have : n / 2 ^ j % 2 = 0 := by omega
    simp [this]
theorem xor_one (n : Nat) : n ^^^ 1 = if n % 2 = 1 then n - 1 else n + 1 := by
  have h1 := Nat.xor_div_two (a := n) (b := 1)
  have h2 := Nat.xor_mod_two_pow (a := n) (b := 1) (n := 1)
  rw [show 1 / 2 = 0 from rfl, Nat.xor_zero] at h1
  rw [show 2 ^ 1 = 2 from rfl, show 1 % 2 = 1 from rfl] at h2
  rcases Nat.mod_two_eq_zero_or_one n with h | h
  · rw [h, show 0 ^^^ 1 = 1 from rfl] at h2; rw [if_neg (by omega)]; omega
  · rw [h, show 1 ^^^ 1 = 0 from rfl] at h2; rw [if_pos h]; omega
theorem mix (p : W) (b : Bool) : I p - I p % (2 : Int) + (I p % (2 : Int) + (if b = true then 1 else 0)) % (2 : Int) = I (p ^^^ bitw b) := by
  unfold bitw
  cases b with
  | false => rw [if_neg (by simp), if_neg (by simp), BitVec.xor_zero]; omega
  | true =>
    rw [if_pos rfl, if_pos rfl]
    have h := xor_one p.toNat
    have e : (p ^^^ 1#32).toNat = p.toNat ^^^ 1 := BitVec.toNat_xor ..
    unfold I; rw [e, h]; split <;> omega
theorem up_arg {a b d r : Int} (h : PBase.tocsinref02_Up.f a d = some r) (e : b = a) : PBase.tocsinref02_Up.f b d = some r := by rw [e]; exact h
set_option maxHeartbeats 1000000 in
set_option maxRecDepth 100000 in
theorem tocsinref02_Sum.calls (A0 : Option Addr) (c0 : Nat) (l0 : List Int) (r : Int) (w : World) (hr0 : Kd.C (Kd.int .u8) w A0 l0.length l0) (_hc0 : l0.length ≤ c0) (h : tocsinref02_Sum.f l0 = some r) :
    Calls Try.prog 27 #[.slice A0 l0.length c0] w fun e w' => e = .returned (.int .u32 r) ∧ Below w.heap.size w w' := by
  unfold tocsinref02_Sum.f crc_Sum.f at h
  split at h
  case isFalse => cases h
  case isTrue hok =>
  obtain rfl := Option.some.inj h
  clear h
  have hx := okB_is hok
  have HX := Lib.hid hx.1
  have hl := hx.2
  have HR := Lib.hid hr0
  clear hx hok hr0
  obtain ⟨kf, hpw, hnum⟩ := D_some
  have HP := Lib.hid hpw
  have HN := Lib.hid hnum
  clear hpw hnum
  go_enter Try.func27, Try.ntmps27
  go_wp2_with fail
  refine (PBase.tocsinref02_powers.calls _ _ HP).mono ?_
  rintro e w1 ⟨v1, rfl, ho, hb⟩
  obtain ⟨A1, c1, rfl, hc1, hrd⟩ := Kd.R_reads ho
  have Hb := Lib.hid hb
  have Hrd := Lib.hid hrd
  have Hc1 := Lib.hid hc1
  clear ho hb hrd hc1
  go_wp2_with fail
  refine (PBase.tocsinref02_number.calls kf _ _ _ _ _ Hrd Hc1 HN).mono ?_
  rintro e w2 ⟨rfl, hb2⟩
  have HB : Hid (Below w.heap.size w w2) := pw_below_drawn Hb hb2
  clear hb2 Hb Hrd Hc1 HP HN
  go_wp2_with fail
  go_loopw [4, 5] (fun p i wr => ∃ k : Nat, k ≤ 8 * l0.length ∧ i = .int .i64 k ∧ p = .int .u32 ((refTo l0 k).toNat : Int) ∧ Hid (Below w.heap.size w wr)) (fun _ i _ => 8 * l0.length - (intOf i).toNat)
  case atStart => exact ⟨0, Nat.zero_le _, rfl, rfl, HB⟩
  case round =>
    clear HB
    obtain ⟨k, hk, rfl, rfl, HB⟩ := hrel
    have HR2 := Lib.hid (Kd.C_below HR HB)
    by_cases hlt : k < 8 * l0.length
    · obtain ⟨ad, e, hcell⟩ := Kd.at_int HR2 ((k / 8 : Nat) : Int) (by omega) (by omega)
      cases e
      rw [Int.toNat_natCast] at hcell
      generalize hz : rd l0 ((k / 8 : Nat) : Int) = x at hcell
      have hx : 0 ≤ x ∧ x < 256 := by rw [← hz]; exact HX _ (rd_mem l0 (k / 8) (by omega))
      have hx0 := hx.1
      have hx1 := hx.2
      clear hx
      have Hz := Lib.hid hz
      clear hz
      have hpow : ∃ m : Int, (2 : Int) ^ (k % 8) % 4294967296 = m ∧ 1 ≤ m ∧ m ≤ 128 ∧ m = 2 ^ (k % 8) := by
        have : k % 8 < 8 := Nat.mod_lt _ (by omega)
        rcases (show k % 8 = 0 ∨ k % 8 = 1 ∨ k % 8 = 2 ∨ k % 8 = 3 ∨ k % 8 = 4 ∨ k % 8 = 5 ∨ k % 8 = 6 ∨ k % 8 = 7 by omega) with e | e | e | e | e | e | e | e <;> rw [e] <;> exact ⟨_, rfl, by decide, by decide, by decide⟩
      obtain ⟨m, hm, hm1, hm2, hm3⟩ := hpow
      have hbit := bit_val x hx0 hx1 (k % 8) (Nat.mod_lt _ (by omega))
      rw [← hm3] at hbit
      have hsucc := Lib.hid (refTo_succ l0 k hlt)
      generalize hq : refTo l0 k = q at hsucc
      have Hq := Lib.hid hq
      clear hq
      have hbyte : byteAt l0 (k / 8) = UInt8.ofNat x.toNat := by rw [← Hz.out]; rfl
      have hU : PBase.tocsinref02_Up.f ((q.toNat : Int) - (q.toNat : Int) % 2 + ((q.toNat : Int) + x / m) % 2) 2197175160 = some ((refTo l0 (k + 1)).toNat : Int) := by
        rw [hsucc.out, hbyte, ← I_D, ← Up_pure, ← mix, ← hbit]
        congr 1
        unfold I; omega
      have HU := Lib.hid hU
      have hd0 : 0 ≤ x / m := Int.ediv_nonneg hx0 (by omega)
      have hd1 : x / m ≤ 255 := Int.le_trans (Int.ediv_le_self _ hx0) (by omega)
      clear hU hbit hsucc Hz hbyte hm3
      go_wp2_with fail
      refine (PBase.tocsinref02_Up.calls _ _ ((refTo l0 (k + 1)).toNat : Int) _ (up_arg HU (by omega))).mono ?_
      rintro e w' ⟨rfl, hdr⟩
      have Hdr := Lib.hid hdr
      clear hdr
      go_wp2_with fail
      go_roundw
      case rel => exact ⟨k + 1, by omega, by go_num, rfl, pw_below_drawn HB Hdr⟩
      case measure => simp [intOf]; omega
    · obtain rfl : k = 8 * l0.length := by omega
      have h := refTo_end l0
      rw [h]
      clear h
      have hs : 4294967295 - ((run (4294967295#32) (toB l0)).toNat : Int) = ((sum (toB l0)).toNat : Int) := by
        unfold sum; rw [BitVec.toNat_not]; have := (run (4294967295#32) (toB l0)).isLt; show _ = ((2 ^ 32 - 1 - (run (4294967295#32) (toB l0)).toNat : Nat) : Int); omega
      have HS := Lib.hid hs
      clear hs
      go_wp2_with fail
      go_ret
      exact ⟨ret_int HS.out, HB⟩
end Go.Proofs.Ytcobdpkpefgdlaa.Given
