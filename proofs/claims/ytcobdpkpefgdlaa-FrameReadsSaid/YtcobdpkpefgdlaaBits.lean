/- The machine's words on 32-bit numbers, told of the plain mathematics of the crc. -/
import Derived.Laws.BitsLemmas
import GoSem.Claim
import Derived.Laws.BitsAllLaws
import Derived.Test.YtcobdpkpefgdlaaMath
namespace Go.Proofs.Crc
abbrev I (p : W) : Int := (p.toNat : Int)
theorem I_range (p : W) : 0 ≤ I p ∧ I p < 4294967296 := by have := p.isLt; unfold I; omega
theorem ofInt_I (p : W) : BitVec.ofInt 32 (I p) = p := by
  apply BitVec.eq_of_toInt_eq; simp [BitVec.toInt_eq_toNat_bmod]
theorem wrap_I (p : W) : IntKind.u32.wrap (I p) = I p := by rw [IntKind.wrap_u32]; have := I_range p; omega
theorem bits_xor (a b : W) : Go.bits .xor .u32 (I a) (I b) = I (a ^^^ b) := by
  show IntKind.u32.wrap (((BitVec.ofInt 32 (I a)) ^^^ (BitVec.ofInt 32 (I b))).toNat : Int) = _
  rw [ofInt_I, ofInt_I]; exact wrap_I _
theorem bits_and (a b : W) : Go.bits .and .u32 (I a) (I b) = I (a &&& b) := by
  show IntKind.u32.wrap (((BitVec.ofInt 32 (I a)) &&& (BitVec.ofInt 32 (I b))).toNat : Int) = _
  rw [ofInt_I, ofInt_I]; exact wrap_I _
theorem bit0 (p : W) : p.getLsbD 0 = decide (p.toNat % 2 = 1) := by simp [BitVec.getLsbD, Nat.testBit_zero]
theorem and_one (p : W) : Go.bits .and .u32 (I p) 1 = if p.getLsbD 0 = true then 1 else 0 := by
  have h : Go.bits .and .u32 (I p) (I 1#32) = I (p &&& 1#32) := bits_and p 1#32
  rw [show I 1#32 = 1 from rfl] at h
  rw [h, bit0]
  have e : (p &&& 1#32).toNat = p.toNat % 2 := by
    rw [BitVec.toNat_and]; exact Nat.and_two_pow_sub_one_eq_mod p.toNat 1
  unfold I; rw [e]
  have := Nat.mod_lt p.toNat (show 0 < 2 by omega)
  by_cases c : p.toNat % 2 = 1
  · simp [c]
  · have : p.toNat % 2 = 0 := by omega
    simp [this]
theorem half (p : W) : I p / (2 : Int) = I (p >>> 1) := by
  unfold I; rw [BitVec.toNat_ushiftRight, Nat.shiftRight_eq_div_pow]; omega
theorem shr8 (p : W) : I p / (256 : Int) = I (p >>> 8) := by
  unfold I; rw [BitVec.toNat_ushiftRight, Nat.shiftRight_eq_div_pow]; omega
theorem I_inj {a b : W} (h : I a = I b) : a = b := by apply BitVec.eq_of_toNat_eq; unfold I at h; omega
theorem I_D : I D = 2197175160 := rfl
/-- A number of 32 bits is one of these. -/
theorem of_wf {a : Int} (h : (Lit.int .u32 a).wf = true) : ∃ p : W, a = I p := by
  have h' : 0 ≤ a ∧ a < 4294967296 := by
    simp [Lit.wf, IntKind.min, IntKind.max, IntKind.bits, IntKind.signed] at h; omega
  refine ⟨BitVec.ofNat 32 a.toNat, ?_⟩
  unfold I; rw [BitVec.toNat_ofNat]; omega
end Go.Proofs.Crc

namespace Go.Proofs.Crc
/-- The row's place that a byte chooses. -/
theorem idx_eq (q : W) (x : Int) (h0 : 0 ≤ x) (h1 : x < 256) : Go.bits .xor .u8 ((q.toNat : Int) % 256) x = (((q ^^^ wide (UInt8.ofNat x.toNat)).toNat % 256 : Nat) : Int) := by
  rw [u8_xor _ _ (by omega) (by omega) h0 h1]
  congr 1
  have e1 : ((q.toNat : Int) % 256).toNat = q.toNat % 256 := by omega
  have e2 : (wide (UInt8.ofNat x.toNat)).toNat = x.toNat := by
    unfold wide; rw [BitVec.toNat_setWidth]
    simp; omega
  rw [e1, BitVec.toNat_xor, e2]
  have := Nat.xor_mod_two_pow (a := q.toNat) (b := x.toNat) (n := 8)
  rw [show 2 ^ 8 = 256 from rfl] at this
  rw [this]; congr 1; omega
theorem idx_step (q : W) (x : Int) (h0 : 0 ≤ x) (h1 : x < 256) :
    Go.bits .xor .u32 ((tab (Go.bits .xor .u8 ((q.toNat : Int) % 256) x).toNat).toNat : Int) ((q.toNat : Int) / (256 : Int)) = ((step q (UInt8.ofNat x.toNat)).toNat : Int) := by
  rw [idx_eq q x h0 h1, Int.toNat_natCast, show (q.toNat : Int) / (256 : Int) = I (q >>> 8) from shr8 q, bits_xor, step_tab]
theorem idx_lo (q : W) (x : Int) (h0 : 0 ≤ x) (h1 : x < 256) : 0 ≤ Go.bits .xor .u8 ((q.toNat : Int) % 256) x := by rw [idx_eq q x h0 h1]; omega
theorem idx_hi (q : W) (x : Int) (h0 : 0 ≤ x) (h1 : x < 256) : Go.bits .xor .u8 ((q.toNat : Int) % 256) x < 256 := by rw [idx_eq q x h0 h1]; omega
end Go.Proofs.Crc
