/- What crc.up and crc.row do: the walk. -/
import Derived.Test.YtcobdpkpefgdlaaProg
import Derived.Test.YtcobdpkpefgdlaaBits
import Derived.WalkKit
import Derived.WalkSpells
import Derived.WalkLawsBesides
import Derived.Outline
import Derived.Lib.Hide
namespace Go.Proofs.Ytcobdpkpefgdlaa
open Go.RowKit Go.Proofs.Crc
theorem ret_int {k : IntKind} {a b : Int} (h : a = b) : Ending.returned (.int k a) = .returned (.int k b) := by rw [h]
set_option maxHeartbeats 400000 in
theorem up_any (p : W) (w : World) :
    Calls Try.prog 41 #[.int .u32 (p.toNat : Int)] w fun e w' => e = .returned (.int .u32 ((up p).toNat : Int)) ∧ w = w' := by
  cases hb : p.getLsbD 0 with
  | true =>
    have c1 : ((Go.bits .and .u32 (p.toNat : Int) 1) == 1) = true := by rw [and_one, hb]; rfl
    have c2 : ((Go.bits .and .u32 (p.toNat : Int) 1) != 1) = false := by rw [and_one, hb]; rfl
    have he : Go.bits .xor .u32 ((p.toNat : Int) / 2) 2197175160 = ((up p).toNat : Int) := by
      rw [show (p.toNat : Int) / (2 : Int) = I (p >>> 1) from half p, ← I_D, bits_xor]; unfold up; rw [hb, if_pos rfl]
    have He := Lib.hid he
    have Hb := Lib.hid hb
    clear he hb
    go_enter Try.func41, Try.ntmps41
    go_wp2
    go_ret
    exact ⟨ret_int He.out, rfl⟩
  | false =>
    have c1 : ((Go.bits .and .u32 (p.toNat : Int) 1) == 1) = false := by rw [and_one, hb]; rfl
    have c2 : ((Go.bits .and .u32 (p.toNat : Int) 1) != 1) = true := by rw [and_one, hb]; rfl
    have he : (p.toNat : Int) / 2 = ((up p).toNat : Int) := by
      rw [show (p.toNat : Int) / (2 : Int) = I (p >>> 1) from half p]; unfold up; rw [hb, if_neg (by simp)]
    have He := Lib.hid he
    have Hb := Lib.hid hb
    clear he hb
    go_enter Try.func41, Try.ntmps41
    go_wp2
    go_ret
    exact ⟨ret_int He.out, rfl⟩
end Go.Proofs.Ytcobdpkpefgdlaa
