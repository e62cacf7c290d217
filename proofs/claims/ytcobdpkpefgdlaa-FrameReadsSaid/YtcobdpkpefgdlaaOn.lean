/- What crc.on does: the walk. -/
import Derived.Test.YtcobdpkpefgdlaaRow
import Derived.Test.YtcobdpkpefgdlaaWWords
import Derived.Test.YtcobdpkpefgdlaaWMore
namespace Go.Proofs.Ytcobdpkpefgdlaa
open Go.RowKit Go.Proofs.Crc Go.Proofs.YtcobdpkpefgdlaaW.PrintWords
def toB (xs : List Int) : List UInt8 := xs.map fun x => UInt8.ofNat x.toNat
def isB (xs : List Int) : Prop := ∀ x ∈ xs, 0 ≤ x ∧ x < 256
theorem rd_mem (xs : List Int) (k : Nat) (h : k < xs.length) : rd xs (k : Int) ∈ xs := by
  unfold rd; rw [Int.toNat_natCast, List.getD_eq_getElem?_getD, List.getElem?_eq_getElem h]; exact List.getElem_mem h
theorem toB_take_succ (xs : List Int) (k : Nat) (h : k < xs.length) : toB (xs.take (k + 1)) = toB (xs.take k) ++ [UInt8.ofNat (rd xs (k : Int)).toNat] := by
  unfold toB rd; rw [List.take_succ_eq_append_getElem h, List.map_append, Int.toNat_natCast, List.getD_eq_getElem?_getD, List.getElem?_eq_getElem h]; rfl
set_option maxHeartbeats 1000000 in
set_option maxRecDepth 100000 in
theorem on_any (l : W) (g : Nat) (A : Option Addr) (c : Nat) (xs : List Int) (w : World) (ht : ∀ j, j < 256 → w.cell? ⟨g, j, none⟩ = some (tabV j)) (hr : Kd.C (Kd.int .u8) w A xs.length xs) (hx : isB xs) (hl : xs.length ≤ 140737488355328) :
    Calls Try.prog 40 #[.int .u32 (l.toNat : Int), .pointer (some ⟨g, 0, none⟩), .slice A xs.length c] w fun e w' => e = .returned (.int .u32 ((run l (toB xs)).toNat : Int)) ∧ w = w' := by
  have HT := Lib.hid ht
  have HR := Lib.hid hr
  have HX := Lib.hid hx
  clear ht hr hx
  go_enter Try.func40, Try.ntmps40
  go_wp2_with fail
  go_loop [0, 11] (fun p i => ∃ k : Nat, k ≤ xs.length ∧ i = .int .i64 k ∧ p = .int .u32 ((run l (toB (xs.take k))).toNat : Int)) (fun _ i => xs.length - (intOf i).toNat)
  case atStart => exact ⟨0, Nat.zero_le _, rfl, rfl⟩
  case round =>
    obtain ⟨k, hk, rfl, rfl⟩ := hrel
    by_cases hlt : k < xs.length
    · obtain ⟨ad, e, hcell⟩ := Kd.at_int HR (k : Int) (by omega) (by omega)
      cases e
      rw [Int.toNat_natCast] at hcell
      generalize hz : rd xs (k : Int) = x at hcell
      have hx : 0 ≤ x ∧ x < 256 := by rw [← hz]; exact HX _ (rd_mem xs k hlt)
      have hx0 := hx.1
      have hx1 := hx.2
      clear hx
      have Hz := Lib.hid hz
      clear hz
      generalize hq : run l (toB (xs.take k)) = q
      have Hq := Lib.hid hq
      clear hq
      have hj0 := idx_lo q x hx0 hx1
      have hj1 := idx_hi q x hx0 hx1
      have hs := Lib.hid (idx_step q x hx0 hx1)
      have hc2 : w.cell? ⟨g, (Go.bits .xor .u8 ((q.toNat : Int) % 256) x).toNat, none⟩ = some (.int .u32 ((tab (Go.bits .xor .u8 ((q.toNat : Int) % 256) x).toNat).toNat : Int)) := HT _ (by omega)
      clear hx0 hx1
      go_wp2_with fail
      go_round
      case rel => exact ⟨k + 1, by omega, by go_num, by rw [toB_take_succ xs k hlt, run_snoc, Hq.out, Hz.out]; exact congrArg _ hs⟩
      case measure => simp [intOf]; omega
    · obtain rfl : k = xs.length := by omega
      have h := List.take_length (l := xs)
      rw [h]
      clear h
      go_wp2_with fail
      go_ret
      exact ⟨rfl, rfl⟩
end Go.Proofs.Ytcobdpkpefgdlaa
