/- What crc.row does: the walk. -/
import Derived.Test.YtcobdpkpefgdlaaUp
namespace Go.Proofs.Ytcobdpkpefgdlaa
open Go.RowKit Go.Proofs.Crc
/-- The table's value at i. -/
def tabV (i : Nat) : Value := .int .u32 ((tab i).toNat : Int)
theorem u32_small (k : Nat) (h : k < 256) : (k : Int) = ((pow 0 (BitVec.ofNat 32 k)).toNat : Int) := by
  unfold pow; rw [BitVec.toNat_ofNat]; omega
theorem zero69 (w : World) : (zeroValue 69).run Try.prog w = .ok (.agg (Array.replicate 256 (.int .u32 0))) w := by kernel_rfl
theorem row_set (Z : Array Value) (k : Nat) (hs : Z.size = 256) (hk : k < 256) (h : ∀ j, j < k → Z[j]? = some (tabV j)) (v : Value) (hv : v = tabV k) :
    ∀ j, j < k + 1 → (Z.setIfInBounds k v)[j]? = some (tabV j) := by
  intro j hj
  rw [Array.getElem?_setIfInBounds]
  by_cases e : k = j
  · subst e; rw [if_pos rfl, if_pos (by omega), hv]
  · rw [if_neg e]; exact h j (by omega)
set_option maxHeartbeats 1000000 in
set_option maxRecDepth 100000 in
theorem row_any (w : World) :
    Calls Try.prog 39 #[] w fun e w' => ∃ Z : Array Value, e = .returned (.pointer (some ⟨w.heap.size, 0, none⟩)) ∧ w' = w.alloc (.cells Z 69) ∧ Z.size = 256 ∧ ∀ j, j < 256 → Z[j]? = some (tabV j) := by
  obtain ⟨Z, hz, hZ⟩ : ∃ Z : Array Value, (∀ w, (zeroValue 69).run Try.prog w = .ok (.agg Z) w) ∧ Hid (Z = Array.replicate 256 (.int .u32 0)) := ⟨_, zero69, Lib.hid rfl⟩
  go_enter Try.func39, Try.ntmps39
  go_wp2_with fail
  go_loopw [4] (fun i wr => ∃ (k : Nat) (Zk : Array Value), k ≤ 256 ∧ i = .int .i64 k ∧ wr = w.alloc (.cells Zk 69) ∧ Hid (Zk.size = 256 ∧ (∀ j, k ≤ j → j < 256 → Zk[j]? = some (.int .u32 0)) ∧ ∀ j, j < k → Zk[j]? = some (tabV j))) (fun i _ => 256 - (intOf i).toNat)
  case atStart =>
    have h : Z = Array.replicate 256 (.int .u32 0) := hZ
    refine ⟨0, Z, Nat.zero_le _, rfl, rfl, ?_⟩
    show Z.size = 256 ∧ _ ∧ _
    rw [h]
    exact ⟨by simp, fun j _ hj => by simp [hj], fun j hj => absurd hj (Nat.not_lt_zero _)⟩
  case round =>
    clear hz hZ
    obtain ⟨k, Zk, hk, rfl, rfl, hh⟩ := hrel
    by_cases hlt : k < 256
    · have hcell : Zk[k]? = some (.int .u32 0) := hh.2.1 k (Nat.le_refl _) hlt
      have hsm := Lib.hid (u32_small k hlt)
      have hd : decide ((k : Int) < 256) = true := by simp; omega
      go_wp2_with fail
      go_loop [3, 9] (fun p i => ∃ j : Nat, j ≤ 8 ∧ i = .int .i64 j ∧ p = .int .u32 ((pow j (BitVec.ofNat 32 k)).toNat : Int)) (fun _ i => 8 - (intOf i).toNat)
      case atStart => exact ⟨0, Nat.zero_le _, rfl, by rw [← hsm.out]⟩
      case round =>
        obtain ⟨j, hj, rfl, rfl⟩ := hrel
        by_cases hlj : j < 8
        · go_wp2_with (go_at_call 41; refine (up_any _ _).mono ?_; rintro e w' ⟨rfl, rfl⟩)
          go_round
          case rel => exact ⟨j + 1, by omega, by go_num, rfl⟩
          case measure => simp [intOf]; omega
        · obtain rfl : j = 8 := by omega
          go_wp2_with fail
          go_roundw
          case rel =>
            refine ⟨k + 1, Zk.setIfInBounds k (tabV k), by omega, by go_num, rfl, ?_⟩
            exact ⟨by rw [Array.size_setIfInBounds]; exact hh.1, fun j h1 h2 => by rw [Array.getElem?_setIfInBounds_ne (by omega)]; exact hh.2.1 j (by omega) h2, row_set Zk k hh.1 hlt hh.2.2 _ rfl⟩
          case measure => simp [intOf]; omega
    · obtain rfl : k = 256 := by omega
      go_wp2_with fail
      go_ret
      exact ⟨Zk, rfl, rfl, hh.1, hh.2.2⟩
end Go.Proofs.Ytcobdpkpefgdlaa
