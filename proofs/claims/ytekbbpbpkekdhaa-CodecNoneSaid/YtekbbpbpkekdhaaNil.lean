/- What codec's writer does where nobody made it: the walks. -/
import Derived.Test.YtekbbpbpkekdhaaDec
namespace Go.Proofs.Ytekbbpbpkekdhaa.Cod
open Go.RowKit Go.Proofs.Ytekbbpbpkekdhaa.Ex Go.Proofs.YtekbbpbpkekdhaaW.PrintWords Go.Proofs.YtekbbpbpkekdhaaW.PrintLast Go.Proofs.YtekbbpbpkekdhaaW.PrintMore
/-- A writer that is nil, or that nobody made. -/
def WQ (p : Option Addr) (w : World) : Prop := p = none ∨ ∃ g, p = some ⟨g, 0, none⟩ ∧ w.heap[g]? = some (.cells #[.slice none 0 0, .bool false] 62 (0, 0))
theorem WQ.below {p : Option Addr} {w w1 : World} (h : WQ p w) (hb : Below w.heap.size w w1) : WQ p w1 := by
  rcases h with h | ⟨g, h, hg⟩
  · exact .inl h
  · exact .inr ⟨g, h, (hb.block g (blk_lt hg)).trans hg⟩
def Nothing (w : World) (e : Ending) (w' : World) : Prop := e = .returned (.tuple #[]) ∧ Below w.heap.size w w'
set_option maxHeartbeats 400000 in
theorem put_q (g : Nat) (A : Option Addr) (m c : Nat) (w : World) (hg : w.heap[g]? = some (.cells #[.slice none 0 0, .bool false] 62 (0, 0))) :
    Calls Try.prog 45 #[.pointer (some ⟨g, 0, none⟩), .slice A m c] w fun e w' => e = .returned (.tuple #[]) ∧ w' = w := by
  have h1 : w.cell? ⟨g, 1, none⟩ = some (.bool false) := blk_cell hg 1
  clear hg
  go_enter Try.func45, Try.ntmps45
  go_wp2_with fail
  go_end0
  exact ⟨rfl, rfl⟩
set_option maxHeartbeats 400000 in
theorem uint_q (p : Option Addr) (n : Nat) (w : World) (hw : WQ p w) (hn : n < 18446744073709551616) : Calls Try.prog 29 #[.pointer p, .int .u64 (n : Int)] w (Nothing w) := by
  rcases hw with rfl | ⟨g, rfl, hg⟩
  · go_enter Try.func29, Try.ntmps29
    go_wp2_with fail
    go_end0
    exact ⟨rfl, Below.refl _ _⟩
  · have HG := Aside0.mk hg
    clear hg
    go_enter Try.func29, Try.ntmps29
    go_wp2_with fail
    go_loopw [1] (fun x wr => ∃ n' : Nat, x = .int .u64 n' ∧ n' ≤ n ∧ Aside0 (wr.heap[g]? = some (.cells #[.slice none 0 0, .bool false] 62 (0, 0))) ∧ Aside0 (Below w.heap.size w wr)) (fun x _ => (intOf x).toNat)
    case atStart => exact ⟨n, rfl, Nat.le_refl _, HG, ⟨Below.refl _ _⟩⟩
    case round =>
      clear HG
      obtain ⟨n', rfl, hle, HG, HB⟩ := hrel
      by_cases hb : n' < 128
      · have hd : decide ((128 : Int) ≤ (n' : Int)) = false := by simp; omega
        go_wp2_with fail
        refine (put_q g _ _ _ _ ((((Below.refl _ wr).alloc (Nat.le_refl _) _).block g (blk_lt HG.out)).trans HG.out)).mono ?_
        rintro e w1 ⟨rfl, rfl⟩
        go_wp2_with fail
        go_end0
        exact ⟨rfl, HB.out.alloc HB.out.size _⟩
      · have hd : decide ((128 : Int) ≤ (n' : Int)) = true := by simp; omega
        go_wp2_with fail
        refine (put_q g _ _ _ _ ((((Below.refl _ wr).alloc (Nat.le_refl _) _).block g (blk_lt HG.out)).trans HG.out)).mono ?_
        rintro e w1 ⟨rfl, rfl⟩
        go_wp2_with fail
        go_roundw
        case rel => exact ⟨n' / 128, by rw [show (n' : Int) / 128 = ((n' / 128 : Nat) : Int) by omega], by omega, ⟨(((Below.refl _ wr).alloc (Nat.le_refl _) _).block g (blk_lt HG.out)).trans HG.out⟩, ⟨HB.out.alloc HB.out.size _⟩⟩
        case measure => simp [intOf]; omega
set_option maxHeartbeats 400000 in
theorem int_q (p : Option Addr) (x : Int) (w : World) (hw : WQ p w) (h0 : -9223372036854775808 ≤ x) (h1 : x ≤ 9223372036854775807) : Calls Try.prog 30 #[.pointer p, .int .i64 x] w (Nothing w) := by
  have HC := Aside0.mk (uint_q p (zig x) w hw (zig_lt h0 h1))
  have HZ := Aside0.mk (zig_eq x h0 h1)
  clear hw
  go_enter Try.func30, Try.ntmps30
  go_wp2_with fail
  rw [HZ.out]
  refine HC.out.mono ?_
  rintro e w1 ⟨rfl, hb⟩
  have HB := Aside0.mk hb
  clear hb HZ
  go_wp2_with fail
  go_end0
  exact ⟨rfl, HB.out⟩
set_option maxHeartbeats 400000 in
theorem len_q (p : Option Addr) (n : Int) (w : World) (hw : WQ p w) (hn0 : -9223372036854775808 ≤ n) (hn : n ≤ 9223372036854775807) : Calls Try.prog 35 #[.pointer p, .int .i64 n] w (Nothing w) := by
  by_cases h0 : n < 0
  · have HC := Aside0.mk (uint_q p 0 w hw (by omega))
    clear hw
    go_enter Try.func35, Try.ntmps35
    go_wp2_with fail
    refine HC.out.mono ?_
    rintro e w1 ⟨rfl, hb⟩
    have HB := Aside0.mk hb
    clear hb
    go_wp2_with fail
    go_end0
    exact ⟨rfl, HB.out⟩
  · obtain ⟨m, rfl⟩ := Int.eq_ofNat_of_zero_le (show 0 ≤ n by omega)
    have HC := Aside0.mk (uint_q p m w hw (by omega))
    clear hw
    go_enter Try.func35, Try.ntmps35
    go_wp2_with fail
    refine HC.out.mono ?_
    rintro e w1 ⟨rfl, hb⟩
    have HB := Aside0.mk hb
    clear hb
    go_wp2_with fail
    go_end0
    exact ⟨rfl, HB.out⟩
set_option maxHeartbeats 400000 in
theorem bool_q (p : Option Addr) (b : Bool) (w : World) (hw : WQ p w) : Calls Try.prog 32 #[.pointer p, .bool b] w (Nothing w) := by
  rcases hw with rfl | ⟨g, rfl, hg⟩
  · go_enter Try.func32, Try.ntmps32
    go_wp2_with fail
    go_end0
    exact ⟨rfl, Below.refl _ _⟩
  · have HG := Aside0.mk hg
    clear hg
    cases b <;> (
      go_enter Try.func32, Try.ntmps32
      go_wp2_with fail
      refine (put_q g _ _ _ _ ((((Below.refl _ w).alloc (Nat.le_refl _) _).block g (blk_lt HG.out)).trans HG.out)).mono ?_
      rintro e w1 ⟨rfl, rfl⟩
      go_wp2_with fail
      go_end0
      exact ⟨rfl, (Below.refl _ w).alloc (Nat.le_refl _) _⟩)
set_option maxHeartbeats 400000 in
theorem bytes_q (p : Option Addr) (A : Option Addr) (n c : Nat) (w : World) (hw : WQ p w) (hn : n ≤ 9223372036854775807) : Calls Try.prog 33 #[.pointer p, .slice A n c] w (Nothing w) := by
  rcases hw with rfl | ⟨g, rfl, hg⟩
  · go_enter Try.func33, Try.ntmps33
    go_wp2_with fail
    go_end0
    exact ⟨rfl, Below.refl _ _⟩
  · have HG := Aside0.mk hg
    have HC := Aside0.mk (len_q (some ⟨g, 0, none⟩) (n : Int) w (.inr ⟨g, rfl, hg⟩) (by omega) (by omega))
    clear hg
    go_enter Try.func33, Try.ntmps33
    go_wp2_with fail
    refine HC.out.mono ?_
    rintro e w1 ⟨rfl, hb⟩
    have HB := Aside0.mk hb
    have HG1 := Aside0.mk ((hb.block g (blk_lt HG.out)).trans HG.out)
    clear hb
    go_wp2_with fail
    refine (put_q g A n c w1 HG1.out).mono ?_
    rintro e w2 ⟨rfl, rfl⟩
    go_wp2_with fail
    go_end0
    exact ⟨rfl, HB.out⟩
set_option maxHeartbeats 400000 in
theorem text_q (p : Option Addr) (s : ByteArray) (w : World) (hw : WQ p w) (hs : s.size ≤ 9223372036854775807) : Calls Try.prog 34 #[.pointer p, .string s] w (Nothing w) := by
  have kb := fun w => Lib.run_convert_string_bytes (P := Try.prog) w 9 26 5 s Try.underlying9 Try.underlying26 Try.underlying5
  have hB : Below w.heap.size w (Lib.bytesWorld w 5 s) := ⟨rfl, rfl, rfl, by rw [Lib.bytesWorld_size]; omega, fun k hk => Lib.bytesWorld_at_old w 5 s k hk⟩
  have HB := Aside0.mk hB
  have HC := Aside0.mk (bytes_q p (some ⟨w.heap.size, 0, none⟩) s.size (grownCap w s.size 0 5) (Lib.bytesWorld w 5 s) (hw.below hB) hs)
  clear hB hw
  go_enter Try.func34, Try.ntmps34
  go_wp2_with fail
  refine HC.out.mono ?_
  rintro e w1 ⟨rfl, hb⟩
  have HB1 := Aside0.mk (HB.out.trans (hb.mono HB.out.size))
  clear hb
  go_wp2_with fail
  go_end0
  exact ⟨rfl, HB1.out⟩
set_option maxHeartbeats 400000 in
theorem out_q (p : Option Addr) (w : World) (hw : WQ p w) : Calls Try.prog 19 #[.pointer p] w fun e w' => e = .returned (.slice none 0 0) ∧ Below w.heap.size w w' := by
  rcases hw with rfl | ⟨g, rfl, hg⟩
  · go_enter Try.func19, Try.ntmps19
    go_wp2_with fail
    go_ret
    exact ⟨rfl, Below.refl _ _⟩
  · have h0 : w.cell? ⟨g, 0, none⟩ = some (.slice none 0 0) := blk_cell hg 0
    have kn := fun w => Lib.run_eql_slice_nil (P := Try.prog) w 26 5 none 0 0 0 0 Try.underlying26
    clear hg
    have HC : Aside0 (Calls Try.prog 37 #[.slice none 0 0] w fun e w' => e = .returned (.slice none 0 0) ∧ w' = w) := ⟨by
      go_enter Try.func37, Try.ntmps37
      go_wp2_with fail
      go_ret
      exact ⟨rfl, rfl⟩⟩
    go_enter Try.func19, Try.ntmps19
    go_wp2_with fail
    refine HC.out.mono ?_
    rintro e w1 ⟨rfl, rfl⟩
    go_wp2_with fail
    go_ret
    exact ⟨rfl, Below.refl _ _⟩
end Go.Proofs.Ytekbbpbpkekdhaa.Cod
