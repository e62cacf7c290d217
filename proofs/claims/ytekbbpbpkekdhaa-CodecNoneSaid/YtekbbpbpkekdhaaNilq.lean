/- What the laws' write and read do where nobody made the writer, the reader: the walks. -/
import Derived.Test.YtekbbpbpkekdhaaNil
namespace Go.Proofs.Ytekbbpbpkekdhaa.Cod
open Go.RowKit Go.Proofs.Ytekbbpbpkekdhaa.Ex Go.Proofs.Ytekbbpbpkekdhaa.PBase Go.Proofs.YtekbbpbpkekdhaaW.PrintWords Go.Proofs.YtekbbpbpkekdhaaW.PrintLast Go.Proofs.YtekbbpbpkekdhaaW.PrintMore
set_option maxHeartbeats 400000 in
set_option maxRecDepth 100000 in
theorem writeq_0 (p : Option Addr) (x : V) (A : Option Addr) (c : Nat) (w : World) (hw : WQ p w) (hx : x.ok) (hll : x.l.length ≤ 9223372036854775807) (hsl : x.s.size ≤ 9223372036854775807) (hk : x.k = 0) :
    Calls Try.prog 16 #[.pointer p, x.agg A c] w (Nothing w) := by
  obtain ⟨k, u, i, b, l, s, n⟩ := x
  obtain rfl : k = 0 := hk
  obtain ⟨⟨m, hu, hu2⟩, hi0, hi1, hn0, hn1⟩ := hx
  obtain rfl : u = (m : Int) := hu
  simp only [] at hu2 hi0 hi1 hn0 hn1 hll hsl
  unfold V.agg
  have hb1 : Below w.heap.size w (w.alloc (.cells #[.int .u8 0, .int .u64 (m : Int), .int .i64 i, .bool b, .slice A l.length c, .string s, .int .i64 n] 29)) := (Below.refl _ _).alloc (Nat.le_refl _) _
  have HB1 := Aside0.mk hb1
  have HW := Aside0.mk (hw.below hb1)
  have CALL := Aside0.mk (uint_q p m _ HW.out hu2)
  clear hw hb1
  go_enter Try.func16, Try.ntmps16
  go_wp2_with fail
  refine CALL.out.mono ?_
  rintro e w1 ⟨rfl, hb⟩
  have HB := Aside0.mk (HB1.out.trans (hb.mono HB1.out.size))
  clear hb
  go_wp2_with fail
  go_end0
  exact ⟨rfl, HB.out⟩
set_option maxHeartbeats 400000 in
set_option maxRecDepth 100000 in
theorem writeq_1 (p : Option Addr) (x : V) (A : Option Addr) (c : Nat) (w : World) (hw : WQ p w) (hx : x.ok) (hll : x.l.length ≤ 9223372036854775807) (hsl : x.s.size ≤ 9223372036854775807) (hk : x.k = 1) :
    Calls Try.prog 16 #[.pointer p, x.agg A c] w (Nothing w) := by
  obtain ⟨k, u, i, b, l, s, n⟩ := x
  obtain rfl : k = 1 := hk
  obtain ⟨⟨m, hu, hu2⟩, hi0, hi1, hn0, hn1⟩ := hx
  obtain rfl : u = (m : Int) := hu
  simp only [] at hu2 hi0 hi1 hn0 hn1 hll hsl
  unfold V.agg
  have hb1 : Below w.heap.size w (w.alloc (.cells #[.int .u8 1, .int .u64 (m : Int), .int .i64 i, .bool b, .slice A l.length c, .string s, .int .i64 n] 29)) := (Below.refl _ _).alloc (Nat.le_refl _) _
  have HB1 := Aside0.mk hb1
  have HW := Aside0.mk (hw.below hb1)
  have CALL := Aside0.mk (int_q p i _ HW.out hi0 hi1)
  clear hw hb1
  go_enter Try.func16, Try.ntmps16
  go_wp2_with fail
  refine CALL.out.mono ?_
  rintro e w1 ⟨rfl, hb⟩
  have HB := Aside0.mk (HB1.out.trans (hb.mono HB1.out.size))
  clear hb
  go_wp2_with fail
  go_end0
  exact ⟨rfl, HB.out⟩
set_option maxHeartbeats 400000 in
set_option maxRecDepth 100000 in
theorem writeq_2 (p : Option Addr) (x : V) (A : Option Addr) (c : Nat) (w : World) (hw : WQ p w) (hx : x.ok) (hll : x.l.length ≤ 9223372036854775807) (hsl : x.s.size ≤ 9223372036854775807) (hk : x.k = 2) :
    Calls Try.prog 16 #[.pointer p, x.agg A c] w (Nothing w) := by
  obtain ⟨k, u, i, b, l, s, n⟩ := x
  obtain rfl : k = 2 := hk
  obtain ⟨⟨m, hu, hu2⟩, hi0, hi1, hn0, hn1⟩ := hx
  obtain rfl : u = (m : Int) := hu
  simp only [] at hu2 hi0 hi1 hn0 hn1 hll hsl
  unfold V.agg
  have hb1 : Below w.heap.size w (w.alloc (.cells #[.int .u8 2, .int .u64 (m : Int), .int .i64 i, .bool b, .slice A l.length c, .string s, .int .i64 n] 29)) := (Below.refl _ _).alloc (Nat.le_refl _) _
  have HB1 := Aside0.mk hb1
  have HW := Aside0.mk (hw.below hb1)
  have CALL := Aside0.mk (bool_q p b _ HW.out)
  clear hw hb1
  go_enter Try.func16, Try.ntmps16
  go_wp2_with fail
  refine CALL.out.mono ?_
  rintro e w1 ⟨rfl, hb⟩
  have HB := Aside0.mk (HB1.out.trans (hb.mono HB1.out.size))
  clear hb
  go_wp2_with fail
  go_end0
  exact ⟨rfl, HB.out⟩
set_option maxHeartbeats 400000 in
set_option maxRecDepth 100000 in
theorem writeq_3 (p : Option Addr) (x : V) (A : Option Addr) (c : Nat) (w : World) (hw : WQ p w) (hx : x.ok) (hll : x.l.length ≤ 9223372036854775807) (hsl : x.s.size ≤ 9223372036854775807) (hk : x.k = 3) :
    Calls Try.prog 16 #[.pointer p, x.agg A c] w (Nothing w) := by
  obtain ⟨k, u, i, b, l, s, n⟩ := x
  obtain rfl : k = 3 := hk
  obtain ⟨⟨m, hu, hu2⟩, hi0, hi1, hn0, hn1⟩ := hx
  obtain rfl : u = (m : Int) := hu
  simp only [] at hu2 hi0 hi1 hn0 hn1 hll hsl
  unfold V.agg
  have hb1 : Below w.heap.size w (w.alloc (.cells #[.int .u8 3, .int .u64 (m : Int), .int .i64 i, .bool b, .slice A l.length c, .string s, .int .i64 n] 29)) := (Below.refl _ _).alloc (Nat.le_refl _) _
  have HB1 := Aside0.mk hb1
  have HW := Aside0.mk (hw.below hb1)
  have CALL := Aside0.mk (bytes_q p A l.length c _ HW.out hll)
  clear hw hb1
  go_enter Try.func16, Try.ntmps16
  go_wp2_with fail
  refine CALL.out.mono ?_
  rintro e w1 ⟨rfl, hb⟩
  have HB := Aside0.mk (HB1.out.trans (hb.mono HB1.out.size))
  clear hb
  go_wp2_with fail
  go_end0
  exact ⟨rfl, HB.out⟩
set_option maxHeartbeats 400000 in
set_option maxRecDepth 100000 in
theorem writeq_4 (p : Option Addr) (x : V) (A : Option Addr) (c : Nat) (w : World) (hw : WQ p w) (hx : x.ok) (hll : x.l.length ≤ 9223372036854775807) (hsl : x.s.size ≤ 9223372036854775807) (hk : x.k = 4) :
    Calls Try.prog 16 #[.pointer p, x.agg A c] w (Nothing w) := by
  obtain ⟨k, u, i, b, l, s, n⟩ := x
  obtain rfl : k = 4 := hk
  obtain ⟨⟨m, hu, hu2⟩, hi0, hi1, hn0, hn1⟩ := hx
  obtain rfl : u = (m : Int) := hu
  simp only [] at hu2 hi0 hi1 hn0 hn1 hll hsl
  unfold V.agg
  have hb1 : Below w.heap.size w (w.alloc (.cells #[.int .u8 4, .int .u64 (m : Int), .int .i64 i, .bool b, .slice A l.length c, .string s, .int .i64 n] 29)) := (Below.refl _ _).alloc (Nat.le_refl _) _
  have HB1 := Aside0.mk hb1
  have HW := Aside0.mk (hw.below hb1)
  have CALL := Aside0.mk (text_q p s _ HW.out hsl)
  clear hw hb1
  go_enter Try.func16, Try.ntmps16
  go_wp2_with fail
  refine CALL.out.mono ?_
  rintro e w1 ⟨rfl, hb⟩
  have HB := Aside0.mk (HB1.out.trans (hb.mono HB1.out.size))
  clear hb
  go_wp2_with fail
  go_end0
  exact ⟨rfl, HB.out⟩
set_option maxHeartbeats 400000 in
set_option maxRecDepth 100000 in
theorem writeq_5 (p : Option Addr) (x : V) (A : Option Addr) (c : Nat) (w : World) (hw : WQ p w) (hx : x.ok) (hll : x.l.length ≤ 9223372036854775807) (hsl : x.s.size ≤ 9223372036854775807) (hk : x.k = 5) :
    Calls Try.prog 16 #[.pointer p, x.agg A c] w (Nothing w) := by
  obtain ⟨k, u, i, b, l, s, n⟩ := x
  obtain rfl : k = 5 := hk
  obtain ⟨⟨m, hu, hu2⟩, hi0, hi1, hn0, hn1⟩ := hx
  obtain rfl : u = (m : Int) := hu
  simp only [] at hu2 hi0 hi1 hn0 hn1 hll hsl
  unfold V.agg
  have hb1 : Below w.heap.size w (w.alloc (.cells #[.int .u8 5, .int .u64 (m : Int), .int .i64 i, .bool b, .slice A l.length c, .string s, .int .i64 n] 29)) := (Below.refl _ _).alloc (Nat.le_refl _) _
  have HB1 := Aside0.mk hb1
  have HW := Aside0.mk (hw.below hb1)
  have CALL := Aside0.mk (len_q p n _ HW.out hn0 hn1)
  clear hw hb1
  go_enter Try.func16, Try.ntmps16
  go_wp2_with fail
  refine CALL.out.mono ?_
  rintro e w1 ⟨rfl, hb⟩
  have HB := Aside0.mk (HB1.out.trans (hb.mono HB1.out.size))
  clear hb
  go_wp2_with fail
  go_end0
  exact ⟨rfl, HB.out⟩
theorem writeq_any (p : Option Addr) (x : V) (A : Option Addr) (c : Nat) (w : World) (hw : WQ p w) (hx : x.ok) (hll : x.l.length ≤ 9223372036854775807) (hsl : x.s.size ≤ 9223372036854775807) (hk0 : 0 ≤ x.k) (hk5 : x.k ≤ 5) :
    Calls Try.prog 16 #[.pointer p, x.agg A c] w (Nothing w) := by
  rcases (show x.k = 0 ∨ x.k = 1 ∨ x.k = 2 ∨ x.k = 3 ∨ x.k = 4 ∨ x.k = 5 by omega) with h | h | h | h | h | h
  · exact writeq_0 p x A c w hw hx hll hsl h
  · exact writeq_1 p x A c w hw hx hll hsl h
  · exact writeq_2 p x A c w hw hx hll hsl h
  · exact writeq_3 p x A c w hw hx hll hsl h
  · exact writeq_4 p x A c w hw hx hll hsl h
  · exact writeq_5 p x A c w hw hx hll hsl h
/-- A reader that is nil, or that nobody made. -/
def RQ (p : Option Addr) (w : World) : Prop := p = none ∨ ∃ g, p = some ⟨g, 0, none⟩ ∧ w.heap[g]? = some (.cells #[.slice none 0 0, .bool false, .bool false] 65 (0, 0))
theorem RQ.below {p : Option Addr} {w w1 : World} (h : RQ p w) (hb : Below w.heap.size w w1) : RQ p w1 := by
  rcases h with h | ⟨g, h, hg⟩
  · exact .inl h
  · exact .inr ⟨g, h, (hb.block g (blk_lt hg)).trans hg⟩
set_option maxHeartbeats 400000 in
theorem dead_q (p : Option Addr) (w : World) (hw : RQ p w) : Calls Try.prog 46 #[.pointer p] w fun e w' => e = .returned (.bool true) ∧ w' = w := by
  rcases hw with rfl | ⟨g, rfl, hg⟩
  · go_enter Try.func46, Try.ntmps46
    go_wp2_with fail
    go_ret
    exact ⟨rfl, rfl⟩
  · have h1 : w.cell? ⟨g, 1, none⟩ = some (.bool false) := blk_cell hg 1
    clear hg
    go_enter Try.func46, Try.ntmps46
    go_wp2_with fail
    go_ret
    exact ⟨rfl, rfl⟩
set_option maxHeartbeats 400000 in
theorem err_q (p : Option Addr) (w : World) (hw : RQ p w) : Calls Try.prog 24 #[.pointer p] w fun e w' => e = .returned (.int .i64 1) ∧ w' = w := by
  rcases hw with rfl | ⟨g, rfl, hg⟩
  · go_enter Try.func24, Try.ntmps24
    go_wp2_with fail
    go_ret
    exact ⟨rfl, rfl⟩
  · have h1 : w.cell? ⟨g, 1, none⟩ = some (.bool false) := blk_cell hg 1
    clear hg
    go_enter Try.func24, Try.ntmps24
    go_wp2_with fail
    go_ret
    exact ⟨rfl, rfl⟩
set_option maxHeartbeats 400000 in
theorem done_q (p : Option Addr) (w : World) (hw : RQ p w) : Calls Try.prog 26 #[.pointer p] w fun e w' => e = .returned (.int .i64 1) ∧ w' = w := by
  have HE := Aside0.mk (err_q p w hw)
  clear hw
  go_enter Try.func26, Try.ntmps26
  go_wp2_with fail
  refine HE.out.mono ?_
  rintro e w1 ⟨rfl, rfl⟩
  go_wp2_with fail
  go_ret
  exact ⟨rfl, rfl⟩
set_option maxHeartbeats 400000 in
theorem ruint_q (p : Option Addr) (w : World) (hw : RQ p w) : Calls Try.prog 38 #[.pointer p] w fun e w' => e = .returned (.int .u64 0) ∧ w' = w := by
  have HD := Aside0.mk (dead_q p w hw)
  clear hw
  go_enter Try.func38, Try.ntmps38
  go_wp2_with fail
  refine HD.out.mono ?_
  rintro e w1 ⟨rfl, rfl⟩
  go_wp2_with fail
  go_ret
  exact ⟨rfl, rfl⟩
set_option maxHeartbeats 400000 in
theorem rbool_q (p : Option Addr) (w : World) (hw : RQ p w) : Calls Try.prog 31 #[.pointer p] w fun e w' => e = .returned (.bool false) ∧ w' = w := by
  have HD := Aside0.mk (dead_q p w hw)
  clear hw
  go_enter Try.func31, Try.ntmps31
  go_wp2_with fail
  refine HD.out.mono ?_
  rintro e w1 ⟨rfl, rfl⟩
  go_wp2_with fail
  go_ret
  exact ⟨rfl, rfl⟩
set_option maxHeartbeats 400000 in
theorem rint_q (p : Option Addr) (w : World) (hw : RQ p w) : Calls Try.prog 39 #[.pointer p] w fun e w' => e = .returned (.int .i64 0) ∧ w' = w := by
  have HD := Aside0.mk (ruint_q p w hw)
  have hz : bits .xor .i64 0 (wrap64 (-wrap64 (bits .and .u64 0 1))) = 0 := unzig0
  have HZ := Aside0.mk hz
  clear hw hz
  go_enter Try.func39, Try.ntmps39
  go_wp2_with fail
  refine HD.out.mono ?_
  rintro e w1 ⟨rfl, rfl⟩
  go_wp2_with fail
  go_ret
  exact ⟨by first | rfl | (rw [show (0 : Int) / 2 = 0 from rfl]; exact congrArg (fun z => Ending.returned (.int .i64 z)) HZ.out) | exact congrArg (fun z => Ending.returned (.int .i64 z)) HZ.out, rfl⟩
set_option maxHeartbeats 400000 in
theorem rlen_q (p : Option Addr) (m : Int) (w : World) (hw : RQ p w) : Calls Try.prog 42 #[.pointer p, .int .i64 m] w fun e w' => e = .returned (.int .i64 0) ∧ w' = w := by
  have HU := Aside0.mk (ruint_q p w hw)
  have HD := Aside0.mk (dead_q p w hw)
  clear hw
  go_enter Try.func42, Try.ntmps42
  go_wp2_with fail
  refine HU.out.mono ?_
  rintro e w1 ⟨rfl, rfl⟩
  go_wp2_with fail
  refine HD.out.mono ?_
  rintro e w1 ⟨rfl, rfl⟩
  go_wp2_with fail
  go_ret
  exact ⟨rfl, rfl⟩
set_option maxHeartbeats 400000 in
theorem rbytes_q (p : Option Addr) (w : World) (hw : RQ p w) : Calls Try.prog 40 #[.pointer p] w fun e w' => e = .returned (.slice none 0 0) ∧ w' = w := by
  have HU := Aside0.mk (ruint_q p w hw)
  have HD := Aside0.mk (dead_q p w hw)
  clear hw
  go_enter Try.func40, Try.ntmps40
  go_wp2_with fail
  refine HU.out.mono ?_
  rintro e w1 ⟨rfl, rfl⟩
  go_wp2_with fail
  refine HD.out.mono ?_
  rintro e w1 ⟨rfl, rfl⟩
  go_wp2_with fail
  go_ret
  exact ⟨rfl, rfl⟩
set_option maxHeartbeats 400000 in
theorem rtext_q (p : Option Addr) (w : World) (hw : RQ p w) : Calls Try.prog 41 #[.pointer p] w fun e w' => e = .returned (.string ⟨#[]⟩) ∧ w' = w := by
  have HD := Aside0.mk (rbytes_q p w hw)
  have kc := fun w => run_convert_bytes_nil (P := Try.prog) w 26 5 Try.underlying26 Try.underlying5 0 0 9 Try.underlying9
  clear hw
  go_enter Try.func41, Try.ntmps41
  go_wp2_with fail
  refine HD.out.mono ?_
  rintro e w1 ⟨rfl, rfl⟩
  go_wp2_with fail
  go_ret
  exact ⟨rfl, rfl⟩
end Go.Proofs.Ytekbbpbpkekdhaa.Cod
