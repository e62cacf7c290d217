/- What CrcTurned does: the walk, where the second piece is shorter. -/
import Derived.Test.YtfejhegogajnhaaTurned
namespace Go.Proofs.Ytfejhegogajnhaa.Given
open Go.RowKit Go.Proofs.Crc Go.Proofs.YtfejhegogajnhaaW.PrintWords Go.Proofs.YtfejhegogajnhaaW.PrintLast
set_option maxHeartbeats 2000000 in
set_option maxRecDepth 100000 in
theorem turned_lt (A0 A1 : Option Addr) (c0 c1 : Nat) (l0 l1 : List Int) (w : World) (hr0 : Kd.C (Kd.int .u8) w A0 l0.length l0) (hc0 : l0.length ≤ c0) (hr1 : Kd.C (Kd.int .u8) w A1 l1.length l1) (hc1 : l1.length ≤ c1) (hb0 : isB l0) (hb1 : isB l1) (hn : l1.length < l0.length) :
    Calls Try.prog 6 #[.slice A0 l0.length c0, .slice A1 l1.length c1] w fun e w' => e = .returned (.bool true) ∧ Below w.heap.size w w' := by
  have hn2 : l1.length ≤ l0.length := by omega
  obtain ⟨hl0, hT0, hx0⟩ := takeR (n := l1.length) hr0 hb0 (by omega)
  obtain ⟨hl1, hT1, hx1⟩ := takeR (n := l1.length) hr1 hb1 (by omega)
  have hq0 : l1.length ≤ c0 := by omega
  have hq1 : l1.length ≤ c1 := by omega
  have B0 := Lib.hid (Below.refl w.heap.size w)
  clear hr0 hr1 hb0 hb1
  by_cases h5 : 5000 < l1.length
  · clear hl0 hT0 hx0 hl1 hT1 hx1
    go_enter Try.func6, Try.ntmps6
    go_wp2_with fail
    refine (tocsinlaw02_awake.calls true _ rfl).mono ?_
    rintro e w1 ⟨rfl, hb⟩
    have B1 := Lib.hid (bel0 B0 hb)
    clear hb B0
    go_wp2_with fail
    go_ret
    exact ⟨rfl, B1⟩
  · have hd5 : decide ((5000 : Int) < (l1.length : Int)) = false := by simp; omega
    have hlaw := turned_law (toB (l0.take l1.length)) (toB (l1.take l1.length)) l1.length (by rw [toB_length, hl0]) (by rw [toB_length, hl1])
    have L0 := Lib.hid hl0
    have L1 := Lib.hid hl1
    have T0 := Lib.hid hT0
    have T1 := Lib.hid hT1
    have X0 := Lib.hid hx0
    have X1 := Lib.hid hx1
    clear hl0 hT0 hx0 hl1 hT1 hx1
    generalize l0.take l1.length = t0 at *
    generalize l1.take l1.length = t1 at *
    have hd : Go.bits .xor .u32 ((sum (toB t0)).toNat : Int) ((sum (toB t1)).toNat : Int) = ((sum (toB t0) ^^^ sum (toB t1)).toNat : Int) := bits_xor _ _
    have hf : Go.bits .xor .u32 ((sum (toB t0 ++ toB t1)).toNat : Int) ((sum (toB t1 ++ toB t0)).toNat : Int) = ((sum (toB t0 ++ toB t1) ^^^ sum (toB t1 ++ toB t0)).toNat : Int) := bits_xor _ _
    rw [hlaw] at hf
    clear hlaw
    generalize sum (toB t0) ^^^ sum (toB t1) = d at *
    go_enter Try.func6, Try.ntmps6
    go_wp2_with fail
    refine (tocsinlaw02_awake.calls true _ rfl).mono ?_
    rintro e w1 ⟨rfl, hb⟩
    have B1 := Lib.hid (bel0 B0 hb)
    clear hb B0
    go_wp2_with fail
    go_region_with (first | (go_at_call_of 14 A0; refine (sumR (w := w) (xs := t0) ?_ c0 L0 T0 (by omega) X0 (by omega)).mono ?_; (repeat (first | exact B1 | apply below_drew)); rintro e w2 ⟨rfl, B2⟩; have B2 := Lib.hid B2) | (go_at_call_of 14 A1; refine (sumR (w := w) (xs := t1) ?_ c1 L1 T1 (by omega) X1 (by omega)).mono ?_; (repeat (first | exact B2 | apply below_drew)); rintro e w3 ⟨rfl, B3⟩; have B3 := Lib.hid B3))
    go_wp2_with fail
    go_region_with (first | (go_at_call 13; refine (ofR2 (w := w) (xs := t0) (ys := t1) ?_ _ c0 c1 ?_ ?_ L0 L1 T0 T1 (by omega) (by omega) X0 X1 (by omega) (by omega)).mono ?_; (repeat (first | exact B3 | apply below_drew | apply below_alloc)); (· go_simp); (· go_simp); rintro e w4 ⟨rfl, B4, D4⟩; have B4 := Lib.hid B4; have D4 := Lib.hid D4) | (go_at_call 13; refine (ofR2 (w := w) (xs := t1) (ys := t0) ?_ _ c1 c0 ?_ ?_ L1 L0 T1 T0 (by omega) (by omega) X1 X0 (by omega) (by omega)).mono ?_; (repeat (first | exact B4 | apply below_drew | apply below_alloc)); (· first | (go_simp; done) | (refine (Below.cell D4 ?_).trans ?_; (· first | (simp; done) | (simp; omega)); (· go_simp))); (· first | (go_simp; done) | (refine (Below.cell D4 ?_).trans ?_; (· first | (simp; done) | (simp; omega)); (· go_simp))); rintro e w5 ⟨rfl, B5, D5⟩; have B5 := Lib.hid B5) | (go_at_call 15; refine (joinR d d l1.length (by omega) B5).mono ?_; rintro e w6 ⟨rfl, B6⟩; have B6 := Lib.hid B6))
    all_goals (go_wp2_with fail; go_ret; exact ⟨rfl, B6⟩)
end Go.Proofs.Ytfejhegogajnhaa.Given
