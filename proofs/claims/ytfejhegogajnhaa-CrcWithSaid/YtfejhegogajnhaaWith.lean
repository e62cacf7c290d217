/- What CrcWith does: the walk. -/
import Derived.Test.YtfejhegogajnhaaTurned
import Derived.Test.YtfejhegogajnhaaOpen
namespace Go.Proofs.Ytfejhegogajnhaa.Given
open Go.RowKit Go.Proofs.Crc Go.Proofs.Ytfejhegogajnhaa.Open Go.Proofs.YtfejhegogajnhaaW.PrintWords Go.Proofs.YtfejhegogajnhaaW.PrintLast
def le4 (s : W) : List Int := [(s.toNat : Int) % 256, (s.toNat : Int) / 256 % 256, (s.toNat : Int) / 65536 % 256, (s.toNat : Int) / 16777216]
theorem isB_of {xs : List Int} (h : wfAll (wfInt .u8) xs) : isB xs := fun x hx => by
  have := h x hx
  simp [wfInt, Lit.wf, IntKind.min, IntKind.max, IntKind.bits, IntKind.signed] at this; omega
theorem le4_isB (s : W) : isB (le4 s) := by
  have := s.isLt
  intro x hx
  simp only [le4, List.mem_cons, List.not_mem_nil, or_false] at hx
  rcases hx with rfl | rfl | rfl | rfl <;> omega
theorem pow8_step (l t : W) : pow 8 (l ^^^ t) = Crc.step l (UInt8.ofNat (t.toNat % 256)) ^^^ (t >>> 8) := by
  have h1 := step_tab (l ^^^ t) 0
  have e0 : (l ^^^ t) ^^^ wide 0 = l ^^^ t := by rw [show wide 0 = 0#32 from rfl, BitVec.xor_zero]
  rw [e0] at h1
  have h2 : Crc.step (l ^^^ t) 0 = pow 8 (l ^^^ t) := by unfold Crc.step; rw [e0]
  rw [← h2, h1, step_tab l, BitVec.ushiftRight_xor_distrib, BitVec.xor_assoc]
  congr 2
  rw [BitVec.toNat_xor, BitVec.toNat_xor]
  have e2 : (wide (UInt8.ofNat (t.toNat % 256))).toNat = t.toNat % 256 := by
    unfold wide; rw [BitVec.toNat_setWidth]; simp; omega
  rw [e2]
  have a1 := Nat.xor_mod_two_pow (a := l.toNat) (b := t.toNat) (n := 8)
  have a2 := Nat.xor_mod_two_pow (a := l.toNat) (b := t.toNat % 256) (n := 8)
  rw [show 2 ^ 8 = 256 from rfl] at a1 a2
  rw [a1, a2, Nat.mod_mod]
theorem run_le4 (l s : W) : run l (toB (le4 s)) = pow 32 (l ^^^ s) := by
  have hs := s.isLt
  have h1 := pow8_step l s
  have b1 : (s >>> 8).toNat % 256 = ((s.toNat : Int) / 256 % 256).toNat := by rw [BitVec.toNat_ushiftRight, Nat.shiftRight_eq_div_pow]; omega
  have b2 : (s >>> 8 >>> 8).toNat % 256 = ((s.toNat : Int) / 65536 % 256).toNat := by rw [BitVec.toNat_ushiftRight, BitVec.toNat_ushiftRight, Nat.shiftRight_eq_div_pow, Nat.shiftRight_eq_div_pow]; omega
  have b3 : (s >>> 8 >>> 8 >>> 8).toNat % 256 = ((s.toNat : Int) / 16777216).toNat := by rw [BitVec.toNat_ushiftRight, BitVec.toNat_ushiftRight, BitVec.toNat_ushiftRight, Nat.shiftRight_eq_div_pow, Nat.shiftRight_eq_div_pow, Nat.shiftRight_eq_div_pow]; omega
  have z : s >>> 8 >>> 8 >>> 8 >>> 8 = 0#32 := by
    apply BitVec.eq_of_toNat_eq
    rw [BitVec.toNat_ushiftRight, BitVec.toNat_ushiftRight, BitVec.toNat_ushiftRight, BitVec.toNat_ushiftRight, Nat.shiftRight_eq_div_pow, Nat.shiftRight_eq_div_pow, Nat.shiftRight_eq_div_pow, Nat.shiftRight_eq_div_pow]
    simp; omega
  show _ = pow (8 + (8 + (8 + 8))) (l ^^^ s)
  rw [pow_add, pow_add, pow_add, h1, pow8_step, pow8_step, pow8_step, z, BitVec.xor_zero, b1, b2, b3]
  have b0 : s.toNat % 256 = ((s.toNat : Int) % 256).toNat := by omega
  rw [b0]; rfl
theorem sum_le4 (bs : List UInt8) (t : W) : sum (bs ++ toB (le4 t)) = ~~~ pow 32 (~~~ sum bs ^^^ t) := by
  unfold sum
  rw [run_append, run_le4]; simp
theorem not_xor_self (s : W) : ~~~ s ^^^ s = ~~~ 0#32 := by rw [not_eq_xor s, xor_right_swap, BitVec.xor_self, BitVec.zero_xor]
theorem with_right (bs : List UInt8) : sum (bs ++ toB (le4 (sum bs))) = 0x48674bc7#32 := by
  rw [sum_le4, not_xor_self]; decide +kernel
theorem with_other (bs : List UInt8) (q : W) (h : sum (bs ++ toB (le4 (sum bs ^^^ q))) = 0x48674bc7#32) : q = 0#32 := by
  rw [← with_right bs, sum_le4, sum_le4, not_xor_self] at h
  have h1 := congrArg (fun x : W => ~~~ x) h
  simp only [BitVec.not_not] at h1
  have h2 := pow_inj 32 h1
  rw [← BitVec.xor_assoc, not_xor_self] at h2
  have h3 := congrArg (fun x : W => (~~~ 0#32) ^^^ x) h2
  simp only [← BitVec.xor_assoc, BitVec.xor_self, BitVec.zero_xor] at h3
  exact h3
/-- Of, over two rows that stand in a row of rows. -/
theorem ofW2 {w W : World} (hB : Below w.heap.size w W) (b : Nat) {A1 A2 : Option Addr} {n1 n2 : Nat} (c1 c2 : Nat) {xs ys : List Int} (h0 : W.cell? ⟨b, 0, none⟩ = some (.slice A1 n1 c1)) (h1 : W.cell? ⟨b, 1, none⟩ = some (.slice A2 n2 c2))
    (hn1 : xs.length = n1) (hn2 : ys.length = n2) (hr1 : Kd.C (Kd.int .u8) W A1 n1 xs) (hr2 : Kd.C (Kd.int .u8) W A2 n2 ys)
    (hc1 : n1 ≤ c1) (hc2 : n2 ≤ c2) (hx : isB xs) (hy : isB ys) (hl1 : n1 ≤ 140737488355328) (hl2 : n2 ≤ 140737488355328) :
    Calls Try.prog 13 #[.slice (some ⟨b, 0, none⟩) 2 2] W fun e w' => e = .returned (.int .u32 ((sum (toB xs ++ toB ys)).toNat : Int)) ∧ Below w.heap.size w w' :=
  (ofR2 (Below.refl _ W) b c1 c2 h0 h1 hn1 hn2 hr1 hr2 hc1 hc2 hx hy hl1 hl2).mono fun _ _ h => ⟨h.1, bel0 hB h.2.1⟩
set_option maxHeartbeats 400000 in
set_option maxRecDepth 100000 in
theorem with_eq (A0 : Option Addr) (c0 : Nat) (l0 : List Int) (q : W) (w : World) (hr0 : Kd.C (Kd.int .u8) w A0 l0.length l0) (hc0 : l0.length ≤ c0) (hb0 : isB l0) (hd5 : decide ((5000 : Int) < (l0.length : Int)) = false) (hq : q = 0#32) :
    Calls Try.prog 9 #[.slice A0 l0.length c0, .int .u32 (q.toNat : Int)] w fun e w' => e = .returned (.bool true) ∧ Below w.heap.size w w' := by
  have hlen : l0.length ≤ 5000 := by simp at hd5; omega
  have f1 : (((sum (toB l0 ++ toB (le4 (sum (toB l0))))).toNat : Int)) = 1214729159 := by rw [with_right]; rfl
  have f2 : (((sum (toB l0 ++ toB (le4 (sum (toB l0) ^^^ q)))).toNat : Int)) = 1214729159 := by rw [hq, BitVec.xor_zero]; exact f1
  have f3 : (q.toNat : Int) = 0 := by rw [hq]; rfl
  have B0 := Lib.hid (Below.refl w.heap.size w)
  have HR := Lib.hid hr0
  have HX := Lib.hid hb0
  clear hr0 hb0 hq
  go_enter Try.func9, Try.ntmps9
  go_wp2_with fail
  refine (tocsinlaw02_awake.calls true _ rfl).mono ?_
  rintro e w1 ⟨rfl, hb⟩
  have B1 := Lib.hid (bel0 B0 hb)
  clear hb B0
  go_wp2_with fail
  refine (sumR (w := w) (xs := l0) B1 c0 rfl HR (by omega) HX (by omega)).mono ?_
  rintro e w2 ⟨rfl, hb⟩
  have B2 := Lib.hid hb
  clear hb B1
  generalize sum (toB l0) = s at *
  have ht : Go.bits .xor .u32 (s.toNat : Int) (q.toNat : Int) = ((s ^^^ q).toNat : Int) := bits_xor _ _
  rw [f3] at ht
  generalize s ^^^ q = t at *
  go_wp2_with fail
  refine (ofW2 (w := w) (xs := l0) (ys := le4 s) (n2 := 4) (A1 := A0) (A2 := some ⟨w2.heap.size, 0, none⟩) (W := (w2.alloc (.cells #[.int .u8 ((s.toNat : Int) % 256), .int .u8 ((s.toNat : Int) / 256 % 256), .int .u8 ((s.toNat : Int) / 65536 % 256), .int .u8 ((s.toNat : Int) / 16777216)] 5)).alloc (.cells #[.slice A0 l0.length c0, .slice (some ⟨w2.heap.size, 0, none⟩) 4 4] 24)) (below_alloc (below_alloc B2 _) _) (w2.heap.size + 1) c0 4 (by go_simp) (by go_simp) rfl rfl (Kd.C_below HR (below_alloc (below_alloc B2 _) _)) (Kd.C_below (C_lit w2 (le4 s) (0, 0) (Nat.le_of_ble_eq_true rfl)) ((Below.refl _ _).alloc (Nat.le_refl _) _)) (by omega) (Nat.le_refl _) HX (le4_isB s) (by omega) (by decide)).mono ?_
  rintro e w3 ⟨rfl, hb⟩
  have B3 := Lib.hid hb
  clear hb B2
  go_wp2_with fail
  refine (ofW2 (w := w) (xs := l0) (ys := le4 t) (n2 := 4) (A1 := A0) (A2 := some ⟨w3.heap.size, 0, none⟩) (W := (w3.alloc (.cells #[.int .u8 ((t.toNat : Int) % 256), .int .u8 ((t.toNat : Int) / 256 % 256), .int .u8 ((t.toNat : Int) / 65536 % 256), .int .u8 ((t.toNat : Int) / 16777216)] 5)).alloc (.cells #[.slice A0 l0.length c0, .slice (some ⟨w3.heap.size, 0, none⟩) 4 4] 24)) (below_alloc (below_alloc B3 _) _) (w3.heap.size + 1) c0 4 (by go_simp) (by go_simp) rfl rfl (Kd.C_below HR (below_alloc (below_alloc B3 _) _)) (Kd.C_below (C_lit w3 (le4 t) (0, 0) (Nat.le_of_ble_eq_true rfl)) ((Below.refl _ _).alloc (Nat.le_refl _) _)) (by omega) (Nat.le_refl _) HX (le4_isB t) (by omega) (by decide)).mono ?_
  rintro e w4 ⟨rfl, hb⟩
  have B4 := Lib.hid hb
  clear hb B3
  go_wp2_with fail
  go_ret
  exact ⟨rfl, B4⟩
set_option maxHeartbeats 400000 in
set_option maxRecDepth 100000 in
theorem with_ne (A0 : Option Addr) (c0 : Nat) (l0 : List Int) (q : W) (w : World) (hr0 : Kd.C (Kd.int .u8) w A0 l0.length l0) (hc0 : l0.length ≤ c0) (hb0 : isB l0) (hd5 : decide ((5000 : Int) < (l0.length : Int)) = false) (hq : q ≠ 0#32) :
    Calls Try.prog 9 #[.slice A0 l0.length c0, .int .u32 (q.toNat : Int)] w fun e w' => e = .returned (.bool true) ∧ Below w.heap.size w w' := by
  have hlen : l0.length ≤ 5000 := by simp at hd5; omega
  have f1 : (((sum (toB l0 ++ toB (le4 (sum (toB l0))))).toNat : Int)) = 1214729159 := by rw [with_right]; rfl
  have f2 : ((((sum (toB l0 ++ toB (le4 (sum (toB l0) ^^^ q)))).toNat : Int)) == 1214729159) = false := by
    rw [beq_eq_false_iff_ne]
    intro h
    exact hq (with_other (toB l0) q (I_inj (a := sum (toB l0 ++ toB (le4 (sum (toB l0) ^^^ q)))) (b := 0x48674bc7#32) h))
  have f3 : ((q.toNat : Int) == 0) = false := by
    rw [beq_eq_false_iff_ne]
    intro h
    exact hq (I_inj (a := q) (b := 0#32) h)
  have B0 := Lib.hid (Below.refl w.heap.size w)
  have HR := Lib.hid hr0
  have HX := Lib.hid hb0
  clear hr0 hb0 hq
  go_enter Try.func9, Try.ntmps9
  go_wp2_with fail
  refine (tocsinlaw02_awake.calls true _ rfl).mono ?_
  rintro e w1 ⟨rfl, hb⟩
  have B1 := Lib.hid (bel0 B0 hb)
  clear hb B0
  go_wp2_with fail
  refine (sumR (w := w) (xs := l0) B1 c0 rfl HR (by omega) HX (by omega)).mono ?_
  rintro e w2 ⟨rfl, hb⟩
  have B2 := Lib.hid hb
  clear hb B1
  generalize sum (toB l0) = s at *
  have ht : Go.bits .xor .u32 (s.toNat : Int) (q.toNat : Int) = ((s ^^^ q).toNat : Int) := bits_xor _ _
  generalize s ^^^ q = t at *
  go_wp2_with fail
  refine (ofW2 (w := w) (xs := l0) (ys := le4 s) (n2 := 4) (A1 := A0) (A2 := some ⟨w2.heap.size, 0, none⟩) (W := (w2.alloc (.cells #[.int .u8 ((s.toNat : Int) % 256), .int .u8 ((s.toNat : Int) / 256 % 256), .int .u8 ((s.toNat : Int) / 65536 % 256), .int .u8 ((s.toNat : Int) / 16777216)] 5)).alloc (.cells #[.slice A0 l0.length c0, .slice (some ⟨w2.heap.size, 0, none⟩) 4 4] 24)) (below_alloc (below_alloc B2 _) _) (w2.heap.size + 1) c0 4 (by go_simp) (by go_simp) rfl rfl (Kd.C_below HR (below_alloc (below_alloc B2 _) _)) (Kd.C_below (C_lit w2 (le4 s) (0, 0) (Nat.le_of_ble_eq_true rfl)) ((Below.refl _ _).alloc (Nat.le_refl _) _)) (by omega) (Nat.le_refl _) HX (le4_isB s) (by omega) (by decide)).mono ?_
  rintro e w3 ⟨rfl, hb⟩
  have B3 := Lib.hid hb
  clear hb B2
  go_wp2_with fail
  refine (ofW2 (w := w) (xs := l0) (ys := le4 t) (n2 := 4) (A1 := A0) (A2 := some ⟨w3.heap.size, 0, none⟩) (W := (w3.alloc (.cells #[.int .u8 ((t.toNat : Int) % 256), .int .u8 ((t.toNat : Int) / 256 % 256), .int .u8 ((t.toNat : Int) / 65536 % 256), .int .u8 ((t.toNat : Int) / 16777216)] 5)).alloc (.cells #[.slice A0 l0.length c0, .slice (some ⟨w3.heap.size, 0, none⟩) 4 4] 24)) (below_alloc (below_alloc B3 _) _) (w3.heap.size + 1) c0 4 (by go_simp) (by go_simp) rfl rfl (Kd.C_below HR (below_alloc (below_alloc B3 _) _)) (Kd.C_below (C_lit w3 (le4 t) (0, 0) (Nat.le_of_ble_eq_true rfl)) ((Below.refl _ _).alloc (Nat.le_refl _) _)) (by omega) (Nat.le_refl _) HX (le4_isB t) (by omega) (by decide)).mono ?_
  rintro e w4 ⟨rfl, hb⟩
  have B4 := Lib.hid hb
  clear hb B3
  go_wp2_with fail
  go_ret
  exact ⟨rfl, B4⟩
set_option maxHeartbeats 400000 in
set_option maxRecDepth 100000 in
theorem with_long (A0 : Option Addr) (c0 : Nat) (l0 : List Int) (q : W) (w : World) (h5 : 5000 < l0.length) :
    Calls Try.prog 9 #[.slice A0 l0.length c0, .int .u32 (q.toNat : Int)] w fun e w' => e = .returned (.bool true) ∧ Below w.heap.size w w' := by
  have B0 := Lib.hid (Below.refl w.heap.size w)
  go_enter Try.func9, Try.ntmps9
  go_wp2_with fail
  refine (tocsinlaw02_awake.calls true _ rfl).mono ?_
  rintro e w1 ⟨rfl, hb⟩
  have B1 := Lib.hid (bel0 B0 hb)
  clear hb B0
  go_wp2_with fail
  go_ret
  exact ⟨rfl, B1⟩
theorem CrcWith_walk (A0 : Option Addr) (c0 : Nat) (l0 : List Int) (a : Int) (w : World) (hr0 : Kd.C (Kd.int .u8) w A0 l0.length l0) (hc0 : l0.length ≤ c0) (hb0 : wfAll (wfInt .u8) l0) (ha : (Lit.int .u32 a).wf = true) :
    Calls Try.prog 9 #[.slice A0 l0.length c0, .int .u32 a] w fun e w' => e = .returned (.bool true) ∧ Below w.heap.size w w' := by
  obtain ⟨q, rfl⟩ := of_wf ha
  by_cases h5 : 5000 < l0.length
  · exact with_long A0 c0 l0 q w h5
  · have hd5 : decide ((5000 : Int) < (l0.length : Int)) = false := by simp; omega
    by_cases hq : q = 0#32
    · exact with_eq A0 c0 l0 q w hr0 hc0 (isB_of hb0) hd5 hq
    · exact with_ne A0 c0 l0 q w hr0 hc0 (isB_of hb0) hd5 hq
end Go.Proofs.Ytfejhegogajnhaa.Given
