/- What CodecShort does: the walk. -/
import Derived.Test.YtekbbpbpkekdhaaAw
namespace Go.Proofs.Ytekbbpbpkekdhaa.Given
open Go.RowKit Go.Proofs.Ytekbbpbpkekdhaa.Cod Go.Proofs.Ytekbbpbpkekdhaa.Ex Go.Proofs.Ytekbbpbpkekdhaa.PBase Go.Proofs.YtekbbpbpkekdhaaW.PrintWords Go.Proofs.YtekbbpbpkekdhaaW.PrintLast Go.Proofs.YtekbbpbpkekdhaaW.PrintMore
theorem enc_mono : ∀ (m a b : Nat), a ≤ m → a ≤ b → (enc a).length ≤ (enc b).length
  | m, a, b, hm, h => by
    by_cases ha : a < 128
    · rw [enc_small ha]
      by_cases hb : b < 128
      · rw [enc_small hb]; simp
      · rw [enc_big hb]; simp
    · rw [enc_big ha, enc_big (show ¬ b < 128 by omega), List.length_cons, List.length_cons]
      match m with
      | 0 => omega
      | m + 1 => exact Nat.succ_le_succ (enc_mono m (a / 128) (b / 128) (by omega) (by omega))
/-- Two new writers, each with its own bytes. -/
theorem two_new (w : World) (w1 w2 : World) (h1 : w1 = w.alloc (.cells #[.slice none 0 0, .bool true] 62)) (h2 : w2 = w1.alloc (.cells #[.slice none 0 0, .bool true] 62)) :
    WAt w2 w.heap.size w.heap.size (.slice none 0 0) [] ∧ WAt w2 w1.heap.size w1.heap.size (.slice none 0 0) [] ∧ w1.heap.size = w.heap.size + 1 ∧ w2.heap.size = w.heap.size + 2 ∧ Below w.heap.size w w2 := by
  have e1 : w1.heap.size = w.heap.size + 1 := by rw [h1]; show (w.heap.push _).size = _; simp
  have e2 : w2.heap.size = w.heap.size + 2 := by rw [h2]; show (w1.heap.push _).size = _; rw [Array.size_push, e1]
  refine ⟨?_, ?_, e1, e2, ?_⟩
  · rw [h2]; refine WAt.alloc ?_ _; rw [h1]; exact WAt.new w (Nat.le_refl _)
  · rw [h2]; exact WAt.new w1 (Nat.le_refl _)
  · rw [h2]; refine Below.alloc ?_ (by omega) _; rw [h1]; exact (Below.refl _ _).alloc (Nat.le_refl _) _
/-- What a and b hold when each has been written to once. -/
theorem two_written {g g2 : Nat} {w2 w3 w4 : World} {xs ys : List Int} {va vb : Value} (hg2 : g2 < w2.heap.size) (hne : g ≠ g2) (h3 : Wrote g g (.slice none 0 0) w2 xs va w3) (h4 : Wrote g2 g2 (.slice none 0 0) w3 ys vb w4) : WAt w4 g g va xs :=
  h3.at'.ex h4.ex (fun e => e.elim hne (fun e => by cases e)) (fun k hk e => e.elim (fun e => by
    rcases h3.new with h | ⟨b, hb, hle⟩
    · rw [h] at hk; cases hk
    · rw [hb] at hk; injection hk with hk; omega) (fun e => by cases e))
theorem nil_below {wb g : Nat} {w w' : World} {xs : List Int} {v : Value} (h : Wrote wb g (.slice none 0 0) w xs v w') {B : Nat} (hB : B ≤ g) (hg : g < w.heap.size) : Below B w w' :=
  h.ex.below (by omega) (fun k e => e.elim (fun e => by omega) (fun e => by cases e))
set_option maxHeartbeats 1000000 in
set_option maxRecDepth 100000 in
theorem short_n (u v : Nat) (hu : u < 18446744073709551616) (hv : v < 18446744073709551616) (w : World) : Calls Try.prog 6 #[.int .u64 (u : Int), .int .u64 (v : Int)] w fun e w' => e = .returned (.bool true) ∧ Below w.heap.size w w' := by
  go_enter Try.func6, Try.ntmps6
  go_wp2_with fail
  refine (awake_any w).mono ?_
  rintro e w0 ⟨rfl, hb⟩
  have B0 := Aside0.mk hb
  clear hb
  go_wp2_with fail
  refine (new_any w0).mono ?_
  rintro e w1 ⟨rfl, h1⟩
  have N1 := Aside0.mk h1
  clear h1
  go_wp2_with fail
  refine (new_any w1).mono ?_
  rintro e w2 ⟨rfl, h2⟩
  obtain ⟨ha, hb, e1, e2, hbel⟩ := two_new w0 w1 w2 N1.out h2
  have HA := Aside0.mk ha
  have HB := Aside0.mk hb
  have B2 := Aside0.mk (B0.out.trans (hbel.mono B0.out.size))
  clear ha hb hbel N1 h2
  have HG := Aside0.mk B0.out.size
  clear B0
  generalize w0.heap.size = g at *
  generalize w1.heap.size = g2 at *
  have q1 : g < g2 := by omega
  have q2 : g2 < w2.heap.size := by omega
  have q3 : w.heap.size ≤ g := HG.out
  clear e1 e2
  go_wp2_with fail
  refine (uint_any g g _ [] u w2 HA.out hu (by simp)).mono ?_
  rintro e w3 ⟨rfl, va, h3⟩
  have H3 := Aside0.mk h3
  have B3 := Aside0.mk (B2.out.trans (nil_below h3 q3 (by omega)))
  have HB3 := Aside0.mk (HB.out.ex h3.ex (fun e => e.elim (fun e => by omega) (fun e => by cases e)) (fun k hk => by cases hk))
  have s3 := h3.ex.size
  clear h3 HA HB B2
  go_wp2_with fail
  refine (uint_any g2 g2 _ [] v w3 HB3.out hv (by simp)).mono ?_
  rintro e w4 ⟨rfl, vb, h4⟩
  have HA4 := Aside0.mk (show WAt w4 g g va (enc u) from two_written (by omega) (by omega) H3.out h4)
  have HB4 := Aside0.mk (show WAt w4 g2 g2 vb (enc v) from h4.at')
  have B4 := Aside0.mk (B3.out.trans (nil_below h4 (by omega) (by omega)))
  have s4 := h4.ex.size
  clear h4 H3 HB3 B3
  have lu := enc_le10 hu
  have lv := enc_le10 hv
  go_wp2_with fail
  go_loopw [7, 8] (fun x y wr => ∃ (n m : Nat), x = .int .i64 n ∧ y = .int .u64 m ∧ m ≤ u ∧ n + (enc m).length = (enc u).length + 1 ∧ Aside0 (Drawn0 w4 wr)) (fun _ y _ => (intOf y).toNat)
  case atStart => exact ⟨1, u, rfl, rfl, Nat.le_refl _, by omega, ⟨Drawn0.refl _⟩⟩
  case round =>
    obtain ⟨n, m, rfl, rfl, hm, hn, HD⟩ := hrel
    by_cases h128 : 128 ≤ m
    · have hd : decide ((128 : Int) ≤ (m : Int)) = true := decide_eq_true (by omega)
      rw [enc_big (by omega), List.length_cons] at hn
      go_wp2_with fail
      go_roundw
      case rel => exact ⟨n + 1, m / 128, by go_num, by go_num, by omega, by omega, HD⟩
      case measure => simp [intOf]; omega
    · have hd : decide ((128 : Int) ≤ (m : Int)) = false := decide_eq_false (by omega)
      rw [enc_small (by omega)] at hn
      have hn1 : n = (enc u).length := by simpa using hn
      subst hn1
      have HA5 := Aside0.mk (HA4.out.below HD.out.below)
      have HB5 := Aside0.mk (HB4.out.below HD.out.below)
      have B5 := Aside0.mk (B4.out.trans (HD.out.below.mono (by omega)))
      have s5 := HD.out.below.size
      clear HA4 HB4 B4 HD hn h128
      go_wp2_with fail
      refine (out_any g g va (enc u) wr HA5.out (by omega)).mono ?_
      rintro e w6 ⟨v6, rfl, ho, hb⟩
      obtain ⟨A6, c6, rfl⟩ := Kd.R_slice ho
      have HA6 := Aside0.mk (HA5.out.below hb)
      have HB6 := Aside0.mk (HB5.out.below hb)
      have B6 := Aside0.mk (B5.out.trans (hb.mono (by omega)))
      have s6 := hb.size
      clear ho hb HA5 HB5 B5
      by_cases huv : v < u
      · have hd2 : decide ((v : Int) < (u : Int)) = true := decide_eq_true (by omega)
        go_wp2_with fail
        go_ret
        exact ⟨rfl, B6.out⟩
      · have hd2 : decide ((v : Int) < (u : Int)) = false := decide_eq_false (by omega)
        have hle := enc_mono u u v (Nat.le_refl _) (by omega)
        go_wp2_with fail
        refine (out_any g g va (enc u) w6 HA6.out (by omega)).mono ?_
        rintro e w7 ⟨v7, rfl, ho, hb⟩
        obtain ⟨A7, c7, rfl⟩ := Kd.R_slice ho
        have HB7 := Aside0.mk (HB6.out.below hb)
        have B7 := Aside0.mk (B6.out.trans (hb.mono (by omega)))
        have s7 := hb.size
        clear ho hb HA6 HB6 B6
        go_wp2_with fail
        refine (out_any g2 g2 vb (enc v) w7 HB7.out (by omega)).mono ?_
        rintro e w8 ⟨v8, rfl, ho, hb⟩
        obtain ⟨A8, c8, rfl⟩ := Kd.R_slice ho
        have B8 := Aside0.mk (B7.out.trans (hb.mono (by omega)))
        have hd3 : decide (((enc u).length : Int) ≤ ((enc v).length : Int)) = true := decide_eq_true (by omega)
        clear ho hb HB7 B7
        go_wp2_with fail
        go_ret
        exact ⟨rfl, B8.out⟩
theorem CodecShort_walk (u v : Int) (w : World) (hu : (Lit.int .u64 u).wf = true) (hv : (Lit.int .u64 v).wf = true) : Calls Try.prog 6 #[.int .u64 u, .int .u64 v] w fun e w' => e = .returned (.bool true) ∧ Below w.heap.size w w' := by
  simp [Lit.wf, IntKind.min, IntKind.max, IntKind.bits, IntKind.signed] at hu hv
  obtain ⟨n, rfl⟩ := Int.eq_ofNat_of_zero_le (show 0 ≤ u by omega)
  obtain ⟨m, rfl⟩ := Int.eq_ofNat_of_zero_le (show 0 ≤ v by omega)
  exact short_n n m (by omega) (by omega) w
end Go.Proofs.Ytekbbpbpkekdhaa.Given
