/- What CodecSigns does: the walk. -/
import Derived.Test.YtekbbpbpkekdhaaShort
import Derived.RegionTactic
namespace Go.Proofs.Ytekbbpbpkekdhaa.Given
open Go.RowKit Go.Proofs.Ytekbbpbpkekdhaa.Cod Go.Proofs.Ytekbbpbpkekdhaa.Ex Go.Proofs.Ytekbbpbpkekdhaa.PBase Go.Proofs.YtekbbpbpkekdhaaW.PrintWords Go.Proofs.YtekbbpbpkekdhaaW.PrintLast Go.Proofs.YtekbbpbpkekdhaaW.PrintMore
theorem bel_refl (w : World) : Below w.heap.size w w := Below.refl _ _
theorem sameR {w W : World} (hB : Below w.heap.size w W) {A0 A1 : Option Addr} {c0 c1 : Nat} {l0 l1 : List Int} (h0 : Kd.C (Kd.int .u8) w A0 l0.length l0) (hc0 : l0.length ≤ c0) (h1 : Kd.C (Kd.int .u8) w A1 l1.length l1) (hc1 : l1.length ≤ c1) (hl : l0.length ≤ 4611686018427387904) :
    Calls Try.prog 17 #[.slice A0 l0.length c0, .slice A1 l1.length c1] W fun e w' => e = .returned (.bool (decide (l0 = l1))) ∧ Below w.heap.size w w' ∧ Drawn0 W w' := by
  refine (tocsinref04_Same.calls (l0.length + 1) A0 c0 l0 A1 c1 l1 _ W (Kd.C_below h0 hB) hc0 (Kd.C_below h1 hB) hc1 (same_some l0 l1 hl)).mono ?_
  rintro e w' ⟨rfl, hd⟩
  exact ⟨rfl, hB.trans (hd.below.mono hB.size), hd⟩
/-- A number's bytes and those of the number beside it. -/
theorem beside (n : Nat) (hn : n < 18446744073709551616) (h2 : n % 2 = 0) : ∃ (p q : Nat) (t : List Int), enc n = (p : Int) :: t ∧ enc (n + 1) = (q : Int) :: t ∧ q = p + 1 ∧ p % 2 = 0 ∧ q < 256 := by
  by_cases h : n < 128
  · exact ⟨n, n + 1, [], enc_small h, by rw [enc_small (by omega)], rfl, h2, by omega⟩
  · exact ⟨n % 128 + 128, (n + 1) % 128 + 128, enc (n / 128), enc_big h, by rw [enc_big (by omega), show (n + 1) / 128 = n / 128 by omega], by omega, by omega, by omega⟩
set_option maxRecDepth 100000 in
theorem xor_beside (p : Nat) (h : p % 2 = 0) (hp : p + 1 < 256) : bits .xor .u8 (p : Int) ((p + 1 : Nat) : Int) = 1 ∧ bits .xor .u8 ((p + 1 : Nat) : Int) (p : Int) = 1 ∧ bits .and .u8 (p : Int) 1 = 0 ∧ bits .and .u8 ((p + 1 : Nat) : Int) 1 = 1 := by
  have h1 : ∀ a : Fin 256, a.val % 2 = 0 → a.val ^^^ (a.val + 1) = 1 ∧ (a.val + 1) ^^^ a.val = 1 ∧ a.val &&& 1 = 0 ∧ (a.val + 1) &&& 1 = 1 := by decide
  obtain ⟨e1, e2, e3, e4⟩ := h1 ⟨p, by omega⟩ h
  simp only [] at e1 e2 e3 e4
  refine ⟨?_, ?_, ?_, ?_⟩
  · rw [u8_xor_nat _ _ (by omega) (by omega), e1]; rfl
  · rw [u8_xor_nat _ _ (by omega) (by omega), e2]; rfl
  · rw [show (1 : Int) = ((1 : Nat) : Int) from rfl, u8_and_nat _ _ (by omega) (by omega), e3]; rfl
  · rw [show (1 : Int) = ((1 : Nat) : Int) from rfl, u8_and_nat _ _ (by omega) (by omega), e4]
/-- What is behind the first byte. -/
theorem cut_tail {w : World} {A : Option Addr} {c : Nat} {x : Int} {t : List Int} (h : Kd.C (Kd.int .u8) w A (x :: t).length (x :: t)) (hc : (x :: t).length ≤ c) :
    ∃ A' c', (∀ W : World, (Instr.slice 26 (.slice A (x :: t).length c) (some (.int .i64 1)) none none).run Try.prog W = .ok (.slice A' t.length c') W) ∧ Kd.C (Kd.int .u8) w A' t.length t ∧ t.length ≤ c' := by
  obtain ⟨i0, hi, hzz⟩ := Option.map_eq_some_iff.1 Cod.info5
  simp only [Prod.mk.injEq] at hzz
  have h1 := Kd.C_drop (m := 1) h (by simp) hc
  have hk := cut_from (P := Try.prog) 26 5 .i64 Try.underlying26 hi 1 hzz.2.1 A (x :: t).length c 1 (by omega) (by simp; omega)
  have e0 : (x :: t).length - Int.toNat 1 = t.length := by simp
  have e1 : Int.toNat 1 * 1 = 1 := rfl
  rw [e0, e1] at hk
  rw [show 1 * (Kd.int .u8).sz = 1 from rfl] at h1
  exact ⟨_, _, hk, h1, by rw [List.length_cons] at hc; show t.length ≤ c - 1; omega⟩
set_option maxHeartbeats 1000000 in
set_option maxRecDepth 100000 in
theorem signs_n (x : Int) (p q : Nat) (t : List Int) (hx0 : -9223372036854775808 ≤ x) (hx1 : x ≤ 9223372036854775807) (hp : enc (zig x) = (p : Int) :: t) (hq : enc (zig (-x - 1)) = (q : Int) :: t)
    (hxor : bits .xor .u8 (p : Int) (q : Int) = 1) (r : Int) (hand : bits .and .u8 (p : Int) 1 = r) (hr : (r == 1) = decide (x < 0)) (w : World) : Calls Try.prog 7 #[.int .i64 x] w fun e w' => e = .returned (.bool true) ∧ Below w.heap.size w w' := by
  have hneg : wrap64 (wrap64 (-x) - 1) = -x - 1 := by simp only [wrap64]; omega
  have HN := Aside0.mk hneg
  have HP := Aside0.mk hp
  have HQ := Aside0.mk hq
  have HX := Aside0.mk hxor
  have HD := Aside0.mk hand
  have HR := Aside0.mk hr
  have hlt : t.length + 1 ≤ 10 := by have := enc_le10 (zig_lt hx0 hx1); rw [hp] at this; simpa using this
  clear hneg hp hq hxor hand hr
  go_enter Try.func7, Try.ntmps7
  go_wp2_with fail
  refine (awake_any w).mono ?_
  rintro e w0 ⟨rfl, hb⟩
  have B0 := Aside0.mk hb
  clear hb
  go_wp2_with fail
  refine (new_any w0).mono ?_
  rintro e w1 ⟨rfl, h1⟩
  have N1 := Aside0.mk h1
  clear h1
  go_wp2_with fail
  refine (new_any w1).mono ?_
  rintro e w2 ⟨rfl, h2⟩
  obtain ⟨ha, hb, e1, e2, hbel⟩ := two_new w0 w1 w2 N1.out h2
  have HA := Aside0.mk ha
  have HB := Aside0.mk hb
  have B2 := Aside0.mk (B0.out.trans (hbel.mono B0.out.size))
  have HG := Aside0.mk B0.out.size
  clear ha hb hbel N1 h2 B0
  generalize w0.heap.size = g at *
  generalize w1.heap.size = g2 at *
  have q1 : g < g2 := by omega
  have q2 : g2 < w2.heap.size := by omega
  have q3 : w.heap.size ≤ g := HG.out
  clear e1 e2
  go_wp2_with fail
  refine (int_any g g _ [] x w2 HA.out hx0 hx1 (by simp)).mono ?_
  rintro e w3 ⟨rfl, va, h3⟩
  have H3 := Aside0.mk h3
  have B3 := Aside0.mk (B2.out.trans (nil_below h3 q3 (by omega)))
  have HB3 := Aside0.mk (HB.out.ex h3.ex (fun e => e.elim (fun e => by omega) (fun e => by cases e)) (fun k hk => by cases hk))
  have s3 := h3.ex.size
  clear h3 HA HB B2
  go_wp2_with fail
  rw [HN.out]
  refine (int_any g2 g2 _ [] (-x - 1) w3 HB3.out (by omega) (by omega) (by simp)).mono ?_
  rintro e w4 ⟨rfl, vb, h4⟩
  have HA4 := Aside0.mk (show WAt w4 g g va ((p : Int) :: t) by rw [← HP.out]; exact two_written (by omega) (by omega) H3.out h4)
  have HB4 := Aside0.mk (show WAt w4 g2 g2 vb ((q : Int) :: t) by rw [← HQ.out]; exact h4.at')
  have B4 := Aside0.mk (B3.out.trans (nil_below h4 (by omega) (by omega)))
  have s4 := h4.ex.size
  clear h4 H3 HB3 B3 HN HP HQ
  go_wp2_with fail
  refine (out_any g g va _ w4 HA4.out (by rw [List.length_cons]; omega)).mono ?_
  rintro e w6 ⟨v6, rfl, ho, hb⟩
  obtain ⟨A6, c6, rfl, hc6, hr6⟩ := Kd.R_reads ho
  have C6 := Aside0.mk hc6
  have R6 := Aside0.mk hr6
  have HB6 := Aside0.mk (HB4.out.below hb)
  have B6 := Aside0.mk (B4.out.trans (hb.mono (by omega)))
  have s6 := hb.size
  clear ho hb hr6 hc6 HA4 HB4 B4
  go_wp2_with fail
  refine (out_any g2 g2 vb _ w6 HB6.out (by rw [List.length_cons]; omega)).mono ?_
  rintro e w8 ⟨v8, rfl, ho, hb⟩
  obtain ⟨A8, c8, rfl, hc8, hr8⟩ := Kd.R_reads ho
  have B8 := Aside0.mk (B6.out.trans (hb.mono (by omega)))
  have R8 := Aside0.mk (Kd.C_below R6.out hb)
  obtain ⟨ad, rfl, hcell⟩ := Kd.at_int R8.out 0 (by omega) (by rw [List.length_cons]; omega)
  obtain ⟨ad2, rfl, hcell2⟩ := Kd.at_int hr8 0 (by omega) (by rw [List.length_cons]; omega)
  rw [show rd ((p : Int) :: t) 0 = p from rfl, show ad.add (Int.toNat 0) = ad by simp [Addr.add]] at hcell
  rw [show rd ((q : Int) :: t) 0 = q from rfl, show ad2.add (Int.toNat 0) = ad2 by simp [Addr.add]] at hcell2
  obtain ⟨A', c', kc, hC, hc'⟩ := cut_tail R8.out C6.out
  obtain ⟨A2', c2', kc2, hC2, hc2'⟩ := cut_tail hr8 hc8
  have T1 := Aside0.mk hC
  have T2 := Aside0.mk hC2
  have T3 := Aside0.mk hc'
  have T4 := Aside0.mk hc2'
  have hlen : ((q : Int) :: t).length = t.length + 1 := rfl
  rw [List.length_cons] at kc kc2
  have S8 := Aside0.mk hb.size
  rw [hlen]
  have hn0 : 0 < t.length + 1 := by omega
  have ht62 : t.length ≤ 4611686018427387904 := by omega
  clear ho hb hr8 hc8 R6 HB6 B6 C6 R8 hC hC2 hc' hc2' hlen
  generalize t.length + 1 = n at *
  have hd1 := HD.out
  have hd2 := HR.out
  have hx1 := HX.out
  clear HD HR HX hlt
  by_cases hneg : x < 0
  · have hdx : decide (x < 0) = true := decide_eq_true hneg
    rw [hdx] at hd2
    go_wp2_with fail
    go_region
    go_wp2_with fail
    go_region_with (first | (go_at_call 17; refine (sameR (w := w8) ?_ T1.out T3.out T2.out T4.out ht62).mono ?_; (repeat (first | exact bel_refl _ | apply below_drew)); rintro e w9 ⟨rfl, hb9, hd9⟩; have B9 := Aside0.mk (B8.out.trans (hb9.mono (by have := B8.out.size; omega))); clear hb9 hd9))
    all_goals (go_wp2_with fail; go_ret; exact ⟨rfl, B9.out⟩)
  · have hdx : decide (x < 0) = false := decide_eq_false hneg
    rw [hdx] at hd2
    go_wp2_with fail
    go_region
    go_wp2_with fail
    go_region_with (first | (go_at_call 17; refine (sameR (w := w8) ?_ T1.out T3.out T2.out T4.out ht62).mono ?_; (repeat (first | exact bel_refl _ | apply below_drew)); rintro e w9 ⟨rfl, hb9, hd9⟩; have B9 := Aside0.mk (B8.out.trans (hb9.mono (by have := B8.out.size; omega))); clear hb9 hd9))
    all_goals (go_wp2_with fail; go_ret; exact ⟨rfl, B9.out⟩)
theorem CodecSigns_walk (x : Int) (w : World) (hx : (Lit.int .i64 x).wf = true) : Calls Try.prog 7 #[.int .i64 x] w fun e w' => e = .returned (.bool true) ∧ Below w.heap.size w w' := by
  simp [Lit.wf, IntKind.min, IntKind.max, IntKind.bits, IntKind.signed] at hx
  by_cases h : x < 0
  · obtain ⟨p, q, t, hp, hq, rfl, h2, h256⟩ := beside (zig (-x - 1)) (zig_lt (by omega) (by omega)) (by unfold zig; rw [if_neg (by omega)]; omega)
    obtain ⟨e1, e2, e3, e4⟩ := xor_beside p h2 h256
    rw [show zig (-x - 1) + 1 = zig x by unfold zig; rw [if_neg (by omega), if_pos h]; omega] at hq
    exact signs_n x (p + 1) p t (by omega) (by omega) hq hp e2 1 e4 (by rw [decide_eq_true h]; rfl) w
  · obtain ⟨p, q, t, hp, hq, rfl, h2, h256⟩ := beside (zig x) (zig_lt (by omega) (by omega)) (by unfold zig; rw [if_neg h]; omega)
    obtain ⟨e1, e2, e3, e4⟩ := xor_beside p h2 h256
    rw [show zig x + 1 = zig (-x - 1) by unfold zig; rw [if_neg h, if_pos (by omega)]; omega] at hq
    exact signs_n x p (p + 1) t (by omega) (by omega) hp hq e1 0 e3 (by rw [decide_eq_false h]; rfl) w
end Go.Proofs.Ytekbbpbpkekdhaa.Given
