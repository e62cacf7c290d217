/- What CodecBools does: the walk. -/
import Derived.Test.YtekbbpbpkekdhaaSigns
namespace Go.Proofs.Ytekbbpbpkekdhaa.Given
open Go.RowKit Go.Proofs.Ytekbbpbpkekdhaa.Cod Go.Proofs.Ytekbbpbpkekdhaa.Ex Go.Proofs.Ytekbbpbpkekdhaa.PBase Go.Proofs.YtekbbpbpkekdhaaW.PrintWords Go.Proofs.YtekbbpbpkekdhaaW.PrintLast Go.Proofs.YtekbbpbpkekdhaaW.PrintMore
theorem rbool_some {w : World} {b g : Nat} {A : Option Addr} {c : Nat} {xs : List Int} {v : Bool} {r : List Int} (h : RAt w b g A c xs false) (hr : rdB xs = some (v, r)) : Calls Try.prog 31 #[.pointer (some ⟨g, 0, none⟩)] w fun e w' => e = .returned (.bool v) ∧ Ex (fun k => k = g) w w' ∧ ∃ A c, RAt w' b g A c r false := by
  have := rbool_any b g A c xs w h
  rw [hr] at this
  exact this.mono fun e w' h => ⟨h.2.1, h.1, h.2.2⟩
theorem rbool_none {w : World} {b g : Nat} {A : Option Addr} {c : Nat} {xs : List Int} (h : RAt w b g A c xs false) (hr : rdB xs = none) : Calls Try.prog 31 #[.pointer (some ⟨g, 0, none⟩)] w fun e w' => e = .returned (.bool false) ∧ Ex (fun k => k = g) w w' ∧ ∃ A c r, RAt w' b g A c r true := by
  have := rbool_any b g A c xs w h
  rw [hr] at this
  exact this.mono fun e w' h => ⟨h.2.1, h.1, h.2.2⟩
theorem bool_some (base g : Nat) (v : Value) (b : Bool) (x : Int) (w : World) (hw : WAt w base g v []) (hb : x = if b = true then 1 else 0) :
    Calls Try.prog 32 #[.pointer (some ⟨g, 0, none⟩), .bool b] w (Wrs base g v w [x]) := by
  rw [hb]
  exact bool_any base g v [] b w hw (by simp)
set_option maxHeartbeats 1000000 in
set_option maxRecDepth 100000 in
theorem bools_many (b : Int) (hb1 : 1 < b) (w : World) : Calls Try.prog 8 #[.int .u8 b] w fun e w' => e = .returned (.bool true) ∧ Below w.heap.size w w' := by
  have hr : rdB [b] = none := if_pos hb1
  have HR := Aside0.mk hr
  have hd : decide (1 < b) = true := decide_eq_true hb1
  clear hr
  go_enter Try.func8, Try.ntmps8
  go_wp2_with fail
  refine (awake_any w).mono ?_
  rintro e w0 ⟨rfl, hb⟩
  have B0 := Aside0.mk hb
  clear hb
  go_wp2_with fail
  refine (over_lit w0 [b] (by simp)).mono ?_
  rintro e w1 ⟨b1, g1, A1, c1, rfl, _, hg1, hr1, hB1⟩
  have R1 := Aside0.mk hr1
  have B1 := Aside0.mk (B0.out.trans (hB1.mono B0.out.size))
  have q := B0.out.size
  have q1 := B1.out.size
  clear hr1 hB1 B0
  go_wp2_with fail
  refine (rbool_none R1.out HR.out).mono ?_
  rintro e w2 ⟨rfl, hx, A2, c2, r2, h2⟩
  have R2 := Aside0.mk h2
  have B2 := Aside0.mk (B1.out.trans (hx.below (by omega) (fun k e => by omega)))
  clear hx h2 B1 R1 HR
  go_wp2_with fail
  refine (err_failed R2.out).mono ?_
  rintro e w3 ⟨rfl, rfl⟩
  go_wp2_with fail
  go_ret
  exact ⟨rfl, B2.out⟩
set_option maxHeartbeats 1000000 in
set_option maxRecDepth 100000 in
theorem bools_few (b : Int) (v : Bool) (hb1 : ¬ 1 < b) (hv : (b == 1) = v) (hbv : b = if v = true then 1 else 0) (w : World) : Calls Try.prog 8 #[.int .u8 b] w fun e w' => e = .returned (.bool true) ∧ Below w.heap.size w w' := by
  have hr : rdB [b] = some (v, []) := by rw [← hv]; exact if_neg hb1
  have HR := Aside0.mk hr
  have HV := Aside0.mk hv
  have HBV := Aside0.mk hbv
  have hd : decide (1 < b) = false := decide_eq_false hb1
  clear hr hv hbv
  go_enter Try.func8, Try.ntmps8
  go_wp2_with fail
  refine (awake_any w).mono ?_
  rintro e w0 ⟨rfl, hb⟩
  have B0 := Aside0.mk hb
  clear hb
  go_wp2_with fail
  refine (over_lit w0 [b] (by simp)).mono ?_
  rintro e w1 ⟨b1, g1, A1, c1, rfl, _, hg1, hr1, hB1⟩
  have R1 := Aside0.mk hr1
  have B1 := Aside0.mk (B0.out.trans (hB1.mono B0.out.size))
  have q := B0.out.size
  have q1 := B1.out.size
  clear hr1 hB1 B0
  go_wp2_with fail
  refine (rbool_some R1.out HR.out).mono ?_
  rintro e w2 ⟨rfl, hx, A2, c2, h2⟩
  have R2 := Aside0.mk h2
  have B2 := Aside0.mk (B1.out.trans (hx.below (by omega) (fun k e => by omega)))
  clear hx h2 B1 R1 HR
  go_wp2_with fail
  refine (new_any w2).mono ?_
  rintro e w3 ⟨rfl, hw3⟩
  have W3 := Aside0.mk (show WAt w3 w2.heap.size w2.heap.size (.slice none 0 0) [] by rw [hw3]; exact WAt.new w2 (Nat.le_refl _))
  have hb3 : Below w2.heap.size w2 w3 := by rw [hw3]; exact (Below.refl _ _).alloc (Nat.le_refl _) _
  have R3 := Aside0.mk (R2.out.below hb3)
  have B3 := Aside0.mk (B2.out.trans (hb3.mono B2.out.size))
  have q2 := B2.out.size
  have hne : g1 ≠ w2.heap.size := by have := R2.out.lt; omega
  have hbne : b1 ≠ w2.heap.size := by have := R2.out.lt; have := R2.out.low; omega
  clear hw3 hb3 R2 B2
  generalize w2.heap.size = g at *
  go_wp2_with fail
  refine (bool_some g g _ v b w3 W3.out HBV.out).mono ?_
  rintro e w4 ⟨rfl, v4, h4⟩
  have W4 := Aside0.mk h4.at'
  have R4 := Aside0.mk (R3.out.step h4.ex hne.symm (fun e => by cases e) hbne (fun e => by cases e))
  have B4 := Aside0.mk (B3.out.trans (nil_below h4 q2 W3.out.lt))
  have q4 := B4.out.size
  clear h4 W3 R3 B3 HBV
  have hv := HV.out
  clear HV
  have hvv : (v == v) = true := by cases v <;> rfl
  go_wp2_with fail
  refine (done_end R4.out).mono ?_
  rintro e w5 ⟨rfl, rfl⟩
  go_wp2_with fail
  refine (out_any g g v4 [b] _ W4.out (by simp)).mono ?_
  rintro e w6 ⟨v6, rfl, ho, hb⟩
  obtain ⟨A6, c6, rfl, hc6, hr6⟩ := Kd.R_reads ho
  have C6 := Aside0.mk hc6
  have R6 := Aside0.mk (Kd.C_below hr6 ((Below.refl _ w6).alloc (Nat.le_refl _) (.cells (([b] : List Int).map (Value.int .u8)).toArray 5)))
  have B6 := Aside0.mk (B4.out.trans (hb.mono q4))
  have L6 := Aside0.mk (C_lit w6 [b] (0, 0) (by simp))
  have q6 := B6.out.size
  clear ho hb hr6 hc6 W4 R4 B4
  go_wp2_with fail
  refine (sameR (Below.refl _ _) R6.out C6.out L6.out (Nat.le_refl _) (by simp)).mono ?_
  rintro e w7 ⟨rfl, hb7, _⟩
  have B7 := Aside0.mk ((B6.out.alloc q6 (.cells (([b] : List Int).map (Value.int .u8)).toArray 5)).trans (hb7.mono (by show _ ≤ (w6.heap.push _).size; simp; omega)))
  clear hb7 R6 L6 C6 B6
  go_wp2_with fail
  go_ret
  exact ⟨by first | rfl | simp, B7.out⟩
theorem CodecBools_walk (b : Int) (w : World) (hb : (Lit.int .u8 b).wf = true) : Calls Try.prog 8 #[.int .u8 b] w fun e w' => e = .returned (.bool true) ∧ Below w.heap.size w w' := by
  simp [Lit.wf, IntKind.min, IntKind.max, IntKind.bits, IntKind.signed] at hb
  by_cases h : 1 < b
  · exact bools_many b h w
  · by_cases h1 : b = 1
    · exact bools_few b true h (by subst h1; rfl) (by subst h1; rfl) w
    · obtain rfl : b = 0 := by omega
      exact bools_few 0 false h rfl rfl w
end Go.Proofs.Ytekbbpbpkekdhaa.Given
