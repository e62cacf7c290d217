/- Printed by a program of this session (wip/tools/myprint.py, which runs the kit's own printer) over contracts proved by hand: functions and their walks, and the row of a law: for every input it returns true. No conditions. -/
import Derived.Test.YtfejhegogajnhaaPAllx0
namespace Go.Proofs.Ytfejhegogajnhaa.PAll
open Go.RowKit Go.Proofs.Ytfejhegogajnhaa.PBase Go.Proofs.Ytfejhegogajnhaa.Given Go.Proofs.YtfejhegogajnhaaW.PrintWords Go.Proofs.YtfejhegogajnhaaW.PrintLast Go.Proofs.YtfejhegogajnhaaW.PrintMore
attribute [local go_sem] max2_int min2_int max_two min_two max_three min_three max_four min_four   -- for this text's walks alone
set_option linter.unusedVariables false
set_option linter.unusedSimpArgs false

-- NOT PRINTED: function 6 (tocsinlaw02_CrcTurned)

-- NOT PRINTED: function 7 (tocsinlaw02_CrcOdd)

/-! ### tocsinlaw02_CrcRound: function 8 -/
mutual
def tocsinlaw02_CrcRound.j0 : Nat → Int → Int → Int → Int → Int → Bool → Option (Bool)
  | 0, _, _, _, _, _, _ => none
  | k + 1, x0, x1, x2, x3, x4, x27 => if x27 = true then (some true) else ((crc_Join.f k x0 x1 x3).bind fun t167 => ((crc_Join.f k x0 x1 (wrap64 (x3 + 2147483647))).bind fun t168 => (if t167 = t168 then ((crc_Join.f k x0 0 x3).bind fun t169 => ((crc_Join.f k t169 0 x4).bind fun t170 => ((crc_Join.f k x0 0 (wrap64 (x3 + x4))).bind fun t171 => (tocsinlaw02_CrcRound.j1 k x0 x1 x2 x3 t167 (t170 != t171))))) else (tocsinlaw02_CrcRound.j1 k x0 x1 x2 x3 t167 true))))
def tocsinlaw02_CrcRound.j1 : Nat → Int → Int → Int → Int → Int → Bool → Option (Bool)
  | 0, _, _, _, _, _, _ => none
  | k + 1, x0, x1, x2, x3, x11, x51 => if x51 = true then (some false) else ((crc_Join.f k (Go.bits .xor .u32 x0 x2) x1 x3).bind fun t172 => ((crc_Join.f k x2 0 x3).bind fun t173 => (some (t172 == (Go.bits .xor .u32 x11 t173)))))
end
def tocsinlaw02_CrcRound.f (k : Nat) (a0 : Int) (a1 : Int) (a2 : Int) (a3 : Int) (a4 : Int) : Option (Bool) := (tocsinlaw02_awake.f).bind fun t166 => (if t166 = true then (if a3 < 0 then (tocsinlaw02_CrcRound.j0 k a0 a1 a2 a3 a4 true) else (if a4 < 0 then (tocsinlaw02_CrcRound.j0 k a0 a1 a2 a3 a4 true) else (if a3 > 1125899906842624 then (tocsinlaw02_CrcRound.j0 k a0 a1 a2 a3 a4 true) else (tocsinlaw02_CrcRound.j0 k a0 a1 a2 a3 a4 (decide (a4 > 1125899906842624)))))) else (some false))
theorem tocsinlaw02_CrcRound.mono_l : ∀ k, (∀ y0 y1 y2 y3 y4 y5, LeO (tocsinlaw02_CrcRound.j0 k y0 y1 y2 y3 y4 y5) (tocsinlaw02_CrcRound.j0 (k + 1) y0 y1 y2 y3 y4 y5)) ∧ (∀ y0 y1 y2 y3 y4 y5, LeO (tocsinlaw02_CrcRound.j1 k y0 y1 y2 y3 y4 y5) (tocsinlaw02_CrcRound.j1 (k + 1) y0 y1 y2 y3 y4 y5))
  | 0 => ⟨fun _ _ _ _ _ _ r h => by simp [tocsinlaw02_CrcRound.j0] at h, fun _ _ _ _ _ _ r h => by simp [tocsinlaw02_CrcRound.j1] at h⟩
  | k + 1 => by
    obtain ⟨ih0, ih1⟩ := tocsinlaw02_CrcRound.mono_l k
    refine ⟨?_, ?_⟩
    · intro y0 y1 y2 y3 y4 y5
      unfold tocsinlaw02_CrcRound.j0
      repeat' first
      | (with_reducible exact ih0 _ _ _ _ _ _)
      | (with_reducible exact ih1 _ _ _ _ _ _)
      | (with_reducible exact crc_Join.mono _ _ _ _)
      | (with_reducible exact LeO.refl _)
      | (with_reducible exact LeO.none _)
      | (with_reducible refine LeO.ite ?_ ?_)
      | (with_reducible refine LeO.bind ?_ (fun _ => ?_))
      | exact ih0 _ _ _ _ _ _
      | exact ih1 _ _ _ _ _ _
      | exact crc_Join.mono _ _ _ _
      | exact LeO.none _
      | refine LeO.ite ?_ ?_
      | refine LeO.bind ?_ (fun _ => ?_)
    · intro y0 y1 y2 y3 y4 y5
      unfold tocsinlaw02_CrcRound.j1
      repeat' first
      | (with_reducible exact ih0 _ _ _ _ _ _)
      | (with_reducible exact ih1 _ _ _ _ _ _)
      | (with_reducible exact crc_Join.mono _ _ _ _)
      | (with_reducible exact LeO.refl _)
      | (with_reducible exact LeO.none _)
      | (with_reducible refine LeO.ite ?_ ?_)
      | (with_reducible refine LeO.bind ?_ (fun _ => ?_))
      | exact ih0 _ _ _ _ _ _
      | exact ih1 _ _ _ _ _ _
      | exact crc_Join.mono _ _ _ _
      | exact LeO.none _
      | refine LeO.ite ?_ ?_
      | refine LeO.bind ?_ (fun _ => ?_)
theorem tocsinlaw02_CrcRound.mono : ∀ a0 a1 a2 a3 a4 k, LeO (tocsinlaw02_CrcRound.f k a0 a1 a2 a3 a4) (tocsinlaw02_CrcRound.f (k + 1) a0 a1 a2 a3 a4) := by
  intro a0 a1 a2 a3 a4 k
  obtain ⟨ih0, ih1⟩ := tocsinlaw02_CrcRound.mono_l k
  unfold tocsinlaw02_CrcRound.f
  repeat' first
      | (with_reducible exact ih0 _ _ _ _ _ _)
      | (with_reducible exact ih1 _ _ _ _ _ _)
      | (with_reducible exact crc_Join.mono _ _ _ _)
      | (with_reducible exact LeO.refl _)
      | (with_reducible exact LeO.none _)
      | (with_reducible refine LeO.ite ?_ ?_)
      | (with_reducible refine LeO.bind ?_ (fun _ => ?_))
      | exact ih0 _ _ _ _ _ _
      | exact ih1 _ _ _ _ _ _
      | exact crc_Join.mono _ _ _ _
      | exact LeO.none _
      | refine LeO.ite ?_ ?_
      | refine LeO.bind ?_ (fun _ => ?_)
set_option maxHeartbeats 8000000 in
set_option maxRecDepth 100000 in
theorem tocsinlaw02_CrcRound.calls (k : Nat) (a0 : Int) (a1 : Int) (a2 : Int) (a3 : Int) (a4 : Int) (r : Bool) (w : World) (h : tocsinlaw02_CrcRound.f k a0 a1 a2 a3 a4 = some r) :
    Calls Try.prog 8 #[.int .u32 a0, .int .u32 a1, .int .u32 a2, .int .i64 a3, .int .i64 a4] w fun e w' => e = .returned (.bool r) ∧ Below w.heap.size w w' := by
  have HB := Aside0.mk (Below.refl w.heap.size w)
  have H : ((tocsinlaw02_awake.f).bind fun t166 => (if t166 = true then (if a3 < 0 then (tocsinlaw02_CrcRound.j0 k a0 a1 a2 a3 a4 true) else (if a4 < 0 then (tocsinlaw02_CrcRound.j0 k a0 a1 a2 a3 a4 true) else (if a3 > 1125899906842624 then (tocsinlaw02_CrcRound.j0 k a0 a1 a2 a3 a4 true) else (tocsinlaw02_CrcRound.j0 k a0 a1 a2 a3 a4 (decide (a4 > 1125899906842624)))))) else (some false))) = some r := h
  clear h
  replace H := Option.bind_eq_some_iff.mp H
  obtain ⟨t166, A60, H⟩ := H
  replace H : (if t166 = true then (if a3 < 0 then (tocsinlaw02_CrcRound.j0 k a0 a1 a2 a3 a4 true) else (if a4 < 0 then (tocsinlaw02_CrcRound.j0 k a0 a1 a2 a3 a4 true) else (if a3 > 1125899906842624 then (tocsinlaw02_CrcRound.j0 k a0 a1 a2 a3 a4 true) else (tocsinlaw02_CrcRound.j0 k a0 a1 a2 a3 a4 (decide (a4 > 1125899906842624)))))) else (some false)) = some r := H
  have A6 := Aside0.mk A60
  clear A60
  by_cases c7 : t166 = true
  · subst c7
    have H1 : (if a3 < 0 then (tocsinlaw02_CrcRound.j0 k a0 a1 a2 a3 a4 true) else (if a4 < 0 then (tocsinlaw02_CrcRound.j0 k a0 a1 a2 a3 a4 true) else (if a3 > 1125899906842624 then (tocsinlaw02_CrcRound.j0 k a0 a1 a2 a3 a4 true) else (tocsinlaw02_CrcRound.j0 k a0 a1 a2 a3 a4 (decide (a4 > 1125899906842624)))))) = some r := by rw [if_pos rfl] at H; exact H
    clear H
    have H := H1
    clear H1
    have HC8 := Aside0.mk H
    clear H
    go_enter Try.func8, Try.ntmps8
    go_upto_region 3 with (first | ((with_reducible refine gate_callee (f := 17) rfl ?_); refine goesL_ (some 12) rfl rfl Try.func17 (by kernel_rfl) rfl #[] rfl (by (try simp only [List.map_toArray, List.map_cons, List.map_nil]); first | done | rfl | (simp only [List.length_drop, List.length_take]; rfl)) ?_; (with_reducible refine (tocsinlaw02_awake.calls  true _ A6.out).mono ?_); rintro e w9 ⟨rfl, hb⟩; refine ⟨_, rfl, ?_⟩; have n0_ := Aside0.mk (below_step (by repeat (first | (with_reducible first | exact HB.out | apply below_alloc | apply pw_below_drewN | apply below_drew1) | exact HB.out)) hb); clear HB; have HB := n0_; clear n0_; (try clear hb); (try clear hb2); (try clear hk); (try clear hi)))
    (try simp only [Act.put, List.setIfInBounds_toArray, List.set_cons_zero, List.set_cons_succ])
    go_cut [27] (fun v27 wc => ∃ (kq : Nat) (x27_7 : Bool), v27 = .bool x27_7 ∧ Aside0 (tocsinlaw02_CrcRound.j0 kq a0 a1 a2 a3 a4 x27_7 = some r) ∧ Aside0 (kq ≤ k) ∧ Aside0 (Below w.heap.size w wc))
    case first =>
      have H := HC8.out
      clear HC8
      by_cases c10 : a3 < 0
      · rw [if_pos c10] at H
        have c10b0 : decide (a3 < 0) = true := decide_eq_true c10
        clear c10
        (first | rw [c10b0] | (simp only [i64_w, i32_w]; rw [c10b0]) | skip)
        have H' := Aside0.mk H
        clear H
        go_wp2
        go_meet
        case rel => exact ⟨_, (true), (by first | rfl | (simp; done) | (simp [*]; done)), H', ⟨by first | omega | exact Nat.le_refl _⟩, ⟨by repeat (first | (with_reducible first | exact HB.out | apply below_alloc | apply pw_below_drewN | apply below_drew1) | exact HB.out)⟩⟩
      · rw [if_neg c10] at H
        have c10b0 : decide (a3 < 0) = false := decide_eq_false c10
        clear c10
        (first | rw [c10b0] | (simp only [i64_w, i32_w]; rw [c10b0]) | skip)
        by_cases c11 : a4 < 0
        · rw [if_pos c11] at H
          have c11b0 : decide (a4 < 0) = true := decide_eq_true c11
          clear c11
          have H' := Aside0.mk H
          clear H
          go_wp2
          go_meet
          case rel => exact ⟨_, (true), (by first | rfl | (simp; done) | (simp [*]; done)), H', ⟨by first | omega | exact Nat.le_refl _⟩, ⟨by repeat (first | (with_reducible first | exact HB.out | apply below_alloc | apply pw_below_drewN | apply below_drew1) | exact HB.out)⟩⟩
        · rw [if_neg c11] at H
          have c11b0 : decide (a4 < 0) = false := decide_eq_false c11
          clear c11
          by_cases c12 : a3 > 1125899906842624
          · rw [if_pos c12] at H
            have c12b0 : decide (1125899906842624 < a3) = true := decide_eq_true c12
            clear c12
            have H' := Aside0.mk H
            clear H
            go_wp2
            go_meet
            case rel => exact ⟨_, (true), (by first | rfl | (simp; done) | (simp [*]; done)), H', ⟨by first | omega | exact Nat.le_refl _⟩, ⟨by repeat (first | (with_reducible first | exact HB.out | apply below_alloc | apply pw_below_drewN | apply below_drew1) | exact HB.out)⟩⟩
          · rw [if_neg c12] at H
            have c12b0 : decide (1125899906842624 < a3) = false := decide_eq_false c12
            clear c12
            have H' := Aside0.mk H
            clear H
            go_wp2
            go_meet
            case rel => exact ⟨_, (decide (a4 > 1125899906842624)), (by first | rfl | (simp; done) | (simp [*]; done)), H', ⟨by first | omega | exact Nat.le_refl _⟩, ⟨by repeat (first | (with_reducible first | exact HB.out | apply below_alloc | apply pw_below_drewN | apply below_drew1) | exact HB.out)⟩⟩
    case rest =>
      clear HC8
      try clear c1
      try clear p2
      try clear c7
      try clear c8
      try clear c10
      try clear c10b0
      try clear c11
      try clear c11b0
      try clear c12
      try clear c12b0
      obtain ⟨kq, x27_7, rfl, HA, HJ7, HB⟩ := hcut
      cases kq with
      | zero => exact absurd HA.out (by simp [tocsinlaw02_CrcRound.j0])
      | succ kj7 =>
        have H := HA.out
        clear HA
        simp only [tocsinlaw02_CrcRound.j0] at H
        by_cases c13 : x27_7 = true
        · subst c13
          have H1 : (some true) = some r := by rw [if_pos rfl] at H; exact H
          clear H
          have H := H1
          clear H1
          obtain rfl := Option.some.inj H
          go_wp2
          go_ret
          exact ⟨by first | rfl | (simp [errW_none, errW_some] <;> rfl) | (simp [*, errW_none, errW_some] <;> rfl), by repeat (first | (with_reducible first | exact HB.out | apply below_alloc | apply pw_below_drewN | apply below_drew1) | exact HB.out)⟩
        · replace c13 := Bool.eq_false_iff.mpr c13
          subst c13
          have H1 : ((crc_Join.f kj7 a0 a1 a3).bind fun t167 => ((crc_Join.f kj7 a0 a1 (wrap64 (a3 + 2147483647))).bind fun t168 => (if t167 = t168 then ((crc_Join.f kj7 a0 0 a3).bind fun t169 => ((crc_Join.f kj7 t169 0 a4).bind fun t170 => ((crc_Join.f kj7 a0 0 (wrap64 (a3 + a4))).bind fun t171 => (tocsinlaw02_CrcRound.j1 kj7 a0 a1 a2 a3 t167 (t170 != t171))))) else (tocsinlaw02_CrcRound.j1 kj7 a0 a1 a2 a3 t167 true)))) = some r := by rw [if_neg (show ¬ (false = true) by decide)] at H; exact H
          clear H
          have H := H1
          clear H1
          replace H := Option.bind_eq_some_iff.mp H
          obtain ⟨t167, A140, H⟩ := H
          replace H : ((crc_Join.f kj7 a0 a1 (wrap64 (a3 + 2147483647))).bind fun t168 => (if t167 = t168 then ((crc_Join.f kj7 a0 0 a3).bind fun t169 => ((crc_Join.f kj7 t169 0 a4).bind fun t170 => ((crc_Join.f kj7 a0 0 (wrap64 (a3 + a4))).bind fun t171 => (tocsinlaw02_CrcRound.j1 kj7 a0 a1 a2 a3 t167 (t170 != t171))))) else (tocsinlaw02_CrcRound.j1 kj7 a0 a1 a2 a3 t167 true))) = some r := H
          have A14 := Aside0.mk A140
          clear A140
          have HC15 := Aside0.mk H
          clear H
          go_upto_region 6 with (first | ((with_reducible refine gate_callee (f := 15) rfl ?_); refine goesL_ (some 31) rfl rfl Try.func15 (by kernel_rfl) rfl #[.int .u32 a0, .int .u32 a1, .int .i64 a3] rfl (by (try simp only [List.map_toArray, List.map_cons, List.map_nil]); first | done | rfl | (simp only [List.length_drop, List.length_take]; rfl)) ?_; (with_reducible refine (crc_Join.calls kj7 a0 a1 a3 t167 _ A14.out).mono ?_); rintro e w' ⟨rfl, ⟨nd, rfl⟩⟩; refine ⟨_, rfl, ?_⟩))
          (try simp only [Act.put, List.setIfInBounds_toArray, List.set_cons_zero, List.set_cons_succ])
          go_cut [51] (fun v51 wc => ∃ (kq : Nat) (x51_14 : Bool), v51 = .bool x51_14 ∧ Aside0 (tocsinlaw02_CrcRound.j1 kq a0 a1 a2 a3 t167 x51_14 = some r) ∧ Aside0 (kq ≤ kj7) ∧ Aside0 (Below w.heap.size w wc))
          case first =>
            have H := HC15.out
            clear HC15
            replace H := Option.bind_eq_some_iff.mp H
            obtain ⟨t168, A160, H⟩ := H
            replace H : (if t167 = t168 then ((crc_Join.f kj7 a0 0 a3).bind fun t169 => ((crc_Join.f kj7 t169 0 a4).bind fun t170 => ((crc_Join.f kj7 a0 0 (wrap64 (a3 + a4))).bind fun t171 => (tocsinlaw02_CrcRound.j1 kj7 a0 a1 a2 a3 t167 (t170 != t171))))) else (tocsinlaw02_CrcRound.j1 kj7 a0 a1 a2 a3 t167 true)) = some r := H
            have A16 := Aside0.mk A160
            clear A160
            by_cases c17 : t167 = t168
            · rw [if_pos c17] at H
              have c17b0 : (t167 == t168) = true := beq_iff_eq.mpr c17
              have c17b1 : (t167 != t168) = false := bne_eq_false_iff_eq.mpr c17
              clear c17
              (first | rw [c17b0] | (simp only [i64_w, i32_w]; rw [c17b0]) | skip)
              replace H := Option.bind_eq_some_iff.mp H
              obtain ⟨t169, A180, H⟩ := H
              replace H : ((crc_Join.f kj7 t169 0 a4).bind fun t170 => ((crc_Join.f kj7 a0 0 (wrap64 (a3 + a4))).bind fun t171 => (tocsinlaw02_CrcRound.j1 kj7 a0 a1 a2 a3 t167 (t170 != t171)))) = some r := H
              have A18 := Aside0.mk A180
              clear A180
              replace H := Option.bind_eq_some_iff.mp H
              obtain ⟨t170, A190, H⟩ := H
              replace H : ((crc_Join.f kj7 a0 0 (wrap64 (a3 + a4))).bind fun t171 => (tocsinlaw02_CrcRound.j1 kj7 a0 a1 a2 a3 t167 (t170 != t171))) = some r := H
              have A19 := Aside0.mk A190
              clear A190
              replace H := Option.bind_eq_some_iff.mp H
              obtain ⟨t171, A200, H⟩ := H
              replace H : (tocsinlaw02_CrcRound.j1 kj7 a0 a1 a2 a3 t167 (t170 != t171)) = some r := H
              have A20 := Aside0.mk A200
              clear A200
              have H' := Aside0.mk H
              clear H
              go_wp2_with (first | ((with_reducible refine gate_callee (f := 15) rfl ?_); refine goesL_ (some 37) rfl rfl Try.func15 (by kernel_rfl) rfl #[.int .u32 a0, .int .u32 a1, .int .i64 (wrap64 (a3 + 2147483647))] rfl (by (try simp only [List.map_toArray, List.map_cons, List.map_nil]); first | done | rfl | (simp only [List.length_drop, List.length_take]; rfl)) ?_; (with_reducible refine (crc_Join.calls kj7 a0 a1 (wrap64 (a3 + 2147483647)) t168 _ A16.out).mono ?_); rintro e w' ⟨rfl, ⟨nd, rfl⟩⟩; refine ⟨_, rfl, ?_⟩) | (go_at_call 15; (with_reducible refine (crc_Join.calls kj7 a0 0 a3 t169 _ A18.out).mono ?_); rintro e w' ⟨rfl, ⟨nd, rfl⟩⟩) | (go_at_call 15; (with_reducible refine (crc_Join.calls kj7 t169 0 a4 t170 _ A19.out).mono ?_); rintro e w' ⟨rfl, ⟨nd, rfl⟩⟩) | (go_at_call 15; (with_reducible refine (crc_Join.calls kj7 a0 0 (wrap64 (a3 + a4)) t171 _ A20.out).mono ?_); rintro e w' ⟨rfl, ⟨nd, rfl⟩⟩))
              go_meet
              case rel => exact ⟨_, ((t170 != t171)), (by first | rfl | (simp; done) | (simp [*]; done)), H', ⟨by have := HJ7.out; first | omega | exact Nat.le_refl _⟩, ⟨by repeat (first | (with_reducible first | exact HB.out | apply below_alloc | apply pw_below_drewN | apply below_drew1) | exact HB.out)⟩⟩
            · rw [if_neg c17] at H
              have c17b0 : (t167 == t168) = false := beq_eq_false_iff_ne.mpr c17
              have c17b1 : (t167 != t168) = true := bne_iff_ne.mpr c17
              (first | rw [c17b0] | (simp only [i64_w, i32_w]; rw [c17b0]) | skip)
              have H' := Aside0.mk H
              clear H
              go_wp2_with (first | ((with_reducible refine gate_callee (f := 15) rfl ?_); refine goesL_ (some 37) rfl rfl Try.func15 (by kernel_rfl) rfl #[.int .u32 a0, .int .u32 a1, .int .i64 (wrap64 (a3 + 2147483647))] rfl (by (try simp only [List.map_toArray, List.map_cons, List.map_nil]); first | done | rfl | (simp only [List.length_drop, List.length_take]; rfl)) ?_; (with_reducible refine (crc_Join.calls kj7 a0 a1 (wrap64 (a3 + 2147483647)) t168 _ A16.out).mono ?_); rintro e w' ⟨rfl, ⟨nd, rfl⟩⟩; refine ⟨_, rfl, ?_⟩))
              go_meet
              case rel => exact ⟨_, (true), (by first | rfl | (simp; done) | (simp [*]; done)), H', ⟨by have := HJ7.out; first | omega | exact Nat.le_refl _⟩, ⟨by repeat (first | (with_reducible first | exact HB.out | apply below_alloc | apply pw_below_drewN | apply below_drew1) | exact HB.out)⟩⟩
          case rest =>
            clear HC15
            try clear c1
            try clear p2
            try clear p6
            try clear c7
            try clear c8
            try clear c10
            try clear c10b0
            try clear c11
            try clear c11b0
            try clear c12
            try clear c12b0
            try clear c13
            try clear c15
            try clear c17
            try clear c17b0
            try clear c17b1
            try clear p2
            obtain ⟨kq, x51_14, rfl, HA, HJ14, HB⟩ := hcut
            cases kq with
            | zero => exact absurd HA.out (by simp [tocsinlaw02_CrcRound.j1])
            | succ kj14 =>
              have H := HA.out
              clear HA
              simp only [tocsinlaw02_CrcRound.j1] at H
              by_cases c21 : x51_14 = true
              · subst c21
                have H1 : (some false) = some r := by rw [if_pos rfl] at H; exact H
                clear H
                have H := H1
                clear H1
                obtain rfl := Option.some.inj H
                go_wp2
                go_ret
                exact ⟨by first | rfl | (simp [errW_none, errW_some] <;> rfl) | (simp [*, errW_none, errW_some] <;> rfl), by repeat (first | (with_reducible first | exact HB.out | apply below_alloc | apply pw_below_drewN | apply below_drew1) | exact HB.out)⟩
              · replace c21 := Bool.eq_false_iff.mpr c21
                subst c21
                have H1 : ((crc_Join.f kj14 (Go.bits .xor .u32 a0 a2) a1 a3).bind fun t172 => ((crc_Join.f kj14 a2 0 a3).bind fun t173 => (some (t172 == (Go.bits .xor .u32 t167 t173))))) = some r := by rw [if_neg (show ¬ (false = true) by decide)] at H; exact H
                clear H
                have H := H1
                clear H1
                replace H := Option.bind_eq_some_iff.mp H
                obtain ⟨t172, A220, H⟩ := H
                replace H : ((crc_Join.f kj14 a2 0 a3).bind fun t173 => (some (t172 == (Go.bits .xor .u32 t167 t173)))) = some r := H
                have A22 := Aside0.mk A220
                clear A220
                replace H := Option.bind_eq_some_iff.mp H
                obtain ⟨t173, A230, H⟩ := H
                replace H : (some (t172 == (Go.bits .xor .u32 t167 t173))) = some r := H
                have A23 := Aside0.mk A230
                clear A230
                obtain rfl := Option.some.inj H
                go_wp2_with (first | ((with_reducible refine gate_callee (f := 15) rfl ?_); refine goesL_ (some 57) rfl rfl Try.func15 (by kernel_rfl) rfl #[.int .u32 (Go.bits .xor .u32 a0 a2), .int .u32 a1, .int .i64 a3] rfl (by (try simp only [List.map_toArray, List.map_cons, List.map_nil]); first | done | rfl | (simp only [List.length_drop, List.length_take]; rfl)) ?_; (with_reducible refine (crc_Join.calls kj14 (Go.bits .xor .u32 a0 a2) a1 a3 t172 _ A22.out).mono ?_); rintro e w' ⟨rfl, ⟨nd, rfl⟩⟩; refine ⟨_, rfl, ?_⟩) | ((with_reducible refine gate_callee (f := 15) rfl ?_); refine goesL_ (some 61) rfl rfl Try.func15 (by kernel_rfl) rfl #[.int .u32 a2, .int .u32 0, .int .i64 a3] rfl (by (try simp only [List.map_toArray, List.map_cons, List.map_nil]); first | done | rfl | (simp only [List.length_drop, List.length_take]; rfl)) ?_; (with_reducible refine (crc_Join.calls kj14 a2 0 a3 t173 _ A23.out).mono ?_); rintro e w' ⟨rfl, ⟨nd, rfl⟩⟩; refine ⟨_, rfl, ?_⟩))
                go_ret
                exact ⟨by first | rfl | (simp [errW_none, errW_some] <;> rfl) | (simp [*, errW_none, errW_some] <;> rfl), by repeat (first | (with_reducible first | exact HB.out | apply below_alloc | apply pw_below_drewN | apply below_drew1) | exact HB.out)⟩
  · replace c7 := Bool.eq_false_iff.mpr c7
    subst c7
    have H1 : (some false) = some r := by rw [if_neg (show ¬ (false = true) by decide)] at H; exact H
    clear H
    have H := H1
    clear H1
    obtain rfl := Option.some.inj H
    go_enter Try.func8, Try.ntmps8
    go_wp2_with (first | ((with_reducible refine gate_callee (f := 17) rfl ?_); refine goesL_ (some 12) rfl rfl Try.func17 (by kernel_rfl) rfl #[] rfl (by (try simp only [List.map_toArray, List.map_cons, List.map_nil]); first | done | rfl | (simp only [List.length_drop, List.length_take]; rfl)) ?_; (with_reducible refine (tocsinlaw02_awake.calls  false _ A6.out).mono ?_); rintro e w24 ⟨rfl, hb⟩; refine ⟨_, rfl, ?_⟩; have n0_ := Aside0.mk (below_step (by repeat (first | (with_reducible first | exact HB.out | apply below_alloc | apply pw_below_drewN | apply below_drew1) | exact HB.out)) hb); clear HB; have HB := n0_; clear n0_; (try clear hb); (try clear hb2); (try clear hk); (try clear hi)))
    go_ret
    exact ⟨by first | rfl | (simp [errW_none, errW_some] <;> rfl) | (simp [*, errW_none, errW_some] <;> rfl), by repeat (first | (with_reducible first | exact HB.out | apply below_alloc | apply pw_below_drewN | apply below_drew1) | exact HB.out)⟩

/-- THE ONE PURE STATEMENT of tocsinlaw02_CrcRound: yours. -/
def tocsinlaw02_CrcRound.Pure : Prop := ∀ (a0 : Int) (a1 : Int) (a2 : Int) (a3 : Int) (a4 : Int), (Lit.int .u32 a0).wf = true → (Lit.int .u32 a1).wf = true → (Lit.int .u32 a2).wf = true → (Lit.int .i64 a3).wf = true → (Lit.int .i64 a4).wf = true → ∃ k, tocsinlaw02_CrcRound.f k a0 a1 a2 a3 a4 = some true
theorem tocsinlaw02_CrcRound.walk (P : tocsinlaw02_CrcRound.Pure) (a0 : Int) (a1 : Int) (a2 : Int) (a3 : Int) (a4 : Int) (w : World) (w0 : (Lit.int .u32 a0).wf = true) (w1 : (Lit.int .u32 a1).wf = true) (w2 : (Lit.int .u32 a2).wf = true) (w3 : (Lit.int .i64 a3).wf = true) (w4 : (Lit.int .i64 a4).wf = true) :
    Calls Try.prog 8 #[.int .u32 a0, .int .u32 a1, .int .u32 a2, .int .i64 a3, .int .i64 a4] w fun e w' => e = .returned (.bool true) ∧ Below w.heap.size w w' := by
  obtain ⟨k, h⟩ := P a0 a1 a2 a3 a4 w0 w1 w2 w3 w4
  refine (tocsinlaw02_CrcRound.calls k a0 a1 a2 a3 a4 true w h).mono ?_
  rintro e w' ⟨rfl, hd⟩
  exact ⟨rfl, hd⟩

-- NOT PRINTED: function 9 (tocsinlaw02_CrcWith)

end Go.Proofs.Ytfejhegogajnhaa.PAll
