/- Printed by a program of this session (wip/tools/myprint.py, which runs the kit's own printer) over contracts proved by hand: functions and their walks, and the row of a law: for every input it returns true. No conditions. -/
import Derived.Test.YtafpedgmfkaifaaPAllx0
import Derived.Test.YtafpedgmfkaifaaPAllx1
namespace Go.Proofs.Ytafpedgmfkaifaa.PAll
open Go.RowKit Go.Proofs.Ytafpedgmfkaifaa.PBase Go.Proofs.Ytafpedgmfkaifaa.Given Go.Proofs.YtafpedgmfkaifaaW.PrintWords Go.Proofs.YtafpedgmfkaifaaW.PrintLast Go.Proofs.YtafpedgmfkaifaaW.PrintMore
attribute [local go_sem] max2_int min2_int max_two min_two max_three min_three max_four min_four   -- for this text's walks alone
set_option linter.unusedVariables false
set_option linter.unusedSimpArgs false

/-! ### tocsinlaw18_AggOne: function 6 -/
mutual
def tocsinlaw18_AggOne.j0 : Nat → Int → Int → Bool → Bool → Bool → Int → Option (Bool)
  | 0, _, _, _, _, _, _ => none
  | k + 1, x0, x1, x5, x6, x7, x8 => if x6 = true then (tocsinlaw18_AggOne.j1 k x0 x1 x5 x6 x7 (wrap64 (x8 + 1))) else (tocsinlaw18_AggOne.j1 k x0 x1 x5 x6 x7 x8)
def tocsinlaw18_AggOne.j1 : Nat → Int → Int → Bool → Bool → Bool → Int → Option (Bool)
  | 0, _, _, _, _, _, _ => none
  | k + 1, x0, x1, x5, x6, x7, x8 => if x7 = true then (tocsinlaw18_AggOne.j2 k x0 x1 x5 x6 x7 (wrap64 (x8 + 1))) else (tocsinlaw18_AggOne.j2 k x0 x1 x5 x6 x7 x8)
def tocsinlaw18_AggOne.j2 : Nat → Int → Int → Bool → Bool → Bool → Int → Option (Bool)
  | 0, _, _, _, _, _, _ => none
  | k + 1, x0, x1, x5, x6, x7, x8 => if x8 = 1 then ((agg_Holds.f x0 1 x1).bind fun t178 => (if (t178 != x7) = true then ((agg_Holds.f x0 3 x1).bind fun t179 => (if (t179 != x5) = true then ((agg_Holds.f x0 5 x1).bind fun t180 => (if (t180 != x6) = true then ((agg_Holds.f x1 0 x0).bind fun t181 => (if (t181 == x7) = true then ((tocsinlaw18_awake.f).bind fun t182 => (some t182)) else (some false))) else (some false))) else (some false))) else (some false))) else (some false)
end
def tocsinlaw18_AggOne.f (k : Nat) (a0 : Int) (a1 : Int) : Option (Bool) := (agg_Holds.f a0 0 a1).bind fun t175 => ((agg_Holds.f a0 4 a1).bind fun t176 => ((agg_Holds.f a0 2 a1).bind fun t177 => (if t175 = true then (tocsinlaw18_AggOne.j0 k a0 a1 t175 t176 t177 (0 + 1)) else (tocsinlaw18_AggOne.j0 k a0 a1 t175 t176 t177 0))))
theorem tocsinlaw18_AggOne.mono_l : ∀ k, (∀ y0 y1 y2 y3 y4 y5, LeO (tocsinlaw18_AggOne.j0 k y0 y1 y2 y3 y4 y5) (tocsinlaw18_AggOne.j0 (k + 1) y0 y1 y2 y3 y4 y5)) ∧ (∀ y0 y1 y2 y3 y4 y5, LeO (tocsinlaw18_AggOne.j1 k y0 y1 y2 y3 y4 y5) (tocsinlaw18_AggOne.j1 (k + 1) y0 y1 y2 y3 y4 y5)) ∧ (∀ y0 y1 y2 y3 y4 y5, LeO (tocsinlaw18_AggOne.j2 k y0 y1 y2 y3 y4 y5) (tocsinlaw18_AggOne.j2 (k + 1) y0 y1 y2 y3 y4 y5))
  | 0 => ⟨fun _ _ _ _ _ _ r h => by simp [tocsinlaw18_AggOne.j0] at h, fun _ _ _ _ _ _ r h => by simp [tocsinlaw18_AggOne.j1] at h, fun _ _ _ _ _ _ r h => by simp [tocsinlaw18_AggOne.j2] at h⟩
  | k + 1 => by
    obtain ⟨ih0, ih1, ih2⟩ := tocsinlaw18_AggOne.mono_l k
    refine ⟨?_, ?_, ?_⟩
    · intro y0 y1 y2 y3 y4 y5
      unfold tocsinlaw18_AggOne.j0
      repeat' first
      | (with_reducible exact ih0 _ _ _ _ _ _)
      | (with_reducible exact ih1 _ _ _ _ _ _)
      | (with_reducible exact ih2 _ _ _ _ _ _)
      | (with_reducible exact LeO.refl _)
      | (with_reducible exact LeO.none _)
      | (with_reducible refine LeO.ite ?_ ?_)
      | (with_reducible refine LeO.bind ?_ (fun _ => ?_))
      | exact ih0 _ _ _ _ _ _
      | exact ih1 _ _ _ _ _ _
      | exact ih2 _ _ _ _ _ _
      | exact LeO.none _
      | refine LeO.ite ?_ ?_
      | refine LeO.bind ?_ (fun _ => ?_)
    · intro y0 y1 y2 y3 y4 y5
      unfold tocsinlaw18_AggOne.j1
      repeat' first
      | (with_reducible exact ih0 _ _ _ _ _ _)
      | (with_reducible exact ih1 _ _ _ _ _ _)
      | (with_reducible exact ih2 _ _ _ _ _ _)
      | (with_reducible exact LeO.refl _)
      | (with_reducible exact LeO.none _)
      | (with_reducible refine LeO.ite ?_ ?_)
      | (with_reducible refine LeO.bind ?_ (fun _ => ?_))
      | exact ih0 _ _ _ _ _ _
      | exact ih1 _ _ _ _ _ _
      | exact ih2 _ _ _ _ _ _
      | exact LeO.none _
      | refine LeO.ite ?_ ?_
      | refine LeO.bind ?_ (fun _ => ?_)
    · intro y0 y1 y2 y3 y4 y5
      unfold tocsinlaw18_AggOne.j2
      repeat' first
      | (with_reducible exact ih0 _ _ _ _ _ _)
      | (with_reducible exact ih1 _ _ _ _ _ _)
      | (with_reducible exact ih2 _ _ _ _ _ _)
      | (with_reducible exact LeO.refl _)
      | (with_reducible exact LeO.none _)
      | (with_reducible refine LeO.ite ?_ ?_)
      | (with_reducible refine LeO.bind ?_ (fun _ => ?_))
      | exact ih0 _ _ _ _ _ _
      | exact ih1 _ _ _ _ _ _
      | exact ih2 _ _ _ _ _ _
      | exact LeO.none _
      | refine LeO.ite ?_ ?_
      | refine LeO.bind ?_ (fun _ => ?_)
theorem tocsinlaw18_AggOne.mono : ∀ a0 a1 k, LeO (tocsinlaw18_AggOne.f k a0 a1) (tocsinlaw18_AggOne.f (k + 1) a0 a1) := by
  intro a0 a1 k
  obtain ⟨ih0, ih1, ih2⟩ := tocsinlaw18_AggOne.mono_l k
  unfold tocsinlaw18_AggOne.f
  repeat' first
      | (with_reducible exact ih0 _ _ _ _ _ _)
      | (with_reducible exact ih1 _ _ _ _ _ _)
      | (with_reducible exact ih2 _ _ _ _ _ _)
      | (with_reducible exact LeO.refl _)
      | (with_reducible exact LeO.none _)
      | (with_reducible refine LeO.ite ?_ ?_)
      | (with_reducible refine LeO.bind ?_ (fun _ => ?_))
      | exact ih0 _ _ _ _ _ _
      | exact ih1 _ _ _ _ _ _
      | exact ih2 _ _ _ _ _ _
      | exact LeO.none _
      | refine LeO.ite ?_ ?_
      | refine LeO.bind ?_ (fun _ => ?_)
set_option maxHeartbeats 8000000 in
set_option maxRecDepth 100000 in
theorem tocsinlaw18_AggOne.calls (k : Nat) (a0 : Int) (a1 : Int) (r : Bool) (w : World) (h : tocsinlaw18_AggOne.f k a0 a1 = some r) :
    Calls Try.prog 6 #[.int .i64 a0, .int .i64 a1] w fun e w' => e = .returned (.bool r) ∧ Below w.heap.size w w' := by
  have HB := Aside0.mk (Below.refl w.heap.size w)
  have H : ((agg_Holds.f a0 0 a1).bind fun t175 => ((agg_Holds.f a0 4 a1).bind fun t176 => ((agg_Holds.f a0 2 a1).bind fun t177 => (if t175 = true then (tocsinlaw18_AggOne.j0 k a0 a1 t175 t176 t177 (0 + 1)) else (tocsinlaw18_AggOne.j0 k a0 a1 t175 t176 t177 0))))) = some r := h
  clear h
  replace H := Option.bind_eq_some_iff.mp H
  obtain ⟨t175, A30, H⟩ := H
  replace H : ((agg_Holds.f a0 4 a1).bind fun t176 => ((agg_Holds.f a0 2 a1).bind fun t177 => (if t175 = true then (tocsinlaw18_AggOne.j0 k a0 a1 t175 t176 t177 (0 + 1)) else (tocsinlaw18_AggOne.j0 k a0 a1 t175 t176 t177 0)))) = some r := H
  have A3 := Aside0.mk A30
  clear A30
  replace H := Option.bind_eq_some_iff.mp H
  obtain ⟨t176, A40, H⟩ := H
  replace H : ((agg_Holds.f a0 2 a1).bind fun t177 => (if t175 = true then (tocsinlaw18_AggOne.j0 k a0 a1 t175 t176 t177 (0 + 1)) else (tocsinlaw18_AggOne.j0 k a0 a1 t175 t176 t177 0))) = some r := H
  have A4 := Aside0.mk A40
  clear A40
  replace H := Option.bind_eq_some_iff.mp H
  obtain ⟨t177, A50, H⟩ := H
  replace H : (if t175 = true then (tocsinlaw18_AggOne.j0 k a0 a1 t175 t176 t177 (0 + 1)) else (tocsinlaw18_AggOne.j0 k a0 a1 t175 t176 t177 0)) = some r := H
  have A5 := Aside0.mk A50
  clear A50
  have HC6 := Aside0.mk H
  clear H
  go_enter Try.func6, Try.ntmps6
  go_upto_if 18 with (first | ((with_reducible refine gate_callee (f := 11) rfl ?_); refine goesL_ (some 11) rfl rfl Try.func11 (by kernel_rfl) rfl #[.int .i64 a0, .int .u8 0, .int .i64 a1] rfl (by (try simp only [List.map_toArray, List.map_cons, List.map_nil]); first | done | rfl | (simp only [List.length_drop, List.length_take]; rfl)) ?_; (with_reducible refine (agg_Holds.calls a0 0 a1 t175 _ A3.out).mono ?_); rintro e w' ⟨rfl, ⟨nd, rfl⟩⟩; refine ⟨_, rfl, ?_⟩) | ((with_reducible refine gate_callee (f := 11) rfl ?_); refine goesL_ (some 14) rfl rfl Try.func11 (by kernel_rfl) rfl #[.int .i64 a0, .int .u8 4, .int .i64 a1] rfl (by (try simp only [List.map_toArray, List.map_cons, List.map_nil]); first | done | rfl | (simp only [List.length_drop, List.length_take]; rfl)) ?_; (with_reducible refine (agg_Holds.calls a0 4 a1 t176 _ A4.out).mono ?_); rintro e w' ⟨rfl, ⟨nd, rfl⟩⟩; refine ⟨_, rfl, ?_⟩) | ((with_reducible refine gate_callee (f := 11) rfl ?_); refine goesL_ (some 17) rfl rfl Try.func11 (by kernel_rfl) rfl #[.int .i64 a0, .int .u8 2, .int .i64 a1] rfl (by (try simp only [List.map_toArray, List.map_cons, List.map_nil]); first | done | rfl | (simp only [List.length_drop, List.length_take]; rfl)) ?_; (with_reducible refine (agg_Holds.calls a0 2 a1 t177 _ A5.out).mono ?_); rintro e w' ⟨rfl, ⟨nd, rfl⟩⟩; refine ⟨_, rfl, ?_⟩))
  (try simp only [Act.put, List.setIfInBounds_toArray, List.set_cons_zero, List.set_cons_succ])
  go_cut [8] (fun v8 wc => ∃ (kq : Nat) (x8_5 : Int), v8 = .int .i64 x8_5 ∧ Aside0 (tocsinlaw18_AggOne.j0 kq a0 a1 t175 t176 t177 x8_5 = some r) ∧ Aside0 (kq ≤ k) ∧ Aside0 (Below w.heap.size w wc))
  case first =>
    have H := HC6.out
    clear HC6
    by_cases c7 : t175 = true
    · subst c7
      have H1 : (tocsinlaw18_AggOne.j0 k a0 a1 true t176 t177 (0 + 1)) = some r := by rw [if_pos rfl] at H; exact H
      clear H
      have H := H1
      clear H1
      have H' := Aside0.mk H
      clear H
      go_wp2
      go_meet
      case rel => exact ⟨_, (0 + 1), (by first | rfl | (simp; done) | (simp [*]; done)), H', ⟨by first | omega | exact Nat.le_refl _⟩, ⟨by repeat (first | (with_reducible first | exact HB.out | apply below_alloc | apply pw_below_drewN | apply below_drew1) | exact HB.out)⟩⟩
    · replace c7 := Bool.eq_false_iff.mpr c7
      subst c7
      have H1 : (tocsinlaw18_AggOne.j0 k a0 a1 false t176 t177 0) = some r := by rw [if_neg (show ¬ (false = true) by decide)] at H; exact H
      clear H
      have H := H1
      clear H1
      have H' := Aside0.mk H
      clear H
      go_wp2
      go_meet
      case rel => exact ⟨_, (0), (by first | rfl | (simp; done) | (simp [*]; done)), H', ⟨by first | omega | exact Nat.le_refl _⟩, ⟨by repeat (first | (with_reducible first | exact HB.out | apply below_alloc | apply pw_below_drewN | apply below_drew1) | exact HB.out)⟩⟩
  case rest =>
    clear HC6
    try clear c1
    try clear p2
    try clear c6
    try clear c7
    obtain ⟨kq, x8_5, rfl, HA, HJ5, HB⟩ := hcut
    cases kq with
    | zero => exact absurd HA.out (by simp [tocsinlaw18_AggOne.j0])
    | succ kj5 =>
      have H := HA.out
      clear HA
      simp only [tocsinlaw18_AggOne.j0] at H
      have HC8 := Aside0.mk H
      clear H
      go_upto_if 21 with (fail)
      go_cut [8] (fun v8 wc => ∃ (kq : Nat) (x8_7 : Int), v8 = .int .i64 x8_7 ∧ Aside0 (tocsinlaw18_AggOne.j1 kq a0 a1 t175 t176 t177 x8_7 = some r) ∧ Aside0 (kq ≤ kj5) ∧ Aside0 (Below w.heap.size w wc))
      case first =>
        have H := HC8.out
        clear HC8
        by_cases c9 : t176 = true
        · subst c9
          have H1 : (tocsinlaw18_AggOne.j1 kj5 a0 a1 t175 true t177 (wrap64 (x8_5 + 1))) = some r := by rw [if_pos rfl] at H; exact H
          clear H
          have H := H1
          clear H1
          have H' := Aside0.mk H
          clear H
          go_wp2
          go_meet
          case rel => exact ⟨_, (wrap64 (x8_5 + 1)), (by first | rfl | (simp; done) | (simp [*]; done)), H', ⟨by have := HJ5.out; first | omega | exact Nat.le_refl _⟩, ⟨by repeat (first | (with_reducible first | exact HB.out | apply below_alloc | apply pw_below_drewN | apply below_drew1) | exact HB.out)⟩⟩
        · replace c9 := Bool.eq_false_iff.mpr c9
          subst c9
          have H1 : (tocsinlaw18_AggOne.j1 kj5 a0 a1 t175 false t177 x8_5) = some r := by rw [if_neg (show ¬ (false = true) by decide)] at H; exact H
          clear H
          have H := H1
          clear H1
          have H' := Aside0.mk H
          clear H
          go_wp2
          go_meet
          case rel => exact ⟨_, (x8_5), (by first | rfl | (simp; done) | (simp [*]; done)), H', ⟨by have := HJ5.out; first | omega | exact Nat.le_refl _⟩, ⟨by repeat (first | (with_reducible first | exact HB.out | apply below_alloc | apply pw_below_drewN | apply below_drew1) | exact HB.out)⟩⟩
      case rest =>
        clear HC8
        try clear c1
        try clear p2
        try clear c6
        try clear p6
        try clear c7
        try clear c9
        try clear p2
        obtain ⟨kq, x8_7, rfl, HA, HJ7, HB⟩ := hcut
        cases kq with
        | zero => exact absurd HA.out (by simp [tocsinlaw18_AggOne.j1])
        | succ kj7 =>
          have H := HA.out
          clear HA
          simp only [tocsinlaw18_AggOne.j1] at H
          have HC10 := Aside0.mk H
          clear H
          go_upto_if 24 with (fail)
          go_cut [8] (fun v8 wc => ∃ (kq : Nat) (x8_9 : Int), v8 = .int .i64 x8_9 ∧ Aside0 (tocsinlaw18_AggOne.j2 kq a0 a1 t175 t176 t177 x8_9 = some r) ∧ Aside0 (kq ≤ kj7) ∧ Aside0 (Below w.heap.size w wc))
          case first =>
            have H := HC10.out
            clear HC10
            by_cases c11 : t177 = true
            · subst c11
              have H1 : (tocsinlaw18_AggOne.j2 kj7 a0 a1 t175 t176 true (wrap64 (x8_7 + 1))) = some r := by rw [if_pos rfl] at H; exact H
              clear H
              have H := H1
              clear H1
              have H' := Aside0.mk H
              clear H
              go_wp2
              go_meet
              case rel => exact ⟨_, (wrap64 (x8_7 + 1)), (by first | rfl | (simp; done) | (simp [*]; done)), H', ⟨by have := HJ5.out; have := HJ7.out; first | omega | exact Nat.le_refl _⟩, ⟨by repeat (first | (with_reducible first | exact HB.out | apply below_alloc | apply pw_below_drewN | apply below_drew1) | exact HB.out)⟩⟩
            · replace c11 := Bool.eq_false_iff.mpr c11
              subst c11
              have H1 : (tocsinlaw18_AggOne.j2 kj7 a0 a1 t175 t176 false x8_7) = some r := by rw [if_neg (show ¬ (false = true) by decide)] at H; exact H
              clear H
              have H := H1
              clear H1
              have H' := Aside0.mk H
              clear H
              go_wp2
              go_meet
              case rel => exact ⟨_, (x8_7), (by first | rfl | (simp; done) | (simp [*]; done)), H', ⟨by have := HJ5.out; have := HJ7.out; first | omega | exact Nat.le_refl _⟩, ⟨by repeat (first | (with_reducible first | exact HB.out | apply below_alloc | apply pw_below_drewN | apply below_drew1) | exact HB.out)⟩⟩
          case rest =>
            clear HC10
            try clear c1
            try clear p2
            try clear c6
            try clear p6
            try clear c7
            try clear c9
            try clear c11
            try clear p2
            try clear p6
            obtain ⟨kq, x8_9, rfl, HA, HJ9, HB⟩ := hcut
            cases kq with
            | zero => exact absurd HA.out (by simp [tocsinlaw18_AggOne.j2])
            | succ kj9 =>
              have H := HA.out
              clear HA
              simp only [tocsinlaw18_AggOne.j2] at H
              by_cases c12 : x8_9 = 1
              · rw [if_pos c12] at H
                have c12b0 : (x8_9 == 1) = true := beq_iff_eq.mpr c12
                have c12b1 : (x8_9 != 1) = false := bne_eq_false_iff_eq.mpr c12
                clear c12
                replace H := Option.bind_eq_some_iff.mp H
                obtain ⟨t178, A130, H⟩ := H
                replace H : (if (t178 != t177) = true then ((agg_Holds.f a0 3 a1).bind fun t179 => (if (t179 != t175) = true then ((agg_Holds.f a0 5 a1).bind fun t180 => (if (t180 != t176) = true then ((agg_Holds.f a1 0 a0).bind fun t181 => (if (t181 == t177) = true then ((tocsinlaw18_awake.f).bind fun t182 => (some t182)) else (some false))) else (some false))) else (some false))) else (some false)) = some r := H
                have A13 := Aside0.mk A130
                clear A130
                by_cases c14 : (t178 != t177) = true
                · rw [if_pos c14] at H
                  have c14b0 : (t178 != t177) = true := c14
                  (try (have c14b1 : decide (t178 = t177) = false := by simpa using c14))
                  (try (have c14b2 : (t178 == t177) = false := by simpa using c14))
                  (try (have c14b3 : ¬ (t178 = t177) := by simpa using c14))
                  clear c14
                  replace H := Option.bind_eq_some_iff.mp H
                  obtain ⟨t179, A150, H⟩ := H
                  replace H : (if (t179 != t175) = true then ((agg_Holds.f a0 5 a1).bind fun t180 => (if (t180 != t176) = true then ((agg_Holds.f a1 0 a0).bind fun t181 => (if (t181 == t177) = true then ((tocsinlaw18_awake.f).bind fun t182 => (some t182)) else (some false))) else (some false))) else (some false)) = some r := H
                  have A15 := Aside0.mk A150
                  clear A150
                  by_cases c16 : (t179 != t175) = true
                  · rw [if_pos c16] at H
                    have c16b0 : (t179 != t175) = true := c16
                    (try (have c16b1 : decide (t179 = t175) = false := by simpa using c16))
                    (try (have c16b2 : (t179 == t175) = false := by simpa using c16))
                    (try (have c16b3 : ¬ (t179 = t175) := by simpa using c16))
                    clear c16
                    replace H := Option.bind_eq_some_iff.mp H
                    obtain ⟨t180, A170, H⟩ := H
                    replace H : (if (t180 != t176) = true then ((agg_Holds.f a1 0 a0).bind fun t181 => (if (t181 == t177) = true then ((tocsinlaw18_awake.f).bind fun t182 => (some t182)) else (some false))) else (some false)) = some r := H
                    have A17 := Aside0.mk A170
                    clear A170
                    by_cases c18 : (t180 != t176) = true
                    · rw [if_pos c18] at H
                      have c18b0 : (t180 != t176) = true := c18
                      (try (have c18b1 : decide (t180 = t176) = false := by simpa using c18))
                      (try (have c18b2 : (t180 == t176) = false := by simpa using c18))
                      (try (have c18b3 : ¬ (t180 = t176) := by simpa using c18))
                      clear c18
                      replace H := Option.bind_eq_some_iff.mp H
                      obtain ⟨t181, A190, H⟩ := H
                      replace H : (if (t181 == t177) = true then ((tocsinlaw18_awake.f).bind fun t182 => (some t182)) else (some false)) = some r := H
                      have A19 := Aside0.mk A190
                      clear A190
                      by_cases c20 : (t181 == t177) = true
                      · rw [if_pos c20] at H
                        have c20b0 : (t181 == t177) = true := c20
                        (try (have c20b1 : decide (t181 = t177) = true := by simpa using c20))
                        (try (have c20b2 : (t181 == t177) = true := by simpa using c20))
                        clear c20
                        replace H := Option.bind_eq_some_iff.mp H
                        obtain ⟨t182, A210, H⟩ := H
                        replace H : (some t182) = some r := H
                        have A21 := Aside0.mk A210
                        clear A210
                        obtain rfl := Option.some.inj H
                        go_wp2_with (first | (go_at_call 11; (with_reducible refine (agg_Holds.calls a0 1 a1 t178 _ A13.out).mono ?_); rintro e w' ⟨rfl, ⟨nd, rfl⟩⟩) | (go_at_call 11; (with_reducible refine (agg_Holds.calls a0 3 a1 t179 _ A15.out).mono ?_); rintro e w' ⟨rfl, ⟨nd, rfl⟩⟩) | (go_at_call 11; (with_reducible refine (agg_Holds.calls a0 5 a1 t180 _ A17.out).mono ?_); rintro e w' ⟨rfl, ⟨nd, rfl⟩⟩) | (go_at_call 11; (with_reducible refine (agg_Holds.calls a1 0 a0 t181 _ A19.out).mono ?_); rintro e w' ⟨rfl, ⟨nd, rfl⟩⟩) | (go_at_call 10; (with_reducible refine (tocsinlaw18_awake.calls  t182 _ A21.out).mono ?_); rintro e w22 ⟨rfl, hb⟩; have n0_ := Aside0.mk (below_step (by repeat (first | (with_reducible first | exact HB.out | apply below_alloc | apply pw_below_drewN | apply below_drew1) | exact HB.out)) hb); clear HB; have HB := n0_; clear n0_; (try clear hb); (try clear hb2); (try clear hk); (try clear hi)))
                        go_ret
                        exact ⟨by first | rfl | (simp [errW_none, errW_some] <;> rfl) | (simp [*, errW_none, errW_some] <;> rfl), by repeat (first | (with_reducible first | exact HB.out | apply below_alloc | apply pw_below_drewN | apply below_drew1) | exact HB.out)⟩
                      · rw [if_neg c20] at H
                        have c20b0 : (t181 == t177) = false := by simpa using c20
                        (try (have c20b1 : decide (t181 = t177) = false := by simpa using c20))
                        (try (have c20b2 : (t181 == t177) = false := by simpa using c20))
                        (try (have c20b3 : ¬ (t181 = t177) := by simpa using c20))
                        clear c20
                        obtain rfl := Option.some.inj H
                        go_wp2_with (first | (go_at_call 11; (with_reducible refine (agg_Holds.calls a0 1 a1 t178 _ A13.out).mono ?_); rintro e w' ⟨rfl, ⟨nd, rfl⟩⟩) | (go_at_call 11; (with_reducible refine (agg_Holds.calls a0 3 a1 t179 _ A15.out).mono ?_); rintro e w' ⟨rfl, ⟨nd, rfl⟩⟩) | (go_at_call 11; (with_reducible refine (agg_Holds.calls a0 5 a1 t180 _ A17.out).mono ?_); rintro e w' ⟨rfl, ⟨nd, rfl⟩⟩) | (go_at_call 11; (with_reducible refine (agg_Holds.calls a1 0 a0 t181 _ A19.out).mono ?_); rintro e w' ⟨rfl, ⟨nd, rfl⟩⟩))
                        go_ret
                        exact ⟨by first | rfl | (simp [errW_none, errW_some] <;> rfl) | (simp [*, errW_none, errW_some] <;> rfl), by repeat (first | (with_reducible first | exact HB.out | apply below_alloc | apply pw_below_drewN | apply below_drew1) | exact HB.out)⟩
                    · rw [if_neg c18] at H
                      have c18b0 : (t180 != t176) = false := by simpa using c18
                      (try (have c18b1 : decide (t180 = t176) = true := by simpa using c18))
                      (try (have c18b2 : (t180 == t176) = true := by simpa using c18))
                      clear c18
                      obtain rfl := Option.some.inj H
                      go_wp2_with (first | (go_at_call 11; (with_reducible refine (agg_Holds.calls a0 1 a1 t178 _ A13.out).mono ?_); rintro e w' ⟨rfl, ⟨nd, rfl⟩⟩) | (go_at_call 11; (with_reducible refine (agg_Holds.calls a0 3 a1 t179 _ A15.out).mono ?_); rintro e w' ⟨rfl, ⟨nd, rfl⟩⟩) | (go_at_call 11; (with_reducible refine (agg_Holds.calls a0 5 a1 t180 _ A17.out).mono ?_); rintro e w' ⟨rfl, ⟨nd, rfl⟩⟩))
                      go_ret
                      exact ⟨by first | rfl | (simp [errW_none, errW_some] <;> rfl) | (simp [*, errW_none, errW_some] <;> rfl), by repeat (first | (with_reducible first | exact HB.out | apply below_alloc | apply pw_below_drewN | apply below_drew1) | exact HB.out)⟩
                  · rw [if_neg c16] at H
                    have c16b0 : (t179 != t175) = false := by simpa using c16
                    (try (have c16b1 : decide (t179 = t175) = true := by simpa using c16))
                    (try (have c16b2 : (t179 == t175) = true := by simpa using c16))
                    clear c16
                    obtain rfl := Option.some.inj H
                    go_wp2_with (first | (go_at_call 11; (with_reducible refine (agg_Holds.calls a0 1 a1 t178 _ A13.out).mono ?_); rintro e w' ⟨rfl, ⟨nd, rfl⟩⟩) | (go_at_call 11; (with_reducible refine (agg_Holds.calls a0 3 a1 t179 _ A15.out).mono ?_); rintro e w' ⟨rfl, ⟨nd, rfl⟩⟩))
                    go_ret
                    exact ⟨by first | rfl | (simp [errW_none, errW_some] <;> rfl) | (simp [*, errW_none, errW_some] <;> rfl), by repeat (first | (with_reducible first | exact HB.out | apply below_alloc | apply pw_below_drewN | apply below_drew1) | exact HB.out)⟩
                · rw [if_neg c14] at H
                  have c14b0 : (t178 != t177) = false := by simpa using c14
                  (try (have c14b1 : decide (t178 = t177) = true := by simpa using c14))
                  (try (have c14b2 : (t178 == t177) = true := by simpa using c14))
                  clear c14
                  obtain rfl := Option.some.inj H
                  go_wp2_with (first | (go_at_call 11; (with_reducible refine (agg_Holds.calls a0 1 a1 t178 _ A13.out).mono ?_); rintro e w' ⟨rfl, ⟨nd, rfl⟩⟩))
                  go_ret
                  exact ⟨by first | rfl | (simp [errW_none, errW_some] <;> rfl) | (simp [*, errW_none, errW_some] <;> rfl), by repeat (first | (with_reducible first | exact HB.out | apply below_alloc | apply pw_below_drewN | apply below_drew1) | exact HB.out)⟩
              · rw [if_neg c12] at H
                have c12b0 : (x8_9 == 1) = false := beq_eq_false_iff_ne.mpr c12
                have c12b1 : (x8_9 != 1) = true := bne_iff_ne.mpr c12
                obtain rfl := Option.some.inj H
                go_wp2
                go_ret
                exact ⟨by first | rfl | (simp [errW_none, errW_some] <;> rfl) | (simp [*, errW_none, errW_some] <;> rfl), by repeat (first | (with_reducible first | exact HB.out | apply below_alloc | apply pw_below_drewN | apply below_drew1) | exact HB.out)⟩

/-- THE ONE PURE STATEMENT of tocsinlaw18_AggOne: yours. -/
def tocsinlaw18_AggOne.Pure : Prop := ∀ (a0 : Int) (a1 : Int), (Lit.int .i64 a0).wf = true → (Lit.int .i64 a1).wf = true → ∃ k, tocsinlaw18_AggOne.f k a0 a1 = some true
theorem tocsinlaw18_AggOne.walk (P : tocsinlaw18_AggOne.Pure) (a0 : Int) (a1 : Int) (w : World) (w0 : (Lit.int .i64 a0).wf = true) (w1 : (Lit.int .i64 a1).wf = true) :
    Calls Try.prog 6 #[.int .i64 a0, .int .i64 a1] w fun e w' => e = .returned (.bool true) ∧ Below w.heap.size w w' := by
  obtain ⟨k, h⟩ := P a0 a1 w0 w1
  refine (tocsinlaw18_AggOne.calls k a0 a1 true w h).mono ?_
  rintro e w' ⟨rfl, hd⟩
  exact ⟨rfl, hd⟩

end Go.Proofs.Ytafpedgmfkaifaa.PAll
