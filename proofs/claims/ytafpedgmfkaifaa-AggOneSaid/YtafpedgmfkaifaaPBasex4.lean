/- Printed by a program of this session (wip/tools/myprint.py, which runs the kit's own printer) over contracts proved by hand: functions and their walks, and the row of a law: for every input it returns true. No conditions. -/
import Derived.Test.YtafpedgmfkaifaaPBasex0
namespace Go.Proofs.Ytafpedgmfkaifaa.PBase
open Go.RowKit Go.Proofs.YtafpedgmfkaifaaW.PrintWords Go.Proofs.YtafpedgmfkaifaaW.PrintLast Go.Proofs.YtafpedgmfkaifaaW.PrintMore
attribute [local go_sem] max2_int min2_int max_two min_two max_three min_three max_four min_four   -- for this text's walks alone
set_option linter.unusedVariables false
set_option linter.unusedSimpArgs false

/-! ### tocsinref18_Holds: function 12 -/
def tocsinref18_Holds.f (a0 : Int) (a1 : Int) (a2 : Int) : Option (Bool) := if a1 = 0 then (if a0 < a2 then (some true) else (if a1 = 1 then (if a0 ≤ a2 then (some true) else (if a1 = 2 then (if a0 > a2 then (some true) else (if a1 = 3 then (if a0 ≥ a2 then (some true) else (if a1 = 4 then (if a0 = a2 then (some true) else (if a1 = 5 then (some (a0 != a2)) else (some false))) else (if a1 = 5 then (some (a0 != a2)) else (some false)))) else (if a1 = 4 then (if a0 = a2 then (some true) else (if a1 = 5 then (some (a0 != a2)) else (some false))) else (if a1 = 5 then (some (a0 != a2)) else (some false))))) else (if a1 = 3 then (if a0 ≥ a2 then (some true) else (if a1 = 4 then (if a0 = a2 then (some true) else (if a1 = 5 then (some (a0 != a2)) else (some false))) else (if a1 = 5 then (some (a0 != a2)) else (some false)))) else (if a1 = 4 then (if a0 = a2 then (some true) else (if a1 = 5 then (some (a0 != a2)) else (some false))) else (if a1 = 5 then (some (a0 != a2)) else (some false)))))) else (if a1 = 2 then (if a0 > a2 then (some true) else (if a1 = 3 then (if a0 ≥ a2 then (some true) else (if a1 = 4 then (if a0 = a2 then (some true) else (if a1 = 5 then (some (a0 != a2)) else (some false))) else (if a1 = 5 then (some (a0 != a2)) else (some false)))) else (if a1 = 4 then (if a0 = a2 then (some true) else (if a1 = 5 then (some (a0 != a2)) else (some false))) else (if a1 = 5 then (some (a0 != a2)) else (some false))))) else (if a1 = 3 then (if a0 ≥ a2 then (some true) else (if a1 = 4 then (if a0 = a2 then (some true) else (if a1 = 5 then (some (a0 != a2)) else (some false))) else (if a1 = 5 then (some (a0 != a2)) else (some false)))) else (if a1 = 4 then (if a0 = a2 then (some true) else (if a1 = 5 then (some (a0 != a2)) else (some false))) else (if a1 = 5 then (some (a0 != a2)) else (some false))))))) else (if a1 = 1 then (if a0 ≤ a2 then (some true) else (if a1 = 2 then (if a0 > a2 then (some true) else (if a1 = 3 then (if a0 ≥ a2 then (some true) else (if a1 = 4 then (if a0 = a2 then (some true) else (if a1 = 5 then (some (a0 != a2)) else (some false))) else (if a1 = 5 then (some (a0 != a2)) else (some false)))) else (if a1 = 4 then (if a0 = a2 then (some true) else (if a1 = 5 then (some (a0 != a2)) else (some false))) else (if a1 = 5 then (some (a0 != a2)) else (some false))))) else (if a1 = 3 then (if a0 ≥ a2 then (some true) else (if a1 = 4 then (if a0 = a2 then (some true) else (if a1 = 5 then (some (a0 != a2)) else (some false))) else (if a1 = 5 then (some (a0 != a2)) else (some false)))) else (if a1 = 4 then (if a0 = a2 then (some true) else (if a1 = 5 then (some (a0 != a2)) else (some false))) else (if a1 = 5 then (some (a0 != a2)) else (some false)))))) else (if a1 = 2 then (if a0 > a2 then (some true) else (if a1 = 3 then (if a0 ≥ a2 then (some true) else (if a1 = 4 then (if a0 = a2 then (some true) else (if a1 = 5 then (some (a0 != a2)) else (some false))) else (if a1 = 5 then (some (a0 != a2)) else (some false)))) else (if a1 = 4 then (if a0 = a2 then (some true) else (if a1 = 5 then (some (a0 != a2)) else (some false))) else (if a1 = 5 then (some (a0 != a2)) else (some false))))) else (if a1 = 3 then (if a0 ≥ a2 then (some true) else (if a1 = 4 then (if a0 = a2 then (some true) else (if a1 = 5 then (some (a0 != a2)) else (some false))) else (if a1 = 5 then (some (a0 != a2)) else (some false)))) else (if a1 = 4 then (if a0 = a2 then (some true) else (if a1 = 5 then (some (a0 != a2)) else (some false))) else (if a1 = 5 then (some (a0 != a2)) else (some false))))))
set_option maxHeartbeats 8000000 in
set_option maxRecDepth 100000 in
theorem tocsinref18_Holds.calls (a0 : Int) (a1 : Int) (a2 : Int) (r : Bool) (w : World) (h : tocsinref18_Holds.f a0 a1 a2 = some r) :
    Calls Try.prog 12 #[.int .i64 a0, .int .u8 a1, .int .i64 a2] w fun e w' => e = .returned (.bool r) ∧ Drawn0 w w' := by
  have H : (if a1 = 0 then (if a0 < a2 then (some true) else (if a1 = 1 then (if a0 ≤ a2 then (some true) else (if a1 = 2 then (if a0 > a2 then (some true) else (if a1 = 3 then (if a0 ≥ a2 then (some true) else (if a1 = 4 then (if a0 = a2 then (some true) else (if a1 = 5 then (some (a0 != a2)) else (some false))) else (if a1 = 5 then (some (a0 != a2)) else (some false)))) else (if a1 = 4 then (if a0 = a2 then (some true) else (if a1 = 5 then (some (a0 != a2)) else (some false))) else (if a1 = 5 then (some (a0 != a2)) else (some false))))) else (if a1 = 3 then (if a0 ≥ a2 then (some true) else (if a1 = 4 then (if a0 = a2 then (some true) else (if a1 = 5 then (some (a0 != a2)) else (some false))) else (if a1 = 5 then (some (a0 != a2)) else (some false)))) else (if a1 = 4 then (if a0 = a2 then (some true) else (if a1 = 5 then (some (a0 != a2)) else (some false))) else (if a1 = 5 then (some (a0 != a2)) else (some false)))))) else (if a1 = 2 then (if a0 > a2 then (some true) else (if a1 = 3 then (if a0 ≥ a2 then (some true) else (if a1 = 4 then (if a0 = a2 then (some true) else (if a1 = 5 then (some (a0 != a2)) else (some false))) else (if a1 = 5 then (some (a0 != a2)) else (some false)))) else (if a1 = 4 then (if a0 = a2 then (some true) else (if a1 = 5 then (some (a0 != a2)) else (some false))) else (if a1 = 5 then (some (a0 != a2)) else (some false))))) else (if a1 = 3 then (if a0 ≥ a2 then (some true) else (if a1 = 4 then (if a0 = a2 then (some true) else (if a1 = 5 then (some (a0 != a2)) else (some false))) else (if a1 = 5 then (some (a0 != a2)) else (some false)))) else (if a1 = 4 then (if a0 = a2 then (some true) else (if a1 = 5 then (some (a0 != a2)) else (some false))) else (if a1 = 5 then (some (a0 != a2)) else (some false))))))) else (if a1 = 1 then (if a0 ≤ a2 then (some true) else (if a1 = 2 then (if a0 > a2 then (some true) else (if a1 = 3 then (if a0 ≥ a2 then (some true) else (if a1 = 4 then (if a0 = a2 then (some true) else (if a1 = 5 then (some (a0 != a2)) else (some false))) else (if a1 = 5 then (some (a0 != a2)) else (some false)))) else (if a1 = 4 then (if a0 = a2 then (some true) else (if a1 = 5 then (some (a0 != a2)) else (some false))) else (if a1 = 5 then (some (a0 != a2)) else (some false))))) else (if a1 = 3 then (if a0 ≥ a2 then (some true) else (if a1 = 4 then (if a0 = a2 then (some true) else (if a1 = 5 then (some (a0 != a2)) else (some false))) else (if a1 = 5 then (some (a0 != a2)) else (some false)))) else (if a1 = 4 then (if a0 = a2 then (some true) else (if a1 = 5 then (some (a0 != a2)) else (some false))) else (if a1 = 5 then (some (a0 != a2)) else (some false)))))) else (if a1 = 2 then (if a0 > a2 then (some true) else (if a1 = 3 then (if a0 ≥ a2 then (some true) else (if a1 = 4 then (if a0 = a2 then (some true) else (if a1 = 5 then (some (a0 != a2)) else (some false))) else (if a1 = 5 then (some (a0 != a2)) else (some false)))) else (if a1 = 4 then (if a0 = a2 then (some true) else (if a1 = 5 then (some (a0 != a2)) else (some false))) else (if a1 = 5 then (some (a0 != a2)) else (some false))))) else (if a1 = 3 then (if a0 ≥ a2 then (some true) else (if a1 = 4 then (if a0 = a2 then (some true) else (if a1 = 5 then (some (a0 != a2)) else (some false))) else (if a1 = 5 then (some (a0 != a2)) else (some false)))) else (if a1 = 4 then (if a0 = a2 then (some true) else (if a1 = 5 then (some (a0 != a2)) else (some false))) else (if a1 = 5 then (some (a0 != a2)) else (some false))))))) = some r := h
  clear h
  by_cases c4 : a1 = 0
  · rw [if_pos c4] at H
    have c4b0 : (a1 == 0) = true := beq_iff_eq.mpr c4
    have c4b1 : (a1 != 0) = false := bne_eq_false_iff_eq.mpr c4
    clear c4
    by_cases c5 : a0 < a2
    · rw [if_pos c5] at H
      have c5b0 : decide (a0 < a2) = true := decide_eq_true c5
      clear c5
      obtain rfl := Option.some.inj H
      go_enter Try.func12, Try.ntmps12
      go_wp2
      go_ret
      exact ⟨by first | rfl | (simp; done) | (simp [*]; done), by repeat (first | exact Drawn0.refl _ | apply Drawn0.step)⟩
    · rw [if_neg c5] at H
      have c5b0 : decide (a0 < a2) = false := decide_eq_false c5
      clear c5
      by_cases c6 : a1 = 1
      · rw [if_pos c6] at H
        have c6b0 : (a1 == 1) = true := beq_iff_eq.mpr c6
        have c6b1 : (a1 != 1) = false := bne_eq_false_iff_eq.mpr c6
        clear c6
        by_cases c7 : a0 ≤ a2
        · rw [if_pos c7] at H
          have c7b0 : decide (a0 ≤ a2) = true := decide_eq_true c7
          clear c7
          obtain rfl := Option.some.inj H
          go_enter Try.func12, Try.ntmps12
          go_wp2
          go_ret
          exact ⟨by first | rfl | (simp; done) | (simp [*]; done), by repeat (first | exact Drawn0.refl _ | apply Drawn0.step)⟩
        · rw [if_neg c7] at H
          have c7b0 : decide (a0 ≤ a2) = false := decide_eq_false c7
          clear c7
          by_cases c8 : a1 = 2
          · rw [if_pos c8] at H
            have c8b0 : (a1 == 2) = true := beq_iff_eq.mpr c8
            have c8b1 : (a1 != 2) = false := bne_eq_false_iff_eq.mpr c8
            clear c8
            by_cases c9 : a0 > a2
            · rw [if_pos c9] at H
              have c9b0 : decide (a2 < a0) = true := decide_eq_true c9
              clear c9
              obtain rfl := Option.some.inj H
              go_enter Try.func12, Try.ntmps12
              go_wp2
              go_ret
              exact ⟨by first | rfl | (simp; done) | (simp [*]; done), by repeat (first | exact Drawn0.refl _ | apply Drawn0.step)⟩
            · rw [if_neg c9] at H
              have c9b0 : decide (a2 < a0) = false := decide_eq_false c9
              clear c9
              by_cases c10 : a1 = 3
              · rw [if_pos c10] at H
                have c10b0 : (a1 == 3) = true := beq_iff_eq.mpr c10
                have c10b1 : (a1 != 3) = false := bne_eq_false_iff_eq.mpr c10
                clear c10
                by_cases c11 : a0 ≥ a2
                · rw [if_pos c11] at H
                  have c11b0 : decide (a2 ≤ a0) = true := decide_eq_true c11
                  clear c11
                  obtain rfl := Option.some.inj H
                  go_enter Try.func12, Try.ntmps12
                  go_wp2
                  go_ret
                  exact ⟨by first | rfl | (simp; done) | (simp [*]; done), by repeat (first | exact Drawn0.refl _ | apply Drawn0.step)⟩
                · rw [if_neg c11] at H
                  have c11b0 : decide (a2 ≤ a0) = false := decide_eq_false c11
                  clear c11
                  by_cases c12 : a1 = 4
                  · rw [if_pos c12] at H
                    have c12b0 : (a1 == 4) = true := beq_iff_eq.mpr c12
                    have c12b1 : (a1 != 4) = false := bne_eq_false_iff_eq.mpr c12
                    clear c12
                    by_cases c13 : a0 = a2
                    · rw [if_pos c13] at H
                      have c13b0 : (a0 == a2) = true := beq_iff_eq.mpr c13
                      have c13b1 : (a0 != a2) = false := bne_eq_false_iff_eq.mpr c13
                      clear c13
                      obtain rfl := Option.some.inj H
                      go_enter Try.func12, Try.ntmps12
                      go_wp2
                      go_ret
                      exact ⟨by first | rfl | (simp; done) | (simp [*]; done), by repeat (first | exact Drawn0.refl _ | apply Drawn0.step)⟩
                    · rw [if_neg c13] at H
                      have c13b0 : (a0 == a2) = false := beq_eq_false_iff_ne.mpr c13
                      have c13b1 : (a0 != a2) = true := bne_iff_ne.mpr c13
                      by_cases c14 : a1 = 5
                      · rw [if_pos c14] at H
                        have c14b0 : (a1 == 5) = true := beq_iff_eq.mpr c14
                        have c14b1 : (a1 != 5) = false := bne_eq_false_iff_eq.mpr c14
                        clear c14
                        obtain rfl := Option.some.inj H
                        go_enter Try.func12, Try.ntmps12
                        go_wp2
                        go_ret
                        exact ⟨by first | rfl | (simp; done) | (simp [*]; done), by repeat (first | exact Drawn0.refl _ | apply Drawn0.step)⟩
                      · rw [if_neg c14] at H
                        have c14b0 : (a1 == 5) = false := beq_eq_false_iff_ne.mpr c14
                        have c14b1 : (a1 != 5) = true := bne_iff_ne.mpr c14
                        obtain rfl := Option.some.inj H
                        go_enter Try.func12, Try.ntmps12
                        go_wp2
                        go_ret
                        exact ⟨by first | rfl | (simp; done) | (simp [*]; done), by repeat (first | exact Drawn0.refl _ | apply Drawn0.step)⟩
                  · rw [if_neg c12] at H
                    have c12b0 : (a1 == 4) = false := beq_eq_false_iff_ne.mpr c12
                    have c12b1 : (a1 != 4) = true := bne_iff_ne.mpr c12
                    by_cases c15 : a1 = 5
                    · rw [if_pos c15] at H
                      have c15b0 : (a1 == 5) = true := beq_iff_eq.mpr c15
                      have c15b1 : (a1 != 5) = false := bne_eq_false_iff_eq.mpr c15
                      clear c15
                      obtain rfl := Option.some.inj H
                      go_enter Try.func12, Try.ntmps12
                      go_wp2
                      go_ret
                      exact ⟨by first | rfl | (simp; done) | (simp [*]; done), by repeat (first | exact Drawn0.refl _ | apply Drawn0.step)⟩
                    · rw [if_neg c15] at H
                      have c15b0 : (a1 == 5) = false := beq_eq_false_iff_ne.mpr c15
                      have c15b1 : (a1 != 5) = true := bne_iff_ne.mpr c15
                      obtain rfl := Option.some.inj H
                      go_enter Try.func12, Try.ntmps12
                      go_wp2
                      go_ret
                      exact ⟨by first | rfl | (simp; done) | (simp [*]; done), by repeat (first | exact Drawn0.refl _ | apply Drawn0.step)⟩
              · rw [if_neg c10] at H
                have c10b0 : (a1 == 3) = false := beq_eq_false_iff_ne.mpr c10
                have c10b1 : (a1 != 3) = true := bne_iff_ne.mpr c10
                by_cases c16 : a1 = 4
                · rw [if_pos c16] at H
                  have c16b0 : (a1 == 4) = true := beq_iff_eq.mpr c16
                  have c16b1 : (a1 != 4) = false := bne_eq_false_iff_eq.mpr c16
                  clear c16
                  by_cases c17 : a0 = a2
                  · rw [if_pos c17] at H
                    have c17b0 : (a0 == a2) = true := beq_iff_eq.mpr c17
                    have c17b1 : (a0 != a2) = false := bne_eq_false_iff_eq.mpr c17
                    clear c17
                    obtain rfl := Option.some.inj H
                    go_enter Try.func12, Try.ntmps12
                    go_wp2
                    go_ret
                    exact ⟨by first | rfl | (simp; done) | (simp [*]; done), by repeat (first | exact Drawn0.refl _ | apply Drawn0.step)⟩
                  · rw [if_neg c17] at H
                    have c17b0 : (a0 == a2) = false := beq_eq_false_iff_ne.mpr c17
                    have c17b1 : (a0 != a2) = true := bne_iff_ne.mpr c17
                    by_cases c18 : a1 = 5
                    · rw [if_pos c18] at H
                      have c18b0 : (a1 == 5) = true := beq_iff_eq.mpr c18
                      have c18b1 : (a1 != 5) = false := bne_eq_false_iff_eq.mpr c18
                      clear c18
                      obtain rfl := Option.some.inj H
                      go_enter Try.func12, Try.ntmps12
                      go_wp2
                      go_ret
                      exact ⟨by first | rfl | (simp; done) | (simp [*]; done), by repeat (first | exact Drawn0.refl _ | apply Drawn0.step)⟩
                    · rw [if_neg c18] at H
                      have c18b0 : (a1 == 5) = false := beq_eq_false_iff_ne.mpr c18
                      have c18b1 : (a1 != 5) = true := bne_iff_ne.mpr c18
                      obtain rfl := Option.some.inj H
                      go_enter Try.func12, Try.ntmps12
                      go_wp2
                      go_ret
                      exact ⟨by first | rfl | (simp; done) | (simp [*]; done), by repeat (first | exact Drawn0.refl _ | apply Drawn0.step)⟩
                · rw [if_neg c16] at H
                  have c16b0 : (a1 == 4) = false := beq_eq_false_iff_ne.mpr c16
                  have c16b1 : (a1 != 4) = true := bne_iff_ne.mpr c16
                  by_cases c19 : a1 = 5
                  · rw [if_pos c19] at H
                    have c19b0 : (a1 == 5) = true := beq_iff_eq.mpr c19
                    have c19b1 : (a1 != 5) = false := bne_eq_false_iff_eq.mpr c19
                    clear c19
                    obtain rfl := Option.some.inj H
                    go_enter Try.func12, Try.ntmps12
                    go_wp2
                    go_ret
                    exact ⟨by first | rfl | (simp; done) | (simp [*]; done), by repeat (first | exact Drawn0.refl _ | apply Drawn0.step)⟩
                  · rw [if_neg c19] at H
                    have c19b0 : (a1 == 5) = false := beq_eq_false_iff_ne.mpr c19
                    have c19b1 : (a1 != 5) = true := bne_iff_ne.mpr c19
                    obtain rfl := Option.some.inj H
                    go_enter Try.func12, Try.ntmps12
                    go_wp2
                    go_ret
                    exact ⟨by first | rfl | (simp; done) | (simp [*]; done), by repeat (first | exact Drawn0.refl _ | apply Drawn0.step)⟩
          · rw [if_neg c8] at H
            have c8b0 : (a1 == 2) = false := beq_eq_false_iff_ne.mpr c8
            have c8b1 : (a1 != 2) = true := bne_iff_ne.mpr c8
            by_cases c20 : a1 = 3
            · rw [if_pos c20] at H
              have c20b0 : (a1 == 3) = true := beq_iff_eq.mpr c20
              have c20b1 : (a1 != 3) = false := bne_eq_false_iff_eq.mpr c20
              clear c20
              by_cases c21 : a0 ≥ a2
              · rw [if_pos c21] at H
                have c21b0 : decide (a2 ≤ a0) = true := decide_eq_true c21
                clear c21
                obtain rfl := Option.some.inj H
                go_enter Try.func12, Try.ntmps12
                go_wp2
                go_ret
                exact ⟨by first | rfl | (simp; done) | (simp [*]; done), by repeat (first | exact Drawn0.refl _ | apply Drawn0.step)⟩
              · rw [if_neg c21] at H
                have c21b0 : decide (a2 ≤ a0) = false := decide_eq_false c21
                clear c21
                by_cases c22 : a1 = 4
                · rw [if_pos c22] at H
                  have c22b0 : (a1 == 4) = true := beq_iff_eq.mpr c22
                  have c22b1 : (a1 != 4) = false := bne_eq_false_iff_eq.mpr c22
                  clear c22
                  by_cases c23 : a0 = a2
                  · rw [if_pos c23] at H
                    have c23b0 : (a0 == a2) = true := beq_iff_eq.mpr c23
                    have c23b1 : (a0 != a2) = false := bne_eq_false_iff_eq.mpr c23
                    clear c23
                    obtain rfl := Option.some.inj H
                    go_enter Try.func12, Try.ntmps12
                    go_wp2
                    go_ret
                    exact ⟨by first | rfl | (simp; done) | (simp [*]; done), by repeat (first | exact Drawn0.refl _ | apply Drawn0.step)⟩
                  · rw [if_neg c23] at H
                    have c23b0 : (a0 == a2) = false := beq_eq_false_iff_ne.mpr c23
                    have c23b1 : (a0 != a2) = true := bne_iff_ne.mpr c23
                    by_cases c24 : a1 = 5
                    · rw [if_pos c24] at H
                      have c24b0 : (a1 == 5) = true := beq_iff_eq.mpr c24
                      have c24b1 : (a1 != 5) = false := bne_eq_false_iff_eq.mpr c24
                      clear c24
                      obtain rfl := Option.some.inj H
                      go_enter Try.func12, Try.ntmps12
                      go_wp2
                      go_ret
                      exact ⟨by first | rfl | (simp; done) | (simp [*]; done), by repeat (first | exact Drawn0.refl _ | apply Drawn0.step)⟩
                    · rw [if_neg c24] at H
                      have c24b0 : (a1 == 5) = false := beq_eq_false_iff_ne.mpr c24
                      have c24b1 : (a1 != 5) = true := bne_iff_ne.mpr c24
                      obtain rfl := Option.some.inj H
                      go_enter Try.func12, Try.ntmps12
                      go_wp2
                      go_ret
                      exact ⟨by first | rfl | (simp; done) | (simp [*]; done), by repeat (first | exact Drawn0.refl _ | apply Drawn0.step)⟩
                · rw [if_neg c22] at H
                  have c22b0 : (a1 == 4) = false := beq_eq_false_iff_ne.mpr c22
                  have c22b1 : (a1 != 4) = true := bne_iff_ne.mpr c22
                  by_cases c25 : a1 = 5
                  · rw [if_pos c25] at H
                    have c25b0 : (a1 == 5) = true := beq_iff_eq.mpr c25
                    have c25b1 : (a1 != 5) = false := bne_eq_false_iff_eq.mpr c25
                    clear c25
                    obtain rfl := Option.some.inj H
                    go_enter Try.func12, Try.ntmps12
                    go_wp2
                    go_ret
                    exact ⟨by first | rfl | (simp; done) | (simp [*]; done), by repeat (first | exact Drawn0.refl _ | apply Drawn0.step)⟩
                  · rw [if_neg c25] at H
                    have c25b0 : (a1 == 5) = false := beq_eq_false_iff_ne.mpr c25
                    have c25b1 : (a1 != 5) = true := bne_iff_ne.mpr c25
                    obtain rfl := Option.some.inj H
                    go_enter Try.func12, Try.ntmps12
                    go_wp2
                    go_ret
                    exact ⟨by first | rfl | (simp; done) | (simp [*]; done), by repeat (first | exact Drawn0.refl _ | apply Drawn0.step)⟩
            · rw [if_neg c20] at H
              have c20b0 : (a1 == 3) = false := beq_eq_false_iff_ne.mpr c20
              have c20b1 : (a1 != 3) = true := bne_iff_ne.mpr c20
              by_cases c26 : a1 = 4
              · rw [if_pos c26] at H
                have c26b0 : (a1 == 4) = true := beq_iff_eq.mpr c26
                have c26b1 : (a1 != 4) = false := bne_eq_false_iff_eq.mpr c26
                clear c26
                by_cases c27 : a0 = a2
                · rw [if_pos c27] at H
                  have c27b0 : (a0 == a2) = true := beq_iff_eq.mpr c27
                  have c27b1 : (a0 != a2) = false := bne_eq_false_iff_eq.mpr c27
                  clear c27
                  obtain rfl := Option.some.inj H
                  go_enter Try.func12, Try.ntmps12
                  go_wp2
                  go_ret
                  exact ⟨by first | rfl | (simp; done) | (simp [*]; done), by repeat (first | exact Drawn0.refl _ | apply Drawn0.step)⟩
                · rw [if_neg c27] at H
                  have c27b0 : (a0 == a2) = false := beq_eq_false_iff_ne.mpr c27
                  have c27b1 : (a0 != a2) = true := bne_iff_ne.mpr c27
                  by_cases c28 : a1 = 5
                  · rw [if_pos c28] at H
                    have c28b0 : (a1 == 5) = true := beq_iff_eq.mpr c28
                    have c28b1 : (a1 != 5) = false := bne_eq_false_iff_eq.mpr c28
                    clear c28
                    obtain rfl := Option.some.inj H
                    go_enter Try.func12, Try.ntmps12
                    go_wp2
                    go_ret
                    exact ⟨by first | rfl | (simp; done) | (simp [*]; done), by repeat (first | exact Drawn0.refl _ | apply Drawn0.step)⟩
                  · rw [if_neg c28] at H
                    have c28b0 : (a1 == 5) = false := beq_eq_false_iff_ne.mpr c28
                    have c28b1 : (a1 != 5) = true := bne_iff_ne.mpr c28
                    obtain rfl := Option.some.inj H
                    go_enter Try.func12, Try.ntmps12
                    go_wp2
                    go_ret
                    exact ⟨by first | rfl | (simp; done) | (simp [*]; done), by repeat (first | exact Drawn0.refl _ | apply Drawn0.step)⟩
              · rw [if_neg c26] at H
                have c26b0 : (a1 == 4) = false := beq_eq_false_iff_ne.mpr c26
                have c26b1 : (a1 != 4) = true := bne_iff_ne.mpr c26
                by_cases c29 : a1 = 5
                · rw [if_pos c29] at H
                  have c29b0 : (a1 == 5) = true := beq_iff_eq.mpr c29
                  have c29b1 : (a1 != 5) = false := bne_eq_false_iff_eq.mpr c29
                  clear c29
                  obtain rfl := Option.some.inj H
                  go_enter Try.func12, Try.ntmps12
                  go_wp2
                  go_ret
                  exact ⟨by first | rfl | (simp; done) | (simp [*]; done), by repeat (first | exact Drawn0.refl _ | apply Drawn0.step)⟩
                · rw [if_neg c29] at H
                  have c29b0 : (a1 == 5) = false := beq_eq_false_iff_ne.mpr c29
                  have c29b1 : (a1 != 5) = true := bne_iff_ne.mpr c29
                  obtain rfl := Option.some.inj H
                  go_enter Try.func12, Try.ntmps12
                  go_wp2
                  go_ret
                  exact ⟨by first | rfl | (simp; done) | (simp [*]; done), by repeat (first | exact Drawn0.refl _ | apply Drawn0.step)⟩
      · rw [if_neg c6] at H
        have c6b0 : (a1 == 1) = false := beq_eq_false_iff_ne.mpr c6
        have c6b1 : (a1 != 1) = true := bne_iff_ne.mpr c6
        by_cases c30 : a1 = 2
        · rw [if_pos c30] at H
          have c30b0 : (a1 == 2) = true := beq_iff_eq.mpr c30
          have c30b1 : (a1 != 2) = false := bne_eq_false_iff_eq.mpr c30
          clear c30
          by_cases c31 : a0 > a2
          · rw [if_pos c31] at H
            have c31b0 : decide (a2 < a0) = true := decide_eq_true c31
            clear c31
            obtain rfl := Option.some.inj H
            go_enter Try.func12, Try.ntmps12
            go_wp2
            go_ret
            exact ⟨by first | rfl | (simp; done) | (simp [*]; done), by repeat (first | exact Drawn0.refl _ | apply Drawn0.step)⟩
          · rw [if_neg c31] at H
            have c31b0 : decide (a2 < a0) = false := decide_eq_false c31
            clear c31
            by_cases c32 : a1 = 3
            · rw [if_pos c32] at H
              have c32b0 : (a1 == 3) = true := beq_iff_eq.mpr c32
              have c32b1 : (a1 != 3) = false := bne_eq_false_iff_eq.mpr c32
              clear c32
              by_cases c33 : a0 ≥ a2
              · rw [if_pos c33] at H
                have c33b0 : decide (a2 ≤ a0) = true := decide_eq_true c33
                clear c33
                obtain rfl := Option.some.inj H
                go_enter Try.func12, Try.ntmps12
                go_wp2
                go_ret
                exact ⟨by first | rfl | (simp; done) | (simp [*]; done), by repeat (first | exact Drawn0.refl _ | apply Drawn0.step)⟩
              · rw [if_neg c33] at H
                have c33b0 : decide (a2 ≤ a0) = false := decide_eq_false c33
                clear c33
                by_cases c34 : a1 = 4
                · rw [if_pos c34] at H
                  have c34b0 : (a1 == 4) = true := beq_iff_eq.mpr c34
                  have c34b1 : (a1 != 4) = false := bne_eq_false_iff_eq.mpr c34
                  clear c34
                  by_cases c35 : a0 = a2
                  · rw [if_pos c35] at H
                    have c35b0 : (a0 == a2) = true := beq_iff_eq.mpr c35
                    have c35b1 : (a0 != a2) = false := bne_eq_false_iff_eq.mpr c35
                    clear c35
                    obtain rfl := Option.some.inj H
                    go_enter Try.func12, Try.ntmps12
                    go_wp2
                    go_ret
                    exact ⟨by first | rfl | (simp; done) | (simp [*]; done), by repeat (first | exact Drawn0.refl _ | apply Drawn0.step)⟩
                  · rw [if_neg c35] at H
                    have c35b0 : (a0 == a2) = false := beq_eq_false_iff_ne.mpr c35
                    have c35b1 : (a0 != a2) = true := bne_iff_ne.mpr c35
                    by_cases c36 : a1 = 5
                    · rw [if_pos c36] at H
                      have c36b0 : (a1 == 5) = true := beq_iff_eq.mpr c36
                      have c36b1 : (a1 != 5) = false := bne_eq_false_iff_eq.mpr c36
                      clear c36
                      obtain rfl := Option.some.inj H
                      go_enter Try.func12, Try.ntmps12
                      go_wp2
                      go_ret
                      exact ⟨by first | rfl | (simp; done) | (simp [*]; done), by repeat (first | exact Drawn0.refl _ | apply Drawn0.step)⟩
                    · rw [if_neg c36] at H
                      have c36b0 : (a1 == 5) = false := beq_eq_false_iff_ne.mpr c36
                      have c36b1 : (a1 != 5) = true := bne_iff_ne.mpr c36
                      obtain rfl := Option.some.inj H
                      go_enter Try.func12, Try.ntmps12
                      go_wp2
                      go_ret
                      exact ⟨by first | rfl | (simp; done) | (simp [*]; done), by repeat (first | exact Drawn0.refl _ | apply Drawn0.step)⟩
                · rw [if_neg c34] at H
                  have c34b0 : (a1 == 4) = false := beq_eq_false_iff_ne.mpr c34
                  have c34b1 : (a1 != 4) = true := bne_iff_ne.mpr c34
                  by_cases c37 : a1 = 5
                  · rw [if_pos c37] at H
                    have c37b0 : (a1 == 5) = true := beq_iff_eq.mpr c37
                    have c37b1 : (a1 != 5) = false := bne_eq_false_iff_eq.mpr c37
                    clear c37
                    obtain rfl := Option.some.inj H
                    go_enter Try.func12, Try.ntmps12
                    go_wp2
                    go_ret
                    exact ⟨by first | rfl | (simp; done) | (simp [*]; done), by repeat (first | exact Drawn0.refl _ | apply Drawn0.step)⟩
                  · rw [if_neg c37] at H
                    have c37b0 : (a1 == 5) = false := beq_eq_false_iff_ne.mpr c37
                    have c37b1 : (a1 != 5) = true := bne_iff_ne.mpr c37
                    obtain rfl := Option.some.inj H
                    go_enter Try.func12, Try.ntmps12
                    go_wp2
                    go_ret
                    exact ⟨by first | rfl | (simp; done) | (simp [*]; done), by repeat (first | exact Drawn0.refl _ | apply Drawn0.step)⟩
            · rw [if_neg c32] at H
              have c32b0 : (a1 == 3) = false := beq_eq_false_iff_ne.mpr c32
              have c32b1 : (a1 != 3) = true := bne_iff_ne.mpr c32
              by_cases c38 : a1 = 4
              · rw [if_pos c38] at H
                have c38b0 : (a1 == 4) = true := beq_iff_eq.mpr c38
                have c38b1 : (a1 != 4) = false := bne_eq_false_iff_eq.mpr c38
                clear c38
                by_cases c39 : a0 = a2
                · rw [if_pos c39] at H
                  have c39b0 : (a0 == a2) = true := beq_iff_eq.mpr c39
                  have c39b1 : (a0 != a2) = false := bne_eq_false_iff_eq.mpr c39
                  clear c39
                  obtain rfl := Option.some.inj H
                  go_enter Try.func12, Try.ntmps12
                  go_wp2
                  go_ret
                  exact ⟨by first | rfl | (simp; done) | (simp [*]; done), by repeat (first | exact Drawn0.refl _ | apply Drawn0.step)⟩
                · rw [if_neg c39] at H
                  have c39b0 : (a0 == a2) = false := beq_eq_false_iff_ne.mpr c39
                  have c39b1 : (a0 != a2) = true := bne_iff_ne.mpr c39
                  by_cases c40 : a1 = 5
                  · rw [if_pos c40] at H
                    have c40b0 : (a1 == 5) = true := beq_iff_eq.mpr c40
                    have c40b1 : (a1 != 5) = false := bne_eq_false_iff_eq.mpr c40
                    clear c40
                    obtain rfl := Option.some.inj H
                    go_enter Try.func12, Try.ntmps12
                    go_wp2
                    go_ret
                    exact ⟨by first | rfl | (simp; done) | (simp [*]; done), by repeat (first | exact Drawn0.refl _ | apply Drawn0.step)⟩
                  · rw [if_neg c40] at H
                    have c40b0 : (a1 == 5) = false := beq_eq_false_iff_ne.mpr c40
                    have c40b1 : (a1 != 5) = true := bne_iff_ne.mpr c40
                    obtain rfl := Option.some.inj H
                    go_enter Try.func12, Try.ntmps12
                    go_wp2
                    go_ret
                    exact ⟨by first | rfl | (simp; done) | (simp [*]; done), by repeat (first | exact Drawn0.refl _ | apply Drawn0.step)⟩
              · rw [if_neg c38] at H
                have c38b0 : (a1 == 4) = false := beq_eq_false_iff_ne.mpr c38
                have c38b1 : (a1 != 4) = true := bne_iff_ne.mpr c38
                by_cases c41 : a1 = 5
                · rw [if_pos c41] at H
                  have c41b0 : (a1 == 5) = true := beq_iff_eq.mpr c41
                  have c41b1 : (a1 != 5) = false := bne_eq_false_iff_eq.mpr c41
                  clear c41
                  obtain rfl := Option.some.inj H
                  go_enter Try.func12, Try.ntmps12
                  go_wp2
                  go_ret
                  exact ⟨by first | rfl | (simp; done) | (simp [*]; done), by repeat (first | exact Drawn0.refl _ | apply Drawn0.step)⟩
                · rw [if_neg c41] at H
                  have c41b0 : (a1 == 5) = false := beq_eq_false_iff_ne.mpr c41
                  have c41b1 : (a1 != 5) = true := bne_iff_ne.mpr c41
                  obtain rfl := Option.some.inj H
                  go_enter Try.func12, Try.ntmps12
                  go_wp2
                  go_ret
                  exact ⟨by first | rfl | (simp; done) | (simp [*]; done), by repeat (first | exact Drawn0.refl _ | apply Drawn0.step)⟩
        · rw [if_neg c30] at H
          have c30b0 : (a1 == 2) = false := beq_eq_false_iff_ne.mpr c30
          have c30b1 : (a1 != 2) = true := bne_iff_ne.mpr c30
          by_cases c42 : a1 = 3
          · rw [if_pos c42] at H
            have c42b0 : (a1 == 3) = true := beq_iff_eq.mpr c42
            have c42b1 : (a1 != 3) = false := bne_eq_false_iff_eq.mpr c42
            clear c42
            by_cases c43 : a0 ≥ a2
            · rw [if_pos c43] at H
              have c43b0 : decide (a2 ≤ a0) = true := decide_eq_true c43
              clear c43
              obtain rfl := Option.some.inj H
              go_enter Try.func12, Try.ntmps12
              go_wp2
              go_ret
              exact ⟨by first | rfl | (simp; done) | (simp [*]; done), by repeat (first | exact Drawn0.refl _ | apply Drawn0.step)⟩
            · rw [if_neg c43] at H
              have c43b0 : decide (a2 ≤ a0) = false := decide_eq_false c43
              clear c43
              by_cases c44 : a1 = 4
              · rw [if_pos c44] at H
                have c44b0 : (a1 == 4) = true := beq_iff_eq.mpr c44
                have c44b1 : (a1 != 4) = false := bne_eq_false_iff_eq.mpr c44
                clear c44
                by_cases c45 : a0 = a2
                · rw [if_pos c45] at H
                  have c45b0 : (a0 == a2) = true := beq_iff_eq.mpr c45
                  have c45b1 : (a0 != a2) = false := bne_eq_false_iff_eq.mpr c45
                  clear c45
                  obtain rfl := Option.some.inj H
                  go_enter Try.func12, Try.ntmps12
                  go_wp2
                  go_ret
                  exact ⟨by first | rfl | (simp; done) | (simp [*]; done), by repeat (first | exact Drawn0.refl _ | apply Drawn0.step)⟩
                · rw [if_neg c45] at H
                  have c45b0 : (a0 == a2) = false := beq_eq_false_iff_ne.mpr c45
                  have c45b1 : (a0 != a2) = true := bne_iff_ne.mpr c45
                  by_cases c46 : a1 = 5
                  · rw [if_pos c46] at H
                    have c46b0 : (a1 == 5) = true := beq_iff_eq.mpr c46
                    have c46b1 : (a1 != 5) = false := bne_eq_false_iff_eq.mpr c46
                    clear c46
                    obtain rfl := Option.some.inj H
                    go_enter Try.func12, Try.ntmps12
                    go_wp2
                    go_ret
                    exact ⟨by first | rfl | (simp; done) | (simp [*]; done), by repeat (first | exact Drawn0.refl _ | apply Drawn0.step)⟩
                  · rw [if_neg c46] at H
                    have c46b0 : (a1 == 5) = false := beq_eq_false_iff_ne.mpr c46
                    have c46b1 : (a1 != 5) = true := bne_iff_ne.mpr c46
                    obtain rfl := Option.some.inj H
                    go_enter Try.func12, Try.ntmps12
                    go_wp2
                    go_ret
                    exact ⟨by first | rfl | (simp; done) | (simp [*]; done), by repeat (first | exact Drawn0.refl _ | apply Drawn0.step)⟩
              · rw [if_neg c44] at H
                have c44b0 : (a1 == 4) = false := beq_eq_false_iff_ne.mpr c44
                have c44b1 : (a1 != 4) = true := bne_iff_ne.mpr c44
                by_cases c47 : a1 = 5
                · rw [if_pos c47] at H
                  have c47b0 : (a1 == 5) = true := beq_iff_eq.mpr c47
                  have c47b1 : (a1 != 5) = false := bne_eq_false_iff_eq.mpr c47
                  clear c47
                  obtain rfl := Option.some.inj H
                  go_enter Try.func12, Try.ntmps12
                  go_wp2
                  go_ret
                  exact ⟨by first | rfl | (simp; done) | (simp [*]; done), by repeat (first | exact Drawn0.refl _ | apply Drawn0.step)⟩
                · rw [if_neg c47] at H
                  have c47b0 : (a1 == 5) = false := beq_eq_false_iff_ne.mpr c47
                  have c47b1 : (a1 != 5) = true := bne_iff_ne.mpr c47
                  obtain rfl := Option.some.inj H
                  go_enter Try.func12, Try.ntmps12
                  go_wp2
                  go_ret
                  exact ⟨by first | rfl | (simp; done) | (simp [*]; done), by repeat (first | exact Drawn0.refl _ | apply Drawn0.step)⟩
          · rw [if_neg c42] at H
            have c42b0 : (a1 == 3) = false := beq_eq_false_iff_ne.mpr c42
            have c42b1 : (a1 != 3) = true := bne_iff_ne.mpr c42
            by_cases c48 : a1 = 4
            · rw [if_pos c48] at H
              have c48b0 : (a1 == 4) = true := beq_iff_eq.mpr c48
              have c48b1 : (a1 != 4) = false := bne_eq_false_iff_eq.mpr c48
              clear c48
              by_cases c49 : a0 = a2
              · rw [if_pos c49] at H
                have c49b0 : (a0 == a2) = true := beq_iff_eq.mpr c49
                have c49b1 : (a0 != a2) = false := bne_eq_false_iff_eq.mpr c49
                clear c49
                obtain rfl := Option.some.inj H
                go_enter Try.func12, Try.ntmps12
                go_wp2
                go_ret
                exact ⟨by first | rfl | (simp; done) | (simp [*]; done), by repeat (first | exact Drawn0.refl _ | apply Drawn0.step)⟩
              · rw [if_neg c49] at H
                have c49b0 : (a0 == a2) = false := beq_eq_false_iff_ne.mpr c49
                have c49b1 : (a0 != a2) = true := bne_iff_ne.mpr c49
                by_cases c50 : a1 = 5
                · rw [if_pos c50] at H
                  have c50b0 : (a1 == 5) = true := beq_iff_eq.mpr c50
                  have c50b1 : (a1 != 5) = false := bne_eq_false_iff_eq.mpr c50
                  clear c50
                  obtain rfl := Option.some.inj H
                  go_enter Try.func12, Try.ntmps12
                  go_wp2
                  go_ret
                  exact ⟨by first | rfl | (simp; done) | (simp [*]; done), by repeat (first | exact Drawn0.refl _ | apply Drawn0.step)⟩
                · rw [if_neg c50] at H
                  have c50b0 : (a1 == 5) = false := beq_eq_false_iff_ne.mpr c50
                  have c50b1 : (a1 != 5) = true := bne_iff_ne.mpr c50
                  obtain rfl := Option.some.inj H
                  go_enter Try.func12, Try.ntmps12
                  go_wp2
                  go_ret
                  exact ⟨by first | rfl | (simp; done) | (simp [*]; done), by repeat (first | exact Drawn0.refl _ | apply Drawn0.step)⟩
            · rw [if_neg c48] at H
              have c48b0 : (a1 == 4) = false := beq_eq_false_iff_ne.mpr c48
              have c48b1 : (a1 != 4) = true := bne_iff_ne.mpr c48
              by_cases c51 : a1 = 5
              · rw [if_pos c51] at H
                have c51b0 : (a1 == 5) = true := beq_iff_eq.mpr c51
                have c51b1 : (a1 != 5) = false := bne_eq_false_iff_eq.mpr c51
                clear c51
                obtain rfl := Option.some.inj H
                go_enter Try.func12, Try.ntmps12
                go_wp2
                go_ret
                exact ⟨by first | rfl | (simp; done) | (simp [*]; done), by repeat (first | exact Drawn0.refl _ | apply Drawn0.step)⟩
              · rw [if_neg c51] at H
                have c51b0 : (a1 == 5) = false := beq_eq_false_iff_ne.mpr c51
                have c51b1 : (a1 != 5) = true := bne_iff_ne.mpr c51
                obtain rfl := Option.some.inj H
                go_enter Try.func12, Try.ntmps12
                go_wp2
                go_ret
                exact ⟨by first | rfl | (simp; done) | (simp [*]; done), by repeat (first | exact Drawn0.refl _ | apply Drawn0.step)⟩
  · rw [if_neg c4] at H
    have c4b0 : (a1 == 0) = false := beq_eq_false_iff_ne.mpr c4
    have c4b1 : (a1 != 0) = true := bne_iff_ne.mpr c4
    by_cases c52 : a1 = 1
    · rw [if_pos c52] at H
      have c52b0 : (a1 == 1) = true := beq_iff_eq.mpr c52
      have c52b1 : (a1 != 1) = false := bne_eq_false_iff_eq.mpr c52
      clear c52
      by_cases c53 : a0 ≤ a2
      · rw [if_pos c53] at H
        have c53b0 : decide (a0 ≤ a2) = true := decide_eq_true c53
        clear c53
        obtain rfl := Option.some.inj H
        go_enter Try.func12, Try.ntmps12
        go_wp2
        go_ret
        exact ⟨by first | rfl | (simp; done) | (simp [*]; done), by repeat (first | exact Drawn0.refl _ | apply Drawn0.step)⟩
      · rw [if_neg c53] at H
        have c53b0 : decide (a0 ≤ a2) = false := decide_eq_false c53
        clear c53
        by_cases c54 : a1 = 2
        · rw [if_pos c54] at H
          have c54b0 : (a1 == 2) = true := beq_iff_eq.mpr c54
          have c54b1 : (a1 != 2) = false := bne_eq_false_iff_eq.mpr c54
          clear c54
          by_cases c55 : a0 > a2
          · rw [if_pos c55] at H
            have c55b0 : decide (a2 < a0) = true := decide_eq_true c55
            clear c55
            obtain rfl := Option.some.inj H
            go_enter Try.func12, Try.ntmps12
            go_wp2
            go_ret
            exact ⟨by first | rfl | (simp; done) | (simp [*]; done), by repeat (first | exact Drawn0.refl _ | apply Drawn0.step)⟩
          · rw [if_neg c55] at H
            have c55b0 : decide (a2 < a0) = false := decide_eq_false c55
            clear c55
            by_cases c56 : a1 = 3
            · rw [if_pos c56] at H
              have c56b0 : (a1 == 3) = true := beq_iff_eq.mpr c56
              have c56b1 : (a1 != 3) = false := bne_eq_false_iff_eq.mpr c56
              clear c56
              by_cases c57 : a0 ≥ a2
              · rw [if_pos c57] at H
                have c57b0 : decide (a2 ≤ a0) = true := decide_eq_true c57
                clear c57
                obtain rfl := Option.some.inj H
                go_enter Try.func12, Try.ntmps12
                go_wp2
                go_ret
                exact ⟨by first | rfl | (simp; done) | (simp [*]; done), by repeat (first | exact Drawn0.refl _ | apply Drawn0.step)⟩
              · rw [if_neg c57] at H
                have c57b0 : decide (a2 ≤ a0) = false := decide_eq_false c57
                clear c57
                by_cases c58 : a1 = 4
                · rw [if_pos c58] at H
                  have c58b0 : (a1 == 4) = true := beq_iff_eq.mpr c58
                  have c58b1 : (a1 != 4) = false := bne_eq_false_iff_eq.mpr c58
                  clear c58
                  by_cases c59 : a0 = a2
                  · rw [if_pos c59] at H
                    have c59b0 : (a0 == a2) = true := beq_iff_eq.mpr c59
                    have c59b1 : (a0 != a2) = false := bne_eq_false_iff_eq.mpr c59
                    clear c59
                    obtain rfl := Option.some.inj H
                    go_enter Try.func12, Try.ntmps12
                    go_wp2
                    go_ret
                    exact ⟨by first | rfl | (simp; done) | (simp [*]; done), by repeat (first | exact Drawn0.refl _ | apply Drawn0.step)⟩
                  · rw [if_neg c59] at H
                    have c59b0 : (a0 == a2) = false := beq_eq_false_iff_ne.mpr c59
                    have c59b1 : (a0 != a2) = true := bne_iff_ne.mpr c59
                    by_cases c60 : a1 = 5
                    · rw [if_pos c60] at H
                      have c60b0 : (a1 == 5) = true := beq_iff_eq.mpr c60
                      have c60b1 : (a1 != 5) = false := bne_eq_false_iff_eq.mpr c60
                      clear c60
                      obtain rfl := Option.some.inj H
                      go_enter Try.func12, Try.ntmps12
                      go_wp2
                      go_ret
                      exact ⟨by first | rfl | (simp; done) | (simp [*]; done), by repeat (first | exact Drawn0.refl _ | apply Drawn0.step)⟩
                    · rw [if_neg c60] at H
                      have c60b0 : (a1 == 5) = false := beq_eq_false_iff_ne.mpr c60
                      have c60b1 : (a1 != 5) = true := bne_iff_ne.mpr c60
                      obtain rfl := Option.some.inj H
                      go_enter Try.func12, Try.ntmps12
                      go_wp2
                      go_ret
                      exact ⟨by first | rfl | (simp; done) | (simp [*]; done), by repeat (first | exact Drawn0.refl _ | apply Drawn0.step)⟩
                · rw [if_neg c58] at H
                  have c58b0 : (a1 == 4) = false := beq_eq_false_iff_ne.mpr c58
                  have c58b1 : (a1 != 4) = true := bne_iff_ne.mpr c58
                  by_cases c61 : a1 = 5
                  · rw [if_pos c61] at H
                    have c61b0 : (a1 == 5) = true := beq_iff_eq.mpr c61
                    have c61b1 : (a1 != 5) = false := bne_eq_false_iff_eq.mpr c61
                    clear c61
                    obtain rfl := Option.some.inj H
                    go_enter Try.func12, Try.ntmps12
                    go_wp2
                    go_ret
                    exact ⟨by first | rfl | (simp; done) | (simp [*]; done), by repeat (first | exact Drawn0.refl _ | apply Drawn0.step)⟩
                  · rw [if_neg c61] at H
                    have c61b0 : (a1 == 5) = false := beq_eq_false_iff_ne.mpr c61
                    have c61b1 : (a1 != 5) = true := bne_iff_ne.mpr c61
                    obtain rfl := Option.some.inj H
                    go_enter Try.func12, Try.ntmps12
                    go_wp2
                    go_ret
                    exact ⟨by first | rfl | (simp; done) | (simp [*]; done), by repeat (first | exact Drawn0.refl _ | apply Drawn0.step)⟩
            · rw [if_neg c56] at H
              have c56b0 : (a1 == 3) = false := beq_eq_false_iff_ne.mpr c56
              have c56b1 : (a1 != 3) = true := bne_iff_ne.mpr c56
              by_cases c62 : a1 = 4
              · rw [if_pos c62] at H
                have c62b0 : (a1 == 4) = true := beq_iff_eq.mpr c62
                have c62b1 : (a1 != 4) = false := bne_eq_false_iff_eq.mpr c62
                clear c62
                by_cases c63 : a0 = a2
                · rw [if_pos c63] at H
                  have c63b0 : (a0 == a2) = true := beq_iff_eq.mpr c63
                  have c63b1 : (a0 != a2) = false := bne_eq_false_iff_eq.mpr c63
                  clear c63
                  obtain rfl := Option.some.inj H
                  go_enter Try.func12, Try.ntmps12
                  go_wp2
                  go_ret
                  exact ⟨by first | rfl | (simp; done) | (simp [*]; done), by repeat (first | exact Drawn0.refl _ | apply Drawn0.step)⟩
                · rw [if_neg c63] at H
                  have c63b0 : (a0 == a2) = false := beq_eq_false_iff_ne.mpr c63
                  have c63b1 : (a0 != a2) = true := bne_iff_ne.mpr c63
                  by_cases c64 : a1 = 5
                  · rw [if_pos c64] at H
                    have c64b0 : (a1 == 5) = true := beq_iff_eq.mpr c64
                    have c64b1 : (a1 != 5) = false := bne_eq_false_iff_eq.mpr c64
                    clear c64
                    obtain rfl := Option.some.inj H
                    go_enter Try.func12, Try.ntmps12
                    go_wp2
                    go_ret
                    exact ⟨by first | rfl | (simp; done) | (simp [*]; done), by repeat (first | exact Drawn0.refl _ | apply Drawn0.step)⟩
                  · rw [if_neg c64] at H
                    have c64b0 : (a1 == 5) = false := beq_eq_false_iff_ne.mpr c64
                    have c64b1 : (a1 != 5) = true := bne_iff_ne.mpr c64
                    obtain rfl := Option.some.inj H
                    go_enter Try.func12, Try.ntmps12
                    go_wp2
                    go_ret
                    exact ⟨by first | rfl | (simp; done) | (simp [*]; done), by repeat (first | exact Drawn0.refl _ | apply Drawn0.step)⟩
              · rw [if_neg c62] at H
                have c62b0 : (a1 == 4) = false := beq_eq_false_iff_ne.mpr c62
                have c62b1 : (a1 != 4) = true := bne_iff_ne.mpr c62
                by_cases c65 : a1 = 5
                · rw [if_pos c65] at H
                  have c65b0 : (a1 == 5) = true := beq_iff_eq.mpr c65
                  have c65b1 : (a1 != 5) = false := bne_eq_false_iff_eq.mpr c65
                  clear c65
                  obtain rfl := Option.some.inj H
                  go_enter Try.func12, Try.ntmps12
                  go_wp2
                  go_ret
                  exact ⟨by first | rfl | (simp; done) | (simp [*]; done), by repeat (first | exact Drawn0.refl _ | apply Drawn0.step)⟩
                · rw [if_neg c65] at H
                  have c65b0 : (a1 == 5) = false := beq_eq_false_iff_ne.mpr c65
                  have c65b1 : (a1 != 5) = true := bne_iff_ne.mpr c65
                  obtain rfl := Option.some.inj H
                  go_enter Try.func12, Try.ntmps12
                  go_wp2
                  go_ret
                  exact ⟨by first | rfl | (simp; done) | (simp [*]; done), by repeat (first | exact Drawn0.refl _ | apply Drawn0.step)⟩
        · rw [if_neg c54] at H
          have c54b0 : (a1 == 2) = false := beq_eq_false_iff_ne.mpr c54
          have c54b1 : (a1 != 2) = true := bne_iff_ne.mpr c54
          by_cases c66 : a1 = 3
          · rw [if_pos c66] at H
            have c66b0 : (a1 == 3) = true := beq_iff_eq.mpr c66
            have c66b1 : (a1 != 3) = false := bne_eq_false_iff_eq.mpr c66
            clear c66
            by_cases c67 : a0 ≥ a2
            · rw [if_pos c67] at H
              have c67b0 : decide (a2 ≤ a0) = true := decide_eq_true c67
              clear c67
              obtain rfl := Option.some.inj H
              go_enter Try.func12, Try.ntmps12
              go_wp2
              go_ret
              exact ⟨by first | rfl | (simp; done) | (simp [*]; done), by repeat (first | exact Drawn0.refl _ | apply Drawn0.step)⟩
            · rw [if_neg c67] at H
              have c67b0 : decide (a2 ≤ a0) = false := decide_eq_false c67
              clear c67
              by_cases c68 : a1 = 4
              · rw [if_pos c68] at H
                have c68b0 : (a1 == 4) = true := beq_iff_eq.mpr c68
                have c68b1 : (a1 != 4) = false := bne_eq_false_iff_eq.mpr c68
                clear c68
                by_cases c69 : a0 = a2
                · rw [if_pos c69] at H
                  have c69b0 : (a0 == a2) = true := beq_iff_eq.mpr c69
                  have c69b1 : (a0 != a2) = false := bne_eq_false_iff_eq.mpr c69
                  clear c69
                  obtain rfl := Option.some.inj H
                  go_enter Try.func12, Try.ntmps12
                  go_wp2
                  go_ret
                  exact ⟨by first | rfl | (simp; done) | (simp [*]; done), by repeat (first | exact Drawn0.refl _ | apply Drawn0.step)⟩
                · rw [if_neg c69] at H
                  have c69b0 : (a0 == a2) = false := beq_eq_false_iff_ne.mpr c69
                  have c69b1 : (a0 != a2) = true := bne_iff_ne.mpr c69
                  by_cases c70 : a1 = 5
                  · rw [if_pos c70] at H
                    have c70b0 : (a1 == 5) = true := beq_iff_eq.mpr c70
                    have c70b1 : (a1 != 5) = false := bne_eq_false_iff_eq.mpr c70
                    clear c70
                    obtain rfl := Option.some.inj H
                    go_enter Try.func12, Try.ntmps12
                    go_wp2
                    go_ret
                    exact ⟨by first | rfl | (simp; done) | (simp [*]; done), by repeat (first | exact Drawn0.refl _ | apply Drawn0.step)⟩
                  · rw [if_neg c70] at H
                    have c70b0 : (a1 == 5) = false := beq_eq_false_iff_ne.mpr c70
                    have c70b1 : (a1 != 5) = true := bne_iff_ne.mpr c70
                    obtain rfl := Option.some.inj H
                    go_enter Try.func12, Try.ntmps12
                    go_wp2
                    go_ret
                    exact ⟨by first | rfl | (simp; done) | (simp [*]; done), by repeat (first | exact Drawn0.refl _ | apply Drawn0.step)⟩
              · rw [if_neg c68] at H
                have c68b0 : (a1 == 4) = false := beq_eq_false_iff_ne.mpr c68
                have c68b1 : (a1 != 4) = true := bne_iff_ne.mpr c68
                by_cases c71 : a1 = 5
                · rw [if_pos c71] at H
                  have c71b0 : (a1 == 5) = true := beq_iff_eq.mpr c71
                  have c71b1 : (a1 != 5) = false := bne_eq_false_iff_eq.mpr c71
                  clear c71
                  obtain rfl := Option.some.inj H
                  go_enter Try.func12, Try.ntmps12
                  go_wp2
                  go_ret
                  exact ⟨by first | rfl | (simp; done) | (simp [*]; done), by repeat (first | exact Drawn0.refl _ | apply Drawn0.step)⟩
                · rw [if_neg c71] at H
                  have c71b0 : (a1 == 5) = false := beq_eq_false_iff_ne.mpr c71
                  have c71b1 : (a1 != 5) = true := bne_iff_ne.mpr c71
                  obtain rfl := Option.some.inj H
                  go_enter Try.func12, Try.ntmps12
                  go_wp2
                  go_ret
                  exact ⟨by first | rfl | (simp; done) | (simp [*]; done), by repeat (first | exact Drawn0.refl _ | apply Drawn0.step)⟩
          · rw [if_neg c66] at H
            have c66b0 : (a1 == 3) = false := beq_eq_false_iff_ne.mpr c66
            have c66b1 : (a1 != 3) = true := bne_iff_ne.mpr c66
            by_cases c72 : a1 = 4
            · rw [if_pos c72] at H
              have c72b0 : (a1 == 4) = true := beq_iff_eq.mpr c72
              have c72b1 : (a1 != 4) = false := bne_eq_false_iff_eq.mpr c72
              clear c72
              by_cases c73 : a0 = a2
              · rw [if_pos c73] at H
                have c73b0 : (a0 == a2) = true := beq_iff_eq.mpr c73
                have c73b1 : (a0 != a2) = false := bne_eq_false_iff_eq.mpr c73
                clear c73
                obtain rfl := Option.some.inj H
                go_enter Try.func12, Try.ntmps12
                go_wp2
                go_ret
                exact ⟨by first | rfl | (simp; done) | (simp [*]; done), by repeat (first | exact Drawn0.refl _ | apply Drawn0.step)⟩
              · rw [if_neg c73] at H
                have c73b0 : (a0 == a2) = false := beq_eq_false_iff_ne.mpr c73
                have c73b1 : (a0 != a2) = true := bne_iff_ne.mpr c73
                by_cases c74 : a1 = 5
                · rw [if_pos c74] at H
                  have c74b0 : (a1 == 5) = true := beq_iff_eq.mpr c74
                  have c74b1 : (a1 != 5) = false := bne_eq_false_iff_eq.mpr c74
                  clear c74
                  obtain rfl := Option.some.inj H
                  go_enter Try.func12, Try.ntmps12
                  go_wp2
                  go_ret
                  exact ⟨by first | rfl | (simp; done) | (simp [*]; done), by repeat (first | exact Drawn0.refl _ | apply Drawn0.step)⟩
                · rw [if_neg c74] at H
                  have c74b0 : (a1 == 5) = false := beq_eq_false_iff_ne.mpr c74
                  have c74b1 : (a1 != 5) = true := bne_iff_ne.mpr c74
                  obtain rfl := Option.some.inj H
                  go_enter Try.func12, Try.ntmps12
                  go_wp2
                  go_ret
                  exact ⟨by first | rfl | (simp; done) | (simp [*]; done), by repeat (first | exact Drawn0.refl _ | apply Drawn0.step)⟩
            · rw [if_neg c72] at H
              have c72b0 : (a1 == 4) = false := beq_eq_false_iff_ne.mpr c72
              have c72b1 : (a1 != 4) = true := bne_iff_ne.mpr c72
              by_cases c75 : a1 = 5
              · rw [if_pos c75] at H
                have c75b0 : (a1 == 5) = true := beq_iff_eq.mpr c75
                have c75b1 : (a1 != 5) = false := bne_eq_false_iff_eq.mpr c75
                clear c75
                obtain rfl := Option.some.inj H
                go_enter Try.func12, Try.ntmps12
                go_wp2
                go_ret
                exact ⟨by first | rfl | (simp; done) | (simp [*]; done), by repeat (first | exact Drawn0.refl _ | apply Drawn0.step)⟩
              · rw [if_neg c75] at H
                have c75b0 : (a1 == 5) = false := beq_eq_false_iff_ne.mpr c75
                have c75b1 : (a1 != 5) = true := bne_iff_ne.mpr c75
                obtain rfl := Option.some.inj H
                go_enter Try.func12, Try.ntmps12
                go_wp2
                go_ret
                exact ⟨by first | rfl | (simp; done) | (simp [*]; done), by repeat (first | exact Drawn0.refl _ | apply Drawn0.step)⟩
    · rw [if_neg c52] at H
      have c52b0 : (a1 == 1) = false := beq_eq_false_iff_ne.mpr c52
      have c52b1 : (a1 != 1) = true := bne_iff_ne.mpr c52
      by_cases c76 : a1 = 2
      · rw [if_pos c76] at H
        have c76b0 : (a1 == 2) = true := beq_iff_eq.mpr c76
        have c76b1 : (a1 != 2) = false := bne_eq_false_iff_eq.mpr c76
        clear c76
        by_cases c77 : a0 > a2
        · rw [if_pos c77] at H
          have c77b0 : decide (a2 < a0) = true := decide_eq_true c77
          clear c77
          obtain rfl := Option.some.inj H
          go_enter Try.func12, Try.ntmps12
          go_wp2
          go_ret
          exact ⟨by first | rfl | (simp; done) | (simp [*]; done), by repeat (first | exact Drawn0.refl _ | apply Drawn0.step)⟩
        · rw [if_neg c77] at H
          have c77b0 : decide (a2 < a0) = false := decide_eq_false c77
          clear c77
          by_cases c78 : a1 = 3
          · rw [if_pos c78] at H
            have c78b0 : (a1 == 3) = true := beq_iff_eq.mpr c78
            have c78b1 : (a1 != 3) = false := bne_eq_false_iff_eq.mpr c78
            clear c78
            by_cases c79 : a0 ≥ a2
            · rw [if_pos c79] at H
              have c79b0 : decide (a2 ≤ a0) = true := decide_eq_true c79
              clear c79
              obtain rfl := Option.some.inj H
              go_enter Try.func12, Try.ntmps12
              go_wp2
              go_ret
              exact ⟨by first | rfl | (simp; done) | (simp [*]; done), by repeat (first | exact Drawn0.refl _ | apply Drawn0.step)⟩
            · rw [if_neg c79] at H
              have c79b0 : decide (a2 ≤ a0) = false := decide_eq_false c79
              clear c79
              by_cases c80 : a1 = 4
              · rw [if_pos c80] at H
                have c80b0 : (a1 == 4) = true := beq_iff_eq.mpr c80
                have c80b1 : (a1 != 4) = false := bne_eq_false_iff_eq.mpr c80
                clear c80
                by_cases c81 : a0 = a2
                · rw [if_pos c81] at H
                  have c81b0 : (a0 == a2) = true := beq_iff_eq.mpr c81
                  have c81b1 : (a0 != a2) = false := bne_eq_false_iff_eq.mpr c81
                  clear c81
                  obtain rfl := Option.some.inj H
                  go_enter Try.func12, Try.ntmps12
                  go_wp2
                  go_ret
                  exact ⟨by first | rfl | (simp; done) | (simp [*]; done), by repeat (first | exact Drawn0.refl _ | apply Drawn0.step)⟩
                · rw [if_neg c81] at H
                  have c81b0 : (a0 == a2) = false := beq_eq_false_iff_ne.mpr c81
                  have c81b1 : (a0 != a2) = true := bne_iff_ne.mpr c81
                  by_cases c82 : a1 = 5
                  · rw [if_pos c82] at H
                    have c82b0 : (a1 == 5) = true := beq_iff_eq.mpr c82
                    have c82b1 : (a1 != 5) = false := bne_eq_false_iff_eq.mpr c82
                    clear c82
                    obtain rfl := Option.some.inj H
                    go_enter Try.func12, Try.ntmps12
                    go_wp2
                    go_ret
                    exact ⟨by first | rfl | (simp; done) | (simp [*]; done), by repeat (first | exact Drawn0.refl _ | apply Drawn0.step)⟩
                  · rw [if_neg c82] at H
                    have c82b0 : (a1 == 5) = false := beq_eq_false_iff_ne.mpr c82
                    have c82b1 : (a1 != 5) = true := bne_iff_ne.mpr c82
                    obtain rfl := Option.some.inj H
                    go_enter Try.func12, Try.ntmps12
                    go_wp2
                    go_ret
                    exact ⟨by first | rfl | (simp; done) | (simp [*]; done), by repeat (first | exact Drawn0.refl _ | apply Drawn0.step)⟩
              · rw [if_neg c80] at H
                have c80b0 : (a1 == 4) = false := beq_eq_false_iff_ne.mpr c80
                have c80b1 : (a1 != 4) = true := bne_iff_ne.mpr c80
                by_cases c83 : a1 = 5
                · rw [if_pos c83] at H
                  have c83b0 : (a1 == 5) = true := beq_iff_eq.mpr c83
                  have c83b1 : (a1 != 5) = false := bne_eq_false_iff_eq.mpr c83
                  clear c83
                  obtain rfl := Option.some.inj H
                  go_enter Try.func12, Try.ntmps12
                  go_wp2
                  go_ret
                  exact ⟨by first | rfl | (simp; done) | (simp [*]; done), by repeat (first | exact Drawn0.refl _ | apply Drawn0.step)⟩
                · rw [if_neg c83] at H
                  have c83b0 : (a1 == 5) = false := beq_eq_false_iff_ne.mpr c83
                  have c83b1 : (a1 != 5) = true := bne_iff_ne.mpr c83
                  obtain rfl := Option.some.inj H
                  go_enter Try.func12, Try.ntmps12
                  go_wp2
                  go_ret
                  exact ⟨by first | rfl | (simp; done) | (simp [*]; done), by repeat (first | exact Drawn0.refl _ | apply Drawn0.step)⟩
          · rw [if_neg c78] at H
            have c78b0 : (a1 == 3) = false := beq_eq_false_iff_ne.mpr c78
            have c78b1 : (a1 != 3) = true := bne_iff_ne.mpr c78
            by_cases c84 : a1 = 4
            · rw [if_pos c84] at H
              have c84b0 : (a1 == 4) = true := beq_iff_eq.mpr c84
              have c84b1 : (a1 != 4) = false := bne_eq_false_iff_eq.mpr c84
              clear c84
              by_cases c85 : a0 = a2
              · rw [if_pos c85] at H
                have c85b0 : (a0 == a2) = true := beq_iff_eq.mpr c85
                have c85b1 : (a0 != a2) = false := bne_eq_false_iff_eq.mpr c85
                clear c85
                obtain rfl := Option.some.inj H
                go_enter Try.func12, Try.ntmps12
                go_wp2
                go_ret
                exact ⟨by first | rfl | (simp; done) | (simp [*]; done), by repeat (first | exact Drawn0.refl _ | apply Drawn0.step)⟩
              · rw [if_neg c85] at H
                have c85b0 : (a0 == a2) = false := beq_eq_false_iff_ne.mpr c85
                have c85b1 : (a0 != a2) = true := bne_iff_ne.mpr c85
                by_cases c86 : a1 = 5
                · rw [if_pos c86] at H
                  have c86b0 : (a1 == 5) = true := beq_iff_eq.mpr c86
                  have c86b1 : (a1 != 5) = false := bne_eq_false_iff_eq.mpr c86
                  clear c86
                  obtain rfl := Option.some.inj H
                  go_enter Try.func12, Try.ntmps12
                  go_wp2
                  go_ret
                  exact ⟨by first | rfl | (simp; done) | (simp [*]; done), by repeat (first | exact Drawn0.refl _ | apply Drawn0.step)⟩
                · rw [if_neg c86] at H
                  have c86b0 : (a1 == 5) = false := beq_eq_false_iff_ne.mpr c86
                  have c86b1 : (a1 != 5) = true := bne_iff_ne.mpr c86
                  obtain rfl := Option.some.inj H
                  go_enter Try.func12, Try.ntmps12
                  go_wp2
                  go_ret
                  exact ⟨by first | rfl | (simp; done) | (simp [*]; done), by repeat (first | exact Drawn0.refl _ | apply Drawn0.step)⟩
            · rw [if_neg c84] at H
              have c84b0 : (a1 == 4) = false := beq_eq_false_iff_ne.mpr c84
              have c84b1 : (a1 != 4) = true := bne_iff_ne.mpr c84
              by_cases c87 : a1 = 5
              · rw [if_pos c87] at H
                have c87b0 : (a1 == 5) = true := beq_iff_eq.mpr c87
                have c87b1 : (a1 != 5) = false := bne_eq_false_iff_eq.mpr c87
                clear c87
                obtain rfl := Option.some.inj H
                go_enter Try.func12, Try.ntmps12
                go_wp2
                go_ret
                exact ⟨by first | rfl | (simp; done) | (simp [*]; done), by repeat (first | exact Drawn0.refl _ | apply Drawn0.step)⟩
              · rw [if_neg c87] at H
                have c87b0 : (a1 == 5) = false := beq_eq_false_iff_ne.mpr c87
                have c87b1 : (a1 != 5) = true := bne_iff_ne.mpr c87
                obtain rfl := Option.some.inj H
                go_enter Try.func12, Try.ntmps12
                go_wp2
                go_ret
                exact ⟨by first | rfl | (simp; done) | (simp [*]; done), by repeat (first | exact Drawn0.refl _ | apply Drawn0.step)⟩
      · rw [if_neg c76] at H
        have c76b0 : (a1 == 2) = false := beq_eq_false_iff_ne.mpr c76
        have c76b1 : (a1 != 2) = true := bne_iff_ne.mpr c76
        by_cases c88 : a1 = 3
        · rw [if_pos c88] at H
          have c88b0 : (a1 == 3) = true := beq_iff_eq.mpr c88
          have c88b1 : (a1 != 3) = false := bne_eq_false_iff_eq.mpr c88
          clear c88
          by_cases c89 : a0 ≥ a2
          · rw [if_pos c89] at H
            have c89b0 : decide (a2 ≤ a0) = true := decide_eq_true c89
            clear c89
            obtain rfl := Option.some.inj H
            go_enter Try.func12, Try.ntmps12
            go_wp2
            go_ret
            exact ⟨by first | rfl | (simp; done) | (simp [*]; done), by repeat (first | exact Drawn0.refl _ | apply Drawn0.step)⟩
          · rw [if_neg c89] at H
            have c89b0 : decide (a2 ≤ a0) = false := decide_eq_false c89
            clear c89
            by_cases c90 : a1 = 4
            · rw [if_pos c90] at H
              have c90b0 : (a1 == 4) = true := beq_iff_eq.mpr c90
              have c90b1 : (a1 != 4) = false := bne_eq_false_iff_eq.mpr c90
              clear c90
              by_cases c91 : a0 = a2
              · rw [if_pos c91] at H
                have c91b0 : (a0 == a2) = true := beq_iff_eq.mpr c91
                have c91b1 : (a0 != a2) = false := bne_eq_false_iff_eq.mpr c91
                clear c91
                obtain rfl := Option.some.inj H
                go_enter Try.func12, Try.ntmps12
                go_wp2
                go_ret
                exact ⟨by first | rfl | (simp; done) | (simp [*]; done), by repeat (first | exact Drawn0.refl _ | apply Drawn0.step)⟩
              · rw [if_neg c91] at H
                have c91b0 : (a0 == a2) = false := beq_eq_false_iff_ne.mpr c91
                have c91b1 : (a0 != a2) = true := bne_iff_ne.mpr c91
                by_cases c92 : a1 = 5
                · rw [if_pos c92] at H
                  have c92b0 : (a1 == 5) = true := beq_iff_eq.mpr c92
                  have c92b1 : (a1 != 5) = false := bne_eq_false_iff_eq.mpr c92
                  clear c92
                  obtain rfl := Option.some.inj H
                  go_enter Try.func12, Try.ntmps12
                  go_wp2
                  go_ret
                  exact ⟨by first | rfl | (simp; done) | (simp [*]; done), by repeat (first | exact Drawn0.refl _ | apply Drawn0.step)⟩
                · rw [if_neg c92] at H
                  have c92b0 : (a1 == 5) = false := beq_eq_false_iff_ne.mpr c92
                  have c92b1 : (a1 != 5) = true := bne_iff_ne.mpr c92
                  obtain rfl := Option.some.inj H
                  go_enter Try.func12, Try.ntmps12
                  go_wp2
                  go_ret
                  exact ⟨by first | rfl | (simp; done) | (simp [*]; done), by repeat (first | exact Drawn0.refl _ | apply Drawn0.step)⟩
            · rw [if_neg c90] at H
              have c90b0 : (a1 == 4) = false := beq_eq_false_iff_ne.mpr c90
              have c90b1 : (a1 != 4) = true := bne_iff_ne.mpr c90
              by_cases c93 : a1 = 5
              · rw [if_pos c93] at H
                have c93b0 : (a1 == 5) = true := beq_iff_eq.mpr c93
                have c93b1 : (a1 != 5) = false := bne_eq_false_iff_eq.mpr c93
                clear c93
                obtain rfl := Option.some.inj H
                go_enter Try.func12, Try.ntmps12
                go_wp2
                go_ret
                exact ⟨by first | rfl | (simp; done) | (simp [*]; done), by repeat (first | exact Drawn0.refl _ | apply Drawn0.step)⟩
              · rw [if_neg c93] at H
                have c93b0 : (a1 == 5) = false := beq_eq_false_iff_ne.mpr c93
                have c93b1 : (a1 != 5) = true := bne_iff_ne.mpr c93
                obtain rfl := Option.some.inj H
                go_enter Try.func12, Try.ntmps12
                go_wp2
                go_ret
                exact ⟨by first | rfl | (simp; done) | (simp [*]; done), by repeat (first | exact Drawn0.refl _ | apply Drawn0.step)⟩
        · rw [if_neg c88] at H
          have c88b0 : (a1 == 3) = false := beq_eq_false_iff_ne.mpr c88
          have c88b1 : (a1 != 3) = true := bne_iff_ne.mpr c88
          by_cases c94 : a1 = 4
          · rw [if_pos c94] at H
            have c94b0 : (a1 == 4) = true := beq_iff_eq.mpr c94
            have c94b1 : (a1 != 4) = false := bne_eq_false_iff_eq.mpr c94
            clear c94
            by_cases c95 : a0 = a2
            · rw [if_pos c95] at H
              have c95b0 : (a0 == a2) = true := beq_iff_eq.mpr c95
              have c95b1 : (a0 != a2) = false := bne_eq_false_iff_eq.mpr c95
              clear c95
              obtain rfl := Option.some.inj H
              go_enter Try.func12, Try.ntmps12
              go_wp2
              go_ret
              exact ⟨by first | rfl | (simp; done) | (simp [*]; done), by repeat (first | exact Drawn0.refl _ | apply Drawn0.step)⟩
            · rw [if_neg c95] at H
              have c95b0 : (a0 == a2) = false := beq_eq_false_iff_ne.mpr c95
              have c95b1 : (a0 != a2) = true := bne_iff_ne.mpr c95
              by_cases c96 : a1 = 5
              · rw [if_pos c96] at H
                have c96b0 : (a1 == 5) = true := beq_iff_eq.mpr c96
                have c96b1 : (a1 != 5) = false := bne_eq_false_iff_eq.mpr c96
                clear c96
                obtain rfl := Option.some.inj H
                go_enter Try.func12, Try.ntmps12
                go_wp2
                go_ret
                exact ⟨by first | rfl | (simp; done) | (simp [*]; done), by repeat (first | exact Drawn0.refl _ | apply Drawn0.step)⟩
              · rw [if_neg c96] at H
                have c96b0 : (a1 == 5) = false := beq_eq_false_iff_ne.mpr c96
                have c96b1 : (a1 != 5) = true := bne_iff_ne.mpr c96
                obtain rfl := Option.some.inj H
                go_enter Try.func12, Try.ntmps12
                go_wp2
                go_ret
                exact ⟨by first | rfl | (simp; done) | (simp [*]; done), by repeat (first | exact Drawn0.refl _ | apply Drawn0.step)⟩
          · rw [if_neg c94] at H
            have c94b0 : (a1 == 4) = false := beq_eq_false_iff_ne.mpr c94
            have c94b1 : (a1 != 4) = true := bne_iff_ne.mpr c94
            by_cases c97 : a1 = 5
            · rw [if_pos c97] at H
              have c97b0 : (a1 == 5) = true := beq_iff_eq.mpr c97
              have c97b1 : (a1 != 5) = false := bne_eq_false_iff_eq.mpr c97
              clear c97
              obtain rfl := Option.some.inj H
              go_enter Try.func12, Try.ntmps12
              go_wp2
              go_ret
              exact ⟨by first | rfl | (simp; done) | (simp [*]; done), by repeat (first | exact Drawn0.refl _ | apply Drawn0.step)⟩
            · rw [if_neg c97] at H
              have c97b0 : (a1 == 5) = false := beq_eq_false_iff_ne.mpr c97
              have c97b1 : (a1 != 5) = true := bne_iff_ne.mpr c97
              obtain rfl := Option.some.inj H
              go_enter Try.func12, Try.ntmps12
              go_wp2
              go_ret
              exact ⟨by first | rfl | (simp; done) | (simp [*]; done), by repeat (first | exact Drawn0.refl _ | apply Drawn0.step)⟩

/-- THE ONE PURE STATEMENT of tocsinref18_Holds: yours. -/
def tocsinref18_Holds.Pure : Prop := ∀ (a0 : Int) (a1 : Int) (a2 : Int), (Lit.int .i64 a0).wf = true → (Lit.int .u8 a1).wf = true → (Lit.int .i64 a2).wf = true → tocsinref18_Holds.f a0 a1 a2 = some true
theorem tocsinref18_Holds.walk (P : tocsinref18_Holds.Pure) (a0 : Int) (a1 : Int) (a2 : Int) (w : World) (w0 : (Lit.int .i64 a0).wf = true) (w1 : (Lit.int .u8 a1).wf = true) (w2 : (Lit.int .i64 a2).wf = true) :
    Calls Try.prog 12 #[.int .i64 a0, .int .u8 a1, .int .i64 a2] w fun e w' => e = .returned (.bool true) ∧ Below w.heap.size w w' := by
  have h := P a0 a1 a2 w0 w1 w2
  refine (tocsinref18_Holds.calls a0 a1 a2 true w h).mono ?_
  rintro e w' ⟨rfl, hd⟩
  exact ⟨rfl, hd.below⟩

end Go.Proofs.Ytafpedgmfkaifaa.PBase
