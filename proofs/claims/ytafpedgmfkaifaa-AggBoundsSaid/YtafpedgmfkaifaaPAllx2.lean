/- Printed by a program of this session (wip/tools/myprint.py, which runs the kit's own printer) over contracts proved by hand: functions and their walks, and the row of a law: for every input it returns true. No conditions. -/
import Derived.Test.YtafpedgmfkaifaaPAllx0
import Derived.Test.YtafpedgmfkaifaaPAllx1
namespace Go.Proofs.Ytafpedgmfkaifaa.PAll
open Go.RowKit Go.Proofs.Ytafpedgmfkaifaa.PBase Go.Proofs.Ytafpedgmfkaifaa.Given Go.Proofs.YtafpedgmfkaifaaW.PrintWords Go.Proofs.YtafpedgmfkaifaaW.PrintLast Go.Proofs.YtafpedgmfkaifaaW.PrintMore
attribute [local go_sem] max2_int min2_int max_two min_two max_three min_three max_four min_four   -- for this text's walks alone
set_option linter.unusedVariables false
set_option linter.unusedSimpArgs false

/-! ### tocsinlaw18_AggBounds: function 5 -/
mutual
def tocsinlaw18_AggBounds.j0 : Nat → List (S30) → List (S30) → Bool → Option (Bool)
  | 0, _, _, _ => none
  | k + 1, x0, x1, x43 => if x43 = true then ((tocsinlaw18_awake.f).bind fun t135 => (some t135)) else (tocsinlaw18_AggBounds.l0 k x0 x1 ([] : List (S30)) 0)
def tocsinlaw18_AggBounds.l0 : Nat → List (S30) → List (S30) → List (S30) → Int → Option (Bool)
  | 0, _, _, _, _ => none
  | k + 1, x0, x1, x5, x6 => if x6 < (x0.length : Int) then (if 0 ≤ x6 then (if x5.length < 8796093022208 then (tocsinlaw18_AggBounds.l0 k x0 x1 (x5 ++ [(⟨0, Int.tmod ((rd_T30 x0 x6).f1) 1000000000000⟩ : S30)]) (wrap64 (x6 + 1))) else (none)) else (none)) else (tocsinlaw18_AggBounds.l1 k x0 x1 x5 0)
def tocsinlaw18_AggBounds.l1 : Nat → List (S30) → List (S30) → List (S30) → Int → Option (Bool)
  | 0, _, _, _, _ => none
  | k + 1, x0, x1, x5, x7 => if x7 < (x1.length : Int) then (if 0 ≤ x7 then (if x5.length < 8796093022208 then (tocsinlaw18_AggBounds.l1 k x0 x1 (x5 ++ [(⟨0, Int.tmod ((rd_T30 x1 x7).f1) 1000000000000⟩ : S30)]) (wrap64 (x7 + 1))) else (none)) else (none)) else ((agg_Of.f 2 x5).bind fun bt144 => ((agg_Of.f 3 x5).bind fun bt146 => ((agg_Of.f 4 x5).bind fun bt148 => (if bt144.2 = true then (if bt146.2 = true then (if bt148.2 = true then (if bt144.1 > bt148.1 then (tocsinlaw18_AggBounds.j3 k x0 x5 bt144.1 bt146.1 true) else (tocsinlaw18_AggBounds.j3 k x0 x5 bt144.1 bt146.1 (decide (bt148.1 > bt146.1)))) else (tocsinlaw18_AggBounds.j3 k x0 x5 bt144.1 bt146.1 true)) else (tocsinlaw18_AggBounds.j3 k x0 x5 bt144.1 bt146.1 true)) else (tocsinlaw18_AggBounds.j3 k x0 x5 bt144.1 bt146.1 true)))))
def tocsinlaw18_AggBounds.j3 : Nat → List (S30) → List (S30) → Int → Int → Bool → Option (Bool)
  | 0, _, _, _, _, _ => none
  | k + 1, x0, x5, x8, x10, x111 => if x111 = true then (some false) else (tocsinlaw18_AggBounds.l2 k x0 x5 x8 x10 0 0)
def tocsinlaw18_AggBounds.l2 : Nat → List (S30) → List (S30) → Int → Int → Int → Int → Option (Bool)
  | 0, _, _, _, _, _, _ => none
  | k + 1, x0, x5, x8, x10, x14, x15 => if x15 < (x5.length : Int) then (if 0 ≤ x15 then (if ((rd_T30 x5 x15).f1) < x8 then (tocsinlaw18_AggBounds.j5 k x0 x5 x8 x10 x14 x15 true) else (tocsinlaw18_AggBounds.j5 k x0 x5 x8 x10 x14 x15 (decide (((rd_T30 x5 x15).f1) > x10)))) else (none)) else ((agg_Of.f 0 x5).bind fun bt155 => ((agg_Of.f 5 x5).bind fun bt157 => ((agg_Of.f 1 x5).bind fun bt159 => (if 0 ≤ (x0.length : Int) then (if (x0.length : Int) ≤ (x5.length : Int) then ((agg_Of.f 1 (x5.take ((x0.length : Int) : Int).toNat)).bind fun bt165 => ((agg_Of.f 1 (x5.drop ((x0.length : Int) : Int).toNat)).bind fun bt171 => (if x14 = 3 then (if bt155.1 = (wrap64 (1000 * (x5.length : Int))) then (if 0 ≤ (wrap64 ((x5.length : Int) - 1)) then (if (wrap64 ((x5.length : Int) - 1)) < (x5.length : Int) then (if bt157.1 = ((rd_T30 x5 (wrap64 ((x5.length : Int) - 1))).f1) then (if bt159.1 = (wrap64 (bt165.1 + bt171.1)) then ((tocsinlaw18_awake.f).bind fun t174 => (some t174)) else (some false)) else (some false)) else (none)) else (none)) else (some false)) else (some false)))) else (none)) else (none)))))
def tocsinlaw18_AggBounds.j5 : Nat → List (S30) → List (S30) → Int → Int → Int → Int → Bool → Option (Bool)
  | 0, _, _, _, _, _, _, _ => none
  | k + 1, x0, x5, x8, x10, x14, x15, x133 => if x133 = true then (some false) else (if 0 ≤ x15 then (if x15 < (x5.length : Int) then (if ((rd_T30 x5 x15).f1) = x8 then (if ((rd_T30 x5 x15).f1) = x10 then (tocsinlaw18_AggBounds.l2 k x0 x5 x8 x10 (Go.bits .or .i64 (Go.bits .or .i64 x14 1) 2) (wrap64 (x15 + 1))) else (tocsinlaw18_AggBounds.l2 k x0 x5 x8 x10 (Go.bits .or .i64 x14 1) (wrap64 (x15 + 1)))) else (if ((rd_T30 x5 x15).f1) = x10 then (tocsinlaw18_AggBounds.l2 k x0 x5 x8 x10 (Go.bits .or .i64 x14 2) (wrap64 (x15 + 1))) else (tocsinlaw18_AggBounds.l2 k x0 x5 x8 x10 x14 (wrap64 (x15 + 1))))) else (none)) else (none))
end
def tocsinlaw18_AggBounds.f (k : Nat) (l0 : List (S30)) (l1 : List (S30)) : Option (Bool) := if (l0.length : Int) > 500 then (tocsinlaw18_AggBounds.j0 k l0 l1 true) else (if (l1.length : Int) > 500 then (tocsinlaw18_AggBounds.j0 k l0 l1 true) else (if (l0.length : Int) = 0 then (tocsinlaw18_AggBounds.j0 k l0 l1 true) else (tocsinlaw18_AggBounds.j0 k l0 l1 ((l1.length : Int) == 0))))
theorem tocsinlaw18_AggBounds.mono_l : ∀ k, (∀ y0 y1 y2, LeO (tocsinlaw18_AggBounds.j0 k y0 y1 y2) (tocsinlaw18_AggBounds.j0 (k + 1) y0 y1 y2)) ∧ (∀ y0 y1 y2 y3, LeO (tocsinlaw18_AggBounds.l0 k y0 y1 y2 y3) (tocsinlaw18_AggBounds.l0 (k + 1) y0 y1 y2 y3)) ∧ (∀ y0 y1 y2 y3, LeO (tocsinlaw18_AggBounds.l1 k y0 y1 y2 y3) (tocsinlaw18_AggBounds.l1 (k + 1) y0 y1 y2 y3)) ∧ (∀ y0 y1 y2 y3 y4, LeO (tocsinlaw18_AggBounds.j3 k y0 y1 y2 y3 y4) (tocsinlaw18_AggBounds.j3 (k + 1) y0 y1 y2 y3 y4)) ∧ (∀ y0 y1 y2 y3 y4 y5, LeO (tocsinlaw18_AggBounds.l2 k y0 y1 y2 y3 y4 y5) (tocsinlaw18_AggBounds.l2 (k + 1) y0 y1 y2 y3 y4 y5)) ∧ (∀ y0 y1 y2 y3 y4 y5 y6, LeO (tocsinlaw18_AggBounds.j5 k y0 y1 y2 y3 y4 y5 y6) (tocsinlaw18_AggBounds.j5 (k + 1) y0 y1 y2 y3 y4 y5 y6))
  | 0 => ⟨fun _ _ _ r h => by simp [tocsinlaw18_AggBounds.j0] at h, fun _ _ _ _ r h => by simp [tocsinlaw18_AggBounds.l0] at h, fun _ _ _ _ r h => by simp [tocsinlaw18_AggBounds.l1] at h, fun _ _ _ _ _ r h => by simp [tocsinlaw18_AggBounds.j3] at h, fun _ _ _ _ _ _ r h => by simp [tocsinlaw18_AggBounds.l2] at h, fun _ _ _ _ _ _ _ r h => by simp [tocsinlaw18_AggBounds.j5] at h⟩
  | k + 1 => by
    obtain ⟨ih0, ih1, ih2, ih3, ih4, ih5⟩ := tocsinlaw18_AggBounds.mono_l k
    refine ⟨?_, ?_, ?_, ?_, ?_, ?_⟩
    · intro y0 y1 y2
      unfold tocsinlaw18_AggBounds.j0
      repeat' first
      | (with_reducible exact ih0 _ _ _)
      | (with_reducible exact ih1 _ _ _ _)
      | (with_reducible exact ih2 _ _ _ _)
      | (with_reducible exact ih3 _ _ _ _ _)
      | (with_reducible exact ih4 _ _ _ _ _ _)
      | (with_reducible exact ih5 _ _ _ _ _ _ _)
      | (with_reducible exact LeO.refl _)
      | (with_reducible exact LeO.none _)
      | (with_reducible refine LeO.ite ?_ ?_)
      | (with_reducible refine LeO.bind ?_ (fun _ => ?_))
      | exact ih0 _ _ _
      | exact ih1 _ _ _ _
      | exact ih2 _ _ _ _
      | exact ih3 _ _ _ _ _
      | exact ih4 _ _ _ _ _ _
      | exact ih5 _ _ _ _ _ _ _
      | exact LeO.none _
      | refine LeO.ite ?_ ?_
      | refine LeO.bind ?_ (fun _ => ?_)
    · intro y0 y1 y2 y3
      unfold tocsinlaw18_AggBounds.l0
      repeat' first
      | (with_reducible exact ih0 _ _ _)
      | (with_reducible exact ih1 _ _ _ _)
      | (with_reducible exact ih2 _ _ _ _)
      | (with_reducible exact ih3 _ _ _ _ _)
      | (with_reducible exact ih4 _ _ _ _ _ _)
      | (with_reducible exact ih5 _ _ _ _ _ _ _)
      | (with_reducible exact LeO.refl _)
      | (with_reducible exact LeO.none _)
      | (with_reducible refine LeO.ite ?_ ?_)
      | (with_reducible refine LeO.bind ?_ (fun _ => ?_))
      | exact ih0 _ _ _
      | exact ih1 _ _ _ _
      | exact ih2 _ _ _ _
      | exact ih3 _ _ _ _ _
      | exact ih4 _ _ _ _ _ _
      | exact ih5 _ _ _ _ _ _ _
      | exact LeO.none _
      | refine LeO.ite ?_ ?_
      | refine LeO.bind ?_ (fun _ => ?_)
    · intro y0 y1 y2 y3
      unfold tocsinlaw18_AggBounds.l1
      repeat' first
      | (with_reducible exact ih0 _ _ _)
      | (with_reducible exact ih1 _ _ _ _)
      | (with_reducible exact ih2 _ _ _ _)
      | (with_reducible exact ih3 _ _ _ _ _)
      | (with_reducible exact ih4 _ _ _ _ _ _)
      | (with_reducible exact ih5 _ _ _ _ _ _ _)
      | (with_reducible exact LeO.refl _)
      | (with_reducible exact LeO.none _)
      | (with_reducible refine LeO.ite ?_ ?_)
      | (with_reducible refine LeO.bind ?_ (fun _ => ?_))
      | exact ih0 _ _ _
      | exact ih1 _ _ _ _
      | exact ih2 _ _ _ _
      | exact ih3 _ _ _ _ _
      | exact ih4 _ _ _ _ _ _
      | exact ih5 _ _ _ _ _ _ _
      | exact LeO.none _
      | refine LeO.ite ?_ ?_
      | refine LeO.bind ?_ (fun _ => ?_)
    · intro y0 y1 y2 y3 y4
      unfold tocsinlaw18_AggBounds.j3
      repeat' first
      | (with_reducible exact ih0 _ _ _)
      | (with_reducible exact ih1 _ _ _ _)
      | (with_reducible exact ih2 _ _ _ _)
      | (with_reducible exact ih3 _ _ _ _ _)
      | (with_reducible exact ih4 _ _ _ _ _ _)
      | (with_reducible exact ih5 _ _ _ _ _ _ _)
      | (with_reducible exact LeO.refl _)
      | (with_reducible exact LeO.none _)
      | (with_reducible refine LeO.ite ?_ ?_)
      | (with_reducible refine LeO.bind ?_ (fun _ => ?_))
      | exact ih0 _ _ _
      | exact ih1 _ _ _ _
      | exact ih2 _ _ _ _
      | exact ih3 _ _ _ _ _
      | exact ih4 _ _ _ _ _ _
      | exact ih5 _ _ _ _ _ _ _
      | exact LeO.none _
      | refine LeO.ite ?_ ?_
      | refine LeO.bind ?_ (fun _ => ?_)
    · intro y0 y1 y2 y3 y4 y5
      unfold tocsinlaw18_AggBounds.l2
      repeat' first
      | (with_reducible exact ih0 _ _ _)
      | (with_reducible exact ih1 _ _ _ _)
      | (with_reducible exact ih2 _ _ _ _)
      | (with_reducible exact ih3 _ _ _ _ _)
      | (with_reducible exact ih4 _ _ _ _ _ _)
      | (with_reducible exact ih5 _ _ _ _ _ _ _)
      | (with_reducible exact LeO.refl _)
      | (with_reducible exact LeO.none _)
      | (with_reducible refine LeO.ite ?_ ?_)
      | (with_reducible refine LeO.bind ?_ (fun _ => ?_))
      | exact ih0 _ _ _
      | exact ih1 _ _ _ _
      | exact ih2 _ _ _ _
      | exact ih3 _ _ _ _ _
      | exact ih4 _ _ _ _ _ _
      | exact ih5 _ _ _ _ _ _ _
      | exact LeO.none _
      | refine LeO.ite ?_ ?_
      | refine LeO.bind ?_ (fun _ => ?_)
    · intro y0 y1 y2 y3 y4 y5 y6
      unfold tocsinlaw18_AggBounds.j5
      repeat' first
      | (with_reducible exact ih0 _ _ _)
      | (with_reducible exact ih1 _ _ _ _)
      | (with_reducible exact ih2 _ _ _ _)
      | (with_reducible exact ih3 _ _ _ _ _)
      | (with_reducible exact ih4 _ _ _ _ _ _)
      | (with_reducible exact ih5 _ _ _ _ _ _ _)
      | (with_reducible exact LeO.refl _)
      | (with_reducible exact LeO.none _)
      | (with_reducible refine LeO.ite ?_ ?_)
      | (with_reducible refine LeO.bind ?_ (fun _ => ?_))
      | exact ih0 _ _ _
      | exact ih1 _ _ _ _
      | exact ih2 _ _ _ _
      | exact ih3 _ _ _ _ _
      | exact ih4 _ _ _ _ _ _
      | exact ih5 _ _ _ _ _ _ _
      | exact LeO.none _
      | refine LeO.ite ?_ ?_
      | refine LeO.bind ?_ (fun _ => ?_)
theorem tocsinlaw18_AggBounds.mono : ∀ a0 a1 k, LeO (tocsinlaw18_AggBounds.f k a0 a1) (tocsinlaw18_AggBounds.f (k + 1) a0 a1) := by
  intro a0 a1 k
  obtain ⟨ih0, ih1, ih2, ih3, ih4, ih5⟩ := tocsinlaw18_AggBounds.mono_l k
  unfold tocsinlaw18_AggBounds.f
  repeat' first
      | (with_reducible exact ih0 _ _ _)
      | (with_reducible exact ih1 _ _ _ _)
      | (with_reducible exact ih2 _ _ _ _)
      | (with_reducible exact ih3 _ _ _ _ _)
      | (with_reducible exact ih4 _ _ _ _ _ _)
      | (with_reducible exact ih5 _ _ _ _ _ _ _)
      | (with_reducible exact LeO.refl _)
      | (with_reducible exact LeO.none _)
      | (with_reducible refine LeO.ite ?_ ?_)
      | (with_reducible refine LeO.bind ?_ (fun _ => ?_))
      | exact ih0 _ _ _
      | exact ih1 _ _ _ _
      | exact ih2 _ _ _ _
      | exact ih3 _ _ _ _ _
      | exact ih4 _ _ _ _ _ _
      | exact ih5 _ _ _ _ _ _ _
      | exact LeO.none _
      | refine LeO.ite ?_ ?_
      | refine LeO.bind ?_ (fun _ => ?_)
set_option maxHeartbeats 8000000 in
set_option maxRecDepth 100000 in
theorem tocsinlaw18_AggBounds.calls (k : Nat) (A0 : Option Addr) (c0 : Nat) (l0 : List (S30)) (A1 : Option Addr) (c1 : Nat) (l1 : List (S30)) (r : Bool) (w : World) (hr0 : Kd.C k30 w A0 l0.length l0) (hc0 : l0.length ≤ c0) (hr1 : Kd.C k30 w A1 l1.length l1) (hc1 : l1.length ≤ c1) (h : tocsinlaw18_AggBounds.f k l0 l1 = some r) :
    Calls Try.prog 5 #[.slice A0 l0.length c0, .slice A1 l1.length c1] w fun e w' => e = .returned (.bool r) ∧ Below w.heap.size w w' := by
  have hu30 := Try.underlying30
  have HR0 := Aside0.mk hr0
  have HC0 := Aside0.mk hc0
  clear hr0 hc0
  have HR1 := Aside0.mk hr1
  have HC1 := Aside0.mk hc1
  clear hr1 hc1
  have HB := Aside0.mk (Below.refl w.heap.size w)
  have H : (if (l0.length : Int) > 500 then (tocsinlaw18_AggBounds.j0 k l0 l1 true) else (if (l1.length : Int) > 500 then (tocsinlaw18_AggBounds.j0 k l0 l1 true) else (if (l0.length : Int) = 0 then (tocsinlaw18_AggBounds.j0 k l0 l1 true) else (tocsinlaw18_AggBounds.j0 k l0 l1 ((l1.length : Int) == 0))))) = some r := h
  clear h
  have HC3 := Aside0.mk H
  clear H
  go_enter Try.func5, Try.ntmps5
  go_upto_region 1 with (fail)
  go_cut [43] (fun v43 wc => ∃ (kq : Nat) (x43_2 : Bool), v43 = .bool x43_2 ∧ Aside0 (tocsinlaw18_AggBounds.j0 kq l0 l1 x43_2 = some r) ∧ Aside0 (kq ≤ k) ∧ Aside0 (Below w.heap.size w wc))
  case first =>
    have H := HC3.out
    clear HC3
    by_cases c4 : (l0.length : Int) > 500
    · rw [if_pos c4] at H
      have c4b0 : decide (500 < (l0.length : Int)) = true := decide_eq_true c4
      have c4b1 : decide (500 < l0.length) = true := decide_eq_true (by omega)
      clear c4
      (first | rw [c4b0] | (simp only [i64_w, i32_w]; rw [c4b0]) | skip)
      have H' := Aside0.mk H
      clear H
      go_wp2
      go_meet
      case rel => exact ⟨_, (true), (by first | rfl | (simp; done) | (simp [*]; done)), H', ⟨by first | omega | exact Nat.le_refl _⟩, ⟨by repeat (first | (with_reducible first | exact HB.out | apply below_alloc | apply pw_below_drewN | apply below_drew1) | exact HB.out)⟩⟩
    · rw [if_neg c4] at H
      have c4b0 : decide (500 < (l0.length : Int)) = false := decide_eq_false c4
      have c4b1 : decide (500 < l0.length) = false := decide_eq_false (by omega)
      clear c4
      (first | rw [c4b0] | (simp only [i64_w, i32_w]; rw [c4b0]) | skip)
      by_cases c5 : (l1.length : Int) > 500
      · rw [if_pos c5] at H
        have c5b0 : decide (500 < (l1.length : Int)) = true := decide_eq_true c5
        have c5b1 : decide (500 < l1.length) = true := decide_eq_true (by omega)
        clear c5
        have H' := Aside0.mk H
        clear H
        go_wp2
        go_meet
        case rel => exact ⟨_, (true), (by first | rfl | (simp; done) | (simp [*]; done)), H', ⟨by first | omega | exact Nat.le_refl _⟩, ⟨by repeat (first | (with_reducible first | exact HB.out | apply below_alloc | apply pw_below_drewN | apply below_drew1) | exact HB.out)⟩⟩
      · rw [if_neg c5] at H
        have c5b0 : decide (500 < (l1.length : Int)) = false := decide_eq_false c5
        have c5b1 : decide (500 < l1.length) = false := decide_eq_false (by omega)
        clear c5
        by_cases c6 : (l0.length : Int) = 0
        · rw [if_pos c6] at H
          have c6b0 : ((l0.length : Int) == 0) = true := beq_iff_eq.mpr c6
          have c6b1 : ((l0.length : Int) != 0) = false := bne_eq_false_iff_eq.mpr c6
          clear c6
          have H' := Aside0.mk H
          clear H
          go_wp2
          go_meet
          case rel => exact ⟨_, (true), (by first | rfl | (simp; done) | (simp [*]; done)), H', ⟨by first | omega | exact Nat.le_refl _⟩, ⟨by repeat (first | (with_reducible first | exact HB.out | apply below_alloc | apply pw_below_drewN | apply below_drew1) | exact HB.out)⟩⟩
        · rw [if_neg c6] at H
          have c6b0 : ((l0.length : Int) == 0) = false := beq_eq_false_iff_ne.mpr c6
          have c6b1 : ((l0.length : Int) != 0) = true := bne_iff_ne.mpr c6
          have c6b2 : ¬ (l0 = []) := fun h_ => c6 (by rw [h_]; rfl)
          have H' := Aside0.mk H
          clear H
          go_wp2
          go_meet
          case rel => exact ⟨_, (((l1.length : Int) == 0)), (by first | rfl | (simp; done) | (simp [*]; done)), H', ⟨by first | omega | exact Nat.le_refl _⟩, ⟨by repeat (first | (with_reducible first | exact HB.out | apply below_alloc | apply pw_below_drewN | apply below_drew1) | exact HB.out)⟩⟩
  case rest =>
    clear HC3
    try clear c1
    try clear p2
    try clear c4
    try clear c4b0
    try clear c4b1
    try clear c5
    try clear c5b0
    try clear c5b1
    try clear c6
    try clear c6b0
    try clear c6b1
    try clear c6b2
    obtain ⟨kq, x43_2, rfl, HA, HJ2, HB⟩ := hcut
    cases kq with
    | zero => exact absurd HA.out (by simp [tocsinlaw18_AggBounds.j0])
    | succ kj2 =>
      have H := HA.out
      clear HA
      simp only [tocsinlaw18_AggBounds.j0] at H
      by_cases c7 : x43_2 = true
      · subst c7
        have H1 : ((tocsinlaw18_awake.f).bind fun t135 => (some t135)) = some r := by rw [if_pos rfl] at H; exact H
        clear H
        have H := H1
        clear H1
        replace H := Option.bind_eq_some_iff.mp H
        obtain ⟨t135, A80, H⟩ := H
        replace H : (some t135) = some r := H
        have A8 := Aside0.mk A80
        clear A80
        obtain rfl := Option.some.inj H
        go_wp2_with (first | ((with_reducible refine gate_callee (f := 10) rfl ?_); refine goesL_ (some 44) rfl rfl Try.func10 (by kernel_rfl) rfl #[] rfl (by (try simp only [List.map_toArray, List.map_cons, List.map_nil]); first | done | rfl | (simp only [List.length_drop, List.length_take]; rfl)) ?_; (with_reducible refine (tocsinlaw18_awake.calls  t135 _ A8.out).mono ?_); rintro e w9 ⟨rfl, hb⟩; refine ⟨_, rfl, ?_⟩; have n0_ := Aside0.mk (below_step (by repeat (first | (with_reducible first | exact HB.out | apply below_alloc | apply pw_below_drewN | apply below_drew1) | exact HB.out)) hb); clear HB; have HB := n0_; clear n0_; (try clear hb); (try clear hb2); (try clear hk); (try clear hi)))
        go_ret
        exact ⟨by first | rfl | (simp [errW_none, errW_some] <;> rfl) | (simp [*, errW_none, errW_some] <;> rfl), by repeat (first | (with_reducible first | exact HB.out | apply below_alloc | apply pw_below_drewN | apply below_drew1) | exact HB.out)⟩
      · replace c7 := Bool.eq_false_iff.mpr c7
        subst c7
        have H1 : (tocsinlaw18_AggBounds.l0 kj2 l0 l1 ([] : List (S30)) 0) = some r := by rw [if_neg (show ¬ (false = true) by decide)] at H; exact H
        clear H
        have H := H1
        clear H1
        have H' := Aside0.mk H
        clear H
        go_wp2
        go_loopg [5, 6] kj2 (fun kq v5 v6 w' => ∃ (x5_2 : List (S30)) (x6_2 : Int), v6 = .int .i64 x6_2 ∧ Aside0 (tocsinlaw18_AggBounds.l0 kq l0 l1 x5_2 x6_2 = some r) ∧ Aside0 (kq ≤ kj2) ∧ Aside0 (Kd.R k30 30 w' w.heap.size (fun _ => True) v5 x5_2) ∧ Aside0 (Below w.heap.size w w'))
        case atStart => exact ⟨(([] : List (S30))), (0), (by first | rfl | (simp; done) | (simp [*]; done)), H', ⟨Nat.le_refl _⟩, ⟨by first | exact Kd.R_nil _ _ _ _ _ | exact Kd.N_nil _ _ _ _ _ | exact Kd.V_nil _ _ _ _ _ | exact Kd.Q_nil _ _ _ _ _ | exact Kd.S_nil _ _ _ _ _⟩, ⟨by repeat (first | (with_reducible first | exact HB.out | apply below_alloc | apply pw_below_drewN | apply below_drew1) | exact HB.out)⟩⟩
        case round =>
          as_aux_lemma =>
          clear H'
          try clear c1
          try clear p2
          try clear c4
          try clear c4b0
          try clear c4b1
          try clear c5
          try clear c5b0
          try clear c5b1
          try clear c6
          try clear c6b0
          try clear c6b1
          try clear c6b2
          try clear c7
          try clear p2
          obtain ⟨x5_2, x6_2, rfl, HA, HK2, HO_5, HB⟩ := hrel
          cases gk with
          | zero => exact absurd HA.out (by simp [tocsinlaw18_AggBounds.l0])
          | succ k2 =>
            have H := HA.out
            clear HA
            simp only [tocsinlaw18_AggBounds.l0] at H
            by_cases c10 : x6_2 < (l0.length : Int)
            · rw [if_pos c10] at H
              have c10b0 : decide (x6_2 < (l0.length : Int)) = true := decide_eq_true c10
              clear c10
              by_cases c11 : 0 ≤ x6_2
              · rw [if_pos c11] at H
                have c11b0 : decide (0 ≤ x6_2) = true := decide_eq_true c11
                clear c11
                by_cases c12 : x5_2.length < 8796093022208
                · rw [if_pos c12] at H
                  have LMc12 := Aside0.mk c12
                  clear c12
                  obtain ⟨y137, hy137⟩ : ∃ y_ : List (S30), y_ = (x5_2 ++ [(⟨0, Int.tmod ((rd_T30 l0 x6_2).f1) 1000000000000⟩ : S30)]) := ⟨_, rfl⟩
                  replace H : (tocsinlaw18_AggBounds.l0 k2 l0 l1 y137 (wrap64 (x6_2 + 1))) = some r := by first | (rw [hy137]; with_reducible exact H) | (have H2_ := (Option.bind_some _ _).symm.trans H; rw [hy137]; with_reducible exact H2_) | (have H2_ := (Option.bind_some _ _).symm.trans H; with_reducible exact H2_) | with_reducible exact H | (rw [hy137]; exact H) | exact H
                  have Ny137 := Aside0.mk hy137
                  clear hy137
                  have H' := Aside0.mk H
                  clear H
                  have p136 : 0 ≤ (x6_2 : Int) := of_decide_eq_true (by first | (with_reducible assumption) | assumption)
                  have q136 : x6_2 < (l0.length : Int) := of_decide_eq_true (by first | (with_reducible assumption) | assumption)
                  obtain ⟨ad136, e136, hx136_0, hx136_1⟩ := at_T30 HR0.out x6_2 p136 q136
                  cases e136
                  replace hx136_0 := (HB.out.cell (World.block_lt_of_cell? w _ hx136_0)).trans hx136_0
                  replace hx136_1 := (HB.out.cell (World.block_lt_of_cell? w _ hx136_1)).trans hx136_1
                  replace p136 := eq_true p136
                  replace q136 := eq_true q136
                  go_wp2_with (first | ((with_reducible refine gate_builtin (b := .append) (xs := #[.tmp 51, .tmp 59]) rfl ?_); (try (refine gate_guard (by rfl) ?_; dsimp only)); at_builtin; refine Kd.R_append k30 (w0 := w) w.heap.size rfl (.tmp 51) (.tmp 59) 22 30 (.agg #[(.int .i64 0), (.int .i64 0)]) 16 rfl Try.underlying22 info30 rfl (by decide) (by omega) u5 x5_2 (⟨0, Int.tmod ((rd_T30 l0 x6_2).f1) 1000000000000⟩ : S30) [.int .i64 0, .int .i64 (Int.tmod ((rd_T30 l0 x6_2).f1) 1000000000000)] (fun _ => True) (fun _ => False) rfl rfl ?aP (fun _ hk => hk.elim) ?aF ?aO ?aB ?aS ?aL ?_; (case aP => exact k30_mkM _ _ _ (⟨0, Int.tmod ((rd_T30 l0 x6_2).f1) 1000000000000⟩ : S30)); (case aB => exact (by repeat (first | (with_reducible first | exact HB.out | apply below_alloc | apply pw_below_drewN | apply below_drew1) | exact HB.out))); (case aF => exact (fun _ _ => trivial)); (case aO => exact (by (with_reducible repeat (first | apply Kd.R_alloc | apply Kd.R_drewN | apply Kd.R_drew)); exact HO_5.out)); (case aS => exact (below_size (by repeat (first | (with_reducible first | exact HB.out | apply below_alloc | apply pw_below_drewN | apply below_drew1) | exact HB.out)))); (case aL => have := LMc12.out; omega); intro v138 w13 ho hb hg hat; rw [← Ny137.out] at ho; have n0_ := Aside0.mk (hb); have n1_ := Aside0.mk (ho); clear HB; clear HO_5; have HB := n0_; have HO139 := n1_; clear n0_ n1_; clear ho hb hg hat))
                  go_roundg k2
                  case measure => have := HJ2.out; have := HK2.out; omega
                  case rel => exact ⟨(y137), (wrap64 (x6_2 + 1)), (by first | rfl | (simp; done) | (simp [*]; done)), H', ⟨by have := HJ2.out; have := HK2.out; omega⟩, ⟨by (with_reducible repeat (first | apply Kd.R_alloc | apply Kd.R_drewN | apply Kd.R_drew)); exact HO139.out⟩, ⟨by repeat (first | (with_reducible first | exact HB.out | apply below_alloc | apply pw_below_drewN | apply below_drew1) | exact HB.out)⟩⟩
                · rw [if_neg c12] at H
                  exact absurd H (by simp)
              · rw [if_neg c11] at H
                exact absurd H (by simp)
            · rw [if_neg c10] at H
              have c10b0 : decide (x6_2 < (l0.length : Int)) = false := decide_eq_false c10
              clear c10
              have H' := Aside0.mk H
              clear H
              go_wp2
              go_loopg [5, 7] k2 (fun kq v5 v7 w' => ∃ (x5_3 : List (S30)) (x7_3 : Int), v7 = .int .i64 x7_3 ∧ Aside0 (tocsinlaw18_AggBounds.l1 kq l0 l1 x5_3 x7_3 = some r) ∧ Aside0 (kq ≤ k2) ∧ Aside0 (Kd.R k30 30 w' w.heap.size (fun _ => True) v5 x5_3) ∧ Aside0 (Below w.heap.size w w'))
              case atStart => exact ⟨(x5_2), (0), (by first | rfl | (simp; done) | (simp [*]; done)), H', ⟨Nat.le_refl _⟩, ⟨by (with_reducible repeat (first | apply Kd.R_alloc | apply Kd.R_drewN | apply Kd.R_drew)); exact HO_5.out⟩, ⟨by repeat (first | (with_reducible first | exact HB.out | apply below_alloc | apply pw_below_drewN | apply below_drew1) | exact HB.out)⟩⟩
              case round =>
                as_aux_lemma =>
                clear H'
                try clear c1
                try clear p1
                try clear q1
                try clear hx1
                try clear p2
                try clear c4
                try clear c4b0
                try clear c4b1
                try clear c5
                try clear c5b0
                try clear c5b1
                try clear c6
                try clear c6b0
                try clear c6b1
                try clear c6b2
                try clear p6
                try clear c7
                try clear c10
                try clear c10b0
                try clear c11
                try clear c11b0
                try clear c12
                try clear p13
                try clear q13
                try clear hx13
                try clear hx136_0
                try clear hx136_1
                try clear p136
                try clear p2
                try clear q136
                obtain ⟨x5_3, x7_3, rfl, HA, HK3, HO_5, HB⟩ := hrel
                cases gk with
                | zero => exact absurd HA.out (by simp [tocsinlaw18_AggBounds.l1])
                | succ k3 =>
                  have H := HA.out
                  clear HA
                  simp only [tocsinlaw18_AggBounds.l1] at H
                  by_cases c14 : x7_3 < (l1.length : Int)
                  · rw [if_pos c14] at H
                    have c14b0 : decide (x7_3 < (l1.length : Int)) = true := decide_eq_true c14
                    clear c14
                    by_cases c15 : 0 ≤ x7_3
                    · rw [if_pos c15] at H
                      have c15b0 : decide (0 ≤ x7_3) = true := decide_eq_true c15
                      clear c15
                      by_cases c16 : x5_3.length < 8796093022208
                      · rw [if_pos c16] at H
                        have LMc16 := Aside0.mk c16
                        clear c16
                        obtain ⟨y141, hy141⟩ : ∃ y_ : List (S30), y_ = (x5_3 ++ [(⟨0, Int.tmod ((rd_T30 l1 x7_3).f1) 1000000000000⟩ : S30)]) := ⟨_, rfl⟩
                        replace H : (tocsinlaw18_AggBounds.l1 k3 l0 l1 y141 (wrap64 (x7_3 + 1))) = some r := by first | (rw [hy141]; with_reducible exact H) | (have H2_ := (Option.bind_some _ _).symm.trans H; rw [hy141]; with_reducible exact H2_) | (have H2_ := (Option.bind_some _ _).symm.trans H; with_reducible exact H2_) | with_reducible exact H | (rw [hy141]; exact H) | exact H
                        have Ny141 := Aside0.mk hy141
                        clear hy141
                        have H' := Aside0.mk H
                        clear H
                        have p140 : 0 ≤ (x7_3 : Int) := of_decide_eq_true (by first | (with_reducible assumption) | assumption)
                        have q140 : x7_3 < (l1.length : Int) := of_decide_eq_true (by first | (with_reducible assumption) | assumption)
                        obtain ⟨ad140, e140, hx140_0, hx140_1⟩ := at_T30 HR1.out x7_3 p140 q140
                        cases e140
                        replace hx140_0 := (HB.out.cell (World.block_lt_of_cell? w _ hx140_0)).trans hx140_0
                        replace hx140_1 := (HB.out.cell (World.block_lt_of_cell? w _ hx140_1)).trans hx140_1
                        replace p140 := eq_true p140
                        replace q140 := eq_true q140
                        go_wp2_with (first | ((with_reducible refine gate_builtin (b := .append) (xs := #[.tmp 67, .tmp 75]) rfl ?_); (try (refine gate_guard (by rfl) ?_; dsimp only)); at_builtin; refine Kd.R_append k30 (w0 := w) w.heap.size rfl (.tmp 67) (.tmp 75) 22 30 (.agg #[(.int .i64 0), (.int .i64 0)]) 16 rfl Try.underlying22 info30 rfl (by decide) (by omega) u5 x5_3 (⟨0, Int.tmod ((rd_T30 l1 x7_3).f1) 1000000000000⟩ : S30) [.int .i64 0, .int .i64 (Int.tmod ((rd_T30 l1 x7_3).f1) 1000000000000)] (fun _ => True) (fun _ => False) rfl rfl ?aP (fun _ hk => hk.elim) ?aF ?aO ?aB ?aS ?aL ?_; (case aP => exact k30_mkM _ _ _ (⟨0, Int.tmod ((rd_T30 l1 x7_3).f1) 1000000000000⟩ : S30)); (case aB => exact (by repeat (first | (with_reducible first | exact HB.out | apply below_alloc | apply pw_below_drewN | apply below_drew1) | exact HB.out))); (case aF => exact (fun _ _ => trivial)); (case aO => exact (by (with_reducible repeat (first | apply Kd.R_alloc | apply Kd.R_drewN | apply Kd.R_drew)); exact HO_5.out)); (case aS => exact (below_size (by repeat (first | (with_reducible first | exact HB.out | apply below_alloc | apply pw_below_drewN | apply below_drew1) | exact HB.out)))); (case aL => have := LMc16.out; omega); intro v142 w17 ho hb hg hat; rw [← Ny141.out] at ho; have n0_ := Aside0.mk (hb); have n1_ := Aside0.mk (ho); clear HB; clear HO_5; have HB := n0_; have HO143 := n1_; clear n0_ n1_; clear ho hb hg hat))
                        go_roundg k3
                        case measure => have := HJ2.out; have := HK2.out; have := HK3.out; omega
                        case rel => exact ⟨(y141), (wrap64 (x7_3 + 1)), (by first | rfl | (simp; done) | (simp [*]; done)), H', ⟨by have := HJ2.out; have := HK2.out; have := HK3.out; omega⟩, ⟨by (with_reducible repeat (first | apply Kd.R_alloc | apply Kd.R_drewN | apply Kd.R_drew)); exact HO143.out⟩, ⟨by repeat (first | (with_reducible first | exact HB.out | apply below_alloc | apply pw_below_drewN | apply below_drew1) | exact HB.out)⟩⟩
                      · rw [if_neg c16] at H
                        exact absurd H (by simp)
                    · rw [if_neg c15] at H
                      exact absurd H (by simp)
                  · rw [if_neg c14] at H
                    have c14b0 : decide (x7_3 < (l1.length : Int)) = false := decide_eq_false c14
                    clear c14
                    replace H := Option.bind_eq_some_iff.mp H
                    obtain ⟨⟨t144, t145⟩, A180, H⟩ := H
                    replace H : ((agg_Of.f 3 x5_3).bind fun bt146 => ((agg_Of.f 4 x5_3).bind fun bt148 => (if t145 = true then (if bt146.2 = true then (if bt148.2 = true then (if t144 > bt148.1 then (tocsinlaw18_AggBounds.j3 k3 l0 x5_3 t144 bt146.1 true) else (tocsinlaw18_AggBounds.j3 k3 l0 x5_3 t144 bt146.1 (decide (bt148.1 > bt146.1)))) else (tocsinlaw18_AggBounds.j3 k3 l0 x5_3 t144 bt146.1 true)) else (tocsinlaw18_AggBounds.j3 k3 l0 x5_3 t144 bt146.1 true)) else (tocsinlaw18_AggBounds.j3 k3 l0 x5_3 t144 bt146.1 true)))) = some r := H
                    have A18 := Aside0.mk A180
                    clear A180
                    replace H := Option.bind_eq_some_iff.mp H
                    obtain ⟨⟨t146, t147⟩, A190, H⟩ := H
                    replace H : ((agg_Of.f 4 x5_3).bind fun bt148 => (if t145 = true then (if t147 = true then (if bt148.2 = true then (if t144 > bt148.1 then (tocsinlaw18_AggBounds.j3 k3 l0 x5_3 t144 t146 true) else (tocsinlaw18_AggBounds.j3 k3 l0 x5_3 t144 t146 (decide (bt148.1 > t146)))) else (tocsinlaw18_AggBounds.j3 k3 l0 x5_3 t144 t146 true)) else (tocsinlaw18_AggBounds.j3 k3 l0 x5_3 t144 t146 true)) else (tocsinlaw18_AggBounds.j3 k3 l0 x5_3 t144 t146 true))) = some r := H
                    have A19 := Aside0.mk A190
                    clear A190
                    replace H := Option.bind_eq_some_iff.mp H
                    obtain ⟨⟨t148, t149⟩, A200, H⟩ := H
                    replace H : (if t145 = true then (if t147 = true then (if t149 = true then (if t144 > t148 then (tocsinlaw18_AggBounds.j3 k3 l0 x5_3 t144 t146 true) else (tocsinlaw18_AggBounds.j3 k3 l0 x5_3 t144 t146 (decide (t148 > t146)))) else (tocsinlaw18_AggBounds.j3 k3 l0 x5_3 t144 t146 true)) else (tocsinlaw18_AggBounds.j3 k3 l0 x5_3 t144 t146 true)) else (tocsinlaw18_AggBounds.j3 k3 l0 x5_3 t144 t146 true)) = some r := H
                    have A20 := Aside0.mk A200
                    clear A200
                    have HC21 := Aside0.mk H
                    clear H
                    obtain ⟨Ao22, co22, eo22⟩ := Kd.R_slice HO_5.out
                    subst eo22
                    go_upto_region 15 with (first | ((with_reducible refine gate_callee (f := 7) rfl ?_); refine goesL_ (some 79) rfl rfl Try.func7 (by kernel_rfl) rfl #[.int .u8 2, .slice Ao22 x5_3.length co22] rfl (by (try simp only [List.map_toArray, List.map_cons, List.map_nil]); first | done | rfl | (simp only [List.length_drop, List.length_take]; rfl)) ?_; (with_reducible refine (agg_Of.calls 2 _ _ x5_3 t144 t145 _ ?side1 ?side2 A18.out).mono ?_); (case side1 => repeat (first | exact (Kd.R_reads' HO_5.out).2.2 | (with_reducible refine Kd.C_alloc ?_ _) | (with_reducible refine Kd.C_drewN ?_ _) | (with_reducible refine Kd.C_drew ?_))); (case side2 => exact (Kd.R_reads' HO_5.out).2.1); rintro e w23 ⟨rfl, hb⟩; refine ⟨_, rfl, ?_⟩; have n0_ := Aside0.mk (Kd.R_below (by (with_reducible repeat (first | apply Kd.R_alloc | apply Kd.R_drewN | apply Kd.R_drew)); exact HO_5.out) hb); have n1_ := Aside0.mk (below_step (by repeat (first | (with_reducible first | exact HB.out | apply below_alloc | apply pw_below_drewN | apply below_drew1) | exact HB.out)) hb); clear HO_5; clear HB; have HO_5 := n0_; have HB := n1_; clear n0_ n1_; (try clear hb); (try clear hb2); (try clear hk); (try clear hi)) | ((with_reducible refine gate_callee (f := 7) rfl ?_); refine goesL_ (some 84) rfl rfl Try.func7 (by kernel_rfl) rfl #[.int .u8 3, .slice Ao22 x5_3.length co22] rfl (by (try simp only [List.map_toArray, List.map_cons, List.map_nil]); first | done | rfl | (simp only [List.length_drop, List.length_take]; rfl)) ?_; (with_reducible refine (agg_Of.calls 3 _ _ x5_3 t146 t147 _ ?side1 ?side2 A19.out).mono ?_); (case side1 => repeat (first | exact (Kd.R_reads' HO_5.out).2.2 | (with_reducible refine Kd.C_alloc ?_ _) | (with_reducible refine Kd.C_drewN ?_ _) | (with_reducible refine Kd.C_drew ?_))); (case side2 => exact (Kd.R_reads' HO_5.out).2.1); rintro e w24 ⟨rfl, hb⟩; refine ⟨_, rfl, ?_⟩; have n0_ := Aside0.mk (Kd.R_below (by (with_reducible repeat (first | apply Kd.R_alloc | apply Kd.R_drewN | apply Kd.R_drew)); exact HO_5.out) hb); have n1_ := Aside0.mk (below_step (by repeat (first | (with_reducible first | exact HB.out | apply below_alloc | apply pw_below_drewN | apply below_drew1) | exact HB.out)) hb); clear HO_5; clear HB; have HO_5 := n0_; have HB := n1_; clear n0_ n1_; (try clear hb); (try clear hb2); (try clear hk); (try clear hi)) | ((with_reducible refine gate_callee (f := 7) rfl ?_); refine goesL_ (some 89) rfl rfl Try.func7 (by kernel_rfl) rfl #[.int .u8 4, .slice Ao22 x5_3.length co22] rfl (by (try simp only [List.map_toArray, List.map_cons, List.map_nil]); first | done | rfl | (simp only [List.length_drop, List.length_take]; rfl)) ?_; (with_reducible refine (agg_Of.calls 4 _ _ x5_3 t148 t149 _ ?side1 ?side2 A20.out).mono ?_); (case side1 => repeat (first | exact (Kd.R_reads' HO_5.out).2.2 | (with_reducible refine Kd.C_alloc ?_ _) | (with_reducible refine Kd.C_drewN ?_ _) | (with_reducible refine Kd.C_drew ?_))); (case side2 => exact (Kd.R_reads' HO_5.out).2.1); rintro e w25 ⟨rfl, hb⟩; refine ⟨_, rfl, ?_⟩; have n0_ := Aside0.mk (Kd.R_below (by (with_reducible repeat (first | apply Kd.R_alloc | apply Kd.R_drewN | apply Kd.R_drew)); exact HO_5.out) hb); have n1_ := Aside0.mk (below_step (by repeat (first | (with_reducible first | exact HB.out | apply below_alloc | apply pw_below_drewN | apply below_drew1) | exact HB.out)) hb); clear HO_5; clear HB; have HO_5 := n0_; have HB := n1_; clear n0_ n1_; (try clear hb); (try clear hb2); (try clear hk); (try clear hi)))
                    (try simp only [Act.put, List.setIfInBounds_toArray, List.set_cons_zero, List.set_cons_succ])
                    go_cut [111] (fun v111 wc => ∃ (kq : Nat) (x111_20 : Bool), v111 = .bool x111_20 ∧ Aside0 (tocsinlaw18_AggBounds.j3 kq l0 x5_3 t144 t146 x111_20 = some r) ∧ Aside0 (kq ≤ k3) ∧ Aside0 (Kd.R k30 30 wc w.heap.size (fun _ => True) (.slice Ao22 x5_3.length co22) x5_3) ∧ Aside0 (Below w.heap.size w wc))
                    case first =>
                      have H := HC21.out
                      clear HC21
                      by_cases c26 : t145 = true
                      · subst c26
                        have H1 : (if t147 = true then (if t149 = true then (if t144 > t148 then (tocsinlaw18_AggBounds.j3 k3 l0 x5_3 t144 t146 true) else (tocsinlaw18_AggBounds.j3 k3 l0 x5_3 t144 t146 (decide (t148 > t146)))) else (tocsinlaw18_AggBounds.j3 k3 l0 x5_3 t144 t146 true)) else (tocsinlaw18_AggBounds.j3 k3 l0 x5_3 t144 t146 true)) = some r := by rw [if_pos rfl] at H; exact H
                        clear H
                        have H := H1
                        clear H1
                        by_cases c27 : t147 = true
                        · subst c27
                          have H1 : (if t149 = true then (if t144 > t148 then (tocsinlaw18_AggBounds.j3 k3 l0 x5_3 t144 t146 true) else (tocsinlaw18_AggBounds.j3 k3 l0 x5_3 t144 t146 (decide (t148 > t146)))) else (tocsinlaw18_AggBounds.j3 k3 l0 x5_3 t144 t146 true)) = some r := by rw [if_pos rfl] at H; exact H
                          clear H
                          have H := H1
                          clear H1
                          by_cases c28 : t149 = true
                          · subst c28
                            have H1 : (if t144 > t148 then (tocsinlaw18_AggBounds.j3 k3 l0 x5_3 t144 t146 true) else (tocsinlaw18_AggBounds.j3 k3 l0 x5_3 t144 t146 (decide (t148 > t146)))) = some r := by rw [if_pos rfl] at H; exact H
                            clear H
                            have H := H1
                            clear H1
                            by_cases c29 : t144 > t148
                            · rw [if_pos c29] at H
                              have c29b0 : decide (t148 < t144) = true := decide_eq_true c29
                              clear c29
                              (first | rw [c29b0] | (simp only [i64_w, i32_w]; rw [c29b0]) | skip)
                              have H' := Aside0.mk H
                              clear H
                              go_wp2
                              go_meet
                              case rel => exact ⟨_, (true), (by first | rfl | (simp; done) | (simp [*]; done)), H', ⟨by have := HJ2.out; have := HK2.out; have := HK3.out; first | omega | exact Nat.le_refl _⟩, ⟨by (with_reducible repeat (first | apply Kd.R_alloc | apply Kd.R_drewN | apply Kd.R_drew)); exact HO_5.out⟩, ⟨by repeat (first | (with_reducible first | exact HB.out | apply below_alloc | apply pw_below_drewN | apply below_drew1) | exact HB.out)⟩⟩
                            · rw [if_neg c29] at H
                              have c29b0 : decide (t148 < t144) = false := decide_eq_false c29
                              clear c29
                              (first | rw [c29b0] | (simp only [i64_w, i32_w]; rw [c29b0]) | skip)
                              have H' := Aside0.mk H
                              clear H
                              go_wp2
                              go_meet
                              case rel => exact ⟨_, (decide (t148 > t146)), (by first | rfl | (simp; done) | (simp [*]; done)), H', ⟨by have := HJ2.out; have := HK2.out; have := HK3.out; first | omega | exact Nat.le_refl _⟩, ⟨by (with_reducible repeat (first | apply Kd.R_alloc | apply Kd.R_drewN | apply Kd.R_drew)); exact HO_5.out⟩, ⟨by repeat (first | (with_reducible first | exact HB.out | apply below_alloc | apply pw_below_drewN | apply below_drew1) | exact HB.out)⟩⟩
                          · replace c28 := Bool.eq_false_iff.mpr c28
                            subst c28
                            have H1 : (tocsinlaw18_AggBounds.j3 k3 l0 x5_3 t144 t146 true) = some r := by rw [if_neg (show ¬ (false = true) by decide)] at H; exact H
                            clear H
                            have H := H1
                            clear H1
                            have H' := Aside0.mk H
                            clear H
                            go_wp2
                            go_meet
                            case rel => exact ⟨_, (true), (by first | rfl | (simp; done) | (simp [*]; done)), H', ⟨by have := HJ2.out; have := HK2.out; have := HK3.out; first | omega | exact Nat.le_refl _⟩, ⟨by (with_reducible repeat (first | apply Kd.R_alloc | apply Kd.R_drewN | apply Kd.R_drew)); exact HO_5.out⟩, ⟨by repeat (first | (with_reducible first | exact HB.out | apply below_alloc | apply pw_below_drewN | apply below_drew1) | exact HB.out)⟩⟩
                        · replace c27 := Bool.eq_false_iff.mpr c27
                          subst c27
                          have H1 : (tocsinlaw18_AggBounds.j3 k3 l0 x5_3 t144 t146 true) = some r := by rw [if_neg (show ¬ (false = true) by decide)] at H; exact H
                          clear H
                          have H := H1
                          clear H1
                          have H' := Aside0.mk H
                          clear H
                          go_wp2
                          go_meet
                          case rel => exact ⟨_, (true), (by first | rfl | (simp; done) | (simp [*]; done)), H', ⟨by have := HJ2.out; have := HK2.out; have := HK3.out; first | omega | exact Nat.le_refl _⟩, ⟨by (with_reducible repeat (first | apply Kd.R_alloc | apply Kd.R_drewN | apply Kd.R_drew)); exact HO_5.out⟩, ⟨by repeat (first | (with_reducible first | exact HB.out | apply below_alloc | apply pw_below_drewN | apply below_drew1) | exact HB.out)⟩⟩
                      · replace c26 := Bool.eq_false_iff.mpr c26
                        subst c26
                        have H1 : (tocsinlaw18_AggBounds.j3 k3 l0 x5_3 t144 t146 true) = some r := by rw [if_neg (show ¬ (false = true) by decide)] at H; exact H
                        clear H
                        have H := H1
                        clear H1
                        have H' := Aside0.mk H
                        clear H
                        go_wp2
                        go_meet
                        case rel => exact ⟨_, (true), (by first | rfl | (simp; done) | (simp [*]; done)), H', ⟨by have := HJ2.out; have := HK2.out; have := HK3.out; first | omega | exact Nat.le_refl _⟩, ⟨by (with_reducible repeat (first | apply Kd.R_alloc | apply Kd.R_drewN | apply Kd.R_drew)); exact HO_5.out⟩, ⟨by repeat (first | (with_reducible first | exact HB.out | apply below_alloc | apply pw_below_drewN | apply below_drew1) | exact HB.out)⟩⟩
                    case rest =>
                      clear HC21
                      try clear c1
                      try clear p1
                      try clear q1
                      try clear hx1
                      try clear c2
                      try clear p2
                      try clear c4
                      try clear c4b0
                      try clear c4b1
                      try clear c5
                      try clear c5b0
                      try clear c5b1
                      try clear c6
                      try clear c6b0
                      try clear c6b1
                      try clear c6b2
                      try clear p6
                      try clear c7
                      try clear c10
                      try clear c10b0
                      try clear c11
                      try clear c11b0
                      try clear c12
                      try clear p13
                      try clear q13
                      try clear hx13
                      try clear c14
                      try clear c14b0
                      try clear p14
                      try clear q14
                      try clear hx14
                      try clear c15
                      try clear c15b0
                      try clear c16
                      try clear c26
                      try clear c27
                      try clear c28
                      try clear c29
                      try clear c29b0
                      try clear hx136_0
                      try clear hx136_1
                      try clear hx140_0
                      try clear hx140_1
                      try clear p1
                      try clear p13
                      try clear p136
                      try clear p140
                      try clear p2
                      try clear p6
                      try clear q1
                      try clear q13
                      try clear q136
                      try clear q140
                      obtain ⟨kq, x111_20, rfl, HA, HJ20, HO_5, HB⟩ := hcut
                      cases kq with
                      | zero => exact absurd HA.out (by simp [tocsinlaw18_AggBounds.j3])
                      | succ kj20 =>
                        have H := HA.out
                        clear HA
                        simp only [tocsinlaw18_AggBounds.j3] at H
                        by_cases c30 : x111_20 = true
                        · subst c30
                          have H1 : (some false) = some r := by rw [if_pos rfl] at H; exact H
                          clear H
                          have H := H1
                          clear H1
                          obtain rfl := Option.some.inj H
                          go_wp2
                          go_ret
                          exact ⟨by first | rfl | (simp [errW_none, errW_some] <;> rfl) | (simp [*, errW_none, errW_some] <;> rfl), by repeat (first | (with_reducible first | exact HB.out | apply below_alloc | apply pw_below_drewN | apply below_drew1) | exact HB.out)⟩
                        · replace c30 := Bool.eq_false_iff.mpr c30
                          subst c30
                          have H1 : (tocsinlaw18_AggBounds.l2 kj20 l0 x5_3 t144 t146 0 0) = some r := by rw [if_neg (show ¬ (false = true) by decide)] at H; exact H
                          clear H
                          have H := H1
                          clear H1
                          have H' := Aside0.mk H
                          clear H
                          go_wp2
                          go_loopg [14, 15] kj20 (fun kq v14 v15 w' => ∃ (x14_5 : Int) (x15_5 : Int), v14 = .int .i64 x14_5 ∧ v15 = .int .i64 x15_5 ∧ Aside0 (tocsinlaw18_AggBounds.l2 kq l0 x5_3 t144 t146 x14_5 x15_5 = some r) ∧ Aside0 (kq ≤ kj20) ∧ Aside0 (Kd.R k30 30 w' w.heap.size (fun _ => True) (.slice Ao22 x5_3.length co22) x5_3) ∧ Aside0 (Below w.heap.size w w'))
                          case atStart => exact ⟨(0), (0), (by first | rfl | (simp; done) | (simp [*]; done)), (by first | rfl | (simp; done) | (simp [*]; done)), H', ⟨Nat.le_refl _⟩, ⟨by (with_reducible repeat (first | apply Kd.R_alloc | apply Kd.R_drewN | apply Kd.R_drew)); exact HO_5.out⟩, ⟨by repeat (first | (with_reducible first | exact HB.out | apply below_alloc | apply pw_below_drewN | apply below_drew1) | exact HB.out)⟩⟩
                          case round =>
                            as_aux_lemma =>
                            clear H'
                            try clear c1
                            try clear p1
                            try clear q1
                            try clear hx1
                            try clear c2
                            try clear p2
                            try clear c3
                            try clear c4
                            try clear c4b0
                            try clear c4b1
                            try clear c5
                            try clear c5b0
                            try clear c5b1
                            try clear c6
                            try clear c6b0
                            try clear c6b1
                            try clear c6b2
                            try clear p6
                            try clear c7
                            try clear c10
                            try clear c10b0
                            try clear c11
                            try clear c11b0
                            try clear c12
                            try clear p13
                            try clear q13
                            try clear hx13
                            try clear c14
                            try clear c14b0
                            try clear p14
                            try clear q14
                            try clear hx14
                            try clear c15
                            try clear c15b0
                            try clear c16
                            try clear c26
                            try clear c27
                            try clear c28
                            try clear c29
                            try clear c29b0
                            try clear c30
                            try clear hx136_0
                            try clear hx136_1
                            try clear hx140_0
                            try clear hx140_1
                            try clear p1
                            try clear p13
                            try clear p136
                            try clear p14
                            try clear p140
                            try clear p2
                            try clear p6
                            try clear q1
                            try clear q13
                            try clear q136
                            try clear q14
                            try clear q140
                            obtain ⟨x14_5, x15_5, rfl, rfl, HA, HK5, HO_5, HB⟩ := hrel
                            cases gk with
                            | zero => exact absurd HA.out (by simp [tocsinlaw18_AggBounds.l2])
                            | succ k5 =>
                              have H := HA.out
                              clear HA
                              simp only [tocsinlaw18_AggBounds.l2] at H
                              by_cases c31 : x15_5 < (x5_3.length : Int)
                              · rw [if_pos c31] at H
                                have c31b0 : decide (x15_5 < (x5_3.length : Int)) = true := decide_eq_true c31
                                clear c31
                                have HC32 := Aside0.mk H
                                clear H
                                go_upto_region 21 with (fail)
                                go_cut [133] (fun v133 wc => ∃ (kq : Nat) (x133_31 : Bool), v133 = .bool x133_31 ∧ Aside0 (tocsinlaw18_AggBounds.j5 kq l0 x5_3 t144 t146 x14_5 x15_5 x133_31 = some r) ∧ Aside0 (kq ≤ k5) ∧ Aside0 (Kd.R k30 30 wc w.heap.size (fun _ => True) (.slice Ao22 x5_3.length co22) x5_3) ∧ Aside0 (Below w.heap.size w wc))
                                case first =>
                                  have H := HC32.out
                                  clear HC32
                                  by_cases c33 : 0 ≤ x15_5
                                  · rw [if_pos c33] at H
                                    have c33b0 : decide (0 ≤ x15_5) = true := decide_eq_true c33
                                    clear c33
                                    (first | rw [c33b0] | (simp only [i64_w, i32_w]; rw [c33b0]) | skip)
                                    by_cases c34 : ((rd_T30 x5_3 x15_5).f1) < t144
                                    · rw [if_pos c34] at H
                                      have c34b0 : decide (((rd_T30 x5_3 x15_5).f1) < t144) = true := decide_eq_true c34
                                      clear c34
                                      have H' := Aside0.mk H
                                      clear H
                                      have p150 : 0 ≤ (x15_5 : Int) := of_decide_eq_true (by first | (with_reducible assumption) | assumption)
                                      have q150 : x15_5 < (x5_3.length : Int) := of_decide_eq_true (by first | (with_reducible assumption) | assumption)
                                      obtain ⟨ad150, e150, hx150_0, hx150_1⟩ := at_T30 (Kd.R_reads' HO_5.out).2.2 x15_5 p150 q150
                                      cases e150
                                      replace p150 := eq_true p150
                                      replace q150 := eq_true q150
                                      go_wp2
                                      go_meet
                                      case rel => exact ⟨_, (true), (by first | rfl | (simp; done) | (simp [*]; done)), H', ⟨by have := HJ2.out; have := HK2.out; have := HK3.out; have := HJ20.out; have := HK5.out; first | omega | exact Nat.le_refl _⟩, ⟨by (with_reducible repeat (first | apply Kd.R_alloc | apply Kd.R_drewN | apply Kd.R_drew)); exact HO_5.out⟩, ⟨by repeat (first | (with_reducible first | exact HB.out | apply below_alloc | apply pw_below_drewN | apply below_drew1) | exact HB.out)⟩⟩
                                    · rw [if_neg c34] at H
                                      have c34b0 : decide (((rd_T30 x5_3 x15_5).f1) < t144) = false := decide_eq_false c34
                                      clear c34
                                      have H' := Aside0.mk H
                                      clear H
                                      have p150 : 0 ≤ (x15_5 : Int) := of_decide_eq_true (by first | (with_reducible assumption) | assumption)
                                      have q150 : x15_5 < (x5_3.length : Int) := of_decide_eq_true (by first | (with_reducible assumption) | assumption)
                                      obtain ⟨ad150, e150, hx150_0, hx150_1⟩ := at_T30 (Kd.R_reads' HO_5.out).2.2 x15_5 p150 q150
                                      cases e150
                                      replace p150 := eq_true p150
                                      replace q150 := eq_true q150
                                      have p151 : 0 ≤ (x15_5 : Int) := of_decide_eq_true (by first | (with_reducible assumption) | assumption)
                                      have q151 : x15_5 < (x5_3.length : Int) := of_decide_eq_true (by first | (with_reducible assumption) | assumption)
                                      obtain ⟨ad151, e151, hx151_0, hx151_1⟩ := at_T30 (Kd.R_reads' HO_5.out).2.2 x15_5 p151 q151
                                      obtain rfl : ad150 = ad151 := (by injection e151)
                                      replace p151 := eq_true p151
                                      replace q151 := eq_true q151
                                      go_wp2
                                      go_meet
                                      case rel => exact ⟨_, (decide (((rd_T30 x5_3 x15_5).f1) > t146)), (by first | rfl | (simp; done) | (simp [*]; done)), H', ⟨by have := HJ2.out; have := HK2.out; have := HK3.out; have := HJ20.out; have := HK5.out; first | omega | exact Nat.le_refl _⟩, ⟨by (with_reducible repeat (first | apply Kd.R_alloc | apply Kd.R_drewN | apply Kd.R_drew)); exact HO_5.out⟩, ⟨by repeat (first | (with_reducible first | exact HB.out | apply below_alloc | apply pw_below_drewN | apply below_drew1) | exact HB.out)⟩⟩
                                  · rw [if_neg c33] at H
                                    exact absurd H (by simp)
                                case rest =>
                                  clear HC32
                                  try clear c1
                                  try clear p1
                                  try clear q1
                                  try clear hx1
                                  try clear c2
                                  try clear p2
                                  try clear c3
                                  try clear c4
                                  try clear c4b0
                                  try clear c4b1
                                  try clear c5
                                  try clear c5b0
                                  try clear c5b1
                                  try clear c6
                                  try clear c6b0
                                  try clear c6b1
                                  try clear c6b2
                                  try clear p6
                                  try clear c7
                                  try clear c10
                                  try clear c10b0
                                  try clear c11
                                  try clear c11b0
                                  try clear c12
                                  try clear p13
                                  try clear q13
                                  try clear hx13
                                  try clear c14
                                  try clear c14b0
                                  try clear p14
                                  try clear q14
                                  try clear hx14
                                  try clear c15
                                  try clear c15b0
                                  try clear p15
                                  try clear q15
                                  try clear hx15
                                  try clear c16
                                  try clear c26
                                  try clear c27
                                  try clear c28
                                  try clear c29
                                  try clear c29b0
                                  try clear c30
                                  try clear c31
                                  try clear c31b0
                                  try clear c33
                                  try clear c33b0
                                  try clear c34
                                  try clear c34b0
                                  try clear hx136_0
                                  try clear hx136_1
                                  try clear hx140_0
                                  try clear hx140_1
                                  try clear hx150_0
                                  try clear hx150_1
                                  try clear hx151_0
                                  try clear hx151_1
                                  try clear p1
                                  try clear p13
                                  try clear p136
                                  try clear p14
                                  try clear p140
                                  try clear p150
                                  try clear p151
                                  try clear p2
                                  try clear p6
                                  try clear q1
                                  try clear q13
                                  try clear q136
                                  try clear q14
                                  try clear q140
                                  try clear q150
                                  try clear q151
                                  obtain ⟨kq, x133_31, rfl, HA, HJ31, HO_5, HB⟩ := hcut
                                  cases kq with
                                  | zero => exact absurd HA.out (by simp [tocsinlaw18_AggBounds.j5])
                                  | succ kj31 =>
                                    have H := HA.out
                                    clear HA
                                    simp only [tocsinlaw18_AggBounds.j5] at H
                                    by_cases c35 : x133_31 = true
                                    · subst c35
                                      have H1 : (some false) = some r := by rw [if_pos rfl] at H; exact H
                                      clear H
                                      have H := H1
                                      clear H1
                                      obtain rfl := Option.some.inj H
                                      go_wp2
                                      go_ret
                                      exact ⟨by first | rfl | (simp [errW_none, errW_some] <;> rfl) | (simp [*, errW_none, errW_some] <;> rfl), by repeat (first | (with_reducible first | exact HB.out | apply below_alloc | apply pw_below_drewN | apply below_drew1) | exact HB.out)⟩
                                    · replace c35 := Bool.eq_false_iff.mpr c35
                                      subst c35
                                      have H1 : (if 0 ≤ x15_5 then (if x15_5 < (x5_3.length : Int) then (if ((rd_T30 x5_3 x15_5).f1) = t144 then (if ((rd_T30 x5_3 x15_5).f1) = t146 then (tocsinlaw18_AggBounds.l2 kj31 l0 x5_3 t144 t146 (Go.bits .or .i64 (Go.bits .or .i64 x14_5 1) 2) (wrap64 (x15_5 + 1))) else (tocsinlaw18_AggBounds.l2 kj31 l0 x5_3 t144 t146 (Go.bits .or .i64 x14_5 1) (wrap64 (x15_5 + 1)))) else (if ((rd_T30 x5_3 x15_5).f1) = t146 then (tocsinlaw18_AggBounds.l2 kj31 l0 x5_3 t144 t146 (Go.bits .or .i64 x14_5 2) (wrap64 (x15_5 + 1))) else (tocsinlaw18_AggBounds.l2 kj31 l0 x5_3 t144 t146 x14_5 (wrap64 (x15_5 + 1))))) else (none)) else (none)) = some r := by rw [if_neg (show ¬ (false = true) by decide)] at H; exact H
                                      clear H
                                      have H := H1
                                      clear H1
                                      by_cases c36 : 0 ≤ x15_5
                                      · rw [if_pos c36] at H
                                        have c36b0 : decide (0 ≤ x15_5) = true := decide_eq_true c36
                                        clear c36
                                        by_cases c37 : x15_5 < (x5_3.length : Int)
                                        · rw [if_pos c37] at H
                                          have c37b0 : decide (x15_5 < (x5_3.length : Int)) = true := decide_eq_true c37
                                          clear c37
                                          by_cases c38 : ((rd_T30 x5_3 x15_5).f1) = t144
                                          · rw [if_pos c38] at H
                                            have c38b0 : (((rd_T30 x5_3 x15_5).f1) == t144) = true := beq_iff_eq.mpr c38
                                            have c38b1 : (((rd_T30 x5_3 x15_5).f1) != t144) = false := bne_eq_false_iff_eq.mpr c38
                                            clear c38
                                            by_cases c39 : ((rd_T30 x5_3 x15_5).f1) = t146
                                            · rw [if_pos c39] at H
                                              have c39b0 : (((rd_T30 x5_3 x15_5).f1) == t146) = true := beq_iff_eq.mpr c39
                                              have c39b1 : (((rd_T30 x5_3 x15_5).f1) != t146) = false := bne_eq_false_iff_eq.mpr c39
                                              clear c39
                                              have H' := Aside0.mk H
                                              clear H
                                              have p152 : 0 ≤ (x15_5 : Int) := of_decide_eq_true (by first | (with_reducible assumption) | assumption)
                                              have q152 : x15_5 < (x5_3.length : Int) := of_decide_eq_true (by first | (with_reducible assumption) | assumption)
                                              obtain ⟨ad152, e152, hx152_0, hx152_1⟩ := at_T30 (Kd.R_reads' HO_5.out).2.2 x15_5 p152 q152
                                              cases e152
                                              replace p152 := eq_true p152
                                              replace q152 := eq_true q152
                                              have p153 : 0 ≤ (x15_5 : Int) := of_decide_eq_true (by first | (with_reducible assumption) | assumption)
                                              have q153 : x15_5 < (x5_3.length : Int) := of_decide_eq_true (by first | (with_reducible assumption) | assumption)
                                              obtain ⟨ad153, e153, hx153_0, hx153_1⟩ := at_T30 (Kd.R_reads' HO_5.out).2.2 x15_5 p153 q153
                                              obtain rfl : ad152 = ad153 := (by injection e153)
                                              replace p153 := eq_true p153
                                              replace q153 := eq_true q153
                                              go_wp2
                                              go_roundg kj31
                                              case measure => have := HJ2.out; have := HK2.out; have := HK3.out; have := HJ20.out; have := HK5.out; have := HJ31.out; omega
                                              case rel => exact ⟨(Go.bits .or .i64 (Go.bits .or .i64 x14_5 1) 2), (wrap64 (x15_5 + 1)), (by first | rfl | (simp; done) | (simp [*]; done)), (by first | rfl | (simp; done) | (simp [*]; done)), H', ⟨by have := HJ2.out; have := HK2.out; have := HK3.out; have := HJ20.out; have := HK5.out; have := HJ31.out; omega⟩, ⟨by (with_reducible repeat (first | apply Kd.R_alloc | apply Kd.R_drewN | apply Kd.R_drew)); exact HO_5.out⟩, ⟨by repeat (first | (with_reducible first | exact HB.out | apply below_alloc | apply pw_below_drewN | apply below_drew1) | exact HB.out)⟩⟩
                                            · rw [if_neg c39] at H
                                              have c39b0 : (((rd_T30 x5_3 x15_5).f1) == t146) = false := beq_eq_false_iff_ne.mpr c39
                                              have c39b1 : (((rd_T30 x5_3 x15_5).f1) != t146) = true := bne_iff_ne.mpr c39
                                              have H' := Aside0.mk H
                                              clear H
                                              have p152 : 0 ≤ (x15_5 : Int) := of_decide_eq_true (by first | (with_reducible assumption) | assumption)
                                              have q152 : x15_5 < (x5_3.length : Int) := of_decide_eq_true (by first | (with_reducible assumption) | assumption)
                                              obtain ⟨ad152, e152, hx152_0, hx152_1⟩ := at_T30 (Kd.R_reads' HO_5.out).2.2 x15_5 p152 q152
                                              cases e152
                                              replace p152 := eq_true p152
                                              replace q152 := eq_true q152
                                              have p153 : 0 ≤ (x15_5 : Int) := of_decide_eq_true (by first | (with_reducible assumption) | assumption)
                                              have q153 : x15_5 < (x5_3.length : Int) := of_decide_eq_true (by first | (with_reducible assumption) | assumption)
                                              obtain ⟨ad153, e153, hx153_0, hx153_1⟩ := at_T30 (Kd.R_reads' HO_5.out).2.2 x15_5 p153 q153
                                              obtain rfl : ad152 = ad153 := (by injection e153)
                                              replace p153 := eq_true p153
                                              replace q153 := eq_true q153
                                              go_wp2
                                              go_roundg kj31
                                              case measure => have := HJ2.out; have := HK2.out; have := HK3.out; have := HJ20.out; have := HK5.out; have := HJ31.out; omega
                                              case rel => exact ⟨(Go.bits .or .i64 x14_5 1), (wrap64 (x15_5 + 1)), (by first | rfl | (simp; done) | (simp [*]; done)), (by first | rfl | (simp; done) | (simp [*]; done)), H', ⟨by have := HJ2.out; have := HK2.out; have := HK3.out; have := HJ20.out; have := HK5.out; have := HJ31.out; omega⟩, ⟨by (with_reducible repeat (first | apply Kd.R_alloc | apply Kd.R_drewN | apply Kd.R_drew)); exact HO_5.out⟩, ⟨by repeat (first | (with_reducible first | exact HB.out | apply below_alloc | apply pw_below_drewN | apply below_drew1) | exact HB.out)⟩⟩
                                          · rw [if_neg c38] at H
                                            have c38b0 : (((rd_T30 x5_3 x15_5).f1) == t144) = false := beq_eq_false_iff_ne.mpr c38
                                            have c38b1 : (((rd_T30 x5_3 x15_5).f1) != t144) = true := bne_iff_ne.mpr c38
                                            by_cases c40 : ((rd_T30 x5_3 x15_5).f1) = t146
                                            · rw [if_pos c40] at H
                                              have c40b0 : (((rd_T30 x5_3 x15_5).f1) == t146) = true := beq_iff_eq.mpr c40
                                              have c40b1 : (((rd_T30 x5_3 x15_5).f1) != t146) = false := bne_eq_false_iff_eq.mpr c40
                                              clear c40
                                              have H' := Aside0.mk H
                                              clear H
                                              have p152 : 0 ≤ (x15_5 : Int) := of_decide_eq_true (by first | (with_reducible assumption) | assumption)
                                              have q152 : x15_5 < (x5_3.length : Int) := of_decide_eq_true (by first | (with_reducible assumption) | assumption)
                                              obtain ⟨ad152, e152, hx152_0, hx152_1⟩ := at_T30 (Kd.R_reads' HO_5.out).2.2 x15_5 p152 q152
                                              cases e152
                                              replace p152 := eq_true p152
                                              replace q152 := eq_true q152
                                              have p154 : 0 ≤ (x15_5 : Int) := of_decide_eq_true (by first | (with_reducible assumption) | assumption)
                                              have q154 : x15_5 < (x5_3.length : Int) := of_decide_eq_true (by first | (with_reducible assumption) | assumption)
                                              obtain ⟨ad154, e154, hx154_0, hx154_1⟩ := at_T30 (Kd.R_reads' HO_5.out).2.2 x15_5 p154 q154
                                              obtain rfl : ad152 = ad154 := (by injection e154)
                                              replace p154 := eq_true p154
                                              replace q154 := eq_true q154
                                              go_wp2
                                              go_roundg kj31
                                              case measure => have := HJ2.out; have := HK2.out; have := HK3.out; have := HJ20.out; have := HK5.out; have := HJ31.out; omega
                                              case rel => exact ⟨(Go.bits .or .i64 x14_5 2), (wrap64 (x15_5 + 1)), (by first | rfl | (simp; done) | (simp [*]; done)), (by first | rfl | (simp; done) | (simp [*]; done)), H', ⟨by have := HJ2.out; have := HK2.out; have := HK3.out; have := HJ20.out; have := HK5.out; have := HJ31.out; omega⟩, ⟨by (with_reducible repeat (first | apply Kd.R_alloc | apply Kd.R_drewN | apply Kd.R_drew)); exact HO_5.out⟩, ⟨by repeat (first | (with_reducible first | exact HB.out | apply below_alloc | apply pw_below_drewN | apply below_drew1) | exact HB.out)⟩⟩
                                            · rw [if_neg c40] at H
                                              have c40b0 : (((rd_T30 x5_3 x15_5).f1) == t146) = false := beq_eq_false_iff_ne.mpr c40
                                              have c40b1 : (((rd_T30 x5_3 x15_5).f1) != t146) = true := bne_iff_ne.mpr c40
                                              have H' := Aside0.mk H
                                              clear H
                                              have p152 : 0 ≤ (x15_5 : Int) := of_decide_eq_true (by first | (with_reducible assumption) | assumption)
                                              have q152 : x15_5 < (x5_3.length : Int) := of_decide_eq_true (by first | (with_reducible assumption) | assumption)
                                              obtain ⟨ad152, e152, hx152_0, hx152_1⟩ := at_T30 (Kd.R_reads' HO_5.out).2.2 x15_5 p152 q152
                                              cases e152
                                              replace p152 := eq_true p152
                                              replace q152 := eq_true q152
                                              have p154 : 0 ≤ (x15_5 : Int) := of_decide_eq_true (by first | (with_reducible assumption) | assumption)
                                              have q154 : x15_5 < (x5_3.length : Int) := of_decide_eq_true (by first | (with_reducible assumption) | assumption)
                                              obtain ⟨ad154, e154, hx154_0, hx154_1⟩ := at_T30 (Kd.R_reads' HO_5.out).2.2 x15_5 p154 q154
                                              obtain rfl : ad152 = ad154 := (by injection e154)
                                              replace p154 := eq_true p154
                                              replace q154 := eq_true q154
                                              go_wp2
                                              go_roundg kj31
                                              case measure => have := HJ2.out; have := HK2.out; have := HK3.out; have := HJ20.out; have := HK5.out; have := HJ31.out; omega
                                              case rel => exact ⟨(x14_5), (wrap64 (x15_5 + 1)), (by first | rfl | (simp; done) | (simp [*]; done)), (by first | rfl | (simp; done) | (simp [*]; done)), H', ⟨by have := HJ2.out; have := HK2.out; have := HK3.out; have := HJ20.out; have := HK5.out; have := HJ31.out; omega⟩, ⟨by (with_reducible repeat (first | apply Kd.R_alloc | apply Kd.R_drewN | apply Kd.R_drew)); exact HO_5.out⟩, ⟨by repeat (first | (with_reducible first | exact HB.out | apply below_alloc | apply pw_below_drewN | apply below_drew1) | exact HB.out)⟩⟩
                                        · rw [if_neg c37] at H
                                          exact absurd H (by simp)
                                      · rw [if_neg c36] at H
                                        exact absurd H (by simp)
                              · rw [if_neg c31] at H
                                have c31b0 : decide (x15_5 < (x5_3.length : Int)) = false := decide_eq_false c31
                                clear c31
                                replace H := Option.bind_eq_some_iff.mp H
                                obtain ⟨⟨t155, t156⟩, A410, H⟩ := H
                                replace H : ((agg_Of.f 5 x5_3).bind fun bt157 => ((agg_Of.f 1 x5_3).bind fun bt159 => (if 0 ≤ (l0.length : Int) then (if (l0.length : Int) ≤ (x5_3.length : Int) then ((agg_Of.f 1 (x5_3.take ((l0.length : Int) : Int).toNat)).bind fun bt165 => ((agg_Of.f 1 (x5_3.drop ((l0.length : Int) : Int).toNat)).bind fun bt171 => (if x14_5 = 3 then (if t155 = (wrap64 (1000 * (x5_3.length : Int))) then (if 0 ≤ (wrap64 ((x5_3.length : Int) - 1)) then (if (wrap64 ((x5_3.length : Int) - 1)) < (x5_3.length : Int) then (if bt157.1 = ((rd_T30 x5_3 (wrap64 ((x5_3.length : Int) - 1))).f1) then (if bt159.1 = (wrap64 (bt165.1 + bt171.1)) then ((tocsinlaw18_awake.f).bind fun t174 => (some t174)) else (some false)) else (some false)) else (none)) else (none)) else (some false)) else (some false)))) else (none)) else (none)))) = some r := H
                                have A41 := Aside0.mk A410
                                clear A410
                                replace H := Option.bind_eq_some_iff.mp H
                                obtain ⟨⟨t157, t158⟩, A420, H⟩ := H
                                replace H : ((agg_Of.f 1 x5_3).bind fun bt159 => (if 0 ≤ (l0.length : Int) then (if (l0.length : Int) ≤ (x5_3.length : Int) then ((agg_Of.f 1 (x5_3.take ((l0.length : Int) : Int).toNat)).bind fun bt165 => ((agg_Of.f 1 (x5_3.drop ((l0.length : Int) : Int).toNat)).bind fun bt171 => (if x14_5 = 3 then (if t155 = (wrap64 (1000 * (x5_3.length : Int))) then (if 0 ≤ (wrap64 ((x5_3.length : Int) - 1)) then (if (wrap64 ((x5_3.length : Int) - 1)) < (x5_3.length : Int) then (if t157 = ((rd_T30 x5_3 (wrap64 ((x5_3.length : Int) - 1))).f1) then (if bt159.1 = (wrap64 (bt165.1 + bt171.1)) then ((tocsinlaw18_awake.f).bind fun t174 => (some t174)) else (some false)) else (some false)) else (none)) else (none)) else (some false)) else (some false)))) else (none)) else (none))) = some r := H
                                have A42 := Aside0.mk A420
                                clear A420
                                replace H := Option.bind_eq_some_iff.mp H
                                obtain ⟨⟨t159, t160⟩, A430, H⟩ := H
                                replace H : (if 0 ≤ (l0.length : Int) then (if (l0.length : Int) ≤ (x5_3.length : Int) then ((agg_Of.f 1 (x5_3.take ((l0.length : Int) : Int).toNat)).bind fun bt165 => ((agg_Of.f 1 (x5_3.drop ((l0.length : Int) : Int).toNat)).bind fun bt171 => (if x14_5 = 3 then (if t155 = (wrap64 (1000 * (x5_3.length : Int))) then (if 0 ≤ (wrap64 ((x5_3.length : Int) - 1)) then (if (wrap64 ((x5_3.length : Int) - 1)) < (x5_3.length : Int) then (if t157 = ((rd_T30 x5_3 (wrap64 ((x5_3.length : Int) - 1))).f1) then (if t159 = (wrap64 (bt165.1 + bt171.1)) then ((tocsinlaw18_awake.f).bind fun t174 => (some t174)) else (some false)) else (some false)) else (none)) else (none)) else (some false)) else (some false)))) else (none)) else (none)) = some r := H
                                have A43 := Aside0.mk A430
                                clear A430
                                by_cases c44 : 0 ≤ (l0.length : Int)
                                · rw [if_pos c44] at H
                                  have c44b0 := eq_true c44
                                  have c44b1 : decide (0 ≤ (l0.length : Int)) = true := decide_eq_true c44
                                  clear c44
                                  by_cases c45 : (l0.length : Int) ≤ (x5_3.length : Int)
                                  · rw [if_pos c45] at H
                                    have c45b0 := eq_true c45
                                    have c45b1 : decide ((l0.length : Int) ≤ (x5_3.length : Int)) = true := decide_eq_true c45
                                    clear c45
                                    obtain ⟨y161, hy161⟩ : ∃ y_ : List (S30), y_ = (x5_3.take ((l0.length : Int) : Int).toNat) := ⟨_, rfl⟩
                                    replace H : ((agg_Of.f 1 y161).bind fun bt165 => ((agg_Of.f 1 (x5_3.drop ((l0.length : Int) : Int).toNat)).bind fun bt171 => (if x14_5 = 3 then (if t155 = (wrap64 (1000 * (x5_3.length : Int))) then (if 0 ≤ (wrap64 ((x5_3.length : Int) - 1)) then (if (wrap64 ((x5_3.length : Int) - 1)) < (x5_3.length : Int) then (if t157 = ((rd_T30 x5_3 (wrap64 ((x5_3.length : Int) - 1))).f1) then (if t159 = (wrap64 (bt165.1 + bt171.1)) then ((tocsinlaw18_awake.f).bind fun t174 => (some t174)) else (some false)) else (some false)) else (none)) else (none)) else (some false)) else (some false)))) = some r := by first | (rw [hy161]; with_reducible exact H) | (have H2_ := (Option.bind_some _ _).symm.trans H; rw [hy161]; with_reducible exact H2_) | (have H2_ := (Option.bind_some _ _).symm.trans H; with_reducible exact H2_) | with_reducible exact H | (rw [hy161]; exact H) | exact H
                                    have Ny161 := Aside0.mk hy161
                                    clear hy161
                                    replace H := Option.bind_eq_some_iff.mp H
                                    obtain ⟨⟨t165, t166⟩, A460, H⟩ := H
                                    replace H : ((agg_Of.f 1 (x5_3.drop ((l0.length : Int) : Int).toNat)).bind fun bt171 => (if x14_5 = 3 then (if t155 = (wrap64 (1000 * (x5_3.length : Int))) then (if 0 ≤ (wrap64 ((x5_3.length : Int) - 1)) then (if (wrap64 ((x5_3.length : Int) - 1)) < (x5_3.length : Int) then (if t157 = ((rd_T30 x5_3 (wrap64 ((x5_3.length : Int) - 1))).f1) then (if t159 = (wrap64 (t165 + bt171.1)) then ((tocsinlaw18_awake.f).bind fun t174 => (some t174)) else (some false)) else (some false)) else (none)) else (none)) else (some false)) else (some false))) = some r := H
                                    have A46 := Aside0.mk A460
                                    clear A460
                                    have c47b0 := eq_true (of_decide_eq_true (by first | (with_reducible assumption) | assumption) : 0 ≤ (l0.length : Int))
                                    have c48b0 := eq_true (of_decide_eq_true (by first | (with_reducible assumption) | assumption) : (l0.length : Int) ≤ (x5_3.length : Int))
                                    obtain ⟨y167, hy167⟩ : ∃ y_ : List (S30), y_ = (x5_3.drop ((l0.length : Int) : Int).toNat) := ⟨_, rfl⟩
                                    replace H : ((agg_Of.f 1 y167).bind fun bt171 => (if x14_5 = 3 then (if t155 = (wrap64 (1000 * (x5_3.length : Int))) then (if 0 ≤ (wrap64 ((x5_3.length : Int) - 1)) then (if (wrap64 ((x5_3.length : Int) - 1)) < (x5_3.length : Int) then (if t157 = ((rd_T30 x5_3 (wrap64 ((x5_3.length : Int) - 1))).f1) then (if t159 = (wrap64 (t165 + bt171.1)) then ((tocsinlaw18_awake.f).bind fun t174 => (some t174)) else (some false)) else (some false)) else (none)) else (none)) else (some false)) else (some false))) = some r := by first | (rw [hy167]; with_reducible exact H) | (have H2_ := (Option.bind_some _ _).symm.trans H; rw [hy167]; with_reducible exact H2_) | (have H2_ := (Option.bind_some _ _).symm.trans H; with_reducible exact H2_) | with_reducible exact H | (rw [hy167]; exact H) | exact H
                                    have Ny167 := Aside0.mk hy167
                                    clear hy167
                                    replace H := Option.bind_eq_some_iff.mp H
                                    obtain ⟨⟨t171, t172⟩, A490, H⟩ := H
                                    replace H : (if x14_5 = 3 then (if t155 = (wrap64 (1000 * (x5_3.length : Int))) then (if 0 ≤ (wrap64 ((x5_3.length : Int) - 1)) then (if (wrap64 ((x5_3.length : Int) - 1)) < (x5_3.length : Int) then (if t157 = ((rd_T30 x5_3 (wrap64 ((x5_3.length : Int) - 1))).f1) then (if t159 = (wrap64 (t165 + t171)) then ((tocsinlaw18_awake.f).bind fun t174 => (some t174)) else (some false)) else (some false)) else (none)) else (none)) else (some false)) else (some false)) = some r := H
                                    have A49 := Aside0.mk A490
                                    clear A490
                                    by_cases c50 : x14_5 = 3
                                    · rw [if_pos c50] at H
                                      have c50b0 : (x14_5 == 3) = true := beq_iff_eq.mpr c50
                                      have c50b1 : (x14_5 != 3) = false := bne_eq_false_iff_eq.mpr c50
                                      clear c50
                                      by_cases c51 : t155 = (wrap64 (1000 * (x5_3.length : Int)))
                                      · rw [if_pos c51] at H
                                        have c51b0 : (t155 == (wrap64 (1000 * (x5_3.length : Int)))) = true := beq_iff_eq.mpr c51
                                        have c51b1 : (t155 != (wrap64 (1000 * (x5_3.length : Int)))) = false := bne_eq_false_iff_eq.mpr c51
                                        clear c51
                                        obtain ⟨ji52, hji52⟩ : ∃ j_ : Int, (wrap64 ((x5_3.length : Int) - 1)) = j_ := ⟨_, rfl⟩
                                        replace H : (if 0 ≤ (ji52) then (if (ji52) < (x5_3.length : Int) then (if t157 = ((rd_T30 x5_3 (ji52)).f1) then (if t159 = (wrap64 (t165 + t171)) then ((tocsinlaw18_awake.f).bind fun t174 => (some t174)) else (some false)) else (some false)) else (none)) else (none)) = some r := by first | (rw [hji52] at H; exact H) | (simp only [hji52] at H ⊢; exact H)
                                        (try rw [hji52] at A41)
                                        (try rw [hji52] at A42)
                                        (try rw [hji52] at A43)
                                        (try rw [hji52] at A46)
                                        (try rw [hji52] at A49)
                                        have hji52w : (IntKind.i64.wrap ((x5_3.length : Int) - 1)) = ji52 := (i64_w _).trans hji52
                                        by_cases c53 : 0 ≤ (ji52)
                                        · rw [if_pos c53] at H
                                          have c53b0 : decide (0 ≤ (ji52)) = true := decide_eq_true c53
                                          clear c53
                                          by_cases c54 : (ji52) < (x5_3.length : Int)
                                          · rw [if_pos c54] at H
                                            have c54b0 : decide ((ji52) < (x5_3.length : Int)) = true := decide_eq_true c54
                                            clear c54
                                            by_cases c55 : t157 = ((rd_T30 x5_3 (ji52)).f1)
                                            · rw [if_pos c55] at H
                                              have c55b0 : (t157 == ((rd_T30 x5_3 (ji52)).f1)) = true := beq_iff_eq.mpr c55
                                              have c55b1 : (t157 != ((rd_T30 x5_3 (ji52)).f1)) = false := bne_eq_false_iff_eq.mpr c55
                                              clear c55
                                              by_cases c56 : t159 = (wrap64 (t165 + t171))
                                              · rw [if_pos c56] at H
                                                have c56b0 : (t159 == (wrap64 (t165 + t171))) = true := beq_iff_eq.mpr c56
                                                have c56b1 : (t159 != (wrap64 (t165 + t171))) = false := bne_eq_false_iff_eq.mpr c56
                                                clear c56
                                                replace H := Option.bind_eq_some_iff.mp H
                                                obtain ⟨t174, A570, H⟩ := H
                                                replace H : (some t174) = some r := H
                                                have A57 := Aside0.mk A570
                                                clear A570
                                                obtain rfl := Option.some.inj H
                                                go_wp2_with (first | ((with_reducible refine gate_callee (f := 7) rfl ?_); refine goesL_ (some 154) rfl rfl Try.func7 (by kernel_rfl) rfl #[.int .u8 0, .slice Ao22 x5_3.length co22] rfl (by (try simp only [List.map_toArray, List.map_cons, List.map_nil]); first | done | rfl | (simp only [List.length_drop, List.length_take]; rfl)) ?_; (with_reducible refine (agg_Of.calls 0 _ _ x5_3 t155 t156 _ ?side1 ?side2 A41.out).mono ?_); (case side1 => repeat (first | exact (Kd.R_reads' HO_5.out).2.2 | (with_reducible refine Kd.C_alloc ?_ _) | (with_reducible refine Kd.C_drewN ?_ _) | (with_reducible refine Kd.C_drew ?_))); (case side2 => exact (Kd.R_reads' HO_5.out).2.1); rintro e w58 ⟨rfl, hb⟩; refine ⟨_, rfl, ?_⟩; have n0_ := Aside0.mk (Kd.R_below (by (with_reducible repeat (first | apply Kd.R_alloc | apply Kd.R_drewN | apply Kd.R_drew)); exact HO_5.out) hb); have n1_ := Aside0.mk (below_step (by repeat (first | (with_reducible first | exact HB.out | apply below_alloc | apply pw_below_drewN | apply below_drew1) | exact HB.out)) hb); clear HO_5; clear HB; have HO_5 := n0_; have HB := n1_; clear n0_ n1_; (try clear hb); (try clear hb2); (try clear hk); (try clear hi)) | ((with_reducible refine gate_callee (f := 7) rfl ?_); refine goesL_ (some 159) rfl rfl Try.func7 (by kernel_rfl) rfl #[.int .u8 5, .slice Ao22 x5_3.length co22] rfl (by (try simp only [List.map_toArray, List.map_cons, List.map_nil]); first | done | rfl | (simp only [List.length_drop, List.length_take]; rfl)) ?_; (with_reducible refine (agg_Of.calls 5 _ _ x5_3 t157 t158 _ ?side1 ?side2 A42.out).mono ?_); (case side1 => repeat (first | exact (Kd.R_reads' HO_5.out).2.2 | (with_reducible refine Kd.C_alloc ?_ _) | (with_reducible refine Kd.C_drewN ?_ _) | (with_reducible refine Kd.C_drew ?_))); (case side2 => exact (Kd.R_reads' HO_5.out).2.1); rintro e w59 ⟨rfl, hb⟩; refine ⟨_, rfl, ?_⟩; have n0_ := Aside0.mk (Kd.R_below (by (with_reducible repeat (first | apply Kd.R_alloc | apply Kd.R_drewN | apply Kd.R_drew)); exact HO_5.out) hb); have n1_ := Aside0.mk (below_step (by repeat (first | (with_reducible first | exact HB.out | apply below_alloc | apply pw_below_drewN | apply below_drew1) | exact HB.out)) hb); clear HO_5; clear HB; have HO_5 := n0_; have HB := n1_; clear n0_ n1_; (try clear hb); (try clear hb2); (try clear hk); (try clear hi)) | ((with_reducible refine gate_callee (f := 7) rfl ?_); refine goesL_ (some 164) rfl rfl Try.func7 (by kernel_rfl) rfl #[.int .u8 1, .slice Ao22 x5_3.length co22] rfl (by (try simp only [List.map_toArray, List.map_cons, List.map_nil]); first | done | rfl | (simp only [List.length_drop, List.length_take]; rfl)) ?_; (with_reducible refine (agg_Of.calls 1 _ _ x5_3 t159 t160 _ ?side1 ?side2 A43.out).mono ?_); (case side1 => repeat (first | exact (Kd.R_reads' HO_5.out).2.2 | (with_reducible refine Kd.C_alloc ?_ _) | (with_reducible refine Kd.C_drewN ?_ _) | (with_reducible refine Kd.C_drew ?_))); (case side2 => exact (Kd.R_reads' HO_5.out).2.1); rintro e w60 ⟨rfl, hb⟩; refine ⟨_, rfl, ?_⟩; have n0_ := Aside0.mk (Kd.R_below (by (with_reducible repeat (first | apply Kd.R_alloc | apply Kd.R_drewN | apply Kd.R_drew)); exact HO_5.out) hb); have n1_ := Aside0.mk (below_step (by repeat (first | (with_reducible first | exact HB.out | apply below_alloc | apply pw_below_drewN | apply below_drew1) | exact HB.out)) hb); clear HO_5; clear HB; have HO_5 := n0_; have HB := n1_; clear n0_ n1_; (try clear hb); (try clear hb2); (try clear hk); (try clear hi); have q61 : ((l0.length : Int) : Int) ≤ ((x5_3.length : Int) : Int) := of_decide_eq_true (by first | (with_reducible assumption) | assumption); obtain ⟨i061, hi061, _, hsz61, _⟩ := info_parts info30; have hroom61 : x5_3.length ≤ co22 := (Kd.R_reads' HO_5.out).2.1; have hC61 : Kd.C k30 _ Ao22 x5_3.length x5_3 := (Kd.R_reads' HO_5.out).2.2; have hcut61 := cut_to (P := Try.prog) 22 30 .i64 Try.underlying22 hi061 Ao22 x5_3.length co22 (l0.length : Int) (of_decide_eq_true (by first | (with_reducible assumption) | assumption)) q61 hroom61; have hr61 := Kd.C_take (m := ((l0.length : Int) : Int).toNat) hC61 (by omega); have hy61 : y161.length = ((l0.length : Int) : Int).toNat := (by rw [Ny161.out, List.length_take]; omega); rw [← Ny161.out] at hr61; rw [← hy61] at hcut61; have HR164 := Aside0.mk hr61; have HC164 := Aside0.mk (show y161.length ≤ co22 from by omega); clear hr61 hC61 hroom61 hi061 hsz61; have KY61 := Aside0.mk hy61; clear hy61; have KL61 := Aside0.mk (show ((l0.length : Int) : Int).toNat ≤ x5_3.length from by omega); replace q61 := eq_true q61) | ((with_reducible refine gate_callee (f := 7) rfl ?_); refine goesL_ (some 172) rfl rfl Try.func7 (by kernel_rfl) rfl #[.int .u8 1, .slice Ao22 y161.length co22] rfl (by (try simp only [List.map_toArray, List.map_cons, List.map_nil]); first | done | rfl | (simp only [List.length_drop, List.length_take]; rfl)) ?_; (with_reducible refine (agg_Of.calls 1 _ _ y161 t165 t166 _ ?side1 ?side2 A46.out).mono ?_); (case side1 => repeat (first | exact (by repeat (first | (with_reducible exact HR164.out) | (with_reducible refine Kd.C_alloc ?_ _) | (with_reducible refine Kd.C_drewN ?_ _) | (with_reducible refine Kd.C_drew ?_) | exact HR164.out)) | (with_reducible refine Kd.C_alloc ?_ _) | (with_reducible refine Kd.C_drewN ?_ _) | (with_reducible refine Kd.C_drew ?_))); (case side2 => exact HC164.out); rintro e w62 ⟨rfl, hb⟩; refine ⟨_, rfl, ?_⟩; have n0_ := Aside0.mk (Kd.R_below (by (with_reducible repeat (first | apply Kd.R_alloc | apply Kd.R_drewN | apply Kd.R_drew)); exact HO_5.out) hb); have n1_ := Aside0.mk (Kd.C_below (by repeat (first | (with_reducible exact HR164.out) | (with_reducible refine Kd.C_alloc ?_ _) | (with_reducible refine Kd.C_drewN ?_ _) | (with_reducible refine Kd.C_drew ?_) | exact HR164.out)) hb); have n2_ := Aside0.mk (below_step (by repeat (first | (with_reducible first | exact HB.out | apply below_alloc | apply pw_below_drewN | apply below_drew1) | exact HB.out)) hb); clear HO_5; clear HR164; clear HB; have HO_5 := n0_; have HR164 := n1_; have HB := n2_; clear n0_ n1_ n2_; (try clear hb); (try clear hb2); (try clear hk); (try clear hi); have q63 : ((l0.length : Int) : Int) ≤ ((x5_3.length : Int) : Int) := of_decide_eq_true (by first | (with_reducible assumption) | assumption); obtain ⟨i063, hi063, _, hsz63, _⟩ := info_parts info30; have hroom63 : x5_3.length ≤ co22 := (Kd.R_reads' HO_5.out).2.1; have hC63 : Kd.C k30 _ Ao22 x5_3.length x5_3 := (Kd.R_reads' HO_5.out).2.2; have q063 : (0 : Int) ≤ ((l0.length : Int) : Int) := of_decide_eq_true (by first | (with_reducible assumption) | assumption); have hcut63 := cut_from (P := Try.prog) 22 30 .i64 Try.underlying22 hi063 2 hsz63 Ao22 x5_3.length co22 (l0.length : Int) q063 q63; have hr63 := Kd.C_drop (m := ((l0.length : Int) : Int).toNat) (c := co22) hC63 (by omega) hroom63; obtain ⟨A63, hA63⟩ : ∃ A1, A1 = (if co22 = ((l0.length : Int) : Int).toNat then Ao22 else (Ao22 : Option Addr).map (·.add (((l0.length : Int) : Int).toNat * 2))) := ⟨_, rfl⟩; obtain ⟨c63, hc63⟩ : ∃ c1, c1 = co22 - ((l0.length : Int) : Int).toNat := ⟨_, rfl⟩; have hy63 : y167.length = x5_3.length - ((l0.length : Int) : Int).toNat := (by rw [Ny167.out, List.length_drop] <;> omega); rw [show (x5_3).drop ((l0.length : Int) : Int).toNat = y167 from Ny167.out.symm] at hr63; replace hr63 : Kd.C k30 _ A63 y167.length y167 := (by rw [hA63]; exact hr63); rw [← hy63, ← hA63, ← hc63] at hcut63; have HR170 := Aside0.mk hr63; have HC170 := Aside0.mk (show y167.length ≤ c63 from by rw [hy63, hc63]; exact Nat.sub_le_sub_right hroom63 _); clear hr63 hC63 hroom63 hi063 hsz63 hc63; have KY63 := Aside0.mk hy63; have KA63 := Aside0.mk hA63; clear hy63 hA63; have KL63 := Aside0.mk (show ((l0.length : Int) : Int).toNat ≤ x5_3.length from by omega); replace q63 := eq_true q63) | ((with_reducible refine gate_callee (f := 7) rfl ?_); refine goesL_ (some 180) rfl rfl Try.func7 (by kernel_rfl) rfl #[.int .u8 1, .slice A63 y167.length c63] rfl (by (try simp only [List.map_toArray, List.map_cons, List.map_nil]); first | done | rfl | (simp only [List.length_drop, List.length_take]; rfl)) ?_; (with_reducible refine (agg_Of.calls 1 _ _ y167 t171 t172 _ ?side1 ?side2 A49.out).mono ?_); (case side1 => repeat (first | exact (by repeat (first | (with_reducible exact HR170.out) | (with_reducible refine Kd.C_alloc ?_ _) | (with_reducible refine Kd.C_drewN ?_ _) | (with_reducible refine Kd.C_drew ?_) | exact HR170.out)) | (with_reducible refine Kd.C_alloc ?_ _) | (with_reducible refine Kd.C_drewN ?_ _) | (with_reducible refine Kd.C_drew ?_))); (case side2 => exact HC170.out); rintro e w64 ⟨rfl, hb⟩; refine ⟨_, rfl, ?_⟩; have n0_ := Aside0.mk (Kd.R_below (by (with_reducible repeat (first | apply Kd.R_alloc | apply Kd.R_drewN | apply Kd.R_drew)); exact HO_5.out) hb); have n1_ := Aside0.mk (Kd.C_below (by repeat (first | (with_reducible exact HR164.out) | (with_reducible refine Kd.C_alloc ?_ _) | (with_reducible refine Kd.C_drewN ?_ _) | (with_reducible refine Kd.C_drew ?_) | exact HR164.out)) hb); have n2_ := Aside0.mk (Kd.C_below (by repeat (first | (with_reducible exact HR170.out) | (with_reducible refine Kd.C_alloc ?_ _) | (with_reducible refine Kd.C_drewN ?_ _) | (with_reducible refine Kd.C_drew ?_) | exact HR170.out)) hb); have n3_ := Aside0.mk (below_step (by repeat (first | (with_reducible first | exact HB.out | apply below_alloc | apply pw_below_drewN | apply below_drew1) | exact HB.out)) hb); clear HO_5; clear HR164; clear HR170; clear HB; have HO_5 := n0_; have HR164 := n1_; have HR170 := n2_; have HB := n3_; clear n0_ n1_ n2_ n3_; (try clear hb); (try clear hb2); (try clear hk); (try clear hi); have p173 : 0 ≤ ((ji52) : Int) := of_decide_eq_true (by first | (with_reducible assumption) | assumption); have q173 : (ji52) < (x5_3.length : Int) := of_decide_eq_true (by first | (with_reducible assumption) | assumption); obtain ⟨ad173, e173, hx173_0, hx173_1⟩ := at_T30 (Kd.R_reads' HO_5.out).2.2 (ji52) p173 q173; cases e173; replace p173 := eq_true p173; replace q173 := eq_true q173) | (go_at_call 10; (with_reducible refine (tocsinlaw18_awake.calls  t174 _ A57.out).mono ?_); rintro e w65 ⟨rfl, hb⟩; have n0_ := Aside0.mk (Kd.R_below (by (with_reducible repeat (first | apply Kd.R_alloc | apply Kd.R_drewN | apply Kd.R_drew)); exact HO_5.out) hb); have n1_ := Aside0.mk (Kd.C_below (by repeat (first | (with_reducible exact HR164.out) | (with_reducible refine Kd.C_alloc ?_ _) | (with_reducible refine Kd.C_drewN ?_ _) | (with_reducible refine Kd.C_drew ?_) | exact HR164.out)) hb); have n2_ := Aside0.mk (Kd.C_below (by repeat (first | (with_reducible exact HR170.out) | (with_reducible refine Kd.C_alloc ?_ _) | (with_reducible refine Kd.C_drewN ?_ _) | (with_reducible refine Kd.C_drew ?_) | exact HR170.out)) hb); have n3_ := Aside0.mk (below_step (by repeat (first | (with_reducible first | exact HB.out | apply below_alloc | apply pw_below_drewN | apply below_drew1) | exact HB.out)) hb); clear HO_5; clear HR164; clear HR170; clear HB; have HO_5 := n0_; have HR164 := n1_; have HR170 := n2_; have HB := n3_; clear n0_ n1_ n2_ n3_; (try clear hb); (try clear hb2); (try clear hk); (try clear hi)))
                                                go_ret
                                                exact ⟨by first | rfl | (simp [errW_none, errW_some] <;> rfl) | (simp only [← hji52]; first | rfl | (simp [errW_none, errW_some] <;> rfl)) | (simp [*, errW_none, errW_some] <;> rfl), by repeat (first | (with_reducible first | exact HB.out | apply below_alloc | apply pw_below_drewN | apply below_drew1) | exact HB.out)⟩
                                              · rw [if_neg c56] at H
                                                have c56b0 : (t159 == (wrap64 (t165 + t171))) = false := beq_eq_false_iff_ne.mpr c56
                                                have c56b1 : (t159 != (wrap64 (t165 + t171))) = true := bne_iff_ne.mpr c56
                                                obtain rfl := Option.some.inj H
                                                go_wp2_with (first | ((with_reducible refine gate_callee (f := 7) rfl ?_); refine goesL_ (some 154) rfl rfl Try.func7 (by kernel_rfl) rfl #[.int .u8 0, .slice Ao22 x5_3.length co22] rfl (by (try simp only [List.map_toArray, List.map_cons, List.map_nil]); first | done | rfl | (simp only [List.length_drop, List.length_take]; rfl)) ?_; (with_reducible refine (agg_Of.calls 0 _ _ x5_3 t155 t156 _ ?side1 ?side2 A41.out).mono ?_); (case side1 => repeat (first | exact (Kd.R_reads' HO_5.out).2.2 | (with_reducible refine Kd.C_alloc ?_ _) | (with_reducible refine Kd.C_drewN ?_ _) | (with_reducible refine Kd.C_drew ?_))); (case side2 => exact (Kd.R_reads' HO_5.out).2.1); rintro e w66 ⟨rfl, hb⟩; refine ⟨_, rfl, ?_⟩; have n0_ := Aside0.mk (Kd.R_below (by (with_reducible repeat (first | apply Kd.R_alloc | apply Kd.R_drewN | apply Kd.R_drew)); exact HO_5.out) hb); have n1_ := Aside0.mk (below_step (by repeat (first | (with_reducible first | exact HB.out | apply below_alloc | apply pw_below_drewN | apply below_drew1) | exact HB.out)) hb); clear HO_5; clear HB; have HO_5 := n0_; have HB := n1_; clear n0_ n1_; (try clear hb); (try clear hb2); (try clear hk); (try clear hi)) | ((with_reducible refine gate_callee (f := 7) rfl ?_); refine goesL_ (some 159) rfl rfl Try.func7 (by kernel_rfl) rfl #[.int .u8 5, .slice Ao22 x5_3.length co22] rfl (by (try simp only [List.map_toArray, List.map_cons, List.map_nil]); first | done | rfl | (simp only [List.length_drop, List.length_take]; rfl)) ?_; (with_reducible refine (agg_Of.calls 5 _ _ x5_3 t157 t158 _ ?side1 ?side2 A42.out).mono ?_); (case side1 => repeat (first | exact (Kd.R_reads' HO_5.out).2.2 | (with_reducible refine Kd.C_alloc ?_ _) | (with_reducible refine Kd.C_drewN ?_ _) | (with_reducible refine Kd.C_drew ?_))); (case side2 => exact (Kd.R_reads' HO_5.out).2.1); rintro e w67 ⟨rfl, hb⟩; refine ⟨_, rfl, ?_⟩; have n0_ := Aside0.mk (Kd.R_below (by (with_reducible repeat (first | apply Kd.R_alloc | apply Kd.R_drewN | apply Kd.R_drew)); exact HO_5.out) hb); have n1_ := Aside0.mk (below_step (by repeat (first | (with_reducible first | exact HB.out | apply below_alloc | apply pw_below_drewN | apply below_drew1) | exact HB.out)) hb); clear HO_5; clear HB; have HO_5 := n0_; have HB := n1_; clear n0_ n1_; (try clear hb); (try clear hb2); (try clear hk); (try clear hi)) | ((with_reducible refine gate_callee (f := 7) rfl ?_); refine goesL_ (some 164) rfl rfl Try.func7 (by kernel_rfl) rfl #[.int .u8 1, .slice Ao22 x5_3.length co22] rfl (by (try simp only [List.map_toArray, List.map_cons, List.map_nil]); first | done | rfl | (simp only [List.length_drop, List.length_take]; rfl)) ?_; (with_reducible refine (agg_Of.calls 1 _ _ x5_3 t159 t160 _ ?side1 ?side2 A43.out).mono ?_); (case side1 => repeat (first | exact (Kd.R_reads' HO_5.out).2.2 | (with_reducible refine Kd.C_alloc ?_ _) | (with_reducible refine Kd.C_drewN ?_ _) | (with_reducible refine Kd.C_drew ?_))); (case side2 => exact (Kd.R_reads' HO_5.out).2.1); rintro e w68 ⟨rfl, hb⟩; refine ⟨_, rfl, ?_⟩; have n0_ := Aside0.mk (Kd.R_below (by (with_reducible repeat (first | apply Kd.R_alloc | apply Kd.R_drewN | apply Kd.R_drew)); exact HO_5.out) hb); have n1_ := Aside0.mk (below_step (by repeat (first | (with_reducible first | exact HB.out | apply below_alloc | apply pw_below_drewN | apply below_drew1) | exact HB.out)) hb); clear HO_5; clear HB; have HO_5 := n0_; have HB := n1_; clear n0_ n1_; (try clear hb); (try clear hb2); (try clear hk); (try clear hi); have q69 : ((l0.length : Int) : Int) ≤ ((x5_3.length : Int) : Int) := of_decide_eq_true (by first | (with_reducible assumption) | assumption); obtain ⟨i069, hi069, _, hsz69, _⟩ := info_parts info30; have hroom69 : x5_3.length ≤ co22 := (Kd.R_reads' HO_5.out).2.1; have hC69 : Kd.C k30 _ Ao22 x5_3.length x5_3 := (Kd.R_reads' HO_5.out).2.2; have hcut69 := cut_to (P := Try.prog) 22 30 .i64 Try.underlying22 hi069 Ao22 x5_3.length co22 (l0.length : Int) (of_decide_eq_true (by first | (with_reducible assumption) | assumption)) q69 hroom69; have hr69 := Kd.C_take (m := ((l0.length : Int) : Int).toNat) hC69 (by omega); have hy69 : y161.length = ((l0.length : Int) : Int).toNat := (by rw [Ny161.out, List.length_take]; omega); rw [← Ny161.out] at hr69; rw [← hy69] at hcut69; have HR164 := Aside0.mk hr69; have HC164 := Aside0.mk (show y161.length ≤ co22 from by omega); clear hr69 hC69 hroom69 hi069 hsz69; have KY69 := Aside0.mk hy69; clear hy69; have KL69 := Aside0.mk (show ((l0.length : Int) : Int).toNat ≤ x5_3.length from by omega); replace q69 := eq_true q69) | ((with_reducible refine gate_callee (f := 7) rfl ?_); refine goesL_ (some 172) rfl rfl Try.func7 (by kernel_rfl) rfl #[.int .u8 1, .slice Ao22 y161.length co22] rfl (by (try simp only [List.map_toArray, List.map_cons, List.map_nil]); first | done | rfl | (simp only [List.length_drop, List.length_take]; rfl)) ?_; (with_reducible refine (agg_Of.calls 1 _ _ y161 t165 t166 _ ?side1 ?side2 A46.out).mono ?_); (case side1 => repeat (first | exact (by repeat (first | (with_reducible exact HR164.out) | (with_reducible refine Kd.C_alloc ?_ _) | (with_reducible refine Kd.C_drewN ?_ _) | (with_reducible refine Kd.C_drew ?_) | exact HR164.out)) | (with_reducible refine Kd.C_alloc ?_ _) | (with_reducible refine Kd.C_drewN ?_ _) | (with_reducible refine Kd.C_drew ?_))); (case side2 => exact HC164.out); rintro e w70 ⟨rfl, hb⟩; refine ⟨_, rfl, ?_⟩; have n0_ := Aside0.mk (Kd.R_below (by (with_reducible repeat (first | apply Kd.R_alloc | apply Kd.R_drewN | apply Kd.R_drew)); exact HO_5.out) hb); have n1_ := Aside0.mk (Kd.C_below (by repeat (first | (with_reducible exact HR164.out) | (with_reducible refine Kd.C_alloc ?_ _) | (with_reducible refine Kd.C_drewN ?_ _) | (with_reducible refine Kd.C_drew ?_) | exact HR164.out)) hb); have n2_ := Aside0.mk (below_step (by repeat (first | (with_reducible first | exact HB.out | apply below_alloc | apply pw_below_drewN | apply below_drew1) | exact HB.out)) hb); clear HO_5; clear HR164; clear HB; have HO_5 := n0_; have HR164 := n1_; have HB := n2_; clear n0_ n1_ n2_; (try clear hb); (try clear hb2); (try clear hk); (try clear hi); have q71 : ((l0.length : Int) : Int) ≤ ((x5_3.length : Int) : Int) := of_decide_eq_true (by first | (with_reducible assumption) | assumption); obtain ⟨i071, hi071, _, hsz71, _⟩ := info_parts info30; have hroom71 : x5_3.length ≤ co22 := (Kd.R_reads' HO_5.out).2.1; have hC71 : Kd.C k30 _ Ao22 x5_3.length x5_3 := (Kd.R_reads' HO_5.out).2.2; have q071 : (0 : Int) ≤ ((l0.length : Int) : Int) := of_decide_eq_true (by first | (with_reducible assumption) | assumption); have hcut71 := cut_from (P := Try.prog) 22 30 .i64 Try.underlying22 hi071 2 hsz71 Ao22 x5_3.length co22 (l0.length : Int) q071 q71; have hr71 := Kd.C_drop (m := ((l0.length : Int) : Int).toNat) (c := co22) hC71 (by omega) hroom71; obtain ⟨A71, hA71⟩ : ∃ A1, A1 = (if co22 = ((l0.length : Int) : Int).toNat then Ao22 else (Ao22 : Option Addr).map (·.add (((l0.length : Int) : Int).toNat * 2))) := ⟨_, rfl⟩; obtain ⟨c71, hc71⟩ : ∃ c1, c1 = co22 - ((l0.length : Int) : Int).toNat := ⟨_, rfl⟩; have hy71 : y167.length = x5_3.length - ((l0.length : Int) : Int).toNat := (by rw [Ny167.out, List.length_drop] <;> omega); rw [show (x5_3).drop ((l0.length : Int) : Int).toNat = y167 from Ny167.out.symm] at hr71; replace hr71 : Kd.C k30 _ A71 y167.length y167 := (by rw [hA71]; exact hr71); rw [← hy71, ← hA71, ← hc71] at hcut71; have HR170 := Aside0.mk hr71; have HC170 := Aside0.mk (show y167.length ≤ c71 from by rw [hy71, hc71]; exact Nat.sub_le_sub_right hroom71 _); clear hr71 hC71 hroom71 hi071 hsz71 hc71; have KY71 := Aside0.mk hy71; have KA71 := Aside0.mk hA71; clear hy71 hA71; have KL71 := Aside0.mk (show ((l0.length : Int) : Int).toNat ≤ x5_3.length from by omega); replace q71 := eq_true q71) | ((with_reducible refine gate_callee (f := 7) rfl ?_); refine goesL_ (some 180) rfl rfl Try.func7 (by kernel_rfl) rfl #[.int .u8 1, .slice A71 y167.length c71] rfl (by (try simp only [List.map_toArray, List.map_cons, List.map_nil]); first | done | rfl | (simp only [List.length_drop, List.length_take]; rfl)) ?_; (with_reducible refine (agg_Of.calls 1 _ _ y167 t171 t172 _ ?side1 ?side2 A49.out).mono ?_); (case side1 => repeat (first | exact (by repeat (first | (with_reducible exact HR170.out) | (with_reducible refine Kd.C_alloc ?_ _) | (with_reducible refine Kd.C_drewN ?_ _) | (with_reducible refine Kd.C_drew ?_) | exact HR170.out)) | (with_reducible refine Kd.C_alloc ?_ _) | (with_reducible refine Kd.C_drewN ?_ _) | (with_reducible refine Kd.C_drew ?_))); (case side2 => exact HC170.out); rintro e w72 ⟨rfl, hb⟩; refine ⟨_, rfl, ?_⟩; have n0_ := Aside0.mk (Kd.R_below (by (with_reducible repeat (first | apply Kd.R_alloc | apply Kd.R_drewN | apply Kd.R_drew)); exact HO_5.out) hb); have n1_ := Aside0.mk (Kd.C_below (by repeat (first | (with_reducible exact HR164.out) | (with_reducible refine Kd.C_alloc ?_ _) | (with_reducible refine Kd.C_drewN ?_ _) | (with_reducible refine Kd.C_drew ?_) | exact HR164.out)) hb); have n2_ := Aside0.mk (Kd.C_below (by repeat (first | (with_reducible exact HR170.out) | (with_reducible refine Kd.C_alloc ?_ _) | (with_reducible refine Kd.C_drewN ?_ _) | (with_reducible refine Kd.C_drew ?_) | exact HR170.out)) hb); have n3_ := Aside0.mk (below_step (by repeat (first | (with_reducible first | exact HB.out | apply below_alloc | apply pw_below_drewN | apply below_drew1) | exact HB.out)) hb); clear HO_5; clear HR164; clear HR170; clear HB; have HO_5 := n0_; have HR164 := n1_; have HR170 := n2_; have HB := n3_; clear n0_ n1_ n2_ n3_; (try clear hb); (try clear hb2); (try clear hk); (try clear hi); have p173 : 0 ≤ ((ji52) : Int) := of_decide_eq_true (by first | (with_reducible assumption) | assumption); have q173 : (ji52) < (x5_3.length : Int) := of_decide_eq_true (by first | (with_reducible assumption) | assumption); obtain ⟨ad173, e173, hx173_0, hx173_1⟩ := at_T30 (Kd.R_reads' HO_5.out).2.2 (ji52) p173 q173; cases e173; replace p173 := eq_true p173; replace q173 := eq_true q173))
                                                go_ret
                                                exact ⟨by first | rfl | (simp [errW_none, errW_some] <;> rfl) | (simp only [← hji52]; first | rfl | (simp [errW_none, errW_some] <;> rfl)) | (simp [*, errW_none, errW_some] <;> rfl), by repeat (first | (with_reducible first | exact HB.out | apply below_alloc | apply pw_below_drewN | apply below_drew1) | exact HB.out)⟩
                                            · rw [if_neg c55] at H
                                              have c55b0 : (t157 == ((rd_T30 x5_3 (ji52)).f1)) = false := beq_eq_false_iff_ne.mpr c55
                                              have c55b1 : (t157 != ((rd_T30 x5_3 (ji52)).f1)) = true := bne_iff_ne.mpr c55
                                              obtain rfl := Option.some.inj H
                                              go_wp2_with (first | ((with_reducible refine gate_callee (f := 7) rfl ?_); refine goesL_ (some 154) rfl rfl Try.func7 (by kernel_rfl) rfl #[.int .u8 0, .slice Ao22 x5_3.length co22] rfl (by (try simp only [List.map_toArray, List.map_cons, List.map_nil]); first | done | rfl | (simp only [List.length_drop, List.length_take]; rfl)) ?_; (with_reducible refine (agg_Of.calls 0 _ _ x5_3 t155 t156 _ ?side1 ?side2 A41.out).mono ?_); (case side1 => repeat (first | exact (Kd.R_reads' HO_5.out).2.2 | (with_reducible refine Kd.C_alloc ?_ _) | (with_reducible refine Kd.C_drewN ?_ _) | (with_reducible refine Kd.C_drew ?_))); (case side2 => exact (Kd.R_reads' HO_5.out).2.1); rintro e w73 ⟨rfl, hb⟩; refine ⟨_, rfl, ?_⟩; have n0_ := Aside0.mk (Kd.R_below (by (with_reducible repeat (first | apply Kd.R_alloc | apply Kd.R_drewN | apply Kd.R_drew)); exact HO_5.out) hb); have n1_ := Aside0.mk (below_step (by repeat (first | (with_reducible first | exact HB.out | apply below_alloc | apply pw_below_drewN | apply below_drew1) | exact HB.out)) hb); clear HO_5; clear HB; have HO_5 := n0_; have HB := n1_; clear n0_ n1_; (try clear hb); (try clear hb2); (try clear hk); (try clear hi)) | ((with_reducible refine gate_callee (f := 7) rfl ?_); refine goesL_ (some 159) rfl rfl Try.func7 (by kernel_rfl) rfl #[.int .u8 5, .slice Ao22 x5_3.length co22] rfl (by (try simp only [List.map_toArray, List.map_cons, List.map_nil]); first | done | rfl | (simp only [List.length_drop, List.length_take]; rfl)) ?_; (with_reducible refine (agg_Of.calls 5 _ _ x5_3 t157 t158 _ ?side1 ?side2 A42.out).mono ?_); (case side1 => repeat (first | exact (Kd.R_reads' HO_5.out).2.2 | (with_reducible refine Kd.C_alloc ?_ _) | (with_reducible refine Kd.C_drewN ?_ _) | (with_reducible refine Kd.C_drew ?_))); (case side2 => exact (Kd.R_reads' HO_5.out).2.1); rintro e w74 ⟨rfl, hb⟩; refine ⟨_, rfl, ?_⟩; have n0_ := Aside0.mk (Kd.R_below (by (with_reducible repeat (first | apply Kd.R_alloc | apply Kd.R_drewN | apply Kd.R_drew)); exact HO_5.out) hb); have n1_ := Aside0.mk (below_step (by repeat (first | (with_reducible first | exact HB.out | apply below_alloc | apply pw_below_drewN | apply below_drew1) | exact HB.out)) hb); clear HO_5; clear HB; have HO_5 := n0_; have HB := n1_; clear n0_ n1_; (try clear hb); (try clear hb2); (try clear hk); (try clear hi)) | ((with_reducible refine gate_callee (f := 7) rfl ?_); refine goesL_ (some 164) rfl rfl Try.func7 (by kernel_rfl) rfl #[.int .u8 1, .slice Ao22 x5_3.length co22] rfl (by (try simp only [List.map_toArray, List.map_cons, List.map_nil]); first | done | rfl | (simp only [List.length_drop, List.length_take]; rfl)) ?_; (with_reducible refine (agg_Of.calls 1 _ _ x5_3 t159 t160 _ ?side1 ?side2 A43.out).mono ?_); (case side1 => repeat (first | exact (Kd.R_reads' HO_5.out).2.2 | (with_reducible refine Kd.C_alloc ?_ _) | (with_reducible refine Kd.C_drewN ?_ _) | (with_reducible refine Kd.C_drew ?_))); (case side2 => exact (Kd.R_reads' HO_5.out).2.1); rintro e w75 ⟨rfl, hb⟩; refine ⟨_, rfl, ?_⟩; have n0_ := Aside0.mk (Kd.R_below (by (with_reducible repeat (first | apply Kd.R_alloc | apply Kd.R_drewN | apply Kd.R_drew)); exact HO_5.out) hb); have n1_ := Aside0.mk (below_step (by repeat (first | (with_reducible first | exact HB.out | apply below_alloc | apply pw_below_drewN | apply below_drew1) | exact HB.out)) hb); clear HO_5; clear HB; have HO_5 := n0_; have HB := n1_; clear n0_ n1_; (try clear hb); (try clear hb2); (try clear hk); (try clear hi); have q76 : ((l0.length : Int) : Int) ≤ ((x5_3.length : Int) : Int) := of_decide_eq_true (by first | (with_reducible assumption) | assumption); obtain ⟨i076, hi076, _, hsz76, _⟩ := info_parts info30; have hroom76 : x5_3.length ≤ co22 := (Kd.R_reads' HO_5.out).2.1; have hC76 : Kd.C k30 _ Ao22 x5_3.length x5_3 := (Kd.R_reads' HO_5.out).2.2; have hcut76 := cut_to (P := Try.prog) 22 30 .i64 Try.underlying22 hi076 Ao22 x5_3.length co22 (l0.length : Int) (of_decide_eq_true (by first | (with_reducible assumption) | assumption)) q76 hroom76; have hr76 := Kd.C_take (m := ((l0.length : Int) : Int).toNat) hC76 (by omega); have hy76 : y161.length = ((l0.length : Int) : Int).toNat := (by rw [Ny161.out, List.length_take]; omega); rw [← Ny161.out] at hr76; rw [← hy76] at hcut76; have HR164 := Aside0.mk hr76; have HC164 := Aside0.mk (show y161.length ≤ co22 from by omega); clear hr76 hC76 hroom76 hi076 hsz76; have KY76 := Aside0.mk hy76; clear hy76; have KL76 := Aside0.mk (show ((l0.length : Int) : Int).toNat ≤ x5_3.length from by omega); replace q76 := eq_true q76) | ((with_reducible refine gate_callee (f := 7) rfl ?_); refine goesL_ (some 172) rfl rfl Try.func7 (by kernel_rfl) rfl #[.int .u8 1, .slice Ao22 y161.length co22] rfl (by (try simp only [List.map_toArray, List.map_cons, List.map_nil]); first | done | rfl | (simp only [List.length_drop, List.length_take]; rfl)) ?_; (with_reducible refine (agg_Of.calls 1 _ _ y161 t165 t166 _ ?side1 ?side2 A46.out).mono ?_); (case side1 => repeat (first | exact (by repeat (first | (with_reducible exact HR164.out) | (with_reducible refine Kd.C_alloc ?_ _) | (with_reducible refine Kd.C_drewN ?_ _) | (with_reducible refine Kd.C_drew ?_) | exact HR164.out)) | (with_reducible refine Kd.C_alloc ?_ _) | (with_reducible refine Kd.C_drewN ?_ _) | (with_reducible refine Kd.C_drew ?_))); (case side2 => exact HC164.out); rintro e w77 ⟨rfl, hb⟩; refine ⟨_, rfl, ?_⟩; have n0_ := Aside0.mk (Kd.R_below (by (with_reducible repeat (first | apply Kd.R_alloc | apply Kd.R_drewN | apply Kd.R_drew)); exact HO_5.out) hb); have n1_ := Aside0.mk (Kd.C_below (by repeat (first | (with_reducible exact HR164.out) | (with_reducible refine Kd.C_alloc ?_ _) | (with_reducible refine Kd.C_drewN ?_ _) | (with_reducible refine Kd.C_drew ?_) | exact HR164.out)) hb); have n2_ := Aside0.mk (below_step (by repeat (first | (with_reducible first | exact HB.out | apply below_alloc | apply pw_below_drewN | apply below_drew1) | exact HB.out)) hb); clear HO_5; clear HR164; clear HB; have HO_5 := n0_; have HR164 := n1_; have HB := n2_; clear n0_ n1_ n2_; (try clear hb); (try clear hb2); (try clear hk); (try clear hi); have q78 : ((l0.length : Int) : Int) ≤ ((x5_3.length : Int) : Int) := of_decide_eq_true (by first | (with_reducible assumption) | assumption); obtain ⟨i078, hi078, _, hsz78, _⟩ := info_parts info30; have hroom78 : x5_3.length ≤ co22 := (Kd.R_reads' HO_5.out).2.1; have hC78 : Kd.C k30 _ Ao22 x5_3.length x5_3 := (Kd.R_reads' HO_5.out).2.2; have q078 : (0 : Int) ≤ ((l0.length : Int) : Int) := of_decide_eq_true (by first | (with_reducible assumption) | assumption); have hcut78 := cut_from (P := Try.prog) 22 30 .i64 Try.underlying22 hi078 2 hsz78 Ao22 x5_3.length co22 (l0.length : Int) q078 q78; have hr78 := Kd.C_drop (m := ((l0.length : Int) : Int).toNat) (c := co22) hC78 (by omega) hroom78; obtain ⟨A78, hA78⟩ : ∃ A1, A1 = (if co22 = ((l0.length : Int) : Int).toNat then Ao22 else (Ao22 : Option Addr).map (·.add (((l0.length : Int) : Int).toNat * 2))) := ⟨_, rfl⟩; obtain ⟨c78, hc78⟩ : ∃ c1, c1 = co22 - ((l0.length : Int) : Int).toNat := ⟨_, rfl⟩; have hy78 : y167.length = x5_3.length - ((l0.length : Int) : Int).toNat := (by rw [Ny167.out, List.length_drop] <;> omega); rw [show (x5_3).drop ((l0.length : Int) : Int).toNat = y167 from Ny167.out.symm] at hr78; replace hr78 : Kd.C k30 _ A78 y167.length y167 := (by rw [hA78]; exact hr78); rw [← hy78, ← hA78, ← hc78] at hcut78; have HR170 := Aside0.mk hr78; have HC170 := Aside0.mk (show y167.length ≤ c78 from by rw [hy78, hc78]; exact Nat.sub_le_sub_right hroom78 _); clear hr78 hC78 hroom78 hi078 hsz78 hc78; have KY78 := Aside0.mk hy78; have KA78 := Aside0.mk hA78; clear hy78 hA78; have KL78 := Aside0.mk (show ((l0.length : Int) : Int).toNat ≤ x5_3.length from by omega); replace q78 := eq_true q78) | ((with_reducible refine gate_callee (f := 7) rfl ?_); refine goesL_ (some 180) rfl rfl Try.func7 (by kernel_rfl) rfl #[.int .u8 1, .slice A78 y167.length c78] rfl (by (try simp only [List.map_toArray, List.map_cons, List.map_nil]); first | done | rfl | (simp only [List.length_drop, List.length_take]; rfl)) ?_; (with_reducible refine (agg_Of.calls 1 _ _ y167 t171 t172 _ ?side1 ?side2 A49.out).mono ?_); (case side1 => repeat (first | exact (by repeat (first | (with_reducible exact HR170.out) | (with_reducible refine Kd.C_alloc ?_ _) | (with_reducible refine Kd.C_drewN ?_ _) | (with_reducible refine Kd.C_drew ?_) | exact HR170.out)) | (with_reducible refine Kd.C_alloc ?_ _) | (with_reducible refine Kd.C_drewN ?_ _) | (with_reducible refine Kd.C_drew ?_))); (case side2 => exact HC170.out); rintro e w79 ⟨rfl, hb⟩; refine ⟨_, rfl, ?_⟩; have n0_ := Aside0.mk (Kd.R_below (by (with_reducible repeat (first | apply Kd.R_alloc | apply Kd.R_drewN | apply Kd.R_drew)); exact HO_5.out) hb); have n1_ := Aside0.mk (Kd.C_below (by repeat (first | (with_reducible exact HR164.out) | (with_reducible refine Kd.C_alloc ?_ _) | (with_reducible refine Kd.C_drewN ?_ _) | (with_reducible refine Kd.C_drew ?_) | exact HR164.out)) hb); have n2_ := Aside0.mk (Kd.C_below (by repeat (first | (with_reducible exact HR170.out) | (with_reducible refine Kd.C_alloc ?_ _) | (with_reducible refine Kd.C_drewN ?_ _) | (with_reducible refine Kd.C_drew ?_) | exact HR170.out)) hb); have n3_ := Aside0.mk (below_step (by repeat (first | (with_reducible first | exact HB.out | apply below_alloc | apply pw_below_drewN | apply below_drew1) | exact HB.out)) hb); clear HO_5; clear HR164; clear HR170; clear HB; have HO_5 := n0_; have HR164 := n1_; have HR170 := n2_; have HB := n3_; clear n0_ n1_ n2_ n3_; (try clear hb); (try clear hb2); (try clear hk); (try clear hi); have p173 : 0 ≤ ((ji52) : Int) := of_decide_eq_true (by first | (with_reducible assumption) | assumption); have q173 : (ji52) < (x5_3.length : Int) := of_decide_eq_true (by first | (with_reducible assumption) | assumption); obtain ⟨ad173, e173, hx173_0, hx173_1⟩ := at_T30 (Kd.R_reads' HO_5.out).2.2 (ji52) p173 q173; cases e173; replace p173 := eq_true p173; replace q173 := eq_true q173))
                                              go_ret
                                              exact ⟨by first | rfl | (simp [errW_none, errW_some] <;> rfl) | (simp only [← hji52]; first | rfl | (simp [errW_none, errW_some] <;> rfl)) | (simp [*, errW_none, errW_some] <;> rfl), by repeat (first | (with_reducible first | exact HB.out | apply below_alloc | apply pw_below_drewN | apply below_drew1) | exact HB.out)⟩
                                          · rw [if_neg c54] at H
                                            exact absurd H (by simp)
                                        · rw [if_neg c53] at H
                                          exact absurd H (by simp)
                                      · rw [if_neg c51] at H
                                        have c51b0 : (t155 == (wrap64 (1000 * (x5_3.length : Int)))) = false := beq_eq_false_iff_ne.mpr c51
                                        have c51b1 : (t155 != (wrap64 (1000 * (x5_3.length : Int)))) = true := bne_iff_ne.mpr c51
                                        obtain rfl := Option.some.inj H
                                        go_wp2_with (first | ((with_reducible refine gate_callee (f := 7) rfl ?_); refine goesL_ (some 154) rfl rfl Try.func7 (by kernel_rfl) rfl #[.int .u8 0, .slice Ao22 x5_3.length co22] rfl (by (try simp only [List.map_toArray, List.map_cons, List.map_nil]); first | done | rfl | (simp only [List.length_drop, List.length_take]; rfl)) ?_; (with_reducible refine (agg_Of.calls 0 _ _ x5_3 t155 t156 _ ?side1 ?side2 A41.out).mono ?_); (case side1 => repeat (first | exact (Kd.R_reads' HO_5.out).2.2 | (with_reducible refine Kd.C_alloc ?_ _) | (with_reducible refine Kd.C_drewN ?_ _) | (with_reducible refine Kd.C_drew ?_))); (case side2 => exact (Kd.R_reads' HO_5.out).2.1); rintro e w80 ⟨rfl, hb⟩; refine ⟨_, rfl, ?_⟩; have n0_ := Aside0.mk (Kd.R_below (by (with_reducible repeat (first | apply Kd.R_alloc | apply Kd.R_drewN | apply Kd.R_drew)); exact HO_5.out) hb); have n1_ := Aside0.mk (below_step (by repeat (first | (with_reducible first | exact HB.out | apply below_alloc | apply pw_below_drewN | apply below_drew1) | exact HB.out)) hb); clear HO_5; clear HB; have HO_5 := n0_; have HB := n1_; clear n0_ n1_; (try clear hb); (try clear hb2); (try clear hk); (try clear hi)) | ((with_reducible refine gate_callee (f := 7) rfl ?_); refine goesL_ (some 159) rfl rfl Try.func7 (by kernel_rfl) rfl #[.int .u8 5, .slice Ao22 x5_3.length co22] rfl (by (try simp only [List.map_toArray, List.map_cons, List.map_nil]); first | done | rfl | (simp only [List.length_drop, List.length_take]; rfl)) ?_; (with_reducible refine (agg_Of.calls 5 _ _ x5_3 t157 t158 _ ?side1 ?side2 A42.out).mono ?_); (case side1 => repeat (first | exact (Kd.R_reads' HO_5.out).2.2 | (with_reducible refine Kd.C_alloc ?_ _) | (with_reducible refine Kd.C_drewN ?_ _) | (with_reducible refine Kd.C_drew ?_))); (case side2 => exact (Kd.R_reads' HO_5.out).2.1); rintro e w81 ⟨rfl, hb⟩; refine ⟨_, rfl, ?_⟩; have n0_ := Aside0.mk (Kd.R_below (by (with_reducible repeat (first | apply Kd.R_alloc | apply Kd.R_drewN | apply Kd.R_drew)); exact HO_5.out) hb); have n1_ := Aside0.mk (below_step (by repeat (first | (with_reducible first | exact HB.out | apply below_alloc | apply pw_below_drewN | apply below_drew1) | exact HB.out)) hb); clear HO_5; clear HB; have HO_5 := n0_; have HB := n1_; clear n0_ n1_; (try clear hb); (try clear hb2); (try clear hk); (try clear hi)) | ((with_reducible refine gate_callee (f := 7) rfl ?_); refine goesL_ (some 164) rfl rfl Try.func7 (by kernel_rfl) rfl #[.int .u8 1, .slice Ao22 x5_3.length co22] rfl (by (try simp only [List.map_toArray, List.map_cons, List.map_nil]); first | done | rfl | (simp only [List.length_drop, List.length_take]; rfl)) ?_; (with_reducible refine (agg_Of.calls 1 _ _ x5_3 t159 t160 _ ?side1 ?side2 A43.out).mono ?_); (case side1 => repeat (first | exact (Kd.R_reads' HO_5.out).2.2 | (with_reducible refine Kd.C_alloc ?_ _) | (with_reducible refine Kd.C_drewN ?_ _) | (with_reducible refine Kd.C_drew ?_))); (case side2 => exact (Kd.R_reads' HO_5.out).2.1); rintro e w82 ⟨rfl, hb⟩; refine ⟨_, rfl, ?_⟩; have n0_ := Aside0.mk (Kd.R_below (by (with_reducible repeat (first | apply Kd.R_alloc | apply Kd.R_drewN | apply Kd.R_drew)); exact HO_5.out) hb); have n1_ := Aside0.mk (below_step (by repeat (first | (with_reducible first | exact HB.out | apply below_alloc | apply pw_below_drewN | apply below_drew1) | exact HB.out)) hb); clear HO_5; clear HB; have HO_5 := n0_; have HB := n1_; clear n0_ n1_; (try clear hb); (try clear hb2); (try clear hk); (try clear hi); have q83 : ((l0.length : Int) : Int) ≤ ((x5_3.length : Int) : Int) := of_decide_eq_true (by first | (with_reducible assumption) | assumption); obtain ⟨i083, hi083, _, hsz83, _⟩ := info_parts info30; have hroom83 : x5_3.length ≤ co22 := (Kd.R_reads' HO_5.out).2.1; have hC83 : Kd.C k30 _ Ao22 x5_3.length x5_3 := (Kd.R_reads' HO_5.out).2.2; have hcut83 := cut_to (P := Try.prog) 22 30 .i64 Try.underlying22 hi083 Ao22 x5_3.length co22 (l0.length : Int) (of_decide_eq_true (by first | (with_reducible assumption) | assumption)) q83 hroom83; have hr83 := Kd.C_take (m := ((l0.length : Int) : Int).toNat) hC83 (by omega); have hy83 : y161.length = ((l0.length : Int) : Int).toNat := (by rw [Ny161.out, List.length_take]; omega); rw [← Ny161.out] at hr83; rw [← hy83] at hcut83; have HR164 := Aside0.mk hr83; have HC164 := Aside0.mk (show y161.length ≤ co22 from by omega); clear hr83 hC83 hroom83 hi083 hsz83; have KY83 := Aside0.mk hy83; clear hy83; have KL83 := Aside0.mk (show ((l0.length : Int) : Int).toNat ≤ x5_3.length from by omega); replace q83 := eq_true q83) | ((with_reducible refine gate_callee (f := 7) rfl ?_); refine goesL_ (some 172) rfl rfl Try.func7 (by kernel_rfl) rfl #[.int .u8 1, .slice Ao22 y161.length co22] rfl (by (try simp only [List.map_toArray, List.map_cons, List.map_nil]); first | done | rfl | (simp only [List.length_drop, List.length_take]; rfl)) ?_; (with_reducible refine (agg_Of.calls 1 _ _ y161 t165 t166 _ ?side1 ?side2 A46.out).mono ?_); (case side1 => repeat (first | exact (by repeat (first | (with_reducible exact HR164.out) | (with_reducible refine Kd.C_alloc ?_ _) | (with_reducible refine Kd.C_drewN ?_ _) | (with_reducible refine Kd.C_drew ?_) | exact HR164.out)) | (with_reducible refine Kd.C_alloc ?_ _) | (with_reducible refine Kd.C_drewN ?_ _) | (with_reducible refine Kd.C_drew ?_))); (case side2 => exact HC164.out); rintro e w84 ⟨rfl, hb⟩; refine ⟨_, rfl, ?_⟩; have n0_ := Aside0.mk (Kd.R_below (by (with_reducible repeat (first | apply Kd.R_alloc | apply Kd.R_drewN | apply Kd.R_drew)); exact HO_5.out) hb); have n1_ := Aside0.mk (Kd.C_below (by repeat (first | (with_reducible exact HR164.out) | (with_reducible refine Kd.C_alloc ?_ _) | (with_reducible refine Kd.C_drewN ?_ _) | (with_reducible refine Kd.C_drew ?_) | exact HR164.out)) hb); have n2_ := Aside0.mk (below_step (by repeat (first | (with_reducible first | exact HB.out | apply below_alloc | apply pw_below_drewN | apply below_drew1) | exact HB.out)) hb); clear HO_5; clear HR164; clear HB; have HO_5 := n0_; have HR164 := n1_; have HB := n2_; clear n0_ n1_ n2_; (try clear hb); (try clear hb2); (try clear hk); (try clear hi); have q85 : ((l0.length : Int) : Int) ≤ ((x5_3.length : Int) : Int) := of_decide_eq_true (by first | (with_reducible assumption) | assumption); obtain ⟨i085, hi085, _, hsz85, _⟩ := info_parts info30; have hroom85 : x5_3.length ≤ co22 := (Kd.R_reads' HO_5.out).2.1; have hC85 : Kd.C k30 _ Ao22 x5_3.length x5_3 := (Kd.R_reads' HO_5.out).2.2; have q085 : (0 : Int) ≤ ((l0.length : Int) : Int) := of_decide_eq_true (by first | (with_reducible assumption) | assumption); have hcut85 := cut_from (P := Try.prog) 22 30 .i64 Try.underlying22 hi085 2 hsz85 Ao22 x5_3.length co22 (l0.length : Int) q085 q85; have hr85 := Kd.C_drop (m := ((l0.length : Int) : Int).toNat) (c := co22) hC85 (by omega) hroom85; obtain ⟨A85, hA85⟩ : ∃ A1, A1 = (if co22 = ((l0.length : Int) : Int).toNat then Ao22 else (Ao22 : Option Addr).map (·.add (((l0.length : Int) : Int).toNat * 2))) := ⟨_, rfl⟩; obtain ⟨c85, hc85⟩ : ∃ c1, c1 = co22 - ((l0.length : Int) : Int).toNat := ⟨_, rfl⟩; have hy85 : y167.length = x5_3.length - ((l0.length : Int) : Int).toNat := (by rw [Ny167.out, List.length_drop] <;> omega); rw [show (x5_3).drop ((l0.length : Int) : Int).toNat = y167 from Ny167.out.symm] at hr85; replace hr85 : Kd.C k30 _ A85 y167.length y167 := (by rw [hA85]; exact hr85); rw [← hy85, ← hA85, ← hc85] at hcut85; have HR170 := Aside0.mk hr85; have HC170 := Aside0.mk (show y167.length ≤ c85 from by rw [hy85, hc85]; exact Nat.sub_le_sub_right hroom85 _); clear hr85 hC85 hroom85 hi085 hsz85 hc85; have KY85 := Aside0.mk hy85; have KA85 := Aside0.mk hA85; clear hy85 hA85; have KL85 := Aside0.mk (show ((l0.length : Int) : Int).toNat ≤ x5_3.length from by omega); replace q85 := eq_true q85) | ((with_reducible refine gate_callee (f := 7) rfl ?_); refine goesL_ (some 180) rfl rfl Try.func7 (by kernel_rfl) rfl #[.int .u8 1, .slice A85 y167.length c85] rfl (by (try simp only [List.map_toArray, List.map_cons, List.map_nil]); first | done | rfl | (simp only [List.length_drop, List.length_take]; rfl)) ?_; (with_reducible refine (agg_Of.calls 1 _ _ y167 t171 t172 _ ?side1 ?side2 A49.out).mono ?_); (case side1 => repeat (first | exact (by repeat (first | (with_reducible exact HR170.out) | (with_reducible refine Kd.C_alloc ?_ _) | (with_reducible refine Kd.C_drewN ?_ _) | (with_reducible refine Kd.C_drew ?_) | exact HR170.out)) | (with_reducible refine Kd.C_alloc ?_ _) | (with_reducible refine Kd.C_drewN ?_ _) | (with_reducible refine Kd.C_drew ?_))); (case side2 => exact HC170.out); rintro e w86 ⟨rfl, hb⟩; refine ⟨_, rfl, ?_⟩; have n0_ := Aside0.mk (Kd.R_below (by (with_reducible repeat (first | apply Kd.R_alloc | apply Kd.R_drewN | apply Kd.R_drew)); exact HO_5.out) hb); have n1_ := Aside0.mk (Kd.C_below (by repeat (first | (with_reducible exact HR164.out) | (with_reducible refine Kd.C_alloc ?_ _) | (with_reducible refine Kd.C_drewN ?_ _) | (with_reducible refine Kd.C_drew ?_) | exact HR164.out)) hb); have n2_ := Aside0.mk (Kd.C_below (by repeat (first | (with_reducible exact HR170.out) | (with_reducible refine Kd.C_alloc ?_ _) | (with_reducible refine Kd.C_drewN ?_ _) | (with_reducible refine Kd.C_drew ?_) | exact HR170.out)) hb); have n3_ := Aside0.mk (below_step (by repeat (first | (with_reducible first | exact HB.out | apply below_alloc | apply pw_below_drewN | apply below_drew1) | exact HB.out)) hb); clear HO_5; clear HR164; clear HR170; clear HB; have HO_5 := n0_; have HR164 := n1_; have HR170 := n2_; have HB := n3_; clear n0_ n1_ n2_ n3_; (try clear hb); (try clear hb2); (try clear hk); (try clear hi)))
                                        go_ret
                                        exact ⟨by first | rfl | (simp [errW_none, errW_some] <;> rfl) | (simp [*, errW_none, errW_some] <;> rfl), by repeat (first | (with_reducible first | exact HB.out | apply below_alloc | apply pw_below_drewN | apply below_drew1) | exact HB.out)⟩
                                    · rw [if_neg c50] at H
                                      have c50b0 : (x14_5 == 3) = false := beq_eq_false_iff_ne.mpr c50
                                      have c50b1 : (x14_5 != 3) = true := bne_iff_ne.mpr c50
                                      obtain rfl := Option.some.inj H
                                      go_wp2_with (first | ((with_reducible refine gate_callee (f := 7) rfl ?_); refine goesL_ (some 154) rfl rfl Try.func7 (by kernel_rfl) rfl #[.int .u8 0, .slice Ao22 x5_3.length co22] rfl (by (try simp only [List.map_toArray, List.map_cons, List.map_nil]); first | done | rfl | (simp only [List.length_drop, List.length_take]; rfl)) ?_; (with_reducible refine (agg_Of.calls 0 _ _ x5_3 t155 t156 _ ?side1 ?side2 A41.out).mono ?_); (case side1 => repeat (first | exact (Kd.R_reads' HO_5.out).2.2 | (with_reducible refine Kd.C_alloc ?_ _) | (with_reducible refine Kd.C_drewN ?_ _) | (with_reducible refine Kd.C_drew ?_))); (case side2 => exact (Kd.R_reads' HO_5.out).2.1); rintro e w87 ⟨rfl, hb⟩; refine ⟨_, rfl, ?_⟩; have n0_ := Aside0.mk (Kd.R_below (by (with_reducible repeat (first | apply Kd.R_alloc | apply Kd.R_drewN | apply Kd.R_drew)); exact HO_5.out) hb); have n1_ := Aside0.mk (below_step (by repeat (first | (with_reducible first | exact HB.out | apply below_alloc | apply pw_below_drewN | apply below_drew1) | exact HB.out)) hb); clear HO_5; clear HB; have HO_5 := n0_; have HB := n1_; clear n0_ n1_; (try clear hb); (try clear hb2); (try clear hk); (try clear hi)) | ((with_reducible refine gate_callee (f := 7) rfl ?_); refine goesL_ (some 159) rfl rfl Try.func7 (by kernel_rfl) rfl #[.int .u8 5, .slice Ao22 x5_3.length co22] rfl (by (try simp only [List.map_toArray, List.map_cons, List.map_nil]); first | done | rfl | (simp only [List.length_drop, List.length_take]; rfl)) ?_; (with_reducible refine (agg_Of.calls 5 _ _ x5_3 t157 t158 _ ?side1 ?side2 A42.out).mono ?_); (case side1 => repeat (first | exact (Kd.R_reads' HO_5.out).2.2 | (with_reducible refine Kd.C_alloc ?_ _) | (with_reducible refine Kd.C_drewN ?_ _) | (with_reducible refine Kd.C_drew ?_))); (case side2 => exact (Kd.R_reads' HO_5.out).2.1); rintro e w88 ⟨rfl, hb⟩; refine ⟨_, rfl, ?_⟩; have n0_ := Aside0.mk (Kd.R_below (by (with_reducible repeat (first | apply Kd.R_alloc | apply Kd.R_drewN | apply Kd.R_drew)); exact HO_5.out) hb); have n1_ := Aside0.mk (below_step (by repeat (first | (with_reducible first | exact HB.out | apply below_alloc | apply pw_below_drewN | apply below_drew1) | exact HB.out)) hb); clear HO_5; clear HB; have HO_5 := n0_; have HB := n1_; clear n0_ n1_; (try clear hb); (try clear hb2); (try clear hk); (try clear hi)) | ((with_reducible refine gate_callee (f := 7) rfl ?_); refine goesL_ (some 164) rfl rfl Try.func7 (by kernel_rfl) rfl #[.int .u8 1, .slice Ao22 x5_3.length co22] rfl (by (try simp only [List.map_toArray, List.map_cons, List.map_nil]); first | done | rfl | (simp only [List.length_drop, List.length_take]; rfl)) ?_; (with_reducible refine (agg_Of.calls 1 _ _ x5_3 t159 t160 _ ?side1 ?side2 A43.out).mono ?_); (case side1 => repeat (first | exact (Kd.R_reads' HO_5.out).2.2 | (with_reducible refine Kd.C_alloc ?_ _) | (with_reducible refine Kd.C_drewN ?_ _) | (with_reducible refine Kd.C_drew ?_))); (case side2 => exact (Kd.R_reads' HO_5.out).2.1); rintro e w89 ⟨rfl, hb⟩; refine ⟨_, rfl, ?_⟩; have n0_ := Aside0.mk (Kd.R_below (by (with_reducible repeat (first | apply Kd.R_alloc | apply Kd.R_drewN | apply Kd.R_drew)); exact HO_5.out) hb); have n1_ := Aside0.mk (below_step (by repeat (first | (with_reducible first | exact HB.out | apply below_alloc | apply pw_below_drewN | apply below_drew1) | exact HB.out)) hb); clear HO_5; clear HB; have HO_5 := n0_; have HB := n1_; clear n0_ n1_; (try clear hb); (try clear hb2); (try clear hk); (try clear hi); have q90 : ((l0.length : Int) : Int) ≤ ((x5_3.length : Int) : Int) := of_decide_eq_true (by first | (with_reducible assumption) | assumption); obtain ⟨i090, hi090, _, hsz90, _⟩ := info_parts info30; have hroom90 : x5_3.length ≤ co22 := (Kd.R_reads' HO_5.out).2.1; have hC90 : Kd.C k30 _ Ao22 x5_3.length x5_3 := (Kd.R_reads' HO_5.out).2.2; have hcut90 := cut_to (P := Try.prog) 22 30 .i64 Try.underlying22 hi090 Ao22 x5_3.length co22 (l0.length : Int) (of_decide_eq_true (by first | (with_reducible assumption) | assumption)) q90 hroom90; have hr90 := Kd.C_take (m := ((l0.length : Int) : Int).toNat) hC90 (by omega); have hy90 : y161.length = ((l0.length : Int) : Int).toNat := (by rw [Ny161.out, List.length_take]; omega); rw [← Ny161.out] at hr90; rw [← hy90] at hcut90; have HR164 := Aside0.mk hr90; have HC164 := Aside0.mk (show y161.length ≤ co22 from by omega); clear hr90 hC90 hroom90 hi090 hsz90; have KY90 := Aside0.mk hy90; clear hy90; have KL90 := Aside0.mk (show ((l0.length : Int) : Int).toNat ≤ x5_3.length from by omega); replace q90 := eq_true q90) | ((with_reducible refine gate_callee (f := 7) rfl ?_); refine goesL_ (some 172) rfl rfl Try.func7 (by kernel_rfl) rfl #[.int .u8 1, .slice Ao22 y161.length co22] rfl (by (try simp only [List.map_toArray, List.map_cons, List.map_nil]); first | done | rfl | (simp only [List.length_drop, List.length_take]; rfl)) ?_; (with_reducible refine (agg_Of.calls 1 _ _ y161 t165 t166 _ ?side1 ?side2 A46.out).mono ?_); (case side1 => repeat (first | exact (by repeat (first | (with_reducible exact HR164.out) | (with_reducible refine Kd.C_alloc ?_ _) | (with_reducible refine Kd.C_drewN ?_ _) | (with_reducible refine Kd.C_drew ?_) | exact HR164.out)) | (with_reducible refine Kd.C_alloc ?_ _) | (with_reducible refine Kd.C_drewN ?_ _) | (with_reducible refine Kd.C_drew ?_))); (case side2 => exact HC164.out); rintro e w91 ⟨rfl, hb⟩; refine ⟨_, rfl, ?_⟩; have n0_ := Aside0.mk (Kd.R_below (by (with_reducible repeat (first | apply Kd.R_alloc | apply Kd.R_drewN | apply Kd.R_drew)); exact HO_5.out) hb); have n1_ := Aside0.mk (Kd.C_below (by repeat (first | (with_reducible exact HR164.out) | (with_reducible refine Kd.C_alloc ?_ _) | (with_reducible refine Kd.C_drewN ?_ _) | (with_reducible refine Kd.C_drew ?_) | exact HR164.out)) hb); have n2_ := Aside0.mk (below_step (by repeat (first | (with_reducible first | exact HB.out | apply below_alloc | apply pw_below_drewN | apply below_drew1) | exact HB.out)) hb); clear HO_5; clear HR164; clear HB; have HO_5 := n0_; have HR164 := n1_; have HB := n2_; clear n0_ n1_ n2_; (try clear hb); (try clear hb2); (try clear hk); (try clear hi); have q92 : ((l0.length : Int) : Int) ≤ ((x5_3.length : Int) : Int) := of_decide_eq_true (by first | (with_reducible assumption) | assumption); obtain ⟨i092, hi092, _, hsz92, _⟩ := info_parts info30; have hroom92 : x5_3.length ≤ co22 := (Kd.R_reads' HO_5.out).2.1; have hC92 : Kd.C k30 _ Ao22 x5_3.length x5_3 := (Kd.R_reads' HO_5.out).2.2; have q092 : (0 : Int) ≤ ((l0.length : Int) : Int) := of_decide_eq_true (by first | (with_reducible assumption) | assumption); have hcut92 := cut_from (P := Try.prog) 22 30 .i64 Try.underlying22 hi092 2 hsz92 Ao22 x5_3.length co22 (l0.length : Int) q092 q92; have hr92 := Kd.C_drop (m := ((l0.length : Int) : Int).toNat) (c := co22) hC92 (by omega) hroom92; obtain ⟨A92, hA92⟩ : ∃ A1, A1 = (if co22 = ((l0.length : Int) : Int).toNat then Ao22 else (Ao22 : Option Addr).map (·.add (((l0.length : Int) : Int).toNat * 2))) := ⟨_, rfl⟩; obtain ⟨c92, hc92⟩ : ∃ c1, c1 = co22 - ((l0.length : Int) : Int).toNat := ⟨_, rfl⟩; have hy92 : y167.length = x5_3.length - ((l0.length : Int) : Int).toNat := (by rw [Ny167.out, List.length_drop] <;> omega); rw [show (x5_3).drop ((l0.length : Int) : Int).toNat = y167 from Ny167.out.symm] at hr92; replace hr92 : Kd.C k30 _ A92 y167.length y167 := (by rw [hA92]; exact hr92); rw [← hy92, ← hA92, ← hc92] at hcut92; have HR170 := Aside0.mk hr92; have HC170 := Aside0.mk (show y167.length ≤ c92 from by rw [hy92, hc92]; exact Nat.sub_le_sub_right hroom92 _); clear hr92 hC92 hroom92 hi092 hsz92 hc92; have KY92 := Aside0.mk hy92; have KA92 := Aside0.mk hA92; clear hy92 hA92; have KL92 := Aside0.mk (show ((l0.length : Int) : Int).toNat ≤ x5_3.length from by omega); replace q92 := eq_true q92) | ((with_reducible refine gate_callee (f := 7) rfl ?_); refine goesL_ (some 180) rfl rfl Try.func7 (by kernel_rfl) rfl #[.int .u8 1, .slice A92 y167.length c92] rfl (by (try simp only [List.map_toArray, List.map_cons, List.map_nil]); first | done | rfl | (simp only [List.length_drop, List.length_take]; rfl)) ?_; (with_reducible refine (agg_Of.calls 1 _ _ y167 t171 t172 _ ?side1 ?side2 A49.out).mono ?_); (case side1 => repeat (first | exact (by repeat (first | (with_reducible exact HR170.out) | (with_reducible refine Kd.C_alloc ?_ _) | (with_reducible refine Kd.C_drewN ?_ _) | (with_reducible refine Kd.C_drew ?_) | exact HR170.out)) | (with_reducible refine Kd.C_alloc ?_ _) | (with_reducible refine Kd.C_drewN ?_ _) | (with_reducible refine Kd.C_drew ?_))); (case side2 => exact HC170.out); rintro e w93 ⟨rfl, hb⟩; refine ⟨_, rfl, ?_⟩; have n0_ := Aside0.mk (Kd.R_below (by (with_reducible repeat (first | apply Kd.R_alloc | apply Kd.R_drewN | apply Kd.R_drew)); exact HO_5.out) hb); have n1_ := Aside0.mk (Kd.C_below (by repeat (first | (with_reducible exact HR164.out) | (with_reducible refine Kd.C_alloc ?_ _) | (with_reducible refine Kd.C_drewN ?_ _) | (with_reducible refine Kd.C_drew ?_) | exact HR164.out)) hb); have n2_ := Aside0.mk (Kd.C_below (by repeat (first | (with_reducible exact HR170.out) | (with_reducible refine Kd.C_alloc ?_ _) | (with_reducible refine Kd.C_drewN ?_ _) | (with_reducible refine Kd.C_drew ?_) | exact HR170.out)) hb); have n3_ := Aside0.mk (below_step (by repeat (first | (with_reducible first | exact HB.out | apply below_alloc | apply pw_below_drewN | apply below_drew1) | exact HB.out)) hb); clear HO_5; clear HR164; clear HR170; clear HB; have HO_5 := n0_; have HR164 := n1_; have HR170 := n2_; have HB := n3_; clear n0_ n1_ n2_ n3_; (try clear hb); (try clear hb2); (try clear hk); (try clear hi)))
                                      go_ret
                                      exact ⟨by first | rfl | (simp [errW_none, errW_some] <;> rfl) | (simp [*, errW_none, errW_some] <;> rfl), by repeat (first | (with_reducible first | exact HB.out | apply below_alloc | apply pw_below_drewN | apply below_drew1) | exact HB.out)⟩
                                  · rw [if_neg c45] at H
                                    exact absurd H (by simp)
                                · rw [if_neg c44] at H
                                  exact absurd H (by simp)

end Go.Proofs.Ytafpedgmfkaifaa.PAll
