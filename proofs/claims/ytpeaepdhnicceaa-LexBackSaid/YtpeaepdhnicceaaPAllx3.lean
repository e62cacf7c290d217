/- Printed by a program of this session (wip/tools/myprint.py, which runs the kit's own printer) over contracts proved by hand: functions and their walks, and the row of a law: for every input it returns true. No conditions. -/
import Derived.Test.YtpeaepdhnicceaaPAllx0
import Derived.Test.YtpeaepdhnicceaaPAllx2
namespace Go.Proofs.Ytpeaepdhnicceaa.PAll
open Go.RowKit Go.Proofs.Ytpeaepdhnicceaa.Ix Go.Proofs.Ytpeaepdhnicceaa.PBase Go.Proofs.Ytpeaepdhnicceaa.PTy Go.Proofs.Ytpeaepdhnicceaa.Given Go.Proofs.YtpeaepdhnicceaaW.PrintWords Go.Proofs.YtpeaepdhnicceaaW.PrintLast Go.Proofs.YtpeaepdhnicceaaW.PrintMore
attribute [local go_sem] max2_int min2_int max_two min_two max_three min_three max_four min_four   -- for this text's walks alone
set_option linter.unusedVariables false
set_option linter.unusedSimpArgs false

/-! ### tocsinlaw09_LexBack: function 6 -/
mutual
def tocsinlaw09_LexBack.j0 : Nat → ByteArray → ByteArray → Bool → Option (Bool)
  | 0, _, _, _ => none
  | k + 1, x0, x1, x27 => if x27 = true then (some true) else ((lex_All.f x0).bind fun bt139 => (if bt139.2.2 = 0 then (tocsinlaw09_LexBack.l0 k x1 bt139.1 (⟨#[]⟩ : ByteArray) 0) else (some true)))
def tocsinlaw09_LexBack.l0 : Nat → ByteArray → List (S31) → ByteArray → Int → Option (Bool)
  | 0, _, _, _, _ => none
  | k + 1, x1, x5, x8, x9 => if x9 < (x5.length : Int) then (if 0 ≤ x9 then ((tocsinlaw09_form.f k ((rd_T31 x5 x9).f0) ((rd_T31 x5 x9).f1) ((rd_T31 x5 x9).f2)).bind fun t145 => (if x8.size + t145.size ≤ 9223372036854775807 then (if (x8 ++ t145).size + 1 ≤ 9223372036854775807 then (tocsinlaw09_LexBack.l0 k x1 x5 ((x8 ++ t145) ++ (⟨#[32]⟩ : ByteArray)) (wrap64 (x9 + 1))) else (none)) else (none))) else (none)) else (tocsinlaw09_LexBack.l1 k x1 x5 x8 (⟨#[35]⟩ : ByteArray) 0)
def tocsinlaw09_LexBack.l1 : Nat → ByteArray → List (S31) → ByteArray → ByteArray → Int → Option (Bool)
  | 0, _, _, _, _, _ => none
  | k + 1, x1, x5, x8, x10, x11 => if x11 < (x1.size : Int) then (if 0 ≤ x11 then (if (bt x1 x11) = 10 then (tocsinlaw09_LexBack.l1 k x1 x5 x8 x10 (wrap64 (x11 + 1))) else (if x11 ≤ (wrap64 (x11 + 1)) then (if (wrap64 (x11 + 1)) ≤ (x1.size : Int) then (if x10.size + (x1.extract (x11 : Int).toNat ((wrap64 (x11 + 1)) : Int).toNat).size ≤ 9223372036854775807 then (tocsinlaw09_LexBack.l1 k x1 x5 x8 (x10 ++ (x1.extract (x11 : Int).toNat ((wrap64 (x11 + 1)) : Int).toNat)) (wrap64 (x11 + 1))) else (none)) else (none)) else (none))) else (none)) else (tocsinlaw09_LexBack.l2 k x5 x8 x10 0)
def tocsinlaw09_LexBack.l2 : Nat → List (S31) → ByteArray → ByteArray → Int → Option (Bool)
  | 0, _, _, _, _ => none
  | k + 1, x5, x8, x10, x12 => if x12 < 2 then (if x12 = 1 then (if x10.size + 2 ≤ 9223372036854775807 then (if (x10 ++ (⟨#[10, 9]⟩ : ByteArray)).size + x8.size ≤ 9223372036854775807 then (if ((x10 ++ (⟨#[10, 9]⟩ : ByteArray)) ++ x8).size + x10.size ≤ 9223372036854775807 then (tocsinlaw09_LexBack.j4 k x5 x8 x10 x12 (((x10 ++ (⟨#[10, 9]⟩ : ByteArray)) ++ x8) ++ x10)) else (none)) else (none)) else (none)) else (tocsinlaw09_LexBack.j4 k x5 x8 x10 x12 x8)) else (some true)
def tocsinlaw09_LexBack.j4 : Nat → List (S31) → ByteArray → ByteArray → Int → ByteArray → Option (Bool)
  | 0, _, _, _, _, _ => none
  | k + 1, x5, x8, x10, x12, x13 => if (x13.size : Int) > 4096 then (some true) else ((lex_All.f x13).bind fun bt146 => (if bt146.2.2 = 0 then (tocsinlaw09_LexBack.j5 k x5 x8 x10 x12 bt146.1 ((bt146.1.length : Int) != (x5.length : Int))) else (tocsinlaw09_LexBack.j5 k x5 x8 x10 x12 bt146.1 true)))
def tocsinlaw09_LexBack.j5 : Nat → List (S31) → ByteArray → ByteArray → Int → List (S31) → Bool → Option (Bool)
  | 0, _, _, _, _, _, _ => none
  | k + 1, x5, x8, x10, x12, x14, x97 => if x97 = true then (some false) else (tocsinlaw09_LexBack.l3 k x5 x8 x10 x12 x14 0)
def tocsinlaw09_LexBack.l3 : Nat → List (S31) → ByteArray → ByteArray → Int → List (S31) → Int → Option (Bool)
  | 0, _, _, _, _, _, _ => none
  | k + 1, x5, x8, x10, x12, x14, x17 => if x17 < (x5.length : Int) then (if 0 ≤ x17 then (if x17 < (x14.length : Int) then (if ((rd_T31 x14 x17).f0) = ((rd_T31 x5 x17).f0) then (if ((rd_T31 x14 x17).f1).toList = ((rd_T31 x5 x17).f1).toList then (tocsinlaw09_LexBack.l3 k x5 x8 x10 x12 x14 (wrap64 (x17 + 1))) else (some false)) else (some false)) else (none)) else (none)) else (tocsinlaw09_LexBack.l2 k x5 x8 x10 (wrap64 (x12 + 1)))
end
def tocsinlaw09_LexBack.f (k : Nat) (a0 : ByteArray) (a1 : ByteArray) : Option (Bool) := (tocsinlaw09_awake.f).bind fun t138 => (if t138 = true then (if (a0.size : Int) > 3000 then (tocsinlaw09_LexBack.j0 k a0 a1 true) else (tocsinlaw09_LexBack.j0 k a0 a1 (decide ((a1.size : Int) > 200)))) else (some false))
theorem tocsinlaw09_LexBack.mono_l : ∀ k, (∀ y0 y1 y2, LeO (tocsinlaw09_LexBack.j0 k y0 y1 y2) (tocsinlaw09_LexBack.j0 (k + 1) y0 y1 y2)) ∧ (∀ y0 y1 y2 y3, LeO (tocsinlaw09_LexBack.l0 k y0 y1 y2 y3) (tocsinlaw09_LexBack.l0 (k + 1) y0 y1 y2 y3)) ∧ (∀ y0 y1 y2 y3 y4, LeO (tocsinlaw09_LexBack.l1 k y0 y1 y2 y3 y4) (tocsinlaw09_LexBack.l1 (k + 1) y0 y1 y2 y3 y4)) ∧ (∀ y0 y1 y2 y3, LeO (tocsinlaw09_LexBack.l2 k y0 y1 y2 y3) (tocsinlaw09_LexBack.l2 (k + 1) y0 y1 y2 y3)) ∧ (∀ y0 y1 y2 y3 y4, LeO (tocsinlaw09_LexBack.j4 k y0 y1 y2 y3 y4) (tocsinlaw09_LexBack.j4 (k + 1) y0 y1 y2 y3 y4)) ∧ (∀ y0 y1 y2 y3 y4 y5, LeO (tocsinlaw09_LexBack.j5 k y0 y1 y2 y3 y4 y5) (tocsinlaw09_LexBack.j5 (k + 1) y0 y1 y2 y3 y4 y5)) ∧ (∀ y0 y1 y2 y3 y4 y5, LeO (tocsinlaw09_LexBack.l3 k y0 y1 y2 y3 y4 y5) (tocsinlaw09_LexBack.l3 (k + 1) y0 y1 y2 y3 y4 y5))
  | 0 => ⟨fun _ _ _ r h => by simp [tocsinlaw09_LexBack.j0] at h, fun _ _ _ _ r h => by simp [tocsinlaw09_LexBack.l0] at h, fun _ _ _ _ _ r h => by simp [tocsinlaw09_LexBack.l1] at h, fun _ _ _ _ r h => by simp [tocsinlaw09_LexBack.l2] at h, fun _ _ _ _ _ r h => by simp [tocsinlaw09_LexBack.j4] at h, fun _ _ _ _ _ _ r h => by simp [tocsinlaw09_LexBack.j5] at h, fun _ _ _ _ _ _ r h => by simp [tocsinlaw09_LexBack.l3] at h⟩
  | k + 1 => by
    obtain ⟨ih0, ih1, ih2, ih3, ih4, ih5, ih6⟩ := tocsinlaw09_LexBack.mono_l k
    refine ⟨?_, ?_, ?_, ?_, ?_, ?_, ?_⟩
    · intro y0 y1 y2
      unfold tocsinlaw09_LexBack.j0
      repeat' first
      | (with_reducible exact ih0 _ _ _)
      | (with_reducible exact ih1 _ _ _ _)
      | (with_reducible exact ih2 _ _ _ _ _)
      | (with_reducible exact ih3 _ _ _ _)
      | (with_reducible exact ih4 _ _ _ _ _)
      | (with_reducible exact ih5 _ _ _ _ _ _)
      | (with_reducible exact ih6 _ _ _ _ _ _)
      | (with_reducible exact tocsinlaw09_form.mono _ _ _ _)
      | (with_reducible exact LeO.refl _)
      | (with_reducible exact LeO.none _)
      | (with_reducible refine LeO.ite ?_ ?_)
      | (with_reducible refine LeO.bind ?_ (fun _ => ?_))
      | exact ih0 _ _ _
      | exact ih1 _ _ _ _
      | exact ih2 _ _ _ _ _
      | exact ih3 _ _ _ _
      | exact ih4 _ _ _ _ _
      | exact ih5 _ _ _ _ _ _
      | exact ih6 _ _ _ _ _ _
      | exact tocsinlaw09_form.mono _ _ _ _
      | exact LeO.none _
      | refine LeO.ite ?_ ?_
      | refine LeO.bind ?_ (fun _ => ?_)
    · intro y0 y1 y2 y3
      unfold tocsinlaw09_LexBack.l0
      repeat' first
      | (with_reducible exact ih0 _ _ _)
      | (with_reducible exact ih1 _ _ _ _)
      | (with_reducible exact ih2 _ _ _ _ _)
      | (with_reducible exact ih3 _ _ _ _)
      | (with_reducible exact ih4 _ _ _ _ _)
      | (with_reducible exact ih5 _ _ _ _ _ _)
      | (with_reducible exact ih6 _ _ _ _ _ _)
      | (with_reducible exact tocsinlaw09_form.mono _ _ _ _)
      | (with_reducible exact LeO.refl _)
      | (with_reducible exact LeO.none _)
      | (with_reducible refine LeO.ite ?_ ?_)
      | (with_reducible refine LeO.bind ?_ (fun _ => ?_))
      | exact ih0 _ _ _
      | exact ih1 _ _ _ _
      | exact ih2 _ _ _ _ _
      | exact ih3 _ _ _ _
      | exact ih4 _ _ _ _ _
      | exact ih5 _ _ _ _ _ _
      | exact ih6 _ _ _ _ _ _
      | exact tocsinlaw09_form.mono _ _ _ _
      | exact LeO.none _
      | refine LeO.ite ?_ ?_
      | refine LeO.bind ?_ (fun _ => ?_)
    · intro y0 y1 y2 y3 y4
      unfold tocsinlaw09_LexBack.l1
      repeat' first
      | (with_reducible exact ih0 _ _ _)
      | (with_reducible exact ih1 _ _ _ _)
      | (with_reducible exact ih2 _ _ _ _ _)
      | (with_reducible exact ih3 _ _ _ _)
      | (with_reducible exact ih4 _ _ _ _ _)
      | (with_reducible exact ih5 _ _ _ _ _ _)
      | (with_reducible exact ih6 _ _ _ _ _ _)
      | (with_reducible exact tocsinlaw09_form.mono _ _ _ _)
      | (with_reducible exact LeO.refl _)
      | (with_reducible exact LeO.none _)
      | (with_reducible refine LeO.ite ?_ ?_)
      | (with_reducible refine LeO.bind ?_ (fun _ => ?_))
      | exact ih0 _ _ _
      | exact ih1 _ _ _ _
      | exact ih2 _ _ _ _ _
      | exact ih3 _ _ _ _
      | exact ih4 _ _ _ _ _
      | exact ih5 _ _ _ _ _ _
      | exact ih6 _ _ _ _ _ _
      | exact tocsinlaw09_form.mono _ _ _ _
      | exact LeO.none _
      | refine LeO.ite ?_ ?_
      | refine LeO.bind ?_ (fun _ => ?_)
    · intro y0 y1 y2 y3
      unfold tocsinlaw09_LexBack.l2
      repeat' first
      | (with_reducible exact ih0 _ _ _)
      | (with_reducible exact ih1 _ _ _ _)
      | (with_reducible exact ih2 _ _ _ _ _)
      | (with_reducible exact ih3 _ _ _ _)
      | (with_reducible exact ih4 _ _ _ _ _)
      | (with_reducible exact ih5 _ _ _ _ _ _)
      | (with_reducible exact ih6 _ _ _ _ _ _)
      | (with_reducible exact tocsinlaw09_form.mono _ _ _ _)
      | (with_reducible exact LeO.refl _)
      | (with_reducible exact LeO.none _)
      | (with_reducible refine LeO.ite ?_ ?_)
      | (with_reducible refine LeO.bind ?_ (fun _ => ?_))
      | exact ih0 _ _ _
      | exact ih1 _ _ _ _
      | exact ih2 _ _ _ _ _
      | exact ih3 _ _ _ _
      | exact ih4 _ _ _ _ _
      | exact ih5 _ _ _ _ _ _
      | exact ih6 _ _ _ _ _ _
      | exact tocsinlaw09_form.mono _ _ _ _
      | exact LeO.none _
      | refine LeO.ite ?_ ?_
      | refine LeO.bind ?_ (fun _ => ?_)
    · intro y0 y1 y2 y3 y4
      unfold tocsinlaw09_LexBack.j4
      repeat' first
      | (with_reducible exact ih0 _ _ _)
      | (with_reducible exact ih1 _ _ _ _)
      | (with_reducible exact ih2 _ _ _ _ _)
      | (with_reducible exact ih3 _ _ _ _)
      | (with_reducible exact ih4 _ _ _ _ _)
      | (with_reducible exact ih5 _ _ _ _ _ _)
      | (with_reducible exact ih6 _ _ _ _ _ _)
      | (with_reducible exact tocsinlaw09_form.mono _ _ _ _)
      | (with_reducible exact LeO.refl _)
      | (with_reducible exact LeO.none _)
      | (with_reducible refine LeO.ite ?_ ?_)
      | (with_reducible refine LeO.bind ?_ (fun _ => ?_))
      | exact ih0 _ _ _
      | exact ih1 _ _ _ _
      | exact ih2 _ _ _ _ _
      | exact ih3 _ _ _ _
      | exact ih4 _ _ _ _ _
      | exact ih5 _ _ _ _ _ _
      | exact ih6 _ _ _ _ _ _
      | exact tocsinlaw09_form.mono _ _ _ _
      | exact LeO.none _
      | refine LeO.ite ?_ ?_
      | refine LeO.bind ?_ (fun _ => ?_)
    · intro y0 y1 y2 y3 y4 y5
      unfold tocsinlaw09_LexBack.j5
      repeat' first
      | (with_reducible exact ih0 _ _ _)
      | (with_reducible exact ih1 _ _ _ _)
      | (with_reducible exact ih2 _ _ _ _ _)
      | (with_reducible exact ih3 _ _ _ _)
      | (with_reducible exact ih4 _ _ _ _ _)
      | (with_reducible exact ih5 _ _ _ _ _ _)
      | (with_reducible exact ih6 _ _ _ _ _ _)
      | (with_reducible exact tocsinlaw09_form.mono _ _ _ _)
      | (with_reducible exact LeO.refl _)
      | (with_reducible exact LeO.none _)
      | (with_reducible refine LeO.ite ?_ ?_)
      | (with_reducible refine LeO.bind ?_ (fun _ => ?_))
      | exact ih0 _ _ _
      | exact ih1 _ _ _ _
      | exact ih2 _ _ _ _ _
      | exact ih3 _ _ _ _
      | exact ih4 _ _ _ _ _
      | exact ih5 _ _ _ _ _ _
      | exact ih6 _ _ _ _ _ _
      | exact tocsinlaw09_form.mono _ _ _ _
      | exact LeO.none _
      | refine LeO.ite ?_ ?_
      | refine LeO.bind ?_ (fun _ => ?_)
    · intro y0 y1 y2 y3 y4 y5
      unfold tocsinlaw09_LexBack.l3
      repeat' first
      | (with_reducible exact ih0 _ _ _)
      | (with_reducible exact ih1 _ _ _ _)
      | (with_reducible exact ih2 _ _ _ _ _)
      | (with_reducible exact ih3 _ _ _ _)
      | (with_reducible exact ih4 _ _ _ _ _)
      | (with_reducible exact ih5 _ _ _ _ _ _)
      | (with_reducible exact ih6 _ _ _ _ _ _)
      | (with_reducible exact tocsinlaw09_form.mono _ _ _ _)
      | (with_reducible exact LeO.refl _)
      | (with_reducible exact LeO.none _)
      | (with_reducible refine LeO.ite ?_ ?_)
      | (with_reducible refine LeO.bind ?_ (fun _ => ?_))
      | exact ih0 _ _ _
      | exact ih1 _ _ _ _
      | exact ih2 _ _ _ _ _
      | exact ih3 _ _ _ _
      | exact ih4 _ _ _ _ _
      | exact ih5 _ _ _ _ _ _
      | exact ih6 _ _ _ _ _ _
      | exact tocsinlaw09_form.mono _ _ _ _
      | exact LeO.none _
      | refine LeO.ite ?_ ?_
      | refine LeO.bind ?_ (fun _ => ?_)
theorem tocsinlaw09_LexBack.mono : ∀ a0 a1 k, LeO (tocsinlaw09_LexBack.f k a0 a1) (tocsinlaw09_LexBack.f (k + 1) a0 a1) := by
  intro a0 a1 k
  obtain ⟨ih0, ih1, ih2, ih3, ih4, ih5, ih6⟩ := tocsinlaw09_LexBack.mono_l k
  unfold tocsinlaw09_LexBack.f
  repeat' first
      | (with_reducible exact ih0 _ _ _)
      | (with_reducible exact ih1 _ _ _ _)
      | (with_reducible exact ih2 _ _ _ _ _)
      | (with_reducible exact ih3 _ _ _ _)
      | (with_reducible exact ih4 _ _ _ _ _)
      | (with_reducible exact ih5 _ _ _ _ _ _)
      | (with_reducible exact ih6 _ _ _ _ _ _)
      | (with_reducible exact tocsinlaw09_form.mono _ _ _ _)
      | (with_reducible exact LeO.refl _)
      | (with_reducible exact LeO.none _)
      | (with_reducible refine LeO.ite ?_ ?_)
      | (with_reducible refine LeO.bind ?_ (fun _ => ?_))
      | exact ih0 _ _ _
      | exact ih1 _ _ _ _
      | exact ih2 _ _ _ _ _
      | exact ih3 _ _ _ _
      | exact ih4 _ _ _ _ _
      | exact ih5 _ _ _ _ _ _
      | exact ih6 _ _ _ _ _ _
      | exact tocsinlaw09_form.mono _ _ _ _
      | exact LeO.none _
      | refine LeO.ite ?_ ?_
      | refine LeO.bind ?_ (fun _ => ?_)
set_option maxHeartbeats 8000000 in
set_option maxRecDepth 100000 in
theorem tocsinlaw09_LexBack.calls (k : Nat) (a0 : ByteArray) (a1 : ByteArray) (r : Bool) (w : World) (h : tocsinlaw09_LexBack.f k a0 a1 = some r) :
    Calls Try.prog 6 #[.string a0, .string a1] w fun e w' => e = .returned (.bool r) ∧ Below w.heap.size w w' := by
  have hu31 := Try.underlying31
  have HB := Aside0.mk (Below.refl w.heap.size w)
  have H : ((tocsinlaw09_awake.f).bind fun t138 => (if t138 = true then (if (a0.size : Int) > 3000 then (tocsinlaw09_LexBack.j0 k a0 a1 true) else (tocsinlaw09_LexBack.j0 k a0 a1 (decide ((a1.size : Int) > 200)))) else (some false))) = some r := h
  clear h
  replace H := Option.bind_eq_some_iff.mp H
  obtain ⟨t138, A30, H⟩ := H
  replace H : (if t138 = true then (if (a0.size : Int) > 3000 then (tocsinlaw09_LexBack.j0 k a0 a1 true) else (tocsinlaw09_LexBack.j0 k a0 a1 (decide ((a1.size : Int) > 200)))) else (some false)) = some r := H
  have A3 := Aside0.mk A30
  clear A30
  by_cases c4 : t138 = true
  · subst c4
    have H1 : (if (a0.size : Int) > 3000 then (tocsinlaw09_LexBack.j0 k a0 a1 true) else (tocsinlaw09_LexBack.j0 k a0 a1 (decide ((a1.size : Int) > 200)))) = some r := by rw [if_pos rfl] at H; exact H
    clear H
    have H := H1
    clear H1
    have HC5 := Aside0.mk H
    clear H
    go_enter Try.func6, Try.ntmps6
    go_upto_region 3 with (first | (go_at_call 14; (with_reducible refine (tocsinlaw09_awake.calls  true _ A3.out).mono ?_); rintro e w6 ⟨rfl, hb⟩; have n0_ := Aside0.mk (below_step (by repeat (first | (with_reducible first | exact HB.out | apply below_alloc | apply pw_below_drewN | apply below_drew1) | exact HB.out)) hb); clear HB; have HB := n0_; clear n0_; (try clear hb); (try clear hb2); (try clear hk); (try clear hi)))
    repeat (go_quiet (first | (go_at_call 14; (with_reducible refine (tocsinlaw09_awake.calls  true _ A3.out).mono ?_); rintro e w6 ⟨rfl, hb⟩; have n0_ := Aside0.mk (below_step (by repeat (first | (with_reducible first | exact HB.out | apply below_alloc | apply pw_below_drewN | apply below_drew1) | exact HB.out)) hb); clear HB; have HB := n0_; clear n0_; (try clear hb); (try clear hb2); (try clear hk); (try clear hi))); go_upto_region 3 with (first | (go_at_call 14; (with_reducible refine (tocsinlaw09_awake.calls  true _ A3.out).mono ?_); rintro e w6 ⟨rfl, hb⟩; have n0_ := Aside0.mk (below_step (by repeat (first | (with_reducible first | exact HB.out | apply below_alloc | apply pw_below_drewN | apply below_drew1) | exact HB.out)) hb); clear HB; have HB := n0_; clear n0_; (try clear hb); (try clear hb2); (try clear hk); (try clear hi))))
    (try simp only [Act.put, List.setIfInBounds_toArray, List.set_cons_zero, List.set_cons_succ])
    go_cut [27] (fun v27 wc => ∃ (kq : Nat) (x27_4 : Bool), v27 = .bool x27_4 ∧ Aside0 (tocsinlaw09_LexBack.j0 kq a0 a1 x27_4 = some r) ∧ Aside0 (kq ≤ k) ∧ Aside0 (Below w.heap.size w wc))
    case first =>
      have H := HC5.out
      clear HC5
      by_cases c7 : (a0.size : Int) > 3000
      · rw [if_pos c7] at H
        have c7b0 : decide (3000 < (a0.size : Int)) = true := decide_eq_true c7
        have c7b1 : decide (3000 < a0.size) = true := decide_eq_true (by omega)
        clear c7
        (first | rw [c7b0] | (simp only [i64_w, i32_w]; rw [c7b0]) | skip)
        have H' := Aside0.mk H
        clear H
        go_wp2
        repeat (go_quiet (fail); try go_wp2)
        go_meet
        case rel => exact ⟨_, (true), (by first | rfl | (simp; done) | (simp [*]; done)), H', ⟨by first | omega | exact Nat.le_refl _⟩, ⟨by repeat (first | (with_reducible first | exact HB.out | apply below_alloc | apply pw_below_drewN | apply below_drew1) | exact HB.out)⟩⟩
      · rw [if_neg c7] at H
        have c7b0 : decide (3000 < (a0.size : Int)) = false := decide_eq_false c7
        have c7b1 : decide (3000 < a0.size) = false := decide_eq_false (by omega)
        clear c7
        (first | rw [c7b0] | (simp only [i64_w, i32_w]; rw [c7b0]) | skip)
        have H' := Aside0.mk H
        clear H
        go_wp2
        repeat (go_quiet (fail); try go_wp2)
        go_meet
        case rel => exact ⟨_, (decide ((a1.size : Int) > 200)), (by first | rfl | (simp; done) | (simp [*]; done)), H', ⟨by first | omega | exact Nat.le_refl _⟩, ⟨by repeat (first | (with_reducible first | exact HB.out | apply below_alloc | apply pw_below_drewN | apply below_drew1) | exact HB.out)⟩⟩
    case rest =>
      clear HC5
      try clear p2
      try clear c4
      try clear c6
      try clear c7
      try clear c7b0
      try clear c7b1
      obtain ⟨kq, x27_4, rfl, HA, HJ4, HB⟩ := hcut
      cases kq with
      | zero => exact absurd HA.out (by simp [tocsinlaw09_LexBack.j0])
      | succ kj4 =>
        have H := HA.out
        clear HA
        simp only [tocsinlaw09_LexBack.j0] at H
        by_cases c8 : x27_4 = true
        · subst c8
          have H1 : (some true) = some r := by rw [if_pos rfl] at H; exact H
          clear H
          have H := H1
          clear H1
          obtain rfl := Option.some.inj H
          go_wp2
          repeat (go_quiet (fail); try go_wp2)
          go_ret
          exact ⟨by first | rfl | (simp [errW_none, errW_some] <;> rfl) | (simp [*, errW_none, errW_some] <;> rfl), by repeat (first | (with_reducible first | exact HB.out | apply below_alloc | apply pw_below_drewN | apply below_drew1) | exact HB.out)⟩
        · replace c8 := Bool.eq_false_iff.mpr c8
          subst c8
          have H1 : ((lex_All.f a0).bind fun bt139 => (if bt139.2.2 = 0 then (tocsinlaw09_LexBack.l0 kj4 a1 bt139.1 (⟨#[]⟩ : ByteArray) 0) else (some true))) = some r := by rw [if_neg (show ¬ (false = true) by decide)] at H; exact H
          clear H
          have H := H1
          clear H1
          replace H := Option.bind_eq_some_iff.mp H
          obtain ⟨⟨t139, t140, t141⟩, A90, H⟩ := H
          replace H : (if t141 = 0 then (tocsinlaw09_LexBack.l0 kj4 a1 t139 (⟨#[]⟩ : ByteArray) 0) else (some true)) = some r := H
          have A9 := Aside0.mk A90
          clear A90
          by_cases c10 : t141 = 0
          · rw [if_pos c10] at H
            have c10b0 : (t141 == 0) = true := beq_iff_eq.mpr c10
            have c10b1 : (t141 != 0) = false := bne_eq_false_iff_eq.mpr c10
            clear c10
            have H' := Aside0.mk H
            clear H
            go_wp2_with (first | (go_at_call 11; (with_reducible refine (lex_All.calls a0 t139 t140 t141 _ A9.out).mono ?_); rintro e w11 ⟨v142, rfl, ho0, hb⟩; have n0_ := Aside0.mk (Kd.R_lower ho0 (below_size (by repeat (first | (with_reducible first | exact HB.out | apply below_alloc | apply pw_below_drewN | apply below_drew1) | exact HB.out)))); have n1_ := Aside0.mk (below_step (by repeat (first | (with_reducible first | exact HB.out | apply below_alloc | apply pw_below_drewN | apply below_drew1) | exact HB.out)) hb); clear HB; have HO143 := n0_; have HB := n1_; clear n0_ n1_; (try clear hb); (try clear hb2); (try clear hk); (try clear hi); (try clear ho0)))
            repeat (go_quiet (first | (go_at_call 11; (with_reducible refine (lex_All.calls a0 t139 t140 t141 _ A9.out).mono ?_); rintro e w11 ⟨v142, rfl, ho0, hb⟩; have n0_ := Aside0.mk (Kd.R_lower ho0 (below_size (by repeat (first | (with_reducible first | exact HB.out | apply below_alloc | apply pw_below_drewN | apply below_drew1) | exact HB.out)))); have n1_ := Aside0.mk (below_step (by repeat (first | (with_reducible first | exact HB.out | apply below_alloc | apply pw_below_drewN | apply below_drew1) | exact HB.out)) hb); clear HB; have HO143 := n0_; have HB := n1_; clear n0_ n1_; (try clear hb); (try clear hb2); (try clear hk); (try clear hi); (try clear ho0))); try go_wp2_with (first | (go_at_call 11; (with_reducible refine (lex_All.calls a0 t139 t140 t141 _ A9.out).mono ?_); rintro e w11 ⟨v142, rfl, ho0, hb⟩; have n0_ := Aside0.mk (Kd.R_lower ho0 (below_size (by repeat (first | (with_reducible first | exact HB.out | apply below_alloc | apply pw_below_drewN | apply below_drew1) | exact HB.out)))); have n1_ := Aside0.mk (below_step (by repeat (first | (with_reducible first | exact HB.out | apply below_alloc | apply pw_below_drewN | apply below_drew1) | exact HB.out)) hb); clear HB; have HO143 := n0_; have HB := n1_; clear n0_ n1_; (try clear hb); (try clear hb2); (try clear hk); (try clear hi); (try clear ho0))))
            go_loopg [8, 9] kj4 (fun kq v8 v9 w' => ∃ (x8_2 : ByteArray) (x9_2 : Int), v8 = .string x8_2 ∧ v9 = .int .i64 x9_2 ∧ Aside0 (tocsinlaw09_LexBack.l0 kq a1 t139 x8_2 x9_2 = some r) ∧ Aside0 (kq ≤ kj4) ∧ Aside0 (Kd.R k31 31 w' w.heap.size (fun _ => True) v142 t139) ∧ Aside0 (Below w.heap.size w w'))
            case atStart => exact ⟨((⟨#[]⟩ : ByteArray)), (0), (by first | rfl | (simp; done) | (simp [*]; done)), (by first | rfl | (simp; done) | (simp [*]; done)), H', ⟨Nat.le_refl _⟩, ⟨by (with_reducible repeat (first | apply Kd.R_alloc | apply Kd.R_drewN | apply Kd.R_drew)); exact HO143.out⟩, ⟨by repeat (first | (with_reducible first | exact HB.out | apply below_alloc | apply pw_below_drewN | apply below_drew1) | exact HB.out)⟩⟩
            case round =>
              clear H'
              try clear c1
              try clear p2
              try clear c4
              try clear c6
              try clear c7
              try clear c7b0
              try clear c7b1
              try clear c8
              try clear c10
              try clear c10b0
              try clear c10b1
              try clear p2
              obtain ⟨x8_2, x9_2, rfl, rfl, HA, HK2, HO_5, HB⟩ := hrel
              cases gk with
              | zero => exact absurd HA.out (by simp [tocsinlaw09_LexBack.l0])
              | succ k2 =>
                have H := HA.out
                clear HA
                simp only [tocsinlaw09_LexBack.l0] at H
                by_cases c12 : x9_2 < (t139.length : Int)
                · rw [if_pos c12] at H
                  have c12b0 : decide (x9_2 < (t139.length : Int)) = true := decide_eq_true c12
                  clear c12
                  by_cases c13 : 0 ≤ x9_2
                  · rw [if_pos c13] at H
                    have c13b0 : decide (0 ≤ x9_2) = true := decide_eq_true c13
                    clear c13
                    replace H := Option.bind_eq_some_iff.mp H
                    obtain ⟨t145, A140, H⟩ := H
                    replace H : (if x8_2.size + t145.size ≤ 9223372036854775807 then (if (x8_2 ++ t145).size + 1 ≤ 9223372036854775807 then (tocsinlaw09_LexBack.l0 k2 a1 t139 ((x8_2 ++ t145) ++ (⟨#[32]⟩ : ByteArray)) (wrap64 (x9_2 + 1))) else (none)) else (none)) = some r := H
                    have A14 := Aside0.mk A140
                    clear A140
                    by_cases c15 : x8_2.size + t145.size ≤ 9223372036854775807
                    · rw [if_pos c15] at H
                      have c15b0 := eq_true c15
                      have c15b1 : decide (x8_2.size + t145.size ≤ 9223372036854775807) = true := decide_eq_true c15
                      try have c15b2 : (9223372036854775807 < x8_2.size + t145.size) = False := eq_false (Nat.not_lt.2 c15)
                      by_cases c16 : (x8_2 ++ t145).size + 1 ≤ 9223372036854775807
                      · rw [if_pos c16] at H
                        have c16b0 := eq_true c16
                        have c16b1 : decide ((x8_2 ++ t145).size + 1 ≤ 9223372036854775807) = true := decide_eq_true c16
                        try have c16b2 : (9223372036854775807 < (x8_2 ++ t145).size + 1) = False := eq_false (Nat.not_lt.2 c16)
                        have c16s := c16
                        rw [ByteArray.size_append] at c16s
                        have c16z6 : (9223372036854775807 < x8_2.size + t145.size + 1) = False := eq_false (Nat.not_lt.2 c16s)
                        clear c16s
                        have H' := Aside0.mk H
                        clear H
                        obtain ⟨Ao17, co17, eo17⟩ := Kd.R_slice HO_5.out
                        subst eo17
                        have p144 : 0 ≤ (x9_2 : Int) := of_decide_eq_true (by first | (with_reducible assumption) | assumption)
                        have q144 : x9_2 < (t139.length : Int) := of_decide_eq_true (by first | (with_reducible assumption) | assumption)
                        obtain ⟨ad144, e144, hx144_0, hx144_1, hx144_2⟩ := at_T31 (Kd.R_reads' HO_5.out).2.2 x9_2 p144 q144
                        cases e144
                        replace p144 := eq_true p144
                        replace q144 := eq_true q144
                        go_wp2_with (first | (go_at_call 16; (with_reducible refine (tocsinlaw09_form.calls k2 ((rd_T31 t139 x9_2).f0) ((rd_T31 t139 x9_2).f1) ((rd_T31 t139 x9_2).f2) t145 _ A14.out).mono ?_); rintro e w18 ⟨rfl, hb⟩; have n0_ := Aside0.mk (Kd.R_below (by (with_reducible repeat (first | apply Kd.R_alloc | apply Kd.R_drewN | apply Kd.R_drew)); exact HO_5.out) hb); have n1_ := Aside0.mk (below_step (by repeat (first | (with_reducible first | exact HB.out | apply below_alloc | apply pw_below_drewN | apply below_drew1) | exact HB.out)) hb); clear HO_5; clear HB; have HO_5 := n0_; have HB := n1_; clear n0_ n1_; (try clear hb); (try clear hb2); (try clear hk); (try clear hi)))
                        repeat (go_quiet (first | (go_at_call 16; (with_reducible refine (tocsinlaw09_form.calls k2 ((rd_T31 t139 x9_2).f0) ((rd_T31 t139 x9_2).f1) ((rd_T31 t139 x9_2).f2) t145 _ A14.out).mono ?_); rintro e w18 ⟨rfl, hb⟩; have n0_ := Aside0.mk (Kd.R_below (by (with_reducible repeat (first | apply Kd.R_alloc | apply Kd.R_drewN | apply Kd.R_drew)); exact HO_5.out) hb); have n1_ := Aside0.mk (below_step (by repeat (first | (with_reducible first | exact HB.out | apply below_alloc | apply pw_below_drewN | apply below_drew1) | exact HB.out)) hb); clear HO_5; clear HB; have HO_5 := n0_; have HB := n1_; clear n0_ n1_; (try clear hb); (try clear hb2); (try clear hk); (try clear hi))); try go_wp2_with (first | (go_at_call 16; (with_reducible refine (tocsinlaw09_form.calls k2 ((rd_T31 t139 x9_2).f0) ((rd_T31 t139 x9_2).f1) ((rd_T31 t139 x9_2).f2) t145 _ A14.out).mono ?_); rintro e w18 ⟨rfl, hb⟩; have n0_ := Aside0.mk (Kd.R_below (by (with_reducible repeat (first | apply Kd.R_alloc | apply Kd.R_drewN | apply Kd.R_drew)); exact HO_5.out) hb); have n1_ := Aside0.mk (below_step (by repeat (first | (with_reducible first | exact HB.out | apply below_alloc | apply pw_below_drewN | apply below_drew1) | exact HB.out)) hb); clear HO_5; clear HB; have HO_5 := n0_; have HB := n1_; clear n0_ n1_; (try clear hb); (try clear hb2); (try clear hk); (try clear hi))))
                        go_roundg k2
                        case measure => have := HJ4.out; have := HK2.out; omega
                        case rel => exact ⟨((x8_2 ++ t145) ++ (⟨#[32]⟩ : ByteArray)), (wrap64 (x9_2 + 1)), (by first | rfl | (simp; done) | (simp [*]; done)), (by first | rfl | (simp; done) | (simp [*]; done)), H', ⟨by have := HJ4.out; have := HK2.out; omega⟩, ⟨by (with_reducible repeat (first | apply Kd.R_alloc | apply Kd.R_drewN | apply Kd.R_drew)); exact HO_5.out⟩, ⟨by repeat (first | (with_reducible first | exact HB.out | apply below_alloc | apply pw_below_drewN | apply below_drew1) | exact HB.out)⟩⟩
                      · rw [if_neg c16] at H
                        exact absurd H (by simp)
                    · rw [if_neg c15] at H
                      exact absurd H (by simp)
                  · rw [if_neg c13] at H
                    exact absurd H (by simp)
                · rw [if_neg c12] at H
                  have c12b0 : decide (x9_2 < (t139.length : Int)) = false := decide_eq_false c12
                  clear c12
                  have H' := Aside0.mk H
                  clear H
                  obtain ⟨Ao19, co19, eo19⟩ := Kd.R_slice HO_5.out
                  subst eo19
                  go_wp2
                  repeat (go_quiet (fail); try go_wp2)
                  go_loopg [10, 11] k2 (fun kq v10 v11 w' => ∃ (x10_3 : ByteArray) (x11_3 : Int), v10 = .string x10_3 ∧ v11 = .int .i64 x11_3 ∧ Aside0 (tocsinlaw09_LexBack.l1 kq a1 t139 x8_2 x10_3 x11_3 = some r) ∧ Aside0 (kq ≤ k2) ∧ Aside0 (Kd.R k31 31 w' w.heap.size (fun _ => True) (.slice Ao19 t139.length co19) t139) ∧ Aside0 (Below w.heap.size w w'))
                  case atStart => exact ⟨((⟨#[35]⟩ : ByteArray)), (0), (by first | rfl | (simp; done) | (simp [*]; done)), (by first | rfl | (simp; done) | (simp [*]; done)), H', ⟨Nat.le_refl _⟩, ⟨by (with_reducible repeat (first | apply Kd.R_alloc | apply Kd.R_drewN | apply Kd.R_drew)); exact HO_5.out⟩, ⟨by repeat (first | (with_reducible first | exact HB.out | apply below_alloc | apply pw_below_drewN | apply below_drew1) | exact HB.out)⟩⟩
                  case round =>
                    clear H'
                    try clear c1
                    try clear p1
                    try clear q1
                    try clear hx1
                    try clear p2
                    try clear c4
                    try clear c6
                    try clear p6
                    try clear c7
                    try clear c7b0
                    try clear c7b1
                    try clear c8
                    try clear c10
                    try clear c10b0
                    try clear c10b1
                    try clear c12
                    try clear c12b0
                    try clear c13
                    try clear c13b0
                    try clear p14
                    try clear q14
                    try clear hx14
                    try clear c15
                    try clear c15b0
                    try clear c15b1
                    try clear c15b2
                    try clear c16
                    try clear c16b0
                    try clear c16b1
                    try clear c16b2
                    try clear hx144_0
                    try clear hx144_1
                    try clear hx144_2
                    try clear p144
                    try clear p2
                    try clear q144
                    obtain ⟨x10_3, x11_3, rfl, rfl, HA, HK3, HO_5, HB⟩ := hrel
                    cases gk with
                    | zero => exact absurd HA.out (by simp [tocsinlaw09_LexBack.l1])
                    | succ k3 =>
                      have H := HA.out
                      clear HA
                      simp only [tocsinlaw09_LexBack.l1] at H
                      by_cases c20 : x11_3 < (a1.size : Int)
                      · rw [if_pos c20] at H
                        have c20b0 : decide (x11_3 < (a1.size : Int)) = true := decide_eq_true c20
                        clear c20
                        by_cases c21 : 0 ≤ x11_3
                        · rw [if_pos c21] at H
                          have c21b0 : decide (0 ≤ x11_3) = true := decide_eq_true c21
                          clear c21
                          by_cases c23 : (bt a1 x11_3) = 10
                          · rw [if_pos c23] at H
                            have c23b0 : ((bt a1 x11_3) == 10) = true := beq_iff_eq.mpr c23
                            have c23b1 : ((bt a1 x11_3) != 10) = false := bne_eq_false_iff_eq.mpr c23
                            clear c23
                            have H' := Aside0.mk H
                            clear H
                            have p22 : 0 ≤ (x11_3 : Int) := of_decide_eq_true (by first | (with_reducible assumption) | assumption)
                            have q22 : x11_3 < (a1.size : Int) := of_decide_eq_true (by first | (with_reducible assumption) | assumption)
                            have hx22 := bt_at a1 x11_3
                            replace p22 := eq_true p22
                            replace q22 := eq_true q22
                            go_wp2
                            repeat (go_quiet (fail); try go_wp2)
                            go_roundg k3
                            case measure => have := HJ4.out; have := HK2.out; have := HK3.out; omega
                            case rel => exact ⟨(x10_3), (wrap64 (x11_3 + 1)), (by first | rfl | (simp; done) | (simp [*]; done)), (by first | rfl | (simp; done) | (simp [*]; done)), H', ⟨by have := HJ4.out; have := HK2.out; have := HK3.out; omega⟩, ⟨by (with_reducible repeat (first | apply Kd.R_alloc | apply Kd.R_drewN | apply Kd.R_drew)); exact HO_5.out⟩, ⟨by repeat (first | (with_reducible first | exact HB.out | apply below_alloc | apply pw_below_drewN | apply below_drew1) | exact HB.out)⟩⟩
                          · rw [if_neg c23] at H
                            have c23b0 : ((bt a1 x11_3) == 10) = false := beq_eq_false_iff_ne.mpr c23
                            have c23b1 : ((bt a1 x11_3) != 10) = true := bne_iff_ne.mpr c23
                            have c24b0 := eq_true (of_decide_eq_true (by first | (with_reducible assumption) | assumption) : 0 ≤ x11_3)
                            by_cases c25 : x11_3 ≤ (wrap64 (x11_3 + 1))
                            · rw [if_pos c25] at H
                              have c25b0 := eq_true c25
                              have c25b1 : decide (x11_3 ≤ (wrap64 (x11_3 + 1))) = true := decide_eq_true c25
                              by_cases c26 : (wrap64 (x11_3 + 1)) ≤ (a1.size : Int)
                              · rw [if_pos c26] at H
                                have c26b0 := eq_true c26
                                have c26b1 : decide ((wrap64 (x11_3 + 1)) ≤ (a1.size : Int)) = true := decide_eq_true c26
                                by_cases c27 : x10_3.size + (a1.extract (x11_3 : Int).toNat ((wrap64 (x11_3 + 1)) : Int).toNat).size ≤ 9223372036854775807
                                · rw [if_pos c27] at H
                                  have c27b0 := eq_true c27
                                  have c27b1 : decide (x10_3.size + (a1.extract (x11_3 : Int).toNat ((wrap64 (x11_3 + 1)) : Int).toNat).size ≤ 9223372036854775807) = true := decide_eq_true c27
                                  try have c27b2 : (9223372036854775807 < x10_3.size + (a1.extract (x11_3 : Int).toNat ((wrap64 (x11_3 + 1)) : Int).toNat).size) = False := eq_false (Nat.not_lt.2 c27)
                                  have H' := Aside0.mk H
                                  clear H
                                  have p22 : 0 ≤ (x11_3 : Int) := of_decide_eq_true (by first | (with_reducible assumption) | assumption)
                                  have q22 : x11_3 < (a1.size : Int) := of_decide_eq_true (by first | (with_reducible assumption) | assumption)
                                  have hx22 := bt_at a1 x11_3
                                  replace p22 := eq_true p22
                                  replace q22 := eq_true q22
                                  go_wp2
                                  repeat (go_quiet (fail); try go_wp2)
                                  go_roundg k3
                                  case measure => have := HJ4.out; have := HK2.out; have := HK3.out; omega
                                  case rel => exact ⟨(x10_3 ++ (a1.extract (x11_3 : Int).toNat ((wrap64 (x11_3 + 1)) : Int).toNat)), (wrap64 (x11_3 + 1)), (by first | rfl | (simp; done) | (simp [*]; done)), (by first | rfl | (simp; done) | (simp [*]; done)), H', ⟨by have := HJ4.out; have := HK2.out; have := HK3.out; omega⟩, ⟨by (with_reducible repeat (first | apply Kd.R_alloc | apply Kd.R_drewN | apply Kd.R_drew)); exact HO_5.out⟩, ⟨by repeat (first | (with_reducible first | exact HB.out | apply below_alloc | apply pw_below_drewN | apply below_drew1) | exact HB.out)⟩⟩
                                · rw [if_neg c27] at H
                                  exact absurd H (by simp)
                              · rw [if_neg c26] at H
                                exact absurd H (by simp)
                            · rw [if_neg c25] at H
                              exact absurd H (by simp)
                        · rw [if_neg c21] at H
                          exact absurd H (by simp)
                      · rw [if_neg c20] at H
                        have c20b0 : decide (x11_3 < (a1.size : Int)) = false := decide_eq_false c20
                        clear c20
                        have H' := Aside0.mk H
                        clear H
                        go_wp2
                        repeat (go_quiet (fail); try go_wp2)
                        go_loopg [12] k3 (fun kq v12 w' => ∃ (x12_4 : Int), v12 = .int .i64 x12_4 ∧ Aside0 (tocsinlaw09_LexBack.l2 kq t139 x8_2 x10_3 x12_4 = some r) ∧ Aside0 (kq ≤ k3) ∧ Aside0 (Kd.R k31 31 w' w.heap.size (fun _ => True) (.slice Ao19 t139.length co19) t139) ∧ Aside0 (Below w.heap.size w w'))
                        case atStart => exact ⟨(0), (by first | rfl | (simp; done) | (simp [*]; done)), H', ⟨Nat.le_refl _⟩, ⟨by (with_reducible repeat (first | apply Kd.R_alloc | apply Kd.R_drewN | apply Kd.R_drew)); exact HO_5.out⟩, ⟨by repeat (first | (with_reducible first | exact HB.out | apply below_alloc | apply pw_below_drewN | apply below_drew1) | exact HB.out)⟩⟩
                        case round =>
                          clear H'
                          try clear c1
                          try clear p1
                          try clear q1
                          try clear hx1
                          try clear c2
                          try clear p2
                          try clear q2
                          try clear hx2
                          try clear c4
                          try clear c6
                          try clear p6
                          try clear c7
                          try clear c7b0
                          try clear c7b1
                          try clear c8
                          try clear c10
                          try clear c10b0
                          try clear c10b1
                          try clear c12
                          try clear c12b0
                          try clear c13
                          try clear c13b0
                          try clear p14
                          try clear q14
                          try clear hx14
                          try clear c15
                          try clear c15b0
                          try clear c15b1
                          try clear c15b2
                          try clear c16
                          try clear c16b0
                          try clear c16b1
                          try clear c16b2
                          try clear c20
                          try clear c20b0
                          try clear c21
                          try clear c21b0
                          try clear p22
                          try clear q22
                          try clear hx22
                          try clear c23
                          try clear c23b0
                          try clear c23b1
                          try clear c24
                          try clear c24b0
                          try clear c25
                          try clear c25b0
                          try clear c25b1
                          try clear c26
                          try clear c26b0
                          try clear c26b1
                          try clear c27
                          try clear c27b0
                          try clear c27b1
                          try clear c27b2
                          try clear hx144_0
                          try clear hx144_1
                          try clear hx144_2
                          try clear p1
                          try clear p14
                          try clear p144
                          try clear p2
                          try clear p22
                          try clear p6
                          try clear q1
                          try clear q14
                          try clear q144
                          try clear q22
                          obtain ⟨x12_4, rfl, HA, HK4, HO_5, HB⟩ := hrel
                          cases gk with
                          | zero => exact absurd HA.out (by simp [tocsinlaw09_LexBack.l2])
                          | succ k4 =>
                            have H := HA.out
                            clear HA
                            simp only [tocsinlaw09_LexBack.l2] at H
                            by_cases c28 : x12_4 < 2
                            · rw [if_pos c28] at H
                              have c28b0 : decide (x12_4 < 2) = true := decide_eq_true c28
                              clear c28
                              have HC29 := Aside0.mk H
                              clear H
                              go_upto_if 73 with (fail)
                              repeat (go_quiet (fail); go_upto_if 73 with (fail))
                              go_cut [13] (fun v13 wc => ∃ (kq : Nat) (x13_28 : ByteArray), v13 = .string x13_28 ∧ Aside0 (tocsinlaw09_LexBack.j4 kq t139 x8_2 x10_3 x12_4 x13_28 = some r) ∧ Aside0 (kq ≤ k4) ∧ Aside0 (Kd.R k31 31 wc w.heap.size (fun _ => True) (.slice Ao19 t139.length co19) t139) ∧ Aside0 (Below w.heap.size w wc))
                              case first =>
                                have H := HC29.out
                                clear HC29
                                by_cases c30 : x12_4 = 1
                                · rw [if_pos c30] at H
                                  have c30b0 : (x12_4 == 1) = true := beq_iff_eq.mpr c30
                                  have c30b1 : (x12_4 != 1) = false := bne_eq_false_iff_eq.mpr c30
                                  clear c30
                                  (first | rw [c30b0] | (simp only [i64_w, i32_w]; rw [c30b0]) | skip)
                                  by_cases c31 : x10_3.size + 2 ≤ 9223372036854775807
                                  · rw [if_pos c31] at H
                                    have c31b0 := eq_true c31
                                    have c31b1 : decide (x10_3.size + 2 ≤ 9223372036854775807) = true := decide_eq_true c31
                                    try have c31b2 : (9223372036854775807 < x10_3.size + 2) = False := eq_false (Nat.not_lt.2 c31)
                                    by_cases c32 : (x10_3 ++ (⟨#[10, 9]⟩ : ByteArray)).size + x8_2.size ≤ 9223372036854775807
                                    · rw [if_pos c32] at H
                                      have c32b0 := eq_true c32
                                      have c32b1 : decide ((x10_3 ++ (⟨#[10, 9]⟩ : ByteArray)).size + x8_2.size ≤ 9223372036854775807) = true := decide_eq_true c32
                                      try have c32b2 : (9223372036854775807 < (x10_3 ++ (⟨#[10, 9]⟩ : ByteArray)).size + x8_2.size) = False := eq_false (Nat.not_lt.2 c32)
                                      by_cases c33 : ((x10_3 ++ (⟨#[10, 9]⟩ : ByteArray)) ++ x8_2).size + x10_3.size ≤ 9223372036854775807
                                      · rw [if_pos c33] at H
                                        have c33b0 := eq_true c33
                                        have c33b1 : decide (((x10_3 ++ (⟨#[10, 9]⟩ : ByteArray)) ++ x8_2).size + x10_3.size ≤ 9223372036854775807) = true := decide_eq_true c33
                                        try have c33b2 : (9223372036854775807 < ((x10_3 ++ (⟨#[10, 9]⟩ : ByteArray)) ++ x8_2).size + x10_3.size) = False := eq_false (Nat.not_lt.2 c33)
                                        have H' := Aside0.mk H
                                        clear H
                                        go_wp2
                                        repeat (go_quiet (fail); try go_wp2)
                                        go_meet
                                        case rel => exact ⟨_, (((x10_3 ++ (⟨#[10, 9]⟩ : ByteArray)) ++ x8_2) ++ x10_3), (by first | rfl | (simp; done) | (simp [*]; done)), H', ⟨by have := HJ4.out; have := HK2.out; have := HK3.out; have := HK4.out; first | omega | exact Nat.le_refl _⟩, ⟨by (with_reducible repeat (first | apply Kd.R_alloc | apply Kd.R_drewN | apply Kd.R_drew)); exact HO_5.out⟩, ⟨by repeat (first | (with_reducible first | exact HB.out | apply below_alloc | apply pw_below_drewN | apply below_drew1) | exact HB.out)⟩⟩
                                      · rw [if_neg c33] at H
                                        exact absurd H (by simp)
                                    · rw [if_neg c32] at H
                                      exact absurd H (by simp)
                                  · rw [if_neg c31] at H
                                    exact absurd H (by simp)
                                · rw [if_neg c30] at H
                                  have c30b0 : (x12_4 == 1) = false := beq_eq_false_iff_ne.mpr c30
                                  have c30b1 : (x12_4 != 1) = true := bne_iff_ne.mpr c30
                                  (first | rw [c30b0] | (simp only [i64_w, i32_w]; rw [c30b0]) | skip)
                                  have H' := Aside0.mk H
                                  clear H
                                  go_wp2
                                  repeat (go_quiet (fail); try go_wp2)
                                  go_meet
                                  case rel => exact ⟨_, (x8_2), (by first | rfl | (simp; done) | (simp [*]; done)), H', ⟨by have := HJ4.out; have := HK2.out; have := HK3.out; have := HK4.out; first | omega | exact Nat.le_refl _⟩, ⟨by (with_reducible repeat (first | apply Kd.R_alloc | apply Kd.R_drewN | apply Kd.R_drew)); exact HO_5.out⟩, ⟨by repeat (first | (with_reducible first | exact HB.out | apply below_alloc | apply pw_below_drewN | apply below_drew1) | exact HB.out)⟩⟩
                              case rest =>
                                clear HC29
                                try clear c1
                                try clear p1
                                try clear q1
                                try clear hx1
                                try clear c2
                                try clear p2
                                try clear q2
                                try clear hx2
                                try clear c3
                                try clear c4
                                try clear c6
                                try clear p6
                                try clear c7
                                try clear c7b0
                                try clear c7b1
                                try clear c8
                                try clear c10
                                try clear c10b0
                                try clear c10b1
                                try clear c12
                                try clear c12b0
                                try clear c13
                                try clear c13b0
                                try clear p14
                                try clear q14
                                try clear hx14
                                try clear c15
                                try clear c15b0
                                try clear c15b1
                                try clear c15b2
                                try clear c16
                                try clear c16b0
                                try clear c16b1
                                try clear c16b2
                                try clear c20
                                try clear c20b0
                                try clear c21
                                try clear c21b0
                                try clear p22
                                try clear q22
                                try clear hx22
                                try clear c23
                                try clear c23b0
                                try clear c23b1
                                try clear c24
                                try clear c24b0
                                try clear c25
                                try clear c25b0
                                try clear c25b1
                                try clear c26
                                try clear c26b0
                                try clear c26b1
                                try clear c27
                                try clear c27b0
                                try clear c27b1
                                try clear c27b2
                                try clear c28
                                try clear c28b0
                                try clear c30
                                try clear c30b0
                                try clear c30b1
                                try clear c31
                                try clear c31b0
                                try clear c31b1
                                try clear c31b2
                                try clear c32
                                try clear c32b0
                                try clear c32b1
                                try clear c32b2
                                try clear c33
                                try clear c33b0
                                try clear c33b1
                                try clear c33b2
                                try clear hx144_0
                                try clear hx144_1
                                try clear hx144_2
                                try clear p1
                                try clear p14
                                try clear p144
                                try clear p2
                                try clear p22
                                try clear p6
                                try clear q1
                                try clear q14
                                try clear q144
                                try clear q2
                                try clear q22
                                obtain ⟨kq, x13_28, rfl, HA, HJ28, HO_5, HB⟩ := hcut
                                cases kq with
                                | zero => exact absurd HA.out (by simp [tocsinlaw09_LexBack.j4])
                                | succ kj28 =>
                                  have H := HA.out
                                  clear HA
                                  simp only [tocsinlaw09_LexBack.j4] at H
                                  by_cases c34 : (x13_28.size : Int) > 4096
                                  · rw [if_pos c34] at H
                                    have c34b0 : decide (4096 < (x13_28.size : Int)) = true := decide_eq_true c34
                                    have c34b1 : decide (4096 < x13_28.size) = true := decide_eq_true (by omega)
                                    clear c34
                                    obtain rfl := Option.some.inj H
                                    go_wp2
                                    repeat (go_quiet (fail); try go_wp2)
                                    go_ret
                                    exact ⟨by first | rfl | (simp [errW_none, errW_some] <;> rfl) | (simp [*, errW_none, errW_some] <;> rfl), by repeat (first | (with_reducible first | exact HB.out | apply below_alloc | apply pw_below_drewN | apply below_drew1) | exact HB.out)⟩
                                  · rw [if_neg c34] at H
                                    have c34b0 : decide (4096 < (x13_28.size : Int)) = false := decide_eq_false c34
                                    have c34b1 : decide (4096 < x13_28.size) = false := decide_eq_false (by omega)
                                    clear c34
                                    replace H := Option.bind_eq_some_iff.mp H
                                    obtain ⟨⟨t146, t147, t148⟩, A350, H⟩ := H
                                    replace H : (if t148 = 0 then (tocsinlaw09_LexBack.j5 kj28 t139 x8_2 x10_3 x12_4 t146 ((t146.length : Int) != (t139.length : Int))) else (tocsinlaw09_LexBack.j5 kj28 t139 x8_2 x10_3 x12_4 t146 true)) = some r := H
                                    have A35 := Aside0.mk A350
                                    clear A350
                                    have HC36 := Aside0.mk H
                                    clear H
                                    go_upto_region 28 with (first | (go_at_call 11; (with_reducible refine (lex_All.calls x13_28 t146 t147 t148 _ A35.out).mono ?_); rintro e w37 ⟨v149, rfl, ho0, hb⟩; have n0_ := Aside0.mk (Kd.R_elder' (by (with_reducible repeat (first | apply Kd.R_alloc | apply Kd.R_drewN | apply Kd.R_drew)); exact HO_5.out) (Kd.R_base ho0) hb); have n1_ := Aside0.mk (Kd.R_lower (Kd.R_new' ho0 (Kd.R_lt (by (with_reducible repeat (first | apply Kd.R_alloc | apply Kd.R_drewN | apply Kd.R_drew)); exact HO_5.out))) (below_size (by repeat (first | (with_reducible first | exact HB.out | apply below_alloc | apply pw_below_drewN | apply below_drew1) | exact HB.out)))); have n2_ := Aside0.mk (below_step (by repeat (first | (with_reducible first | exact HB.out | apply below_alloc | apply pw_below_drewN | apply below_drew1) | exact HB.out)) hb); clear HO_5; clear HB; have HO_5 := n0_; have HO150 := n1_; have HB := n2_; clear n0_ n1_ n2_; (try clear hb); (try clear hb2); (try clear hk); (try clear hi); (try clear ho0)))
                                    repeat (go_quiet (first | (go_at_call 11; (with_reducible refine (lex_All.calls x13_28 t146 t147 t148 _ A35.out).mono ?_); rintro e w37 ⟨v149, rfl, ho0, hb⟩; have n0_ := Aside0.mk (Kd.R_elder' (by (with_reducible repeat (first | apply Kd.R_alloc | apply Kd.R_drewN | apply Kd.R_drew)); exact HO_5.out) (Kd.R_base ho0) hb); have n1_ := Aside0.mk (Kd.R_lower (Kd.R_new' ho0 (Kd.R_lt (by (with_reducible repeat (first | apply Kd.R_alloc | apply Kd.R_drewN | apply Kd.R_drew)); exact HO_5.out))) (below_size (by repeat (first | (with_reducible first | exact HB.out | apply below_alloc | apply pw_below_drewN | apply below_drew1) | exact HB.out)))); have n2_ := Aside0.mk (below_step (by repeat (first | (with_reducible first | exact HB.out | apply below_alloc | apply pw_below_drewN | apply below_drew1) | exact HB.out)) hb); clear HO_5; clear HB; have HO_5 := n0_; have HO150 := n1_; have HB := n2_; clear n0_ n1_ n2_; (try clear hb); (try clear hb2); (try clear hk); (try clear hi); (try clear ho0))); go_upto_region 28 with (first | (go_at_call 11; (with_reducible refine (lex_All.calls x13_28 t146 t147 t148 _ A35.out).mono ?_); rintro e w37 ⟨v149, rfl, ho0, hb⟩; have n0_ := Aside0.mk (Kd.R_elder' (by (with_reducible repeat (first | apply Kd.R_alloc | apply Kd.R_drewN | apply Kd.R_drew)); exact HO_5.out) (Kd.R_base ho0) hb); have n1_ := Aside0.mk (Kd.R_lower (Kd.R_new' ho0 (Kd.R_lt (by (with_reducible repeat (first | apply Kd.R_alloc | apply Kd.R_drewN | apply Kd.R_drew)); exact HO_5.out))) (below_size (by repeat (first | (with_reducible first | exact HB.out | apply below_alloc | apply pw_below_drewN | apply below_drew1) | exact HB.out)))); have n2_ := Aside0.mk (below_step (by repeat (first | (with_reducible first | exact HB.out | apply below_alloc | apply pw_below_drewN | apply below_drew1) | exact HB.out)) hb); clear HO_5; clear HB; have HO_5 := n0_; have HO150 := n1_; have HB := n2_; clear n0_ n1_ n2_; (try clear hb); (try clear hb2); (try clear hk); (try clear hi); (try clear ho0))))
                                    (try simp only [Act.put, List.setIfInBounds_toArray, List.set_cons_zero, List.set_cons_succ])
                                    go_cut [97] (fun v97 wc => ∃ (kq : Nat) (x97_35 : Bool), v97 = .bool x97_35 ∧ Aside0 (tocsinlaw09_LexBack.j5 kq t139 x8_2 x10_3 x12_4 t146 x97_35 = some r) ∧ Aside0 (kq ≤ kj28) ∧ Aside0 (Kd.R k31 31 wc w.heap.size (fun k_ => some k_ ≠ (v149 : Value).ownBlock) (.slice Ao19 t139.length co19) t139) ∧ Aside0 (Kd.R k31 31 wc w.heap.size (fun k_ => some k_ ≠ ((.slice Ao19 t139.length co19) : Value).ownBlock) v149 t146) ∧ Aside0 (Below w.heap.size w wc))
                                    case first =>
                                      have H := HC36.out
                                      clear HC36
                                      by_cases c38 : t148 = 0
                                      · rw [if_pos c38] at H
                                        have c38b0 : (t148 == 0) = true := beq_iff_eq.mpr c38
                                        have c38b1 : (t148 != 0) = false := bne_eq_false_iff_eq.mpr c38
                                        clear c38
                                        (first | rw [c38b0] | (simp only [i64_w, i32_w]; rw [c38b0]) | skip)
                                        have H' := Aside0.mk H
                                        clear H
                                        obtain ⟨Ao39, co39, eo39⟩ := Kd.R_slice HO150.out
                                        subst eo39
                                        go_wp2
                                        repeat (go_quiet (fail); try go_wp2)
                                        go_meet
                                        case rel => exact ⟨_, (((t146.length : Int) != (t139.length : Int))), (by first | rfl | (simp; done) | (simp [*]; done)), H', ⟨by have := HJ4.out; have := HK2.out; have := HK3.out; have := HK4.out; have := HJ28.out; first | omega | exact Nat.le_refl _⟩, ⟨by (with_reducible repeat (first | apply Kd.R_alloc | apply Kd.R_drewN | apply Kd.R_drew)); exact Kd.R_mono HO_5.out (fun _ hk => hk.2)⟩, ⟨by (with_reducible repeat (first | apply Kd.R_alloc | apply Kd.R_drewN | apply Kd.R_drew)); exact Kd.R_mono HO150.out (fun _ hk => hk.2)⟩, ⟨by repeat (first | (with_reducible first | exact HB.out | apply below_alloc | apply pw_below_drewN | apply below_drew1) | exact HB.out)⟩⟩
                                      · rw [if_neg c38] at H
                                        have c38b0 : (t148 == 0) = false := beq_eq_false_iff_ne.mpr c38
                                        have c38b1 : (t148 != 0) = true := bne_iff_ne.mpr c38
                                        (first | rw [c38b0] | (simp only [i64_w, i32_w]; rw [c38b0]) | skip)
                                        have H' := Aside0.mk H
                                        clear H
                                        go_wp2
                                        repeat (go_quiet (fail); try go_wp2)
                                        go_meet
                                        case rel => exact ⟨_, (true), (by first | rfl | (simp; done) | (simp [*]; done)), H', ⟨by have := HJ4.out; have := HK2.out; have := HK3.out; have := HK4.out; have := HJ28.out; first | omega | exact Nat.le_refl _⟩, ⟨by (with_reducible repeat (first | apply Kd.R_alloc | apply Kd.R_drewN | apply Kd.R_drew)); exact Kd.R_mono HO_5.out (fun _ hk => hk.2)⟩, ⟨by (with_reducible repeat (first | apply Kd.R_alloc | apply Kd.R_drewN | apply Kd.R_drew)); exact Kd.R_mono HO150.out (fun _ hk => hk.2)⟩, ⟨by repeat (first | (with_reducible first | exact HB.out | apply below_alloc | apply pw_below_drewN | apply below_drew1) | exact HB.out)⟩⟩
                                    case rest =>
                                      clear HC36
                                      try clear c1
                                      try clear p1
                                      try clear q1
                                      try clear hx1
                                      try clear c2
                                      try clear p2
                                      try clear q2
                                      try clear hx2
                                      try clear c3
                                      try clear c4
                                      try clear c6
                                      try clear p6
                                      try clear c7
                                      try clear c7b0
                                      try clear c7b1
                                      try clear c8
                                      try clear c10
                                      try clear c10b0
                                      try clear c10b1
                                      try clear c12
                                      try clear c12b0
                                      try clear c13
                                      try clear c13b0
                                      try clear p14
                                      try clear q14
                                      try clear hx14
                                      try clear c15
                                      try clear c15b0
                                      try clear c15b1
                                      try clear c15b2
                                      try clear c16
                                      try clear c16b0
                                      try clear c16b1
                                      try clear c16b2
                                      try clear c20
                                      try clear c20b0
                                      try clear c21
                                      try clear c21b0
                                      try clear p22
                                      try clear q22
                                      try clear hx22
                                      try clear c23
                                      try clear c23b0
                                      try clear c23b1
                                      try clear c24
                                      try clear c24b0
                                      try clear c25
                                      try clear c25b0
                                      try clear c25b1
                                      try clear c26
                                      try clear c26b0
                                      try clear c26b1
                                      try clear c27
                                      try clear c27b0
                                      try clear c27b1
                                      try clear c27b2
                                      try clear c28
                                      try clear c28b0
                                      try clear c30
                                      try clear c30b0
                                      try clear c30b1
                                      try clear c31
                                      try clear c31b0
                                      try clear c31b1
                                      try clear c31b2
                                      try clear c32
                                      try clear c32b0
                                      try clear c32b1
                                      try clear c32b2
                                      try clear c33
                                      try clear c33b0
                                      try clear c33b1
                                      try clear c33b2
                                      try clear c34
                                      try clear c34b0
                                      try clear c34b1
                                      try clear c38
                                      try clear c38b0
                                      try clear c38b1
                                      try clear hx144_0
                                      try clear hx144_1
                                      try clear hx144_2
                                      try clear p1
                                      try clear p14
                                      try clear p144
                                      try clear p2
                                      try clear p22
                                      try clear p6
                                      try clear q1
                                      try clear q14
                                      try clear q144
                                      try clear q2
                                      try clear q22
                                      obtain ⟨kq, x97_35, rfl, HA, HJ35, HO_5, HO_14, HB⟩ := hcut
                                      cases kq with
                                      | zero => exact absurd HA.out (by simp [tocsinlaw09_LexBack.j5])
                                      | succ kj35 =>
                                        have H := HA.out
                                        clear HA
                                        simp only [tocsinlaw09_LexBack.j5] at H
                                        by_cases c40 : x97_35 = true
                                        · subst c40
                                          have H1 : (some false) = some r := by rw [if_pos rfl] at H; exact H
                                          clear H
                                          have H := H1
                                          clear H1
                                          obtain rfl := Option.some.inj H
                                          go_wp2
                                          repeat (go_quiet (fail); try go_wp2)
                                          go_ret
                                          exact ⟨by first | rfl | (simp [errW_none, errW_some] <;> rfl) | (simp [*, errW_none, errW_some] <;> rfl), by repeat (first | (with_reducible first | exact HB.out | apply below_alloc | apply pw_below_drewN | apply below_drew1) | exact HB.out)⟩
                                        · replace c40 := Bool.eq_false_iff.mpr c40
                                          subst c40
                                          have H1 : (tocsinlaw09_LexBack.l3 kj35 t139 x8_2 x10_3 x12_4 t146 0) = some r := by rw [if_neg (show ¬ (false = true) by decide)] at H; exact H
                                          clear H
                                          have H := H1
                                          clear H1
                                          have H' := Aside0.mk H
                                          clear H
                                          go_wp2
                                          repeat (go_quiet (fail); try go_wp2)
                                          go_loopg [17] kj35 (fun kq v17 w' => ∃ (x17_7 : Int), v17 = .int .i64 x17_7 ∧ Aside0 (tocsinlaw09_LexBack.l3 kq t139 x8_2 x10_3 x12_4 t146 x17_7 = some r) ∧ Aside0 (kq ≤ kj35) ∧ Aside0 (Kd.R k31 31 w' w.heap.size (fun k_ => some k_ ≠ (v149 : Value).ownBlock) (.slice Ao19 t139.length co19) t139) ∧ Aside0 (Kd.R k31 31 w' w.heap.size (fun k_ => some k_ ≠ ((.slice Ao19 t139.length co19) : Value).ownBlock) v149 t146) ∧ Aside0 (Below w.heap.size w w'))
                                          case atStart => exact ⟨(0), (by first | rfl | (simp; done) | (simp [*]; done)), H', ⟨Nat.le_refl _⟩, ⟨by (with_reducible repeat (first | apply Kd.R_alloc | apply Kd.R_drewN | apply Kd.R_drew)); exact HO_5.out⟩, ⟨by (with_reducible repeat (first | apply Kd.R_alloc | apply Kd.R_drewN | apply Kd.R_drew)); exact HO_14.out⟩, ⟨by repeat (first | (with_reducible first | exact HB.out | apply below_alloc | apply pw_below_drewN | apply below_drew1) | exact HB.out)⟩⟩
                                          case round =>
                                            clear H'
                                            try clear c1
                                            try clear p1
                                            try clear q1
                                            try clear hx1
                                            try clear c2
                                            try clear p2
                                            try clear q2
                                            try clear hx2
                                            try clear c3
                                            try clear c4
                                            try clear c6
                                            try clear p6
                                            try clear c7
                                            try clear c7b0
                                            try clear c7b1
                                            try clear c8
                                            try clear c10
                                            try clear c10b0
                                            try clear c10b1
                                            try clear c12
                                            try clear c12b0
                                            try clear c13
                                            try clear c13b0
                                            try clear p14
                                            try clear q14
                                            try clear hx14
                                            try clear c15
                                            try clear c15b0
                                            try clear c15b1
                                            try clear c15b2
                                            try clear c16
                                            try clear c16b0
                                            try clear c16b1
                                            try clear c16b2
                                            try clear c20
                                            try clear c20b0
                                            try clear c21
                                            try clear c21b0
                                            try clear p22
                                            try clear q22
                                            try clear hx22
                                            try clear c23
                                            try clear c23b0
                                            try clear c23b1
                                            try clear c24
                                            try clear c24b0
                                            try clear c25
                                            try clear c25b0
                                            try clear c25b1
                                            try clear c26
                                            try clear c26b0
                                            try clear c26b1
                                            try clear c27
                                            try clear c27b0
                                            try clear c27b1
                                            try clear c27b2
                                            try clear c28
                                            try clear c28b0
                                            try clear c30
                                            try clear c30b0
                                            try clear c30b1
                                            try clear c31
                                            try clear c31b0
                                            try clear c31b1
                                            try clear c31b2
                                            try clear c32
                                            try clear c32b0
                                            try clear c32b1
                                            try clear c32b2
                                            try clear c33
                                            try clear c33b0
                                            try clear c33b1
                                            try clear c33b2
                                            try clear c34
                                            try clear c34b0
                                            try clear c34b1
                                            try clear c38
                                            try clear c38b0
                                            try clear c38b1
                                            try clear c40
                                            try clear hx144_0
                                            try clear hx144_1
                                            try clear hx144_2
                                            try clear p1
                                            try clear p14
                                            try clear p144
                                            try clear p2
                                            try clear p22
                                            try clear p6
                                            try clear q1
                                            try clear q14
                                            try clear q144
                                            try clear q2
                                            try clear q22
                                            obtain ⟨x17_7, rfl, HA, HK7, HO_5, HO_14, HB⟩ := hrel
                                            cases gk with
                                            | zero => exact absurd HA.out (by simp [tocsinlaw09_LexBack.l3])
                                            | succ k7 =>
                                              have H := HA.out
                                              clear HA
                                              simp only [tocsinlaw09_LexBack.l3] at H
                                              by_cases c41 : x17_7 < (t139.length : Int)
                                              · rw [if_pos c41] at H
                                                have c41b0 : decide (x17_7 < (t139.length : Int)) = true := decide_eq_true c41
                                                clear c41
                                                by_cases c42 : 0 ≤ x17_7
                                                · rw [if_pos c42] at H
                                                  have c42b0 : decide (0 ≤ x17_7) = true := decide_eq_true c42
                                                  clear c42
                                                  by_cases c43 : x17_7 < (t146.length : Int)
                                                  · rw [if_pos c43] at H
                                                    have c43b0 : decide (x17_7 < (t146.length : Int)) = true := decide_eq_true c43
                                                    clear c43
                                                    by_cases c44 : ((rd_T31 t146 x17_7).f0) = ((rd_T31 t139 x17_7).f0)
                                                    · rw [if_pos c44] at H
                                                      have c44b0 : (((rd_T31 t146 x17_7).f0) == ((rd_T31 t139 x17_7).f0)) = true := beq_iff_eq.mpr c44
                                                      have c44b1 : (((rd_T31 t146 x17_7).f0) != ((rd_T31 t139 x17_7).f0)) = false := bne_eq_false_iff_eq.mpr c44
                                                      clear c44
                                                      by_cases c45 : ((rd_T31 t146 x17_7).f1).toList = ((rd_T31 t139 x17_7).f1).toList
                                                      · rw [if_pos c45] at H
                                                        have c45b0 : (((rd_T31 t146 x17_7).f1).toList == ((rd_T31 t139 x17_7).f1).toList) = true := beq_iff_eq.mpr c45
                                                        have c45b1 : (((rd_T31 t146 x17_7).f1).toList != ((rd_T31 t139 x17_7).f1).toList) = false := bne_eq_false_iff_eq.mpr c45
                                                        clear c45
                                                        have H' := Aside0.mk H
                                                        clear H
                                                        obtain ⟨Ao46, co46, eo46⟩ := Kd.R_slice HO_14.out
                                                        subst eo46
                                                        have p151 : 0 ≤ (x17_7 : Int) := of_decide_eq_true (by first | (with_reducible assumption) | assumption)
                                                        have q151 : x17_7 < (t146.length : Int) := of_decide_eq_true (by first | (with_reducible assumption) | assumption)
                                                        obtain ⟨ad151, e151, hx151_0, hx151_1, hx151_2⟩ := at_T31 (Kd.R_reads' HO_14.out).2.2 x17_7 p151 q151
                                                        cases e151
                                                        replace p151 := eq_true p151
                                                        replace q151 := eq_true q151
                                                        have p152 : 0 ≤ (x17_7 : Int) := of_decide_eq_true (by first | (with_reducible assumption) | assumption)
                                                        have q152 : x17_7 < (t139.length : Int) := of_decide_eq_true (by first | (with_reducible assumption) | assumption)
                                                        obtain ⟨ad152, e152, hx152_0, hx152_1, hx152_2⟩ := at_T31 (Kd.R_reads' HO_5.out).2.2 x17_7 p152 q152
                                                        cases e152
                                                        replace p152 := eq_true p152
                                                        replace q152 := eq_true q152
                                                        have p153 : 0 ≤ (x17_7 : Int) := of_decide_eq_true (by first | (with_reducible assumption) | assumption)
                                                        have q153 : x17_7 < (t146.length : Int) := of_decide_eq_true (by first | (with_reducible assumption) | assumption)
                                                        obtain ⟨ad153, e153, hx153_0, hx153_1, hx153_2⟩ := at_T31 (Kd.R_reads' HO_14.out).2.2 x17_7 p153 q153
                                                        obtain rfl : ad151 = ad153 := (by injection e153)
                                                        replace p153 := eq_true p153
                                                        replace q153 := eq_true q153
                                                        have p154 : 0 ≤ (x17_7 : Int) := of_decide_eq_true (by first | (with_reducible assumption) | assumption)
                                                        have q154 : x17_7 < (t139.length : Int) := of_decide_eq_true (by first | (with_reducible assumption) | assumption)
                                                        obtain ⟨ad154, e154, hx154_0, hx154_1, hx154_2⟩ := at_T31 (Kd.R_reads' HO_5.out).2.2 x17_7 p154 q154
                                                        obtain rfl : ad152 = ad154 := (by injection e154)
                                                        replace p154 := eq_true p154
                                                        replace q154 := eq_true q154
                                                        go_wp2
                                                        repeat (go_quiet (fail); try go_wp2)
                                                        go_roundg k7
                                                        case measure => have := HJ4.out; have := HK2.out; have := HK3.out; have := HK4.out; have := HJ28.out; have := HJ35.out; have := HK7.out; omega
                                                        case rel => exact ⟨(wrap64 (x17_7 + 1)), (by first | rfl | (simp; done) | (simp [*]; done)), H', ⟨by have := HJ4.out; have := HK2.out; have := HK3.out; have := HK4.out; have := HJ28.out; have := HJ35.out; have := HK7.out; omega⟩, ⟨by (with_reducible repeat (first | apply Kd.R_alloc | apply Kd.R_drewN | apply Kd.R_drew)); exact HO_5.out⟩, ⟨by (with_reducible repeat (first | apply Kd.R_alloc | apply Kd.R_drewN | apply Kd.R_drew)); exact HO_14.out⟩, ⟨by repeat (first | (with_reducible first | exact HB.out | apply below_alloc | apply pw_below_drewN | apply below_drew1) | exact HB.out)⟩⟩
                                                      · rw [if_neg c45] at H
                                                        have c45b0 : (((rd_T31 t146 x17_7).f1).toList == ((rd_T31 t139 x17_7).f1).toList) = false := beq_eq_false_iff_ne.mpr c45
                                                        have c45b1 : (((rd_T31 t146 x17_7).f1).toList != ((rd_T31 t139 x17_7).f1).toList) = true := bne_iff_ne.mpr c45
                                                        obtain rfl := Option.some.inj H
                                                        obtain ⟨Ao47, co47, eo47⟩ := Kd.R_slice HO_14.out
                                                        subst eo47
                                                        have p151 : 0 ≤ (x17_7 : Int) := of_decide_eq_true (by first | (with_reducible assumption) | assumption)
                                                        have q151 : x17_7 < (t146.length : Int) := of_decide_eq_true (by first | (with_reducible assumption) | assumption)
                                                        obtain ⟨ad151, e151, hx151_0, hx151_1, hx151_2⟩ := at_T31 (Kd.R_reads' HO_14.out).2.2 x17_7 p151 q151
                                                        cases e151
                                                        replace p151 := eq_true p151
                                                        replace q151 := eq_true q151
                                                        have p152 : 0 ≤ (x17_7 : Int) := of_decide_eq_true (by first | (with_reducible assumption) | assumption)
                                                        have q152 : x17_7 < (t139.length : Int) := of_decide_eq_true (by first | (with_reducible assumption) | assumption)
                                                        obtain ⟨ad152, e152, hx152_0, hx152_1, hx152_2⟩ := at_T31 (Kd.R_reads' HO_5.out).2.2 x17_7 p152 q152
                                                        cases e152
                                                        replace p152 := eq_true p152
                                                        replace q152 := eq_true q152
                                                        have p153 : 0 ≤ (x17_7 : Int) := of_decide_eq_true (by first | (with_reducible assumption) | assumption)
                                                        have q153 : x17_7 < (t146.length : Int) := of_decide_eq_true (by first | (with_reducible assumption) | assumption)
                                                        obtain ⟨ad153, e153, hx153_0, hx153_1, hx153_2⟩ := at_T31 (Kd.R_reads' HO_14.out).2.2 x17_7 p153 q153
                                                        obtain rfl : ad151 = ad153 := (by injection e153)
                                                        replace p153 := eq_true p153
                                                        replace q153 := eq_true q153
                                                        have p154 : 0 ≤ (x17_7 : Int) := of_decide_eq_true (by first | (with_reducible assumption) | assumption)
                                                        have q154 : x17_7 < (t139.length : Int) := of_decide_eq_true (by first | (with_reducible assumption) | assumption)
                                                        obtain ⟨ad154, e154, hx154_0, hx154_1, hx154_2⟩ := at_T31 (Kd.R_reads' HO_5.out).2.2 x17_7 p154 q154
                                                        obtain rfl : ad152 = ad154 := (by injection e154)
                                                        replace p154 := eq_true p154
                                                        replace q154 := eq_true q154
                                                        go_wp2
                                                        repeat (go_quiet (fail); try go_wp2)
                                                        go_ret
                                                        exact ⟨by first | rfl | (simp [errW_none, errW_some] <;> rfl) | (simp [*, errW_none, errW_some] <;> rfl), by repeat (first | (with_reducible first | exact HB.out | apply below_alloc | apply pw_below_drewN | apply below_drew1) | exact HB.out)⟩
                                                    · rw [if_neg c44] at H
                                                      have c44b0 : (((rd_T31 t146 x17_7).f0) == ((rd_T31 t139 x17_7).f0)) = false := beq_eq_false_iff_ne.mpr c44
                                                      have c44b1 : (((rd_T31 t146 x17_7).f0) != ((rd_T31 t139 x17_7).f0)) = true := bne_iff_ne.mpr c44
                                                      obtain rfl := Option.some.inj H
                                                      obtain ⟨Ao48, co48, eo48⟩ := Kd.R_slice HO_14.out
                                                      subst eo48
                                                      have p151 : 0 ≤ (x17_7 : Int) := of_decide_eq_true (by first | (with_reducible assumption) | assumption)
                                                      have q151 : x17_7 < (t146.length : Int) := of_decide_eq_true (by first | (with_reducible assumption) | assumption)
                                                      obtain ⟨ad151, e151, hx151_0, hx151_1, hx151_2⟩ := at_T31 (Kd.R_reads' HO_14.out).2.2 x17_7 p151 q151
                                                      cases e151
                                                      replace p151 := eq_true p151
                                                      replace q151 := eq_true q151
                                                      have p152 : 0 ≤ (x17_7 : Int) := of_decide_eq_true (by first | (with_reducible assumption) | assumption)
                                                      have q152 : x17_7 < (t139.length : Int) := of_decide_eq_true (by first | (with_reducible assumption) | assumption)
                                                      obtain ⟨ad152, e152, hx152_0, hx152_1, hx152_2⟩ := at_T31 (Kd.R_reads' HO_5.out).2.2 x17_7 p152 q152
                                                      cases e152
                                                      replace p152 := eq_true p152
                                                      replace q152 := eq_true q152
                                                      go_wp2
                                                      repeat (go_quiet (fail); try go_wp2)
                                                      go_ret
                                                      exact ⟨by first | rfl | (simp [errW_none, errW_some] <;> rfl) | (simp [*, errW_none, errW_some] <;> rfl), by repeat (first | (with_reducible first | exact HB.out | apply below_alloc | apply pw_below_drewN | apply below_drew1) | exact HB.out)⟩
                                                  · rw [if_neg c43] at H
                                                    exact absurd H (by simp)
                                                · rw [if_neg c42] at H
                                                  exact absurd H (by simp)
                                              · rw [if_neg c41] at H
                                                have c41b0 : decide (x17_7 < (t139.length : Int)) = false := decide_eq_false c41
                                                clear c41
                                                have H' := Aside0.mk H
                                                clear H
                                                go_wp2
                                                repeat (go_quiet (fail); try go_wp2)
                                                go_roundg k7
                                                case measure => have := HJ4.out; have := HK2.out; have := HK3.out; have := HK4.out; have := HJ28.out; have := HJ35.out; have := HK7.out; omega
                                                case rel => exact ⟨(wrap64 (x12_4 + 1)), (by first | rfl | (simp; done) | (simp [*]; done)), H', ⟨by have := HJ4.out; have := HK2.out; have := HK3.out; have := HK4.out; have := HJ28.out; have := HJ35.out; have := HK7.out; omega⟩, ⟨by (with_reducible repeat (first | apply Kd.R_alloc | apply Kd.R_drewN | apply Kd.R_drew)); exact Kd.R_mono HO_5.out (fun _ hk => trivial)⟩, ⟨by repeat (first | (with_reducible first | exact HB.out | apply below_alloc | apply pw_below_drewN | apply below_drew1) | exact HB.out)⟩⟩
                            · rw [if_neg c28] at H
                              have c28b0 : decide (x12_4 < 2) = false := decide_eq_false c28
                              clear c28
                              obtain rfl := Option.some.inj H
                              go_wp2
                              repeat (go_quiet (fail); try go_wp2)
                              go_ret
                              exact ⟨by first | rfl | (simp [errW_none, errW_some] <;> rfl) | (simp [*, errW_none, errW_some] <;> rfl), by repeat (first | (with_reducible first | exact HB.out | apply below_alloc | apply pw_below_drewN | apply below_drew1) | exact HB.out)⟩
          · rw [if_neg c10] at H
            have c10b0 : (t141 == 0) = false := beq_eq_false_iff_ne.mpr c10
            have c10b1 : (t141 != 0) = true := bne_iff_ne.mpr c10
            obtain rfl := Option.some.inj H
            go_wp2_with (first | (go_at_call 11; (with_reducible refine (lex_All.calls a0 t139 t140 t141 _ A9.out).mono ?_); rintro e w49 ⟨v142, rfl, ho0, hb⟩; have n0_ := Aside0.mk (Kd.R_lower ho0 (below_size (by repeat (first | (with_reducible first | exact HB.out | apply below_alloc | apply pw_below_drewN | apply below_drew1) | exact HB.out)))); have n1_ := Aside0.mk (below_step (by repeat (first | (with_reducible first | exact HB.out | apply below_alloc | apply pw_below_drewN | apply below_drew1) | exact HB.out)) hb); clear HB; have HO143 := n0_; have HB := n1_; clear n0_ n1_; (try clear hb); (try clear hb2); (try clear hk); (try clear hi); (try clear ho0)))
            repeat (go_quiet (first | (go_at_call 11; (with_reducible refine (lex_All.calls a0 t139 t140 t141 _ A9.out).mono ?_); rintro e w49 ⟨v142, rfl, ho0, hb⟩; have n0_ := Aside0.mk (Kd.R_lower ho0 (below_size (by repeat (first | (with_reducible first | exact HB.out | apply below_alloc | apply pw_below_drewN | apply below_drew1) | exact HB.out)))); have n1_ := Aside0.mk (below_step (by repeat (first | (with_reducible first | exact HB.out | apply below_alloc | apply pw_below_drewN | apply below_drew1) | exact HB.out)) hb); clear HB; have HO143 := n0_; have HB := n1_; clear n0_ n1_; (try clear hb); (try clear hb2); (try clear hk); (try clear hi); (try clear ho0))); try go_wp2_with (first | (go_at_call 11; (with_reducible refine (lex_All.calls a0 t139 t140 t141 _ A9.out).mono ?_); rintro e w49 ⟨v142, rfl, ho0, hb⟩; have n0_ := Aside0.mk (Kd.R_lower ho0 (below_size (by repeat (first | (with_reducible first | exact HB.out | apply below_alloc | apply pw_below_drewN | apply below_drew1) | exact HB.out)))); have n1_ := Aside0.mk (below_step (by repeat (first | (with_reducible first | exact HB.out | apply below_alloc | apply pw_below_drewN | apply below_drew1) | exact HB.out)) hb); clear HB; have HO143 := n0_; have HB := n1_; clear n0_ n1_; (try clear hb); (try clear hb2); (try clear hk); (try clear hi); (try clear ho0))))
            go_ret
            exact ⟨by first | rfl | (simp [errW_none, errW_some] <;> rfl) | (simp [*, errW_none, errW_some] <;> rfl), by repeat (first | (with_reducible first | exact HB.out | apply below_alloc | apply pw_below_drewN | apply below_drew1) | exact HB.out)⟩
  · replace c4 := Bool.eq_false_iff.mpr c4
    subst c4
    have H1 : (some false) = some r := by rw [if_neg (show ¬ (false = true) by decide)] at H; exact H
    clear H
    have H := H1
    clear H1
    obtain rfl := Option.some.inj H
    go_enter Try.func6, Try.ntmps6
    go_wp2_with (first | (go_at_call 14; (with_reducible refine (tocsinlaw09_awake.calls  false _ A3.out).mono ?_); rintro e w50 ⟨rfl, hb⟩; have n0_ := Aside0.mk (below_step (by repeat (first | (with_reducible first | exact HB.out | apply below_alloc | apply pw_below_drewN | apply below_drew1) | exact HB.out)) hb); clear HB; have HB := n0_; clear n0_; (try clear hb); (try clear hb2); (try clear hk); (try clear hi)))
    repeat (go_quiet (first | (go_at_call 14; (with_reducible refine (tocsinlaw09_awake.calls  false _ A3.out).mono ?_); rintro e w50 ⟨rfl, hb⟩; have n0_ := Aside0.mk (below_step (by repeat (first | (with_reducible first | exact HB.out | apply below_alloc | apply pw_below_drewN | apply below_drew1) | exact HB.out)) hb); clear HB; have HB := n0_; clear n0_; (try clear hb); (try clear hb2); (try clear hk); (try clear hi))); try go_wp2_with (first | (go_at_call 14; (with_reducible refine (tocsinlaw09_awake.calls  false _ A3.out).mono ?_); rintro e w50 ⟨rfl, hb⟩; have n0_ := Aside0.mk (below_step (by repeat (first | (with_reducible first | exact HB.out | apply below_alloc | apply pw_below_drewN | apply below_drew1) | exact HB.out)) hb); clear HB; have HB := n0_; clear n0_; (try clear hb); (try clear hb2); (try clear hk); (try clear hi))))
    go_ret
    exact ⟨by first | rfl | (simp [errW_none, errW_some] <;> rfl) | (simp [*, errW_none, errW_some] <;> rfl), by repeat (first | (with_reducible first | exact HB.out | apply below_alloc | apply pw_below_drewN | apply below_drew1) | exact HB.out)⟩

/-- THE ONE PURE STATEMENT of tocsinlaw09_LexBack: yours. -/
def tocsinlaw09_LexBack.Pure : Prop := ∀ (a0 : ByteArray) (a1 : ByteArray), a0.size ≤ 140737488351232 → a1.size ≤ 140737488351232 → ∃ k, tocsinlaw09_LexBack.f k a0 a1 = some true
theorem tocsinlaw09_LexBack.walk (P : tocsinlaw09_LexBack.Pure) (a0 : ByteArray) (a1 : ByteArray) (w : World) (w0 : a0.size ≤ 140737488351232) (w1 : a1.size ≤ 140737488351232) :
    Calls Try.prog 6 #[.string a0, .string a1] w fun e w' => e = .returned (.bool true) ∧ Below w.heap.size w w' := by
  obtain ⟨k, h⟩ := P a0 a1 w0 w1
  refine (tocsinlaw09_LexBack.calls k a0 a1 true w h).mono ?_
  rintro e w' ⟨rfl, hd⟩
  exact ⟨rfl, hd⟩

end Go.Proofs.Ytpeaepdhnicceaa.PAll
