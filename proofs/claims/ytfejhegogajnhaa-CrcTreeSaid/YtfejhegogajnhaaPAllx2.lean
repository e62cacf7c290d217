/- Printed by a program of this session (wip/tools/myprint.py, which runs the kit's own printer) over contracts proved by hand: functions and their walks, and the row of a law: for every input it returns true. No conditions. -/
import Derived.Test.YtfejhegogajnhaaPAllx0
namespace Go.Proofs.Ytfejhegogajnhaa.PAll
open Go.RowKit Go.Proofs.Ytfejhegogajnhaa.PBase Go.Proofs.Ytfejhegogajnhaa.Given Go.Proofs.YtfejhegogajnhaaW.PrintWords Go.Proofs.YtfejhegogajnhaaW.PrintLast Go.Proofs.YtfejhegogajnhaaW.PrintMore
attribute [local go_sem] max2_int min2_int max_two min_two max_three min_three max_four min_four   -- for this text's walks alone
set_option linter.unusedVariables false
set_option linter.unusedSimpArgs false

/-! ### tocsinlaw02_CrcTree: function 5 -/
mutual
def tocsinlaw02_CrcTree.j0 : Nat → List (List Int) → List Int → Bool → Option (Bool)
  | 0, _, _, _ => none
  | k + 1, x0, x1, x20 => if x20 = true then (some true) else (if 0 ≤ (x0.length : Int) then (if ((x0.length : Int) : Int).toNat ≤ 70368744177664 then (if ((x0.length : Int) : Int).toNat ≤ 35184372088832 then (tocsinlaw02_CrcTree.l0 k x0 x1 (List.replicate ((x0.length : Int) : Int).toNat 0) (List.replicate ((x0.length : Int) : Int).toNat 0) 0) else (none)) else (none)) else (none))
def tocsinlaw02_CrcTree.l0 : Nat → List (List Int) → List Int → List Int → List Int → Int → Option (Bool)
  | 0, _, _, _, _, _ => none
  | k + 1, x0, x1, x5, x6, x7 => if x7 < (x0.length : Int) then (if 0 ≤ x7 then ((crc_Sum.f (rd_L1 x0 x7)).bind fun t130 => (if x7 < (x5.length : Int) then (if x7 < (x6.length : Int) then (tocsinlaw02_CrcTree.l0 k x0 x1 (x5.set (x7 : Int).toNat t130) (x6.set (x7 : Int).toNat ((rd_L1 x0 x7).length : Int)) (wrap64 (x7 + 1))) else (none)) else (none))) else (none)) else ((crc_Of.f x0).bind fun t134 => (tocsinlaw02_CrcTree.l1 k x1 x5 x6 t134 0))
def tocsinlaw02_CrcTree.l1 : Nat → List Int → List Int → List Int → Int → Int → Option (Bool)
  | 0, _, _, _, _, _ => none
  | k + 1, x1, x5, x6, x8, x9 => if (x5.length : Int) > 1 then (if x9 < (x1.length : Int) then (if 0 ≤ x9 then (if (wrap64 ((x5.length : Int) - 1)) = 0 then (none) else (tocsinlaw02_CrcTree.j3 k x1 x5 x6 x8 x9 (Int.tmod (wrap64 (rd x1 x9)) (wrap64 ((x5.length : Int) - 1))))) else (none)) else (tocsinlaw02_CrcTree.j3 k x1 x5 x6 x8 x9 0)) else (if (x5.length : Int) = 0 then (some (x8 == 0)) else (if 0 < (x5.length : Int) then (some ((rd x5 0) == x8)) else (none)))
def tocsinlaw02_CrcTree.j3 : Nat → List Int → List Int → List Int → Int → Int → Int → Option (Bool)
  | 0, _, _, _, _, _, _ => none
  | k + 1, x1, x5, x6, x8, x9, x10 => if 0 ≤ x10 then (if x10 < (x5.length : Int) then (if 0 ≤ (wrap64 (x10 + 1)) then (if (wrap64 (x10 + 1)) < (x5.length : Int) then (if (wrap64 (x10 + 1)) < (x6.length : Int) then ((crc_Join.f k (rd x5 x10) (rd x5 (wrap64 (x10 + 1))) (rd x6 (wrap64 (x10 + 1)))).bind fun t140 => (if x10 < (x6.length : Int) then (tocsinlaw02_CrcTree.l2 k x1 (x5.set (x10 : Int).toNat t140) (x6.set (x10 : Int).toNat (wrap64 ((rd x6 x10) + (rd x6 (wrap64 (x10 + 1)))))) x8 x9 (wrap64 (x10 + 1))) else (none))) else (none)) else (none)) else (none)) else (none)) else (none)
def tocsinlaw02_CrcTree.l2 : Nat → List Int → List Int → List Int → Int → Int → Int → Option (Bool)
  | 0, _, _, _, _, _, _ => none
  | k + 1, x1, x5, x6, x8, x9, x11 => if x11 < (wrap64 ((x5.length : Int) - 1)) then (if 0 ≤ (wrap64 (x11 + 1)) then (if (wrap64 (x11 + 1)) < (x5.length : Int) then (if 0 ≤ x11 then (if x11 < (x5.length : Int) then (if (wrap64 (x11 + 1)) < (x6.length : Int) then (if x11 < (x6.length : Int) then (tocsinlaw02_CrcTree.l2 k x1 (x5.set (x11 : Int).toNat (rd x5 (wrap64 (x11 + 1)))) (x6.set (x11 : Int).toNat (rd x6 (wrap64 (x11 + 1)))) x8 x9 (wrap64 (x11 + 1))) else (none)) else (none)) else (none)) else (none)) else (none)) else (none)) else (if 0 ≤ (wrap64 ((x5.length : Int) - 1)) then (if (wrap64 ((x5.length : Int) - 1)) ≤ (x5.length : Int) then (if 0 ≤ (wrap64 ((x6.length : Int) - 1)) then (if (wrap64 ((x6.length : Int) - 1)) ≤ (x6.length : Int) then (tocsinlaw02_CrcTree.l1 k x1 (x5.take ((wrap64 ((x5.length : Int) - 1)) : Int).toNat) (x6.take ((wrap64 ((x6.length : Int) - 1)) : Int).toNat) x8 (wrap64 (x9 + 1))) else (none)) else (none)) else (none)) else (none))
end
def tocsinlaw02_CrcTree.f (k : Nat) (l0 : List (List Int)) (l1 : List Int) : Option (Bool) := (tocsinlaw02_awake.f).bind fun t121 => (if t121 = true then ((tocsinlaw02_Great.f k l0).bind fun t122 => (if t122 = true then (tocsinlaw02_CrcTree.j0 k l0 l1 true) else (tocsinlaw02_CrcTree.j0 k l0 l1 (decide ((l0.length : Int) > 40))))) else (some false))
theorem tocsinlaw02_CrcTree.mono_l : ∀ k, (∀ y0 y1 y2, LeO (tocsinlaw02_CrcTree.j0 k y0 y1 y2) (tocsinlaw02_CrcTree.j0 (k + 1) y0 y1 y2)) ∧ (∀ y0 y1 y2 y3 y4, LeO (tocsinlaw02_CrcTree.l0 k y0 y1 y2 y3 y4) (tocsinlaw02_CrcTree.l0 (k + 1) y0 y1 y2 y3 y4)) ∧ (∀ y0 y1 y2 y3 y4, LeO (tocsinlaw02_CrcTree.l1 k y0 y1 y2 y3 y4) (tocsinlaw02_CrcTree.l1 (k + 1) y0 y1 y2 y3 y4)) ∧ (∀ y0 y1 y2 y3 y4 y5, LeO (tocsinlaw02_CrcTree.j3 k y0 y1 y2 y3 y4 y5) (tocsinlaw02_CrcTree.j3 (k + 1) y0 y1 y2 y3 y4 y5)) ∧ (∀ y0 y1 y2 y3 y4 y5, LeO (tocsinlaw02_CrcTree.l2 k y0 y1 y2 y3 y4 y5) (tocsinlaw02_CrcTree.l2 (k + 1) y0 y1 y2 y3 y4 y5))
  | 0 => ⟨fun _ _ _ r h => by simp [tocsinlaw02_CrcTree.j0] at h, fun _ _ _ _ _ r h => by simp [tocsinlaw02_CrcTree.l0] at h, fun _ _ _ _ _ r h => by simp [tocsinlaw02_CrcTree.l1] at h, fun _ _ _ _ _ _ r h => by simp [tocsinlaw02_CrcTree.j3] at h, fun _ _ _ _ _ _ r h => by simp [tocsinlaw02_CrcTree.l2] at h⟩
  | k + 1 => by
    obtain ⟨ih0, ih1, ih2, ih3, ih4⟩ := tocsinlaw02_CrcTree.mono_l k
    refine ⟨?_, ?_, ?_, ?_, ?_⟩
    · intro y0 y1 y2
      unfold tocsinlaw02_CrcTree.j0
      repeat' first
      | (with_reducible exact ih0 _ _ _)
      | (with_reducible exact ih1 _ _ _ _ _)
      | (with_reducible exact ih2 _ _ _ _ _)
      | (with_reducible exact ih3 _ _ _ _ _ _)
      | (with_reducible exact ih4 _ _ _ _ _ _)
      | (with_reducible exact crc_Join.mono _ _ _ _)
      | (with_reducible exact tocsinlaw02_Great.mono _ _)
      | (with_reducible exact LeO.refl _)
      | (with_reducible exact LeO.none _)
      | (with_reducible refine LeO.ite ?_ ?_)
      | (with_reducible refine LeO.bind ?_ (fun _ => ?_))
      | exact ih0 _ _ _
      | exact ih1 _ _ _ _ _
      | exact ih2 _ _ _ _ _
      | exact ih3 _ _ _ _ _ _
      | exact ih4 _ _ _ _ _ _
      | exact crc_Join.mono _ _ _ _
      | exact tocsinlaw02_Great.mono _ _
      | exact LeO.none _
      | refine LeO.ite ?_ ?_
      | refine LeO.bind ?_ (fun _ => ?_)
    · intro y0 y1 y2 y3 y4
      unfold tocsinlaw02_CrcTree.l0
      repeat' first
      | (with_reducible exact ih0 _ _ _)
      | (with_reducible exact ih1 _ _ _ _ _)
      | (with_reducible exact ih2 _ _ _ _ _)
      | (with_reducible exact ih3 _ _ _ _ _ _)
      | (with_reducible exact ih4 _ _ _ _ _ _)
      | (with_reducible exact crc_Join.mono _ _ _ _)
      | (with_reducible exact tocsinlaw02_Great.mono _ _)
      | (with_reducible exact LeO.refl _)
      | (with_reducible exact LeO.none _)
      | (with_reducible refine LeO.ite ?_ ?_)
      | (with_reducible refine LeO.bind ?_ (fun _ => ?_))
      | exact ih0 _ _ _
      | exact ih1 _ _ _ _ _
      | exact ih2 _ _ _ _ _
      | exact ih3 _ _ _ _ _ _
      | exact ih4 _ _ _ _ _ _
      | exact crc_Join.mono _ _ _ _
      | exact tocsinlaw02_Great.mono _ _
      | exact LeO.none _
      | refine LeO.ite ?_ ?_
      | refine LeO.bind ?_ (fun _ => ?_)
    · intro y0 y1 y2 y3 y4
      unfold tocsinlaw02_CrcTree.l1
      repeat' first
      | (with_reducible exact ih0 _ _ _)
      | (with_reducible exact ih1 _ _ _ _ _)
      | (with_reducible exact ih2 _ _ _ _ _)
      | (with_reducible exact ih3 _ _ _ _ _ _)
      | (with_reducible exact ih4 _ _ _ _ _ _)
      | (with_reducible exact crc_Join.mono _ _ _ _)
      | (with_reducible exact tocsinlaw02_Great.mono _ _)
      | (with_reducible exact LeO.refl _)
      | (with_reducible exact LeO.none _)
      | (with_reducible refine LeO.ite ?_ ?_)
      | (with_reducible refine LeO.bind ?_ (fun _ => ?_))
      | exact ih0 _ _ _
      | exact ih1 _ _ _ _ _
      | exact ih2 _ _ _ _ _
      | exact ih3 _ _ _ _ _ _
      | exact ih4 _ _ _ _ _ _
      | exact crc_Join.mono _ _ _ _
      | exact tocsinlaw02_Great.mono _ _
      | exact LeO.none _
      | refine LeO.ite ?_ ?_
      | refine LeO.bind ?_ (fun _ => ?_)
    · intro y0 y1 y2 y3 y4 y5
      unfold tocsinlaw02_CrcTree.j3
      repeat' first
      | (with_reducible exact ih0 _ _ _)
      | (with_reducible exact ih1 _ _ _ _ _)
      | (with_reducible exact ih2 _ _ _ _ _)
      | (with_reducible exact ih3 _ _ _ _ _ _)
      | (with_reducible exact ih4 _ _ _ _ _ _)
      | (with_reducible exact crc_Join.mono _ _ _ _)
      | (with_reducible exact tocsinlaw02_Great.mono _ _)
      | (with_reducible exact LeO.refl _)
      | (with_reducible exact LeO.none _)
      | (with_reducible refine LeO.ite ?_ ?_)
      | (with_reducible refine LeO.bind ?_ (fun _ => ?_))
      | exact ih0 _ _ _
      | exact ih1 _ _ _ _ _
      | exact ih2 _ _ _ _ _
      | exact ih3 _ _ _ _ _ _
      | exact ih4 _ _ _ _ _ _
      | exact crc_Join.mono _ _ _ _
      | exact tocsinlaw02_Great.mono _ _
      | exact LeO.none _
      | refine LeO.ite ?_ ?_
      | refine LeO.bind ?_ (fun _ => ?_)
    · intro y0 y1 y2 y3 y4 y5
      unfold tocsinlaw02_CrcTree.l2
      repeat' first
      | (with_reducible exact ih0 _ _ _)
      | (with_reducible exact ih1 _ _ _ _ _)
      | (with_reducible exact ih2 _ _ _ _ _)
      | (with_reducible exact ih3 _ _ _ _ _ _)
      | (with_reducible exact ih4 _ _ _ _ _ _)
      | (with_reducible exact crc_Join.mono _ _ _ _)
      | (with_reducible exact tocsinlaw02_Great.mono _ _)
      | (with_reducible exact LeO.refl _)
      | (with_reducible exact LeO.none _)
      | (with_reducible refine LeO.ite ?_ ?_)
      | (with_reducible refine LeO.bind ?_ (fun _ => ?_))
      | exact ih0 _ _ _
      | exact ih1 _ _ _ _ _
      | exact ih2 _ _ _ _ _
      | exact ih3 _ _ _ _ _ _
      | exact ih4 _ _ _ _ _ _
      | exact crc_Join.mono _ _ _ _
      | exact tocsinlaw02_Great.mono _ _
      | exact LeO.none _
      | refine LeO.ite ?_ ?_
      | refine LeO.bind ?_ (fun _ => ?_)
theorem tocsinlaw02_CrcTree.mono : ∀ a0 a1 k, LeO (tocsinlaw02_CrcTree.f k a0 a1) (tocsinlaw02_CrcTree.f (k + 1) a0 a1) := by
  intro a0 a1 k
  obtain ⟨ih0, ih1, ih2, ih3, ih4⟩ := tocsinlaw02_CrcTree.mono_l k
  unfold tocsinlaw02_CrcTree.f
  repeat' first
      | (with_reducible exact ih0 _ _ _)
      | (with_reducible exact ih1 _ _ _ _ _)
      | (with_reducible exact ih2 _ _ _ _ _)
      | (with_reducible exact ih3 _ _ _ _ _ _)
      | (with_reducible exact ih4 _ _ _ _ _ _)
      | (with_reducible exact crc_Join.mono _ _ _ _)
      | (with_reducible exact tocsinlaw02_Great.mono _ _)
      | (with_reducible exact LeO.refl _)
      | (with_reducible exact LeO.none _)
      | (with_reducible refine LeO.ite ?_ ?_)
      | (with_reducible refine LeO.bind ?_ (fun _ => ?_))
      | exact ih0 _ _ _
      | exact ih1 _ _ _ _ _
      | exact ih2 _ _ _ _ _
      | exact ih3 _ _ _ _ _ _
      | exact ih4 _ _ _ _ _ _
      | exact crc_Join.mono _ _ _ _
      | exact tocsinlaw02_Great.mono _ _
      | exact LeO.none _
      | refine LeO.ite ?_ ?_
      | refine LeO.bind ?_ (fun _ => ?_)
def tocsinlaw02_CrcTree.T19 : Bool × List (List Nat × List Nat) := (true, [([], []), ([], []), ([], []), ([], []), ([2, 3], [2, 3]), ([4], [4]), ([], []), ([], []), ([7], [7]), ([6, 8], [6, 8]), ([9], [9]), ([], []), ([], []), ([12], [12]), ([11, 13], [11, 13]), ([14], [14]), ([5, 10, 15], [5, 10, 15]), ([0, 1, 0, 1, 2, 3, 4, 5, 6, 7, 8, 9, 10, 11, 12, 13, 14, 15, 16], [0, 1]), ([17, 16, 16, 0, 1, 2, 3, 4, 5, 6, 7, 8, 9, 10, 11, 12, 13, 14, 15, 16], [16, 17])])
def tocsinlaw02_CrcTree.B19 : List Nat := [0, 0, 0, 0, 12, 28, 0, 0, 128, 448, 960, 0, 0, 4096, 14336, 30720, 65532, 131071, 262143]
theorem tocsinlaw02_CrcTree.tab19 : rtab .any (opsOf Try.f5 19) = tocsinlaw02_CrcTree.T19 := by kernel_rfl
theorem tocsinlaw02_CrcTree.bits19 : waitsOk tocsinlaw02_CrcTree.T19.2 tocsinlaw02_CrcTree.B19 = true := by kernel_rfl
def tocsinlaw02_CrcTree.T20 : Bool × List (List Nat × List Nat) := (true, [([], []), ([], []), ([], []), ([], []), ([2, 3], [2, 3]), ([4], [4]), ([], []), ([], []), ([7], [7]), ([6, 8], [6, 8]), ([9], [9]), ([5, 10], [5, 10]), ([0, 1, 0, 1, 2, 3, 4, 5, 6, 7, 8, 9, 10, 11], [0, 1]), ([12, 11, 0, 1, 2, 3, 4, 5, 6, 7, 8, 9, 10, 11], [11, 12])])
def tocsinlaw02_CrcTree.B20 : List Nat := [0, 0, 0, 0, 12, 28, 0, 0, 128, 448, 960, 2044, 4095, 8191]
theorem tocsinlaw02_CrcTree.tab20 : rtab .any (opsOf Try.f5 20) = tocsinlaw02_CrcTree.T20 := by kernel_rfl
theorem tocsinlaw02_CrcTree.bits20 : waitsOk tocsinlaw02_CrcTree.T20.2 tocsinlaw02_CrcTree.B20 = true := by kernel_rfl
set_option maxHeartbeats 8000000 in
set_option maxRecDepth 100000 in
theorem tocsinlaw02_CrcTree.calls (k : Nat) (A0 : Option Addr) (c0 : Nat) (l0 : List (List Int)) (A1 : Option Addr) (c1 : Nat) (l1 : List Int) (r : Bool) (w : World) (hr0 : Kd.C (Kd.slice 5 (Kd.int .u8)) w A0 l0.length l0) (hc0 : l0.length ≤ c0) (hr1 : Kd.C (Kd.int .u8) w A1 l1.length l1) (hc1 : l1.length ≤ c1) (h : tocsinlaw02_CrcTree.f k l0 l1 = some r) :
    Calls Try.prog 5 #[.slice A0 l0.length c0, .slice A1 l1.length c1] w fun e w' => e = .returned (.bool r) ∧ Below w.heap.size w w' := by
  have HR0 := Aside0.mk hr0
  have HC0 := Aside0.mk hc0
  clear hr0 hc0
  have HR1 := Aside0.mk hr1
  have HC1 := Aside0.mk hc1
  clear hr1 hc1
  have HB := Aside0.mk (Below.refl w.heap.size w)
  have H : ((tocsinlaw02_awake.f).bind fun t121 => (if t121 = true then ((tocsinlaw02_Great.f k l0).bind fun t122 => (if t122 = true then (tocsinlaw02_CrcTree.j0 k l0 l1 true) else (tocsinlaw02_CrcTree.j0 k l0 l1 (decide ((l0.length : Int) > 40))))) else (some false))) = some r := h
  clear h
  replace H := Option.bind_eq_some_iff.mp H
  obtain ⟨t121, A30, H⟩ := H
  replace H : (if t121 = true then ((tocsinlaw02_Great.f k l0).bind fun t122 => (if t122 = true then (tocsinlaw02_CrcTree.j0 k l0 l1 true) else (tocsinlaw02_CrcTree.j0 k l0 l1 (decide ((l0.length : Int) > 40))))) else (some false)) = some r := H
  have A3 := Aside0.mk A30
  clear A30
  by_cases c4 : t121 = true
  · subst c4
    have H1 : ((tocsinlaw02_Great.f k l0).bind fun t122 => (if t122 = true then (tocsinlaw02_CrcTree.j0 k l0 l1 true) else (tocsinlaw02_CrcTree.j0 k l0 l1 (decide ((l0.length : Int) > 40))))) = some r := by rw [if_pos rfl] at H; exact H
    clear H
    have H := H1
    clear H1
    have HC5 := Aside0.mk H
    clear H
    go_enter Try.func5, Try.ntmps5
    go_upto_region 3 with (first | ((with_reducible refine gate_callee (f := 17) rfl ?_); refine goesL_ (some 12) rfl rfl Try.func17 (by kernel_rfl) rfl #[] rfl (by (try simp only [List.map_toArray, List.map_cons, List.map_nil]); first | done | rfl | (simp only [List.length_drop, List.length_take]; rfl)) ?_; (with_reducible refine (tocsinlaw02_awake.calls  true _ A3.out).mono ?_); rintro e w6 ⟨rfl, hb⟩; refine ⟨_, rfl, ?_⟩; have n0_ := Aside0.mk (below_step (by repeat (first | (with_reducible first | exact HB.out | apply below_alloc | apply pw_below_drewN | apply below_drew1) | exact HB.out)) hb); clear HB; have HB := n0_; clear n0_; (try clear hb); (try clear hb2); (try clear hk); (try clear hi)))
    (try simp only [Act.put, List.setIfInBounds_toArray, List.set_cons_zero, List.set_cons_succ])
    go_cut [20] (fun v20 wc => ∃ (kq : Nat) (x20_4 : Bool), v20 = .bool x20_4 ∧ Aside0 (tocsinlaw02_CrcTree.j0 kq l0 l1 x20_4 = some r) ∧ Aside0 (kq ≤ k) ∧ Aside0 (Below w.heap.size w wc))
    case first =>
      have H := HC5.out
      clear HC5
      replace H := Option.bind_eq_some_iff.mp H
      obtain ⟨t122, A70, H⟩ := H
      replace H : (if t122 = true then (tocsinlaw02_CrcTree.j0 k l0 l1 true) else (tocsinlaw02_CrcTree.j0 k l0 l1 (decide ((l0.length : Int) > 40)))) = some r := H
      have A7 := Aside0.mk A70
      clear A70
      by_cases c8 : t122 = true
      · subst c8
        have H1 : (tocsinlaw02_CrcTree.j0 k l0 l1 true) = some r := by rw [if_pos rfl] at H; exact H
        clear H
        have H := H1
        clear H1
        have H' := Aside0.mk H
        clear H
        go_wp2_with (first | ((with_reducible refine gate_callee (f := 10) rfl ?_); refine goesL_ (some 15) rfl rfl Try.func10 (by kernel_rfl) rfl #[.slice A0 l0.length c0] rfl (by (try simp only [List.map_toArray, List.map_cons, List.map_nil]); first | done | rfl | (simp only [List.length_drop, List.length_take]; rfl)) ?_; (with_reducible refine (tocsinlaw02_Great.calls k _ _ l0 true _ ?side1 ?side2 A7.out).mono ?_); (case side1 => repeat (first | exact (Kd.C_below HR0.out HB.out) | (with_reducible refine Kd.C_alloc ?_ _) | (with_reducible refine Kd.C_drewN ?_ _) | (with_reducible refine Kd.C_drew ?_))); (case side2 => exact HC0.out); rintro e w' ⟨rfl, ⟨nd, rfl⟩⟩; refine ⟨_, rfl, ?_⟩))
        go_meet
        case rel => exact ⟨_, (true), (by first | rfl | (simp; done) | (simp [*]; done)), H', ⟨by first | omega | exact Nat.le_refl _⟩, ⟨by repeat (first | (with_reducible first | exact HB.out | apply below_alloc | apply pw_below_drewN | apply below_drew1) | exact HB.out)⟩⟩
      · replace c8 := Bool.eq_false_iff.mpr c8
        subst c8
        have H1 : (tocsinlaw02_CrcTree.j0 k l0 l1 (decide ((l0.length : Int) > 40))) = some r := by rw [if_neg (show ¬ (false = true) by decide)] at H; exact H
        clear H
        have H := H1
        clear H1
        have H' := Aside0.mk H
        clear H
        go_wp2_with (first | ((with_reducible refine gate_callee (f := 10) rfl ?_); refine goesL_ (some 15) rfl rfl Try.func10 (by kernel_rfl) rfl #[.slice A0 l0.length c0] rfl (by (try simp only [List.map_toArray, List.map_cons, List.map_nil]); first | done | rfl | (simp only [List.length_drop, List.length_take]; rfl)) ?_; (with_reducible refine (tocsinlaw02_Great.calls k _ _ l0 false _ ?side1 ?side2 A7.out).mono ?_); (case side1 => repeat (first | exact (Kd.C_below HR0.out HB.out) | (with_reducible refine Kd.C_alloc ?_ _) | (with_reducible refine Kd.C_drewN ?_ _) | (with_reducible refine Kd.C_drew ?_))); (case side2 => exact HC0.out); rintro e w' ⟨rfl, ⟨nd, rfl⟩⟩; refine ⟨_, rfl, ?_⟩))
        go_meet
        case rel => exact ⟨_, (decide ((l0.length : Int) > 40)), (by first | rfl | (simp; done) | (simp [*]; done)), H', ⟨by first | omega | exact Nat.le_refl _⟩, ⟨by repeat (first | (with_reducible first | exact HB.out | apply below_alloc | apply pw_below_drewN | apply below_drew1) | exact HB.out)⟩⟩
    case rest =>
      clear HC5
      try clear c1
      try clear p2
      try clear c4
      try clear c5
      try clear c8
      obtain ⟨kq, x20_4, rfl, HA, HJ4, HB⟩ := hcut
      cases kq with
      | zero => exact absurd HA.out (by simp [tocsinlaw02_CrcTree.j0])
      | succ kj4 =>
        have H := HA.out
        clear HA
        simp only [tocsinlaw02_CrcTree.j0] at H
        by_cases c9 : x20_4 = true
        · subst c9
          have H1 : (some true) = some r := by rw [if_pos rfl] at H; exact H
          clear H
          have H := H1
          clear H1
          obtain rfl := Option.some.inj H
          go_wp2
          go_ret
          exact ⟨by first | rfl | (simp [errW_none, errW_some] <;> rfl) | (simp [*, errW_none, errW_some] <;> rfl), by repeat (first | (with_reducible first | exact HB.out | apply below_alloc | apply pw_below_drewN | apply below_drew1) | exact HB.out)⟩
        · replace c9 := Bool.eq_false_iff.mpr c9
          subst c9
          have H1 : (if 0 ≤ (l0.length : Int) then (if ((l0.length : Int) : Int).toNat ≤ 70368744177664 then (if ((l0.length : Int) : Int).toNat ≤ 35184372088832 then (tocsinlaw02_CrcTree.l0 kj4 l0 l1 (List.replicate ((l0.length : Int) : Int).toNat 0) (List.replicate ((l0.length : Int) : Int).toNat 0) 0) else (none)) else (none)) else (none)) = some r := by rw [if_neg (show ¬ (false = true) by decide)] at H; exact H
          clear H
          have H := H1
          clear H1
          by_cases c10 : 0 ≤ (l0.length : Int)
          · rw [if_pos c10] at H
            have c10b0 := eq_true c10
            have c10b1 : decide (0 ≤ (l0.length : Int)) = true := decide_eq_true c10
            clear c10
            by_cases c11 : ((l0.length : Int) : Int).toNat ≤ 70368744177664
            · rw [if_pos c11] at H
              have c11b0 := eq_true c11
              have c11b1 : decide (((l0.length : Int) : Int).toNat ≤ 70368744177664) = true := decide_eq_true c11
              clear c11
              obtain ⟨y123, hy123⟩ : ∃ y_ : List Int, y_ = (List.replicate ((l0.length : Int) : Int).toNat 0) := ⟨_, rfl⟩
              replace H : (if ((l0.length : Int) : Int).toNat ≤ 35184372088832 then (tocsinlaw02_CrcTree.l0 kj4 l0 l1 y123 (List.replicate ((l0.length : Int) : Int).toNat 0) 0) else (none)) = some r := by first | (rw [hy123]; with_reducible exact H) | (have H2_ := (Option.bind_some _ _).symm.trans H; rw [hy123]; with_reducible exact H2_) | (have H2_ := (Option.bind_some _ _).symm.trans H; with_reducible exact H2_) | with_reducible exact H | (rw [hy123]; exact H) | exact H
              have Ny123 := Aside0.mk hy123
              clear hy123
              by_cases c12 : ((l0.length : Int) : Int).toNat ≤ 35184372088832
              · rw [if_pos c12] at H
                have c12b0 := eq_true c12
                have c12b1 : decide (((l0.length : Int) : Int).toNat ≤ 35184372088832) = true := decide_eq_true c12
                clear c12
                obtain ⟨y126, hy126⟩ : ∃ y_ : List Int, y_ = (List.replicate ((l0.length : Int) : Int).toNat 0) := ⟨_, rfl⟩
                replace H : (tocsinlaw02_CrcTree.l0 kj4 l0 l1 y123 y126 0) = some r := by first | (rw [hy126]; with_reducible exact H) | (have H2_ := (Option.bind_some _ _).symm.trans H; rw [hy126]; with_reducible exact H2_) | (have H2_ := (Option.bind_some _ _).symm.trans H; with_reducible exact H2_) | with_reducible exact H | (rw [hy126]; exact H) | exact H
                have Ny126 := Aside0.mk hy126
                clear hy126
                have H' := Aside0.mk H
                clear H
                go_wp2_with (first | ((with_reducible refine gate_dst (N := 23) rfl ?_); (try (refine gate_guard (by rfl) ?_; dsimp only)); refine Kd.R_make (Kd.int .u32) _ 26 rfl (N := 23) rfl 32 _ _ rfl (l0.length : Int) rfl rfl Try.underlying32 (.int .u32 0) 4 info26 rfl (by decide) (by omega) 0 (ok := fun _ => True) (okp := fun _ => True) rfl (fun _ hk => hk) trivial (of_decide_eq_true (by first | (with_reducible assumption) | assumption)) (Nat.le_trans (Nat.mul_le_mul_right _ (of_decide_eq_true (by first | (with_reducible assumption) | assumption) : (l0.length : Int).toNat ≤ 70368744177664)) (by omega)) (Below.refl _ _) (Nat.le_refl _) ?_; intro v124 w13 ho14 hb hg_ hnew_; clear hg_ hnew_; (first | rw [← Ny123.out] at ho14 | (simp only [Int.reduceToNat] at ho14; rw [← Ny123.out] at ho14)); have n0_ := Aside0.mk (Kd.R_lower ho14 (below_size (by repeat (first | (with_reducible first | exact HB.out | apply below_alloc | apply pw_below_drewN | apply below_drew1) | exact HB.out)))); have n1_ := Aside0.mk (below_step (by repeat (first | (with_reducible first | exact HB.out | apply below_alloc | apply pw_below_drewN | apply below_drew1) | exact HB.out)) hb); clear HB; have HO125 := n0_; have HB := n1_; clear n0_ n1_; clear hb ho14) | ((with_reducible refine gate_dst (N := 26) rfl ?_); (try (refine gate_guard (by rfl) ?_; dsimp only)); refine Kd.R_make (Kd.int .i64) _ 3 rfl (N := 26) rfl 33 _ _ rfl (l0.length : Int) rfl rfl Try.underlying33 (.int .i64 0) 8 info3 rfl (by decide) (by omega) 0 (ok := fun _ => True) (okp := fun _ => True) rfl (fun _ hk => hk) trivial (of_decide_eq_true (by first | (with_reducible assumption) | assumption)) (Nat.le_trans (Nat.mul_le_mul_right _ (of_decide_eq_true (by first | (with_reducible assumption) | assumption) : (l0.length : Int).toNat ≤ 35184372088832)) (by omega)) (Below.refl _ _) (Nat.le_refl _) ?_; intro v127 w15 ho16 hb hg_ hnew_; clear hg_ hnew_; (first | rw [← Ny126.out] at ho16 | (simp only [Int.reduceToNat] at ho16; rw [← Ny126.out] at ho16)); have n0_ := Aside0.mk (Kd.R_below (by (with_reducible repeat (first | apply Kd.R_alloc | apply Kd.R_drewN | apply Kd.R_drew)); exact HO125.out) hb); have n1_ := Aside0.mk (Kd.R_lower ho16 (below_size (by repeat (first | (with_reducible first | exact HB.out | apply below_alloc | apply pw_below_drewN | apply below_drew1) | exact HB.out)))); have n2_ := Aside0.mk (below_step (by repeat (first | (with_reducible first | exact HB.out | apply below_alloc | apply pw_below_drewN | apply below_drew1) | exact HB.out)) hb); clear HO125; clear HB; have HO125 := n0_; have HO128 := n1_; have HB := n2_; clear n0_ n1_ n2_; clear hb ho16))
                go_loopg [7] kj4 (fun kq v7 w' => ∃ (x5_2 : List Int) (x6_2 : List Int) (x7_2 : Int), v7 = .int .i64 x7_2 ∧ Aside0 (tocsinlaw02_CrcTree.l0 kq l0 l1 x5_2 x6_2 x7_2 = some r) ∧ Aside0 (kq ≤ kj4) ∧ Aside0 (Kd.R (Kd.int .u32) 26 w' w.heap.size (fun _ => True) v124 x5_2) ∧ Aside0 (Kd.R (Kd.int .i64) 3 w' w.heap.size (fun _ => True) v127 x6_2) ∧ Aside0 (Below w.heap.size w w'))
                case atStart => exact ⟨(y123), (y126), (0), (by first | rfl | (simp; done) | (simp [*]; done)), H', ⟨Nat.le_refl _⟩, ⟨by (with_reducible repeat (first | apply Kd.R_alloc | apply Kd.R_drewN | apply Kd.R_drew)); exact HO125.out⟩, ⟨by (with_reducible repeat (first | apply Kd.R_alloc | apply Kd.R_drewN | apply Kd.R_drew)); exact HO128.out⟩, ⟨by repeat (first | (with_reducible first | exact HB.out | apply below_alloc | apply pw_below_drewN | apply below_drew1) | exact HB.out)⟩⟩
                case round =>
                  clear H'
                  try clear c1
                  try clear p2
                  try clear c4
                  try clear c5
                  try clear c8
                  try clear c9
                  try clear c10
                  try clear c10b0
                  try clear c10b1
                  try clear c11
                  try clear c11b0
                  try clear c11b1
                  try clear c12
                  try clear c12b0
                  try clear c12b1
                  try clear p2
                  obtain ⟨x5_2, x6_2, x7_2, rfl, HA, HK2, HO_5, HO_6, HB⟩ := hrel
                  cases gk with
                  | zero => exact absurd HA.out (by simp [tocsinlaw02_CrcTree.l0])
                  | succ k2 =>
                    have H := HA.out
                    clear HA
                    simp only [tocsinlaw02_CrcTree.l0] at H
                    by_cases c17 : x7_2 < (l0.length : Int)
                    · rw [if_pos c17] at H
                      have c17b0 : decide (x7_2 < (l0.length : Int)) = true := decide_eq_true c17
                      clear c17
                      by_cases c18 : 0 ≤ x7_2
                      · rw [if_pos c18] at H
                        have c18b0 : decide (0 ≤ x7_2) = true := decide_eq_true c18
                        clear c18
                        replace H := Option.bind_eq_some_iff.mp H
                        obtain ⟨t130, A190, H⟩ := H
                        replace H : (if x7_2 < (x5_2.length : Int) then (if x7_2 < (x6_2.length : Int) then (tocsinlaw02_CrcTree.l0 k2 l0 l1 (x5_2.set (x7_2 : Int).toNat t130) (x6_2.set (x7_2 : Int).toNat ((rd_L1 l0 x7_2).length : Int)) (wrap64 (x7_2 + 1))) else (none)) else (none)) = some r := H
                        have A19 := Aside0.mk A190
                        clear A190
                        by_cases c20 : x7_2 < (x5_2.length : Int)
                        · rw [if_pos c20] at H
                          have c20b0 : decide (x7_2 < (x5_2.length : Int)) = true := decide_eq_true c20
                          clear c20
                          obtain ⟨y131, hy131⟩ : ∃ y_ : List Int, y_ = (x5_2.set (x7_2 : Int).toNat t130) := ⟨_, rfl⟩
                          replace H : (if x7_2 < (x6_2.length : Int) then (tocsinlaw02_CrcTree.l0 k2 l0 l1 y131 (x6_2.set (x7_2 : Int).toNat ((rd_L1 l0 x7_2).length : Int)) (wrap64 (x7_2 + 1))) else (none)) = some r := by first | (rw [hy131]; with_reducible exact H) | (have H2_ := (Option.bind_some _ _).symm.trans H; rw [hy131]; with_reducible exact H2_) | (have H2_ := (Option.bind_some _ _).symm.trans H; with_reducible exact H2_) | with_reducible exact H | (rw [hy131]; exact H) | exact H
                          have Ny131 := Aside0.mk hy131
                          clear hy131
                          by_cases c22 : x7_2 < (x6_2.length : Int)
                          · rw [if_pos c22] at H
                            have c22b0 : decide (x7_2 < (x6_2.length : Int)) = true := decide_eq_true c22
                            clear c22
                            obtain ⟨y133, hy133⟩ : ∃ y_ : List Int, y_ = (x6_2.set (x7_2 : Int).toNat ((rd_L1 l0 x7_2).length : Int)) := ⟨_, rfl⟩
                            replace H : (tocsinlaw02_CrcTree.l0 k2 l0 l1 y131 y133 (wrap64 (x7_2 + 1))) = some r := by first | (rw [hy133]; with_reducible exact H) | (have H2_ := (Option.bind_some _ _).symm.trans H; rw [hy133]; with_reducible exact H2_) | (have H2_ := (Option.bind_some _ _).symm.trans H; with_reducible exact H2_) | with_reducible exact H | (rw [hy133]; exact H) | exact H
                            have Ny133 := Aside0.mk hy133
                            clear hy133
                            have H' := Aside0.mk H
                            clear H
                            have p129 : 0 ≤ (x7_2 : Int) := of_decide_eq_true (by first | (with_reducible assumption) | assumption)
                            have q129 : x7_2 < (l0.length : Int) := of_decide_eq_true (by first | (with_reducible assumption) | assumption)
                            obtain ⟨ad129, A129_0, c129_0, e129, hx129_0, hl129_0, hi129_0⟩ := at_L1 HR0.out x7_2 p129 q129
                            cases e129
                            replace hx129_0 := (HB.out.cell (World.block_lt_of_cell? w _ hx129_0)).trans hx129_0
                            have HR129_0 := Aside0.mk hi129_0
                            have HC129_0 := Aside0.mk hl129_0
                            clear hi129_0 hl129_0
                            replace p129 := eq_true p129
                            replace q129 := eq_true q129
                            go_wp2_with (first | ((with_reducible refine gate_callee (f := 14) rfl ?_); refine goesL_ (some 39) rfl rfl Try.func14 (by kernel_rfl) rfl #[.slice A129_0 (rd_L1 l0 x7_2).length c129_0] rfl (by (try simp only [List.map_toArray, List.map_cons, List.map_nil]); first | done | rfl | (simp only [List.length_drop, List.length_take]; rfl)) ?_; (with_reducible refine (crc_Sum.calls _ _ (rd_L1 l0 x7_2) t130 _ ?side1 ?side2 A19.out).mono ?_); (case side1 => repeat (first | exact (Kd.C_below HR129_0.out HB.out) | (with_reducible refine Kd.C_alloc ?_ _) | (with_reducible refine Kd.C_drewN ?_ _) | (with_reducible refine Kd.C_drew ?_))); (case side2 => exact HC129_0.out); rintro e w24 ⟨rfl, hb⟩; refine ⟨_, rfl, ?_⟩; have n0_ := Aside0.mk (Kd.R_below (by (with_reducible repeat (first | apply Kd.R_alloc | apply Kd.R_drewN | apply Kd.R_drew)); exact HO_5.out) hb); have n1_ := Aside0.mk (Kd.R_below (by (with_reducible repeat (first | apply Kd.R_alloc | apply Kd.R_drewN | apply Kd.R_drew)); exact HO_6.out) hb); have n2_ := Aside0.mk (below_step (by repeat (first | (with_reducible first | exact HB.out | apply below_alloc | apply pw_below_drewN | apply below_drew1) | exact HB.out)) hb); clear HO_5; clear HO_6; clear HB; have HO_5 := n0_; have HO_6 := n1_; have HB := n2_; clear n0_ n1_ n2_; (try clear hb); (try clear hb2); (try clear hk); (try clear hi); have p21 : 0 ≤ (x7_2 : Int) := of_decide_eq_true (by first | (with_reducible assumption) | assumption); have q21 : (x7_2 : Int) < ((x5_2.length : Int) : Int) := of_decide_eq_true (by first | (with_reducible assumption) | assumption); obtain ⟨go21, co21, eo21, gb21, gl21, cl21, HG21⟩ := Kd.R_form HO_5.out (by omega); (first | cases eo21 | (injection eo21 with ea_ en_ ec_; (first | subst ea_ | (injection ea_ with ea_; subst ea_)); subst ec_; clear en_)); have GB21 := Aside0.mk gb21; have GG21 := Aside0.mk HG21; clear gb21 gl21 HG21; obtain ⟨hx21_0, hf21_0⟩ := Kd.R_celln 0 HO_5.out (x7_2 : Int) p21 q21; replace p21 := eq_true p21; replace q21 := eq_true q21; obtain ⟨hy25_, hz25_⟩ := Kd.R_celln 0 HO_5.out (x7_2 : Int) (of_decide_eq_true (by first | (with_reducible assumption) | assumption)) (of_decide_eq_true (by first | (with_reducible assumption) | assumption)); have HP25 := Kd.R_putg HO_5.out (x7_2 : Int) t130) | ((with_reducible refine gate_store (t := 26) (p := 40) rfl ?_); refine store_event (t := 26) (p := 40) (v := ?vo_w26) (w1 := (w24.setCell ⟨go21, (x7_2 : Int).toNat, none⟩ (.int .u32 t130))) ?hg ?ho ?hn ?hr ?_; (case ho => rfl); (case hg => rfl); (case hn => rfl); (case hr => first | (go_simp; done) | (go_simp; rfl)); intro w26 hw; have hg : w24.grownBy w26 (some go21) := (by rw [hw]; exact HP25.2); have hp_ : Kd.R (Kd.int .u32) 26 w26 w.heap.size (fun _ => True) (.slice (some ⟨go21, 0, none⟩) x5_2.length co21) y131 := (by rw [hw, Ny131.out]; exact HP25.1); clear HP25; have n0_ := Aside0.mk (hp_); have n1_ := Aside0.mk (Kd.R_over' (v := (.slice (some ⟨go21, 0, none⟩) x5_2.length co21)) (by (with_reducible repeat (first | apply Kd.R_alloc | apply Kd.R_drewN | apply Kd.R_drew)); exact HO_6.out) (Kd.R_typed HO_5.out) (by decide) hg); have n2_ := Aside0.mk ((by rw [hw]; exact below_set (HB.out) GB21.out : Below w.heap.size w w26)); clear HO_5; clear HO_6; clear HB; have HO_5 := n0_; have HO_6 := n1_; have HB := n2_; clear n0_ n1_ n2_; clear hg hw hp_; have p132 : 0 ≤ (x7_2 : Int) := of_decide_eq_true (by first | (with_reducible assumption) | assumption); have q132 : x7_2 < (l0.length : Int) := of_decide_eq_true (by first | (with_reducible assumption) | assumption); obtain ⟨ad132, A132_0, c132_0, e132, hx132_0, hl132_0, hi132_0⟩ := at_L1 HR0.out x7_2 p132 q132; obtain rfl : ad129 = ad132 := (by injection e132); replace hx132_0 := (HB.out.cell (World.block_lt_of_cell? w _ hx132_0)).trans hx132_0; have HR132_0 := Aside0.mk hi132_0; have HC132_0 := Aside0.mk hl132_0; clear hi132_0 hl132_0; replace p132 := eq_true p132; replace q132 := eq_true q132; have p23 : 0 ≤ (x7_2 : Int) := of_decide_eq_true (by first | (with_reducible assumption) | assumption); have q23 : (x7_2 : Int) < ((x6_2.length : Int) : Int) := of_decide_eq_true (by first | (with_reducible assumption) | assumption); obtain ⟨go23, co23, eo23, gb23, gl23, cl23, HG23⟩ := Kd.R_form HO_6.out (by omega); (first | cases eo23 | (injection eo23 with ea_ en_ ec_; (first | subst ea_ | (injection ea_ with ea_; subst ea_)); subst ec_; clear en_)); have GB23 := Aside0.mk gb23; have GG23 := Aside0.mk HG23; clear gb23 gl23 HG23; obtain ⟨hx23_0, hf23_0⟩ := Kd.R_celln 0 HO_6.out (x7_2 : Int) p23 q23; replace p23 := eq_true p23; replace q23 := eq_true q23; obtain ⟨hy27_, hz27_⟩ := Kd.R_celln 0 HO_6.out (x7_2 : Int) (of_decide_eq_true (by first | (with_reducible assumption) | assumption)) (of_decide_eq_true (by first | (with_reducible assumption) | assumption)); have HP27 := Kd.R_putg HO_6.out (x7_2 : Int) ((rd_L1 l0 x7_2).length : Int)) | ((with_reducible refine gate_store (t := 3) (p := 48) rfl ?_); refine store_event (t := 3) (p := 48) (v := ?vo_w28) (w1 := (w26.setCell ⟨go23, (x7_2 : Int).toNat, none⟩ (.int .i64 ((rd_L1 l0 x7_2).length : Int)))) ?hg ?ho ?hn ?hr ?_; (case ho => rfl); (case hg => rfl); (case hn => rfl); (case hr => first | (go_simp; done) | (go_simp; rfl)); intro w28 hw; have hg : w26.grownBy w28 (some go23) := (by rw [hw]; exact HP27.2); have hp_ : Kd.R (Kd.int .i64) 3 w28 w.heap.size (fun _ => True) (.slice (some ⟨go23, 0, none⟩) x6_2.length co23) y133 := (by rw [hw, Ny133.out]; exact HP27.1); clear HP27; have n0_ := Aside0.mk (Kd.R_over' (v := (.slice (some ⟨go23, 0, none⟩) x6_2.length co23)) (by (with_reducible repeat (first | apply Kd.R_alloc | apply Kd.R_drewN | apply Kd.R_drew)); exact HO_5.out) (Kd.R_typed HO_6.out) (by decide) hg); have n1_ := Aside0.mk (hp_); have n2_ := Aside0.mk ((by rw [hw]; exact below_set (HB.out) GB23.out : Below w.heap.size w w28)); clear HO_5; clear HO_6; clear HB; have HO_5 := n0_; have HO_6 := n1_; have HB := n2_; clear n0_ n1_ n2_; clear hg hw hp_))
                            go_roundg k2
                            case measure => have := HJ4.out; have := HK2.out; omega
                            case rel => exact ⟨(y131), (y133), (wrap64 (x7_2 + 1)), (by first | rfl | (simp; done) | (simp [*]; done)), H', ⟨by have := HJ4.out; have := HK2.out; omega⟩, ⟨by (with_reducible repeat (first | apply Kd.R_alloc | apply Kd.R_drewN | apply Kd.R_drew)); exact HO_5.out⟩, ⟨by (with_reducible repeat (first | apply Kd.R_alloc | apply Kd.R_drewN | apply Kd.R_drew)); exact HO_6.out⟩, ⟨by repeat (first | (with_reducible first | exact HB.out | apply below_alloc | apply pw_below_drewN | apply below_drew1) | exact HB.out)⟩⟩
                          · rw [if_neg c22] at H
                            exact absurd H (by simp)
                        · rw [if_neg c20] at H
                          exact absurd H (by simp)
                      · rw [if_neg c18] at H
                        exact absurd H (by simp)
                    · rw [if_neg c17] at H
                      have c17b0 : decide (x7_2 < (l0.length : Int)) = false := decide_eq_false c17
                      clear c17
                      replace H := Option.bind_eq_some_iff.mp H
                      obtain ⟨t134, A290, H⟩ := H
                      replace H : (tocsinlaw02_CrcTree.l1 k2 l1 x5_2 x6_2 t134 0) = some r := H
                      have A29 := Aside0.mk A290
                      clear A290
                      have H' := Aside0.mk H
                      clear H
                      go_wp2_with (first | ((with_reducible refine gate_callee (f := 13) rfl ?_); refine goesL_ (some 50) rfl rfl Try.func13 (by kernel_rfl) rfl #[.slice A0 l0.length c0] rfl (by (try simp only [List.map_toArray, List.map_cons, List.map_nil]); first | done | rfl | (simp only [List.length_drop, List.length_take]; rfl)) ?_; (with_reducible refine (crc_Of.calls _ _ l0 t134 _ ?side1 ?side2 A29.out).mono ?_); (case side1 => repeat (first | exact (Kd.C_below HR0.out HB.out) | (with_reducible refine Kd.C_alloc ?_ _) | (with_reducible refine Kd.C_drewN ?_ _) | (with_reducible refine Kd.C_drew ?_))); (case side2 => exact HC0.out); rintro e w30 ⟨rfl, hb⟩; refine ⟨_, rfl, ?_⟩; have n0_ := Aside0.mk (Kd.R_below (by (with_reducible repeat (first | apply Kd.R_alloc | apply Kd.R_drewN | apply Kd.R_drew)); exact HO_5.out) hb); have n1_ := Aside0.mk (Kd.R_below (by (with_reducible repeat (first | apply Kd.R_alloc | apply Kd.R_drewN | apply Kd.R_drew)); exact HO_6.out) hb); have n2_ := Aside0.mk (below_step (by repeat (first | (with_reducible first | exact HB.out | apply below_alloc | apply pw_below_drewN | apply below_drew1) | exact HB.out)) hb); clear HO_5; clear HO_6; clear HB; have HO_5 := n0_; have HO_6 := n1_; have HB := n2_; clear n0_ n1_ n2_; (try clear hb); (try clear hb2); (try clear hk); (try clear hi)))
                      go_loopg [5, 6, 9] k2 (fun kq v5 v6 v9 w' => ∃ (x5_3 : List Int) (x6_3 : List Int) (x9_3 : Int), v9 = .int .i64 x9_3 ∧ Aside0 (tocsinlaw02_CrcTree.l1 kq l1 x5_3 x6_3 t134 x9_3 = some r) ∧ Aside0 (kq ≤ k2) ∧ Aside0 (Kd.R (Kd.int .u32) 26 w' w.heap.size (fun _ => True) v5 x5_3) ∧ Aside0 (Kd.R (Kd.int .i64) 3 w' w.heap.size (fun _ => True) v6 x6_3) ∧ Aside0 (Below w.heap.size w w'))
                      case atStart => exact ⟨(x5_2), (x6_2), (0), (by first | rfl | (simp; done) | (simp [*]; done)), H', ⟨Nat.le_refl _⟩, ⟨by (with_reducible repeat (first | apply Kd.R_alloc | apply Kd.R_drewN | apply Kd.R_drew)); exact HO_5.out⟩, ⟨by (with_reducible repeat (first | apply Kd.R_alloc | apply Kd.R_drewN | apply Kd.R_drew)); exact HO_6.out⟩, ⟨by repeat (first | (with_reducible first | exact HB.out | apply below_alloc | apply pw_below_drewN | apply below_drew1) | exact HB.out)⟩⟩
                      case round =>
                        clear H'
                        try clear c1
                        try clear p1
                        try clear q1
                        try clear hx1
                        try clear c2
                        try clear p2
                        try clear q2
                        try clear hx2
                        try clear hf2
                        try clear c4
                        try clear c5
                        try clear p6
                        try clear c8
                        try clear c9
                        try clear c10
                        try clear c10b0
                        try clear c10b1
                        try clear c11
                        try clear c11b0
                        try clear c11b1
                        try clear c12
                        try clear c12b0
                        try clear c12b1
                        try clear p12
                        try clear q12
                        try clear hx12
                        try clear c13
                        try clear p13
                        try clear q13
                        try clear hx13
                        try clear c14
                        try clear c17
                        try clear c17b0
                        try clear c18
                        try clear c18b0
                        try clear c20
                        try clear c20b0
                        try clear p21
                        try clear q21
                        try clear hx21
                        try clear hf21
                        try clear c22
                        try clear c22b0
                        try clear p23
                        try clear q23
                        try clear hx23
                        try clear hf23
                        try clear hx129_0
                        try clear hx132_0
                        try clear hx21_0
                        try clear hx23_0
                        try clear p129
                        try clear p132
                        try clear p2
                        try clear p21
                        try clear p23
                        try clear q129
                        try clear q132
                        try clear q21
                        try clear q23
                        obtain ⟨x5_3, x6_3, x9_3, rfl, HA, HK3, HO_5, HO_6, HB⟩ := hrel
                        cases gk with
                        | zero => exact absurd HA.out (by simp [tocsinlaw02_CrcTree.l1])
                        | succ k3 =>
                          have H := HA.out
                          clear HA
                          simp only [tocsinlaw02_CrcTree.l1] at H
                          by_cases c31 : (x5_3.length : Int) > 1
                          · rw [if_pos c31] at H
                            have c31b0 : decide (1 < (x5_3.length : Int)) = true := decide_eq_true c31
                            have c31b1 : decide (1 < x5_3.length) = true := decide_eq_true (by omega)
                            clear c31
                            have HC32 := Aside0.mk H
                            clear H
                            obtain ⟨Ao33, co33, eo33⟩ := Kd.R_slice HO_5.out
                            subst eo33
                            go_upto_if 59 with (fail)
                            go_cut [10] (fun v10 wc => ∃ (kq : Nat) (x10_31 : Int), v10 = .int .i64 x10_31 ∧ Aside0 (tocsinlaw02_CrcTree.j3 kq l1 x5_3 x6_3 t134 x9_3 x10_31 = some r) ∧ Aside0 (kq ≤ k3) ∧ Aside0 (Kd.R (Kd.int .u32) 26 wc w.heap.size (fun _ => True) (.slice Ao33 x5_3.length co33) x5_3) ∧ Aside0 (Kd.R (Kd.int .i64) 3 wc w.heap.size (fun _ => True) u6 x6_3) ∧ Aside0 (Below w.heap.size w wc))
                            case first =>
                              have H := HC32.out
                              clear HC32
                              by_cases c34 : x9_3 < (l1.length : Int)
                              · rw [if_pos c34] at H
                                have c34b0 : decide (x9_3 < (l1.length : Int)) = true := decide_eq_true c34
                                clear c34
                                (first | rw [c34b0] | (simp only [i64_w, i32_w]; rw [c34b0]) | skip)
                                by_cases c35 : 0 ≤ x9_3
                                · rw [if_pos c35] at H
                                  have c35b0 : decide (0 ≤ x9_3) = true := decide_eq_true c35
                                  clear c35
                                  by_cases c36 : (wrap64 ((x5_3.length : Int) - 1)) = 0
                                  · rw [if_pos c36] at H
                                    exact absurd H (by simp)
                                  · rw [if_neg c36] at H
                                    have c36b0 : ((wrap64 ((x5_3.length : Int) - 1)) == 0) = false := beq_eq_false_iff_ne.mpr c36
                                    have c36b1 : ((wrap64 ((x5_3.length : Int) - 1)) != 0) = true := bne_iff_ne.mpr c36
                                    have H' := Aside0.mk H
                                    clear H
                                    have p136 : 0 ≤ (x9_3 : Int) := of_decide_eq_true (by first | (with_reducible assumption) | assumption)
                                    have q136 : x9_3 < (l1.length : Int) := of_decide_eq_true (by first | (with_reducible assumption) | assumption)
                                    obtain ⟨ad136, e136, hx136_0⟩ := Kd.at_int HR1.out x9_3 p136 q136
                                    cases e136
                                    replace hx136_0 := (HB.out.cell (World.block_lt_of_cell? w _ hx136_0)).trans hx136_0
                                    replace p136 := eq_true p136
                                    replace q136 := eq_true q136
                                    go_wp2
                                    go_meet
                                    case rel => exact ⟨_, (Int.tmod (wrap64 (rd l1 x9_3)) (wrap64 ((x5_3.length : Int) - 1))), (by first | rfl | (simp; done) | (simp [*]; done)), H', ⟨by have := HJ4.out; have := HK2.out; have := HK3.out; first | omega | exact Nat.le_refl _⟩, ⟨by (with_reducible repeat (first | apply Kd.R_alloc | apply Kd.R_drewN | apply Kd.R_drew)); exact HO_5.out⟩, ⟨by (with_reducible repeat (first | apply Kd.R_alloc | apply Kd.R_drewN | apply Kd.R_drew)); exact HO_6.out⟩, ⟨by repeat (first | (with_reducible first | exact HB.out | apply below_alloc | apply pw_below_drewN | apply below_drew1) | exact HB.out)⟩⟩
                                · rw [if_neg c35] at H
                                  exact absurd H (by simp)
                              · rw [if_neg c34] at H
                                have c34b0 : decide (x9_3 < (l1.length : Int)) = false := decide_eq_false c34
                                clear c34
                                (first | rw [c34b0] | (simp only [i64_w, i32_w]; rw [c34b0]) | skip)
                                have H' := Aside0.mk H
                                clear H
                                go_wp2
                                go_meet
                                case rel => exact ⟨_, (0), (by first | rfl | (simp; done) | (simp [*]; done)), H', ⟨by have := HJ4.out; have := HK2.out; have := HK3.out; first | omega | exact Nat.le_refl _⟩, ⟨by (with_reducible repeat (first | apply Kd.R_alloc | apply Kd.R_drewN | apply Kd.R_drew)); exact HO_5.out⟩, ⟨by (with_reducible repeat (first | apply Kd.R_alloc | apply Kd.R_drewN | apply Kd.R_drew)); exact HO_6.out⟩, ⟨by repeat (first | (with_reducible first | exact HB.out | apply below_alloc | apply pw_below_drewN | apply below_drew1) | exact HB.out)⟩⟩
                            case rest =>
                              clear HC32
                              try clear c1
                              try clear p1
                              try clear q1
                              try clear hx1
                              try clear c2
                              try clear p2
                              try clear q2
                              try clear hx2
                              try clear hf2
                              try clear c3
                              try clear c4
                              try clear c5
                              try clear p6
                              try clear c8
                              try clear c9
                              try clear c10
                              try clear c10b0
                              try clear c10b1
                              try clear c11
                              try clear c11b0
                              try clear c11b1
                              try clear c12
                              try clear c12b0
                              try clear c12b1
                              try clear p12
                              try clear q12
                              try clear hx12
                              try clear c13
                              try clear p13
                              try clear q13
                              try clear hx13
                              try clear c14
                              try clear c17
                              try clear c17b0
                              try clear c18
                              try clear c18b0
                              try clear c20
                              try clear c20b0
                              try clear p21
                              try clear q21
                              try clear hx21
                              try clear hf21
                              try clear c22
                              try clear c22b0
                              try clear p23
                              try clear q23
                              try clear hx23
                              try clear hf23
                              try clear c31
                              try clear c31b0
                              try clear c31b1
                              try clear c34
                              try clear c34b0
                              try clear c35
                              try clear c35b0
                              try clear c36
                              try clear c36b0
                              try clear c36b1
                              try clear hx129_0
                              try clear hx132_0
                              try clear hx136_0
                              try clear hx21_0
                              try clear hx23_0
                              try clear p1
                              try clear p12
                              try clear p129
                              try clear p13
                              try clear p132
                              try clear p136
                              try clear p2
                              try clear p21
                              try clear p23
                              try clear p6
                              try clear q1
                              try clear q12
                              try clear q129
                              try clear q13
                              try clear q132
                              try clear q136
                              try clear q2
                              try clear q21
                              try clear q23
                              obtain ⟨kq, x10_31, rfl, HA, HJ31, HO_5, HO_6, HB⟩ := hcut
                              cases kq with
                              | zero => exact absurd HA.out (by simp [tocsinlaw02_CrcTree.j3])
                              | succ kj31 =>
                                have H := HA.out
                                clear HA
                                simp only [tocsinlaw02_CrcTree.j3] at H
                                by_cases c37 : 0 ≤ x10_31
                                · rw [if_pos c37] at H
                                  have c37b0 : decide (0 ≤ x10_31) = true := decide_eq_true c37
                                  clear c37
                                  by_cases c38 : x10_31 < (x5_3.length : Int)
                                  · rw [if_pos c38] at H
                                    have c38b0 : decide (x10_31 < (x5_3.length : Int)) = true := decide_eq_true c38
                                    clear c38
                                    obtain ⟨ji39, hji39⟩ : ∃ j_ : Int, (wrap64 (x10_31 + 1)) = j_ := ⟨_, rfl⟩
                                    replace H : (if 0 ≤ (ji39) then (if (ji39) < (x5_3.length : Int) then (if (ji39) < (x6_3.length : Int) then ((crc_Join.f kj31 (rd x5_3 x10_31) (rd x5_3 (ji39)) (rd x6_3 (ji39))).bind fun t140 => (if x10_31 < (x6_3.length : Int) then (tocsinlaw02_CrcTree.l2 kj31 l1 (x5_3.set (x10_31 : Int).toNat t140) (x6_3.set (x10_31 : Int).toNat (wrap64 ((rd x6_3 x10_31) + (rd x6_3 (ji39))))) t134 x9_3 ji39) else (none))) else (none)) else (none)) else (none)) = some r := by first | (rw [hji39] at H; exact H) | (simp only [hji39] at H ⊢; exact H)
                                    have hji39w : (IntKind.i64.wrap (x10_31 + 1)) = ji39 := (i64_w _).trans hji39
                                    by_cases c40 : 0 ≤ (ji39)
                                    · rw [if_pos c40] at H
                                      have c40b0 : decide (0 ≤ (ji39)) = true := decide_eq_true c40
                                      clear c40
                                      by_cases c41 : (ji39) < (x5_3.length : Int)
                                      · rw [if_pos c41] at H
                                        have c41b0 : decide ((ji39) < (x5_3.length : Int)) = true := decide_eq_true c41
                                        clear c41
                                        by_cases c42 : (ji39) < (x6_3.length : Int)
                                        · rw [if_pos c42] at H
                                          have c42b0 : decide ((ji39) < (x6_3.length : Int)) = true := decide_eq_true c42
                                          clear c42
                                          replace H := Option.bind_eq_some_iff.mp H
                                          obtain ⟨t140, A430, H⟩ := H
                                          replace H : (if x10_31 < (x6_3.length : Int) then (tocsinlaw02_CrcTree.l2 kj31 l1 (x5_3.set (x10_31 : Int).toNat t140) (x6_3.set (x10_31 : Int).toNat (wrap64 ((rd x6_3 x10_31) + (rd x6_3 (ji39))))) t134 x9_3 ji39) else (none)) = some r := H
                                          have A43 := Aside0.mk A430
                                          clear A430
                                          obtain ⟨y141, hy141⟩ : ∃ y_ : List Int, y_ = (x5_3.set (x10_31 : Int).toNat t140) := ⟨_, rfl⟩
                                          replace H : (if x10_31 < (x6_3.length : Int) then (tocsinlaw02_CrcTree.l2 kj31 l1 y141 (x6_3.set (x10_31 : Int).toNat (wrap64 ((rd x6_3 x10_31) + (rd x6_3 (ji39))))) t134 x9_3 ji39) else (none)) = some r := by first | (rw [hy141]; with_reducible exact H) | (have H2_ := (Option.bind_some _ _).symm.trans H; rw [hy141]; with_reducible exact H2_) | (have H2_ := (Option.bind_some _ _).symm.trans H; with_reducible exact H2_) | with_reducible exact H | (rw [hy141]; exact H) | exact H
                                          have Ny141 := Aside0.mk hy141
                                          clear hy141
                                          by_cases c45 : x10_31 < (x6_3.length : Int)
                                          · rw [if_pos c45] at H
                                            have c45b0 : decide (x10_31 < (x6_3.length : Int)) = true := decide_eq_true c45
                                            clear c45
                                            obtain ⟨y144, hy144⟩ : ∃ y_ : List Int, y_ = (x6_3.set (x10_31 : Int).toNat (wrap64 ((rd x6_3 x10_31) + (rd x6_3 (ji39))))) := ⟨_, rfl⟩
                                            replace H : (tocsinlaw02_CrcTree.l2 kj31 l1 y141 y144 t134 x9_3 ji39) = some r := by first | (rw [hy144]; with_reducible exact H) | (have H2_ := (Option.bind_some _ _).symm.trans H; rw [hy144]; with_reducible exact H2_) | (have H2_ := (Option.bind_some _ _).symm.trans H; with_reducible exact H2_) | with_reducible exact H | (rw [hy144]; exact H) | exact H
                                            have Ny144 := Aside0.mk hy144
                                            clear hy144
                                            have H' := Aside0.mk H
                                            clear H
                                            try go_wp2
                                            have n0_ := Aside0.mk (Kd.R_drew HO_5.out)
                                            have n1_ := Aside0.mk (Kd.R_drew HO_6.out)
                                            have n2_ := Aside0.mk (below_drew1 HB.out)
                                            clear HO_5
                                            clear HO_6
                                            clear HB
                                            have HO_5 := n0_
                                            have HO_6 := n1_
                                            have HB := n2_
                                            clear n0_ n1_ n2_
                                            have p137 : 0 ≤ (x10_31 : Int) := of_decide_eq_true (by first | (with_reducible assumption) | assumption)
                                            have q137 : x10_31 < (x5_3.length : Int) := of_decide_eq_true (by first | (with_reducible assumption) | assumption)
                                            obtain ⟨ad137, e137, hx137_0⟩ := Kd.at_int (Kd.R_reads' HO_5.out).2.2 x10_31 p137 q137
                                            cases e137
                                            replace p137 := eq_true p137
                                            replace q137 := eq_true q137
                                            have p138 : 0 ≤ ((ji39) : Int) := of_decide_eq_true (by first | (with_reducible assumption) | assumption)
                                            have q138 : (ji39) < (x5_3.length : Int) := of_decide_eq_true (by first | (with_reducible assumption) | assumption)
                                            obtain ⟨ad138, e138, hx138_0⟩ := Kd.at_int (Kd.R_reads' HO_5.out).2.2 (ji39) p138 q138
                                            obtain rfl : ad137 = ad138 := (by injection e138)
                                            replace p138 := eq_true p138
                                            replace q138 := eq_true q138
                                            obtain ⟨Ao48, co48, eo48⟩ := Kd.R_slice HO_6.out
                                            (first | subst eo48 | (injection eo48 with f1_ f2_ f3_; have f4_ := f1_.symm; have f5_ := f3_.symm; clear f1_ f2_ f3_; subst f4_; subst f5_))
                                            have p139 : 0 ≤ ((ji39) : Int) := of_decide_eq_true (by first | (with_reducible assumption) | assumption)
                                            have q139 : (ji39) < (x6_3.length : Int) := of_decide_eq_true (by first | (with_reducible assumption) | assumption)
                                            obtain ⟨ad139, e139, hx139_0⟩ := Kd.at_int (Kd.R_reads' HO_6.out).2.2 (ji39) p139 q139
                                            cases e139
                                            replace p139 := eq_true p139
                                            replace q139 := eq_true q139
                                            refine start_ (n := 19) (S := fun w' => w'.cell? (ad137.add (x10_31).toNat) = some (.int .u32 (rd x5_3 x10_31)) ∧ w'.cell? (ad137.add ((ji39)).toNat) = some (.int .u32 (rd x5_3 (ji39))) ∧ w'.cell? (ad139.add ((ji39)).toNat) = some (.int .i64 (rd x6_3 (ji39)))) (ds := [18]) #[false, false, false, false, false, false, false, false, false, false, false, false, false, false, false, false, false, false, false] (by kernel_rfl) rfl rfl ⟨hx137_0, hx138_0, hx139_0⟩ (fun hHeld => ?_); refine with_tabW tocsinlaw02_CrcTree.tab19 tocsinlaw02_CrcTree.bits19 (fun HT_ HW_ => ?_)
                                            generalize wc.drew = w47 at HO_5 HO_6 HB hx137_0 hx138_0 hx139_0 hHeld ⊢
                                            refine pure_ (i := 0) (N := some 69) (v := ?_) (a' := ?_) #[true, false, false, false, false, false, false, false, false, false, false, false, false, false, false, false, false, false, false] rfl rfl (any_of HT_.out (by kernel_rfl)) (fun _ _ _ h => h) (Or.inl ⟨by rfl, ?_⟩) ?_ ?_
                                            rotate_left
                                            · intro w'
                                              go_simp
                                              with_reducible rfl
                                            rotate_left
                                            · simp only [Act.put, List.setIfInBounds_toArray, List.set_cons_zero, List.set_cons_succ, i64_w, i32_w]
                                              rfl
                                            refine pure_ (i := 1) (N := some 70) (v := ?_) (a' := ?_) #[true, true, false, false, false, false, false, false, false, false, false, false, false, false, false, false, false, false, false] rfl rfl (any_of HT_.out (by kernel_rfl)) (fun _ _ _ h => h) (Or.inl ⟨by rfl, ?_⟩) ?_ ?_
                                            rotate_left
                                            · intro w'
                                              go_simp
                                              with_reducible rfl
                                            rotate_left
                                            · simp only [Act.put, List.setIfInBounds_toArray, List.set_cons_zero, List.set_cons_succ, i64_w, i32_w]
                                              rfl
                                            refine pure_ (i := 2) (N := some 71) (v := ?_) (a' := ?_) #[true, true, true, false, false, false, false, false, false, false, false, false, false, false, false, false, false, false, false] rfl rfl (any_of HT_.out (by kernel_rfl)) (fun _ _ _ h => h) (Or.inl ⟨by rfl, ?_⟩) ?_ ?_
                                            rotate_left
                                            · intro w'
                                              go_simp
                                              with_reducible rfl
                                            rotate_left
                                            · simp only [Act.put, List.setIfInBounds_toArray, List.set_cons_zero, List.set_cons_succ, i64_w, i32_w]
                                              rfl
                                            refine pure_ (i := 3) (N := some 72) (v := ?_) (a' := ?_) #[true, true, true, true, false, false, false, false, false, false, false, false, false, false, false, false, false, false, false] rfl rfl (any_of HT_.out (by kernel_rfl)) (fun _ _ _ h => h) (Or.inl ⟨by rfl, ?_⟩) ?_ ?_
                                            rotate_left
                                            · intro w'
                                              go_simp
                                              with_reducible rfl
                                            rotate_left
                                            · simp only [Act.put, List.setIfInBounds_toArray, List.set_cons_zero, List.set_cons_succ, i64_w, i32_w]
                                              rfl
                                            refine pure_ (i := 4) (N := some 73) (v := ?_) (a' := ?_) #[true, true, true, true, true, false, false, false, false, false, false, false, false, false, false, false, false, false, false] rfl rfl (any_of HT_.out (by kernel_rfl)) (fun _ _ _ h => h) (Or.inl ⟨by rfl, ?_⟩) ?_ ?_
                                            rotate_left
                                            · intro w'
                                              go_simp
                                              with_reducible rfl
                                            rotate_left
                                            · simp only [Act.put, List.setIfInBounds_toArray, List.set_cons_zero, List.set_cons_succ, i64_w, i32_w]
                                              rfl
                                            refine pure_ (i := 6) (N := some 75) (v := ?_) (a' := ?_) #[true, true, true, true, true, false, true, false, false, false, false, false, false, false, false, false, false, false, false] rfl rfl (any_of HT_.out (by kernel_rfl)) (fun _ _ _ h => h) (Or.inl ⟨by rfl, ?_⟩) ?_ ?_
                                            rotate_left
                                            · intro w'
                                              go_simp
                                              with_reducible rfl
                                            rotate_left
                                            · simp only [Act.put, List.setIfInBounds_toArray, List.set_cons_zero, List.set_cons_succ, i64_w, i32_w]
                                              rfl
                                            refine pure_ (i := 7) (N := some 76) (v := ?_) (a' := ?_) #[true, true, true, true, true, false, true, true, false, false, false, false, false, false, false, false, false, false, false] rfl rfl (any_of HT_.out (by kernel_rfl)) (fun _ _ _ h => h) (Or.inl ⟨by rfl, ?_⟩) ?_ ?_
                                            rotate_left
                                            · intro w'
                                              go_simp
                                              with_reducible rfl
                                            rotate_left
                                            · simp only [Act.put, List.setIfInBounds_toArray, List.set_cons_zero, List.set_cons_succ, i64_w, i32_w]
                                              rfl
                                            refine pure_ (i := 8) (N := some 77) (v := ?_) (a' := ?_) #[true, true, true, true, true, false, true, true, true, false, false, false, false, false, false, false, false, false, false] rfl rfl (any_of HT_.out (by kernel_rfl)) (fun _ _ _ h => h) (Or.inl ⟨by rfl, ?_⟩) ?_ ?_
                                            rotate_left
                                            · intro w'
                                              go_simp
                                              with_reducible rfl
                                            rotate_left
                                            · simp only [Act.put, List.setIfInBounds_toArray, List.set_cons_zero, List.set_cons_succ, i64_w, i32_w]
                                              rfl
                                            refine pure_ (i := 9) (N := some 78) (v := ?_) (a' := ?_) #[true, true, true, true, true, false, true, true, true, true, false, false, false, false, false, false, false, false, false] rfl rfl (any_of HT_.out (by kernel_rfl)) (fun _ _ _ h => h) (Or.inl ⟨by rfl, ?_⟩) ?_ ?_
                                            rotate_left
                                            · intro w'
                                              go_simp
                                              with_reducible rfl
                                            rotate_left
                                            · simp only [Act.put, List.setIfInBounds_toArray, List.set_cons_zero, List.set_cons_succ, i64_w, i32_w]
                                              rfl
                                            refine pure_ (i := 11) (N := some 80) (v := ?_) (a' := ?_) #[true, true, true, true, true, false, true, true, true, true, false, true, false, false, false, false, false, false, false] rfl rfl (any_of HT_.out (by kernel_rfl)) (fun _ _ _ h => h) (Or.inl ⟨by rfl, ?_⟩) ?_ ?_
                                            rotate_left
                                            · intro w'
                                              go_simp
                                              with_reducible rfl
                                            rotate_left
                                            · simp only [Act.put, List.setIfInBounds_toArray, List.set_cons_zero, List.set_cons_succ, i64_w, i32_w]
                                              rfl
                                            refine pure_ (i := 12) (N := some 81) (v := ?_) (a' := ?_) #[true, true, true, true, true, false, true, true, true, true, false, true, true, false, false, false, false, false, false] rfl rfl (any_of HT_.out (by kernel_rfl)) (fun _ _ _ h => h) (Or.inl ⟨by rfl, ?_⟩) ?_ ?_
                                            rotate_left
                                            · intro w'
                                              go_simp
                                              with_reducible rfl
                                            rotate_left
                                            · simp only [Act.put, List.setIfInBounds_toArray, List.set_cons_zero, List.set_cons_succ, i64_w, i32_w]
                                              rfl
                                            refine pure_ (i := 13) (N := some 82) (v := ?_) (a' := ?_) #[true, true, true, true, true, false, true, true, true, true, false, true, true, true, false, false, false, false, false] rfl rfl (any_of HT_.out (by kernel_rfl)) (fun _ _ _ h => h) (Or.inl ⟨by rfl, ?_⟩) ?_ ?_
                                            rotate_left
                                            · intro w'
                                              go_simp
                                              with_reducible rfl
                                            rotate_left
                                            · simp only [Act.put, List.setIfInBounds_toArray, List.set_cons_zero, List.set_cons_succ, i64_w, i32_w]
                                              rfl
                                            refine pure_ (i := 14) (N := some 83) (v := ?_) (a' := ?_) #[true, true, true, true, true, false, true, true, true, true, false, true, true, true, true, false, false, false, false] rfl rfl (any_of HT_.out (by kernel_rfl)) (fun _ _ _ h => h) (Or.inl ⟨by rfl, ?_⟩) ?_ ?_
                                            rotate_left
                                            · intro w'
                                              go_simp
                                              with_reducible rfl
                                            rotate_left
                                            · simp only [Act.put, List.setIfInBounds_toArray, List.set_cons_zero, List.set_cons_succ, i64_w, i32_w]
                                              rfl
                                            refine take_ (i := 5) (N := some 74) (v := ?_) (a' := ?_) #[true, true, true, true, true, true, true, true, true, true, false, true, true, true, true, false, false, false, false] rfl rfl (take_ofW HT_.out HW_.out (by kernel_rfl)) (fun _ _ _ h => h) (Or.inl ⟨by rfl, ?_⟩) hHeld ?_ ?_
                                            rotate_left
                                            · rintro w' ⟨s0, s1, s2⟩
                                              go_simp
                                              with_reducible rfl
                                            rotate_left
                                            · simp only [Act.put, List.setIfInBounds_toArray, List.set_cons_zero, List.set_cons_succ, i64_w, i32_w]
                                              rfl
                                            refine take_ (i := 10) (N := some 79) (v := ?_) (a' := ?_) #[true, true, true, true, true, true, true, true, true, true, true, true, true, true, true, false, false, false, false] rfl rfl (take_ofW HT_.out HW_.out (by kernel_rfl)) (fun _ _ _ h => h) (Or.inl ⟨by rfl, ?_⟩) hHeld ?_ ?_
                                            rotate_left
                                            · rintro w' ⟨s0, s1, s2⟩
                                              go_simp
                                              with_reducible rfl
                                            rotate_left
                                            · simp only [Act.put, List.setIfInBounds_toArray, List.set_cons_zero, List.set_cons_succ, i64_w, i32_w]
                                              rfl
                                            refine take_ (i := 15) (N := some 84) (v := ?_) (a' := ?_) #[true, true, true, true, true, true, true, true, true, true, true, true, true, true, true, true, false, false, false] rfl rfl (take_ofW HT_.out HW_.out (by kernel_rfl)) (fun _ _ _ h => h) (Or.inl ⟨by rfl, ?_⟩) hHeld ?_ ?_
                                            rotate_left
                                            · rintro w' ⟨s0, s1, s2⟩
                                              go_simp
                                              with_reducible rfl
                                            rotate_left
                                            · simp only [Act.put, List.setIfInBounds_toArray, List.set_cons_zero, List.set_cons_succ, i64_w, i32_w]
                                              rfl
                                            refine one_ (i := 16) (N := some 85) #[true, true, true, true, true, true, true, true, true, true, true, true, true, true, true, true, true, false, false] rfl rfl (one_of HT_.out (by kernel_rfl)) (by decide) (fun K hK => ?_)
                                            refine goes_ Try.func15 (by kernel_rfl) rfl #[.int .u32 (rd x5_3 x10_31), .int .u32 (rd x5_3 (ji39)), .int .i64 (rd x6_3 (ji39))] (by rfl) rfl rfl (by (try simp only [List.map_toArray, List.map_cons, List.map_nil]); first | done | (simp only [hji39]; rfl) | rfl | (simp only [List.length_drop, List.length_take]; rfl)) ?_
                                            with_reducible refine (crc_Join.calls kj31 (rd x5_3 x10_31) (rd x5_3 (ji39)) (rd x6_3 (ji39)) t140 _ A43.out).mono ?_
                                            rintro e w' ⟨rfl, ⟨nd, rfl⟩⟩
                                            refine ⟨_, rfl, ?_⟩
                                            have p44 : 0 ≤ (x10_31 : Int) := of_decide_eq_true (by first | (with_reducible assumption) | assumption)
                                            have q44 : (x10_31 : Int) < ((x5_3.length : Int) : Int) := of_decide_eq_true (by first | (with_reducible assumption) | assumption)
                                            obtain ⟨go44, co44, eo44, gb44, gl44, cl44, HG44⟩ := Kd.R_form HO_5.out (by omega)
                                            (first | cases eo44 | (injection eo44 with ea_ en_ ec_; (first | subst ea_ | (injection ea_ with ea_; subst ea_)); subst ec_; clear en_))
                                            have GB44 := Aside0.mk gb44
                                            have GG44 := Aside0.mk HG44
                                            clear gb44 gl44 HG44
                                            (first | simp only [add_plain] at hx137_0 | skip)
                                            (first | simp only [add_plain] at hx138_0 | skip)
                                            obtain ⟨hx44_0, hf44_0⟩ := Kd.R_celln 0 HO_5.out (x10_31 : Int) p44 q44
                                            replace p44 := eq_true p44
                                            replace q44 := eq_true q44
                                            have HP49 := Kd.R_putn HO_5.out (x10_31 : Int) t140
                                            rw [← Ny141.out] at HP49
                                            have HQ49 := Aside0.mk HP49
                                            clear HP49
                                            refine hK.out _ _ ⟨hHeld.1, hHeld.2.1, hHeld.2.2⟩ (fun hHeld => ?_)
                                            clear hK K
                                            refine norm_ (a' := ?_) ?_ ?_
                                            rotate_left
                                            · show Act.put _ (some 85) _ = _
                                              simp only [Act.put, List.setIfInBounds_toArray, List.set_cons_zero, List.set_cons_succ, i64_w, i32_w]
                                              rfl
                                            refine pure_ (i := 17) (N := some 86) (v := ?_) (a' := ?_) #[true, true, true, true, true, true, true, true, true, true, true, true, true, true, true, true, true, true, false] rfl rfl (any_of HT_.out (by kernel_rfl)) (fun _ _ _ h => h) (Or.inl ⟨by rfl, ?_⟩) ?_ ?_
                                            rotate_left
                                            · intro w'
                                              go_simp
                                              with_reducible rfl
                                            rotate_left
                                            · simp only [Act.put, List.setIfInBounds_toArray, List.set_cons_zero, List.set_cons_succ, i64_w, i32_w]
                                              rfl
                                            refine last_ (i := 18) (N := none) #[true, true, true, true, true, true, true, true, true, true, true, true, true, true, true, true, true, true, true] rfl rfl (one_of HT_.out (by kernel_rfl)) (by decide) (fun K hK => ?_)
                                            refine skip_ (w1 := ?_) (by rfl) rfl ?_ ?_
                                            rotate_left
                                            · go_simp
                                              rfl
                                            refine hK.out _ _ ?_
                                            clear hK K
                                            refine done_ (done_of HT_.out (by kernel_rfl)) ?_
                                            try go_wp2
                                            have hsd_ : ∀ (w : World) (n : Nat) (a : Addr) (v : Value), (w.drewN n).setCell a v = (w.setCell a v).drewN n := fun _ _ _ _ => rfl
                                            (try simp only [hsd_])
                                            clear hsd_
                                            have n0_ : Aside0 (Kd.R (Kd.int .u32) 26 (w47.setCell ⟨go44, (x10_31 : Int).toNat, none⟩ (.int .u32 t140)) w.heap.size (fun _ => True) (.slice (some ⟨go44, 0, none⟩) x5_3.length co33) y141) := ⟨by (with_reducible repeat (first | apply Kd.R_alloc | apply Kd.R_drewN | apply Kd.R_drew)); exact HQ49.out⟩
                                            have n1_ : Aside0 (Kd.R (Kd.int .i64) 3 (w47.setCell ⟨go44, (x10_31 : Int).toNat, none⟩ (.int .u32 t140)) w.heap.size (fun _ => True) (.slice (some ad139) x6_3.length co48) x6_3) := ⟨by (with_reducible repeat (first | apply Kd.R_alloc | apply Kd.R_drewN | apply Kd.R_drew)); exact Kd.R_mono (Kd.R_far (p := ⟨go44, (x10_31 : Int).toNat, none⟩) (Kd.R_types HO_6.out GG44.out (by decide)) (fun _ hk => hk.2) (.int .u32 t140)) (fun _ hk => trivial)⟩
                                            have n2_ : Aside0 (Below w.heap.size w (w47.setCell ⟨go44, (x10_31 : Int).toNat, none⟩ (.int .u32 t140))) := ⟨by repeat (first | (with_reducible first | exact HB.out | apply below_alloc | apply pw_below_drewN | apply below_drew1 | refine below_set ?_ GB44.out) | exact HB.out)⟩
                                            (try clear HO_5)
                                            (try clear HO_6)
                                            (try clear HB)
                                            generalize (w47.setCell ⟨go44, (x10_31 : Int).toNat, none⟩ (.int .u32 t140)) = w50 at n0_ n1_ n2_ ⊢
                                            have HO_5 := n0_
                                            have HO_6 := n1_
                                            have HB := n2_
                                            clear n0_ n1_ n2_
                                            (try (rw [drewN_self w50]; generalize hq_ : World.drewN w50 _ = w50; have n0_ : Aside0 (Kd.R (Kd.int .u32) 26 w50 w.heap.size (fun _ => True) (.slice (some ⟨go44, 0, none⟩) x5_3.length co33) y141) := ⟨by rw [← hq_]; exact (by (with_reducible repeat (first | apply Kd.R_alloc | apply Kd.R_drewN | apply Kd.R_drew)); exact HO_5.out)⟩; have n1_ : Aside0 (Kd.R (Kd.int .i64) 3 w50 w.heap.size (fun _ => True) (.slice (some ad139) x6_3.length co48) x6_3) := ⟨by rw [← hq_]; exact (by (with_reducible repeat (first | apply Kd.R_alloc | apply Kd.R_drewN | apply Kd.R_drew)); exact HO_6.out)⟩; have n2_ : Aside0 (Below w.heap.size w w50) := ⟨by rw [← hq_]; exact (by repeat (first | (with_reducible first | exact HB.out | apply below_alloc | apply pw_below_drewN | apply below_drew1) | exact HB.out))⟩; clear HO_5 HO_6 HB hq_; have HO_5 := n0_; have HO_6 := n1_; have HB := n2_; clear n0_ n1_ n2_))
                                            have n0_ := Aside0.mk (Kd.R_drew HO_5.out)
                                            have n1_ := Aside0.mk (Kd.R_drew HO_6.out)
                                            have n2_ := Aside0.mk (below_drew1 HB.out)
                                            clear HO_5
                                            clear HO_6
                                            clear HB
                                            have HO_5 := n0_
                                            have HO_6 := n1_
                                            have HB := n2_
                                            clear n0_ n1_ n2_
                                            have p142 : 0 ≤ (x10_31 : Int) := of_decide_eq_true (by first | (with_reducible assumption) | assumption)
                                            have q142 : x10_31 < (x6_3.length : Int) := of_decide_eq_true (by first | (with_reducible assumption) | assumption)
                                            obtain ⟨ad142, e142, hx142_0⟩ := Kd.at_int (Kd.R_reads' HO_6.out).2.2 x10_31 p142 q142
                                            obtain rfl : ad139 = ad142 := (by injection e142)
                                            replace p142 := eq_true p142
                                            replace q142 := eq_true q142
                                            have p143 : 0 ≤ ((ji39) : Int) := of_decide_eq_true (by first | (with_reducible assumption) | assumption)
                                            have q143 : (ji39) < (x6_3.length : Int) := of_decide_eq_true (by first | (with_reducible assumption) | assumption)
                                            obtain ⟨ad143, e143, hx143_0⟩ := Kd.at_int (Kd.R_reads' HO_6.out).2.2 (ji39) p143 q143
                                            obtain rfl : ad139 = ad143 := (by injection e143)
                                            replace p143 := eq_true p143
                                            replace q143 := eq_true q143
                                            have p46 : 0 ≤ (x10_31 : Int) := of_decide_eq_true (by first | (with_reducible assumption) | assumption)
                                            have q46 : (x10_31 : Int) < ((x6_3.length : Int) : Int) := of_decide_eq_true (by first | (with_reducible assumption) | assumption)
                                            obtain ⟨go46, co46, eo46, gb46, gl46, cl46, HG46⟩ := Kd.R_form HO_6.out (by omega)
                                            (first | cases eo46 | (injection eo46 with ea_ en_ ec_; (first | subst ea_ | (injection ea_ with ea_; subst ea_)); subst ec_; clear en_))
                                            have GB46 := Aside0.mk gb46
                                            have GG46 := Aside0.mk HG46
                                            clear gb46 gl46 HG46
                                            (first | simp only [add_plain] at hx139_0 | skip)
                                            (first | simp only [add_plain] at hx142_0 | skip)
                                            (first | simp only [add_plain] at hx143_0 | skip)
                                            obtain ⟨hx46_0, hf46_0⟩ := Kd.R_celln 0 HO_6.out (x10_31 : Int) p46 q46
                                            replace p46 := eq_true p46
                                            replace q46 := eq_true q46
                                            have HP52 := Kd.R_putn HO_6.out (x10_31 : Int) (wrap64 ((rd x6_3 x10_31) + (rd x6_3 (ji39))))
                                            rw [← Ny144.out] at HP52
                                            have HQ52 := Aside0.mk HP52
                                            clear HP52
                                            refine start_ (n := 14) (S := fun w' => w'.cell? ⟨go46, (x10_31).toNat, none⟩ = some (.int .i64 (rd x6_3 x10_31)) ∧ w'.cell? ⟨go46, ((ji39)).toNat, none⟩ = some (.int .i64 (rd x6_3 (ji39)))) (ds := [13]) #[false, false, false, false, false, false, false, false, false, false, false, false, false, false] (by kernel_rfl) rfl rfl ⟨hx142_0, hx143_0⟩ (fun hHeld => ?_); refine with_tabW tocsinlaw02_CrcTree.tab20 tocsinlaw02_CrcTree.bits20 (fun HT_ HW_ => ?_)
                                            generalize w50.drew = w51 at HO_5 HO_6 HB GG46 HQ49 HQ52 hf46_0 hx139_0 hx142_0 hx143_0 hx46_0 hHeld ⊢
                                            refine pure_ (i := 0) (N := some 87) (v := ?_) (a' := ?_) #[true, false, false, false, false, false, false, false, false, false, false, false, false, false] rfl rfl (any_of HT_.out (by kernel_rfl)) (fun _ _ _ h => h) (Or.inl ⟨by rfl, ?_⟩) ?_ ?_
                                            rotate_left
                                            · intro w'
                                              go_simp
                                              with_reducible rfl
                                            rotate_left
                                            · simp only [Act.put, List.setIfInBounds_toArray, List.set_cons_zero, List.set_cons_succ, i64_w, i32_w]
                                              rfl
                                            refine pure_ (i := 1) (N := some 88) (v := ?_) (a' := ?_) #[true, true, false, false, false, false, false, false, false, false, false, false, false, false] rfl rfl (any_of HT_.out (by kernel_rfl)) (fun _ _ _ h => h) (Or.inl ⟨by rfl, ?_⟩) ?_ ?_
                                            rotate_left
                                            · intro w'
                                              go_simp
                                              with_reducible rfl
                                            rotate_left
                                            · simp only [Act.put, List.setIfInBounds_toArray, List.set_cons_zero, List.set_cons_succ, i64_w, i32_w]
                                              rfl
                                            refine pure_ (i := 2) (N := some 89) (v := ?_) (a' := ?_) #[true, true, true, false, false, false, false, false, false, false, false, false, false, false] rfl rfl (any_of HT_.out (by kernel_rfl)) (fun _ _ _ h => h) (Or.inl ⟨by rfl, ?_⟩) ?_ ?_
                                            rotate_left
                                            · intro w'
                                              go_simp
                                              with_reducible rfl
                                            rotate_left
                                            · simp only [Act.put, List.setIfInBounds_toArray, List.set_cons_zero, List.set_cons_succ, i64_w, i32_w]
                                              rfl
                                            refine pure_ (i := 3) (N := some 90) (v := ?_) (a' := ?_) #[true, true, true, true, false, false, false, false, false, false, false, false, false, false] rfl rfl (any_of HT_.out (by kernel_rfl)) (fun _ _ _ h => h) (Or.inl ⟨by rfl, ?_⟩) ?_ ?_
                                            rotate_left
                                            · intro w'
                                              go_simp
                                              with_reducible rfl
                                            rotate_left
                                            · simp only [Act.put, List.setIfInBounds_toArray, List.set_cons_zero, List.set_cons_succ, i64_w, i32_w]
                                              rfl
                                            refine pure_ (i := 4) (N := some 91) (v := ?_) (a' := ?_) #[true, true, true, true, true, false, false, false, false, false, false, false, false, false] rfl rfl (any_of HT_.out (by kernel_rfl)) (fun _ _ _ h => h) (Or.inl ⟨by rfl, ?_⟩) ?_ ?_
                                            rotate_left
                                            · intro w'
                                              go_simp
                                              with_reducible rfl
                                            rotate_left
                                            · simp only [Act.put, List.setIfInBounds_toArray, List.set_cons_zero, List.set_cons_succ, i64_w, i32_w]
                                              rfl
                                            refine pure_ (i := 6) (N := some 93) (v := ?_) (a' := ?_) #[true, true, true, true, true, false, true, false, false, false, false, false, false, false] rfl rfl (any_of HT_.out (by kernel_rfl)) (fun _ _ _ h => h) (Or.inl ⟨by rfl, ?_⟩) ?_ ?_
                                            rotate_left
                                            · intro w'
                                              go_simp
                                              with_reducible rfl
                                            rotate_left
                                            · simp only [Act.put, List.setIfInBounds_toArray, List.set_cons_zero, List.set_cons_succ, i64_w, i32_w]
                                              rfl
                                            refine pure_ (i := 7) (N := some 94) (v := ?_) (a' := ?_) #[true, true, true, true, true, false, true, true, false, false, false, false, false, false] rfl rfl (any_of HT_.out (by kernel_rfl)) (fun _ _ _ h => h) (Or.inl ⟨by rfl, ?_⟩) ?_ ?_
                                            rotate_left
                                            · intro w'
                                              go_simp
                                              with_reducible rfl
                                            rotate_left
                                            · simp only [Act.put, List.setIfInBounds_toArray, List.set_cons_zero, List.set_cons_succ, i64_w, i32_w]
                                              rfl
                                            refine pure_ (i := 8) (N := some 95) (v := ?_) (a' := ?_) #[true, true, true, true, true, false, true, true, true, false, false, false, false, false] rfl rfl (any_of HT_.out (by kernel_rfl)) (fun _ _ _ h => h) (Or.inl ⟨by rfl, ?_⟩) ?_ ?_
                                            rotate_left
                                            · intro w'
                                              go_simp
                                              with_reducible rfl
                                            rotate_left
                                            · simp only [Act.put, List.setIfInBounds_toArray, List.set_cons_zero, List.set_cons_succ, i64_w, i32_w]
                                              rfl
                                            refine pure_ (i := 9) (N := some 96) (v := ?_) (a' := ?_) #[true, true, true, true, true, false, true, true, true, true, false, false, false, false] rfl rfl (any_of HT_.out (by kernel_rfl)) (fun _ _ _ h => h) (Or.inl ⟨by rfl, ?_⟩) ?_ ?_
                                            rotate_left
                                            · intro w'
                                              go_simp
                                              with_reducible rfl
                                            rotate_left
                                            · simp only [Act.put, List.setIfInBounds_toArray, List.set_cons_zero, List.set_cons_succ, i64_w, i32_w]
                                              rfl
                                            refine take_ (i := 5) (N := some 92) (v := ?_) (a' := ?_) #[true, true, true, true, true, true, true, true, true, true, false, false, false, false] rfl rfl (take_ofW HT_.out HW_.out (by kernel_rfl)) (fun _ _ _ h => h) (Or.inl ⟨by rfl, ?_⟩) hHeld ?_ ?_
                                            rotate_left
                                            · rintro w' ⟨s0, s1⟩
                                              go_simp
                                              with_reducible rfl
                                            rotate_left
                                            · simp only [Act.put, List.setIfInBounds_toArray, List.set_cons_zero, List.set_cons_succ, i64_w, i32_w]
                                              rfl
                                            refine take_ (i := 10) (N := some 97) (v := ?_) (a' := ?_) #[true, true, true, true, true, true, true, true, true, true, true, false, false, false] rfl rfl (take_ofW HT_.out HW_.out (by kernel_rfl)) (fun _ _ _ h => h) (Or.inl ⟨by rfl, ?_⟩) hHeld ?_ ?_
                                            rotate_left
                                            · rintro w' ⟨s0, s1⟩
                                              go_simp
                                              with_reducible rfl
                                            rotate_left
                                            · simp only [Act.put, List.setIfInBounds_toArray, List.set_cons_zero, List.set_cons_succ, i64_w, i32_w]
                                              rfl
                                            refine pure_ (i := 11) (N := some 98) (v := ?_) (a' := ?_) #[true, true, true, true, true, true, true, true, true, true, true, true, false, false] rfl rfl (any_of HT_.out (by kernel_rfl)) (fun _ _ _ h => h) (Or.inl ⟨by rfl, ?_⟩) ?_ ?_
                                            rotate_left
                                            · intro w'
                                              go_simp
                                              with_reducible rfl
                                            rotate_left
                                            · simp only [Act.put, List.setIfInBounds_toArray, List.set_cons_zero, List.set_cons_succ, i64_w, i32_w]
                                              rfl
                                            refine pure_ (i := 12) (N := some 99) (v := ?_) (a' := ?_) #[true, true, true, true, true, true, true, true, true, true, true, true, true, false] rfl rfl (any_of HT_.out (by kernel_rfl)) (fun _ _ _ h => h) (Or.inl ⟨by rfl, ?_⟩) ?_ ?_
                                            rotate_left
                                            · intro w'
                                              go_simp
                                              with_reducible rfl
                                            rotate_left
                                            · simp only [Act.put, List.setIfInBounds_toArray, List.set_cons_zero, List.set_cons_succ, i64_w, i32_w]
                                              rfl
                                            refine last_ (i := 13) (N := none) #[true, true, true, true, true, true, true, true, true, true, true, true, true, true] rfl rfl (one_of HT_.out (by kernel_rfl)) (by decide) (fun K hK => ?_)
                                            refine skip_ (w1 := ?_) (by rfl) rfl ?_ ?_
                                            rotate_left
                                            · go_simp
                                              rfl
                                            refine hK.out _ _ ?_
                                            clear hK K
                                            refine done_ (done_of HT_.out (by kernel_rfl)) ?_
                                            try go_wp2
                                            go_loopg [11] kj31 (fun kq v11 w' => ∃ (x5_5 : List Int) (x6_5 : List Int) (x11_5 : Int), v11 = .int .i64 x11_5 ∧ Aside0 (tocsinlaw02_CrcTree.l2 kq l1 x5_5 x6_5 t134 x9_3 x11_5 = some r) ∧ Aside0 (kq ≤ kj31) ∧ Aside0 (Kd.R (Kd.int .u32) 26 w' w.heap.size (fun _ => True) (.slice (some ⟨go44, 0, none⟩) x5_3.length co33) x5_5) ∧ Aside0 (Kd.R (Kd.int .i64) 3 w' w.heap.size (fun _ => True) (.slice (some ⟨go46, 0, none⟩) x6_3.length co48) x6_5) ∧ Aside0 (Below w.heap.size w w'))
                                            case atStart => exact ⟨(y141), (y144), (ji39), (by first | rfl | (simp; done) | (simp only [← hji39] <;> (first | rfl | simp)) | (simp [*]; done)), H', ⟨Nat.le_refl _⟩, ⟨by (with_reducible repeat (first | apply Kd.R_alloc | apply Kd.R_drewN | apply Kd.R_drew)); exact Kd.R_mono (Kd.R_far (p := ⟨go46, (x10_31 : Int).toNat, none⟩) (Kd.R_types HO_5.out GG46.out (by decide)) (fun _ hk => hk.2) (.int .i64 (wrap64 ((rd x6_3 x10_31) + (rd x6_3 (ji39)))))) (fun _ hk => trivial)⟩, ⟨by (with_reducible repeat (first | apply Kd.R_alloc | apply Kd.R_drewN | apply Kd.R_drew)); exact HQ52.out⟩, ⟨by repeat (first | (with_reducible first | exact HB.out | apply below_alloc | apply pw_below_drewN | apply below_drew1 | refine below_set ?_ GB46.out) | exact HB.out)⟩⟩
                                            case round =>
                                              clear H'
                                              try clear c1
                                              try clear p1
                                              try clear q1
                                              try clear hx1
                                              try clear c2
                                              try clear p2
                                              try clear q2
                                              try clear hx2
                                              try clear hf2
                                              try clear c3
                                              try clear c4
                                              try clear p4
                                              try clear q4
                                              try clear hx4
                                              try clear hf4
                                              try clear c5
                                              try clear p6
                                              try clear c8
                                              try clear c9
                                              try clear c10
                                              try clear c10b0
                                              try clear c10b1
                                              try clear c11
                                              try clear c11b0
                                              try clear c11b1
                                              try clear c12
                                              try clear c12b0
                                              try clear c12b1
                                              try clear p12
                                              try clear q12
                                              try clear hx12
                                              try clear c13
                                              try clear p13
                                              try clear q13
                                              try clear hx13
                                              try clear c14
                                              try clear p14
                                              try clear q14
                                              try clear hx14
                                              try clear c15
                                              try clear c17
                                              try clear c17b0
                                              try clear c18
                                              try clear c18b0
                                              try clear c20
                                              try clear c20b0
                                              try clear p21
                                              try clear q21
                                              try clear hx21
                                              try clear hf21
                                              try clear c22
                                              try clear c22b0
                                              try clear p23
                                              try clear q23
                                              try clear hx23
                                              try clear hf23
                                              try clear c31
                                              try clear c31b0
                                              try clear c31b1
                                              try clear c34
                                              try clear c34b0
                                              try clear c35
                                              try clear c35b0
                                              try clear c36
                                              try clear c36b0
                                              try clear c36b1
                                              try clear c37
                                              try clear c37b0
                                              try clear c38
                                              try clear c38b0
                                              try clear c40
                                              try clear c40b0
                                              try clear c41
                                              try clear c41b0
                                              try clear c42
                                              try clear c42b0
                                              try clear p44
                                              try clear q44
                                              try clear hx44
                                              try clear hf44
                                              try clear c45
                                              try clear c45b0
                                              try clear p46
                                              try clear q46
                                              try clear hx46
                                              try clear hf46
                                              try clear hx129_0
                                              try clear hx132_0
                                              try clear hx136_0
                                              try clear hx137_0
                                              try clear hx138_0
                                              try clear hx139_0
                                              try clear hx142_0
                                              try clear hx143_0
                                              try clear hx21_0
                                              try clear hx23_0
                                              try clear hx44_0
                                              try clear hx46_0
                                              try clear p1
                                              try clear p12
                                              try clear p129
                                              try clear p13
                                              try clear p132
                                              try clear p136
                                              try clear p137
                                              try clear p138
                                              try clear p139
                                              try clear p142
                                              try clear p143
                                              try clear p2
                                              try clear p21
                                              try clear p23
                                              try clear p44
                                              try clear p46
                                              try clear p6
                                              try clear q1
                                              try clear q12
                                              try clear q129
                                              try clear q13
                                              try clear q132
                                              try clear q136
                                              try clear q137
                                              try clear q138
                                              try clear q139
                                              try clear q142
                                              try clear q143
                                              try clear q2
                                              try clear q21
                                              try clear q23
                                              try clear q44
                                              try clear q46
                                              obtain ⟨x5_5, x6_5, x11_5, rfl, HA, HK5, HO_5, HO_6, HB⟩ := hrel
                                              have hl5_5 := (Kd.R_reads' HO_5.out).1
                                              rw [hl5_5] at HO_5
                                              (try simp only [hl5_5])
                                              (try simp only [hl5_5] at HO_6)
                                              have hl6_5 := (Kd.R_reads' HO_6.out).1
                                              rw [hl6_5] at HO_6
                                              (try simp only [hl6_5])
                                              (try simp only [hl6_5] at HO_5)
                                              cases gk with
                                              | zero => exact absurd HA.out (by simp [tocsinlaw02_CrcTree.l2])
                                              | succ k5 =>
                                                have H := HA.out
                                                clear HA
                                                simp only [tocsinlaw02_CrcTree.l2] at H
                                                by_cases c53 : x11_5 < (wrap64 ((x5_5.length : Int) - 1))
                                                · rw [if_pos c53] at H
                                                  have c53b0 : decide (x11_5 < (wrap64 ((x5_5.length : Int) - 1))) = true := decide_eq_true c53
                                                  clear c53
                                                  obtain ⟨ji54, hji54⟩ : ∃ j_ : Int, (wrap64 (x11_5 + 1)) = j_ := ⟨_, rfl⟩
                                                  replace H : (if 0 ≤ (ji54) then (if (ji54) < (x5_5.length : Int) then (if 0 ≤ x11_5 then (if x11_5 < (x5_5.length : Int) then (if (ji54) < (x6_5.length : Int) then (if x11_5 < (x6_5.length : Int) then (tocsinlaw02_CrcTree.l2 k5 l1 (x5_5.set (x11_5 : Int).toNat (rd x5_5 (ji54))) (x6_5.set (x11_5 : Int).toNat (rd x6_5 (ji54))) t134 x9_3 ji54) else (none)) else (none)) else (none)) else (none)) else (none)) else (none)) = some r := by first | (rw [hji54] at H; exact H) | (simp only [hji54] at H ⊢; exact H)
                                                  have hji54w : (IntKind.i64.wrap (x11_5 + 1)) = ji54 := (i64_w _).trans hji54
                                                  by_cases c55 : 0 ≤ (ji54)
                                                  · rw [if_pos c55] at H
                                                    have c55b0 : decide (0 ≤ (ji54)) = true := decide_eq_true c55
                                                    clear c55
                                                    by_cases c56 : (ji54) < (x5_5.length : Int)
                                                    · rw [if_pos c56] at H
                                                      have c56b0 : decide ((ji54) < (x5_5.length : Int)) = true := decide_eq_true c56
                                                      clear c56
                                                      by_cases c57 : 0 ≤ x11_5
                                                      · rw [if_pos c57] at H
                                                        have c57b0 : decide (0 ≤ x11_5) = true := decide_eq_true c57
                                                        clear c57
                                                        by_cases c58 : x11_5 < (x5_5.length : Int)
                                                        · rw [if_pos c58] at H
                                                          have c58b0 : decide (x11_5 < (x5_5.length : Int)) = true := decide_eq_true c58
                                                          clear c58
                                                          obtain ⟨y146, hy146⟩ : ∃ y_ : List Int, y_ = (x5_5.set (x11_5 : Int).toNat (rd x5_5 (ji54))) := ⟨_, rfl⟩
                                                          replace H : (if (ji54) < (x6_5.length : Int) then (if x11_5 < (x6_5.length : Int) then (tocsinlaw02_CrcTree.l2 k5 l1 y146 (x6_5.set (x11_5 : Int).toNat (rd x6_5 (ji54))) t134 x9_3 ji54) else (none)) else (none)) = some r := by first | (rw [hy146]; with_reducible exact H) | (have H2_ := (Option.bind_some _ _).symm.trans H; rw [hy146]; with_reducible exact H2_) | (have H2_ := (Option.bind_some _ _).symm.trans H; with_reducible exact H2_) | with_reducible exact H | (rw [hy146]; exact H) | exact H
                                                          have Ny146 := Aside0.mk hy146
                                                          clear hy146
                                                          by_cases c60 : (ji54) < (x6_5.length : Int)
                                                          · rw [if_pos c60] at H
                                                            have c60b0 : decide ((ji54) < (x6_5.length : Int)) = true := decide_eq_true c60
                                                            clear c60
                                                            by_cases c61 : x11_5 < (x6_5.length : Int)
                                                            · rw [if_pos c61] at H
                                                              have c61b0 : decide (x11_5 < (x6_5.length : Int)) = true := decide_eq_true c61
                                                              clear c61
                                                              obtain ⟨y148, hy148⟩ : ∃ y_ : List Int, y_ = (x6_5.set (x11_5 : Int).toNat (rd x6_5 (ji54))) := ⟨_, rfl⟩
                                                              replace H : (tocsinlaw02_CrcTree.l2 k5 l1 y146 y148 t134 x9_3 ji54) = some r := by first | (rw [hy148]; with_reducible exact H) | (have H2_ := (Option.bind_some _ _).symm.trans H; rw [hy148]; with_reducible exact H2_) | (have H2_ := (Option.bind_some _ _).symm.trans H; with_reducible exact H2_) | with_reducible exact H | (rw [hy148]; exact H) | exact H
                                                              have Ny148 := Aside0.mk hy148
                                                              clear hy148
                                                              have H' := Aside0.mk H
                                                              clear H
                                                              have p145 : 0 ≤ ((ji54) : Int) := of_decide_eq_true (by first | (with_reducible assumption) | assumption)
                                                              have q145 : (ji54) < (x5_5.length : Int) := of_decide_eq_true (by first | (with_reducible assumption) | assumption)
                                                              obtain ⟨ad145, e145, hx145_0⟩ := Kd.at_int (Kd.R_reads' HO_5.out).2.2 (ji54) p145 q145
                                                              obtain rfl : (⟨go44, 0, none⟩ : Addr) = ad145 := (by injection e145)
                                                              (first | simp only [add_plain] at hx145_0 | simp only [add_at] at hx145_0 | simp only [Addr.add, Nat.zero_add] at hx145_0 | skip)
                                                              replace p145 := eq_true p145
                                                              replace q145 := eq_true q145
                                                              have p59 : 0 ≤ (x11_5 : Int) := of_decide_eq_true (by first | (with_reducible assumption) | assumption)
                                                              have q59 : (x11_5 : Int) < ((x5_5.length : Int) : Int) := of_decide_eq_true (by first | (with_reducible assumption) | assumption)
                                                              obtain ⟨hx59_0, hf59_0⟩ := Kd.R_celln 0 HO_5.out (x11_5 : Int) p59 q59
                                                              replace p59 := eq_true p59
                                                              replace q59 := eq_true q59
                                                              have HP63 := Kd.R_putg HO_5.out (x11_5 : Int) (rd x5_5 (ji54))
                                                              go_wp2_with (first | ((with_reducible refine gate_store (t := 26) (p := 116) rfl ?_); refine store_event (t := 26) (p := 116) (v := ?vo_w64) (w1 := (wr.setCell ⟨go44, (x11_5 : Int).toNat, none⟩ (.int .u32 (rd x5_5 (ji54))))) ?hg ?ho ?hn ?hr ?_; (case ho => rfl); (case hg => rfl); (case hn => rfl); (case hr => first | (go_simp; done) | (go_simp; rfl)); intro w64 hw; have hg : wr.grownBy w64 (some go44) := (by rw [hw]; exact HP63.2); have hp_ : Kd.R (Kd.int .u32) 26 w64 w.heap.size (fun _ => True) (.slice (some ⟨go44, 0, none⟩) x5_5.length co33) y146 := (by rw [hw, Ny146.out]; exact HP63.1); clear HP63; have n0_ := Aside0.mk (hp_); have n1_ := Aside0.mk (Kd.R_over' (v := (.slice (some ⟨go44, 0, none⟩) x5_5.length co33)) (by (with_reducible repeat (first | apply Kd.R_alloc | apply Kd.R_drewN | apply Kd.R_drew)); exact HO_6.out) (Kd.R_typed HO_5.out) (by decide) hg); have n2_ := Aside0.mk ((by rw [hw]; exact below_set (HB.out) GB44.out : Below w.heap.size w w64)); clear HO_5; clear HO_6; clear HB; have HO_5 := n0_; have HO_6 := n1_; have HB := n2_; clear n0_ n1_ n2_; clear hg hw hp_; have p147 : 0 ≤ ((ji54) : Int) := of_decide_eq_true (by first | (with_reducible assumption) | assumption); have q147 : (ji54) < (x6_5.length : Int) := of_decide_eq_true (by first | (with_reducible assumption) | assumption); obtain ⟨ad147, e147, hx147_0⟩ := Kd.at_int (Kd.R_reads' HO_6.out).2.2 (ji54) p147 q147; obtain rfl : (⟨go46, 0, none⟩ : Addr) = ad147 := (by injection e147); (first | simp only [add_plain] at hx147_0 | simp only [add_at] at hx147_0 | simp only [Addr.add, Nat.zero_add] at hx147_0 | skip); replace p147 := eq_true p147; replace q147 := eq_true q147; have p62 : 0 ≤ (x11_5 : Int) := of_decide_eq_true (by first | (with_reducible assumption) | assumption); have q62 : (x11_5 : Int) < ((x6_5.length : Int) : Int) := of_decide_eq_true (by first | (with_reducible assumption) | assumption); obtain ⟨hx62_0, hf62_0⟩ := Kd.R_celln 0 HO_6.out (x11_5 : Int) p62 q62; replace p62 := eq_true p62; replace q62 := eq_true q62; obtain ⟨hy65_, hz65_⟩ := Kd.R_celln 0 HO_6.out (x11_5 : Int) (of_decide_eq_true (by first | (with_reducible assumption) | assumption)) (of_decide_eq_true (by first | (with_reducible assumption) | assumption)); have HP65 := Kd.R_putg HO_6.out (x11_5 : Int) (rd x6_5 (ji54))) | ((with_reducible refine gate_store (t := 3) (p := 124) rfl ?_); refine store_event (t := 3) (p := 124) (v := ?vo_w66) (w1 := (w64.setCell ⟨go46, (x11_5 : Int).toNat, none⟩ (.int .i64 (rd x6_5 (ji54))))) ?hg ?ho ?hn ?hr ?_; (case ho => rfl); (case hg => rfl); (case hn => rfl); (case hr => first | (go_simp; done) | (go_simp; rfl)); intro w66 hw; have hg : w64.grownBy w66 (some go46) := (by rw [hw]; exact HP65.2); have hp_ : Kd.R (Kd.int .i64) 3 w66 w.heap.size (fun _ => True) (.slice (some ⟨go46, 0, none⟩) x6_5.length co48) y148 := (by rw [hw, Ny148.out]; exact HP65.1); clear HP65; have n0_ := Aside0.mk (Kd.R_over' (v := (.slice (some ⟨go46, 0, none⟩) x6_5.length co48)) (by (with_reducible repeat (first | apply Kd.R_alloc | apply Kd.R_drewN | apply Kd.R_drew)); exact HO_5.out) (Kd.R_typed HO_6.out) (by decide) hg); have n1_ := Aside0.mk (hp_); have n2_ := Aside0.mk ((by rw [hw]; exact below_set (HB.out) GB46.out : Below w.heap.size w w66)); clear HO_5; clear HO_6; clear HB; have HO_5 := n0_; have HO_6 := n1_; have HB := n2_; clear n0_ n1_ n2_; clear hg hw hp_))
                                                              (try simp only [← hl5_5, ← hl6_5])
                                                              go_roundg k5
                                                              case measure => have := HJ4.out; have := HK2.out; have := HK3.out; have := HJ31.out; have := HK5.out; omega
                                                              case rel => exact ⟨(y146), (y148), (ji54), (by first | rfl | (simp; done) | (simp only [← hji54] <;> (first | rfl | simp)) | (simp [*]; done)), H', ⟨by have := HJ4.out; have := HK2.out; have := HK3.out; have := HJ31.out; have := HK5.out; omega⟩, ⟨by (try simp only [hl5_5]); (try simp only [hl6_5]); (with_reducible repeat (first | apply Kd.R_alloc | apply Kd.R_drewN | apply Kd.R_drew)); exact HO_5.out⟩, ⟨by (try simp only [hl5_5]); (try simp only [hl6_5]); (with_reducible repeat (first | apply Kd.R_alloc | apply Kd.R_drewN | apply Kd.R_drew)); exact HO_6.out⟩, ⟨by repeat (first | (with_reducible first | exact HB.out | apply below_alloc | apply pw_below_drewN | apply below_drew1) | exact HB.out)⟩⟩
                                                            · rw [if_neg c61] at H
                                                              exact absurd H (by simp)
                                                          · rw [if_neg c60] at H
                                                            exact absurd H (by simp)
                                                        · rw [if_neg c58] at H
                                                          exact absurd H (by simp)
                                                      · rw [if_neg c57] at H
                                                        exact absurd H (by simp)
                                                    · rw [if_neg c56] at H
                                                      exact absurd H (by simp)
                                                  · rw [if_neg c55] at H
                                                    exact absurd H (by simp)
                                                · rw [if_neg c53] at H
                                                  have c53b0 : decide (x11_5 < (wrap64 ((x5_5.length : Int) - 1))) = false := decide_eq_false c53
                                                  clear c53
                                                  obtain ⟨ji67, hji67⟩ : ∃ j_ : Int, (wrap64 ((x5_5.length : Int) - 1)) = j_ := ⟨_, rfl⟩
                                                  replace H : (if 0 ≤ (ji67) then (if (ji67) ≤ (x5_5.length : Int) then (if 0 ≤ (wrap64 ((x6_5.length : Int) - 1)) then (if (wrap64 ((x6_5.length : Int) - 1)) ≤ (x6_5.length : Int) then (tocsinlaw02_CrcTree.l1 k5 l1 (x5_5.take ((ji67) : Int).toNat) (x6_5.take ((wrap64 ((x6_5.length : Int) - 1)) : Int).toNat) t134 (wrap64 (x9_3 + 1))) else (none)) else (none)) else (none)) else (none)) = some r := by first | (rw [hji67] at H; exact H) | (simp only [hji67] at H ⊢; exact H)
                                                  (try rw [hji67] at c53b0)
                                                  have hji67w : (IntKind.i64.wrap ((x5_5.length : Int) - 1)) = ji67 := (i64_w _).trans hji67
                                                  by_cases c68 : 0 ≤ (ji67)
                                                  · rw [if_pos c68] at H
                                                    have c68b0 := eq_true c68
                                                    have c68b1 : decide (0 ≤ (ji67)) = true := decide_eq_true c68
                                                    clear c68
                                                    by_cases c69 : (ji67) ≤ (x5_5.length : Int)
                                                    · rw [if_pos c69] at H
                                                      have c69b0 := eq_true c69
                                                      have c69b1 : decide ((ji67) ≤ (x5_5.length : Int)) = true := decide_eq_true c69
                                                      clear c69
                                                      obtain ⟨y149, hy149⟩ : ∃ y_ : List Int, y_ = (x5_5.take ((ji67) : Int).toNat) := ⟨_, rfl⟩
                                                      replace H : (if 0 ≤ (wrap64 ((x6_5.length : Int) - 1)) then (if (wrap64 ((x6_5.length : Int) - 1)) ≤ (x6_5.length : Int) then (tocsinlaw02_CrcTree.l1 k5 l1 y149 (x6_5.take ((wrap64 ((x6_5.length : Int) - 1)) : Int).toNat) t134 (wrap64 (x9_3 + 1))) else (none)) else (none)) = some r := by first | (rw [hy149]; with_reducible exact H) | (have H2_ := (Option.bind_some _ _).symm.trans H; rw [hy149]; with_reducible exact H2_) | (have H2_ := (Option.bind_some _ _).symm.trans H; with_reducible exact H2_) | with_reducible exact H | (rw [hy149]; exact H) | exact H
                                                      have Ny149 := Aside0.mk hy149
                                                      clear hy149
                                                      obtain ⟨ji70, hji70⟩ : ∃ j_ : Int, (wrap64 ((x6_5.length : Int) - 1)) = j_ := ⟨_, rfl⟩
                                                      replace H : (if 0 ≤ (ji70) then (if (ji70) ≤ (x6_5.length : Int) then (tocsinlaw02_CrcTree.l1 k5 l1 y149 (x6_5.take ((ji70) : Int).toNat) t134 (wrap64 (x9_3 + 1))) else (none)) else (none)) = some r := by first | (rw [hji70] at H; exact H) | (simp only [hji70] at H ⊢; exact H)
                                                      have hji70w : (IntKind.i64.wrap ((x6_5.length : Int) - 1)) = ji70 := (i64_w _).trans hji70
                                                      by_cases c71 : 0 ≤ (ji70)
                                                      · rw [if_pos c71] at H
                                                        have c71b0 := eq_true c71
                                                        have c71b1 : decide (0 ≤ (ji70)) = true := decide_eq_true c71
                                                        clear c71
                                                        by_cases c72 : (ji70) ≤ (x6_5.length : Int)
                                                        · rw [if_pos c72] at H
                                                          have c72b0 := eq_true c72
                                                          have c72b1 : decide ((ji70) ≤ (x6_5.length : Int)) = true := decide_eq_true c72
                                                          clear c72
                                                          obtain ⟨y152, hy152⟩ : ∃ y_ : List Int, y_ = (x6_5.take ((ji70) : Int).toNat) := ⟨_, rfl⟩
                                                          replace H : (tocsinlaw02_CrcTree.l1 k5 l1 y149 y152 t134 (wrap64 (x9_3 + 1))) = some r := by first | (rw [hy152]; with_reducible exact H) | (have H2_ := (Option.bind_some _ _).symm.trans H; rw [hy152]; with_reducible exact H2_) | (have H2_ := (Option.bind_some _ _).symm.trans H; with_reducible exact H2_) | with_reducible exact H | (rw [hy152]; exact H) | exact H
                                                          have Ny152 := Aside0.mk hy152
                                                          clear hy152
                                                          have H' := Aside0.mk H
                                                          clear H
                                                          have q73 : ((ji67) : Int) ≤ ((x5_5.length : Int) : Int) := of_decide_eq_true (by first | (with_reducible assumption) | assumption)
                                                          obtain ⟨i073, hi073, _, hsz73, _⟩ := info_parts info26
                                                          have hcut73 := cut_to (P := Try.prog) 32 26 .i64 Try.underlying32 hi073 (some ⟨go44, 0, none⟩) x5_5.length co33 (ji67) (of_decide_eq_true (by first | (with_reducible assumption) | assumption)) q73 (Kd.R_reads' HO_5.out).2.1
                                                          have hr73 := Kd.R_take (m := ((ji67) : Int).toNat) HO_5.out (by omega)
                                                          have hy73 : y149.length = ((ji67) : Int).toNat := (by rw [Ny149.out, List.length_take]; omega)
                                                          rw [← Ny149.out] at hr73
                                                          rw [← hy73] at hr73 hcut73
                                                          clear hy73 hi073 hsz73 HO_5
                                                          have HO151 := Aside0.mk hr73
                                                          clear hr73
                                                          replace q73 := eq_true q73
                                                          have q74 : ((ji70) : Int) ≤ ((x6_5.length : Int) : Int) := of_decide_eq_true (by first | (with_reducible assumption) | assumption)
                                                          obtain ⟨i074, hi074, _, hsz74, _⟩ := info_parts info3
                                                          have hcut74 := cut_to (P := Try.prog) 33 3 .i64 Try.underlying33 hi074 (some ⟨go46, 0, none⟩) x6_5.length co48 (ji70) (of_decide_eq_true (by first | (with_reducible assumption) | assumption)) q74 (Kd.R_reads' HO_6.out).2.1
                                                          have hr74 := Kd.R_take (m := ((ji70) : Int).toNat) HO_6.out (by omega)
                                                          have hy74 : y152.length = ((ji70) : Int).toNat := (by rw [Ny152.out, List.length_take]; omega)
                                                          rw [← Ny152.out] at hr74
                                                          rw [← hy74] at hr74 hcut74
                                                          clear hy74 hi074 hsz74 HO_6
                                                          have HO154 := Aside0.mk hr74
                                                          clear hr74
                                                          replace q74 := eq_true q74
                                                          go_wp2
                                                          (try simp only [← hl5_5, ← hl6_5])
                                                          go_roundg k5
                                                          case measure => have := HJ4.out; have := HK2.out; have := HK3.out; have := HJ31.out; have := HK5.out; omega
                                                          case rel => exact ⟨(y149), (y152), (wrap64 (x9_3 + 1)), (by first | rfl | (simp; done) | (simp [*]; done)), H', ⟨by have := HJ4.out; have := HK2.out; have := HK3.out; have := HJ31.out; have := HK5.out; omega⟩, ⟨by (try simp only [hl5_5]); (try simp only [hl6_5]); (with_reducible repeat (first | apply Kd.R_alloc | apply Kd.R_drewN | apply Kd.R_drew)); exact HO151.out⟩, ⟨by (try simp only [hl5_5]); (try simp only [hl6_5]); (with_reducible repeat (first | apply Kd.R_alloc | apply Kd.R_drewN | apply Kd.R_drew)); exact HO154.out⟩, ⟨by repeat (first | (with_reducible first | exact HB.out | apply below_alloc | apply pw_below_drewN | apply below_drew1) | exact HB.out)⟩⟩
                                                        · rw [if_neg c72] at H
                                                          exact absurd H (by simp)
                                                      · rw [if_neg c71] at H
                                                        exact absurd H (by simp)
                                                    · rw [if_neg c69] at H
                                                      exact absurd H (by simp)
                                                  · rw [if_neg c68] at H
                                                    exact absurd H (by simp)
                                          · rw [if_neg c45] at H
                                            exact absurd H (by simp)
                                        · rw [if_neg c42] at H
                                          exact absurd H (by simp)
                                      · rw [if_neg c41] at H
                                        exact absurd H (by simp)
                                    · rw [if_neg c40] at H
                                      exact absurd H (by simp)
                                  · rw [if_neg c38] at H
                                    exact absurd H (by simp)
                                · rw [if_neg c37] at H
                                  exact absurd H (by simp)
                          · rw [if_neg c31] at H
                            have c31b0 : decide (1 < (x5_3.length : Int)) = false := decide_eq_false c31
                            have c31b1 : decide (1 < x5_3.length) = false := decide_eq_false (by omega)
                            clear c31
                            by_cases c75 : (x5_3.length : Int) = 0
                            · rw [if_pos c75] at H
                              have c75b0 : ((x5_3.length : Int) == 0) = true := beq_iff_eq.mpr c75
                              have c75b1 : ((x5_3.length : Int) != 0) = false := bne_eq_false_iff_eq.mpr c75
                              clear c75
                              obtain rfl := Option.some.inj H
                              obtain ⟨Ao76, co76, eo76⟩ := Kd.R_slice HO_5.out
                              subst eo76
                              go_wp2
                              go_ret
                              exact ⟨by first | rfl | (simp [errW_none, errW_some] <;> rfl) | (simp [*, errW_none, errW_some] <;> rfl), by repeat (first | (with_reducible first | exact HB.out | apply below_alloc | apply pw_below_drewN | apply below_drew1) | exact HB.out)⟩
                            · rw [if_neg c75] at H
                              have c75b0 : ((x5_3.length : Int) == 0) = false := beq_eq_false_iff_ne.mpr c75
                              have c75b1 : ((x5_3.length : Int) != 0) = true := bne_iff_ne.mpr c75
                              have c75b2 : ¬ (x5_3 = []) := fun h_ => c75 (by rw [h_]; rfl)
                              by_cases c77 : 0 < (x5_3.length : Int)
                              · rw [if_pos c77] at H
                                have c77b0 : decide (0 < (x5_3.length : Int)) = true := decide_eq_true c77
                                have c77b1 : decide (0 < x5_3.length) = true := decide_eq_true (by omega)
                                clear c77
                                obtain rfl := Option.some.inj H
                                obtain ⟨Ao78, co78, eo78⟩ := Kd.R_slice HO_5.out
                                subst eo78
                                have p135 : 0 ≤ (0 : Int) := (by omega)
                                have q135 : 0 < (x5_3.length : Int) := of_decide_eq_true (by first | (with_reducible assumption) | assumption)
                                obtain ⟨ad135, e135, hx135_0⟩ := Kd.at_int (Kd.R_reads' HO_5.out).2.2 0 p135 q135
                                cases e135
                                have qi135 : (0 < x5_3.length) = True := eq_true (by omega)
                                (try rw [show ((0 : Int)).toNat = 0 from rfl] at hx135_0)
                                (try rw [Addr.add_zero'] at hx135_0)
                                replace p135 := eq_true p135
                                replace q135 := eq_true q135
                                go_wp2
                                go_ret
                                exact ⟨by first | rfl | (simp [errW_none, errW_some] <;> rfl) | (simp [*, errW_none, errW_some] <;> rfl), by repeat (first | (with_reducible first | exact HB.out | apply below_alloc | apply pw_below_drewN | apply below_drew1) | exact HB.out)⟩
                              · rw [if_neg c77] at H
                                exact absurd H (by simp)
              · rw [if_neg c12] at H
                exact absurd H (by simp)
            · rw [if_neg c11] at H
              exact absurd H (by simp)
          · rw [if_neg c10] at H
            exact absurd H (by simp)
  · replace c4 := Bool.eq_false_iff.mpr c4
    subst c4
    have H1 : (some false) = some r := by rw [if_neg (show ¬ (false = true) by decide)] at H; exact H
    clear H
    have H := H1
    clear H1
    obtain rfl := Option.some.inj H
    go_enter Try.func5, Try.ntmps5
    go_wp2_with (first | ((with_reducible refine gate_callee (f := 17) rfl ?_); refine goesL_ (some 12) rfl rfl Try.func17 (by kernel_rfl) rfl #[] rfl (by (try simp only [List.map_toArray, List.map_cons, List.map_nil]); first | done | rfl | (simp only [List.length_drop, List.length_take]; rfl)) ?_; (with_reducible refine (tocsinlaw02_awake.calls  false _ A3.out).mono ?_); rintro e w79 ⟨rfl, hb⟩; refine ⟨_, rfl, ?_⟩; have n0_ := Aside0.mk (below_step (by repeat (first | (with_reducible first | exact HB.out | apply below_alloc | apply pw_below_drewN | apply below_drew1) | exact HB.out)) hb); clear HB; have HB := n0_; clear n0_; (try clear hb); (try clear hb2); (try clear hk); (try clear hi)))
    go_ret
    exact ⟨by first | rfl | (simp [errW_none, errW_some] <;> rfl) | (simp [*, errW_none, errW_some] <;> rfl), by repeat (first | (with_reducible first | exact HB.out | apply below_alloc | apply pw_below_drewN | apply below_drew1) | exact HB.out)⟩

end Go.Proofs.Ytfejhegogajnhaa.PAll
