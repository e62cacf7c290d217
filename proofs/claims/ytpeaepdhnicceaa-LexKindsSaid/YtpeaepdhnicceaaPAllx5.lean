/- Printed by a program of this session (wip/tools/myprint.py, which runs the kit's own printer) over contracts proved by hand: functions and their walks, and the row of a law: for every input it returns true. No conditions. -/
import Derived.Test.YtpeaepdhnicceaaPAllx0
import Derived.Test.YtpeaepdhnicceaaPAllx1
import Derived.Test.YtpeaepdhnicceaaPAllx2
namespace Go.Proofs.Ytpeaepdhnicceaa.PAll
open Go.RowKit Go.Proofs.Ytpeaepdhnicceaa.Ix Go.Proofs.Ytpeaepdhnicceaa.PBase Go.Proofs.Ytpeaepdhnicceaa.PTy Go.Proofs.Ytpeaepdhnicceaa.Given Go.Proofs.YtpeaepdhnicceaaW.PrintWords Go.Proofs.YtpeaepdhnicceaaW.PrintLast Go.Proofs.YtpeaepdhnicceaaW.PrintMore
attribute [local go_sem] max2_int min2_int max_two min_two max_three min_three max_four min_four   -- for this text's walks alone
set_option linter.unusedVariables false
set_option linter.unusedSimpArgs false

attribute [local go_sem high] eqA31
/-! ### tocsinlaw09_LexKinds: function 9 -/
mutual
def tocsinlaw09_LexKinds.l0 : Nat → List Int → ByteArray → Int → Option (Bool)
  | 0, _, _, _ => none
  | k + 1, x1, x5, x6 => if x6 > 0 then ((some (([(IntKind.u64.wrap (48 + (Int.tmod x6 10))) % 256] : List Int) : List Int)).bind fun y188 => (if (strOfNums y188).size + x5.size ≤ 9223372036854775807 then (tocsinlaw09_LexKinds.l0 k x1 ((strOfNums y188) ++ x5) (IntKind.u64.wrap (Int.tdiv x6 10))) else (none))) else (if x5.toList = ([] : List UInt8) then ((some (([(IntKind.u64.wrap (48 + (Int.tmod x6 10))) % 256] : List Int) : List Int)).bind fun y191 => (if (strOfNums y191).size + x5.size ≤ 9223372036854775807 then (tocsinlaw09_LexKinds.l0 k x1 ((strOfNums y191) ++ x5) (IntKind.u64.wrap (Int.tdiv x6 10))) else (none))) else ((lex_All.f x5).bind fun bt194 => (if bt194.2.2 = 0 then (if (bt194.1.length : Int) = 1 then (if 0 < (bt194.1.length : Int) then (tocsinlaw09_LexKinds.j1 k x1 x5 (!(((rd_T31 bt194.1 0).f0) == 2) || (!((((rd_T31 bt194.1 0).f1).toList) == x5.toList) || (!(((rd_T31 bt194.1 0).f2) == 0))))) else (none)) else (tocsinlaw09_LexKinds.j1 k x1 x5 true)) else (tocsinlaw09_LexKinds.j1 k x1 x5 true))))
def tocsinlaw09_LexKinds.j1 : Nat → List Int → ByteArray → Bool → Option (Bool)
  | 0, _, _, _ => none
  | k + 1, x1, x5, x57 => if x57 = true then (some false) else (if (x1.length : Int) < 1 then (tocsinlaw09_LexKinds.j2 k x1 x5 true) else (tocsinlaw09_LexKinds.j2 k x1 x5 (decide ((x1.length : Int) > 20))))
def tocsinlaw09_LexKinds.j2 : Nat → List Int → ByteArray → Bool → Option (Bool)
  | 0, _, _, _ => none
  | k + 1, x1, x5, x65 => if x65 = true then (some true) else (tocsinlaw09_LexKinds.l1 k x1 x5 (⟨#[]⟩ : ByteArray) 0)
def tocsinlaw09_LexKinds.l1 : Nat → List Int → ByteArray → ByteArray → Int → Option (Bool)
  | 0, _, _, _, _ => none
  | k + 1, x1, x5, x10, x11 => if x11 < (x1.length : Int) then (if 0 ≤ x11 then ((some (([(97 + (Int.tmod (rd x1 x11) 26)) % 256] : List Int) : List Int)).bind fun y201 => (if x10.size + (strOfNums y201).size ≤ 9223372036854775807 then (tocsinlaw09_LexKinds.l1 k x1 x5 (x10 ++ (strOfNums y201)) (wrap64 (x11 + 1))) else (none))) else (none)) else (if x10.size + x5.size ≤ 9223372036854775807 then ((lex_All.f (x10 ++ x5)).bind fun bt204 => (if 1 + x10.size ≤ 9223372036854775807 then (if ((⟨#[34]⟩ : ByteArray) ++ x10).size + 1 ≤ 9223372036854775807 then (if (((⟨#[34]⟩ : ByteArray) ++ x10) ++ (⟨#[32]⟩ : ByteArray)).size + x5.size ≤ 9223372036854775807 then (if ((((⟨#[34]⟩ : ByteArray) ++ x10) ++ (⟨#[32]⟩ : ByteArray)) ++ x5).size + 1 ≤ 9223372036854775807 then ((lex_All.f (((((⟨#[34]⟩ : ByteArray) ++ x10) ++ (⟨#[32]⟩ : ByteArray)) ++ x5) ++ (⟨#[34]⟩ : ByteArray))).bind fun bt209 => (if bt204.2.2 = 0 then (if (bt204.1.length : Int) = 1 then (if 0 < (bt204.1.length : Int) then (if (((rd_T31 bt204.1 0).f0) == 1 && ((((rd_T31 bt204.1 0).f1).toList) == ((x10 ++ x5).toList) && (((rd_T31 bt204.1 0).f2) == 0))) = true then (if bt209.2.2 = 0 then (if (bt209.1.length : Int) = 1 then (if 0 < (bt209.1.length : Int) then (if x10.size + 1 ≤ 9223372036854775807 then (if (x10 ++ (⟨#[32]⟩ : ByteArray)).size + x5.size ≤ 9223372036854775807 then (some (((rd_T31 bt209.1 0).f0) == 3 && ((((rd_T31 bt209.1 0).f1).toList) == (((x10 ++ (⟨#[32]⟩ : ByteArray)) ++ x5).toList) && (((rd_T31 bt209.1 0).f2) == 0)))) else (none)) else (none)) else (none)) else (some false)) else (some false)) else (some false)) else (none)) else (some false)) else (some false))) else (none)) else (none)) else (none)) else (none))) else (none))
end
def tocsinlaw09_LexKinds.f (k : Nat) (a0 : Int) (l1 : List Int) : Option (Bool) := (tocsinlaw09_awake.f).bind fun t187 => (if t187 = true then (tocsinlaw09_LexKinds.l0 k l1 (⟨#[]⟩ : ByteArray) a0) else (some false))
theorem tocsinlaw09_LexKinds.mono_l : ∀ k, (∀ y0 y1 y2, LeO (tocsinlaw09_LexKinds.l0 k y0 y1 y2) (tocsinlaw09_LexKinds.l0 (k + 1) y0 y1 y2)) ∧ (∀ y0 y1 y2, LeO (tocsinlaw09_LexKinds.j1 k y0 y1 y2) (tocsinlaw09_LexKinds.j1 (k + 1) y0 y1 y2)) ∧ (∀ y0 y1 y2, LeO (tocsinlaw09_LexKinds.j2 k y0 y1 y2) (tocsinlaw09_LexKinds.j2 (k + 1) y0 y1 y2)) ∧ (∀ y0 y1 y2 y3, LeO (tocsinlaw09_LexKinds.l1 k y0 y1 y2 y3) (tocsinlaw09_LexKinds.l1 (k + 1) y0 y1 y2 y3))
  | 0 => ⟨fun _ _ _ r h => by simp [tocsinlaw09_LexKinds.l0] at h, fun _ _ _ r h => by simp [tocsinlaw09_LexKinds.j1] at h, fun _ _ _ r h => by simp [tocsinlaw09_LexKinds.j2] at h, fun _ _ _ _ r h => by simp [tocsinlaw09_LexKinds.l1] at h⟩
  | k + 1 => by
    obtain ⟨ih0, ih1, ih2, ih3⟩ := tocsinlaw09_LexKinds.mono_l k
    refine ⟨?_, ?_, ?_, ?_⟩
    · intro y0 y1 y2
      unfold tocsinlaw09_LexKinds.l0
      repeat' first
      | (with_reducible exact ih0 _ _ _)
      | (with_reducible exact ih1 _ _ _)
      | (with_reducible exact ih2 _ _ _)
      | (with_reducible exact ih3 _ _ _ _)
      | (with_reducible exact LeO.refl _)
      | (with_reducible exact LeO.none _)
      | (with_reducible refine LeO.ite ?_ ?_)
      | (with_reducible refine LeO.bind ?_ (fun _ => ?_))
      | exact ih0 _ _ _
      | exact ih1 _ _ _
      | exact ih2 _ _ _
      | exact ih3 _ _ _ _
      | exact LeO.none _
      | refine LeO.ite ?_ ?_
      | refine LeO.bind ?_ (fun _ => ?_)
    · intro y0 y1 y2
      unfold tocsinlaw09_LexKinds.j1
      repeat' first
      | (with_reducible exact ih0 _ _ _)
      | (with_reducible exact ih1 _ _ _)
      | (with_reducible exact ih2 _ _ _)
      | (with_reducible exact ih3 _ _ _ _)
      | (with_reducible exact LeO.refl _)
      | (with_reducible exact LeO.none _)
      | (with_reducible refine LeO.ite ?_ ?_)
      | (with_reducible refine LeO.bind ?_ (fun _ => ?_))
      | exact ih0 _ _ _
      | exact ih1 _ _ _
      | exact ih2 _ _ _
      | exact ih3 _ _ _ _
      | exact LeO.none _
      | refine LeO.ite ?_ ?_
      | refine LeO.bind ?_ (fun _ => ?_)
    · intro y0 y1 y2
      unfold tocsinlaw09_LexKinds.j2
      repeat' first
      | (with_reducible exact ih0 _ _ _)
      | (with_reducible exact ih1 _ _ _)
      | (with_reducible exact ih2 _ _ _)
      | (with_reducible exact ih3 _ _ _ _)
      | (with_reducible exact LeO.refl _)
      | (with_reducible exact LeO.none _)
      | (with_reducible refine LeO.ite ?_ ?_)
      | (with_reducible refine LeO.bind ?_ (fun _ => ?_))
      | exact ih0 _ _ _
      | exact ih1 _ _ _
      | exact ih2 _ _ _
      | exact ih3 _ _ _ _
      | exact LeO.none _
      | refine LeO.ite ?_ ?_
      | refine LeO.bind ?_ (fun _ => ?_)
    · intro y0 y1 y2 y3
      unfold tocsinlaw09_LexKinds.l1
      repeat' first
      | (with_reducible exact ih0 _ _ _)
      | (with_reducible exact ih1 _ _ _)
      | (with_reducible exact ih2 _ _ _)
      | (with_reducible exact ih3 _ _ _ _)
      | (with_reducible exact LeO.refl _)
      | (with_reducible exact LeO.none _)
      | (with_reducible refine LeO.ite ?_ ?_)
      | (with_reducible refine LeO.bind ?_ (fun _ => ?_))
      | exact ih0 _ _ _
      | exact ih1 _ _ _
      | exact ih2 _ _ _
      | exact ih3 _ _ _ _
      | exact LeO.none _
      | refine LeO.ite ?_ ?_
      | refine LeO.bind ?_ (fun _ => ?_)
theorem tocsinlaw09_LexKinds.mono : ∀ a0 a1 k, LeO (tocsinlaw09_LexKinds.f k a0 a1) (tocsinlaw09_LexKinds.f (k + 1) a0 a1) := by
  intro a0 a1 k
  obtain ⟨ih0, ih1, ih2, ih3⟩ := tocsinlaw09_LexKinds.mono_l k
  unfold tocsinlaw09_LexKinds.f
  repeat' first
      | (with_reducible exact ih0 _ _ _)
      | (with_reducible exact ih1 _ _ _)
      | (with_reducible exact ih2 _ _ _)
      | (with_reducible exact ih3 _ _ _ _)
      | (with_reducible exact LeO.refl _)
      | (with_reducible exact LeO.none _)
      | (with_reducible refine LeO.ite ?_ ?_)
      | (with_reducible refine LeO.bind ?_ (fun _ => ?_))
      | exact ih0 _ _ _
      | exact ih1 _ _ _
      | exact ih2 _ _ _
      | exact ih3 _ _ _ _
      | exact LeO.none _
      | refine LeO.ite ?_ ?_
      | refine LeO.bind ?_ (fun _ => ?_)
set_option maxHeartbeats 8000000 in
set_option maxRecDepth 100000 in
theorem tocsinlaw09_LexKinds.calls (k : Nat) (a0 : Int) (A1 : Option Addr) (c1 : Nat) (l1 : List Int) (r : Bool) (w : World) (hr1 : Kd.C (Kd.int .u8) w A1 l1.length l1) (hc1 : l1.length ≤ c1) (h : tocsinlaw09_LexKinds.f k a0 l1 = some r) :
    Calls Try.prog 9 #[.int .u64 a0, .slice A1 l1.length c1] w fun e w' => e = .returned (.bool r) ∧ Below w.heap.size w w' := by
  have hu31 := Try.underlying31
  have HR1 := Aside0.mk hr1
  have HC1 := Aside0.mk hc1
  clear hr1 hc1
  have HB := Aside0.mk (Below.refl w.heap.size w)
  have H : ((tocsinlaw09_awake.f).bind fun t187 => (if t187 = true then (tocsinlaw09_LexKinds.l0 k l1 (⟨#[]⟩ : ByteArray) a0) else (some false))) = some r := h
  clear h
  replace H := Option.bind_eq_some_iff.mp H
  obtain ⟨t187, A30, H⟩ := H
  replace H : (if t187 = true then (tocsinlaw09_LexKinds.l0 k l1 (⟨#[]⟩ : ByteArray) a0) else (some false)) = some r := H
  have A3 := Aside0.mk A30
  clear A30
  by_cases c4 : t187 = true
  · subst c4
    have H1 : (tocsinlaw09_LexKinds.l0 k l1 (⟨#[]⟩ : ByteArray) a0) = some r := by rw [if_pos rfl] at H; exact H
    clear H
    have H := H1
    clear H1
    have H' := Aside0.mk H
    clear H
    go_enter Try.func9, Try.ntmps9
    go_wp2_with (first | ((with_reducible refine gate_callee (f := 14) rfl ?_); refine goesL_ (some 18) rfl rfl Try.func14 (by kernel_rfl) rfl #[] rfl (by (try simp only [List.map_toArray, List.map_cons, List.map_nil]); first | done | rfl | (simp only [List.length_drop, List.length_take]; rfl)) ?_; (with_reducible refine (tocsinlaw09_awake.calls  true _ A3.out).mono ?_); rintro e w5 ⟨rfl, hb⟩; refine ⟨_, rfl, ?_⟩; have n0_ := Aside0.mk (below_step (by repeat (first | (with_reducible first | exact HB.out | apply below_alloc | apply pw_below_drewN | apply below_drew1) | exact HB.out)) hb); clear HB; have HB := n0_; clear n0_; (try clear hb); (try clear hb2); (try clear hk); (try clear hi)))
    go_loopg [5, 6] k (fun kq v5 v6 w' => ∃ (x5_1 : ByteArray) (x6_1 : Int), v5 = .string x5_1 ∧ v6 = .int .u64 x6_1 ∧ Aside0 (tocsinlaw09_LexKinds.l0 kq l1 x5_1 x6_1 = some r) ∧ Aside0 (kq ≤ k) ∧ Aside0 (Below w.heap.size w w'))
    case atStart => exact ⟨((⟨#[]⟩ : ByteArray)), (a0), (by first | rfl | (simp; done) | (simp [*]; done)), (by first | rfl | (simp; done) | (simp [*]; done)), H', ⟨Nat.le_refl _⟩, ⟨by repeat (first | (with_reducible first | exact HB.out | apply below_alloc | apply pw_below_drewN | apply below_drew1) | exact HB.out)⟩⟩
    case round =>
      clear H'
      try clear c1
      try clear p2
      try clear c4
      obtain ⟨x5_1, x6_1, rfl, rfl, HA, HK1, HB⟩ := hrel
      cases gk with
      | zero => exact absurd HA.out (by simp [tocsinlaw09_LexKinds.l0])
      | succ k1 =>
        have H := HA.out
        clear HA
        simp only [tocsinlaw09_LexKinds.l0] at H
        by_cases c6 : x6_1 > 0
        · rw [if_pos c6] at H
          have c6b0 : decide (0 < x6_1) = true := decide_eq_true c6
          clear c6
          obtain ⟨y188, hy188⟩ : ∃ y_ : List Int, y_ = (([(IntKind.u64.wrap (48 + (Int.tmod x6_1 10))) % 256] : List Int)) := ⟨_, rfl⟩
          replace H : (if (strOfNums y188).size + x5_1.size ≤ 9223372036854775807 then (tocsinlaw09_LexKinds.l0 k1 l1 ((strOfNums y188) ++ x5_1) (IntKind.u64.wrap (Int.tdiv x6_1 10))) else (none)) = some r := by first | (rw [hy188]; with_reducible exact H) | (have H2_ := (Option.bind_some _ _).symm.trans H; rw [hy188]; with_reducible exact H2_) | (have H2_ := (Option.bind_some _ _).symm.trans H; with_reducible exact H2_) | with_reducible exact H | (rw [hy188]; exact H) | exact H
          have Ny188 := Aside0.mk hy188
          clear hy188
          by_cases c7 : (strOfNums y188).size + x5_1.size ≤ 9223372036854775807
          · rw [if_pos c7] at H
            have c7b0 := eq_true c7
            have c7b1 : decide ((strOfNums y188).size + x5_1.size ≤ 9223372036854775807) = true := decide_eq_true c7
            try have c7b2 : (9223372036854775807 < (strOfNums y188).size + x5_1.size) = False := eq_false (Nat.not_lt.2 c7)
            have H' := Aside0.mk H
            clear H
            go_wp2_with (first | ((with_reducible refine gate_dst (N := 33) rfl ?_); (try (refine gate_guard (by rfl) ?_; dsimp only)); refine Kd.R_lit (Kd.int .u8) _ 5 ?hg (N := 33) ?hd (xs := ([(IntKind.u64.wrap (48 + (Int.tmod x6_1 10))) % 256] : List Int)) (inner := [.int .u8 ((IntKind.u64.wrap (48 + (Int.tmod x6_1 10))) % 256)]) (ok := fun _ => True) (okp := fun _ => True) ?hr ?hp (fun _ hk => hk) trivial (Below.refl _ _) (Nat.le_refl _) (by simp) ?_; (case hd => rfl); (case hg => rfl); (case hr => first | (go_simp; done) | (go_simp; rfl)); (case hp => exact (Reps.one (show Kd.M (Kd.int .u8) _ _ _ ((IntKind.u64.wrap (48 + (Int.tmod x6_1 10))) % 256) [.int .u8 ((IntKind.u64.wrap (48 + (Int.tmod x6_1 10))) % 256)] from rfl) (Reps.none _ _))); intro v189 w8 ho9 hb hg_ hnew_; clear hg_ hnew_; (first | rw [← Ny188.out] at ho9 | (simp only [Int.reduceToNat] at ho9; rw [← Ny188.out] at ho9)); have n0_ := Aside0.mk (Kd.R_lower ho9 (below_size (by repeat (first | (with_reducible first | exact HB.out | apply below_alloc | apply pw_below_drewN | apply below_drew1) | exact HB.out)))); have n1_ := Aside0.mk (below_step (by repeat (first | (with_reducible first | exact HB.out | apply below_alloc | apply pw_below_drewN | apply below_drew1) | exact HB.out)) hb); clear HB; have HO190 := n0_; have HB := n1_; clear n0_ n1_; clear hb ho9; have hcv10 := own_string (P := Try.prog) Try.underlying43 Try.underlying5 Try.underlying9 (Kd.own_of_R HO190.out)))
            go_roundg k1
            case measure => have := HK1.out; omega
            case rel => exact ⟨((strOfNums y188) ++ x5_1), (IntKind.u64.wrap (Int.tdiv x6_1 10)), (by first | rfl | (simp; done) | (simp [*]; done)), (by first | rfl | (simp; done) | (simp [*]; done)), H', ⟨by have := HK1.out; omega⟩, ⟨by repeat (first | (with_reducible first | exact HB.out | apply below_alloc | apply pw_below_drewN | apply below_drew1) | exact HB.out)⟩⟩
          · rw [if_neg c7] at H
            exact absurd H (by simp)
        · rw [if_neg c6] at H
          have c6b0 : decide (0 < x6_1) = false := decide_eq_false c6
          clear c6
          by_cases c11 : x5_1.toList = ([] : List UInt8)
          · rw [if_pos c11] at H
            have c11b0 : (x5_1.toList == ([] : List UInt8)) = true := beq_iff_eq.mpr c11
            have c11b1 : (x5_1.toList != ([] : List UInt8)) = false := bne_eq_false_iff_eq.mpr c11
            clear c11
            obtain ⟨y191, hy191⟩ : ∃ y_ : List Int, y_ = (([(IntKind.u64.wrap (48 + (Int.tmod x6_1 10))) % 256] : List Int)) := ⟨_, rfl⟩
            replace H : (if (strOfNums y191).size + x5_1.size ≤ 9223372036854775807 then (tocsinlaw09_LexKinds.l0 k1 l1 ((strOfNums y191) ++ x5_1) (IntKind.u64.wrap (Int.tdiv x6_1 10))) else (none)) = some r := by first | (rw [hy191]; with_reducible exact H) | (have H2_ := (Option.bind_some _ _).symm.trans H; rw [hy191]; with_reducible exact H2_) | (have H2_ := (Option.bind_some _ _).symm.trans H; with_reducible exact H2_) | with_reducible exact H | (rw [hy191]; exact H) | exact H
            have Ny191 := Aside0.mk hy191
            clear hy191
            by_cases c12 : (strOfNums y191).size + x5_1.size ≤ 9223372036854775807
            · rw [if_pos c12] at H
              have c12b0 := eq_true c12
              have c12b1 : decide ((strOfNums y191).size + x5_1.size ≤ 9223372036854775807) = true := decide_eq_true c12
              try have c12b2 : (9223372036854775807 < (strOfNums y191).size + x5_1.size) = False := eq_false (Nat.not_lt.2 c12)
              have H' := Aside0.mk H
              clear H
              go_wp2_with (first | ((with_reducible refine gate_dst (N := 33) rfl ?_); (try (refine gate_guard (by rfl) ?_; dsimp only)); refine Kd.R_lit (Kd.int .u8) _ 5 ?hg (N := 33) ?hd (xs := ([(IntKind.u64.wrap (48 + (Int.tmod x6_1 10))) % 256] : List Int)) (inner := [.int .u8 ((IntKind.u64.wrap (48 + (Int.tmod x6_1 10))) % 256)]) (ok := fun _ => True) (okp := fun _ => True) ?hr ?hp (fun _ hk => hk) trivial (Below.refl _ _) (Nat.le_refl _) (by simp) ?_; (case hd => rfl); (case hg => rfl); (case hr => first | (go_simp; done) | (go_simp; rfl)); (case hp => exact (Reps.one (show Kd.M (Kd.int .u8) _ _ _ ((IntKind.u64.wrap (48 + (Int.tmod x6_1 10))) % 256) [.int .u8 ((IntKind.u64.wrap (48 + (Int.tmod x6_1 10))) % 256)] from rfl) (Reps.none _ _))); intro v192 w13 ho14 hb hg_ hnew_; clear hg_ hnew_; (first | rw [← Ny191.out] at ho14 | (simp only [Int.reduceToNat] at ho14; rw [← Ny191.out] at ho14)); have n0_ := Aside0.mk (Kd.R_lower ho14 (below_size (by repeat (first | (with_reducible first | exact HB.out | apply below_alloc | apply pw_below_drewN | apply below_drew1) | exact HB.out)))); have n1_ := Aside0.mk (below_step (by repeat (first | (with_reducible first | exact HB.out | apply below_alloc | apply pw_below_drewN | apply below_drew1) | exact HB.out)) hb); clear HB; have HO193 := n0_; have HB := n1_; clear n0_ n1_; clear hb ho14; have hcv15 := own_string (P := Try.prog) Try.underlying43 Try.underlying5 Try.underlying9 (Kd.own_of_R HO193.out)))
              go_roundg k1
              case measure => have := HK1.out; omega
              case rel => exact ⟨((strOfNums y191) ++ x5_1), (IntKind.u64.wrap (Int.tdiv x6_1 10)), (by first | rfl | (simp; done) | (simp [*]; done)), (by first | rfl | (simp; done) | (simp [*]; done)), H', ⟨by have := HK1.out; omega⟩, ⟨by repeat (first | (with_reducible first | exact HB.out | apply below_alloc | apply pw_below_drewN | apply below_drew1) | exact HB.out)⟩⟩
            · rw [if_neg c12] at H
              exact absurd H (by simp)
          · rw [if_neg c11] at H
            have c11b0 : (x5_1.toList == ([] : List UInt8)) = false := beq_eq_false_iff_ne.mpr c11
            have c11b1 : (x5_1.toList != ([] : List UInt8)) = true := bne_iff_ne.mpr c11
            replace H := Option.bind_eq_some_iff.mp H
            obtain ⟨⟨t194, t195, t196⟩, A160, H⟩ := H
            replace H : (if t196 = 0 then (if (t194.length : Int) = 1 then (if 0 < (t194.length : Int) then (tocsinlaw09_LexKinds.j1 k1 l1 x5_1 (!(((rd_T31 t194 0).f0) == 2) || (!((((rd_T31 t194 0).f1).toList) == x5_1.toList) || (!(((rd_T31 t194 0).f2) == 0))))) else (none)) else (tocsinlaw09_LexKinds.j1 k1 l1 x5_1 true)) else (tocsinlaw09_LexKinds.j1 k1 l1 x5_1 true)) = some r := H
            have A16 := Aside0.mk A160
            clear A160
            have HC17 := Aside0.mk H
            clear H
            go_upto_region 9 with (first | ((with_reducible refine gate_callee (f := 11) rfl ?_); refine goesL_ (some 39) rfl rfl Try.func11 (by kernel_rfl) rfl #[.string x5_1] rfl (by (try simp only [List.map_toArray, List.map_cons, List.map_nil]); first | done | rfl | (simp only [List.length_drop, List.length_take]; rfl)) ?_; (with_reducible refine (lex_All.calls x5_1 t194 t195 t196 _ A16.out).mono ?_); rintro e w18 ⟨v197, rfl, ho0, hb⟩; refine ⟨_, rfl, ?_⟩; have n0_ := Aside0.mk (Kd.R_lower ho0 (below_size (by repeat (first | (with_reducible first | exact HB.out | apply below_alloc | apply pw_below_drewN | apply below_drew1) | exact HB.out)))); have n1_ := Aside0.mk (below_step (by repeat (first | (with_reducible first | exact HB.out | apply below_alloc | apply pw_below_drewN | apply below_drew1) | exact HB.out)) hb); clear HB; have HO198 := n0_; have HB := n1_; clear n0_ n1_; (try clear hb); (try clear hb2); (try clear hk); (try clear hi); (try clear ho0)))
            (try simp only [Act.put, List.setIfInBounds_toArray, List.set_cons_zero, List.set_cons_succ])
            go_cut [57] (fun v57 wc => ∃ (kq : Nat) (x57_16 : Bool), v57 = .bool x57_16 ∧ Aside0 (tocsinlaw09_LexKinds.j1 kq l1 x5_1 x57_16 = some r) ∧ Aside0 (kq ≤ k1) ∧ Aside0 (Below w.heap.size w wc))
            case first =>
              have H := HC17.out
              clear HC17
              by_cases c19 : t196 = 0
              · rw [if_pos c19] at H
                have c19b0 : (t196 == 0) = true := beq_iff_eq.mpr c19
                have c19b1 : (t196 != 0) = false := bne_eq_false_iff_eq.mpr c19
                clear c19
                (first | rw [c19b0] | (simp only [i64_w, i32_w]; rw [c19b0]) | skip)
                by_cases c20 : (t194.length : Int) = 1
                · rw [if_pos c20] at H
                  have c20b0 : ((t194.length : Int) == 1) = true := beq_iff_eq.mpr c20
                  have c20b1 : ((t194.length : Int) != 1) = false := bne_eq_false_iff_eq.mpr c20
                  clear c20
                  by_cases c21 : 0 < (t194.length : Int)
                  · rw [if_pos c21] at H
                    have c21b0 : decide (0 < (t194.length : Int)) = true := decide_eq_true c21
                    have c21b1 : decide (0 < t194.length) = true := decide_eq_true (by omega)
                    clear c21
                    have H' := Aside0.mk H
                    clear H
                    obtain ⟨Ao22, co22, eo22⟩ := Kd.R_slice HO198.out
                    subst eo22
                    have p199 : 0 ≤ (0 : Int) := (by omega)
                    have q199 : 0 < (t194.length : Int) := of_decide_eq_true (by first | (with_reducible assumption) | assumption)
                    obtain ⟨ad199, e199, hx199_0, hx199_1, hx199_2⟩ := at_T31 (Kd.R_reads' HO198.out).2.2 0 p199 q199
                    cases e199
                    have qi199 : (0 < t194.length) = True := eq_true (by omega)
                    (try rw [show ((0 : Int)).toNat = 0 from rfl] at hx199_0)
                    (try rw [show 0 * 3 = 0 from rfl] at hx199_0)
                    (try rw [Addr.add_zero'] at hx199_0)
                    (try rw [show ((0 : Int)).toNat = 0 from rfl] at hx199_1)
                    (try rw [show 0 * 3 = 0 from rfl] at hx199_1)
                    (try rw [Addr.add_zero'] at hx199_1)
                    (try rw [show ((0 : Int)).toNat = 0 from rfl] at hx199_2)
                    (try rw [show 0 * 3 = 0 from rfl] at hx199_2)
                    (try rw [Addr.add_zero'] at hx199_2)
                    replace p199 := eq_true p199
                    replace q199 := eq_true q199
                    go_wp2
                    go_meet
                    case rel => exact ⟨_, ((!(((rd_T31 t194 0).f0) == 2) || (!((((rd_T31 t194 0).f1).toList) == x5_1.toList) || (!(((rd_T31 t194 0).f2) == 0))))), (by first | rfl | (simp; done) | (simp [*]; done)), H', ⟨by have := HK1.out; first | omega | exact Nat.le_refl _⟩, ⟨by repeat (first | (with_reducible first | exact HB.out | apply below_alloc | apply pw_below_drewN | apply below_drew1) | exact HB.out)⟩⟩
                  · rw [if_neg c21] at H
                    exact absurd H (by simp)
                · rw [if_neg c20] at H
                  have c20b0 : ((t194.length : Int) == 1) = false := beq_eq_false_iff_ne.mpr c20
                  have c20b1 : ((t194.length : Int) != 1) = true := bne_iff_ne.mpr c20
                  have H' := Aside0.mk H
                  clear H
                  obtain ⟨Ao23, co23, eo23⟩ := Kd.R_slice HO198.out
                  subst eo23
                  go_wp2
                  go_meet
                  case rel => exact ⟨_, (true), (by first | rfl | (simp; done) | (simp [*]; done)), H', ⟨by have := HK1.out; first | omega | exact Nat.le_refl _⟩, ⟨by repeat (first | (with_reducible first | exact HB.out | apply below_alloc | apply pw_below_drewN | apply below_drew1) | exact HB.out)⟩⟩
              · rw [if_neg c19] at H
                have c19b0 : (t196 == 0) = false := beq_eq_false_iff_ne.mpr c19
                have c19b1 : (t196 != 0) = true := bne_iff_ne.mpr c19
                (first | rw [c19b0] | (simp only [i64_w, i32_w]; rw [c19b0]) | skip)
                have H' := Aside0.mk H
                clear H
                go_wp2
                go_meet
                case rel => exact ⟨_, (true), (by first | rfl | (simp; done) | (simp [*]; done)), H', ⟨by have := HK1.out; first | omega | exact Nat.le_refl _⟩, ⟨by repeat (first | (with_reducible first | exact HB.out | apply below_alloc | apply pw_below_drewN | apply below_drew1) | exact HB.out)⟩⟩
            case rest =>
              clear HC17
              try clear c1
              try clear p1
              try clear q1
              try clear hx1
              try clear hcv1
              try clear qi1
              try clear c2
              try clear p2
              try clear c4
              try clear c6
              try clear c6b0
              try clear c7
              try clear c7b0
              try clear c7b1
              try clear c7b2
              try clear c9
              try clear hcv10
              try clear c11
              try clear c11b0
              try clear c11b1
              try clear c12
              try clear c12b0
              try clear c12b1
              try clear c12b2
              try clear c14
              try clear hcv15
              try clear c19
              try clear c19b0
              try clear c19b1
              try clear p19
              try clear q19
              try clear hx19
              try clear qi19
              try clear c20
              try clear c20b0
              try clear c20b1
              try clear c21
              try clear c21b0
              try clear c21b1
              try clear hx199_0
              try clear hx199_1
              try clear hx199_2
              try clear p199
              try clear p2
              try clear q199
              obtain ⟨kq, x57_16, rfl, HA, HJ16, HB⟩ := hcut
              cases kq with
              | zero => exact absurd HA.out (by simp [tocsinlaw09_LexKinds.j1])
              | succ kj16 =>
                have H := HA.out
                clear HA
                simp only [tocsinlaw09_LexKinds.j1] at H
                by_cases c24 : x57_16 = true
                · subst c24
                  have H1 : (some false) = some r := by rw [if_pos rfl] at H; exact H
                  clear H
                  have H := H1
                  clear H1
                  obtain rfl := Option.some.inj H
                  go_wp2
                  go_ret
                  exact ⟨by first | rfl | (simp [errW_none, errW_some] <;> rfl) | (simp [*, errW_none, errW_some] <;> rfl), by repeat (first | (with_reducible first | exact HB.out | apply below_alloc | apply pw_below_drewN | apply below_drew1) | exact HB.out)⟩
                · replace c24 := Bool.eq_false_iff.mpr c24
                  subst c24
                  have H1 : (if (l1.length : Int) < 1 then (tocsinlaw09_LexKinds.j2 kj16 l1 x5_1 true) else (tocsinlaw09_LexKinds.j2 kj16 l1 x5_1 (decide ((l1.length : Int) > 20)))) = some r := by rw [if_neg (show ¬ (false = true) by decide)] at H; exact H
                  clear H
                  have H := H1
                  clear H1
                  have HC25 := Aside0.mk H
                  clear H
                  go_upto_region 11 with (fail)
                  go_cut [65] (fun v65 wc => ∃ (kq : Nat) (x65_24 : Bool), v65 = .bool x65_24 ∧ Aside0 (tocsinlaw09_LexKinds.j2 kq l1 x5_1 x65_24 = some r) ∧ Aside0 (kq ≤ kj16) ∧ Aside0 (Below w.heap.size w wc))
                  case first =>
                    have H := HC25.out
                    clear HC25
                    by_cases c26 : (l1.length : Int) < 1
                    · rw [if_pos c26] at H
                      have c26b0 : decide ((l1.length : Int) < 1) = true := decide_eq_true c26
                      have c26b1 : decide (l1.length < 1) = true := decide_eq_true (by omega)
                      clear c26
                      (first | rw [c26b0] | (simp only [i64_w, i32_w]; rw [c26b0]) | skip)
                      have H' := Aside0.mk H
                      clear H
                      go_wp2
                      go_meet
                      case rel => exact ⟨_, (true), (by first | rfl | (simp; done) | (simp [*]; done)), H', ⟨by have := HK1.out; have := HJ16.out; first | omega | exact Nat.le_refl _⟩, ⟨by repeat (first | (with_reducible first | exact HB.out | apply below_alloc | apply pw_below_drewN | apply below_drew1) | exact HB.out)⟩⟩
                    · rw [if_neg c26] at H
                      have c26b0 : decide ((l1.length : Int) < 1) = false := decide_eq_false c26
                      have c26b1 : decide (l1.length < 1) = false := decide_eq_false (by omega)
                      clear c26
                      (first | rw [c26b0] | (simp only [i64_w, i32_w]; rw [c26b0]) | skip)
                      have H' := Aside0.mk H
                      clear H
                      go_wp2
                      go_meet
                      case rel => exact ⟨_, (decide ((l1.length : Int) > 20)), (by first | rfl | (simp; done) | (simp [*]; done)), H', ⟨by have := HK1.out; have := HJ16.out; first | omega | exact Nat.le_refl _⟩, ⟨by repeat (first | (with_reducible first | exact HB.out | apply below_alloc | apply pw_below_drewN | apply below_drew1) | exact HB.out)⟩⟩
                  case rest =>
                    clear HC25
                    try clear c1
                    try clear p1
                    try clear q1
                    try clear hx1
                    try clear hcv1
                    try clear qi1
                    try clear c2
                    try clear p2
                    try clear c4
                    try clear c6
                    try clear c6b0
                    try clear c7
                    try clear c7b0
                    try clear c7b1
                    try clear c7b2
                    try clear c9
                    try clear hcv10
                    try clear c11
                    try clear c11b0
                    try clear c11b1
                    try clear c12
                    try clear c12b0
                    try clear c12b1
                    try clear c12b2
                    try clear c14
                    try clear hcv15
                    try clear c19
                    try clear c19b0
                    try clear c19b1
                    try clear p19
                    try clear q19
                    try clear hx19
                    try clear qi19
                    try clear c20
                    try clear c20b0
                    try clear c20b1
                    try clear c21
                    try clear c21b0
                    try clear c21b1
                    try clear c24
                    try clear c26
                    try clear c26b0
                    try clear c26b1
                    try clear hx199_0
                    try clear hx199_1
                    try clear hx199_2
                    try clear p1
                    try clear p19
                    try clear p199
                    try clear p2
                    try clear q1
                    try clear q19
                    try clear q199
                    obtain ⟨kq, x65_24, rfl, HA, HJ24, HB⟩ := hcut
                    cases kq with
                    | zero => exact absurd HA.out (by simp [tocsinlaw09_LexKinds.j2])
                    | succ kj24 =>
                      have H := HA.out
                      clear HA
                      simp only [tocsinlaw09_LexKinds.j2] at H
                      by_cases c27 : x65_24 = true
                      · subst c27
                        have H1 : (some true) = some r := by rw [if_pos rfl] at H; exact H
                        clear H
                        have H := H1
                        clear H1
                        obtain rfl := Option.some.inj H
                        go_wp2
                        go_ret
                        exact ⟨by first | rfl | (simp [errW_none, errW_some] <;> rfl) | (simp [*, errW_none, errW_some] <;> rfl), by repeat (first | (with_reducible first | exact HB.out | apply below_alloc | apply pw_below_drewN | apply below_drew1) | exact HB.out)⟩
                      · replace c27 := Bool.eq_false_iff.mpr c27
                        subst c27
                        have H1 : (tocsinlaw09_LexKinds.l1 kj24 l1 x5_1 (⟨#[]⟩ : ByteArray) 0) = some r := by rw [if_neg (show ¬ (false = true) by decide)] at H; exact H
                        clear H
                        have H := H1
                        clear H1
                        have H' := Aside0.mk H
                        clear H
                        go_wp2
                        go_loopg [10, 11] kj24 (fun kq v10 v11 w' => ∃ (x10_4 : ByteArray) (x11_4 : Int), v10 = .string x10_4 ∧ v11 = .int .i64 x11_4 ∧ Aside0 (tocsinlaw09_LexKinds.l1 kq l1 x5_1 x10_4 x11_4 = some r) ∧ Aside0 (kq ≤ kj24) ∧ Aside0 (Below w.heap.size w w'))
                        case atStart => exact ⟨((⟨#[]⟩ : ByteArray)), (0), (by first | rfl | (simp; done) | (simp [*]; done)), (by first | rfl | (simp; done) | (simp [*]; done)), H', ⟨Nat.le_refl _⟩, ⟨by repeat (first | (with_reducible first | exact HB.out | apply below_alloc | apply pw_below_drewN | apply below_drew1) | exact HB.out)⟩⟩
                        case round =>
                          clear H'
                          try clear c1
                          try clear p1
                          try clear q1
                          try clear hx1
                          try clear hcv1
                          try clear qi1
                          try clear c2
                          try clear p2
                          try clear c4
                          try clear c6
                          try clear c6b0
                          try clear c7
                          try clear c7b0
                          try clear c7b1
                          try clear c7b2
                          try clear c9
                          try clear hcv10
                          try clear c11
                          try clear c11b0
                          try clear c11b1
                          try clear c12
                          try clear c12b0
                          try clear c12b1
                          try clear c12b2
                          try clear c14
                          try clear hcv15
                          try clear c19
                          try clear c19b0
                          try clear c19b1
                          try clear p19
                          try clear q19
                          try clear hx19
                          try clear qi19
                          try clear c20
                          try clear c20b0
                          try clear c20b1
                          try clear c21
                          try clear c21b0
                          try clear c21b1
                          try clear c24
                          try clear c26
                          try clear c26b0
                          try clear c26b1
                          try clear c27
                          try clear hx199_0
                          try clear hx199_1
                          try clear hx199_2
                          try clear p1
                          try clear p19
                          try clear p199
                          try clear p2
                          try clear q1
                          try clear q19
                          try clear q199
                          obtain ⟨x10_4, x11_4, rfl, rfl, HA, HK4, HB⟩ := hrel
                          cases gk with
                          | zero => exact absurd HA.out (by simp [tocsinlaw09_LexKinds.l1])
                          | succ k4 =>
                            have H := HA.out
                            clear HA
                            simp only [tocsinlaw09_LexKinds.l1] at H
                            by_cases c28 : x11_4 < (l1.length : Int)
                            · rw [if_pos c28] at H
                              have c28b0 : decide (x11_4 < (l1.length : Int)) = true := decide_eq_true c28
                              clear c28
                              by_cases c29 : 0 ≤ x11_4
                              · rw [if_pos c29] at H
                                have c29b0 : decide (0 ≤ x11_4) = true := decide_eq_true c29
                                clear c29
                                obtain ⟨y201, hy201⟩ : ∃ y_ : List Int, y_ = (([(97 + (Int.tmod (rd l1 x11_4) 26)) % 256] : List Int)) := ⟨_, rfl⟩
                                replace H : (if x10_4.size + (strOfNums y201).size ≤ 9223372036854775807 then (tocsinlaw09_LexKinds.l1 k4 l1 x5_1 (x10_4 ++ (strOfNums y201)) (wrap64 (x11_4 + 1))) else (none)) = some r := by first | (rw [hy201]; with_reducible exact H) | (have H2_ := (Option.bind_some _ _).symm.trans H; rw [hy201]; with_reducible exact H2_) | (have H2_ := (Option.bind_some _ _).symm.trans H; with_reducible exact H2_) | with_reducible exact H | (rw [hy201]; exact H) | exact H
                                have Ny201 := Aside0.mk hy201
                                clear hy201
                                by_cases c30 : x10_4.size + (strOfNums y201).size ≤ 9223372036854775807
                                · rw [if_pos c30] at H
                                  have c30b0 := eq_true c30
                                  have c30b1 : decide (x10_4.size + (strOfNums y201).size ≤ 9223372036854775807) = true := decide_eq_true c30
                                  try have c30b2 : (9223372036854775807 < x10_4.size + (strOfNums y201).size) = False := eq_false (Nat.not_lt.2 c30)
                                  have H' := Aside0.mk H
                                  clear H
                                  have p200 : 0 ≤ (x11_4 : Int) := of_decide_eq_true (by first | (with_reducible assumption) | assumption)
                                  have q200 : x11_4 < (l1.length : Int) := of_decide_eq_true (by first | (with_reducible assumption) | assumption)
                                  obtain ⟨ad200, e200, hx200_0⟩ := Kd.at_int HR1.out x11_4 p200 q200
                                  cases e200
                                  replace hx200_0 := (HB.out.cell (World.block_lt_of_cell? w _ hx200_0)).trans hx200_0
                                  replace p200 := eq_true p200
                                  replace q200 := eq_true q200
                                  go_wp2_with (first | ((with_reducible refine gate_dst (N := 79) rfl ?_); (try (refine gate_guard (by rfl) ?_; dsimp only)); refine Kd.R_lit (Kd.int .u8) _ 5 ?hg (N := 79) ?hd (xs := ([(97 + (Int.tmod (rd l1 x11_4) 26)) % 256] : List Int)) (inner := [.int .u8 ((97 + (Int.tmod (rd l1 x11_4) 26)) % 256)]) (ok := fun _ => True) (okp := fun _ => True) ?hr ?hp (fun _ hk => hk) trivial (Below.refl _ _) (Nat.le_refl _) (by simp) ?_; (case hd => rfl); (case hg => rfl); (case hr => first | (go_simp; done) | (go_simp; rfl)); (case hp => exact (Reps.one (show Kd.M (Kd.int .u8) _ _ _ ((97 + (Int.tmod (rd l1 x11_4) 26)) % 256) [.int .u8 ((97 + (Int.tmod (rd l1 x11_4) 26)) % 256)] from rfl) (Reps.none _ _))); intro v202 w31 ho32 hb hg_ hnew_; clear hg_ hnew_; (first | rw [← Ny201.out] at ho32 | (simp only [Int.reduceToNat] at ho32; rw [← Ny201.out] at ho32)); have n0_ := Aside0.mk (Kd.R_lower ho32 (below_size (by repeat (first | (with_reducible first | exact HB.out | apply below_alloc | apply pw_below_drewN | apply below_drew1) | exact HB.out)))); have n1_ := Aside0.mk (below_step (by repeat (first | (with_reducible first | exact HB.out | apply below_alloc | apply pw_below_drewN | apply below_drew1) | exact HB.out)) hb); clear HB; have HO203 := n0_; have HB := n1_; clear n0_ n1_; clear hb ho32; have hcv33 := own_string (P := Try.prog) Try.underlying43 Try.underlying5 Try.underlying9 (Kd.own_of_R HO203.out)))
                                  go_roundg k4
                                  case measure => have := HK1.out; have := HJ16.out; have := HJ24.out; have := HK4.out; omega
                                  case rel => exact ⟨(x10_4 ++ (strOfNums y201)), (wrap64 (x11_4 + 1)), (by first | rfl | (simp; done) | (simp [*]; done)), (by first | rfl | (simp; done) | (simp [*]; done)), H', ⟨by have := HK1.out; have := HJ16.out; have := HJ24.out; have := HK4.out; omega⟩, ⟨by repeat (first | (with_reducible first | exact HB.out | apply below_alloc | apply pw_below_drewN | apply below_drew1) | exact HB.out)⟩⟩
                                · rw [if_neg c30] at H
                                  exact absurd H (by simp)
                              · rw [if_neg c29] at H
                                exact absurd H (by simp)
                            · rw [if_neg c28] at H
                              have c28b0 : decide (x11_4 < (l1.length : Int)) = false := decide_eq_false c28
                              clear c28
                              by_cases c34 : x10_4.size + x5_1.size ≤ 9223372036854775807
                              · rw [if_pos c34] at H
                                have c34b0 := eq_true c34
                                have c34b1 : decide (x10_4.size + x5_1.size ≤ 9223372036854775807) = true := decide_eq_true c34
                                try have c34b2 : (9223372036854775807 < x10_4.size + x5_1.size) = False := eq_false (Nat.not_lt.2 c34)
                                replace H := Option.bind_eq_some_iff.mp H
                                obtain ⟨⟨t204, t205, t206⟩, A350, H⟩ := H
                                replace H : (if 1 + x10_4.size ≤ 9223372036854775807 then (if ((⟨#[34]⟩ : ByteArray) ++ x10_4).size + 1 ≤ 9223372036854775807 then (if (((⟨#[34]⟩ : ByteArray) ++ x10_4) ++ (⟨#[32]⟩ : ByteArray)).size + x5_1.size ≤ 9223372036854775807 then (if ((((⟨#[34]⟩ : ByteArray) ++ x10_4) ++ (⟨#[32]⟩ : ByteArray)) ++ x5_1).size + 1 ≤ 9223372036854775807 then ((lex_All.f (((((⟨#[34]⟩ : ByteArray) ++ x10_4) ++ (⟨#[32]⟩ : ByteArray)) ++ x5_1) ++ (⟨#[34]⟩ : ByteArray))).bind fun bt209 => (if t206 = 0 then (if (t204.length : Int) = 1 then (if 0 < (t204.length : Int) then (if (((rd_T31 t204 0).f0) == 1 && ((((rd_T31 t204 0).f1).toList) == ((x10_4 ++ x5_1).toList) && (((rd_T31 t204 0).f2) == 0))) = true then (if bt209.2.2 = 0 then (if (bt209.1.length : Int) = 1 then (if 0 < (bt209.1.length : Int) then (if x10_4.size + 1 ≤ 9223372036854775807 then (if (x10_4 ++ (⟨#[32]⟩ : ByteArray)).size + x5_1.size ≤ 9223372036854775807 then (some (((rd_T31 bt209.1 0).f0) == 3 && ((((rd_T31 bt209.1 0).f1).toList) == (((x10_4 ++ (⟨#[32]⟩ : ByteArray)) ++ x5_1).toList) && (((rd_T31 bt209.1 0).f2) == 0)))) else (none)) else (none)) else (none)) else (some false)) else (some false)) else (some false)) else (none)) else (some false)) else (some false))) else (none)) else (none)) else (none)) else (none)) = some r := H
                                have A35 := Aside0.mk A350
                                clear A350
                                by_cases c36 : 1 + x10_4.size ≤ 9223372036854775807
                                · rw [if_pos c36] at H
                                  have c36b0 := eq_true c36
                                  have c36b1 : decide (1 + x10_4.size ≤ 9223372036854775807) = true := decide_eq_true c36
                                  try have c36b2 : (9223372036854775807 < 1 + x10_4.size) = False := eq_false (Nat.not_lt.2 c36)
                                  by_cases c37 : ((⟨#[34]⟩ : ByteArray) ++ x10_4).size + 1 ≤ 9223372036854775807
                                  · rw [if_pos c37] at H
                                    have c37b0 := eq_true c37
                                    have c37b1 : decide (((⟨#[34]⟩ : ByteArray) ++ x10_4).size + 1 ≤ 9223372036854775807) = true := decide_eq_true c37
                                    try have c37b2 : (9223372036854775807 < ((⟨#[34]⟩ : ByteArray) ++ x10_4).size + 1) = False := eq_false (Nat.not_lt.2 c37)
                                    have c37s := c37
                                    simp only [ByteArray.size_append] at c37s
                                    have c37z : (9223372036854775807 < 1 + x10_4.size + 1) = False := eq_false (Nat.not_lt.2 (by have e1 : ((⟨#[34]⟩ : ByteArray)).size = 1 := rfl; have e2 : ((⟨#[32]⟩ : ByteArray)).size = 1 := rfl; omega))
                                    clear c37s
                                    by_cases c38 : (((⟨#[34]⟩ : ByteArray) ++ x10_4) ++ (⟨#[32]⟩ : ByteArray)).size + x5_1.size ≤ 9223372036854775807
                                    · rw [if_pos c38] at H
                                      have c38b0 := eq_true c38
                                      have c38b1 : decide ((((⟨#[34]⟩ : ByteArray) ++ x10_4) ++ (⟨#[32]⟩ : ByteArray)).size + x5_1.size ≤ 9223372036854775807) = true := decide_eq_true c38
                                      try have c38b2 : (9223372036854775807 < (((⟨#[34]⟩ : ByteArray) ++ x10_4) ++ (⟨#[32]⟩ : ByteArray)).size + x5_1.size) = False := eq_false (Nat.not_lt.2 c38)
                                      have c38s := c38
                                      simp only [ByteArray.size_append] at c38s
                                      have c38z : (9223372036854775807 < 1 + x10_4.size + 1 + x5_1.size) = False := eq_false (Nat.not_lt.2 (by have e1 : ((⟨#[34]⟩ : ByteArray)).size = 1 := rfl; have e2 : ((⟨#[32]⟩ : ByteArray)).size = 1 := rfl; omega))
                                      clear c38s
                                      by_cases c39 : ((((⟨#[34]⟩ : ByteArray) ++ x10_4) ++ (⟨#[32]⟩ : ByteArray)) ++ x5_1).size + 1 ≤ 9223372036854775807
                                      · rw [if_pos c39] at H
                                        have c39b0 := eq_true c39
                                        have c39b1 : decide (((((⟨#[34]⟩ : ByteArray) ++ x10_4) ++ (⟨#[32]⟩ : ByteArray)) ++ x5_1).size + 1 ≤ 9223372036854775807) = true := decide_eq_true c39
                                        try have c39b2 : (9223372036854775807 < ((((⟨#[34]⟩ : ByteArray) ++ x10_4) ++ (⟨#[32]⟩ : ByteArray)) ++ x5_1).size + 1) = False := eq_false (Nat.not_lt.2 c39)
                                        have c39s := c39
                                        simp only [ByteArray.size_append] at c39s
                                        have c39z : (9223372036854775807 < 1 + x10_4.size + 1 + x5_1.size + 1) = False := eq_false (Nat.not_lt.2 (by have e1 : ((⟨#[34]⟩ : ByteArray)).size = 1 := rfl; have e2 : ((⟨#[32]⟩ : ByteArray)).size = 1 := rfl; omega))
                                        clear c39s
                                        replace H := Option.bind_eq_some_iff.mp H
                                        obtain ⟨⟨t209, t210, t211⟩, A400, H⟩ := H
                                        replace H : (if t206 = 0 then (if (t204.length : Int) = 1 then (if 0 < (t204.length : Int) then (if (((rd_T31 t204 0).f0) == 1 && ((((rd_T31 t204 0).f1).toList) == ((x10_4 ++ x5_1).toList) && (((rd_T31 t204 0).f2) == 0))) = true then (if t211 = 0 then (if (t209.length : Int) = 1 then (if 0 < (t209.length : Int) then (if x10_4.size + 1 ≤ 9223372036854775807 then (if (x10_4 ++ (⟨#[32]⟩ : ByteArray)).size + x5_1.size ≤ 9223372036854775807 then (some (((rd_T31 t209 0).f0) == 3 && ((((rd_T31 t209 0).f1).toList) == (((x10_4 ++ (⟨#[32]⟩ : ByteArray)) ++ x5_1).toList) && (((rd_T31 t209 0).f2) == 0)))) else (none)) else (none)) else (none)) else (some false)) else (some false)) else (some false)) else (none)) else (some false)) else (some false)) = some r := H
                                        have A40 := Aside0.mk A400
                                        clear A400
                                        by_cases c41 : t206 = 0
                                        · rw [if_pos c41] at H
                                          have c41b0 : (t206 == 0) = true := beq_iff_eq.mpr c41
                                          have c41b1 : (t206 != 0) = false := bne_eq_false_iff_eq.mpr c41
                                          clear c41
                                          by_cases c42 : (t204.length : Int) = 1
                                          · rw [if_pos c42] at H
                                            have c42b0 : ((t204.length : Int) == 1) = true := beq_iff_eq.mpr c42
                                            have c42b1 : ((t204.length : Int) != 1) = false := bne_eq_false_iff_eq.mpr c42
                                            clear c42
                                            by_cases c43 : 0 < (t204.length : Int)
                                            · rw [if_pos c43] at H
                                              have c43b0 : decide (0 < (t204.length : Int)) = true := decide_eq_true c43
                                              have c43b1 : decide (0 < t204.length) = true := decide_eq_true (by omega)
                                              clear c43
                                              by_cases c44 : (((rd_T31 t204 0).f0) == 1 && ((((rd_T31 t204 0).f1).toList) == ((x10_4 ++ x5_1).toList) && (((rd_T31 t204 0).f2) == 0))) = true
                                              · rw [if_pos c44] at H
                                                have c44b0 : (((rd_T31 t204 0).f0) == 1 && ((((rd_T31 t204 0).f1).toList) == ((x10_4 ++ x5_1).toList) && (((rd_T31 t204 0).f2) == 0))) = true := c44
                                                (try (have c44b1 : decide (((rd_T31 t204 0).f0) = 1 && ((((rd_T31 t204 0).f1).toList) == ((x10_4 ++ x5_1).toList) && (((rd_T31 t204 0).f2) == 0))) = true := by simpa using c44))
                                                (try (have c44b2 : (((rd_T31 t204 0).f0) == 1 && ((((rd_T31 t204 0).f1).toList) == ((x10_4 ++ x5_1).toList) && (((rd_T31 t204 0).f2) == 0))) = true := by simpa using c44))
                                                clear c44
                                                by_cases c45 : t211 = 0
                                                · rw [if_pos c45] at H
                                                  have c45b0 : (t211 == 0) = true := beq_iff_eq.mpr c45
                                                  have c45b1 : (t211 != 0) = false := bne_eq_false_iff_eq.mpr c45
                                                  clear c45
                                                  by_cases c46 : (t209.length : Int) = 1
                                                  · rw [if_pos c46] at H
                                                    have c46b0 : ((t209.length : Int) == 1) = true := beq_iff_eq.mpr c46
                                                    have c46b1 : ((t209.length : Int) != 1) = false := bne_eq_false_iff_eq.mpr c46
                                                    clear c46
                                                    by_cases c47 : 0 < (t209.length : Int)
                                                    · rw [if_pos c47] at H
                                                      have c47b0 : decide (0 < (t209.length : Int)) = true := decide_eq_true c47
                                                      have c47b1 : decide (0 < t209.length) = true := decide_eq_true (by omega)
                                                      clear c47
                                                      by_cases c48 : x10_4.size + 1 ≤ 9223372036854775807
                                                      · rw [if_pos c48] at H
                                                        have c48b0 := eq_true c48
                                                        have c48b1 : decide (x10_4.size + 1 ≤ 9223372036854775807) = true := decide_eq_true c48
                                                        try have c48b2 : (9223372036854775807 < x10_4.size + 1) = False := eq_false (Nat.not_lt.2 c48)
                                                        by_cases c49 : (x10_4 ++ (⟨#[32]⟩ : ByteArray)).size + x5_1.size ≤ 9223372036854775807
                                                        · rw [if_pos c49] at H
                                                          have c49b0 := eq_true c49
                                                          have c49b1 : decide ((x10_4 ++ (⟨#[32]⟩ : ByteArray)).size + x5_1.size ≤ 9223372036854775807) = true := decide_eq_true c49
                                                          try have c49b2 : (9223372036854775807 < (x10_4 ++ (⟨#[32]⟩ : ByteArray)).size + x5_1.size) = False := eq_false (Nat.not_lt.2 c49)
                                                          have c49s := c49
                                                          simp only [ByteArray.size_append] at c49s
                                                          have c49z : (9223372036854775807 < x10_4.size + 1 + x5_1.size) = False := eq_false (Nat.not_lt.2 (by have e1 : ((⟨#[34]⟩ : ByteArray)).size = 1 := rfl; have e2 : ((⟨#[32]⟩ : ByteArray)).size = 1 := rfl; omega))
                                                          clear c49s
                                                          obtain rfl := Option.some.inj H
                                                          go_wp2_with (first | ((with_reducible refine gate_callee (f := 11) rfl ?_); refine goesL_ (some 86) rfl rfl Try.func11 (by kernel_rfl) rfl #[.string (x10_4 ++ x5_1)] rfl (by (try simp only [List.map_toArray, List.map_cons, List.map_nil]); first | done | rfl | (simp only [List.length_drop, List.length_take]; rfl)) ?_; (with_reducible refine (lex_All.calls (x10_4 ++ x5_1) t204 t205 t206 _ A35.out).mono ?_); rintro e w50 ⟨v207, rfl, ho0, hb⟩; refine ⟨_, rfl, ?_⟩; have n0_ := Aside0.mk (Kd.R_lower ho0 (below_size (by repeat (first | (with_reducible first | exact HB.out | apply below_alloc | apply pw_below_drewN | apply below_drew1) | exact HB.out)))); have n1_ := Aside0.mk (below_step (by repeat (first | (with_reducible first | exact HB.out | apply below_alloc | apply pw_below_drewN | apply below_drew1) | exact HB.out)) hb); clear HB; have HO208 := n0_; have HB := n1_; clear n0_ n1_; (try clear hb); (try clear hb2); (try clear hk); (try clear hi); (try clear ho0)) | ((with_reducible refine gate_callee (f := 11) rfl ?_); refine goesL_ (some 97) rfl rfl Try.func11 (by kernel_rfl) rfl #[.string (((((⟨#[34]⟩ : ByteArray) ++ x10_4) ++ (⟨#[32]⟩ : ByteArray)) ++ x5_1) ++ (⟨#[34]⟩ : ByteArray))] rfl (by (try simp only [List.map_toArray, List.map_cons, List.map_nil]); first | done | rfl | (simp only [List.length_drop, List.length_take]; rfl)) ?_; (with_reducible refine (lex_All.calls (((((⟨#[34]⟩ : ByteArray) ++ x10_4) ++ (⟨#[32]⟩ : ByteArray)) ++ x5_1) ++ (⟨#[34]⟩ : ByteArray)) t209 t210 t211 _ A40.out).mono ?_); rintro e w51 ⟨v212, rfl, ho0, hb⟩; refine ⟨_, rfl, ?_⟩; have n0_ := Aside0.mk (Kd.R_elder' (by (with_reducible repeat (first | apply Kd.R_alloc | apply Kd.R_drewN | apply Kd.R_drew)); exact HO208.out) (Kd.R_base ho0) hb); have n1_ := Aside0.mk (Kd.R_lower (Kd.R_new' ho0 (Kd.R_lt (by (with_reducible repeat (first | apply Kd.R_alloc | apply Kd.R_drewN | apply Kd.R_drew)); exact HO208.out))) (below_size (by repeat (first | (with_reducible first | exact HB.out | apply below_alloc | apply pw_below_drewN | apply below_drew1) | exact HB.out)))); have n2_ := Aside0.mk (below_step (by repeat (first | (with_reducible first | exact HB.out | apply below_alloc | apply pw_below_drewN | apply below_drew1) | exact HB.out)) hb); clear HO208; clear HB; have HO208 := n0_; have HO213 := n1_; have HB := n2_; clear n0_ n1_ n2_; (try clear hb); (try clear hb2); (try clear hk); (try clear hi); (try clear ho0); obtain ⟨Ao52, co52, eo52⟩ := Kd.R_slice HO208.out; subst eo52; have p214 : 0 ≤ (0 : Int) := (by omega); have q214 : 0 < (t204.length : Int) := of_decide_eq_true (by first | (with_reducible assumption) | assumption); obtain ⟨ad214, e214, hx214_0, hx214_1, hx214_2⟩ := at_T31 (Kd.R_reads' HO208.out).2.2 0 p214 q214; cases e214; have qi214 : (0 < t204.length) = True := eq_true (by omega); (try rw [show ((0 : Int)).toNat = 0 from rfl] at hx214_0); (try rw [show 0 * 3 = 0 from rfl] at hx214_0); (try rw [Addr.add_zero'] at hx214_0); (try rw [show ((0 : Int)).toNat = 0 from rfl] at hx214_1); (try rw [show 0 * 3 = 0 from rfl] at hx214_1); (try rw [Addr.add_zero'] at hx214_1); (try rw [show ((0 : Int)).toNat = 0 from rfl] at hx214_2); (try rw [show 0 * 3 = 0 from rfl] at hx214_2); (try rw [Addr.add_zero'] at hx214_2); replace p214 := eq_true p214; replace q214 := eq_true q214; obtain ⟨Ao53, co53, eo53⟩ := Kd.R_slice HO213.out; subst eo53; have p215 : 0 ≤ (0 : Int) := (by omega); have q215 : 0 < (t209.length : Int) := of_decide_eq_true (by first | (with_reducible assumption) | assumption); obtain ⟨ad215, e215, hx215_0, hx215_1, hx215_2⟩ := at_T31 (Kd.R_reads' HO213.out).2.2 0 p215 q215; cases e215; have qi215 : (0 < t209.length) = True := eq_true (by omega); (try rw [show ((0 : Int)).toNat = 0 from rfl] at hx215_0); (try rw [show 0 * 3 = 0 from rfl] at hx215_0); (try rw [Addr.add_zero'] at hx215_0); (try rw [show ((0 : Int)).toNat = 0 from rfl] at hx215_1); (try rw [show 0 * 3 = 0 from rfl] at hx215_1); (try rw [Addr.add_zero'] at hx215_1); (try rw [show ((0 : Int)).toNat = 0 from rfl] at hx215_2); (try rw [show 0 * 3 = 0 from rfl] at hx215_2); (try rw [Addr.add_zero'] at hx215_2); replace p215 := eq_true p215; replace q215 := eq_true q215))
                                                          go_ret
                                                          exact ⟨by first | rfl | (simp [errW_none, errW_some] <;> rfl) | (simp [*, errW_none, errW_some] <;> rfl), by repeat (first | (with_reducible first | exact HB.out | apply below_alloc | apply pw_below_drewN | apply below_drew1) | exact HB.out)⟩
                                                        · rw [if_neg c49] at H
                                                          exact absurd H (by simp)
                                                      · rw [if_neg c48] at H
                                                        exact absurd H (by simp)
                                                    · rw [if_neg c47] at H
                                                      exact absurd H (by simp)
                                                  · rw [if_neg c46] at H
                                                    have c46b0 : ((t209.length : Int) == 1) = false := beq_eq_false_iff_ne.mpr c46
                                                    have c46b1 : ((t209.length : Int) != 1) = true := bne_iff_ne.mpr c46
                                                    obtain rfl := Option.some.inj H
                                                    go_wp2_with (first | ((with_reducible refine gate_callee (f := 11) rfl ?_); refine goesL_ (some 86) rfl rfl Try.func11 (by kernel_rfl) rfl #[.string (x10_4 ++ x5_1)] rfl (by (try simp only [List.map_toArray, List.map_cons, List.map_nil]); first | done | rfl | (simp only [List.length_drop, List.length_take]; rfl)) ?_; (with_reducible refine (lex_All.calls (x10_4 ++ x5_1) t204 t205 t206 _ A35.out).mono ?_); rintro e w54 ⟨v207, rfl, ho0, hb⟩; refine ⟨_, rfl, ?_⟩; have n0_ := Aside0.mk (Kd.R_lower ho0 (below_size (by repeat (first | (with_reducible first | exact HB.out | apply below_alloc | apply pw_below_drewN | apply below_drew1) | exact HB.out)))); have n1_ := Aside0.mk (below_step (by repeat (first | (with_reducible first | exact HB.out | apply below_alloc | apply pw_below_drewN | apply below_drew1) | exact HB.out)) hb); clear HB; have HO208 := n0_; have HB := n1_; clear n0_ n1_; (try clear hb); (try clear hb2); (try clear hk); (try clear hi); (try clear ho0)) | ((with_reducible refine gate_callee (f := 11) rfl ?_); refine goesL_ (some 97) rfl rfl Try.func11 (by kernel_rfl) rfl #[.string (((((⟨#[34]⟩ : ByteArray) ++ x10_4) ++ (⟨#[32]⟩ : ByteArray)) ++ x5_1) ++ (⟨#[34]⟩ : ByteArray))] rfl (by (try simp only [List.map_toArray, List.map_cons, List.map_nil]); first | done | rfl | (simp only [List.length_drop, List.length_take]; rfl)) ?_; (with_reducible refine (lex_All.calls (((((⟨#[34]⟩ : ByteArray) ++ x10_4) ++ (⟨#[32]⟩ : ByteArray)) ++ x5_1) ++ (⟨#[34]⟩ : ByteArray)) t209 t210 t211 _ A40.out).mono ?_); rintro e w55 ⟨v212, rfl, ho0, hb⟩; refine ⟨_, rfl, ?_⟩; have n0_ := Aside0.mk (Kd.R_elder' (by (with_reducible repeat (first | apply Kd.R_alloc | apply Kd.R_drewN | apply Kd.R_drew)); exact HO208.out) (Kd.R_base ho0) hb); have n1_ := Aside0.mk (Kd.R_lower (Kd.R_new' ho0 (Kd.R_lt (by (with_reducible repeat (first | apply Kd.R_alloc | apply Kd.R_drewN | apply Kd.R_drew)); exact HO208.out))) (below_size (by repeat (first | (with_reducible first | exact HB.out | apply below_alloc | apply pw_below_drewN | apply below_drew1) | exact HB.out)))); have n2_ := Aside0.mk (below_step (by repeat (first | (with_reducible first | exact HB.out | apply below_alloc | apply pw_below_drewN | apply below_drew1) | exact HB.out)) hb); clear HO208; clear HB; have HO208 := n0_; have HO213 := n1_; have HB := n2_; clear n0_ n1_ n2_; (try clear hb); (try clear hb2); (try clear hk); (try clear hi); (try clear ho0); obtain ⟨Ao56, co56, eo56⟩ := Kd.R_slice HO208.out; subst eo56; have p214 : 0 ≤ (0 : Int) := (by omega); have q214 : 0 < (t204.length : Int) := of_decide_eq_true (by first | (with_reducible assumption) | assumption); obtain ⟨ad214, e214, hx214_0, hx214_1, hx214_2⟩ := at_T31 (Kd.R_reads' HO208.out).2.2 0 p214 q214; cases e214; have qi214 : (0 < t204.length) = True := eq_true (by omega); (try rw [show ((0 : Int)).toNat = 0 from rfl] at hx214_0); (try rw [show 0 * 3 = 0 from rfl] at hx214_0); (try rw [Addr.add_zero'] at hx214_0); (try rw [show ((0 : Int)).toNat = 0 from rfl] at hx214_1); (try rw [show 0 * 3 = 0 from rfl] at hx214_1); (try rw [Addr.add_zero'] at hx214_1); (try rw [show ((0 : Int)).toNat = 0 from rfl] at hx214_2); (try rw [show 0 * 3 = 0 from rfl] at hx214_2); (try rw [Addr.add_zero'] at hx214_2); replace p214 := eq_true p214; replace q214 := eq_true q214; obtain ⟨Ao57, co57, eo57⟩ := Kd.R_slice HO213.out; subst eo57))
                                                    go_ret
                                                    exact ⟨by first | rfl | (simp [errW_none, errW_some] <;> rfl) | (simp [*, errW_none, errW_some] <;> rfl), by repeat (first | (with_reducible first | exact HB.out | apply below_alloc | apply pw_below_drewN | apply below_drew1) | exact HB.out)⟩
                                                · rw [if_neg c45] at H
                                                  have c45b0 : (t211 == 0) = false := beq_eq_false_iff_ne.mpr c45
                                                  have c45b1 : (t211 != 0) = true := bne_iff_ne.mpr c45
                                                  obtain rfl := Option.some.inj H
                                                  go_wp2_with (first | ((with_reducible refine gate_callee (f := 11) rfl ?_); refine goesL_ (some 86) rfl rfl Try.func11 (by kernel_rfl) rfl #[.string (x10_4 ++ x5_1)] rfl (by (try simp only [List.map_toArray, List.map_cons, List.map_nil]); first | done | rfl | (simp only [List.length_drop, List.length_take]; rfl)) ?_; (with_reducible refine (lex_All.calls (x10_4 ++ x5_1) t204 t205 t206 _ A35.out).mono ?_); rintro e w58 ⟨v207, rfl, ho0, hb⟩; refine ⟨_, rfl, ?_⟩; have n0_ := Aside0.mk (Kd.R_lower ho0 (below_size (by repeat (first | (with_reducible first | exact HB.out | apply below_alloc | apply pw_below_drewN | apply below_drew1) | exact HB.out)))); have n1_ := Aside0.mk (below_step (by repeat (first | (with_reducible first | exact HB.out | apply below_alloc | apply pw_below_drewN | apply below_drew1) | exact HB.out)) hb); clear HB; have HO208 := n0_; have HB := n1_; clear n0_ n1_; (try clear hb); (try clear hb2); (try clear hk); (try clear hi); (try clear ho0)) | ((with_reducible refine gate_callee (f := 11) rfl ?_); refine goesL_ (some 97) rfl rfl Try.func11 (by kernel_rfl) rfl #[.string (((((⟨#[34]⟩ : ByteArray) ++ x10_4) ++ (⟨#[32]⟩ : ByteArray)) ++ x5_1) ++ (⟨#[34]⟩ : ByteArray))] rfl (by (try simp only [List.map_toArray, List.map_cons, List.map_nil]); first | done | rfl | (simp only [List.length_drop, List.length_take]; rfl)) ?_; (with_reducible refine (lex_All.calls (((((⟨#[34]⟩ : ByteArray) ++ x10_4) ++ (⟨#[32]⟩ : ByteArray)) ++ x5_1) ++ (⟨#[34]⟩ : ByteArray)) t209 t210 t211 _ A40.out).mono ?_); rintro e w59 ⟨v212, rfl, ho0, hb⟩; refine ⟨_, rfl, ?_⟩; have n0_ := Aside0.mk (Kd.R_elder' (by (with_reducible repeat (first | apply Kd.R_alloc | apply Kd.R_drewN | apply Kd.R_drew)); exact HO208.out) (Kd.R_base ho0) hb); have n1_ := Aside0.mk (Kd.R_lower (Kd.R_new' ho0 (Kd.R_lt (by (with_reducible repeat (first | apply Kd.R_alloc | apply Kd.R_drewN | apply Kd.R_drew)); exact HO208.out))) (below_size (by repeat (first | (with_reducible first | exact HB.out | apply below_alloc | apply pw_below_drewN | apply below_drew1) | exact HB.out)))); have n2_ := Aside0.mk (below_step (by repeat (first | (with_reducible first | exact HB.out | apply below_alloc | apply pw_below_drewN | apply below_drew1) | exact HB.out)) hb); clear HO208; clear HB; have HO208 := n0_; have HO213 := n1_; have HB := n2_; clear n0_ n1_ n2_; (try clear hb); (try clear hb2); (try clear hk); (try clear hi); (try clear ho0); obtain ⟨Ao60, co60, eo60⟩ := Kd.R_slice HO208.out; subst eo60; have p214 : 0 ≤ (0 : Int) := (by omega); have q214 : 0 < (t204.length : Int) := of_decide_eq_true (by first | (with_reducible assumption) | assumption); obtain ⟨ad214, e214, hx214_0, hx214_1, hx214_2⟩ := at_T31 (Kd.R_reads' HO208.out).2.2 0 p214 q214; cases e214; have qi214 : (0 < t204.length) = True := eq_true (by omega); (try rw [show ((0 : Int)).toNat = 0 from rfl] at hx214_0); (try rw [show 0 * 3 = 0 from rfl] at hx214_0); (try rw [Addr.add_zero'] at hx214_0); (try rw [show ((0 : Int)).toNat = 0 from rfl] at hx214_1); (try rw [show 0 * 3 = 0 from rfl] at hx214_1); (try rw [Addr.add_zero'] at hx214_1); (try rw [show ((0 : Int)).toNat = 0 from rfl] at hx214_2); (try rw [show 0 * 3 = 0 from rfl] at hx214_2); (try rw [Addr.add_zero'] at hx214_2); replace p214 := eq_true p214; replace q214 := eq_true q214))
                                                  go_ret
                                                  exact ⟨by first | rfl | (simp [errW_none, errW_some] <;> rfl) | (simp [*, errW_none, errW_some] <;> rfl), by repeat (first | (with_reducible first | exact HB.out | apply below_alloc | apply pw_below_drewN | apply below_drew1) | exact HB.out)⟩
                                              · rw [if_neg c44] at H
                                                have c44b0 : (((rd_T31 t204 0).f0) == 1 && ((((rd_T31 t204 0).f1).toList) == ((x10_4 ++ x5_1).toList) && (((rd_T31 t204 0).f2) == 0))) = false := by simpa using c44
                                                (try (have c44b1 : decide (((rd_T31 t204 0).f0) = 1 && ((((rd_T31 t204 0).f1).toList) == ((x10_4 ++ x5_1).toList) && (((rd_T31 t204 0).f2) == 0))) = false := by simpa using c44))
                                                (try (have c44b2 : (((rd_T31 t204 0).f0) == 1 && ((((rd_T31 t204 0).f1).toList) == ((x10_4 ++ x5_1).toList) && (((rd_T31 t204 0).f2) == 0))) = false := by simpa using c44))
                                                (try (have c44b3 : ¬ (((rd_T31 t204 0).f0) = 1 && ((((rd_T31 t204 0).f1).toList) == ((x10_4 ++ x5_1).toList) && (((rd_T31 t204 0).f2) == 0))) := by simpa using c44))
                                                clear c44
                                                obtain rfl := Option.some.inj H
                                                go_wp2_with (first | ((with_reducible refine gate_callee (f := 11) rfl ?_); refine goesL_ (some 86) rfl rfl Try.func11 (by kernel_rfl) rfl #[.string (x10_4 ++ x5_1)] rfl (by (try simp only [List.map_toArray, List.map_cons, List.map_nil]); first | done | rfl | (simp only [List.length_drop, List.length_take]; rfl)) ?_; (with_reducible refine (lex_All.calls (x10_4 ++ x5_1) t204 t205 t206 _ A35.out).mono ?_); rintro e w61 ⟨v207, rfl, ho0, hb⟩; refine ⟨_, rfl, ?_⟩; have n0_ := Aside0.mk (Kd.R_lower ho0 (below_size (by repeat (first | (with_reducible first | exact HB.out | apply below_alloc | apply pw_below_drewN | apply below_drew1) | exact HB.out)))); have n1_ := Aside0.mk (below_step (by repeat (first | (with_reducible first | exact HB.out | apply below_alloc | apply pw_below_drewN | apply below_drew1) | exact HB.out)) hb); clear HB; have HO208 := n0_; have HB := n1_; clear n0_ n1_; (try clear hb); (try clear hb2); (try clear hk); (try clear hi); (try clear ho0)) | ((with_reducible refine gate_callee (f := 11) rfl ?_); refine goesL_ (some 97) rfl rfl Try.func11 (by kernel_rfl) rfl #[.string (((((⟨#[34]⟩ : ByteArray) ++ x10_4) ++ (⟨#[32]⟩ : ByteArray)) ++ x5_1) ++ (⟨#[34]⟩ : ByteArray))] rfl (by (try simp only [List.map_toArray, List.map_cons, List.map_nil]); first | done | rfl | (simp only [List.length_drop, List.length_take]; rfl)) ?_; (with_reducible refine (lex_All.calls (((((⟨#[34]⟩ : ByteArray) ++ x10_4) ++ (⟨#[32]⟩ : ByteArray)) ++ x5_1) ++ (⟨#[34]⟩ : ByteArray)) t209 t210 t211 _ A40.out).mono ?_); rintro e w62 ⟨v212, rfl, ho0, hb⟩; refine ⟨_, rfl, ?_⟩; have n0_ := Aside0.mk (Kd.R_elder' (by (with_reducible repeat (first | apply Kd.R_alloc | apply Kd.R_drewN | apply Kd.R_drew)); exact HO208.out) (Kd.R_base ho0) hb); have n1_ := Aside0.mk (Kd.R_lower (Kd.R_new' ho0 (Kd.R_lt (by (with_reducible repeat (first | apply Kd.R_alloc | apply Kd.R_drewN | apply Kd.R_drew)); exact HO208.out))) (below_size (by repeat (first | (with_reducible first | exact HB.out | apply below_alloc | apply pw_below_drewN | apply below_drew1) | exact HB.out)))); have n2_ := Aside0.mk (below_step (by repeat (first | (with_reducible first | exact HB.out | apply below_alloc | apply pw_below_drewN | apply below_drew1) | exact HB.out)) hb); clear HO208; clear HB; have HO208 := n0_; have HO213 := n1_; have HB := n2_; clear n0_ n1_ n2_; (try clear hb); (try clear hb2); (try clear hk); (try clear hi); (try clear ho0); obtain ⟨Ao63, co63, eo63⟩ := Kd.R_slice HO208.out; subst eo63; have p214 : 0 ≤ (0 : Int) := (by omega); have q214 : 0 < (t204.length : Int) := of_decide_eq_true (by first | (with_reducible assumption) | assumption); obtain ⟨ad214, e214, hx214_0, hx214_1, hx214_2⟩ := at_T31 (Kd.R_reads' HO208.out).2.2 0 p214 q214; cases e214; have qi214 : (0 < t204.length) = True := eq_true (by omega); (try rw [show ((0 : Int)).toNat = 0 from rfl] at hx214_0); (try rw [show 0 * 3 = 0 from rfl] at hx214_0); (try rw [Addr.add_zero'] at hx214_0); (try rw [show ((0 : Int)).toNat = 0 from rfl] at hx214_1); (try rw [show 0 * 3 = 0 from rfl] at hx214_1); (try rw [Addr.add_zero'] at hx214_1); (try rw [show ((0 : Int)).toNat = 0 from rfl] at hx214_2); (try rw [show 0 * 3 = 0 from rfl] at hx214_2); (try rw [Addr.add_zero'] at hx214_2); replace p214 := eq_true p214; replace q214 := eq_true q214))
                                                go_ret
                                                exact ⟨by first | rfl | (simp [errW_none, errW_some] <;> rfl) | (simp [*, errW_none, errW_some] <;> rfl), by repeat (first | (with_reducible first | exact HB.out | apply below_alloc | apply pw_below_drewN | apply below_drew1) | exact HB.out)⟩
                                            · rw [if_neg c43] at H
                                              exact absurd H (by simp)
                                          · rw [if_neg c42] at H
                                            have c42b0 : ((t204.length : Int) == 1) = false := beq_eq_false_iff_ne.mpr c42
                                            have c42b1 : ((t204.length : Int) != 1) = true := bne_iff_ne.mpr c42
                                            obtain rfl := Option.some.inj H
                                            go_wp2_with (first | ((with_reducible refine gate_callee (f := 11) rfl ?_); refine goesL_ (some 86) rfl rfl Try.func11 (by kernel_rfl) rfl #[.string (x10_4 ++ x5_1)] rfl (by (try simp only [List.map_toArray, List.map_cons, List.map_nil]); first | done | rfl | (simp only [List.length_drop, List.length_take]; rfl)) ?_; (with_reducible refine (lex_All.calls (x10_4 ++ x5_1) t204 t205 t206 _ A35.out).mono ?_); rintro e w64 ⟨v207, rfl, ho0, hb⟩; refine ⟨_, rfl, ?_⟩; have n0_ := Aside0.mk (Kd.R_lower ho0 (below_size (by repeat (first | (with_reducible first | exact HB.out | apply below_alloc | apply pw_below_drewN | apply below_drew1) | exact HB.out)))); have n1_ := Aside0.mk (below_step (by repeat (first | (with_reducible first | exact HB.out | apply below_alloc | apply pw_below_drewN | apply below_drew1) | exact HB.out)) hb); clear HB; have HO208 := n0_; have HB := n1_; clear n0_ n1_; (try clear hb); (try clear hb2); (try clear hk); (try clear hi); (try clear ho0)) | ((with_reducible refine gate_callee (f := 11) rfl ?_); refine goesL_ (some 97) rfl rfl Try.func11 (by kernel_rfl) rfl #[.string (((((⟨#[34]⟩ : ByteArray) ++ x10_4) ++ (⟨#[32]⟩ : ByteArray)) ++ x5_1) ++ (⟨#[34]⟩ : ByteArray))] rfl (by (try simp only [List.map_toArray, List.map_cons, List.map_nil]); first | done | rfl | (simp only [List.length_drop, List.length_take]; rfl)) ?_; (with_reducible refine (lex_All.calls (((((⟨#[34]⟩ : ByteArray) ++ x10_4) ++ (⟨#[32]⟩ : ByteArray)) ++ x5_1) ++ (⟨#[34]⟩ : ByteArray)) t209 t210 t211 _ A40.out).mono ?_); rintro e w65 ⟨v212, rfl, ho0, hb⟩; refine ⟨_, rfl, ?_⟩; have n0_ := Aside0.mk (Kd.R_elder' (by (with_reducible repeat (first | apply Kd.R_alloc | apply Kd.R_drewN | apply Kd.R_drew)); exact HO208.out) (Kd.R_base ho0) hb); have n1_ := Aside0.mk (Kd.R_lower (Kd.R_new' ho0 (Kd.R_lt (by (with_reducible repeat (first | apply Kd.R_alloc | apply Kd.R_drewN | apply Kd.R_drew)); exact HO208.out))) (below_size (by repeat (first | (with_reducible first | exact HB.out | apply below_alloc | apply pw_below_drewN | apply below_drew1) | exact HB.out)))); have n2_ := Aside0.mk (below_step (by repeat (first | (with_reducible first | exact HB.out | apply below_alloc | apply pw_below_drewN | apply below_drew1) | exact HB.out)) hb); clear HO208; clear HB; have HO208 := n0_; have HO213 := n1_; have HB := n2_; clear n0_ n1_ n2_; (try clear hb); (try clear hb2); (try clear hk); (try clear hi); (try clear ho0); obtain ⟨Ao66, co66, eo66⟩ := Kd.R_slice HO208.out; subst eo66))
                                            go_ret
                                            exact ⟨by first | rfl | (simp [errW_none, errW_some] <;> rfl) | (simp [*, errW_none, errW_some] <;> rfl), by repeat (first | (with_reducible first | exact HB.out | apply below_alloc | apply pw_below_drewN | apply below_drew1) | exact HB.out)⟩
                                        · rw [if_neg c41] at H
                                          have c41b0 : (t206 == 0) = false := beq_eq_false_iff_ne.mpr c41
                                          have c41b1 : (t206 != 0) = true := bne_iff_ne.mpr c41
                                          obtain rfl := Option.some.inj H
                                          go_wp2_with (first | ((with_reducible refine gate_callee (f := 11) rfl ?_); refine goesL_ (some 86) rfl rfl Try.func11 (by kernel_rfl) rfl #[.string (x10_4 ++ x5_1)] rfl (by (try simp only [List.map_toArray, List.map_cons, List.map_nil]); first | done | rfl | (simp only [List.length_drop, List.length_take]; rfl)) ?_; (with_reducible refine (lex_All.calls (x10_4 ++ x5_1) t204 t205 t206 _ A35.out).mono ?_); rintro e w67 ⟨v207, rfl, ho0, hb⟩; refine ⟨_, rfl, ?_⟩; have n0_ := Aside0.mk (Kd.R_lower ho0 (below_size (by repeat (first | (with_reducible first | exact HB.out | apply below_alloc | apply pw_below_drewN | apply below_drew1) | exact HB.out)))); have n1_ := Aside0.mk (below_step (by repeat (first | (with_reducible first | exact HB.out | apply below_alloc | apply pw_below_drewN | apply below_drew1) | exact HB.out)) hb); clear HB; have HO208 := n0_; have HB := n1_; clear n0_ n1_; (try clear hb); (try clear hb2); (try clear hk); (try clear hi); (try clear ho0)) | ((with_reducible refine gate_callee (f := 11) rfl ?_); refine goesL_ (some 97) rfl rfl Try.func11 (by kernel_rfl) rfl #[.string (((((⟨#[34]⟩ : ByteArray) ++ x10_4) ++ (⟨#[32]⟩ : ByteArray)) ++ x5_1) ++ (⟨#[34]⟩ : ByteArray))] rfl (by (try simp only [List.map_toArray, List.map_cons, List.map_nil]); first | done | rfl | (simp only [List.length_drop, List.length_take]; rfl)) ?_; (with_reducible refine (lex_All.calls (((((⟨#[34]⟩ : ByteArray) ++ x10_4) ++ (⟨#[32]⟩ : ByteArray)) ++ x5_1) ++ (⟨#[34]⟩ : ByteArray)) t209 t210 t211 _ A40.out).mono ?_); rintro e w68 ⟨v212, rfl, ho0, hb⟩; refine ⟨_, rfl, ?_⟩; have n0_ := Aside0.mk (Kd.R_elder' (by (with_reducible repeat (first | apply Kd.R_alloc | apply Kd.R_drewN | apply Kd.R_drew)); exact HO208.out) (Kd.R_base ho0) hb); have n1_ := Aside0.mk (Kd.R_lower (Kd.R_new' ho0 (Kd.R_lt (by (with_reducible repeat (first | apply Kd.R_alloc | apply Kd.R_drewN | apply Kd.R_drew)); exact HO208.out))) (below_size (by repeat (first | (with_reducible first | exact HB.out | apply below_alloc | apply pw_below_drewN | apply below_drew1) | exact HB.out)))); have n2_ := Aside0.mk (below_step (by repeat (first | (with_reducible first | exact HB.out | apply below_alloc | apply pw_below_drewN | apply below_drew1) | exact HB.out)) hb); clear HO208; clear HB; have HO208 := n0_; have HO213 := n1_; have HB := n2_; clear n0_ n1_ n2_; (try clear hb); (try clear hb2); (try clear hk); (try clear hi); (try clear ho0)))
                                          go_ret
                                          exact ⟨by first | rfl | (simp [errW_none, errW_some] <;> rfl) | (simp [*, errW_none, errW_some] <;> rfl), by repeat (first | (with_reducible first | exact HB.out | apply below_alloc | apply pw_below_drewN | apply below_drew1) | exact HB.out)⟩
                                      · rw [if_neg c39] at H
                                        exact absurd H (by simp)
                                    · rw [if_neg c38] at H
                                      exact absurd H (by simp)
                                  · rw [if_neg c37] at H
                                    exact absurd H (by simp)
                                · rw [if_neg c36] at H
                                  exact absurd H (by simp)
                              · rw [if_neg c34] at H
                                exact absurd H (by simp)
  · replace c4 := Bool.eq_false_iff.mpr c4
    subst c4
    have H1 : (some false) = some r := by rw [if_neg (show ¬ (false = true) by decide)] at H; exact H
    clear H
    have H := H1
    clear H1
    obtain rfl := Option.some.inj H
    go_enter Try.func9, Try.ntmps9
    go_wp2_with (first | ((with_reducible refine gate_callee (f := 14) rfl ?_); refine goesL_ (some 18) rfl rfl Try.func14 (by kernel_rfl) rfl #[] rfl (by (try simp only [List.map_toArray, List.map_cons, List.map_nil]); first | done | rfl | (simp only [List.length_drop, List.length_take]; rfl)) ?_; (with_reducible refine (tocsinlaw09_awake.calls  false _ A3.out).mono ?_); rintro e w69 ⟨rfl, hb⟩; refine ⟨_, rfl, ?_⟩; have n0_ := Aside0.mk (below_step (by repeat (first | (with_reducible first | exact HB.out | apply below_alloc | apply pw_below_drewN | apply below_drew1) | exact HB.out)) hb); clear HB; have HB := n0_; clear n0_; (try clear hb); (try clear hb2); (try clear hk); (try clear hi)))
    go_ret
    exact ⟨by first | rfl | (simp [errW_none, errW_some] <;> rfl) | (simp [*, errW_none, errW_some] <;> rfl), by repeat (first | (with_reducible first | exact HB.out | apply below_alloc | apply pw_below_drewN | apply below_drew1) | exact HB.out)⟩

/-- THE ONE PURE STATEMENT of tocsinlaw09_LexKinds: yours. -/
def tocsinlaw09_LexKinds.Pure : Prop := ∀ (a0 : Int) (l1 : List Int), (Lit.int .u64 a0).wf = true → l1.length ≤ maxLen → l1.length * 1 ≤ 140737488351232 → (∀ x ∈ l1, (Lit.int .u8 x).wf = true) → ∃ k, tocsinlaw09_LexKinds.f k a0 l1 = some true
theorem tocsinlaw09_LexKinds.walk (P : tocsinlaw09_LexKinds.Pure) (a0 : Int) (a1 : Option Addr) (len1 cap1 : Nat) (z1 : List Int) (w : World) (w0 : (Lit.int .u64 a0).wf = true) (w1 : (a1 = none ∧ len1 = 0 ∧ cap1 = 0 ∧ z1 = []) ∨ ∃ x, a1 = some x ∧ len1 ≤ cap1 ∧ cap1 ≤ maxLen ∧ z1.length = cap1 ∧ (∀ i, i < z1.length → w.cell? (x.add i) = some (.int .u8 (z1.getD i 0))) ∧ ∀ n ∈ z1, (Lit.int .u8 n).wf = true) (y1 : len1 * 1 ≤ 140737488351232) :
    Calls Try.prog 9 #[.int .u64 a0, .slice a1 len1 cap1] w fun e w' => e = .returned (.bool true) ∧ Below w.heap.size w w' := by
  obtain ⟨l1, rfl, hr1, hm1, hw1, hc1⟩ := ReadsInt.ofRowC w1
  obtain ⟨k, h⟩ := P a0 l1 w0 hm1 y1 hw1
  refine (tocsinlaw09_LexKinds.calls k a0 _ _ l1 true w (Kd.C_of_reads (d := (0 : Int)) (h1 := fun _ => rfl) hr1) hc1 h).mono ?_
  rintro e w' ⟨rfl, hd⟩
  exact ⟨rfl, hd⟩

end Go.Proofs.Ytpeaepdhnicceaa.PAll
