/- Printed by a program of this session (wip/tools/myprint.py, which runs the kit's own printer) over contracts proved by hand: functions and their walks, and the row of a law: for every input it returns true. No conditions. -/
import Derived.Test.YtpeaepdhnicceaaPAllx0
import Derived.Test.YtpeaepdhnicceaaPAllx1
import Derived.Test.YtpeaepdhnicceaaPAllx2
namespace Go.Proofs.Ytpeaepdhnicceaa.PAll
open Go.RowKit Go.Proofs.Ytpeaepdhnicceaa.Ix Go.Proofs.Ytpeaepdhnicceaa.PBase Go.Proofs.Ytpeaepdhnicceaa.PTy Go.Proofs.Ytpeaepdhnicceaa.Given Go.Proofs.YtpeaepdhnicceaaW.PrintWords Go.Proofs.YtpeaepdhnicceaaW.PrintLast Go.Proofs.YtpeaepdhnicceaaW.PrintMore
attribute [local go_sem] max2_int min2_int max_two min_two max_three min_three max_four min_four   -- for this text's walks alone
set_option linter.unusedVariables false
set_option linter.unusedSimpArgs false

attribute [local go_sem high] eqA31
/-- Three rows that are read, and a struct's block of its own. -/
structure LT (w : World) (g : Nat) (cs : Array Value) (ok5 ok8 ok11 : Nat → Prop) (v5 v8 v11 : Value) (t5 t8 t11 : List S31) (V : World) : Prop where
  box : V.heap[g]? = some (.cells cs 31 (0, 0))
  r5 : Kd.R k31 31 V w.heap.size (fun k => ok5 k ∧ k ≠ g) v5 t5
  r8 : Kd.R k31 31 V w.heap.size (fun k => ok8 k ∧ k ≠ g) v8 t8
  r11 : Kd.R k31 31 V w.heap.size (fun k => ok11 k ∧ k ≠ g) v11 t11
  b : Below w.heap.size w V
  ge : w.heap.size ≤ g
theorem LT.new {w W : World} {ok5 ok8 ok11 : Nat → Prop} {v5 v8 v11 : Value} {t5 t8 t11 : List S31} (h5 : Kd.R k31 31 W w.heap.size ok5 v5 t5) (h8 : Kd.R k31 31 W w.heap.size ok8 v8 t8) (h11 : Kd.R k31 31 W w.heap.size ok11 v11 t11) (hb : Below w.heap.size w W) (cs : Array Value) :
    LT w W.heap.size cs ok5 ok8 ok11 v5 v8 v11 t5 t8 t11 (W.alloc (.cells cs 31)) := by
  have hB : Below W.heap.size W (W.alloc (.cells cs 31)) := (Below.refl _ W).alloc (Nat.le_refl _) _
  have key : ∀ {ok : Nat → Prop} {v : Value} {t : List S31}, Kd.R k31 31 W w.heap.size ok v t → Kd.R k31 31 (W.alloc (.cells cs 31)) w.heap.size (fun k => ok k ∧ k ≠ W.heap.size) v t := fun h =>
    Kd.R_mono (Kd.R_move (Kd.R_bound h) (fun k hk => hB.block k hk.2.2.1)) (fun k hk => ⟨hk.1, by have := hk.2.2.1; omega⟩)
  exact ⟨heap_alloc_new W _, key h5, key h8, key h11, hb.trans (hB.mono hb.size), hb.size⟩
theorem LT.put {w : World} {g : Nat} {cs : Array Value} {ok5 ok8 ok11 : Nat → Prop} {v5 v8 v11 : Value} {t5 t8 t11 : List S31} {V : World} (h : LT w g cs ok5 ok8 ok11 v5 v8 v11 t5 t8 t11 V) (j : Nat) (u : Value) {cs' : Array Value} (e : cs.setIfInBounds j u = cs') :
    LT w g cs' ok5 ok8 ok11 v5 v8 v11 t5 t8 t11 (V.setCell ⟨g, j, none⟩ u) :=
  ⟨blk_put h.box j u e, Kd.R_far h.r5 (fun _ hk => hk.2) u, Kd.R_far h.r8 (fun _ hk => hk.2) u, Kd.R_far h.r11 (fun _ hk => hk.2) u, h.b.setCell (p := ⟨g, j, none⟩) h.ge _, h.ge⟩
theorem LT.drew {w : World} {g : Nat} {cs : Array Value} {ok5 ok8 ok11 : Nat → Prop} {v5 v8 v11 : Value} {t5 t8 t11 : List S31} {V : World} (h : LT w g cs ok5 ok8 ok11 v5 v8 v11 t5 t8 t11 V) (n : Nat) : LT w g cs ok5 ok8 ok11 v5 v8 v11 t5 t8 t11 (V.drewN n) :=
  ⟨h.box, Kd.R_step h.r5 (fun _ _ _ => rfl), Kd.R_step h.r8 (fun _ _ _ => rfl), Kd.R_step h.r11 (fun _ _ _ => rfl), h.b.trans ((show Drawn0 V (V.drewN n) from ⟨⟨n, rfl⟩⟩).below.mono h.b.size), h.ge⟩
theorem gen_wp {P : Program} {c : Code} {Q : Exit → Act → World → Prop} {a : Act} {W : World} (F : World → Prop) (hF : F W) (h : ∀ V, F V → c.wp P Q a V) : c.wp P Q a W := h W hF
/-! ### tocsinlaw09_LexTwo: function 7 -/
mutual
def tocsinlaw09_LexTwo.j0 : Nat → ByteArray → ByteArray → Bool → Option (Bool)
  | 0, _, _, _ => none
  | k + 1, x0, x1, x25 => if x25 = true then (some true) else ((lex_All.f x0).bind fun bt156 => ((lex_All.f x1).bind fun bt161 => (if bt156.2.2 = 0 then (tocsinlaw09_LexTwo.j1 k x0 x1 bt156.1 bt161.1 (bt161.2.2 != 0)) else (tocsinlaw09_LexTwo.j1 k x0 x1 bt156.1 bt161.1 true))))
def tocsinlaw09_LexTwo.j1 : Nat → ByteArray → ByteArray → List (S31) → List (S31) → Bool → Option (Bool)
  | 0, _, _, _, _, _ => none
  | k + 1, x0, x1, x5, x8, x43 => if x43 = true then (some true) else (if x0.size + 1 ≤ 9223372036854775807 then (if (x0 ++ (⟨#[10]⟩ : ByteArray)).size + x1.size ≤ 9223372036854775807 then ((lex_All.f ((x0 ++ (⟨#[10]⟩ : ByteArray)) ++ x1)).bind fun bt166 => (if bt166.2.2 = 0 then (tocsinlaw09_LexTwo.j2 k x0 x5 x8 bt166.1 ((bt166.1.length : Int) != (wrap64 ((x5.length : Int) + (x8.length : Int))))) else (tocsinlaw09_LexTwo.j2 k x0 x5 x8 bt166.1 true))) else (none)) else (none))
def tocsinlaw09_LexTwo.j2 : Nat → ByteArray → List (S31) → List (S31) → List (S31) → Bool → Option (Bool)
  | 0, _, _, _, _, _ => none
  | k + 1, x0, x5, x8, x11, x64 => if x64 = true then (some false) else (tocsinlaw09_LexTwo.l0 k x0 x5 x8 x11 0)
def tocsinlaw09_LexTwo.l0 : Nat → ByteArray → List (S31) → List (S31) → List (S31) → Int → Option (Bool)
  | 0, _, _, _, _, _ => none
  | k + 1, x0, x5, x8, x11, x14 => if x14 < (x11.length : Int) then (if x14 < (x5.length : Int) then (if 0 ≤ x14 then (if (!(((rd_T31 x11 x14).f0) == ((rd_T31 x5 x14).f0)) || (!((((rd_T31 x11 x14).f1).toList) == (((rd_T31 x5 x14).f1).toList)) || (!(((rd_T31 x11 x14).f2) == ((rd_T31 x5 x14).f2))))) = true then (none) else (tocsinlaw09_LexTwo.l0 k x0 x5 x8 x11 (wrap64 (x14 + 1)))) else (none)) else (if 0 ≤ (wrap64 (x14 - (x5.length : Int))) then (if (wrap64 (x14 - (x5.length : Int))) < (x8.length : Int) then (if 0 ≤ x14 then (if (!(((rd_T31 x11 x14).f0) == ((rd_T31 x8 (wrap64 (x14 - (x5.length : Int)))).f0)) || (!((((rd_T31 x11 x14).f1).toList) == (((rd_T31 x8 (wrap64 (x14 - (x5.length : Int)))).f1).toList)) || (!(((rd_T31 x11 x14).f2) == (wrap64 ((wrap64 (((rd_T31 x8 (wrap64 (x14 - (x5.length : Int)))).f2) + (x0.size : Int))) + 1)))))) = true then (none) else (tocsinlaw09_LexTwo.l0 k x0 x5 x8 x11 (wrap64 (x14 + 1)))) else (none)) else (none)) else (none))) else (some true)
end
def tocsinlaw09_LexTwo.f (k : Nat) (a0 : ByteArray) (a1 : ByteArray) : Option (Bool) := (tocsinlaw09_awake.f).bind fun t155 => (if t155 = true then (if (a0.size : Int) > 2000 then (tocsinlaw09_LexTwo.j0 k a0 a1 true) else (tocsinlaw09_LexTwo.j0 k a0 a1 (decide ((a1.size : Int) > 2000)))) else (some false))
theorem tocsinlaw09_LexTwo.mono_l : ∀ k, (∀ y0 y1 y2, LeO (tocsinlaw09_LexTwo.j0 k y0 y1 y2) (tocsinlaw09_LexTwo.j0 (k + 1) y0 y1 y2)) ∧ (∀ y0 y1 y2 y3 y4, LeO (tocsinlaw09_LexTwo.j1 k y0 y1 y2 y3 y4) (tocsinlaw09_LexTwo.j1 (k + 1) y0 y1 y2 y3 y4)) ∧ (∀ y0 y1 y2 y3 y4, LeO (tocsinlaw09_LexTwo.j2 k y0 y1 y2 y3 y4) (tocsinlaw09_LexTwo.j2 (k + 1) y0 y1 y2 y3 y4)) ∧ (∀ y0 y1 y2 y3 y4, LeO (tocsinlaw09_LexTwo.l0 k y0 y1 y2 y3 y4) (tocsinlaw09_LexTwo.l0 (k + 1) y0 y1 y2 y3 y4))
  | 0 => ⟨fun _ _ _ r h => by simp [tocsinlaw09_LexTwo.j0] at h, fun _ _ _ _ _ r h => by simp [tocsinlaw09_LexTwo.j1] at h, fun _ _ _ _ _ r h => by simp [tocsinlaw09_LexTwo.j2] at h, fun _ _ _ _ _ r h => by simp [tocsinlaw09_LexTwo.l0] at h⟩
  | k + 1 => by
    obtain ⟨ih0, ih1, ih2, ih3⟩ := tocsinlaw09_LexTwo.mono_l k
    refine ⟨?_, ?_, ?_, ?_⟩
    · intro y0 y1 y2
      unfold tocsinlaw09_LexTwo.j0
      repeat' first
      | (with_reducible exact ih0 _ _ _)
      | (with_reducible exact ih1 _ _ _ _ _)
      | (with_reducible exact ih2 _ _ _ _ _)
      | (with_reducible exact ih3 _ _ _ _ _)
      | (with_reducible exact LeO.refl _)
      | (with_reducible exact LeO.none _)
      | (with_reducible refine LeO.ite ?_ ?_)
      | (with_reducible refine LeO.bind ?_ (fun _ => ?_))
      | exact ih0 _ _ _
      | exact ih1 _ _ _ _ _
      | exact ih2 _ _ _ _ _
      | exact ih3 _ _ _ _ _
      | exact LeO.none _
      | refine LeO.ite ?_ ?_
      | refine LeO.bind ?_ (fun _ => ?_)
    · intro y0 y1 y2 y3 y4
      unfold tocsinlaw09_LexTwo.j1
      repeat' first
      | (with_reducible exact ih0 _ _ _)
      | (with_reducible exact ih1 _ _ _ _ _)
      | (with_reducible exact ih2 _ _ _ _ _)
      | (with_reducible exact ih3 _ _ _ _ _)
      | (with_reducible exact LeO.refl _)
      | (with_reducible exact LeO.none _)
      | (with_reducible refine LeO.ite ?_ ?_)
      | (with_reducible refine LeO.bind ?_ (fun _ => ?_))
      | exact ih0 _ _ _
      | exact ih1 _ _ _ _ _
      | exact ih2 _ _ _ _ _
      | exact ih3 _ _ _ _ _
      | exact LeO.none _
      | refine LeO.ite ?_ ?_
      | refine LeO.bind ?_ (fun _ => ?_)
    · intro y0 y1 y2 y3 y4
      unfold tocsinlaw09_LexTwo.j2
      repeat' first
      | (with_reducible exact ih0 _ _ _)
      | (with_reducible exact ih1 _ _ _ _ _)
      | (with_reducible exact ih2 _ _ _ _ _)
      | (with_reducible exact ih3 _ _ _ _ _)
      | (with_reducible exact LeO.refl _)
      | (with_reducible exact LeO.none _)
      | (with_reducible refine LeO.ite ?_ ?_)
      | (with_reducible refine LeO.bind ?_ (fun _ => ?_))
      | exact ih0 _ _ _
      | exact ih1 _ _ _ _ _
      | exact ih2 _ _ _ _ _
      | exact ih3 _ _ _ _ _
      | exact LeO.none _
      | refine LeO.ite ?_ ?_
      | refine LeO.bind ?_ (fun _ => ?_)
    · intro y0 y1 y2 y3 y4
      unfold tocsinlaw09_LexTwo.l0
      repeat' first
      | (with_reducible exact ih0 _ _ _)
      | (with_reducible exact ih1 _ _ _ _ _)
      | (with_reducible exact ih2 _ _ _ _ _)
      | (with_reducible exact ih3 _ _ _ _ _)
      | (with_reducible exact LeO.refl _)
      | (with_reducible exact LeO.none _)
      | (with_reducible refine LeO.ite ?_ ?_)
      | (with_reducible refine LeO.bind ?_ (fun _ => ?_))
      | exact ih0 _ _ _
      | exact ih1 _ _ _ _ _
      | exact ih2 _ _ _ _ _
      | exact ih3 _ _ _ _ _
      | exact LeO.none _
      | refine LeO.ite ?_ ?_
      | refine LeO.bind ?_ (fun _ => ?_)
theorem tocsinlaw09_LexTwo.mono : ∀ a0 a1 k, LeO (tocsinlaw09_LexTwo.f k a0 a1) (tocsinlaw09_LexTwo.f (k + 1) a0 a1) := by
  intro a0 a1 k
  obtain ⟨ih0, ih1, ih2, ih3⟩ := tocsinlaw09_LexTwo.mono_l k
  unfold tocsinlaw09_LexTwo.f
  repeat' first
      | (with_reducible exact ih0 _ _ _)
      | (with_reducible exact ih1 _ _ _ _ _)
      | (with_reducible exact ih2 _ _ _ _ _)
      | (with_reducible exact ih3 _ _ _ _ _)
      | (with_reducible exact LeO.refl _)
      | (with_reducible exact LeO.none _)
      | (with_reducible refine LeO.ite ?_ ?_)
      | (with_reducible refine LeO.bind ?_ (fun _ => ?_))
      | exact ih0 _ _ _
      | exact ih1 _ _ _ _ _
      | exact ih2 _ _ _ _ _
      | exact ih3 _ _ _ _ _
      | exact LeO.none _
      | refine LeO.ite ?_ ?_
      | refine LeO.bind ?_ (fun _ => ?_)
set_option maxHeartbeats 8000000 in
set_option maxRecDepth 100000 in
theorem tocsinlaw09_LexTwo.calls (k : Nat) (a0 : ByteArray) (a1 : ByteArray) (r : Bool) (w : World) (h : tocsinlaw09_LexTwo.f k a0 a1 = some r) :
    Calls Try.prog 7 #[.string a0, .string a1] w fun e w' => e = .returned (.bool r) ∧ Below w.heap.size w w' := by
  have hu31 := Try.underlying31
  have HB := Aside0.mk (Below.refl w.heap.size w)
  have H : ((tocsinlaw09_awake.f).bind fun t155 => (if t155 = true then (if (a0.size : Int) > 2000 then (tocsinlaw09_LexTwo.j0 k a0 a1 true) else (tocsinlaw09_LexTwo.j0 k a0 a1 (decide ((a1.size : Int) > 2000)))) else (some false))) = some r := h
  clear h
  replace H := Option.bind_eq_some_iff.mp H
  obtain ⟨t155, A30, H⟩ := H
  replace H : (if t155 = true then (if (a0.size : Int) > 2000 then (tocsinlaw09_LexTwo.j0 k a0 a1 true) else (tocsinlaw09_LexTwo.j0 k a0 a1 (decide ((a1.size : Int) > 2000)))) else (some false)) = some r := H
  have A3 := Aside0.mk A30
  clear A30
  by_cases c4 : t155 = true
  · subst c4
    have H1 : (if (a0.size : Int) > 2000 then (tocsinlaw09_LexTwo.j0 k a0 a1 true) else (tocsinlaw09_LexTwo.j0 k a0 a1 (decide ((a1.size : Int) > 2000)))) = some r := by rw [if_pos rfl] at H; exact H
    clear H
    have H := H1
    clear H1
    have HC5 := Aside0.mk H
    clear H
    go_enter Try.func7, Try.ntmps7
    go_upto_region 3 with (first | (go_at_call 14; (with_reducible refine (tocsinlaw09_awake.calls  true _ A3.out).mono ?_); rintro e w6 ⟨rfl, hb⟩; have n0_ := Aside0.mk (below_step (by repeat (first | (with_reducible first | exact HB.out | apply below_alloc | apply pw_below_drewN | apply below_drew1) | exact HB.out)) hb); clear HB; have HB := n0_; clear n0_; (try clear hb); (try clear hb2); (try clear hk); (try clear hi)))
    repeat (go_quiet (first | (go_at_call 14; (with_reducible refine (tocsinlaw09_awake.calls  true _ A3.out).mono ?_); rintro e w6 ⟨rfl, hb⟩; have n0_ := Aside0.mk (below_step (by repeat (first | (with_reducible first | exact HB.out | apply below_alloc | apply pw_below_drewN | apply below_drew1) | exact HB.out)) hb); clear HB; have HB := n0_; clear n0_; (try clear hb); (try clear hb2); (try clear hk); (try clear hi))); go_upto_region 3 with (first | (go_at_call 14; (with_reducible refine (tocsinlaw09_awake.calls  true _ A3.out).mono ?_); rintro e w6 ⟨rfl, hb⟩; have n0_ := Aside0.mk (below_step (by repeat (first | (with_reducible first | exact HB.out | apply below_alloc | apply pw_below_drewN | apply below_drew1) | exact HB.out)) hb); clear HB; have HB := n0_; clear n0_; (try clear hb); (try clear hb2); (try clear hk); (try clear hi))))
    (try simp only [Act.put, List.setIfInBounds_toArray, List.set_cons_zero, List.set_cons_succ])
    go_cut [25] (fun v25 wc => ∃ (kq : Nat) (x25_4 : Bool), v25 = .bool x25_4 ∧ Aside0 (tocsinlaw09_LexTwo.j0 kq a0 a1 x25_4 = some r) ∧ Aside0 (kq ≤ k) ∧ Aside0 (Below w.heap.size w wc))
    case first =>
      have H := HC5.out
      clear HC5
      by_cases c7 : (a0.size : Int) > 2000
      · rw [if_pos c7] at H
        have c7b0 : decide (2000 < (a0.size : Int)) = true := decide_eq_true c7
        have c7b1 : decide (2000 < a0.size) = true := decide_eq_true (by omega)
        clear c7
        (first | rw [c7b0] | (simp only [i64_w, i32_w]; rw [c7b0]) | skip)
        have H' := Aside0.mk H
        clear H
        go_wp2
        repeat (go_quiet (fail); try go_wp2)
        go_meet
        case rel => exact ⟨_, (true), (by first | rfl | (simp; done) | (simp [*]; done)), H', ⟨by first | omega | exact Nat.le_refl _⟩, ⟨by repeat (first | (with_reducible first | exact HB.out | apply below_alloc | apply pw_below_drewN | apply below_drew1) | exact HB.out)⟩⟩
      · rw [if_neg c7] at H
        have c7b0 : decide (2000 < (a0.size : Int)) = false := decide_eq_false c7
        have c7b1 : decide (2000 < a0.size) = false := decide_eq_false (by omega)
        clear c7
        (first | rw [c7b0] | (simp only [i64_w, i32_w]; rw [c7b0]) | skip)
        have H' := Aside0.mk H
        clear H
        go_wp2
        repeat (go_quiet (fail); try go_wp2)
        go_meet
        case rel => exact ⟨_, (decide ((a1.size : Int) > 2000)), (by first | rfl | (simp; done) | (simp [*]; done)), H', ⟨by first | omega | exact Nat.le_refl _⟩, ⟨by repeat (first | (with_reducible first | exact HB.out | apply below_alloc | apply pw_below_drewN | apply below_drew1) | exact HB.out)⟩⟩
    case rest =>
      clear HC5
      try clear p2
      try clear c4
      try clear c7
      try clear c7b0
      try clear c7b1
      obtain ⟨kq, x25_4, rfl, HA, HJ4, HB⟩ := hcut
      cases kq with
      | zero => exact absurd HA.out (by simp [tocsinlaw09_LexTwo.j0])
      | succ kj4 =>
        have H := HA.out
        clear HA
        simp only [tocsinlaw09_LexTwo.j0] at H
        by_cases c8 : x25_4 = true
        · subst c8
          have H1 : (some true) = some r := by rw [if_pos rfl] at H; exact H
          clear H
          have H := H1
          clear H1
          obtain rfl := Option.some.inj H
          go_wp2
          repeat (go_quiet (fail); try go_wp2)
          go_ret
          exact ⟨by first | rfl | (simp [errW_none, errW_some] <;> rfl) | (simp [*, errW_none, errW_some] <;> rfl), by repeat (first | (with_reducible first | exact HB.out | apply below_alloc | apply pw_below_drewN | apply below_drew1) | exact HB.out)⟩
        · replace c8 := Bool.eq_false_iff.mpr c8
          subst c8
          have H1 : ((lex_All.f a0).bind fun bt156 => ((lex_All.f a1).bind fun bt161 => (if bt156.2.2 = 0 then (tocsinlaw09_LexTwo.j1 kj4 a0 a1 bt156.1 bt161.1 (bt161.2.2 != 0)) else (tocsinlaw09_LexTwo.j1 kj4 a0 a1 bt156.1 bt161.1 true)))) = some r := by rw [if_neg (show ¬ (false = true) by decide)] at H; exact H
          clear H
          have H := H1
          clear H1
          replace H := Option.bind_eq_some_iff.mp H
          obtain ⟨⟨t156, t157, t158⟩, A90, H⟩ := H
          replace H : ((lex_All.f a1).bind fun bt161 => (if t158 = 0 then (tocsinlaw09_LexTwo.j1 kj4 a0 a1 t156 bt161.1 (bt161.2.2 != 0)) else (tocsinlaw09_LexTwo.j1 kj4 a0 a1 t156 bt161.1 true))) = some r := H
          have A9 := Aside0.mk A90
          clear A90
          replace H := Option.bind_eq_some_iff.mp H
          obtain ⟨⟨t161, t162, t163⟩, A100, H⟩ := H
          replace H : (if t158 = 0 then (tocsinlaw09_LexTwo.j1 kj4 a0 a1 t156 t161 (t163 != 0)) else (tocsinlaw09_LexTwo.j1 kj4 a0 a1 t156 t161 true)) = some r := H
          have A10 := Aside0.mk A100
          clear A100
          have HC11 := Aside0.mk H
          clear H
          go_upto_region 7 with (first | (go_at_call 11; (with_reducible refine (lex_All.calls a0 t156 t157 t158 _ A9.out).mono ?_); rintro e w12 ⟨v159, rfl, ho0, hb⟩; have n0_ := Aside0.mk (Kd.R_lower ho0 (below_size (by repeat (first | (with_reducible first | exact HB.out | apply below_alloc | apply pw_below_drewN | apply below_drew1) | exact HB.out)))); have n1_ := Aside0.mk (below_step (by repeat (first | (with_reducible first | exact HB.out | apply below_alloc | apply pw_below_drewN | apply below_drew1) | exact HB.out)) hb); clear HB; have HO160 := n0_; have HB := n1_; clear n0_ n1_; (try clear hb); (try clear hb2); (try clear hk); (try clear hi); (try clear ho0)) | (go_at_call 11; (with_reducible refine (lex_All.calls a1 t161 t162 t163 _ A10.out).mono ?_); rintro e w13 ⟨v164, rfl, ho0, hb⟩; have n0_ := Aside0.mk (Kd.R_elder' (by (with_reducible repeat (first | apply Kd.R_alloc | apply Kd.R_drewN | apply Kd.R_drew)); exact HO160.out) (Kd.R_base ho0) hb); have n1_ := Aside0.mk (Kd.R_lower (Kd.R_new' ho0 (Kd.R_lt (by (with_reducible repeat (first | apply Kd.R_alloc | apply Kd.R_drewN | apply Kd.R_drew)); exact HO160.out))) (below_size (by repeat (first | (with_reducible first | exact HB.out | apply below_alloc | apply pw_below_drewN | apply below_drew1) | exact HB.out)))); have n2_ := Aside0.mk (below_step (by repeat (first | (with_reducible first | exact HB.out | apply below_alloc | apply pw_below_drewN | apply below_drew1) | exact HB.out)) hb); clear HO160; clear HB; have HO160 := n0_; have HO165 := n1_; have HB := n2_; clear n0_ n1_ n2_; (try clear hb); (try clear hb2); (try clear hk); (try clear hi); (try clear ho0)))
          repeat (go_quiet (first | (go_at_call 11; (with_reducible refine (lex_All.calls a0 t156 t157 t158 _ A9.out).mono ?_); rintro e w12 ⟨v159, rfl, ho0, hb⟩; have n0_ := Aside0.mk (Kd.R_lower ho0 (below_size (by repeat (first | (with_reducible first | exact HB.out | apply below_alloc | apply pw_below_drewN | apply below_drew1) | exact HB.out)))); have n1_ := Aside0.mk (below_step (by repeat (first | (with_reducible first | exact HB.out | apply below_alloc | apply pw_below_drewN | apply below_drew1) | exact HB.out)) hb); clear HB; have HO160 := n0_; have HB := n1_; clear n0_ n1_; (try clear hb); (try clear hb2); (try clear hk); (try clear hi); (try clear ho0)) | (go_at_call 11; (with_reducible refine (lex_All.calls a1 t161 t162 t163 _ A10.out).mono ?_); rintro e w13 ⟨v164, rfl, ho0, hb⟩; have n0_ := Aside0.mk (Kd.R_elder' (by (with_reducible repeat (first | apply Kd.R_alloc | apply Kd.R_drewN | apply Kd.R_drew)); exact HO160.out) (Kd.R_base ho0) hb); have n1_ := Aside0.mk (Kd.R_lower (Kd.R_new' ho0 (Kd.R_lt (by (with_reducible repeat (first | apply Kd.R_alloc | apply Kd.R_drewN | apply Kd.R_drew)); exact HO160.out))) (below_size (by repeat (first | (with_reducible first | exact HB.out | apply below_alloc | apply pw_below_drewN | apply below_drew1) | exact HB.out)))); have n2_ := Aside0.mk (below_step (by repeat (first | (with_reducible first | exact HB.out | apply below_alloc | apply pw_below_drewN | apply below_drew1) | exact HB.out)) hb); clear HO160; clear HB; have HO160 := n0_; have HO165 := n1_; have HB := n2_; clear n0_ n1_ n2_; (try clear hb); (try clear hb2); (try clear hk); (try clear hi); (try clear ho0))); go_upto_region 7 with (first | (go_at_call 11; (with_reducible refine (lex_All.calls a0 t156 t157 t158 _ A9.out).mono ?_); rintro e w12 ⟨v159, rfl, ho0, hb⟩; have n0_ := Aside0.mk (Kd.R_lower ho0 (below_size (by repeat (first | (with_reducible first | exact HB.out | apply below_alloc | apply pw_below_drewN | apply below_drew1) | exact HB.out)))); have n1_ := Aside0.mk (below_step (by repeat (first | (with_reducible first | exact HB.out | apply below_alloc | apply pw_below_drewN | apply below_drew1) | exact HB.out)) hb); clear HB; have HO160 := n0_; have HB := n1_; clear n0_ n1_; (try clear hb); (try clear hb2); (try clear hk); (try clear hi); (try clear ho0)) | (go_at_call 11; (with_reducible refine (lex_All.calls a1 t161 t162 t163 _ A10.out).mono ?_); rintro e w13 ⟨v164, rfl, ho0, hb⟩; have n0_ := Aside0.mk (Kd.R_elder' (by (with_reducible repeat (first | apply Kd.R_alloc | apply Kd.R_drewN | apply Kd.R_drew)); exact HO160.out) (Kd.R_base ho0) hb); have n1_ := Aside0.mk (Kd.R_lower (Kd.R_new' ho0 (Kd.R_lt (by (with_reducible repeat (first | apply Kd.R_alloc | apply Kd.R_drewN | apply Kd.R_drew)); exact HO160.out))) (below_size (by repeat (first | (with_reducible first | exact HB.out | apply below_alloc | apply pw_below_drewN | apply below_drew1) | exact HB.out)))); have n2_ := Aside0.mk (below_step (by repeat (first | (with_reducible first | exact HB.out | apply below_alloc | apply pw_below_drewN | apply below_drew1) | exact HB.out)) hb); clear HO160; clear HB; have HO160 := n0_; have HO165 := n1_; have HB := n2_; clear n0_ n1_ n2_; (try clear hb); (try clear hb2); (try clear hk); (try clear hi); (try clear ho0))))
          (try simp only [Act.put, List.setIfInBounds_toArray, List.set_cons_zero, List.set_cons_succ])
          go_cut [43] (fun v43 wc => ∃ (kq : Nat) (x43_10 : Bool), v43 = .bool x43_10 ∧ Aside0 (tocsinlaw09_LexTwo.j1 kq a0 a1 t156 t161 x43_10 = some r) ∧ Aside0 (kq ≤ kj4) ∧ Aside0 (Kd.R k31 31 wc w.heap.size (fun k_ => some k_ ≠ (v164 : Value).ownBlock) v159 t156) ∧ Aside0 (Kd.R k31 31 wc w.heap.size (fun k_ => some k_ ≠ (v159 : Value).ownBlock) v164 t161) ∧ Aside0 (Below w.heap.size w wc))
          case first =>
            have H := HC11.out
            clear HC11
            by_cases c14 : t158 = 0
            · rw [if_pos c14] at H
              have c14b0 : (t158 == 0) = true := beq_iff_eq.mpr c14
              have c14b1 : (t158 != 0) = false := bne_eq_false_iff_eq.mpr c14
              clear c14
              (first | rw [c14b0] | (simp only [i64_w, i32_w]; rw [c14b0]) | skip)
              have H' := Aside0.mk H
              clear H
              go_wp2
              repeat (go_quiet (fail); try go_wp2)
              go_meet
              case rel => exact ⟨_, ((t163 != 0)), (by first | rfl | (simp; done) | (simp [*]; done)), H', ⟨by have := HJ4.out; first | omega | exact Nat.le_refl _⟩, ⟨by (with_reducible repeat (first | apply Kd.R_alloc | apply Kd.R_drewN | apply Kd.R_drew)); exact Kd.R_mono HO160.out (fun _ hk => hk.2)⟩, ⟨by (with_reducible repeat (first | apply Kd.R_alloc | apply Kd.R_drewN | apply Kd.R_drew)); exact Kd.R_mono HO165.out (fun _ hk => hk.2)⟩, ⟨by repeat (first | (with_reducible first | exact HB.out | apply below_alloc | apply pw_below_drewN | apply below_drew1) | exact HB.out)⟩⟩
            · rw [if_neg c14] at H
              have c14b0 : (t158 == 0) = false := beq_eq_false_iff_ne.mpr c14
              have c14b1 : (t158 != 0) = true := bne_iff_ne.mpr c14
              (first | rw [c14b0] | (simp only [i64_w, i32_w]; rw [c14b0]) | skip)
              have H' := Aside0.mk H
              clear H
              go_wp2
              repeat (go_quiet (fail); try go_wp2)
              go_meet
              case rel => exact ⟨_, (true), (by first | rfl | (simp; done) | (simp [*]; done)), H', ⟨by have := HJ4.out; first | omega | exact Nat.le_refl _⟩, ⟨by (with_reducible repeat (first | apply Kd.R_alloc | apply Kd.R_drewN | apply Kd.R_drew)); exact Kd.R_mono HO160.out (fun _ hk => hk.2)⟩, ⟨by (with_reducible repeat (first | apply Kd.R_alloc | apply Kd.R_drewN | apply Kd.R_drew)); exact Kd.R_mono HO165.out (fun _ hk => hk.2)⟩, ⟨by repeat (first | (with_reducible first | exact HB.out | apply below_alloc | apply pw_below_drewN | apply below_drew1) | exact HB.out)⟩⟩
          case rest =>
            clear HC11
            try clear c1
            try clear p2
            try clear c4
            try clear c7
            try clear c7b0
            try clear c7b1
            try clear c8
            try clear c14
            try clear c14b0
            try clear c14b1
            try clear p2
            obtain ⟨kq, x43_10, rfl, HA, HJ10, HO_5, HO_8, HB⟩ := hcut
            cases kq with
            | zero => exact absurd HA.out (by simp [tocsinlaw09_LexTwo.j1])
            | succ kj10 =>
              have H := HA.out
              clear HA
              simp only [tocsinlaw09_LexTwo.j1] at H
              by_cases c15 : x43_10 = true
              · subst c15
                have H1 : (some true) = some r := by rw [if_pos rfl] at H; exact H
                clear H
                have H := H1
                clear H1
                obtain rfl := Option.some.inj H
                go_wp2
                repeat (go_quiet (fail); try go_wp2)
                go_ret
                exact ⟨by first | rfl | (simp [errW_none, errW_some] <;> rfl) | (simp [*, errW_none, errW_some] <;> rfl), by repeat (first | (with_reducible first | exact HB.out | apply below_alloc | apply pw_below_drewN | apply below_drew1) | exact HB.out)⟩
              · replace c15 := Bool.eq_false_iff.mpr c15
                subst c15
                have H1 : (if a0.size + 1 ≤ 9223372036854775807 then (if (a0 ++ (⟨#[10]⟩ : ByteArray)).size + a1.size ≤ 9223372036854775807 then ((lex_All.f ((a0 ++ (⟨#[10]⟩ : ByteArray)) ++ a1)).bind fun bt166 => (if bt166.2.2 = 0 then (tocsinlaw09_LexTwo.j2 kj10 a0 t156 t161 bt166.1 ((bt166.1.length : Int) != (wrap64 ((t156.length : Int) + (t161.length : Int))))) else (tocsinlaw09_LexTwo.j2 kj10 a0 t156 t161 bt166.1 true))) else (none)) else (none)) = some r := by rw [if_neg (show ¬ (false = true) by decide)] at H; exact H
                clear H
                have H := H1
                clear H1
                by_cases c16 : a0.size + 1 ≤ 9223372036854775807
                · rw [if_pos c16] at H
                  have c16b0 := eq_true c16
                  have c16b1 : decide (a0.size + 1 ≤ 9223372036854775807) = true := decide_eq_true c16
                  try have c16b2 : (9223372036854775807 < a0.size + 1) = False := eq_false (Nat.not_lt.2 c16)
                  by_cases c17 : (a0 ++ (⟨#[10]⟩ : ByteArray)).size + a1.size ≤ 9223372036854775807
                  · rw [if_pos c17] at H
                    have c17b0 := eq_true c17
                    have c17b1 : decide ((a0 ++ (⟨#[10]⟩ : ByteArray)).size + a1.size ≤ 9223372036854775807) = true := decide_eq_true c17
                    try have c17b2 : (9223372036854775807 < (a0 ++ (⟨#[10]⟩ : ByteArray)).size + a1.size) = False := eq_false (Nat.not_lt.2 c17)
                    replace H := Option.bind_eq_some_iff.mp H
                    obtain ⟨⟨t166, t167, t168⟩, A180, H⟩ := H
                    replace H : (if t168 = 0 then (tocsinlaw09_LexTwo.j2 kj10 a0 t156 t161 t166 ((t166.length : Int) != (wrap64 ((t156.length : Int) + (t161.length : Int))))) else (tocsinlaw09_LexTwo.j2 kj10 a0 t156 t161 t166 true)) = some r := H
                    have A18 := Aside0.mk A180
                    clear A180
                    have HC19 := Aside0.mk H
                    clear H
                    go_upto_region 10 with (first | (go_at_call 11; (with_reducible refine (lex_All.calls ((a0 ++ (⟨#[10]⟩ : ByteArray)) ++ a1) t166 t167 t168 _ A18.out).mono ?_); rintro e w20 ⟨v169, rfl, ho0, hb⟩; have n0_ := Aside0.mk (Kd.R_elder' (by (with_reducible repeat (first | apply Kd.R_alloc | apply Kd.R_drewN | apply Kd.R_drew)); exact HO_5.out) (Kd.R_base ho0) hb); have n1_ := Aside0.mk (Kd.R_elder' (by (with_reducible repeat (first | apply Kd.R_alloc | apply Kd.R_drewN | apply Kd.R_drew)); exact HO_8.out) (Kd.R_base ho0) hb); have n2_ := Aside0.mk (Kd.R_lower (Kd.R_new' (Kd.R_new' ho0 (Kd.R_lt (by (with_reducible repeat (first | apply Kd.R_alloc | apply Kd.R_drewN | apply Kd.R_drew)); exact HO_5.out))) (Kd.R_lt (by (with_reducible repeat (first | apply Kd.R_alloc | apply Kd.R_drewN | apply Kd.R_drew)); exact HO_8.out))) (below_size (by repeat (first | (with_reducible first | exact HB.out | apply below_alloc | apply pw_below_drewN | apply below_drew1) | exact HB.out)))); have n3_ := Aside0.mk (below_step (by repeat (first | (with_reducible first | exact HB.out | apply below_alloc | apply pw_below_drewN | apply below_drew1) | exact HB.out)) hb); clear HO_5; clear HO_8; clear HB; have HO_5 := n0_; have HO_8 := n1_; have HO170 := n2_; have HB := n3_; clear n0_ n1_ n2_ n3_; (try clear hb); (try clear hb2); (try clear hk); (try clear hi); (try clear ho0)))
                    repeat (go_quiet (first | (go_at_call 11; (with_reducible refine (lex_All.calls ((a0 ++ (⟨#[10]⟩ : ByteArray)) ++ a1) t166 t167 t168 _ A18.out).mono ?_); rintro e w20 ⟨v169, rfl, ho0, hb⟩; have n0_ := Aside0.mk (Kd.R_elder' (by (with_reducible repeat (first | apply Kd.R_alloc | apply Kd.R_drewN | apply Kd.R_drew)); exact HO_5.out) (Kd.R_base ho0) hb); have n1_ := Aside0.mk (Kd.R_elder' (by (with_reducible repeat (first | apply Kd.R_alloc | apply Kd.R_drewN | apply Kd.R_drew)); exact HO_8.out) (Kd.R_base ho0) hb); have n2_ := Aside0.mk (Kd.R_lower (Kd.R_new' (Kd.R_new' ho0 (Kd.R_lt (by (with_reducible repeat (first | apply Kd.R_alloc | apply Kd.R_drewN | apply Kd.R_drew)); exact HO_5.out))) (Kd.R_lt (by (with_reducible repeat (first | apply Kd.R_alloc | apply Kd.R_drewN | apply Kd.R_drew)); exact HO_8.out))) (below_size (by repeat (first | (with_reducible first | exact HB.out | apply below_alloc | apply pw_below_drewN | apply below_drew1) | exact HB.out)))); have n3_ := Aside0.mk (below_step (by repeat (first | (with_reducible first | exact HB.out | apply below_alloc | apply pw_below_drewN | apply below_drew1) | exact HB.out)) hb); clear HO_5; clear HO_8; clear HB; have HO_5 := n0_; have HO_8 := n1_; have HO170 := n2_; have HB := n3_; clear n0_ n1_ n2_ n3_; (try clear hb); (try clear hb2); (try clear hk); (try clear hi); (try clear ho0))); go_upto_region 10 with (first | (go_at_call 11; (with_reducible refine (lex_All.calls ((a0 ++ (⟨#[10]⟩ : ByteArray)) ++ a1) t166 t167 t168 _ A18.out).mono ?_); rintro e w20 ⟨v169, rfl, ho0, hb⟩; have n0_ := Aside0.mk (Kd.R_elder' (by (with_reducible repeat (first | apply Kd.R_alloc | apply Kd.R_drewN | apply Kd.R_drew)); exact HO_5.out) (Kd.R_base ho0) hb); have n1_ := Aside0.mk (Kd.R_elder' (by (with_reducible repeat (first | apply Kd.R_alloc | apply Kd.R_drewN | apply Kd.R_drew)); exact HO_8.out) (Kd.R_base ho0) hb); have n2_ := Aside0.mk (Kd.R_lower (Kd.R_new' (Kd.R_new' ho0 (Kd.R_lt (by (with_reducible repeat (first | apply Kd.R_alloc | apply Kd.R_drewN | apply Kd.R_drew)); exact HO_5.out))) (Kd.R_lt (by (with_reducible repeat (first | apply Kd.R_alloc | apply Kd.R_drewN | apply Kd.R_drew)); exact HO_8.out))) (below_size (by repeat (first | (with_reducible first | exact HB.out | apply below_alloc | apply pw_below_drewN | apply below_drew1) | exact HB.out)))); have n3_ := Aside0.mk (below_step (by repeat (first | (with_reducible first | exact HB.out | apply below_alloc | apply pw_below_drewN | apply below_drew1) | exact HB.out)) hb); clear HO_5; clear HO_8; clear HB; have HO_5 := n0_; have HO_8 := n1_; have HO170 := n2_; have HB := n3_; clear n0_ n1_ n2_ n3_; (try clear hb); (try clear hb2); (try clear hk); (try clear hi); (try clear ho0))))
                    (try simp only [Act.put, List.setIfInBounds_toArray, List.set_cons_zero, List.set_cons_succ])
                    go_cut [64] (fun v64 wc => ∃ (kq : Nat) (x64_18 : Bool), v64 = .bool x64_18 ∧ Aside0 (tocsinlaw09_LexTwo.j2 kq a0 t156 t161 t166 x64_18 = some r) ∧ Aside0 (kq ≤ kj10) ∧ Aside0 (Kd.R k31 31 wc w.heap.size (fun k_ => some k_ ≠ (v164 : Value).ownBlock ∧ some k_ ≠ (v169 : Value).ownBlock) v159 t156) ∧ Aside0 (Kd.R k31 31 wc w.heap.size (fun k_ => some k_ ≠ (v159 : Value).ownBlock ∧ some k_ ≠ (v169 : Value).ownBlock) v164 t161) ∧ Aside0 (Kd.R k31 31 wc w.heap.size (fun k_ => some k_ ≠ (v159 : Value).ownBlock ∧ some k_ ≠ (v164 : Value).ownBlock) v169 t166) ∧ Aside0 (Below w.heap.size w wc))
                    case first =>
                      have H := HC19.out
                      clear HC19
                      by_cases c21 : t168 = 0
                      · rw [if_pos c21] at H
                        have c21b0 : (t168 == 0) = true := beq_iff_eq.mpr c21
                        have c21b1 : (t168 != 0) = false := bne_eq_false_iff_eq.mpr c21
                        clear c21
                        (first | rw [c21b0] | (simp only [i64_w, i32_w]; rw [c21b0]) | skip)
                        have H' := Aside0.mk H
                        clear H
                        obtain ⟨Ao22, co22, eo22⟩ := Kd.R_slice HO170.out
                        subst eo22
                        obtain ⟨Ao23, co23, eo23⟩ := Kd.R_slice HO_5.out
                        subst eo23
                        obtain ⟨Ao24, co24, eo24⟩ := Kd.R_slice HO_8.out
                        subst eo24
                        go_wp2
                        repeat (go_quiet (fail); try go_wp2)
                        go_meet
                        case rel => exact ⟨_, (((t166.length : Int) != (wrap64 ((t156.length : Int) + (t161.length : Int))))), (by first | rfl | (simp; done) | (simp [*]; done)), H', ⟨by have := HJ4.out; have := HJ10.out; first | omega | exact Nat.le_refl _⟩, ⟨by (with_reducible repeat (first | apply Kd.R_alloc | apply Kd.R_drewN | apply Kd.R_drew)); exact HO_5.out⟩, ⟨by (with_reducible repeat (first | apply Kd.R_alloc | apply Kd.R_drewN | apply Kd.R_drew)); exact HO_8.out⟩, ⟨by (with_reducible repeat (first | apply Kd.R_alloc | apply Kd.R_drewN | apply Kd.R_drew)); exact Kd.R_mono HO170.out (fun _ hk => ⟨hk.1.2, hk.2⟩)⟩, ⟨by repeat (first | (with_reducible first | exact HB.out | apply below_alloc | apply pw_below_drewN | apply below_drew1) | exact HB.out)⟩⟩
                      · rw [if_neg c21] at H
                        have c21b0 : (t168 == 0) = false := beq_eq_false_iff_ne.mpr c21
                        have c21b1 : (t168 != 0) = true := bne_iff_ne.mpr c21
                        (first | rw [c21b0] | (simp only [i64_w, i32_w]; rw [c21b0]) | skip)
                        have H' := Aside0.mk H
                        clear H
                        go_wp2
                        repeat (go_quiet (fail); try go_wp2)
                        go_meet
                        case rel => exact ⟨_, (true), (by first | rfl | (simp; done) | (simp [*]; done)), H', ⟨by have := HJ4.out; have := HJ10.out; first | omega | exact Nat.le_refl _⟩, ⟨by (with_reducible repeat (first | apply Kd.R_alloc | apply Kd.R_drewN | apply Kd.R_drew)); exact HO_5.out⟩, ⟨by (with_reducible repeat (first | apply Kd.R_alloc | apply Kd.R_drewN | apply Kd.R_drew)); exact HO_8.out⟩, ⟨by (with_reducible repeat (first | apply Kd.R_alloc | apply Kd.R_drewN | apply Kd.R_drew)); exact Kd.R_mono HO170.out (fun _ hk => ⟨hk.1.2, hk.2⟩)⟩, ⟨by repeat (first | (with_reducible first | exact HB.out | apply below_alloc | apply pw_below_drewN | apply below_drew1) | exact HB.out)⟩⟩
                    case rest =>
                      clear HC19
                      try clear c1
                      try clear c2
                      try clear p2
                      try clear c4
                      try clear p6
                      try clear c7
                      try clear c7b0
                      try clear c7b1
                      try clear c8
                      try clear c14
                      try clear c14b0
                      try clear c14b1
                      try clear c15
                      try clear c16
                      try clear c16b0
                      try clear c16b1
                      try clear c16b2
                      try clear c17
                      try clear c17b0
                      try clear c17b1
                      try clear c17b2
                      try clear c21
                      try clear c21b0
                      try clear c21b1
                      try clear p2
                      obtain ⟨kq, x64_18, rfl, HA, HJ18, HO_5, HO_8, HO_11, HB⟩ := hcut
                      cases kq with
                      | zero => exact absurd HA.out (by simp [tocsinlaw09_LexTwo.j2])
                      | succ kj18 =>
                        have H := HA.out
                        clear HA
                        simp only [tocsinlaw09_LexTwo.j2] at H
                        by_cases c25 : x64_18 = true
                        · subst c25
                          have H1 : (some false) = some r := by rw [if_pos rfl] at H; exact H
                          clear H
                          have H := H1
                          clear H1
                          obtain rfl := Option.some.inj H
                          go_wp2
                          repeat (go_quiet (fail); try go_wp2)
                          go_ret
                          exact ⟨by first | rfl | (simp [errW_none, errW_some] <;> rfl) | (simp [*, errW_none, errW_some] <;> rfl), by repeat (first | (with_reducible first | exact HB.out | apply below_alloc | apply pw_below_drewN | apply below_drew1) | exact HB.out)⟩
                        · replace c25 := Bool.eq_false_iff.mpr c25
                          subst c25
                          have H1 : (tocsinlaw09_LexTwo.l0 kj18 a0 t156 t161 t166 0) = some r := by rw [if_neg (show ¬ (false = true) by decide)] at H; exact H
                          clear H
                          have H := H1
                          clear H1
                          have H' := Aside0.mk H
                          clear H
                          go_wp2
                          repeat (go_quiet (fail); try go_wp2)
                          go_loopg [14] kj18 (fun kq v14 w' => ∃ (x14_4 : Int), v14 = .int .i64 x14_4 ∧ Aside0 (tocsinlaw09_LexTwo.l0 kq a0 t156 t161 t166 x14_4 = some r) ∧ Aside0 (kq ≤ kj18) ∧ Aside0 (Kd.R k31 31 w' w.heap.size (fun k_ => some k_ ≠ (v164 : Value).ownBlock ∧ some k_ ≠ (v169 : Value).ownBlock) v159 t156) ∧ Aside0 (Kd.R k31 31 w' w.heap.size (fun k_ => some k_ ≠ (v159 : Value).ownBlock ∧ some k_ ≠ (v169 : Value).ownBlock) v164 t161) ∧ Aside0 (Kd.R k31 31 w' w.heap.size (fun k_ => some k_ ≠ (v159 : Value).ownBlock ∧ some k_ ≠ (v164 : Value).ownBlock) v169 t166) ∧ Aside0 (Below w.heap.size w w'))
                          case atStart => exact ⟨(0), (by first | rfl | (simp; done) | (simp [*]; done)), H', ⟨Nat.le_refl _⟩, ⟨by (with_reducible repeat (first | apply Kd.R_alloc | apply Kd.R_drewN | apply Kd.R_drew)); exact HO_5.out⟩, ⟨by (with_reducible repeat (first | apply Kd.R_alloc | apply Kd.R_drewN | apply Kd.R_drew)); exact HO_8.out⟩, ⟨by (with_reducible repeat (first | apply Kd.R_alloc | apply Kd.R_drewN | apply Kd.R_drew)); exact HO_11.out⟩, ⟨by repeat (first | (with_reducible first | exact HB.out | apply below_alloc | apply pw_below_drewN | apply below_drew1) | exact HB.out)⟩⟩
                          case round =>
                            clear H'
                            try clear c1
                            try clear c2
                            try clear p2
                            try clear c4
                            try clear p6
                            try clear c7
                            try clear c7b0
                            try clear c7b1
                            try clear c8
                            try clear c14
                            try clear c14b0
                            try clear c14b1
                            try clear c15
                            try clear c16
                            try clear c16b0
                            try clear c16b1
                            try clear c16b2
                            try clear c17
                            try clear c17b0
                            try clear c17b1
                            try clear c17b2
                            try clear c21
                            try clear c21b0
                            try clear c21b1
                            try clear c25
                            try clear p2
                            try clear p6
                            obtain ⟨x14_4, rfl, HA, HK4, HO_5, HO_8, HO_11, HB⟩ := hrel
                            cases gk with
                            | zero => exact absurd HA.out (by simp [tocsinlaw09_LexTwo.l0])
                            | succ k4 =>
                              have H := HA.out
                              clear HA
                              simp only [tocsinlaw09_LexTwo.l0] at H
                              by_cases c26 : x14_4 < (t166.length : Int)
                              · rw [if_pos c26] at H
                                have c26b0 : decide (x14_4 < (t166.length : Int)) = true := decide_eq_true c26
                                clear c26
                                by_cases c27 : x14_4 < (t156.length : Int)
                                · rw [if_pos c27] at H
                                  have c27b0 : decide (x14_4 < (t156.length : Int)) = true := decide_eq_true c27
                                  clear c27
                                  by_cases c28 : 0 ≤ x14_4
                                  · rw [if_pos c28] at H
                                    have c28b0 : decide (0 ≤ x14_4) = true := decide_eq_true c28
                                    clear c28
                                    by_cases c29 : (!(((rd_T31 t166 x14_4).f0) == ((rd_T31 t156 x14_4).f0)) || (!((((rd_T31 t166 x14_4).f1).toList) == (((rd_T31 t156 x14_4).f1).toList)) || (!(((rd_T31 t166 x14_4).f2) == ((rd_T31 t156 x14_4).f2))))) = true
                                    · rw [if_pos c29] at H
                                      exact absurd H (by simp)
                                    · rw [if_neg c29] at H
                                      have c29b0 : (!(((rd_T31 t166 x14_4).f0) == ((rd_T31 t156 x14_4).f0)) || (!((((rd_T31 t166 x14_4).f1).toList) == (((rd_T31 t156 x14_4).f1).toList)) || (!(((rd_T31 t166 x14_4).f2) == ((rd_T31 t156 x14_4).f2))))) = false := by simpa using c29
                                      clear c29
                                      have H' := Aside0.mk H
                                      clear H
                                      have p0 : 0 ≤ (x14_4 : Int) := of_decide_eq_true c28b0
                                      have p1 : x14_4 < (t156.length : Int) := of_decide_eq_true c27b0
                                      have q0 : 0 ≤ (x14_4 : Int) := of_decide_eq_true c28b0
                                      have q1 : x14_4 < (t166.length : Int) := of_decide_eq_true c26b0
                                      obtain ⟨Ao11, co11, eo11⟩ := Kd.R_slice HO_11.out
                                      subst eo11
                                      obtain ⟨Ao5, co5, eo5⟩ := Kd.R_slice HO_5.out
                                      subst eo5
                                      obtain ⟨Ao8, co8, eo8⟩ := Kd.R_slice HO_8.out
                                      subst eo8
                                      have lt0 := LT.new HO_5.out HO_8.out HO_11.out HB.out #[.int .u8 0, .string (⟨#[]⟩ : ByteArray), .int .i64 0]
                                      obtain ⟨gb, hg⟩ : ∃ g_, g_ = wr.heap.size := ⟨_, rfl⟩
                                      obtain ⟨w31, hwa⟩ : ∃ W_, W_ = wr.alloc (.cells #[.int .u8 0, .string (⟨#[]⟩ : ByteArray), .int .i64 0] 31) := ⟨_, rfl⟩
                                      rw [← hwa, ← hg] at lt0
                                      have bx0 := blk_cell lt0.box 0
                                      have bx1 := blk_cell lt0.box 1
                                      have bx2 := blk_cell lt0.box 2
                                      have bf0 := blk_frozen lt0.box 0
                                      have bf1 := blk_frozen lt0.box 1
                                      have bf2 := blk_frozen lt0.box 2
                                      have L0 := Aside0.mk lt0
                                      clear lt0 HO_5 HO_8 HO_11 HB
                                      have hra := hwa.symm
                                      have hgr := hg.symm
                                      clear hwa hg
                                      go_upto_region 17 with (fail)
                                      clear hra hgr bx0 bx1 bx2 bf0 bf1 bf2
                                      refine gen_wp _ (((L0.out.put 0 _ rfl).put 1 _ rfl).put 2 _ rfl) ?_
                                      intro V0 lt1
                                      clear L0
                                      obtain ⟨adr, ead, hx0, hx1, hx2⟩ := at_T31 (Kd.R_reads' lt1.r5).2.2 (x14_4) p0 p1
                                      cases ead
                                      have bx0 := blk_cell lt1.box 0
                                      have bx1 := blk_cell lt1.box 1
                                      have bx2 := blk_cell lt1.box 2
                                      have bf0 := blk_frozen lt1.box 0
                                      have bf1 := blk_frozen lt1.box 1
                                      have bf2 := blk_frozen lt1.box 2
                                      have L1 := Aside0.mk lt1
                                      have P0 := eq_true p0
                                      have P1 := eq_true p1
                                      clear lt1 p0 p1
                                      go_upto_region 20 with (fail)
                                      clear hx0 hx1 hx2 bx0 bx1 bx2 bf0 bf1 bf2 P0 P1
                                      refine gen_wp _ (((L1.out.put 0 _ rfl).put 1 _ rfl).put 2 _ rfl) ?_
                                      intro V1 lt2
                                      clear L1
                                      obtain ⟨adr11, ead, hx0, hx1, hx2⟩ := at_T31 (Kd.R_reads' lt2.r11).2.2 x14_4 q0 q1
                                      cases ead
                                      have bx0 := blk_cell lt2.box 0
                                      have bx1 := blk_cell lt2.box 1
                                      have bx2 := blk_cell lt2.box 2
                                      have L2 := Aside0.mk lt2
                                      have Q0 := eq_true q0
                                      have Q1 := eq_true q1
                                      clear lt2 q0 q1
                                      go_quiet (fail)
                                      go_wp2
                                      go_roundg k4
                                      case measure => have := HJ4.out; have := HJ10.out; have := HJ18.out; have := HK4.out; omega
                                      case rel => exact ⟨(wrap64 (x14_4 + 1)), (by first | rfl | (simp; done) | (simp [*]; done)), H', ⟨by have := HJ4.out; have := HJ10.out; have := HJ18.out; have := HK4.out; omega⟩, ⟨Kd.R_mono (L2.out.drew _).r5 (fun _ hk => hk.1)⟩, ⟨Kd.R_mono (L2.out.drew _).r8 (fun _ hk => hk.1)⟩, ⟨Kd.R_mono (L2.out.drew _).r11 (fun _ hk => hk.1)⟩, ⟨(L2.out.drew _).b⟩⟩
                                  · rw [if_neg c28] at H
                                    exact absurd H (by simp)
                                · rw [if_neg c27] at H
                                  have c27b0 : decide (x14_4 < (t156.length : Int)) = false := decide_eq_false c27
                                  clear c27
                                  obtain ⟨ji38, hji38⟩ : ∃ j_ : Int, (wrap64 (x14_4 - (t156.length : Int))) = j_ := ⟨_, rfl⟩
                                  replace H : (if 0 ≤ (ji38) then (if (ji38) < (t161.length : Int) then (if 0 ≤ x14_4 then (if (!(((rd_T31 t166 x14_4).f0) == ((rd_T31 t161 (ji38)).f0)) || (!((((rd_T31 t166 x14_4).f1).toList) == (((rd_T31 t161 (ji38)).f1).toList)) || (!(((rd_T31 t166 x14_4).f2) == (wrap64 ((wrap64 (((rd_T31 t161 (ji38)).f2) + (a0.size : Int))) + 1)))))) = true then (none) else (tocsinlaw09_LexTwo.l0 k4 a0 t156 t161 t166 (wrap64 (x14_4 + 1)))) else (none)) else (none)) else (none)) = some r := by first | (rw [hji38] at H; exact H) | (simp only [hji38] at H ⊢; exact H)
                                  have hji38w : (IntKind.i64.wrap (x14_4 - (t156.length : Int))) = ji38 := (i64_w _).trans hji38
                                  by_cases c39 : 0 ≤ (ji38)
                                  · rw [if_pos c39] at H
                                    have c39b0 : decide (0 ≤ (ji38)) = true := decide_eq_true c39
                                    clear c39
                                    by_cases c40 : (ji38) < (t161.length : Int)
                                    · rw [if_pos c40] at H
                                      have c40b0 : decide ((ji38) < (t161.length : Int)) = true := decide_eq_true c40
                                      clear c40
                                      by_cases c41 : 0 ≤ x14_4
                                      · rw [if_pos c41] at H
                                        have c41b0 : decide (0 ≤ x14_4) = true := decide_eq_true c41
                                        clear c41
                                        by_cases c42 : (!(((rd_T31 t166 x14_4).f0) == ((rd_T31 t161 (ji38)).f0)) || (!((((rd_T31 t166 x14_4).f1).toList) == (((rd_T31 t161 (ji38)).f1).toList)) || (!(((rd_T31 t166 x14_4).f2) == (wrap64 ((wrap64 (((rd_T31 t161 (ji38)).f2) + (a0.size : Int))) + 1)))))) = true
                                        · rw [if_pos c42] at H
                                          exact absurd H (by simp)
                                        · rw [if_neg c42] at H
                                          have c42b0 : (!(((rd_T31 t166 x14_4).f0) == ((rd_T31 t161 (ji38)).f0)) || (!((((rd_T31 t166 x14_4).f1).toList) == (((rd_T31 t161 (ji38)).f1).toList)) || (!(((rd_T31 t166 x14_4).f2) == (wrap64 ((wrap64 (((rd_T31 t161 (ji38)).f2) + (a0.size : Int))) + 1)))))) = false := by simpa using c42
                                          clear c42
                                          have H' := Aside0.mk H
                                          clear H
                                          have p0 : 0 ≤ (ji38 : Int) := of_decide_eq_true c39b0
                                          have p1 : ji38 < (t161.length : Int) := of_decide_eq_true c40b0
                                          have q0 : 0 ≤ (x14_4 : Int) := of_decide_eq_true c41b0
                                          have q1 : x14_4 < (t166.length : Int) := of_decide_eq_true c26b0
                                          obtain ⟨Ao11, co11, eo11⟩ := Kd.R_slice HO_11.out
                                          subst eo11
                                          obtain ⟨Ao5, co5, eo5⟩ := Kd.R_slice HO_5.out
                                          subst eo5
                                          obtain ⟨Ao8, co8, eo8⟩ := Kd.R_slice HO_8.out
                                          subst eo8
                                          have lt0 := LT.new HO_5.out HO_8.out HO_11.out HB.out #[.int .u8 0, .string (⟨#[]⟩ : ByteArray), .int .i64 0]
                                          obtain ⟨gb, hg⟩ : ∃ g_, g_ = wr.heap.size := ⟨_, rfl⟩
                                          obtain ⟨w31, hwa⟩ : ∃ W_, W_ = wr.alloc (.cells #[.int .u8 0, .string (⟨#[]⟩ : ByteArray), .int .i64 0] 31) := ⟨_, rfl⟩
                                          rw [← hwa, ← hg] at lt0
                                          have bx0 := blk_cell lt0.box 0
                                          have bx1 := blk_cell lt0.box 1
                                          have bx2 := blk_cell lt0.box 2
                                          have bf0 := blk_frozen lt0.box 0
                                          have bf1 := blk_frozen lt0.box 1
                                          have bf2 := blk_frozen lt0.box 2
                                          have L0 := Aside0.mk lt0
                                          clear lt0 HO_5 HO_8 HO_11 HB
                                          have hra := hwa.symm
                                          have hgr := hg.symm
                                          clear hwa hg
                                          go_upto_region 18 with (fail)
                                          clear hra hgr bx0 bx1 bx2 bf0 bf1 bf2
                                          refine gen_wp _ (((L0.out.put 0 _ rfl).put 1 _ rfl).put 2 _ rfl) ?_
                                          intro V0 lt1
                                          clear L0
                                          obtain ⟨adr, ead, hx0, hx1, hx2⟩ := at_T31 (Kd.R_reads' lt1.r8).2.2 (ji38) p0 p1
                                          cases ead
                                          have bx0 := blk_cell lt1.box 0
                                          have bx1 := blk_cell lt1.box 1
                                          have bx2 := blk_cell lt1.box 2
                                          have bf0 := blk_frozen lt1.box 0
                                          have bf1 := blk_frozen lt1.box 1
                                          have bf2 := blk_frozen lt1.box 2
                                          have L1 := Aside0.mk lt1
                                          have P0 := eq_true p0
                                          have P1 := eq_true p1
                                          clear lt1 p0 p1
                                          go_upto_region 19 with (fail)
                                          clear hx0 hx1 hx2 bx0 bx1 bx2 bf0 bf1 bf2 P0 P1
                                          refine gen_wp _ (((L1.out.put 0 _ rfl).put 1 _ rfl).put 2 _ rfl) ?_
                                          intro V1 lt2
                                          clear L1
                                          have bx0 := blk_cell lt2.box 0
                                          have bx1 := blk_cell lt2.box 1
                                          have bx2 := blk_cell lt2.box 2
                                          have bf0 := blk_frozen lt2.box 0
                                          have bf1 := blk_frozen lt2.box 1
                                          have bf2 := blk_frozen lt2.box 2
                                          have L2 := Aside0.mk lt2
                                          clear lt2
                                          go_upto_region 20 with (fail)
                                          clear bx0 bx1 bx2 bf0 bf1 bf2
                                          refine gen_wp _ (L2.out.put 2 _ rfl) ?_
                                          intro V1 lt2
                                          clear L2
                                          obtain ⟨adr11, ead, hx0, hx1, hx2⟩ := at_T31 (Kd.R_reads' lt2.r11).2.2 x14_4 q0 q1
                                          cases ead
                                          have bx0 := blk_cell lt2.box 0
                                          have bx1 := blk_cell lt2.box 1
                                          have bx2 := blk_cell lt2.box 2
                                          have L2 := Aside0.mk lt2
                                          have Q0 := eq_true q0
                                          have Q1 := eq_true q1
                                          clear lt2 q0 q1
                                          go_quiet (fail)
                                          go_wp2
                                          go_roundg k4
                                          case measure => have := HJ4.out; have := HJ10.out; have := HJ18.out; have := HK4.out; omega
                                          case rel => exact ⟨(wrap64 (x14_4 + 1)), (by first | rfl | (simp; done) | (simp [*]; done)), H', ⟨by have := HJ4.out; have := HJ10.out; have := HJ18.out; have := HK4.out; omega⟩, ⟨Kd.R_mono (L2.out.drew _).r5 (fun _ hk => hk.1)⟩, ⟨Kd.R_mono (L2.out.drew _).r8 (fun _ hk => hk.1)⟩, ⟨Kd.R_mono (L2.out.drew _).r11 (fun _ hk => hk.1)⟩, ⟨(L2.out.drew _).b⟩⟩
                                      · rw [if_neg c41] at H
                                        exact absurd H (by simp)
                                    · rw [if_neg c40] at H
                                      exact absurd H (by simp)
                                  · rw [if_neg c39] at H
                                    exact absurd H (by simp)
                              · rw [if_neg c26] at H
                                have c26b0 : decide (x14_4 < (t166.length : Int)) = false := decide_eq_false c26
                                clear c26
                                obtain rfl := Option.some.inj H
                                obtain ⟨Ao53, co53, eo53⟩ := Kd.R_slice HO_11.out
                                subst eo53
                                go_wp2
                                repeat (go_quiet (fail); try go_wp2)
                                go_ret
                                exact ⟨by first | rfl | (simp [errW_none, errW_some] <;> rfl) | (simp [*, errW_none, errW_some] <;> rfl), by repeat (first | (with_reducible first | exact HB.out | apply below_alloc | apply pw_below_drewN | apply below_drew1) | exact HB.out)⟩
                  · rw [if_neg c17] at H
                    exact absurd H (by simp)
                · rw [if_neg c16] at H
                  exact absurd H (by simp)
  · replace c4 := Bool.eq_false_iff.mpr c4
    subst c4
    have H1 : (some false) = some r := by rw [if_neg (show ¬ (false = true) by decide)] at H; exact H
    clear H
    have H := H1
    clear H1
    obtain rfl := Option.some.inj H
    go_enter Try.func7, Try.ntmps7
    go_wp2_with (first | (go_at_call 14; (with_reducible refine (tocsinlaw09_awake.calls  false _ A3.out).mono ?_); rintro e w54 ⟨rfl, hb⟩; have n0_ := Aside0.mk (below_step (by repeat (first | (with_reducible first | exact HB.out | apply below_alloc | apply pw_below_drewN | apply below_drew1) | exact HB.out)) hb); clear HB; have HB := n0_; clear n0_; (try clear hb); (try clear hb2); (try clear hk); (try clear hi)))
    repeat (go_quiet (first | (go_at_call 14; (with_reducible refine (tocsinlaw09_awake.calls  false _ A3.out).mono ?_); rintro e w54 ⟨rfl, hb⟩; have n0_ := Aside0.mk (below_step (by repeat (first | (with_reducible first | exact HB.out | apply below_alloc | apply pw_below_drewN | apply below_drew1) | exact HB.out)) hb); clear HB; have HB := n0_; clear n0_; (try clear hb); (try clear hb2); (try clear hk); (try clear hi))); try go_wp2_with (first | (go_at_call 14; (with_reducible refine (tocsinlaw09_awake.calls  false _ A3.out).mono ?_); rintro e w54 ⟨rfl, hb⟩; have n0_ := Aside0.mk (below_step (by repeat (first | (with_reducible first | exact HB.out | apply below_alloc | apply pw_below_drewN | apply below_drew1) | exact HB.out)) hb); clear HB; have HB := n0_; clear n0_; (try clear hb); (try clear hb2); (try clear hk); (try clear hi))))
    go_ret
    exact ⟨by first | rfl | (simp [errW_none, errW_some] <;> rfl) | (simp [*, errW_none, errW_some] <;> rfl), by repeat (first | (with_reducible first | exact HB.out | apply below_alloc | apply pw_below_drewN | apply below_drew1) | exact HB.out)⟩

/-- THE ONE PURE STATEMENT of tocsinlaw09_LexTwo: yours. -/
def tocsinlaw09_LexTwo.Pure : Prop := ∀ (a0 : ByteArray) (a1 : ByteArray), a0.size ≤ 140737488351232 → a1.size ≤ 140737488351232 → ∃ k, tocsinlaw09_LexTwo.f k a0 a1 = some true
theorem tocsinlaw09_LexTwo.walk (P : tocsinlaw09_LexTwo.Pure) (a0 : ByteArray) (a1 : ByteArray) (w : World) (w0 : a0.size ≤ 140737488351232) (w1 : a1.size ≤ 140737488351232) :
    Calls Try.prog 7 #[.string a0, .string a1] w fun e w' => e = .returned (.bool true) ∧ Below w.heap.size w w' := by
  obtain ⟨k, h⟩ := P a0 a1 w0 w1
  refine (tocsinlaw09_LexTwo.calls k a0 a1 true w h).mono ?_
  rintro e w' ⟨rfl, hd⟩
  exact ⟨rfl, hd⟩


end Go.Proofs.Ytpeaepdhnicceaa.PAll
