/- What a ring's Push, Expire, Last do: the walks. -/
import Derived.Test.YtcaagnfhefkoiaaRg
import Derived.Laws.ResultCell
namespace Go.Proofs.Ytcaagnfhefkoiaa.Rg
open Go.RowKit Go.Proofs.Ytcaagnfhefkoiaa.Ex Go.Proofs.Ytcaagnfhefkoiaa.PBase Go.Proofs.YtcaagnfhefkoiaaW.PrintWords Go.Proofs.YtcaagnfhefkoiaaW.PrintLast Go.Proofs.YtcaagnfhefkoiaaW.PrintMore
theorem gen_wp {P : Program} {c : Code} {Q : Exit → Act → World → Prop} {a : Act} {W : World} (F : World → Prop) (hF : F W) (h : ∀ V, F V → c.wp P Q a V) : c.wp P Q a W := h W hF
def badS (x : S29) : Prop := x.f0 < 0 ∨ x.f1 < -4611686018427387903 ∨ 4611686018427387903 < x.f1
instance (x : S29) : Decidable (badS x) := inferInstanceAs (Decidable (_ ∨ _))
def late (l : List S29) (x : S29) : Bool := match l.getLast? with | some y => decide (x.f0 < y.f0) | none => false
def pushF (l : List S29) (x : S29) : Int × List S29 := if badS x then (2, l) else if late l x = true then (160, l) else if l.length = 32 then (4, l) else (0, l ++ [x])
/-- The ring, and the box of what is pushed. -/
structure PB (w : World) (g : Nat) (cs : Array Value) (first : Nat) (l : List S29) (x : S29) (V : World) : Prop where
  r : RAt V g cs first l
  box : V.heap[w.heap.size]? = some (.cells #[.int .i64 x.f0, .int .i64 x.f1] 29 (0, 0))
  ex : Ex (fun k => k = g) w V
  gl : g < w.heap.size
section
variable {w : World} {g : Nat} {cs : Array Value} {first : Nat} {l : List S29} {x : S29} {V : World}
theorem PB.new (h : RAt w g cs first l) (x : S29) : PB w g cs first l x (w.alloc (.cells #[.int .i64 x.f0, .int .i64 x.f1] 29)) := by
  have hb : Below w.heap.size w (w.alloc (.cells #[.int .i64 x.f0, .int .i64 x.f1] 29)) := (Below.refl _ _).alloc (Nat.le_refl _) _
  exact ⟨h.below hb, blk_new _ _, Ex.of_below hb _, h.lt⟩
theorem PB.drew (h : PB w g cs first l x V) : PB w g cs first l x V.drew := ⟨h.r.drew, h.box, h.ex.drew, h.gl⟩
theorem PB.b0 (h : PB w g cs first l x V) : V.cell? ⟨w.heap.size, 0, none⟩ = some (.int .i64 x.f0) := blk_cell h.box 0
theorem PB.b1 (h : PB w g cs first l x V) : V.cell? ⟨w.heap.size, 1, none⟩ = some (.int .i64 x.f1) := blk_cell h.box 1
end
theorem last_some {l : List S29} {x : S29} {n : Nat} (hn : l.length = n + 1) : ∃ y, l[n]? = some y ∧ late l x = decide (x.f0 < y.f0) := by
  obtain ⟨y, hy⟩ : ∃ y, l[n]? = some y := ⟨_, List.getElem?_eq_getElem (by omega)⟩
  refine ⟨y, hy, ?_⟩
  have : l.getLast? = some y := by rw [List.getLast?_eq_getElem?, hn]; exact hy
  unfold late; rw [this]
/-- The ring and its box behind the three stores. -/
theorem PB.put {w : World} {g : Nat} {cs : Array Value} {first : Nat} {l : List S29} {x : S29} {V : World} (h : PB w g cs first l x V) (hl : l.length < 32) :
    ∃ cs', RAt (((V.setCell ⟨g, (first + l.length) % 32 * 2, none⟩ (.int .i64 x.f0)).setCell ⟨g, (first + l.length) % 32 * 2 + 1, none⟩ (.int .i64 x.f1)).setCell ⟨g, 65, none⟩ (.int .i64 ((l.length : Int) + 1))) g cs' first (l ++ [x]) ∧
      Ex (fun k => k = g) w (((V.setCell ⟨g, (first + l.length) % 32 * 2, none⟩ (.int .i64 x.f0)).setCell ⟨g, (first + l.length) % 32 * 2 + 1, none⟩ (.int .i64 x.f1)).setCell ⟨g, 65, none⟩ (.int .i64 ((l.length : Int) + 1))) := by
  refine ⟨_, ⟨blk_set (blk_set (blk_set h.r.blk _ _) _ _) _ _, h.r.rb.push x hl⟩, Ex.setCell (Ex.setCell (Ex.setCell h.ex ?_ _) ?_ _) ?_ _⟩
  all_goals exact fun _ => rfl
set_option maxHeartbeats 1000000 in
set_option maxRecDepth 100000 in
theorem push_any {w : World} {g : Nat} {cs : Array Value} {first : Nat} {l : List S29} (h : RAt w g cs first l) (x : S29) :
    Calls Try.prog 9 #[.pointer (some ⟨g, 0, none⟩), .agg #[.int .i64 x.f0, .int .i64 x.f1]] w fun e w' => e = .returned (.int .i64 (pushF l x).1) ∧ (∃ cs', RAt w' g cs' first (pushF l x).2) ∧ Ex (fun k => k = g) w w' := by
  have Q := Aside0.mk (PB.new h x)
  have hle := h.rb.le
  clear h
  go_enter Try.func9, Try.ntmps9
  go_upto_region 1 with (fail)
  refine gen_wp (fun V => PB w g cs first l x V) Q.out ?_
  intro V hV
  replace Q := Aside0.mk hV
  clear hV
  go_wp2_with fail
  refine (none_any Q.out.r).mono ?_
  rintro e w1 ⟨rfl, hw⟩
  have hw2 := hw.symm
  clear hw
  subst hw2
  have b0 := Q.out.b0
  have b1 := Q.out.b1
  by_cases hbad : badS x
  · have HP := Aside0.mk (show pushF l x = (2, l) from if_pos hbad)
    by_cases h0 : x.f0 < 0
    · have hd0 : decide (x.f0 < 0) = true := decide_eq_true h0
      go_wp2_with fail
      go_ret
      rw [HP.out]
      exact ⟨rfl, ⟨cs, Q.out.r⟩, Q.out.ex⟩
    · have hd0 : decide (x.f0 < 0) = false := decide_eq_false h0
      by_cases h1 : x.f1 < -4611686018427387903
      · have hd1 : decide (x.f1 < -4611686018427387903) = true := decide_eq_true h1
        go_wp2_with fail
        go_ret
        rw [HP.out]
        exact ⟨rfl, ⟨cs, Q.out.r⟩, Q.out.ex⟩
      · have hd1 : decide (x.f1 < -4611686018427387903) = false := decide_eq_false h1
        have h2 : 4611686018427387903 < x.f1 := by rcases hbad with h | h | h; exact absurd h h0; exact absurd h h1; exact h
        have hd2 : decide (4611686018427387903 < x.f1) = true := decide_eq_true h2
        go_wp2_with fail
        go_ret
        rw [HP.out]
        exact ⟨rfl, ⟨cs, Q.out.r⟩, Q.out.ex⟩
  · have hd0 : decide (x.f0 < 0) = false := decide_eq_false (fun h => hbad (.inl h))
    have hd1 : decide (x.f1 < -4611686018427387903) = false := decide_eq_false (fun h => hbad (.inr (.inl h)))
    have hd2 : decide (4611686018427387903 < x.f1) = false := decide_eq_false (fun h => hbad (.inr (.inr h)))
    have HP0 := Aside0.mk (show pushF l x = if late l x = true then (160, l) else if l.length = 32 then (4, l) else (0, l ++ [x]) from if_neg hbad)
    clear hbad
    go_upto_region 5 with (fail)
    clear hd0 hd1 hd2
    rcases Nat.eq_zero_or_pos l.length with hn | hn
    · have hlate : late l x = false := by rw [List.length_eq_zero_iff.1 hn]; rfl
      have HP := Aside0.mk (show pushF l x = if l.length = 32 then (4, l) else (0, l ++ [x]) by rw [HP0.out, if_neg (by rw [hlate]; simp)])
      have c65 : V.cell? ⟨g, 65, none⟩ = some (.int .i64 0) := by rw [Q.out.r.c65, hn]; rfl
      clear b1 hn
      go_region
      go_upto_region 7 with (fail)
      clear c65 b0
      refine gen_wp (fun V => PB w g cs first l x V) (by first | exact Q.out | exact Q.out.drew) ?_
      intro V hV
      replace Q := Aside0.mk hV
      clear hV
      clear hlate
      by_cases h32 : l.length = 32
      · have hd5 : ((l.length : Int) == 32) = true := by rw [beq_iff_eq]; omega
        have c65 := Q.out.r.c65
        go_wp2_with fail
        go_ret
        rw [HP.out, if_pos h32]
        exact ⟨rfl, ⟨cs, Q.out.r⟩, Q.out.ex⟩
      · have hd5 : ((l.length : Int) == 32) = false := beq_eq_false_iff_ne.2 (by omega)
        have c65 := Q.out.r.c65
        go_upto_region 9 with (fail)
        clear hd5 c65
        obtain ⟨j, hj⟩ : ∃ j, (first + l.length) % 32 = j := ⟨_, rfl⟩
        have hj32 : j < 32 := by rw [← hj]; exact Nat.mod_lt _ (by omega)
        obtain ⟨y0, hy0⟩ := Q.out.r.rb.any j hj32
        have HPUT := Aside0.mk (Q.out.put (by omega))
        rw [hj] at HPUT
        have HJ := Aside0.mk hj
        have HAT := Aside0.mk (fun (W : World) (hW : PB w g cs first l x W) => (at_any hW.r l.length (by omega)))
        rw [hj] at HAT
        clear hj
        have hS0 : V.drew.cell? ⟨g, 65, none⟩ = some (.int .i64 (l.length : Int)) ∧ V.drew.cell? ⟨w.heap.size, 0, none⟩ = some (.int .i64 x.f0) ∧ V.drew.cell? ⟨w.heap.size, 1, none⟩ = some (.int .i64 x.f1) := ⟨Q.out.r.c65, Q.out.b0, Q.out.b1⟩
        have k0 : V.cell? ⟨g, j * 2, none⟩ = some (.int .i64 y0.f0) := (blk_cell Q.out.r.blk _).trans hy0.1
        have k1 : V.cell? ⟨g, j * 2 + 1, none⟩ = some (.int .i64 y0.f1) := (blk_cell Q.out.r.blk _).trans hy0.2
        have q0 : V.frozen? ⟨g, j * 2, none⟩ = false := blk_frozen Q.out.r.blk _
        have q1 : V.frozen? ⟨g, j * 2 + 1, none⟩ = false := blk_frozen Q.out.r.blk _
        clear hy0
        obtain ⟨cs', hp1, hp2⟩ := HPUT.out
        have P1 := Aside0.mk (And.intro hp1 hp2)
        clear hp1 hp2 HPUT
        have hS2 : ((V.setCell ⟨g, j * 2, none⟩ (.int .i64 x.f0)).setCell ⟨g, j * 2 + 1, none⟩ (.int .i64 x.f1)).drew.drew.cell? ⟨g, 65, none⟩ = some (.int .i64 (l.length : Int)) ∧ ((V.setCell ⟨g, j * 2, none⟩ (.int .i64 x.f0)).setCell ⟨g, j * 2 + 1, none⟩ (.int .i64 x.f1)).drew.drew.cell? ⟨w.heap.size, 0, none⟩ = some (.int .i64 x.f0) ∧ ((V.setCell ⟨g, j * 2, none⟩ (.int .i64 x.f0)).setCell ⟨g, j * 2 + 1, none⟩ (.int .i64 x.f1)).drew.drew.cell? ⟨w.heap.size, 1, none⟩ = some (.int .i64 x.f1) := by
          have hg := Q.out.gl
          refine ⟨?_, ?_, ?_⟩
          all_goals (refine (World.cell?_setCell_other _ _ _ _ ?_).trans ((World.cell?_setCell_other _ _ _ _ ?_).trans ?_))
          · intro e; injection e with _ e _; omega
          · intro e; injection e with _ e _; omega
          · exact Q.out.r.c65
          · intro e; injection e with e _ _; omega
          · intro e; injection e with e _ _; omega
          · exact Q.out.b0
          · intro e; injection e with e _ _; omega
          · intro e; injection e with e _ _; omega
          · exact Q.out.b1
        have f65 : ((V.setCell ⟨g, j * 2, none⟩ (.int .i64 x.f0)).setCell ⟨g, j * 2 + 1, none⟩ (.int .i64 x.f1)).frozen? ⟨g, 65, none⟩ = false := by rw [World.frozen?_setCell, World.frozen?_setCell]; exact blk_frozen Q.out.r.blk 65
        go_region_held3 (fun W' : World => W'.cell? ⟨g, 65, none⟩ = some (.int .i64 (l.length : Int)) ∧ W'.cell? ⟨w.heap.size, 0, none⟩ = some (.int .i64 x.f0) ∧ W'.cell? ⟨w.heap.size, 1, none⟩ = some (.int .i64 x.f1)) (first | assumption | go_keep)
          (first | (go_at_call 21; refine (HAT.out _ Q.out.drew).mono ?_; rintro e w2 ⟨rfl, rfl⟩))
        have k65 := hS2.1
        go_wp2_with fail
        go_ret
        rw [HP.out, if_neg h32]
        exact ⟨rfl, ⟨_, P1.out.1.drew.drew⟩, P1.out.2.drew.drew⟩
    · obtain ⟨n, hn⟩ : ∃ n, l.length = n + 1 := ⟨l.length - 1, by omega⟩
      obtain ⟨y, hy, hly⟩ := last_some (x := x) hn
      obtain ⟨p0, p1⟩ := Q.out.r.at' hy
      have hS0 : V.drew.cell? ⟨g, 65, none⟩ = some (.int .i64 ((n : Int) + 1)) ∧ V.drew.cell? ⟨w.heap.size, 0, none⟩ = some (.int .i64 x.f0) ∧ V.drew.cell? ⟨g, (first + n) % 32 * 2, none⟩ = some (.int .i64 y.f0) := ⟨by have := Q.out.r.c65; rw [hn] at this; exact this, b0, p0⟩
      have hdn : decide ((0 : Int) < (n : Int) + 1) = true := decide_eq_true (by omega)
      have hwn : IntKind.i64.wrap ((n : Int) + 1 - 1) = (n : Int) := by rw [wr64 _ (by omega) (by omega)]; omega
      have hwn2 : IntKind.i64.wrap (n : Int) = (n : Int) := wr64 _ (by omega) (by omega)
      have HN := Aside0.mk hn
      have HY := Aside0.mk (And.intro hy hly)
      have HAT := Aside0.mk (fun (W : World) (hW : PB w g cs first l x W) => (at_any hW.r n (by omega)))
      clear b0 b1 p0 p1 hn hy hly
      go_region_held3 (fun W' : World => W'.cell? ⟨g, 65, none⟩ = some (.int .i64 ((n : Int) + 1)) ∧ W'.cell? ⟨w.heap.size, 0, none⟩ = some (.int .i64 x.f0) ∧ W'.cell? ⟨g, (first + n) % 32 * 2, none⟩ = some (.int .i64 y.f0)) (first | assumption | go_keep)
        (first | (go_at_call 21; refine (HAT.out _ Q.out.drew).mono ?_; rintro e w2 ⟨rfl, rfl⟩))
      cases hl2 : decide (x.f0 < y.f0) with
      | true =>
        have HP := Aside0.mk (show pushF l x = (160, l) by rw [HP0.out, HY.out.2, hl2, if_pos rfl])
        go_wp2_with fail
        go_ret
        rw [HP.out]
        exact ⟨rfl, ⟨cs, Q.out.r.drew.drew⟩, Q.out.ex.drew.drew⟩
      | false =>
        have HP := Aside0.mk (show pushF l x = if l.length = 32 then (4, l) else (0, l ++ [x]) by rw [HP0.out, HY.out.2, hl2, if_neg (by simp)])
        go_upto_region 7 with (fail)
        refine gen_wp (fun V => PB w g cs first l x V) (by first | exact Q.out | exact Q.out.drew | exact Q.out.drew.drew) ?_
        intro V hV
        replace Q := Aside0.mk hV
        have hlate := True.intro
        clear hV hS0 hdn hwn hwn2 hl2 HY HAT
        clear hlate
        by_cases h32 : l.length = 32
        · have hd5 : ((l.length : Int) == 32) = true := by rw [beq_iff_eq]; omega
          have c65 := Q.out.r.c65
          go_wp2_with fail
          go_ret
          rw [HP.out, if_pos h32]
          exact ⟨rfl, ⟨cs, Q.out.r⟩, Q.out.ex⟩
        · have hd5 : ((l.length : Int) == 32) = false := beq_eq_false_iff_ne.2 (by omega)
          have c65 := Q.out.r.c65
          go_upto_region 9 with (fail)
          clear hd5 c65
          obtain ⟨j, hj⟩ : ∃ j, (first + l.length) % 32 = j := ⟨_, rfl⟩
          have hj32 : j < 32 := by rw [← hj]; exact Nat.mod_lt _ (by omega)
          obtain ⟨y0, hy0⟩ := Q.out.r.rb.any j hj32
          have HPUT := Aside0.mk (Q.out.put (by omega))
          rw [hj] at HPUT
          have HJ := Aside0.mk hj
          have HAT := Aside0.mk (fun (W : World) (hW : PB w g cs first l x W) => (at_any hW.r l.length (by omega)))
          rw [hj] at HAT
          clear hj
          have hS0 : V.drew.cell? ⟨g, 65, none⟩ = some (.int .i64 (l.length : Int)) ∧ V.drew.cell? ⟨w.heap.size, 0, none⟩ = some (.int .i64 x.f0) ∧ V.drew.cell? ⟨w.heap.size, 1, none⟩ = some (.int .i64 x.f1) := ⟨Q.out.r.c65, Q.out.b0, Q.out.b1⟩
          have k0 : V.cell? ⟨g, j * 2, none⟩ = some (.int .i64 y0.f0) := (blk_cell Q.out.r.blk _).trans hy0.1
          have k1 : V.cell? ⟨g, j * 2 + 1, none⟩ = some (.int .i64 y0.f1) := (blk_cell Q.out.r.blk _).trans hy0.2
          have q0 : V.frozen? ⟨g, j * 2, none⟩ = false := blk_frozen Q.out.r.blk _
          have q1 : V.frozen? ⟨g, j * 2 + 1, none⟩ = false := blk_frozen Q.out.r.blk _
          clear hy0
          obtain ⟨cs', hp1, hp2⟩ := HPUT.out
          have P1 := Aside0.mk (And.intro hp1 hp2)
          clear hp1 hp2 HPUT
          have hS2 : ((V.setCell ⟨g, j * 2, none⟩ (.int .i64 x.f0)).setCell ⟨g, j * 2 + 1, none⟩ (.int .i64 x.f1)).drew.drew.cell? ⟨g, 65, none⟩ = some (.int .i64 (l.length : Int)) ∧ ((V.setCell ⟨g, j * 2, none⟩ (.int .i64 x.f0)).setCell ⟨g, j * 2 + 1, none⟩ (.int .i64 x.f1)).drew.drew.cell? ⟨w.heap.size, 0, none⟩ = some (.int .i64 x.f0) ∧ ((V.setCell ⟨g, j * 2, none⟩ (.int .i64 x.f0)).setCell ⟨g, j * 2 + 1, none⟩ (.int .i64 x.f1)).drew.drew.cell? ⟨w.heap.size, 1, none⟩ = some (.int .i64 x.f1) := by
            have hg := Q.out.gl
            refine ⟨?_, ?_, ?_⟩
            all_goals (refine (World.cell?_setCell_other _ _ _ _ ?_).trans ((World.cell?_setCell_other _ _ _ _ ?_).trans ?_))
            · intro e; injection e with _ e _; omega
            · intro e; injection e with _ e _; omega
            · exact Q.out.r.c65
            · intro e; injection e with e _ _; omega
            · intro e; injection e with e _ _; omega
            · exact Q.out.b0
            · intro e; injection e with e _ _; omega
            · intro e; injection e with e _ _; omega
            · exact Q.out.b1
          have f65 : ((V.setCell ⟨g, j * 2, none⟩ (.int .i64 x.f0)).setCell ⟨g, j * 2 + 1, none⟩ (.int .i64 x.f1)).frozen? ⟨g, 65, none⟩ = false := by rw [World.frozen?_setCell, World.frozen?_setCell]; exact blk_frozen Q.out.r.blk 65
          go_region_held3 (fun W' : World => W'.cell? ⟨g, 65, none⟩ = some (.int .i64 (l.length : Int)) ∧ W'.cell? ⟨w.heap.size, 0, none⟩ = some (.int .i64 x.f0) ∧ W'.cell? ⟨w.heap.size, 1, none⟩ = some (.int .i64 x.f1)) (first | assumption | go_keep)
            (first | (go_at_call 21; refine (HAT.out _ Q.out.drew).mono ?_; rintro e w2 ⟨rfl, rfl⟩))
          have k65 := hS2.1
          go_wp2_with fail
          go_ret
          rw [HP.out, if_neg h32]
          exact ⟨rfl, ⟨_, P1.out.1.drew.drew⟩, P1.out.2.drew.drew⟩
end Go.Proofs.Ytcaagnfhefkoiaa.Rg
