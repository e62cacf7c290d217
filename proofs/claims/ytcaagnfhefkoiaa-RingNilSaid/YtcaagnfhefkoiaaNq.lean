/- What the methods of a ring that nobody made do: the walks. -/
import Derived.Test.YtcaagnfhefkoiaaPo
namespace Go.Proofs.Ytcaagnfhefkoiaa.Rg
open Go.RowKit Go.Proofs.Ytcaagnfhefkoiaa.Ex Go.Proofs.Ytcaagnfhefkoiaa.PBase Go.Proofs.Ytcaagnfhefkoiaa.OpenS Go.Proofs.YtcaagnfhefkoiaaW.PrintWords Go.Proofs.YtcaagnfhefkoiaaW.PrintLast Go.Proofs.YtcaagnfhefkoiaaW.PrintMore
/-- No ring, or one that nobody made. -/
def NP (p : Option Addr) (w : World) : Prop := p = none ∨ ∃ g, p = some ⟨g, 0, none⟩ ∧ w.cell? ⟨g, 66, none⟩ = some (.bool false)
theorem NP.below {p : Option Addr} {w w1 : World} (h : NP p w) (hb : Below w.heap.size w w1) : NP p w1 := by
  rcases h with h | ⟨g, e, h⟩
  · exact .inl h
  · exact .inr ⟨g, e, (Below.cell hb (World.block_lt_of_cell? w _ h)).trans h⟩
section
variable {p : Option Addr} {w : World}
set_option maxHeartbeats 400000 in
theorem none_q (h : NP p w) : Calls Try.prog 20 #[.pointer p] w fun e w' => e = .returned (.bool true) ∧ w' = w := by
  rcases h with rfl | ⟨g, rfl, c66⟩
  · go_enter Try.func20, Try.ntmps20
    go_wp2_with fail
    go_ret
    exact ⟨rfl, rfl⟩
  · go_enter Try.func20, Try.ntmps20
    go_wp2_with fail
    go_ret
    exact ⟨rfl, rfl⟩
set_option maxHeartbeats 400000 in
theorem len_q (h : NP p w) : Calls Try.prog 11 #[.pointer p] w fun e w' => e = .returned (.int .i64 0) ∧ w' = w := by
  have HN := Aside0.mk (none_q h)
  clear h
  go_enter Try.func11, Try.ntmps11
  go_wp2_with fail
  refine HN.out.mono ?_
  rintro e w1 ⟨rfl, hw⟩
  have hw2 := hw.symm
  clear hw
  subst hw2
  go_wp2_with fail
  go_ret
  exact ⟨rfl, rfl⟩
set_option maxHeartbeats 400000 in
theorem push_q (h : NP p w) (x : S29) : Calls Try.prog 9 #[.pointer p, .agg #[.int .i64 x.f0, .int .i64 x.f1]] w fun e w' => e = .returned (.int .i64 1) ∧ Below w.heap.size w w' := by
  have hal : Below w.heap.size w (w.alloc (.cells #[.int .i64 x.f0, .int .i64 x.f1] 29)) := (Below.refl _ _).alloc (Nat.le_refl _) _
  have HB := Aside0.mk hal
  have HN := Aside0.mk (none_q (h.below hal))
  clear h hal
  go_enter Try.func9, Try.ntmps9
  go_wp2_with fail
  refine HN.out.mono ?_
  rintro e w1 ⟨rfl, hw⟩
  subst hw
  go_wp2_with fail
  go_ret
  exact ⟨rfl, HB.out⟩
set_option maxHeartbeats 400000 in
theorem expire_q (h : NP p w) (t : Int) : Calls Try.prog 10 #[.pointer p, .int .i64 t] w fun e w' => e = .returned (.int .i64 0) ∧ Below w.heap.size w w' := by
  have HN := Aside0.mk (none_q h)
  clear h
  go_enter Try.func10, Try.ntmps10
  go_wp2_with fail
  refine HN.out.mono ?_
  rintro e w1 ⟨rfl, hw⟩
  have hw2 := hw.symm
  clear hw
  subst hw2
  go_wp2_with fail
  go_ret
  exact ⟨rfl, Below.refl _ _⟩
set_option maxHeartbeats 400000 in
theorem last_q (h : NP p w) : Calls Try.prog 17 #[.pointer p] w fun e w' => e = .returned (.tuple #[.agg #[.int .i64 0, .int .i64 0], .bool false]) ∧ Below w.heap.size w w' := by
  have hal : Below w.heap.size w (w.alloc (.cells #[.int .i64 0, .int .i64 0] 29)) := (Below.refl _ _).alloc (Nat.le_refl _) _
  have HB := Aside0.mk hal
  have HN := Aside0.mk (len_q (h.below hal))
  clear h hal
  go_enter Try.func17, Try.ntmps17
  go_wp2_with fail
  refine HN.out.mono ?_
  rintro e w1 ⟨rfl, hw⟩
  subst hw
  go_wp2_with fail
  refine bodyPost_ret (results_list (rs := [.cell 2 29, .tmp 3]) rfl (by simp) (.cell w.heap.size 29 _ (0, 0) _ rfl (blk_new _ _) Try.underlying29 rfl size29 (.tmp .nil))) rfl ?_
  exact ⟨rfl, HB.out⟩
theorem NP.isRing (h : NP p w) {S : Nat → Prop} (hS : ∀ g, p = some ⟨g, 0, none⟩ → S g) : IsRing p [] S w := by
  refine ⟨fun W hs => len_q ?_, (fun W hs i x hi => by cases hi), Nat.zero_le _⟩
  rcases h with h | ⟨g, e, h⟩
  · exact .inl h
  · exact .inr ⟨g, e, (World.cell?_of_block (hs g (hS g e))).trans h⟩
end
theorem NP.isRing' {p : Option Addr} {w : World} (h : NP p w) : IsRing p [] (fun k => k < w.heap.size) w := by
  refine h.isRing (fun g e => ?_)
  rcases h with h | ⟨g', e', h⟩
  · rw [h] at e; cases e
  · rw [e'] at e
    injection e with e
    injection e with e
    have := World.block_lt_of_cell? w _ h
    have h2 : g' < w.heap.size := this
    omega
end Go.Proofs.Ytcaagnfhefkoiaa.Rg
