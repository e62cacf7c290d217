/- What a ring's Window does: the walk. -/
import Derived.Test.YtcaagnfhefkoiaaCl
namespace Go.Proofs.Ytcaagnfhefkoiaa.Rg
open Go.RowKit Go.Shelf Go.Proofs.Ytcaagnfhefkoiaa.Ex Go.Proofs.Ytcaagnfhefkoiaa.PBase Go.Proofs.YtcaagnfhefkoiaaW.PrintWords Go.Proofs.YtcaagnfhefkoiaaW.PrintLast Go.Proofs.YtcaagnfhefkoiaaW.PrintMore
attribute [local go_sem] Oper.semAt_some
def winF (fr tt : Int) (l : List S29) : List S29 := l.filter fun x => decide (fr < x.f0) && decide (x.f0 ≤ tt)
theorem key4 (w : World) (a b c d : Obj) (j : Nat) (hj : j < 4) : ((((w.alloc a).alloc b).alloc c).alloc d).heap[w.heap.size + j]? = (#[a, b, c, d] : Array Obj)[j]? := by
  show ((((w.heap.push a).push b).push c).push d)[w.heap.size + j]? = _
  rcases (show j = 0 ∨ j = 1 ∨ j = 2 ∨ j = 3 by omega) with rfl | rfl | rfl | rfl
  all_goals (simp only [Array.getElem?_push, Array.size_push]; repeat (first | rw [if_pos (by omega)] | rw [if_neg (by omega)]))
  all_goals rfl
theorem four (w : World) (fr tt : Int) (p : Option Addr) : ∃ W, W = ((((w.alloc (.cells #[.int .i64 fr] 3)).alloc (.cells #[.int .i64 tt] 3)).alloc (.cells #[.slice none 0 0] 36)).alloc (.cells #[.pointer p] 23)) ∧ Cl (w.heap.size + 2) (w.heap.size + 4) w W (winF fr tt) [] W ∧
    W.heap[w.heap.size]? = some (.cells #[.int .i64 fr] 3 (0, 0)) ∧ W.heap[w.heap.size + 1]? = some (.cells #[.int .i64 tt] 3 (0, 0)) ∧ W.heap[w.heap.size + 3]? = some (.cells #[.pointer p] 23 (0, 0)) ∧ W.heap.size = w.heap.size + 4 := by
  have hb : Below w.heap.size w ((((w.alloc (.cells #[.int .i64 fr] 3)).alloc (.cells #[.int .i64 tt] 3)).alloc (.cells #[.slice none 0 0] 36)).alloc (.cells #[.pointer p] 23)) := by
    refine Below.alloc (Below.alloc (Below.alloc (Below.alloc (Below.refl _ _) (Nat.le_refl _) _) ?_ _) ?_ _) ?_ _
    all_goals (simp only [World.size_alloc]; omega)
  exact ⟨_, rfl, ⟨fun k _ _ => rfl, ⟨_, key4 _ _ _ _ _ 2 (by omega), rfl, .inl ⟨rfl, rfl⟩⟩, hb, by simp only [World.size_alloc]; omega, by omega, by omega⟩, key4 _ _ _ _ _ 0 (by omega), key4 _ _ _ _ _ 1 (by omega), key4 _ _ _ _ _ 3 (by omega), by simp only [World.size_alloc]⟩
set_option maxRecDepth 100000 in
set_option maxHeartbeats 4000000 in
theorem window_in {w : World} {p : Option Addr} {l : List S29} (hr : IsRing p l (fun k => k < w.heap.size) w) (fr tt : Int) :
    Calls Try.prog 14 #[.pointer p, .int .i64 fr, .int .i64 tt] w fun e w' => (∃ v, e = .returned v ∧ Kd.R k29 29 w' w.heap.size (fun _ => True) v (winF fr tt l)) ∧ Below w.heap.size w w' := by
  obtain ⟨W0, hW0, hst, hb0, hb1, hb3, hsz⟩ := four w fr tt p
  have HLE := hr.le
  have hr0 : IsRing p l (fun k => k < W0.heap.size ∧ k ≠ w.heap.size + 2) W0 :=
    have hsw : ∀ W, Stay (fun k => k < W0.heap.size ∧ k ≠ w.heap.size + 2) W0 W → Stay (fun k => k < w.heap.size) w W := fun W hs k hk => (hs k ⟨by omega, by omega⟩).trans (hst.below.block k hk)
    ⟨fun W hs => hr.len W (hsw W hs), fun W hs => hr.at' W (hsw W hs), hr.le⟩
  refine (callsIn_wide (n := 102)).1 ?_
  refine callsIn_of_wp_marks Try.func14 rfl trivial ?_ rfl
  simp only [Try.ntmps14, List.size_toArray, List.length_cons, List.length_nil, Nat.reduceAdd, Nat.reduceSub, Array.replicate_succ, Array.replicate_zero, List.push_toArray, List.append_toArray, List.nil_append, List.cons_append]
  gi_wp2_with (refine ⟨trivial, ?_⟩; gi_at_call 22; refine (callsIn_wide.2 (all22_any _ _)).mono ?_; rintro e w' ⟨rfl, rfl⟩)
  rw [← hW0]
  simp only [Nat.add_assoc, Nat.reduceAdd]
  have HSZ := Aside0.mk hsz
  clear hW0
  refine wpIn_rangeFunc_ownH rfl (by decide) (gf := 23) (lb := #[.pointer (some ⟨w.heap.size + 3, 0, none⟩)]) rfl trivial (enters_of Try.func23 (by kernel_rfl) rfl)
    (all_stops p l (w.heap.size + 3) (fun k => k < W0.heap.size ∧ k ≠ w.heap.size + 2) W0 hr0 hb3 ⟨by omega, by omega⟩ (fun k hk => hk.1)) Stay.trans
    (fun W l o o' hll _ _ _ k hk => World.putObj_heap_other (by omega)) (Below.refl _ _) (fun _ => rfl)
    (Cl (w.heap.size + 2) (w.heap.size + 4) w W0 (winF fr tt)) (fun _ _ _ => False)
    (Cl.own _ _ _ _ _ _ (by omega)) (fun _ _ _ _ _ h _ _ => h) hst
    (fun x a' W => ∃ b, a' = { tmps := #[.pointer p, .int .i64 fr, .int .i64 tt, undef, .pointer (some ⟨w.heap.size, 0, none⟩), .pointer (some ⟨w.heap.size + 1, 0, none⟩), .slice none 0 0, .pointer (some ⟨w.heap.size + 2, 0, none⟩), .pointer (some ⟨b, 0, none⟩), .pointer p, .func (.func 23) #[] #[.pointer (some ⟨w.heap.size + 3, 0, none⟩)], .agg #[.int .i64 x.f0, .int .i64 x.f1], undef, undef, undef, undef, undef, undef, undef, undef, undef, undef, undef, undef, undef, undef, undef], defers := [] } ∧ W.heap[b]? = some (.cells #[.int .i64 x.f0, .int .i64 x.f1] 29 (0, 0)) ∧ w.heap.size + 4 ≤ b)
    (fun x a' _ W W' row h hg hr => by obtain ⟨b, h1, h2, h3⟩ := h; exact ⟨b, h1, cells_stay h2 hg (fun r e => (hr r e).2), h3⟩) ?assign ?body ?done ?stop
  case assign =>
    intro l pre x W K hI hK
    dsimp only [enc29]
    gi_wp2
    exact hK _ _ (KeepsFrom.of_grownBy (World.grownBy_alloc W _ none) (fun j e => by cases e)) (fun k hk => Below.heap_alloc W _ k (by have := hI.big; omega)) (Cl.own _ _ _ _ _ _ (Nat.le_refl _) pre W _ none hI (World.grownBy_alloc W _ none) (fun r e => by cases e)) ⟨W.heap.size, rfl, heap_alloc_new W _, hI.big⟩
  case body =>
    rintro l pre x a' W _ _ hI ⟨b, rfl, hb, hbig⟩ hlen
    have HI := Aside0.mk hI
    have x0 := blk_cell hb 0
    have x1 := blk_cell hb 1
    have y0 : W.cell? ⟨w.heap.size, 0, none⟩ = some (.int .i64 fr) := blk_cell ((hI.stay _ (by omega) (by omega)).trans hb0) 0
    have y1 : W.cell? ⟨w.heap.size + 1, 0, none⟩ = some (.int .i64 tt) := blk_cell ((hI.stay _ (by omega) (by omega)).trans hb1) 0
    by_cases h1 : fr < x.f0 ∧ x.f0 ≤ tt
    · have hf : winF fr tt (pre ++ [x]) = winF fr tt pre ++ [x] := by
        unfold winF
        rw [List.filter_append, List.filter_cons_of_pos (by simp; omega), List.filter_nil]
      have hfl : (winF fr tt pre).length ≤ pre.length := List.length_filter_le ..
      have hd1 : decide (fr < x.f0) = true := decide_eq_true h1.1
      have hd2 : decide (x.f0 ≤ tt) = true := decide_eq_true h1.2
      obtain ⟨v, hv, hown⟩ := hI.row
      obtain ⟨A, cc, rfl⟩ := slice_of hown
      have cv := blk_cell hv 0
      have fv := blk_frozen hv 0
      have HV := Aside0.mk hv
      have HO := Aside0.mk hown
      have hb7 := hI.big
      obtain ⟨i0, hi, hz0, hz1, hz2⟩ := info_parts info29
      have HIN := Aside0.mk hi
      have HZ0 := Aside0.mk hz0
      have HZ1 := Aside0.mk hz1
      have HZ2 := Aside0.mk hz2
      have HF := Aside0.mk hf
      clear hI hb hv hown hi hz0 hz1 hz2 hf hsz h1
      gi_wp2_with (gi_at_builtin; refine wpListIn_append_own _ rfl _ _ 36 rfl (w.heap.size + 4) 29 i0 (.agg #[.int .i64 0, .int .i64 0]) 2 16 Try.underlying36 HIN.out HZ0.out HZ1.out HZ2.out rfl (by decide) _ _ _ rfl (HO.out.alloc _) ⟨W.heap.size, 0, none⟩ 1 1 (c29 x) rfl rfl ?c1 ?c2 ?c3 ?c4 ?c5 ?_)
      case c1 =>
        intro j u hj
        have hnew := heap_alloc_new W (.cells #[.int .i64 x.f0, .int .i64 x.f1] 29)
        have := blk_cell hnew j
        rw [show (⟨W.heap.size, 0, none⟩ : Addr).add j = ⟨W.heap.size, j, none⟩ by unfold Addr.add; simp; intro h; exact h.symm, this, ← Array.getElem?_toList]
        exact hj
      case c2 => intro u hu; unfold c29 at hu; simp at hu; rcases hu with rfl | rfl <;> rfl
      case c3 => unfold maxLen; omega
      case c4 => omega
      case c5 => rw [World.size_alloc]; omega
      intro v' w2 hown' hgrow hnil
      obtain ⟨A', cc', rfl⟩ := slice_of hown'
      have hbo : ∀ k, (Value.slice A (winF fr tt pre).length cc).ownBlock = some k → w.heap.size + 4 ≤ k := own_base HO.out
      have HCL := Aside0.mk (HI.out.grew ((Below.refl _ W).alloc (Nat.le_refl _) _) HV.out (HO.out.alloc _) hgrow hown' HF.out)
      have hv2 : w2.heap[w.heap.size + 2]? = some (.cells #[.slice A (winF fr tt pre).length cc] 36 (0, 0)) := (hgrow.block _ (by rw [World.size_alloc]; omega) (fun e => by have := hbo _ e.symm; omega)).trans (blk_alloc HV.out _)
      have d3 := blk_cell hv2 0
      have e3 := blk_frozen hv2 0
      have HO2 := Aside0.mk hown'
      have HG2 := Aside0.mk hgrow
      have HBO := Aside0.mk hbo
      clear hown' hgrow hnil hv2 hbo
      gi_wp2
      have hsz := HSZ.out
      refine ⟨keeps_set ((KeepsFrom.of_grownBy (World.grownBy_alloc W _ none) (fun j e => by cases e)).trans (keeps_own (HO.out.alloc _) HG2.out)) (by omega) 0 _, ?_, HCL.out⟩
      intro k hk
      rw [Below.heap_setCell _ _ _ _ (by show k ≠ w.heap.size + 2; exact hk.2)]
      exact (HG2.out.block k (by rw [World.size_alloc]; omega) (fun e => by have := HBO.out _ e.symm; omega)).trans (Below.heap_alloc W _ _ (by omega))
    · have hf : winF fr tt (pre ++ [x]) = winF fr tt pre := by
        unfold winF
        rw [List.filter_append, List.filter_cons_of_neg (by simp; omega), List.filter_nil, List.append_nil]
      clear hI hb
      by_cases h2 : fr < x.f0
      · have hd1 : decide (fr < x.f0) = true := decide_eq_true h2
        have hd2 : decide (x.f0 ≤ tt) = false := decide_eq_false (by omega)
        gi_wp2
        exact ⟨KeepsFrom.refl _ _, fun k hk => rfl, HI.out.same (Below.refl _ _) hf⟩
      · have hd1 : decide (fr < x.f0) = false := decide_eq_false h2
        gi_wp2
        exact ⟨KeepsFrom.refl _ _, fun k hk => rfl, HI.out.same (Below.refl _ _) hf⟩
  case done =>
    rintro D ys W hD hys hI hK
    have HI := Aside0.mk hI
    obtain ⟨v, hv, hown⟩ := hI.row
    obtain ⟨A, cc, rfl⟩ := slice_of hown
    have cv := blk_cell hv 0
    clear hI
    rw [hys] at *
    gi_wp2
    have hsz := HSZ.out
    refine ⟨by simp, .inl ⟨_, _, rfl, run_takeDeferred hK, ?_⟩⟩
    exact ⟨_, results_tmp rfl _ _ _, ⟨_, rfl, Kd.R_lower (R_rows (row_stay hown (grownBy_putObj' W D _) (fun r e => by cases e; exact ⟨_, hK, rfl⟩))) (by omega)⟩, HI.out.below.trans (belowK_b (w := w) (Nat.le_refl _) W D _ _ (by omega) hK rfl rfl)⟩
  case stop =>
    rintro D c pre W _ _ h _
    exact h.elim
end Go.Proofs.Ytcaagnfhefkoiaa.Rg
