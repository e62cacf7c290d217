/- What the laws' all does: the walk. -/
import Derived.Test.YtcaagnfhefkoiaaWi
namespace Go.Proofs.Ytcaagnfhefkoiaa.Rg
open Go.RowKit Go.Shelf Go.Proofs.Ytcaagnfhefkoiaa.Ex Go.Proofs.Ytcaagnfhefkoiaa.PBase Go.Proofs.YtcaagnfhefkoiaaW.PrintWords Go.Proofs.YtcaagnfhefkoiaaW.PrintLast Go.Proofs.YtcaagnfhefkoiaaW.PrintMore
attribute [local go_sem] Oper.semAt_some
theorem nil23 (v : Array Value) (W : World) : (binOp BinOp.eql 58 (Value.func (Fn.func 23) #[] v) Value.nilFunc).run Try.prog W = .ok (.bool false) W := by
  have e : (Op.equal 58 (Value.func (Fn.func 23) #[] v) Value.nilFunc).run Try.prog W = .ok false W := by kernel_rfl
  simp [binOp, e, go_sem]
attribute [local go_sem] nil23
theorem key2 (w : World) (a b : Obj) (j : Nat) (hj : j < 2) : ((w.alloc a).alloc b).heap[w.heap.size + j]? = (#[a, b] : Array Obj)[j]? := by
  show ((w.heap.push a).push b)[w.heap.size + j]? = _
  rcases (show j = 0 ∨ j = 1 by omega) with rfl | rfl
  all_goals (simp only [Array.getElem?_push, Array.size_push]; repeat (first | rw [if_pos (by omega)] | rw [if_neg (by omega)]))
  all_goals rfl
theorem two0 (w : World) (p : Option Addr) : ∃ W, W = ((w.alloc (.cells #[.pointer p] 23)).alloc (.cells #[.slice none 0 0] 36)) ∧ Cl (w.heap.size + 1) (w.heap.size + 2) w W (fun l => l) [] W ∧
    W.heap[w.heap.size]? = some (.cells #[.pointer p] 23 (0, 0)) ∧ W.heap.size = w.heap.size + 2 := by
  have hb : Below w.heap.size w ((w.alloc (.cells #[.pointer p] 23)).alloc (.cells #[.slice none 0 0] 36)) := by
    refine Below.alloc (Below.alloc (Below.refl _ _) (Nat.le_refl _) _) ?_ _
    all_goals (simp only [World.size_alloc]; omega)
  exact ⟨_, rfl, ⟨fun k _ _ => rfl, ⟨_, key2 _ _ _ 1 (by omega), rfl, .inl ⟨rfl, rfl⟩⟩, hb, by simp only [World.size_alloc]; omega, by omega, by omega⟩, key2 _ _ _ 0 (by omega), by simp only [World.size_alloc]⟩
set_option maxRecDepth 100000 in
set_option maxHeartbeats 4000000 in
theorem allf_in {w : World} {p : Option Addr} {l : List S29} (hr : IsRing p l (fun k => k < w.heap.size) w) :
    Calls Try.prog 12 #[.pointer p] w fun e w' => (∃ v, e = .returned (.tuple #[v, .bool true]) ∧ Kd.R k29 29 w' w.heap.size (fun _ => True) v l) ∧ Below w.heap.size w w' := by
  obtain ⟨W0, hW0, hst, hb0, hsz⟩ := two0 w p
  have HLE := hr.le
  have hr0 : IsRing p l (fun k => k < W0.heap.size ∧ k ≠ w.heap.size + 1) W0 :=
    have hsw : ∀ W, Stay (fun k => k < W0.heap.size ∧ k ≠ w.heap.size + 1) W0 W → Stay (fun k => k < w.heap.size) w W := fun W hs k hk => (hs k ⟨by omega, by omega⟩).trans (hst.below.block k hk)
    ⟨fun W hs => hr.len W (hsw W hs), fun W hs => hr.at' W (hsw W hs), hr.le⟩
  refine (callsIn_wide (n := 102)).1 ?_
  refine callsIn_of_wp_marks Try.func12 rfl trivial ?_ rfl
  simp only [Try.ntmps12, List.size_toArray, List.length_cons, List.length_nil, Nat.reduceAdd, Nat.reduceSub, Array.replicate_succ, Array.replicate_zero, List.push_toArray, List.append_toArray, List.nil_append, List.cons_append]
  gi_wp2_with (refine ⟨trivial, ?_⟩; gi_at_call 22; refine (callsIn_wide.2 (all22_any _ _)).mono ?_; rintro e w' ⟨rfl, rfl⟩)
  rw [← hW0]
  have HSZ := Aside0.mk hsz
  clear hW0
  refine wpIn_rangeFunc_ownH rfl (by decide) (gf := 23) (lb := #[.pointer (some ⟨w.heap.size, 0, none⟩)]) rfl trivial (enters_of Try.func23 (by kernel_rfl) rfl)
    (all_stops p l w.heap.size (fun k => k < W0.heap.size ∧ k ≠ w.heap.size + 1) W0 hr0 hb0 ⟨by omega, by omega⟩ (fun k hk => hk.1)) Stay.trans
    (fun W l o o' hll _ _ _ k hk => World.putObj_heap_other (by omega)) (Below.refl _ _) (fun _ => rfl)
    (Cl (w.heap.size + 1) (w.heap.size + 2) w W0 (fun l => l)) (fun _ _ _ => False)
    (Cl.own _ _ _ _ _ _ (by omega)) (fun _ _ _ _ _ h _ _ => h) hst
    (fun x a' W => ∃ b, a' = { tmps := #[.pointer p, undef, .slice none 0 0, .bool false, .func (.func 23) #[] #[.pointer (some ⟨w.heap.size, 0, none⟩)], .pointer (some ⟨w.heap.size + 1, 0, none⟩), .pointer (some ⟨b, 0, none⟩), .pointer p, .func (.func 23) #[] #[.pointer (some ⟨w.heap.size, 0, none⟩)], .func (.func 23) #[] #[.pointer (some ⟨w.heap.size, 0, none⟩)], .bool false, .func (.func 23) #[] #[.pointer (some ⟨w.heap.size, 0, none⟩)], .agg #[.int .i64 x.f0, .int .i64 x.f1], undef, undef, undef, undef, undef, undef, undef], defers := [] } ∧ W.heap[b]? = some (.cells #[.int .i64 x.f0, .int .i64 x.f1] 29 (0, 0)) ∧ w.heap.size + 2 ≤ b)
    (fun x a' _ W W' row h hg hr => by obtain ⟨b, h1, h2, h3⟩ := h; exact ⟨b, h1, cells_stay h2 hg (fun r e => (hr r e).2), h3⟩) ?assign ?body ?done ?stop
  case assign =>
    intro l pre x W K hI hK
    dsimp only [enc29]
    gi_wp2
    exact hK _ _ (KeepsFrom.of_grownBy (World.grownBy_alloc W _ none) (fun j e => by cases e)) (fun k hk => Below.heap_alloc W _ k (by have := hI.big; omega)) (Cl.own _ _ _ _ _ _ (Nat.le_refl _) pre W _ none hI (World.grownBy_alloc W _ none) (fun r e => by cases e)) ⟨W.heap.size, rfl, heap_alloc_new W _, hI.big⟩
  case body =>
    rintro l pre x a' W _ _ hI ⟨b, rfl, hb, hbig⟩ hlen
    have HI := Aside0.mk hI
    have x0 := blk_cell hb 0
    have x1 := blk_cell hb 1
    obtain ⟨v, hv, hown⟩ := hI.row
    obtain ⟨A, cc, rfl⟩ := slice_of hown
    have cv := blk_cell hv 0
    have fv := blk_frozen hv 0
    have HV := Aside0.mk hv
    have HO := Aside0.mk hown
    have hb7 := hI.big
    obtain ⟨i0, hi, hz0, hz1, hz2⟩ := info_parts info29
    have HIN := Aside0.mk hi
    have HZ0 := Aside0.mk hz0
    have HZ1 := Aside0.mk hz1
    have HZ2 := Aside0.mk hz2
    clear hI hb hv hown hi hz0 hz1 hz2 hsz
    gi_wp2_with (gi_at_builtin; refine wpListIn_append_own _ rfl _ _ 36 rfl (w.heap.size + 2) 29 i0 (.agg #[.int .i64 0, .int .i64 0]) 2 16 Try.underlying36 HIN.out HZ0.out HZ1.out HZ2.out rfl (by decide) _ _ _ rfl (HO.out.alloc _) ⟨W.heap.size, 0, none⟩ 1 1 (c29 x) rfl rfl ?c1 ?c2 ?c3 ?c4 ?c5 ?_)
    case c1 =>
      intro j u hj
      have hnew := heap_alloc_new W (.cells #[.int .i64 x.f0, .int .i64 x.f1] 29)
      have := blk_cell hnew j
      rw [show (⟨W.heap.size, 0, none⟩ : Addr).add j = ⟨W.heap.size, j, none⟩ by unfold Addr.add; simp; intro h; exact h.symm, this, ← Array.getElem?_toList]
      exact hj
    case c2 => intro u hu; unfold c29 at hu; simp at hu; rcases hu with rfl | rfl <;> rfl
    case c3 => unfold maxLen; omega
    case c4 => omega
    case c5 => rw [World.size_alloc]; omega
    intro v' w2 hown' hgrow hnil
    obtain ⟨A', cc', rfl⟩ := slice_of hown'
    have hbo : ∀ k, (Value.slice A (pre).length cc).ownBlock = some k → w.heap.size + 2 ≤ k := own_base HO.out
    have HCL := Aside0.mk (HI.out.grew ((Below.refl _ W).alloc (Nat.le_refl _) _) HV.out (HO.out.alloc _) hgrow hown' rfl)
    have hv2 : w2.heap[w.heap.size + 1]? = some (.cells #[.slice A (pre).length cc] 36 (0, 0)) := (hgrow.block _ (by rw [World.size_alloc]; omega) (fun e => by have := hbo _ e.symm; omega)).trans (blk_alloc HV.out _)
    have d3 := blk_cell hv2 0
    have e3 := blk_frozen hv2 0
    have HO2 := Aside0.mk hown'
    have HG2 := Aside0.mk hgrow
    have HBO := Aside0.mk hbo
    clear hown' hgrow hnil hv2 hbo
    gi_wp2
    have hsz := HSZ.out
    refine ⟨keeps_set ((KeepsFrom.of_grownBy (World.grownBy_alloc W _ none) (fun j e => by cases e)).trans (keeps_own (HO.out.alloc _) HG2.out)) (by omega) 0 _, ?_, HCL.out⟩
    intro k hk
    rw [Below.heap_setCell _ _ _ _ (by show k ≠ w.heap.size + 1; exact hk.2)]
    exact (HG2.out.block k (by rw [World.size_alloc]; omega) (fun e => by have := HBO.out _ e.symm; omega)).trans (Below.heap_alloc W _ _ (by omega))
  case done =>
    rintro D ys W hD hys hI hK
    have HI := Aside0.mk hI
    obtain ⟨v, hv, hown⟩ := hI.row
    obtain ⟨A, cc, rfl⟩ := slice_of hown
    have cv := blk_cell hv 0
    clear hI
    subst hys
    gi_wp2
    clear cv
    have hsz := HSZ.out
    have hKlt : D < W.heap.size := (Array.getElem?_eq_some_iff.1 hK).1
    have hb0' : W.heap[w.heap.size]? = some (.cells #[.pointer p] 23 (0, 0)) := (HI.out.stay _ (by omega) (by omega)).trans hb0
    have hr2 : IsRing p ys (fun k => k < W.heap.size) W := by
      have hsw : ∀ V, Stay (fun k => k < W.heap.size) W V → Stay (fun k => k < W0.heap.size ∧ k ≠ w.heap.size + 1) W0 V := fun V hs k hk => (hs k (by have := HI.out.big; omega)).trans (HI.out.stay k (by omega) hk.2)
      exact ⟨fun V hs => hr0.len V (hsw V hs), fun V hs => hr0.at' V (hsw V hs), hr0.le⟩
    have HVV := Aside0.mk (And.intro hv hown)
    have HK0 := Aside0.mk hK
    clear hv hown hK
    refine wpIn_rangeFunc_ownF rfl (by decide) (gf := 23) (lb := #[.pointer (some ⟨w.heap.size, 0, none⟩)]) rfl trivial (enters_of Try.func23 (by kernel_rfl) rfl)
      (all_stops p ys w.heap.size (fun k => k < W.heap.size) W hr2 hb0' (by omega) (fun k hk => hk)) Stay.trans
      (fun V l o o' hll _ _ _ k hk => World.putObj_heap_other (by omega)) (Below.refl _ _) (fun _ => rfl)
      (fun pre V => Cl (w.heap.size + 1) (w.heap.size + 2) w W0 (fun l => l) ys V ∧ V.heap[D]? = some (.deferred (some []))) (fun c pre V => c = .exit 2 ∧ Cl (w.heap.size + 1) (w.heap.size + 2) w W0 (fun l => l) ys V ∧ V.heap[D]? = some (.deferred (some [])))
      (fun s A B row hs hg hr => ⟨Cl.own _ _ _ _ _ _ (by have := HI.out.big; omega) _ _ _ _ hs.1 hg hr, (hg.block D (Array.getElem?_eq_some_iff.1 hs.2).1 (fun e => by have := (hr D e.symm).1; omega)).trans hs.2⟩)
      (fun c s A B row hs hg hr => ⟨hs.1, Cl.own _ _ _ _ _ _ (by have := HI.out.big; omega) _ _ _ _ hs.2.1 hg hr, (hg.block D (Array.getElem?_eq_some_iff.1 hs.2.2).1 (fun e => by have := (hr D e.symm).1; omega)).trans hs.2.2⟩)
      ⟨HI.out, HK0.out⟩ (fun x => { tmps := #[.pointer p, undef, .slice none 0 0, .bool false, .func (.func 23) #[] #[.pointer (some ⟨w.heap.size, 0, none⟩)], .pointer (some ⟨w.heap.size + 1, 0, none⟩), undef, .pointer p, .func (.func 23) #[] #[.pointer (some ⟨w.heap.size, 0, none⟩)], .func (.func 23) #[] #[.pointer (some ⟨w.heap.size, 0, none⟩)], .bool false, .func (.func 23) #[] #[.pointer (some ⟨w.heap.size, 0, none⟩)], undef, undef, undef, undef, undef, .func (.func 23) #[] #[.pointer (some ⟨w.heap.size, 0, none⟩)], .agg #[.int .i64 x.f0, .int .i64 x.f1], undef], defers := [] }) ?assign2 ?body2 ?done2 ?stop2
    case assign2 =>
      intro l x V K hK
      dsimp only [enc29]
      gi_wp2
      simpa using hK
    case body2 =>
      rintro l pre x V hI2 _
      gi_wp2
      exact ⟨KeepsOthers.refl _, rfl, hI2.1, hI2.2⟩
    case done2 =>
      rintro D2 zs V hD2 hzs hI2 hK2
      obtain ⟨v, hv, hown⟩ := hI2.1.row
      obtain ⟨A, cc, rfl⟩ := slice_of hown
      have cv := blk_cell hv 0
      gi_wp2
      have hKD := (World.putObj_heap_other (w := V) (o := .deferred none) (show D ≠ D2 by omega)).trans hI2.2
      refine ⟨by simp, .inl ⟨_, _, rfl, run_takeDeferred hK2, by simp, .inl ⟨_, _, rfl, run_takeDeferred hKD, ?_⟩⟩⟩
      have hz1 : (V.putObj D2 (.deferred none)).heap.size = V.heap.size := by simp [World.putObj]
      refine ⟨_, results_tmp2 rfl _ _ _, ⟨_, rfl, Kd.R_lower (R_rows (row_stay (row_stay hown (grownBy_putObj' V D2 _) (fun r e => by cases e; exact ⟨_, hK2, rfl⟩)) (grownBy_putObj' (V.putObj D2 (.deferred none)) D _) (fun r e => by cases e; exact ⟨_, hKD, rfl⟩))) (by omega)⟩, ?_⟩
      exact (hI2.1.below.trans (belowK_b (w := w) (Nat.le_refl _) V D2 _ _ (by omega) hK2 rfl rfl)).trans (belowK_b (w := w) (Nat.le_refl _) (V.putObj D2 (.deferred none)) D _ _ (by omega) hKD rfl rfl)
    case stop2 =>
      rintro D2 c pre V hD2 _ ⟨rfl, hI2⟩ hK2
      obtain ⟨v, hv, hown⟩ := hI2.1.row
      obtain ⟨A, cc, rfl⟩ := slice_of hown
      have cv := blk_cell hv 0
      gi_wp2
      have hKD := (World.putObj_heap_other (w := V) (o := .deferred none) (show D ≠ D2 by omega)).trans hI2.2
      refine ⟨by simp, .inl ⟨_, _, rfl, run_takeDeferred hK2, by simp, .inl ⟨_, _, rfl, run_takeDeferred hKD, ?_⟩⟩⟩
      have hz1 : (V.putObj D2 (.deferred none)).heap.size = V.heap.size := by simp [World.putObj]
      refine ⟨_, results_tmp2 rfl _ _ _, ⟨_, rfl, Kd.R_lower (R_rows (row_stay (row_stay hown (grownBy_putObj' V D2 _) (fun r e => by cases e; exact ⟨_, hK2, rfl⟩)) (grownBy_putObj' (V.putObj D2 (.deferred none)) D _) (fun r e => by cases e; exact ⟨_, hKD, rfl⟩))) (by omega)⟩, ?_⟩
      exact (hI2.1.below.trans (belowK_b (w := w) (Nat.le_refl _) V D2 _ _ (by omega) hK2 rfl rfl)).trans (belowK_b (w := w) (Nat.le_refl _) (V.putObj D2 (.deferred none)) D _ _ (by omega) hKD rfl rfl)
  case stop =>
    rintro D c pre W _ _ h _
    exact h.elim
end Go.Proofs.Ytcaagnfhefkoiaa.Rg
