/- What lex.All does: the walk. -/
import Derived.Test.YtpeaepdhnicceaaSt
namespace Go.Proofs.Ytpeaepdhnicceaa.Wk
open Go.RowKit Go.Shelf Go.Proofs.Ytpeaepdhnicceaa.PTy Go.Proofs.Ytpeaepdhnicceaa.PBase Go.Proofs.YtpeaepdhnicceaaW.PrintWords Go.Proofs.YtpeaepdhnicceaaW.PrintLast Go.Proofs.YtpeaepdhnicceaaW.PrintMore
attribute [local go_sem] Oper.semAt_some
theorem tell_stops (s : ByteArray) (Bn : Nat) (S : Nat → Prop) (w : World) (hBn : w.heap[Bn]? = some (.cells #[.string s] 9 (0, 0))) (hS : S Bn) (hSl : ∀ k, S k → k < w.heap.size) :
    SeqStopsK Fence.wide 101 Try.prog 19 #[.pointer (some ⟨Bn, 0, none⟩)] encE (Stay S) (fun l => l = told s) (fun l => l <+: told s) 4098 w := by
  by_cases h : 4096 < s.size
  · exact tell_long s h Bn S w hBn hS hSl
  · exact tell_short s (by omega) Bn S w hBn hS hSl
theorem res3 {tmps : Array Value} {W : World} {a b c : Addr} {v0 v1 v2 : Value} (h2 : tmps.getD 2 undef = .pointer (some a)) (h3 : tmps.getD 3 undef = .pointer (some b)) (h4 : tmps.getD 4 undef = .pointer (some c))
    (c0 : W.cell? a = some v0) (c1 : W.cell? b = some v1) (c2 : W.cell? c = some v2) : (results Try.f11 tmps).run Try.prog W = .ok (.tuple #[v0, v1, v2]) W := by
  have h2' : tmps[2]?.getD undef = .pointer (some a) := by simpa using h2
  have h3' : tmps[3]?.getD undef = .pointer (some b) := by simpa using h3
  have h4' : tmps[4]?.getD undef = .pointer (some c) := by simpa using h4
  simp [results, h2', h3', h4', asAddr, loadVar, Sem.run_bind, Try.isAgg25, Try.isAgg3, Try.isAgg26, c0, c1, c2, go_sem]
theorem put_cell {W : World} {g D : Nat} {cs : Array Value} {t : TypeId} {o : Obj} (h : W.heap[g]? = some (.cells cs t (0, 0))) (hne : g ≠ D) : (W.putObj D o).heap[g]? = some (.cells cs t (0, 0)) := (World.putObj_heap_other hne).trans h
theorem keeps_set {B : Nat} {X W : World} (h : KeepsFrom B X W) {g : Nat} (hg : g < B) (j : Nat) (u : Value) : KeepsFrom B X (W.setCell ⟨g, j, none⟩ u) :=
  ⟨by rw [World.size_setCell]; exact h.size, fun k o hB hk hc => (Below.heap_setCell W ⟨g, j, none⟩ u k (by show k ≠ g; omega)).trans (h.same k o hB hk hc)⟩
theorem keeps_drew {B : Nat} {X W : World} (h : KeepsFrom B X W) : KeepsFrom B X W.drew := ⟨h.size, h.same⟩
theorem keeps_own {B : Nat} {W w2 : World} {base e size n : Nat} {v : Value} {xs : List Value} (h : W.ownsRow base e size v n xs) (hg : W.grownBy w2 v.ownBlock) : KeepsFrom B W w2 :=
  ⟨hg.size, fun k o _ hk hc => (hg.block k (Array.getElem?_eq_some_iff.1 hk).1 (fun e => by
    rcases h.2 with ⟨rfl, _⟩ | ⟨g, cap, cur, rfl, _, hh, _⟩
    · cases e
    · simp only [Value.ownBlock, Option.some.injEq] at e
      subst e
      rw [hh] at hk
      cases hk
      cases hc)).trans hk⟩
theorem slice_of {W : World} {base e size n : Nat} {v : Value} {xs : List Value} (h : W.ownsRow base e size v n xs) : ∃ A c, v = .slice A n c := by
  rcases h.2 with ⟨rfl, rfl⟩ | ⟨g, cap, cur, rfl, _⟩
  · exact ⟨none, 0, rfl⟩
  · exact ⟨_, _, rfl⟩
set_option maxRecDepth 100000 in
set_option maxHeartbeats 4000000 in
theorem all_any (s : ByteArray) (hs : s.size ≤ 140737488351232) (w : World) :
    Calls Try.prog 11 #[.string s] w fun e w' => (∃ v, e = .returned (.tuple #[v, .int .i64 (allF s).2.1, .int .i64 (allF s).2.2]) ∧ Kd.R k31 31 w' w.heap.size (fun _ => True) v (allF s).1) ∧ Below w.heap.size w w' := by
  obtain ⟨W0, hW0, hst, hbn, hsz⟩ := five w s
  refine (callsIn_wide (n := 102)).1 ?_
  refine callsIn_of_wp_marks Try.func11 rfl trivial ?_ rfl
  simp only [Try.ntmps11, List.size_toArray, List.length_cons, List.length_nil, Nat.reduceAdd, Nat.reduceSub, Array.replicate_succ, Array.replicate_zero, List.push_toArray, List.append_toArray, List.nil_append, List.cons_append]
  gi_wp2_with (refine ⟨trivial, ?_⟩; gi_at_call 13; refine (callsIn_wide.2 (tell_any _ _)).mono ?_; rintro e w' ⟨rfl, rfl⟩)
  rw [← hW0]
  simp only [Nat.add_assoc, Nat.reduceAdd]
  refine wpIn_rangeFunc_ownH rfl (by decide) (gf := 19) (lb := #[.pointer (some ⟨w.heap.size + 4, 0, none⟩)]) rfl trivial (enters_of Try.func19 (by kernel_rfl) rfl)
    (tell_stops s (w.heap.size + 4) (fun k => k = w.heap.size + 4) W0 hbn rfl (fun k hk => by omega)) Stay.trans
    (fun W l o o' hll _ _ _ k hk => World.putObj_heap_other (by omega)) (Below.refl _ _) (fun _ => rfl)
    (St w.heap.size w) (fun c => match c with | .ret => Sx w.heap.size w | _ => fun _ _ => False)
    (St.own _ _ _ (Nat.le_refl _) (by omega)) (fun c => by cases c <;> first | exact Sx.own _ _ _ (Nat.le_refl _) (by omega) | exact fun _ _ _ _ h _ _ => h) hst
    (fun x a' W => ∃ b, a' = { tmps := #[.string s, undef, .pointer (some ⟨w.heap.size, 0, none⟩), .pointer (some ⟨w.heap.size + 1, 0, none⟩), .pointer (some ⟨w.heap.size + 2, 0, none⟩), .pointer (some ⟨w.heap.size + 3, 0, none⟩), .pointer (some ⟨b, 0, none⟩), .int .i64 (x.2.2.2 : Int), .string s, .func (.func 19) #[] #[.pointer (some ⟨w.heap.size + 4, 0, none⟩)], .agg #[.int .u8 x.1, .string ⟨x.2.1.toArray⟩, .int .i64 x.2.2.1], .int .i64 (x.2.2.2 : Int), undef, undef, undef, undef, undef, undef, undef, undef, undef, undef], defers := [] } ∧ W.heap[b]? = some (.cells #[.int .u8 x.1, .string ⟨x.2.1.toArray⟩, .int .i64 x.2.2.1] 31 (0, 0)))
    (fun x a' _ W W' row h hg hr => by obtain ⟨b, h1, h2⟩ := h; exact ⟨b, h1, cells_stay h2 hg (fun r e => (hr r e).2)⟩) ?assign ?body ?done ?stop
  case assign =>
    intro l pre x W K hI hK
    dsimp only [encE]
    gi_wp2
    exact hK _ _ (KeepsFrom.of_grownBy (World.grownBy_alloc W _ none) (fun j e => by cases e)) (fun k hk => Below.heap_alloc W _ k (by have := hI.big; omega)) (St.own _ _ _ (Nat.le_refl _) (Nat.le_refl _) pre W _ none hI (World.grownBy_alloc W _ none) (fun r e => by cases e)) ⟨W.heap.size, rfl, heap_alloc_new W _⟩
  case body =>
    rintro l pre x a' W _ _ hI ⟨b, rfl, hb⟩ hlen
    have HI := Aside0.mk hI
    have HBk := Aside0.mk hb
    by_cases he : x.2.2.2 = 0
    · have c0 : (((x.2.2.2 : Nat) : Int) != 0) = false := bne_eq_false_iff_eq.mpr (by omega)
      obtain ⟨v, hv, hown⟩ := hI.row
      obtain ⟨A, cc, rfl⟩ := slice_of hown
      have cv := blk_cell hv 0
      have fv := blk_frozen hv 0
      have HV := Aside0.mk hv
      have HO := Aside0.mk hown
      have hb7 := hI.big
      obtain ⟨i0, hi, hz0, hz1, hz2⟩ := info_parts info31
      have x0 := blk_cell hb 0
      have x1 := blk_cell hb 1
      have x2 := blk_cell hb 2
      have HIN := Aside0.mk hi
      have HZ0 := Aside0.mk hz0
      have HZ1 := Aside0.mk hz1
      have HZ2 := Aside0.mk hz2
      clear hI hb hv hown hi hz0 hz1 hz2
      gi_wp2_with (gi_at_builtin; refine wpListIn_append_own _ rfl _ _ 25 rfl (w.heap.size + 5) 31 i0 (.agg #[.int .u8 0, .string ⟨#[]⟩, .int .i64 0]) 3 32 Try.underlying25 HIN.out HZ0.out HZ1.out HZ2.out rfl (by decide) _ _ _ rfl (HO.out.alloc _) ⟨W.heap.size, 0, none⟩ 1 1 (c31 x) rfl rfl ?c1 ?c2 ?c3 ?c4 ?c5 ?_)
      case c1 =>
        intro j u hj
        have hnew := heap_alloc_new W (.cells #[.int .u8 x.1, .string ⟨x.2.1.toArray⟩, .int .i64 x.2.2.1] 31)
        have := blk_cell hnew j
        rw [show (⟨W.heap.size, 0, none⟩ : Addr).add j = ⟨W.heap.size, j, none⟩ by unfold Addr.add; simp; intro h; exact h.symm, this, ← Array.getElem?_toList]
        exact hj
      case c2 => intro u hu; unfold c31 at hu; simp at hu; rcases hu with rfl | rfl | rfl <;> rfl
      case c3 => unfold maxLen; omega
      case c4 => omega
      case c5 => rw [World.size_alloc]; omega
      intro v' w2 hown' hgrow hnil
      obtain ⟨A', cc', rfl⟩ := slice_of hown'
      have hst2 : St w.heap.size w pre (W.alloc (.cells #[.int .u8 x.1, .string ⟨x.2.1.toArray⟩, .int .i64 x.2.2.1] 31)) := St.own _ _ _ (Nat.le_refl _) (Nat.le_refl _) pre W _ none HI.out (World.grownBy_alloc W _ none) (fun r e => by cases e)
      have hbo : ∀ k, (Value.slice A pre.length cc).ownBlock = some k → w.heap.size + 5 ≤ k := own_base HO.out
      have keep : ∀ k o, k < w.heap.size + 5 → (W.alloc (.cells #[.int .u8 x.1, .string ⟨x.2.1.toArray⟩, .int .i64 x.2.2.1] 31)).heap[k]? = some o → w2.heap[k]? = some o := fun k o hk h => (hgrow.block k (Array.getElem?_eq_some_iff.1 h).1 (fun e => by have := hbo k e.symm; omega)).trans h
      have hv2 := keep _ _ (by omega) (blk_alloc HV.out (.cells #[.int .u8 x.1, .string ⟨x.2.1.toArray⟩, .int .i64 x.2.2.1] 31))
      have HV2 := Aside0.mk hv2
      have d3 := blk_cell hv2 0
      have e3 := blk_frozen hv2 0
      have HO2 := Aside0.mk hown'
      have HG2 := Aside0.mk hgrow
      have HK2 := Aside0.mk keep
      have HS2 := Aside0.mk hst2
      have HBO := Aside0.mk hbo
      clear hown' hgrow hnil keep hst2 hv2 hbo
      gi_wp2
      have hb5 := HI.out.big
      refine ⟨keeps_set ((KeepsFrom.of_grownBy (World.grownBy_alloc W _ none) (fun j e => by cases e)).trans (keeps_own (HO.out.alloc _) HG2.out)) (by omega) 0 _, ?_, ?_⟩
      · intro k hk
        subst hk
        rw [Below.heap_setCell _ _ _ _ (by show w.heap.size + 4 ≠ w.heap.size + 3; omega)]
        have := HG2.out.block (w.heap.size + 4) (by rw [World.size_alloc]; omega) (fun e => by have := HBO.out _ e.symm; omega)
        exact this.trans (Below.heap_alloc W _ _ (by omega))
      · refine ⟨blk_far (HK2.out _ _ (by omega) HS2.out.b0) (by show w.heap.size ≠ w.heap.size + 3; omega) _, blk_far (HK2.out _ _ (by omega) HS2.out.b1) (by show w.heap.size + 1 ≠ w.heap.size + 3; omega) _, blk_far (HK2.out _ _ (by omega) HS2.out.b2) (by show w.heap.size + 2 ≠ w.heap.size + 3; omega) _, ⟨_, blk_put HV2.out 0 _ rfl, ?_⟩, ?_, ?_, ?_⟩
        · rw [List.length_append, List.flatMap_append]
          simp only [List.flatMap_cons, List.flatMap_nil, List.append_nil, List.length_cons, List.length_nil]
          exact ownsRow_setCell_below HO2.out (by show w.heap.size + 3 < w.heap.size + 5; omega) _
        · intro y hy
          rcases List.mem_append.mp hy with hy | hy
          · exact HI.out.ok y hy
          · simp at hy; subst hy; exact he
        · exact (HS2.out.below.grown HG2.out (by rw [World.size_alloc]; omega) (fun k e => by have := HBO.out k e; omega)).setCell (p := ⟨w.heap.size + 3, 0, none⟩) (by show w.heap.size ≤ w.heap.size + 3; omega) _
        · rw [World.size_setCell]
          have := HG2.out.size
          rw [World.size_alloc] at this
          omega
    · have c0 : (((x.2.2.2 : Nat) : Int) != 0) = true := bne_iff_ne.mpr (by omega)
      have x0 := blk_cell hb 0
      have x1 := blk_cell hb 1
      have x2 := blk_cell hb 2
      have y0 := blk_cell hI.b0 0
      have y1 := blk_cell hI.b1 0
      have y2 := blk_cell hI.b2 0
      have f0 := blk_frozen hI.b0 0
      have f1 := blk_frozen hI.b1 0
      have f2 := blk_frozen hI.b2 0
      clear hI hb
      gi_wp2
      gi_region
      all_goals gi_wp2
      all_goals (
        refine ⟨keeps_drew (keeps_set (keeps_set (keeps_set (KeepsFrom.refl _ _) (by omega) 0 _) (by omega) 0 _) (by omega) 0 _), ⟨⟨pre, x, rfl, HI.out.ok, he, ?_, ?_, ?_⟩, ?_⟩⟩
        · exact blk_drew (blk_far (blk_far (blk_put HI.out.b0 0 _ rfl) (by show w.heap.size ≠ w.heap.size + 1; omega) _) (by show w.heap.size ≠ w.heap.size + 2; omega) _)
        · exact blk_drew (blk_far (blk_put (blk_far HI.out.b1 (by show w.heap.size + 1 ≠ w.heap.size; omega) _) 0 _ rfl) (by show w.heap.size + 1 ≠ w.heap.size + 2; omega) _)
        · exact blk_drew (blk_put (blk_far (blk_far HI.out.b2 (by show w.heap.size + 2 ≠ w.heap.size; omega) _) (by show w.heap.size + 2 ≠ w.heap.size + 1; omega) _) 0 _ rfl)
        · exact below_drew (((HI.out.below.setCell (p := ⟨w.heap.size, 0, none⟩) (Nat.le_refl _) _).setCell (p := ⟨w.heap.size + 1, 0, none⟩) (by show w.heap.size ≤ w.heap.size + 1; omega) _).setCell (p := ⟨w.heap.size + 2, 0, none⟩) (by show w.heap.size ≤ w.heap.size + 2; omega) _))
  case done =>
    rintro D ys W hD hys hI hK
    have HI := Aside0.mk hI
    obtain ⟨v, hv, hown⟩ := hI.row
    obtain ⟨A, cc, rfl⟩ := slice_of hown
    have cv := blk_cell hv 0
    have f0 := blk_frozen hI.b0 0
    have f1 := blk_frozen hI.b1 0
    have f2 := blk_frozen hI.b2 0
    have y0 := blk_cell hI.b0 0
    have y1 := blk_cell hI.b1 0
    have y2 := blk_cell hI.b2 0
    clear hI
    gi_wp2
    have hne : ∀ j, j < 5 → w.heap.size + j ≠ D := fun j hj => by omega
    have V0 := blk_far (blk_far (blk_put HI.out.b0 0 (Value.slice A ys.length cc) rfl) (p := ⟨w.heap.size + 1, 0, none⟩) (by show w.heap.size ≠ w.heap.size + 1; omega) (.int .i64 0)) (p := ⟨w.heap.size + 2, 0, none⟩) (by show w.heap.size ≠ w.heap.size + 2; omega) (.int .i64 0)
    have V1 := blk_far (blk_put (blk_far HI.out.b1 (p := ⟨w.heap.size, 0, none⟩) (by show w.heap.size + 1 ≠ w.heap.size; omega) (Value.slice A ys.length cc)) 0 (.int .i64 0) rfl) (p := ⟨w.heap.size + 2, 0, none⟩) (by show w.heap.size + 1 ≠ w.heap.size + 2; omega) (.int .i64 0)
    have V2 := blk_put (blk_far (blk_far HI.out.b2 (p := ⟨w.heap.size, 0, none⟩) (by show w.heap.size + 2 ≠ w.heap.size; omega) (Value.slice A ys.length cc)) (p := ⟨w.heap.size + 1, 0, none⟩) (by show w.heap.size + 2 ≠ w.heap.size + 1; omega) (.int .i64 0)) 0 (.int .i64 0) rfl
    have VB : Below w.heap.size w (((W.setCell ⟨w.heap.size, 0, none⟩ (Value.slice A ys.length cc)).setCell ⟨w.heap.size + 1, 0, none⟩ (.int .i64 0)).setCell ⟨w.heap.size + 2, 0, none⟩ (.int .i64 0)) := ((HI.out.below.setCell (p := ⟨w.heap.size, 0, none⟩) (Nat.le_refl _) _).setCell (p := ⟨w.heap.size + 1, 0, none⟩) (by show w.heap.size ≤ w.heap.size + 1; omega) _).setCell (p := ⟨w.heap.size + 2, 0, none⟩) (by show w.heap.size ≤ w.heap.size + 2; omega) _
    have VO := ownsRow_setCell_below (ownsRow_setCell_below (ownsRow_setCell_below hown (a := ⟨w.heap.size, 0, none⟩) (by show w.heap.size < w.heap.size + 5; omega) (Value.slice A ys.length cc)) (a := ⟨w.heap.size + 1, 0, none⟩) (by show w.heap.size + 1 < w.heap.size + 5; omega) (.int .i64 0)) (a := ⟨w.heap.size + 2, 0, none⟩) (by show w.heap.size + 2 < w.heap.size + 5; omega) (.int .i64 0)
    have VK : (((W.setCell ⟨w.heap.size, 0, none⟩ (Value.slice A ys.length cc)).setCell ⟨w.heap.size + 1, 0, none⟩ (.int .i64 0)).setCell ⟨w.heap.size + 2, 0, none⟩ (.int .i64 0)).heap[D]? = some (.deferred (some [])) := by
      rw [Below.heap_setCell _ _ _ _ (by show D ≠ w.heap.size + 2; omega), Below.heap_setCell _ _ _ _ (by show D ≠ w.heap.size + 1; omega), Below.heap_setCell _ _ _ _ (by show D ≠ w.heap.size; omega)]
      exact hK
    rw [hys] at *
    generalize (((W.setCell ⟨w.heap.size, 0, none⟩ (Value.slice A (told s).length cc)).setCell ⟨w.heap.size + 1, 0, none⟩ (.int .i64 0)).setCell ⟨w.heap.size + 2, 0, none⟩ (.int .i64 0)) = V at *
    have hall := allF_ok (fun x hx => HI.out.ok x hx)
    refine ⟨by simp, .inl ⟨_, _, rfl, run_takeDeferred VK, ?_⟩⟩
    refine ⟨_, res3 rfl rfl rfl (blk_cell (put_cell V0 (hne 0 (by omega))) 0) (blk_cell (put_cell V1 (hne 1 (by omega))) 0) (blk_cell (put_cell V2 (hne 2 (by omega))) 0), ⟨_, by rw [hall]; rfl, ?_⟩, ?_⟩
    · rw [hall]
      exact Kd.R_lower (R_rows (row_stay VO (grownBy_putObj' V D _) (fun r e => by cases e; exact ⟨_, VK, rfl⟩))) (by omega)
    · exact VB.trans (belowK_b (w := w) (Nat.le_refl _) V D _ _ (by omega) VK rfl rfl)
  case stop =>
    rintro D c pre W hD hp hx hK
    match c, hx with
    | .ret, hx =>
      obtain ⟨⟨l, x, hl, hlz, hxe, h0, h1, h2⟩, hB⟩ := hx
      have hne : ∀ j, j < 5 → w.heap.size + j ≠ D := fun j hj => by omega
      subst hl
      have hall := allF_bad hp hlz hxe
      gi_wp2
      refine ⟨by simp, .inl ⟨_, _, rfl, run_takeDeferred hK, ?_⟩⟩
      refine ⟨_, res3 rfl rfl rfl (blk_cell (put_cell h0 (hne 0 (by omega))) 0) (blk_cell (put_cell h1 (hne 1 (by omega))) 0) (blk_cell (put_cell h2 (hne 2 (by omega))) 0), ⟨_, by rw [hall]; rfl, ?_⟩, ?_⟩
      · rw [hall]
        exact Kd.R_nil _ _ _ _ _
      · exact hB.trans (belowK_b (w := w) (Nat.le_refl _) W D _ _ (by omega) hK rfl rfl)
end Go.Proofs.Ytpeaepdhnicceaa.Wk
