/- What LexTell keeps while it goes; plain facts of what is told. -/
import Derived.Test.YtpeaepdhnicceaaAl
namespace Go.Proofs.Ytpeaepdhnicceaa.Wk
open Go.RowKit Go.Shelf Go.Proofs.Ytpeaepdhnicceaa.PTy Go.Proofs.Ytpeaepdhnicceaa.PBase Go.Proofs.YtpeaepdhnicceaaW.PrintWords Go.Proofs.YtpeaepdhnicceaaW.PrintLast Go.Proofs.YtpeaepdhnicceaaW.PrintMore
/-- An error is told with nothing but a place; and it is the last. -/
theorem told_form (s : ByteArray) : ∃ (g : List El) (t : List El), told s = g ++ t ∧ (∀ x ∈ g, x.2.2.2 = 0) ∧ (t = [] ∨ ∃ p c, c ≠ 0 ∧ t = [(0, [], p, c)]) := by
  unfold told
  split
  · exact ⟨[], _, rfl, by simp, .inr ⟨0, 3, by omega, rfl⟩⟩
  · unfold els
    refine ⟨_, _, rfl, ?_, ?_⟩
    · intro x hx
      obtain ⟨t, _, rfl⟩ := List.mem_map.1 hx
      rfl
    · cases (Lx.toks (s.size + 1) 0 (L s)).2 with
      | none => exact .inl rfl
      | some p => exact .inr ⟨p, 90, by omega, rfl⟩
theorem pre_ok {s : ByteArray} {pre : List El} {x : El} (h : pre ++ [x] <+: told s) : ∀ y ∈ pre, y.2.2.2 = 0 := by
  obtain ⟨g, t, e, hg, ht⟩ := told_form s
  rw [e] at h
  rcases ht with rfl | ⟨p, c, hc, rfl⟩
  · intro y hy
    rw [List.append_nil] at h
    exact hg y (h.subset (List.mem_append_left _ hy))
  · have hl := h.length_le
    simp only [List.length_append, List.length_cons, List.length_nil] at hl
    have hp : pre <+: g := by
      have h2 : pre <+: g ++ [(0, [], p, c)] := List.IsPrefix.trans (List.prefix_append _ _) h
      exact List.prefix_of_prefix_length_le h2 (List.prefix_append _ _) (by omega)
    exact fun y hy => hg y (hp.subset hy)
theorem bad_form {s : ByteArray} {pre : List El} {x : El} (h : pre ++ [x] <+: told s) (hx : x.2.2.2 ≠ 0) : x.1 = 0 ∧ x.2.1 = [] ∧ allF s = (([] : List S31), ((x.2.2.1 : Nat) : Int), ((x.2.2.2 : Nat) : Int)) := by
  obtain ⟨g, t, e, hg, ht⟩ := told_form s
  have hm : x ∈ g ++ t := by rw [← e]; exact h.subset (List.mem_append_right _ (List.mem_singleton.2 rfl))
  refine ⟨?_, ?_, allF_bad h (pre_ok h) hx⟩
  all_goals
    rcases List.mem_append.1 hm with hm | hm
    · exact absurd (hg x hm) hx
    · rcases ht with rfl | ⟨p, c, hc, rfl⟩
      · cases hm
      · simp at hm; subst hm; rfl
theorem good_at {s : ByteArray} {pre : List El} {x : El} (h : pre ++ [x] <+: told s) (_hx : x.2.2.2 = 0) (h0 : (allF s).2.2 = 0) : (allF s).1[pre.length]? = some (tokS x) := by
  have hall : ∀ y ∈ told s, y.2.2.2 = 0 := by
    intro y hy
    apply Classical.byContradiction
    intro hne
    unfold allF at h0
    cases hf : (told s).find? (fun x => decide (x.2.2.2 ≠ 0)) with
    | none => have := List.find?_eq_none.1 hf y hy; simp at this; exact hne this
    | some z => rw [hf] at h0; have := List.find?_some hf; simp at this h0; omega
  rw [allF_ok hall]
  obtain ⟨r, hr⟩ := h
  rw [← hr]
  simp
theorem done_all (s : ByteArray) : ((told s).any (fun x => decide (x.2.2.2 ≠ 0)) = true ∧ (allF s).2.2 ≠ 0) ∨ ((told s).any (fun x => decide (x.2.2.2 ≠ 0)) = false ∧ (allF s).2.2 = 0 ∧ (allF s).1.length = (told s).length) := by
  cases hf : (told s).find? (fun x => decide (x.2.2.2 ≠ 0)) with
  | none =>
    refine .inr ⟨?_, ?_, ?_⟩
    · rw [List.any_eq_false]; exact List.find?_eq_none.1 hf
    · unfold allF; rw [hf]
    · unfold allF; rw [hf]; simp
  | some z =>
    have hz := List.find?_some hf
    refine .inl ⟨List.any_eq_true.2 ⟨z, List.mem_of_find?_eq_some hf, hz⟩, ?_⟩
    unfold allF; rw [hf]; simp at hz ⊢; exact hz
/-- What LexTell keeps. -/
structure TS (w : World) (n1 : Nat) (stop : Int) (v : Value) (l : List S31) (at' e : Int) (pre : List El) (W : World) : Prop where
  b3 : W.heap[w.heap.size]? = some (.cells #[.int .i64 stop] 3 (0, 0))
  b4 : ∃ r, W.heap[w.heap.size + 1]? = some (.cells #[.bool r] 4 (0, 0))
  b5 : W.heap[n1]? = some (.cells #[v] 25 (0, 0))
  b6 : W.heap[n1 + 1]? = some (.cells #[.int .i64 at'] 3 (0, 0))
  b7 : W.heap[n1 + 2]? = some (.cells #[.int .i64 e] 26 (0, 0))
  bk : W.heap[n1 + 4]? = some (.cells #[.int .i64 (pre.length : Int)] 3 (0, 0))
  bf : W.heap[n1 + 5]? = some (.cells #[.bool (pre.any fun x => decide (x.2.2.2 ≠ 0))] 4 (0, 0))
  row : Kd.R k31 31 W (w.heap.size + 2) (fun _ => True) v l
  lt : ∀ k, v.ownBlock = some k → k < n1
  below : Below w.heap.size w W
  big : n1 + 6 ≤ W.heap.size
  lo : w.heap.size + 2 ≤ n1
theorem TS.own (w : World) (n1 : Nat) (stop : Int) (v : Value) (l : List S31) (at' e : Int) (B : Nat) (hB : n1 + 6 ≤ B) : OwnFrom B (TS w n1 stop v l at' e) := fun s W W' row hs hg hr => by
  have hr' : ∀ r, row = some r → ∃ o : Obj, W.heap[r]? = some o ∧ o.isCells = false := fun r e => (hr r e).2
  obtain ⟨r, h4⟩ := hs.b4
  exact ⟨cells_stay hs.b3 hg hr', ⟨r, cells_stay h4 hg hr'⟩, cells_stay hs.b5 hg hr', cells_stay hs.b6 hg hr', cells_stay hs.b7 hg hr', cells_stay hs.bk hg hr', cells_stay hs.bf hg hr',
    Kd.R_mono (Kd.R_step (Kd.R_tight rfl hs.row) (fun k ho hlt => hg.block k hlt (fun e2 => by have h1 := (hr k e2.symm).1; have h2 := hs.lt k ho.symm; omega))) (fun _ _ => trivial), hs.lt,
    hs.below.grown hg hs.below.size (fun k e => by have := (hr k e).1; have := hs.lo; omega), Nat.le_trans hs.big hg.size, hs.lo⟩
theorem six (w w1 : World) (stop : Int) (v : Value) (l : List S31) (at' e : Int) (s : ByteArray)
    (hb : Below ((w.alloc (.cells #[.int .i64 stop] 3)).alloc (.cells #[.bool false] 4)).heap.size ((w.alloc (.cells #[.int .i64 stop] 3)).alloc (.cells #[.bool false] 4)) w1)
    (hR : Kd.R k31 31 w1 ((w.alloc (.cells #[.int .i64 stop] 3)).alloc (.cells #[.bool false] 4)).heap.size (fun _ => True) v l) :
    ∃ W, W = ((((((w1.alloc (.cells #[v] 25)).alloc (.cells #[.int .i64 at'] 3)).alloc (.cells #[.int .i64 e] 26)).alloc (.cells #[.string s] 9)).alloc (.cells #[.int .i64 0] 3)).alloc (.cells #[.bool false] 4)) ∧
      TS w w1.heap.size stop v l at' e [] W ∧ W.heap[w1.heap.size + 3]? = some (.cells #[.string s] 9 (0, 0)) ∧ W.heap.size = w1.heap.size + 6 := by
  have hs : ((w.alloc (.cells #[.int .i64 stop] 3)).alloc (.cells #[.bool false] 4)).heap.size = w.heap.size + 2 := by simp only [World.size_alloc]
  have e3 : ((w.alloc (.cells #[.int .i64 stop] 3)).alloc (.cells #[.bool false] 4)).heap[w.heap.size]? = some (.cells #[.int .i64 stop] 3 (0, 0)) := blk_alloc (heap_alloc_new w _) _
  have e4 : ((w.alloc (.cells #[.int .i64 stop] 3)).alloc (.cells #[.bool false] 4)).heap[w.heap.size + 1]? = some (.cells #[.bool false] 4 (0, 0)) := by
    have := heap_alloc_new (w.alloc (.cells #[.int .i64 stop] 3)) (.cells #[.bool false] 4)
    rwa [World.size_alloc] at this
  have hl := hb.size
  rw [hs] at hl hR
  have key : ∀ (a b c d e f : Obj) (j : Nat), j < 6 → ((((((w1.alloc a).alloc b).alloc c).alloc d).alloc e).alloc f).heap[w1.heap.size + j]? = (#[a, b, c, d, e, f] : Array Obj)[j]? := by
    intro a b c d e f j hj
    show ((((((w1.heap.push a).push b).push c).push d).push e).push f)[w1.heap.size + j]? = _
    rcases (show j = 0 ∨ j = 1 ∨ j = 2 ∨ j = 3 ∨ j = 4 ∨ j = 5 by omega) with rfl | rfl | rfl | rfl | rfl | rfl
    all_goals (simp only [Array.getElem?_push, Array.size_push]; repeat (first | rw [if_pos (by omega)] | rw [if_neg (by omega)]))
    all_goals rfl
  have hB : Below w1.heap.size w1 ((((((w1.alloc (.cells #[v] 25)).alloc (.cells #[.int .i64 at'] 3)).alloc (.cells #[.int .i64 e] 26)).alloc (.cells #[.string s] 9)).alloc (.cells #[.int .i64 0] 3)).alloc (.cells #[.bool false] 4)) := by
    refine Below.alloc (Below.alloc (Below.alloc (Below.alloc (Below.alloc (Below.alloc (Below.refl _ _) (Nat.le_refl _) _) ?_ _) ?_ _) ?_ _) ?_ _) ?_ _
    all_goals (simp only [World.size_alloc]; omega)
  have hw2 : Below w.heap.size w ((w.alloc (.cells #[.int .i64 stop] 3)).alloc (.cells #[.bool false] 4)) := by
    refine Below.alloc (Below.alloc (Below.refl _ _) (Nat.le_refl _) _) ?_ _
    simp only [World.size_alloc]; omega
  refine ⟨_, rfl, ⟨blk_below (blk_below e3 hb) hB, ⟨_, blk_below (blk_below e4 hb) hB⟩, key _ _ _ _ _ _ 0 (by omega), key _ _ _ _ _ _ 1 (by omega), key _ _ _ _ _ _ 2 (by omega), key _ _ _ _ _ _ 4 (by omega), key _ _ _ _ _ _ 5 (by omega), ?_, ?_, ?_, by simp only [World.size_alloc]; omega, by omega⟩, key _ _ _ _ _ _ 3 (by omega), by simp only [World.size_alloc]⟩
  · exact Kd.R_below hR hB
  · obtain ⟨_, inner, ho, _⟩ := hR
    exact fun k hk => own_lt ho k hk
  · exact hw2.trans ((hb.mono (by rw [hs]; omega)).trans (hB.mono (by omega)))
/-- What it has laid when it leaves in the loop. -/
structure TX (w : World) (_pre : List El) (W : World) : Prop where
  out : W.heap[w.heap.size + 1]? = some (.cells #[.bool true] 4 (0, 0))
  below : Below w.heap.size w W
theorem TX.own (w : World) (B : Nat) (hB : w.heap.size ≤ B) : OwnFrom B (TX w) := fun s W W' row hs hg hr => by
  have hr' : ∀ r, row = some r → ∃ o : Obj, W.heap[r]? = some o ∧ o.isCells = false := fun r e => (hr r e).2
  exact ⟨cells_stay hs.out hg hr', hs.below.grown hg hs.below.size (fun k e => Nat.le_trans hB (hr k e).1)⟩
end Go.Proofs.Ytpeaepdhnicceaa.Wk
