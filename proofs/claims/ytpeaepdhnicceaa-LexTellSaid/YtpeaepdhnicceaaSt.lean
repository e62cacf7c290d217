/- What lex.All keeps while it goes. -/
import Derived.Test.YtpeaepdhnicceaaTw
import Derived.Test.YtpeaepdhnicceaaTy
namespace Go.Proofs.Ytpeaepdhnicceaa.Wk
open Go.RowKit Go.Shelf Go.Proofs.Ytpeaepdhnicceaa.PTy Go.Proofs.Ytpeaepdhnicceaa.PBase Go.Proofs.YtpeaepdhnicceaaW.PrintWords Go.Proofs.YtpeaepdhnicceaaW.PrintLast Go.Proofs.YtpeaepdhnicceaaW.PrintMore
def tokS (x : El) : S31 := ⟨x.1, ⟨x.2.1.toArray⟩, x.2.2.1⟩
def c31 (x : El) : List Value := [.int .u8 x.1, .string ⟨x.2.1.toArray⟩, .int .i64 x.2.2.1]
theorem reps31 (w : World) (base : Nat) (ok : Nat → Prop) (l : List El) : Reps (k31.M w base ok) 3 (l.map tokS) (l.flatMap c31) := by
  induction l with
  | nil => exact Reps.none _ _
  | cons x l ih =>
    have h1 : Reps (k31.M w base ok) 3 ([] ++ [tokS x]) ([] ++ c31 x) := (Reps.none _ _).snoc (k31_mkM w base ok (tokS x)) rfl
    exact Kd.reps_append h1 ih
theorem R_rows {w : World} {base : Nat} {v : Value} {l : List El} (h : w.ownsRow base 31 3 v l.length (l.flatMap c31)) : Kd.R k31 31 w base (fun _ => True) v (l.map tokS) :=
  ⟨fun _ _ => trivial, l.flatMap c31, by rw [List.length_map]; exact h, reps31 _ _ _ _⟩
theorem cells_stay {W W' : World} {row : Option Nat} {k : Nat} {cs : Array Value} {t : TypeId} {fr : Nat × Nat} (h : W.heap[k]? = some (.cells cs t fr)) (hg : W.grownBy W' row) (hr : ∀ r, row = some r → ∃ o : Obj, W.heap[r]? = some o ∧ o.isCells = false) : W'.heap[k]? = some (.cells cs t fr) :=
  (hg.block k (Array.getElem?_eq_some_iff.1 h).1 (fun e => by obtain ⟨o, ho, hc⟩ := hr k e.symm; rw [h] at ho; cases ho; cases hc)).trans h
theorem row_stay {W W' : World} {row : Option Nat} {base e size n : Nat} {v : Value} {xs : List Value} (h : W.ownsRow base e size v n xs) (hg : W.grownBy W' row) (hr : ∀ r, row = some r → ∃ o : Obj, W.heap[r]? = some o ∧ o.isCells = false) : W'.ownsRow base e size v n xs := by
  obtain ⟨hl, h⟩ := h
  refine ⟨hl, ?_⟩
  rcases h with h | ⟨g, cap, cur, rfl, hb, hh, h1, h2, h3, h4⟩
  · exact .inl h
  · exact .inr ⟨g, cap, cur, rfl, hb, cells_stay hh hg hr, h1, h2, h3, h4⟩
structure St (n : Nat) (w : World) (pre : List El) (W : World) : Prop where
  b0 : W.heap[n]? = some (.cells #[.slice none 0 0] 25 (0, 0))
  b1 : W.heap[n + 1]? = some (.cells #[.int .i64 0] 3 (0, 0))
  b2 : W.heap[n + 2]? = some (.cells #[.int .i64 0] 26 (0, 0))
  row : ∃ v, W.heap[n + 3]? = some (.cells #[v] 25 (0, 0)) ∧ W.ownsRow (n + 5) 31 3 v pre.length (pre.flatMap c31)
  ok : ∀ x ∈ pre, x.2.2.2 = 0
  below : Below n w W
  big : n + 5 ≤ W.heap.size
theorem St.own (n B : Nat) (w : World) (hn : n ≤ w.heap.size) (hB : n ≤ B) : OwnFrom B (St n w) := fun s W W' row hs hg hr => by
  have hr' : ∀ r, row = some r → ∃ o : Obj, W.heap[r]? = some o ∧ o.isCells = false := fun r e => (hr r e).2
  obtain ⟨v, h1, h2⟩ := hs.row
  exact ⟨cells_stay hs.b0 hg hr', cells_stay hs.b1 hg hr', cells_stay hs.b2 hg hr', ⟨v, cells_stay h1 hg hr', row_stay h2 hg hr'⟩, hs.ok, hs.below.grown hg (Nat.le_trans hn hs.below.size) (fun k e => Nat.le_trans hB (hr k e).1), Nat.le_trans hs.big hg.size⟩
/-- What All has laid when it leaves in the loop. -/
structure Sx (n : Nat) (w : World) (pre : List El) (W : World) : Prop where
  out : ∃ (l : List El) (x : El), pre = l ++ [x] ∧ (∀ y ∈ l, y.2.2.2 = 0) ∧ x.2.2.2 ≠ 0 ∧ W.heap[n]? = some (.cells #[.slice none 0 0] 25 (0, 0)) ∧ W.heap[n + 1]? = some (.cells #[.int .i64 x.2.2.1] 3 (0, 0)) ∧ W.heap[n + 2]? = some (.cells #[.int .i64 x.2.2.2] 26 (0, 0))
  below : Below n w W
theorem Sx.own (n B : Nat) (w : World) (hn : n ≤ w.heap.size) (hB : n ≤ B) : OwnFrom B (Sx n w) := fun s W W' row hs hg hr => by
  have hr' : ∀ r, row = some r → ∃ o : Obj, W.heap[r]? = some o ∧ o.isCells = false := fun r e => (hr r e).2
  obtain ⟨l, x, h1, h2, h3, h4, h5, h6⟩ := hs.out
  exact ⟨⟨l, x, h1, h2, h3, cells_stay h4 hg hr', cells_stay h5 hg hr', cells_stay h6 hg hr'⟩, hs.below.grown hg (Nat.le_trans hn hs.below.size) (fun k e => Nat.le_trans hB (hr k e).1)⟩
def allF (s : ByteArray) : List S31 × Int × Int := match (told s).find? (fun x => decide (x.2.2.2 ≠ 0)) with
  | none => ((told s).map tokS, 0, 0)
  | some x => ([], x.2.2.1, x.2.2.2)
theorem allF_ok {s : ByteArray} (h : ∀ x ∈ told s, x.2.2.2 = 0) : allF s = ((told s).map tokS, 0, 0) := by
  unfold allF
  rw [List.find?_eq_none.mpr (fun x hx => by simp [h x hx])]
theorem allF_bad {s : ByteArray} {l : List El} {x : El} (h : l ++ [x] <+: told s) (hl : ∀ y ∈ l, y.2.2.2 = 0) (hx : x.2.2.2 ≠ 0) : allF s = (([] : List S31), ((x.2.2.1 : Nat) : Int), ((x.2.2.2 : Nat) : Int)) := by
  obtain ⟨r, hr⟩ := h
  unfold allF
  rw [← hr, List.append_assoc, List.find?_append, List.find?_eq_none.mpr (fun y hy => by simp [hl y hy])]
  simp [hx]
theorem five (w : World) (s : ByteArray) : ∃ W, W = (((((w.alloc (.cells #[.slice none 0 0] 25)).alloc (.cells #[.int .i64 0] 3)).alloc (.cells #[.int .i64 0] 26)).alloc (.cells #[.slice none 0 0] 25)).alloc (.cells #[.string s] 9)) ∧ St w.heap.size w [] W ∧ W.heap[w.heap.size + 4]? = some (.cells #[.string s] 9 (0, 0)) ∧ W.heap.size = w.heap.size + 5 := by
  refine ⟨_, rfl, ?_, ?_, ?_⟩
  · have key : ∀ (a b c d e : Obj) (j : Nat), j < 5 → (((((w.alloc a).alloc b).alloc c).alloc d).alloc e).heap[w.heap.size + j]? = (#[a, b, c, d, e] : Array Obj)[j]? := by
      intro a b c d e j hj
      show (((((w.heap.push a).push b).push c).push d).push e)[w.heap.size + j]? = _
      rcases (show j = 0 ∨ j = 1 ∨ j = 2 ∨ j = 3 ∨ j = 4 by omega) with rfl | rfl | rfl | rfl | rfl
      all_goals (simp only [Array.getElem?_push, Array.size_push]; repeat (first | rw [if_pos (by omega)] | rw [if_neg (by omega)]))
      all_goals rfl
    refine ⟨key _ _ _ _ _ 0 (by omega), key _ _ _ _ _ 1 (by omega), key _ _ _ _ _ 2 (by omega), ⟨_, key _ _ _ _ _ 3 (by omega), rfl, .inl ⟨rfl, rfl⟩⟩, fun x hx => by simp at hx, ?_, by simp only [World.size_alloc]; omega⟩
    refine Below.alloc (Below.alloc (Below.alloc (Below.alloc (Below.alloc (Below.refl _ _) (Nat.le_refl _) _) ?_ _) ?_ _) ?_ _) ?_ _
    all_goals (simp only [World.size_alloc]; omega)
  · have := heap_alloc_new ((((w.alloc (.cells #[.slice none 0 0] 25)).alloc (.cells #[.int .i64 0] 3)).alloc (.cells #[.int .i64 0] 26)).alloc (.cells #[.slice none 0 0] 25)) (.cells #[.string s] 9)
    simp only [World.size_alloc] at this
    exact this
  · simp only [World.size_alloc]
end Go.Proofs.Ytpeaepdhnicceaa.Wk
