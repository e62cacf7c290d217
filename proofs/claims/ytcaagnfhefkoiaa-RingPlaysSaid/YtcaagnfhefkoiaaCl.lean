/- What Window and the laws' all keep while they collect. -/
import Derived.Test.YtcaagnfhefkoiaaRs
namespace Go.Proofs.Ytcaagnfhefkoiaa.Rg
open Go.RowKit Go.Shelf Go.Proofs.Ytcaagnfhefkoiaa.Ex Go.Proofs.Ytcaagnfhefkoiaa.PBase Go.Proofs.YtcaagnfhefkoiaaW.PrintWords Go.Proofs.YtcaagnfhefkoiaaW.PrintLast Go.Proofs.YtcaagnfhefkoiaaW.PrintMore
attribute [local go_sem] Oper.semAt_some
def c29 (x : S29) : List Value := [.int .i64 x.f0, .int .i64 x.f1]
theorem reps29 (w : World) (base : Nat) (ok : Nat → Prop) (l : List S29) : Reps (k29.M w base ok) 2 l (l.flatMap c29) := by
  induction l with
  | nil => exact Reps.none _ _
  | cons x l ih =>
    have h1 : Reps (k29.M w base ok) 2 ([] ++ [x]) ([] ++ c29 x) := (Reps.none _ _).snoc (k29_mkM w base ok x) rfl
    exact Kd.reps_append h1 ih
theorem R_rows {w : World} {base : Nat} {v : Value} {l : List S29} (h : w.ownsRow base 29 2 v l.length (l.flatMap c29)) : Kd.R k29 29 w base (fun _ => True) v l :=
  ⟨fun _ _ => trivial, l.flatMap c29, h, reps29 _ _ _ _⟩
theorem keeps_set {B : Nat} {X W : World} (h : KeepsFrom B X W) {g : Nat} (hg : g < B) (j : Nat) (u : Value) : KeepsFrom B X (W.setCell ⟨g, j, none⟩ u) :=
  ⟨by rw [World.size_setCell]; exact h.size, fun k o hB hk hc => (Below.heap_setCell W ⟨g, j, none⟩ u k (by show k ≠ g; omega)).trans (h.same k o hB hk hc)⟩
theorem keeps_own {B : Nat} {W w2 : World} {base e size n : Nat} {v : Value} {xs : List Value} (h : W.ownsRow base e size v n xs) (hg : W.grownBy w2 v.ownBlock) : KeepsFrom B W w2 :=
  ⟨hg.size, fun k o _ hk hc => (hg.block k (Array.getElem?_eq_some_iff.1 hk).1 (fun e => by
    rcases h.2 with ⟨rfl, _⟩ | ⟨g, cap, cur, rfl, _, hh, _⟩
    · cases e
    · simp only [Value.ownBlock, Option.some.injEq] at e
      subst e
      rw [hh] at hk
      cases hk
      cases hc)).trans hk⟩
theorem slice_of {W : World} {base e size n : Nat} {v : Value} {xs : List Value} (h : W.ownsRow base e size v n xs) : ∃ A c, v = .slice A n c := by
  rcases h.2 with ⟨rfl, rfl⟩ | ⟨g, cap, cur, rfl, _⟩
  · exact ⟨none, 0, rfl⟩
  · exact ⟨_, _, rfl⟩
theorem cells_stay {W W' : World} {row : Option Nat} {k : Nat} {cs : Array Value} {t : TypeId} {fr : Nat × Nat} (h : W.heap[k]? = some (.cells cs t fr)) (hg : W.grownBy W' row) (hr : ∀ r, row = some r → ∃ o : Obj, W.heap[r]? = some o ∧ o.isCells = false) : W'.heap[k]? = some (.cells cs t fr) :=
  (hg.block k (Array.getElem?_eq_some_iff.1 h).1 (fun e => by obtain ⟨o, ho, hc⟩ := hr k e.symm; rw [h] at ho; cases ho; cases hc)).trans h
theorem row_stay {W W' : World} {row : Option Nat} {base e size n : Nat} {v : Value} {xs : List Value} (h : W.ownsRow base e size v n xs) (hg : W.grownBy W' row) (hr : ∀ r, row = some r → ∃ o : Obj, W.heap[r]? = some o ∧ o.isCells = false) : W'.ownsRow base e size v n xs := by
  obtain ⟨hl, h⟩ := h
  refine ⟨hl, ?_⟩
  rcases h with h | ⟨g, cap, cur, rfl, hb, hh, h1, h2, h3, h4⟩
  · exact .inl h
  · exact .inr ⟨g, cap, cur, rfl, hb, cells_stay hh hg hr, h1, h2, h3, h4⟩
/-- Between two rounds: all blocks that were there lie as they lay, but the box nb, in which the row is. -/
structure Cl (nb B : Nat) (w W0 : World) (f : List S29 → List S29) (pre : List S29) (W : World) : Prop where
  stay : ∀ k, k < B → k ≠ nb → W.heap[k]? = W0.heap[k]?
  row : ∃ v, W.heap[nb]? = some (.cells #[v] 36 (0, 0)) ∧ W.ownsRow B 29 2 v (f pre).length ((f pre).flatMap c29)
  below : Below w.heap.size w W
  big : B ≤ W.heap.size
  lt : nb < B
  wB : w.heap.size ≤ nb
theorem Cl.own (nb B B' : Nat) (w W0 : World) (f : List S29 → List S29) (hB : B ≤ B') : OwnFrom B' (Cl nb B w W0 f) := fun s W W' row hs hg hr => by
  have hr' : ∀ r, row = some r → ∃ o : Obj, W.heap[r]? = some o ∧ o.isCells = false := fun r e => (hr r e).2
  obtain ⟨v, h1, h2⟩ := hs.row
  have hlt := hs.lt
  have hwB := hs.wB
  exact ⟨fun k hk hn => (hg.block k (by have := hs.big; omega) (fun e => by have := (hr k e.symm).1; omega)).trans (hs.stay k hk hn), ⟨v, cells_stay h1 hg hr', row_stay h2 hg hr'⟩, hs.below.grown hg hs.below.size (fun k e => by have := (hr k e).1; omega), Nat.le_trans hs.big hg.size, hs.lt, hs.wB⟩
/-- A sample more. -/
theorem Cl.grew {nb B : Nat} {w W0 : World} {f : List S29 → List S29} {pre : List S29} {W w1 w2 : World} {x : S29} {A : Option Addr} {c : Nat} {v' : Value} (h : Cl nb B w W0 f pre W) (hw1 : Below W.heap.size W w1)
    (hv : W.heap[nb]? = some (.cells #[.slice A (f pre).length c] 36 (0, 0))) (ho : w1.ownsRow B 29 2 (.slice A (f pre).length c) (f pre).length ((f pre).flatMap c29))
    (hg : w1.grownBy w2 (Value.slice A (f pre).length c).ownBlock) (ho2 : w2.ownsRow B 29 2 v' ((f pre).length + 1) ((f pre).flatMap c29 ++ c29 x)) (hf : f (pre ++ [x]) = f pre ++ [x]) :
    Cl nb B w W0 f (pre ++ [x]) (w2.setCell ⟨nb, 0, none⟩ v') := by
  have hlt := h.lt
  have hwB := h.wB
  have hbig := h.big
  have hs1 := hw1.size
  have hbo := own_base ho
  have keep : ∀ k o, k < B → W.heap[k]? = some o → w2.heap[k]? = some o := fun k o hk hh => (hg.block k (by omega) (fun e => by have := hbo k e.symm; omega)).trans ((hw1.block k (by omega)).trans hh)
  have keep2 : ∀ k, k < B → w2.heap[k]? = W.heap[k]? := fun k hk => (hg.block k (by omega) (fun e => by have := hbo k e.symm; omega)).trans (hw1.block k (by omega))
  refine ⟨fun k hk hn => ?_, ⟨v', blk_put (keep _ _ hlt hv) 0 _ rfl, ?_⟩, ?_, ?_, hlt, hwB⟩
  · rw [Below.heap_setCell _ _ _ _ (by show k ≠ nb; omega), keep2 k hk]; exact h.stay k hk hn
  · rw [hf, List.length_append, List.flatMap_append]
    simp only [List.flatMap_cons, List.flatMap_nil, List.append_nil, List.length_cons, List.length_nil]
    exact ownsRow_setCell_below ho2 (by show nb < B; omega) _
  · exact ((h.below.trans (hw1.mono h.below.size)).grown hg (h.below.trans (hw1.mono h.below.size)).size (fun k e => by have := hbo k e; omega)).setCell (p := ⟨nb, 0, none⟩) (by show w.heap.size ≤ nb; omega) _
  · rw [World.size_setCell]
    have := hg.size
    omega
theorem Cl.same {nb B : Nat} {w W0 : World} {f : List S29 → List S29} {pre : List S29} {W w1 : World} {x : S29} (h : Cl nb B w W0 f pre W) (hw1 : Below W.heap.size W w1) (hf : f (pre ++ [x]) = f pre) : Cl nb B w W0 f (pre ++ [x]) w1 := by
  have hbig := h.big
  obtain ⟨v, h1, h2⟩ := h.row
  refine ⟨fun k hk hn => (hw1.block k (by omega)).trans (h.stay k hk hn), ⟨v, blk_below h1 hw1, ?_⟩, h.below.trans (hw1.mono h.below.size), Nat.le_trans hbig hw1.size, h.lt, h.wB⟩
  rw [hf]
  exact own_move h2 (fun k hk => hw1.block k (own_lt h2 k hk))
end Go.Proofs.Ytcaagnfhefkoiaa.Rg
