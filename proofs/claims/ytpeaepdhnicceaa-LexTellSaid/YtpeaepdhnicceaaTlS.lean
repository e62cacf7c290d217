/- A round of LexTell: what it lays. -/
import Derived.Test.YtpeaepdhnicceaaRh
namespace Go.Proofs.Ytpeaepdhnicceaa.Wk
open Go.RowKit Go.Shelf Go.Proofs.Ytpeaepdhnicceaa.Rgl Go.Proofs.Ytpeaepdhnicceaa.PTy Go.Proofs.Ytpeaepdhnicceaa.PBase Go.Proofs.YtpeaepdhnicceaaW.PrintWords Go.Proofs.YtpeaepdhnicceaaW.PrintLast Go.Proofs.YtpeaepdhnicceaaW.PrintMore
section
variable {w : World} {n1 : Nat} {stop : Int} {v : Value} {l : List S31} {at' e : Int} {pre : List El} {x : El} {W W' : World}
theorem TS.step (h : TS w n1 stop v l at' e pre W) (hx : ∀ k, k ≠ n1 + 4 → k ≠ n1 + 5 → W'.heap[k]? = W.heap[k]?) (hz : W'.heap.size = W.heap.size)
    (hk : W'.heap[n1 + 4]? = some (.cells #[.int .i64 ((pre ++ [x]).length : Int)] 3 (0, 0))) (hf : W'.heap[n1 + 5]? = some (.cells #[.bool ((pre ++ [x]).any fun x => decide (x.2.2.2 ≠ 0))] 4 (0, 0))) (hB : Below w.heap.size w W') :
    TS w n1 stop v l at' e (pre ++ [x]) W' := by
  have hlo := h.lo
  obtain ⟨r, h4⟩ := h.b4
  exact ⟨(hx _ (by omega) (by omega)).trans h.b3, ⟨r, (hx _ (by omega) (by omega)).trans h4⟩, (hx _ (by omega) (by omega)).trans h.b5, (hx _ (by omega) (by omega)).trans h.b6, (hx _ (by omega) (by omega)).trans h.b7, hk, hf,
    Kd.R_mono (Kd.R_step (Kd.R_tight rfl h.row) (fun k ho _ => hx k (by have := h.lt k ho.symm; omega) (by have := h.lt k ho.symm; omega))) (fun _ _ => trivial), h.lt, hB, by rw [hz]; exact h.big, h.lo⟩
theorem TS.next (h : TS w n1 stop v l at' e pre W) (hx : x.2.2.2 = 0) : TS w n1 stop v l at' e (pre ++ [x]) (W.setCell ⟨n1 + 4, 0, none⟩ (.int .i64 ((pre.length : Int) + 1))) := by
  have hlo := h.lo
  refine h.step (fun k h4 _ => Below.heap_setCell _ _ _ _ h4) (World.size_setCell _ _ _) ?_ ?_ (h.below.setCell (p := ⟨n1 + 4, 0, none⟩) (by show w.heap.size ≤ n1 + 4; omega) _)
  · rw [List.length_append]; exact blk_put h.bk 0 _ rfl
  · rw [List.any_append]
    have e : ([x].any fun x => decide (x.2.2.2 ≠ 0)) = false := by simp [hx]
    rw [e, Bool.or_false]
    exact blk_far h.bf (by show n1 + 5 ≠ n1 + 4; omega) _
theorem TS.bad (h : TS w n1 stop v l at' e pre W) (hx : x.2.2.2 ≠ 0) : TS w n1 stop v l at' e (pre ++ [x]) ((W.setCell ⟨n1 + 5, 0, none⟩ (.bool true)).setCell ⟨n1 + 4, 0, none⟩ (.int .i64 ((pre.length : Int) + 1))) := by
  have hlo := h.lo
  refine h.step (fun k h4 h5 => (Below.heap_setCell _ _ _ _ h4).trans (Below.heap_setCell _ _ _ _ h5)) ((World.size_setCell _ _ _).trans (World.size_setCell _ _ _)) ?_ ?_ ((h.below.setCell (p := ⟨n1 + 5, 0, none⟩) (by show w.heap.size ≤ n1 + 5; omega) _).setCell (p := ⟨n1 + 4, 0, none⟩) (by show w.heap.size ≤ n1 + 4; omega) _)
  · rw [List.length_append]; exact blk_put (blk_far h.bk (by show n1 + 4 ≠ n1 + 5; omega) _) 0 _ rfl
  · rw [List.any_append]
    have e : ([x].any fun x => decide (x.2.2.2 ≠ 0)) = true := by simp [hx]
    rw [e, Bool.or_true]
    exact blk_far (blk_put h.bf 0 _ rfl) (by show n1 + 5 ≠ n1 + 4; omega) _
theorem TX.lay (hB : Below w.heap.size w W) {r : Bool} (h4 : W.heap[w.heap.size + 1]? = some (.cells #[.bool r] 4 (0, 0))) (pre : List El) : TX w pre (W.setCell ⟨w.heap.size + 1, 0, none⟩ (.bool true)) :=
  ⟨blk_put h4 0 _ rfl, hB.setCell (p := ⟨w.heap.size + 1, 0, none⟩) (by show w.heap.size ≤ w.heap.size + 1; omega) _⟩
end
theorem toks_len : ∀ (k a : Nat) (l : List UInt8), (Lx.toks k a l).1.length ≤ k
  | 0, _, _ => by simp [Lx.toks]
  | k + 1, a, l => by
    unfold Lx.toks
    cases hr : List.drop (Lx.skip false l) l with
    | nil => simp
    | cons b u =>
      dsimp only
      by_cases h0 : (Lx.one (b :: u)).2.2 = 0
      · rw [if_pos h0]; simp
      · rw [if_neg h0]
        have := toks_len k (a + Lx.skip false l + (Lx.one (b :: u)).2.2) ((b :: u).drop (Lx.one (b :: u)).2.2)
        simp only [List.length_cons]
        omega
theorem told_len (s : ByteArray) (hs : s.size ≤ 8000) : (told s).length ≤ 8002 := by
  unfold told
  split
  · simp
  · unfold els
    have := toks_len (s.size + 1) 0 (L s)
    rw [List.length_append, List.length_map]
    cases (Lx.toks (s.size + 1) 0 (L s)).2 <;> simp <;> omega
end Go.Proofs.Ytpeaepdhnicceaa.Wk
