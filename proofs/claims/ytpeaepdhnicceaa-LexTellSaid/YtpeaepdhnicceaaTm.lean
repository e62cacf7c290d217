/- What LexTell does with a long text, and the whole of it. -/
import Derived.Test.YtpeaepdhnicceaaTl
namespace Go.Proofs.Ytpeaepdhnicceaa.Wk
open Go.RowKit Go.Shelf Go.Proofs.Ytpeaepdhnicceaa.Rgl Go.Proofs.Ytpeaepdhnicceaa.PTy Go.Proofs.Ytpeaepdhnicceaa.PBase Go.Proofs.YtpeaepdhnicceaaW.PrintWords Go.Proofs.YtpeaepdhnicceaaW.PrintLast Go.Proofs.YtpeaepdhnicceaaW.PrintMore
attribute [local go_sem] Oper.semAt_some
set_option maxRecDepth 100000 in
theorem ltell_many (s : ByteArray) (hs : 8000 < s.size) (stop : Int) (w : World) :
    Calls Try.prog 4 #[.string s, .int .i64 stop] w fun e w' => e = .returned (.bool true) ∧ Below w.heap.size w w' := by
  have hd8 : decide ((8000 : Int) < (s.size : Int)) = true := decide_eq_true (by omega)
  refine (callsIn_wide (n := 102)).1 ?_
  refine callsIn_of_wp_marks Try.func4 rfl trivial ?_ rfl
  simp only [Try.ntmps4, List.size_toArray, List.length_cons, List.length_nil, Nat.reduceAdd, Nat.reduceSub, Array.replicate_succ, Array.replicate_zero, List.push_toArray, List.append_toArray, List.nil_append, List.cons_append]
  gi_wp2
  have hz : ((w.alloc (.cells #[.int .i64 stop] 3))).heap.size = w.heap.size + 1 := World.size_alloc _ _
  have c4 : ((w.alloc (.cells #[.int .i64 stop] 3)).alloc (.cells #[.bool true] 4)).heap[w.heap.size + 1]? = some (.cells #[.bool true] 4 (0, 0)) := by rw [← hz]; exact heap_alloc_new _ _
  exact ⟨_, res4 rfl (blk_cell c4 0), rfl, Below.alloc (Below.alloc (Below.refl _ _) (Nat.le_refl _) _) (by rw [hz]; omega) _⟩
end Go.Proofs.Ytpeaepdhnicceaa.Wk
namespace Go.Proofs.Ytpeaepdhnicceaa.Given
open Go Go.RowKit
/-- What LexTell tells: true; and nothing that stood before is otherwise. -/
theorem LexTell_walk (s : ByteArray) (stop : Int) (W : World) (_ : s.size ≤ maxLen) (_ : (Lit.int .i64 stop).wf = true) :
    Calls Try.prog 4 #[.string s, .int .i64 stop] W fun e W' => e = .returned (.bool true) ∧ Below W.heap.size W W' := by
  by_cases hs : s.size ≤ 8000
  · exact Wk.ltell_few s hs stop W
  · exact Wk.ltell_many s (by omega) stop W
end Go.Proofs.Ytpeaepdhnicceaa.Given
