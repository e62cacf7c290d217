/- What the laws' read does where nobody made the reader: the walk. -/
import Derived.Test.YtekbbpbpkekdhaaNilq
namespace Go.Proofs.Ytekbbpbpkekdhaa.Cod
open Go.RowKit Go.Proofs.Ytekbbpbpkekdhaa.Ex Go.Proofs.Ytekbbpbpkekdhaa.PBase Go.Proofs.YtekbbpbpkekdhaaW.PrintWords Go.Proofs.YtekbbpbpkekdhaaW.PrintLast Go.Proofs.YtekbbpbpkekdhaaW.PrintMore
theorem bel2 (w : World) (o1 o2 : Obj) : Below w.heap.size w ((w.alloc o1).alloc o2) := ((Below.refl _ w).alloc (Nat.le_refl _) o1).alloc (by rw [World.size_alloc]; omega) o2
theorem heap2 (w : World) (o1 o2 : Obj) : ((w.alloc o1).alloc o2).heap[w.heap.size]? = some o1 := by
  show ((w.heap.push o1).push o2)[w.heap.size]? = _
  rw [Array.getElem?_push_lt (by simp)]; simp
set_option maxHeartbeats 400000 in
set_option maxRecDepth 100000 in
theorem readq_0 (p : Option Addr) (m : Int) (w : World) (hw : RQ p w) :
    Calls Try.prog 21 #[.pointer p, .int .u8 0, .int .i64 m] w fun e w' => e = .returned (aggS (z0 0) none 0) ∧ Below w.heap.size w w' := by
  have HW := Aside0.mk (hw.below (bel2 w (.cells (zc 0) 29) (.cells (zc 0) 29)))
  have CALL := Aside0.mk (ruint_q p _ HW.out)
  clear hw
  unfold zc at CALL
  go_enter Try.func21, Try.ntmps21
  go_wp2_with fail
  refine CALL.out.mono ?_
  rintro e w1 ⟨rfl, rfl⟩
  go_wp2_with fail
  refine bodyPost_ret (results_single rfl (.cell w.heap.size 29 _ (0, 0) _ rfl (heap2 _ _ _) Try.underlying29 rfl size29 .nil)) rfl ⟨rfl, bel2 _ _ _⟩
set_option maxHeartbeats 400000 in
set_option maxRecDepth 100000 in
theorem readq_1 (p : Option Addr) (m : Int) (w : World) (hw : RQ p w) :
    Calls Try.prog 21 #[.pointer p, .int .u8 1, .int .i64 m] w fun e w' => e = .returned (aggS (z0 1) none 0) ∧ Below w.heap.size w w' := by
  have HW := Aside0.mk (hw.below (bel2 w (.cells (zc 0) 29) (.cells (zc 1) 29)))
  have CALL := Aside0.mk (rint_q p _ HW.out)
  clear hw
  unfold zc at CALL
  go_enter Try.func21, Try.ntmps21
  go_wp2_with fail
  refine CALL.out.mono ?_
  rintro e w1 ⟨rfl, rfl⟩
  go_wp2_with fail
  refine bodyPost_ret (results_single rfl (.cell w.heap.size 29 _ (0, 0) _ rfl (heap2 _ _ _) Try.underlying29 rfl size29 .nil)) rfl ⟨rfl, bel2 _ _ _⟩
set_option maxHeartbeats 400000 in
set_option maxRecDepth 100000 in
theorem readq_2 (p : Option Addr) (m : Int) (w : World) (hw : RQ p w) :
    Calls Try.prog 21 #[.pointer p, .int .u8 2, .int .i64 m] w fun e w' => e = .returned (aggS (z0 2) none 0) ∧ Below w.heap.size w w' := by
  have HW := Aside0.mk (hw.below (bel2 w (.cells (zc 0) 29) (.cells (zc 2) 29)))
  have CALL := Aside0.mk (rbool_q p _ HW.out)
  clear hw
  unfold zc at CALL
  go_enter Try.func21, Try.ntmps21
  go_wp2_with fail
  refine CALL.out.mono ?_
  rintro e w1 ⟨rfl, rfl⟩
  go_wp2_with fail
  refine bodyPost_ret (results_single rfl (.cell w.heap.size 29 _ (0, 0) _ rfl (heap2 _ _ _) Try.underlying29 rfl size29 .nil)) rfl ⟨rfl, bel2 _ _ _⟩
set_option maxHeartbeats 400000 in
set_option maxRecDepth 100000 in
theorem readq_3 (p : Option Addr) (m : Int) (w : World) (hw : RQ p w) :
    Calls Try.prog 21 #[.pointer p, .int .u8 3, .int .i64 m] w fun e w' => e = .returned (aggS (z0 3) none 0) ∧ Below w.heap.size w w' := by
  have HW := Aside0.mk (hw.below (bel2 w (.cells (zc 0) 29) (.cells (zc 3) 29)))
  have CALL := Aside0.mk (rbytes_q p _ HW.out)
  clear hw
  unfold zc at CALL
  go_enter Try.func21, Try.ntmps21
  go_wp2_with fail
  refine CALL.out.mono ?_
  rintro e w1 ⟨rfl, rfl⟩
  go_wp2_with fail
  refine bodyPost_ret (results_single rfl (.cell w.heap.size 29 _ (0, 0) _ rfl (heap2 _ _ _) Try.underlying29 rfl size29 .nil)) rfl ⟨rfl, bel2 _ _ _⟩
set_option maxHeartbeats 400000 in
set_option maxRecDepth 100000 in
theorem readq_4 (p : Option Addr) (m : Int) (w : World) (hw : RQ p w) :
    Calls Try.prog 21 #[.pointer p, .int .u8 4, .int .i64 m] w fun e w' => e = .returned (aggS (z0 4) none 0) ∧ Below w.heap.size w w' := by
  have HW := Aside0.mk (hw.below (bel2 w (.cells (zc 0) 29) (.cells (zc 4) 29)))
  have CALL := Aside0.mk (rtext_q p _ HW.out)
  clear hw
  unfold zc at CALL
  go_enter Try.func21, Try.ntmps21
  go_wp2_with fail
  refine CALL.out.mono ?_
  rintro e w1 ⟨rfl, rfl⟩
  go_wp2_with fail
  refine bodyPost_ret (results_single rfl (.cell w.heap.size 29 _ (0, 0) _ rfl (heap2 _ _ _) Try.underlying29 rfl size29 .nil)) rfl ⟨rfl, bel2 _ _ _⟩
set_option maxHeartbeats 400000 in
set_option maxRecDepth 100000 in
theorem readq_5 (p : Option Addr) (m : Int) (w : World) (hw : RQ p w) :
    Calls Try.prog 21 #[.pointer p, .int .u8 5, .int .i64 m] w fun e w' => e = .returned (aggS (z0 5) none 0) ∧ Below w.heap.size w w' := by
  have HW := Aside0.mk (hw.below (bel2 w (.cells (zc 0) 29) (.cells (zc 5) 29)))
  have CALL := Aside0.mk (rlen_q p m _ HW.out)
  clear hw
  unfold zc at CALL
  go_enter Try.func21, Try.ntmps21
  go_wp2_with fail
  refine CALL.out.mono ?_
  rintro e w1 ⟨rfl, rfl⟩
  go_wp2_with fail
  refine bodyPost_ret (results_single rfl (.cell w.heap.size 29 _ (0, 0) _ rfl (heap2 _ _ _) Try.underlying29 rfl size29 .nil)) rfl ⟨rfl, bel2 _ _ _⟩
theorem readq_any (p : Option Addr) (k m : Int) (w : World) (hw : RQ p w) (hk0 : 0 ≤ k) (hk5 : k ≤ 5) :
    Calls Try.prog 21 #[.pointer p, .int .u8 k, .int .i64 m] w fun e w' => e = .returned (aggS (z0 k) none 0) ∧ Below w.heap.size w w' := by
  rcases (show k = 0 ∨ k = 1 ∨ k = 2 ∨ k = 3 ∨ k = 4 ∨ k = 5 by omega) with rfl | rfl | rfl | rfl | rfl | rfl
  · exact readq_0 p m w hw
  · exact readq_1 p m w hw
  · exact readq_2 p m w hw
  · exact readq_3 p m w hw
  · exact readq_4 p m w hw
  · exact readq_5 p m w hw
end Go.Proofs.Ytekbbpbpkekdhaa.Cod
