/- What RingNil does: the walk. -/
import Derived.Test.YtcaagnfhefkoiaaNq
namespace Go.Proofs.Ytcaagnfhefkoiaa.Given
open Go.RowKit Go.Proofs.Ytcaagnfhefkoiaa.Rg Go.Proofs.Ytcaagnfhefkoiaa.Ex Go.Proofs.Ytcaagnfhefkoiaa.PBase Go.Proofs.Ytcaagnfhefkoiaa.OpenS Go.Proofs.YtcaagnfhefkoiaaW.PrintWords Go.Proofs.YtcaagnfhefkoiaaW.PrintLast Go.Proofs.YtcaagnfhefkoiaaW.PrintMore
attribute [local go_sem high] eqA29
/-- What lies about in RingNil: the sample's box, the ring that nobody made, the row of the two. -/
structure NS (w : World) (x : S29) (Z : Array Value) (V : World) : Prop where
  low : Below w.heap.size w V
  b : V.heap[w.heap.size]? = some (.cells #[.int .i64 x.f0, .int .i64 x.f1] 29 (0, 0))
  z : V.heap[w.heap.size + 1]? = some (.cells Z 51 (0, 0))
  r : V.heap[w.heap.size + 2]? = some (.cells #[.pointer none, .pointer (some ⟨w.heap.size + 1, 0, none⟩)] 23 (0, 0))
theorem NS.below {w : World} {x : S29} {Z : Array Value} {V V1 : World} (h : NS w x Z V) (hb : Below V.heap.size V V1) : NS w x Z V1 :=
  ⟨h.low.trans (hb.mono h.low.size), blk_below h.b hb, blk_below h.z hb, blk_below h.r hb⟩
theorem NS.drew {w : World} {x : S29} {Z : Array Value} {V : World} (h : NS w x Z V) : NS w x Z V.drew := h.below (below_drew (Below.refl _ _))
/-- The k-th of the two. -/
theorem NS.at' {w : World} {x : S29} {Z : Array Value} (hZ : Z[66]? = some (.bool false)) {k : Nat} (hk : k < 2) : ∃ p, ∀ V, NS w x Z V → V.cell? ⟨w.heap.size + 2, k, none⟩ = some (.pointer p) ∧ NP p V := by
  rcases (show k = 0 ∨ k = 1 by omega) with rfl | rfl
  · exact ⟨none, fun V h => ⟨blk_cell h.r 0, .inl rfl⟩⟩
  · exact ⟨_, fun V h => ⟨blk_cell h.r 1, .inr ⟨_, rfl, (blk_cell h.z 66).trans hZ⟩⟩⟩
theorem NS.new (w : World) (x : S29) (Z : Array Value) : NS w x Z (((w.alloc (.cells #[.int .i64 x.f0, .int .i64 x.f1] 29)).alloc (.cells Z 51)).alloc (.cells #[.pointer none, .pointer (some ⟨w.heap.size + 1, 0, none⟩)] 23)) := by
  have key : ∀ (a b c : Obj) (j : Nat), j < 3 → (((w.alloc a).alloc b).alloc c).heap[w.heap.size + j]? = (#[a, b, c] : Array Obj)[j]? := by
    intro a b c j hj
    show (((w.heap.push a).push b).push c)[w.heap.size + j]? = _
    rcases (show j = 0 ∨ j = 1 ∨ j = 2 by omega) with rfl | rfl | rfl
    all_goals (simp only [Array.getElem?_push, Array.size_push]; repeat (first | rw [if_pos (by omega)] | rw [if_neg (by omega)]))
    all_goals rfl
  refine ⟨?_, key _ _ _ 0 (by omega), key _ _ _ 1 (by omega), key _ _ _ 2 (by omega)⟩
  refine Below.alloc (Below.alloc (Below.alloc (Below.refl _ _) (Nat.le_refl _) _) ?_ _) ?_ _
  all_goals (simp only [World.size_alloc]; omega)
set_option maxHeartbeats 4000000 in
set_option maxRecDepth 100000 in
theorem RingNil_walk (x : S29) (fr tt : Int) (w : World) :
    Calls Try.prog 6 #[.agg #[.int .i64 x.f0, .int .i64 x.f1], .int .i64 fr, .int .i64 tt] w fun e w' => e = .returned (.bool true) ∧ Below w.heap.size w w' := by
  have hu29 := Try.underlying29
  obtain ⟨Z, hz, hZ, hs⟩ : ∃ Z : Array Value, (∀ w, (zeroValue 51).run Try.prog w = .ok (.agg Z) w) ∧ Z[66]? = some (.bool false) ∧ Z.size = 67 := ⟨_, zero51, rfl, by simp⟩
  have HZ := Aside0.mk hZ
  clear hZ
  go_enter Try.func6, Try.ntmps6
  go_upto_region 3 with (fail)
  refine gen_wp (fun V => NS w x Z V) (NS.new w x Z) ?_
  intro V hV
  have N0 := Aside0.mk hV
  clear hV
  simp only [Nat.add_assoc, Nat.reduceAdd]
  go_wp2_with fail
  go_loopw [9] (fun i W => ∃ k : Nat, i = .int .i64 (k : Int) ∧ k ≤ 2 ∧ Aside0 (NS w x Z W)) (fun i _ => 2 - (intOf i).toNat)
  case atStart => exact ⟨0, rfl, by omega, N0⟩
  case round =>
    clear N0
    obtain ⟨k, rfl, hk, N⟩ := hrel
    by_cases hk2 : k < 2
    · obtain ⟨p, hp⟩ := NS.at' (w := w) (x := x) HZ.out hk2
      have HP := Aside0.mk hp
      have hdk : decide ((k : Int) < 2) = true := decide_eq_true (by omega)
      clear hp
      have hki : (k : Int) < 2 := by omega
      have HC := Aside0.mk (fun (V : World) (h : NS w x Z V) => (show V.cell? ⟨w.heap.size + 2, k, none⟩ = some (.pointer p) ∧ V.cell? ⟨w.heap.size, 0, none⟩ = some (.int .i64 x.f0) ∧ V.cell? ⟨w.heap.size, 1, none⟩ = some (.int .i64 x.f1) from ⟨(HP.out V h).1, blk_cell h.b 0, blk_cell h.b 1⟩))
      go_upto_region 6 with (fail)
      have hS0 := HC.out _ N.out.drew
      go_region_held3 (fun W' : World => W'.cell? ⟨w.heap.size + 2, k, none⟩ = some (.pointer p) ∧ W'.cell? ⟨w.heap.size, 0, none⟩ = some (.int .i64 x.f0) ∧ W'.cell? ⟨w.heap.size, 1, none⟩ = some (.int .i64 x.f1)) (first | assumption | go_keep)
        (first | (go_at_call 9; refine (push_q (HP.out _ N.out.drew).2 x).mono ?_; rintro e w2 ⟨rfl, hb⟩; have N2 := Aside0.mk (N.out.drew.below hb); have hS2 := HC.out _ N2.out; clear hb hS0))
      go_upto_region 7 with (fail)
      clear hS2
      have hS3 := HC.out _ N2.out.drew
      go_region_held3 (fun W' : World => W'.cell? ⟨w.heap.size + 2, k, none⟩ = some (.pointer p) ∧ W'.cell? ⟨w.heap.size, 0, none⟩ = some (.int .i64 x.f0) ∧ W'.cell? ⟨w.heap.size, 1, none⟩ = some (.int .i64 x.f1)) (first | assumption | go_keep)
        (first | (go_at_call 10; refine (expire_q (HP.out _ N2.out.drew).2 x.f0).mono ?_; rintro e w3 ⟨rfl, hb⟩; have N3 := Aside0.mk (N2.out.drew.below hb); have hS4 := HC.out _ N3.out; clear hb hS3))
      go_upto_region 8 with (fail)
      have k4 := hS4.1
      clear hS4
      go_wp2_with fail
      refine (last_q (HP.out _ N3.out).2).mono ?_
      rintro e w4 ⟨rfl, hb⟩
      have N4 := Aside0.mk (N3.out.below hb)
      clear hb k4
      go_upto_region 9 with (fail)
      have hal : Below w4.heap.size w4 (w4.alloc (.cells #[.int .i64 0, .int .i64 0] 29)) := (Below.refl _ _).alloc (Nat.le_refl _) _
      have N5 := Aside0.mk (N4.out.below hal)
      have Y5 := Aside0.mk (blk_new w4 (.cells #[.int .i64 0, .int .i64 0] 29))
      have k5 := (HC.out _ N5.out).1
      clear hal
      go_wp2_with fail
      refine (allf_in (HP.out _ N5.out).2.isRing').mono ?_
      rintro e w6 ⟨⟨vg, rfl, hrg⟩, hbg⟩
      obtain ⟨Ag, cg, rfl, hcg, hCg⟩ := Kd.R_reads hrg
      have N6 := Aside0.mk (N5.out.below hbg)
      have Y6 := Aside0.mk (blk_below Y5.out hbg)
      clear hrg hcg hCg hbg k5
      go_upto_region 10 with (fail)
      generalize w4.heap.size = ny at *
      have HY := Aside0.mk (fun (V : World) (h : NS w x Z V) (h2 : V.heap[ny]? = some (.cells #[.int .i64 0, .int .i64 0] 29 (0, 0))) => (show V.cell? ⟨w.heap.size + 2, k, none⟩ = some (.pointer p) ∧ V.cell? ⟨ny, 0, none⟩ = some (.int .i64 0) ∧ V.cell? ⟨ny, 1, none⟩ = some (.int .i64 0) from ⟨(HP.out V h).1, blk_cell h2 0, blk_cell h2 1⟩))
      have hS6 := HY.out w6.drew N6.out.drew Y6.out
      clear HC
      go_region_held3 (fun W' : World => W'.cell? ⟨w.heap.size + 2, k, none⟩ = some (.pointer p) ∧ W'.cell? ⟨ny, 0, none⟩ = some (.int .i64 0) ∧ W'.cell? ⟨ny, 1, none⟩ = some (.int .i64 0)) (first | assumption | go_keep)
        (first
          | (go_at_call 14; refine (window_in (HP.out _ N7.out).2.isRing' fr tt).mono ?_; rintro e w8 ⟨⟨vw, rfl, hrw⟩, hb⟩; obtain ⟨Aw, cw, rfl, _, _⟩ := Kd.R_reads hrw; simp only [winF, List.filter_nil, List.length_nil]; have N8 := Aside0.mk (N7.out.below hb); have hS8 := HY.out w8 N8.out (blk_below Y7.out hb); clear hb hrw hS7)
          | (go_at_call 11; refine (len_q (HP.out _ N6.out.drew).2).mono ?_; rintro e w7 ⟨rfl, hw⟩; have N7 := Aside0.mk (show NS w x Z w7 by rw [hw]; exact N6.out.drew); have Y7 := Aside0.mk (show w7.heap[ny]? = some (.cells #[.int .i64 0, .int .i64 0] 29 (0, 0)) by rw [hw]; exact Y6.out); have hS7 := HY.out w7 N7.out Y7.out; clear hw hS6))
      go_wp2_with fail
      go_roundw
      case rel => exact ⟨k + 1, by go_num, by omega, N8⟩
      case measure => simp [intOf]; omega
    · have hdk : decide ((k : Int) < 2) = false := decide_eq_false (by omega)
      go_wp2_with fail
      refine (awake_any wr).mono ?_
      rintro e w1 ⟨rfl, hb⟩
      have B := Aside0.mk (N.out.low.trans (hb.mono N.out.low.size))
      clear hb
      go_wp2_with fail
      go_ret
      exact ⟨rfl, B.out⟩
end Go.Proofs.Ytcaagnfhefkoiaa.Given
