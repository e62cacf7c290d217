/- What CodecNone does: the walk. -/
import Derived.Test.YtekbbpbpkekdhaaNilr
import Derived.Test.YtekbbpbpkekdhaaFails
namespace Go.Proofs.Ytekbbpbpkekdhaa.Given
open Go.RowKit Go.Proofs.Ytekbbpbpkekdhaa.Cod Go.Proofs.Ytekbbpbpkekdhaa.Ex Go.Proofs.Ytekbbpbpkekdhaa.PBase Go.Proofs.Ytekbbpbpkekdhaa.OpenS Go.Proofs.YtekbbpbpkekdhaaW.PrintWords Go.Proofs.YtekbbpbpkekdhaaW.PrintLast Go.Proofs.YtekbbpbpkekdhaaW.PrintMore
def boxC (x : S29) (A : Option Addr) (c : Nat) : Array Value := #[.int .u8 x.f0, .int .u64 x.f1, .int .i64 x.f2, .bool x.f3, .slice A x.f4.length c, .string x.f5, .int .i64 x.f6]
/-- The memory of CodecNone as the loop begins. -/
structure Five (n : Nat) (cs : Array Value) (w : World) : Prop where
  b0 : w.heap[n]? = some (.cells cs 29 (0, 0))
  b1 : w.heap[n + 1]? = some (.cells #[.slice none 0 0, .bool false] 62 (0, 0))
  b2 : w.heap[n + 2]? = some (.cells #[.pointer none, .pointer (some ⟨n + 1, 0, none⟩)] 24 (0, 0))
  b3 : w.heap[n + 3]? = some (.cells #[.slice none 0 0, .bool false, .bool false] 65 (0, 0))
  b4 : w.heap[n + 4]? = some (.cells #[.pointer none, .pointer (some ⟨n + 3, 0, none⟩)] 36 (0, 0))
theorem Five.below {n : Nat} {cs : Array Value} {w w1 : World} (h : Five n cs w) (hb : Below w.heap.size w w1) : Five n cs w1 :=
  ⟨(hb.block _ (blk_lt h.b0)).trans h.b0, (hb.block _ (blk_lt h.b1)).trans h.b1, (hb.block _ (blk_lt h.b2)).trans h.b2, (hb.block _ (blk_lt h.b3)).trans h.b3, (hb.block _ (blk_lt h.b4)).trans h.b4⟩
theorem five (w : World) (cs : Array Value) : Five w.heap.size cs (((((w.alloc (.cells cs 29)).alloc (.cells #[.slice none 0 0, .bool false] 62)).alloc (.cells #[.pointer none, .pointer (some ⟨w.heap.size + 1, 0, none⟩)] 24)).alloc (.cells #[.slice none 0 0, .bool false, .bool false] 65)).alloc (.cells #[.pointer none, .pointer (some ⟨w.heap.size + 3, 0, none⟩)] 36)) ∧ Below w.heap.size w (((((w.alloc (.cells cs 29)).alloc (.cells #[.slice none 0 0, .bool false] 62)).alloc (.cells #[.pointer none, .pointer (some ⟨w.heap.size + 1, 0, none⟩)] 24)).alloc (.cells #[.slice none 0 0, .bool false, .bool false] 65)).alloc (.cells #[.pointer none, .pointer (some ⟨w.heap.size + 3, 0, none⟩)] 36)) := by
  have key : ∀ (a b c d e : Obj) (j : Nat), j < 5 → (((((w.alloc a).alloc b).alloc c).alloc d).alloc e).heap[w.heap.size + j]? = (#[a, b, c, d, e] : Array Obj)[j]? := by
    intro a b c d e j hj
    show (((((w.heap.push a).push b).push c).push d).push e)[w.heap.size + j]? = _
    rcases (show j = 0 ∨ j = 1 ∨ j = 2 ∨ j = 3 ∨ j = 4 by omega) with rfl | rfl | rfl | rfl | rfl
    all_goals (simp only [Array.getElem?_push, Array.size_push]; repeat (first | rw [if_pos (by omega)] | rw [if_neg (by omega)]))
    all_goals rfl
  refine ⟨⟨key _ _ _ _ _ 0 (by omega), key _ _ _ _ _ 1 (by omega), key _ _ _ _ _ 2 (by omega), key _ _ _ _ _ 3 (by omega), key _ _ _ _ _ 4 (by omega)⟩, ?_⟩
  refine Below.alloc (Below.alloc (Below.alloc (Below.alloc (Below.alloc (Below.refl _ _) (Nat.le_refl _) _) ?_ _) ?_ _) ?_ _) ?_ _
  all_goals (simp only [World.size_alloc]; omega)
theorem store_factsB {W w2 : World} {n : Nat} (hx : Below W.heap.size W w2) (h : W.heap[n]? = some (.cells (zc 0) 29 (0, 0))) :
    w2.heap[n]? = some (.cells (zc 0) 29 (0, 0)) ∧ w2.cell? ⟨n, 0, none⟩ = some (.int .u8 0) ∧ w2.cell? ⟨n, 1, none⟩ = some (.int .u64 0) ∧ w2.cell? ⟨n, 2, none⟩ = some (.int .i64 0) ∧ w2.cell? ⟨n, 3, none⟩ = some (.bool false) ∧ w2.cell? ⟨n, 4, none⟩ = some (.slice none 0 0) ∧ w2.cell? ⟨n, 5, none⟩ = some (.string ⟨#[]⟩) ∧ w2.cell? ⟨n, 6, none⟩ = some (.int .i64 0) ∧ w2.frozen? ⟨n, 0, none⟩ = false ∧ w2.frozen? ⟨n, 1, none⟩ = false ∧ w2.frozen? ⟨n, 2, none⟩ = false ∧ w2.frozen? ⟨n, 3, none⟩ = false ∧ w2.frozen? ⟨n, 4, none⟩ = false ∧ w2.frozen? ⟨n, 5, none⟩ = false ∧ w2.frozen? ⟨n, 6, none⟩ = false := by
  have hz := (hx.block n (blk_lt h)).trans h
  exact ⟨hz, blk_cell hz 0, blk_cell hz 1, blk_cell hz 2, blk_cell hz 3, blk_cell hz 4, blk_cell hz 5, blk_cell hz 6, blk_frozen hz 0, blk_frozen hz 1, blk_frozen hz 2, blk_frozen hz 3, blk_frozen hz 4, blk_frozen hz 5, blk_frozen hz 6⟩
set_option maxHeartbeats 8000000 in
set_option maxRecDepth 100000 in
theorem none_few (x : S29) (A : Option Addr) (c : Nat) (w : World) (hv : wfV x) (hr : Kd.C (Kd.int .u8) w A x.f4.length x.f4) (hc : x.f4.length ≤ c) (h5 : x.f0 ≤ 5) (hL : x.f4.length ≤ 20000) (hS : x.f5.size ≤ 20000) :
    Calls Try.prog 9 #[aggS x A c] w fun e w' => e = .returned (.bool true) ∧ Below w.heap.size w w' := by
  have HV := Aside0.mk hv
  have hd1 : decide ((5 : Int) < x.f0) = false := decide_eq_false (by omega)
  have hd2 : decide ((20000 : Int) < (x.f4.length : Int)) = false := decide_eq_false (by omega)
  have hd3 : decide ((20000 : Int) < (x.f5.size : Int)) = false := decide_eq_false (by omega)
  have hk0 : 0 ≤ x.f0 := by have := hv.1; simp [wfInt, Lit.wf, IntKind.min, IntKind.max, IntKind.bits, IntKind.signed] at this; omega
  obtain ⟨hf, hb0⟩ := five w (boxC x A c)
  have HF := Aside0.mk hf
  have HB0 := Aside0.mk hb0
  clear hv hf hb0
  unfold aggS
  unfold boxC at HF HB0
  go_enter Try.func9, Try.ntmps9
  go_wp2_with fail
  generalize (((((w.alloc (.cells #[.int .u8 x.f0, .int .u64 x.f1, .int .i64 x.f2, .bool x.f3, .slice A x.f4.length c, .string x.f5, .int .i64 x.f6] 29)).alloc (.cells #[.slice none 0 0, .bool false] 62)).alloc (.cells #[.pointer none, .pointer (some ⟨w.heap.size + 1, 0, none⟩)] 24)).alloc (.cells #[.slice none 0 0, .bool false, .bool false] 65)).alloc (.cells #[.pointer none, .pointer (some ⟨w.heap.size + 3, 0, none⟩)] 36)) = w5 at *
  go_loopw [5] (fun i wr => ∃ k : Nat, i = .int .i64 k ∧ k ≤ 2 ∧ Aside0 (Five w.heap.size #[.int .u8 x.f0, .int .u64 x.f1, .int .i64 x.f2, .bool x.f3, .slice A x.f4.length c, .string x.f5, .int .i64 x.f6] wr) ∧ Aside0 (Below w.heap.size w wr)) (fun i _ => 2 - (intOf i).toNat)
  case atStart => exact ⟨0, rfl, Nat.zero_le _, HF, HB0⟩
  case round =>
    clear HF HB0
    obtain ⟨k, rfl, hk, HF, HB⟩ := hrel
    by_cases hlt : k < 2
    · obtain ⟨p, hp⟩ : ∃ p : Option Addr, p = if k = 0 then none else some ⟨w.heap.size + 1, 0, none⟩ := ⟨_, rfl⟩
      obtain ⟨q, hq⟩ : ∃ q : Option Addr, q = if k = 0 then none else some ⟨w.heap.size + 3, 0, none⟩ := ⟨_, rfl⟩
      have hpc : wr.cell? ⟨w.heap.size + 2, k, none⟩ = some (.pointer p) := by
        rw [blk_cell HF.out.b2 k, hp]
        rcases (show k = 0 ∨ k = 1 by omega) with rfl | rfl <;> rfl
      have hqc : wr.cell? ⟨w.heap.size + 4, k, none⟩ = some (.pointer q) := by
        rw [blk_cell HF.out.b4 k, hq]
        rcases (show k = 0 ∨ k = 1 by omega) with rfl | rfl <;> rfl
      have HWQ := Aside0.mk (show ∀ W, Below wr.heap.size wr W → WQ p W from fun W hW => WQ.below (w := wr) (by
        rw [hp]
        split
        · exact .inl rfl
        · exact .inr ⟨_, rfl, HF.out.b1⟩) hW)
      have HRQ := Aside0.mk (show ∀ W, Below wr.heap.size wr W → RQ q W from fun W hW => RQ.below (w := wr) (by
        rw [hq]
        split
        · exact .inl rfl
        · exact .inr ⟨_, rfl, HF.out.b3⟩) hW)
      have v0 := blk_cell HF.out.b0 0
      have v1 := blk_cell HF.out.b0 1
      have v2 := blk_cell HF.out.b0 2
      have v3 := blk_cell HF.out.b0 3
      have v4 := blk_cell HF.out.b0 4
      have v5 := blk_cell HF.out.b0 5
      have v6 := blk_cell HF.out.b0 6
      have CW := Aside0.mk (fun (W : World) (hB : Below wr.heap.size wr W) => (writeq_any p (toV x) A c W (HWQ.out W hB) (wf_ok HV.out) (show x.f4.length ≤ _ by omega) (show x.f5.size ≤ _ by omega) hk0 h5).mono (fun e w' (h : Nothing W e w') => (⟨h.1, hB.trans (h.2.mono hB.size)⟩ : e = .returned (.tuple #[]) ∧ Below wr.heap.size wr w')))
      have hWr := Aside0.mk (Below.refl wr.heap.size wr)
      clear hp hq
      go_wp2_with fail
      go_region_with (first | (go_at_call 16; refine (CW.out _ ?_).mono ?_; (repeat (first | exact hWr.out | apply below_drew)); rintro e w6 ⟨rfl, hb6⟩; have B6 := Aside0.mk hb6; clear hb6))
      all_goals (
        have F6 := Aside0.mk (HF.out.below B6.out)
        have t2 : w6.cell? ⟨w.heap.size + 2, k, none⟩ = some (.pointer p) := (Below.cell B6.out (World.block_lt_of_cell? wr _ hpc)).trans hpc
        clear v0 v1 v2 v3 v4 v5 v6
        go_wp2_with fail
        refine (out_q p w6 (HWQ.out w6 B6.out)).mono ?_
        rintro e w7 ⟨rfl, hb7⟩
        have B7 := Aside0.mk (B6.out.trans (hb7.mono B6.out.size))
        clear hb7 t2 F6 B6
        have F7 := Aside0.mk (HF.out.below B7.out)
        have t4 : w7.cell? ⟨w.heap.size + 4, k, none⟩ = some (.pointer q) := (Below.cell B7.out (World.block_lt_of_cell? wr _ hqc)).trans hqc
        have v0 := blk_cell F7.out.b0 0
        have v6 := blk_cell F7.out.b0 6
        have hba : Below w7.heap.size w7 (w7.alloc (.cells #[.int .u8 0, .int .u64 0, .int .i64 0, .bool false, .slice none 0 0, .string ⟨#[]⟩, .int .i64 0] 29)) := (Below.refl _ _).alloc (Nat.le_refl _) _
        have ta4 := (Below.cell hba (World.block_lt_of_cell? w7 _ t4)).trans t4
        have va0 := (Below.cell hba (World.block_lt_of_cell? w7 _ v0)).trans v0
        have va6 := (Below.cell hba (World.block_lt_of_cell? w7 _ v6)).trans v6
        clear hba
        have hW7 := Aside0.mk (Below.refl w7.heap.size w7)
        have CR := Aside0.mk (fun (W : World) (hB : Below w7.heap.size w7 W) => (readq_any q x.f0 x.f6 W (HRQ.out W (B7.out.trans (hB.mono B7.out.size))) hk0 h5).mono (fun e w' h => (⟨h.1, h.2, hB.trans (h.2.mono hB.size)⟩ : e = .returned (aggS (z0 x.f0) none 0) ∧ Below W.heap.size W w' ∧ Below w7.heap.size w7 w')))
        unfold aggS z0 at CR
        go_wp2_with fail
        go_region_with (first | (go_at_call 21; refine (CR.out _ ?_).mono ?_; (repeat (first | exact hW7.out | apply below_drew | apply below_alloc)); rintro e w8 ⟨rfl, hb8, hbw8⟩; have hst := store_factsB (n := w7.heap.size) hb8 (alloc_heap w7 (zc 0) 29); obtain ⟨hz2, k0, k1, k2, k3, k4, k5, k6, q0, q1, q2, q3, q4, q5, q6⟩ := hst; have Z2 := Aside0.mk hz2; clear hz2 hb8; simp only [List.length_nil]) | (go_at_call 21; refine (CR.out _ ?_).mono ?_; (repeat (first | exact hW7.out | apply below_drew | apply below_alloc)); rintro e w8 ⟨rfl, hb8, hbw8⟩; clear hb8; simp only [List.length_nil]))
        all_goals first
          | (have P1 := Aside0.mk (rv_set7 Z2.out (.int .u8 x.f0) (.int .u64 0) (.int .i64 0) (.bool false) (.slice none 0 0) (.string ⟨#[]⟩) (.int .i64 0)).1
             have P3 := Aside0.mk (hbw8.trans ((rv_set7 Z2.out (.int .u8 x.f0) (.int .u64 0) (.int .i64 0) (.bool false) (.slice none 0 0) (.string ⟨#[]⟩) (.int .i64 0)).2.below (B := w7.heap.size) (by have := hbw8.size; omega) (fun k e => e.elim (fun e => by omega) (fun e => by omega))))
             generalize (((((((w8.setCell ⟨w7.heap.size, 0, none⟩ (.int .u8 x.f0)).setCell ⟨w7.heap.size, 1, none⟩ (.int .u64 0)).setCell ⟨w7.heap.size, 2, none⟩ (.int .i64 0)).setCell ⟨w7.heap.size, 3, none⟩ (.bool false)).setCell ⟨w7.heap.size, 4, none⟩ (.slice none 0 0)).setCell ⟨w7.heap.size, 5, none⟩ (.string ⟨#[]⟩)).setCell ⟨w7.heap.size, 6, none⟩ (.int .i64 0)) = W3 at *
             have F3 := Aside0.mk (F7.out.below P3.out)
             have B3 := Aside0.mk (B7.out.trans (P3.out.mono B7.out.size))
             generalize w7.heap.size = n at *)
          | (have P1 := Aside0.mk (alloc_heap w8 #[.int .u8 x.f0, .int .u64 0, .int .i64 0, .bool false, .slice none 0 0, .string ⟨#[]⟩, .int .i64 0] 29)
             have P3 := Aside0.mk (hbw8.alloc hbw8.size (.cells #[.int .u8 x.f0, .int .u64 0, .int .i64 0, .bool false, .slice none 0 0, .string ⟨#[]⟩, .int .i64 0] 29))
             generalize (w8.alloc (.cells #[.int .u8 x.f0, .int .u64 0, .int .i64 0, .bool false, .slice none 0 0, .string ⟨#[]⟩, .int .i64 0] 29)) = W3 at *
             have F3 := Aside0.mk (F7.out.below P3.out)
             have B3 := Aside0.mk (B7.out.trans (P3.out.mono B7.out.size))
             generalize w8.heap.size = n at *)
        all_goals (
          have c00 : W3.cell? ⟨n, 0, none⟩ = some (.int .u8 x.f0) := blk_cell P1.out 0
          have c11 : W3.cell? ⟨n, 1, none⟩ = some (.int .u64 0) := blk_cell P1.out 1
          have c22 : W3.cell? ⟨n, 2, none⟩ = some (.int .i64 0) := blk_cell P1.out 2
          have c33 : W3.cell? ⟨n, 3, none⟩ = some (.bool false) := blk_cell P1.out 3
          have c44 : W3.cell? ⟨n, 4, none⟩ = some (.slice none 0 0) := blk_cell P1.out 4
          have c55 : W3.cell? ⟨n, 5, none⟩ = some (.string ⟨#[]⟩) := blk_cell P1.out 5
          have c66 : W3.cell? ⟨n, 6, none⟩ = some (.int .i64 0) := blk_cell P1.out 6
          have u0 := blk_cell F3.out.b0 0
          clear v0 v6 va0 va6 ta4 t4
          go_wp2_with fail
          refine (same_zero (w := W3) (Below.refl _ _) x.f0).mono ?_
          rintro e w9 ⟨rfl, hb9⟩
          have B9 := Aside0.mk (B3.out.trans (hb9.mono B3.out.size))
          have t9 : w9.cell? ⟨w.heap.size + 4, k, none⟩ = some (.pointer q) := (Below.cell B9.out (World.block_lt_of_cell? wr _ hqc)).trans hqc
          clear hb9
          go_wp2_with fail
          refine (err_q q w9 (HRQ.out w9 B9.out)).mono ?_
          rintro e wa ⟨rfl, rfl⟩
          go_wp2_with fail
          refine (done_q q _ (HRQ.out _ B9.out)).mono ?_
          rintro e wa ⟨rfl, rfl⟩
          go_wp2_with fail
          go_roundw
          case rel => exact ⟨k + 1, by go_num, by omega, ⟨HF.out.below B9.out⟩, ⟨HB.out.trans (B9.out.mono HB.out.size)⟩⟩
          case measure => simp [intOf]; omega))
    · obtain rfl : k = 2 := by omega
      clear hlt hk
      go_wp2_with fail
      have hwg : w.heap.size ≤ wr.heap.size := HB.out.size
      refine (new_any wr).mono ?_
      rintro e w6 ⟨rfl, h6⟩
      have HW := Aside0.mk (show WAt w6 wr.heap.size wr.heap.size (.slice none 0 0) [] by rw [h6]; exact WAt.new wr (Nat.le_refl _))
      have B6 := Aside0.mk (show Below wr.heap.size wr w6 by rw [h6]; exact (Below.refl _ _).alloc (Nat.le_refl _) _)
      clear h6
      generalize wr.heap.size = g at *
      go_wp2_with fail
      refine (uint_any g g _ [] 300 w6 HW.out (by omega) (by simp)).mono ?_
      rintro e w7 ⟨rfl, va, h7⟩
      have HA7 := Aside0.mk h7.at'
      have B7 := Aside0.mk (B6.out.trans (nil_below h7 (Nat.le_refl _) (blk_lt HW.out.blk)))
      clear h7 HW
      go_wp2_with fail
      refine (out_any g g va _ w7 HA7.out (by rw [enc_big (by omega), enc_small (by omega)]; decide)).mono ?_
      rintro e w8 ⟨v8, rfl, ho, hb⟩
      obtain ⟨A8, c8, rfl⟩ := Kd.R_slice ho
      have hl2 : ([] ++ enc 300).length = 2 := by rw [enc_big (by omega), enc_small (by omega)]; rfl
      have B8 := Aside0.mk (B7.out.trans (hb.mono (Nat.le_of_lt (blk_lt HA7.out.blk))))
      rw [hl2]
      clear ho hb HA7 B7 B6
      go_wp2_with fail
      go_ret
      exact ⟨rfl, HB.out.trans (B8.out.mono hwg)⟩
set_option maxHeartbeats 1000000 in
set_option maxRecDepth 100000 in
theorem none_much (x : S29) (A : Option Addr) (c : Nat) (w : World) (hv : wfV x) (h : ¬ (x.f0 ≤ 5 ∧ x.f4.length ≤ 20000 ∧ x.f5.size ≤ 20000)) :
    Calls Try.prog 9 #[aggS x A c] w fun e w' => e = .returned (.bool true) ∧ Below w.heap.size w w' := by
  clear hv
  unfold aggS
  by_cases h5 : x.f0 ≤ 5
  · have hd1 : decide ((5 : Int) < x.f0) = false := decide_eq_false (by omega)
    by_cases hL : x.f4.length ≤ 20000
    · have hd2 : decide ((20000 : Int) < (x.f4.length : Int)) = false := decide_eq_false (by omega)
      have hd3 : decide ((20000 : Int) < (x.f5.size : Int)) = true := decide_eq_true (by omega)
      have hB := Aside0.mk ((Below.refl w.heap.size w).alloc (Nat.le_refl _) (.cells #[.int .u8 x.f0, .int .u64 x.f1, .int .i64 x.f2, .bool x.f3, .slice A x.f4.length c, .string x.f5, .int .i64 x.f6] 29))
      clear h h5 hL
      go_enter Try.func9, Try.ntmps9
      go_wp2_with fail
      go_ret
      exact ⟨rfl, hB.out⟩
    · have hd2 : decide ((20000 : Int) < (x.f4.length : Int)) = true := decide_eq_true (by omega)
      have hB := Aside0.mk ((Below.refl w.heap.size w).alloc (Nat.le_refl _) (.cells #[.int .u8 x.f0, .int .u64 x.f1, .int .i64 x.f2, .bool x.f3, .slice A x.f4.length c, .string x.f5, .int .i64 x.f6] 29))
      clear h h5 hL
      go_enter Try.func9, Try.ntmps9
      go_wp2_with fail
      go_ret
      exact ⟨rfl, hB.out⟩
  · have hd1 : decide ((5 : Int) < x.f0) = true := decide_eq_true (by omega)
    have hB := Aside0.mk ((Below.refl w.heap.size w).alloc (Nat.le_refl _) (.cells #[.int .u8 x.f0, .int .u64 x.f1, .int .i64 x.f2, .bool x.f3, .slice A x.f4.length c, .string x.f5, .int .i64 x.f6] 29))
    clear h h5
    go_enter Try.func9, Try.ntmps9
    go_wp2_with fail
    go_ret
    exact ⟨rfl, hB.out⟩
theorem none_any (x : S29) (A : Option Addr) (c : Nat) (w : World) (hv : wfV x) (hr : Kd.C (Kd.int .u8) w A x.f4.length x.f4) (hc : x.f4.length ≤ c) :
    Calls Try.prog 9 #[aggS x A c] w fun e w' => e = .returned (.bool true) ∧ Below w.heap.size w w' := by
  by_cases h : x.f0 ≤ 5 ∧ x.f4.length ≤ 20000 ∧ x.f5.size ≤ 20000
  · exact none_few x A c w hv hr hc h.1 h.2.1 h.2.2
  · exact none_much x A c w hv h
end Go.Proofs.Ytekbbpbpkekdhaa.Given
