/- What frame's each and Whole do: the walks. -/
import Derived.RangeFuncNested
import Derived.RangeFuncBound
import Derived.RangeFuncCalls
import Derived.RangeFuncLeaves
import Derived.RangeFuncFrom
import Derived.Shelf.Abstract
import Derived.Shelf.RegionOpen
import Derived.WalkKit
import Derived.OwnWalkIn
import Derived.TacticsInMore
import Derived.LoopNIn
import Derived.LoopIn
import Derived.Outline
import Derived.Test.YtcobdpkpefgdlaaNx
namespace Go.Proofs.Ytcobdpkpefgdlaa.Given
open Go.RowKit Go.Shelf Go.Proofs.Ytcobdpkpefgdlaa.Cod Go.Proofs.Ytcobdpkpefgdlaa.Ex Go.Proofs.Ytcobdpkpefgdlaa.Pure Go.Proofs.Ytcobdpkpefgdlaa.Nx Go.Proofs.YtcobdpkpefgdlaaW.PrintWords Go.Proofs.YtcobdpkpefgdlaaW.PrintLast
attribute [local go_sem] Oper.semAt_some
set_option maxHeartbeats 400000 in
theorem each_any (A : Option Addr) (n c : Nat) (w : World) : Calls Try.prog 33 #[.slice A n c] w fun e w' => e = .returned (.func (.func 38) #[] #[.pointer (some ⟨w.heap.size, 0, none⟩)]) ∧ w' = w.alloc (.cells #[.slice A n c] 22) := by
  go_enter Try.func33, Try.ntmps33
  go_wp2_with fail
  go_ret
  exact ⟨rfl, rfl⟩
/-- Blocks that stay. -/
def Stay (S : Nat → Prop) (w w' : World) : Prop := ∀ k, S k → w'.heap[k]? = w.heap[k]?
theorem Stay.trans {S : Nat → Prop} {A B C : World} (h : Stay S A B) (k : Stay S B C) : Stay S A C := fun i hi => (k i hi).trans (h i hi)
theorem C_blk {w w' : World} {A : Option Addr} {n : Nat} {xs : List Int} (h : Kd.C (Kd.int .u8) w A n xs) (hA : ∀ ad, A = some ad → 0 < n → w'.heap[ad.block]? = w.heap[ad.block]?) : Kd.C (Kd.int .u8) w' A n xs := by
  refine ⟨h.1, h.2.1, fun hn => ?_⟩
  obtain ⟨ad, e, hc⟩ := h.2.2 hn
  refine ⟨ad, e, fun j p hj => ?_⟩
  obtain ⟨c, hs, hr, hcell⟩ := hc j p hj
  refine ⟨c, hs, hr, fun i u hu => ?_⟩
  have h1 := hcell i u hu
  have hb : (ad.add (j * (Kd.int .u8).sz + i)).block = ad.block := by unfold Addr.add; split <;> rfl
  exact (World.cell?_of_block (by rw [hb]; exact hA ad e hn)).trans h1
def lastAt (l : List (Value × Nat)) : Nat := match l.getLast? with | none => 0 | some x => x.2
theorem lastAt_snoc (l : List (Value × Nat)) (x : Value × Nat) : lastAt (l ++ [x]) = x.2 := by unfold lastAt; rw [List.getLast?_concat]
theorem grown_of_below {w w' : World} (h : Below w.heap.size w w') : w.grownBy w' none := ⟨h.os, h.tape, h.output, h.size, fun k hk _ => h.block k hk⟩
def encs2 (x : Value × Nat) : Array Value := #[x.1, .int .i64 x.2]
theorem wholeL_step {b : List Int} (hb : isB b) {p : List Int} {m : Nat} (h : nextL b = some (p, m)) : wholeL b = m + wholeL (b.drop m) ∧ m ≤ b.length ∧ 5 ≤ m := by
  obtain ⟨r, hbr, hm, hp⟩ := nextL_some hb h
  have hfb : isB (frameL p) := fun y hy => hb y (by rw [hbr]; exact List.mem_append_left _ hy)
  have hpB : isB p := fun y hy => hfb y (by unfold frameL; exact List.mem_append_left _ (List.mem_append_right _ hy))
  have hrB : isB r := fun y hy => hb y (by rw [hbr]; exact List.mem_append_right _ hy)
  have h1 := (wholeL_frame (p := p) (r := r) hpB hrB hp).1
  refine ⟨?_, ?_, by rw [hm]; exact frameL_pos p⟩
  · rw [hbr, h1, hm, List.drop_left]
  · rw [hbr, List.length_append]; omega
set_option maxHeartbeats 1000000 in
set_option maxRecDepth 100000 in
theorem each_stops (A : Option Addr) (c : Nat) (xs : List Int) (hx : isB xs) (hl : xs.length ≤ 1000000) (hc : xs.length ≤ c) (Bn : Nat) (S : Nat → Prop) (w : World) (hBn : w.heap[Bn]? = some (.cells #[.slice A xs.length c] 22 (0, 0))) (hS : S Bn) (hr : Kd.C (Kd.int .u8) w A xs.length xs) (hA : ∀ ad, A = some ad → 0 < xs.length → S ad.block) (hSl : ∀ k, S k → k < w.heap.size) :
    SeqStopsK Fence.wide 101 Try.prog 38 #[.pointer (some ⟨Bn, 0, none⟩)] encs2 (Stay S) (fun l => lastAt l = wholeL xs) (fun _ => True) (xs.length + 1) w := fun l J Jx W hW hJ hJx hY h0 => by
  have hstay0 : Stay S w W := fun k hk => hW.block k (hSl k hk)
  obtain ⟨i0, hi, _, hsz, _⟩ := info_parts info5
  have HI := Aside0.mk hi
  have HSZ := Aside0.mk hsz
  have HY := Aside0.mk hY
  have HJ := Aside0.mk hJ
  have HX := Aside0.mk hx
  have HA := Aside0.mk hA
  have HSl := Aside0.mk hSl
  have HR := Aside0.mk hr
  have HBn := Aside0.mk hBn
  have HS := Aside0.mk hS
  clear hi hsz hY hJ hJx hx hA hSl hr hBn hS hW
  refine callsIn_of_wp Try.func38 rfl trivial ?_ rfl
  simp only [Try.ntmps38, List.size_toArray, List.length_cons, List.length_nil, Nat.reduceAdd, Nat.reduceSub, Array.replicate_succ, Array.replicate_zero, List.push_toArray, List.append_toArray, List.nil_append, List.cons_append]
  gi_wp2
  gi_loopw [3] (fun p wr => ∃ (pre : List (Value × Nat)) (a : Nat), p = .int .i64 (a : Int) ∧ a ≤ xs.length ∧ Aside0 (pre.length ≤ a ∧ lastAt pre = a ∧ wholeL xs = a + wholeL (xs.drop a)) ∧ Aside0 (J pre wr) ∧ Aside0 (Stay S w wr)) (fun p _ => xs.length - (intOf p).toNat)
  case atStart => exact ⟨[], 0, rfl, Nat.zero_le _, ⟨⟨Nat.le_refl _, rfl, by simp⟩⟩, ⟨h0⟩, ⟨hstay0⟩⟩
  case round =>
    clear hstay0 h0
    obtain ⟨pre, a, rfl, ha, HP, HJ0, HSt⟩ := hrel
    have c1 : wr.cell? ⟨Bn, 0, none⟩ = some (.slice A xs.length c) := blk_cell ((HSt.out Bn HS.out).trans HBn.out) 0
    obtain ⟨A', hA'⟩ : ∃ A', A' = (if c = a then A else A.map (·.add (a * 1))) := ⟨_, rfl⟩
    have hcut := cut_from (P := Try.prog) 22 5 .i64 Try.underlying22 HI.out 1 HSZ.out A xs.length c (a : Int) (by omega) (by omega) wr
    rw [Int.toNat_natCast, ← hA'] at hcut
    have hCw : Kd.C (Kd.int .u8) wr A xs.length xs := C_blk HR.out (fun ad e hn => HSt.out _ (HA.out ad e hn))
    have hrow := Kd.C_drop (c := c) hCw ha hc
    rw [show a * (Kd.int .u8).sz = a * 1 from rfl, ← hA', show (xs.drop a).length = xs.length - a from List.length_drop] at hrow
    have hok : okB (xs.drop a) = true := okB_of (isB_drop HX.out a) (by rw [List.length_drop]; omega)
    have HROW := Aside0.mk hrow
    have HOK := Aside0.mk hok
    have HD := Aside0.mk (show (xs.drop a).length = xs.length - a from List.length_drop)
    have HcL := Aside0.mk (show xs.length - a ≤ c - a by omega)
    clear hrow hok hCw hA'
    cases hn : nextL (xs.drop a) with
    | none =>
      have hf : frame_Next.f (xs.drop a) = some ([], 0, 40) := by
        unfold frame_Next.f; rw [if_pos ⟨HOK.out, by rw [List.length_drop]; omega⟩, hn]; rfl
      have HF := Aside0.mk hf
      have HN := Aside0.mk hn
      clear hf hn
      gi_wp2
      refine ⟨trivial, callsIn_wide.2 ?_⟩
      rw [← HD.out] at HROW HcL ⊢
      refine (frame_Next.calls A' (c - a) (xs.drop a) _ _ _ wr HROW.out HcL.out HF.out).mono ?_
      rintro e w1 ⟨v1, rfl, ho, hb⟩
      have HJ1 := Aside0.mk (HJ.out pre wr w1 none HJ0.out (grown_of_below hb) (fun r e => by cases e))
      clear ho hb
      gi_wp2
      refine ⟨fun _ h => (by cases h), ?_⟩
      gi_wp2
      refine bodyPost_ret (results_none rfl _ _ _) rfl ?_
      refine ⟨⟨_, rfl⟩, .inl ⟨pre, ?_, HJ1.out⟩⟩
      rw [HP.out.2.1, HP.out.2.2, (wholeL_none HN.out).1]; rfl
    | some q =>
      obtain ⟨q, m⟩ := q
      have hf : frame_Next.f (xs.drop a) = some (q, (m : Int), 0) := by
        unfold frame_Next.f; rw [if_pos ⟨HOK.out, by rw [List.length_drop]; omega⟩, hn]; rfl
      obtain ⟨hst, hml, h5⟩ := wholeL_step (isB_drop HX.out a) hn
      rw [List.length_drop] at hml
      have HF := Aside0.mk hf
      have HST := Aside0.mk hst
      clear hf hn hst
      gi_wp2
      refine ⟨trivial, callsIn_wide.2 ?_⟩
      rw [← HD.out] at HROW HcL ⊢
      refine (frame_Next.calls A' (c - a) (xs.drop a) _ _ _ wr HROW.out HcL.out HF.out).mono ?_
      rintro e w1 ⟨v1, rfl, ho, hb⟩
      have HJ1 := Aside0.mk (HJ.out pre wr w1 none HJ0.out (grown_of_below hb) (fun r e => by cases e))
      have HB1 := Aside0.mk hb
      obtain ⟨A1, c1, rfl⟩ := Kd.R_slice ho
      clear ho hb
      obtain ⟨fn, tmps, assign, body, hy, hR⟩ := HY.out pre (.slice A1 q.length c1, a + m) w1 HJ1.out (by have := HP.out.1; omega)
      dsimp only [encs2] at hy
      have ham : ((a + m : Nat) : Int) = (a : Int) + (m : Int) := by omega
      rw [ham] at hy
      have HR1 := Aside0.mk hR
      clear hR
      gi_wp2
      refine HR1.out.mono ?_
      rintro e W3 (⟨rfl, hJ3, hk3⟩ | ⟨rfl, hJx3⟩)
      · have HJ3 := Aside0.mk hJ3
        have HK3 := Aside0.mk hk3
        clear hJ3 hk3
        gi_wp2
        go_roundw
        case rel => exact ⟨pre ++ [(.slice A1 q.length c1, a + m)], a + m, by go_num, by omega, ⟨⟨by have := HP.out.1; rw [List.length_append]; simp; omega, lastAt_snoc _ _, by rw [HP.out.2.2, HST.out, List.drop_drop]; omega⟩⟩, HJ3, ⟨(HSt.out.trans (fun k hk => HB1.out.block k (heap_lt (HSt.out k hk) (HSl.out k hk)))).trans HK3.out⟩⟩
        case measure => simp [intOf]; omega
      · have HJ3 := Aside0.mk hJx3
        clear hJx3
        gi_wp2
        refine bodyPost_ret (results_none rfl _ _ _) rfl ?_
        exact ⟨⟨_, rfl⟩, .inr ⟨_, trivial, HJ3.out⟩⟩
set_option maxRecDepth 100000 in
set_option maxHeartbeats 2000000 in
theorem whole_in (A : Option Addr) (c : Nat) (xs : List Int) (hx : isB xs) (hl : xs.length ≤ 1000000) (hc : xs.length ≤ c) (w : World) (hr : Kd.C (Kd.int .u8) w A xs.length xs) :
    Calls Try.prog 20 #[.slice A xs.length c] w fun e w' => e = .returned (.int .i64 (wholeL xs : Int)) ∧ Below w.heap.size w w' := by
  refine (callsIn_wide (n := 102)).1 ?_
  refine callsIn_of_wp_marks Try.func20 rfl trivial ?_ rfl
  simp only [Try.ntmps20, List.size_toArray, List.length_cons, List.length_nil, Nat.reduceAdd, Nat.reduceSub, Array.replicate_succ, Array.replicate_zero, List.push_toArray, List.append_toArray, List.nil_append, List.cons_append]
  gi_wp2_with (refine ⟨trivial, ?_⟩; gi_at_call 33; refine (callsIn_wide.2 (each_any _ _ _ _)).mono ?_; rintro e w' ⟨rfl, rfl⟩)
  have hz1 : (w.alloc (.cells #[.int .i64 0] 3)).heap.size = w.heap.size + 1 := World.size_alloc ..
  have hz2 : ((w.alloc (.cells #[.int .i64 0] 3)).alloc (.cells #[.slice A xs.length c] 22)).heap.size = w.heap.size + 2 := by rw [World.size_alloc, hz1]
  have hB0 : Below w.heap.size w ((w.alloc (.cells #[.int .i64 0] 3)).alloc (.cells #[.slice A xs.length c] 22)) := ((Below.refl _ w).alloc (Nat.le_refl _) _).alloc (by simp) _
  have hbn : ((w.alloc (.cells #[.int .i64 0] 3)).alloc (.cells #[.slice A xs.length c] 22)).heap[w.heap.size + 1]? = some (.cells #[.slice A xs.length c] 22 (0, 0)) := by
    show ((w.alloc (.cells #[.int .i64 0] 3)).heap.push _)[w.heap.size + 1]? = _
    rw [← hz1, Array.getElem?_push_size]
  have hb0 : ((w.alloc (.cells #[.int .i64 0] 3)).alloc (.cells #[.slice A xs.length c] 22)).heap[w.heap.size]? = some (.cells #[.int .i64 0] 3 (0, 0)) := by
    show ((w.alloc (.cells #[.int .i64 0] 3)).heap.push _)[w.heap.size]? = _
    rw [Array.getElem?_push, if_neg (by rw [hz1]; omega)]
    show (w.heap.push _)[w.heap.size]? = _
    rw [Array.getElem?_push_size]
  refine wpIn_rangeFunc_ownF rfl (by decide) (gf := 38) (lb := #[.pointer (some ⟨w.heap.size + 1, 0, none⟩)]) rfl trivial (enters_of Try.func38 (by kernel_rfl) rfl)
    (each_stops A c xs hx hl hc (w.heap.size + 1) (fun k => k < w.heap.size + 2 ∧ k ≠ w.heap.size) _ hbn ⟨by omega, by omega⟩ (Kd.C_below hr hB0) (fun ad e hn => by have := C_old hr ad e hn; omega) (fun k hk => by rw [hz2]; exact hk.1)) Stay.trans
    (fun W l o o' hll hW _ _ k hk => World.putObj_heap_other (by rw [hz2] at hll; omega)) (Below.refl _ _) (fun _ => rfl)
    (fun pre W => (W.cell? ⟨w.heap.size, 0, none⟩ = some (.int .i64 (lastAt pre : Int)) ∧ W.frozen? ⟨w.heap.size, 0, none⟩ = false) ∧ Below w.heap.size w W)
    (fun _ _ _ => False)
    (OwnFrom.and (Own.from (fun s A B row hs hg hr => ⟨cell_kept hs.1 hg hr, (frozen_kept hs.1 hg hr).trans hs.2⟩) _) (ownFrom_below (Nat.le_refl _) (by rw [hz2]; omega)))
    (fun _ _ _ _ _ hs _ _ => hs)
    ⟨⟨blk_cell hb0 0, blk_frozen hb0 0⟩, hB0⟩
    (fun x => { tmps := #[.slice A xs.length c, undef, .int .i64 0, .pointer (some ⟨w.heap.size, 0, none⟩), undef, .int .i64 (x.2 : Int), .slice A xs.length c, .func (.func 38) #[] #[.pointer (some ⟨w.heap.size + 1, 0, none⟩)], x.1, .int .i64 (x.2 : Int), undef, undef], defers := [] }) ?assign ?body ?done ?stop
  case assign =>
    intro l x W K hK
    dsimp only [encs2]
    gi_wp2
    exact hK
  case body =>
    rintro l pre x W ⟨⟨hc, hf⟩, hB⟩ _
    gi_wp2
    exact ⟨KeepsOthers.setCell _ _ _, fun k hk => Below.heap_setCell W ⟨w.heap.size, 0, none⟩ _ k hk.2, ⟨by rw [lastAt_snoc]; exact World.cell?_setCell_same' _ _ _ (by rw [hc]; rfl), by rw [World.frozen?_setCell]; exact hf⟩, hB.setCell (p := ⟨w.heap.size, 0, none⟩) (Nat.le_refl _) _⟩
  case done =>
    rintro D ys W hD hlast ⟨⟨hc, _⟩, hB⟩ hK
    rw [hlast] at hc
    gi_wp2
    refine ⟨by simp, .inl ⟨_, _, rfl, run_takeDeferred hK, ?_⟩⟩
    exact ⟨_, results_tmp rfl _ _ _, rfl, hB.trans (belowK_b (w := w) (Nat.le_refl _) W D _ _ (by rw [hz2] at hD; omega) hK rfl rfl)⟩
  case stop =>
    rintro D c pre W _ _ h _
    exact h.elim
end Go.Proofs.Ytcobdpkpefgdlaa.Given
