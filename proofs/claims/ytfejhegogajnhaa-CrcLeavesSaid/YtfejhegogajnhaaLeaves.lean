/- What CrcLeaves does: the walk. -/
import Derived.Test.YtfejhegogajnhaaGreat
import Derived.RegionTactic
namespace Go.Proofs.Ytfejhegogajnhaa.Given
open Go.RowKit Go.Proofs.Crc Go.Proofs.Ytfejhegogajnhaa.OpenS Go.Proofs.Ytfejhegogajnhaa.PBase Go.Proofs.YtfejhegogajnhaaW.PrintWords Go.Proofs.YtfejhegogajnhaaW.PrintLast
theorem isB_flat {l : List (List Int)} (h : ∀ x ∈ l, isB x) : isB l.flatten := fun y hy => by
  obtain ⟨x, hx, hy⟩ := List.mem_flatten.1 hy
  exact h x hx y hy
theorem okB_all {l : List (List Int)} (h : ∀ x ∈ l, isB x) (ht : total l ≤ 10000) : (l.all okB && decide (l.length ≤ 140737488355328)) = true := by
  simp only [Bool.and_eq_true, List.all_eq_true, decide_eq_true_eq]
  refine ⟨fun x hx => okB_of (h x hx) ?_, by unfold total at ht; omega⟩
  have : x.length ≤ l.flatten.length := by
    obtain ⟨a, b, rfl⟩ := List.append_of_mem hx
    simp; omega
  unfold total at ht; omega
set_option maxHeartbeats 400000 in
set_option maxRecDepth 100000 in
theorem leaves_great (A0 : Option Addr) (c0 : Nat) (l0 : List (List Int)) (w : World) (hr0 : Kd.C (Kd.slice 5 (Kd.int .u8)) w A0 l0.length l0) (hc0 : l0.length ≤ c0) (hs : smallL l0) (hlen : l0.length ≤ 140737488351232) (ht : 10000 < total l0) :
    Calls Try.prog 3 #[.slice A0 l0.length c0] w fun e w' => e = .returned (.bool true) ∧ Below w.heap.size w w' := by
  have hg := Great_some l0 hs (by omega)
  rw [decide_eq_true ht] at hg
  have HG := Aside0.mk hg
  have HR := Aside0.mk hr0
  clear hg hr0 hs
  go_enter Try.func3, Try.ntmps3
  go_wp2_with fail
  refine (tocsinlaw02_Great.calls _ A0 c0 l0 true w HR.out hc0 HG.out).mono ?_
  rintro e w1 ⟨rfl, hd⟩
  have HB := Aside0.mk hd.below
  clear hd
  go_wp2_with fail
  go_ret
  exact ⟨rfl, HB.out⟩
set_option maxHeartbeats 400000 in
set_option maxRecDepth 100000 in
theorem leaves_small (A0 : Option Addr) (c0 : Nat) (l0 : List (List Int)) (w : World) (hr0 : Kd.C (Kd.slice 5 (Kd.int .u8)) w A0 l0.length l0) (hc0 : l0.length ≤ c0) (hs : smallL l0) (hb : ∀ x ∈ l0, isB x) (hlen : l0.length ≤ 140737488351232) (ht : total l0 ≤ 10000) :
    Calls Try.prog 3 #[.slice A0 l0.length c0] w fun e w' => e = .returned (.bool true) ∧ Below w.heap.size w w' := by
  have hg := Great_some l0 hs (by omega)
  rw [decide_eq_false (by omega)] at hg
  have HG := Aside0.mk hg
  have HA := Aside0.mk (All_some l0 (by omega))
  have hfl : l0.flatten.length ≤ 10000 := by unfold total at ht; omega
  have HA2 := Aside0.mk (All_some [l0.flatten] (by unfold total; rw [List.flatten_cons, List.flatten_nil, List.append_nil]; show 1 + _ < _; omega))
  have HX := Aside0.mk (isB_flat hb)
  have hof : crc_Of.f l0 = some ((sum (toB l0.flatten)).toNat : Int) := by unfold crc_Of.f; rw [if_pos (okB_all hb ht)]
  have HO := Aside0.mk hof
  have e1 : [l0.flatten].flatten = l0.flatten := by simp
  rw [e1] at HA2
  have HR := Aside0.mk hr0
  have HS := Aside0.mk (sum_some (isB_flat hb) (by omega))
  clear hg hr0 hs hof e1 hb
  generalize l0.flatten = fl at *
  go_enter Try.func3, Try.ntmps3
  go_wp2_with fail
  refine (tocsinlaw02_Great.calls _ A0 c0 l0 false w HR.out hc0 HG.out).mono ?_
  rintro e w1 ⟨rfl, hd⟩
  have B1 := Aside0.mk hd.below
  clear hd HG
  go_wp2_with fail
  refine (tocsinref02_All.calls _ A0 c0 l0 fl w1 (Kd.C_below HR.out B1.out) hc0 HA.out).mono ?_
  rintro e w2 ⟨v2, rfl, ho, hb⟩
  obtain ⟨A2, c2, rfl, hc2, hr2⟩ := Kd.R_reads ho
  have R2 := Aside0.mk hr2
  have B2 := Aside0.mk (bel0 B1.out hb)
  clear ho hr2 hb B1
  go_wp2_with fail
  refine (tocsinref02_Sum.calls A2 c2 fl _ w2 R2.out hc2 HS.out).mono ?_
  rintro e w3 ⟨rfl, hb⟩
  have R3 := Aside0.mk (Kd.C_below R2.out hb)
  have B3 := Aside0.mk (bel0 B2.out hb)
  clear hb B2 R2
  go_wp2_with fail
  refine (tocsinref02_All.calls _ _ 1 [fl] fl _ (C_one w3 A2 c2 fl hc2 R3.out) (Nat.le_refl _) HA2.out).mono ?_
  rintro e w4 ⟨v4, rfl, ho, hb⟩
  obtain ⟨A4, c4, rfl, hc4, hr4⟩ := Kd.R_reads ho
  have R4 := Aside0.mk hr4
  have S4 := Aside0.mk (Kd.C_below (Kd.C_below R3.out ((Below.refl _ _).alloc (Nat.le_refl _) _)) hb)
  have B4 := Aside0.mk (bel1 B3.out hb)
  clear ho hr4 hb B3 R3
  go_wp2_with fail
  refine (crc_Of.calls A0 c0 l0 _ w4 (Kd.C_below HR.out B4.out) hc0 HO.out).mono ?_
  rintro e w5 ⟨rfl, hb⟩
  have R5 := Aside0.mk (Kd.C_below R4.out hb)
  have S5 := Aside0.mk (Kd.C_below S4.out hb)
  have B5 := Aside0.mk (bel0 B4.out hb)
  clear hb B4 R4 S4
  go_wp2_with fail
  refine (crc_Sum.calls A4 c4 fl _ w5 R5.out hc4 HS.out).mono ?_
  rintro e w6 ⟨rfl, hb⟩
  have R6 := Aside0.mk (Kd.C_below R5.out hb)
  have S6 := Aside0.mk (Kd.C_below S5.out hb)
  have B6 := Aside0.mk (bel0 B5.out hb)
  clear hb B5 R5 S5
  go_wp2_with fail
  go_loopw [6] (fun i wr => ∃ k : Nat, k ≤ fl.length ∧ i = .int .i64 k ∧ Aside0 (Drawn0 w6 wr)) (fun i _ => fl.length - (intOf i).toNat)
  case atStart => exact ⟨0, Nat.zero_le _, rfl, ⟨Drawn0.refl _⟩⟩
  case round =>
    obtain ⟨k, hk, rfl, HD⟩ := hrel
    by_cases hlt : k < fl.length
    · obtain ⟨ad, e, hcell⟩ := Kd.at_int (Kd.C_below R6.out HD.out.below) (k : Int) (by omega) (by omega)
      obtain ⟨ad2, e2, hcell2⟩ := Kd.at_int (Kd.C_below S6.out HD.out.below) (k : Int) (by omega) (by omega)
      cases e
      cases e2
      rw [Int.toNat_natCast] at hcell hcell2
      generalize rd fl (k : Int) = x at *
      go_wp2_with fail
      go_region
      go_wp2_with fail
      go_roundw
      case rel => exact ⟨k + 1, by omega, by go_num, ⟨Drawn0.step HD.out 1⟩⟩
      case measure => simp [intOf]; omega
    · obtain rfl : k = fl.length := by omega
      have R7 := Aside0.mk (Kd.C_below S6.out HD.out.below)
      have B7 := Aside0.mk (pw_below_drawn B6.out HD.out)
      clear HD R6 S6 B6
      go_wp2_with fail
      refine (tocsinref02_All.calls _ A0 c0 l0 fl _ (Kd.C_below HR.out B7.out) hc0 HA.out).mono ?_
      rintro e w8 ⟨v8, rfl, ho, hb⟩
      obtain ⟨A8, c8, rfl, hc8, hr8⟩ := Kd.R_reads ho
      have R8 := Aside0.mk hr8
      have S8 := Aside0.mk (Kd.C_below R7.out hb)
      have B8 := Aside0.mk (bel0 B7.out hb)
      clear ho hr8 hb B7 R7
      go_wp2_with fail
      go_loopw [8] (fun i wr => ∃ k : Nat, k ≤ fl.length ∧ i = .int .i64 k ∧ Aside0 (Drawn0 w8 wr)) (fun i _ => fl.length - (intOf i).toNat)
      case atStart => exact ⟨0, Nat.zero_le _, rfl, ⟨Drawn0.refl _⟩⟩
      case round =>
        obtain ⟨k, hk, rfl, HD⟩ := hrel
        by_cases hlt : k < fl.length
        · obtain ⟨ad, e, hcell⟩ := Kd.at_int (Kd.C_below R8.out HD.out.below) (k : Int) (by omega) (by omega)
          obtain ⟨ad2, e2, hcell2⟩ := Kd.at_int (Kd.C_below S8.out HD.out.below) (k : Int) (by omega) (by omega)
          cases e
          cases e2
          rw [Int.toNat_natCast] at hcell hcell2
          generalize rd fl (k : Int) = x at *
          go_wp2_with fail
          go_region
          go_wp2_with fail
          go_roundw
          case rel => exact ⟨k + 1, by omega, by go_num, ⟨Drawn0.step HD.out 1⟩⟩
          case measure => simp [intOf]; omega
        · obtain rfl : k = fl.length := by omega
          go_wp2_with fail
          go_ret
          exact ⟨rfl, pw_below_drawn B8.out HD.out⟩
theorem bytes24 : Try.prog.bytesOf 24 = 24 := by kernel_rfl
theorem bytes5 : Try.prog.bytesOf 5 = 1 := by kernel_rfl
theorem isB_ofS {n : Nat} {xs : List Int} (h : wfAll n (wfInt .u8) xs) : isB xs := fun x hx => by
  have := h.2 x hx
  simp [wfInt, Lit.wf, IntKind.min, IntKind.max, IntKind.bits, IntKind.signed] at this; omega
theorem CrcLeaves_walk (A0 : Option Addr) (c0 : Nat) (l0 : List (List Int)) (w : World) (hr0 : Kd.C (Kd.slice 5 (Kd.int .u8)) w A0 l0.length l0) (hc0 : l0.length ≤ c0) (hw : wfAll (Try.prog.bytesOf 24) (wfAll (Try.prog.bytesOf 5) (wfInt .u8)) l0) :
    Calls Try.prog 3 #[.slice A0 l0.length c0] w fun e w' => e = .returned (.bool true) ∧ Below w.heap.size w w' := by
  rw [bytes5, bytes24] at hw
  have hlen : l0.length ≤ 140737488351232 := by have := hw.1; omega
  have hs : smallL l0 := fun x hx => by have := (hw.2 x hx).1; omega
  have hb : ∀ x ∈ l0, isB x := fun x hx => isB_ofS (hw.2 x hx)
  by_cases ht : 10000 < total l0
  · exact leaves_great A0 c0 l0 w hr0 hc0 hs hlen ht
  · exact leaves_small A0 c0 l0 w hr0 hc0 hs hb hlen (by omega)
end Go.Proofs.Ytfejhegogajnhaa.Given
