/- What CodecReads does: the walk. -/
import Derived.Test.YtekbbpbpkekdhaaRqe
import Derived.Deep.RegionHeld3
namespace Go.Proofs.Ytekbbpbpkekdhaa.Given
open Go.RowKit Go.Proofs.Ytekbbpbpkekdhaa.Cod Go.Proofs.Ytekbbpbpkekdhaa.Ex Go.Proofs.Ytekbbpbpkekdhaa.PBase Go.Proofs.Ytekbbpbpkekdhaa.OpenS Go.Proofs.YtekbbpbpkekdhaaW.PrintWords Go.Proofs.YtekbbpbpkekdhaaW.PrintLast Go.Proofs.YtekbbpbpkekdhaaW.PrintMore
set_option maxHeartbeats 16000000 in
set_option maxRecDepth 100000 in
theorem rds_few (A0 : Option Addr) (c0 : Nat) (l0 : List Int) (A1 : Option Addr) (c1 : Nat) (l1 : List SA) (w : World) (hr0 : Kd.C (Kd.int .u8) w A0 l0.length l0) (hc0 : l0.length ≤ c0) (hr1 : Kd.C kA w A1 l1.length l1) (hb0 : isB l0) (hv1 : ∀ x ∈ l1, wfA x)
    (h : l0.length ≤ 20000) (h2 : l1.length ≤ 300) : Calls Try.prog 4 #[.slice A0 l0.length c0, .slice A1 l1.length c1] w fun e w' => e = .returned (.bool true) ∧ Below w.heap.size w w' := by
  have HR := Aside0.mk hr0
  have HR1 := Aside0.mk hr1
  have V1 := Aside0.mk hv1
  have X0 := Aside0.mk hb0
  have hd1 : decide ((20000 : Int) < (l0.length : Int)) = false := decide_eq_false (by omega)
  have hd2 : decide ((300 : Int) < (l1.length : Int)) = false := decide_eq_false (by omega)
  clear hr0 hr1 hv1 hb0
  go_enter Try.func4, Try.ntmps4
  go_wp2_with fail
  refine (tocsinref04_Copy.calls A0 c0 l0 l0 w HR.out hc0 (copy_some l0 (by omega))).mono ?_
  rintro e w1 ⟨vm, rfl, hrm, hbm⟩
  obtain ⟨Am, cm, rfl⟩ := Kd.R_slice hrm
  have RM := Aside0.mk hrm
  have BM := Aside0.mk hbm
  clear hrm hbm
  go_wp2_with fail
  refine (over_any Am l0.length cm l0 w1 (Kd.R_reads' RM.out).2.2 (by omega)).mono ?_
  rintro e w2 ⟨b, g, A2, c2, rfl, hbb, hr, hB⟩
  have R2 := Aside0.mk hr
  have B2 := Aside0.mk hB
  have hMB := Aside0.mk (show ∀ k, (Value.slice Am l0.length cm).ownBlock = some k → k < b from fun k hk => by have := Kd.R_lt RM.out k hk; omega)
  have hWB := Aside0.mk (show w.heap.size ≤ b by have := BM.out.size; omega)
  clear hr hbb hB
  go_upto_region 5 with (fail)
  refine gen_wp (fun W => XS w b g w2.heap.size A0 c0 l0 A2 c2 l0 false 0 false W ∧ Kd.R (Kd.int .u8) 5 W w.heap.size (fun _ => True) (.slice Am l0.length cm) l0) ?_ ?_
  · have hal : Below w2.heap.size w2 (w2.alloc (.cells #[.slice A0 l0.length c0, .int .i64 0, .bool false] 40)) := (Below.refl _ _).alloc (Nat.le_refl _) _
    have hlow : Below w.heap.size w w2 := BM.out.trans (B2.out.mono BM.out.size)
    have hrl := R2.out.low
    have hrt := R2.out.lt
    refine ⟨⟨R2.out.below hal, ⟨alloc_heap _ _ _, Kd.C_below (Kd.C_below HR.out hlow) hal, hc0, Nat.zero_le _, fun ad e hn => by have := C_old HR.out ad e hn; have := hlow.size; omega⟩, hlow.trans (hal.mono hlow.size), hWB.out, by omega, by omega, fun ad e hn => C_old HR.out ad e hn⟩, Kd.R_below RM.out (B2.out.trans (hal.mono B2.out.size))⟩
  rintro W ⟨hX, hM⟩
  have XX := Aside0.mk hX
  have RM2 := Aside0.mk hM
  clear hX hM RM BM R2 B2
  generalize w2.heap.size = gq at *
  go_wp2_with fail
  go_loopw [8] (fun i W => ∃ (k : Nat) (L : List Int), i = .int .i64 k ∧ k ≤ l0.length ∧ L.length = l0.length ∧ Aside0 (XS w b g gq A0 c0 l0 A2 c2 l0 false 0 false W) ∧ Aside0 (Kd.R (Kd.int .u8) 5 W w.heap.size (fun _ => True) (.slice Am l0.length cm) L)) (fun i _ => l0.length - (intOf i).toNat)
  case atStart => exact ⟨0, l0, rfl, Nat.zero_le _, rfl, XX, RM2⟩
  case round =>
    clear XX RM2
    obtain ⟨k, L, rfl, hk, hL, X, R⟩ := hrel
    by_cases hkl : k < l0.length
    · obtain ⟨gm, cg, y, hv, hy, hg, f0, f1, hcg, hset⟩ := row_at R.out (k := k) (by omega)
      injection hv with e1 e2 e3
      clear e2
      subst e1 e3
      have HS := Aside0.mk hset
      have HL' := Aside0.mk hL
      have HG := Aside0.mk (And.intro hg (hMB.out gm rfl))
      clear hset hL hy hcg hg
      go_wp2_with fail
      go_roundw
      case rel => exact ⟨k + 1, L.set k ((y + 1) % 256), by go_num, by omega, by rw [List.length_set]; exact HL'.out, Aside0.mk (X.out.ex (S := fun j => j = gm) (Ex.setCell (S := fun j => j = gm) (p := ⟨gm, k, none⟩) (Ex.refl _ _) (fun _ => rfl) _) (fun j e => by subst e; have h1 := HG.out; have h2 := X.out.r.low; have h3 := X.out.gq'; refine ⟨h1.1, ?_, ?_, ?_⟩ <;> omega)), Aside0.mk (HS.out _)⟩
      case measure => simp [intOf]; omega
    · obtain rfl : k = l0.length := by omega
      clear hL R hMB
      go_wp2_with fail
      go_loopw [9] (fun i W => ∃ (k : Nat) (f : Bool) (A1 : Option Addr) (c1 : Nat) (xs : List Int) (a : Nat), i = .int .i64 k ∧ k ≤ l1.length ∧ Aside0 (XS w b g gq A0 c0 l0 A1 c1 xs f a f W) ∧ Aside0 (f = false → xs = l0.drop a)) (fun i _ => l1.length - (intOf i).toNat)
      case atStart => exact ⟨0, false, A2, c2, l0, 0, rfl, Nat.zero_le _, X, ⟨fun _ => rfl⟩⟩
      case round =>
        clear X
        obtain ⟨k, f, Ax, cx, xs, a, rfl, hk, X, E⟩ := hrel
        by_cases hlt : k < l1.length
        · obtain ⟨x, ad, hx, rfl, f0, f1⟩ := at_ask (Kd.C_below HR1.out X.out.low) k hlt
          have HWX := Aside0.mk (V1.out x (List.mem_of_getElem? hx))
          have HXK := Aside0.mk hx
          clear hx
          by_cases h5 : 5 < x.f0
          · have hd5 : decide (5 < x.f0) = true := decide_eq_true h5
            go_wp2_with fail
            go_roundw
            case rel => exact ⟨k + 1, f, Ax, cx, xs, a, by go_num, by omega, X, E⟩
            case measure => simp [intOf]; omega
          · have hd5 : decide (5 < x.f0) = false := decide_eq_false h5
            go_wp2_with fail
            have hk0 : 0 ≤ x.f0 := by have := HWX.out.1; simp [wfInt, Lit.wf, IntKind.min, IntKind.max, IntKind.bits, IntKind.signed] at this; omega
            have hm1 : x.f1 ≤ 9223372036854775807 := by have := HWX.out.2; simp [wfInt, Lit.wf, IntKind.min, IntKind.max, IntKind.bits, IntKind.signed] at this; omega
            have HK := Aside0.mk (And.intro hk0 (And.intro (show x.f0 ≤ 5 by omega) hm1))
            have CALL := Aside0.mk (fun (W : World) (hB : Below wr.heap.size wr W) => (read_any b g Ax cx xs f x.f0 x.f1 W (X.out.r.below hB) (fun hf => by rw [E.out hf]; exact isB_drop X0.out a) hk0 (by omega) hm1).mono (fun e w' h => DP.of h))
            clear hk0 hm1
            have hWr := Aside0.mk (Below.refl wr.heap.size wr)
            have hba : Below wr.heap.size wr (wr.alloc (.cells #[.int .u8 0, .int .u64 0, .int .i64 0, .bool false, .slice none 0 0, .string ⟨#[]⟩, .int .i64 0] 29)) := (Below.refl _ _).alloc (Nat.le_refl _) _
            have fa0 := (Below.cell hba (World.block_lt_of_cell? wr _ f0)).trans f0
            have fa1 := (Below.cell hba (World.block_lt_of_cell? wr _ f1)).trans f1
            clear hba
            have hne9 : wr.heap.size ≠ g := by have := X.out.r.lt; omega
            have HGN := Aside0.mk X.out.q.lt
            go_region_with (first | (go_at_call 21; refine (CALL.out _ ?_).mono ?_; (repeat (first | exact hWr.out | apply below_drew | apply below_alloc)); rintro e w2 ⟨y, A4, c4, r2, f2, A5, c5, rfl, hq, hd⟩; have HQ := Aside0.mk hq; have hst := store_facts (n := wr.heap.size) hd.ex (alloc_heap wr (zc 0) 29) hne9; obtain ⟨hz2, k0, k1, k2, k3, k4, k5, k6, q0, q1, q2, q3, q4, q5, q6⟩ := hst; have H3 := Aside0.mk (BS.of_set X.out (by (repeat (first | exact hWr.out | apply below_drew | apply below_alloc))) hd HGN.out hz2); clear hz2 hq hd; simp only [aggS]) | (go_at_call 21; refine (CALL.out _ ?_).mono ?_; (repeat (first | exact hWr.out | apply below_drew | apply below_alloc)); rintro e w2 ⟨y, A4, c4, r2, f2, A5, c5, rfl, hq, hd⟩; have HQ := Aside0.mk hq; have H3 := Aside0.mk (BS.of_new X.out (by (repeat (first | exact hWr.out | apply below_drew | apply below_alloc))) hd); clear hq hd; simp only [aggS]))
            all_goals (
              go_upto_region 14 with (fail)
              first
                | (refine gen_wp (fun V => BS w b g gq A0 c0 l0 A5 c5 r2 f2 a f wr.heap.size y A4 c4 y.f4.length y.f4 V) H3.out ?_; generalize wr.heap.size = n at *)
                | (refine gen_wp (fun V => BS w b g gq A0 c0 l0 A5 c5 r2 f2 a f w2.heap.size y A4 c4 y.f4.length y.f4 V) H3.out ?_; generalize w2.heap.size = n at *)
              intro V hV
              have H4 := Aside0.mk hV
              clear hV H3 CALL hWr fa0 fa1 f0 f1 hne9 HGN
              try clear k0 k1 k2 k3 k4 k5 k6 q0 q1 q2 q3 q4 q5 q6
              have HYL := Aside0.mk (deq_len X0.out h HQ.out E.out HK.out.1 HK.out.2.1 HK.out.2.2)
              have hS0 := H4.out.drew.cells HR1.out hlt HXK.out
              obtain ⟨ev, hev⟩ : ∃ ev : Int, (if f2 = true then (60 : Int) else 0) = ev := ⟨_, rfl⟩
              have HEV := Aside0.mk hev
              obtain ⟨dv, hdv⟩ : ∃ dv : Int, (if f2 = true ∨ 0 < r2.length then (60 : Int) else 0) = dv := ⟨_, rfl⟩
              have HDV := Aside0.mk hdv
              clear hev hdv
              go_region_held3 (fun W' : World => W'.cell? (ad.add (k * 2)) = some (.int .u8 x.f0) ∧ W'.cell? ⟨(ad.add (k * 2)).block, (ad.add (k * 2)).off + 1, none⟩ = some (.int .i64 x.f1) ∧ W'.cell? ⟨n, 0, none⟩ = some (.int .u8 y.f0) ∧ W'.cell? ⟨n, 1, none⟩ = some (.int .u64 y.f1) ∧ W'.cell? ⟨n, 2, none⟩ = some (.int .i64 y.f2) ∧ W'.cell? ⟨n, 3, none⟩ = some (.bool y.f3) ∧ W'.cell? ⟨n, 4, none⟩ = some (.slice A4 y.f4.length c4) ∧ W'.cell? ⟨n, 5, none⟩ = some (.string y.f5) ∧ W'.cell? ⟨n, 6, none⟩ = some (.int .i64 y.f6)) (first | assumption | go_keep)
                (first
                  | (go_at_call 27; refine (H9.out.done27 HDV.out R6.out).mono ?_; rintro e w8 ⟨rfl, h10⟩; have H10 := Aside0.mk h10; have hS6 := h10.cells HR1.out hlt HXK.out; clear h10 hS5)
                  | (go_at_call 26; refine (H8.out.done26 HDV.out).mono ?_; rintro e w7 ⟨rfl, h9⟩; have H9 := Aside0.mk h9; have hS5 := h9.cells HR1.out hlt HXK.out; clear h9 hS4)
                  | (go_at_call 25; refine (H7.out.err25 HEV.out).mono ?_; rintro e w6 ⟨rfl, h8⟩; have H8 := Aside0.mk h8; have hS4 := h8.cells HR1.out hlt HXK.out; clear h8 hS3)
                  | (go_at_call 24; refine (H6.out.err24 HEV.out).mono ?_; rintro e w5 ⟨rfl, h7⟩; have H7 := Aside0.mk h7; have hS3 := h7.cells HR1.out hlt HXK.out; clear h7 hS2)
                  | (go_at_call 22; refine (H5.out.same HYL.out C6.out.1 C6.out.2).mono ?_; rintro e w4 ⟨rfl, h6⟩; have H6 := Aside0.mk h6; have hS2 := h6.cells HR1.out hlt HXK.out; clear h6 hS1)
                  | (go_at_call 23; refine (H4.out.drew.rd X0.out h HQ.out E.out HK.out.1 HK.out.2.1 HK.out.2.2).mono ?_; rintro e w3 ⟨A6, c6, a', rfl, h5, hc6, hC6, hr6⟩; simp only [aggS]; have C6 := Aside0.mk (And.intro hc6 hC6); have R6 := Aside0.mk hr6; clear hc6 hC6 hr6; have H5 := Aside0.mk h5; have hS1 := h5.cells HR1.out hlt HXK.out; clear h5 hS0))
              all_goals (
                clear hS6 HEV HDV C6 HQ HXK
                go_wp2_with fail
                go_loopw [11] (fun j W => ∃ (m : Nat) (L : List Int), j = .int .i64 (m : Int) ∧ m ≤ y.f4.length ∧ Aside0 (BS w b g gq A0 c0 l0 A5 c5 r2 f2 a' f2 n y A4 c4 y.f4.length L W)) (fun j _ => y.f4.length - (intOf j).toNat)
                case atStart => exact ⟨0, _, rfl, Nat.zero_le _, H10⟩
                case round =>
                  clear H4 H5 H6 H7 H8 H9 H10
                  obtain ⟨m, L, rfl, hm, H⟩ := hrel
                  have z4 := blk_cell H.out.box 4
                  by_cases hml : m < y.f4.length
                  · obtain ⟨ad4, x4, rfl, g0, g1, hx4, hset⟩ := H.out.at' hml
                    have HS := Aside0.mk hset
                    have hl62 := HYL.out
                    clear hset hx4
                    go_wp2_with fail
                    go_roundw
                    case rel => exact ⟨m + 1, _, by go_num, by omega, Aside0.mk (HS.out _)⟩
                    case measure => simp [intOf]; omega
                  · obtain rfl : m = y.f4.length := by omega
                    go_wp2_with fail
                    go_roundw
                    case rel => exact ⟨k + 1, f2, A5, c5, r2, a', by go_num, by omega, Aside0.mk H.out.x, R6⟩
                    case measure => simp [intOf]; omega))
        · obtain rfl : k = l1.length := by omega
          clear hlt hk
          go_wp2_with fail
          obtain ⟨dv, hdv⟩ : ∃ dv : Int, (if f = true ∨ 0 < xs.length then (60 : Int) else 0) = dv := ⟨_, rfl⟩
          have HD := Aside0.mk hdv
          clear hdv
          refine (X.out.done26 HD.out).mono ?_
          rintro e w3 ⟨rfl, h3⟩
          have X3 := Aside0.mk h3
          clear h3
          go_wp2_with fail
          refine (X3.out.done27 HD.out E.out).mono ?_
          rintro e w4 ⟨rfl, h4⟩
          have B4 := Aside0.mk h4
          clear h4
          go_wp2_with fail
          go_ret
          exact ⟨by simp, B4.out⟩
set_option maxHeartbeats 1000000 in
set_option maxRecDepth 100000 in
theorem rds_many (A0 : Option Addr) (c0 : Nat) (l0 : List Int) (A1 : Option Addr) (c1 : Nat) (l1 : List SA) (w : World)
    (h : 20000 < l0.length ∨ 300 < l1.length) : Calls Try.prog 4 #[.slice A0 l0.length c0, .slice A1 l1.length c1] w fun e w' => e = .returned (.bool true) ∧ Below w.heap.size w w' := by
  by_cases h0 : 20000 < l0.length
  · have hd1 : decide ((20000 : Int) < (l0.length : Int)) = true := decide_eq_true (by omega)
    go_enter Try.func4, Try.ntmps4
    go_wp2_with fail
    go_ret
    exact ⟨rfl, Below.refl _ _⟩
  · have hd1 : decide ((20000 : Int) < (l0.length : Int)) = false := decide_eq_false (by omega)
    have hd2 : decide ((300 : Int) < (l1.length : Int)) = true := decide_eq_true (by omega)
    go_enter Try.func4, Try.ntmps4
    go_wp2_with fail
    go_ret
    exact ⟨rfl, Below.refl _ _⟩
theorem CodecReads_walk (A0 : Option Addr) (c0 : Nat) (l0 : List Int) (A1 : Option Addr) (c1 : Nat) (l1 : List SA) (w : World) (hr0 : Kd.C (Kd.int .u8) w A0 l0.length l0) (hc0 : l0.length ≤ c0) (hw0 : wfAll (Try.prog.bytesOf 5) (wfInt .u8) l0) (hr1 : Kd.C kA w A1 l1.length l1) (_hc1 : l1.length ≤ c1) (hw1 : wfAll (Try.prog.bytesOf 42) wfA l1) :
    Calls Try.prog 4 #[.slice A0 l0.length c0, .slice A1 l1.length c1] w fun e w' => e = .returned (.bool true) ∧ Below w.heap.size w w' := by
  by_cases h : 20000 < l0.length ∨ 300 < l1.length
  · exact rds_many A0 c0 l0 A1 c1 l1 w h
  · exact rds_few A0 c0 l0 A1 c1 l1 w hr0 hc0 hr1 (wfAll_isB hw0) hw1.2 (by omega) (by omega)
end Go.Proofs.Ytekbbpbpkekdhaa.Given
