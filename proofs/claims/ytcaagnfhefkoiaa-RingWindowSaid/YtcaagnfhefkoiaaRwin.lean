/- What RingWindow does: the walk. -/
import Derived.Test.YtcaagnfhefkoiaaGw
namespace Go.Proofs.Ytcaagnfhefkoiaa.Given
open Go.RowKit Go.Proofs.Ytcaagnfhefkoiaa.Rg Go.Proofs.Ytcaagnfhefkoiaa.Ex Go.Proofs.Ytcaagnfhefkoiaa.PBase Go.Proofs.Ytcaagnfhefkoiaa.OpenS Go.Proofs.YtcaagnfhefkoiaaW.PrintWords Go.Proofs.YtcaagnfhefkoiaaW.PrintLast Go.Proofs.YtcaagnfhefkoiaaW.PrintMore
set_option maxHeartbeats 4000000 in
set_option maxRecDepth 100000 in
theorem rwin_few (A0 : Option Addr) (c0 : Nat) (l0 : List SA) (fr tt : Int) (w : World) (hr0 : Kd.C kA w A0 l0.length l0) (h : l0.length ≤ 300) :
    Calls Try.prog 4 #[.slice A0 l0.length c0, .int .i64 fr, .int .i64 tt] w fun e w' => e = .returned (.bool true) ∧ Below w.heap.size w w' := by
  have HR := Aside0.mk hr0
  have hd1 : decide ((300 : Int) < (l0.length : Int)) = false := decide_eq_false (by omega)
  clear hr0
  go_enter Try.func4, Try.ntmps4
  go_wp2_with fail
  refine (new_some w).mono ?_
  rintro e w1 ⟨g, cs, rfl, hg, hr, hb⟩
  have R1 := Aside0.mk hr
  have B1 := Aside0.mk hb
  have HG := Aside0.mk hg
  clear hr hb hg
  go_wp2_with fail
  go_loopw [8] (fun i W => ∃ (k : Nat) (cs : Array Value) (first : Nat) (lr : List S29), i = .int .i64 (k : Int) ∧ k ≤ l0.length ∧ Aside0 (RAt W g cs first lr) ∧ Aside0 (Below w.heap.size w W)) (fun i _ => l0.length - (intOf i).toNat)
  case atStart => exact ⟨0, cs, 0, [], rfl, Nat.zero_le _, R1, B1⟩
  case round =>
    clear R1 B1
    obtain ⟨k, cs, first, lr, rfl, hk, R, B⟩ := hrel
    by_cases hlt : k < l0.length
    · obtain ⟨x, ad, hx, rfl, f0, f1, f2⟩ := at_act (Kd.C_below HR.out B.out) k hlt
      clear hx
      cases hxb : x.b with
      | true =>
        rw [hxb] at f0
        clear hxb
        go_wp2_with fail
        refine (expire_any R.out x.x.f0).mono ?_
        rintro e w2 ⟨j, rfl, hj, hd, ⟨cs', first', hr'⟩, hx'⟩
        have R2 := Aside0.mk hr'
        have B2 := Aside0.mk (B.out.trans (hx'.below B.out.size (fun k e => by have := HG.out; omega)))
        clear hj hd hr' hx'
        go_wp2_with fail
        go_roundw
        case rel => exact ⟨k + 1, cs', first', _, by go_num, by omega, R2, B2⟩
        case measure => simp [intOf]; omega
      | false =>
        rw [hxb] at f0
        clear hxb
        go_wp2_with fail
        refine (push_any R.out x.x).mono ?_
        rintro e w2 ⟨rfl, ⟨cs', hr'⟩, hx'⟩
        have R2 := Aside0.mk hr'
        have B2 := Aside0.mk (B.out.trans (hx'.below B.out.size (fun k e => by have := HG.out; omega)))
        clear hr' hx'
        go_wp2_with fail
        go_roundw
        case rel => exact ⟨k + 1, cs', first, _, by go_num, by omega, R2, B2⟩
        case measure => simp [intOf]; omega
    · obtain rfl : k = l0.length := by omega
      clear hlt hk HR
      go_wp2_with fail
      refine (allf_in (R.out.isRing (S := fun k => k < wr.heap.size) R.out.lt)).mono ?_
      rintro e w2 ⟨⟨vg, rfl, hrg⟩, hbg⟩
      obtain ⟨Ag, cg, rfl, hcg, hCg⟩ := Kd.R_reads hrg
      have G2 := Aside0.mk (show GW w g cs first lr Ag lr (.slice none 0 0) (winF fr tt (lr.take 0)) w2 from ⟨R.out.below hbg, hCg, Kd.R_nil _ _ _ _ (fun _ => True), (fun e => by cases e), (fun ad _ _ e => by cases e), B.out.trans (hbg.mono B.out.size)⟩)
      have CG := Aside0.mk hcg
      have hle := R.out.rb.le
      clear hrg hbg hcg hCg R B
      go_wp2_with fail
      go_loopw [12, 11] (fun i vw W => ∃ k : Nat, i = .int .i64 (k : Int) ∧ k ≤ lr.length ∧ Aside0 (GW w g cs first lr Ag lr vw (winF fr tt (lr.take k)) W)) (fun i _ _ => lr.length - (intOf i).toNat)
      case atStart => exact ⟨0, rfl, Nat.zero_le _, G2⟩
      case round =>
        clear G2
        obtain ⟨k, rfl, hk, G⟩ := hrel
        by_cases hlt : k < lr.length
        · obtain ⟨x, hx⟩ : ∃ x, lr[k]? = some x := ⟨_, List.getElem?_eq_getElem hlt⟩
          obtain ⟨ad, rfl, g0, g1⟩ := at_T29 G.out.got (k : Int) (by omega) (by omega)
          rw [rd_get hx, Int.toNat_natCast] at g0 g1
          have htk : lr.take (k + 1) = lr.take k ++ [x] := by rw [List.take_add_one, hx]; rfl
          have HTK := Aside0.mk htk
          have hwl : (winF fr tt (lr.take k)).length ≤ k := Nat.le_trans (List.length_filter_le ..) (by rw [List.length_take]; omega)
          have HWL := Aside0.mk hwl
          clear hx htk hwl
          by_cases h1 : fr < x.f0 ∧ x.f0 ≤ tt
          · have hq1 : decide (fr < x.f0) = true := decide_eq_true h1.1
            have hq2 : decide (x.f0 ≤ tt) = true := decide_eq_true h1.2
            have HF := Aside0.mk (show winF fr tt (lr.take (k + 1)) = winF fr tt (lr.take k) ++ [x] by rw [HTK.out]; unfold winF; rw [List.filter_append, List.filter_cons_of_pos (by simp; omega), List.filter_nil])
            clear h1
            go_wp2_with ((with_reducible refine gate_builtin (b := .append) (xs := #[.tmp 72, .tmp 77]) rfl ?_); at_builtin; (refine Kd.R_append k29 (w0 := w) w.heap.size rfl (.tmp 72) (.tmp 77) 36 29 (.agg #[(.int .i64 0), (.int .i64 0)]) 16 rfl Try.underlying36 info29 rfl (by decide) (by omega) _ (winF fr tt (lr.take k)) x [.int .i64 x.f0, .int .i64 x.f1] (fun _ => True) (fun _ => False) rfl rfl ?aP (fun _ hk => hk.elim) (fun _ _ => trivial) ?aO ?aB ?aS ?aL ?_; (case aP => exact k29_mkM _ _ _ x); (case aO => exact G.out.q); (case aB => exact G.out.low); (case aS => exact G.out.low.size); (case aL => have := HWL.out; omega); intro v9 w9 ho hb hg hat; have G9 := Aside0.mk (G.out.grew ho hb hg hat); clear ho hb hg hat))
            rw [← HF.out] at G9
            go_wp2_with fail
            go_roundw
            case rel => exact ⟨k + 1, by go_num, by omega, G9⟩
            case measure => simp [intOf]; omega
          · have HF := Aside0.mk (show winF fr tt (lr.take (k + 1)) = winF fr tt (lr.take k) by rw [HTK.out]; unfold winF; rw [List.filter_append, List.filter_cons_of_neg (by simp; omega), List.filter_nil, List.append_nil])
            by_cases h2 : fr < x.f0
            · have hq1 : decide (fr < x.f0) = true := decide_eq_true h2
              have hq2 : decide (x.f0 ≤ tt) = false := decide_eq_false (by omega)
              clear h1 h2
              go_wp2_with fail
              go_roundw
              case rel => exact ⟨k + 1, by go_num, by omega, by rw [HF.out]; exact G⟩
              case measure => simp [intOf]; omega
            · have hq1 : decide (fr < x.f0) = false := decide_eq_false h2
              clear h1 h2
              go_wp2_with fail
              go_roundw
              case rel => exact ⟨k + 1, by go_num, by omega, by rw [HF.out]; exact G⟩
              case measure => simp [intOf]; omega
        · obtain rfl : k = lr.length := by omega
          rw [List.take_length] at G
          have hwl : (winF fr tt lr).length ≤ 32 := Nat.le_trans (List.length_filter_le ..) hle
          obtain ⟨Aw, cw, rfl, hcw, hCw⟩ := Kd.R_reads G.out.q
          have CW := Aside0.mk (And.intro hcw hCw)
          have HWL := Aside0.mk hwl
          clear hcw hCw hwl
          go_wp2_with fail
          refine (window_in (G.out.r.isRing (S := fun k => k < wr.heap.size) G.out.r.lt) fr tt).mono ?_
          rintro e w3 ⟨⟨v3, rfl, hr3⟩, hb3⟩
          obtain ⟨A3, c3, rfl, hc3, hC3⟩ := Kd.R_reads hr3
          have W3 := Aside0.mk (And.intro hc3 hC3)
          have B3 := Aside0.mk hb3
          have L3 := Aside0.mk (G.out.low.trans (hb3.mono G.out.low.size))
          clear hr3 hb3 hc3 hC3
          go_wp2_with fail
          refine (same29 (Below.refl _ _) W3.out.2 W3.out.1 (Kd.C_below CW.out.2 B3.out) CW.out.1 (by have := HWL.out; omega)).mono ?_
          rintro e w4 ⟨rfl, hb4⟩
          have B4 := Aside0.mk (L3.out.trans (hb4.mono L3.out.size))
          clear hb4
          go_wp2_with fail
          go_ret
          exact ⟨rfl, B4.out⟩
set_option maxRecDepth 100000 in
theorem RingWindow_walk (A0 : Option Addr) (c0 : Nat) (l0 : List SA) (fr tt : Int) (w : World) (hr0 : Kd.C kA w A0 l0.length l0) (_hc0 : l0.length ≤ c0) (_hw0 : wfAll (Try.prog.bytesOf 35) wfA l0) (_h1 : wfInt .i64 fr) (_h2 : wfInt .i64 tt) :
    Calls Try.prog 4 #[.slice A0 l0.length c0, .int .i64 fr, .int .i64 tt] w fun e w' => e = .returned (.bool true) ∧ Below w.heap.size w w' := by
  by_cases h : 300 < l0.length
  · have hd1 : decide ((300 : Int) < (l0.length : Int)) = true := decide_eq_true (by omega)
    clear hr0 _hc0 _hw0 _h1 _h2
    go_enter Try.func4, Try.ntmps4
    go_wp2_with fail
    go_ret
    exact ⟨rfl, Below.refl _ _⟩
  · exact rwin_few A0 c0 l0 fr tt w hr0 (by omega)
end Go.Proofs.Ytcaagnfhefkoiaa.Given
