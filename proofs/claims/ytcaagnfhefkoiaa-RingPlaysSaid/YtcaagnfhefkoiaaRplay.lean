/- What RingPlays does: the walk. -/
import Derived.Test.YtcaagnfhefkoiaaTk
namespace Go.Proofs.Ytcaagnfhefkoiaa.Given
open Go.RowKit Go.Proofs.Ytcaagnfhefkoiaa.Rg Go.Proofs.Ytcaagnfhefkoiaa.Ex Go.Proofs.Ytcaagnfhefkoiaa.PBase Go.Proofs.Ytcaagnfhefkoiaa.OpenS Go.Proofs.YtcaagnfhefkoiaaW.PrintWords Go.Proofs.YtcaagnfhefkoiaaW.PrintLast Go.Proofs.YtcaagnfhefkoiaaW.PrintMore
attribute [local go_sem high] eqA29
set_option maxHeartbeats 100000000 in
set_option maxRecDepth 100000 in
theorem rplay_few (A0 : Option Addr) (c0 : Nat) (l0 : List SA) (fr tt : Int) (w : World) (hr0 : Kd.C kA w A0 l0.length l0) (h : l0.length ≤ 300) :
    Calls Try.prog 5 #[.slice A0 l0.length c0, .int .i64 fr, .int .i64 tt] w fun e w' => e = .returned (.bool true) ∧ Below w.heap.size w w' := by
  have HR := Aside0.mk hr0
  have hu29 := Try.underlying29
  have hd1 : decide ((300 : Int) < (l0.length : Int)) = false := decide_eq_false (by omega)
  clear hr0
  go_enter Try.func5, Try.ntmps5
  go_wp2_with fail
  refine (new_some w).mono ?_
  rintro e w1 ⟨g, cs, rfl, hg, hr, hb⟩
  have G1 := Aside0.mk (show PW w g cs 0 [] none [] w1 from ⟨hr, Kd.C_nil _ _, (fun ad e => by cases e), hb⟩)
  have HG := Aside0.mk hg
  clear hr hb hg
  go_wp2_with fail
  go_loopw [9, 8] (fun i vm W => ∃ (k : Nat) (cs : Array Value) (first : Nat) (l : List S29) (A : Option Addr) (c : Nat), i = .int .i64 (k : Int) ∧ k ≤ l0.length ∧ vm = .slice A l.length c ∧ l.length ≤ c ∧ Aside0 (Up l) ∧ Aside0 (PW w g cs first l A l W)) (fun i _ _ => l0.length - (intOf i).toNat)
  case atStart => exact ⟨0, cs, 0, [], none, 0, rfl, Nat.zero_le _, rfl, Nat.zero_le _, ⟨.nil⟩, G1⟩
  case round =>
    clear G1
    obtain ⟨k, cs, first, l, A, c, rfl, hk, rfl, hc, U, G⟩ := hrel
    by_cases hlt : k < l0.length
    · obtain ⟨x, ad, hx, rfl, f0, f1, f2⟩ := at_act (Kd.C_below HR.out G.out.low) k hlt
      have HX := Aside0.mk hx
      have hle := G.out.r.rb.le
      clear hx
      refine Or.elim (Bool.eq_false_or_eq_true x.b) ?expire ?push
      case' expire =>
        intro hxb
        rw [hxb] at f0
        clear hxb
        have HP := Aside0.mk (G.out.refExpire hc (by omega) U.out x.x.f0)
        have HU := Aside0.mk (U.out.exp x.x.f0)
        have hel := exp_le l x.x.f0
        have hsub : IntKind.i64.wrap ((l.length : Int) - ((expF l x.x.f0).length : Int)) = ((l.length - (expF l x.x.f0).length : Nat) : Int) := by rw [wr64 _ (by omega) (by omega)]; omega
        go_wp2_with fail
        refine HP.out.mono ?_
        rintro e w2 ⟨A2, c2, rfl, hc2, h2⟩
        obtain ⟨x', ad', hx', e', k0, k1, k2⟩ := at_act (Kd.C_below HR.out h2.low) k hlt
        obtain rfl := Option.some.inj e'
        obtain rfl : x' = x := by have h9 := HX.out; rw [hx'] at h9; exact Option.some.inj h9
        have HQ := Aside0.mk (h2.expire HG.out x'.x.f0)
        clear hx' h2 HP U G f0 f1 f2
        go_wp2_with fail
        refine HQ.out.mono ?_
        rintro e w3 ⟨rfl, cs', first', h3⟩
        have G := Aside0.mk h3
        clear h3 HQ k0 k1 k2
        generalize hl' : expF l x'.x.f0 = l' at *
        clear hc
        go_upto_region 17 with (fail)
        clear hsub hel hl'
        have U := Aside0.mk HU.out
        have hc := hc2
        clear HU hc2
      case' push =>
        intro hxb
        rw [hxb] at f0
        clear hxb
        obtain ⟨v, l', hp, hu⟩ := push_all U.out hle x.x
        have HP := Aside0.mk (G.out.refPush hc hle x.x hp)
        have HU := Aside0.mk hu
        have HPP := Aside0.mk hp
        clear hp hu
        go_wp2_with fail
        refine HP.out.mono ?_
        rintro e w2 ⟨A2, c2, rfl, hc2, h2⟩
        obtain ⟨x', ad', hx', e', k0, k1, k2⟩ := at_act (Kd.C_below HR.out h2.low) k hlt
        obtain rfl := Option.some.inj e'
        obtain rfl : x' = x := by have h9 := HX.out; rw [hx'] at h9; exact Option.some.inj h9
        have HQ := Aside0.mk (h2.push HG.out x'.x HPP.out)
        clear hx' h2 HP U G f0 f1 f2 HPP
        go_wp2_with fail
        refine HQ.out.mono ?_
        rintro e w3 ⟨rfl, cs', h3⟩
        obtain ⟨first', hff⟩ : ∃ f, f = first := ⟨_, rfl⟩
        rw [← hff] at h3
        have G := Aside0.mk h3
        clear h3 HQ k0 k1 k2 hff hc
        go_upto_region 17 with (fail)
        have U := Aside0.mk HU.out
        have hc := hc2
        clear HU hc2
      all_goals (
        clear HX hle
        have HLS := Aside0.mk (last_say G.out.r)
        have hle := G.out.r.rb.le
        go_wp2_with fail
        refine HLS.out.mono ?_
        rintro e w4 ⟨y, b, rfl, hls, hb⟩
        have G4 := Aside0.mk (G.out.below hb)
        have LS := Aside0.mk hls
        have HC2 := Aside0.mk hc
        clear hb hls HLS G hc
        go_upto_region 18 with (fail)
        have hal : Below w4.heap.size w4 (w4.alloc (.cells #[.int .i64 y.f0, .int .i64 y.f1] 29)) := (Below.refl _ _).alloc (Nat.le_refl _) _
        have G5 := Aside0.mk (G4.out.below hal)
        have Y5 := Aside0.mk (blk_new w4 (.cells #[.int .i64 y.f0, .int .i64 y.f1] 29))
        clear hal G4
        have HAL := Aside0.mk (allf_in (G5.out.r.isRing (S := fun k => k < (w4.alloc (.cells #[.int .i64 y.f0, .int .i64 y.f1] 29)).heap.size) G5.out.r.lt))
        go_wp2_with fail
        refine HAL.out.mono ?_
        rintro e w6 ⟨⟨vg, rfl, hrg⟩, hbg⟩
        obtain ⟨Ag, cg, rfl, hcg, hCg⟩ := Kd.R_reads hrg
        have G6 := Aside0.mk (G5.out.below hbg)
        have Y6 := Aside0.mk (blk_below Y5.out hbg)
        have CG := Aside0.mk hCg
        have HCG := Aside0.mk hcg
        clear hrg hCg hcg hbg HAL G5 Y5
        generalize w4.heap.size = ny at *
        have HW := Aside0.mk (window_in (G6.out.r.isRing (S := fun k => k < w6.heap.size) G6.out.r.lt) fr tt)
        go_wp2_with fail
        refine HW.out.mono ?_
        rintro e w7 ⟨⟨vw, rfl, hrw⟩, hbw⟩
        obtain ⟨q, hqw⟩ : ∃ q, winF fr tt l' = q := ⟨_, rfl⟩
        rw [hqw] at hrw
        have hql : q.length ≤ 32 := by rw [← hqw]; exact Nat.le_trans (List.length_filter_le ..) hle
        have HQW := Aside0.mk hqw
        obtain ⟨Aw, cw, rfl, hcw, hCw, hown⟩ := R_own G6.out hbw hrw
        have T7 := Aside0.mk (show RT w g cs' first' l' A2 ny y Ag Aw q w7 from ⟨G6.out.below hbw, blk_below Y6.out hbw, Kd.C_below CG.out hbw, hCw, hown⟩)
        have HCW := Aside0.mk hcw
        clear hrw hqw hcw hCw hown hbw HW G6 Y6 CG
        go_upto_region 20 with (fail)
        go_cut [143] (fun v wx => v = .bool false ∧ Aside0 (RT w g cs' first' l' A2 ny y Ag Aw q wx))
        case first =>
          rcases LS.out with ⟨hl0, hy0, rfl⟩ | ⟨n, hn, hy, rfl⟩
          · have hy1 : y.f0 = 0 := by rw [hy0]
            have hy2 : y.f1 = 0 := by rw [hy0]
            have hn0 : l'.length = 0 := by rw [hl0]; rfl
            have hdn : decide ((0 : Int) < (l'.length : Int)) = false := decide_eq_false (by omega)
            have hdn2 : decide (0 < l'.length) = false := decide_eq_false (by omega)
            have HY := Aside0.mk (fun (V : World) (h : RT w g cs' first' l' A2 ny y Ag Aw q V) => (show V.cell? ⟨ny, 0, none⟩ = some (.int .i64 0) ∧ V.cell? ⟨ny, 1, none⟩ = some (.int .i64 0) from by have a0 := blk_cell h.y 0; have a1 := blk_cell h.y 1; rw [hy1] at a0; rw [hy2] at a1; exact ⟨a0, a1⟩))
            have hS0 := HY.out _ T7.out.drew
            clear hl0 hy0 hy1 hy2 hn0 LS
            refine wp_region_held_drew (S := fun W' : World => W'.cell? ⟨ny, 0, none⟩ = some (.int .i64 0) ∧ W'.cell? ⟨ny, 1, none⟩ = some (.int .i64 0)) (by kernel_rfl) ?_ (fun hHeld => ?_)
            · exact hS0
            refine tk_take 0 91 (v := ?_) rfl rfl (by kernel_rfl) (by kernel_rfl) (by kernel_rfl) (fun _ _ _ h => h) (by rfl) (by assumption) ?_ ?_
            rotate_left
            · ((intro w hSw; (try dsimp only at hSw); go_simp); all_goals with_reducible rfl)
            try simp only [Act.put, List.setIfInBounds_toArray, List.set_cons_zero, List.set_cons_succ]
            refine tk_take 1 92 (v := ?_) rfl rfl (by kernel_rfl) (by kernel_rfl) (by kernel_rfl) (fun _ _ _ h => h) (by rfl) (by assumption) ?_ ?_
            rotate_left
            · ((intro w hSw; (try dsimp only at hSw); go_simp); all_goals with_reducible rfl)
            try simp only [Act.put, List.setIfInBounds_toArray, List.set_cons_zero, List.set_cons_succ]
            refine tk_take 2 93 (v := ?_) rfl rfl (by kernel_rfl) (by kernel_rfl) (by kernel_rfl) (fun _ _ _ h => h) (by rfl) (by assumption) ?_ ?_
            rotate_left
            · ((intro w hSw; (try dsimp only at hSw); go_simp); all_goals with_reducible rfl)
            try simp only [Act.put, List.setIfInBounds_toArray, List.set_cons_zero, List.set_cons_succ]
            refine tk_take 3 94 (v := ?_) rfl rfl (by kernel_rfl) (by kernel_rfl) (by kernel_rfl) (fun _ _ _ h => h) (by rfl) (by assumption) ?_ ?_
            rotate_left
            · ((intro w hSw; (try dsimp only at hSw); go_simp); all_goals with_reducible rfl)
            try simp only [Act.put, List.setIfInBounds_toArray, List.set_cons_zero, List.set_cons_succ]
            refine tk_take 5 96 (v := ?_) rfl rfl (by kernel_rfl) (by kernel_rfl) (by kernel_rfl) (fun _ _ _ h => h) (by rfl) (by assumption) ?_ ?_
            rotate_left
            · ((intro w hSw; (try dsimp only at hSw); go_simp); all_goals with_reducible rfl)
            try simp only [Act.put, List.setIfInBounds_toArray, List.set_cons_zero, List.set_cons_succ]
            refine tk_take 6 97 (v := ?_) rfl rfl (by kernel_rfl) (by kernel_rfl) (by kernel_rfl) (fun _ _ _ h => h) (by rfl) (by assumption) ?_ ?_
            rotate_left
            · ((intro w hSw; (try dsimp only at hSw); go_simp); all_goals with_reducible rfl)
            try simp only [Act.put, List.setIfInBounds_toArray, List.set_cons_zero, List.set_cons_succ]
            refine wpAnyH_ready (rs := [4]) (by kernel_rfl) (by simp) ?_
            refine AllReadyH.cons rfl (fun K hK => ?_) AllReadyH.nil
            go_simp
            refine (len_any T7.out.drew.p.r).mono ?_
            rintro e v1 ⟨rfl, hw⟩
            have T8 := Aside0.mk (show RT w g cs' first' l' _ ny y Ag Aw q v1 by rw [hw]; exact T7.out.drew)
            have hS1 := HY.out v1 T8.out
            clear hw
            try go_wp2_with fail
            refine hK.out _ _ hS1 (fun hHeld => ?_)
            clear hK K
            try simp only [Act.put, List.setIfInBounds_toArray, List.set_cons_zero, List.set_cons_succ]
            refine tk_take 7 98 (v := ?_) rfl rfl (by kernel_rfl) (by kernel_rfl) (by kernel_rfl) (fun _ _ _ h => h) (by rfl) (by assumption) ?_ ?_
            rotate_left
            · ((intro w hSw; (try dsimp only at hSw); go_simp); all_goals with_reducible rfl)
            try simp only [Act.put, List.setIfInBounds_toArray, List.set_cons_zero, List.set_cons_succ]
            refine tk_take 8 99 (v := ?_) rfl rfl (by kernel_rfl) (by kernel_rfl) (by kernel_rfl) (fun _ _ _ h => h) (by rfl) (by assumption) ?_ ?_
            rotate_left
            · ((intro w hSw; (try dsimp only at hSw); go_simp); all_goals with_reducible rfl)
            try simp only [Act.put, List.setIfInBounds_toArray, List.set_cons_zero, List.set_cons_succ]
            refine tk_take 9 100 (v := ?_) rfl rfl (by kernel_rfl) (by kernel_rfl) (by kernel_rfl) (fun _ _ _ h => h) (by rfl) (by assumption) ?_ ?_
            rotate_left
            · ((intro w hSw; (try dsimp only at hSw); go_simp); all_goals with_reducible rfl)
            try simp only [Act.put, List.setIfInBounds_toArray, List.set_cons_zero, List.set_cons_succ]
            refine tk_take 10 101 (v := ?_) rfl rfl (by kernel_rfl) (by kernel_rfl) (by kernel_rfl) (fun _ _ _ h => h) (by rfl) (by assumption) ?_ ?_
            rotate_left
            · ((intro w hSw; (try dsimp only at hSw); go_simp); all_goals with_reducible rfl)
            try simp only [Act.put, List.setIfInBounds_toArray, List.set_cons_zero, List.set_cons_succ]
            refine tk_take 11 102 (v := ?_) rfl rfl (by kernel_rfl) (by kernel_rfl) (by kernel_rfl) (fun _ _ _ h => h) (by rfl) (by assumption) ?_ ?_
            rotate_left
            · ((intro w hSw; (try dsimp only at hSw); go_simp); all_goals with_reducible rfl)
            try simp only [Act.put, List.setIfInBounds_toArray, List.set_cons_zero, List.set_cons_succ]
            refine tk_take 12 103 (v := ?_) rfl rfl (by kernel_rfl) (by kernel_rfl) (by kernel_rfl) (fun _ _ _ h => h) (by rfl) (by assumption) ?_ ?_
            rotate_left
            · ((intro w hSw; (try dsimp only at hSw); go_simp); all_goals with_reducible rfl)
            try simp only [Act.put, List.setIfInBounds_toArray, List.set_cons_zero, List.set_cons_succ]
            refine tk_take 13 104 (v := ?_) rfl rfl (by kernel_rfl) (by kernel_rfl) (by kernel_rfl) (fun _ _ _ h => h) (by rfl) (by assumption) ?_ ?_
            rotate_left
            · ((intro w hSw; (try dsimp only at hSw); go_simp); all_goals with_reducible rfl)
            try simp only [Act.put, List.setIfInBounds_toArray, List.set_cons_zero, List.set_cons_succ]
            refine tk_take 14 105 (v := ?_) rfl rfl (by kernel_rfl) (by kernel_rfl) (by kernel_rfl) (fun _ _ _ h => h) (by rfl) (by assumption) ?_ ?_
            rotate_left
            · ((intro w hSw; (try dsimp only at hSw); go_simp); all_goals with_reducible rfl)
            try simp only [Act.put, List.setIfInBounds_toArray, List.set_cons_zero, List.set_cons_succ]
            refine tk_take 15 106 (v := ?_) rfl rfl (by kernel_rfl) (by kernel_rfl) (by kernel_rfl) (fun _ _ _ h => h) (by rfl) (by assumption) ?_ ?_
            rotate_left
            · ((intro w hSw; (try dsimp only at hSw); go_simp); all_goals with_reducible rfl)
            try simp only [Act.put, List.setIfInBounds_toArray, List.set_cons_zero, List.set_cons_succ]
            refine tk_take 16 107 (v := ?_) rfl rfl (by kernel_rfl) (by kernel_rfl) (by kernel_rfl) (fun _ _ _ h => h) (by rfl) (by assumption) ?_ ?_
            rotate_left
            · ((intro w hSw; (try dsimp only at hSw); go_simp); all_goals with_reducible rfl)
            try simp only [Act.put, List.setIfInBounds_toArray, List.set_cons_zero, List.set_cons_succ]
            refine tk_take 17 108 (v := ?_) rfl rfl (by kernel_rfl) (by kernel_rfl) (by kernel_rfl) (fun _ _ _ h => h) (by rfl) (by assumption) ?_ ?_
            rotate_left
            · ((intro w hSw; (try dsimp only at hSw); go_simp); all_goals with_reducible rfl)
            try simp only [Act.put, List.setIfInBounds_toArray, List.set_cons_zero, List.set_cons_succ]
            refine tk_take 18 109 (v := ?_) rfl rfl (by kernel_rfl) (by kernel_rfl) (by kernel_rfl) (fun _ _ _ h => h) (by rfl) (by assumption) ?_ ?_
            rotate_left
            · ((intro w hSw; (try dsimp only at hSw); go_simp); all_goals with_reducible rfl)
            try simp only [Act.put, List.setIfInBounds_toArray, List.set_cons_zero, List.set_cons_succ]
            refine tk_skip 19 110 rfl rfl (by kernel_rfl) (by kernel_rfl) (by kernel_rfl) (fun _ _ _ h => h) (by rfl) (by assumption) ?_
            try simp only [Act.put, List.setIfInBounds_toArray, List.set_cons_zero, List.set_cons_succ]
            refine tk_skip 20 111 rfl rfl (by kernel_rfl) (by kernel_rfl) (by kernel_rfl) (fun _ _ _ h => h) (by rfl) (by assumption) ?_
            try simp only [Act.put, List.setIfInBounds_toArray, List.set_cons_zero, List.set_cons_succ]
            refine tk_skip 21 112 rfl rfl (by kernel_rfl) (by kernel_rfl) (by kernel_rfl) (fun _ _ _ h => h) (by rfl) (by assumption) ?_
            try simp only [Act.put, List.setIfInBounds_toArray, List.set_cons_zero, List.set_cons_succ]
            refine tk_skip 22 113 rfl rfl (by kernel_rfl) (by kernel_rfl) (by kernel_rfl) (fun _ _ _ h => h) (by rfl) (by assumption) ?_
            try simp only [Act.put, List.setIfInBounds_toArray, List.set_cons_zero, List.set_cons_succ]
            refine tk_skip 23 114 rfl rfl (by kernel_rfl) (by kernel_rfl) (by kernel_rfl) (fun _ _ _ h => h) (by rfl) (by assumption) ?_
            try simp only [Act.put, List.setIfInBounds_toArray, List.set_cons_zero, List.set_cons_succ]
            refine tk_skip 24 115 rfl rfl (by kernel_rfl) (by kernel_rfl) (by kernel_rfl) (fun _ _ _ h => h) (by rfl) (by assumption) ?_
            try simp only [Act.put, List.setIfInBounds_toArray, List.set_cons_zero, List.set_cons_succ]
            refine tk_skip 25 116 rfl rfl (by kernel_rfl) (by kernel_rfl) (by kernel_rfl) (fun _ _ _ h => h) (by rfl) (by assumption) ?_
            try simp only [Act.put, List.setIfInBounds_toArray, List.set_cons_zero, List.set_cons_succ]
            refine tk_skip 26 117 rfl rfl (by kernel_rfl) (by kernel_rfl) (by kernel_rfl) (fun _ _ _ h => h) (by rfl) (by assumption) ?_
            try simp only [Act.put, List.setIfInBounds_toArray, List.set_cons_zero, List.set_cons_succ]
            refine tk_take 27 118 (v := ?_) rfl rfl (by kernel_rfl) (by kernel_rfl) (by kernel_rfl) (fun _ _ _ h => h) (by rfl) (by assumption) ?_ ?_
            rotate_left
            · ((intro w hSw; (try dsimp only at hSw); go_simp); all_goals with_reducible rfl)
            try simp only [Act.put, List.setIfInBounds_toArray, List.set_cons_zero, List.set_cons_succ]
            refine tk_take 28 119 (v := ?_) rfl rfl (by kernel_rfl) (by kernel_rfl) (by kernel_rfl) (fun _ _ _ h => h) (by rfl) (by assumption) ?_ ?_
            rotate_left
            · ((intro w hSw; (try dsimp only at hSw); go_simp); all_goals with_reducible rfl)
            try simp only [Act.put, List.setIfInBounds_toArray, List.set_cons_zero, List.set_cons_succ]
            refine tk_take 29 120 (v := ?_) rfl rfl (by kernel_rfl) (by kernel_rfl) (by kernel_rfl) (fun _ _ _ h => h) (by rfl) (by assumption) ?_ ?_
            rotate_left
            · ((intro w hSw; (try dsimp only at hSw); go_simp); all_goals with_reducible rfl)
            try simp only [Act.put, List.setIfInBounds_toArray, List.set_cons_zero, List.set_cons_succ]
            refine tk_take 30 121 (v := ?_) rfl rfl (by kernel_rfl) (by kernel_rfl) (by kernel_rfl) (fun _ _ _ h => h) (by rfl) (by assumption) ?_ ?_
            rotate_left
            · ((intro w hSw; (try dsimp only at hSw); go_simp); all_goals with_reducible rfl)
            try simp only [Act.put, List.setIfInBounds_toArray, List.set_cons_zero, List.set_cons_succ]
            refine tk_take 31 122 (v := ?_) rfl rfl (by kernel_rfl) (by kernel_rfl) (by kernel_rfl) (fun _ _ _ h => h) (by rfl) (by assumption) ?_ ?_
            rotate_left
            · ((intro w hSw; (try dsimp only at hSw); go_simp); all_goals with_reducible rfl)
            try simp only [Act.put, List.setIfInBounds_toArray, List.set_cons_zero, List.set_cons_succ]
            refine tk_take 32 123 (v := ?_) rfl rfl (by kernel_rfl) (by kernel_rfl) (by kernel_rfl) (fun _ _ _ h => h) (by rfl) (by assumption) ?_ ?_
            rotate_left
            · ((intro w hSw; (try dsimp only at hSw); go_simp); all_goals with_reducible rfl)
            try simp only [Act.put, List.setIfInBounds_toArray, List.set_cons_zero, List.set_cons_succ]
            refine tk_take 33 124 (v := ?_) rfl rfl (by kernel_rfl) (by kernel_rfl) (by kernel_rfl) (fun _ _ _ h => h) (by rfl) (by assumption) ?_ ?_
            rotate_left
            · ((intro w hSw; (try dsimp only at hSw); go_simp); all_goals with_reducible rfl)
            try simp only [Act.put, List.setIfInBounds_toArray, List.set_cons_zero, List.set_cons_succ]
            refine tk_take 34 125 (v := ?_) rfl rfl (by kernel_rfl) (by kernel_rfl) (by kernel_rfl) (fun _ _ _ h => h) (by rfl) (by assumption) ?_ ?_
            rotate_left
            · ((intro w hSw; (try dsimp only at hSw); go_simp); all_goals with_reducible rfl)
            try simp only [Act.put, List.setIfInBounds_toArray, List.set_cons_zero, List.set_cons_succ]
            refine tk_take 35 126 (v := ?_) rfl rfl (by kernel_rfl) (by kernel_rfl) (by kernel_rfl) (fun _ _ _ h => h) (by rfl) (by assumption) ?_ ?_
            rotate_left
            · ((intro w hSw; (try dsimp only at hSw); go_simp); all_goals with_reducible rfl)
            try simp only [Act.put, List.setIfInBounds_toArray, List.set_cons_zero, List.set_cons_succ]
            refine tk_take 36 127 (v := ?_) rfl rfl (by kernel_rfl) (by kernel_rfl) (by kernel_rfl) (fun _ _ _ h => h) (by rfl) (by assumption) ?_ ?_
            rotate_left
            · ((intro w hSw; (try dsimp only at hSw); go_simp); all_goals with_reducible rfl)
            try simp only [Act.put, List.setIfInBounds_toArray, List.set_cons_zero, List.set_cons_succ]
            refine tk_take 37 128 (v := ?_) rfl rfl (by kernel_rfl) (by kernel_rfl) (by kernel_rfl) (fun _ _ _ h => h) (by rfl) (by assumption) ?_ ?_
            rotate_left
            · ((intro w hSw; (try dsimp only at hSw); go_simp); all_goals with_reducible rfl)
            try simp only [Act.put, List.setIfInBounds_toArray, List.set_cons_zero, List.set_cons_succ]
            refine tk_take 38 129 (v := ?_) rfl rfl (by kernel_rfl) (by kernel_rfl) (by kernel_rfl) (fun _ _ _ h => h) (by rfl) (by assumption) ?_ ?_
            rotate_left
            · ((intro w hSw; (try dsimp only at hSw); go_simp); all_goals with_reducible rfl)
            try simp only [Act.put, List.setIfInBounds_toArray, List.set_cons_zero, List.set_cons_succ]
            refine tk_take 39 130 (v := ?_) rfl rfl (by kernel_rfl) (by kernel_rfl) (by kernel_rfl) (fun _ _ _ h => h) (by rfl) (by assumption) ?_ ?_
            rotate_left
            · ((intro w hSw; (try dsimp only at hSw); go_simp); all_goals with_reducible rfl)
            try simp only [Act.put, List.setIfInBounds_toArray, List.set_cons_zero, List.set_cons_succ]
            refine tk_take 40 131 (v := ?_) rfl rfl (by kernel_rfl) (by kernel_rfl) (by kernel_rfl) (fun _ _ _ h => h) (by rfl) (by assumption) ?_ ?_
            rotate_left
            · ((intro w hSw; (try dsimp only at hSw); go_simp); all_goals with_reducible rfl)
            try simp only [Act.put, List.setIfInBounds_toArray, List.set_cons_zero, List.set_cons_succ]
            refine wpAnyH_ready (rs := [41]) (by kernel_rfl) (by simp) ?_
            refine AllReadyH.cons rfl (fun K hK => ?_) AllReadyH.nil
            go_simp
            refine (same29 (Below.refl _ _) T8.out.got HCG.out T8.out.p.m HC2.out (by omega)).mono ?_
            rintro e v2 ⟨rfl, hb⟩
            have T9 := Aside0.mk (T8.out.below hb)
            have hS2 := HY.out v2 T9.out
            clear hb hS1
            try go_wp2_with fail
            refine hK.out _ _ hS2 (fun hHeld => ?_)
            clear hK K
            try simp only [Act.put, List.setIfInBounds_toArray, List.set_cons_zero, List.set_cons_succ]
            refine tk_take 42 133 (v := ?_) rfl rfl (by kernel_rfl) (by kernel_rfl) (by kernel_rfl) (fun _ _ _ h => h) (by rfl) (by assumption) ?_ ?_
            rotate_left
            · ((intro w hSw; (try dsimp only at hSw); go_simp); all_goals with_reducible rfl)
            try simp only [Act.put, List.setIfInBounds_toArray, List.set_cons_zero, List.set_cons_succ]
            refine tk_take 43 134 (v := ?_) rfl rfl (by kernel_rfl) (by kernel_rfl) (by kernel_rfl) (fun _ _ _ h => h) (by rfl) (by assumption) ?_ ?_
            rotate_left
            · ((intro w hSw; (try dsimp only at hSw); go_simp); all_goals with_reducible rfl)
            try simp only [Act.put, List.setIfInBounds_toArray, List.set_cons_zero, List.set_cons_succ]
            refine tk_take 44 135 (v := ?_) rfl rfl (by kernel_rfl) (by kernel_rfl) (by kernel_rfl) (fun _ _ _ h => h) (by rfl) (by assumption) ?_ ?_
            rotate_left
            · ((intro w hSw; (try dsimp only at hSw); go_simp); all_goals with_reducible rfl)
            try simp only [Act.put, List.setIfInBounds_toArray, List.set_cons_zero, List.set_cons_succ]
            refine tk_take 45 136 (v := ?_) rfl rfl (by kernel_rfl) (by kernel_rfl) (by kernel_rfl) (fun _ _ _ h => h) (by rfl) (by assumption) ?_ ?_
            rotate_left
            · ((intro w hSw; (try dsimp only at hSw); go_simp); all_goals with_reducible rfl)
            try simp only [Act.put, List.setIfInBounds_toArray, List.set_cons_zero, List.set_cons_succ]
            refine tk_take 46 137 (v := ?_) rfl rfl (by kernel_rfl) (by kernel_rfl) (by kernel_rfl) (fun _ _ _ h => h) (by rfl) (by assumption) ?_ ?_
            rotate_left
            · ((intro w hSw; (try dsimp only at hSw); go_simp); all_goals with_reducible rfl)
            try simp only [Act.put, List.setIfInBounds_toArray, List.set_cons_zero, List.set_cons_succ]
            refine tk_take 47 138 (v := ?_) rfl rfl (by kernel_rfl) (by kernel_rfl) (by kernel_rfl) (fun _ _ _ h => h) (by rfl) (by assumption) ?_ ?_
            rotate_left
            · ((intro w hSw; (try dsimp only at hSw); go_simp); all_goals with_reducible rfl)
            try simp only [Act.put, List.setIfInBounds_toArray, List.set_cons_zero, List.set_cons_succ]
            refine tk_take 48 139 (v := ?_) rfl rfl (by kernel_rfl) (by kernel_rfl) (by kernel_rfl) (fun _ _ _ h => h) (by rfl) (by assumption) ?_ ?_
            rotate_left
            · ((intro w hSw; (try dsimp only at hSw); go_simp); all_goals with_reducible rfl)
            try simp only [Act.put, List.setIfInBounds_toArray, List.set_cons_zero, List.set_cons_succ]
            refine wpAnyH_ready (rs := [49]) (by kernel_rfl) (by simp) ?_
            refine AllReadyH.cons rfl (fun K hK => ?_) AllReadyH.nil
            go_simp
            refine (tocsinref16_Window.calls (l'.length + 1) _ c2 l' fr tt _ _ T9.out.p.m HC2.out (ref_window l' fr tt (by omega))).mono ?_
            rintro e v3 ⟨vv, rfl, hR, hb⟩
            rw [HQW.out] at hR
            obtain ⟨A9, c9, rfl, hc9, hC9⟩ := Kd.R_reads hR
            have T10 := Aside0.mk (T9.out.below hb)
            have C10 := Aside0.mk (And.intro hc9 hC9)
            have hS3 := HY.out v3 T10.out
            clear hb hR hc9 hC9 hS2
            try go_wp2_with fail
            refine hK.out _ _ hS3 (fun hHeld => ?_)
            clear hK K
            try simp only [Act.put, List.setIfInBounds_toArray, List.set_cons_zero, List.set_cons_succ]
            refine wpAnyH_ready (rs := [50]) (by kernel_rfl) (by simp) ?_
            refine AllReadyH.cons rfl (fun K hK => ?_) AllReadyH.nil
            go_simp
            refine (same29 (Below.refl _ _) T10.out.win HCW.out C10.out.2 C10.out.1 (by omega)).mono ?_
            rintro e v4 ⟨rfl, hb⟩
            have T11 := Aside0.mk (T10.out.below hb)
            have hS4 := HY.out v4 T11.out
            clear hb hS3
            try go_wp2_with fail
            refine hK.out _ _ hS4 (fun hHeld => ?_)
            clear hK K
            try simp only [Act.put, List.setIfInBounds_toArray, List.set_cons_zero, List.set_cons_succ]
            refine tk_take 51 142 (v := ?_) rfl rfl (by kernel_rfl) (by kernel_rfl) (by kernel_rfl) (fun _ _ _ h => h) (by rfl) (by assumption) ?_ ?_
            rotate_left
            · ((intro w hSw; (try dsimp only at hSw); go_simp); all_goals with_reducible rfl)
            try simp only [Act.put, List.setIfInBounds_toArray, List.set_cons_zero, List.set_cons_succ]
            refine tk_take 52 143 (v := ?_) rfl rfl (by kernel_rfl) (by kernel_rfl) (by kernel_rfl) (fun _ _ _ h => h) (by rfl) (by assumption) ?_ ?_
            rotate_left
            · ((intro w hSw; (try dsimp only at hSw); go_simp); all_goals with_reducible rfl)
            try simp only [Act.put, List.setIfInBounds_toArray, List.set_cons_zero, List.set_cons_succ]
            refine wpAnyH_done (by kernel_rfl) ?_ _
            all_goals (go_wp2_with fail; go_meet; exact ⟨rfl, T11⟩)
          · obtain ⟨ad2, rfl⟩ := some_of T7.out.p.m hn
            have hdn : decide ((0 : Int) < (l'.length : Int)) = true := decide_eq_true (by omega)
            have hdn2 : decide (0 < l'.length) = true := decide_eq_true (by omega)
            have hwn : IntKind.i64.wrap ((l'.length : Int) - 1) = (n : Int) := by rw [wr64 _ (by omega) (by omega)]; omega
            have hi0 : (0 : Int) ≤ (n : Int) := by omega
            have hi1 : (n : Int) < (l'.length : Int) := by omega
            have hi2 : n < l'.length := by omega
            have HY := Aside0.mk (fun (V : World) (h : RT w g cs' first' l' (some ad2) ny y Ag Aw q V) => h.s hn hy rfl)
            have hS0 := HY.out _ T7.out.drew
            clear hy hn LS
            refine wp_region_held_drew (S := fun W' : World => W'.cell? ⟨ny, 0, none⟩ = some (.int .i64 y.f0) ∧ W'.cell? ⟨ny, 1, none⟩ = some (.int .i64 y.f1) ∧ W'.cell? (ad2.add (n * 2)) = some (.int .i64 y.f0) ∧ W'.cell? ⟨(ad2.add (n * 2)).block, (ad2.add (n * 2)).off + 1, none⟩ = some (.int .i64 y.f1)) (by kernel_rfl) ?_ (fun hHeld => ?_)
            · exact hS0
            refine tk_take 0 91 (v := ?_) rfl rfl (by kernel_rfl) (by kernel_rfl) (by kernel_rfl) (fun _ _ _ h => h) (by rfl) (by assumption) ?_ ?_
            rotate_left
            · ((intro w hSw; (try dsimp only at hSw); go_simp); all_goals with_reducible rfl)
            try simp only [Act.put, List.setIfInBounds_toArray, List.set_cons_zero, List.set_cons_succ]
            refine tk_take 1 92 (v := ?_) rfl rfl (by kernel_rfl) (by kernel_rfl) (by kernel_rfl) (fun _ _ _ h => h) (by rfl) (by assumption) ?_ ?_
            rotate_left
            · ((intro w hSw; (try dsimp only at hSw); go_simp); all_goals with_reducible rfl)
            try simp only [Act.put, List.setIfInBounds_toArray, List.set_cons_zero, List.set_cons_succ]
            refine tk_take 2 93 (v := ?_) rfl rfl (by kernel_rfl) (by kernel_rfl) (by kernel_rfl) (fun _ _ _ h => h) (by rfl) (by assumption) ?_ ?_
            rotate_left
            · ((intro w hSw; (try dsimp only at hSw); go_simp); all_goals with_reducible rfl)
            try simp only [Act.put, List.setIfInBounds_toArray, List.set_cons_zero, List.set_cons_succ]
            refine tk_take 3 94 (v := ?_) rfl rfl (by kernel_rfl) (by kernel_rfl) (by kernel_rfl) (fun _ _ _ h => h) (by rfl) (by assumption) ?_ ?_
            rotate_left
            · ((intro w hSw; (try dsimp only at hSw); go_simp); all_goals with_reducible rfl)
            try simp only [Act.put, List.setIfInBounds_toArray, List.set_cons_zero, List.set_cons_succ]
            refine tk_take 5 96 (v := ?_) rfl rfl (by kernel_rfl) (by kernel_rfl) (by kernel_rfl) (fun _ _ _ h => h) (by rfl) (by assumption) ?_ ?_
            rotate_left
            · ((intro w hSw; (try dsimp only at hSw); go_simp); all_goals with_reducible rfl)
            try simp only [Act.put, List.setIfInBounds_toArray, List.set_cons_zero, List.set_cons_succ]
            refine tk_take 6 97 (v := ?_) rfl rfl (by kernel_rfl) (by kernel_rfl) (by kernel_rfl) (fun _ _ _ h => h) (by rfl) (by assumption) ?_ ?_
            rotate_left
            · ((intro w hSw; (try dsimp only at hSw); go_simp); all_goals with_reducible rfl)
            try simp only [Act.put, List.setIfInBounds_toArray, List.set_cons_zero, List.set_cons_succ]
            refine wpAnyH_ready (rs := [4]) (by kernel_rfl) (by simp) ?_
            refine AllReadyH.cons rfl (fun K hK => ?_) AllReadyH.nil
            go_simp
            refine (len_any T7.out.drew.p.r).mono ?_
            rintro e v1 ⟨rfl, hw⟩
            have T8 := Aside0.mk (show RT w g cs' first' l' _ ny y Ag Aw q v1 by rw [hw]; exact T7.out.drew)
            have hS1 := HY.out v1 T8.out
            clear hw
            try go_wp2_with fail
            refine hK.out _ _ hS1 (fun hHeld => ?_)
            clear hK K
            try simp only [Act.put, List.setIfInBounds_toArray, List.set_cons_zero, List.set_cons_succ]
            refine tk_take 7 98 (v := ?_) rfl rfl (by kernel_rfl) (by kernel_rfl) (by kernel_rfl) (fun _ _ _ h => h) (by rfl) (by assumption) ?_ ?_
            rotate_left
            · ((intro w hSw; (try dsimp only at hSw); go_simp); all_goals with_reducible rfl)
            try simp only [Act.put, List.setIfInBounds_toArray, List.set_cons_zero, List.set_cons_succ]
            refine tk_take 8 99 (v := ?_) rfl rfl (by kernel_rfl) (by kernel_rfl) (by kernel_rfl) (fun _ _ _ h => h) (by rfl) (by assumption) ?_ ?_
            rotate_left
            · ((intro w hSw; (try dsimp only at hSw); go_simp); all_goals with_reducible rfl)
            try simp only [Act.put, List.setIfInBounds_toArray, List.set_cons_zero, List.set_cons_succ]
            refine tk_take 9 100 (v := ?_) rfl rfl (by kernel_rfl) (by kernel_rfl) (by kernel_rfl) (fun _ _ _ h => h) (by rfl) (by assumption) ?_ ?_
            rotate_left
            · ((intro w hSw; (try dsimp only at hSw); go_simp); all_goals with_reducible rfl)
            try simp only [Act.put, List.setIfInBounds_toArray, List.set_cons_zero, List.set_cons_succ]
            refine tk_take 10 101 (v := ?_) rfl rfl (by kernel_rfl) (by kernel_rfl) (by kernel_rfl) (fun _ _ _ h => h) (by rfl) (by assumption) ?_ ?_
            rotate_left
            · ((intro w hSw; (try dsimp only at hSw); go_simp); all_goals with_reducible rfl)
            try simp only [Act.put, List.setIfInBounds_toArray, List.set_cons_zero, List.set_cons_succ]
            refine tk_take 11 102 (v := ?_) rfl rfl (by kernel_rfl) (by kernel_rfl) (by kernel_rfl) (fun _ _ _ h => h) (by rfl) (by assumption) ?_ ?_
            rotate_left
            · ((intro w hSw; (try dsimp only at hSw); go_simp); all_goals with_reducible rfl)
            try simp only [Act.put, List.setIfInBounds_toArray, List.set_cons_zero, List.set_cons_succ]
            refine tk_take 12 103 (v := ?_) rfl rfl (by kernel_rfl) (by kernel_rfl) (by kernel_rfl) (fun _ _ _ h => h) (by rfl) (by assumption) ?_ ?_
            rotate_left
            · ((intro w hSw; (try dsimp only at hSw); go_simp); all_goals with_reducible rfl)
            try simp only [Act.put, List.setIfInBounds_toArray, List.set_cons_zero, List.set_cons_succ]
            refine tk_take 13 104 (v := ?_) rfl rfl (by kernel_rfl) (by kernel_rfl) (by kernel_rfl) (fun _ _ _ h => h) (by rfl) (by assumption) ?_ ?_
            rotate_left
            · ((intro w hSw; (try dsimp only at hSw); go_simp); all_goals with_reducible rfl)
            try simp only [Act.put, List.setIfInBounds_toArray, List.set_cons_zero, List.set_cons_succ]
            refine tk_take 14 105 (v := ?_) rfl rfl (by kernel_rfl) (by kernel_rfl) (by kernel_rfl) (fun _ _ _ h => h) (by rfl) (by assumption) ?_ ?_
            rotate_left
            · ((intro w hSw; (try dsimp only at hSw); go_simp); all_goals with_reducible rfl)
            try simp only [Act.put, List.setIfInBounds_toArray, List.set_cons_zero, List.set_cons_succ]
            refine tk_take 15 106 (v := ?_) rfl rfl (by kernel_rfl) (by kernel_rfl) (by kernel_rfl) (fun _ _ _ h => h) (by rfl) (by assumption) ?_ ?_
            rotate_left
            · ((intro w hSw; (try dsimp only at hSw); go_simp); all_goals with_reducible rfl)
            try simp only [Act.put, List.setIfInBounds_toArray, List.set_cons_zero, List.set_cons_succ]
            refine tk_take 16 107 (v := ?_) rfl rfl (by kernel_rfl) (by kernel_rfl) (by kernel_rfl) (fun _ _ _ h => h) (by rfl) (by assumption) ?_ ?_
            rotate_left
            · ((intro w hSw; (try dsimp only at hSw); go_simp); all_goals with_reducible rfl)
            try simp only [Act.put, List.setIfInBounds_toArray, List.set_cons_zero, List.set_cons_succ]
            refine tk_take 17 108 (v := ?_) rfl rfl (by kernel_rfl) (by kernel_rfl) (by kernel_rfl) (fun _ _ _ h => h) (by rfl) (by assumption) ?_ ?_
            rotate_left
            · ((intro w hSw; (try dsimp only at hSw); go_simp); all_goals with_reducible rfl)
            try simp only [Act.put, List.setIfInBounds_toArray, List.set_cons_zero, List.set_cons_succ]
            refine tk_take 18 109 (v := ?_) rfl rfl (by kernel_rfl) (by kernel_rfl) (by kernel_rfl) (fun _ _ _ h => h) (by rfl) (by assumption) ?_ ?_
            rotate_left
            · ((intro w hSw; (try dsimp only at hSw); go_simp); all_goals with_reducible rfl)
            try simp only [Act.put, List.setIfInBounds_toArray, List.set_cons_zero, List.set_cons_succ]
            refine tk_take 19 110 (v := ?_) rfl rfl (by kernel_rfl) (by kernel_rfl) (by kernel_rfl) (fun _ _ _ h => h) (by rfl) (by assumption) ?_ ?_
            rotate_left
            · ((intro w hSw; (try dsimp only at hSw); go_simp); all_goals with_reducible rfl)
            try simp only [Act.put, List.setIfInBounds_toArray, List.set_cons_zero, List.set_cons_succ]
            refine tk_take 20 111 (v := ?_) rfl rfl (by kernel_rfl) (by kernel_rfl) (by kernel_rfl) (fun _ _ _ h => h) (by rfl) (by assumption) ?_ ?_
            rotate_left
            · ((intro w hSw; (try dsimp only at hSw); go_simp); all_goals with_reducible rfl)
            try simp only [Act.put, List.setIfInBounds_toArray, List.set_cons_zero, List.set_cons_succ]
            refine tk_take 21 112 (v := ?_) rfl rfl (by kernel_rfl) (by kernel_rfl) (by kernel_rfl) (fun _ _ _ h => h) (by rfl) (by assumption) ?_ ?_
            rotate_left
            · ((intro w hSw; (try dsimp only at hSw); go_simp); all_goals with_reducible rfl)
            try simp only [Act.put, List.setIfInBounds_toArray, List.set_cons_zero, List.set_cons_succ]
            refine tk_take 22 113 (v := ?_) rfl rfl (by kernel_rfl) (by kernel_rfl) (by kernel_rfl) (fun _ _ _ h => h) (by rfl) (by assumption) ?_ ?_
            rotate_left
            · ((intro w hSw; (try dsimp only at hSw); go_simp); all_goals with_reducible rfl)
            try simp only [Act.put, List.setIfInBounds_toArray, List.set_cons_zero, List.set_cons_succ]
            refine tk_take 23 114 (v := ?_) rfl rfl (by kernel_rfl) (by kernel_rfl) (by kernel_rfl) (fun _ _ _ h => h) (by rfl) (by assumption) ?_ ?_
            rotate_left
            · ((intro w hSw; (try dsimp only at hSw); go_simp); all_goals with_reducible rfl)
            try simp only [Act.put, List.setIfInBounds_toArray, List.set_cons_zero, List.set_cons_succ]
            refine tk_take 24 115 (v := ?_) rfl rfl (by kernel_rfl) (by kernel_rfl) (by kernel_rfl) (fun _ _ _ h => h) (by rfl) (by assumption) ?_ ?_
            rotate_left
            · ((intro w hSw; (try dsimp only at hSw); go_simp); all_goals with_reducible rfl)
            try simp only [Act.put, List.setIfInBounds_toArray, List.set_cons_zero, List.set_cons_succ]
            refine tk_take 25 116 (v := ?_) rfl rfl (by kernel_rfl) (by kernel_rfl) (by kernel_rfl) (fun _ _ _ h => h) (by rfl) (by assumption) ?_ ?_
            rotate_left
            · ((intro w hSw; (try dsimp only at hSw); go_simp); all_goals with_reducible rfl)
            try simp only [Act.put, List.setIfInBounds_toArray, List.set_cons_zero, List.set_cons_succ]
            refine tk_take 26 117 (v := ?_) rfl rfl (by kernel_rfl) (by kernel_rfl) (by kernel_rfl) (fun _ _ _ h => h) (by rfl) (by assumption) ?_ ?_
            rotate_left
            · ((intro w hSw; (try dsimp only at hSw); go_simp); all_goals with_reducible rfl)
            try simp only [Act.put, List.setIfInBounds_toArray, List.set_cons_zero, List.set_cons_succ]
            refine tk_take 27 118 (v := ?_) rfl rfl (by kernel_rfl) (by kernel_rfl) (by kernel_rfl) (fun _ _ _ h => h) (by rfl) (by assumption) ?_ ?_
            rotate_left
            · ((intro w hSw; (try dsimp only at hSw); go_simp); all_goals with_reducible rfl)
            try simp only [Act.put, List.setIfInBounds_toArray, List.set_cons_zero, List.set_cons_succ]
            refine tk_take 28 119 (v := ?_) rfl rfl (by kernel_rfl) (by kernel_rfl) (by kernel_rfl) (fun _ _ _ h => h) (by rfl) (by assumption) ?_ ?_
            rotate_left
            · ((intro w hSw; (try dsimp only at hSw); go_simp); all_goals with_reducible rfl)
            try simp only [Act.put, List.setIfInBounds_toArray, List.set_cons_zero, List.set_cons_succ]
            refine tk_take 29 120 (v := ?_) rfl rfl (by kernel_rfl) (by kernel_rfl) (by kernel_rfl) (fun _ _ _ h => h) (by rfl) (by assumption) ?_ ?_
            rotate_left
            · ((intro w hSw; (try dsimp only at hSw); go_simp); all_goals with_reducible rfl)
            try simp only [Act.put, List.setIfInBounds_toArray, List.set_cons_zero, List.set_cons_succ]
            refine tk_take 30 121 (v := ?_) rfl rfl (by kernel_rfl) (by kernel_rfl) (by kernel_rfl) (fun _ _ _ h => h) (by rfl) (by assumption) ?_ ?_
            rotate_left
            · ((intro w hSw; (try dsimp only at hSw); go_simp); all_goals with_reducible rfl)
            try simp only [Act.put, List.setIfInBounds_toArray, List.set_cons_zero, List.set_cons_succ]
            refine tk_take 31 122 (v := ?_) rfl rfl (by kernel_rfl) (by kernel_rfl) (by kernel_rfl) (fun _ _ _ h => h) (by rfl) (by assumption) ?_ ?_
            rotate_left
            · ((intro w hSw; (try dsimp only at hSw); go_simp); all_goals with_reducible rfl)
            try simp only [Act.put, List.setIfInBounds_toArray, List.set_cons_zero, List.set_cons_succ]
            refine tk_take 32 123 (v := ?_) rfl rfl (by kernel_rfl) (by kernel_rfl) (by kernel_rfl) (fun _ _ _ h => h) (by rfl) (by assumption) ?_ ?_
            rotate_left
            · ((intro w hSw; (try dsimp only at hSw); go_simp); all_goals with_reducible rfl)
            try simp only [Act.put, List.setIfInBounds_toArray, List.set_cons_zero, List.set_cons_succ]
            refine tk_skip 33 124 rfl rfl (by kernel_rfl) (by kernel_rfl) (by kernel_rfl) (fun _ _ _ h => h) (by rfl) (by assumption) ?_
            try simp only [Act.put, List.setIfInBounds_toArray, List.set_cons_zero, List.set_cons_succ]
            refine tk_skip 34 125 rfl rfl (by kernel_rfl) (by kernel_rfl) (by kernel_rfl) (fun _ _ _ h => h) (by rfl) (by assumption) ?_
            try simp only [Act.put, List.setIfInBounds_toArray, List.set_cons_zero, List.set_cons_succ]
            refine tk_skip 35 126 rfl rfl (by kernel_rfl) (by kernel_rfl) (by kernel_rfl) (fun _ _ _ h => h) (by rfl) (by assumption) ?_
            try simp only [Act.put, List.setIfInBounds_toArray, List.set_cons_zero, List.set_cons_succ]
            refine tk_take 36 127 (v := ?_) rfl rfl (by kernel_rfl) (by kernel_rfl) (by kernel_rfl) (fun _ _ _ h => h) (by rfl) (by assumption) ?_ ?_
            rotate_left
            · ((intro w hSw; (try dsimp only at hSw); go_simp); all_goals with_reducible rfl)
            try simp only [Act.put, List.setIfInBounds_toArray, List.set_cons_zero, List.set_cons_succ]
            refine tk_take 37 128 (v := ?_) rfl rfl (by kernel_rfl) (by kernel_rfl) (by kernel_rfl) (fun _ _ _ h => h) (by rfl) (by assumption) ?_ ?_
            rotate_left
            · ((intro w hSw; (try dsimp only at hSw); go_simp); all_goals with_reducible rfl)
            try simp only [Act.put, List.setIfInBounds_toArray, List.set_cons_zero, List.set_cons_succ]
            refine tk_take 38 129 (v := ?_) rfl rfl (by kernel_rfl) (by kernel_rfl) (by kernel_rfl) (fun _ _ _ h => h) (by rfl) (by assumption) ?_ ?_
            rotate_left
            · ((intro w hSw; (try dsimp only at hSw); go_simp); all_goals with_reducible rfl)
            try simp only [Act.put, List.setIfInBounds_toArray, List.set_cons_zero, List.set_cons_succ]
            refine tk_take 39 130 (v := ?_) rfl rfl (by kernel_rfl) (by kernel_rfl) (by kernel_rfl) (fun _ _ _ h => h) (by rfl) (by assumption) ?_ ?_
            rotate_left
            · ((intro w hSw; (try dsimp only at hSw); go_simp); all_goals with_reducible rfl)
            try simp only [Act.put, List.setIfInBounds_toArray, List.set_cons_zero, List.set_cons_succ]
            refine tk_take 40 131 (v := ?_) rfl rfl (by kernel_rfl) (by kernel_rfl) (by kernel_rfl) (fun _ _ _ h => h) (by rfl) (by assumption) ?_ ?_
            rotate_left
            · ((intro w hSw; (try dsimp only at hSw); go_simp); all_goals with_reducible rfl)
            try simp only [Act.put, List.setIfInBounds_toArray, List.set_cons_zero, List.set_cons_succ]
            refine wpAnyH_ready (rs := [41]) (by kernel_rfl) (by simp) ?_
            refine AllReadyH.cons rfl (fun K hK => ?_) AllReadyH.nil
            go_simp
            refine (same29 (Below.refl _ _) T8.out.got HCG.out T8.out.p.m HC2.out (by omega)).mono ?_
            rintro e v2 ⟨rfl, hb⟩
            have T9 := Aside0.mk (T8.out.below hb)
            have hS2 := HY.out v2 T9.out
            clear hb hS1
            try go_wp2_with fail
            refine hK.out _ _ hS2 (fun hHeld => ?_)
            clear hK K
            try simp only [Act.put, List.setIfInBounds_toArray, List.set_cons_zero, List.set_cons_succ]
            refine tk_take 42 133 (v := ?_) rfl rfl (by kernel_rfl) (by kernel_rfl) (by kernel_rfl) (fun _ _ _ h => h) (by rfl) (by assumption) ?_ ?_
            rotate_left
            · ((intro w hSw; (try dsimp only at hSw); go_simp); all_goals with_reducible rfl)
            try simp only [Act.put, List.setIfInBounds_toArray, List.set_cons_zero, List.set_cons_succ]
            refine tk_take 43 134 (v := ?_) rfl rfl (by kernel_rfl) (by kernel_rfl) (by kernel_rfl) (fun _ _ _ h => h) (by rfl) (by assumption) ?_ ?_
            rotate_left
            · ((intro w hSw; (try dsimp only at hSw); go_simp); all_goals with_reducible rfl)
            try simp only [Act.put, List.setIfInBounds_toArray, List.set_cons_zero, List.set_cons_succ]
            refine tk_take 44 135 (v := ?_) rfl rfl (by kernel_rfl) (by kernel_rfl) (by kernel_rfl) (fun _ _ _ h => h) (by rfl) (by assumption) ?_ ?_
            rotate_left
            · ((intro w hSw; (try dsimp only at hSw); go_simp); all_goals with_reducible rfl)
            try simp only [Act.put, List.setIfInBounds_toArray, List.set_cons_zero, List.set_cons_succ]
            refine tk_take 45 136 (v := ?_) rfl rfl (by kernel_rfl) (by kernel_rfl) (by kernel_rfl) (fun _ _ _ h => h) (by rfl) (by assumption) ?_ ?_
            rotate_left
            · ((intro w hSw; (try dsimp only at hSw); go_simp); all_goals with_reducible rfl)
            try simp only [Act.put, List.setIfInBounds_toArray, List.set_cons_zero, List.set_cons_succ]
            refine tk_take 46 137 (v := ?_) rfl rfl (by kernel_rfl) (by kernel_rfl) (by kernel_rfl) (fun _ _ _ h => h) (by rfl) (by assumption) ?_ ?_
            rotate_left
            · ((intro w hSw; (try dsimp only at hSw); go_simp); all_goals with_reducible rfl)
            try simp only [Act.put, List.setIfInBounds_toArray, List.set_cons_zero, List.set_cons_succ]
            refine tk_take 47 138 (v := ?_) rfl rfl (by kernel_rfl) (by kernel_rfl) (by kernel_rfl) (fun _ _ _ h => h) (by rfl) (by assumption) ?_ ?_
            rotate_left
            · ((intro w hSw; (try dsimp only at hSw); go_simp); all_goals with_reducible rfl)
            try simp only [Act.put, List.setIfInBounds_toArray, List.set_cons_zero, List.set_cons_succ]
            refine tk_take 48 139 (v := ?_) rfl rfl (by kernel_rfl) (by kernel_rfl) (by kernel_rfl) (fun _ _ _ h => h) (by rfl) (by assumption) ?_ ?_
            rotate_left
            · ((intro w hSw; (try dsimp only at hSw); go_simp); all_goals with_reducible rfl)
            try simp only [Act.put, List.setIfInBounds_toArray, List.set_cons_zero, List.set_cons_succ]
            refine wpAnyH_ready (rs := [49]) (by kernel_rfl) (by simp) ?_
            refine AllReadyH.cons rfl (fun K hK => ?_) AllReadyH.nil
            go_simp
            refine (tocsinref16_Window.calls (l'.length + 1) _ c2 l' fr tt _ _ T9.out.p.m HC2.out (ref_window l' fr tt (by omega))).mono ?_
            rintro e v3 ⟨vv, rfl, hR, hb⟩
            rw [HQW.out] at hR
            obtain ⟨A9, c9, rfl, hc9, hC9⟩ := Kd.R_reads hR
            have T10 := Aside0.mk (T9.out.below hb)
            have C10 := Aside0.mk (And.intro hc9 hC9)
            have hS3 := HY.out v3 T10.out
            clear hb hR hc9 hC9 hS2
            try go_wp2_with fail
            refine hK.out _ _ hS3 (fun hHeld => ?_)
            clear hK K
            try simp only [Act.put, List.setIfInBounds_toArray, List.set_cons_zero, List.set_cons_succ]
            refine wpAnyH_ready (rs := [50]) (by kernel_rfl) (by simp) ?_
            refine AllReadyH.cons rfl (fun K hK => ?_) AllReadyH.nil
            go_simp
            refine (same29 (Below.refl _ _) T10.out.win HCW.out C10.out.2 C10.out.1 (by omega)).mono ?_
            rintro e v4 ⟨rfl, hb⟩
            have T11 := Aside0.mk (T10.out.below hb)
            have hS4 := HY.out v4 T11.out
            clear hb hS3
            try go_wp2_with fail
            refine hK.out _ _ hS4 (fun hHeld => ?_)
            clear hK K
            try simp only [Act.put, List.setIfInBounds_toArray, List.set_cons_zero, List.set_cons_succ]
            refine tk_take 51 142 (v := ?_) rfl rfl (by kernel_rfl) (by kernel_rfl) (by kernel_rfl) (fun _ _ _ h => h) (by rfl) (by assumption) ?_ ?_
            rotate_left
            · ((intro w hSw; (try dsimp only at hSw); go_simp); all_goals with_reducible rfl)
            try simp only [Act.put, List.setIfInBounds_toArray, List.set_cons_zero, List.set_cons_succ]
            refine tk_take 52 143 (v := ?_) rfl rfl (by kernel_rfl) (by kernel_rfl) (by kernel_rfl) (fun _ _ _ h => h) (by rfl) (by assumption) ?_ ?_
            rotate_left
            · ((intro w hSw; (try dsimp only at hSw); go_simp); all_goals with_reducible rfl)
            try simp only [Act.put, List.setIfInBounds_toArray, List.set_cons_zero, List.set_cons_succ]
            refine wpAnyH_done (by kernel_rfl) ?_ _
            all_goals (go_wp2_with fail; go_meet; exact ⟨rfl, T11⟩)
        case rest =>
          obtain ⟨rfl, T11⟩ := hcut
          have P0 := Aside0.mk T11.out.p
          have O0 := Aside0.mk T11.out.own
          clear T7 T11 HQW HCW HCG LS
          go_wp2_with fail
          go_loopw [18] (fun i W => ∃ j : Nat, i = .int .i64 (j : Int) ∧ j ≤ q.length ∧ Aside0 (PW w g cs' first' l' A2 l' W) ∧ Aside0 (0 < q.length → ∃ b, Aw = some ⟨b, 0, none⟩ ∧ OB w g A2 l' b q.length W)) (fun i _ => q.length - (intOf i).toNat)
          case atStart => exact ⟨0, rfl, Nat.zero_le _, P0, O0⟩
          case round =>
            clear P0 O0
            obtain ⟨j, rfl, hj, P, O⟩ := hrel
            by_cases hjq : j < q.length
            · obtain ⟨b, hAw, o⟩ := O.out (by omega)
              obtain ⟨ad3, had⟩ : ∃ a : Addr, a = ⟨b, 0, none⟩ := ⟨_, rfl⟩
              rw [← had] at hAw
              subst hAw
              obtain ⟨⟨u0, k0⟩, ⟨u1, k1⟩, q0, q1⟩ := o.at' hjq had
              have HO := Aside0.mk (fun u v => o.put P.out had j u v)
              have HE := Aside0.mk had
              have k2 : (wr.setCell (ad3.add (j * 2)) (.int .i64 (-1))).cell? ⟨(ad3.add (j * 2)).block, (ad3.add (j * 2)).off + 1, none⟩ = some u1 := (World.cell?_setCell_other _ _ _ _ (by rw [had, add0]; intro e; injection e with _ e _; have e2 : j * 2 = j * 2 + 1 := (by first | exact e | exact e.symm); omega)).trans k1
              have q2 : (wr.setCell (ad3.add (j * 2)) (.int .i64 (-1))).frozen? ⟨(ad3.add (j * 2)).block, (ad3.add (j * 2)).off + 1, none⟩ = false := by rw [World.frozen?_setCell]; exact q1
              clear o had O P
              go_wp2_with fail
              go_roundw
              case rel => exact ⟨j + 1, by go_num, by omega, ⟨(HO.out _ _).1⟩, ⟨fun _ => ⟨b, by rw [HE.out], (HO.out _ _).2⟩⟩⟩
              case measure => simp [intOf]; omega
            · go_wp2_with fail
              go_roundw
              case rel => exact ⟨k + 1, cs', first', l', _, c2, by go_num, by omega, rfl, HC2.out, U, P⟩
              case measure => simp [intOf]; omega)
    · obtain rfl : k = l0.length := by omega
      clear hlt hk HR
      go_wp2_with fail
      refine (awake_any wr).mono ?_
      rintro e w1 ⟨rfl, hb⟩
      have B := Aside0.mk (G.out.low.trans (hb.mono G.out.low.size))
      clear hb
      go_wp2_with fail
      go_ret
      exact ⟨rfl, B.out⟩
set_option maxRecDepth 100000 in
theorem RingPlays_walk (A0 : Option Addr) (c0 : Nat) (l0 : List SA) (fr tt : Int) (w : World) (hr0 : Kd.C kA w A0 l0.length l0) (_hc0 : l0.length ≤ c0) (_hw0 : wfAll (Try.prog.bytesOf 35) wfA l0) (_h1 : wfInt .i64 fr) (_h2 : wfInt .i64 tt) :
    Calls Try.prog 5 #[.slice A0 l0.length c0, .int .i64 fr, .int .i64 tt] w fun e w' => e = .returned (.bool true) ∧ Below w.heap.size w w' := by
  by_cases h : 300 < l0.length
  · have hd1 : decide ((300 : Int) < (l0.length : Int)) = true := decide_eq_true (by omega)
    clear hr0 _hc0 _hw0 _h1 _h2
    go_enter Try.func5, Try.ntmps5
    go_wp2_with fail
    go_ret
    exact ⟨rfl, Below.refl _ _⟩
  · exact rplay_few A0 c0 l0 fr tt w hr0 (by omega)
end Go.Proofs.Ytcaagnfhefkoiaa.Given
