/- What RingOrder does: the walk. -/
import Derived.Test.YtcaagnfhefkoiaaPo
namespace Go.Proofs.Ytcaagnfhefkoiaa.Given
open Go.RowKit Go.Proofs.Ytcaagnfhefkoiaa.Rg Go.Proofs.Ytcaagnfhefkoiaa.Ex Go.Proofs.Ytcaagnfhefkoiaa.PBase Go.Proofs.Ytcaagnfhefkoiaa.OpenS Go.Proofs.YtcaagnfhefkoiaaW.PrintWords Go.Proofs.YtcaagnfhefkoiaaW.PrintLast Go.Proofs.YtcaagnfhefkoiaaW.PrintMore
theorem KM29 (W : World) (base : Nat) (okp : Nat → Prop) : ∀ x cs, k29.K W x cs → k29.M W base okp x cs := fun x cs h => by rw [k29_open h]; exact k29_mkM _ _ _ x
theorem R_empty {W : World} {base g : Nat} (h : W.heap[g]? = some (.cells #[] 29 (0, 0))) (hb : base ≤ g) : Kd.R k29 29 W base (fun _ => True) (.slice (some ⟨g, 0, none⟩) 0 0) ([] : List S29) :=
  R_rows ⟨rfl, .inr ⟨g, 0, #[], rfl, hb, h, Nat.le_refl _, by decide, rfl, rfl⟩⟩
theorem win_to {W : World} {g : Nat} {cs : Array Value} {first : Nat} {l : List S29} (h : RAt W g cs first l) (fr tt : Int) :
    Calls Try.prog 14 #[.pointer (some ⟨g, 0, none⟩), .int .i64 fr, .int .i64 tt] W fun e w' => ∃ A c q, q = winF fr tt l ∧ e = .returned (.slice A q.length c) ∧ q.length ≤ c ∧ q.length ≤ 32 ∧ Kd.C k29 w' A q.length q ∧ Below W.heap.size W w' :=
  (window_in (h.isRing (S := fun k => k < W.heap.size) h.lt) fr tt).mono fun _ _ ⟨⟨_, he, hr⟩, hb⟩ => by
    obtain ⟨A, c, rfl, hc, hC⟩ := Kd.R_reads hr
    exact ⟨A, c, _, rfl, he, hc, Nat.le_trans (List.length_filter_le ..) h.rb.le, hC, hb⟩
set_option maxHeartbeats 4000000 in
set_option maxRecDepth 100000 in
theorem rord_few (A0 : Option Addr) (c0 : Nat) (l0 : List SA) (a b c : Int) (w : World) (hr0 : Kd.C kA w A0 l0.length l0) (h : l0.length ≤ 300) :
    Calls Try.prog 7 #[.slice A0 l0.length c0, .int .i64 a, .int .i64 b, .int .i64 c] w fun e w' => e = .returned (.bool true) ∧ Below w.heap.size w w' := by
  have HR := Aside0.mk hr0
  have hd1 : decide ((300 : Int) < (l0.length : Int)) = false := decide_eq_false (by omega)
  clear hr0
  go_enter Try.func7, Try.ntmps7
  go_wp2_with fail
  refine (new_some w).mono ?_
  rintro e w1 ⟨g, cs, rfl, hg, hr, hb⟩
  have G1 := Aside0.mk (show GW w g cs 0 [] none [] (.slice none 0 0) [] w1 from ⟨hr, Kd.C_nil _ _, Kd.R_nil _ _ _ _ (fun _ => True), (fun e => by cases e), (fun ad e => by cases e), hb⟩)
  have HG := Aside0.mk hg
  clear hr hb hg
  go_wp2_with fail
  go_loopw [12, 10, 11] (fun i vp gn W => ∃ (k gone : Nat) (cs : Array Value) (first : Nat) (ps : List S29), i = .int .i64 (k : Int) ∧ k ≤ l0.length ∧ gn = .int .i64 (gone : Int) ∧ gone ≤ ps.length ∧ ps.length ≤ k ∧ Aside0 (Up (ps.drop gone)) ∧ Aside0 (GW w g cs first (ps.drop gone) none [] vp ps W)) (fun i _ _ _ => l0.length - (intOf i).toNat)
  case atStart => exact ⟨0, 0, cs, 0, [], rfl, by omega, rfl, by simp, by simp, ⟨.nil⟩, G1⟩
  case round =>
    clear G1
    obtain ⟨k, gone, cs, first, ps, rfl, hk, rfl, hgo, hps, U, G⟩ := hrel
    by_cases hlt : k < l0.length
    · obtain ⟨x, ad, hx, rfl, f0, f1, f2⟩ := at_act (Kd.C_below HR.out G.out.low) k hlt
      have HX := Aside0.mk hx
      clear hx
      cases hxb : x.b with
      | true =>
        rw [hxb] at f0
        have HP := Aside0.mk (G.out.expire HG.out (fun ad e => by cases e) x.x.f0)
        have hd2 := exp_drop (ps.drop gone) x.x.f0
        have hle2 := exp_le (ps.drop gone) x.x.f0
        have hld : (ps.drop gone).length = ps.length - gone := List.length_drop
        rw [List.drop_drop] at hd2
        have HU := Aside0.mk (U.out.exp x.x.f0)
        obtain ⟨j, hj⟩ : ∃ j, (ps.drop gone).length - (expF (ps.drop gone) x.x.f0).length = j := ⟨_, rfl⟩
        rw [hj] at HP hd2
        rw [← hd2] at HP HU
        have hj2 : gone + j ≤ ps.length := by omega
        clear hxb hd2 hle2 hld hj G U
        go_wp2_with fail
        refine HP.out.mono ?_
        rintro e w2 ⟨rfl, cs', first', h2⟩
        have G2 := Aside0.mk h2
        clear h2 HP
        go_wp2_with fail
        go_roundw
        case rel => exact ⟨k + 1, gone + j, cs', first', ps, by go_num, by omega, by go_num, hj2, by omega, HU, G2⟩
        case measure => simp [intOf]; omega
      | false =>
        rw [hxb] at f0
        rcases push_cases U.out x.x with ⟨v, hv, hp⟩ | ⟨hp, hu⟩
        · have HP := Aside0.mk (G.out.push HG.out (fun ad e => by cases e) x.x hp)
          have hvb : (v == 0) = false := beq_eq_false_iff_ne.2 hv
          clear hxb hp hv G
          go_wp2_with fail
          refine HP.out.mono ?_
          rintro e w2 ⟨rfl, cs', h2⟩
          have G2 := Aside0.mk h2
          clear h2 HP
          go_wp2_with fail
          go_roundw
          case rel => exact ⟨k + 1, gone, cs', first, ps, by go_num, by omega, rfl, hgo, by omega, U, G2⟩
          case measure => simp [intOf]; omega
        · have HP := Aside0.mk (G.out.push HG.out (fun ad e => by cases e) x.x hp)
          have HU := Aside0.mk hu
          have hda : ps.drop gone ++ [x.x] = (ps ++ [x.x]).drop gone := (List.drop_append_of_le_length hgo).symm
          rw [hda] at HP HU
          clear hxb hp hu hda G U
          go_wp2_with fail
          refine HP.out.mono ?_
          rintro e w2 ⟨rfl, cs', h2⟩
          obtain ⟨x', ad', hx', e', k0, k1, k2⟩ := at_act (Kd.C_below HR.out h2.low) k hlt
          obtain rfl := Option.some.inj e'
          obtain rfl : x' = x := by have h9 := HX.out; rw [hx'] at h9; exact Option.some.inj h9
          have G2 := Aside0.mk h2
          clear h2 HP hx' f0 f1 f2
          go_wp2_with ((with_reducible refine gate_builtin (b := .append) (xs := #[.tmp 51, .tmp 57]) rfl ?_); at_builtin; (refine Kd.R_append k29 (w0 := w) w.heap.size rfl (.tmp 51) (.tmp 57) 36 29 (.agg #[(.int .i64 0), (.int .i64 0)]) 16 rfl Try.underlying36 info29 rfl (by decide) (by omega) _ ps x'.x [.int .i64 x'.x.f0, .int .i64 x'.x.f1] (fun _ => True) (fun _ => False) rfl rfl ?aP (fun _ hk => hk.elim) (fun _ _ => trivial) ?aO ?aB ?aS ?aL ?_; (case aP => exact k29_mkM _ _ _ x'.x); (case aO => exact G2.out.q); (case aB => exact G2.out.low); (case aS => exact G2.out.low.size); (case aL => omega); intro v9 w9 ho hb hg hat; have G9 := Aside0.mk (G2.out.grew ho hb hg hat); clear ho hb hg hat))
          go_wp2_with fail
          go_roundw
          case rel => exact ⟨k + 1, gone, cs', first, ps ++ [x'.x], by go_num, by omega, rfl, by rw [List.length_append]; omega, by rw [List.length_append]; simp; omega, HU, G9⟩
          case measure => simp [intOf]; omega
    · obtain rfl : k = l0.length := by omega
      clear hlt hk HR
      obtain ⟨Ap, cp, rfl, hcp, hCp⟩ := Kd.R_reads G.out.q
      have CP := Aside0.mk hCp
      have UL := Aside0.mk U.out
      have hle := G.out.r.rb.le
      clear hCp
      go_wp2_with fail
      refine (allf_in (G.out.r.isRing (S := fun k => k < wr.heap.size) G.out.r.lt)).mono ?_
      rintro e w2 ⟨⟨vg, rfl, hrg⟩, hbg⟩
      obtain ⟨Ag, cg, rfl, hcg, hCg⟩ := Kd.R_reads hrg
      have R2 := Aside0.mk (G.out.r.below hbg)
      have B2 := Aside0.mk (G.out.low.trans (hbg.mono G.out.low.size))
      have CG := Aside0.mk (And.intro hcg hCg)
      have CP2 := Aside0.mk (Kd.C_drop (c := cp) (Kd.C_below CP.out hbg) hgo hcp)
      obtain ⟨i0, hi, _, hsz, _⟩ := info_parts info29
      have hcut := cut_from (P := Try.prog) 36 29 .i64 Try.underlying36 hi 2 hsz Ap ps.length cp (gone : Int) (by omega) (by omega)
      rw [Int.toNat_natCast] at hcut
      have hld : (ps.drop gone).length = ps.length - gone := List.length_drop
      rw [← hld] at hcut
      rw [show gone * k29.sz = gone * 2 from rfl] at CP2
      have hcc : (ps.drop gone).length ≤ cp - gone := by omega
      generalize (if cp = gone then Ap else Ap.map fun x => x.add (gone * 2)) = A' at *
      have hz0 : decide ((gone : Int) < 0) = false := decide_eq_false (by omega)
      have hz1 : decide ((ps.length : Int) < (gone : Int)) = false := decide_eq_false (by omega)
      have hz1n : decide (ps.length < gone) = false := decide_eq_false (by omega)
      clear hrg hbg hcg hCg CP hi hsz G U
      generalize hlr : ps.drop gone = lr at *
      clear hlr hld
      go_wp2_with fail
      refine (same29 (Below.refl _ _) CG.out.2 CG.out.1 CP2.out hcc (by omega)).mono ?_
      rintro e w3 ⟨rfl, hb3⟩
      have R3 := Aside0.mk (R2.out.below hb3)
      have B3 := Aside0.mk (B2.out.trans (hb3.mono B2.out.size))
      have C3 := Aside0.mk (Kd.C_below CG.out.2 hb3)
      clear hb3 CG CP2 R2 B2 hcut hcc hcp
      go_wp2_with fail
      go_loopw [15] (fun i W => ∃ k : Nat, i = .int .i64 ((k : Int) + 1) ∧ k ≤ lr.length ∧ Aside0 (RAt W g cs first lr) ∧ Aside0 (Below w.heap.size w W) ∧ Aside0 (Kd.C k29 W Ag lr.length lr)) (fun i _ => lr.length + 1 - (intOf i).toNat)
      case atStart => exact ⟨0, rfl, Nat.zero_le _, R3, B3, C3⟩
      case round =>
        clear R3 B3 C3
        obtain ⟨k, rfl, hk, R, B, C⟩ := hrel
        by_cases hkl : k + 1 < lr.length
        · obtain ⟨x, hx⟩ : ∃ x, lr[k]? = some x := ⟨_, List.getElem?_eq_getElem (by omega)⟩
          obtain ⟨y, hy⟩ : ∃ y, lr[k + 1]? = some y := ⟨_, List.getElem?_eq_getElem (by omega)⟩
          obtain ⟨ad, rfl, p0, _⟩ := at_T29 C.out (k : Int) (by omega) (by omega)
          obtain ⟨ad', e', q0, _⟩ := at_T29 C.out ((k + 1 : Nat) : Int) (by omega) (by omega)
          obtain rfl := Option.some.inj e'
          rw [rd_get hx, Int.toNat_natCast] at p0
          rw [rd_get hy, Int.toNat_natCast] at q0
          have hxy : x.f0 ≤ y.f0 := by
            obtain ⟨h1, rfl⟩ := List.getElem?_eq_some_iff.1 hx
            obtain ⟨h2, rfl⟩ := List.getElem?_eq_some_iff.1 hy
            exact List.pairwise_iff_getElem.1 UL.out k (k + 1) h1 h2 (by omega)
          have hdx : decide (y.f0 < x.f0) = false := decide_eq_false (by omega)
          have hdk : decide ((k : Int) + 1 < (lr.length : Int)) = true := decide_eq_true (by omega)
          clear hx hy
          go_upto_region 19 with (fail)
          have hwk : IntKind.i64.wrap ((k : Int) + 1 - 1) = (k : Int) := by rw [show (k : Int) + 1 - 1 = (k : Int) by omega]; exact wr64 _ (by omega) (by omega)
          have hwk2 : IntKind.i64.wrap (k : Int) = (k : Int) := wr64 _ (by omega) (by omega)
          have hi1 : (k : Int) < (lr.length : Int) := by omega
          have hi2 : k < lr.length := by omega
          have hi3 : (k : Int) + 1 < (lr.length : Int) := by omega
          have hi4 : (0 : Int) ≤ (k : Int) + 1 := by omega
          have hi5 : k + 1 < lr.length := by omega
          have hS0 : wr.drew.cell? (ad.add (k * 2)) = some (.int .i64 x.f0) ∧ wr.drew.cell? (ad.add ((k + 1) * 2)) = some (.int .i64 y.f0) := ⟨p0, q0⟩
          clear p0 q0
          go_region_held3 (fun W' : World => W'.cell? (ad.add (k * 2)) = some (.int .i64 x.f0) ∧ W'.cell? (ad.add ((k + 1) * 2)) = some (.int .i64 y.f0)) (first | assumption | go_keep) (fail)
          go_wp2_with fail
          go_roundw
          case rel => exact ⟨k + 1, by go_num, by omega, ⟨R.out.drew⟩, ⟨B.out.drew⟩, ⟨Kd.C_drew C.out⟩⟩
          case measure => simp [intOf]; omega
        · have hdk : decide ((k : Int) + 1 < (lr.length : Int)) = false := decide_eq_false (by omega)
          go_upto_region 21 with (fail)
          clear hdk hkl C
          rcases Int.lt_or_le b a with h1 | h1
          all_goals rcases Int.lt_or_le c b with h2 | h2
          all_goals rcases Int.lt_or_le c a with h3 | h3
          all_goals first | (exfalso; omega) | skip
          all_goals (
            have e1 : (decide (b < a) = true ∧ decide (a < b) = false) ∨ decide (b < a) = false := by
              rcases Int.lt_or_le b a with h | h
              · exact .inl ⟨decide_eq_true h, decide_eq_false (by omega)⟩
              · exact .inr (decide_eq_false (by omega))
            have e2 : (decide (c < b) = true ∧ decide (b < c) = false) ∨ decide (c < b) = false := by
              rcases Int.lt_or_le c b with h | h
              · exact .inl ⟨decide_eq_true h, decide_eq_false (by omega)⟩
              · exact .inr (decide_eq_false (by omega))
            have e3 : (decide (c < a) = true ∧ decide (a < c) = false) ∨ decide (c < a) = false := by
              rcases Int.lt_or_le c a with h | h
              · exact .inl ⟨decide_eq_true h, decide_eq_false (by omega)⟩
              · exact .inr (decide_eq_false (by omega))
            rcases e1 with ⟨e1, e1'⟩ | e1 <;> rcases e2 with ⟨e2, e2'⟩ | e2 <;> rcases e3 with ⟨e3, e3'⟩ | e3
            all_goals first | (exfalso; simp at e1 e2 e3; omega) | skip
            go_wp2_with fail
            have hal : Below wr.heap.size wr (wr.alloc (.cells #[] 29)) := (Below.refl _ _).alloc (Nat.le_refl _) _
            have hGE := Aside0.mk (show GW w g cs first lr none [] (.slice (some ⟨wr.heap.size, 0, none⟩) 0 0) [] (wr.alloc (.cells #[] 29)) from ⟨R.out.below hal, Kd.C_nil _ _, R_empty (blk_new _ _) B.out.size, (fun e => by have e2 : wr.heap.size = g := Option.some.inj e; have := R.out.lt; omega), (fun ad e => by cases e), B.out.trans (hal.mono B.out.size)⟩)
            clear hal
            refine (win_to hGE.out.r _ _).mono ?_
            rintro e w5 ⟨A5, c5, q5, hq5, rfl, hc5, hl5, hC5, hb5⟩
            have HQ5 := Aside0.mk hq5
            have C5 := Aside0.mk (And.intro hc5 hC5)
            have G5 := Aside0.mk (hGE.out.below hb5)
            clear hq5 hc5 hC5 hb5 hGE
            go_wp2_with ((with_reducible refine gate_builtin (b := .append) (xs := #[.tmp 117, .tmp 121]) rfl ?_); at_builtin; (refine Kd.R_append_rows k29 (w0 := w) w.heap.size rfl (.tmp 117) (.tmp 121) 36 29 (.agg #[(.int .i64 0), (.int .i64 0)]) 16 rfl Try.underlying36 info29 rfl (by decide) (by omega) _ ([] : List S29) q5 A5 _ c5 (fun _ => True) (fun _ => False) rfl rfl G5.out.q C5.out.2 (KM29 _ _ _) (fun _ h => h.elim) (fun _ _ => trivial) G5.out.low G5.out.low.size ?aL ?_; (case aL => simp; omega); intro v6 w6 ho hb hg hat; have ho2 : Kd.R k29 29 w6 w.heap.size (fun _ => True) v6 q5 := ho; have G6 := Aside0.mk (G5.out.grew ho2 hb hg hat); clear ho ho2 hb hg hat))
            go_wp2_with fail
            refine (win_to G6.out.r _ _).mono ?_
            rintro e w7 ⟨A7, c7, q7, hq7, rfl, hc7, hl7, hC7, hb7⟩
            have HQ7 := Aside0.mk hq7
            have C7 := Aside0.mk (And.intro hc7 hC7)
            have G7 := Aside0.mk (G6.out.below hb7)
            clear hq7 hc7 hC7 hb7 G5 G6 C5
            obtain ⟨q8, hq8⟩ : ∃ q, q = q5 ++ q7 := ⟨_, rfl⟩
            have hl8 : q8.length ≤ 64 := by rw [hq8, List.length_append]; omega
            have HQ8 := Aside0.mk hq8
            clear hq8
            go_wp2_with ((with_reducible refine gate_builtin (b := .append) (xs := #[.tmp 123, .tmp 127]) rfl ?_); at_builtin; (refine Kd.R_append_rows k29 (w0 := w) w.heap.size rfl (.tmp 123) (.tmp 127) 36 29 (.agg #[(.int .i64 0), (.int .i64 0)]) 16 rfl Try.underlying36 info29 rfl (by decide) (by omega) _ q5 q7 A7 _ c7 (fun _ => True) (fun _ => False) rfl rfl G7.out.q C7.out.2 (KM29 _ _ _) (fun _ h => h.elim) (fun _ _ => trivial) G7.out.low G7.out.low.size ?aL ?_; (case aL => omega); intro v8 w8 ho hb hg hat; rw [← HQ8.out] at ho; have G8 := Aside0.mk (G7.out.grew ho hb hg hat); clear ho hb hg hat))
            obtain ⟨A8, c8, e8, hc8, hC8⟩ := Kd.R_reads G8.out.q
            subst e8
            have C8 := Aside0.mk (And.intro hc8 hC8)
            clear hc8 hC8
            go_wp2_with fail
            refine (win_to G8.out.r _ _).mono ?_
            rintro e w9 ⟨A9, c9, q9, hq9, rfl, hc9, hl9, hC9, hb9⟩
            have heq : q9 = q8 := by rw [hq9, HQ8.out, HQ5.out, HQ7.out]; exact win_meet UL.out (by omega) (by omega)
            subst heq
            have HS := Aside0.mk (same29 (Below.refl _ w9) hC9 hc9 (Kd.C_below C8.out.2 hb9) C8.out.1 (by omega))
            have G9 := Aside0.mk (G8.out.below hb9)
            clear hq9 hc9 hC9 hb9
            go_wp2_with fail
            refine HS.out.mono ?_
            rintro e w10 ⟨rfl, hb10⟩
            have B10 := Aside0.mk (G9.out.low.trans (hb10.mono G9.out.low.size))
            clear hb10 HS
            go_wp2_with fail
            refine (awake_any w10).mono ?_
            rintro e w11 ⟨rfl, hb11⟩
            have B11 := Aside0.mk (B10.out.trans (hb11.mono B10.out.size))
            clear hb11
            go_wp2_with fail
            go_ret
            exact ⟨rfl, B11.out⟩)
set_option maxRecDepth 100000 in
theorem RingOrder_walk (A0 : Option Addr) (c0 : Nat) (l0 : List SA) (a b c : Int) (w : World) (hr0 : Kd.C kA w A0 l0.length l0) (_hc0 : l0.length ≤ c0) (_hw0 : wfAll (Try.prog.bytesOf 35) wfA l0) (_h1 : wfInt .i64 a) (_h2 : wfInt .i64 b) (_h3 : wfInt .i64 c) :
    Calls Try.prog 7 #[.slice A0 l0.length c0, .int .i64 a, .int .i64 b, .int .i64 c] w fun e w' => e = .returned (.bool true) ∧ Below w.heap.size w w' := by
  by_cases h : 300 < l0.length
  · have hd1 : decide ((300 : Int) < (l0.length : Int)) = true := decide_eq_true (by omega)
    clear hr0 _hc0 _hw0 _h1 _h2 _h3
    go_enter Try.func7, Try.ntmps7
    go_wp2_with fail
    refine (awake_any w).mono ?_
    rintro e w1 ⟨rfl, hb⟩
    have B := Aside0.mk hb
    clear hb
    go_wp2_with fail
    go_ret
    exact ⟨rfl, B.out⟩
  · exact rord_few A0 c0 l0 a b c w hr0 (by omega)
end Go.Proofs.Ytcaagnfhefkoiaa.Given
