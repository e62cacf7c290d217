/- What FrameReads does: the walk. -/
import Derived.LoopIn
import Derived.Test.YtcobdpkpefgdlaaTf
import Derived.Test.YtcobdpkpefgdlaaRefN
import Derived.Test.YtcobdpkpefgdlaaOpenS
namespace Go.Proofs.Ytcobdpkpefgdlaa.Given
open Go.RowKit Go.Shelf Go.Proofs.Ytcobdpkpefgdlaa.Cod Go.Proofs.Ytcobdpkpefgdlaa.Ex Go.Proofs.Ytcobdpkpefgdlaa.Pure Go.Proofs.Ytcobdpkpefgdlaa.Nx Go.Proofs.Ytcobdpkpefgdlaa.Rg Go.Proofs.YtcobdpkpefgdlaaW.PrintWords Go.Proofs.YtcobdpkpefgdlaaW.PrintLast
attribute [local go_sem] Oper.semAt_some nil32
/-- A row of bytes of one's own, at a place of it. -/
theorem OwnB.at' {B : Nat} {v : Value} {q : List Int} {W : World} (h : OwnB B v q W) {k : Nat} (hk : k < q.length) :
    ∃ g c x, v = .slice (some ⟨g, 0, none⟩) q.length c ∧ q[k]? = some x ∧ B ≤ g ∧ W.cell? ⟨g, k, none⟩ = some (.int .u8 x) ∧ W.frozen? ⟨g, k, none⟩ = false ∧ q.length ≤ c ∧
      ∀ y, OwnB B v (q.set k y) (W.setCell ⟨g, k, none⟩ (.int .u8 y)) ∧ Below B W (W.setCell ⟨g, k, none⟩ (.int .u8 y)) := by
  have h0 := h
  obtain ⟨hok, inner, ho, hr⟩ := h0
  rcases ho.2 with ⟨hv, hn⟩ | ⟨g, cap, cur, hv, hbg, hcell, _⟩
  · obtain ⟨A, c, e, _, _⟩ := Kd.R_reads h
    rw [e] at hv; injection hv with _ e2 _; omega
  · subst hv
    obtain ⟨_, hc, hC⟩ := Kd.R_reads' h
    obtain ⟨x, hx⟩ : ∃ x, q[k]? = some x := ⟨_, List.getElem?_eq_getElem hk⟩
    obtain ⟨ad, e, hcl⟩ := hC.2.2 (by omega)
    obtain rfl := Option.some.inj e
    obtain ⟨cs, hs, hK, hcc⟩ := hcl k x hx
    have hcs : cs[0]? = some (Value.int .u8 x) := by
      rw [show cs = [Value.int .u8 x] from hK]; rfl
    have h1 := hcc 0 _ hcs
    refine ⟨g, cap, x, rfl, hx, hbg, ?_, blk_frozen hcell k, hc, fun y => ⟨?_, (Below.refl B W).setCell (p := ⟨g, k, none⟩) hbg _⟩⟩
    · have e2 : (⟨g, 0, none⟩ : Addr).add (k * (Kd.int .u8).sz + 0) = ⟨g, k, none⟩ := by
        show Addr.add ⟨g, 0, none⟩ (k * 1 + 0) = _
        simp [Addr.add]; intro h; exact h.symm
      rw [e2] at h1; exact h1
    · have := (Kd.R_putg h (k : Int) y).1
      rw [Int.toNat_natCast] at this
      exact this
/-- What lies about in the law's world: the two boxes, the copy, the record that is looked for. -/
structure RS (w : World) (st : Int) (vm vw : Value) (xs q : List Int) (W : World) : Prop where
  b : Below w.heap.size w W
  k0 : W.heap[w.heap.size]? = some (.cells #[.int .i64 st] 3 (0, 0))
  k1 : W.heap[w.heap.size + 1]? = some (.cells #[.bool false] 4 (0, 0))
  m : OwnB (w.heap.size + 2) vm xs W
  q : OwnB (w.heap.size + 2) vw q W
theorem RS.below {w : World} {st : Int} {vm vw : Value} {xs q : List Int} {W W1 : World} (h : RS w st vm vw xs q W) (hb : Below W.heap.size W W1) : RS w st vm vw xs q W1 :=
  ⟨h.b.trans (hb.mono h.b.size), (hb.block _ (blk_lt h.k0)).trans h.k0, (hb.block _ (blk_lt h.k1)).trans h.k1, Kd.R_below h.m hb, Kd.R_below h.q hb⟩
theorem next_q {xs : List Int} (hx : isB xs) : (nextT (nextL xs)).1.length ≤ 65536 := by
  cases h : nextL xs with
  | none => exact Nat.zero_le _
  | some p => obtain ⟨p, m⟩ := p; obtain ⟨r, _, _, hp⟩ := nextL_some hx h; exact hp
theorem two_al (w : World) (a b : Obj) : ((w.alloc a).alloc b).heap[w.heap.size]? = some a ∧ ((w.alloc a).alloc b).heap[w.heap.size + 1]? = some b ∧ ((w.alloc a).alloc b).heap.size = w.heap.size + 2 ∧ Below w.heap.size w ((w.alloc a).alloc b) := by
  refine ⟨?_, ?_, by simp only [World.size_alloc], ((Below.refl _ w).alloc (Nat.le_refl _) a).alloc (by rw [World.size_alloc]; omega) b⟩
  all_goals
    show ((w.heap.push a).push b)[_]? = _
    simp only [Array.getElem?_push, Array.size_push]
    simp
theorem res6 {tmps : Array Value} {W : World} {a : Addr} {v0 : Value} (h : tmps.getD 4 undef = .pointer (some a)) (c0 : W.cell? a = some v0) : (results Try.f6 tmps).run Try.prog W = .ok v0 W := by
  have h' : tmps[4]?.getD undef = .pointer (some a) := by simpa using h
  simp [results, h', asAddr, loadVar, Sem.run_bind, Try.isAgg4, c0, go_sem]
theorem recsL_small : ∀ (n : Nat) {b : List Int}, b.length ≤ n → isB b → (recsL b).length ≤ b.length ∧ ∀ p ∈ recsL b, p.length ≤ 65536
  | 0, b, hn, hb => by
    have : b = [] := List.length_eq_zero_iff.1 (by omega)
    subst this
    rw [(wholeL_none (b := []) rfl).2]; exact ⟨Nat.le_refl _, fun p hp => by cases hp⟩
  | n + 1, b, hn, hb => by
    cases h : nextL b with
    | none => rw [(wholeL_none h).2]; exact ⟨Nat.zero_le _, fun p hp => by cases hp⟩
    | some x =>
      obtain ⟨p, m⟩ := x
      obtain ⟨r, hbr, hm, hp⟩ := nextL_some hb h
      have hlen := congrArg List.length hbr
      have hpos := frameL_pos p
      rw [List.length_append] at hlen
      obtain ⟨i1, i2⟩ := recsL_small n (b := b.drop m) (by rw [List.length_drop]; omega) (isB_drop hb _)
      rw [List.length_drop] at i1
      rw [recsL_step hb h]
      refine ⟨by rw [List.length_cons]; omega, fun x hx => ?_⟩
      rcases List.mem_cons.1 hx with rfl | hx
      · exact hp
      · exact i2 x hx
theorem OwnB.cells {B : Nat} {v : Value} {q : List Int} {W : World} (h : OwnB B v q W) {k : Nat} (hk : v.ownBlock = some k) : B ≤ k ∧ ∃ cs, W.heap[k]? = some (.cells cs 5 (0, 0)) := by
  refine ⟨h.blk k hk, ?_⟩
  obtain ⟨_, inner, ho, _⟩ := h
  rcases ho.2 with ⟨hv, hn⟩ | ⟨g, cap, cur, hv, hbg, hcell, _⟩
  · subst hv; cases hk
  · subst hv
    have : g = k := by simpa [Value.ownBlock] using hk
    subst this
    exact ⟨cur, hcell⟩
set_option maxHeartbeats 4000000 in
set_option maxRecDepth 100000 in
theorem reads_in (A : Option Addr) (c : Nat) (xs : List Int) (hx : isB xs) (hl : xs.length ≤ 20000) (hc : xs.length ≤ c) (st : Int) (w : World) (hr : Kd.C (Kd.int .u8) w A xs.length xs) :
    Calls Try.prog 6 #[.slice A xs.length c, .int .i64 st] w fun e w' => e = .returned (.bool true) ∧ Below w.heap.size w w' := by
  refine (callsIn_wide (n := 103)).1 ?_
  refine callsIn_of_wp_marks Try.func6 rfl trivial ?_ rfl
  simp only [Try.ntmps6, List.size_toArray, List.length_cons, List.length_nil, Nat.reduceAdd, Nat.reduceSub, Array.replicate_succ, Array.replicate_zero, List.push_toArray, List.append_toArray, List.nil_append, List.cons_append]
  have HR := Aside0.mk hr
  have HX := Aside0.mk hx
  clear hr hx
  have hd1 : decide ((20000 : Int) < (xs.length : Int)) = false := decide_eq_false (by omega)
  gi_wp2_with fail
  obtain ⟨V, hV⟩ : ∃ V, V = ((w.alloc (.cells #[.int .i64 st] 3)).alloc (.cells #[.bool false] 4)) := ⟨_, rfl⟩
  have hVz : V.heap.size = w.heap.size + 2 := by rw [hV, World.size_alloc, World.size_alloc]
  have v0 : V.heap[w.heap.size]? = some (.cells #[.int .i64 st] 3 (0, 0)) := by rw [hV]; exact (Below.heap_alloc _ _ _ (by rw [World.size_alloc]; omega)).trans (World.alloc_heap_new w _)
  have v1 : V.heap[w.heap.size + 1]? = some (.cells #[.bool false] 4 (0, 0)) := by
    have := World.alloc_heap_new (w.alloc (.cells #[.int .i64 st] 3)) (.cells #[.bool false] 4)
    rw [World.size_alloc] at this; rw [hV]; exact this
  have vB : Below w.heap.size w V := by rw [hV]; exact ((Below.refl _ _).alloc (Nat.le_refl _) _).alloc (by rw [World.size_alloc]; omega) _
  have HV := Aside0.mk (And.intro v0 (And.intro v1 (And.intro vB hVz)))
  rw [← hV]
  clear hV v0 v1 vB hVz
  refine ⟨trivial, callsIn_wide.2 ?_⟩
  refine (PBase.tocsinref04_Copy.calls A c xs xs V (Kd.C_below HR.out HV.out.2.2.1) hc (copy_some xs (by omega))).mono ?_
  rintro e w1 ⟨vm, rfl, hm, hb1⟩
  have M1 := Aside0.mk (And.intro hm hb1)
  clear hm hb1
  gi_wp2_with fail
  refine ⟨trivial, callsIn_wide.2 ?_⟩
  refine (PAll.tocsinref04_Next.calls 300000 A c xs (nextT (nextL xs)).1 (nextT (nextL xs)).2.1 (nextT (nextL xs)).2.2 w1 (Kd.C_below HR.out (HV.out.2.2.1.trans (M1.out.2.mono HV.out.2.2.1.size))) hc (rnext_some xs HX.out (by omega) (by omega))).mono ?_
  rintro e w2 ⟨vw, rfl, hm, hb1⟩
  have R2 : Aside0 (RS w st vm vw xs (nextT (nextL xs)).1 w2) := Aside0.mk (by
    have h1 := M1.out.2
    have hz := HV.out.2.2.2
    have h2 : Below V.heap.size V w2 := h1.trans (hb1.mono h1.size)
    refine ⟨HV.out.2.2.1.trans (h2.mono HV.out.2.2.1.size), (h2.block _ (blk_lt HV.out.1)).trans HV.out.1, (h2.block _ (blk_lt HV.out.2.1)).trans HV.out.2.1, ?_, ?_⟩
    · rw [← hz]; exact Kd.R_below M1.out.1 hb1
    · rw [← hz]; exact Kd.R_lower hm h1.size)
  clear hm hb1 M1 HV
  have HQ := Aside0.mk (next_q HX.out)
  have HNX := Aside0.mk (show frame_Next.f xs = some ((nextT (nextL xs)).1, (nextT (nextL xs)).2.1, (nextT (nextL xs)).2.2) from if_pos ⟨okB_of HX.out (by omega), by omega⟩)
  generalize nextT (nextL xs) = nx at *
  obtain ⟨q, used, fl⟩ := nx
  dsimp only at HQ HNX R2
  gi_wp2_with fail
  gi_loopw [9] (fun i wr => ∃ t : Nat, i = .int .i64 t ∧ t ≤ 2 ∧ Aside0 (RS w st vm vw xs q wr)) (fun i _ => 2 - (intOf i).toNat)
  case atStart => exact ⟨0, rfl, by omega, R2⟩
  case round =>
    clear R2
    obtain ⟨t, rfl, ht, RT⟩ := hrel
    by_cases hlt : t < 2
    · have hM := (Kd.R_reads RT.out.m)
      obtain ⟨Am, cm, rfl, hcm, hCm⟩ := hM
      have HCM := Aside0.mk (And.intro hcm hCm)
      clear hcm hCm
      gi_wp2_with fail
      refine ⟨trivial, callsIn_wide.2 ?_⟩
      refine (frame_Next.calls Am cm xs q used fl _ HCM.out.2 HCM.out.1 HNX.out).mono ?_
      rintro e w4 ⟨vp, rfl, hp, hb⟩
      obtain ⟨Ap, cp, rfl, hcp, hCp⟩ := Kd.R_reads hp
      have R4 := Aside0.mk (RT.out.below hb)
      have P4 := Aside0.mk (show OwnB wr.heap.size _ q w4 from hp)
      have C4 := Aside0.mk (And.intro hcp hCp)
      have hbw := Aside0.mk hb
      clear hp hb hcp hCp
      obtain ⟨Aw, cw, rfl, hcw, hCw⟩ := Kd.R_reads R4.out.q
      have CW := Aside0.mk (And.intro hcw hCw)
      clear hcw hCw
      gi_wp2_with fail
      refine ⟨trivial, callsIn_wide.2 ?_⟩
      refine (PBase.tocsinref04_Same.calls 70000 Ap cp q Aw cw q true w4 C4.out.2 C4.out.1 CW.out.2 CW.out.1 (by rw [same_some q q (by have := HQ.out; omega) (by have := HQ.out; omega), decide_eq_true rfl])).mono ?_
      rintro e w5 ⟨rfl, hd⟩
      have hd5 := Aside0.mk hd.below
      have R5 := Aside0.mk (R4.out.below hd.below)
      have P5 := Aside0.mk (show OwnB wr.heap.size _ q w5 from Kd.R_below P4.out hd.below)
      clear hd R4 P4 C4 CW HCM
      have B5 := Aside0.mk (show Below wr.heap.size wr w5 from hbw.out.trans (hd5.out.mono hbw.out.size))
      clear hbw R5
      clear hd5
      gi_wp2_with fail
      gi_loopw [13] (fun i W => ∃ (k : Nat) (q' : List Int), i = .int .i64 k ∧ k ≤ q.length ∧ q'.length = q.length ∧ Aside0 (OwnB wr.heap.size (.slice Ap q.length cp) q' W) ∧ Aside0 (Below wr.heap.size wr W)) (fun i _ => q.length - (intOf i).toNat)
      case atStart => exact ⟨0, q, rfl, by omega, rfl, P5, B5⟩
      case round =>
        clear P5 B5
        obtain ⟨k, q', rfl, hk, hq', P, B⟩ := hrel
        by_cases hkl : k < q.length
        · obtain ⟨g, cg, x, hv, hx, hg, f0, f1, hcg, hset⟩ := P.out.at' (k := k) (by omega)
          injection hv with e1 e2 e3
          clear e2
          subst e1 e3
          have HS := Aside0.mk hset
          have HQ' := Aside0.mk hq'
          clear hset hq' hx hg hcg
          gi_wp2_with fail
          rw [show wrap64 ((k : Int) + 1) = ((k + 1 : Nat) : Int) from by have := HQ.out; rw [w64 (by omega) (by omega)]; omega]
          go_roundw
          case rel => exact ⟨k + 1, q'.set k ((x + 1) % 256), rfl, by omega, by rw [List.length_set]; exact HQ'.out, Aside0.mk (HS.out _).1, Aside0.mk (B.out.trans (HS.out _).2)⟩
          case measure => simp [intOf]; omega
        · obtain rfl : k = q.length := by omega
          gi_wp2_with fail
          go_roundw
          case rel => exact ⟨t + 1, by go_num, by omega, Aside0.mk (RT.out.below B.out)⟩
          case measure => simp [intOf]; omega
    · obtain rfl : t = 2 := by omega
      have hM := (Kd.R_reads RT.out.m)
      obtain ⟨Am, cm, rfl, hcm, hCm⟩ := hM
      have HCM := Aside0.mk (And.intro hcm hCm)
      clear hcm hCm
      clear hlt ht
      gi_wp2_with fail
      refine ⟨trivial, callsIn_wide.2 ?_⟩
      refine (PAll.tocsinref04_All.calls 500000 A c xs (recsL xs) (wholeL xs : Int) _ (Kd.C_below HR.out RT.out.b) hc (rall_some xs HX.out (by omega) (by omega))).mono ?_
      rintro e w4 ⟨va, rfl, ha, hb⟩
      obtain ⟨Aa, ca, rfl, hca, hCa⟩ := Kd.S_reads ha
      have R4 := Aside0.mk (RT.out.below hb)
      have CA := Aside0.mk (And.intro hca hCa)
      have hbw := Aside0.mk hb
      clear ha hb hca hCa
      gi_wp2_with (refine ⟨trivial, ?_⟩; gi_at_call 19; refine (callsIn_wide.2 (all_any _ _ _ _)).mono ?_; rintro e w' ⟨rfl, rfl⟩)
      obtain ⟨V, hV⟩ : ∃ V, V = ((w4.alloc (.cells #[.slice Aa (recsL xs).length ca] 35)).alloc (.cells #[.slice Am xs.length cm] 22)) := ⟨_, rfl⟩
      have h2 := two_al w4 (.cells #[.slice Aa (recsL xs).length ca] 35) (.cells #[.slice Am xs.length cm] 22)
      rw [← hV] at h2
      rw [← hV]
      have H2 := Aside0.mk h2
      clear hV h2
      have HMV := Aside0.mk (Kd.C_below (Kd.C_below HCM.out.2 hbw.out) H2.out.2.2.2)
      refine ⟨trivial, callsIn_wide.2 ?_⟩
      refine (whole_in Am cm xs HX.out (by omega) HCM.out.1 V HMV.out).mono ?_
      rintro e w5 ⟨rfl, hB5⟩
      have R5 := Aside0.mk ((R4.out.below H2.out.2.2.2).below hB5)
      have KA := Aside0.mk ((hB5.block _ (blk_lt H2.out.1)).trans H2.out.1)
      have KM := Aside0.mk ((hB5.block _ (blk_lt H2.out.2.1)).trans H2.out.2.1)
      have HM5 := Aside0.mk (Kd.C_below HMV.out hB5)
      have HA5 := Aside0.mk (Kd.C_below (Kd.C_below CA.out.2 H2.out.2.2.2) hB5)
      clear hB5 H2 R4 RT HMV hbw
      gi_wp2
      obtain ⟨V, hV⟩ : ∃ V, V = w5.alloc (.cells #[.int .i64 0] 3) := ⟨_, rfl⟩
      have hVz : V.heap.size = w5.heap.size + 1 := by rw [hV, World.size_alloc]
      have vk : V.heap[w5.heap.size]? = some (.cells #[.int .i64 0] 3 (0, 0)) := by rw [hV]; exact World.alloc_heap_new w5 _
      have vB : Below w5.heap.size w5 V := by rw [hV]; exact (Below.refl _ _).alloc (Nat.le_refl _) _
      have HV := Aside0.mk (And.intro vk (And.intro vB hVz))
      rw [← hV]
      clear hV vk vB hVz
      have hAw : ∀ ad, Am = some ad → 0 < xs.length → ad.block < w5.heap.size := fun ad e hn => C_old HM5.out ad e hn
      have HSL := Aside0.mk (show ∀ k, (k = w4.heap.size + 1 ∨ ∃ ad, Am = some ad ∧ 0 < xs.length ∧ k = ad.block) → k < w5.heap.size from fun k hk => by
        rcases hk with rfl | ⟨ad, e, hn, rfl⟩
        · exact blk_lt KM.out
        · exact hAw ad e hn)
      clear hAw
      refine range_told rfl (by decide) (gf := 32) (lb := #[.pointer (some ⟨w4.heap.size + 1, 0, none⟩)]) rfl trivial (enters_of Try.func32 (by kernel_rfl) rfl)
        (all_gives Am cm xs HX.out (by omega) HCM.out.1 (w4.heap.size + 1) (fun k => k = w4.heap.size + 1 ∨ ∃ ad, Am = some ad ∧ 0 < xs.length ∧ k = ad.block) V.heap.size V ((HV.out.2.1.block _ (blk_lt KM.out)).trans KM.out) (.inl rfl) (Kd.C_below HM5.out HV.out.2.1) (fun ad e hn => .inr ⟨ad, e, hn, rfl⟩) (fun k hk => by have := HSL.out k hk; have := HV.out.2.2; omega) rfl)
        (fun _ {_ _ _} => Keep.trans) (fun x W' l' o o' hl' h ho => Keep.putObj (L := V.heap.size) (fun k hk => by have := HSL.out k hk; have := HV.out.2.2; omega) hl' h ho) (fun _ => rfl)
        (fun pre W' => W'.heap[w5.heap.size]? = some (.cells #[.int .i64 (pre.length : Int)] 3 (0, 0)) ∧ Below w5.heap.size w5 W')
        (fun c pre W' => c = Code.exit 4 ∧ ((pre.length : Int) = st) ∧ W'.heap[w5.heap.size]? = some (.cells #[.int .i64 (pre.length : Int)] 3 (0, 0)) ∧ Below w5.heap.size w5 W')
        (fun s X Y row hs hg hr => ⟨stay_row hs.1 (by have := HV.out.2.2; omega) hg hr, hs.2.grown hg hs.2.size (fun k e => by have := (hr k e).1; have := HV.out.2.2; omega)⟩)
        (fun _ s X Y row hs hg hr => ⟨hs.1, hs.2.1, stay_row hs.2.2.1 (by have := HV.out.2.2; omega) hg hr, hs.2.2.2.grown hg hs.2.2.2.size (fun k e => by have := (hr k e).1; have := HV.out.2.2; omega)⟩)
        (fun x s X Y row hs hg hr => OwnB.kept hs hg (fun r e => (hr r e).2))
        ⟨HV.out.1, HV.out.2.1⟩ ?act ?assign ?body ?done ?stop
      case assign =>
        intro l' x W' K hK
        dsimp only [enc1]
        gi_wp2
        exact hK
      case body =>
        rintro l' pre x W' hl' ⟨hk, hB⟩ hP hpre
        rw [List.map_append] at hpre
        obtain ⟨hlt, hat⟩ := prefix_at (x := x.2) (by simpa using hpre)
        rw [List.length_map] at hlt hat
        obtain ⟨A2, c2, hx1⟩ := hP.slice
        obtain ⟨v, p⟩ := x
        dsimp only at hx1 hat hP hpre
        subst hx1
        have hCq : Kd.C (Kd.int .u8) W' A2 p.length p := (Kd.R_reads' hP).2.2
        have hcq := (Kd.R_reads' hP).2.1
        have hka : W'.heap[w4.heap.size]? = some (.cells #[.slice Aa (recsL xs).length ca] 35 (0, 0)) := (hB.block _ (blk_lt KA.out)).trans KA.out
        have hks : W'.heap[w.heap.size]? = some (.cells #[.int .i64 st] 3 (0, 0)) := (hB.block _ (blk_lt R5.out.k0)).trans R5.out.k0
        obtain ⟨ad1, A3, c3, e1, hcell, hc3, hC3⟩ := PBase.at_L2 (Kd.C_below HA5.out hB) (pre.length : Int) (by omega) (by omega)
        subst e1
        rw [Int.toNat_natCast] at hcell
        have hrd : PBase.rd_L2 (recsL xs) (pre.length : Int) = p := by unfold PBase.rd_L2; rw [Int.toNat_natCast]; exact hat
        rw [hrd] at hcell hc3 hC3
        have hp6 : p.length ≤ 65536 := (recsL_small _ (Nat.le_refl _) HX.out).2 p (by rw [← hat, List.getD_eq_getElem?_getD, List.getElem?_eq_getElem hlt]; exact List.getElem_mem hlt)
        have hrl := (recsL_small _ (Nat.le_refl _) HX.out).1
        have hsame : PBase.tocsinref04_Same.f 1000001 p p = some true := by rw [same_some p p (by omega) (by omega), decide_eq_true rfl]
        have ck := blk_cell hk 0
        have cl := blk_cell hka 0
        have fk := blk_frozen hk 0
        have d1 : decide ((recsL xs).length ≤ pre.length) = false := decide_eq_false (by omega)
        have HF := Aside0.mk (And.intro hk (And.intro hB (And.intro hP hks)))
        have HQ2 := Aside0.mk (And.intro hCq (And.intro hcq (And.intro hC3 (And.intro hc3 hsame))))
        clear hk hB hP hks hCq hcq hC3 hc3 hsame hpre hat hrd hka
        gi_wp2_with (refine ⟨trivial, ?_⟩; gi_at_call 13; refine (CallsIn.inRound l' (callsIn_wide.2 (PBase.tocsinref04_Same.calls 1000001 A2 c2 p A3 c3 p true _ HQ2.out.1 HQ2.out.2.1 HQ2.out.2.2.1 HQ2.out.2.2.2.1 HQ2.out.2.2.2.2))).mono ?_; rintro e w' ⟨rfl, nd, rfl⟩)
        have XP := Aside0.mk (show OwnB V.heap.size (.slice A2 p.length c2) p (W'.drewN nd) from Kd.R_drewN HF.out.2.2.1 nd)
        have XE := Aside0.mk (show Ex (fun k => (Value.slice A2 p.length c2).ownBlock = some k) W' (W'.drewN nd) from (Ex.refl _ _).drewN nd)
        generalize W'.drewN nd = W6 at *
        clear ck cl fk hcell HQ2
        gi_loopw [19] (fun i W => ∃ (k : Nat) (q' : List Int), i = .int .i64 k ∧ k ≤ p.length ∧ q'.length = p.length ∧ Aside0 (OwnB V.heap.size (.slice A2 p.length c2) q' W) ∧ Aside0 (Ex (fun k => (Value.slice A2 p.length c2).ownBlock = some k) W' W)) (fun i _ => p.length - (intOf i).toNat)
        case atStart => exact ⟨0, p, rfl, by omega, rfl, XP, XE⟩
        case round =>
          clear XP XE
          obtain ⟨k, q', rfl, hk, hq', P, E⟩ := hrel
          by_cases hkl : k < p.length
          · obtain ⟨g, cg, x, hv, hx, hg, f0, f1, hcg, hset⟩ := P.out.at' (k := k) (by omega)
            injection hv with e1 e2 e3
            clear e2
            subst e1 e3
            have HS := Aside0.mk hset
            have HQ' := Aside0.mk hq'
            clear hset hq' hx hg hcg
            gi_wp2_with fail
            go_roundw
            case rel => exact ⟨k + 1, q'.set k ((x + 1) % 256), rfl, by omega, by rw [List.length_set]; exact HQ'.out, Aside0.mk (HS.out _).1, Aside0.mk (Ex.setCell (p := ⟨g, k, none⟩) E.out (fun _ => rfl) _)⟩
            case measure => simp [intOf]; omega
          · obtain rfl : k = p.length := by omega
            have hown : ∀ j, (Value.slice A2 p.length c2).ownBlock = some j → V.heap.size ≤ j := fun j hj => (HF.out.2.2.1.cells hj).1
            have hvz := HV.out.2.2
            have hk0 := E.out.heap HF.out.1 (fun e => by have := hown _ e; omega)
            have hs0 := E.out.heap HF.out.2.2.2 (fun e => by have := hown _ e; have := blk_lt R5.out.k0; omega)
            have hlw : w.heap.size < w5.heap.size := blk_lt R5.out.k0
            have hne1 : w.heap.size ≠ w5.heap.size := by omega
            have hne2 : w5.heap.size ≠ w.heap.size := by omega
            have ck := blk_cell hk0 0
            have fk := blk_frozen hk0 0
            have cs := blk_cell hs0 0
            have HK0 := Aside0.mk hk0
            clear hown hk0 hs0 hvz
            have hset : ∀ j : Nat, j ≠ w5.heap.size → (wr.setCell ⟨w5.heap.size, 0, none⟩ (.int .i64 ((pre.length : Int) + 1))).heap[j]? = wr.heap[j]? := fun j hne => Below.heap_setCell _ ⟨w5.heap.size, 0, none⟩ _ j hne
            have hput := blk_put HK0.out 0 (.int .i64 ((pre.length : Int) + 1)) rfl
            have HSET := Aside0.mk hset
            have HPUT := Aside0.mk hput
            clear hset hput
            have FIN := Aside0.mk (show KeepsFrom V.heap.size W' (wr.setCell ⟨w5.heap.size, 0, none⟩ (.int .i64 ((pre.length : Int) + 1))) ∧ Keep (fun k => k = w4.heap.size + 1 ∨ ∃ ad, Am = some ad ∧ 0 < xs.length ∧ k = ad.block) V.heap.size (.slice A2 p.length c2) W' (wr.setCell ⟨w5.heap.size, 0, none⟩ (.int .i64 ((pre.length : Int) + 1))) ∧ Below w5.heap.size w5 (wr.setCell ⟨w5.heap.size, 0, none⟩ (.int .i64 ((pre.length : Int) + 1))) from by
              have hown := fun j hj => HF.out.2.2.1.cells (k := j) hj
              have hvz := HV.out.2.2
              have hlt' : ∀ (j : Nat) {o : Obj}, W'.heap[j]? = some o → j < W'.heap.size := fun j o h => blk_lt h
              refine ⟨⟨?_, fun j o hj ho hc => ?_⟩, ⟨fun j hj => ?_, fun j o hj hv ho hc => ?_⟩, ?_⟩
              · rw [World.size_setCell]; exact E.out.size
              · rw [HSET.out j (by omega)]
                refine E.out.heap ho (fun e => ?_)
                obtain ⟨_, cs', hcs⟩ := hown j e
                rw [hcs] at ho; cases ho; cases hc
              · have h1 := HSL.out j hj
                rw [HSET.out j (by omega)]
                exact E.out.block j (by have := HF.out.2.1.size; omega) (fun e => by have := (hown j e).1; omega)
              · rw [HSET.out j (by omega)]
                exact E.out.heap ho hv
              · exact (HF.out.2.1.trans (E.out.below HF.out.2.1.size (fun j hj => by have := (hown j hj).1; omega))).setCell (p := ⟨w5.heap.size, 0, none⟩) (Nat.le_refl _) _)
            by_cases hst : (pre.length : Int) + 1 = st
            · have hb : ((pre.length : Int) + 1 == st) = true := by rw [hst]; exact beq_self_eq_true _
              gi_wp2_with fail
              have hl1 : ((pre ++ [((Value.slice A2 p.length c2, p) : E1)]).length : Int) = (pre.length : Int) + 1 := by rw [List.length_append]; rfl
              have fin := FIN.out
              have hpt := HPUT.out
              rw [hst] at fin hpt
              exact ⟨fin.1, rfl, hl1.trans hst, by rw [hl1, hst]; exact hpt, fin.2.2⟩
            · have hb : ((pre.length : Int) + 1 == st) = false := beq_eq_false_iff_ne.mpr hst
              gi_wp2_with fail
              have hl1 : ((pre ++ [((Value.slice A2 p.length c2, p) : E1)]).length : Int) = (pre.length : Int) + 1 := by rw [List.length_append]; rfl
              exact ⟨FIN.out.1, FIN.out.2.1, by show _ = some (Obj.cells #[.int .i64 ((pre ++ [((Value.slice A2 p.length c2, p) : E1)]).length : Int)] 3 (0, 0)); rw [hl1]; exact HPUT.out, FIN.out.2.2⟩
      case done =>
        rintro D ys W' hD hys ⟨hk, hB⟩ hK
        have hlen : ys.length = (recsL xs).length := by rw [← hys, List.length_map]
        have hka : W'.heap[w4.heap.size]? = some (.cells #[.slice Aa (recsL xs).length ca] 35 (0, 0)) := (hB.block _ (blk_lt KA.out)).trans KA.out
        have hkr : W'.heap[w.heap.size + 1]? = some (.cells #[.bool false] 4 (0, 0)) := (hB.block _ (blk_lt R5.out.k1)).trans R5.out.k1
        have ck := blk_cell hk 0
        have cl := blk_cell hka 0
        have cr := blk_cell hkr 0
        have fr := blk_frozen hkr 0
        rw [hlen] at ck
        have d1 : (((recsL xs).length : Int) == ((recsL xs).length : Int)) = true := beq_self_eq_true _
        have HF := Aside0.mk (And.intro hkr (And.intro hB (And.intro hD hK)))
        have HS := Aside0.mk (And.intro (Kd.C_below HM5.out hB) (Kd.C_below (Kd.C_below HR.out R5.out.b) hB))
        clear hk hka hkr hB hlen hys hD hK
        gi_wp2_with (refine ⟨trivial, ?_⟩; gi_at_call 13; refine (callsIn_wide.2 (PBase.tocsinref04_Same.calls 70000 Am cm xs A c xs true _ HS.out.1 HCM.out.1 HS.out.2 hc (by rw [same_some xs xs (by omega) (by omega), decide_eq_true rfl]))).mono ?_; rintro e w' ⟨rfl, nd, rfl⟩)
        obtain ⟨hkr, hB, hD, hK⟩ := HF.out
        have hvz := HV.out.2.2
        have hlw := blk_lt R5.out.k1
        have hK2 : ((W'.drewN nd).setCell ⟨w.heap.size + 1, 0, none⟩ (.bool true)).heap[D]? = some (.deferred (some [])) := (Below.heap_setCell (W'.drewN nd) ⟨w.heap.size + 1, 0, none⟩ _ D (by show D ≠ w.heap.size + 1; omega)).trans hK
        have hr2 := blk_put (show (W'.drewN nd).heap[w.heap.size + 1]? = some (.cells #[.bool false] 4 (0, 0)) from hkr) 0 (.bool true) rfl
        have hb2 : Below w.heap.size w ((W'.drewN nd).setCell ⟨w.heap.size + 1, 0, none⟩ (.bool true)) := ((R5.out.b.trans (hB.mono R5.out.b.size)).trans ((show Drawn0 W' (W'.drewN nd) from ⟨⟨nd, rfl⟩⟩).below.mono (R5.out.b.trans (hB.mono R5.out.b.size)).size)).setCell (p := ⟨w.heap.size + 1, 0, none⟩) (by show w.heap.size ≤ w.heap.size + 1; omega) _
        refine ⟨by simp, .inl ⟨_, _, rfl, run_takeDeferred hK2, ?_⟩⟩
        exact ⟨_, res6 rfl (blk_cell ((World.putObj_heap_other (by omega)).trans hr2) 0), rfl, hb2.trans (belowK_b (w := w) (Nat.le_refl _) _ D _ _ (by omega) hK2 rfl rfl)⟩
      case stop =>
        rintro D c' pre W' hD hpre ⟨rfl, hst, hk, hB⟩ hK
        have hka : W'.heap[w4.heap.size]? = some (.cells #[.slice Aa (recsL xs).length ca] 35 (0, 0)) := (hB.block _ (blk_lt KA.out)).trans KA.out
        have hkr : W'.heap[w.heap.size + 1]? = some (.cells #[.bool false] 4 (0, 0)) := (hB.block _ (blk_lt R5.out.k1)).trans R5.out.k1
        have hks : W'.heap[w.heap.size]? = some (.cells #[.int .i64 st] 3 (0, 0)) := (hB.block _ (blk_lt R5.out.k0)).trans R5.out.k0
        rw [hst] at hk
        have ck := blk_cell hk 0
        have cl := blk_cell hka 0
        have cr := blk_cell hkr 0
        have cs := blk_cell hks 0
        have fr := blk_frozen hkr 0
        have HF := Aside0.mk (And.intro hkr (And.intro hB (And.intro hD hK)))
        have HS := Aside0.mk (And.intro (Kd.C_below HM5.out hB) (Kd.C_below (Kd.C_below HR.out R5.out.b) hB))
        have d2 : (st == st) = true := beq_self_eq_true _
        clear hk hka hkr hks hB hD hK hpre hst
        by_cases d : st = ((recsL xs).length : Int)
        · have d1 : (st == ((recsL xs).length : Int)) = true := by rw [d]; exact beq_self_eq_true _
          clear d
          gi_wp2_with (refine ⟨trivial, ?_⟩; gi_at_call 13; refine (callsIn_wide.2 (PBase.tocsinref04_Same.calls 70000 Am cm xs A c xs true _ HS.out.1 HCM.out.1 HS.out.2 hc (by rw [same_some xs xs (by omega) (by omega), decide_eq_true rfl]))).mono ?_; rintro e w' ⟨rfl, nd, rfl⟩)
          obtain ⟨hkr, hB, hD, hK⟩ := HF.out
          have hvz := HV.out.2.2
          have hlw := blk_lt R5.out.k1
          have hK2 : ((W'.drewN nd).setCell ⟨w.heap.size + 1, 0, none⟩ (.bool true)).heap[D]? = some (.deferred (some [])) := (Below.heap_setCell (W'.drewN nd) ⟨w.heap.size + 1, 0, none⟩ _ D (by show D ≠ w.heap.size + 1; omega)).trans hK
          have hr2 := blk_put (show (W'.drewN nd).heap[w.heap.size + 1]? = some (.cells #[.bool false] 4 (0, 0)) from hkr) 0 (.bool true) rfl
          have hb2 : Below w.heap.size w ((W'.drewN nd).setCell ⟨w.heap.size + 1, 0, none⟩ (.bool true)) := ((R5.out.b.trans (hB.mono R5.out.b.size)).trans ((show Drawn0 W' (W'.drewN nd) from ⟨⟨nd, rfl⟩⟩).below.mono (R5.out.b.trans (hB.mono R5.out.b.size)).size)).setCell (p := ⟨w.heap.size + 1, 0, none⟩) (by show w.heap.size ≤ w.heap.size + 1; omega) _
          refine ⟨by simp, .inl ⟨_, _, rfl, run_takeDeferred hK2, ?_⟩⟩
          exact ⟨_, res6 rfl (blk_cell ((World.putObj_heap_other (by omega)).trans hr2) 0), rfl, hb2.trans (belowK_b (w := w) (Nat.le_refl _) _ D _ _ (by omega) hK2 rfl rfl)⟩
        · have d1 : (st == ((recsL xs).length : Int)) = false := beq_eq_false_iff_ne.mpr d
          clear d
          gi_wp2_with (refine ⟨trivial, ?_⟩; gi_at_call 13; refine (callsIn_wide.2 (PBase.tocsinref04_Same.calls 70000 Am cm xs A c xs true _ HS.out.1 HCM.out.1 HS.out.2 hc (by rw [same_some xs xs (by omega) (by omega), decide_eq_true rfl]))).mono ?_; rintro e w' ⟨rfl, nd, rfl⟩)
          obtain ⟨hkr, hB, hD, hK⟩ := HF.out
          have hvz := HV.out.2.2
          have hlw := blk_lt R5.out.k1
          have hK2 : ((W'.drewN nd).setCell ⟨w.heap.size + 1, 0, none⟩ (.bool true)).heap[D]? = some (.deferred (some [])) := (Below.heap_setCell (W'.drewN nd) ⟨w.heap.size + 1, 0, none⟩ _ D (by show D ≠ w.heap.size + 1; omega)).trans hK
          have hr2 := blk_put (show (W'.drewN nd).heap[w.heap.size + 1]? = some (.cells #[.bool false] 4 (0, 0)) from hkr) 0 (.bool true) rfl
          have hb2 : Below w.heap.size w ((W'.drewN nd).setCell ⟨w.heap.size + 1, 0, none⟩ (.bool true)) := ((R5.out.b.trans (hB.mono R5.out.b.size)).trans ((show Drawn0 W' (W'.drewN nd) from ⟨⟨nd, rfl⟩⟩).below.mono (R5.out.b.trans (hB.mono R5.out.b.size)).size)).setCell (p := ⟨w.heap.size + 1, 0, none⟩) (by show w.heap.size ≤ w.heap.size + 1; omega) _
          refine ⟨by simp, .inl ⟨_, _, rfl, run_takeDeferred hK2, ?_⟩⟩
          exact ⟨_, res6 rfl (blk_cell ((World.putObj_heap_other (by omega)).trans hr2) 0), rfl, hb2.trans (belowK_b (w := w) (Nat.le_refl _) _ D _ _ (by omega) hK2 rfl rfl)⟩
set_option maxHeartbeats 4000000 in
set_option maxRecDepth 100000 in
theorem reads_long (A : Option Addr) (c : Nat) (xs : List Int) (hl : 20000 < xs.length) (st : Int) (w : World) :
    Calls Try.prog 6 #[.slice A xs.length c, .int .i64 st] w fun e w' => e = .returned (.bool true) ∧ Below w.heap.size w w' := by
  refine (callsIn_wide (n := 103)).1 ?_
  refine callsIn_of_wp_marks Try.func6 rfl trivial ?_ rfl
  simp only [Try.ntmps6, List.size_toArray, List.length_cons, List.length_nil, Nat.reduceAdd, Nat.reduceSub, Array.replicate_succ, Array.replicate_zero, List.push_toArray, List.append_toArray, List.nil_append, List.cons_append]
  have hd1 : decide ((20000 : Int) < (xs.length : Int)) = true := decide_eq_true (by omega)
  gi_wp2_with fail
  have h2 := two_al w (.cells #[.int .i64 st] 3) (.cells #[.bool true] 4)
  exact ⟨_, res6 rfl (blk_cell h2.2.1 0), rfl, h2.2.2.2⟩
theorem FrameReads_walk (A0 : Option Addr) (c0 : Nat) (l0 : List Int) (st : Int) (w : World) (hr0 : Kd.C (Kd.int .u8) w A0 l0.length l0) (hc0 : l0.length ≤ c0) (hw0 : OpenS.wfAll (Try.prog.bytesOf 5) (OpenS.wfInt .u8) l0) (_hs : OpenS.wfInt .i64 st) :
    Calls Try.prog 6 #[.slice A0 l0.length c0, .int .i64 st] w fun e w' => e = .returned (.bool true) ∧ Below w.heap.size w w' := by
  by_cases h : 20000 < l0.length
  · exact reads_long A0 c0 l0 h st w
  · exact reads_in A0 c0 l0 ((fun x hx => by
      have := hw0.2 x hx
      simp [OpenS.wfInt, Lit.wf, IntKind.min, IntKind.max, IntKind.bits, IntKind.signed] at this; omega)) (by omega) hc0 st w hr0
end Go.Proofs.Ytcobdpkpefgdlaa.Given
