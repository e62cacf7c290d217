/- What CodecOne does: the walk. -/
import Derived.Test.YtekbbpbpkekdhaaDec
import Derived.Test.YtekbbpbpkekdhaaFails
namespace Go.Proofs.Ytekbbpbpkekdhaa.Given
open Go.RowKit Go.Proofs.Ytekbbpbpkekdhaa.Cod Go.Proofs.Ytekbbpbpkekdhaa.Ex Go.Proofs.Ytekbbpbpkekdhaa.PBase Go.Proofs.Ytekbbpbpkekdhaa.OpenS Go.Proofs.YtekbbpbpkekdhaaW.PrintWords Go.Proofs.YtekbbpbpkekdhaaW.PrintLast Go.Proofs.YtekbbpbpkekdhaaW.PrintMore
/-- What a reading leaves, whatever came of it. -/
structure Told (b g : Nat) (w : World) (xs : List Int) (f : Bool) (y : S29) (A4 : Option Addr) (c4 : Nat) (A1 : Option Addr) (c1 : Nat) (f' : Bool) (r : List Int) (w' : World) : Prop where
  ex : Ex (fun k => k = g) w w'
  cap : y.f4.length ≤ c4
  row : Kd.C (Kd.int .u8) w' A4 y.f4.length y.f4
  at' : RAt w' b g A1 c1 r f'
  blk : ∀ ad, A4 = some ad → ad.block = b
  ok : (toV y).ok
  step : (f' = true ∧ (form (toV y)).length ≤ 20 ∧ weigh y = 0) ∨ (f' = false ∧ f = false ∧ isB r ∧ xs = form (toV y) ++ r ∧ weigh y ≤ (form (toV y)).length)
theorem z0_ok (k : Int) : (toV (z0 k)).ok := ok_mk k 0 0 false [] ⟨#[]⟩ 0 ⟨0, rfl, by omega⟩ (by omega) (by omega) (by omega) (by omega)
theorem told_of {b g : Nat} {w w' : World} {k m : Int} {xs : List Int} {f : Bool} {e : Ending} (hx : f = false → isB xs) (hk0 : 0 ≤ k) (hk5 : k ≤ 5) (hm : m ≤ 9223372036854775807) (h : DPost b g w k (dec k m xs f) e w') :
    ∃ y A4 c4 A1 c1 f' r, e = .returned ((toV y).agg A4 c4) ∧ Told b g w xs f y A4 c4 A1 c1 f' r w' := by
  cases hd : dec k m xs f with
  | none =>
    rw [hd] at h
    obtain ⟨hex, he, A1, c1, r, hr⟩ := h
    refine ⟨z0 k, none, 0, A1, c1, true, r, he, hex, Nat.le_refl _, C_nil _, hr, (fun ad e => by cases e), z0_ok k, .inl ⟨rfl, ?_, rfl⟩⟩
    have := form_len (z0_ok k)
    have h0 : (toV (z0 k)).l.length + (toV (z0 k)).s.size = 0 := rfl
    omega
  | some p =>
    obtain ⟨y, r⟩ := p
    obtain ⟨hf, hr⟩ := dec_isB hx hd
    subst hf
    have hd2 := hd
    rw [hd] at h
    obtain ⟨hex, A4, c4, A1, c1, he, hcap, hrow, hat, hblk⟩ := h
    have hd3 : decS k m xs = some (y, r) := hd2
    obtain ⟨e1, e2, e3⟩ := dec_form (hx rfl) hk0 hk5 hm hd3
    exact ⟨y, A4, c4, A1, c1, false, r, he, hex, hcap, hrow, hat, fun ad e => (hblk ad e).2.1, e2, .inr ⟨rfl, rfl, hr, e1, e3⟩⟩
theorem done60 {w : World} {b g : Nat} {A : Option Addr} {c : Nat} {xs : List Int} {f : Bool} (h : RAt w b g A c xs f) (hf : f = true ∨ 0 < xs.length) : Calls Try.prog 26 #[.pointer (some ⟨g, 0, none⟩)] w fun e w' => e = .returned (.int .i64 60) ∧ w' = w := by
  have := done_any b g A c xs f w h
  rwa [if_pos hf] at this
theorem done0 {w : World} {b g : Nat} {A : Option Addr} {c : Nat} {xs : List Int} {f : Bool} (h : RAt w b g A c xs f) (hf : ¬ (f = true ∨ 0 < xs.length)) : Calls Try.prog 26 #[.pointer (some ⟨g, 0, none⟩)] w fun e w' => e = .returned (.int .i64 0) ∧ w' = w := by
  have := done_any b g A c xs f w h
  rwa [if_neg hf] at this
/-- A reader and a writer beside one another. -/
structure RW (B b g g2 : Nat) (l0 : List Int) (n : Nat) (A : Option Addr) (c : Nat) (xs : List Int) (f : Bool) (v : Value) (ws : List Int) (w : World) : Prop where
  r : RAt w b g A c xs f
  w : WAt w B g2 v ws
  gB : g < B
  same : f = false → isB xs ∧ ws ++ xs = l0
  len : ws.length ≤ 20000 + 20 * n
/-- A reading, and a writing of what was read. -/
theorem RW.step {B b g g2 : Nat} {l0 : List Int} {n : Nat} {A : Option Addr} {c : Nat} {xs : List Int} {f : Bool} {v : Value} {ws : List Int} {w w1 : World} (h : RW B b g g2 l0 n A c xs f v ws w) (hl0 : l0.length ≤ 20000)
    {y : S29} {A4 : Option Addr} {c4 : Nat} {A1 : Option Addr} {c1 : Nat} {f' : Bool} {r : List Int} (t : Told b g w xs f y A4 c4 A1 c1 f' r w1) :
    (WAt w1 B g2 v ws ∧ ws.length + (toV y).l.length + (toV y).s.size + 10 ≤ 100000 + 20 * n ∧ ∀ ad, A4 = some ad → 0 < y.f4.length → ¬ (ad.block = g2 ∨ some ad.block = v.ownBlock)) ∧
    ∀ w2 v1, Wrote B g2 v w1 (ws ++ form (toV y)) v1 w2 → RW B b g g2 l0 (n + 1) A1 c1 r f' v1 (ws ++ form (toV y)) w2 := by
  have hgB := h.gB
  have hlow := h.r.low
  have hg2 := h.w.low
  have hown := h.w.own_ge
  have hg : g2 ≠ g := by omega
  have hw1 : WAt w1 B g2 v ws := h.w.ex t.ex (by omega) (fun k hk e => by have := hown k hk; omega)
  have hwe : (toV y).l.length + (toV y).s.size = weigh y := rfl
  refine ⟨⟨hw1, ?_, ?_⟩, fun w2 v1 hw => ⟨?_, hw.at', hgB, ?_, ?_⟩⟩
  · rcases t.step with ⟨_, _, h0⟩ | ⟨_, hf, _, he, hle⟩
    · have := h.len; omega
    · have := (h.same hf).2
      have e1 := congrArg List.length this
      rw [he, List.length_append, List.length_append] at e1
      omega
  · intro ad e _ hc
    have hb := t.blk ad e
    rcases hc with hc | hc
    · omega
    · have := hown _ hc.symm; omega
  · refine t.at'.ex hw.ex (fun e => e.elim (fun e => by omega) (fun e => by have := hown _ e.symm; omega)) (fun ad e hc => ?_)
    have hb := (t.at'.far ad e).2.2.1
    exact hc.elim (fun e => by omega) (fun e => by have := hown _ e.symm; omega)
  · intro hf
    rcases t.step with ⟨h1, _⟩ | ⟨_, hf2, hr, he, _⟩
    · rw [hf] at h1; cases h1
    · refine ⟨hr, ?_⟩
      rw [List.append_assoc, ← he]; exact (h.same hf2).2
  · rw [List.length_append]
    rcases t.step with ⟨_, h20, _⟩ | ⟨_, hf, _, he, hle⟩
    · have := h.len; omega
    · have := (h.same hf).2
      have e1 := congrArg List.length this
      rw [he, List.length_append, List.length_append] at e1
      omega
/-- What a reading and a writing of it leave. -/
def OneNext (B b g g2 : Nat) (l0 : List Int) (n : Nat) (w : World) (e : Ending) (w2 : World) : Prop :=
  e = .returned (.tuple #[]) ∧ ∃ A c xs f v ws, RW B b g g2 l0 n A c xs f v ws w2 ∧ Below w.heap.size w w2
def OnePost (B b g g2 : Nat) (l0 : List Int) (n : Nat) (w : World) (e : Ending) (w1 : World) : Prop :=
  ∃ y A4 c4, e = .returned ((toV y).agg A4 c4) ∧ ∀ W, Below w1.heap.size w1 W → Calls Try.prog 16 #[.pointer (some ⟨g2, 0, none⟩), (toV y).agg A4 c4] W (OneNext B b g g2 l0 n w)
theorem RW.below {B b g g2 : Nat} {l0 : List Int} {n : Nat} {A : Option Addr} {c : Nat} {xs : List Int} {f : Bool} {v : Value} {ws : List Int} {w w1 : World} (h : RW B b g g2 l0 n A c xs f v ws w) (hb : Below w.heap.size w w1) : RW B b g g2 l0 n A c xs f v ws w1 :=
  ⟨h.r.below hb, h.w.below hb, h.gB, h.same, h.len⟩
theorem Told.below {b g : Nat} {w : World} {xs : List Int} {f : Bool} {y : S29} {A4 : Option Addr} {c4 : Nat} {A1 : Option Addr} {c1 : Nat} {f' : Bool} {r : List Int} {w1 w2 : World} (t : Told b g w xs f y A4 c4 A1 c1 f' r w1) (hb : Below w1.heap.size w1 w2) : Told b g w xs f y A4 c4 A1 c1 f' r w2 :=
  ⟨t.ex.trans (Ex.of_below hb _), t.cap, Kd.C_below t.row hb, t.at'.below hb, t.blk, t.ok, t.step⟩
theorem one_call {B b g g2 : Nat} {l0 : List Int} {n : Nat} {A : Option Addr} {c : Nat} {xs : List Int} {f : Bool} {v : Value} {ws : List Int} {w wr : World} (h : RW B b g g2 l0 n A c xs f v ws wr) (hl0 : l0.length ≤ 20000) (hn : n ≤ 300)
    (hw : Below w.heap.size w wr) (hb : w.heap.size ≤ b) {k m : Int} (hk0 : 0 ≤ k) (hk5 : k ≤ 5) (hm : m ≤ 9223372036854775807) (W : World) (hW : Below wr.heap.size wr W) :
    Calls Try.prog 21 #[.pointer (some ⟨g, 0, none⟩), .int .u8 k, .int .i64 m] W (OnePost B b g g2 l0 (n + 1) w) := by
  have hR := h.below hW
  have hBW : Below w.heap.size w W := hw.trans (hW.mono hw.size)
  refine (read_any b g A c xs f k m W hR.r (fun hf => (hR.same hf).1) hk0 hk5 hm).mono fun e w1 hp => ?_
  obtain ⟨y, A4, c4, A1, c1, f', r, he, ht⟩ := told_of (fun hf => (hR.same hf).1) hk0 hk5 hm hp
  refine ⟨y, A4, c4, he, fun W2 hW2 => ?_⟩
  have ht2 := ht.below hW2
  obtain ⟨⟨s1, s2, s3⟩, s4⟩ := hR.step hl0 ht2
  have hlow := hR.r.low
  have hB1 : Below w.heap.size w W2 := hBW.trans (ht2.ex.below (by have := hBW.size; omega) (fun k e => by omega))
  refine (write_any B g2 v ws (toV y) A4 c4 W2 s1 ht2.ok ht2.row s3 (by omega)).mono ?_
  rintro e w3 ⟨rfl, v1, h3⟩
  exact ⟨rfl, A1, c1, r, f', v1, _, s4 w3 v1 h3, hB1.trans (h3.below s1 (by have := hR.gB; omega))⟩
set_option maxHeartbeats 4000000 in
set_option maxRecDepth 100000 in
theorem one_few (A0 : Option Addr) (c0 : Nat) (l0 : List Int) (A1 : Option Addr) (c1 : Nat) (l1 : List SA) (w : World) (hr0 : Kd.C (Kd.int .u8) w A0 l0.length l0) (hc0 : l0.length ≤ c0) (hr1 : Kd.C kA w A1 l1.length l1) (hb0 : isB l0) (hv1 : ∀ x ∈ l1, wfA x)
    (h : l0.length ≤ 20000) (h2 : l1.length ≤ 300) : Calls Try.prog 11 #[.slice A0 l0.length c0, .slice A1 l1.length c1] w fun e w' => e = .returned (.bool true) ∧ Below w.heap.size w w' := by
  have HR := Aside0.mk hr0
  have HR1 := Aside0.mk hr1
  have V1 := Aside0.mk hv1
  have X0 := Aside0.mk hb0
  have hd1 : decide ((20000 : Int) < (l0.length : Int)) = false := decide_eq_false (by omega)
  have hd2 : decide ((300 : Int) < (l1.length : Int)) = false := decide_eq_false (by omega)
  clear hr0 hr1 hv1 hb0
  go_enter Try.func11, Try.ntmps11
  go_wp2_with fail
  refine (awake_any w).mono ?_
  rintro e w0 ⟨rfl, hb⟩
  have B0 := Aside0.mk hb
  clear hb
  go_wp2_with fail
  refine (over_any A0 l0.length c0 l0 w0 (Kd.C_below HR.out B0.out) (by omega)).mono ?_
  rintro e w1 ⟨b, g, A2, c2, rfl, hbb, hr, hB⟩
  have R1 := Aside0.mk hr
  have BB := Aside0.mk (show w.heap.size ≤ b by have := B0.out.size; omega)
  have B1 := Aside0.mk (B0.out.trans (hB.mono B0.out.size))
  clear hr hbb hB B0
  go_wp2_with fail
  refine (new_any w1).mono ?_
  rintro e w2 ⟨rfl, hw2⟩
  have N2 := Aside0.mk hw2
  clear hw2
  have HW0 := Aside0.mk (show RW w1.heap.size b g w1.heap.size l0 0 A2 c2 l0 false (.slice none 0 0) [] w2 from by
    rw [N2.out]
    exact ⟨R1.out.below ((Below.refl _ _).alloc (Nat.le_refl _) _), WAt.new w1 (Nat.le_refl _), R1.out.lt, fun _ => ⟨X0.out, rfl⟩, by simp⟩)
  have B2 := Aside0.mk (show Below w.heap.size w w2 by rw [N2.out]; exact B1.out.alloc B1.out.size _)
  have G1 := Aside0.mk (show w.heap.size ≤ w1.heap.size from B1.out.size)
  clear R1 B1 N2 X0
  generalize w1.heap.size = g2 at *
  go_wp2_with fail
  go_loopw [7] (fun i wr => ∃ (k : Nat) (f : Bool) (A : Option Addr) (c : Nat) (xs : List Int) (v : Value) (ws : List Int), i = .int .i64 k ∧ k ≤ l1.length ∧ Aside0 (RW g2 b g g2 l0 k A c xs f v ws wr) ∧ Aside0 (Below w.heap.size w wr)) (fun i _ => l1.length - (intOf i).toNat)
  case atStart => exact ⟨0, false, A2, c2, l0, _, _, rfl, Nat.zero_le _, HW0, B2⟩
  case round =>
    clear HW0 B2
    obtain ⟨k, f, A, c, xs, v, ws, rfl, hk, R, BW⟩ := hrel
    by_cases hlt : k < l1.length
    · obtain ⟨x, ad, hx, rfl, f0, f1⟩ := at_ask (Kd.C_below HR1.out BW.out) k hlt
      have hwx := V1.out x (List.mem_of_getElem? hx)
      have HWX := Aside0.mk hwx
      clear hx hwx
      have hstay := Aside0.mk (show RW g2 b g g2 l0 (k + 1) A c xs f v ws wr from ⟨R.out.r, R.out.w, R.out.gB, R.out.same, by have := R.out.len; omega⟩)
      by_cases h5 : 5 < x.f0
      · have hd5 : decide (x.f0 ≤ 5) = false := decide_eq_false (by omega)
        go_wp2_with fail
        go_roundw
        case rel => exact ⟨k + 1, f, A, c, xs, v, ws, by go_num, by omega, hstay, BW⟩
        case measure => simp [intOf]; omega
      · have hd5 : decide (x.f0 ≤ 5) = true := decide_eq_true (by omega)
        by_cases hdone : f = true ∨ 0 < xs.length
        · have HD := Aside0.mk (done60 R.out.r hdone)
          clear hdone
          go_wp2_with fail
          refine HD.out.mono ?_
          rintro e w3 ⟨rfl, hw3⟩
          subst w3
          have hk0 : 0 ≤ x.f0 := by have := HWX.out.1; simp [wfInt, Lit.wf, IntKind.min, IntKind.max, IntKind.bits, IntKind.signed] at this; omega
          have hm1 : x.f1 ≤ 9223372036854775807 := by have := HWX.out.2; simp [wfInt, Lit.wf, IntKind.min, IntKind.max, IntKind.bits, IntKind.signed] at this; omega
          have CALL := Aside0.mk (fun (W : World) (hB : Below wr.heap.size wr W) => one_call R.out h (by omega) BW.out BB.out hk0 (show x.f0 ≤ 5 by omega) hm1 W hB)
          have hWr := Aside0.mk (Below.refl wr.heap.size wr)
          clear hk0 hm1 HD hstay R BW HWX
          go_wp2_with fail
          go_region_with (first | (go_at_call 21; refine (CALL.out _ ?_).mono ?_; (repeat (first | exact hWr.out | apply below_drew)); rintro e w4 ⟨y, A4, c4, rfl, hwr⟩; have HWr := Aside0.mk hwr; have hW4 := Aside0.mk (Below.refl w4.heap.size w4); clear hwr) | (go_at_call 16; refine (HWr.out _ ?_).mono ?_; (repeat (first | exact hW4.out | apply below_drew)); rintro e w5 ⟨rfl, A5, c5, xs5, fl5, v5, ws5, hr5, hb5⟩; have R5 := Aside0.mk hr5; have B5 := Aside0.mk hb5; clear hr5 hb5))
          all_goals (
            go_wp2_with fail
            go_roundw
            case rel => exact ⟨k + 1, _, _, _, _, _, _, by go_num, by omega, R5, B5⟩
            case measure => simp [intOf]; omega)
        · have HD := Aside0.mk (done0 R.out.r hdone)
          clear hdone
          go_wp2_with fail
          refine HD.out.mono ?_
          rintro e w3 ⟨rfl, hw3⟩
          subst w3
          go_wp2_with fail
          go_roundw
          case rel => exact ⟨k + 1, f, A, c, xs, v, ws, by go_num, by omega, hstay, BW⟩
          case measure => simp [intOf]; omega
    · obtain rfl : k = l1.length := by omega
      clear hlt hk V1 HR1
      by_cases hdone : f = true ∨ 0 < xs.length
      · have HD := Aside0.mk (done60 R.out.r hdone)
        clear hdone
        go_wp2_with fail
        refine HD.out.mono ?_
        rintro e w3 ⟨rfl, hw3⟩
        subst w3
        go_wp2_with fail
        refine HD.out.mono ?_
        rintro e w3 ⟨rfl, hw3⟩
        subst w3
        go_wp2_with fail
        go_ret
        exact ⟨rfl, BW.out⟩
      · have HD := Aside0.mk (done0 R.out.r hdone)
        have hws : ws = l0 := by
          have h1 := (R.out.same (by cases f; rfl; exact absurd (.inl rfl) hdone)).2
          have h3 : xs = [] := List.length_eq_zero_iff.1 (by omega)
          rw [h3, List.append_nil] at h1; exact h1
        subst hws
        clear hdone
        go_wp2_with fail
        refine HD.out.mono ?_
        rintro e w3 ⟨rfl, hw3⟩
        subst w3
        go_wp2_with fail
        refine (out_any g2 g2 v ws wr R.out.w (by omega)).mono ?_
        rintro e w4 ⟨v4, rfl, ho4, hb4⟩
        obtain ⟨A4, c4, rfl, hc4, hr4⟩ := Kd.R_reads ho4
        have HR4 := Aside0.mk hr4
        have BE := Aside0.mk (BW.out.trans (hb4.mono BW.out.size))
        have C4 := Aside0.mk hc4
        clear ho4 hr4 hb4 hc4
        go_wp2_with fail
        refine (sameR (Below.refl _ _) HR4.out C4.out (Kd.C_below HR.out BE.out) hc0 (by omega)).mono ?_
        rintro e w12 ⟨rfl, hb12, _⟩
        have BF := Aside0.mk (BE.out.trans (hb12.mono BE.out.size))
        clear hb12
        go_wp2_with fail
        go_ret
        exact ⟨by simp, BF.out⟩
theorem one_many (A0 : Option Addr) (c0 : Nat) (l0 : List Int) (A1 : Option Addr) (c1 : Nat) (l1 : List SA) (w : World)
    (h : 20000 < l0.length ∨ 300 < l1.length) : Calls Try.prog 11 #[.slice A0 l0.length c0, .slice A1 l1.length c1] w fun e w' => e = .returned (.bool true) ∧ Below w.heap.size w w' := by
  by_cases h0 : 20000 < l0.length
  · have hd1 : decide ((20000 : Int) < (l0.length : Int)) = true := decide_eq_true (by omega)
    go_enter Try.func11, Try.ntmps11
    go_wp2_with fail
    refine (awake_any w).mono ?_
    rintro e w0 ⟨rfl, hb⟩
    have B0 := Aside0.mk hb
    clear hb
    go_wp2_with fail
    go_ret
    exact ⟨rfl, B0.out⟩
  · have hd1 : decide ((20000 : Int) < (l0.length : Int)) = false := decide_eq_false (by omega)
    have hd2 : decide ((300 : Int) < (l1.length : Int)) = true := decide_eq_true (by omega)
    go_enter Try.func11, Try.ntmps11
    go_wp2_with fail
    refine (awake_any w).mono ?_
    rintro e w0 ⟨rfl, hb⟩
    have B0 := Aside0.mk hb
    clear hb
    go_wp2_with fail
    go_ret
    exact ⟨rfl, B0.out⟩
theorem CodecOne_walk (A0 : Option Addr) (c0 : Nat) (l0 : List Int) (A1 : Option Addr) (c1 : Nat) (l1 : List SA) (w : World) (hr0 : Kd.C (Kd.int .u8) w A0 l0.length l0) (hc0 : l0.length ≤ c0) (hw0 : wfAll (Try.prog.bytesOf 5) (wfInt .u8) l0) (hr1 : Kd.C kA w A1 l1.length l1) (_hc1 : l1.length ≤ c1) (hw1 : wfAll (Try.prog.bytesOf 42) wfA l1) :
    Calls Try.prog 11 #[.slice A0 l0.length c0, .slice A1 l1.length c1] w fun e w' => e = .returned (.bool true) ∧ Below w.heap.size w w' := by
  by_cases h : 20000 < l0.length ∨ 300 < l1.length
  · exact one_many A0 c0 l0 A1 c1 l1 w h
  · exact one_few A0 c0 l0 A1 c1 l1 w hr0 hc0 hr1 (wfAll_isB hw0) hw1.2 (by omega) (by omega)
end Go.Proofs.Ytekbbpbpkekdhaa.Given
