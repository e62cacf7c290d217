/- What CodecBack does: the walk. -/
import Derived.Test.YtekbbpbpkekdhaaOne
import Derived.Test.YtekbbpbpkekdhaaJoined
import Derived.Deep.RegionHeld3
namespace Go.Proofs.Ytekbbpbpkekdhaa.Given
open Go.RowKit Go.Proofs.Ytekbbpbpkekdhaa.Cod Go.Proofs.Ytekbbpbpkekdhaa.Ex Go.Proofs.Ytekbbpbpkekdhaa.PBase Go.Proofs.Ytekbbpbpkekdhaa.OpenS Go.Proofs.YtekbbpbpkekdhaaW.PrintWords Go.Proofs.YtekbbpbpkekdhaaW.PrintLast Go.Proofs.YtekbbpbpkekdhaaW.PrintMore
theorem isB_chars (s : ByteArray) : isB (chars s) := fun x hx => by
  obtain ⟨b, _, rfl⟩ := List.mem_map.1 hx
  have := b.toNat_lt
  exact ⟨by omega, by omega⟩
theorem isB_form {x : S29} (h : wfV x) : isB (form (toV x)) := by
  obtain ⟨_, _, _, h4, _, _⟩ := h
  have hl : isB (toV x).l := wfAll_isB h4
  unfold form
  split
  · exact enc_isB _
  split
  · exact enc_isB _
  split
  · intro y hy
    rw [List.mem_singleton] at hy
    subst hy
    split <;> omega
  split
  · exact isB_append (enc_isB _) hl
  split
  · exact isB_append (enc_isB _) (isB_chars _)
  split
  · exact enc_isB _
  · intro y hy; cases hy
theorem isB_fl : ∀ {l : List S29}, (∀ x ∈ l, wfV x) → isB (fl l)
  | [], _ => fun y hy => by cases hy
  | x :: l, h => by
    rw [show x :: l = [x] ++ l from rfl, fl_append]
    exact isB_append (by unfold fl; simpa using isB_form (h x List.mem_cons_self)) (isB_fl fun y hy => h y (List.mem_cons_of_mem _ hy))
/-- A row of bytes and one more. -/
theorem last_off {w1 : World} {b : Nat} {v : Value} {xs : List Int} {more : Int} (ho : (Kd.int .u8).R 5 w1 b (fun _ => True) v (xs ++ [more])) :
    ∃ A c n, v = .slice A n c ∧ n = xs.length + 1 ∧ n ≤ c ∧ Kd.C (Kd.int .u8) w1 A xs.length xs ∧ Kd.C (Kd.int .u8) w1 A n (xs ++ [more]) := by
  obtain ⟨A, c, e, hc, hr⟩ := Kd.R_reads ho
  have hlen : (xs ++ [more]).length = xs.length + 1 := by rw [List.length_append]; rfl
  have ht := Kd.C_take hr (m := xs.length) (by omega)
  rw [List.take_left] at ht
  rw [hlen] at e hc hr
  exact ⟨A, c, _, e, rfl, hc, ht, hr⟩
/-- Two readers over one script, the second with a byte more behind it. -/
structure Two (B br gr bs gs : Nat) (more : Int) (xs : List Int) (W : World) : Prop where
  r : ∃ A c, RAt W br gr A c xs false
  s : ∃ A c, RAt W bs gs A c (xs ++ [more]) false
  ap : gr < bs
  low : B ≤ br
theorem Two.below {B br gr bs gs : Nat} {more : Int} {xs : List Int} {W W1 : World} (h : Two B br gr bs gs more xs W) (hb : Below W.heap.size W W1) : Two B br gr bs gs more xs W1 := by
  obtain ⟨⟨A, c, hr⟩, ⟨A', c', hs⟩, ha, hl⟩ := h
  exact ⟨⟨A, c, hr.below hb⟩, ⟨A', c', hs.below hb⟩, ha, hl⟩
theorem fl_drop {l : List S29} {k : Nat} {x : S29} (hx : l[k]? = some x) : fl (l.drop k) = form (toV x) ++ fl (l.drop (k + 1)) := by
  obtain ⟨hk, he⟩ := List.getElem?_eq_some_iff.1 hx
  rw [List.drop_eq_getElem_cons hk, he, show x :: l.drop (k + 1) = [x] ++ l.drop (k + 1) from rfl, fl_append]; unfold fl; simp
theorem form_none {x : S29} (h : 5 < x.f0) : form (toV x) = [] := by
  have e0 : (toV x).k = x.f0 := rfl
  unfold form
  rw [e0, if_neg (by omega), if_neg (by omega), if_neg (by omega), if_neg (by omega), if_neg (by omega), if_neg (by omega)]
/-- A world with the box that was made last, as it stands. -/
structure BX (n : Nat) (wr : World) (cs : Array Value) (V : World) : Prop where
  at' : n = wr.heap.size
  box : V.heap[n]? = some (.cells cs 29 (0, 0))
  b : Below wr.heap.size wr V
theorem BX.new (wr : World) (cs : Array Value) : BX wr.heap.size wr cs (wr.alloc (.cells cs 29)) := ⟨rfl, alloc_heap wr cs 29, (Below.refl _ _).alloc (Nat.le_refl _) _⟩
theorem BX.set {n : Nat} {wr : World} {cs : Array Value} {V : World} (h : BX n wr cs V) (i : Nat) (v : Value) : BX n wr (cs.set! i v) (V.setCell ⟨n, i, none⟩ v) :=
  ⟨h.at', blk_set h.box i v, h.b.trans ((Ex.setCell (Ex.refl (fun k => k = n) V) (fun _ => rfl) v).below (by have := h.at'; have := h.b.size; omega) (fun k e => by have := h.at'; omega))⟩
theorem BX.cell {n : Nat} {wr : World} {cs : Array Value} {V : World} (h : BX n wr cs V) {p : Addr} {v : Value} (hc : wr.cell? p = some v) : V.cell? p = some v := (Below.cell h.b (World.block_lt_of_cell? wr _ hc)).trans hc
theorem BX.drew {n : Nat} {wr : World} {cs : Array Value} {V : World} (h : BX n wr cs V) : BX n wr cs V.drew := ⟨h.at', h.box, h.b.drew⟩
theorem gen_wp {P : Program} {c : Code} {Q : Exit → Act → World → Prop} {a : Act} {W : World} (F : World → Prop) (hF : F W) (h : ∀ V, F V → c.wp P Q a V) : c.wp P Q a W := h W hF
/-- Two readers and a box beside them. -/
structure SX (w : World) (br gr bs gs n : Nat) (y : S29) (Aw : Option Addr) (cw : Nat) (xs1 xs2 : List Int) (W : World) : Prop where
  r : ∃ A c, RAt W br gr A c xs1 false
  s : ∃ A c, RAt W bs gs A c xs2 false
  b : Below w.heap.size w W
  box : W.heap[n]? = some (.cells #[.int .u8 y.f0, .int .u64 y.f1, .int .i64 y.f2, .bool y.f3, .slice Aw y.f4.length cw, .string y.f5, .int .i64 y.f6] 29 (0, 0))
  lr : w.heap.size ≤ br
  ap : gr < bs
  hn : gs < n
theorem SX.below {w : World} {br gr bs gs n : Nat} {y : S29} {Aw : Option Addr} {cw : Nat} {xs1 xs2 : List Int} {W W1 : World} (h : SX w br gr bs gs n y Aw cw xs1 xs2 W) (hb : Below W.heap.size W W1) : SX w br gr bs gs n y Aw cw xs1 xs2 W1 := by
  obtain ⟨⟨A, c, hr⟩, ⟨A', c', hs⟩, b, box, lr, ap, hn⟩ := h
  exact ⟨⟨A, c, hr.below hb⟩, ⟨A', c', hs.below hb⟩, b.trans (hb.mono b.size), (Ex.of_below hb (fun _ => False)).heap box (fun x => x), lr, ap, hn⟩
theorem SX.drew {w : World} {br gr bs gs n : Nat} {y : S29} {Aw : Option Addr} {cw : Nat} {xs1 xs2 : List Int} {W : World} (h : SX w br gr bs gs n y Aw cw xs1 xs2 W) : SX w br gr bs gs n y Aw cw xs1 xs2 W.drew := h.below (below_drew (Below.refl _ _))
theorem SX.read_r {w : World} {br gr bs gs n : Nat} {y : S29} {Aw : Option Addr} {cw : Nat} {xs1 xs2 : List Int} {W : World} (h : SX w br gr bs gs n y Aw cw xs1 xs2 W) {k m : Int} {r1 : List Int} (hx : isB xs1) (hk0 : 0 ≤ k) (hk5 : k ≤ 5) (hm : m ≤ 9223372036854775807) (hd : decS k m xs1 = some (y, r1)) :
    Calls Try.prog 21 #[.pointer (some ⟨gr, 0, none⟩), .int .u8 k, .int .i64 m] W (fun e W1 => ∃ A c, e = .returned (.agg #[.int .u8 y.f0, .int .u64 y.f1, .int .i64 y.f2, .bool y.f3, .slice A y.f4.length c, .string y.f5, .int .i64 y.f6]) ∧ y.f4.length ≤ c ∧ Kd.C (Kd.int .u8) W1 A y.f4.length y.f4 ∧ SX w br gr bs gs n y Aw cw r1 xs2 W1) := by
  obtain ⟨⟨A, c, hr⟩, ⟨A', c', hs⟩, b, box, lr, ap, hn⟩ := h
  have l1 := hr.low
  have l2 := hs.low
  refine (read_any br gr A c xs1 false k m W hr (fun _ => hx) hk0 hk5 hm).mono fun e W1 hp => ?_
  have hd2 : dec k m xs1 false = some (y, r1) := hd
  rw [hd2] at hp
  obtain ⟨hex, A4, c4, A1, c1, he, hc4, hC, hR, _⟩ := hp
  refine ⟨A4, c4, he, hc4, hC, ⟨A1, c1, hR⟩, ⟨A', c', hs.ex hex (by omega) (fun ad e => by rw [(hs.far ad e).2.2.1]; omega)⟩, b.trans (hex.below (by have := b.size; omega) (fun i e => by omega)), hex.heap box (by omega), lr, ap, hn⟩
theorem SX.read_s {w : World} {br gr bs gs n : Nat} {y : S29} {Aw : Option Addr} {cw : Nat} {xs1 xs2 : List Int} {W : World} (h : SX w br gr bs gs n y Aw cw xs1 xs2 W) {k m : Int} {r2 : List Int} (hx : isB xs2) (hk0 : 0 ≤ k) (hk5 : k ≤ 5) (hm : m ≤ 9223372036854775807) (hd : decS k m xs2 = some (y, r2)) :
    Calls Try.prog 21 #[.pointer (some ⟨gs, 0, none⟩), .int .u8 k, .int .i64 m] W (fun e W1 => ∃ A c, e = .returned (.agg #[.int .u8 y.f0, .int .u64 y.f1, .int .i64 y.f2, .bool y.f3, .slice A y.f4.length c, .string y.f5, .int .i64 y.f6]) ∧ y.f4.length ≤ c ∧ Kd.C (Kd.int .u8) W1 A y.f4.length y.f4 ∧ SX w br gr bs gs n y Aw cw xs1 r2 W1) := by
  obtain ⟨⟨A, c, hr⟩, ⟨A', c', hs⟩, b, box, lr, ap, hn⟩ := h
  have l1 := hr.low
  have l2 := hs.low
  refine (read_any bs gs A' c' xs2 false k m W hs (fun _ => hx) hk0 hk5 hm).mono fun e W1 hp => ?_
  have hd2 : dec k m xs2 false = some (y, r2) := hd
  rw [hd2] at hp
  obtain ⟨hex, A4, c4, A1, c1, he, hc4, hC, hR, _⟩ := hp
  refine ⟨A4, c4, he, hc4, hC, ⟨A, c, hr.ex hex (by omega) (fun ad e => by rw [(hr.far ad e).2.2.1]; omega)⟩, ⟨A1, c1, hR⟩, b.trans (hex.below (by have := b.size; omega) (fun i e => by omega)), hex.heap box (by omega), lr, ap, hn⟩
theorem SX.same {w : World} {br gr bs gs n : Nat} {y : S29} {Aw : Option Addr} {cw : Nat} {xs1 xs2 : List Int} {W : World} (h : SX w br gr bs gs n y Aw cw xs1 xs2 W) {A : Option Addr} {c : Nat} (hc : y.f4.length ≤ c) (hC : Kd.C (Kd.int .u8) W A y.f4.length y.f4) (hcw : y.f4.length ≤ cw) (hCw : Kd.C (Kd.int .u8) w Aw y.f4.length y.f4) (hl : y.f4.length ≤ 4611686018427387904) :
    Calls Try.prog 22 #[.agg #[.int .u8 y.f0, .int .u64 y.f1, .int .i64 y.f2, .bool y.f3, .slice A y.f4.length c, .string y.f5, .int .i64 y.f6], .agg #[.int .u8 y.f0, .int .u64 y.f1, .int .i64 y.f2, .bool y.f3, .slice Aw y.f4.length cw, .string y.f5, .int .i64 y.f6]] W (fun e W1 => e = .returned (.bool true) ∧ SX w br gr bs gs n y Aw cw xs1 xs2 W1) := by
  refine (same6 (Below.refl _ _) hC hc (Kd.C_below hCw h.b) hcw rfl hl).mono fun e W1 hp => ⟨hp.1, h.below hp.2⟩
/-- The cells that the round reads. -/
theorem SX.cells {w : World} {br gr bs gs n : Nat} {y : S29} {Aw : Option Addr} {cw : Nat} {xs1 xs2 : List Int} {W : World} (h : SX w br gr bs gs n y Aw cw xs1 xs2 W) {ad : Addr} {k : Nat} {l0 : List S29} {x : S29} (hr : Kd.C k29 w (some ad) l0.length l0) (hk : k < l0.length) (hx : l0[k]? = some x) :
    W.cell? (ad.add (k * 7)) = some (.int .u8 x.f0) ∧ W.cell? ⟨(ad.add (k * 7)).block, (ad.add (k * 7)).off + 6, none⟩ = some (.int .i64 x.f6) ∧ W.cell? ⟨n, 0, none⟩ = some (.int .u8 y.f0) ∧ W.cell? ⟨n, 1, none⟩ = some (.int .u64 y.f1) ∧ W.cell? ⟨n, 2, none⟩ = some (.int .i64 y.f2) ∧ W.cell? ⟨n, 3, none⟩ = some (.bool y.f3) ∧ W.cell? ⟨n, 4, none⟩ = some (.slice Aw y.f4.length cw) ∧ W.cell? ⟨n, 5, none⟩ = some (.string y.f5) ∧ W.cell? ⟨n, 6, none⟩ = some (.int .i64 y.f6) := by
  obtain ⟨x', ad', A4, c4, hx', he, f0, f1, f2, f3, f4, f5, f6, _, _⟩ := at_valB h.b hr k hk
  obtain rfl := Option.some.inj he
  obtain rfl : x' = x := by rw [hx] at hx'; exact (Option.some.inj hx').symm
  exact ⟨f0, f6, blk_cell h.box 0, blk_cell h.box 1, blk_cell h.box 2, blk_cell h.box 3, blk_cell h.box 4, blk_cell h.box 5, blk_cell h.box 6⟩
theorem norm_small (x : S29) (h : x.f4.length ≤ 140737488355328) : (norm x).f4.length ≤ 4611686018427387904 := by
  unfold norm
  repeat' split
  all_goals first | (simp; done) | (dsimp only; omega)
theorem imax (n : Int) : (if n < 0 then 0 else n) = max n 0 := by split <;> omega
theorem SX.of_bx {w wr : World} {br gr bs gs n : Nat} {y : S29} {Aw : Option Addr} {cw : Nat} {xs : List Int} {more : Int} {V : World} {cs : Array Value} (hT : Two w.heap.size br gr bs gs more xs wr) (hBW : Below w.heap.size w wr) (hX : BX n wr cs V)
    (hcs : cs = #[.int .u8 y.f0, .int .u64 y.f1, .int .i64 y.f2, .bool y.f3, .slice Aw y.f4.length cw, .string y.f5, .int .i64 y.f6]) : SX w br gr bs gs n y Aw cw xs (xs ++ [more]) V := by
  obtain ⟨⟨A, c, hr⟩, ⟨A', c', hs⟩, ha, hl⟩ := hT
  subst hcs
  exact ⟨⟨A, c, hr.below hX.b⟩, ⟨A', c', hs.below hX.b⟩, hBW.trans (hX.b.mono hBW.size), hX.box, hl, ha, by rw [hX.at']; exact hs.lt⟩
theorem SX.two {w : World} {br gr bs gs n : Nat} {y : S29} {Aw : Option Addr} {cw : Nat} {xs : List Int} {more : Int} {V : World} (h : SX w br gr bs gs n y Aw cw xs (xs ++ [more]) V) : Two w.heap.size br gr bs gs more xs V := ⟨h.r, h.s, h.ap, h.lr⟩
set_option maxHeartbeats 4000000 in
set_option maxRecDepth 100000 in
theorem back_few (A0 : Option Addr) (c0 : Nat) (l0 : List S29) (more : Int) (w : World) (hr0 : Kd.C k29 w A0 l0.length l0) (hc0 : l0.length ≤ c0) (hv0 : ∀ x ∈ l0, wfV x) (hm : 0 ≤ more ∧ more < 256)
    (h : ¬ (300 < l0.length ∨ 20000 < (l0.map weigh).sum)) : Calls Try.prog 10 #[.slice A0 l0.length c0, .int .u8 more] w fun e w' => e = .returned (.bool true) ∧ Below w.heap.size w w' := by
  have HR := Aside0.mk hr0
  have H := Aside0.mk (decide_eq_false h)
  have V0 := Aside0.mk hv0
  have L0 := Aside0.mk h
  have HM := Aside0.mk hm
  have hl300 : l0.length ≤ 300 := by omega
  clear hr0 h hv0 hm
  go_enter Try.func10, Try.ntmps10
  go_wp2_with fail
  refine (awake_any w).mono ?_
  rintro e w0 ⟨rfl, hb⟩
  have B0 := Aside0.mk hb
  clear hb
  go_wp2_with fail
  refine (great_calls A0 c0 l0 false w w0 B0.out HR.out hc0 H.out).mono ?_
  rintro e w1 ⟨rfl, hb⟩
  have B1 := Aside0.mk hb
  clear hb B0
  go_wp2_with fail
  refine (new_any w1).mono ?_
  rintro e w2 ⟨rfl, hw2⟩
  have N2 := Aside0.mk (show WAt w2 w.heap.size w1.heap.size (.slice none 0 0) (fl (l0.take 0)) by rw [hw2]; exact WAt.new w1 B1.out.size)
  have B2 := Aside0.mk (show Below w.heap.size w w2 by rw [hw2]; exact B1.out.alloc B1.out.size _)
  have G1 := Aside0.mk (show w.heap.size ≤ w1.heap.size from B1.out.size)
  clear hw2 B1
  generalize w1.heap.size = ga at *
  go_wp2_with fail
  go_loopw [6] (fun i wr => ∃ (k : Nat) (v : Value), i = .int .i64 k ∧ k ≤ l0.length ∧ Aside0 (WAt wr w.heap.size ga v (fl (l0.take k))) ∧ Aside0 (Below w.heap.size w wr)) (fun i _ => l0.length - (intOf i).toNat)
  case atStart => exact ⟨0, _, rfl, Nat.zero_le _, N2, B2⟩
  case round =>
    clear N2 B2
    obtain ⟨k, v, rfl, hk, HA, BW⟩ := hrel
    by_cases hlt : k < l0.length
    · obtain ⟨x, ad, A4, c4, hx, rfl, f0, f1, f2, f3, f4, f5, f6, hr4, hc4⟩ := at_valB BW.out HR.out k hlt
      have hxl : l0[k] = x := by rw [List.getElem?_eq_getElem hlt] at hx; exact Option.some.inj hx
      have HX := Aside0.mk (V0.out x (List.mem_of_getElem? hx))
      have hfl := fl_room hlt V0.out L0.out
      rw [hxl] at hfl
      have HL := Aside0.mk hfl
      have HXL := Aside0.mk hxl
      have HR4 := Aside0.mk hr4
      clear hx hxl hfl hr4 hc4
      go_wp2_with fail
      refine (write_val w.heap.size ga v _ x A4 c4 w _ HA.out HX.out BW.out (Nat.le_refl _) HR4.out (by have := HL.out; omega)).mono ?_
      rintro e w6 ⟨rfl, v6, h6⟩
      have HA6 := Aside0.mk (show WAt w6 w.heap.size ga v6 (fl (l0.take (k + 1))) by rw [fl_take hlt, HXL.out]; exact h6.at')
      have BW6 := Aside0.mk (BW.out.trans (h6.below HA.out (Nat.le_refl _)))
      clear h6 HA BW HX HL HXL HR4 f0 f1 f2 f3 f4 f5 f6
      go_wp2_with fail
      go_roundw
      case rel => exact ⟨k + 1, v6, by go_num, by omega, HA6, BW6⟩
      case measure => simp [intOf]; omega
    · obtain rfl : k = l0.length := by omega
      rw [List.take_length] at HA
      have F0 := Aside0.mk (fl_all V0.out L0.out)
      have XB := Aside0.mk (isB_fl V0.out)
      clear hlt hk H
      have hf0 := F0.out
      generalize hxs : fl l0 = xs at *
      have HXS := Aside0.mk hxs
      clear hxs F0
      go_wp2_with fail
      refine (out_any w.heap.size ga v xs _ HA.out (by omega)).mono ?_
      rintro e w8 ⟨v8, rfl, ho8, hb8⟩
      have O8 := Aside0.mk (Kd.R_lower ho8 (show w.heap.size ≤ _ from BW.out.size))
      have B8 := Aside0.mk (BW.out.trans (hb8.mono BW.out.size))
      clear ho8 hb8 HA BW
      have S8 := Aside0.mk (below_size B8.out)
      go_wp2_with ((with_reducible refine gate_builtin (b := .append) (xs := #[.tmp 31, .tmp 33]) rfl ?_); at_builtin; (refine Kd.R_append (Kd.int .u8) (w0 := w) w.heap.size rfl (.tmp 31) (.tmp 33) 26 5 (.int .u8 0) 1 rfl Try.underlying26 Cod.info5 rfl (by decide) (by omega) v8 xs more [.int .u8 more] (fun _ => True) (fun _ => False) rfl rfl rfl (fun _ hk => hk.elim) (fun _ _ => trivial) O8.out B8.out S8.out (by omega) ?_; intro v9 w9 ho hb hg hat; have HZ := Aside0.mk (last_off ho); have B9 := Aside0.mk hb; clear ho hb hg hat; obtain ⟨A9, c9, n9, rfl, hn9, hc9, hr9, hs9⟩ := HZ.out; have HR9 := Aside0.mk hr9; have HS9 := Aside0.mk hs9; clear HZ hr9 hs9))
      refine (over_any A9 xs.length c9 xs _ (by repeat (first | exact HR9.out | refine Kd.C_drew ?_)) (by omega)).mono ?_
      rintro e w10 ⟨br, gr, A10, c10, rfl, hbb, hr, hB⟩
      have T10 := Aside0.mk hr
      have B10 := Aside0.mk (B9.out.trans (hB.mono (below_size B9.out)))
      have S10 := Aside0.mk (show w.heap.size ≤ br by have := below_size B9.out; omega)
      have HS10 := Aside0.mk (Kd.C_below HS9.out hB)
      clear hr hbb hB HR9 HS9 B9 B8 O8 S8
      subst hn9
      go_wp2_with fail
      refine (over_any A9 (xs.length + 1) c9 (xs ++ [more]) _ HS10.out (by omega)).mono ?_
      rintro e w11 ⟨bs, gs, A11, c11, rfl, hbb, hr, hB⟩
      have TW := Aside0.mk (show Two w.heap.size br gr bs gs more (fl (l0.drop 0)) w11 from ⟨⟨_, _, by rw [List.drop_zero, HXS.out]; exact T10.out.below hB⟩, ⟨_, _, by rw [List.drop_zero, HXS.out]; exact hr⟩, by have := T10.out.lt; omega, S10.out⟩)
      have B11 := Aside0.mk (B10.out.trans (hB.mono (below_size B10.out)))
      clear hr hbb hB T10 B10 S10 HS10
      clear XB hf0
      clear HXS
      go_wp2_with fail
      go_loopw [10] (fun i wr => ∃ k : Nat, i = .int .i64 k ∧ k ≤ l0.length ∧ Aside0 (Two w.heap.size br gr bs gs more (fl (l0.drop k)) wr) ∧ Aside0 (Below w.heap.size w wr)) (fun i _ => l0.length - (intOf i).toNat)
      case atStart => exact ⟨0, rfl, Nat.zero_le _, TW, B11⟩
      case round =>
        clear TW B11
        obtain ⟨k, rfl, hk, TW, BW⟩ := hrel
        by_cases hlt : k < l0.length
        · obtain ⟨x, ad, A4, c4, hx, rfl, f0, f1, f2, f3, f4, f5, f6, hc4, hr4⟩ := at_valB BW.out HR.out k hlt
          have HX := Aside0.mk (V0.out x (List.mem_of_getElem? hx))
          have HF := Aside0.mk (fl_drop hx)
          have HXK := Aside0.mk hx
          have HC4 := Aside0.mk hc4
          have HR4 := Aside0.mk hr4
          clear hx hc4 hr4
          by_cases h5 : 5 < x.f0
          · have hd5 : decide (5 < x.f0) = true := decide_eq_true h5
            have T1 := Aside0.mk (show Two w.heap.size br gr bs gs more (fl (l0.drop (k + 1))) _ from by have := TW.out; rw [HF.out, form_none h5] at this; exact this)
            go_wp2_with fail
            go_roundw
            case rel => exact ⟨k + 1, by go_num, by omega, T1, BW⟩
            case measure => simp [intOf]; omega
          · have hd5 : decide (5 < x.f0) = false := decide_eq_false h5
            have hj : x.f0 = 0 ∨ x.f0 = 1 ∨ x.f0 = 2 ∨ x.f0 = 3 ∨ x.f0 = 4 ∨ x.f0 = 5 := by have := HX.out.1; simp [wfInt, Lit.wf, IntKind.min, IntKind.max, IntKind.bits, IntKind.signed] at this; omega
            have HW := Aside0.mk (show weigh x ≤ 46000 by have h1 := fl_room hlt V0.out L0.out; have h2 : l0[k] = x := (by have h9 := HXK.out; rw [List.getElem?_eq_getElem hlt] at h9; exact Option.some.inj h9); rw [h2] at h1; omega)
            have HD1 := Aside0.mk (show decS x.f0 (if x.f6 < 0 then 0 else x.f6) (fl (l0.drop k)) = some (norm x, fl (l0.drop (k + 1))) by rw [HF.out, imax]; exact form_dec HX.out (by omega) (by omega) (by have := HW.out; omega) _)
            have HD2 := Aside0.mk (show decS x.f0 (if x.f6 < 0 then 0 else x.f6) (fl (l0.drop k) ++ [more]) = some (norm x, fl (l0.drop (k + 1)) ++ [more]) by rw [HF.out, imax, List.append_assoc]; exact form_dec HX.out (by omega) (by omega) (by have := HW.out; omega) _)
            have HI1 := Aside0.mk (show isB (fl (l0.drop k)) from isB_fl fun z hz => V0.out z (List.mem_of_mem_drop hz))
            have HI2 := Aside0.mk (show isB (fl (l0.drop k) ++ [more]) from isB_append HI1.out fun z hz => by rw [List.mem_singleton] at hz; subst hz; exact HM.out)
            have HK := Aside0.mk (show 0 ≤ x.f0 ∧ x.f0 ≤ 5 by omega)
            have HMM := Aside0.mk (show (if x.f6 < 0 then 0 else x.f6) ≤ 9223372036854775807 by have := HX.out.2.2.2.2.2; simp [wfInt, Lit.wf, IntKind.min, IntKind.max, IntKind.bits, IntKind.signed] at this; split <;> omega)
            have HL4 := Aside0.mk (norm_small x (by have := HW.out; unfold weigh at this; omega))
            rcases hj with hj | hj | hj | hj | hj | hj
            all_goals (
              rw [hj] at f0 hd5
              go_upto_region 18 with (fail))
            all_goals (
              refine gen_wp _ (BX.new wr _) ?_
              intro V17 hV17
              have X17 := Aside0.mk hV17
              clear hV17
              have g0 := X17.out.cell f0
              have g1 := X17.out.cell f1
              have g2 := X17.out.cell f2
              have g3 := X17.out.cell f3
              have g4 := X17.out.cell f4
              have g5 := X17.out.cell f5
              have g6 := X17.out.cell f6
              have z1 := blk_cell X17.out.box 1
              have z2 := blk_cell X17.out.box 2
              have z3 := blk_cell X17.out.box 3
              have z4 := blk_cell X17.out.box 4
              have z5 := blk_cell X17.out.box 5
              have z6 := blk_cell X17.out.box 6
              have y1 := blk_frozen X17.out.box 1
              have y2 := blk_frozen X17.out.box 2
              have y3 := blk_frozen X17.out.box 3
              have y4 := blk_frozen X17.out.box 4
              have y5 := blk_frozen X17.out.box 5
              have y6 := blk_frozen X17.out.box 6
              go_upto_region 31 with (fail))
            · refine gen_wp (fun V => ∃ Aw cw, SX w br gr bs gs wr.heap.size (norm x) Aw cw (fl (l0.drop k)) (fl (l0.drop k) ++ [more]) V ∧ (norm x).f4.length ≤ cw ∧ Kd.C (Kd.int .u8) w Aw (norm x).f4.length (norm x).f4) ⟨none, 0, SX.of_bx TW.out BW.out (X17.out.set 1 _) (by have hn : norm x = ⟨0, x.f1, 0, false, [], ⟨#[]⟩, 0⟩ := (by simp [norm, hj]); rw [hn]; rfl), (by have hn : norm x = ⟨0, x.f1, 0, false, [], ⟨#[]⟩, 0⟩ := (by simp [norm, hj]); rw [hn]; exact Nat.le_refl _), (by have hn : norm x = ⟨0, x.f1, 0, false, [], ⟨#[]⟩, 0⟩ := (by simp [norm, hj]); rw [hn]; exact C_nil _)⟩ ?_
              clear X17 g0 g1 g2 g3 g4 g5 g6 z1 z2 z3 z4 z5 z6 y1 y2 y3 y4 y5 y6 f0 f1 f2 f3 f4 f5 f6 hj hd5 h5
              rintro V ⟨Aw, cw, hV, hcw, hCw⟩
              have H0 := Aside0.mk hV
              have HCW := Aside0.mk hCw
              have HCC := Aside0.mk hcw
              have hS0 := hV.drew.cells HR.out hlt HXK.out
              clear hV hcw hCw
              generalize norm x = y at *
              generalize wr.heap.size = n at *
              obtain ⟨m0, hme⟩ : ∃ m0 : Int, (if x.f6 < 0 then (0 : Int) else x.f6) = m0 := ⟨_, rfl⟩
              rw [hme] at HD1 HD2 HMM
              go_region_held3 (fun W' : World => W'.cell? (ad.add (k * 7)) = some (.int .u8 x.f0) ∧ W'.cell? ⟨(ad.add (k * 7)).block, (ad.add (k * 7)).off + 6, none⟩ = some (.int .i64 x.f6) ∧ W'.cell? ⟨n, 0, none⟩ = some (.int .u8 y.f0) ∧ W'.cell? ⟨n, 1, none⟩ = some (.int .u64 y.f1) ∧ W'.cell? ⟨n, 2, none⟩ = some (.int .i64 y.f2) ∧ W'.cell? ⟨n, 3, none⟩ = some (.bool y.f3) ∧ W'.cell? ⟨n, 4, none⟩ = some (.slice Aw y.f4.length cw) ∧ W'.cell? ⟨n, 5, none⟩ = some (.string y.f5) ∧ W'.cell? ⟨n, 6, none⟩ = some (.int .i64 y.f6)) (first | assumption | go_keep)
                (first
                  | (go_at_call 22; refine (H3.out.same HCC5.out HC5.out HCC.out HCW.out HL4.out).mono ?_; rintro e w7 ⟨rfl, hX7⟩; have hS7 := hX7.cells HR.out hlt HXK.out; have H4 := Aside0.mk hX7; clear hX7 hS6)
                  | (go_at_call 21; refine (H2.out.read_s HI2.out HK.out.1 HK.out.2 HMM.out HD2.out).mono ?_; rintro e w6 ⟨A6, c6, rfl, hcc, hc, hX6⟩; have hS6 := hX6.cells HR.out hlt HXK.out; have H3 := Aside0.mk hX6; have HC5 := Aside0.mk hc; have HCC5 := Aside0.mk hcc; clear hX6 hc hcc hS5)
                  | (go_at_call 22; refine (H1.out.same HCC3.out HC3.out HCC.out HCW.out HL4.out).mono ?_; rintro e w5 ⟨rfl, hX5⟩; have hS5 := hX5.cells HR.out hlt HXK.out; have H2 := Aside0.mk hX5; clear hX5 hS4)
                  | (go_at_call 21; refine (H0.out.drew.read_r HI1.out HK.out.1 HK.out.2 HMM.out HD1.out).mono ?_; rintro e w4 ⟨A3, c3, rfl, hcc, hc, hX4⟩; have hS4 := hX4.cells HR.out hlt HXK.out; have H1 := Aside0.mk hX4; have HC3 := Aside0.mk hc; have HCC3 := Aside0.mk hcc; clear hX4 hc hcc hS0))
              all_goals (
                go_wp2_with fail
                go_roundw
                case rel => exact ⟨k + 1, by go_num, by omega, Aside0.mk H4.out.two, Aside0.mk H4.out.b⟩
                case measure => simp [intOf]; omega)
            · refine gen_wp (fun V => ∃ Aw cw, SX w br gr bs gs wr.heap.size (norm x) Aw cw (fl (l0.drop k)) (fl (l0.drop k) ++ [more]) V ∧ (norm x).f4.length ≤ cw ∧ Kd.C (Kd.int .u8) w Aw (norm x).f4.length (norm x).f4) ⟨none, 0, SX.of_bx TW.out BW.out (X17.out.set 2 _) (by have hn : norm x = ⟨1, 0, x.f2, false, [], ⟨#[]⟩, 0⟩ := (by simp [norm, hj]); rw [hn]; rfl), (by have hn : norm x = ⟨1, 0, x.f2, false, [], ⟨#[]⟩, 0⟩ := (by simp [norm, hj]); rw [hn]; exact Nat.le_refl _), (by have hn : norm x = ⟨1, 0, x.f2, false, [], ⟨#[]⟩, 0⟩ := (by simp [norm, hj]); rw [hn]; exact C_nil _)⟩ ?_
              clear X17 g0 g1 g2 g3 g4 g5 g6 z1 z2 z3 z4 z5 z6 y1 y2 y3 y4 y5 y6 f0 f1 f2 f3 f4 f5 f6 hj hd5 h5
              rintro V ⟨Aw, cw, hV, hcw, hCw⟩
              have H0 := Aside0.mk hV
              have HCW := Aside0.mk hCw
              have HCC := Aside0.mk hcw
              have hS0 := hV.drew.cells HR.out hlt HXK.out
              clear hV hcw hCw
              generalize norm x = y at *
              generalize wr.heap.size = n at *
              obtain ⟨m0, hme⟩ : ∃ m0 : Int, (if x.f6 < 0 then (0 : Int) else x.f6) = m0 := ⟨_, rfl⟩
              rw [hme] at HD1 HD2 HMM
              go_region_held3 (fun W' : World => W'.cell? (ad.add (k * 7)) = some (.int .u8 x.f0) ∧ W'.cell? ⟨(ad.add (k * 7)).block, (ad.add (k * 7)).off + 6, none⟩ = some (.int .i64 x.f6) ∧ W'.cell? ⟨n, 0, none⟩ = some (.int .u8 y.f0) ∧ W'.cell? ⟨n, 1, none⟩ = some (.int .u64 y.f1) ∧ W'.cell? ⟨n, 2, none⟩ = some (.int .i64 y.f2) ∧ W'.cell? ⟨n, 3, none⟩ = some (.bool y.f3) ∧ W'.cell? ⟨n, 4, none⟩ = some (.slice Aw y.f4.length cw) ∧ W'.cell? ⟨n, 5, none⟩ = some (.string y.f5) ∧ W'.cell? ⟨n, 6, none⟩ = some (.int .i64 y.f6)) (first | assumption | go_keep)
                (first
                  | (go_at_call 22; refine (H3.out.same HCC5.out HC5.out HCC.out HCW.out HL4.out).mono ?_; rintro e w7 ⟨rfl, hX7⟩; have hS7 := hX7.cells HR.out hlt HXK.out; have H4 := Aside0.mk hX7; clear hX7 hS6)
                  | (go_at_call 21; refine (H2.out.read_s HI2.out HK.out.1 HK.out.2 HMM.out HD2.out).mono ?_; rintro e w6 ⟨A6, c6, rfl, hcc, hc, hX6⟩; have hS6 := hX6.cells HR.out hlt HXK.out; have H3 := Aside0.mk hX6; have HC5 := Aside0.mk hc; have HCC5 := Aside0.mk hcc; clear hX6 hc hcc hS5)
                  | (go_at_call 22; refine (H1.out.same HCC3.out HC3.out HCC.out HCW.out HL4.out).mono ?_; rintro e w5 ⟨rfl, hX5⟩; have hS5 := hX5.cells HR.out hlt HXK.out; have H2 := Aside0.mk hX5; clear hX5 hS4)
                  | (go_at_call 21; refine (H0.out.drew.read_r HI1.out HK.out.1 HK.out.2 HMM.out HD1.out).mono ?_; rintro e w4 ⟨A3, c3, rfl, hcc, hc, hX4⟩; have hS4 := hX4.cells HR.out hlt HXK.out; have H1 := Aside0.mk hX4; have HC3 := Aside0.mk hc; have HCC3 := Aside0.mk hcc; clear hX4 hc hcc hS0))
              all_goals (
                go_wp2_with fail
                go_roundw
                case rel => exact ⟨k + 1, by go_num, by omega, Aside0.mk H4.out.two, Aside0.mk H4.out.b⟩
                case measure => simp [intOf]; omega)
            · refine gen_wp (fun V => ∃ Aw cw, SX w br gr bs gs wr.heap.size (norm x) Aw cw (fl (l0.drop k)) (fl (l0.drop k) ++ [more]) V ∧ (norm x).f4.length ≤ cw ∧ Kd.C (Kd.int .u8) w Aw (norm x).f4.length (norm x).f4) ⟨none, 0, SX.of_bx TW.out BW.out (X17.out.set 3 _) (by have hn : norm x = ⟨2, 0, 0, x.f3, [], ⟨#[]⟩, 0⟩ := (by simp [norm, hj]); rw [hn]; rfl), (by have hn : norm x = ⟨2, 0, 0, x.f3, [], ⟨#[]⟩, 0⟩ := (by simp [norm, hj]); rw [hn]; exact Nat.le_refl _), (by have hn : norm x = ⟨2, 0, 0, x.f3, [], ⟨#[]⟩, 0⟩ := (by simp [norm, hj]); rw [hn]; exact C_nil _)⟩ ?_
              clear X17 g0 g1 g2 g3 g4 g5 g6 z1 z2 z3 z4 z5 z6 y1 y2 y3 y4 y5 y6 f0 f1 f2 f3 f4 f5 f6 hj hd5 h5
              rintro V ⟨Aw, cw, hV, hcw, hCw⟩
              have H0 := Aside0.mk hV
              have HCW := Aside0.mk hCw
              have HCC := Aside0.mk hcw
              have hS0 := hV.drew.cells HR.out hlt HXK.out
              clear hV hcw hCw
              generalize norm x = y at *
              generalize wr.heap.size = n at *
              obtain ⟨m0, hme⟩ : ∃ m0 : Int, (if x.f6 < 0 then (0 : Int) else x.f6) = m0 := ⟨_, rfl⟩
              rw [hme] at HD1 HD2 HMM
              go_region_held3 (fun W' : World => W'.cell? (ad.add (k * 7)) = some (.int .u8 x.f0) ∧ W'.cell? ⟨(ad.add (k * 7)).block, (ad.add (k * 7)).off + 6, none⟩ = some (.int .i64 x.f6) ∧ W'.cell? ⟨n, 0, none⟩ = some (.int .u8 y.f0) ∧ W'.cell? ⟨n, 1, none⟩ = some (.int .u64 y.f1) ∧ W'.cell? ⟨n, 2, none⟩ = some (.int .i64 y.f2) ∧ W'.cell? ⟨n, 3, none⟩ = some (.bool y.f3) ∧ W'.cell? ⟨n, 4, none⟩ = some (.slice Aw y.f4.length cw) ∧ W'.cell? ⟨n, 5, none⟩ = some (.string y.f5) ∧ W'.cell? ⟨n, 6, none⟩ = some (.int .i64 y.f6)) (first | assumption | go_keep)
                (first
                  | (go_at_call 22; refine (H3.out.same HCC5.out HC5.out HCC.out HCW.out HL4.out).mono ?_; rintro e w7 ⟨rfl, hX7⟩; have hS7 := hX7.cells HR.out hlt HXK.out; have H4 := Aside0.mk hX7; clear hX7 hS6)
                  | (go_at_call 21; refine (H2.out.read_s HI2.out HK.out.1 HK.out.2 HMM.out HD2.out).mono ?_; rintro e w6 ⟨A6, c6, rfl, hcc, hc, hX6⟩; have hS6 := hX6.cells HR.out hlt HXK.out; have H3 := Aside0.mk hX6; have HC5 := Aside0.mk hc; have HCC5 := Aside0.mk hcc; clear hX6 hc hcc hS5)
                  | (go_at_call 22; refine (H1.out.same HCC3.out HC3.out HCC.out HCW.out HL4.out).mono ?_; rintro e w5 ⟨rfl, hX5⟩; have hS5 := hX5.cells HR.out hlt HXK.out; have H2 := Aside0.mk hX5; clear hX5 hS4)
                  | (go_at_call 21; refine (H0.out.drew.read_r HI1.out HK.out.1 HK.out.2 HMM.out HD1.out).mono ?_; rintro e w4 ⟨A3, c3, rfl, hcc, hc, hX4⟩; have hS4 := hX4.cells HR.out hlt HXK.out; have H1 := Aside0.mk hX4; have HC3 := Aside0.mk hc; have HCC3 := Aside0.mk hcc; clear hX4 hc hcc hS0))
              all_goals (
                go_wp2_with fail
                go_roundw
                case rel => exact ⟨k + 1, by go_num, by omega, Aside0.mk H4.out.two, Aside0.mk H4.out.b⟩
                case measure => simp [intOf]; omega)
            · refine gen_wp (fun V => ∃ Aw cw, SX w br gr bs gs wr.heap.size (norm x) Aw cw (fl (l0.drop k)) (fl (l0.drop k) ++ [more]) V ∧ (norm x).f4.length ≤ cw ∧ Kd.C (Kd.int .u8) w Aw (norm x).f4.length (norm x).f4) ⟨A4, c4, SX.of_bx TW.out BW.out (X17.out.set 4 _) (by have hn : norm x = ⟨3, 0, 0, false, x.f4, ⟨#[]⟩, 0⟩ := (by simp [norm, hj]); rw [hn]; rfl), (by have hn : norm x = ⟨3, 0, 0, false, x.f4, ⟨#[]⟩, 0⟩ := (by simp [norm, hj]); rw [hn]; exact HR4.out), (by have hn : norm x = ⟨3, 0, 0, false, x.f4, ⟨#[]⟩, 0⟩ := (by simp [norm, hj]); rw [hn]; exact HC4.out)⟩ ?_
              clear X17 g0 g1 g2 g3 g4 g5 g6 z1 z2 z3 z4 z5 z6 y1 y2 y3 y4 y5 y6 f0 f1 f2 f3 f4 f5 f6 hj hd5 h5
              rintro V ⟨Aw, cw, hV, hcw, hCw⟩
              have H0 := Aside0.mk hV
              have HCW := Aside0.mk hCw
              have HCC := Aside0.mk hcw
              have hS0 := hV.drew.cells HR.out hlt HXK.out
              clear hV hcw hCw
              generalize norm x = y at *
              generalize wr.heap.size = n at *
              obtain ⟨m0, hme⟩ : ∃ m0 : Int, (if x.f6 < 0 then (0 : Int) else x.f6) = m0 := ⟨_, rfl⟩
              rw [hme] at HD1 HD2 HMM
              go_region_held3 (fun W' : World => W'.cell? (ad.add (k * 7)) = some (.int .u8 x.f0) ∧ W'.cell? ⟨(ad.add (k * 7)).block, (ad.add (k * 7)).off + 6, none⟩ = some (.int .i64 x.f6) ∧ W'.cell? ⟨n, 0, none⟩ = some (.int .u8 y.f0) ∧ W'.cell? ⟨n, 1, none⟩ = some (.int .u64 y.f1) ∧ W'.cell? ⟨n, 2, none⟩ = some (.int .i64 y.f2) ∧ W'.cell? ⟨n, 3, none⟩ = some (.bool y.f3) ∧ W'.cell? ⟨n, 4, none⟩ = some (.slice Aw y.f4.length cw) ∧ W'.cell? ⟨n, 5, none⟩ = some (.string y.f5) ∧ W'.cell? ⟨n, 6, none⟩ = some (.int .i64 y.f6)) (first | assumption | go_keep)
                (first
                  | (go_at_call 22; refine (H3.out.same HCC5.out HC5.out HCC.out HCW.out HL4.out).mono ?_; rintro e w7 ⟨rfl, hX7⟩; have hS7 := hX7.cells HR.out hlt HXK.out; have H4 := Aside0.mk hX7; clear hX7 hS6)
                  | (go_at_call 21; refine (H2.out.read_s HI2.out HK.out.1 HK.out.2 HMM.out HD2.out).mono ?_; rintro e w6 ⟨A6, c6, rfl, hcc, hc, hX6⟩; have hS6 := hX6.cells HR.out hlt HXK.out; have H3 := Aside0.mk hX6; have HC5 := Aside0.mk hc; have HCC5 := Aside0.mk hcc; clear hX6 hc hcc hS5)
                  | (go_at_call 22; refine (H1.out.same HCC3.out HC3.out HCC.out HCW.out HL4.out).mono ?_; rintro e w5 ⟨rfl, hX5⟩; have hS5 := hX5.cells HR.out hlt HXK.out; have H2 := Aside0.mk hX5; clear hX5 hS4)
                  | (go_at_call 21; refine (H0.out.drew.read_r HI1.out HK.out.1 HK.out.2 HMM.out HD1.out).mono ?_; rintro e w4 ⟨A3, c3, rfl, hcc, hc, hX4⟩; have hS4 := hX4.cells HR.out hlt HXK.out; have H1 := Aside0.mk hX4; have HC3 := Aside0.mk hc; have HCC3 := Aside0.mk hcc; clear hX4 hc hcc hS0))
              all_goals (
                go_wp2_with fail
                go_roundw
                case rel => exact ⟨k + 1, by go_num, by omega, Aside0.mk H4.out.two, Aside0.mk H4.out.b⟩
                case measure => simp [intOf]; omega)
            · refine gen_wp (fun V => ∃ Aw cw, SX w br gr bs gs wr.heap.size (norm x) Aw cw (fl (l0.drop k)) (fl (l0.drop k) ++ [more]) V ∧ (norm x).f4.length ≤ cw ∧ Kd.C (Kd.int .u8) w Aw (norm x).f4.length (norm x).f4) ⟨none, 0, SX.of_bx TW.out BW.out (X17.out.set 5 _) (by have hn : norm x = ⟨4, 0, 0, false, [], x.f5, 0⟩ := (by simp [norm, hj]); rw [hn]; rfl), (by have hn : norm x = ⟨4, 0, 0, false, [], x.f5, 0⟩ := (by simp [norm, hj]); rw [hn]; exact Nat.le_refl _), (by have hn : norm x = ⟨4, 0, 0, false, [], x.f5, 0⟩ := (by simp [norm, hj]); rw [hn]; exact C_nil _)⟩ ?_
              clear X17 g0 g1 g2 g3 g4 g5 g6 z1 z2 z3 z4 z5 z6 y1 y2 y3 y4 y5 y6 f0 f1 f2 f3 f4 f5 f6 hj hd5 h5
              rintro V ⟨Aw, cw, hV, hcw, hCw⟩
              have H0 := Aside0.mk hV
              have HCW := Aside0.mk hCw
              have HCC := Aside0.mk hcw
              have hS0 := hV.drew.cells HR.out hlt HXK.out
              clear hV hcw hCw
              generalize norm x = y at *
              generalize wr.heap.size = n at *
              obtain ⟨m0, hme⟩ : ∃ m0 : Int, (if x.f6 < 0 then (0 : Int) else x.f6) = m0 := ⟨_, rfl⟩
              rw [hme] at HD1 HD2 HMM
              go_region_held3 (fun W' : World => W'.cell? (ad.add (k * 7)) = some (.int .u8 x.f0) ∧ W'.cell? ⟨(ad.add (k * 7)).block, (ad.add (k * 7)).off + 6, none⟩ = some (.int .i64 x.f6) ∧ W'.cell? ⟨n, 0, none⟩ = some (.int .u8 y.f0) ∧ W'.cell? ⟨n, 1, none⟩ = some (.int .u64 y.f1) ∧ W'.cell? ⟨n, 2, none⟩ = some (.int .i64 y.f2) ∧ W'.cell? ⟨n, 3, none⟩ = some (.bool y.f3) ∧ W'.cell? ⟨n, 4, none⟩ = some (.slice Aw y.f4.length cw) ∧ W'.cell? ⟨n, 5, none⟩ = some (.string y.f5) ∧ W'.cell? ⟨n, 6, none⟩ = some (.int .i64 y.f6)) (first | assumption | go_keep)
                (first
                  | (go_at_call 22; refine (H3.out.same HCC5.out HC5.out HCC.out HCW.out HL4.out).mono ?_; rintro e w7 ⟨rfl, hX7⟩; have hS7 := hX7.cells HR.out hlt HXK.out; have H4 := Aside0.mk hX7; clear hX7 hS6)
                  | (go_at_call 21; refine (H2.out.read_s HI2.out HK.out.1 HK.out.2 HMM.out HD2.out).mono ?_; rintro e w6 ⟨A6, c6, rfl, hcc, hc, hX6⟩; have hS6 := hX6.cells HR.out hlt HXK.out; have H3 := Aside0.mk hX6; have HC5 := Aside0.mk hc; have HCC5 := Aside0.mk hcc; clear hX6 hc hcc hS5)
                  | (go_at_call 22; refine (H1.out.same HCC3.out HC3.out HCC.out HCW.out HL4.out).mono ?_; rintro e w5 ⟨rfl, hX5⟩; have hS5 := hX5.cells HR.out hlt HXK.out; have H2 := Aside0.mk hX5; clear hX5 hS4)
                  | (go_at_call 21; refine (H0.out.drew.read_r HI1.out HK.out.1 HK.out.2 HMM.out HD1.out).mono ?_; rintro e w4 ⟨A3, c3, rfl, hcc, hc, hX4⟩; have hS4 := hX4.cells HR.out hlt HXK.out; have H1 := Aside0.mk hX4; have HC3 := Aside0.mk hc; have HCC3 := Aside0.mk hcc; clear hX4 hc hcc hS0))
              all_goals (
                go_wp2_with fail
                go_roundw
                case rel => exact ⟨k + 1, by go_num, by omega, Aside0.mk H4.out.two, Aside0.mk H4.out.b⟩
                case measure => simp [intOf]; omega)
            · refine gen_wp (fun V => ∃ Aw cw, SX w br gr bs gs wr.heap.size (norm x) Aw cw (fl (l0.drop k)) (fl (l0.drop k) ++ [more]) V ∧ (norm x).f4.length ≤ cw ∧ Kd.C (Kd.int .u8) w Aw (norm x).f4.length (norm x).f4) ⟨none, 0, SX.of_bx TW.out BW.out (X17.out.set 6 _) (by have hn : norm x = ⟨5, 0, 0, false, [], ⟨#[]⟩, (if x.f6 < 0 then 0 else x.f6)⟩ := (by simp [norm, hj, imax]); rw [hn]; rfl), (by have hn : norm x = ⟨5, 0, 0, false, [], ⟨#[]⟩, (if x.f6 < 0 then 0 else x.f6)⟩ := (by simp [norm, hj, imax]); rw [hn]; exact Nat.le_refl _), (by have hn : norm x = ⟨5, 0, 0, false, [], ⟨#[]⟩, (if x.f6 < 0 then 0 else x.f6)⟩ := (by simp [norm, hj, imax]); rw [hn]; exact C_nil _)⟩ ?_
              clear X17 g0 g1 g2 g3 g4 g5 g6 z1 z2 z3 z4 z5 z6 y1 y2 y3 y4 y5 y6 f0 f1 f2 f3 f4 f5 f6 hj hd5 h5
              rintro V ⟨Aw, cw, hV, hcw, hCw⟩
              have H0 := Aside0.mk hV
              have HCW := Aside0.mk hCw
              have HCC := Aside0.mk hcw
              have hS0 := hV.drew.cells HR.out hlt HXK.out
              clear hV hcw hCw
              generalize norm x = y at *
              generalize wr.heap.size = n at *
              obtain ⟨m0, hme⟩ : ∃ m0 : Int, (if x.f6 < 0 then (0 : Int) else x.f6) = m0 := ⟨_, rfl⟩
              rw [hme] at HD1 HD2 HMM
              go_region_held3 (fun W' : World => W'.cell? (ad.add (k * 7)) = some (.int .u8 x.f0) ∧ W'.cell? ⟨(ad.add (k * 7)).block, (ad.add (k * 7)).off + 6, none⟩ = some (.int .i64 x.f6) ∧ W'.cell? ⟨n, 0, none⟩ = some (.int .u8 y.f0) ∧ W'.cell? ⟨n, 1, none⟩ = some (.int .u64 y.f1) ∧ W'.cell? ⟨n, 2, none⟩ = some (.int .i64 y.f2) ∧ W'.cell? ⟨n, 3, none⟩ = some (.bool y.f3) ∧ W'.cell? ⟨n, 4, none⟩ = some (.slice Aw y.f4.length cw) ∧ W'.cell? ⟨n, 5, none⟩ = some (.string y.f5) ∧ W'.cell? ⟨n, 6, none⟩ = some (.int .i64 y.f6)) (first | assumption | go_keep)
                (first
                  | (go_at_call 22; refine (H3.out.same HCC5.out HC5.out HCC.out HCW.out HL4.out).mono ?_; rintro e w7 ⟨rfl, hX7⟩; have hS7 := hX7.cells HR.out hlt HXK.out; have H4 := Aside0.mk hX7; clear hX7 hS6)
                  | (go_at_call 21; refine (H2.out.read_s HI2.out HK.out.1 HK.out.2 HMM.out HD2.out).mono ?_; rintro e w6 ⟨A6, c6, rfl, hcc, hc, hX6⟩; have hS6 := hX6.cells HR.out hlt HXK.out; have H3 := Aside0.mk hX6; have HC5 := Aside0.mk hc; have HCC5 := Aside0.mk hcc; clear hX6 hc hcc hS5)
                  | (go_at_call 22; refine (H1.out.same HCC3.out HC3.out HCC.out HCW.out HL4.out).mono ?_; rintro e w5 ⟨rfl, hX5⟩; have hS5 := hX5.cells HR.out hlt HXK.out; have H2 := Aside0.mk hX5; clear hX5 hS4)
                  | (go_at_call 21; refine (H0.out.drew.read_r HI1.out HK.out.1 HK.out.2 HMM.out HD1.out).mono ?_; rintro e w4 ⟨A3, c3, rfl, hcc, hc, hX4⟩; have hS4 := hX4.cells HR.out hlt HXK.out; have H1 := Aside0.mk hX4; have HC3 := Aside0.mk hc; have HCC3 := Aside0.mk hcc; clear hX4 hc hcc hS0))
              all_goals (
                go_wp2_with fail
                go_roundw
                case rel => exact ⟨k + 1, by go_num, by omega, Aside0.mk H4.out.two, Aside0.mk H4.out.b⟩
                case measure => simp [intOf]; omega)

        · obtain rfl : k = l0.length := by omega
          rw [List.drop_length] at TW
          clear hlt hk V0 HR
          have hT := TW.out
          obtain ⟨⟨Ar, cr, hr⟩, ⟨As, cs, hs⟩, _, _⟩ := hT
          have HD := Aside0.mk (show RAt wr br gr Ar cr [] false from hr)
          have HE := Aside0.mk (show RAt wr bs gs As cs [more] false from hs)
          clear hr hs TW
          go_wp2_with fail
          refine (done_end HD.out).mono ?_
          rintro e w20 ⟨rfl, hw20⟩
          subst w20
          go_wp2_with fail
          refine (err_fine HE.out).mono ?_
          rintro e w20 ⟨rfl, hw20⟩
          subst w20
          go_wp2_with fail
          refine (done_more HE.out (by simp)).mono ?_
          rintro e w20 ⟨rfl, hw20⟩
          subst w20
          go_wp2_with fail
          go_ret
          exact ⟨rfl, BW.out⟩
set_option maxRecDepth 100000 in
theorem back_many (A0 : Option Addr) (c0 : Nat) (l0 : List S29) (more : Int) (w : World) (hr0 : Kd.C k29 w A0 l0.length l0) (hc0 : l0.length ≤ c0)
    (h : 300 < l0.length ∨ 20000 < (l0.map weigh).sum) : Calls Try.prog 10 #[.slice A0 l0.length c0, .int .u8 more] w fun e w' => e = .returned (.bool true) ∧ Below w.heap.size w w' := by
  have HR := Aside0.mk hr0
  have H := Aside0.mk (decide_eq_true h)
  clear hr0 h
  go_enter Try.func10, Try.ntmps10
  go_wp2_with fail
  refine (awake_any w).mono ?_
  rintro e w0 ⟨rfl, hb⟩
  have B0 := Aside0.mk hb
  clear hb
  go_wp2_with fail
  refine (great_calls A0 c0 l0 true w w0 B0.out HR.out hc0 H.out).mono ?_
  rintro e w1 ⟨rfl, hb⟩
  have B1 := Aside0.mk hb
  clear hb B0
  go_wp2_with fail
  go_ret
  exact ⟨rfl, B1.out⟩
theorem CodecBack_walk (A0 : Option Addr) (c0 : Nat) (l0 : List S29) (more : Int) (w : World) (hr0 : Kd.C k29 w A0 l0.length l0) (hc0 : l0.length ≤ c0) (hw0 : wfAll (Try.prog.bytesOf 29) wfV l0) (hm : wfInt .u8 more) :
    Calls Try.prog 10 #[.slice A0 l0.length c0, .int .u8 more] w fun e w' => e = .returned (.bool true) ∧ Below w.heap.size w w' := by
  by_cases h : 300 < l0.length ∨ 20000 < (l0.map weigh).sum
  · exact back_many A0 c0 l0 more w hr0 hc0 h
  · exact back_few A0 c0 l0 more w hr0 hc0 hw0.2 (by simp [wfInt, Lit.wf, IntKind.min, IntKind.max, IntKind.bits, IntKind.signed] at hm; omega) h
end Go.Proofs.Ytekbbpbpkekdhaa.Given
