/- What CodecWrites does: the walk. -/
import Derived.Test.YtekbbpbpkekdhaaJoined
import Derived.Test.YtekbbpbpkekdhaaForm
import Derived.Deep.RegionHeld3
namespace Go.Proofs.Ytekbbpbpkekdhaa.Given
open Go.RowKit Go.Proofs.Ytekbbpbpkekdhaa.Cod Go.Proofs.Ytekbbpbpkekdhaa.Ex Go.Proofs.Ytekbbpbpkekdhaa.PBase Go.Proofs.Ytekbbpbpkekdhaa.OpenS Go.Proofs.YtekbbpbpkekdhaaW.PrintWords Go.Proofs.YtekbbpbpkekdhaaW.PrintLast Go.Proofs.YtekbbpbpkekdhaaW.PrintMore
theorem wr_alloc_heap (w : World) (cs : Array Value) (t : TypeId) : (w.alloc (.cells cs t)).heap[w.heap.size]? = some (.cells cs t (0, 0)) := by show (w.heap.push _)[w.heap.size]? = _; rw [Array.getElem?_push_size]
/-- A world with the box that was made last, as it stands. -/
structure BX (n : Nat) (wr : World) (cs : Array Value) (V : World) : Prop where
  at' : n = wr.heap.size
  box : V.heap[n]? = some (.cells cs 29 (0, 0))
  b : Below wr.heap.size wr V
theorem BX.new (wr : World) (cs : Array Value) : BX wr.heap.size wr cs (wr.alloc (.cells cs 29)) := ⟨rfl, wr_alloc_heap wr cs 29, (Below.refl _ _).alloc (Nat.le_refl _) _⟩
theorem BX.set {n : Nat} {wr : World} {cs : Array Value} {V : World} (h : BX n wr cs V) (i : Nat) (v : Value) : BX n wr (cs.set! i v) (V.setCell ⟨n, i, none⟩ v) :=
  ⟨h.at', blk_set h.box i v, h.b.trans ((Ex.setCell (Ex.refl (fun k => k = n) V) (fun _ => rfl) v).below (by have := h.at'; have := h.b.size; omega) (fun k e => by have := h.at'; omega))⟩
theorem BX.cell {n : Nat} {wr : World} {cs : Array Value} {V : World} (h : BX n wr cs V) {p : Addr} {v : Value} (hc : wr.cell? p = some v) : V.cell? p = some v := (Below.cell h.b (World.block_lt_of_cell? wr _ hc)).trans hc
theorem BX.drew {n : Nat} {wr : World} {cs : Array Value} {V : World} (h : BX n wr cs V) : BX n wr cs V.drew := ⟨h.at', h.box, h.b.drew⟩
theorem gen_wp {P : Program} {c : Code} {Q : Exit → Act → World → Prop} {a : Act} {W : World} (F : World → Prop) (hF : F W) (h : ∀ V, F V → c.wp P Q a V) : c.wp P Q a W := h W hF
/-- The writer and the row that is looked for, beside one another. -/
structure WW (w : World) (ga : Nat) (v vw : Value) (xs ys : List Int) (W : World) : Prop where
  wat : WAt W w.heap.size ga v xs
  q : Kd.R (Kd.int .u8) 5 W w.heap.size (fun _ => True) vw ys
  a : vw.ownBlock ≠ some ga
  b : ∀ k, vw.ownBlock = some k → v.ownBlock ≠ some k
  low : Below w.heap.size w W
theorem WW.below {w : World} {ga : Nat} {v vw : Value} {xs ys : List Int} {W W1 : World} (h : WW w ga v vw xs ys W) (hb : Below W.heap.size W W1) : WW w ga v vw xs ys W1 :=
  ⟨h.wat.below hb, Kd.R_below h.q hb, h.a, h.b, h.low.trans (hb.mono h.low.size)⟩
theorem BX.step {n : Nat} {wr : World} {cs : Array Value} {V V1 : World} (h : BX n wr cs V) (hb : Below V.heap.size V V1) : BX n wr cs V1 :=
  ⟨h.at', (hb.block _ (blk_lt h.box)).trans h.box, h.b.trans (hb.mono h.b.size)⟩
/-- A round's world: the writer, the row looked for, the box, its own row. -/
structure WS (w : World) (ga n : Nat) (v vw vL : Value) (xs ys : List Int) (x : S29) (L : List Int) (W : World) : Prop where
  ww : WW w ga v vw xs ys W
  box : W.heap[n]? = some (.cells #[.int .u8 x.f0, .int .u64 x.f1, .int .i64 x.f2, .bool x.f3, vL, .string x.f5, .int .i64 x.f6] 29 (0, 0))
  row : Kd.R (Kd.int .u8) 5 W (n + 1) (fun _ => True) vL L
  gn : ga < n
  wn : w.heap.size ≤ n
  vn : v.ownBlock ≠ some n ∧ vw.ownBlock ≠ some n
  ap : ∀ k, vL.ownBlock = some k → v.ownBlock ≠ some k ∧ vw.ownBlock ≠ some k
theorem WS.below {w : World} {ga n : Nat} {v vw vL : Value} {xs ys : List Int} {x : S29} {L : List Int} {W W1 : World} (h : WS w ga n v vw vL xs ys x L W) (hb : Below W.heap.size W W1) : WS w ga n v vw vL xs ys x L W1 :=
  ⟨h.ww.below hb, (hb.block _ (blk_lt h.box)).trans h.box, Kd.R_below h.row hb, h.gn, h.wn, h.vn, h.ap⟩
/-- The writer writes, and all else stays. -/
theorem WS.wrote {w : World} {ga n : Nat} {v v1 vw vL : Value} {xs ys zs : List Int} {x : S29} {L : List Int} {W W1 : World} (h : WS w ga n v vw vL xs ys x L W) (hw : Wrote w.heap.size ga v W zs v1 W1) : WS w ga n v1 vw vL zs ys x L W1 := by
  have hex := hw.ex
  have hgn := h.gn
  have hn : n < W.heap.size := blk_lt h.box
  have hnew : ∀ k, v1.ownBlock = some k → v.ownBlock = some k ∨ W.heap.size ≤ k := fun k hk => by
    rcases hw.new with e | ⟨b, e, hb⟩
    · exact .inl (by rw [← e]; exact hk)
    · rw [e] at hk; injection hk with hk; exact .inr (by omega)
  have hrow : ∀ k, vL.ownBlock = some k → n + 1 ≤ k := fun k hk => by
    obtain ⟨_, inner, ho, _⟩ := h.row
    exact own_base ho k hk
  refine ⟨⟨hw.at', ?_, h.ww.a, fun k hk e => ?_, h.ww.low.trans (hw.below h.ww.wat (Nat.le_refl _))⟩, hex.heap h.box (fun e => e.elim (fun e => by omega) (fun e => h.vn.1 e.symm)), ?_, h.gn, h.wn, ⟨fun e => ?_, h.vn.2⟩, fun k hk => ⟨fun e => ?_, (h.ap k hk).2⟩⟩
  · exact Kd.R_of_own (own_move (Kd.own_of_R h.ww.q) (fun k hk => hex.block k (Kd.R_lt h.ww.q k hk) (fun e => e.elim (fun e => h.ww.a (by rw [hk, e])) (fun e => h.ww.b k hk e.symm)))) (fun _ _ => trivial)
  · rcases hnew k e with e | e
    · exact h.ww.b k hk e
    · have := Kd.R_lt h.ww.q k hk; omega
  · exact Kd.R_of_own (own_move (Kd.own_of_R h.row) (fun k hk => hex.block k (Kd.R_lt h.row k hk) (fun e => e.elim (fun e => by have := hrow k hk; omega) (fun e => (h.ap k hk).1 e.symm)))) (fun _ _ => trivial)
  · rcases hnew n e with e | e
    · exact h.vn.1 e
    · omega
  · rcases hnew k e with e | e
    · exact (h.ap k hk).1 e
    · have := Kd.R_lt h.row k hk; omega
/-- A row of bytes of one's own, at a place of it. -/
theorem row_at {B : Nat} {v : Value} {q : List Int} {W : World} (h : Kd.R (Kd.int .u8) 5 W B (fun _ => True) v q) {k : Nat} (hk : k < q.length) :
    ∃ g c x, v = .slice (some ⟨g, 0, none⟩) q.length c ∧ q[k]? = some x ∧ B ≤ g ∧ W.cell? ⟨g, k, none⟩ = some (.int .u8 x) ∧ W.frozen? ⟨g, k, none⟩ = false ∧ q.length ≤ c ∧
      ∀ y, Kd.R (Kd.int .u8) 5 (W.setCell ⟨g, k, none⟩ (.int .u8 y)) B (fun _ => True) v (q.set k y) := by
  have h0 := h
  obtain ⟨hok, inner, ho, hr⟩ := h0
  rcases ho.2 with ⟨hv, hn⟩ | ⟨g, cap, cur, hv, hbg, hcell, _⟩
  · obtain ⟨A, c, e, _, _⟩ := Kd.R_reads h
    rw [e] at hv; injection hv with _ e2 _; omega
  · subst hv
    obtain ⟨_, hc, hC⟩ := Kd.R_reads' h
    obtain ⟨x, hx⟩ : ∃ x, q[k]? = some x := ⟨_, List.getElem?_eq_getElem hk⟩
    obtain ⟨ad, e, hcl⟩ := hC.2.2 (by omega)
    obtain rfl := Option.some.inj e
    obtain ⟨cs, hs, hK, hcc⟩ := hcl k x hx
    have hcs : cs[0]? = some (Value.int .u8 x) := by
      rw [show cs = [Value.int .u8 x] from hK]; rfl
    have h1 := hcc 0 _ hcs
    refine ⟨g, cap, x, rfl, hx, hbg, ?_, blk_frozen hcell k, hc, fun y => ?_⟩
    · have e2 : (⟨g, 0, none⟩ : Addr).add (k * (Kd.int .u8).sz + 0) = ⟨g, k, none⟩ := by
        show Addr.add ⟨g, 0, none⟩ (k * 1 + 0) = _
        simp [Addr.add]; intro h; exact h.symm
      rw [e2] at h1; exact h1
    · have := (Kd.R_putg h (k : Int) y).1
      rw [Int.toNat_natCast] at this
      exact this
theorem WS.at' {w : World} {ga n : Nat} {v vw vL : Value} {xs ys : List Int} {x : S29} {L : List Int} {W : World} (h : WS w ga n v vw vL xs ys x L W) {k : Nat} (hk : k < L.length) :
    ∃ g c y, vL = .slice (some ⟨g, 0, none⟩) L.length c ∧ L[k]? = some y ∧ W.cell? ⟨g, k, none⟩ = some (.int .u8 y) ∧ W.frozen? ⟨g, k, none⟩ = false ∧ L.length ≤ c ∧
      ∀ z, WS w ga n v vw vL xs ys x (L.set k z) (W.setCell ⟨g, k, none⟩ (.int .u8 z)) := by
  obtain ⟨g, c, y, e, hy, hg, f0, f1, hc, hset⟩ := row_at h.row hk
  refine ⟨g, c, y, e, hy, f0, f1, hc, fun z => ?_⟩
  have hap := h.ap g (by rw [e]; rfl)
  have hgn := h.gn
  have hwn := h.wn
  have hex : Ex (fun k => k = g) W (W.setCell ⟨g, k, none⟩ (.int .u8 z)) := Ex.setCell (S := fun k => k = g) (p := ⟨g, k, none⟩) (Ex.refl _ _) (fun _ => rfl) _
  refine ⟨⟨h.ww.wat.ex hex (by omega) (fun k hk e => hap.1 (by rw [hk, e])), ?_, h.ww.a, h.ww.b, h.ww.low.trans (hex.below h.ww.low.size (fun k e => by omega))⟩, hex.heap h.box (by omega), hset z, h.gn, h.wn, h.vn, h.ap⟩
  exact Kd.R_of_own (own_move (Kd.own_of_R h.ww.q) (fun k hk => hex.block k (Kd.R_lt h.ww.q k hk) (fun e => hap.2 (by rw [hk, e])))) (fun _ _ => trivial)
/-- The row looked for grows, and the writer stays. -/
theorem WW.grew {w : World} {ga : Nat} {v vw vw1 : Value} {xs ys zs : List Int} {W W1 : World} (h : WW w ga v vw xs ys W) (hq : Kd.R (Kd.int .u8) 5 W1 w.heap.size (fun _ => True) vw1 zs) (hl : Below w.heap.size w W1) (hg : W.grownBy W1 vw.ownBlock)
    (hat : vw1.ownBlock = vw.ownBlock ∨ ∃ b, vw1.ownBlock = some b ∧ W.heap.size ≤ b) : WW w ga v vw1 xs zs W1 := by
  refine ⟨h.wat.ex (Ex.of_grown hg) (fun e => h.a e.symm) (fun k hk e => h.b k e.symm hk), hq, fun e => ?_, fun k hk e => ?_, hl⟩
  · rcases hat with ha | ⟨b, ha, hb⟩
    · exact h.a (by rw [← ha]; exact e)
    · rw [ha] at e; injection e with e; have := h.wat.lt; omega
  · rcases hat with ha | ⟨b, ha, hb⟩
    · exact h.b k (by rw [← ha]; exact hk) e
    · rw [ha] at hk; injection hk with hk; have := h.wat.own_lt k e; omega
set_option maxHeartbeats 4000000 in
set_option maxRecDepth 100000 in
theorem writes_few (A0 : Option Addr) (c0 : Nat) (l0 : List S29) (w : World) (hr0 : Kd.C k29 w A0 l0.length l0) (hc0 : l0.length ≤ c0) (hv0 : ∀ x ∈ l0, wfV x)
    (h : ¬ (300 < l0.length ∨ 20000 < (l0.map weigh).sum)) : Calls Try.prog 3 #[.slice A0 l0.length c0] w fun e w' => e = .returned (.bool true) ∧ Below w.heap.size w w' := by
  have HR := Aside0.mk hr0
  have H := Aside0.mk (decide_eq_false h)
  have V0 := Aside0.mk hv0
  have L0 := Aside0.mk h
  have hl300 : l0.length ≤ 300 := by omega
  clear hr0 h hv0
  go_enter Try.func3, Try.ntmps3
  go_wp2_with fail
  refine (great_calls A0 c0 l0 false w w (Below.refl _ _) HR.out hc0 H.out).mono ?_
  rintro e w1 ⟨rfl, hb⟩
  have B1 := Aside0.mk hb
  clear hb
  go_wp2_with fail
  refine (new_any w1).mono ?_
  rintro e w2 ⟨rfl, hw2⟩
  have N2 := Aside0.mk (show WW w w1.heap.size (.slice none 0 0) (.slice none 0 0) (fl (l0.take 0)) (fl (l0.take 0)) w2 by rw [hw2]; exact ⟨WAt.new w1 B1.out.size, Kd.R_nil _ _ _ _ (fun _ => True), (fun e => by cases e), (fun k e => by cases e), B1.out.alloc B1.out.size _⟩)
  have G1 := Aside0.mk (show w.heap.size ≤ w1.heap.size from B1.out.size)
  clear hw2 B1
  generalize w1.heap.size = ga at *
  go_wp2_with fail
  go_loopw [5, 4] (fun i vw wr => ∃ (k : Nat) (v : Value), i = .int .i64 k ∧ k ≤ l0.length ∧ Aside0 (WW w ga v vw (fl (l0.take k)) (fl (l0.take k)) wr)) (fun i _ _ => l0.length - (intOf i).toNat)
  case atStart => exact ⟨0, _, rfl, Nat.zero_le _, N2⟩
  case round =>
    clear N2
    obtain ⟨k, v, rfl, hk, HA⟩ := hrel
    by_cases hlt : k < l0.length
    · obtain ⟨x, ad, A4, c4, hx, rfl, f0, f1, f2, f3, f4, f5, f6, hr4, hc4⟩ := at_valB HA.out.low HR.out k hlt
      have hxl : l0[k] = x := by rw [List.getElem?_eq_getElem hlt] at hx; exact Option.some.inj hx
      have HX := Aside0.mk (V0.out x (List.mem_of_getElem? hx))
      have hfl := fl_room hlt V0.out L0.out
      rw [hxl] at hfl
      have HL := Aside0.mk hfl
      have HXL := Aside0.mk hxl
      have HR4 := Aside0.mk hr4
      have HC4 := Aside0.mk hc4
      have HXK := Aside0.mk hx
      clear hx hxl hfl hr4 hc4
      go_upto_region 9 with (fail)
      refine gen_wp _ (BX.new wr _) ?_
      intro V9 hV9
      have X9 := Aside0.mk hV9
      clear hV9
      have g4 := X9.out.cell f4
      go_wp2_with fail
      refine (tocsinref04_Copy.calls A4 c4 x.f4 x.f4 V9 (Kd.C_below HR4.out (HA.out.low.trans (X9.out.b.mono HA.out.low.size))) HC4.out (copy_some x.f4 (by have := HL.out; unfold weigh at this; omega))).mono ?_
      rintro e w10 ⟨vL, rfl, hrL, hbL⟩
      obtain ⟨AL, cL, rfl⟩ := Kd.R_slice hrL
      have X10 := Aside0.mk (X9.out.step hbL)
      have RL := Aside0.mk (And.intro hrL hbL)
      have y4 := blk_frozen X10.out.box 4
      have z4 := blk_cell X10.out.box 4
      clear hrL hbL g4
      go_upto_region 10 with (fail)
      refine gen_wp (fun W => WS w ga wr.heap.size v u4 (.slice AL x.f4.length cL) (fl (l0.take k)) (fl (l0.take k)) x x.f4 W) ?_ ?_
      · have hX := X10.out.set 4 (.slice AL x.f4.length cL)
        have hz : wr.heap.size < V9.heap.size := blk_lt X9.out.box
        have hne : ∀ j, (Value.slice AL x.f4.length cL).ownBlock = some j → V9.heap.size ≤ j := fun j hj => by
          obtain ⟨_, inner, ho, _⟩ := RL.out.1
          exact own_base ho j hj
        refine ⟨HA.out.below hX.b, hX.box, ?_, HA.out.wat.lt, HA.out.low.size, ⟨fun e => ?_, fun e => ?_⟩, fun j hj => ⟨fun e => ?_, fun e => ?_⟩⟩
        · exact Kd.R_lower (Kd.R_set RL.out.1 X10.out.box (by intro q hq; rcases List.mem_cons.1 hq with rfl | hq; (· decide); (· cases hq)) 4 _) (by omega)
        · have := HA.out.wat.own_lt _ e; omega
        · have := Kd.R_lt HA.out.q _ e; omega
        · have := HA.out.wat.own_lt _ e; have := hne j hj; omega
        · have := Kd.R_lt HA.out.q _ e; have := hne j hj; omega
      intro V10 hV10
      have S10 := Aside0.mk hV10
      clear hV10 X9 X10 RL y4 z4 f0 f1 f2 f3 f4 f5 f6 HA
      generalize wr.heap.size = n at *
      have z0 := blk_cell S10.out.box 0
      have z1 := blk_cell S10.out.box 1
      have z2 := blk_cell S10.out.box 2
      have z3 := blk_cell S10.out.box 3
      have z4 := blk_cell S10.out.box 4
      have z5 := blk_cell S10.out.box 5
      have z6 := blk_cell S10.out.box 6
      go_wp2_with fail
      refine (write_any w.heap.size ga v (fl (l0.take k)) (toV x) AL cL V10 S10.out.ww.wat (wf_ok HX.out) (Kd.R_reads' S10.out.row).2.2 (fun a e _ hc => ?_) (by have := HL.out; have : (toV x).l.length + (toV x).s.size = weigh x := rfl; omega)).mono ?_
      · subst e
        have h1 := S10.out.ap a.block rfl
        obtain ⟨_, inner, ho, _⟩ := S10.out.row
        have h2 := own_base ho a.block rfl
        have h3 := S10.out.gn
        exact hc.elim (fun e => by omega) (fun e => h1.1 e.symm)
      rintro e w11 ⟨rfl, v11, h11⟩
      have S11 := Aside0.mk (S10.out.wrote h11)
      clear h11 S10 z0 z1 z2 z3 z4 z5 z6
      go_upto_region 11 with (fail)
      obtain ⟨x', ad', A5, c5, hx', he, f0, f1, f2, f3, f4, f5, f6, hr5, hc5⟩ := at_valB S11.out.ww.low HR.out k hlt
      obtain rfl := Option.some.inj he
      obtain rfl : x' = x := by have h9 := HXK.out; rw [hx'] at h9; exact Option.some.inj h9
      have R5 := Aside0.mk (And.intro hr5 hc5)
      have z4 := blk_cell S11.out.box 4
      have hS0 : w11.drew.cell? ⟨n, 4, none⟩ = some (.slice AL x'.f4.length cL) ∧ w11.drew.cell? ⟨(ad.add (k * 7)).block, (ad.add (k * 7)).off + 4, none⟩ = some (.slice A5 x'.f4.length c5) := ⟨z4, f4⟩
      have HL62 := Aside0.mk (show x'.f4.length ≤ 46000 by have := HL.out; unfold weigh at this; omega)
      clear he hx' hr5 hc5 f0 f1 f2 f3 f5 f6 z4
      go_region_held3 (fun W' : World => W'.cell? ⟨n, 4, none⟩ = some (.slice AL x'.f4.length cL) ∧ W'.cell? ⟨(ad.add (k * 7)).block, (ad.add (k * 7)).off + 4, none⟩ = some (.slice A5 x'.f4.length c5)) (first | assumption | go_keep)
        (first
          | (go_at_call 17; refine (sameR (w := w11) (below_drew (Below.refl _ _)) (Kd.R_reads' S11.out.row).2.2 (Kd.R_reads' S11.out.row).2.1 (Kd.C_below R5.out.1 S11.out.ww.low) R5.out.2 (by have := HL62.out; omega)).mono ?_; rintro e w12 ⟨rfl, hb, _⟩; have S12 := Aside0.mk (S11.out.below hb); have hS12 : w12.cell? ⟨n, 4, none⟩ = some (.slice AL x'.f4.length cL) ∧ w12.cell? ⟨(ad.add (k * 7)).block, (ad.add (k * 7)).off + 4, none⟩ = some (.slice A5 x'.f4.length c5) := ⟨blk_cell S12.out.box 4, (Below.cell hb (World.block_lt_of_cell? w11 _ f4)).trans f4⟩; clear hb hS0 f4; simp only [decide_true]))
      go_wp2_with fail
      clear hS12 S11
      go_loopw [7] (fun j W => ∃ (m : Nat) (L : List Int), j = .int .i64 m ∧ m ≤ x'.f4.length ∧ L.length = x'.f4.length ∧ Aside0 (WS w ga n v11 u4 (.slice AL x'.f4.length cL) (fl (l0.take k) ++ form (toV x')) (fl (l0.take k)) x' L W)) (fun j _ => x'.f4.length - (intOf j).toNat)
      case atStart => exact ⟨0, _, rfl, Nat.zero_le _, rfl, S12⟩
      case round =>
        clear S12
        obtain ⟨m, L, rfl, hm, hL, S⟩ := hrel
        have z4 := blk_cell S.out.box 4
        by_cases hml : m < x'.f4.length
        · obtain ⟨g, cg, y, hv, hy, f0, f1, hcg, hset⟩ := S.out.at' (k := m) (by omega)
          injection hv with e1 e2 e3
          clear e2
          subst e1 e3
          have HS := Aside0.mk hset
          have HL' := Aside0.mk hL
          clear hset hL hy hcg
          have hl62 := HL62.out
          go_wp2_with fail
          go_roundw
          case rel => exact ⟨m + 1, L.set m ((y + 1) % 256), by go_num, by omega, by rw [List.length_set]; exact HL'.out, Aside0.mk (HS.out _)⟩
          case measure => simp [intOf]; omega
        · obtain rfl : m = x'.f4.length := by omega
          clear hL
          obtain ⟨x, ad', A6, c6, hx', he, f0, f1, f2, f3, f4, f5, f6, hr6, hc6⟩ := at_valB S.out.ww.low HR.out k hlt
          obtain rfl := Option.some.inj he
          obtain rfl : x = x' := by have h9 := HXK.out; rw [hx'] at h9; exact Option.some.inj h9
          have R6 := Aside0.mk (And.intro hr6 hc6)
          clear he hx' hr6 hc6
          go_wp2_with fail
          refine (form_any (toV x) A6 c6 _ (wf_ok HX.out) (Kd.C_below R6.out.1 S.out.ww.low) (by have := HL.out; have : (toV x).l.length + (toV x).s.size = weigh x := rfl; omega)).mono ?_
          rintro e w13 ⟨vf, rfl, hrf, hbf⟩
          obtain ⟨Af, cf, rfl, hcf, hCf⟩ := Kd.R_reads hrf
          have W13 := Aside0.mk (S.out.ww.below hbf)
          have CF := Aside0.mk (And.intro hcf hCf)
          have hfl2 := fl_len (l0.take k) (fun y hy => V0.out y (List.mem_of_mem_take hy)) (by have h9 := take_weigh (l := l0) k; have := L0.out; omega)
          have hff := form_len (wf_ok HX.out)
          have HLL := Aside0.mk (And.intro hfl2 hff)
          clear hrf hbf hcf hCf f0 f1 f2 f3 f4 f5 f6 z4 S hfl2 hff
          go_wp2_with ((with_reducible refine gate_builtin (b := .append) (xs := #[.tmp 56, .tmp 61]) rfl ?_); at_builtin; (refine Kd.R_append_rows (Kd.int .u8) (w0 := w) w.heap.size rfl (.tmp 56) (.tmp 61) 26 5 (.int .u8 0) 1 rfl Try.underlying26 Cod.info5 rfl (by decide) (by omega) u4 (fl (l0.take k)) (form (toV x)) Af _ cf (fun _ => True) (fun _ => False) rfl rfl W13.out.q CF.out.2 (fun _ _ h => h) (fun _ h => h.elim) (fun _ _ => trivial) W13.out.low W13.out.low.size ?aL ?_; (case aL => (have h9 := HLL.out; have h8 := L0.out; have h7 := HL.out; have h6 : (toV x).l.length + (toV x).s.size = weigh x := rfl; have h5 : (l0.take k).length ≤ 300 := (by rw [List.length_take]; omega); have h4 := take_weigh (l := l0) k; omega)); intro v14 w14 ho hb hg hat; have W14 := Aside0.mk (W13.out.grew ho hb hg hat); clear ho hb hg hat))
          have hE : fl (l0.take k) ++ form (toV x) = fl (l0.take (k + 1)) := by rw [fl_take hlt, HXL.out]
          rw [hE] at W14
          have hyl : (fl (l0.take (k + 1))).length ≤ 46000 := by
            have h1 := fl_len (l0.take (k + 1)) (fun y hy => V0.out y (List.mem_of_mem_take hy)) (by have h9 := take_weigh (l := l0) (k + 1); have := L0.out; omega)
            have h2 : (l0.take (k + 1)).length ≤ 300 := by rw [List.length_take]; omega
            have h3 := take_weigh (l := l0) (k + 1)
            have := L0.out
            omega
          clear hE HLL CF W13
          generalize hys : fl (l0.take (k + 1)) = ys at *
          have HYS := Aside0.mk hys
          clear hys
          refine (out_any w.heap.size ga v11 ys w14 W14.out.wat (by omega)).mono ?_
          rintro e w15 ⟨v15, rfl, ho, hb⟩
          obtain ⟨A15, c15, rfl, hc15, hr15⟩ := Kd.R_reads ho
          have P15 := Aside0.mk ho
          have C15 := Aside0.mk (And.intro hc15 hr15)
          have B15 := Aside0.mk hb
          obtain ⟨Aw, cw, hvw, hcw, hCw⟩ := Kd.R_reads (W14.out.below hb).q
          subst hvw
          have CW := Aside0.mk (And.intro hcw hCw)
          clear ho hb hc15 hr15 hcw hCw
          go_wp2_with fail
          refine (sameR (Below.refl _ _) C15.out.2 C15.out.1 CW.out.2 CW.out.1 (by omega)).mono ?_
          rintro e w16 ⟨rfl, hb16, _⟩
          simp only [decide_true]
          have P16 := Aside0.mk (Kd.R_below P15.out hb16)
          have B16 := Aside0.mk (B15.out.trans (hb16.mono B15.out.size))
          clear hb16 P15 B15 C15 CW
          go_wp2_with fail
          go_loopw [9] (fun j W => ∃ (m : Nat) (L : List Int), j = .int .i64 m ∧ m ≤ ys.length ∧ L.length = ys.length ∧ Aside0 (Kd.R (Kd.int .u8) 5 W w14.heap.size (fun _ => True) (.slice A15 ys.length c15) L) ∧ Aside0 (Below w14.heap.size w14 W)) (fun j _ => ys.length - (intOf j).toNat)
          case atStart => exact ⟨0, ys, rfl, Nat.zero_le _, rfl, P16, B16⟩
          case round =>
            clear P16 B16
            obtain ⟨m, L, rfl, hm, hL, P, B⟩ := hrel
            by_cases hml : m < ys.length
            · obtain ⟨g, cg, y, hv, hy, hg, f0, f1, hcg, hset⟩ := row_at P.out (k := m) (by omega)
              injection hv with e1 e2 e3
              clear e2
              subst e1 e3
              have HS := Aside0.mk hset
              have HL' := Aside0.mk hL
              have HG := Aside0.mk hg
              clear hset hL hy hg hcg
              go_wp2_with fail
              go_roundw
              case rel => exact ⟨m + 1, L.set m ((y + 1) % 256), by go_num, by omega, by rw [List.length_set]; exact HL'.out, Aside0.mk (HS.out _), Aside0.mk (B.out.setCell (p := ⟨g, m, none⟩) HG.out _)⟩
              case measure => simp [intOf]; omega
            · obtain rfl : m = ys.length := by omega
              clear hL
              have FIN := Aside0.mk (W14.out.below B.out)
              rw [← HYS.out] at FIN
              go_wp2_with fail
              go_roundw
              case rel => exact ⟨k + 1, v11, by go_num, by omega, by simpa [HYS.out] using FIN⟩
              case measure => simp [intOf]; omega
    · obtain rfl : k = l0.length := by omega
      rw [List.take_length] at HA
      have F0 := Aside0.mk (fl_all V0.out L0.out)
      have hf0 := F0.out
      generalize fl l0 = xs at *
      clear hlt hk H F0
      obtain ⟨Aw, cw, e4, hcw, hCw⟩ := Kd.R_reads HA.out.q
      have CW := Aside0.mk (And.intro hcw hCw)
      clear hcw hCw
      subst e4
      go_wp2_with fail
      refine (out_any w.heap.size ga v xs _ HA.out.wat (by omega)).mono ?_
      rintro e w8 ⟨v8, rfl, ho8, hb8⟩
      obtain ⟨A8, c8, rfl, hc8, hr8⟩ := Kd.R_reads ho8
      have H8 := Aside0.mk (And.intro hc8 hr8)
      have HB8 := Aside0.mk hb8
      have L8 := Aside0.mk HA.out.low
      clear ho8 hb8 hc8 hr8
      go_wp2_with fail
      refine (sameR (Below.refl _ _) H8.out.2 H8.out.1 (Kd.C_below CW.out.2 HB8.out) CW.out.1 (by omega)).mono ?_
      rintro e w9 ⟨rfl, hb9, _⟩
      have B9 := Aside0.mk ((L8.out.trans (HB8.out.mono L8.out.size)).trans (hb9.mono (L8.out.trans (HB8.out.mono L8.out.size)).size))
      clear hb9
      go_wp2_with fail
      go_ret
      exact ⟨by simp, B9.out⟩
set_option maxRecDepth 100000 in
theorem writes_many (A0 : Option Addr) (c0 : Nat) (l0 : List S29) (w : World) (hr0 : Kd.C k29 w A0 l0.length l0) (hc0 : l0.length ≤ c0)
    (h : 300 < l0.length ∨ 20000 < (l0.map weigh).sum) : Calls Try.prog 3 #[.slice A0 l0.length c0] w fun e w' => e = .returned (.bool true) ∧ Below w.heap.size w w' := by
  have HR := Aside0.mk hr0
  have H := Aside0.mk (decide_eq_true h)
  clear hr0 h
  go_enter Try.func3, Try.ntmps3
  go_wp2_with fail
  refine (great_calls A0 c0 l0 true w w (Below.refl _ _) HR.out hc0 H.out).mono ?_
  rintro e w1 ⟨rfl, hb⟩
  have B1 := Aside0.mk hb
  clear hb
  go_wp2_with fail
  go_ret
  exact ⟨rfl, B1.out⟩
theorem CodecWrites_walk (A0 : Option Addr) (c0 : Nat) (l0 : List S29) (w : World) (hr0 : Kd.C k29 w A0 l0.length l0) (hc0 : l0.length ≤ c0) (hw0 : wfAll (Try.prog.bytesOf 29) wfV l0) :
    Calls Try.prog 3 #[.slice A0 l0.length c0] w fun e w' => e = .returned (.bool true) ∧ Below w.heap.size w w' := by
  by_cases h : 300 < l0.length ∨ 20000 < (l0.map weigh).sum
  · exact writes_many A0 c0 l0 w hr0 hc0 h
  · exact writes_few A0 c0 l0 w hr0 hc0 hw0.2 h
end Go.Proofs.Ytekbbpbpkekdhaa.Given
