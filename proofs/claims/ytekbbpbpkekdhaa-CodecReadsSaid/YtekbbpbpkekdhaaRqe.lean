/- What the reference's Err and Done tell: the walks. -/
import Derived.Test.YtekbbpbpkekdhaaRq
namespace Go.Proofs.Ytekbbpbpkekdhaa.Cod
open Go.RowKit Go.Proofs.Ytekbbpbpkekdhaa.Ex Go.Proofs.Ytekbbpbpkekdhaa.PBase Go.Proofs.Ytekbbpbpkekdhaa.OpenS Go.Proofs.Ytekbbpbpkekdhaa.Given Go.Proofs.YtekbbpbpkekdhaaW.PrintWords Go.Proofs.YtekbbpbpkekdhaaW.PrintLast Go.Proofs.YtekbbpbpkekdhaaW.PrintMore
set_option maxHeartbeats 400000 in
theorem rerr_any (g : Nat) (A : Option Addr) (c : Nat) (bs : List Int) (a : Nat) (f : Bool) (w : World) (hq : QAt w g A c bs a f) : Calls Try.prog 25 #[.pointer (some ⟨g, 0, none⟩)] w fun e w' => e = .returned (.int .i64 (if f = true then 60 else 0)) ∧ w' = w := by
  have g2 : w.cell? ⟨g, 2, none⟩ = some (.bool f) := blk_cell hq.blk 2
  clear hq
  cases f <;> (go_enter Try.func25, Try.ntmps25; go_wp2_with fail; go_ret; exact ⟨rfl, rfl⟩)
set_option maxHeartbeats 400000 in
theorem rdone_any (g : Nat) (A : Option Addr) (c : Nat) (bs : List Int) (a : Nat) (f : Bool) (w : World) (hq : QAt w g A c bs a f) : Calls Try.prog 27 #[.pointer (some ⟨g, 0, none⟩)] w fun e w' => e = .returned (.int .i64 (if f = true ∨ 0 < (bs.drop a).length then 60 else 0)) ∧ Below w.heap.size w w' := by
  have g0 : w.cell? ⟨g, 0, none⟩ = some (.slice A bs.length c) := blk_cell hq.blk 0
  have g1 : w.cell? ⟨g, 1, none⟩ = some (.int .i64 (a : Int)) := blk_cell hq.blk 1
  have g2 : w.cell? ⟨g, 2, none⟩ = some (.bool f) := blk_cell hq.blk 2
  clear hq
  have hl : (bs.drop a).length = bs.length - a := List.length_drop
  have hS0 : w.drew.cell? ⟨g, 0, none⟩ = some (.slice A bs.length c) ∧ w.drew.cell? ⟨g, 1, none⟩ = some (.int .i64 (a : Int)) ∧ w.drew.cell? ⟨g, 2, none⟩ = some (.bool f) := ⟨g0, g1, g2⟩
  have hB := Aside0.mk (below_drew (Below.refl w.heap.size w))
  cases f with
  | true =>
    rw [if_pos (.inl rfl)]
    clear hl
    go_enter Try.func27, Try.ntmps27
    go_wp2_with fail
    go_region
    go_wp2_with fail
    go_ret
    exact ⟨rfl, by first | exact hB.out | exact Below.refl _ _⟩
  | false =>
    by_cases h : a < bs.length
    · rw [if_pos (.inr (by omega))]
      have hd1 : decide ((a : Int) < (bs.length : Int)) = true := decide_eq_true (by omega)
      have hd2 : decide (a < bs.length) = true := decide_eq_true (by omega)
      clear hl
      go_enter Try.func27, Try.ntmps27
      go_wp2_with fail
      go_region_held3 (fun W' : World => W'.cell? ⟨g, 0, none⟩ = some (.slice A bs.length c) ∧ W'.cell? ⟨g, 1, none⟩ = some (.int .i64 (a : Int)) ∧ W'.cell? ⟨g, 2, none⟩ = some (.bool false)) (first | assumption | go_keep) (fail)
      go_wp2_with fail
      go_ret
      exact ⟨rfl, by first | exact hB.out | exact Below.refl _ _⟩
    · rw [if_neg (by simp; omega)]
      have hd1 : decide ((a : Int) < (bs.length : Int)) = false := decide_eq_false (by omega)
      have hd2 : decide (a < bs.length) = false := decide_eq_false (by omega)
      clear hl
      go_enter Try.func27, Try.ntmps27
      go_wp2_with fail
      go_region_held3 (fun W' : World => W'.cell? ⟨g, 0, none⟩ = some (.slice A bs.length c) ∧ W'.cell? ⟨g, 1, none⟩ = some (.int .i64 (a : Int)) ∧ W'.cell? ⟨g, 2, none⟩ = some (.bool false)) (first | assumption | go_keep) (fail)
      go_wp2_with fail
      go_ret
      exact ⟨rfl, by first | exact hB.out | exact Below.refl _ _⟩
end Go.Proofs.Ytekbbpbpkekdhaa.Cod
/-! What lies about in CodecReads' world: the two readers, and the value that was read. -/
namespace Go.Proofs.Ytekbbpbpkekdhaa.Given
open Go.RowKit Go.Proofs.Ytekbbpbpkekdhaa.Cod Go.Proofs.Ytekbbpbpkekdhaa.Ex Go.Proofs.Ytekbbpbpkekdhaa.PBase Go.Proofs.Ytekbbpbpkekdhaa.OpenS Go.Proofs.YtekbbpbpkekdhaaW.PrintWords Go.Proofs.YtekbbpbpkekdhaaW.PrintLast Go.Proofs.YtekbbpbpkekdhaaW.PrintMore
/-- What was told: y, and behind it r; or nothing. -/
def Deq (k : Int) (o : Option (S29 × List Int)) (y : S29) (r : List Int) (f : Bool) : Prop := (o = some (y, r) ∧ f = false) ∨ (o = none ∧ y = z0 k ∧ f = true)
structure DR (b g : Nat) (W : World) (y : S29) (A4 : Option Addr) (c4 : Nat) (r : List Int) (f : Bool) (A1 : Option Addr) (c1 : Nat) (w' : World) : Prop where
  ex : Ex (fun k => k = g) W w'
  cap : y.f4.length ≤ c4
  row : Kd.C (Kd.int .u8) w' A4 y.f4.length y.f4
  rat : RAt w' b g A1 c1 r f
  far : ∀ ad, A4 = some ad → ad.spot = none ∧ ad.block = b ∧ b ≠ g ∧ (∃ cells, w'.heap[b]? = some (.cells cells 5 (0, 0))) ∧ ∀ ad1, A1 = some ad1 → r = [] ∨ ad.off + y.f4.length ≤ ad1.off
def DP (b g : Nat) (W : World) (k : Int) (o : Option (S29 × List Int)) (e : Ending) (w' : World) : Prop :=
  ∃ y A4 c4 r f A1 c1, e = .returned (aggS y A4 c4) ∧ Deq k o y r f ∧ DR b g W y A4 c4 r f A1 c1 w'
theorem DP.of {b g : Nat} {W : World} {k : Int} {o : Option (S29 × List Int)} {e : Ending} {w' : World} (h : DPost b g W k o e w') : DP b g W k o e w' := by
  obtain ⟨hx, h⟩ := h
  cases o with
  | none =>
    obtain ⟨he, A1, c1, r, hr⟩ := h
    exact ⟨z0 k, none, 0, r, true, A1, c1, he, .inr ⟨rfl, rfl, rfl⟩, hx, Nat.le_refl _, C_nil _, hr, fun ad e => by cases e⟩
  | some p =>
    obtain ⟨y, r⟩ := p
    obtain ⟨A4, c4, A1, c1, he, hc, hC, hr, hf⟩ := h
    exact ⟨y, A4, c4, r, false, A1, c1, he, .inl ⟨rfl, rfl⟩, hx, hc, hC, hr, hf⟩
/-- The two readers. -/
structure XS (w : World) (b g gq : Nat) (A0 : Option Addr) (c0 : Nat) (l0 : List Int) (A1 : Option Addr) (c1 : Nat) (xs : List Int) (f1 : Bool) (a : Nat) (f2 : Bool) (W : World) : Prop where
  r : RAt W b g A1 c1 xs f1
  q : QAt W gq A0 c0 l0 a f2
  low : Below w.heap.size w W
  wb : w.heap.size ≤ b
  bq : b < gq
  gq' : g < gq
  far : ∀ ad, A0 = some ad → 0 < l0.length → ad.block < w.heap.size
section
variable {w : World} {b g gq : Nat} {A0 : Option Addr} {c0 : Nat} {l0 : List Int} {A1 : Option Addr} {c1 : Nat} {xs : List Int} {f1 : Bool} {a : Nat} {f2 : Bool} {W W1 : World}
theorem XS.below (h : XS w b g gq A0 c0 l0 A1 c1 xs f1 a f2 W) (hb : Below W.heap.size W W1) : XS w b g gq A0 c0 l0 A1 c1 xs f1 a f2 W1 :=
  ⟨h.r.below hb, h.q.below hb, h.low.trans (hb.mono h.low.size), h.wb, h.bq, h.gq', h.far⟩
theorem XS.drew (h : XS w b g gq A0 c0 l0 A1 c1 xs f1 a f2 W) : XS w b g gq A0 c0 l0 A1 c1 xs f1 a f2 W.drew := h.below (below_drew (Below.refl _ _))
/-- A write elsewhere. -/
theorem XS.ex (h : XS w b g gq A0 c0 l0 A1 c1 xs f1 a f2 W) {S : Nat → Prop} (hx : Ex S W W1) (hS : ∀ k, S k → w.heap.size ≤ k ∧ k ≠ b ∧ k ≠ g ∧ k ≠ gq) : XS w b g gq A0 c0 l0 A1 c1 xs f1 a f2 W1 := by
  refine ⟨h.r.ex hx (fun e => (hS _ e).2.2.1 rfl) (fun ad e hs => ?_), h.q.ex hx (fun e => (hS _ e).2.2.2 rfl) (fun ad e hn hs => ?_), h.low.trans (hx.below h.low.size (fun k e => (hS k e).1)), h.wb, h.bq, h.gq', h.far⟩
  · exact (hS _ hs).2.1 (h.r.far ad e).2.2.1
  · have := (hS _ hs).1; have := h.far ad e hn; omega
/-- The code's reader reads. -/
theorem XS.read (h : XS w b g gq A0 c0 l0 A1 c1 xs f1 a f2 W) {A2 : Option Addr} {c2 : Nat} {r : List Int} {f : Bool} (hx : Ex (fun k => k = g) W W1) (hr : RAt W1 b g A2 c2 r f) : XS w b g gq A0 c0 l0 A2 c2 r f a f2 W1 := by
  have hg := h.gq'
  have hl := h.r.low
  have hwb := h.wb
  exact ⟨hr, h.q.ex hx (by omega) (fun ad e hn => by have := h.far ad e hn; omega), h.low.trans (hx.below h.low.size (fun k e => by omega)), h.wb, h.bq, h.gq', h.far⟩
/-- The reference's reader reads. -/
theorem XS.refd (h : XS w b g gq A0 c0 l0 A1 c1 xs f1 a f2 W) {a' : Nat} {f : Bool} (hx : Ex (fun k => k = gq) W W1) (hq : QAt W1 gq A0 c0 l0 a' f) : XS w b g gq A0 c0 l0 A1 c1 xs f1 a' f W1 := by
  have hg := h.gq'
  have hb := h.bq
  have hwb := h.wb
  exact ⟨h.r.ex hx (by omega) (fun ad e => by have := (h.r.far ad e).2.2.1; omega), hq, h.low.trans (hx.below h.low.size (fun k e => by omega)), h.wb, h.bq, h.gq', h.far⟩
end
/-- The readers, and the box with the value that was read; its row's bytes are L now. -/
structure BS (w : World) (b g gq : Nat) (A0 : Option Addr) (c0 : Nat) (l0 : List Int) (A1 : Option Addr) (c1 : Nat) (xs : List Int) (f1 : Bool) (a : Nat) (f2 : Bool) (n : Nat) (y : S29) (A4 : Option Addr) (c4 N : Nat) (L : List Int) (W : World) : Prop where
  x : XS w b g gq A0 c0 l0 A1 c1 xs f1 a f2 W
  box : W.heap[n]? = some (.cells #[.int .u8 y.f0, .int .u64 y.f1, .int .i64 y.f2, .bool y.f3, .slice A4 N c4, .string y.f5, .int .i64 y.f6] 29 (0, 0))
  nn : gq < n
  cap : N ≤ c4
  len : L.length = N
  row : Kd.C (Kd.int .u8) W A4 N L
  far : ∀ ad, A4 = some ad → ad.spot = none ∧ ad.block = b ∧ b ≠ g ∧ (∃ cells, W.heap[b]? = some (.cells cells 5 (0, 0))) ∧ ∀ ad1, A1 = some ad1 → xs = [] ∨ ad.off + N ≤ ad1.off
section
variable {w : World} {b g gq : Nat} {A0 : Option Addr} {c0 : Nat} {l0 : List Int} {A1 : Option Addr} {c1 : Nat} {xs : List Int} {f1 : Bool} {a : Nat} {f2 : Bool} {n : Nat} {y : S29} {A4 : Option Addr} {c4 N : Nat} {L : List Int} {W W1 : World}
theorem BS.below (h : BS w b g gq A0 c0 l0 A1 c1 xs f1 a f2 n y A4 c4 N L W) (hb : Below W.heap.size W W1) : BS w b g gq A0 c0 l0 A1 c1 xs f1 a f2 n y A4 c4 N L W1 :=
  ⟨h.x.below hb, (hb.block _ (blk_lt h.box)).trans h.box, h.nn, h.cap, h.len, Kd.C_below h.row hb, fun ad e => by
    obtain ⟨h0, h1, h2, ⟨cells, h3⟩, h4⟩ := h.far ad e
    exact ⟨h0, h1, h2, ⟨cells, (hb.block _ (blk_lt h3)).trans h3⟩, h4⟩⟩
theorem BS.drew (h : BS w b g gq A0 c0 l0 A1 c1 xs f1 a f2 n y A4 c4 N L W) : BS w b g gq A0 c0 l0 A1 c1 xs f1 a f2 n y A4 c4 N L W.drew := h.below (below_drew (Below.refl _ _))
theorem BS.refd (h : BS w b g gq A0 c0 l0 A1 c1 xs f1 a f2 n y A4 c4 N L W) {a' : Nat} {f : Bool} (hx : Ex (fun k => k = gq) W W1) (hq : QAt W1 gq A0 c0 l0 a' f) : BS w b g gq A0 c0 l0 A1 c1 xs f1 a' f n y A4 c4 N L W1 := by
  have hn := h.nn
  have hb := h.x.bq
  exact ⟨h.x.refd hx hq, hx.heap h.box (by omega), h.nn, h.cap, h.len, C_ex h.row hx (fun ad e _ => by have := (h.far ad e).2.1; omega), fun ad e => by
    obtain ⟨h0, h1, h2, ⟨cells, h3⟩, h4⟩ := h.far ad e
    exact ⟨h0, h1, h2, ⟨cells, hx.heap h3 (by omega)⟩, h4⟩⟩
theorem add_spot {ad : Addr} (h : ad.spot = none) (k : Nat) : ad.add k = ⟨ad.block, ad.off + k, none⟩ := by
  obtain ⟨b, o, s⟩ := ad
  simp only at h
  subst h
  unfold Addr.add
  split
  · rename_i h0; simp_all
  · rfl
/-- Reading a row in a world of which one cell has turned, that isn't the row's. -/
theorem C_cell {A : Option Addr} {m : Nat} {zs : List Int} (h : Kd.C (Kd.int .u8) W A m zs) (p : Addr) (v : Value) (hp : ∀ ad, A = some ad → ∀ j, j < m → p ≠ ad.add j) : Kd.C (Kd.int .u8) (W.setCell p v) A m zs := by
  refine ⟨h.1, h.2.1, fun hn => ?_⟩
  obtain ⟨ad, e, hc⟩ := h.2.2 hn
  refine ⟨ad, e, fun j z hj => ?_⟩
  obtain ⟨c, hs', hr, hcell⟩ := hc j z hj
  refine ⟨c, hs', hr, fun i u hu => ?_⟩
  have hc1 : c = [Value.int .u8 z] := hr
  subst hc1
  have hi : i = 0 := by
    rcases i with _ | i
    · rfl
    · simp at hu
  subst hi
  have h1 := hcell 0 u hu
  have hj' : j < m := by rw [← h.1]; exact (List.getElem?_eq_some_iff.1 hj).1
  have hne := hp ad e j hj'
  have e2 : ad.add (j * (Kd.int .u8).sz + 0) = ad.add j := by show ad.add (j * 1 + 0) = _; rw [Nat.mul_one, Nat.add_zero]
  rw [e2] at h1 ⊢
  exact (World.cell?_setCell_other _ _ _ _ hne).trans h1
/-- A byte of the row is set. -/
theorem C_put {ad : Addr} {m : Nat} {zs : List Int} (hs : ad.spot = none) (h : Kd.C (Kd.int .u8) W (some ad) m zs) (k : Nat) (hk : k < m) (z : Int) : Kd.C (Kd.int .u8) (W.setCell (ad.add k) (.int .u8 z)) (some ad) m (zs.set k z) := by
  refine ⟨by rw [List.length_set]; exact h.1, h.2.1, fun hn => ?_⟩
  obtain ⟨ad', e, hc⟩ := h.2.2 hn
  obtain rfl := Option.some.inj e
  refine ⟨ad, rfl, fun j x hj => ?_⟩
  have hj' : j < zs.length := by have := (List.getElem?_eq_some_iff.1 hj).1; rwa [List.length_set] at this
  obtain ⟨x0, hx0⟩ : ∃ x0, zs[j]? = some x0 := ⟨_, List.getElem?_eq_getElem hj'⟩
  obtain ⟨c, hs', hr, hcell⟩ := hc j x0 hx0
  have hc1 : c = [Value.int .u8 x0] := hr
  subst hc1
  have h1 := hcell 0 _ rfl
  have e2 : ad.add (j * (Kd.int .u8).sz + 0) = ad.add j := by show ad.add (j * 1 + 0) = _; rw [Nat.mul_one, Nat.add_zero]
  refine ⟨[Value.int .u8 x], hs', rfl, fun i u hu => ?_⟩
  have hi : i = 0 := by
    rcases i with _ | i
    · rfl
    · simp at hu
  subst hi
  obtain rfl : Value.int .u8 x = u := Option.some.inj hu
  rw [e2] at h1 ⊢
  by_cases hjk : j = k
  · subst hjk
    rw [List.getElem?_set_self hj'] at hj
    rw [Option.some.inj hj]
    exact World.cell?_setCell_same' _ _ _ (by rw [h1]; rfl)
  · rw [List.getElem?_set_ne (by omega), hx0] at hj
    obtain rfl := Option.some.inj hj
    have hne : ad.add k ≠ ad.add j := by rw [add_spot hs, add_spot hs]; intro e; injection e with _ e _; omega
    exact (World.cell?_setCell_other _ _ _ _ hne).trans h1
/-- A byte of the value's row, and what it may be set to. -/
theorem BS.at' (h : BS w b g gq A0 c0 l0 A1 c1 xs f1 a f2 n y A4 c4 N L W) {k : Nat} (hk : k < N) :
    ∃ ad x, A4 = some ad ∧ W.cell? (ad.add k) = some (.int .u8 x) ∧ W.frozen? (ad.add k) = false ∧ L[k]? = some x ∧ ∀ z, BS w b g gq A0 c0 l0 A1 c1 xs f1 a f2 n y A4 c4 N (L.set k z) (W.setCell (ad.add k) (.int .u8 z)) := by
  have hC := h.row
  have hl := h.len
  obtain ⟨ad, e, hc⟩ := hC.2.2 (by omega)
  obtain ⟨x, hx⟩ : ∃ x, L[k]? = some x := ⟨_, List.getElem?_eq_getElem (by omega)⟩
  obtain ⟨c, hs', hr, hcell⟩ := hc k x hx
  have hc1 : c = [Value.int .u8 x] := hr
  subst hc1
  have h1 := hcell 0 _ rfl
  have e2 : ad.add (k * (Kd.int .u8).sz + 0) = ad.add k := by show ad.add (k * 1 + 0) = _; rw [Nat.mul_one, Nat.add_zero]
  rw [e2] at h1
  obtain ⟨hsp, hbk, hbg, ⟨cells, hb5⟩, hoff⟩ := h.far ad e
  have ea := add_spot hsp k
  have hfz : W.frozen? (ad.add k) = false := by rw [ea, hbk]; exact blk_frozen hb5 _
  refine ⟨ad, x, e, h1, hfz, hx, fun z => ?_⟩
  have hX : Ex (fun j => j = b) W (W.setCell (ad.add k) (.int .u8 z)) := (Ex.refl (fun j => j = b) W).setCell (p := ad.add k) (fun _ => by rw [ea]; exact hbk) _
  have hbq := h.x.bq
  have hnn := h.nn
  have hwb := h.x.wb
  subst e
  have hcells : ∃ cells, (W.setCell (ad.add k) (.int .u8 z)).heap[b]? = some (.cells cells 5 (0, 0)) := by
    rw [ea, hbk]
    exact ⟨_, blk_set hb5 _ _⟩
  refine ⟨⟨⟨hX.heap h.x.r.blk (fun e => hbg e.symm), h.x.r.low, h.x.r.cap, C_cell h.x.r.row _ _ (fun ad1 e1 j hj => ?_), fun ad1 e1 => ?_⟩, h.x.q.ex hX (by omega) (fun ad0 e0 hn => by have := h.x.far ad0 e0 hn; omega), h.x.low.trans (hX.below h.x.low.size (fun j e => by omega)), h.x.wb, h.x.bq, h.x.gq', h.x.far⟩, hX.heap h.box (by omega), h.nn, h.cap, by rw [List.length_set]; exact h.len, C_put hsp h.row k hk z, fun ad' e' => ?_⟩
  · obtain ⟨s1, _, b1, _⟩ := h.x.r.far ad1 e1
    rw [ea, add_spot s1]
    intro e
    injection e with _ e _
    rcases hoff ad1 e1 with hn | ho
    · rw [hn] at hj; simp at hj
    · omega
  · obtain ⟨s1, b0, b1, _⟩ := h.x.r.far ad1 e1
    exact ⟨s1, b0, b1, by rw [b1]; exact hcells⟩
  · obtain rfl := Option.some.inj e'
    exact ⟨hsp, hbk, hbg, hcells, hoff⟩
/-- The value goes into a box that was made ahead of the reading. -/
theorem BS.of_set (h : XS w b g gq A0 c0 l0 A1 c1 xs f1 a f2 W) {A2 : Option Addr} {c2 : Nat} {r : List Int} {f : Bool} {w2 : World} (hW : Below W.heap.size W W1) (hd : DR b g W1 y A4 c4 r f A2 c2 w2) (hn : gq < n) (hz : w2.heap[n]? = some (.cells (zc 0) 29 (0, 0))) :
    BS w b g gq A0 c0 l0 A2 c2 r f a f2 n y A4 c4 y.f4.length y.f4 (((((((w2.setCell ⟨n, 0, none⟩ (.int .u8 y.f0)).setCell ⟨n, 1, none⟩ (.int .u64 y.f1)).setCell ⟨n, 2, none⟩ (.int .i64 y.f2)).setCell ⟨n, 3, none⟩ (.bool y.f3)).setCell ⟨n, 4, none⟩ (.slice A4 y.f4.length c4)).setCell ⟨n, 5, none⟩ (.string y.f5)).setCell ⟨n, 6, none⟩ (.int .i64 y.f6)) := by
  have hX := (h.below hW).read hd.ex hd.rat
  have hbq := hX.bq
  have hgg := hX.gq'
  have hwb := hX.wb
  obtain ⟨h7, hx7⟩ := rv_set7 hz (.int .u8 y.f0) (.int .u64 y.f1) (.int .i64 y.f2) (.bool y.f3) (.slice A4 y.f4.length c4) (.string y.f5) (.int .i64 y.f6)
  have hlow := hX.r.low
  refine ⟨hX.ex hx7 (fun k e => ?_), h7, hn, hd.cap, rfl, C_ex hd.row hx7 (fun ad e _ => ?_), fun ad e => ?_⟩
  · rcases e with rfl | rfl <;> (refine ⟨?_, ?_, ?_, ?_⟩ <;> omega)
  · have := (hd.far ad e).2.1; omega
  · obtain ⟨h0, h1, h2, ⟨cells, h3⟩, h4⟩ := hd.far ad e
    exact ⟨h0, h1, h2, ⟨cells, hx7.heap h3 (by omega)⟩, h4⟩
/-- The value goes into a new box. -/
theorem BS.of_new (h : XS w b g gq A0 c0 l0 A1 c1 xs f1 a f2 W) {A2 : Option Addr} {c2 : Nat} {r : List Int} {f : Bool} {w2 : World} (hW : Below W.heap.size W W1) (hd : DR b g W1 y A4 c4 r f A2 c2 w2) :
    BS w b g gq A0 c0 l0 A2 c2 r f a f2 w2.heap.size y A4 c4 y.f4.length y.f4 (w2.alloc (.cells #[.int .u8 y.f0, .int .u64 y.f1, .int .i64 y.f2, .bool y.f3, .slice A4 y.f4.length c4, .string y.f5, .int .i64 y.f6] 29)) := by
  have hX := (h.below hW).read hd.ex hd.rat
  have hb : Below w2.heap.size w2 (w2.alloc (.cells #[.int .u8 y.f0, .int .u64 y.f1, .int .i64 y.f2, .bool y.f3, .slice A4 y.f4.length c4, .string y.f5, .int .i64 y.f6] 29)) := (Below.refl _ _).alloc (Nat.le_refl _) _
  refine ⟨hX.below hb, alloc_heap _ _ _, hX.q.lt, hd.cap, rfl, Kd.C_below hd.row hb, fun ad e => ?_⟩
  obtain ⟨h0, h1, h2, ⟨cells, h3⟩, h4⟩ := hd.far ad e
  exact ⟨h0, h1, h2, ⟨cells, (hb.block _ (blk_lt h3)).trans h3⟩, h4⟩
end
section
variable {w : World} {b g gq : Nat} {A0 : Option Addr} {c0 : Nat} {l0 : List Int} {A1 : Option Addr} {c1 : Nat} {xs : List Int} {f1 : Bool} {a : Nat} {f2 : Bool} {n : Nat} {y : S29} {A4 : Option Addr} {c4 N : Nat} {L : List Int} {W W1 : World}
/-- The cells that a round reads. -/
theorem BS.cells (h : BS w b g gq A0 c0 l0 A1 c1 xs f1 a f2 n y A4 c4 N L W) {ad : Addr} {l1 : List SA} (hr : Kd.C kA w (some ad) l1.length l1) {k : Nat} (hk : k < l1.length) {x : SA} (hx : l1[k]? = some x) :
    W.cell? (ad.add (k * 2)) = some (.int .u8 x.f0) ∧ W.cell? ⟨(ad.add (k * 2)).block, (ad.add (k * 2)).off + 1, none⟩ = some (.int .i64 x.f1) ∧ W.cell? ⟨n, 0, none⟩ = some (.int .u8 y.f0) ∧ W.cell? ⟨n, 1, none⟩ = some (.int .u64 y.f1) ∧ W.cell? ⟨n, 2, none⟩ = some (.int .i64 y.f2) ∧ W.cell? ⟨n, 3, none⟩ = some (.bool y.f3) ∧ W.cell? ⟨n, 4, none⟩ = some (.slice A4 N c4) ∧ W.cell? ⟨n, 5, none⟩ = some (.string y.f5) ∧ W.cell? ⟨n, 6, none⟩ = some (.int .i64 y.f6) := by
  obtain ⟨x', ad', hx', e, f0, f1⟩ := at_ask (Kd.C_below hr h.x.low) k hk
  obtain rfl := Option.some.inj e
  rw [hx] at hx'
  obtain rfl := Option.some.inj hx'
  exact ⟨f0, f1, blk_cell h.box 0, blk_cell h.box 1, blk_cell h.box 2, blk_cell h.box 3, blk_cell h.box 4, blk_cell h.box 5, blk_cell h.box 6⟩
theorem deq_len (hb : isB l0) (hl : l0.length ≤ 20000) {k m : Int} {zs : List Int} (hq : Deq k (dec k m zs f2) y xs f1) (he : f2 = false → zs = l0.drop a) (hk0 : 0 ≤ k) (hk5 : k ≤ 5) (hm : m ≤ 9223372036854775807) : y.f4.length ≤ 20000 := by
  rcases hq with ⟨e1, rfl⟩ | ⟨e1, rfl, rfl⟩
  · cases f2 with
    | true => cases e1
    | false =>
      have hz := he rfl
      have hzb : isB zs := by rw [hz]; exact isB_drop hb a
      obtain ⟨h1, h2, h3⟩ := dec_form hzb hk0 hk5 hm (show decS k m zs = some (y, xs) from e1)
      have := congrArg List.length h1
      rw [List.length_append] at this
      have hzl : zs.length ≤ 20000 := by rw [hz, List.length_drop]; omega
      have hw : y.f4.length ≤ weigh y := by unfold weigh; omega
      omega
  · simp [z0]
/-- The reference reads the same. -/
theorem BS.rd (h : BS w b g gq A0 c0 l0 A1 c1 xs f1 a f2 n y A4 c4 N L W) (hb : isB l0) (hl : l0.length ≤ 20000) {k m : Int} {zs : List Int} (hq : Deq k (dec k m zs f2) y xs f1) (he : f2 = false → zs = l0.drop a) (hk0 : 0 ≤ k) (hk5 : k ≤ 5) (hm : m ≤ 9223372036854775807) :
    Calls Try.prog 23 #[.pointer (some ⟨gq, 0, none⟩), .int .u8 k, .int .i64 m] W fun e w' => ∃ A6 c6 a', e = .returned (aggS y A6 c6) ∧ BS w b g gq A0 c0 l0 A1 c1 xs f1 a' f1 n y A4 c4 N L w' ∧ y.f4.length ≤ c6 ∧ Kd.C (Kd.int .u8) w' A6 y.f4.length y.f4 ∧ (f1 = false → xs = l0.drop a') := by
  have hd : dec k m (l0.drop a) f2 = dec k m zs f2 := by
    cases f2 with
    | true => rfl
    | false => rw [he rfl]
  refine (rread_any gq A0 c0 l0 a f2 k m W h.x.q hb (by omega) hk0 hk5 hm).mono ?_
  rintro e w' ⟨hx, hp⟩
  rw [hd] at hp
  rcases hq with ⟨e1, rfl⟩ | ⟨e1, rfl, rfl⟩
  · rw [e1] at hp
    obtain ⟨A6, c6, a', he, hc, hC, hq, hr⟩ := hp
    exact ⟨A6, c6, a', he, h.refd hx hq, hc, hC, fun _ => hr⟩
  · rw [e1] at hp
    obtain ⟨he, a', hq⟩ := hp
    exact ⟨none, 0, a', he, h.refd hx hq, Nat.le_refl _, C_nil _, fun e => by cases e⟩
theorem BS.same (h : BS w b g gq A0 c0 l0 A1 c1 xs f1 a f2 n y A4 c4 y.f4.length y.f4 W) (hl : y.f4.length ≤ 20000) {A6 : Option Addr} {c6 : Nat} (hc : y.f4.length ≤ c6) (hC : Kd.C (Kd.int .u8) W A6 y.f4.length y.f4) :
    Calls Try.prog 22 #[.agg #[.int .u8 y.f0, .int .u64 y.f1, .int .i64 y.f2, .bool y.f3, .slice A4 y.f4.length c4, .string y.f5, .int .i64 y.f6], .agg #[.int .u8 y.f0, .int .u64 y.f1, .int .i64 y.f2, .bool y.f3, .slice A6 y.f4.length c6, .string y.f5, .int .i64 y.f6]] W fun e w' => e = .returned (.bool true) ∧ BS w b g gq A0 c0 l0 A1 c1 xs f1 a f2 n y A4 c4 y.f4.length y.f4 w' :=
  (same6 (x := y) (y := y) (A := A4) (B := A6) (c := c4) (d := c6) (Below.refl _ W) h.row h.cap hC hc rfl (by omega)).mono fun e w' ⟨he, hb⟩ => ⟨he, h.below hb⟩
theorem BS.err24 (h : BS w b g gq A0 c0 l0 A1 c1 xs f1 a f2 n y A4 c4 N L W) {ev : Int} (hev : (if f1 = true then (60 : Int) else 0) = ev) : Calls Try.prog 24 #[.pointer (some ⟨g, 0, none⟩)] W fun e w' => e = .returned (.int .i64 ev) ∧ BS w b g gq A0 c0 l0 A1 c1 xs f1 a f2 n y A4 c4 N L w' :=
  (err_any b g A1 c1 xs f1 W h.x.r).mono fun e w' ⟨he, hw⟩ => ⟨by rw [← hev]; exact he, by rw [hw]; exact h⟩
theorem BS.err25 (h : BS w b g gq A0 c0 l0 A1 c1 xs f1 a f2 n y A4 c4 N L W) {ev : Int} (hev : (if f2 = true then (60 : Int) else 0) = ev) : Calls Try.prog 25 #[.pointer (some ⟨gq, 0, none⟩)] W fun e w' => e = .returned (.int .i64 ev) ∧ BS w b g gq A0 c0 l0 A1 c1 xs f1 a f2 n y A4 c4 N L w' :=
  (rerr_any gq A0 c0 l0 a f2 W h.x.q).mono fun e w' ⟨he, hw⟩ => ⟨by rw [← hev]; exact he, by rw [hw]; exact h⟩
theorem BS.done26 (h : BS w b g gq A0 c0 l0 A1 c1 xs f1 a f2 n y A4 c4 N L W) {dv : Int} (hdv : (if f1 = true ∨ 0 < xs.length then (60 : Int) else 0) = dv) : Calls Try.prog 26 #[.pointer (some ⟨g, 0, none⟩)] W fun e w' => e = .returned (.int .i64 dv) ∧ BS w b g gq A0 c0 l0 A1 c1 xs f1 a f2 n y A4 c4 N L w' :=
  (done_any b g A1 c1 xs f1 W h.x.r).mono fun e w' ⟨he, hw⟩ => ⟨by rw [← hdv]; exact he, by rw [hw]; exact h⟩
theorem dv_eq {f : Bool} {xs ys : List Int} (h : f = false → xs = ys) : (if f = true ∨ 0 < xs.length then (60 : Int) else 0) = (if f = true ∨ 0 < ys.length then (60 : Int) else 0) := by
  cases f with
  | true => rw [if_pos (.inl rfl), if_pos (.inl rfl)]
  | false => rw [h rfl]
theorem BS.done27 (h : BS w b g gq A0 c0 l0 A1 c1 xs f1 a f1 n y A4 c4 N L W) {dv : Int} (hdv : (if f1 = true ∨ 0 < xs.length then (60 : Int) else 0) = dv) (hs : f1 = false → xs = l0.drop a) : Calls Try.prog 27 #[.pointer (some ⟨gq, 0, none⟩)] W fun e w' => e = .returned (.int .i64 dv) ∧ BS w b g gq A0 c0 l0 A1 c1 xs f1 a f1 n y A4 c4 N L w' :=
  (rdone_any gq A0 c0 l0 a f1 W h.x.q).mono fun e w' ⟨he, hw⟩ => ⟨by rw [← hdv, dv_eq hs]; exact he, h.below hw⟩
theorem XS.done26 (h : XS w b g gq A0 c0 l0 A1 c1 xs f1 a f2 W) {dv : Int} (hdv : (if f1 = true ∨ 0 < xs.length then (60 : Int) else 0) = dv) : Calls Try.prog 26 #[.pointer (some ⟨g, 0, none⟩)] W fun e w' => e = .returned (.int .i64 dv) ∧ XS w b g gq A0 c0 l0 A1 c1 xs f1 a f2 w' :=
  (done_any b g A1 c1 xs f1 W h.r).mono fun e w' ⟨he, hw⟩ => ⟨by rw [← hdv]; exact he, by rw [hw]; exact h⟩
theorem XS.done27 (h : XS w b g gq A0 c0 l0 A1 c1 xs f1 a f1 W) {dv : Int} (hdv : (if f1 = true ∨ 0 < xs.length then (60 : Int) else 0) = dv) (hs : f1 = false → xs = l0.drop a) : Calls Try.prog 27 #[.pointer (some ⟨gq, 0, none⟩)] W fun e w' => e = .returned (.int .i64 dv) ∧ Below w.heap.size w w' :=
  (rdone_any gq A0 c0 l0 a f1 W h.q).mono fun e w' ⟨he, hw⟩ => ⟨by rw [← hdv, dv_eq hs]; exact he, h.low.trans (hw.mono h.low.size)⟩
end
end Go.Proofs.Ytekbbpbpkekdhaa.Given
