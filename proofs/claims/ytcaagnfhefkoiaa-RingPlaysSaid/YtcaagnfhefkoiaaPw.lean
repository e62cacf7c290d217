/- What lies about in RingPlays. -/
import Derived.Test.YtcaagnfhefkoiaaRpu
namespace Go.Proofs.Ytcaagnfhefkoiaa.Given
open Go.RowKit Go.Proofs.Ytcaagnfhefkoiaa.Rg Go.Proofs.Ytcaagnfhefkoiaa.Ex Go.Proofs.Ytcaagnfhefkoiaa.PBase Go.Proofs.Ytcaagnfhefkoiaa.OpenS Go.Proofs.YtcaagnfhefkoiaaW.PrintWords Go.Proofs.YtcaagnfhefkoiaaW.PrintLast Go.Proofs.YtcaagnfhefkoiaaW.PrintMore
/-- A row that a callee gave anew. -/
theorem R_new {W : World} {n : Nat} {v : Value} {l : List S29} (h : Kd.R k29 29 W n (fun _ => True) v l) : ∃ A c, v = .slice A l.length c ∧ l.length ≤ c ∧ Kd.C k29 W A l.length l ∧ ∀ ad, A = some ad → n ≤ ad.block := by
  obtain ⟨A, c, e, hc, hC⟩ := Kd.R_reads h
  obtain ⟨_, inner, ho, _⟩ := h
  exact ⟨A, c, e, hc, hC, fun ad ea => own_base ho ad.block (by rw [e, ea]; rfl)⟩
/-- The ring, and the list of the document beside it. -/
structure PW (w : World) (g : Nat) (cs : Array Value) (first : Nat) (lr : List S29) (A : Option Addr) (l : List S29) (W : World) : Prop where
  r : RAt W g cs first lr
  m : Kd.C k29 W A l.length l
  ne : ∀ ad, A = some ad → 0 < l.length → ad.block ≠ g
  low : Below w.heap.size w W
section
variable {w : World} {g : Nat} {cs : Array Value} {first : Nat} {lr l : List S29} {A : Option Addr} {W W1 : World}
theorem PW.below (h : PW w g cs first lr A l W) (hb : Below W.heap.size W W1) : PW w g cs first lr A l W1 := ⟨h.r.below hb, Kd.C_below h.m hb, h.ne, h.low.trans (hb.mono h.low.size)⟩
theorem PW.drew (h : PW w g cs first lr A l W) : PW w g cs first lr A l W.drew := h.below (below_drew (Below.refl _ _))
theorem PW.new (h : PW w g cs first lr A l W) (hb : Below W.heap.size W W1) {A' : Option Addr} {l' : List S29} (hC : Kd.C k29 W1 A' l'.length l') (hn : ∀ ad, A' = some ad → 0 < l'.length → W.heap.size ≤ ad.block ∨ ad.block ≠ g) : PW w g cs first lr A' l' W1 :=
  ⟨h.r.below hb, hC, fun ad e h0 e2 => by rcases hn ad e h0 with h1 | h1; (· have := h.r.lt; omega); exact h1 e2, h.low.trans (hb.mono h.low.size)⟩
theorem PW.ring (h : PW w g cs first lr A l W) (hg : w.heap.size ≤ g) {cs' : Array Value} {first' : Nat} {l' : List S29} (hr : RAt W1 g cs' first' l') (hx : Ex (fun k => k = g) W W1) : PW w g cs' first' l' A l W1 :=
  ⟨hr, C_ex29 h.m hx (fun ad e hn => h.ne ad e hn), h.ne, h.low.trans (hx.below h.low.size (fun k e => by omega))⟩
theorem PW.push (h : PW w g cs first lr A l W) (hg : w.heap.size ≤ g) (x : S29) {v : Int} {l' : List S29} (hp : pushF lr x = (v, l')) :
    Calls Try.prog 9 #[.pointer (some ⟨g, 0, none⟩), .agg #[.int .i64 x.f0, .int .i64 x.f1]] W fun e w' => e = .returned (.int .i64 v) ∧ ∃ cs', PW w g cs' first l' A l w' :=
  (push_any h.r x).mono fun _ _ ⟨he, ⟨cs', hr⟩, hx⟩ => ⟨by rw [hp] at he; exact he, cs', h.ring hg (by rw [hp] at hr; exact hr) hx⟩
theorem PW.expire (h : PW w g cs first lr A l W) (hg : w.heap.size ≤ g) (t : Int) :
    Calls Try.prog 10 #[.pointer (some ⟨g, 0, none⟩), .int .i64 t] W fun e w' => e = .returned (.int .i64 ((lr.length - (expF lr t).length : Nat) : Int)) ∧ ∃ cs' first', PW w g cs' first' (expF lr t) A l w' :=
  (expire_to (w := w) h.r h.low hg t).mono fun _ _ ⟨he, ⟨cs', first', hr⟩, _, hx⟩ => ⟨he, cs', first', h.ring hg hr hx⟩
/-- The reference's Expire. -/
theorem PW.refExpire (h : PW w g cs first lr A l W) {c : Nat} (hc : l.length ≤ c) (hl : l.length ≤ 100000) (hu : Up l) (t : Int) :
    Calls Try.prog 15 #[.slice A l.length c, .int .i64 t] W fun e w' => ∃ A' c', e = .returned (.slice A' (expF l t).length c') ∧ (expF l t).length ≤ c' ∧ PW w g cs first lr A' (expF l t) w' :=
  (tocsinref16_Expire.calls (l.length + 1) A c l t _ W h.m hc (ref_expire l t hl)).mono fun e w' ⟨v, he, hR, hb⟩ => by
    rw [← exp_filter hu] at hR
    obtain ⟨A', c', rfl, hc', hC', hn⟩ := R_new hR
    exact ⟨A', c', he, hc', h.new hb hC' (fun ad e _ => .inl (hn ad e))⟩
/-- The reference's Push. -/
theorem PW.refPush (h : PW w g cs first lr A l W) {c : Nat} (hc : l.length ≤ c) (hl : l.length ≤ 32) (x : S29) {v : Int} {l' : List S29} (hp : pushF l x = (v, l')) :
    Calls Try.prog 16 #[.slice A l.length c, .agg #[.int .i64 x.f0, .int .i64 x.f1]] W fun e w' => ∃ A' c', e = .returned (.tuple #[.slice A' l'.length c', .int .i64 v]) ∧ l'.length ≤ c' ∧ PW w g cs first lr A' l' w' :=
  (rpush_any (fun ad => ad.block ≠ g) A c l x W h.m hc hl h.ne).mono fun e w' hh => by
    unfold RPPost at hh
    rw [hp] at hh
    obtain ⟨A', c', he, hc', hC', hb, hn⟩ := hh
    exact ⟨A', c', he, hc', h.new hb hC' hn⟩
end
theorem push_all {l : List S29} (h : Up l) (hl : l.length ≤ 32) (x : S29) : ∃ v l', pushF l x = (v, l') ∧ Up l' := by
  rcases push_cases h x with ⟨v, _, hp⟩ | ⟨hp, hu⟩
  · exact ⟨v, l, hp, h⟩
  · exact ⟨0, _, hp, hu⟩
/-- What Last says. -/
def Lst (l : List S29) (y : S29) (b : Bool) : Prop := (l = [] ∧ y = ⟨0, 0⟩ ∧ b = false) ∨ (∃ n, l.length = n + 1 ∧ l[n]? = some y ∧ b = true)
theorem last_say {w : World} {g : Nat} {cs : Array Value} {first : Nat} {l : List S29} (h : RAt w g cs first l) :
    Calls Try.prog 17 #[.pointer (some ⟨g, 0, none⟩)] w fun e w' => ∃ y b, e = .returned (.tuple #[.agg #[.int .i64 y.f0, .int .i64 y.f1], .bool b]) ∧ Lst l y b ∧ Below w.heap.size w w' :=
  (last_any h).mono fun e w' ⟨he, hb⟩ => by
    rw [List.getLast?_eq_getElem?] at he
    rcases Nat.eq_zero_or_pos l.length with h0 | h0
    · obtain rfl := List.length_eq_zero_iff.1 h0
      exact ⟨⟨0, 0⟩, false, he, .inl ⟨rfl, rfl, rfl⟩, hb⟩
    · obtain ⟨y, hy⟩ : ∃ y, l[l.length - 1]? = some y := ⟨_, List.getElem?_eq_getElem (by omega)⟩
      rw [hy] at he
      exact ⟨y, true, he, .inr ⟨l.length - 1, by omega, hy, rfl⟩, hb⟩
/-- A row in a block of its own, that a store may reach. -/
structure OB (w : World) (g : Nat) (A : Option Addr) (l : List S29) (b n : Nat) (W : World) : Prop where
  blk : ∃ cur, W.heap[b]? = some (.cells cur 29 (0, 0)) ∧ n * 2 ≤ cur.size
  lo : w.heap.size ≤ b
  ng : b ≠ g
  nm : ∀ ad, A = some ad → 0 < l.length → ad.block ≠ b
theorem OB.below {w : World} {g : Nat} {A : Option Addr} {l : List S29} {b n : Nat} {W W1 : World} (h : OB w g A l b n W) (hb : Below W.heap.size W W1) : OB w g A l b n W1 := by
  obtain ⟨cur, h1, h2⟩ := h.blk
  exact ⟨⟨cur, blk_below h1 hb, h2⟩, h.lo, h.ng, h.nm⟩
theorem OB.set {w : World} {g : Nat} {A : Option Addr} {l : List S29} {b n : Nat} {W : World} (h : OB w g A l b n W) (j : Nat) (u : Value) : OB w g A l b n (W.setCell ⟨b, j, none⟩ u) := by
  obtain ⟨cur, h1, h2⟩ := h.blk
  exact ⟨⟨_, blk_set h1 j u, by simpa using h2⟩, h.lo, h.ng, h.nm⟩
theorem PW.set {w : World} {g : Nat} {cs : Array Value} {first : Nat} {lr l : List S29} {A : Option Addr} {W : World} {b n : Nat} (h : PW w g cs first lr A l W) (o : OB w g A l b n W) (j : Nat) (u : Value) : PW w g cs first lr A l (W.setCell ⟨b, j, none⟩ u) := by
  have hx : Ex (fun k => k = b) W (W.setCell ⟨b, j, none⟩ u) := Ex.setCell (Ex.refl (fun k => k = b) W) (p := ⟨b, j, none⟩) (fun _ => rfl) u
  exact ⟨h.r.ex hx (fun e => o.ng e.symm), C_ex29 h.m hx (fun ad e hn => o.nm ad e hn), h.ne, h.low.trans (hx.below h.low.size (fun k e => by have := o.lo; omega))⟩
/-- The window's own row. -/
theorem R_own {w : World} {g : Nat} {cs : Array Value} {first : Nat} {lr l : List S29} {A : Option Addr} {W W1 : World} {v : Value} {q : List S29} (h : PW w g cs first lr A l W) (hb : Below W.heap.size W W1) (hR : Kd.R k29 29 W1 W.heap.size (fun _ => True) v q) :
    ∃ Aw c, v = .slice Aw q.length c ∧ q.length ≤ c ∧ Kd.C k29 W1 Aw q.length q ∧ (0 < q.length → ∃ b, Aw = some ⟨b, 0, none⟩ ∧ OB w g A l b q.length W1) := by
  obtain ⟨Aw, c, e, hc, hC⟩ := Kd.R_reads hR
  obtain ⟨_, inner, ho, hr⟩ := hR
  refine ⟨Aw, c, e, hc, hC, fun h0 => ?_⟩
  subst e
  rcases ho.2 with ⟨e, _⟩ | ⟨b, cap, cur, e, hb0, hh, hn, _, hs, _⟩
  · have e2 : q.length = 0 := by injection e
    omega
  · have e2 : Aw = some ⟨b, 0, none⟩ := by injection e
    have e3 : q.length = q.length ∧ c = cap := by injection e with _ _ e3; exact ⟨rfl, e3⟩
    refine ⟨b, e2, ⟨⟨cur, hh, ?_⟩, Nat.le_trans h.low.size hb0, ?_, fun ad ea hl => ?_⟩⟩
    · rw [hs]; exact Nat.mul_le_mul_right 2 hn
    · have := h.r.lt; omega
    · have := C_old29 h.m ad ea hl; omega
theorem add0 (b k : Nat) : (⟨b, 0, none⟩ : Addr).add k = ⟨b, k, none⟩ := by
  simp [Addr.add]; intro h; exact h.symm
/-- The j-th of it may be written. -/
theorem OB.at' {w : World} {g : Nat} {A : Option Addr} {l : List S29} {b n : Nat} {W : World} (h : OB w g A l b n W) {j : Nat} (hj : j < n) {ad : Addr} (ha : ad = ⟨b, 0, none⟩) :
    (∃ u, W.cell? (ad.add (j * 2)) = some u) ∧ (∃ u, W.cell? ⟨(ad.add (j * 2)).block, (ad.add (j * 2)).off + 1, none⟩ = some u) ∧ W.frozen? (ad.add (j * 2)) = false ∧ W.frozen? ⟨(ad.add (j * 2)).block, (ad.add (j * 2)).off + 1, none⟩ = false := by
  subst ha
  rw [add0]
  obtain ⟨cur, h1, h2⟩ := h.blk
  exact ⟨⟨_, (blk_cell h1 _).trans (Array.getElem?_eq_getElem (by omega))⟩, ⟨_, (blk_cell h1 _).trans (Array.getElem?_eq_getElem (by show j * 2 + 1 < _; omega))⟩, blk_frozen h1 _, blk_frozen h1 _⟩
theorem OB.put {w : World} {g : Nat} {cs : Array Value} {first : Nat} {lr l : List S29} {A : Option Addr} {W : World} {b n : Nat} (o : OB w g A l b n W) (h : PW w g cs first lr A l W) {ad : Addr} (ha : ad = ⟨b, 0, none⟩) (j : Nat) (u v : Value) :
    PW w g cs first lr A l ((W.setCell (ad.add (j * 2)) u).setCell ⟨(ad.add (j * 2)).block, (ad.add (j * 2)).off + 1, none⟩ v) ∧ OB w g A l b n ((W.setCell (ad.add (j * 2)) u).setCell ⟨(ad.add (j * 2)).block, (ad.add (j * 2)).off + 1, none⟩ v) := by
  subst ha
  rw [add0]
  exact ⟨(h.set o _ _).set (o.set _ _) _ _, (o.set _ _).set _ _⟩
/-- What the round's question reads. -/
structure RT (w : World) (g : Nat) (cs : Array Value) (first : Nat) (l : List S29) (A : Option Addr) (ny : Nat) (y : S29) (Ag Aw : Option Addr) (q : List S29) (V : World) : Prop where
  p : PW w g cs first l A l V
  y : V.heap[ny]? = some (.cells #[.int .i64 y.f0, .int .i64 y.f1] 29 (0, 0))
  got : Kd.C k29 V Ag l.length l
  win : Kd.C k29 V Aw q.length q
  own : 0 < q.length → ∃ b, Aw = some ⟨b, 0, none⟩ ∧ OB w g A l b q.length V
theorem RT.below {w : World} {g : Nat} {cs : Array Value} {first : Nat} {l : List S29} {A : Option Addr} {ny : Nat} {y : S29} {Ag Aw : Option Addr} {q : List S29} {V V1 : World} (h : RT w g cs first l A ny y Ag Aw q V) (hb : Below V.heap.size V V1) : RT w g cs first l A ny y Ag Aw q V1 :=
  ⟨h.p.below hb, blk_below h.y hb, Kd.C_below h.got hb, Kd.C_below h.win hb, fun h0 => by obtain ⟨b, e, o⟩ := h.own h0; exact ⟨b, e, o.below hb⟩⟩
theorem RT.drew {w : World} {g : Nat} {cs : Array Value} {first : Nat} {l : List S29} {A : Option Addr} {ny : Nat} {y : S29} {Ag Aw : Option Addr} {q : List S29} {V : World} (h : RT w g cs first l A ny y Ag Aw q V) : RT w g cs first l A ny y Ag Aw q V.drew := h.below (below_drew (Below.refl _ _))
/-- Its cells: the last one's box, and the last of the list. -/
theorem RT.s {w : World} {g : Nat} {cs : Array Value} {first : Nat} {l : List S29} {A : Option Addr} {ny : Nat} {y : S29} {Ag Aw : Option Addr} {q : List S29} {V : World} (h : RT w g cs first l A ny y Ag Aw q V) {n : Nat} (hn : l.length = n + 1) (hy : l[n]? = some y) {ad : Addr} (hA : A = some ad) :
    V.cell? ⟨ny, 0, none⟩ = some (.int .i64 y.f0) ∧ V.cell? ⟨ny, 1, none⟩ = some (.int .i64 y.f1) ∧ V.cell? (ad.add (n * 2)) = some (.int .i64 y.f0) ∧ V.cell? ⟨(ad.add (n * 2)).block, (ad.add (n * 2)).off + 1, none⟩ = some (.int .i64 y.f1) := by
  obtain ⟨ad', e, p0, p1⟩ := at_T29 h.p.m (n : Int) (by omega) (by omega)
  rw [hA] at e
  obtain rfl := Option.some.inj e
  rw [rd_get hy, Int.toNat_natCast] at p0 p1
  exact ⟨blk_cell h.y 0, blk_cell h.y 1, p0, p1⟩
theorem some_of {w : World} {A : Option Addr} {l : List S29} {n : Nat} (h : Kd.C k29 w A l.length l) (hn : l.length = n + 1) : ∃ ad, A = some ad := by
  obtain ⟨ad, e, _⟩ := h.2.2 (by omega)
  exact ⟨ad, e⟩
end Go.Proofs.Ytcaagnfhefkoiaa.Given
