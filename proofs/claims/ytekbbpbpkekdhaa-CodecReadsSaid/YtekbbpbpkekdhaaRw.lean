/- What the laws' read does, of bytes; and of any value. -/
import Derived.Test.YtekbbpbpkekdhaaRv
namespace Go.Proofs.Ytekbbpbpkekdhaa.Cod
open Go.RowKit Go.Proofs.Ytekbbpbpkekdhaa.Ex Go.Proofs.Ytekbbpbpkekdhaa.PBase Go.Proofs.YtekbbpbpkekdhaaW.PrintWords Go.Proofs.YtekbbpbpkekdhaaW.PrintLast Go.Proofs.YtekbbpbpkekdhaaW.PrintMore
def YRPost (b g : Nat) (w : World) (o : Option (List Int × List Int)) (e : Ending) (w' : World) : Prop :=
  Ex (fun k => k = g) w w' ∧ match o with
  | some (l, r) => ∃ A c, e = .returned (.agg #[.int .u8 3, .int .u64 0, .int .i64 0, .bool false, .slice A l.length l.length, .string ⟨#[]⟩, .int .i64 0]) ∧ RAt w' b g (adv A c l.length) (c - l.length) r false ∧ Kd.C (Kd.int .u8) w' A l.length l ∧ (∀ ad, A = some ad → ad.spot = none ∧ ad.block ≠ g ∧ ad.block = b ∧ ∃ cells, w'.heap[ad.block]? = some (.cells cells 5 (0, 0))) ∧ l.length + r.length ≤ c
  | none => e = .returned (.agg #[.int .u8 3, .int .u64 0, .int .i64 0, .bool false, .slice none 0 0, .string ⟨#[]⟩, .int .i64 0]) ∧ ∃ A c r, RAt w' b g A c r true
set_option maxHeartbeats 1000000 in
set_option maxRecDepth 100000 in
theorem read_3 (b g : Nat) (A : Option Addr) (c : Nat) (xs : List Int) (f : Bool) (m : Int) (w : World) (hw : RAt w b g A c xs f) (o : Option (List Int × List Int))
    (hc : Aside0 (∀ W, RAt W b g A c xs f → Calls Try.prog 40 #[.pointer (some ⟨g, 0, none⟩)] W (YPost b g W o))) :
    Calls Try.prog 21 #[.pointer (some ⟨g, 0, none⟩), .int .u8 3, .int .i64 m] w (YRPost b g w o) := by
  have HW := Aside0.mk hw
  have hg := hw.lt
  have hlow := hw.low
  clear hw
  obtain ⟨hr0, hx0⟩ := rv_ready HW.out (.cells (zc 0) 29) (.cells (zc 3) 29)
  have HR0 := Aside0.mk hr0
  have HX0 := Aside0.mk hx0
  clear hr0 hx0
  cases o with
  | none =>
    go_enter Try.func21, Try.ntmps21
    go_wp2_with fail
    refine (hc.out _ HR0.out).mono ?_
    rintro e w1 ⟨hx, rfl, A1, c1, r1, h1⟩
    obtain ⟨hz1, hz2⟩ := rv_after hx hg
    have HX := Aside0.mk (HX0.out.trans hx)
    have H1 := Aside0.mk h1
    clear hx h1
    have h7 : ∀ i, w1.cell? ⟨w.heap.size + 1, i, none⟩ = (zc 3)[i]? := fun i => blk_cell hz2 i
    have h6 : ∀ i, w1.cell? ⟨w.heap.size, i, none⟩ = (zc 0)[i]? := fun i => blk_cell hz1 i
    have c70 := h7 0; have c71 := h7 1; have c72 := h7 2; have c73 := h7 3; have c74 := h7 4; have c75 := h7 5; have c76 := h7 6
    have c60 := h6 0; have c61 := h6 1; have c62 := h6 2; have c63 := h6 3; have c64 := h6 4; have c65 := h6 5; have c66 := h6 6
    have f7 : w1.frozen? ⟨w.heap.size + 1, 4, none⟩ = false := blk_frozen hz2 4
    have f60 : w1.frozen? ⟨w.heap.size, 0, none⟩ = false := blk_frozen hz1 0
    have f61 : w1.frozen? ⟨w.heap.size, 1, none⟩ = false := blk_frozen hz1 1
    have f62 : w1.frozen? ⟨w.heap.size, 2, none⟩ = false := blk_frozen hz1 2
    have f63 : w1.frozen? ⟨w.heap.size, 3, none⟩ = false := blk_frozen hz1 3
    have f64 : w1.frozen? ⟨w.heap.size, 4, none⟩ = false := blk_frozen hz1 4
    have f65 : w1.frozen? ⟨w.heap.size, 5, none⟩ = false := blk_frozen hz1 5
    have f66 : w1.frozen? ⟨w.heap.size, 6, none⟩ = false := blk_frozen hz1 6
    simp only [zc] at c70 c71 c72 c73 c74 c75 c76 c60 c61 c62 c63 c64 c65 c66
    have Z1 := Aside0.mk hz1
    clear h7 h6 hz1 hz2
    go_wp2_with fail
    refine bodyPost_ret (results_single rfl (.cell w.heap.size 29 _ (0, 0) _ rfl (rv_end Z1.out _ _ _ _ _ _ _ _ _).1 Try.underlying29 rfl size29 .nil)) rfl ?_
    exact ⟨rv_ex HX.out (rv_end Z1.out _ _ _ _ _ _ _ _ _).2, rfl, _, _, _, rv_rat H1.out (rv_end Z1.out _ _ _ _ _ _ _ _ _).2 hg hlow⟩
  | some p =>
    obtain ⟨l, r⟩ := p
    go_enter Try.func21, Try.ntmps21
    go_wp2_with fail
    refine (hc.out _ HR0.out).mono ?_
    rintro e w1 ⟨hx, A1, c1, rfl, h1, hcl, hfar, hle⟩
    obtain ⟨hz1, hz2⟩ := rv_after hx hg
    have HX := Aside0.mk (HX0.out.trans hx)
    have H1 := Aside0.mk h1
    have HCL := Aside0.mk hcl
    have HFAR := Aside0.mk hfar
    have HLE := Aside0.mk hle
    clear hx h1 hcl hfar hle
    have h7 : ∀ i, w1.cell? ⟨w.heap.size + 1, i, none⟩ = (zc 3)[i]? := fun i => blk_cell hz2 i
    have h6 : ∀ i, w1.cell? ⟨w.heap.size, i, none⟩ = (zc 0)[i]? := fun i => blk_cell hz1 i
    have c70 := h7 0; have c71 := h7 1; have c72 := h7 2; have c73 := h7 3; have c74 := h7 4; have c75 := h7 5; have c76 := h7 6
    have c60 := h6 0; have c61 := h6 1; have c62 := h6 2; have c63 := h6 3; have c64 := h6 4; have c65 := h6 5; have c66 := h6 6
    have f7 : w1.frozen? ⟨w.heap.size + 1, 4, none⟩ = false := blk_frozen hz2 4
    have f60 : w1.frozen? ⟨w.heap.size, 0, none⟩ = false := blk_frozen hz1 0
    have f61 : w1.frozen? ⟨w.heap.size, 1, none⟩ = false := blk_frozen hz1 1
    have f62 : w1.frozen? ⟨w.heap.size, 2, none⟩ = false := blk_frozen hz1 2
    have f63 : w1.frozen? ⟨w.heap.size, 3, none⟩ = false := blk_frozen hz1 3
    have f64 : w1.frozen? ⟨w.heap.size, 4, none⟩ = false := blk_frozen hz1 4
    have f65 : w1.frozen? ⟨w.heap.size, 5, none⟩ = false := blk_frozen hz1 5
    have f66 : w1.frozen? ⟨w.heap.size, 6, none⟩ = false := blk_frozen hz1 6
    simp only [zc] at c70 c71 c72 c73 c74 c75 c76 c60 c61 c62 c63 c64 c65 c66
    have Z1 := Aside0.mk hz1
    clear h7 h6 hz1 hz2
    go_wp2_with fail
    refine bodyPost_ret (results_single rfl (.cell w.heap.size 29 _ (0, 0) _ rfl (rv_end Z1.out _ _ _ _ _ _ _ _ _).1 Try.underlying29 rfl size29 .nil)) rfl ?_
    have hxe := (rv_end (w1 := w1) (n := w.heap.size) Z1.out 4 (.slice A1 l.length l.length) (.int .u8 3) (.int .u64 0) (.int .i64 0) (.bool false) (.slice A1 l.length l.length) (.string ⟨#[]⟩) (.int .i64 0)).2
    refine ⟨rv_ex HX.out hxe, A1, c1, rfl, rv_rat H1.out hxe hg hlow, C_ex HCL.out hxe (fun ad e _ => ?_), fun ad e => ?_, HLE.out⟩
    · rw [(HFAR.out ad e).2.2.1]
      exact fun e => e.elim (fun e => by omega) (fun e => by omega)
    · obtain ⟨a0, a1, a2, cells, a3⟩ := HFAR.out ad e
      exact ⟨a0, a1, a2, cells, hxe.heap a3 (by rw [a2]; exact fun e => e.elim (fun e => by omega) (fun e => by omega))⟩
/-- A value without anything but its kind. -/
def z0 (k : Int) : S29 := ⟨k, 0, 0, false, [], ⟨#[]⟩, 0⟩
def aggS (x : S29) (A : Option Addr) (c : Nat) : Value := .agg #[.int .u8 x.f0, .int .u64 x.f1, .int .i64 x.f2, .bool x.f3, .slice A x.f4.length c, .string x.f5, .int .i64 x.f6]
/-- What is read, of a kind. -/
def decS (k m : Int) (xs : List Int) : Option (S29 × List Int) :=
  if k = 0 then (rdU 10 0 0 xs).map fun p => (⟨0, (p.1 : Int), 0, false, [], ⟨#[]⟩, 0⟩, p.2)
  else if k = 1 then (rdU 10 0 0 xs).map fun p => (⟨1, 0, unzig p.1, false, [], ⟨#[]⟩, 0⟩, p.2)
  else if k = 2 then (rdB xs).map fun p => (⟨2, 0, 0, p.1, [], ⟨#[]⟩, 0⟩, p.2)
  else if k = 3 then (rdY xs).map fun p => (⟨3, 0, 0, false, p.1, ⟨#[]⟩, 0⟩, p.2)
  else if k = 4 then (rdY xs).map fun p => (⟨4, 0, 0, false, [], strOfNums p.1, 0⟩, p.2)
  else (rdL m xs).map fun p => (⟨5, 0, 0, false, [], ⟨#[]⟩, (p.1 : Int)⟩, p.2)
def dec (k m : Int) (xs : List Int) (f : Bool) : Option (S29 × List Int) := if f = true then none else decS k m xs
/-- What read leaves. -/
def DPost (b g : Nat) (w : World) (k : Int) (o : Option (S29 × List Int)) (e : Ending) (w' : World) : Prop :=
  Ex (fun k => k = g) w w' ∧ match o with
  | some (x, r) => ∃ A4 c4 A1 c1, e = .returned (aggS x A4 c4) ∧ x.f4.length ≤ c4 ∧ Kd.C (Kd.int .u8) w' A4 x.f4.length x.f4 ∧ RAt w' b g A1 c1 r false ∧
      (∀ ad, A4 = some ad → ad.spot = none ∧ ad.block = b ∧ b ≠ g ∧ (∃ cells, w'.heap[b]? = some (.cells cells 5 (0, 0))) ∧ ∀ ad1, A1 = some ad1 → r = [] ∨ ad.off + x.f4.length ≤ ad1.off)
  | none => e = .returned (aggS (z0 k) none 0) ∧ ∃ A1 c1 r, RAt w' b g A1 c1 r true
theorem DPost.of_r {b g : Nat} {w w' : World} {k : Int} {α : Type} {o : Option (α × List Int)} {F : α → S29} {G : α → Value} {zv : Value} {e : Ending} (h : RPost b g w (o.map fun p => (G p.1, p.2)) zv e w') (hF : ∀ v, G v = aggS (F v) none 0 ∧ (F v).f4 = []) (hz : zv = aggS (z0 k) none 0) : DPost b g w k (o.map fun p => (F p.1, p.2)) e w' := by
  cases o with
  | none => exact ⟨h.1, by rw [← hz]; exact h.2.1, h.2.2⟩
  | some p =>
    obtain ⟨hx, he, A1, c1, hr⟩ := h
    obtain ⟨h1, h2⟩ := hF p.1
    refine ⟨hx, none, 0, A1, c1, by rw [← h1]; exact he, by show (F p.1).f4.length ≤ 0; rw [h2]; simp, ?_, hr, fun ad e => by cases e⟩
    show Kd.C _ _ _ (F p.1).f4.length (F p.1).f4
    rw [h2]; exact C_nil _
theorem DPost.of_y {b g : Nat} {w w' : World} {o : Option (List Int × List Int)} {e : Ending} (h : YRPost b g w o e w') : DPost b g w 3 (o.map fun p => (⟨3, 0, 0, false, p.1, ⟨#[]⟩, 0⟩, p.2)) e w' := by
  cases o with
  | none => exact h
  | some p =>
    obtain ⟨hx, A, c, he, hr, hc, hf, hle⟩ := h
    refine ⟨hx, A, p.1.length, _, _, he, Nat.le_refl _, hc, hr, fun ad e => ?_⟩
    obtain ⟨a0, a1, a2, cells, a3⟩ := hf ad e
    refine ⟨a0, a2, by rw [← a2]; exact a1, ⟨cells, by rw [← a2]; exact a3⟩, fun ad1 e1 => ?_⟩
    unfold adv at e1
    split at e1
    · left; exact List.length_eq_zero_iff.1 (by omega)
    · right
      rw [e] at e1
      simp only [Option.map_some, Option.some.injEq] at e1
      rw [← e1]
      unfold Addr.add
      split
      · show ad.off + p.1.length ≤ ad.off; omega
      · exact Nat.le_refl _
theorem readK_0 (b g : Nat) (A : Option Addr) (c : Nat) (xs : List Int) (f : Bool) (m : Int) (w : World) (hw : RAt w b g A c xs f) (hx : f = false → isB xs) (hm : m ≤ 9223372036854775807) :
    Calls Try.prog 21 #[.pointer (some ⟨g, 0, none⟩), .int .u8 0, .int .i64 m] w (DPost b g w 0 (dec 0 m xs f)) := by
  cases f with
  | true =>
    exact (read_0 b g A c xs true m w hw none (0) ⟨fun W h => (ruint_dead b g A c xs W h).mono fun e w' he => ⟨he.2 ▸ Ex.refl _ _, he.1, A, c, xs, he.2 ▸ h⟩⟩).mono fun e w' h => DPost.of_r (F := (fun v : Int => (⟨0, v, 0, false, [], ⟨#[]⟩, 0⟩ : S29))) (G := fun v => aggS ((fun v : Int => (⟨0, v, 0, false, [], ⟨#[]⟩, 0⟩ : S29)) v) none 0) (zv := aggS (z0 0) none 0) (o := none) h (fun v => ⟨rfl, rfl⟩) rfl
  | false =>
    refine (read_0 b g A c xs false m w hw ((rdU 10 0 0 xs).map fun p => ((p.1 : Int), p.2)) (0) ⟨fun W h => ?_⟩).mono fun e w' h => ?_
    · exact (ruint_any b g A c xs W h (hx rfl)).mono fun e w' h => by have := RPost.of_u h; rwa [Option.map_map]
    · have := DPost.of_r (k := 0) (F := (fun v : Int => (⟨0, v, 0, false, [], ⟨#[]⟩, 0⟩ : S29))) (G := fun v => aggS ((fun v : Int => (⟨0, v, 0, false, [], ⟨#[]⟩, 0⟩ : S29)) v) none 0) (zv := aggS (z0 0) none 0) h (fun v => ⟨rfl, rfl⟩) rfl
      rw [Option.map_map] at this; exact this
theorem readK_1 (b g : Nat) (A : Option Addr) (c : Nat) (xs : List Int) (f : Bool) (m : Int) (w : World) (hw : RAt w b g A c xs f) (hx : f = false → isB xs) (hm : m ≤ 9223372036854775807) :
    Calls Try.prog 21 #[.pointer (some ⟨g, 0, none⟩), .int .u8 1, .int .i64 m] w (DPost b g w 1 (dec 1 m xs f)) := by
  cases f with
  | true =>
    exact (read_1 b g A c xs true m w hw none (0) ⟨fun W h => (rint_dead b g A c xs W h).mono fun e w' he => ⟨he.2 ▸ Ex.refl _ _, he.1, A, c, xs, he.2 ▸ h⟩⟩).mono fun e w' h => DPost.of_r (F := (fun v : Int => (⟨1, 0, v, false, [], ⟨#[]⟩, 0⟩ : S29))) (G := fun v => aggS ((fun v : Int => (⟨1, 0, v, false, [], ⟨#[]⟩, 0⟩ : S29)) v) none 0) (zv := aggS (z0 1) none 0) (o := none) h (fun v => ⟨rfl, rfl⟩) rfl
  | false =>
    refine (read_1 b g A c xs false m w hw ((rdU 10 0 0 xs).map fun p => (unzig p.1, p.2)) (0) ⟨fun W h => ?_⟩).mono fun e w' h => ?_
    · exact by have := rint_any b g A c xs W h (hx rfl); rwa [Option.map_map]
    · have := DPost.of_r (k := 1) (F := (fun v : Int => (⟨1, 0, v, false, [], ⟨#[]⟩, 0⟩ : S29))) (G := fun v => aggS ((fun v : Int => (⟨1, 0, v, false, [], ⟨#[]⟩, 0⟩ : S29)) v) none 0) (zv := aggS (z0 1) none 0) h (fun v => ⟨rfl, rfl⟩) rfl
      rw [Option.map_map] at this; exact this
theorem readK_2 (b g : Nat) (A : Option Addr) (c : Nat) (xs : List Int) (f : Bool) (m : Int) (w : World) (hw : RAt w b g A c xs f) (hx : f = false → isB xs) (hm : m ≤ 9223372036854775807) :
    Calls Try.prog 21 #[.pointer (some ⟨g, 0, none⟩), .int .u8 2, .int .i64 m] w (DPost b g w 2 (dec 2 m xs f)) := by
  cases f with
  | true =>
    exact (read_2 b g A c xs true m w hw none (false) ⟨fun W h => (rbool_dead b g A c xs W h).mono fun e w' he => ⟨he.2 ▸ Ex.refl _ _, he.1, A, c, xs, he.2 ▸ h⟩⟩).mono fun e w' h => DPost.of_r (F := (fun v : Bool => (⟨2, 0, 0, v, [], ⟨#[]⟩, 0⟩ : S29))) (G := fun v => aggS ((fun v : Bool => (⟨2, 0, 0, v, [], ⟨#[]⟩, 0⟩ : S29)) v) none 0) (zv := aggS (z0 2) none 0) (o := none) h (fun v => ⟨rfl, rfl⟩) rfl
  | false =>
    refine (read_2 b g A c xs false m w hw (rdB xs) (false) ⟨fun W h => ?_⟩).mono fun e w' h => ?_
    · exact rbool_any b g A c xs W h
    · have := DPost.of_r (k := 2) (F := (fun v : Bool => (⟨2, 0, 0, v, [], ⟨#[]⟩, 0⟩ : S29))) (G := fun v => aggS ((fun v : Bool => (⟨2, 0, 0, v, [], ⟨#[]⟩, 0⟩ : S29)) v) none 0) (zv := aggS (z0 2) none 0) h (fun v => ⟨rfl, rfl⟩) rfl
      exact this
theorem readK_4 (b g : Nat) (A : Option Addr) (c : Nat) (xs : List Int) (f : Bool) (m : Int) (w : World) (hw : RAt w b g A c xs f) (hx : f = false → isB xs) (hm : m ≤ 9223372036854775807) :
    Calls Try.prog 21 #[.pointer (some ⟨g, 0, none⟩), .int .u8 4, .int .i64 m] w (DPost b g w 4 (dec 4 m xs f)) := by
  cases f with
  | true =>
    exact (read_4 b g A c xs true m w hw none (⟨#[]⟩) ⟨fun W h => (rtext_dead b g A c xs W h).mono fun e w' he => ⟨he.2 ▸ Ex.refl _ _, he.1, A, c, xs, he.2 ▸ h⟩⟩).mono fun e w' h => DPost.of_r (F := (fun v : ByteArray => (⟨4, 0, 0, false, [], v, 0⟩ : S29))) (G := fun v => aggS ((fun v : ByteArray => (⟨4, 0, 0, false, [], v, 0⟩ : S29)) v) none 0) (zv := aggS (z0 4) none 0) (o := none) h (fun v => ⟨rfl, rfl⟩) rfl
  | false =>
    refine (read_4 b g A c xs false m w hw ((rdY xs).map fun p => (strOfNums p.1, p.2)) (⟨#[]⟩) ⟨fun W h => ?_⟩).mono fun e w' h => ?_
    · exact by have := rtext_any b g A c xs W h (hx rfl); rwa [Option.map_map]
    · have := DPost.of_r (k := 4) (F := (fun v : ByteArray => (⟨4, 0, 0, false, [], v, 0⟩ : S29))) (G := fun v => aggS ((fun v : ByteArray => (⟨4, 0, 0, false, [], v, 0⟩ : S29)) v) none 0) (zv := aggS (z0 4) none 0) h (fun v => ⟨rfl, rfl⟩) rfl
      rw [Option.map_map] at this; exact this
theorem readK_5 (b g : Nat) (A : Option Addr) (c : Nat) (xs : List Int) (f : Bool) (m : Int) (w : World) (hw : RAt w b g A c xs f) (hx : f = false → isB xs) (hm : m ≤ 9223372036854775807) :
    Calls Try.prog 21 #[.pointer (some ⟨g, 0, none⟩), .int .u8 5, .int .i64 m] w (DPost b g w 5 (dec 5 m xs f)) := by
  cases f with
  | true =>
    exact (read_5 b g A c xs true m w hw none (0) ⟨fun W h => (rlen_dead b g A c xs W m h).mono fun e w' he => ⟨he.2 ▸ Ex.refl _ _, he.1, A, c, xs, he.2 ▸ h⟩⟩).mono fun e w' h => DPost.of_r (F := (fun v : Int => (⟨5, 0, 0, false, [], ⟨#[]⟩, v⟩ : S29))) (G := fun v => aggS ((fun v : Int => (⟨5, 0, 0, false, [], ⟨#[]⟩, v⟩ : S29)) v) none 0) (zv := aggS (z0 5) none 0) (o := none) h (fun v => ⟨rfl, rfl⟩) rfl
  | false =>
    refine (read_5 b g A c xs false m w hw ((rdL m xs).map fun p => ((p.1 : Int), p.2)) (0) ⟨fun W h => ?_⟩).mono fun e w' h => ?_
    · exact by have := rlen_any b g A c xs W m hm h (hx rfl); rwa [Option.map_map]
    · have := DPost.of_r (k := 5) (F := (fun v : Int => (⟨5, 0, 0, false, [], ⟨#[]⟩, v⟩ : S29))) (G := fun v => aggS ((fun v : Int => (⟨5, 0, 0, false, [], ⟨#[]⟩, v⟩ : S29)) v) none 0) (zv := aggS (z0 5) none 0) h (fun v => ⟨rfl, rfl⟩) rfl
      rw [Option.map_map] at this; exact this
theorem readK_3 (b g : Nat) (A : Option Addr) (c : Nat) (xs : List Int) (f : Bool) (m : Int) (w : World) (hw : RAt w b g A c xs f) (hx : f = false → isB xs) :
    Calls Try.prog 21 #[.pointer (some ⟨g, 0, none⟩), .int .u8 3, .int .i64 m] w (DPost b g w 3 (dec 3 m xs f)) := by
  cases f with
  | true =>
    exact (read_3 b g A c xs true m w hw none ⟨fun W h => (rbytes_dead b g A c xs W h).mono fun e w' he => ⟨he.2 ▸ Ex.refl _ _, he.1, A, c, xs, he.2 ▸ h⟩⟩).mono fun e w' h => DPost.of_y (o := none) h
  | false =>
    exact (read_3 b g A c xs false m w hw (rdY xs) ⟨fun W h => rbytes_any b g A c xs W h (hx rfl)⟩).mono fun e w' h => DPost.of_y h
theorem read_any (b g : Nat) (A : Option Addr) (c : Nat) (xs : List Int) (f : Bool) (k m : Int) (w : World) (hw : RAt w b g A c xs f) (hx : f = false → isB xs) (hk0 : 0 ≤ k) (hk5 : k ≤ 5) (hm : m ≤ 9223372036854775807) :
    Calls Try.prog 21 #[.pointer (some ⟨g, 0, none⟩), .int .u8 k, .int .i64 m] w (DPost b g w k (dec k m xs f)) := by
  rcases (show k = 0 ∨ k = 1 ∨ k = 2 ∨ k = 3 ∨ k = 4 ∨ k = 5 by omega) with rfl | rfl | rfl | rfl | rfl | rfl
  · exact readK_0 b g A c xs f m w hw hx hm
  · exact readK_1 b g A c xs f m w hw hx hm
  · exact readK_2 b g A c xs f m w hw hx hm
  · exact readK_3 b g A c xs f m w hw hx
  · exact readK_4 b g A c xs f m w hw hx hm
  · exact readK_5 b g A c xs f m w hw hx hm
end Go.Proofs.Ytekbbpbpkekdhaa.Cod
