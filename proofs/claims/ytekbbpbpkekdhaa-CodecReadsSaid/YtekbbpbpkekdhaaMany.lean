/- Several writers beside one another; scripts of values. -/
import Derived.Test.YtekbbpbpkekdhaaSigns
import Derived.Test.YtekbbpbpkekdhaaOpenV
namespace Go.Proofs.Ytekbbpbpkekdhaa.Cod
open Go.RowKit Go.Proofs.Ytekbbpbpkekdhaa.Ex Go.Proofs.Ytekbbpbpkekdhaa.PBase Go.Proofs.Ytekbbpbpkekdhaa.OpenS Go.Proofs.YtekbbpbpkekdhaaW.PrintWords Go.Proofs.YtekbbpbpkekdhaaW.PrintLast Go.Proofs.YtekbbpbpkekdhaaW.PrintMore
/-- Two writers that have nothing in common. -/
structure Ap (g : Nat) (v : Value) (g2 : Nat) (v2 : Value) : Prop where
  ne : g ≠ g2
  a : v.ownBlock ≠ some g2
  b : v2.ownBlock ≠ some g
  c : ∀ k, v.ownBlock = some k → v2.ownBlock ≠ some k
theorem Ap.symm {g g2 : Nat} {v v2 : Value} (h : Ap g v g2 v2) : Ap g2 v2 g v := ⟨h.ne.symm, h.b, h.a, fun k hk e => h.c k e hk⟩
theorem WAt.own_lt {w : World} {base g : Nat} {v : Value} {bs : List Int} (h : WAt w base g v bs) : ∀ k, v.ownBlock = some k → k < w.heap.size := Kd.R_lt h.row
theorem WAt.own_ge {w : World} {base g : Nat} {v : Value} {bs : List Int} (h : WAt w base g v bs) : ∀ k, v.ownBlock = some k → base ≤ k := fun k hk => by
  obtain ⟨_, inner, ho, _⟩ := h.row
  exact own_base ho k hk
/-- The other writer stays, and stays apart. -/
theorem Wrote.beside {base base2 g g2 : Nat} {v v1 v2 : Value} {w w' : World} {bs1 bs2 : List Int} (h : Wrote base g v w bs1 v1 w') (h2 : WAt w base2 g2 v2 bs2) (ap : Ap g v g2 v2) : WAt w' base2 g2 v2 bs2 ∧ Ap g v1 g2 v2 := by
  refine ⟨h2.ex h.ex (fun e => e.elim (fun e => ap.ne e.symm) (fun e => ap.a e.symm)) (fun k hk e => e.elim (fun e => ap.b (by rw [hk, e])) (fun e => ap.c k e.symm hk)), ap.ne, ?_, ap.b, ?_⟩
  · rcases h.new with hn | ⟨b, hb, hle⟩
    · rw [hn]; exact ap.a
    · rw [hb]; intro e; injection e with e; have := h2.lt; omega
  · intro k hk hk2
    rcases h.new with hn | ⟨b, hb, hle⟩
    · rw [hn] at hk; exact ap.c k hk hk2
    · rw [hb] at hk; injection hk with hk; have := h2.own_lt k hk2; omega
theorem Wrote.below {base g : Nat} {v v1 : Value} {w w' : World} {bs bs1 : List Int} (h : Wrote base g v w bs1 v1 w') (h0 : WAt w base g v bs) {B : Nat} (hB : B ≤ base) : Below B w w' :=
  h.ex.below (by have := h0.lt; have := h0.low; omega) (fun k e => e.elim (fun e => by have := h0.low; omega) (fun e => by have := h0.own_ge k e.symm; omega))
def toV (x : S29) : V := ⟨x.f0, x.f1, x.f2, x.f3, x.f4, x.f5, x.f6⟩
/-- The bytes of a script. -/
def fl (l : List S29) : List Int := (l.map fun x => form (toV x)).flatten
theorem fl_append (l m : List S29) : fl (l ++ m) = fl l ++ fl m := by unfold fl; rw [List.map_append, List.flatten_append]
theorem fl_take {l : List S29} {k : Nat} (h : k < l.length) : fl (l.take (k + 1)) = fl (l.take k) ++ form (toV l[k]) := by
  rw [List.take_succ_eq_append_getElem h, fl_append]; unfold fl; simp
theorem wf_ok {x : S29} (h : wfV x) : (toV x).ok := by
  obtain ⟨_, h1, h2, _, _, h6⟩ := h
  simp [wfInt, Lit.wf, IntKind.min, IntKind.max, IntKind.bits, IntKind.signed] at h1 h2 h6
  obtain ⟨n, hn⟩ := Int.eq_ofNat_of_zero_le h1.1
  exact ⟨⟨n, hn, by rw [hn] at h1; omega⟩, by show _ ≤ x.f2; omega, by show x.f2 ≤ _; omega, by show _ ≤ x.f6; omega, by show x.f6 ≤ _; omega⟩
theorem chars_len (s : ByteArray) : (chars s).length = s.size := by unfold chars; rw [List.length_map, Array.length_toList]; rfl
theorem form_len {x : V} (h : x.ok) : (form x).length ≤ 20 + (x.l.length + x.s.size) ∨ 140737488355328 < x.l.length + x.s.size := by
  obtain ⟨⟨n, hn, hn2⟩, h1, h2, h3, h4⟩ := h
  by_cases hb : 140737488355328 < x.l.length + x.s.size
  · exact .inr hb
  left
  unfold form encB
  have e0 := enc_le10 (n := x.u.toNat) (by rw [hn]; simpa using hn2)
  have e1 := enc_le10 (zig_lt h1 h2)
  have e3 := enc_le10 (n := x.l.length) (by omega)
  have e4 := enc_le10 (n := (chars x.s).length) (by rw [chars_len]; omega)
  have e5 := enc_le10 (n := x.n.toNat) (by omega)
  have e6 := chars_len x.s
  split
  · omega
  split
  · omega
  split
  · rw [List.length_singleton]; omega
  split
  · rw [List.length_append]; omega
  split
  · rw [List.length_append]; omega
  split
  · omega
  simp
theorem fl_len : ∀ (l : List S29), (∀ x ∈ l, wfV x) → (l.map weigh).sum ≤ 20000 → (fl l).length ≤ 20 * l.length + (l.map weigh).sum
  | [], _, _ => by simp [fl]
  | x :: l, h, hs => by
    rw [List.map_cons, List.sum_cons] at hs
    have ih := fl_len l (fun y hy => h y (List.mem_cons_of_mem _ hy)) (by omega)
    have hf := form_len (wf_ok (h x List.mem_cons_self))
    rw [show x :: l = [x] ++ l from rfl, fl_append]
    unfold fl at *
    rw [List.length_append, List.map_append, List.sum_append]
    simp only [List.map_cons, List.map_nil, List.flatten_cons, List.flatten_nil, List.append_nil, List.sum_cons, List.sum_nil, List.length_append, List.length_cons, List.length_nil]
    have e : (toV x).l.length + (toV x).s.size = weigh x := rfl
    rw [e] at hf
    omega
theorem take_weigh {l : List S29} (k : Nat) : ((l.take k).map weigh).sum ≤ (l.map weigh).sum := by
  conv => rhs; rw [← List.take_append_drop k l, List.map_append, List.sum_append]
  omega
/-- A row's block is older than the memory's end. -/
theorem C_old {w : World} {A : Option Addr} {n : Nat} {xs : List Int} (h : Kd.C (Kd.int .u8) w A n xs) : ∀ ad, A = some ad → 0 < n → ad.block < w.heap.size := fun ad e hn => by
  obtain ⟨ad', e', hc⟩ := h.2.2 hn
  rw [e] at e'; cases e'
  have hl : 0 < xs.length := by rw [h.1]; exact hn
  obtain ⟨cs, hs, hr, hcell⟩ := hc 0 xs[0] (List.getElem?_eq_getElem hl)
  have hr' : cs = [Value.int .u8 xs[0]] := hr
  have := hcell 0 (Value.int .u8 xs[0]) (by rw [hr']; rfl)
  have hlt := World.block_lt_of_cell? w _ this
  simpa [Addr.add] using hlt
end Go.Proofs.Ytekbbpbpkekdhaa.Cod
