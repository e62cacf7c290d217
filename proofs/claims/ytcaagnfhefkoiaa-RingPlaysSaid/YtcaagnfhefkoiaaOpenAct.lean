/- Acts are read as the printer's kinds read them. -/
import Derived.Test.YtcaagnfhefkoiaaOpenSample
namespace Go.Proofs.Ytcaagnfhefkoiaa.OpenS
open Go.RowKit Go.Deep Go.Proofs.Ytcaagnfhefkoiaa.PBase Go.Proofs.YtcaagnfhefkoiaaW.PrintWords
variable {H : Type} {enc : TypeId × Value → H} {w : World}
structure SA where
  b : Bool
  x : S29
def kA : Kd SA := Kd.iso (Kd.pair Kd.bool k29) (fun a : SA => (a.b, a.x))
theorem kA_open {w : World} {x : SA} {cs : List Value} (h : kA.K w x cs) : cs = [.bool x.b, .int .i64 x.x.f0, .int .i64 x.x.f1] := by
  obtain ⟨_, _, rfl, rfl, hk⟩ := h
  rw [k29_open hk]
  rfl
theorem kA_mk (w : World) (x : SA) : kA.K w x [.bool x.b, .int .i64 x.x.f0, .int .i64 x.x.f1] := ⟨[.bool x.b], [.int .i64 x.x.f0, .int .i64 x.x.f1], rfl, rfl, k29_mk w x.x⟩
theorem at_act {w : World} {A : Option Addr} {n : Nat} {l : List SA} (h : Kd.C kA w A n l) (k : Nat) (hk : k < n) : ∃ x ad, l[k]? = some x ∧ A = some ad ∧ w.cell? (ad.add (k * 3)) = some (.bool x.b) ∧ w.cell? ⟨(ad.add (k * 3)).block, (ad.add (k * 3)).off + 1, none⟩ = some (.int .i64 x.x.f0) ∧ w.cell? ⟨(ad.add (k * 3)).block, (ad.add (k * 3)).off + 2, none⟩ = some (.int .i64 x.x.f1) := by
  have hl : k < l.length := by rw [h.1]; exact hk
  obtain ⟨ad, c, e, _, hK, hc0⟩ := Kd.C_get h (⟨false, z29⟩ : SA) (k : Int) (by omega) (by omega)
  rw [Int.toNat_natCast] at hK hc0
  have he : l.getD k ⟨false, z29⟩ = l[k] := by rw [List.getD_eq_getElem?_getD, List.getElem?_eq_getElem hl]; rfl
  rw [he] at hK
  have hc : ∀ j u, c[j]? = some u → w.cell? (ad.add (k * 3 + j)) = some u := hc0
  have hcs := kA_open hK
  subst hcs
  exact ⟨l[k], ad, List.getElem?_eq_getElem hl, e, hc 0 _ rfl, by rw [← add_field _ _ 1 (by omega)]; exact hc 1 _ rfl, by rw [← add_field _ _ 2 (by omega)]; exact hc 2 _ rfl⟩
def wfA (x : SA) : Prop := wfS x.x
theorem Opens.act : Opens enc Try.prog w 35 kA wfA :=
  ⟨fun n cs x h hl => by
    obtain ⟨xs, m, rfl, rfl, hcl, hlen, hx⟩ := DataW.trod_struct Try.underlying35 h
    have hc7 : cs.length = 3 := by rw [hcl]; kernel_rfl
    obtain ⟨p0, h0, w0⟩ := open_field Try.underlying35 hlen hx hl 0 rfl (Opens.bool (enc := enc) (P := Try.prog) (w := w) Try.underlying4 (by kernel_rfl))
    obtain ⟨p1, h1, w1⟩ := open_field Try.underlying35 hlen hx hl 1 rfl (Opens.sample (enc := enc) (w := w))
    match cs, hc7 with
    | [c0, c1, c2], _ =>
      simp only [List.drop_zero, List.drop_succ_cons, List.take_succ_cons, show Kd.bool.sz = 1 from rfl, show k29.sz = 2 from rfl, List.take_zero] at h0 h1
      obtain rfl := (List.cons.inj h0).1
      have h2 := k29_open h1
      obtain ⟨e1, e2⟩ := List.cons.inj h2
      obtain rfl := e1
      obtain rfl := (List.cons.inj e2).1
      exact ⟨⟨p0, p1⟩, kA_mk w ⟨p0, p1⟩, w1⟩, by kernel_rfl⟩
end Go.Proofs.Ytcaagnfhefkoiaa.OpenS
