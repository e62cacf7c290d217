/- Asks are read as the printer's kinds read them. -/
import Derived.Test.YtekbbpbpkekdhaaOpenV
namespace Go.Proofs.Ytekbbpbpkekdhaa.OpenS
open Go.RowKit Go.Deep Go.Proofs.Ytekbbpbpkekdhaa.PBase Go.Proofs.YtekbbpbpkekdhaaW.PrintWords
variable {H : Type} {enc : TypeId × Value → H} {w : World}
structure SA where
  f0 : Int
  f1 : Int
def kA : Kd SA := Kd.iso (Kd.pair (Kd.int .u8) (Kd.int .i64)) (fun x : SA => (x.f0, x.f1))
theorem kA_open {w : World} {x : SA} {cs : List Value} (h : kA.K w x cs) : cs = [.int .u8 x.f0, .int .i64 x.f1] := by
  obtain ⟨_, _, rfl, rfl, rfl⟩ := h
  rfl
theorem kA_mk (w : World) (x : SA) : kA.K w x [.int .u8 x.f0, .int .i64 x.f1] := ⟨[.int .u8 x.f0], [.int .i64 x.f1], rfl, rfl, rfl⟩
theorem at_ask {w : World} {A : Option Addr} {n : Nat} {l : List SA} (h : Kd.C kA w A n l) (k : Nat) (hk : k < n) : ∃ x ad, l[k]? = some x ∧ A = some ad ∧ w.cell? (ad.add (k * 2)) = some (.int .u8 x.f0) ∧ w.cell? ⟨(ad.add (k * 2)).block, (ad.add (k * 2)).off + 1, none⟩ = some (.int .i64 x.f1) := by
  have hl : k < l.length := by rw [h.1]; exact hk
  obtain ⟨ad, c, e, _, hK, hc0⟩ := Kd.C_get h (⟨0, 0⟩ : SA) (k : Int) (by omega) (by omega)
  rw [Int.toNat_natCast] at hK hc0
  have he : l.getD k ⟨0, 0⟩ = l[k] := by rw [List.getD_eq_getElem?_getD, List.getElem?_eq_getElem hl]; rfl
  rw [he] at hK
  have hc : ∀ j u, c[j]? = some u → w.cell? (ad.add (k * 2 + j)) = some u := hc0
  have hcs := kA_open hK
  subst hcs
  exact ⟨l[k], ad, List.getElem?_eq_getElem hl, e, hc 0 _ rfl, by rw [← add_field _ _ 1 (by omega)]; exact hc 1 _ rfl⟩
def wfA (x : SA) : Prop := wfInt .u8 x.f0 ∧ wfInt .i64 x.f1
theorem Opens.ask : Opens enc Try.prog w 42 kA wfA :=
  ⟨fun n cs x h hl => by
    obtain ⟨xs, m, rfl, rfl, hcl, hlen, hx⟩ := DataW.trod_struct Try.underlying42 h
    have hc7 : cs.length = 2 := by rw [hcl]; kernel_rfl
    obtain ⟨p0, h0, w0⟩ := open_field Try.underlying42 hlen hx hl 0 rfl (Opens.int (enc := enc) (P := Try.prog) (w := w) Try.underlying5 (by kernel_rfl))
    obtain ⟨p1, h1, w1⟩ := open_field Try.underlying42 hlen hx hl 1 rfl (Opens.int (enc := enc) (P := Try.prog) (w := w) Try.underlying3 (by kernel_rfl))
    match cs, hc7 with
    | [c0, c1], _ =>
      simp only [List.drop_zero, List.drop_succ_cons, List.take_succ_cons, show (Kd.int .u8).sz = 1 from rfl, show (Kd.int .i64).sz = 1 from rfl, List.take_zero] at h0 h1
      obtain rfl := (List.cons.inj h0).1
      obtain rfl := (List.cons.inj h1).1
      exact ⟨⟨p0, p1⟩, kA_mk w ⟨p0, p1⟩, w0, w1⟩, by kernel_rfl⟩
end Go.Proofs.Ytekbbpbpkekdhaa.OpenS
