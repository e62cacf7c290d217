/- Structs of two whole numbers, read as the printer's kinds read them. -/
import Derived.Test.YtcaagnfhefkoiaaOpenS
import Derived.Test.YtcaagnfhefkoiaaPBasex0
import Derived.ChangeArms
namespace Go.Proofs.Ytcaagnfhefkoiaa.OpenS
open Go.RowKit Go.Deep Go.Proofs.Ytcaagnfhefkoiaa.PBase Go.Proofs.YtcaagnfhefkoiaaW.PrintWords
variable {H : Type} {enc : TypeId × Value → H} {P : Program} {w : World}
theorem open_field {α : Type} {d : Kd α} {wf : α → Prop} {t : TypeId} {fs : Array Field} {n : Nat} {cs : List Value} {xs : List (DataW H × List MemPlace)} (ht : P.underlying t = some (.struct fs)) (hlen : xs.length = fs.size)
    (hx : ∀ (i : Nat) (f : Field), fs[i]? = some f → DataW.trod enc P w 0 (fun _ => true) true n f.type ((cs.drop f.offset).take (P.cellsOf f.type)) = xs[i]?) (hlt : Light P t (.agg (xs.map (·.1)))) (i : Nat) {f : Field} (hi : fs[i]? = some f)
    (h : Opens enc P w f.type d wf) : ∃ p, d.K w p ((cs.drop f.offset).take d.sz) ∧ wf p := by
  have hil : i < xs.length := by rw [hlen]; exact (Array.getElem?_eq_some_iff.1 hi).1
  have h1 := hx i f hi
  rw [List.getElem?_eq_getElem hil] at h1
  obtain ⟨p, hp, hw⟩ := h.ok _ _ _ h1 (fun k hk => hlt k (by
    simp only [DataW.weights, ht]
    refine DataW.weights_mem_each (j := i) (t := f.type) (d := xs[i].1) ?_ ?_ k hk
    · rw [List.getElem?_map, Array.getElem?_toList, hi]; rfl
    · rw [List.getElem?_map, List.getElem?_eq_getElem hil]; rfl))
  rw [h.sz] at hp
  exact ⟨p, hp, hw⟩
def wfS (x : S29) : Prop := wfInt .i64 x.f0 ∧ wfInt .i64 x.f1
theorem Opens.sample : Opens enc Try.prog w 29 k29 wfS :=
  ⟨fun n cs x h hl => by
    obtain ⟨xs, m, rfl, rfl, hcl, hlen, hx⟩ := DataW.trod_struct Try.underlying29 h
    have hc7 : cs.length = 2 := by rw [hcl]; kernel_rfl
    obtain ⟨p0, h0, w0⟩ := open_field Try.underlying29 hlen hx hl 0 rfl (Opens.int (enc := enc) (P := Try.prog) (w := w) Try.underlying3 (by kernel_rfl))
    obtain ⟨p1, h1, w1⟩ := open_field Try.underlying29 hlen hx hl 1 rfl (Opens.int (enc := enc) (P := Try.prog) (w := w) Try.underlying2 (by kernel_rfl))
    match cs, hc7 with
    | [c0, c1], _ =>
      simp only [List.drop_zero, List.drop_succ_cons, List.take_succ_cons, show (Kd.int .i64).sz = 1 from rfl, List.take_zero] at h0 h1
      obtain rfl := (List.cons.inj h0).1
      obtain rfl := (List.cons.inj h1).1
      exact ⟨⟨p0, p1⟩, k29_mk w ⟨p0, p1⟩, w0, w1⟩, by kernel_rfl⟩
end Go.Proofs.Ytcaagnfhefkoiaa.OpenS
