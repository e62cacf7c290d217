/- Structs that are a slice's elements: values and asks are read as the printer's kinds read them. -/
import Derived.Test.YtekbbpbpkekdhaaOpenS
import Derived.Test.YtekbbpbpkekdhaaPBasex0
import Derived.ChangeArms
namespace Go.Proofs.Ytekbbpbpkekdhaa.OpenS
open Go.RowKit Go.Deep Go.Proofs.Ytekbbpbpkekdhaa.PBase Go.Proofs.YtekbbpbpkekdhaaW.PrintWords
variable {H : Type} {enc : TypeId × Value → H} {P : Program} {w : World}
theorem open_field {α : Type} {d : Kd α} {wf : α → Prop} {t : TypeId} {fs : Array Field} {n : Nat} {cs : List Value} {xs : List (DataW H × List MemPlace)} (ht : P.underlying t = some (.struct fs)) (hlen : xs.length = fs.size)
    (hx : ∀ (i : Nat) (f : Field), fs[i]? = some f → DataW.trod enc P w 0 (fun _ => true) true n f.type ((cs.drop f.offset).take (P.cellsOf f.type)) = xs[i]?) (hlt : Light P t (.agg (xs.map (·.1)))) (i : Nat) {f : Field} (hi : fs[i]? = some f)
    (h : Opens enc P w f.type d wf) : ∃ p, d.K w p ((cs.drop f.offset).take d.sz) ∧ wf p := by
  have hil : i < xs.length := by rw [hlen]; exact (Array.getElem?_eq_some_iff.1 hi).1
  have h1 := hx i f hi
  rw [List.getElem?_eq_getElem hil] at h1
  obtain ⟨p, hp, hw⟩ := h.ok _ _ _ h1 (fun k hk => hlt k (by
    simp only [DataW.weights, ht]
    refine DataW.weights_mem_each (j := i) (t := f.type) (d := xs[i].1) ?_ ?_ k hk
    · rw [List.getElem?_map, Array.getElem?_toList, hi]; rfl
    · rw [List.getElem?_map, List.getElem?_eq_getElem hil]; rfl))
  rw [h.sz] at hp
  exact ⟨p, hp, hw⟩
def wfV (x : S29) : Prop := wfInt .u8 x.f0 ∧ wfInt .u64 x.f1 ∧ wfInt .i64 x.f2 ∧ wfAll 1 (wfInt .u8) x.f4 ∧ wfStr x.f5 ∧ wfInt .i64 x.f6
theorem b5 : Try.prog.bytesOf 5 = 1 := by kernel_rfl
theorem Opens.val : Opens enc Try.prog w 29 k29 wfV :=
  ⟨fun n cs x h hl => by
    obtain ⟨xs, m, rfl, rfl, hcl, hlen, hx⟩ := DataW.trod_struct Try.underlying29 h
    have hc7 : cs.length = 7 := by rw [hcl]; kernel_rfl
    obtain ⟨p0, h0, w0⟩ := open_field Try.underlying29 hlen hx hl 0 rfl (Opens.int (enc := enc) (P := Try.prog) (w := w) Try.underlying5 (by kernel_rfl))
    obtain ⟨p1, h1, w1⟩ := open_field Try.underlying29 hlen hx hl 1 rfl (Opens.int (enc := enc) (P := Try.prog) (w := w) Try.underlying27 (by kernel_rfl))
    obtain ⟨p2, h2, w2⟩ := open_field Try.underlying29 hlen hx hl 2 rfl (Opens.int (enc := enc) (P := Try.prog) (w := w) Try.underlying2 (by kernel_rfl))
    obtain ⟨p3, h3, w3⟩ := open_field Try.underlying29 hlen hx hl 3 rfl (Opens.bool (enc := enc) (P := Try.prog) (w := w) Try.underlying4 (by kernel_rfl))
    obtain ⟨p4, h4, w4⟩ := open_field Try.underlying29 hlen hx hl 4 rfl (Opens.slice (enc := enc) (P := Try.prog) (w := w) Try.underlying26 (by kernel_rfl) (Opens.int Try.underlying5 (by kernel_rfl)))
    obtain ⟨p5, h5, w5⟩ := open_field Try.underlying29 hlen hx hl 5 rfl (Opens.str (enc := enc) (P := Try.prog) (w := w) Try.underlying9 (by kernel_rfl))
    obtain ⟨p6, h6, w6⟩ := open_field Try.underlying29 hlen hx hl 6 rfl (Opens.int (enc := enc) (P := Try.prog) (w := w) Try.underlying3 (by kernel_rfl))
    rw [b5] at w4
    match cs, hc7 with
    | [c0, c1, c2, c3, c4, c5, c6], _ =>
      obtain ⟨A, c, h4, l4, g4⟩ := h4
      simp only [List.drop_zero, List.drop_succ_cons, List.take_succ_cons, show (Kd.int .u8).sz = 1 from rfl, show (Kd.int .u64).sz = 1 from rfl, show (Kd.int .i64).sz = 1 from rfl, show Kd.bool.sz = 1 from rfl, show Kd.string.sz = 1 from rfl, show (Kd.slice 5 (Kd.int .u8)).sz = 1 from rfl, List.take_zero] at h0 h1 h2 h3 h4 h5 h6
      obtain rfl := (List.cons.inj h0).1
      obtain rfl := (List.cons.inj h1).1
      obtain rfl := (List.cons.inj h2).1
      obtain rfl := (List.cons.inj h3).1
      obtain rfl := (List.cons.inj h4).1
      obtain rfl := (List.cons.inj h5).1
      obtain rfl := (List.cons.inj h6).1
      exact ⟨⟨p0, p1, p2, p3, p4, p5, p6⟩, k29_mk w ⟨p0, p1, p2, p3, p4, p5, p6⟩ l4 g4, w0, w1, w2, w4, w5, w6⟩, by kernel_rfl⟩
end Go.Proofs.Ytekbbpbpkekdhaa.OpenS
