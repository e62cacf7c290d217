/- What slices.Clone of bytes, and codec's Writer.Out do: the walks. -/
import Derived.Test.YtekbbpbpkekdhaaWrite
namespace Go.Proofs.Ytekbbpbpkekdhaa.Cod
open Go.RowKit Go.Proofs.Ytekbbpbpkekdhaa.Ex Go.Proofs.YtekbbpbpkekdhaaW.PrintWords Go.Proofs.YtekbbpbpkekdhaaW.PrintLast Go.Proofs.YtekbbpbpkekdhaaW.PrintMore
/-- A row of bytes that is the call's own; nothing else that was there has changed. -/
def Made (w : World) (xs : List Int) (e : Ending) (w' : World) : Prop := ∃ v, e = .returned v ∧ Kd.R (Kd.int .u8) 5 w' w.heap.size (fun _ => True) v xs ∧ Below w.heap.size w w'
theorem R_empty (w : World) : Kd.R (Kd.int .u8) 5 (w.alloc (.cells #[] 5)) w.heap.size (fun _ => True) (.slice (some ⟨w.heap.size, 0, none⟩) 0 0) [] :=
  Kd.R_of_own (own_lit_of w w.heap.size 5 [] (Nat.le_refl _) (by simp)) (fun _ _ => trivial)
set_option maxHeartbeats 400000 in
set_option maxRecDepth 100000 in
theorem clone_any (A : Option Addr) (n c : Nat) (xs : List Int) (w : World) (hr : Kd.C (Kd.int .u8) w A n xs) (hl : n ≤ 140737488355328) :
    Calls Try.prog 37 #[.slice A n c] w (Made w xs) := by
  cases A with
  | none =>
    have e0 : xs = [] := by
      have h1 := hr.1
      rcases Nat.eq_zero_or_pos n with h | h
      · rw [h] at h1; exact List.length_eq_zero_iff.1 h1
      · obtain ⟨ad, e, _⟩ := hr.2.2 h; cases e
    subst e0
    have kn := fun w => Lib.run_eql_slice_nil (P := Try.prog) w 26 5 none n c 0 0 Try.underlying26
    clear hr
    go_enter Try.func37, Try.ntmps37
    go_wp2_with fail
    go_ret
    exact ⟨_, rfl, Kd.R_nil _ _ _ _ _, Below.refl _ _⟩
  | some ad =>
    have kn := fun w => Lib.run_eql_slice_nil (P := Try.prog) w 26 5 (some ad) n c 0 0 Try.underlying26
    have HR := Aside0.mk (Kd.C_below hr ((Below.refl _ _).alloc (Nat.le_refl _) (.cells #[] 5)))
    have HO := Aside0.mk (R_empty w)
    have HB := Aside0.mk ((Below.refl w.heap.size w).alloc (Nat.le_refl _) (.cells #[] 5))
    clear hr
    go_enter Try.func37, Try.ntmps37
    go_wp2_with ((with_reducible refine gate_builtin (b := .append) (xs := #[.tmp 5, .tmp 6]) rfl ?_); at_builtin; refine Kd.R_append_rows (Kd.int .u8) (w0 := w) w.heap.size rfl (.tmp 5) (.tmp 6) 26 5 (.int .u8 0) 1 rfl Try.underlying26 info5 rfl (by decide) (by omega) _ [] xs (some ad) n c (fun _ => True) (fun _ => False) rfl rfl HO.out HR.out (fun _ _ h => h) (fun _ h => h.elim) (fun k hk => trivial) HB.out (by show _ ≤ (w.heap.push _).size; simp) (by simp; omega) ?_; intro v1 w1 ho hb1 hg1 hat; obtain ⟨A1, c1, rfl⟩ := Kd.R_slice ho; have HO1 := Aside0.mk ho; have HB1 := Aside0.mk hb1; clear ho hb1 hg1 hat)
    go_ret
    exact ⟨_, rfl, HO1.out, HB1.out⟩
set_option maxHeartbeats 400000 in
set_option maxRecDepth 100000 in
theorem out_any (base g : Nat) (v : Value) (bs : List Int) (w : World) (hw : WAt w base g v bs) (hl : bs.length ≤ 140737488355328) :
    Calls Try.prog 19 #[.pointer (some ⟨g, 0, none⟩)] w (Made w bs) := by
  have h0 : w.cell? ⟨g, 0, none⟩ = some v := blk_cell hw.blk 0
  obtain ⟨A, c, rfl, hc, hr⟩ := Kd.R_reads hw.row
  have HR := Aside0.mk hr
  clear hr hw
  go_enter Try.func19, Try.ntmps19
  go_wp2_with fail
  refine (clone_any A bs.length c bs w HR.out hl).mono ?_
  rintro e w1 ⟨v1, rfl, ho, hb⟩
  obtain ⟨A1, c1, rfl⟩ := Kd.R_slice ho
  have HO1 := Aside0.mk ho
  have HB1 := Aside0.mk hb
  clear ho hb
  go_wp2_with fail
  go_ret
  exact ⟨_, rfl, HO1.out, HB1.out⟩
end Go.Proofs.Ytekbbpbpkekdhaa.Cod
