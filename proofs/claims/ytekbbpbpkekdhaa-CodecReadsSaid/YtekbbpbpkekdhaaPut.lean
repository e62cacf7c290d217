/- What codec's page.put does: the walk. -/
import Derived.Test.YtekbbpbpkekdhaaProg
import Derived.Test.YtekbbpbpkekdhaaEx
import Derived.Test.YtekbbpbpkekdhaaWLast
import Derived.WalkKit
import Derived.WalkSpells
import Derived.WalkLawsBesides
import Derived.Outline
import Derived.Lib.Hide
namespace Go.Proofs.Ytekbbpbpkekdhaa.Cod
open Go.RowKit Go.Proofs.Ytekbbpbpkekdhaa.Ex Go.Proofs.YtekbbpbpkekdhaaW.PrintWords Go.Proofs.YtekbbpbpkekdhaaW.PrintLast Go.Proofs.YtekbbpbpkekdhaaW.PrintMore
theorem info5 : (Try.prog.info? 5).map (fun i => (i.zero, i.size, i.bytes)) = some (some (.int .u8 0), 1, 1) := by kernel_rfl
/-- A writer at g, whose row is v, with these bytes; its row lies in new memory and isn't the writer itself. -/
structure WAt (w : World) (base g : Nat) (v : Value) (bs : List Int) : Prop where
  blk : w.heap[g]? = some (.cells #[v, .bool true] 62 (0, 0))
  low : base ≤ g
  row : Kd.R (Kd.int .u8) 5 w base (fun k => k ≠ g) v bs
/-- What a call that writes leaves. -/
structure Wrote (base g : Nat) (v : Value) (w : World) (bs : List Int) (v1 : Value) (w' : World) : Prop where
  at' : WAt w' base g v1 bs
  ex : Ex (fun k => k = g ∨ some k = v.ownBlock) w w'
  new : v1.ownBlock = v.ownBlock ∨ ∃ b, v1.ownBlock = some b ∧ w.heap.size ≤ b
def Wrs (base g : Nat) (v : Value) (w : World) (bs : List Int) (e : Ending) (w' : World) : Prop := e = .returned (.tuple #[]) ∧ ∃ v1, Wrote base g v w bs v1 w'
set_option maxHeartbeats 400000 in
set_option maxRecDepth 100000 in
theorem put_any (base g : Nat) (v : Value) (bs ys : List Int) (A : Option Addr) (m c : Nat) (w : World) (hw : WAt w base g v bs) (hr : Kd.C (Kd.int .u8) w A m ys) (hl : bs.length + m ≤ 140737488355328) :
    Calls Try.prog 45 #[.pointer (some ⟨g, 0, none⟩), .slice A m c] w (Wrs base g v w (bs ++ ys)) := by
  obtain ⟨zs, hzs⟩ : ∃ zs, zs = bs ++ ys := ⟨_, rfl⟩
  rw [← hzs]
  have HZ := Aside0.mk hzs
  clear hzs
  have hb := hw.blk
  have hg : g < w.heap.size := blk_lt hb
  have h0 : w.cell? ⟨g, 0, none⟩ = some v := blk_cell hb 0
  have h1 : w.cell? ⟨g, 1, none⟩ = some (.bool true) := blk_cell hb 1
  have HW := Aside0.mk hw
  have HR := Aside0.mk hr
  have hbase : base ≤ w.heap.size := Nat.le_trans hw.low (Nat.le_of_lt hg)
  clear hb hr hw
  go_enter Try.func45, Try.ntmps45
  have hfr : ∀ w' : World, Ex (fun k => some k = v.ownBlock) w w' → w'.heap[g]? = some (.cells #[v, .bool true] 62 (0, 0)) := fun w' h => h.heap HW.out.blk fun e => HW.out.row.1 g e.symm rfl
  have HF := Aside0.mk hfr
  clear hfr
  go_wp2_with ((with_reducible refine gate_builtin (b := .append) (xs := #[.tmp 12, .tmp 13]) rfl ?_); at_builtin; refine Kd.R_append_rows (Kd.int .u8) (w0 := w) base rfl (.tmp 12) (.tmp 13) 26 5 (.int .u8 0) 1 rfl Try.underlying26 info5 rfl (by decide) (by omega) v bs ys A m c (fun k => k ≠ g) (fun _ => False) rfl rfl HW.out.row HR.out (fun _ _ h => h) (fun _ h => h.elim) (fun k hk => by omega) (Below.refl _ _) hbase (by omega) ?_; intro v1 w1 ho hb1 hg1 hat; rw [← HZ.out] at ho; obtain ⟨A1, c1, rfl⟩ := Kd.R_slice ho; have HO := Aside0.mk ho; have HE := Aside0.mk (Ex.of_grown hg1); have HAt := Aside0.mk hat; clear ho hb1 hg1 hat; have hblk := Aside0.mk (HF.out w1 HE.out); have h2 : w1.cell? ⟨g, 0, none⟩ = some v := blk_cell hblk.out 0; have h3 : w1.frozen? ⟨g, 0, none⟩ = false := blk_frozen hblk.out 0)
  go_end0
  refine ⟨rfl, _, ⟨blk_set hblk.out 0 _, HW.out.low, Kd.R_far HO.out (p := ⟨g, 0, none⟩) (fun k hk => hk) _⟩, ?_, HAt.out⟩
  exact (HE.out.mono (fun k _ h => .inr h)).setCell (fun _ => .inl rfl) _
end Go.Proofs.Ytekbbpbpkekdhaa.Cod
