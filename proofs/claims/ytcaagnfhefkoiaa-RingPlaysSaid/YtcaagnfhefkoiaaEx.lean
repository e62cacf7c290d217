/- What a call may have changed: some blocks, and nothing else that was there. -/
import Derived.Test.YtcaagnfhefkoiaaWWords
import Derived.Test.YtcaagnfhefkoiaaWMore
namespace Go.Proofs.Ytcaagnfhefkoiaa.Ex
open Go.RowKit Go.Proofs.YtcaagnfhefkoiaaW.PrintWords
/-- Nothing that was there has changed but the blocks of S. -/
structure Ex (S : Nat → Prop) (w w' : World) : Prop where
  os : w'.os = w.os
  tape : w'.tape = w.tape
  output : w'.output = w.output
  size : w.heap.size ≤ w'.heap.size
  block : ∀ k, k < w.heap.size → ¬ S k → w'.heap[k]? = w.heap[k]?
variable {S T : Nat → Prop} {w w1 w2 : World}
theorem Ex.refl (S : Nat → Prop) (w : World) : Ex S w w := ⟨rfl, rfl, rfl, Nat.le_refl _, fun _ _ _ => rfl⟩
theorem Ex.trans (h : Ex S w w1) (k : Ex S w1 w2) : Ex S w w2 :=
  ⟨k.os.trans h.os, k.tape.trans h.tape, k.output.trans h.output, Nat.le_trans h.size k.size, fun i hi hS => (k.block i (Nat.lt_of_lt_of_le hi h.size) hS).trans (h.block i hi hS)⟩
theorem Ex.mono (h : Ex S w w1) (hST : ∀ k, k < w.heap.size → S k → T k) : Ex T w w1 := ⟨h.os, h.tape, h.output, h.size, fun i hi hT => h.block i hi fun hS => hT (hST i hi hS)⟩
/-- One behind the other: what the second one changes may be new. -/
theorem Ex.then (h : Ex S w w1) (k : Ex T w1 w2) (hTS : ∀ i, i < w.heap.size → T i → S i) : Ex S w w2 :=
  ⟨k.os.trans h.os, k.tape.trans h.tape, k.output.trans h.output, Nat.le_trans h.size k.size, fun i hi hS => (k.block i (Nat.lt_of_lt_of_le hi h.size) (fun hT => hS (hTS i hi hT))).trans (h.block i hi hS)⟩
theorem Ex.below (h : Ex S w w1) {B : Nat} (hB : B ≤ w.heap.size) (hS : ∀ k, S k → B ≤ k) : Below B w w1 := ⟨h.os, h.tape, h.output, h.size, fun i hi => h.block i (Nat.lt_of_lt_of_le hi hB) fun hs => absurd (hS i hs) (Nat.not_le_of_lt hi)⟩
theorem Ex.of_below (h : Below w.heap.size w w1) (S : Nat → Prop) : Ex S w w1 := ⟨h.os, h.tape, h.output, h.size, fun i hi _ => h.block i hi⟩
theorem Ex.of_grown {row : Option Nat} (h : w.grownBy w1 row) : Ex (fun k => some k = row) w w1 := ⟨h.os, h.tape, h.output, h.size, fun i hi hS => h.block i hi hS⟩
theorem Ex.alloc (h : Ex S w w1) (o : Obj) : Ex S w (w1.alloc o) := h.then (T := fun _ => False) (Ex.of_below ((Below.refl _ _).alloc (Nat.le_refl _) o) _) (fun _ _ h => h.elim)
theorem Ex.drew (h : Ex S w w1) : Ex S w w1.drew := ⟨h.os, h.tape, h.output, h.size, h.block⟩
theorem Ex.drewN (h : Ex S w w1) (n : Nat) : Ex S w (w1.drewN n) := ⟨h.os, h.tape, h.output, h.size, h.block⟩
theorem Ex.setCell (h : Ex S w w1) {p : Addr} (hp : p.block < w.heap.size → S p.block) (u : Value) : Ex S w (w1.setCell p u) :=
  ⟨h.os, h.tape, h.output, by show w.heap.size ≤ (w1.setCell p u).heap.size; simp [World.setCell]; exact h.size, fun i hi hS => by
    refine (Below.heap_setCell w1 p u i fun e => hS ?_).trans (h.block i hi hS)
    rw [e]; exact hp (by rw [← e]; exact hi)⟩
theorem Ex.cell (h : Ex S w w1) {p : Addr} (hp : p.block < w.heap.size) (hS : ¬ S p.block) : w1.cell? p = w.cell? p := World.cell?_of_block (h.block p.block hp hS)
theorem Ex.heap (h : Ex S w w1) {g : Nat} {o : Obj} (hg : w.heap[g]? = some o) (hS : ¬ S g) : w1.heap[g]? = some o := (h.block g (Array.getElem?_eq_some_iff.1 hg).1 hS).trans hg
/-- A row that is read lies in blocks that stay. -/
theorem Ex.lt (h : Ex S w w1) {g : Nat} (hg : g < w.heap.size) : g < w1.heap.size := Nat.lt_of_lt_of_le hg h.size
end Go.Proofs.Ytcaagnfhefkoiaa.Ex
