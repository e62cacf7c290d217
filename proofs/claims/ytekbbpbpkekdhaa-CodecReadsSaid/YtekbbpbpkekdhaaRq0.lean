/- The reference's reader, with the boxes of its Read. -/
import Derived.Test.YtekbbpbpkekdhaaNu
import Derived.Test.YtekbbpbpkekdhaaFails
namespace Go.Proofs.Ytekbbpbpkekdhaa.Cod
open Go.RowKit Go.Proofs.Ytekbbpbpkekdhaa.Ex Go.Proofs.Ytekbbpbpkekdhaa.PBase Go.Proofs.Ytekbbpbpkekdhaa.OpenS Go.Proofs.Ytekbbpbpkekdhaa.Given Go.Proofs.YtekbbpbpkekdhaaW.PrintWords Go.Proofs.YtekbbpbpkekdhaaW.PrintLast Go.Proofs.YtekbbpbpkekdhaaW.PrintMore
/-- The reader, the result's box, the box of what is made. -/
structure QW (w : World) (g : Nat) (A : Option Addr) (c : Nat) (bs : List Int) (a : Nat) (f : Bool) (cs : Array Value) (V : World) : Prop where
  q : QAt V g A c bs a f
  z : V.heap[w.heap.size]? = some (.cells (zc 0) 29 (0, 0))
  o : V.heap[w.heap.size + 1]? = some (.cells cs 29 (0, 0))
  ex : Ex (fun k => k = g) w V
  gl : g < w.heap.size
  far : ∀ ad, A = some ad → 0 < bs.length → ad.block < w.heap.size
theorem QW.new {w : World} {g : Nat} {A : Option Addr} {c : Nat} {bs : List Int} {a : Nat} {f : Bool} (h : QAt w g A c bs a f) (cs : Array Value) : QW w g A c bs a f cs ((w.alloc (.cells (zc 0) 29)).alloc (.cells cs 29)) := by
  have hs : (w.alloc (.cells (zc 0) 29)).heap.size = w.heap.size + 1 := by show (w.heap.push _).size = _; simp
  have hb : Below w.heap.size w ((w.alloc (.cells (zc 0) 29)).alloc (.cells cs 29)) := ((Below.refl _ w).alloc (Nat.le_refl _) _).alloc (by omega) _
  obtain ⟨h1, h2⟩ := rv_after (w := w) (g := g) (o1 := .cells (zc 0) 29) (o2 := .cells cs 29) (Ex.refl _ _) h.lt
  exact ⟨h.below hb, h1, h2, Ex.of_below hb _, h.lt, fun ad e hn => C_old h.row ad e hn⟩
theorem QW.below {w : World} {g : Nat} {A : Option Addr} {c : Nat} {bs : List Int} {a : Nat} {f : Bool} {cs : Array Value} {V V1 : World} (h : QW w g A c bs a f cs V) (hb : Below V.heap.size V V1) : QW w g A c bs a f cs V1 :=
  ⟨h.q.below hb, (hb.block _ (blk_lt h.z)).trans h.z, (hb.block _ (blk_lt h.o)).trans h.o, h.ex.trans (Ex.of_below hb _), h.gl, h.far⟩
theorem QW.drew {w : World} {g : Nat} {A : Option Addr} {c : Nat} {bs : List Int} {a : Nat} {f : Bool} {cs : Array Value} {V : World} (h : QW w g A c bs a f cs V) : QW w g A c bs a f cs V.drew := h.below (below_drew (Below.refl _ _))
theorem QW.step {w : World} {g : Nat} {A : Option Addr} {c : Nat} {bs : List Int} {a b : Nat} {f f' : Bool} {cs : Array Value} {V V1 : World} (h : QW w g A c bs a f cs V) (hx : Ex (fun k => k = g) V V1) (hq : QAt V1 g A c bs b f') : QW w g A c bs b f' cs V1 :=
  ⟨hq, hx.heap h.z (by have := h.gl; omega), hx.heap h.o (by have := h.gl; omega), h.ex.trans hx, h.gl, h.far⟩
theorem QW.go {w : World} {g : Nat} {A : Option Addr} {c : Nat} {bs : List Int} {a : Nat} {f : Bool} {cs : Array Value} {V : World} (h : QW w g A c bs a f cs V) (b : Nat) (hb : b ≤ bs.length) : QW w g A c bs b f cs (V.setCell ⟨g, 1, none⟩ (.int .i64 (b : Int))) := h.step (h.q.go b hb).2 (h.q.go b hb).1
theorem QW.fail {w : World} {g : Nat} {A : Option Addr} {c : Nat} {bs : List Int} {a : Nat} {f : Bool} {cs : Array Value} {V : World} (h : QW w g A c bs a f cs V) : QW w g A c bs a true cs (V.setCell ⟨g, 2, none⟩ (.bool true)) := h.step h.q.fail.2 h.q.fail.1
theorem QW.set {w : World} {g : Nat} {A : Option Addr} {c : Nat} {bs : List Int} {a : Nat} {f : Bool} {cs : Array Value} {V : World} (h : QW w g A c bs a f cs V) (j : Nat) (v : Value) : QW w g A c bs a f (cs.set! j v) (V.setCell ⟨w.heap.size + 1, j, none⟩ v) := by
  have hx : Ex (fun k => k = w.heap.size + 1) V (V.setCell ⟨w.heap.size + 1, j, none⟩ v) := (Ex.refl (fun k => k = w.heap.size + 1) V).setCell (p := ⟨w.heap.size + 1, j, none⟩) (fun _ => rfl) _
  have hg := h.gl
  exact ⟨h.q.ex hx (by omega) (fun ad e hn => by have := h.far ad e hn; omega), hx.heap h.z (by omega), blk_set h.o j v, h.ex.then hx (fun i hi e => by omega), h.gl, h.far⟩
/-- The cells of the two boxes and of the reader, for the walk. -/
theorem QW.cells {w : World} {g : Nat} {A : Option Addr} {c : Nat} {bs : List Int} {a : Nat} {f : Bool} {v0 v1 v2 v3 v4 v5 v6 : Value} {V : World} (h : QW w g A c bs a f #[v0, v1, v2, v3, v4, v5, v6] V) :
    (V.cell? ⟨g, 0, none⟩ = some (.slice A bs.length c) ∧ V.cell? ⟨g, 1, none⟩ = some (.int .i64 (a : Int)) ∧ V.cell? ⟨g, 2, none⟩ = some (.bool f)) ∧
    (V.cell? ⟨w.heap.size + 1, 0, none⟩ = some v0 ∧ V.cell? ⟨w.heap.size + 1, 1, none⟩ = some v1 ∧ V.cell? ⟨w.heap.size + 1, 2, none⟩ = some v2 ∧ V.cell? ⟨w.heap.size + 1, 3, none⟩ = some v3 ∧ V.cell? ⟨w.heap.size + 1, 4, none⟩ = some v4 ∧ V.cell? ⟨w.heap.size + 1, 5, none⟩ = some v5 ∧ V.cell? ⟨w.heap.size + 1, 6, none⟩ = some v6) ∧
    (V.cell? ⟨w.heap.size, 0, none⟩ = some (.int .u8 0) ∧ V.cell? ⟨w.heap.size, 1, none⟩ = some (.int .u64 0) ∧ V.cell? ⟨w.heap.size, 2, none⟩ = some (.int .i64 0) ∧ V.cell? ⟨w.heap.size, 3, none⟩ = some (.bool false) ∧ V.cell? ⟨w.heap.size, 4, none⟩ = some (.slice none 0 0) ∧ V.cell? ⟨w.heap.size, 5, none⟩ = some (.string ⟨#[]⟩) ∧ V.cell? ⟨w.heap.size, 6, none⟩ = some (.int .i64 0)) ∧
    (∀ j, V.frozen? ⟨g, j, none⟩ = false) ∧ (∀ j, V.frozen? ⟨w.heap.size + 1, j, none⟩ = false) ∧ ∀ j, V.frozen? ⟨w.heap.size, j, none⟩ = false :=
  ⟨⟨blk_cell h.q.blk 0, blk_cell h.q.blk 1, blk_cell h.q.blk 2⟩, ⟨blk_cell h.o 0, blk_cell h.o 1, blk_cell h.o 2, blk_cell h.o 3, blk_cell h.o 4, blk_cell h.o 5, blk_cell h.o 6⟩, ⟨blk_cell h.z 0, blk_cell h.z 1, blk_cell h.z 2, blk_cell h.z 3, blk_cell h.z 4, blk_cell h.z 5, blk_cell h.z 6⟩, blk_frozen h.q.blk, blk_frozen h.o, blk_frozen h.z⟩
/-- What Read leaves. -/
def RDPost (g : Nat) (A : Option Addr) (c : Nat) (bs : List Int) (w : World) (k : Int) (o : Option (S29 × List Int)) (e : Ending) (w' : World) : Prop :=
  Ex (fun k => k = g) w w' ∧ match o with
  | some (x, r) => ∃ A4 c4 b, e = .returned (aggS x A4 c4) ∧ x.f4.length ≤ c4 ∧ Kd.C (Kd.int .u8) w' A4 x.f4.length x.f4 ∧ QAt w' g A c bs b false ∧ r = bs.drop b
  | none => e = .returned (aggS (z0 k) none 0) ∧ ∃ b, QAt w' g A c bs b true
theorem QW.fin {w : World} {g : Nat} {A : Option Addr} {c : Nat} {bs : List Int} {a : Nat} {f : Bool} {cs : Array Value} {V : World} (h : QW w g A c bs a f cs V) (v0 v1 v2 v3 v4 v5 v6 : Value) :
    (((((((V.setCell ⟨w.heap.size, 0, none⟩ v0).setCell ⟨w.heap.size, 1, none⟩ v1).setCell ⟨w.heap.size, 2, none⟩ v2).setCell ⟨w.heap.size, 3, none⟩ v3).setCell ⟨w.heap.size, 4, none⟩ v4).setCell ⟨w.heap.size, 5, none⟩ v5).setCell ⟨w.heap.size, 6, none⟩ v6).heap[w.heap.size]? = some (.cells #[v0, v1, v2, v3, v4, v5, v6] 29 (0, 0)) ∧
    Ex (fun k => k = w.heap.size ∨ k = w.heap.size + 1) V (((((((V.setCell ⟨w.heap.size, 0, none⟩ v0).setCell ⟨w.heap.size, 1, none⟩ v1).setCell ⟨w.heap.size, 2, none⟩ v2).setCell ⟨w.heap.size, 3, none⟩ v3).setCell ⟨w.heap.size, 4, none⟩ v4).setCell ⟨w.heap.size, 5, none⟩ v5).setCell ⟨w.heap.size, 6, none⟩ v6) ∧
    QAt (((((((V.setCell ⟨w.heap.size, 0, none⟩ v0).setCell ⟨w.heap.size, 1, none⟩ v1).setCell ⟨w.heap.size, 2, none⟩ v2).setCell ⟨w.heap.size, 3, none⟩ v3).setCell ⟨w.heap.size, 4, none⟩ v4).setCell ⟨w.heap.size, 5, none⟩ v5).setCell ⟨w.heap.size, 6, none⟩ v6) g A c bs a f ∧
    Ex (fun k => k = g) w (((((((V.setCell ⟨w.heap.size, 0, none⟩ v0).setCell ⟨w.heap.size, 1, none⟩ v1).setCell ⟨w.heap.size, 2, none⟩ v2).setCell ⟨w.heap.size, 3, none⟩ v3).setCell ⟨w.heap.size, 4, none⟩ v4).setCell ⟨w.heap.size, 5, none⟩ v5).setCell ⟨w.heap.size, 6, none⟩ v6) := by
  obtain ⟨h1, h2⟩ := rv_set7 h.z v0 v1 v2 v3 v4 v5 v6
  have hg := h.gl
  exact ⟨h1, h2, h.q.ex h2 (fun e => e.elim (fun e => by omega) (fun e => by omega)) (fun ad e hn => by have := h.far ad e hn; exact fun e => e.elim (fun e => by omega) (fun e => by omega)), rv_ex h.ex h2⟩
end Go.Proofs.Ytekbbpbpkekdhaa.Cod
