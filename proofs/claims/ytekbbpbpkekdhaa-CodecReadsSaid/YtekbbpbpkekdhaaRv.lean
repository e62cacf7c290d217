/- What the laws' read does: the walk, by the value's kind. -/
import Derived.Test.YtekbbpbpkekdhaaAw
namespace Go.Proofs.Ytekbbpbpkekdhaa.Cod
open Go.RowKit Go.Proofs.Ytekbbpbpkekdhaa.Ex Go.Proofs.Ytekbbpbpkekdhaa.PBase Go.Proofs.YtekbbpbpkekdhaaW.PrintWords Go.Proofs.YtekbbpbpkekdhaaW.PrintLast Go.Proofs.YtekbbpbpkekdhaaW.PrintMore
theorem RPost.of_u {b g : Nat} {w w' : World} {o : Option (Nat × List Int)} {e : Ending} (h : UPost b g w o e w') : RPost b g w (o.map fun p => (.int .u64 (p.1 : Int), p.2)) (.int .u64 0) e w' := by
  cases o with
  | none => exact h
  | some p => exact h
/-- A value's cells. -/
def zc (k : Int) : Array Value := #[.int .u8 k, .int .u64 0, .int .i64 0, .bool false, .slice none 0 0, .string ⟨#[]⟩, .int .i64 0]
theorem rv_ready {w : World} {b g : Nat} {A : Option Addr} {c : Nat} {xs : List Int} {f : Bool} (h : RAt w b g A c xs f) (o1 o2 : Obj) : RAt ((w.alloc o1).alloc o2) b g A c xs f ∧ Ex (fun k => k = g) w ((w.alloc o1).alloc o2) := by
  have hs : (w.alloc o1).heap.size = w.heap.size + 1 := by show (w.heap.push _).size = _; simp
  have hb : Below w.heap.size w ((w.alloc o1).alloc o2) := ((Below.refl _ w).alloc (Nat.le_refl _) o1).alloc (by omega) o2
  exact ⟨h.below hb, Ex.of_below hb _⟩
theorem rv_after {w w1 : World} {g : Nat} {o1 o2 : Obj} (hx : Ex (fun k => k = g) ((w.alloc o1).alloc o2) w1) (hg : g < w.heap.size) : w1.heap[w.heap.size]? = some o1 ∧ w1.heap[w.heap.size + 1]? = some o2 := by
  have hs : (w.alloc o1).heap.size = w.heap.size + 1 := by show (w.heap.push _).size = _; simp
  constructor
  · refine hx.heap ?_ (by show ¬ w.heap.size = g; omega)
    show ((w.heap.push o1).push o2)[w.heap.size]? = _
    rw [Array.getElem?_push_lt (by simp)]; simp
  · refine hx.heap ?_ (by show ¬ w.heap.size + 1 = g; omega)
    show ((w.heap.push o1).push o2)[w.heap.size + 1]? = _
    have e : w.heap.size + 1 = (w.heap.push o1).size := by simp
    rw [e, Array.getElem?_push_size]
theorem size29 : (Try.prog.info? 29).map (·.size) = some 7 := by kernel_rfl
theorem rv_end {w1 : World} {n : Nat} (h : w1.heap[n]? = some (.cells (zc 0) 29 (0, 0))) (j : Nat) (u v0 v1 v2 v3 v4 v5 v6 : Value) :
    ((((((((w1.setCell ⟨n + 1, j, none⟩ u).setCell ⟨n, 0, none⟩ v0).setCell ⟨n, 1, none⟩ v1).setCell ⟨n, 2, none⟩ v2).setCell ⟨n, 3, none⟩ v3).setCell ⟨n, 4, none⟩ v4).setCell ⟨n, 5, none⟩ v5).setCell ⟨n, 6, none⟩ v6).heap[n]? = some (.cells #[v0, v1, v2, v3, v4, v5, v6] 29 (0, 0)) ∧
    Ex (fun k => k = n ∨ k = n + 1) w1 ((((((((w1.setCell ⟨n + 1, j, none⟩ u).setCell ⟨n, 0, none⟩ v0).setCell ⟨n, 1, none⟩ v1).setCell ⟨n, 2, none⟩ v2).setCell ⟨n, 3, none⟩ v3).setCell ⟨n, 4, none⟩ v4).setCell ⟨n, 5, none⟩ v5).setCell ⟨n, 6, none⟩ v6) := by
  have h0 : (w1.setCell ⟨n + 1, j, none⟩ u).heap[n]? = some (.cells (zc 0) 29 (0, 0)) := (Below.heap_setCell w1 ⟨n + 1, j, none⟩ u n (by show n ≠ n + 1; omega)).trans h
  constructor
  · exact blk_set (blk_set (blk_set (blk_set (blk_set (blk_set (blk_set h0 0 v0) 1 v1) 2 v2) 3 v3) 4 v4) 5 v5) 6 v6
  · refine Ex.setCell (Ex.setCell (Ex.setCell (Ex.setCell (Ex.setCell (Ex.setCell (Ex.setCell (Ex.setCell (Ex.refl _ _) ?_ _) ?_ _) ?_ _) ?_ _) ?_ _) ?_ _) ?_ _) ?_ _
    · exact fun _ => .inr rfl
    all_goals exact fun _ => .inl rfl
theorem rv_rat {w1 w2 : World} {n b g : Nat} {A : Option Addr} {c : Nat} {xs : List Int} {f : Bool} (h : RAt w1 b g A c xs f) (hx : Ex (fun k => k = n ∨ k = n + 1) w1 w2) (hg : g < n) (hb : b ≤ g) : RAt w2 b g A c xs f :=
  h.ex hx (fun e => e.elim (fun e => by omega) (fun e => by omega)) (fun ad e => by
    rw [(h.far ad e).2.2.1]
    exact fun e => e.elim (fun e => by omega) (fun e => by omega))
theorem rv_ex {w w1 w2 : World} {g : Nat} (h : Ex (fun k => k = g) w w1) (hx : Ex (fun k => k = w.heap.size ∨ k = w.heap.size + 1) w1 w2) : Ex (fun k => k = g) w w2 :=
  h.then hx (fun i hi e => e.elim (fun e => by omega) (fun e => by omega))
set_option maxHeartbeats 1000000 in
set_option maxRecDepth 100000 in
theorem read_0 (b g : Nat) (A : Option Addr) (c : Nat) (xs : List Int) (f : Bool) (m : Int) (w : World) (hw : RAt w b g A c xs f) (o : Option (Int × List Int)) (z : Int)
    (hc : Aside0 (∀ W, RAt W b g A c xs f → Calls Try.prog 38 #[.pointer (some ⟨g, 0, none⟩)] W (RPost b g W (o.map fun p => (.int .u64 p.1, p.2)) (.int .u64 z)))) :
    Calls Try.prog 21 #[.pointer (some ⟨g, 0, none⟩), .int .u8 0, .int .i64 m] w (RPost b g w (o.map fun p => (.agg #[.int .u8 0, .int .u64 p.1, .int .i64 0, .bool false, .slice none 0 0, .string ⟨#[]⟩, .int .i64 0], p.2)) (.agg #[.int .u8 0, .int .u64 z, .int .i64 0, .bool false, .slice none 0 0, .string ⟨#[]⟩, .int .i64 0])) := by
  have HW := Aside0.mk hw
  have hg := hw.lt
  have hlow := hw.low
  clear hw
  obtain ⟨hr0, hx0⟩ := rv_ready HW.out (.cells (zc 0) 29) (.cells (zc 0) 29)
  have HR0 := Aside0.mk hr0
  have HX0 := Aside0.mk hx0
  clear hr0 hx0
  cases o with
  | none =>
    go_enter Try.func21, Try.ntmps21
    go_wp2_with fail
    refine (hc.out _ HR0.out).mono ?_
    rintro e w1 ⟨hx, rfl, A1, c1, r1, h1⟩
    obtain ⟨hz1, hz2⟩ := rv_after hx hg
    have HX := Aside0.mk (HX0.out.trans hx)
    have H1 := Aside0.mk h1
    clear hx h1
    have h7 : ∀ i, w1.cell? ⟨w.heap.size + 1, i, none⟩ = (zc 0)[i]? := fun i => blk_cell hz2 i
    have h6 : ∀ i, w1.cell? ⟨w.heap.size, i, none⟩ = (zc 0)[i]? := fun i => blk_cell hz1 i
    have c70 := h7 0; have c71 := h7 1; have c72 := h7 2; have c73 := h7 3; have c74 := h7 4; have c75 := h7 5; have c76 := h7 6
    have c60 := h6 0; have c61 := h6 1; have c62 := h6 2; have c63 := h6 3; have c64 := h6 4; have c65 := h6 5; have c66 := h6 6
    have f7 : w1.frozen? ⟨w.heap.size + 1, 1, none⟩ = false := blk_frozen hz2 1
    have f60 : w1.frozen? ⟨w.heap.size, 0, none⟩ = false := blk_frozen hz1 0
    have f61 : w1.frozen? ⟨w.heap.size, 1, none⟩ = false := blk_frozen hz1 1
    have f62 : w1.frozen? ⟨w.heap.size, 2, none⟩ = false := blk_frozen hz1 2
    have f63 : w1.frozen? ⟨w.heap.size, 3, none⟩ = false := blk_frozen hz1 3
    have f64 : w1.frozen? ⟨w.heap.size, 4, none⟩ = false := blk_frozen hz1 4
    have f65 : w1.frozen? ⟨w.heap.size, 5, none⟩ = false := blk_frozen hz1 5
    have f66 : w1.frozen? ⟨w.heap.size, 6, none⟩ = false := blk_frozen hz1 6
    simp only [zc] at c70 c71 c72 c73 c74 c75 c76 c60 c61 c62 c63 c64 c65 c66
    have Z1 := Aside0.mk hz1
    clear h7 h6 hz1 hz2
    go_wp2_with fail
    refine bodyPost_ret (results_single rfl (.cell w.heap.size 29 _ (0, 0) _ rfl (rv_end Z1.out _ _ _ _ _ _ _ _ _).1 Try.underlying29 rfl size29 .nil)) rfl ?_
    exact ⟨rv_ex HX.out (rv_end Z1.out _ _ _ _ _ _ _ _ _).2, rfl, _, _, _, rv_rat H1.out (rv_end Z1.out _ _ _ _ _ _ _ _ _).2 hg hlow⟩
  | some p =>
    obtain ⟨v, r⟩ := p
    go_enter Try.func21, Try.ntmps21
    go_wp2_with fail
    refine (hc.out _ HR0.out).mono ?_
    rintro e w1 ⟨hx, rfl, A1, c1, h1⟩
    obtain ⟨hz1, hz2⟩ := rv_after hx hg
    have HX := Aside0.mk (HX0.out.trans hx)
    have H1 := Aside0.mk h1
    clear hx h1
    have h7 : ∀ i, w1.cell? ⟨w.heap.size + 1, i, none⟩ = (zc 0)[i]? := fun i => blk_cell hz2 i
    have h6 : ∀ i, w1.cell? ⟨w.heap.size, i, none⟩ = (zc 0)[i]? := fun i => blk_cell hz1 i
    have c70 := h7 0; have c71 := h7 1; have c72 := h7 2; have c73 := h7 3; have c74 := h7 4; have c75 := h7 5; have c76 := h7 6
    have c60 := h6 0; have c61 := h6 1; have c62 := h6 2; have c63 := h6 3; have c64 := h6 4; have c65 := h6 5; have c66 := h6 6
    have f7 : w1.frozen? ⟨w.heap.size + 1, 1, none⟩ = false := blk_frozen hz2 1
    have f60 : w1.frozen? ⟨w.heap.size, 0, none⟩ = false := blk_frozen hz1 0
    have f61 : w1.frozen? ⟨w.heap.size, 1, none⟩ = false := blk_frozen hz1 1
    have f62 : w1.frozen? ⟨w.heap.size, 2, none⟩ = false := blk_frozen hz1 2
    have f63 : w1.frozen? ⟨w.heap.size, 3, none⟩ = false := blk_frozen hz1 3
    have f64 : w1.frozen? ⟨w.heap.size, 4, none⟩ = false := blk_frozen hz1 4
    have f65 : w1.frozen? ⟨w.heap.size, 5, none⟩ = false := blk_frozen hz1 5
    have f66 : w1.frozen? ⟨w.heap.size, 6, none⟩ = false := blk_frozen hz1 6
    simp only [zc] at c70 c71 c72 c73 c74 c75 c76 c60 c61 c62 c63 c64 c65 c66
    have Z1 := Aside0.mk hz1
    clear h7 h6 hz1 hz2
    go_wp2_with fail
    refine bodyPost_ret (results_single rfl (.cell w.heap.size 29 _ (0, 0) _ rfl (rv_end Z1.out _ _ _ _ _ _ _ _ _).1 Try.underlying29 rfl size29 .nil)) rfl ?_
    exact ⟨rv_ex HX.out (rv_end Z1.out _ _ _ _ _ _ _ _ _).2, rfl, _, _, rv_rat H1.out (rv_end Z1.out _ _ _ _ _ _ _ _ _).2 hg hlow⟩
set_option maxHeartbeats 1000000 in
set_option maxRecDepth 100000 in
theorem read_1 (b g : Nat) (A : Option Addr) (c : Nat) (xs : List Int) (f : Bool) (m : Int) (w : World) (hw : RAt w b g A c xs f) (o : Option (Int × List Int)) (z : Int)
    (hc : Aside0 (∀ W, RAt W b g A c xs f → Calls Try.prog 39 #[.pointer (some ⟨g, 0, none⟩)] W (RPost b g W (o.map fun p => (.int .i64 p.1, p.2)) (.int .i64 z)))) :
    Calls Try.prog 21 #[.pointer (some ⟨g, 0, none⟩), .int .u8 1, .int .i64 m] w (RPost b g w (o.map fun p => (.agg #[.int .u8 1, .int .u64 0, .int .i64 p.1, .bool false, .slice none 0 0, .string ⟨#[]⟩, .int .i64 0], p.2)) (.agg #[.int .u8 1, .int .u64 0, .int .i64 z, .bool false, .slice none 0 0, .string ⟨#[]⟩, .int .i64 0])) := by
  have HW := Aside0.mk hw
  have hg := hw.lt
  have hlow := hw.low
  clear hw
  obtain ⟨hr0, hx0⟩ := rv_ready HW.out (.cells (zc 0) 29) (.cells (zc 1) 29)
  have HR0 := Aside0.mk hr0
  have HX0 := Aside0.mk hx0
  clear hr0 hx0
  cases o with
  | none =>
    go_enter Try.func21, Try.ntmps21
    go_wp2_with fail
    refine (hc.out _ HR0.out).mono ?_
    rintro e w1 ⟨hx, rfl, A1, c1, r1, h1⟩
    obtain ⟨hz1, hz2⟩ := rv_after hx hg
    have HX := Aside0.mk (HX0.out.trans hx)
    have H1 := Aside0.mk h1
    clear hx h1
    have h7 : ∀ i, w1.cell? ⟨w.heap.size + 1, i, none⟩ = (zc 1)[i]? := fun i => blk_cell hz2 i
    have h6 : ∀ i, w1.cell? ⟨w.heap.size, i, none⟩ = (zc 0)[i]? := fun i => blk_cell hz1 i
    have c70 := h7 0; have c71 := h7 1; have c72 := h7 2; have c73 := h7 3; have c74 := h7 4; have c75 := h7 5; have c76 := h7 6
    have c60 := h6 0; have c61 := h6 1; have c62 := h6 2; have c63 := h6 3; have c64 := h6 4; have c65 := h6 5; have c66 := h6 6
    have f7 : w1.frozen? ⟨w.heap.size + 1, 2, none⟩ = false := blk_frozen hz2 2
    have f60 : w1.frozen? ⟨w.heap.size, 0, none⟩ = false := blk_frozen hz1 0
    have f61 : w1.frozen? ⟨w.heap.size, 1, none⟩ = false := blk_frozen hz1 1
    have f62 : w1.frozen? ⟨w.heap.size, 2, none⟩ = false := blk_frozen hz1 2
    have f63 : w1.frozen? ⟨w.heap.size, 3, none⟩ = false := blk_frozen hz1 3
    have f64 : w1.frozen? ⟨w.heap.size, 4, none⟩ = false := blk_frozen hz1 4
    have f65 : w1.frozen? ⟨w.heap.size, 5, none⟩ = false := blk_frozen hz1 5
    have f66 : w1.frozen? ⟨w.heap.size, 6, none⟩ = false := blk_frozen hz1 6
    simp only [zc] at c70 c71 c72 c73 c74 c75 c76 c60 c61 c62 c63 c64 c65 c66
    have Z1 := Aside0.mk hz1
    clear h7 h6 hz1 hz2
    go_wp2_with fail
    refine bodyPost_ret (results_single rfl (.cell w.heap.size 29 _ (0, 0) _ rfl (rv_end Z1.out _ _ _ _ _ _ _ _ _).1 Try.underlying29 rfl size29 .nil)) rfl ?_
    exact ⟨rv_ex HX.out (rv_end Z1.out _ _ _ _ _ _ _ _ _).2, rfl, _, _, _, rv_rat H1.out (rv_end Z1.out _ _ _ _ _ _ _ _ _).2 hg hlow⟩
  | some p =>
    obtain ⟨v, r⟩ := p
    go_enter Try.func21, Try.ntmps21
    go_wp2_with fail
    refine (hc.out _ HR0.out).mono ?_
    rintro e w1 ⟨hx, rfl, A1, c1, h1⟩
    obtain ⟨hz1, hz2⟩ := rv_after hx hg
    have HX := Aside0.mk (HX0.out.trans hx)
    have H1 := Aside0.mk h1
    clear hx h1
    have h7 : ∀ i, w1.cell? ⟨w.heap.size + 1, i, none⟩ = (zc 1)[i]? := fun i => blk_cell hz2 i
    have h6 : ∀ i, w1.cell? ⟨w.heap.size, i, none⟩ = (zc 0)[i]? := fun i => blk_cell hz1 i
    have c70 := h7 0; have c71 := h7 1; have c72 := h7 2; have c73 := h7 3; have c74 := h7 4; have c75 := h7 5; have c76 := h7 6
    have c60 := h6 0; have c61 := h6 1; have c62 := h6 2; have c63 := h6 3; have c64 := h6 4; have c65 := h6 5; have c66 := h6 6
    have f7 : w1.frozen? ⟨w.heap.size + 1, 2, none⟩ = false := blk_frozen hz2 2
    have f60 : w1.frozen? ⟨w.heap.size, 0, none⟩ = false := blk_frozen hz1 0
    have f61 : w1.frozen? ⟨w.heap.size, 1, none⟩ = false := blk_frozen hz1 1
    have f62 : w1.frozen? ⟨w.heap.size, 2, none⟩ = false := blk_frozen hz1 2
    have f63 : w1.frozen? ⟨w.heap.size, 3, none⟩ = false := blk_frozen hz1 3
    have f64 : w1.frozen? ⟨w.heap.size, 4, none⟩ = false := blk_frozen hz1 4
    have f65 : w1.frozen? ⟨w.heap.size, 5, none⟩ = false := blk_frozen hz1 5
    have f66 : w1.frozen? ⟨w.heap.size, 6, none⟩ = false := blk_frozen hz1 6
    simp only [zc] at c70 c71 c72 c73 c74 c75 c76 c60 c61 c62 c63 c64 c65 c66
    have Z1 := Aside0.mk hz1
    clear h7 h6 hz1 hz2
    go_wp2_with fail
    refine bodyPost_ret (results_single rfl (.cell w.heap.size 29 _ (0, 0) _ rfl (rv_end Z1.out _ _ _ _ _ _ _ _ _).1 Try.underlying29 rfl size29 .nil)) rfl ?_
    exact ⟨rv_ex HX.out (rv_end Z1.out _ _ _ _ _ _ _ _ _).2, rfl, _, _, rv_rat H1.out (rv_end Z1.out _ _ _ _ _ _ _ _ _).2 hg hlow⟩
set_option maxHeartbeats 1000000 in
set_option maxRecDepth 100000 in
theorem read_2 (b g : Nat) (A : Option Addr) (c : Nat) (xs : List Int) (f : Bool) (m : Int) (w : World) (hw : RAt w b g A c xs f) (o : Option (Bool × List Int)) (z : Bool)
    (hc : Aside0 (∀ W, RAt W b g A c xs f → Calls Try.prog 31 #[.pointer (some ⟨g, 0, none⟩)] W (RPost b g W (o.map fun p => (.bool p.1, p.2)) (.bool z)))) :
    Calls Try.prog 21 #[.pointer (some ⟨g, 0, none⟩), .int .u8 2, .int .i64 m] w (RPost b g w (o.map fun p => (.agg #[.int .u8 2, .int .u64 0, .int .i64 0, .bool p.1, .slice none 0 0, .string ⟨#[]⟩, .int .i64 0], p.2)) (.agg #[.int .u8 2, .int .u64 0, .int .i64 0, .bool z, .slice none 0 0, .string ⟨#[]⟩, .int .i64 0])) := by
  have HW := Aside0.mk hw
  have hg := hw.lt
  have hlow := hw.low
  clear hw
  obtain ⟨hr0, hx0⟩ := rv_ready HW.out (.cells (zc 0) 29) (.cells (zc 2) 29)
  have HR0 := Aside0.mk hr0
  have HX0 := Aside0.mk hx0
  clear hr0 hx0
  cases o with
  | none =>
    go_enter Try.func21, Try.ntmps21
    go_wp2_with fail
    refine (hc.out _ HR0.out).mono ?_
    rintro e w1 ⟨hx, rfl, A1, c1, r1, h1⟩
    obtain ⟨hz1, hz2⟩ := rv_after hx hg
    have HX := Aside0.mk (HX0.out.trans hx)
    have H1 := Aside0.mk h1
    clear hx h1
    have h7 : ∀ i, w1.cell? ⟨w.heap.size + 1, i, none⟩ = (zc 2)[i]? := fun i => blk_cell hz2 i
    have h6 : ∀ i, w1.cell? ⟨w.heap.size, i, none⟩ = (zc 0)[i]? := fun i => blk_cell hz1 i
    have c70 := h7 0; have c71 := h7 1; have c72 := h7 2; have c73 := h7 3; have c74 := h7 4; have c75 := h7 5; have c76 := h7 6
    have c60 := h6 0; have c61 := h6 1; have c62 := h6 2; have c63 := h6 3; have c64 := h6 4; have c65 := h6 5; have c66 := h6 6
    have f7 : w1.frozen? ⟨w.heap.size + 1, 3, none⟩ = false := blk_frozen hz2 3
    have f60 : w1.frozen? ⟨w.heap.size, 0, none⟩ = false := blk_frozen hz1 0
    have f61 : w1.frozen? ⟨w.heap.size, 1, none⟩ = false := blk_frozen hz1 1
    have f62 : w1.frozen? ⟨w.heap.size, 2, none⟩ = false := blk_frozen hz1 2
    have f63 : w1.frozen? ⟨w.heap.size, 3, none⟩ = false := blk_frozen hz1 3
    have f64 : w1.frozen? ⟨w.heap.size, 4, none⟩ = false := blk_frozen hz1 4
    have f65 : w1.frozen? ⟨w.heap.size, 5, none⟩ = false := blk_frozen hz1 5
    have f66 : w1.frozen? ⟨w.heap.size, 6, none⟩ = false := blk_frozen hz1 6
    simp only [zc] at c70 c71 c72 c73 c74 c75 c76 c60 c61 c62 c63 c64 c65 c66
    have Z1 := Aside0.mk hz1
    clear h7 h6 hz1 hz2
    go_wp2_with fail
    refine bodyPost_ret (results_single rfl (.cell w.heap.size 29 _ (0, 0) _ rfl (rv_end Z1.out _ _ _ _ _ _ _ _ _).1 Try.underlying29 rfl size29 .nil)) rfl ?_
    exact ⟨rv_ex HX.out (rv_end Z1.out _ _ _ _ _ _ _ _ _).2, rfl, _, _, _, rv_rat H1.out (rv_end Z1.out _ _ _ _ _ _ _ _ _).2 hg hlow⟩
  | some p =>
    obtain ⟨v, r⟩ := p
    go_enter Try.func21, Try.ntmps21
    go_wp2_with fail
    refine (hc.out _ HR0.out).mono ?_
    rintro e w1 ⟨hx, rfl, A1, c1, h1⟩
    obtain ⟨hz1, hz2⟩ := rv_after hx hg
    have HX := Aside0.mk (HX0.out.trans hx)
    have H1 := Aside0.mk h1
    clear hx h1
    have h7 : ∀ i, w1.cell? ⟨w.heap.size + 1, i, none⟩ = (zc 2)[i]? := fun i => blk_cell hz2 i
    have h6 : ∀ i, w1.cell? ⟨w.heap.size, i, none⟩ = (zc 0)[i]? := fun i => blk_cell hz1 i
    have c70 := h7 0; have c71 := h7 1; have c72 := h7 2; have c73 := h7 3; have c74 := h7 4; have c75 := h7 5; have c76 := h7 6
    have c60 := h6 0; have c61 := h6 1; have c62 := h6 2; have c63 := h6 3; have c64 := h6 4; have c65 := h6 5; have c66 := h6 6
    have f7 : w1.frozen? ⟨w.heap.size + 1, 3, none⟩ = false := blk_frozen hz2 3
    have f60 : w1.frozen? ⟨w.heap.size, 0, none⟩ = false := blk_frozen hz1 0
    have f61 : w1.frozen? ⟨w.heap.size, 1, none⟩ = false := blk_frozen hz1 1
    have f62 : w1.frozen? ⟨w.heap.size, 2, none⟩ = false := blk_frozen hz1 2
    have f63 : w1.frozen? ⟨w.heap.size, 3, none⟩ = false := blk_frozen hz1 3
    have f64 : w1.frozen? ⟨w.heap.size, 4, none⟩ = false := blk_frozen hz1 4
    have f65 : w1.frozen? ⟨w.heap.size, 5, none⟩ = false := blk_frozen hz1 5
    have f66 : w1.frozen? ⟨w.heap.size, 6, none⟩ = false := blk_frozen hz1 6
    simp only [zc] at c70 c71 c72 c73 c74 c75 c76 c60 c61 c62 c63 c64 c65 c66
    have Z1 := Aside0.mk hz1
    clear h7 h6 hz1 hz2
    go_wp2_with fail
    refine bodyPost_ret (results_single rfl (.cell w.heap.size 29 _ (0, 0) _ rfl (rv_end Z1.out _ _ _ _ _ _ _ _ _).1 Try.underlying29 rfl size29 .nil)) rfl ?_
    exact ⟨rv_ex HX.out (rv_end Z1.out _ _ _ _ _ _ _ _ _).2, rfl, _, _, rv_rat H1.out (rv_end Z1.out _ _ _ _ _ _ _ _ _).2 hg hlow⟩
set_option maxHeartbeats 1000000 in
set_option maxRecDepth 100000 in
theorem read_4 (b g : Nat) (A : Option Addr) (c : Nat) (xs : List Int) (f : Bool) (m : Int) (w : World) (hw : RAt w b g A c xs f) (o : Option (ByteArray × List Int)) (z : ByteArray)
    (hc : Aside0 (∀ W, RAt W b g A c xs f → Calls Try.prog 41 #[.pointer (some ⟨g, 0, none⟩)] W (RPost b g W (o.map fun p => (.string p.1, p.2)) (.string z)))) :
    Calls Try.prog 21 #[.pointer (some ⟨g, 0, none⟩), .int .u8 4, .int .i64 m] w (RPost b g w (o.map fun p => (.agg #[.int .u8 4, .int .u64 0, .int .i64 0, .bool false, .slice none 0 0, .string p.1, .int .i64 0], p.2)) (.agg #[.int .u8 4, .int .u64 0, .int .i64 0, .bool false, .slice none 0 0, .string z, .int .i64 0])) := by
  have HW := Aside0.mk hw
  have hg := hw.lt
  have hlow := hw.low
  clear hw
  obtain ⟨hr0, hx0⟩ := rv_ready HW.out (.cells (zc 0) 29) (.cells (zc 4) 29)
  have HR0 := Aside0.mk hr0
  have HX0 := Aside0.mk hx0
  clear hr0 hx0
  cases o with
  | none =>
    go_enter Try.func21, Try.ntmps21
    go_wp2_with fail
    refine (hc.out _ HR0.out).mono ?_
    rintro e w1 ⟨hx, rfl, A1, c1, r1, h1⟩
    obtain ⟨hz1, hz2⟩ := rv_after hx hg
    have HX := Aside0.mk (HX0.out.trans hx)
    have H1 := Aside0.mk h1
    clear hx h1
    have h7 : ∀ i, w1.cell? ⟨w.heap.size + 1, i, none⟩ = (zc 4)[i]? := fun i => blk_cell hz2 i
    have h6 : ∀ i, w1.cell? ⟨w.heap.size, i, none⟩ = (zc 0)[i]? := fun i => blk_cell hz1 i
    have c70 := h7 0; have c71 := h7 1; have c72 := h7 2; have c73 := h7 3; have c74 := h7 4; have c75 := h7 5; have c76 := h7 6
    have c60 := h6 0; have c61 := h6 1; have c62 := h6 2; have c63 := h6 3; have c64 := h6 4; have c65 := h6 5; have c66 := h6 6
    have f7 : w1.frozen? ⟨w.heap.size + 1, 5, none⟩ = false := blk_frozen hz2 5
    have f60 : w1.frozen? ⟨w.heap.size, 0, none⟩ = false := blk_frozen hz1 0
    have f61 : w1.frozen? ⟨w.heap.size, 1, none⟩ = false := blk_frozen hz1 1
    have f62 : w1.frozen? ⟨w.heap.size, 2, none⟩ = false := blk_frozen hz1 2
    have f63 : w1.frozen? ⟨w.heap.size, 3, none⟩ = false := blk_frozen hz1 3
    have f64 : w1.frozen? ⟨w.heap.size, 4, none⟩ = false := blk_frozen hz1 4
    have f65 : w1.frozen? ⟨w.heap.size, 5, none⟩ = false := blk_frozen hz1 5
    have f66 : w1.frozen? ⟨w.heap.size, 6, none⟩ = false := blk_frozen hz1 6
    simp only [zc] at c70 c71 c72 c73 c74 c75 c76 c60 c61 c62 c63 c64 c65 c66
    have Z1 := Aside0.mk hz1
    clear h7 h6 hz1 hz2
    go_wp2_with fail
    refine bodyPost_ret (results_single rfl (.cell w.heap.size 29 _ (0, 0) _ rfl (rv_end Z1.out _ _ _ _ _ _ _ _ _).1 Try.underlying29 rfl size29 .nil)) rfl ?_
    exact ⟨rv_ex HX.out (rv_end Z1.out _ _ _ _ _ _ _ _ _).2, rfl, _, _, _, rv_rat H1.out (rv_end Z1.out _ _ _ _ _ _ _ _ _).2 hg hlow⟩
  | some p =>
    obtain ⟨v, r⟩ := p
    go_enter Try.func21, Try.ntmps21
    go_wp2_with fail
    refine (hc.out _ HR0.out).mono ?_
    rintro e w1 ⟨hx, rfl, A1, c1, h1⟩
    obtain ⟨hz1, hz2⟩ := rv_after hx hg
    have HX := Aside0.mk (HX0.out.trans hx)
    have H1 := Aside0.mk h1
    clear hx h1
    have h7 : ∀ i, w1.cell? ⟨w.heap.size + 1, i, none⟩ = (zc 4)[i]? := fun i => blk_cell hz2 i
    have h6 : ∀ i, w1.cell? ⟨w.heap.size, i, none⟩ = (zc 0)[i]? := fun i => blk_cell hz1 i
    have c70 := h7 0; have c71 := h7 1; have c72 := h7 2; have c73 := h7 3; have c74 := h7 4; have c75 := h7 5; have c76 := h7 6
    have c60 := h6 0; have c61 := h6 1; have c62 := h6 2; have c63 := h6 3; have c64 := h6 4; have c65 := h6 5; have c66 := h6 6
    have f7 : w1.frozen? ⟨w.heap.size + 1, 5, none⟩ = false := blk_frozen hz2 5
    have f60 : w1.frozen? ⟨w.heap.size, 0, none⟩ = false := blk_frozen hz1 0
    have f61 : w1.frozen? ⟨w.heap.size, 1, none⟩ = false := blk_frozen hz1 1
    have f62 : w1.frozen? ⟨w.heap.size, 2, none⟩ = false := blk_frozen hz1 2
    have f63 : w1.frozen? ⟨w.heap.size, 3, none⟩ = false := blk_frozen hz1 3
    have f64 : w1.frozen? ⟨w.heap.size, 4, none⟩ = false := blk_frozen hz1 4
    have f65 : w1.frozen? ⟨w.heap.size, 5, none⟩ = false := blk_frozen hz1 5
    have f66 : w1.frozen? ⟨w.heap.size, 6, none⟩ = false := blk_frozen hz1 6
    simp only [zc] at c70 c71 c72 c73 c74 c75 c76 c60 c61 c62 c63 c64 c65 c66
    have Z1 := Aside0.mk hz1
    clear h7 h6 hz1 hz2
    go_wp2_with fail
    refine bodyPost_ret (results_single rfl (.cell w.heap.size 29 _ (0, 0) _ rfl (rv_end Z1.out _ _ _ _ _ _ _ _ _).1 Try.underlying29 rfl size29 .nil)) rfl ?_
    exact ⟨rv_ex HX.out (rv_end Z1.out _ _ _ _ _ _ _ _ _).2, rfl, _, _, rv_rat H1.out (rv_end Z1.out _ _ _ _ _ _ _ _ _).2 hg hlow⟩
set_option maxHeartbeats 1000000 in
set_option maxRecDepth 100000 in
theorem read_5 (b g : Nat) (A : Option Addr) (c : Nat) (xs : List Int) (f : Bool) (m : Int) (w : World) (hw : RAt w b g A c xs f) (o : Option (Int × List Int)) (z : Int)
    (hc : Aside0 (∀ W, RAt W b g A c xs f → Calls Try.prog 42 #[.pointer (some ⟨g, 0, none⟩), .int .i64 m] W (RPost b g W (o.map fun p => (.int .i64 p.1, p.2)) (.int .i64 z)))) :
    Calls Try.prog 21 #[.pointer (some ⟨g, 0, none⟩), .int .u8 5, .int .i64 m] w (RPost b g w (o.map fun p => (.agg #[.int .u8 5, .int .u64 0, .int .i64 0, .bool false, .slice none 0 0, .string ⟨#[]⟩, .int .i64 p.1], p.2)) (.agg #[.int .u8 5, .int .u64 0, .int .i64 0, .bool false, .slice none 0 0, .string ⟨#[]⟩, .int .i64 z])) := by
  have HW := Aside0.mk hw
  have hg := hw.lt
  have hlow := hw.low
  clear hw
  obtain ⟨hr0, hx0⟩ := rv_ready HW.out (.cells (zc 0) 29) (.cells (zc 5) 29)
  have HR0 := Aside0.mk hr0
  have HX0 := Aside0.mk hx0
  clear hr0 hx0
  cases o with
  | none =>
    go_enter Try.func21, Try.ntmps21
    go_wp2_with fail
    refine (hc.out _ HR0.out).mono ?_
    rintro e w1 ⟨hx, rfl, A1, c1, r1, h1⟩
    obtain ⟨hz1, hz2⟩ := rv_after hx hg
    have HX := Aside0.mk (HX0.out.trans hx)
    have H1 := Aside0.mk h1
    clear hx h1
    have h7 : ∀ i, w1.cell? ⟨w.heap.size + 1, i, none⟩ = (zc 5)[i]? := fun i => blk_cell hz2 i
    have h6 : ∀ i, w1.cell? ⟨w.heap.size, i, none⟩ = (zc 0)[i]? := fun i => blk_cell hz1 i
    have c70 := h7 0; have c71 := h7 1; have c72 := h7 2; have c73 := h7 3; have c74 := h7 4; have c75 := h7 5; have c76 := h7 6
    have c60 := h6 0; have c61 := h6 1; have c62 := h6 2; have c63 := h6 3; have c64 := h6 4; have c65 := h6 5; have c66 := h6 6
    have f7 : w1.frozen? ⟨w.heap.size + 1, 6, none⟩ = false := blk_frozen hz2 6
    have f60 : w1.frozen? ⟨w.heap.size, 0, none⟩ = false := blk_frozen hz1 0
    have f61 : w1.frozen? ⟨w.heap.size, 1, none⟩ = false := blk_frozen hz1 1
    have f62 : w1.frozen? ⟨w.heap.size, 2, none⟩ = false := blk_frozen hz1 2
    have f63 : w1.frozen? ⟨w.heap.size, 3, none⟩ = false := blk_frozen hz1 3
    have f64 : w1.frozen? ⟨w.heap.size, 4, none⟩ = false := blk_frozen hz1 4
    have f65 : w1.frozen? ⟨w.heap.size, 5, none⟩ = false := blk_frozen hz1 5
    have f66 : w1.frozen? ⟨w.heap.size, 6, none⟩ = false := blk_frozen hz1 6
    simp only [zc] at c70 c71 c72 c73 c74 c75 c76 c60 c61 c62 c63 c64 c65 c66
    have Z1 := Aside0.mk hz1
    clear h7 h6 hz1 hz2
    go_wp2_with fail
    refine bodyPost_ret (results_single rfl (.cell w.heap.size 29 _ (0, 0) _ rfl (rv_end Z1.out _ _ _ _ _ _ _ _ _).1 Try.underlying29 rfl size29 .nil)) rfl ?_
    exact ⟨rv_ex HX.out (rv_end Z1.out _ _ _ _ _ _ _ _ _).2, rfl, _, _, _, rv_rat H1.out (rv_end Z1.out _ _ _ _ _ _ _ _ _).2 hg hlow⟩
  | some p =>
    obtain ⟨v, r⟩ := p
    go_enter Try.func21, Try.ntmps21
    go_wp2_with fail
    refine (hc.out _ HR0.out).mono ?_
    rintro e w1 ⟨hx, rfl, A1, c1, h1⟩
    obtain ⟨hz1, hz2⟩ := rv_after hx hg
    have HX := Aside0.mk (HX0.out.trans hx)
    have H1 := Aside0.mk h1
    clear hx h1
    have h7 : ∀ i, w1.cell? ⟨w.heap.size + 1, i, none⟩ = (zc 5)[i]? := fun i => blk_cell hz2 i
    have h6 : ∀ i, w1.cell? ⟨w.heap.size, i, none⟩ = (zc 0)[i]? := fun i => blk_cell hz1 i
    have c70 := h7 0; have c71 := h7 1; have c72 := h7 2; have c73 := h7 3; have c74 := h7 4; have c75 := h7 5; have c76 := h7 6
    have c60 := h6 0; have c61 := h6 1; have c62 := h6 2; have c63 := h6 3; have c64 := h6 4; have c65 := h6 5; have c66 := h6 6
    have f7 : w1.frozen? ⟨w.heap.size + 1, 6, none⟩ = false := blk_frozen hz2 6
    have f60 : w1.frozen? ⟨w.heap.size, 0, none⟩ = false := blk_frozen hz1 0
    have f61 : w1.frozen? ⟨w.heap.size, 1, none⟩ = false := blk_frozen hz1 1
    have f62 : w1.frozen? ⟨w.heap.size, 2, none⟩ = false := blk_frozen hz1 2
    have f63 : w1.frozen? ⟨w.heap.size, 3, none⟩ = false := blk_frozen hz1 3
    have f64 : w1.frozen? ⟨w.heap.size, 4, none⟩ = false := blk_frozen hz1 4
    have f65 : w1.frozen? ⟨w.heap.size, 5, none⟩ = false := blk_frozen hz1 5
    have f66 : w1.frozen? ⟨w.heap.size, 6, none⟩ = false := blk_frozen hz1 6
    simp only [zc] at c70 c71 c72 c73 c74 c75 c76 c60 c61 c62 c63 c64 c65 c66
    have Z1 := Aside0.mk hz1
    clear h7 h6 hz1 hz2
    go_wp2_with fail
    refine bodyPost_ret (results_single rfl (.cell w.heap.size 29 _ (0, 0) _ rfl (rv_end Z1.out _ _ _ _ _ _ _ _ _).1 Try.underlying29 rfl size29 .nil)) rfl ?_
    exact ⟨rv_ex HX.out (rv_end Z1.out _ _ _ _ _ _ _ _ _).2, rfl, _, _, rv_rat H1.out (rv_end Z1.out _ _ _ _ _ _ _ _ _).2 hg hlow⟩
end Go.Proofs.Ytekbbpbpkekdhaa.Cod
