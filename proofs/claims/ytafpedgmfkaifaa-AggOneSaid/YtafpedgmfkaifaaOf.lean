/- What agg.Of does: the walk. -/
import Derived.Test.YtafpedgmfkaifaaAll
namespace Go.Proofs.Ytafpedgmfkaifaa.Given
open Go.RowKit Go.Proofs.Ytafpedgmfkaifaa.PBase Go.Proofs.YtafpedgmfkaifaaW.PrintWords Go.Proofs.YtafpedgmfkaifaaW.PrintLast Go.Proofs.YtafpedgmfkaifaaW.PrintMore
theorem info2 : (Try.prog.info? 2).map (fun i => (i.zero, i.size, i.bytes)) = some (some (.int .i64 0), 1, 8) := by kernel_rfl
def vals (l : List S30) : List Int := l.map (·.f1)
theorem vals_take {l : List S30} {k : Nat} (h : k < l.length) : vals (l.take (k + 1)) = vals (l.take k) ++ [(rd_T30 l (k : Int)).f1] := by
  unfold vals rd_T30
  rw [List.take_succ_eq_append_getElem h, List.map_append, Int.toNat_natCast, List.getD_eq_getElem?_getD, List.getElem?_eq_getElem h]; rfl
def allC : Array Value := #[.func (.func 17) #[] #[], .func (.func 18) #[] #[], .func (.func 19) #[] #[], .func (.func 20) #[] #[], .func (.func 21) #[] #[], .func (.func 22) #[] #[]]
theorem two_all (w : World) : ((w.alloc (.cells allC 33)).alloc (.cells allC 33)).heap[w.heap.size + 1]? = some (.cells allC 33 (0, 0)) := by
  show ((w.heap.push _).push _)[w.heap.size + 1]? = _
  rw [show w.heap.size + 1 = (w.heap.push (.cells allC 33 (0, 0))).size by rw [Array.size_push], Array.getElem?_push_size]
set_option maxHeartbeats 400000 in
set_option maxRecDepth 100000 in
theorem Of_0 (A : Option Addr) (c : Nat) (l : List S30) (v : Int) (z : Bool) (w : World) (hr : Kd.C k30 w A l.length l) (hl : l.length ≤ 100000) (hz : ((l.length : Int) == 0) = z)
    (h : Aside0 (∀ (B : Option Addr) (d : Nat) (W : World), (vals l).length ≤ d → Kd.C (Kd.int .i64) W B (vals l).length (vals l) → Calls Try.prog 17 #[.slice B (vals l).length d] W fun e w' => e = .returned (.int .i64 v) ∧ Below W.heap.size W w')) :
    Calls Try.prog 7 #[.int .u8 0, .slice A l.length c] w fun e w' => e = .returned (.tuple #[.int .i64 v, .bool true]) ∧ Below w.heap.size w w' := by
  have HR := Aside0.mk hr
  clear hr
  have HT := Aside0.mk (two_all w)
  have HB0 := Aside0.mk (((Below.refl w.heap.size w).alloc (Nat.le_refl _) (.cells allC 33)).alloc (by rw [World.size_alloc]; omega) (.cells allC 33))
  unfold allC at HT HB0
  cases z
  all_goals
    go_enter Try.func7, Try.ntmps7
    go_wp2_with fail
    refine (all_any w).mono ?_
    rintro e w1 ⟨rfl, rfl⟩
    go_wp2_with fail
    generalize ((w.alloc (.cells #[.func (.func 17) #[] #[], .func (.func 18) #[] #[], .func (.func 19) #[] #[], .func (.func 20) #[] #[], .func (.func 21) #[] #[], .func (.func 22) #[] #[]] 33)).alloc (.cells #[.func (.func 17) #[] #[], .func (.func 18) #[] #[], .func (.func 19) #[] #[], .func (.func 20) #[] #[], .func (.func 21) #[] #[], .func (.func 22) #[] #[]] 33)) = w2 at *
    have hlt2 := blk_lt HT.out
    go_loopw [7, 29] (fun v i wr => ∃ k : Nat, i = .int .i64 k ∧ k ≤ l.length ∧ Aside0 (Kd.R (Kd.int .i64) 2 wr w2.heap.size (fun _ => True) v (vals (l.take k))) ∧ Aside0 (Below w2.heap.size w2 wr)) (fun _ i _ => l.length - (intOf i).toNat)
    case atStart => exact ⟨0, rfl, Nat.zero_le _, ⟨Kd.R_nil _ _ _ _ _⟩, ⟨Below.refl _ _⟩⟩
    case round =>
      obtain ⟨k, rfl, hk, HO, HB⟩ := hrel
      by_cases hlt : k < l.length
      · obtain ⟨ad, e, hx0, hx1⟩ := at_T30 HR.out (k : Int) (by omega) (by omega)
        cases e
        have t : ∀ {p : Addr} {v : Value}, w.cell? p = some v → wr.cell? p = some v := fun {p v} h => (HB.out.cell (by have := World.block_lt_of_cell? w _ h; have := HB0.out.size; omega)).trans ((HB0.out.cell (World.block_lt_of_cell? w _ h)).trans h)
        replace hx0 := t hx0
        replace hx1 := t hx1
        simp only [Int.toNat_natCast] at hx0 hx1
        have HV := Aside0.mk (vals_take hlt)
        clear t
        obtain ⟨y, hy⟩ : ∃ y, y = vals (l.take k) ++ [(rd_T30 l (k : Int)).f1] := ⟨_, rfl⟩
        rw [← hy] at HV
        have HY := Aside0.mk hy
        have HLY := Aside0.mk (show (vals (l.take k)).length ≤ 100000 by unfold vals; rw [List.length_map, List.length_take]; omega)
        clear hy
        go_wp2_with (first | ((with_reducible refine gate_builtin (b := .append) (xs := #[.tmp 33, .tmp 36]) rfl ?_); at_builtin; (refine Kd.R_append (Kd.int .i64) (w0 := w2) w2.heap.size rfl (.tmp 33) (.tmp 36) 35 2 (.int .i64 0) 8 rfl Try.underlying35 info2 rfl (by decide) (by omega) u7 (vals (l.take k)) (rd_T30 l (k : Int)).f1 [.int .i64 (rd_T30 l (k : Int)).f1] (fun _ => True) (fun _ => False) rfl (by rw [World.size_alloc]; rfl) ?aP (fun _ hk => hk.elim) (fun _ _ => trivial) ?aO ?aB ?aS ?aL ?_; (case aP => rfl); (case aB => exact HB.out.alloc (below_size HB.out) _); (case aO => exact Kd.R_alloc HO.out _); (case aS => have := below_size HB.out; rw [World.size_alloc]; omega); (case aL => have := HLY.out; omega); intro v5 w5 ho hb hg hat; rw [← HY.out, ← HV.out] at ho; have HO5 := Aside0.mk ho; have HB5 := Aside0.mk hb; clear ho hb hg hat)))
        go_roundw
        case rel => exact ⟨k + 1, by go_num, by omega, HO5, HB5⟩
        case measure => simp [intOf]; omega
      · obtain rfl : k = l.length := by omega
        rw [List.take_length] at HO
        have hblk := HB.out.block _ hlt2
        have HF := Aside0.mk (hblk.trans HT.out)
        have c0 := blk_cell HF.out 0
        obtain ⟨A1, c1, rfl, hc1, hr1⟩ := Kd.R_reads HO.out
        have HR1 := Aside0.mk hr1
        clear hr1 hblk
        have HC := Aside0.mk (of_0 v A1 (vals l).length c1 wr ⟨h.out A1 c1 wr hc1 HR1.out⟩)
        go_wp2_with fail
        refine HC.out.mono ?_
        rintro e w6 ⟨rfl, hb6⟩
        have HB6 := Aside0.mk (HB0.out.trans ((HB.out.trans (hb6.mono (below_size HB.out))).mono HB0.out.size))
        clear hb6
        go_wp2_with fail
        go_ret2
        exact ⟨rfl, HB6.out⟩
set_option maxHeartbeats 400000 in
set_option maxRecDepth 100000 in
theorem Of_1 (A : Option Addr) (c : Nat) (l : List S30) (v : Int) (z : Bool) (w : World) (hr : Kd.C k30 w A l.length l) (hl : l.length ≤ 100000) (hz : ((l.length : Int) == 0) = z)
    (h : Aside0 (∀ (B : Option Addr) (d : Nat) (W : World), (vals l).length ≤ d → Kd.C (Kd.int .i64) W B (vals l).length (vals l) → Calls Try.prog 18 #[.slice B (vals l).length d] W fun e w' => e = .returned (.int .i64 v) ∧ Below W.heap.size W w')) :
    Calls Try.prog 7 #[.int .u8 1, .slice A l.length c] w fun e w' => e = .returned (.tuple #[.int .i64 v, .bool true]) ∧ Below w.heap.size w w' := by
  have HR := Aside0.mk hr
  clear hr
  have HT := Aside0.mk (two_all w)
  have HB0 := Aside0.mk (((Below.refl w.heap.size w).alloc (Nat.le_refl _) (.cells allC 33)).alloc (by rw [World.size_alloc]; omega) (.cells allC 33))
  unfold allC at HT HB0
  cases z
  all_goals
    go_enter Try.func7, Try.ntmps7
    go_wp2_with fail
    refine (all_any w).mono ?_
    rintro e w1 ⟨rfl, rfl⟩
    go_wp2_with fail
    generalize ((w.alloc (.cells #[.func (.func 17) #[] #[], .func (.func 18) #[] #[], .func (.func 19) #[] #[], .func (.func 20) #[] #[], .func (.func 21) #[] #[], .func (.func 22) #[] #[]] 33)).alloc (.cells #[.func (.func 17) #[] #[], .func (.func 18) #[] #[], .func (.func 19) #[] #[], .func (.func 20) #[] #[], .func (.func 21) #[] #[], .func (.func 22) #[] #[]] 33)) = w2 at *
    have hlt2 := blk_lt HT.out
    go_loopw [7, 29] (fun v i wr => ∃ k : Nat, i = .int .i64 k ∧ k ≤ l.length ∧ Aside0 (Kd.R (Kd.int .i64) 2 wr w2.heap.size (fun _ => True) v (vals (l.take k))) ∧ Aside0 (Below w2.heap.size w2 wr)) (fun _ i _ => l.length - (intOf i).toNat)
    case atStart => exact ⟨0, rfl, Nat.zero_le _, ⟨Kd.R_nil _ _ _ _ _⟩, ⟨Below.refl _ _⟩⟩
    case round =>
      obtain ⟨k, rfl, hk, HO, HB⟩ := hrel
      by_cases hlt : k < l.length
      · obtain ⟨ad, e, hx0, hx1⟩ := at_T30 HR.out (k : Int) (by omega) (by omega)
        cases e
        have t : ∀ {p : Addr} {v : Value}, w.cell? p = some v → wr.cell? p = some v := fun {p v} h => (HB.out.cell (by have := World.block_lt_of_cell? w _ h; have := HB0.out.size; omega)).trans ((HB0.out.cell (World.block_lt_of_cell? w _ h)).trans h)
        replace hx0 := t hx0
        replace hx1 := t hx1
        simp only [Int.toNat_natCast] at hx0 hx1
        have HV := Aside0.mk (vals_take hlt)
        clear t
        obtain ⟨y, hy⟩ : ∃ y, y = vals (l.take k) ++ [(rd_T30 l (k : Int)).f1] := ⟨_, rfl⟩
        rw [← hy] at HV
        have HY := Aside0.mk hy
        have HLY := Aside0.mk (show (vals (l.take k)).length ≤ 100000 by unfold vals; rw [List.length_map, List.length_take]; omega)
        clear hy
        go_wp2_with (first | ((with_reducible refine gate_builtin (b := .append) (xs := #[.tmp 33, .tmp 36]) rfl ?_); at_builtin; (refine Kd.R_append (Kd.int .i64) (w0 := w2) w2.heap.size rfl (.tmp 33) (.tmp 36) 35 2 (.int .i64 0) 8 rfl Try.underlying35 info2 rfl (by decide) (by omega) u7 (vals (l.take k)) (rd_T30 l (k : Int)).f1 [.int .i64 (rd_T30 l (k : Int)).f1] (fun _ => True) (fun _ => False) rfl (by rw [World.size_alloc]; rfl) ?aP (fun _ hk => hk.elim) (fun _ _ => trivial) ?aO ?aB ?aS ?aL ?_; (case aP => rfl); (case aB => exact HB.out.alloc (below_size HB.out) _); (case aO => exact Kd.R_alloc HO.out _); (case aS => have := below_size HB.out; rw [World.size_alloc]; omega); (case aL => have := HLY.out; omega); intro v5 w5 ho hb hg hat; rw [← HY.out, ← HV.out] at ho; have HO5 := Aside0.mk ho; have HB5 := Aside0.mk hb; clear ho hb hg hat)))
        go_roundw
        case rel => exact ⟨k + 1, by go_num, by omega, HO5, HB5⟩
        case measure => simp [intOf]; omega
      · obtain rfl : k = l.length := by omega
        rw [List.take_length] at HO
        have hblk := HB.out.block _ hlt2
        have HF := Aside0.mk (hblk.trans HT.out)
        have c0 := blk_cell HF.out 1
        obtain ⟨A1, c1, rfl, hc1, hr1⟩ := Kd.R_reads HO.out
        have HR1 := Aside0.mk hr1
        clear hr1 hblk
        have HC := Aside0.mk (of_1 v A1 (vals l).length c1 wr ⟨h.out A1 c1 wr hc1 HR1.out⟩)
        go_wp2_with fail
        refine HC.out.mono ?_
        rintro e w6 ⟨rfl, hb6⟩
        have HB6 := Aside0.mk (HB0.out.trans ((HB.out.trans (hb6.mono (below_size HB.out))).mono HB0.out.size))
        clear hb6
        go_wp2_with fail
        go_ret2
        exact ⟨rfl, HB6.out⟩
set_option maxHeartbeats 400000 in
set_option maxRecDepth 100000 in
theorem Of_2 (A : Option Addr) (c : Nat) (l : List S30) (v : Int) (w : World) (hr : Kd.C k30 w A l.length l) (hl : l.length ≤ 100000) (hz : ((l.length : Int) == 0) = false)
    (h : Aside0 (∀ (B : Option Addr) (d : Nat) (W : World), (vals l).length ≤ d → Kd.C (Kd.int .i64) W B (vals l).length (vals l) → Calls Try.prog 19 #[.slice B (vals l).length d] W fun e w' => e = .returned (.int .i64 v) ∧ Below W.heap.size W w')) :
    Calls Try.prog 7 #[.int .u8 2, .slice A l.length c] w fun e w' => e = .returned (.tuple #[.int .i64 v, .bool true]) ∧ Below w.heap.size w w' := by
  have HR := Aside0.mk hr
  clear hr
  have HT := Aside0.mk (two_all w)
  have HB0 := Aside0.mk (((Below.refl w.heap.size w).alloc (Nat.le_refl _) (.cells allC 33)).alloc (by rw [World.size_alloc]; omega) (.cells allC 33))
  unfold allC at HT HB0
  skip
  all_goals
    go_enter Try.func7, Try.ntmps7
    go_wp2_with fail
    refine (all_any w).mono ?_
    rintro e w1 ⟨rfl, rfl⟩
    go_wp2_with fail
    generalize ((w.alloc (.cells #[.func (.func 17) #[] #[], .func (.func 18) #[] #[], .func (.func 19) #[] #[], .func (.func 20) #[] #[], .func (.func 21) #[] #[], .func (.func 22) #[] #[]] 33)).alloc (.cells #[.func (.func 17) #[] #[], .func (.func 18) #[] #[], .func (.func 19) #[] #[], .func (.func 20) #[] #[], .func (.func 21) #[] #[], .func (.func 22) #[] #[]] 33)) = w2 at *
    have hlt2 := blk_lt HT.out
    go_loopw [7, 29] (fun v i wr => ∃ k : Nat, i = .int .i64 k ∧ k ≤ l.length ∧ Aside0 (Kd.R (Kd.int .i64) 2 wr w2.heap.size (fun _ => True) v (vals (l.take k))) ∧ Aside0 (Below w2.heap.size w2 wr)) (fun _ i _ => l.length - (intOf i).toNat)
    case atStart => exact ⟨0, rfl, Nat.zero_le _, ⟨Kd.R_nil _ _ _ _ _⟩, ⟨Below.refl _ _⟩⟩
    case round =>
      obtain ⟨k, rfl, hk, HO, HB⟩ := hrel
      by_cases hlt : k < l.length
      · obtain ⟨ad, e, hx0, hx1⟩ := at_T30 HR.out (k : Int) (by omega) (by omega)
        cases e
        have t : ∀ {p : Addr} {v : Value}, w.cell? p = some v → wr.cell? p = some v := fun {p v} h => (HB.out.cell (by have := World.block_lt_of_cell? w _ h; have := HB0.out.size; omega)).trans ((HB0.out.cell (World.block_lt_of_cell? w _ h)).trans h)
        replace hx0 := t hx0
        replace hx1 := t hx1
        simp only [Int.toNat_natCast] at hx0 hx1
        have HV := Aside0.mk (vals_take hlt)
        clear t
        obtain ⟨y, hy⟩ : ∃ y, y = vals (l.take k) ++ [(rd_T30 l (k : Int)).f1] := ⟨_, rfl⟩
        rw [← hy] at HV
        have HY := Aside0.mk hy
        have HLY := Aside0.mk (show (vals (l.take k)).length ≤ 100000 by unfold vals; rw [List.length_map, List.length_take]; omega)
        clear hy
        go_wp2_with (first | ((with_reducible refine gate_builtin (b := .append) (xs := #[.tmp 33, .tmp 36]) rfl ?_); at_builtin; (refine Kd.R_append (Kd.int .i64) (w0 := w2) w2.heap.size rfl (.tmp 33) (.tmp 36) 35 2 (.int .i64 0) 8 rfl Try.underlying35 info2 rfl (by decide) (by omega) u7 (vals (l.take k)) (rd_T30 l (k : Int)).f1 [.int .i64 (rd_T30 l (k : Int)).f1] (fun _ => True) (fun _ => False) rfl (by rw [World.size_alloc]; rfl) ?aP (fun _ hk => hk.elim) (fun _ _ => trivial) ?aO ?aB ?aS ?aL ?_; (case aP => rfl); (case aB => exact HB.out.alloc (below_size HB.out) _); (case aO => exact Kd.R_alloc HO.out _); (case aS => have := below_size HB.out; rw [World.size_alloc]; omega); (case aL => have := HLY.out; omega); intro v5 w5 ho hb hg hat; rw [← HY.out, ← HV.out] at ho; have HO5 := Aside0.mk ho; have HB5 := Aside0.mk hb; clear ho hb hg hat)))
        go_roundw
        case rel => exact ⟨k + 1, by go_num, by omega, HO5, HB5⟩
        case measure => simp [intOf]; omega
      · obtain rfl : k = l.length := by omega
        rw [List.take_length] at HO
        have hblk := HB.out.block _ hlt2
        have HF := Aside0.mk (hblk.trans HT.out)
        have c0 := blk_cell HF.out 2
        obtain ⟨A1, c1, rfl, hc1, hr1⟩ := Kd.R_reads HO.out
        have HR1 := Aside0.mk hr1
        clear hr1 hblk
        have HC := Aside0.mk (of_2 v A1 (vals l).length c1 wr ⟨h.out A1 c1 wr hc1 HR1.out⟩)
        go_wp2_with fail
        refine HC.out.mono ?_
        rintro e w6 ⟨rfl, hb6⟩
        have HB6 := Aside0.mk (HB0.out.trans ((HB.out.trans (hb6.mono (below_size HB.out))).mono HB0.out.size))
        clear hb6
        go_wp2_with fail
        go_ret2
        exact ⟨rfl, HB6.out⟩
set_option maxHeartbeats 400000 in
set_option maxRecDepth 100000 in
theorem Of_3 (A : Option Addr) (c : Nat) (l : List S30) (v : Int) (w : World) (hr : Kd.C k30 w A l.length l) (hl : l.length ≤ 100000) (hz : ((l.length : Int) == 0) = false)
    (h : Aside0 (∀ (B : Option Addr) (d : Nat) (W : World), (vals l).length ≤ d → Kd.C (Kd.int .i64) W B (vals l).length (vals l) → Calls Try.prog 20 #[.slice B (vals l).length d] W fun e w' => e = .returned (.int .i64 v) ∧ Below W.heap.size W w')) :
    Calls Try.prog 7 #[.int .u8 3, .slice A l.length c] w fun e w' => e = .returned (.tuple #[.int .i64 v, .bool true]) ∧ Below w.heap.size w w' := by
  have HR := Aside0.mk hr
  clear hr
  have HT := Aside0.mk (two_all w)
  have HB0 := Aside0.mk (((Below.refl w.heap.size w).alloc (Nat.le_refl _) (.cells allC 33)).alloc (by rw [World.size_alloc]; omega) (.cells allC 33))
  unfold allC at HT HB0
  skip
  all_goals
    go_enter Try.func7, Try.ntmps7
    go_wp2_with fail
    refine (all_any w).mono ?_
    rintro e w1 ⟨rfl, rfl⟩
    go_wp2_with fail
    generalize ((w.alloc (.cells #[.func (.func 17) #[] #[], .func (.func 18) #[] #[], .func (.func 19) #[] #[], .func (.func 20) #[] #[], .func (.func 21) #[] #[], .func (.func 22) #[] #[]] 33)).alloc (.cells #[.func (.func 17) #[] #[], .func (.func 18) #[] #[], .func (.func 19) #[] #[], .func (.func 20) #[] #[], .func (.func 21) #[] #[], .func (.func 22) #[] #[]] 33)) = w2 at *
    have hlt2 := blk_lt HT.out
    go_loopw [7, 29] (fun v i wr => ∃ k : Nat, i = .int .i64 k ∧ k ≤ l.length ∧ Aside0 (Kd.R (Kd.int .i64) 2 wr w2.heap.size (fun _ => True) v (vals (l.take k))) ∧ Aside0 (Below w2.heap.size w2 wr)) (fun _ i _ => l.length - (intOf i).toNat)
    case atStart => exact ⟨0, rfl, Nat.zero_le _, ⟨Kd.R_nil _ _ _ _ _⟩, ⟨Below.refl _ _⟩⟩
    case round =>
      obtain ⟨k, rfl, hk, HO, HB⟩ := hrel
      by_cases hlt : k < l.length
      · obtain ⟨ad, e, hx0, hx1⟩ := at_T30 HR.out (k : Int) (by omega) (by omega)
        cases e
        have t : ∀ {p : Addr} {v : Value}, w.cell? p = some v → wr.cell? p = some v := fun {p v} h => (HB.out.cell (by have := World.block_lt_of_cell? w _ h; have := HB0.out.size; omega)).trans ((HB0.out.cell (World.block_lt_of_cell? w _ h)).trans h)
        replace hx0 := t hx0
        replace hx1 := t hx1
        simp only [Int.toNat_natCast] at hx0 hx1
        have HV := Aside0.mk (vals_take hlt)
        clear t
        obtain ⟨y, hy⟩ : ∃ y, y = vals (l.take k) ++ [(rd_T30 l (k : Int)).f1] := ⟨_, rfl⟩
        rw [← hy] at HV
        have HY := Aside0.mk hy
        have HLY := Aside0.mk (show (vals (l.take k)).length ≤ 100000 by unfold vals; rw [List.length_map, List.length_take]; omega)
        clear hy
        go_wp2_with (first | ((with_reducible refine gate_builtin (b := .append) (xs := #[.tmp 33, .tmp 36]) rfl ?_); at_builtin; (refine Kd.R_append (Kd.int .i64) (w0 := w2) w2.heap.size rfl (.tmp 33) (.tmp 36) 35 2 (.int .i64 0) 8 rfl Try.underlying35 info2 rfl (by decide) (by omega) u7 (vals (l.take k)) (rd_T30 l (k : Int)).f1 [.int .i64 (rd_T30 l (k : Int)).f1] (fun _ => True) (fun _ => False) rfl (by rw [World.size_alloc]; rfl) ?aP (fun _ hk => hk.elim) (fun _ _ => trivial) ?aO ?aB ?aS ?aL ?_; (case aP => rfl); (case aB => exact HB.out.alloc (below_size HB.out) _); (case aO => exact Kd.R_alloc HO.out _); (case aS => have := below_size HB.out; rw [World.size_alloc]; omega); (case aL => have := HLY.out; omega); intro v5 w5 ho hb hg hat; rw [← HY.out, ← HV.out] at ho; have HO5 := Aside0.mk ho; have HB5 := Aside0.mk hb; clear ho hb hg hat)))
        go_roundw
        case rel => exact ⟨k + 1, by go_num, by omega, HO5, HB5⟩
        case measure => simp [intOf]; omega
      · obtain rfl : k = l.length := by omega
        rw [List.take_length] at HO
        have hblk := HB.out.block _ hlt2
        have HF := Aside0.mk (hblk.trans HT.out)
        have c0 := blk_cell HF.out 3
        obtain ⟨A1, c1, rfl, hc1, hr1⟩ := Kd.R_reads HO.out
        have HR1 := Aside0.mk hr1
        clear hr1 hblk
        have HC := Aside0.mk (of_3 v A1 (vals l).length c1 wr ⟨h.out A1 c1 wr hc1 HR1.out⟩)
        go_wp2_with fail
        refine HC.out.mono ?_
        rintro e w6 ⟨rfl, hb6⟩
        have HB6 := Aside0.mk (HB0.out.trans ((HB.out.trans (hb6.mono (below_size HB.out))).mono HB0.out.size))
        clear hb6
        go_wp2_with fail
        go_ret2
        exact ⟨rfl, HB6.out⟩
set_option maxHeartbeats 400000 in
set_option maxRecDepth 100000 in
theorem Of_4 (A : Option Addr) (c : Nat) (l : List S30) (v : Int) (w : World) (hr : Kd.C k30 w A l.length l) (hl : l.length ≤ 100000) (hz : ((l.length : Int) == 0) = false)
    (h : Aside0 (∀ (B : Option Addr) (d : Nat) (W : World), (vals l).length ≤ d → Kd.C (Kd.int .i64) W B (vals l).length (vals l) → Calls Try.prog 21 #[.slice B (vals l).length d] W fun e w' => e = .returned (.int .i64 v) ∧ Below W.heap.size W w')) :
    Calls Try.prog 7 #[.int .u8 4, .slice A l.length c] w fun e w' => e = .returned (.tuple #[.int .i64 v, .bool true]) ∧ Below w.heap.size w w' := by
  have HR := Aside0.mk hr
  clear hr
  have HT := Aside0.mk (two_all w)
  have HB0 := Aside0.mk (((Below.refl w.heap.size w).alloc (Nat.le_refl _) (.cells allC 33)).alloc (by rw [World.size_alloc]; omega) (.cells allC 33))
  unfold allC at HT HB0
  skip
  all_goals
    go_enter Try.func7, Try.ntmps7
    go_wp2_with fail
    refine (all_any w).mono ?_
    rintro e w1 ⟨rfl, rfl⟩
    go_wp2_with fail
    generalize ((w.alloc (.cells #[.func (.func 17) #[] #[], .func (.func 18) #[] #[], .func (.func 19) #[] #[], .func (.func 20) #[] #[], .func (.func 21) #[] #[], .func (.func 22) #[] #[]] 33)).alloc (.cells #[.func (.func 17) #[] #[], .func (.func 18) #[] #[], .func (.func 19) #[] #[], .func (.func 20) #[] #[], .func (.func 21) #[] #[], .func (.func 22) #[] #[]] 33)) = w2 at *
    have hlt2 := blk_lt HT.out
    go_loopw [7, 29] (fun v i wr => ∃ k : Nat, i = .int .i64 k ∧ k ≤ l.length ∧ Aside0 (Kd.R (Kd.int .i64) 2 wr w2.heap.size (fun _ => True) v (vals (l.take k))) ∧ Aside0 (Below w2.heap.size w2 wr)) (fun _ i _ => l.length - (intOf i).toNat)
    case atStart => exact ⟨0, rfl, Nat.zero_le _, ⟨Kd.R_nil _ _ _ _ _⟩, ⟨Below.refl _ _⟩⟩
    case round =>
      obtain ⟨k, rfl, hk, HO, HB⟩ := hrel
      by_cases hlt : k < l.length
      · obtain ⟨ad, e, hx0, hx1⟩ := at_T30 HR.out (k : Int) (by omega) (by omega)
        cases e
        have t : ∀ {p : Addr} {v : Value}, w.cell? p = some v → wr.cell? p = some v := fun {p v} h => (HB.out.cell (by have := World.block_lt_of_cell? w _ h; have := HB0.out.size; omega)).trans ((HB0.out.cell (World.block_lt_of_cell? w _ h)).trans h)
        replace hx0 := t hx0
        replace hx1 := t hx1
        simp only [Int.toNat_natCast] at hx0 hx1
        have HV := Aside0.mk (vals_take hlt)
        clear t
        obtain ⟨y, hy⟩ : ∃ y, y = vals (l.take k) ++ [(rd_T30 l (k : Int)).f1] := ⟨_, rfl⟩
        rw [← hy] at HV
        have HY := Aside0.mk hy
        have HLY := Aside0.mk (show (vals (l.take k)).length ≤ 100000 by unfold vals; rw [List.length_map, List.length_take]; omega)
        clear hy
        go_wp2_with (first | ((with_reducible refine gate_builtin (b := .append) (xs := #[.tmp 33, .tmp 36]) rfl ?_); at_builtin; (refine Kd.R_append (Kd.int .i64) (w0 := w2) w2.heap.size rfl (.tmp 33) (.tmp 36) 35 2 (.int .i64 0) 8 rfl Try.underlying35 info2 rfl (by decide) (by omega) u7 (vals (l.take k)) (rd_T30 l (k : Int)).f1 [.int .i64 (rd_T30 l (k : Int)).f1] (fun _ => True) (fun _ => False) rfl (by rw [World.size_alloc]; rfl) ?aP (fun _ hk => hk.elim) (fun _ _ => trivial) ?aO ?aB ?aS ?aL ?_; (case aP => rfl); (case aB => exact HB.out.alloc (below_size HB.out) _); (case aO => exact Kd.R_alloc HO.out _); (case aS => have := below_size HB.out; rw [World.size_alloc]; omega); (case aL => have := HLY.out; omega); intro v5 w5 ho hb hg hat; rw [← HY.out, ← HV.out] at ho; have HO5 := Aside0.mk ho; have HB5 := Aside0.mk hb; clear ho hb hg hat)))
        go_roundw
        case rel => exact ⟨k + 1, by go_num, by omega, HO5, HB5⟩
        case measure => simp [intOf]; omega
      · obtain rfl : k = l.length := by omega
        rw [List.take_length] at HO
        have hblk := HB.out.block _ hlt2
        have HF := Aside0.mk (hblk.trans HT.out)
        have c0 := blk_cell HF.out 4
        obtain ⟨A1, c1, rfl, hc1, hr1⟩ := Kd.R_reads HO.out
        have HR1 := Aside0.mk hr1
        clear hr1 hblk
        have HC := Aside0.mk (of_4 v A1 (vals l).length c1 wr ⟨h.out A1 c1 wr hc1 HR1.out⟩)
        go_wp2_with fail
        refine HC.out.mono ?_
        rintro e w6 ⟨rfl, hb6⟩
        have HB6 := Aside0.mk (HB0.out.trans ((HB.out.trans (hb6.mono (below_size HB.out))).mono HB0.out.size))
        clear hb6
        go_wp2_with fail
        go_ret2
        exact ⟨rfl, HB6.out⟩
set_option maxHeartbeats 400000 in
set_option maxRecDepth 100000 in
theorem Of_5 (A : Option Addr) (c : Nat) (l : List S30) (v : Int) (w : World) (hr : Kd.C k30 w A l.length l) (hl : l.length ≤ 100000) (hz : ((l.length : Int) == 0) = false)
    (h : Aside0 (∀ (B : Option Addr) (d : Nat) (W : World), (vals l).length ≤ d → Kd.C (Kd.int .i64) W B (vals l).length (vals l) → Calls Try.prog 22 #[.slice B (vals l).length d] W fun e w' => e = .returned (.int .i64 v) ∧ Below W.heap.size W w')) :
    Calls Try.prog 7 #[.int .u8 5, .slice A l.length c] w fun e w' => e = .returned (.tuple #[.int .i64 v, .bool true]) ∧ Below w.heap.size w w' := by
  have HR := Aside0.mk hr
  clear hr
  have HT := Aside0.mk (two_all w)
  have HB0 := Aside0.mk (((Below.refl w.heap.size w).alloc (Nat.le_refl _) (.cells allC 33)).alloc (by rw [World.size_alloc]; omega) (.cells allC 33))
  unfold allC at HT HB0
  skip
  all_goals
    go_enter Try.func7, Try.ntmps7
    go_wp2_with fail
    refine (all_any w).mono ?_
    rintro e w1 ⟨rfl, rfl⟩
    go_wp2_with fail
    generalize ((w.alloc (.cells #[.func (.func 17) #[] #[], .func (.func 18) #[] #[], .func (.func 19) #[] #[], .func (.func 20) #[] #[], .func (.func 21) #[] #[], .func (.func 22) #[] #[]] 33)).alloc (.cells #[.func (.func 17) #[] #[], .func (.func 18) #[] #[], .func (.func 19) #[] #[], .func (.func 20) #[] #[], .func (.func 21) #[] #[], .func (.func 22) #[] #[]] 33)) = w2 at *
    have hlt2 := blk_lt HT.out
    go_loopw [7, 29] (fun v i wr => ∃ k : Nat, i = .int .i64 k ∧ k ≤ l.length ∧ Aside0 (Kd.R (Kd.int .i64) 2 wr w2.heap.size (fun _ => True) v (vals (l.take k))) ∧ Aside0 (Below w2.heap.size w2 wr)) (fun _ i _ => l.length - (intOf i).toNat)
    case atStart => exact ⟨0, rfl, Nat.zero_le _, ⟨Kd.R_nil _ _ _ _ _⟩, ⟨Below.refl _ _⟩⟩
    case round =>
      obtain ⟨k, rfl, hk, HO, HB⟩ := hrel
      by_cases hlt : k < l.length
      · obtain ⟨ad, e, hx0, hx1⟩ := at_T30 HR.out (k : Int) (by omega) (by omega)
        cases e
        have t : ∀ {p : Addr} {v : Value}, w.cell? p = some v → wr.cell? p = some v := fun {p v} h => (HB.out.cell (by have := World.block_lt_of_cell? w _ h; have := HB0.out.size; omega)).trans ((HB0.out.cell (World.block_lt_of_cell? w _ h)).trans h)
        replace hx0 := t hx0
        replace hx1 := t hx1
        simp only [Int.toNat_natCast] at hx0 hx1
        have HV := Aside0.mk (vals_take hlt)
        clear t
        obtain ⟨y, hy⟩ : ∃ y, y = vals (l.take k) ++ [(rd_T30 l (k : Int)).f1] := ⟨_, rfl⟩
        rw [← hy] at HV
        have HY := Aside0.mk hy
        have HLY := Aside0.mk (show (vals (l.take k)).length ≤ 100000 by unfold vals; rw [List.length_map, List.length_take]; omega)
        clear hy
        go_wp2_with (first | ((with_reducible refine gate_builtin (b := .append) (xs := #[.tmp 33, .tmp 36]) rfl ?_); at_builtin; (refine Kd.R_append (Kd.int .i64) (w0 := w2) w2.heap.size rfl (.tmp 33) (.tmp 36) 35 2 (.int .i64 0) 8 rfl Try.underlying35 info2 rfl (by decide) (by omega) u7 (vals (l.take k)) (rd_T30 l (k : Int)).f1 [.int .i64 (rd_T30 l (k : Int)).f1] (fun _ => True) (fun _ => False) rfl (by rw [World.size_alloc]; rfl) ?aP (fun _ hk => hk.elim) (fun _ _ => trivial) ?aO ?aB ?aS ?aL ?_; (case aP => rfl); (case aB => exact HB.out.alloc (below_size HB.out) _); (case aO => exact Kd.R_alloc HO.out _); (case aS => have := below_size HB.out; rw [World.size_alloc]; omega); (case aL => have := HLY.out; omega); intro v5 w5 ho hb hg hat; rw [← HY.out, ← HV.out] at ho; have HO5 := Aside0.mk ho; have HB5 := Aside0.mk hb; clear ho hb hg hat)))
        go_roundw
        case rel => exact ⟨k + 1, by go_num, by omega, HO5, HB5⟩
        case measure => simp [intOf]; omega
      · obtain rfl : k = l.length := by omega
        rw [List.take_length] at HO
        have hblk := HB.out.block _ hlt2
        have HF := Aside0.mk (hblk.trans HT.out)
        have c0 := blk_cell HF.out 5
        obtain ⟨A1, c1, rfl, hc1, hr1⟩ := Kd.R_reads HO.out
        have HR1 := Aside0.mk hr1
        clear hr1 hblk
        have HC := Aside0.mk (of_5 v A1 (vals l).length c1 wr ⟨h.out A1 c1 wr hc1 HR1.out⟩)
        go_wp2_with fail
        refine HC.out.mono ?_
        rintro e w6 ⟨rfl, hb6⟩
        have HB6 := Aside0.mk (HB0.out.trans ((HB.out.trans (hb6.mono (below_size HB.out))).mono HB0.out.size))
        clear hb6
        go_wp2_with fail
        go_ret2
        exact ⟨rfl, HB6.out⟩
set_option maxHeartbeats 400000 in
set_option maxRecDepth 100000 in
theorem Of_big (A : Option Addr) (c : Nat) (l : List S30) (a : Int) (w : World) (ha : 6 ≤ a) (ha2 : a < 256) :
    Calls Try.prog 7 #[.int .u8 a, .slice A l.length c] w fun e w' => e = .returned (.tuple #[.int .i64 0, .bool false]) ∧ Below w.heap.size w w' := by
  have HB0 := Aside0.mk (((Below.refl w.heap.size w).alloc (Nat.le_refl _) (.cells allC 33)).alloc (by rw [World.size_alloc]; omega) (.cells allC 33))
  unfold allC at HB0
  have hd : decide (6 ≤ a) = true := decide_eq_true ha
  go_enter Try.func7, Try.ntmps7
  go_wp2_with fail
  refine (all_any w).mono ?_
  rintro e w1 ⟨rfl, rfl⟩
  go_wp2_with fail
  go_ret2
  exact ⟨rfl, HB0.out⟩
set_option maxHeartbeats 400000 in
set_option maxRecDepth 100000 in
theorem Of_nil (A : Option Addr) (c : Nat) (a : Int) (w : World) (ha : 2 ≤ a) (ha2 : a < 6) :
    Calls Try.prog 7 #[.int .u8 a, .slice A 0 c] w fun e w' => e = .returned (.tuple #[.int .i64 0, .bool false]) ∧ Below w.heap.size w w' := by
  have HB0 := Aside0.mk (((Below.refl w.heap.size w).alloc (Nat.le_refl _) (.cells allC 33)).alloc (by rw [World.size_alloc]; omega) (.cells allC 33))
  unfold allC at HB0
  rcases (show a = 2 ∨ a = 3 ∨ a = 4 ∨ a = 5 by omega) with rfl | rfl | rfl | rfl
  all_goals
    go_enter Try.func7, Try.ntmps7
    go_wp2_with fail
    refine (all_any w).mono ?_
    rintro e w1 ⟨rfl, rfl⟩
    go_wp2_with fail
    go_ret2
    exact ⟨rfl, HB0.out⟩
end Go.Proofs.Ytafpedgmfkaifaa.Given
