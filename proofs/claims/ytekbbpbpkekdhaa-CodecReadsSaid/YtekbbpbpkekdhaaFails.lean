/- What CodecFails does: the walk. -/
import Derived.Test.YtekbbpbpkekdhaaRw
import Derived.Test.YtekbbpbpkekdhaaOpenA
import Derived.Test.YtekbbpbpkekdhaaSigns
namespace Go.Proofs.Ytekbbpbpkekdhaa.Given
open Go.RowKit Go.Proofs.Ytekbbpbpkekdhaa.Cod Go.Proofs.Ytekbbpbpkekdhaa.Ex Go.Proofs.Ytekbbpbpkekdhaa.PBase Go.Proofs.Ytekbbpbpkekdhaa.OpenS Go.Proofs.YtekbbpbpkekdhaaW.PrintWords Go.Proofs.YtekbbpbpkekdhaaW.PrintLast Go.Proofs.YtekbbpbpkekdhaaW.PrintMore
theorem rdB_isB {xs : List Int} {v : Bool} {r : List Int} (hx : isB xs) (h : rdB xs = some (v, r)) : isB r := by
  cases xs with
  | nil => cases h
  | cons x t =>
    have h' : (if 1 < x then none else some (x == 1, t)) = some (v, r) := h
    split at h'
    · cases h'
    · cases h'; exact fun y hy => hx y (List.mem_cons_of_mem _ hy)
theorem rdU_isB {xs : List Int} {n : Nat} {r : List Int} (hx : isB xs) (h : rdU 10 0 0 xs = some (n, r)) : isB r := by
  have := (rdU_some hx h).1
  rw [this] at hx; exact isB_right hx
theorem rdY_isB {xs l r : List Int} (hx : isB xs) (h : rdY xs = some (l, r)) : isB r := by
  unfold rdY at h
  cases hU : rdU 10 0 0 xs with
  | none => rw [hU] at h; cases h
  | some p =>
    obtain ⟨n, t⟩ := p
    rw [hU] at h
    have h' : (if n ≤ t.length then some (t.take n, t.drop n) else none) = some (l, r) := h
    split at h'
    · cases h'; exact fun y hy => rdU_isB hx hU y (List.mem_of_mem_drop hy)
    · cases h'
theorem rdL_isB {m : Int} {xs : List Int} {n : Nat} {r : List Int} (hx : isB xs) (h : rdL m xs = some (n, r)) : isB r := by
  unfold rdL at h
  cases hU : rdU 10 0 0 xs with
  | none => rw [hU] at h; cases h
  | some p =>
    obtain ⟨n', t⟩ := p
    rw [hU] at h
    have h' : (if 0 ≤ m ∧ (n' : Int) ≤ m then some (n', t) else none) = some (n, r) := h
    split at h'
    · cases h'; exact rdU_isB hx hU
    · cases h'
theorem map_some_snd {α β : Type} {o : Option (α × List Int)} {F : α × List Int → β × List Int} {x : β} {r : List Int} (h : o.map F = some (x, r)) (hF : ∀ p, (F p).2 = p.2) : ∃ v, o = some (v, r) := by
  cases o with
  | none => cases h
  | some p =>
    have h' : F p = (x, r) := Option.some.inj h
    have := hF p
    rw [h'] at this
    exact ⟨p.1, by rw [show r = p.2 from this]⟩
theorem dec_isB {k m : Int} {xs : List Int} {f : Bool} {x : S29} {r : List Int} (hx : f = false → isB xs) (h : dec k m xs f = some (x, r)) : f = false ∧ isB r := by
  cases f with
  | true => cases h
  | false =>
    refine ⟨rfl, ?_⟩
    have hx := hx rfl
    have h' : decS k m xs = some (x, r) := h
    unfold decS at h'
    split at h'
    · obtain ⟨v, hv⟩ := map_some_snd h' (fun _ => rfl); exact rdU_isB hx hv
    split at h'
    · obtain ⟨v, hv⟩ := map_some_snd h' (fun _ => rfl); exact rdU_isB hx hv
    split at h'
    · obtain ⟨v, hv⟩ := map_some_snd h' (fun _ => rfl); exact rdB_isB hx hv
    split at h'
    · obtain ⟨v, hv⟩ := map_some_snd h' (fun _ => rfl); exact rdY_isB hx hv
    split at h'
    · obtain ⟨v, hv⟩ := map_some_snd h' (fun _ => rfl); exact rdY_isB hx hv
    · obtain ⟨v, hv⟩ := map_some_snd h' (fun _ => rfl); exact rdL_isB hx hv
/-- Same, of values. -/
theorem same6 {w W : World} (hB : Below w.heap.size w W) {x y : S29} {A B : Option Addr} {c d : Nat} (h0 : Kd.C (Kd.int .u8) w A x.f4.length x.f4) (hc : x.f4.length ≤ c) (h1 : Kd.C (Kd.int .u8) w B y.f4.length y.f4) (hd : y.f4.length ≤ d) (he : x = y) (hl : x.f4.length ≤ 4611686018427387904) :
    Calls Try.prog 22 #[aggS x A c, aggS y B d] W fun e w' => e = .returned (.bool true) ∧ Below w.heap.size w w' := by
  subst he
  refine (tocsinref06_Same.calls (x.f4.length + 1) x.f0 x.f1 x.f2 x.f3 A c x.f4 x.f5 x.f6 x.f0 x.f1 x.f2 x.f3 B d x.f4 x.f5 x.f6 true W (Kd.C_below h0 hB) hc (Kd.C_below h1 hB) hd ?_).mono ?_
  · unfold tocsinref06_Same.f
    rw [if_pos rfl, if_pos rfl, if_pos rfl, if_pos (by simp), same_some _ _ hl]
    simp
  · rintro e w' ⟨rfl, hb⟩
    exact ⟨rfl, hB.trans (hb.mono hB.size)⟩
theorem same_zero {w W : World} (hB : Below w.heap.size w W) (k : Int) :
    Calls Try.prog 22 #[.agg #[.int .u8 k, .int .u64 0, .int .i64 0, .bool false, .slice none 0 0, .string ⟨#[]⟩, .int .i64 0], .agg #[.int .u8 k, .int .u64 0, .int .i64 0, .bool false, .slice none 0 0, .string ⟨#[]⟩, .int .i64 0]] W fun e w' => e = .returned (.bool true) ∧ Below w.heap.size w w' :=
  same6 (x := z0 k) (y := z0 k) (A := none) (B := none) (c := 0) (d := 0) hB (C_nil w) (Nat.le_refl _) (C_nil w) (Nat.le_refl _) rfl (by simp [z0])
theorem rv_set7 {w1 : World} {n : Nat} (h : w1.heap[n]? = some (.cells (zc 0) 29 (0, 0))) (v0 v1 v2 v3 v4 v5 v6 : Value) :
    (((((((w1.setCell ⟨n, 0, none⟩ v0).setCell ⟨n, 1, none⟩ v1).setCell ⟨n, 2, none⟩ v2).setCell ⟨n, 3, none⟩ v3).setCell ⟨n, 4, none⟩ v4).setCell ⟨n, 5, none⟩ v5).setCell ⟨n, 6, none⟩ v6).heap[n]? = some (.cells #[v0, v1, v2, v3, v4, v5, v6] 29 (0, 0)) ∧
    Ex (fun k => k = n ∨ k = n + 1) w1 (((((((w1.setCell ⟨n, 0, none⟩ v0).setCell ⟨n, 1, none⟩ v1).setCell ⟨n, 2, none⟩ v2).setCell ⟨n, 3, none⟩ v3).setCell ⟨n, 4, none⟩ v4).setCell ⟨n, 5, none⟩ v5).setCell ⟨n, 6, none⟩ v6) := by
  constructor
  · exact blk_set (blk_set (blk_set (blk_set (blk_set (blk_set (blk_set h 0 v0) 1 v1) 2 v2) 3 v3) 4 v4) 5 v5) 6 v6
  · refine Ex.setCell (Ex.setCell (Ex.setCell (Ex.setCell (Ex.setCell (Ex.setCell (Ex.setCell (Ex.refl _ _) ?_ _) ?_ _) ?_ _) ?_ _) ?_ _) ?_ _) ?_ _
    all_goals exact fun _ => .inl rfl
theorem alloc_heap (w : World) (cs : Array Value) (t : TypeId) : (w.alloc (.cells cs t)).heap[w.heap.size]? = some (.cells cs t (0, 0)) := by show (w.heap.push _)[w.heap.size]? = _; rw [Array.getElem?_push_size]
theorem store_facts {W w2 : World} {n g : Nat} (hx : Ex (fun k => k = g) W w2) (h : W.heap[n]? = some (.cells (zc 0) 29 (0, 0))) (hne : n ≠ g) :
    w2.heap[n]? = some (.cells (zc 0) 29 (0, 0)) ∧ w2.cell? ⟨n, 0, none⟩ = some (.int .u8 0) ∧ w2.cell? ⟨n, 1, none⟩ = some (.int .u64 0) ∧ w2.cell? ⟨n, 2, none⟩ = some (.int .i64 0) ∧ w2.cell? ⟨n, 3, none⟩ = some (.bool false) ∧ w2.cell? ⟨n, 4, none⟩ = some (.slice none 0 0) ∧ w2.cell? ⟨n, 5, none⟩ = some (.string ⟨#[]⟩) ∧ w2.cell? ⟨n, 6, none⟩ = some (.int .i64 0) ∧ w2.frozen? ⟨n, 0, none⟩ = false ∧ w2.frozen? ⟨n, 1, none⟩ = false ∧ w2.frozen? ⟨n, 2, none⟩ = false ∧ w2.frozen? ⟨n, 3, none⟩ = false ∧ w2.frozen? ⟨n, 4, none⟩ = false ∧ w2.frozen? ⟨n, 5, none⟩ = false ∧ w2.frozen? ⟨n, 6, none⟩ = false := by
  have hz := hx.heap h hne
  exact ⟨hz, blk_cell hz 0, blk_cell hz 1, blk_cell hz 2, blk_cell hz 3, blk_cell hz 4, blk_cell hz 5, blk_cell hz 6, blk_frozen hz 0, blk_frozen hz 1, blk_frozen hz 2, blk_frozen hz 3, blk_frozen hz 4, blk_frozen hz 5, blk_frozen hz 6⟩
set_option maxHeartbeats 16000000 in
set_option maxRecDepth 100000 in
theorem fails_few (A0 : Option Addr) (c0 : Nat) (l0 : List Int) (A1 : Option Addr) (c1 : Nat) (l1 : List SA) (w : World) (hr0 : Kd.C (Kd.int .u8) w A0 l0.length l0) (hr1 : Kd.C kA w A1 l1.length l1) (hb0 : isB l0) (hv1 : ∀ x ∈ l1, wfA x)
    (h : l0.length ≤ 20000) (h2 : l1.length ≤ 300) : Calls Try.prog 12 #[.slice A0 l0.length c0, .slice A1 l1.length c1] w fun e w' => e = .returned (.bool true) ∧ Below w.heap.size w w' := by
  have HR := Aside0.mk hr0
  have HR1 := Aside0.mk hr1
  have V1 := Aside0.mk hv1
  have X0 := Aside0.mk hb0
  have hd1 : decide ((20000 : Int) < (l0.length : Int)) = false := decide_eq_false (by omega)
  have hd2 : decide ((300 : Int) < (l1.length : Int)) = false := decide_eq_false (by omega)
  clear hr0 hr1 hv1 hb0
  go_enter Try.func12, Try.ntmps12
  go_wp2_with fail
  refine (awake_any w).mono ?_
  rintro e w0 ⟨rfl, hb⟩
  have B0 := Aside0.mk hb
  clear hb
  go_wp2_with fail
  refine (over_any A0 l0.length c0 l0 w0 (Kd.C_below HR.out B0.out) (by omega)).mono ?_
  rintro e w1 ⟨b, g, A2, c2, rfl, hbb, hr, hB⟩
  have R1 := Aside0.mk hr
  have BB := Aside0.mk (show w.heap.size ≤ b by have := B0.out.size; omega)
  have B1 := Aside0.mk (B0.out.trans (hB.mono B0.out.size))
  clear hr hbb hB B0
  go_wp2_with fail
  go_loopw [6, 7] (fun fv i wr => ∃ (k : Nat) (f : Bool) (A : Option Addr) (c : Nat) (xs : List Int), fv = .bool f ∧ i = .int .i64 k ∧ k ≤ l1.length ∧ Aside0 (RAt wr b g A c xs f) ∧ Aside0 (f = false → isB xs) ∧ Aside0 (Below w.heap.size w wr)) (fun _ i _ => l1.length - (intOf i).toNat)
  case atStart => exact ⟨0, false, A2, c2, l0, rfl, rfl, Nat.zero_le _, R1, ⟨fun _ => X0.out⟩, B1⟩
  case round =>
    clear R1 B1 X0
    obtain ⟨k, f, A, c, xs, rfl, rfl, hk, R, X, BW⟩ := hrel
    by_cases hlt : k < l1.length
    · obtain ⟨x, ad, hx, rfl, f0, f1⟩ := at_ask (Kd.C_below HR1.out BW.out) k hlt
      have hwx := V1.out x (List.mem_of_getElem? hx)
      have HWX := Aside0.mk hwx
      have HXK := Aside0.mk hx
      clear hx hwx
      by_cases h5 : 5 < x.f0
      · have hd5 : decide (5 < x.f0) = true := decide_eq_true h5
        go_wp2_with fail
        go_roundw
        case rel => exact ⟨k + 1, f, A, c, xs, rfl, by go_num, by omega, R, X, BW⟩
        case measure => simp [intOf]; omega
      · have hd5 : decide (5 < x.f0) = false := decide_eq_false h5
        go_wp2_with fail
        have hlow := R.out.low
        have hlt2 := R.out.lt
        have hk0 : 0 ≤ x.f0 := by have := HWX.out.1; simp [wfInt, Lit.wf, IntKind.min, IntKind.max, IntKind.bits, IntKind.signed] at this; omega
        have hm1 : x.f1 ≤ 9223372036854775807 := by have := HWX.out.2; simp [wfInt, Lit.wf, IntKind.min, IntKind.max, IntKind.bits, IntKind.signed] at this; omega
        have hwb := BB.out
        have hww := BW.out.size
        have CALL := Aside0.mk (fun (W : World) (hB : Below wr.heap.size wr W) => (read_any b g A c xs f x.f0 x.f1 W (R.out.below hB) X.out hk0 (by omega) hm1).mono (fun e w' (h : DPost b g W x.f0 (dec x.f0 x.f1 xs f) e w') => (⟨h, (BW.out.trans (hB.mono hww)).trans (h.1.below (by have := hB.size; omega) (fun k e => by omega))⟩ : DPost b g W x.f0 (dec x.f0 x.f1 xs f) e w' ∧ Below w.heap.size w w')))
        clear hk0 hm1
        have hWr := Aside0.mk (Below.refl wr.heap.size wr)
        have hba : Below wr.heap.size wr (wr.alloc (.cells #[.int .u8 0, .int .u64 0, .int .i64 0, .bool false, .slice none 0 0, .string ⟨#[]⟩, .int .i64 0] 29)) := (Below.refl _ _).alloc (Nat.le_refl _) _
        have fa0 := (Below.cell hba (World.block_lt_of_cell? wr _ f0)).trans f0
        have fa1 := (Below.cell hba (World.block_lt_of_cell? wr _ f1)).trans f1
        clear hba
        have hne9 : wr.heap.size ≠ g := by omega
        cases hd : dec x.f0 x.f1 xs f with
        | none =>
          rw [hd] at CALL
          go_region_with (first | (go_at_call 21; refine (CALL.out _ ?_).mono ?_; (repeat (first | exact hWr.out | apply below_drew | apply below_alloc)); rintro e w2 ⟨⟨hx2, rfl, A2, c2, r2, h2⟩, hbw2⟩; have hst := store_facts (n := wr.heap.size) hx2 (alloc_heap wr (zc 0) 29) hne9; obtain ⟨hz2, k0, k1, k2, k3, k4, k5, k6, q0, q1, q2, q3, q4, q5, q6⟩ := hst; have Z2 := Aside0.mk hz2; clear hz2; simp only [aggS, z0, List.length_nil]) | (go_at_call 21; refine (CALL.out _ ?_).mono ?_; (repeat (first | exact hWr.out | apply below_drew | apply below_alloc)); rintro e w2 ⟨⟨hx2, rfl, A2, c2, r2, h2⟩, hbw2⟩; simp only [aggS, z0, List.length_nil]))
          all_goals first
            | (have P1 := Aside0.mk (rv_set7 Z2.out (.int .u8 x.f0) (.int .u64 0) (.int .i64 0) (.bool false) (.slice none 0 0) (.string ⟨#[]⟩) (.int .i64 0)).1
               have P2 := Aside0.mk (rv_rat h2 (rv_set7 Z2.out (.int .u8 x.f0) (.int .u64 0) (.int .i64 0) (.bool false) (.slice none 0 0) (.string ⟨#[]⟩) (.int .i64 0)).2 hlt2 hlow)
               have P3 := Aside0.mk (hbw2.trans ((rv_set7 Z2.out (.int .u8 x.f0) (.int .u64 0) (.int .i64 0) (.bool false) (.slice none 0 0) (.string ⟨#[]⟩) (.int .i64 0)).2.below (B := w.heap.size) (by have := hbw2.size; omega) (fun k e => e.elim (fun e => by omega) (fun e => by omega))))
               generalize (((((((w2.setCell ⟨wr.heap.size, 0, none⟩ (.int .u8 x.f0)).setCell ⟨wr.heap.size, 1, none⟩ (.int .u64 0)).setCell ⟨wr.heap.size, 2, none⟩ (.int .i64 0)).setCell ⟨wr.heap.size, 3, none⟩ (.bool false)).setCell ⟨wr.heap.size, 4, none⟩ (.slice none 0 0)).setCell ⟨wr.heap.size, 5, none⟩ (.string ⟨#[]⟩)).setCell ⟨wr.heap.size, 6, none⟩ (.int .i64 0)) = W3 at *
               generalize wr.heap.size = n at *)
            | (have P1 := Aside0.mk (alloc_heap w2 #[.int .u8 x.f0, .int .u64 0, .int .i64 0, .bool false, .slice none 0 0, .string ⟨#[]⟩, .int .i64 0] 29)
               have P2 := Aside0.mk (h2.below ((Below.refl _ _).alloc (Nat.le_refl _) (.cells #[.int .u8 x.f0, .int .u64 0, .int .i64 0, .bool false, .slice none 0 0, .string ⟨#[]⟩, .int .i64 0] 29)))
               have P3 := Aside0.mk (hbw2.alloc hbw2.size (.cells #[.int .u8 x.f0, .int .u64 0, .int .i64 0, .bool false, .slice none 0 0, .string ⟨#[]⟩, .int .i64 0] 29))
               generalize (w2.alloc (.cells #[.int .u8 x.f0, .int .u64 0, .int .i64 0, .bool false, .slice none 0 0, .string ⟨#[]⟩, .int .i64 0] 29)) = W3 at *
               generalize w2.heap.size = n at *)
          all_goals (
            obtain ⟨x', ad', hx', hade, g0, g1⟩ := at_ask (Kd.C_below HR1.out P3.out) k hlt
            obtain rfl := Option.some.inj hade
            have hxe : x' = x := by have h9 := HXK.out; rw [hx'] at h9; exact Option.some.inj h9
            rw [hxe] at g0 g1
            clear hxe hx' hade
            have c00 : W3.cell? ⟨n, 0, none⟩ = some (.int .u8 x.f0) := blk_cell P1.out 0
            have c11 : W3.cell? ⟨n, 1, none⟩ = some (.int .u64 0) := blk_cell P1.out 1
            have c22 : W3.cell? ⟨n, 2, none⟩ = some (.int .i64 0) := blk_cell P1.out 2
            have c33 : W3.cell? ⟨n, 3, none⟩ = some (.bool false) := blk_cell P1.out 3
            have c44 : W3.cell? ⟨n, 4, none⟩ = some (.slice none 0 0) := blk_cell P1.out 4
            have c55 : W3.cell? ⟨n, 5, none⟩ = some (.string ⟨#[]⟩) := blk_cell P1.out 5
            have c66 : W3.cell? ⟨n, 6, none⟩ = some (.int .i64 0) := blk_cell P1.out 6
            go_wp2_with fail
            refine (err_failed P2.out).mono ?_
            rintro e w4 ⟨rfl, hw4⟩
            subst w4
            go_wp2_with fail
            go_region_with (first | (go_at_call 22; refine (same_zero (w := W3) ?_ x.f0).mono ?_; (repeat (first | exact Below.refl _ _ | apply below_drew)); rintro e w5 ⟨rfl, hb5⟩; have P4 := Aside0.mk (P2.out.below hb5); have P5 := Aside0.mk (P3.out.trans (hb5.mono P3.out.size)); clear hb5)))
          all_goals (
            go_wp2_with fail
            refine (err_failed P4.out).mono ?_
            rintro e w6 ⟨rfl, rfl⟩
            go_wp2_with fail
            refine (done_failed P4.out).mono ?_
            rintro e w6 ⟨rfl, rfl⟩
            go_wp2_with fail
            go_roundw
            case rel => exact ⟨k + 1, true, A2, c2, r2, rfl, by go_num, by omega, P4, ⟨fun h => by cases h⟩, P5⟩
            case measure => simp [intOf]; omega)
        | some q =>
          obtain ⟨y, r2⟩ := q
          obtain ⟨rfl, hir⟩ := dec_isB X.out hd
          have HIR := Aside0.mk hir
          rw [hd] at CALL
          clear hd hir
          go_region_with (first | (go_at_call 21; refine (CALL.out _ ?_).mono ?_; (repeat (first | exact hWr.out | apply below_drew | apply below_alloc)); rintro e w2 ⟨⟨hx2, A4, c4, A2, c2, rfl, _, _, h2, _⟩, hbw2⟩; have hst := store_facts (n := wr.heap.size) hx2 (alloc_heap wr (zc 0) 29) hne9; obtain ⟨hz2, k0, k1, k2, k3, k4, k5, k6, q0, q1, q2, q3, q4, q5, q6⟩ := hst; have Z2 := Aside0.mk hz2; clear hz2; simp only [aggS]) | (go_at_call 21; refine (CALL.out _ ?_).mono ?_; (repeat (first | exact hWr.out | apply below_drew | apply below_alloc)); rintro e w2 ⟨⟨hx2, A4, c4, A2, c2, rfl, _, _, h2, _⟩, hbw2⟩; simp only [aggS]))
          all_goals first
            | (have P2 := Aside0.mk (rv_rat h2 (rv_set7 Z2.out (.int .u8 y.f0) (.int .u64 y.f1) (.int .i64 y.f2) (.bool y.f3) (.slice A4 y.f4.length c4) (.string y.f5) (.int .i64 y.f6)).2 hlt2 hlow)
               have P3 := Aside0.mk (hbw2.trans ((rv_set7 Z2.out (.int .u8 y.f0) (.int .u64 y.f1) (.int .i64 y.f2) (.bool y.f3) (.slice A4 y.f4.length c4) (.string y.f5) (.int .i64 y.f6)).2.below (B := w.heap.size) (by have := hbw2.size; omega) (fun k e => e.elim (fun e => by omega) (fun e => by omega))))
               generalize (((((((w2.setCell ⟨wr.heap.size, 0, none⟩ (.int .u8 y.f0)).setCell ⟨wr.heap.size, 1, none⟩ (.int .u64 y.f1)).setCell ⟨wr.heap.size, 2, none⟩ (.int .i64 y.f2)).setCell ⟨wr.heap.size, 3, none⟩ (.bool y.f3)).setCell ⟨wr.heap.size, 4, none⟩ (.slice A4 y.f4.length c4)).setCell ⟨wr.heap.size, 5, none⟩ (.string y.f5)).setCell ⟨wr.heap.size, 6, none⟩ (.int .i64 y.f6)) = W3 at *
               generalize wr.heap.size = n at *)
            | (have P2 := Aside0.mk (h2.below ((Below.refl _ _).alloc (Nat.le_refl _) (.cells #[.int .u8 y.f0, .int .u64 y.f1, .int .i64 y.f2, .bool y.f3, .slice A4 y.f4.length c4, .string y.f5, .int .i64 y.f6] 29)))
               have P3 := Aside0.mk (hbw2.alloc hbw2.size (.cells #[.int .u8 y.f0, .int .u64 y.f1, .int .i64 y.f2, .bool y.f3, .slice A4 y.f4.length c4, .string y.f5, .int .i64 y.f6] 29))
               generalize (w2.alloc (.cells #[.int .u8 y.f0, .int .u64 y.f1, .int .i64 y.f2, .bool y.f3, .slice A4 y.f4.length c4, .string y.f5, .int .i64 y.f6] 29)) = W3 at *
               generalize w2.heap.size = n at *)
          all_goals (
            go_wp2_with fail
            refine (err_fine P2.out).mono ?_
            rintro e w4 ⟨rfl, rfl⟩
            go_wp2_with fail
            go_roundw
            case rel => exact ⟨k + 1, false, A2, c2, r2, rfl, by go_num, by omega, P2, ⟨fun _ => HIR.out⟩, P3⟩
            case measure => simp [intOf]; omega)
    · go_wp2_with fail
      go_ret
      exact ⟨rfl, BW.out⟩
set_option maxHeartbeats 1000000 in
set_option maxRecDepth 100000 in
theorem fails_many (A0 : Option Addr) (c0 : Nat) (l0 : List Int) (A1 : Option Addr) (c1 : Nat) (l1 : List SA) (w : World)
    (h : 20000 < l0.length ∨ 300 < l1.length) : Calls Try.prog 12 #[.slice A0 l0.length c0, .slice A1 l1.length c1] w fun e w' => e = .returned (.bool true) ∧ Below w.heap.size w w' := by
  by_cases h0 : 20000 < l0.length
  · have hd1 : decide ((20000 : Int) < (l0.length : Int)) = true := decide_eq_true (by omega)
    go_enter Try.func12, Try.ntmps12
    go_wp2_with fail
    refine (awake_any w).mono ?_
    rintro e w0 ⟨rfl, hb⟩
    have B0 := Aside0.mk hb
    clear hb
    go_wp2_with fail
    go_ret
    exact ⟨rfl, B0.out⟩
  · have hd1 : decide ((20000 : Int) < (l0.length : Int)) = false := decide_eq_false (by omega)
    have hd2 : decide ((300 : Int) < (l1.length : Int)) = true := decide_eq_true (by omega)
    go_enter Try.func12, Try.ntmps12
    go_wp2_with fail
    refine (awake_any w).mono ?_
    rintro e w0 ⟨rfl, hb⟩
    have B0 := Aside0.mk hb
    clear hb
    go_wp2_with fail
    go_ret
    exact ⟨rfl, B0.out⟩
theorem wfAll_isB {n : Nat} {xs : List Int} (h : wfAll n (wfInt .u8) xs) : isB xs := fun x hx => by
  have := h.2 x hx
  simp [wfInt, Lit.wf, IntKind.min, IntKind.max, IntKind.bits, IntKind.signed] at this; omega
theorem CodecFails_walk (A0 : Option Addr) (c0 : Nat) (l0 : List Int) (A1 : Option Addr) (c1 : Nat) (l1 : List SA) (w : World) (hr0 : Kd.C (Kd.int .u8) w A0 l0.length l0) (_hc0 : l0.length ≤ c0) (hw0 : wfAll (Try.prog.bytesOf 5) (wfInt .u8) l0) (hr1 : Kd.C kA w A1 l1.length l1) (_hc1 : l1.length ≤ c1) (hw1 : wfAll (Try.prog.bytesOf 42) wfA l1) :
    Calls Try.prog 12 #[.slice A0 l0.length c0, .slice A1 l1.length c1] w fun e w' => e = .returned (.bool true) ∧ Below w.heap.size w w' := by
  by_cases h : 20000 < l0.length ∨ 300 < l1.length
  · exact fails_many A0 c0 l0 A1 c1 l1 w h
  · exact fails_few A0 c0 l0 A1 c1 l1 w hr0 hr1 (wfAll_isB hw0) hw1.2 (by omega) (by omega)
end Go.Proofs.Ytekbbpbpkekdhaa.Given
