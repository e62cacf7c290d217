/- What tocsinlaw06.awake does: the walk. -/
import Derived.Test.YtekbbpbpkekdhaaCb
namespace Go.Proofs.Ytekbbpbpkekdhaa.Cod
open Go.RowKit Go.Proofs.Ytekbbpbpkekdhaa.Ex Go.Proofs.Ytekbbpbpkekdhaa.PBase Go.Proofs.YtekbbpbpkekdhaaW.PrintWords Go.Proofs.YtekbbpbpkekdhaaW.PrintLast Go.Proofs.YtekbbpbpkekdhaaW.PrintMore
theorem WAt.step {w w1 : World} {wb g : Nat} {v : Value} {bs : List Int} {gr : Nat} (h : WAt w wb g v bs) (hx : Ex (fun k => k = gr) w w1) (a1 : g ≠ gr) (a2 : v.ownBlock ≠ some gr) : WAt w1 wb g v bs :=
  h.ex hx a1 (fun k hk e => a2 (by rw [hk, e]))
theorem WAt.below {w w1 : World} {wb g : Nat} {v : Value} {bs : List Int} (h : WAt w wb g v bs) (hb : Below w.heap.size w w1) : WAt w1 wb g v bs := h.ex (Ex.of_below hb (fun _ => False)) (fun x => x) (fun _ _ x => x)
theorem RAt.step {w w1 : World} {b gr : Nat} {A : Option Addr} {c : Nat} {xs : List Int} {fl : Bool} {g : Nat} {v : Value} (h : RAt w b gr A c xs fl) (hx : Ex (fun k => k = g ∨ some k = v.ownBlock) w w1) (a1 : g ≠ gr) (a2 : v.ownBlock ≠ some gr) (a3 : b ≠ g) (a4 : v.ownBlock ≠ some b) : RAt w1 b gr A c xs fl :=
  h.ex hx (fun e => e.elim (fun e => a1 e.symm) (fun e => a2 e.symm)) (fun ad e => by
    rw [(h.far ad e).2.2.1]
    exact fun e => e.elim a3 (fun e => a4 e.symm))
theorem done_more {w : World} {b g : Nat} {A : Option Addr} {c : Nat} {xs : List Int} (h : RAt w b g A c xs false) (hn : 0 < xs.length) : Calls Try.prog 26 #[.pointer (some ⟨g, 0, none⟩)] w fun e w' => e = .returned (.int .i64 60) ∧ w' = w := by
  have := done_any b g A c xs false w h
  rwa [if_pos (.inr hn)] at this
theorem done_end {w : World} {b g : Nat} {A : Option Addr} {c : Nat} (h : RAt w b g A c [] false) : Calls Try.prog 26 #[.pointer (some ⟨g, 0, none⟩)] w fun e w' => e = .returned (.int .i64 0) ∧ w' = w := by
  have := done_any b g A c [] false w h
  rwa [if_neg (by simp)] at this
theorem done_failed {w : World} {b g : Nat} {A : Option Addr} {c : Nat} {xs : List Int} (h : RAt w b g A c xs true) : Calls Try.prog 26 #[.pointer (some ⟨g, 0, none⟩)] w fun e w' => e = .returned (.int .i64 60) ∧ w' = w := by
  have := done_any b g A c xs true w h
  rwa [if_pos (.inl rfl)] at this
theorem err_failed {w : World} {b g : Nat} {A : Option Addr} {c : Nat} {xs : List Int} (h : RAt w b g A c xs true) : Calls Try.prog 24 #[.pointer (some ⟨g, 0, none⟩)] w fun e w' => e = .returned (.int .i64 60) ∧ w' = w := by
  have := err_any b g A c xs true w h
  rwa [if_pos rfl] at this
theorem err_fine {w : World} {b g : Nat} {A : Option Addr} {c : Nat} {xs : List Int} (h : RAt w b g A c xs false) : Calls Try.prog 24 #[.pointer (some ⟨g, 0, none⟩)] w fun e w' => e = .returned (.int .i64 0) ∧ w' = w := by
  have := err_any b g A c xs false w h
  rwa [if_neg (by simp)] at this
theorem ruint_some {w : World} {b g : Nat} {A : Option Addr} {c : Nat} {xs : List Int} {n : Nat} {r : List Int} (h : RAt w b g A c xs false) (hx : isB xs) (hr : rdU 10 0 0 xs = some (n, r)) : Calls Try.prog 38 #[.pointer (some ⟨g, 0, none⟩)] w fun e w' => e = .returned (.int .u64 (n : Int)) ∧ Ex (fun k => k = g) w w' ∧ ∃ A c, RAt w' b g A c r false := by
  have := ruint_any b g A c xs w h hx
  rw [hr] at this
  exact this.mono fun e w' h => ⟨h.2.1, h.1, h.2.2⟩
theorem ruint_none {w : World} {b g : Nat} {A : Option Addr} {c : Nat} {xs : List Int} (h : RAt w b g A c xs false) (hx : isB xs) (hr : rdU 10 0 0 xs = none) : Calls Try.prog 38 #[.pointer (some ⟨g, 0, none⟩)] w fun e w' => e = .returned (.int .u64 0) ∧ Ex (fun k => k = g) w w' ∧ ∃ A c r, RAt w' b g A c r true := by
  have := ruint_any b g A c xs w h hx
  rw [hr] at this
  exact this.mono fun e w' h => ⟨h.2.1, h.1, h.2.2⟩
theorem rlen_none {w : World} {b g : Nat} {A : Option Addr} {c : Nat} {xs : List Int} {m : Int} (h : RAt w b g A c xs false) (hm : m ≤ 9223372036854775807) (hx : isB xs) (hr : rdL m xs = none) : Calls Try.prog 42 #[.pointer (some ⟨g, 0, none⟩), .int .i64 m] w fun e w' => e = .returned (.int .i64 0) ∧ Ex (fun k => k = g) w w' ∧ ∃ A c r, RAt w' b g A c r true := by
  have := rlen_any b g A c xs w m hm h hx
  rw [hr] at this
  exact this.mono fun e w' h => ⟨h.2.1, h.1, h.2.2⟩
theorem bool_true (base g : Nat) (v : Value) (bs : List Int) (w : World) (hw : WAt w base g v bs) (hl : bs.length + 10 ≤ 140737488355328) :
    Calls Try.prog 32 #[.pointer (some ⟨g, 0, none⟩), .bool true] w (Wrs base g v w (bs ++ [1])) := by
  have := bool_any base g v bs true w hw hl
  rwa [if_pos rfl] at this
theorem over_lit (w : World) (xs : List Int) (hx : xs.length ≤ 140737488355328) : Calls Try.prog 20 #[.slice (some ⟨w.heap.size, 0, none⟩) xs.length xs.length] (w.alloc (.cells (xs.map (Value.int .u8)).toArray 5))
    fun e w' => ∃ b g A' c', e = .returned (.pointer (some ⟨g, 0, none⟩)) ∧ w.heap.size < b ∧ w.heap.size < g ∧ RAt w' b g A' c' xs false ∧ Below w.heap.size w w' := by
  have hs : (w.alloc (.cells (xs.map (Value.int .u8)).toArray 5)).heap.size = w.heap.size + 1 := by show (w.heap.push _).size = _; simp
  refine (over_any _ _ xs.length xs _ (C_lit w xs (0, 0) (by omega)) hx).mono ?_
  rintro e w' ⟨b, g, A, c, rfl, hb, hr, hB⟩
  rw [hs] at hb hB
  have hlow := hr.low
  exact ⟨b, g, A, c, rfl, by omega, by omega, hr, ((Below.refl _ w).alloc (Nat.le_refl _) _).trans (hB.mono (by omega))⟩
theorem awake_bytes : ([] ++ enc 300 ++ enc (zig (-2)) ++ encB (chars ⟨#[97, 98]⟩) ++ [1] ++ enc (Int.toNat (-5)) : List Int) = [172, 2, 3, 2, 97, 98, 1, 0] := by
  rw [show zig (-2) = 3 from rfl, show Int.toNat (-5) = 0 from rfl, enc_big (show ¬ 300 < 128 by omega), enc_small (show 300 / 128 < 128 by omega), enc_small (show 3 < 128 by omega), enc_small (show 0 < 128 by omega)]
  unfold encB
  rw [show (chars ⟨#[97, 98]⟩) = [97, 98] from rfl, enc_small (by simp)]
  rfl
set_option maxHeartbeats 1000000 in
set_option maxRecDepth 100000 in
theorem awake_any (w : World) : Calls Try.prog 28 #[] w fun e w' => e = .returned (.bool true) ∧ Below w.heap.size w w' := by
  have l1 : (enc 300).length ≤ 10 := enc_le10 (by omega)
  have l2 : (enc (zig (-2))).length ≤ 10 := enc_le10 (by rw [show zig (-2) = 3 from rfl]; omega)
  have l3 : (encB (chars ⟨#[97, 98]⟩)).length ≤ 12 := by unfold encB; rw [List.length_append, show (chars ⟨#[97, 98]⟩).length = 2 from rfl]; have := enc_le10 (n := 2) (by omega); omega
  have l4 : (⟨#[97, 98]⟩ : ByteArray).size = 2 := rfl
  go_enter Try.func28, Try.ntmps28
  go_wp2_with fail
  refine (new_any w).mono ?_
  rintro e w1 ⟨rfl, hw1⟩
  have H0 := Aside0.mk (show WAt w1 w.heap.size w.heap.size (.slice none 0 0) [] by rw [hw1]; exact WAt.new w (Nat.le_refl _))
  have B0 := Aside0.mk (show Below w.heap.size w w1 by rw [hw1]; exact (Below.refl _ _).alloc (Nat.le_refl _) _)
  clear hw1
  generalize hg : w.heap.size = g at *
  go_wp2_with fail
  refine (uint_any g g _ [] 300 w1 H0.out (by omega) (by simp)).mono ?_
  rintro e w2 ⟨rfl, v2, h2⟩
  have H2 := Aside0.mk h2
  clear h2
  go_wp2_with fail
  refine (int_any g g v2 _ (-2) w2 H2.out.at' (by omega) (by omega) ?_).mono ?_
  · simp only [List.length_append, List.length_nil, List.length_singleton]; omega
  rintro e w3 ⟨rfl, v3, h3⟩
  have H3 := Aside0.mk (H2.out.trans h3)
  clear h3 H2
  go_wp2_with fail
  refine (text_any g g v3 _ ⟨#[97, 98]⟩ w3 H3.out.at' ?_).mono ?_
  · simp only [List.length_append, List.length_nil, List.length_singleton]; omega
  rintro e w4 ⟨rfl, v4, h4⟩
  have H4 := Aside0.mk (H3.out.trans h4)
  clear h4 H3
  go_wp2_with fail
  refine (bool_true g g v4 _ w4 H4.out.at' ?_).mono ?_
  · simp only [List.length_append, List.length_nil, List.length_singleton]; omega
  rintro e w5 ⟨rfl, v5, h5⟩
  have H5 := Aside0.mk (H4.out.trans h5)
  clear h5 H4
  go_wp2_with fail
  refine (len_any g g v5 _ (-5) w5 H5.out.at' (by omega) (by omega) ?_).mono ?_
  · simp only [List.length_append, List.length_nil, List.length_singleton]; omega
  rintro e w6 ⟨rfl, v6, h6⟩
  have h6' := H5.out.trans h6
  rw [awake_bytes] at h6'
  have B6 := Aside0.mk (B0.out.trans (h6'.ex.below (B := g) (by have := H0.out.lt; omega) (fun k h => h.elim (fun h => by omega) (fun h => by cases h))))
  have H6 := Aside0.mk h6'.at'
  have hl6 := H6.out.lt
  clear h6 h6' H5 H0 B0 l1 l2 l3 l4
  go_wp2_with fail
  refine (over_lit w6 [7, 1] (by simp)).mono ?_
  rintro e w7 ⟨b7, g7, A7, c7, rfl, hb7, hg7, hr7, hB7⟩
  have H7 := Aside0.mk (H6.out.below hB7)
  have B7 := Aside0.mk (B6.out.trans (hB7.mono (show g ≤ w6.heap.size by omega)))
  have a1 : g ≠ g7 := by omega
  have a2 : v6.ownBlock ≠ some g7 := fun e => by have := Kd.R_lt H6.out.row _ e; omega
  have R7 := Aside0.mk hr7
  clear hr7 hB7 B6 H6
  go_wp2_with fail
  refine (ruint_some (n := 7) (r := [1]) R7.out (by unfold isB; decide) rfl).mono ?_
  rintro e w8 ⟨rfl, hx, A8, c8, hr8⟩
  have H8 := Aside0.mk (H7.out.step hx a1 a2)
  have B8 := Aside0.mk (B7.out.trans (hx.below (show g ≤ w7.heap.size by have := R7.out.lt; omega) (fun k e => by omega)))
  have R8 := Aside0.mk hr8
  clear hx hr8 R7 B7 H7
  go_wp2_with fail
  refine (done_more R8.out (by simp)).mono ?_
  rintro e w9 ⟨rfl, rfl⟩
  go_wp2_with fail
  refine (ruint_some (n := 1) (r := []) R8.out (by unfold isB; decide) rfl).mono ?_
  rintro e w10 ⟨rfl, hx, A10, c10, hr10⟩
  have H10 := Aside0.mk (H8.out.step hx a1 a2)
  have B10 := Aside0.mk (B8.out.trans (hx.below (show g ≤ w9.heap.size by have := R8.out.lt; omega) (fun k e => by omega)))
  have R10 := Aside0.mk hr10
  clear hx hr10 R8 B8 H8
  go_wp2_with fail
  refine (done_end R10.out).mono ?_
  rintro e w11 ⟨rfl, rfl⟩
  clear a1 a2
  go_wp2_with fail
  refine (over_lit _ [128, 0] (by simp)).mono ?_
  rintro e w12 ⟨b12, g12, A12, c12, rfl, hb12, hg12, hr12, hB12⟩
  have hl11 := H10.out.lt
  have H12 := Aside0.mk (H10.out.below hB12)
  have B12 := Aside0.mk (B10.out.trans (hB12.mono (by omega)))
  have a1 : g ≠ g12 := by omega
  have a2 : v6.ownBlock ≠ some g12 := fun e => by have := Kd.R_lt H10.out.row _ e; omega
  have R12 := Aside0.mk hr12
  clear hr12 hB12 B10 H10 R10
  go_wp2_with fail
  refine (ruint_none R12.out (by unfold isB; decide) rfl).mono ?_
  rintro e w13 ⟨rfl, hx, A13, c13, r13, hr13⟩
  have H13 := Aside0.mk (H12.out.step hx a1 a2)
  have B13 := Aside0.mk (B12.out.trans (hx.below (show g ≤ w12.heap.size by have := R12.out.lt; omega) (fun k e => by omega)))
  have R13 := Aside0.mk hr13
  clear hx hr13 R12 B12 H12
  go_wp2_with fail
  refine (over_lit _ [5] (by simp)).mono ?_
  rintro e w14 ⟨b14, g14, A14, c14, rfl, hb14, hg14, hr14, hB14⟩
  have hl13 := H13.out.lt
  have H14 := Aside0.mk (H13.out.below hB14)
  have B14 := Aside0.mk (B13.out.trans (hB14.mono (by omega)))
  have a3 : g ≠ g14 := by omega
  have a4 : v6.ownBlock ≠ some g14 := fun e => by have := Kd.R_lt H13.out.row _ e; omega
  have R14 := Aside0.mk hr14
  have Q14 := Aside0.mk (R13.out.below hB14)
  have hne : g12 ≠ g14 := by have := R13.out.lt; omega
  have hbe : b12 ≠ g14 := by have := R13.out.low; have := R13.out.lt; omega
  clear hr14 hB14 B13 H13 R13
  go_wp2_with fail
  refine (rlen_none R14.out (by omega) (by unfold isB; decide) rfl).mono ?_
  rintro e w15 ⟨rfl, hx, A15, c15, r15, hr15⟩
  have H15 := Aside0.mk (H14.out.step hx a3 a4)
  have B15 := Aside0.mk (B14.out.trans (hx.below (show g ≤ w14.heap.size by have := R14.out.lt; omega) (fun k e => by omega)))
  have R15 := Aside0.mk hr15
  have Q15 := Aside0.mk (Q14.out.ex hx hne (fun ad e => by rw [(Q14.out.far ad e).2.2.1]; exact hbe))
  have hl15 := H15.out.lt
  clear hx hr15 R14 Q14 B14 H14
  go_wp2_with fail
  refine (out_any g g v6 _ w15 H15.out (by simp)).mono ?_
  rintro e w16 ⟨v16, rfl, ho, hb⟩
  obtain ⟨A16, n16, rfl, hc16, hr16⟩ := Kd.R_reads ho
  have C16 := Aside0.mk hr16
  have R16 := Aside0.mk (R15.out.below hb)
  have Q16 := Aside0.mk (Q15.out.below hb)
  have B16 := Aside0.mk (B15.out.trans (hb.mono (by omega)))
  have hl16 := hb.size
  clear ho hb hr16 R15 Q15 B15 H15
  go_wp2_with fail
  have hC : Kd.C (Kd.int .u8) (w16.alloc (.cells (([172, 2, 3, 2, 97, 98, 1, 0] : List Int).map (Value.int .u8)).toArray 5)) (some ⟨w16.heap.size, 0, none⟩) ([172, 2, 3, 2, 97, 98, 1, 0] : List Int).length [172, 2, 3, 2, 97, 98, 1, 0] := C_lit w16 [172, 2, 3, 2, 97, 98, 1, 0] (0, 0) (by simp)
  have hCB := Kd.C_below C16.out ((Below.refl w16.heap.size w16).alloc (Nat.le_refl _) (.cells (([172, 2, 3, 2, 97, 98, 1, 0] : List Int).map (Value.int .u8)).toArray 5))
  refine (tocsinref04_Same.calls 9 A16 n16 [172, 2, 3, 2, 97, 98, 1, 0] _ 8 [172, 2, 3, 2, 97, 98, 1, 0] true _ hCB hc16 hC (by simp) (by rw [← (same_some [172, 2, 3, 2, 97, 98, 1, 0] [172, 2, 3, 2, 97, 98, 1, 0] (by simp)).trans (congrArg some (decide_eq_true rfl))]; rfl)).mono ?_
  rintro e w17 ⟨rfl, hd⟩
  have B17 := Aside0.mk ((B16.out.alloc (by omega) _).trans (hd.below.mono (by show _ ≤ (w16.heap.push _).size; simp; omega)))
  have R17 := Aside0.mk ((R16.out.below ((Below.refl _ _).alloc (Nat.le_refl _) _)).drawn hd)
  have Q17 := Aside0.mk ((Q16.out.below ((Below.refl _ _).alloc (Nat.le_refl _) _)).drawn hd)
  clear hd hC hCB R16 Q16 B16 C16
  go_wp2_with fail
  refine (err_failed Q17.out).mono ?_
  rintro e w18 ⟨rfl, rfl⟩
  go_wp2_with fail
  refine (err_failed R17.out).mono ?_
  rintro e w18 ⟨rfl, rfl⟩
  go_wp2_with fail
  go_ret
  exact ⟨rfl, by rw [hg]; exact B17.out⟩
end Go.Proofs.Ytekbbpbpkekdhaa.Cod
