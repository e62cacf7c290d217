/- What frame's Encode does: the walk, in the printer's own form. -/
import Derived.Test.YtcobdpkpefgdlaaPut
import Derived.Test.YtcobdpkpefgdlaaPMidx1
import Derived.Test.YtcobdpkpefgdlaaEx
namespace Go.Proofs.Ytcobdpkpefgdlaa.Given
open Go.RowKit Go.Proofs.Ytcobdpkpefgdlaa.Ex Go.Proofs.Ytcobdpkpefgdlaa.Cod Go.Proofs.Ytcobdpkpefgdlaa.PBase Go.Proofs.Ytcobdpkpefgdlaa.PMid Go.Proofs.YtcobdpkpefgdlaaW.PrintWords Go.Proofs.YtcobdpkpefgdlaaW.PrintLast Go.Proofs.YtcobdpkpefgdlaaW.PrintMore
theorem C_ex {S : Nat → Prop} {w w' : World} {A : Option Addr} {n : Nat} {xs : List Int} (h : Kd.C (Kd.int .u8) w A n xs) (hx : Ex S w w') (hA : ∀ ad, A = some ad → 0 < n → ¬ S ad.block) : Kd.C (Kd.int .u8) w' A n xs := by
  refine ⟨h.1, h.2.1, fun hn => ?_⟩
  obtain ⟨ad, e, hc⟩ := h.2.2 hn
  refine ⟨ad, e, fun j p hj => ?_⟩
  obtain ⟨c, hs, hr, hcell⟩ := hc j p hj
  refine ⟨c, hs, hr, fun i u hu => ?_⟩
  have h1 := hcell i u hu
  have hb : (ad.add (j * (Kd.int .u8).sz + i)).block = ad.block := by unfold Addr.add; split <;> rfl
  have hlt := World.block_lt_of_cell? w _ h1
  exact (hx.cell hlt (by rw [hb]; exact hA ad e hn)).trans h1
/-- A row's block is older than the memory's end. -/
theorem C_old {w : World} {A : Option Addr} {n : Nat} {xs : List Int} (h : Kd.C (Kd.int .u8) w A n xs) : ∀ ad, A = some ad → 0 < n → ad.block < w.heap.size := fun ad e hn => by
  obtain ⟨ad', e', hc⟩ := h.2.2 hn
  rw [e] at e'; cases e'
  have hl : 0 < xs.length := by rw [h.1]; exact hn
  obtain ⟨cs, hs, hr, hcell⟩ := hc 0 xs[0] (List.getElem?_eq_getElem hl)
  have hr' : cs = [Value.int .u8 xs[0]] := hr
  have := hcell 0 (Value.int .u8 xs[0]) (by rw [hr']; rfl)
  have hlt := World.block_lt_of_cell? w _ this
  simpa [Addr.add] using hlt
/-- A row that is read, in blocks other than b0 and older than B. -/
structure Pc (w : World) (b0 B : Nat) (A : Option Addr) (xs : List Int) : Prop where
  row : Kd.C (Kd.int .u8) w A xs.length xs
  far : ∀ ad, A = some ad → 0 < xs.length → ad.block ≠ b0 ∧ ad.block < B
theorem Pc.step {w w' : World} {b0 B : Nat} {A : Option Addr} {xs : List Int} {S : Nat → Prop} (h : Pc w b0 B A xs) (hx : Ex S w w') (hS : ∀ k, S k → k = b0 ∨ B ≤ k) : Pc w' b0 B A xs :=
  ⟨C_ex h.row hx (fun ad e hn hs => by have h1 := h.far ad e hn; have h2 := hS _ hs; omega), h.far⟩
theorem C_three (w : World) (A B D : Option Addr) (c d f : Nat) (xs ys zs : List Int) (hc : xs.length ≤ c) (hd : ys.length ≤ d) (hf : zs.length ≤ f) (hr : (Kd.int .u8).C w A xs.length xs) (hs : (Kd.int .u8).C w B ys.length ys) (ht : (Kd.int .u8).C w D zs.length zs) :
    Kd.C (Kd.slice 5 (Kd.int .u8)) (w.alloc (.cells #[.slice A xs.length c, .slice B ys.length d, .slice D zs.length f] 22)) (some ⟨w.heap.size, 0, none⟩) 3 [xs, ys, zs] := by
  refine C_of_cells _ _ [xs, ys, zs] (by simp) fun j us hj => ?_
  match j with
  | 0 =>
    obtain rfl := Option.some.inj hj
    exact ⟨A, c, by rw [World.cell?_alloc_new]; rfl, hc, Kd.C_below hr ((Below.refl _ _).alloc (Nat.le_refl _) _)⟩
  | 1 =>
    obtain rfl := Option.some.inj hj
    exact ⟨B, d, by rw [World.cell?_alloc_new]; rfl, hd, Kd.C_below hs ((Below.refl _ _).alloc (Nat.le_refl _) _)⟩
  | 2 =>
    obtain rfl := Option.some.inj hj
    exact ⟨D, f, by rw [World.cell?_alloc_new]; rfl, hf, Kd.C_below ht ((Below.refl _ _).alloc (Nat.le_refl _) _)⟩
  | j + 3 => simp at hj
def frame_Encode.f (l0 : List Int) : Option (List Int × Int) :=
  if 65536 < l0.length then some ([], 3) else (frame_sum.f [enc l0.length, l0]).bind fun t => if t.length ≤ 100 then some (enc l0.length ++ (l0 ++ t), 0) else none
set_option maxHeartbeats 1000000 in
set_option maxRecDepth 100000 in
theorem frame_Encode.calls (A0 : Option Addr) (c0 : Nat) (l0 : List Int) (r1 : List Int) (r2 : Int) (w : World) (hr0 : Kd.C (Kd.int .u8) w A0 l0.length l0) (hc0 : l0.length ≤ c0) (h : frame_Encode.f l0 = some (r1, r2)) :
    Calls Try.prog 12 #[.slice A0 l0.length c0] w fun e w' => ∃ v0_ : Value, e = .returned (.tuple #[v0_, .int .i64 r2]) ∧ Kd.R (Kd.int .u8) 5 w' w.heap.size (fun _ => True) v0_ r1 ∧ Below w.heap.size w w' := by
  unfold frame_Encode.f at h
  split at h
  · rename_i hbig
    injection h with h; injection h with h1 h2; subst h1 h2
    have hd : decide ((65536 : Int) < (l0.length : Int)) = true := decide_eq_true (by omega)
    clear hr0
    go_enter Try.func12, Try.ntmps12
    go_wp2_with fail
    go_ret2
    exact ⟨_, rfl, Kd.R_nil _ _ _ _ _, Below.refl _ _⟩
  · rename_i hbig
    obtain ⟨t, ht, h⟩ := Option.bind_eq_some_iff.1 h
    split at h
    case isFalse => cases h
    case isTrue htl =>
    injection h with h; injection h with h1 h2; subst h2
    have HT := Aside0.mk ht
    have H1 := Aside0.mk h1
    have HR := Aside0.mk hr0
    have hd : decide ((65536 : Int) < (l0.length : Int)) = false := decide_eq_false (by omega)
    have hle : (enc l0.length).length ≤ 10 := enc_le10 (by omega)
    obtain ⟨i0, hi, hz0, hz1, hz2⟩ := info_parts info5
    have HI := Aside0.mk hi
    have HZ0 := Aside0.mk hz0
    have HZ1 := Aside0.mk hz1
    have HZ2 := Aside0.mk hz2
    clear ht h1 hr0 hi hz0 hz1 hz2
    go_enter Try.func12, Try.ntmps12
    go_wp2_with fail
    refine (put_any l0.length w (by omega)).mono ?_
    rintro e w1 ⟨v1, rfl, ho1, hb1⟩
    obtain ⟨A1, c1, rfl, hc1, hr1⟩ := Kd.R_reads ho1
    have HR1 := Aside0.mk hr1
    have B1 := Aside0.mk hb1
    clear ho1 hr1 hb1
    generalize enc l0.length = hd0 at *
    obtain ⟨wm, hmk, hom, hgm⟩ := run_make_own (P := Try.prog) w1 w.heap.size 22 5 i0 (.int .u8 0) 1 Try.underlying22 HI.out HZ0.out HZ1.out .i64 .i64 (hd0.length + l0.length + 4) (by rw [HZ2.out]; omega) (by unfold maxLen; omega) (below_size B1.out)
    rw [show ((hd0.length + l0.length + 4 : Nat) : Int) = (hd0.length : Int) + (l0.length : Int) + 4 by omega] at hmk
    have HOM := Aside0.mk (show Kd.R (Kd.int .u8) 5 wm w.heap.size (fun _ => True) (.slice (some ⟨w1.heap.size, 0, none⟩) 0 (hd0.length + l0.length + 4)) [] from Kd.R_of_own hom (fun _ _ => trivial))
    have BM := Aside0.mk (show Below w1.heap.size w1 wm from (Below.refl _ _).grown hgm (Nat.le_refl _) (fun k e => by cases e))
    clear hom hgm
    have HBM := Aside0.mk (B1.out.trans (BM.out.mono B1.out.size))
    have HRM := Aside0.mk (Kd.C_below HR.out HBM.out)
    have HR1M := Aside0.mk (Kd.C_below HR1.out BM.out)
    go_wp2_with fail
    refine (frame_sum.calls (some ⟨wm.heap.size, 0, none⟩) 2 [hd0, l0] t _ (C_two wm A1 A0 c1 c0 hd0 l0 hc1 hc0 HR1M.out HRM.out) (Nat.le_refl _) HT.out).mono ?_
    rintro e w3 ⟨v3, rfl, ho3, hb3⟩
    obtain ⟨A3, c3, rfl, hc3, hr3⟩ := Kd.R_reads ho3
    have hb3' : Below wm.heap.size wm w3 := ((Below.refl _ _).alloc (Nat.le_refl _) _).trans (hb3.mono (by rw [World.size_alloc]; omega))
    have HB3 := Aside0.mk (HBM.out.trans (hb3'.mono HBM.out.size))
    have HO3 := Aside0.mk (Kd.R_step HOM.out (fun k _ hlt => hb3'.block k hlt))
    have hob := ho3.2
    have P1 := Aside0.mk (show Pc w3 w1.heap.size w3.heap.size A1 hd0 from ⟨Kd.C_below HR1M.out hb3', fun ad e hn => by
      have h1 := C_old HR1.out ad e hn
      have h2 := hb3'.size; have h3 := BM.out.size; omega⟩)
    have P0 := Aside0.mk (show Pc w3 w1.heap.size w3.heap.size A0 l0 from ⟨Kd.C_below HRM.out hb3', fun ad e hn => by
      have h1 := C_old HR.out ad e hn
      have h2 := hb3'.size; have h3 := BM.out.size; have h4 := B1.out.size; omega⟩)
    have P3 := Aside0.mk (show Pc w3 w1.heap.size w3.heap.size A3 t from ⟨hr3, fun ad e hn => by
      have h1 := C_old hr3 ad e hn
      obtain ⟨inner, ho, _⟩ := hob
      have h2 := own_base ho ad.block (by rw [e]; rfl)
      have h3 := BM.out.size; rw [World.size_alloc] at h2; omega⟩)
    have HO3 := Aside0.mk (show Kd.R (Kd.int .u8) 5 w3 w.heap.size (fun k => k = w1.heap.size ∨ w3.heap.size + 1 ≤ k) (.slice (some ⟨w1.heap.size, 0, none⟩) 0 (hd0.length + l0.length + 4)) [] from
      ⟨fun k hk => .inl (Option.some.inj hk).symm, (Kd.R_step HOM.out (fun k _ hlt => hb3'.block k hlt)).2⟩)
    clear ho3 hb3 hr3 HRM HR1M HBM hmk hob HR1
    have hb1s := hb3'.size
    have hlt1 : w1.heap.size < w3.heap.size := Nat.lt_of_lt_of_le (Kd.R_lt HOM.out w1.heap.size rfl) hb1s
    have hbms := BM.out.size
    clear hb3' BM HOM
    go_wp2_with fail
    have HB4 := Aside0.mk (HB3.out.alloc HB3.out.size (.cells #[.slice A1 hd0.length c1, .slice A0 l0.length c0, .slice A3 t.length c3] 22))
    have HO4 := Aside0.mk (Kd.R_alloc HO3.out (.cells #[.slice A1 hd0.length c1, .slice A0 l0.length c0, .slice A3 t.length c3] 22))
    have HG4 := Aside0.mk (show (w3.alloc (.cells #[.slice A1 hd0.length c1, .slice A0 l0.length c0, .slice A3 t.length c3] 22)).heap[w3.heap.size]? = some (.cells #[.slice A1 hd0.length c1, .slice A0 l0.length c0, .slice A3 t.length c3] 22 (0, 0)) by show (w3.heap.push _)[w3.heap.size]? = _; rw [Array.getElem?_push_size])
    have hex : Ex (fun _ => False) w3 (w3.alloc (.cells #[.slice A1 hd0.length c1, .slice A0 l0.length c0, .slice A3 t.length c3] 22)) := (Ex.refl _ _).alloc _
    have P14 := Aside0.mk (P1.out.step hex (fun _ h => h.elim))
    have P04 := Aside0.mk (P0.out.step hex (fun _ h => h.elim))
    have P34 := Aside0.mk (P3.out.step hex (fun _ h => h.elim))
    have hs4 : w3.heap.size < (w3.alloc (.cells #[.slice A1 hd0.length c1, .slice A0 l0.length c0, .slice A3 t.length c3] 22)).heap.size := by rw [World.size_alloc]; omega
    clear HB3 HO3 P1 P0 P3 hex
    generalize (w3.alloc (.cells #[.slice A1 hd0.length c1, .slice A0 l0.length c0, .slice A3 t.length c3] 22)) = w4 at *
    go_loopw [5, 29] (fun v i wr => ∃ k : Nat, i = .int .i64 k ∧ k ≤ 3 ∧ Aside0 (Kd.R (Kd.int .u8) 5 wr w.heap.size (fun k => k = w1.heap.size ∨ w3.heap.size + 1 ≤ k) v ([hd0, l0, t].take k).flatten) ∧ Aside0 (Below w.heap.size w wr) ∧ Aside0 (w4.heap.size ≤ wr.heap.size)
      ∧ Aside0 (wr.heap[w3.heap.size]? = some (.cells #[.slice A1 hd0.length c1, .slice A0 l0.length c0, .slice A3 t.length c3] 22 (0, 0))) ∧ Aside0 (Pc wr w1.heap.size w3.heap.size A1 hd0) ∧ Aside0 (Pc wr w1.heap.size w3.heap.size A0 l0) ∧ Aside0 (Pc wr w1.heap.size w3.heap.size A3 t)) (fun _ i _ => 3 - (intOf i).toNat)
    case atStart => exact ⟨0, rfl, Nat.zero_le _, HO4, HB4, ⟨Nat.le_refl _⟩, HG4, P14, P04, P34⟩
    case round =>
      clear HO4 HB4 HG4 P14 P04 P34
      obtain ⟨k, rfl, hk, HO0, HB, HS, HG, P1, P0, P3⟩ := hrel
      rcases (show k = 0 ∨ k = 1 ∨ k = 2 ∨ k = 3 by omega) with rfl | rfl | rfl | rfl
      · have HO := Aside0.mk (show Kd.R (Kd.int .u8) 5 wr w.heap.size (fun k => k = w1.heap.size ∨ w3.heap.size + 1 ≤ k) u5 ([] : List Int) by have := HO0.out; simpa using this)
        have HL := Aside0.mk (show ([] : List Int).length + hd0.length ≤ 140737488355328 by simp; omega)
        have k0 := blk_cell HG.out 0
        clear HO0
        go_wp2_with (first | ((with_reducible refine gate_builtin (b := .append) (xs := #[.tmp 33, .tmp 34]) rfl ?_); at_builtin; refine Kd.R_append_rows (Kd.int .u8) (w0 := w) w.heap.size rfl (.tmp 33) (.tmp 34) 22 5 (.int .u8 0) 1 rfl Try.underlying22 info5 rfl (by decide) (by omega) u5 ([] : List Int) hd0 A1 hd0.length c1 (fun k => k = w1.heap.size ∨ w3.heap.size + 1 ≤ k) (fun _ => False) rfl rfl HO.out P1.out.row (fun _ _ h => h) (fun _ h => h.elim) (fun k hk => .inr (by have := HS.out; omega)) HB.out (below_size HB.out) (by have := HL.out; omega) ?_; intro v5 w5 ho5 hb5 hg5 hat5; have HO5 := Aside0.mk ho5; have HB5 := Aside0.mk hb5; have HX5 := Aside0.mk (Ex.of_grown hg5); clear ho5 hb5 hg5 hat5))
        have hS : ∀ k, (some k = u5.ownBlock) → k = w1.heap.size ∨ w3.heap.size ≤ k := fun k hk => (HO.out.1 k hk.symm).imp id (fun h => by omega)
        have HG5 := Aside0.mk (HX5.out.heap HG.out (fun h => by have := HO.out.1 _ h.symm; omega))
        have Q1 := Aside0.mk (P1.out.step HX5.out hS)
        have Q0 := Aside0.mk (P0.out.step HX5.out hS)
        have Q3 := Aside0.mk (P3.out.step HX5.out hS)
        have HS5 := Aside0.mk (Nat.le_trans HS.out HX5.out.size)
        clear hS
        go_roundw
        case rel => exact ⟨1, rfl, by omega, ⟨by have := HO5.out; simpa using this⟩, HB5, HS5, HG5, Q1, Q0, Q3⟩
        case measure => simp [intOf]
      · have HO := Aside0.mk (show Kd.R (Kd.int .u8) 5 wr w.heap.size (fun k => k = w1.heap.size ∨ w3.heap.size + 1 ≤ k) u5 hd0 by have := HO0.out; simpa using this)
        have HL := Aside0.mk (show hd0.length + l0.length ≤ 140737488355328 by  omega)
        have k0 := blk_cell HG.out 1
        clear HO0
        go_wp2_with (first | ((with_reducible refine gate_builtin (b := .append) (xs := #[.tmp 33, .tmp 34]) rfl ?_); at_builtin; refine Kd.R_append_rows (Kd.int .u8) (w0 := w) w.heap.size rfl (.tmp 33) (.tmp 34) 22 5 (.int .u8 0) 1 rfl Try.underlying22 info5 rfl (by decide) (by omega) u5 hd0 l0 A0 l0.length c0 (fun k => k = w1.heap.size ∨ w3.heap.size + 1 ≤ k) (fun _ => False) rfl rfl HO.out P0.out.row (fun _ _ h => h) (fun _ h => h.elim) (fun k hk => .inr (by have := HS.out; omega)) HB.out (below_size HB.out) (by have := HL.out; omega) ?_; intro v5 w5 ho5 hb5 hg5 hat5; have HO5 := Aside0.mk ho5; have HB5 := Aside0.mk hb5; have HX5 := Aside0.mk (Ex.of_grown hg5); clear ho5 hb5 hg5 hat5))
        have hS : ∀ k, (some k = u5.ownBlock) → k = w1.heap.size ∨ w3.heap.size ≤ k := fun k hk => (HO.out.1 k hk.symm).imp id (fun h => by omega)
        have HG5 := Aside0.mk (HX5.out.heap HG.out (fun h => by have := HO.out.1 _ h.symm; omega))
        have Q1 := Aside0.mk (P1.out.step HX5.out hS)
        have Q0 := Aside0.mk (P0.out.step HX5.out hS)
        have Q3 := Aside0.mk (P3.out.step HX5.out hS)
        have HS5 := Aside0.mk (Nat.le_trans HS.out HX5.out.size)
        clear hS
        go_roundw
        case rel => exact ⟨2, rfl, by omega, ⟨by have := HO5.out; simpa using this⟩, HB5, HS5, HG5, Q1, Q0, Q3⟩
        case measure => simp [intOf]
      · have HO := Aside0.mk (show Kd.R (Kd.int .u8) 5 wr w.heap.size (fun k => k = w1.heap.size ∨ w3.heap.size + 1 ≤ k) u5 (hd0 ++ l0) by have := HO0.out; simpa using this)
        have HL := Aside0.mk (show (hd0 ++ l0).length + t.length ≤ 140737488355328 by rw [List.length_append]; omega)
        have k0 := blk_cell HG.out 2
        clear HO0
        go_wp2_with (first | ((with_reducible refine gate_builtin (b := .append) (xs := #[.tmp 33, .tmp 34]) rfl ?_); at_builtin; refine Kd.R_append_rows (Kd.int .u8) (w0 := w) w.heap.size rfl (.tmp 33) (.tmp 34) 22 5 (.int .u8 0) 1 rfl Try.underlying22 info5 rfl (by decide) (by omega) u5 (hd0 ++ l0) t A3 t.length c3 (fun k => k = w1.heap.size ∨ w3.heap.size + 1 ≤ k) (fun _ => False) rfl rfl HO.out P3.out.row (fun _ _ h => h) (fun _ h => h.elim) (fun k hk => .inr (by have := HS.out; omega)) HB.out (below_size HB.out) (by have := HL.out; omega) ?_; intro v5 w5 ho5 hb5 hg5 hat5; have HO5 := Aside0.mk ho5; have HB5 := Aside0.mk hb5; have HX5 := Aside0.mk (Ex.of_grown hg5); clear ho5 hb5 hg5 hat5))
        have hS : ∀ k, (some k = u5.ownBlock) → k = w1.heap.size ∨ w3.heap.size ≤ k := fun k hk => (HO.out.1 k hk.symm).imp id (fun h => by omega)
        have HG5 := Aside0.mk (HX5.out.heap HG.out (fun h => by have := HO.out.1 _ h.symm; omega))
        have Q1 := Aside0.mk (P1.out.step HX5.out hS)
        have Q0 := Aside0.mk (P0.out.step HX5.out hS)
        have Q3 := Aside0.mk (P3.out.step HX5.out hS)
        have HS5 := Aside0.mk (Nat.le_trans HS.out HX5.out.size)
        clear hS
        go_roundw
        case rel => exact ⟨3, rfl, by omega, ⟨by have := HO5.out; simpa using this⟩, HB5, HS5, HG5, Q1, Q0, Q3⟩
        case measure => simp [intOf]
      · have HO := Aside0.mk (show Kd.R (Kd.int .u8) 5 wr w.heap.size (fun _ => True) u5 r1 by
          have := HO0.out
          rw [← H1.out]
          exact Kd.R_mono (by simpa using this) (fun _ _ => trivial))
        obtain ⟨A9, c9, rfl⟩ := Kd.R_slice HO.out
        go_wp2_with fail
        go_ret2
        exact ⟨_, rfl, HO.out, HB.out⟩
end Go.Proofs.Ytcobdpkpefgdlaa.Given
