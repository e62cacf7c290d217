/- What CodecJoined does: the walk. -/
import Derived.Test.YtekbbpbpkekdhaaMany
namespace Go.Proofs.Ytekbbpbpkekdhaa.Given
open Go.RowKit Go.Proofs.Ytekbbpbpkekdhaa.Cod Go.Proofs.Ytekbbpbpkekdhaa.Ex Go.Proofs.Ytekbbpbpkekdhaa.PBase Go.Proofs.Ytekbbpbpkekdhaa.OpenS Go.Proofs.YtekbbpbpkekdhaaW.PrintWords Go.Proofs.YtekbbpbpkekdhaaW.PrintLast Go.Proofs.YtekbbpbpkekdhaaW.PrintMore
/-- What a script's element says: its cells. -/
theorem at_val {w : World} {A : Option Addr} {n : Nat} {l : List S29} (h : Kd.C k29 w A n l) (k : Nat) (hk : k < n) : ∃ x ad A4 c4, l[k]? = some x ∧ A = some ad ∧ w.cell? (ad.add (k * 7)) = some (.int .u8 x.f0) ∧ w.cell? ⟨(ad.add (k * 7)).block, (ad.add (k * 7)).off + 1, none⟩ = some (.int .u64 x.f1) ∧ w.cell? ⟨(ad.add (k * 7)).block, (ad.add (k * 7)).off + 2, none⟩ = some (.int .i64 x.f2) ∧ w.cell? ⟨(ad.add (k * 7)).block, (ad.add (k * 7)).off + 3, none⟩ = some (.bool x.f3) ∧ w.cell? ⟨(ad.add (k * 7)).block, (ad.add (k * 7)).off + 4, none⟩ = some (.slice A4 x.f4.length c4) ∧ w.cell? ⟨(ad.add (k * 7)).block, (ad.add (k * 7)).off + 5, none⟩ = some (.string x.f5) ∧ w.cell? ⟨(ad.add (k * 7)).block, (ad.add (k * 7)).off + 6, none⟩ = some (.int .i64 x.f6) ∧ Kd.C (Kd.int .u8) w A4 x.f4.length x.f4 ∧ x.f4.length ≤ c4 := by
  obtain ⟨ad, A4, c4, e, h0, h1, h2, h3, h4, h5, h6, hc, hr⟩ := at_T29 h (k : Int) (by omega) (by omega)
  have hl : k < l.length := by rw [h.1]; exact hk
  have he : rd_T29 l (k : Int) = l[k] := by unfold rd_T29; rw [Int.toNat_natCast, List.getD_eq_getElem?_getD, List.getElem?_eq_getElem hl]; rfl
  simp only [Int.toNat_natCast] at h0 h1 h2 h3 h4 h5 h6
  exact ⟨rd_T29 l (k : Int), ad, A4, c4, by rw [he]; exact List.getElem?_eq_getElem hl, e, h0, h1, h2, h3, h4, h5, h6, hr, hc⟩
theorem at_valB {w W : World} (hb : Below w.heap.size w W) {A : Option Addr} {n : Nat} {l : List S29} (h : Kd.C k29 w A n l) (k : Nat) (hk : k < n) : ∃ x ad A4 c4, l[k]? = some x ∧ A = some ad ∧ W.cell? (ad.add (k * 7)) = some (.int .u8 x.f0) ∧ W.cell? ⟨(ad.add (k * 7)).block, (ad.add (k * 7)).off + 1, none⟩ = some (.int .u64 x.f1) ∧ W.cell? ⟨(ad.add (k * 7)).block, (ad.add (k * 7)).off + 2, none⟩ = some (.int .i64 x.f2) ∧ W.cell? ⟨(ad.add (k * 7)).block, (ad.add (k * 7)).off + 3, none⟩ = some (.bool x.f3) ∧ W.cell? ⟨(ad.add (k * 7)).block, (ad.add (k * 7)).off + 4, none⟩ = some (.slice A4 x.f4.length c4) ∧ W.cell? ⟨(ad.add (k * 7)).block, (ad.add (k * 7)).off + 5, none⟩ = some (.string x.f5) ∧ W.cell? ⟨(ad.add (k * 7)).block, (ad.add (k * 7)).off + 6, none⟩ = some (.int .i64 x.f6) ∧ Kd.C (Kd.int .u8) w A4 x.f4.length x.f4 ∧ x.f4.length ≤ c4 := by
  obtain ⟨x, ad, A4, c4, hx, e, h0, h1, h2, h3, h4, h5, h6, hc, hr⟩ := at_val h k hk
  have t : ∀ {p : Addr} {v : Value}, w.cell? p = some v → W.cell? p = some v := fun {p v} h => (Below.cell hb (World.block_lt_of_cell? w _ h)).trans h
  exact ⟨x, ad, A4, c4, hx, e, t h0, t h1, t h2, t h3, t h4, t h5, t h6, hc, hr⟩
theorem great_calls (A0 : Option Addr) (c0 : Nat) (l0 : List S29) (b : Bool) (w W : World) (hB : Below w.heap.size w W) (hr0 : Kd.C k29 w A0 l0.length l0) (hc0 : l0.length ≤ c0) (hb : decide (300 < l0.length ∨ 20000 < (l0.map weigh).sum) = b) :
    Calls Try.prog 13 #[.slice A0 l0.length c0] W fun e w' => e = .returned (.bool b) ∧ Below w.heap.size w w' := by
  refine (tocsinlaw06_great.calls 301 A0 c0 l0 b W (Kd.C_below hr0 hB) hc0 (by rw [great_some, hb])).mono ?_
  rintro e w' ⟨rfl, hd⟩
  exact ⟨rfl, hB.trans (hd.below.mono hB.size)⟩
set_option maxHeartbeats 1000000 in
set_option maxRecDepth 100000 in
theorem joined_great0 (A0 : Option Addr) (c0 : Nat) (l0 : List S29) (A1 : Option Addr) (c1 : Nat) (l1 : List S29) (w : World) (hr0 : Kd.C k29 w A0 l0.length l0) (hc0 : l0.length ≤ c0)
    (h : decide (300 < l0.length ∨ 20000 < (l0.map weigh).sum) = true) : Calls Try.prog 5 #[.slice A0 l0.length c0, .slice A1 l1.length c1] w fun e w' => e = .returned (.bool true) ∧ Below w.heap.size w w' := by
  have HR := Aside0.mk hr0
  have H := Aside0.mk h
  clear hr0 h
  go_enter Try.func5, Try.ntmps5
  go_wp2_with fail
  refine (awake_any w).mono ?_
  rintro e w0 ⟨rfl, hb⟩
  have B0 := Aside0.mk hb
  clear hb
  go_wp2_with fail
  refine (great_calls A0 c0 l0 true w w0 B0.out HR.out hc0 H.out).mono ?_
  rintro e w1 ⟨rfl, hb⟩
  have B1 := Aside0.mk hb
  clear hb
  go_wp2_with fail
  go_ret
  exact ⟨rfl, B1.out⟩
set_option maxHeartbeats 1000000 in
set_option maxRecDepth 100000 in
theorem joined_great1 (A0 : Option Addr) (c0 : Nat) (l0 : List S29) (A1 : Option Addr) (c1 : Nat) (l1 : List S29) (w : World) (hr0 : Kd.C k29 w A0 l0.length l0) (hc0 : l0.length ≤ c0) (hr1 : Kd.C k29 w A1 l1.length l1) (hc1 : l1.length ≤ c1)
    (h : decide (300 < l0.length ∨ 20000 < (l0.map weigh).sum) = false) (h2 : decide (300 < l1.length ∨ 20000 < (l1.map weigh).sum) = true) : Calls Try.prog 5 #[.slice A0 l0.length c0, .slice A1 l1.length c1] w fun e w' => e = .returned (.bool true) ∧ Below w.heap.size w w' := by
  have HR := Aside0.mk hr0
  have HR1 := Aside0.mk hr1
  have H := Aside0.mk h
  have H2 := Aside0.mk h2
  clear hr0 hr1 h h2
  go_enter Try.func5, Try.ntmps5
  go_wp2_with fail
  refine (awake_any w).mono ?_
  rintro e w0 ⟨rfl, hb⟩
  have B0 := Aside0.mk hb
  clear hb
  go_wp2_with fail
  refine (great_calls A0 c0 l0 false w w0 B0.out HR.out hc0 H.out).mono ?_
  rintro e w1 ⟨rfl, hb⟩
  have B1 := Aside0.mk hb
  clear hb
  go_wp2_with fail
  refine (great_calls A1 c1 l1 true w w1 B1.out HR1.out hc1 H2.out).mono ?_
  rintro e w2 ⟨rfl, hb⟩
  have B2 := Aside0.mk hb
  clear hb
  go_wp2_with fail
  go_ret
  exact ⟨rfl, B2.out⟩
theorem three_new (w w1 w2 w3 : World) (h1 : w1 = w.alloc (.cells #[.slice none 0 0, .bool true] 62)) (h2 : w2 = w1.alloc (.cells #[.slice none 0 0, .bool true] 62)) (h3 : w3 = w2.alloc (.cells #[.slice none 0 0, .bool true] 62)) {B : Nat} (hB : B ≤ w.heap.size) :
    WAt w3 B w.heap.size (.slice none 0 0) [] ∧ WAt w3 B w1.heap.size (.slice none 0 0) [] ∧ WAt w3 B w2.heap.size (.slice none 0 0) [] ∧ Ap w.heap.size (.slice none 0 0) w1.heap.size (.slice none 0 0) ∧ Ap w.heap.size (.slice none 0 0) w2.heap.size (.slice none 0 0) ∧ Ap w1.heap.size (.slice none 0 0) w2.heap.size (.slice none 0 0) ∧ Below w.heap.size w w3 := by
  have e1 : w1.heap.size = w.heap.size + 1 := by rw [h1]; show (w.heap.push _).size = _; simp
  have e2 : w2.heap.size = w.heap.size + 2 := by rw [h2]; show (w1.heap.push _).size = _; rw [Array.size_push, e1]
  have ap : ∀ a b : Nat, a ≠ b → Ap a (.slice none 0 0) b (.slice none 0 0) := fun a b h => ⟨h, (fun e => by cases e), (fun e => by cases e), (fun k hk => by cases hk)⟩
  refine ⟨?_, ?_, ?_, ap _ _ (by omega), ap _ _ (by omega), ap _ _ (by omega), ?_⟩
  · rw [h3]; refine WAt.alloc ?_ _; rw [h2]; refine WAt.alloc ?_ _; rw [h1]; exact WAt.new w hB
  · rw [h3]; refine WAt.alloc ?_ _; rw [h2]; exact WAt.new w1 (by omega)
  · rw [h3]; exact WAt.new w2 (by omega)
  · rw [h3]; refine Below.alloc ?_ (by omega) _; rw [h2]; refine Below.alloc ?_ (by omega) _; rw [h1]; exact (Below.refl _ _).alloc (Nat.le_refl _) _
theorem fl_room {l : List S29} {k : Nat} (hk : k < l.length) (hv : ∀ x ∈ l, wfV x) (h : ¬ (300 < l.length ∨ 20000 < (l.map weigh).sum)) : (fl (l.take k)).length + weigh l[k] ≤ 46000 := by
  have h1 := take_weigh (l := l) (k + 1)
  rw [List.take_succ_eq_append_getElem hk, List.map_append, List.sum_append] at h1
  simp only [List.map_cons, List.map_nil, List.sum_cons, List.sum_nil] at h1
  have h2 := fl_len (l.take k) (fun x hx => hv x (List.mem_of_mem_take hx)) (by omega)
  have h3 : (l.take k).length ≤ 300 := by rw [List.length_take]; omega
  omega
theorem fl_all {l : List S29} (hv : ∀ x ∈ l, wfV x) (h : ¬ (300 < l.length ∨ 20000 < (l.map weigh).sum)) : (fl l).length ≤ 46000 := by
  have h2 := fl_len l hv (by omega)
  omega
/-- write, of a script's element. -/
theorem write_val (base g : Nat) (v : Value) (bs : List Int) (x : S29) (A : Option Addr) (c : Nat) (w0 w : World) (hw : WAt w base g v bs) (hx : wfV x) (hB : Below w0.heap.size w0 w) (hb : w0.heap.size ≤ base) (hr : Kd.C (Kd.int .u8) w0 A x.f4.length x.f4) (hl : bs.length + weigh x ≤ 100000) :
    Calls Try.prog 16 #[.pointer (some ⟨g, 0, none⟩), .agg #[.int .u8 x.f0, .int .u64 x.f1, .int .i64 x.f2, .bool x.f3, .slice A x.f4.length c, .string x.f5, .int .i64 x.f6]] w (Wrs base g v w (bs ++ form (toV x))) := by
  refine write_any base g v bs (toV x) A c w hw (wf_ok hx) (Kd.C_below hr hB) ?_ (by have : (toV x).l.length + (toV x).s.size = weigh x := rfl; omega)
  intro ad e hn h
  have hlt := C_old hr ad e hn
  rcases h with h | h
  · have := hw.low; omega
  · have := hw.own_ge _ h.symm; omega
set_option maxHeartbeats 2000000 in
set_option maxRecDepth 100000 in
theorem joined_few (A0 : Option Addr) (c0 : Nat) (l0 : List S29) (A1 : Option Addr) (c1 : Nat) (l1 : List S29) (w : World) (hr0 : Kd.C k29 w A0 l0.length l0) (hc0 : l0.length ≤ c0) (hr1 : Kd.C k29 w A1 l1.length l1) (hc1 : l1.length ≤ c1) (hv0 : ∀ x ∈ l0, wfV x) (hv1 : ∀ x ∈ l1, wfV x)
    (h : ¬ (300 < l0.length ∨ 20000 < (l0.map weigh).sum)) (h2 : ¬ (300 < l1.length ∨ 20000 < (l1.map weigh).sum)) : Calls Try.prog 5 #[.slice A0 l0.length c0, .slice A1 l1.length c1] w fun e w' => e = .returned (.bool true) ∧ Below w.heap.size w w' := by
  have HR := Aside0.mk hr0
  have HR1 := Aside0.mk hr1
  have H := Aside0.mk (decide_eq_false h)
  have H2 := Aside0.mk (decide_eq_false h2)
  have V0 := Aside0.mk hv0
  have V1 := Aside0.mk hv1
  have L0 := Aside0.mk h
  have L1 := Aside0.mk h2
  have hl300 : l0.length ≤ 300 := by omega
  have hm300 : l1.length ≤ 300 := by omega
  clear hr0 hr1 h h2 hv0 hv1
  go_enter Try.func5, Try.ntmps5
  go_wp2_with fail
  refine (awake_any w).mono ?_
  rintro e w0 ⟨rfl, hb⟩
  have B0 := Aside0.mk hb
  clear hb
  go_wp2_with fail
  refine (great_calls A0 c0 l0 false w w0 B0.out HR.out hc0 H.out).mono ?_
  rintro e w1 ⟨rfl, hb⟩
  have B1 := Aside0.mk hb
  clear hb B0 H
  go_wp2_with fail
  refine (great_calls A1 c1 l1 false w w1 B1.out HR1.out hc1 H2.out).mono ?_
  rintro e w2 ⟨rfl, hb⟩
  have B2 := Aside0.mk hb
  clear hb B1 H2
  go_wp2_with fail
  refine (new_any w2).mono ?_
  rintro e w3 ⟨rfl, h3⟩
  have N3 := Aside0.mk h3
  clear h3
  go_wp2_with fail
  refine (new_any w3).mono ?_
  rintro e w4 ⟨rfl, h4⟩
  have N4 := Aside0.mk h4
  clear h4
  go_wp2_with fail
  refine (new_any w4).mono ?_
  rintro e w5 ⟨rfl, h5⟩
  obtain ⟨ha, hb, hc, ab, ac, bc, hbel⟩ := three_new w2 w3 w4 w5 N3.out N4.out h5 (B := w.heap.size) B2.out.size
  have HA := Aside0.mk ha
  have HB := Aside0.mk hb
  have HC := Aside0.mk hc
  have AB := Aside0.mk ab
  have AC := Aside0.mk ac
  have BC := Aside0.mk bc
  have B5 := Aside0.mk (B2.out.trans (hbel.mono B2.out.size))
  clear ha hb hc ab ac bc hbel N3 N4 h5 B2
  generalize w2.heap.size = ga at *
  generalize w3.heap.size = gb at *
  generalize w4.heap.size = gc at *
  go_wp2_with fail
  go_loopw [8] (fun i wr => ∃ (k : Nat) (va vc : Value), i = .int .i64 k ∧ k ≤ l0.length ∧ Aside0 (WAt wr w.heap.size ga va (fl (l0.take k))) ∧ Aside0 (WAt wr w.heap.size gc vc (fl (l0.take k))) ∧ Aside0 (WAt wr w.heap.size gb (.slice none 0 0) []) ∧ Aside0 (Ap ga va gc vc) ∧ Aside0 (Ap ga va gb (.slice none 0 0)) ∧ Aside0 (Ap gb (.slice none 0 0) gc vc) ∧ Aside0 (Below w.heap.size w wr)) (fun i _ => l0.length - (intOf i).toNat)
  case atStart => exact ⟨0, _, _, rfl, Nat.zero_le _, HA, HC, HB, AC, AB, BC, B5⟩
  case round =>
    clear HA HB HC AB AC BC B5
    obtain ⟨k, va, vc, rfl, hk, HA, HC, HB, AC, AB, BC, BW⟩ := hrel
    by_cases hlt : k < l0.length
    · obtain ⟨x, ad, A4, c4, hx, rfl, f0, f1, f2, f3, f4, f5, f6, hr4, hc4⟩ := at_valB BW.out HR.out k hlt
      have hxl : l0[k] = x := by rw [List.getElem?_eq_getElem hlt] at hx; exact Option.some.inj hx
      have HX := Aside0.mk (V0.out x (List.mem_of_getElem? hx))
      have hfl := fl_room hlt V0.out L0.out
      rw [hxl] at hfl
      have HL := Aside0.mk hfl
      have HXL := Aside0.mk hxl
      have HR4 := Aside0.mk hr4
      clear hx hxl hfl hr4 hc4
      go_wp2_with fail
      refine (write_val w.heap.size ga va _ x A4 c4 w wr HA.out HX.out BW.out (Nat.le_refl _) HR4.out (by have := HL.out; omega)).mono ?_
      rintro e w6 ⟨rfl, v6, h6⟩
      have HA6 := Aside0.mk (show WAt w6 w.heap.size ga v6 (fl (l0.take (k + 1))) by rw [fl_take hlt, HXL.out]; exact h6.at')
      obtain ⟨hc6, ac6⟩ := h6.beside HC.out AC.out
      obtain ⟨hb6, ab6⟩ := h6.beside HB.out AB.out
      have HC6 := Aside0.mk hc6
      have AC6 := Aside0.mk ac6
      have HB6 := Aside0.mk hb6
      have AB6 := Aside0.mk ab6
      have BW6 := Aside0.mk (BW.out.trans (h6.below HA.out (Nat.le_refl _)))
      clear h6 hc6 ac6 hb6 ab6 HA HC HB AC AB BW HX HL HXL HR4 f0 f1 f2 f3 f4 f5 f6
      obtain ⟨x, ad2, A4, c4, hx, hade, f0, f1, f2, f3, f4, f5, f6, hr4, hc4⟩ := at_valB BW6.out HR.out k hlt
      obtain rfl := Option.some.inj hade
      have hxl : l0[k] = x := by rw [List.getElem?_eq_getElem hlt] at hx; exact Option.some.inj hx
      have HX := Aside0.mk (V0.out x (List.mem_of_getElem? hx))
      have hfl := fl_room hlt V0.out L0.out
      rw [hxl] at hfl
      have HL := Aside0.mk hfl
      have HXL := Aside0.mk hxl
      have HR4 := Aside0.mk hr4
      clear hx hxl hfl hr4 hc4 hade
      go_wp2_with fail
      refine (write_val w.heap.size gc vc _ x A4 c4 w w6 HC6.out HX.out BW6.out (Nat.le_refl _) HR4.out (by have := HL.out; omega)).mono ?_
      rintro e w7 ⟨rfl, v7, h7⟩
      have HC7 := Aside0.mk (show WAt w7 w.heap.size gc v7 (fl (l0.take (k + 1))) by rw [fl_take hlt, HXL.out]; exact h7.at')
      obtain ⟨ha7, ac7⟩ := h7.beside HA6.out AC6.out.symm
      obtain ⟨hb7, bc7⟩ := h7.beside HB6.out BC.out.symm
      have HA7 := Aside0.mk ha7
      have AC7 := Aside0.mk ac7.symm
      have HB7 := Aside0.mk hb7
      have BC7 := Aside0.mk bc7.symm
      have BW7 := Aside0.mk (BW6.out.trans (h7.below HC6.out (Nat.le_refl _)))
      clear h7 ha7 ac7 hb7 bc7 HA6 HC6 HB6 AC6 BC BW6 HX HL HXL HR4 f0 f1 f2 f3 f4 f5 f6
      go_wp2_with fail
      go_roundw
      case rel => exact ⟨k + 1, v6, v7, by go_num, by omega, HA7, HC7, HB7, AC7, AB6, BC7, BW7⟩
      case measure => simp [intOf]; omega
    · obtain rfl : k = l0.length := by omega
      rw [List.take_length] at HA HC
      have F0 := Aside0.mk (fl_all V0.out L0.out)
      clear hlt hk
      go_wp2_with fail
      go_loopw [9] (fun i wr => ∃ (k : Nat) (vb vd : Value), i = .int .i64 k ∧ k ≤ l1.length ∧ Aside0 (WAt wr w.heap.size gb vb (fl (l1.take k))) ∧ Aside0 (WAt wr w.heap.size gc vd (fl l0 ++ fl (l1.take k))) ∧ Aside0 (WAt wr w.heap.size ga va (fl l0)) ∧ Aside0 (Ap gb vb gc vd) ∧ Aside0 (Ap ga va gb vb) ∧ Aside0 (Ap ga va gc vd) ∧ Aside0 (Below w.heap.size w wr)) (fun i _ => l1.length - (intOf i).toNat)
      case atStart => exact ⟨0, _, _, rfl, Nat.zero_le _, HB, ⟨show WAt _ _ _ _ (fl l0 ++ []) by rw [List.append_nil]; exact HC.out⟩, HA, BC, AB, AC, BW⟩
      case round =>
        clear HA HB HC AB AC BC BW
        obtain ⟨k, vb, vd, rfl, hk, HB, HC, HA, BC, AB, AC, BW⟩ := hrel
        by_cases hlt : k < l1.length
        · obtain ⟨x, ad, A4, c4, hx, rfl, f0, f1, f2, f3, f4, f5, f6, hr4, hc4⟩ := at_valB BW.out HR1.out k hlt
          have hxl : l1[k] = x := by rw [List.getElem?_eq_getElem hlt] at hx; exact Option.some.inj hx
          have HX := Aside0.mk (V1.out x (List.mem_of_getElem? hx))
          have hfl := fl_room hlt V1.out L1.out
          rw [hxl] at hfl
          have HL := Aside0.mk hfl
          have HXL := Aside0.mk hxl
          have HR4 := Aside0.mk hr4
          clear hx hxl hfl hr4 hc4
          go_wp2_with fail
          refine (write_val w.heap.size gb vb _ x A4 c4 w _ HB.out HX.out BW.out (Nat.le_refl _) HR4.out (by have := HL.out; omega)).mono ?_
          rintro e w6 ⟨rfl, v6, h6⟩
          have HB6 := Aside0.mk (show WAt w6 w.heap.size gb v6 (fl (l1.take (k + 1))) by rw [fl_take hlt, HXL.out]; exact h6.at')
          obtain ⟨hc6, bc6⟩ := h6.beside HC.out BC.out
          obtain ⟨ha6, ab6⟩ := h6.beside HA.out AB.out.symm
          have HC6 := Aside0.mk hc6
          have BC6 := Aside0.mk bc6
          have HA6 := Aside0.mk ha6
          have AB6 := Aside0.mk ab6.symm
          have BW6 := Aside0.mk (BW.out.trans (h6.below HB.out (Nat.le_refl _)))
          clear h6 hc6 bc6 ha6 ab6 HA HC HB BC AB BW HX HL HXL HR4 f0 f1 f2 f3 f4 f5 f6
          obtain ⟨x, ad2, A4, c4, hx, hade, f0, f1, f2, f3, f4, f5, f6, hr4, hc4⟩ := at_valB BW6.out HR1.out k hlt
          obtain rfl := Option.some.inj hade
          have hxl : l1[k] = x := by rw [List.getElem?_eq_getElem hlt] at hx; exact Option.some.inj hx
          have HX := Aside0.mk (V1.out x (List.mem_of_getElem? hx))
          have hfl := fl_room hlt V1.out L1.out
          rw [hxl] at hfl
          have HL := Aside0.mk hfl
          have HXL := Aside0.mk hxl
          have HR4 := Aside0.mk hr4
          clear hx hxl hfl hr4 hc4 hade
          go_wp2_with fail
          refine (write_val w.heap.size gc vd _ x A4 c4 w w6 HC6.out HX.out BW6.out (Nat.le_refl _) HR4.out (by have := HL.out; have := F0.out; rw [List.length_append]; omega)).mono ?_
          rintro e w7 ⟨rfl, v7, h7⟩
          have HC7 := Aside0.mk (show WAt w7 w.heap.size gc v7 (fl l0 ++ fl (l1.take (k + 1))) by rw [fl_take hlt, HXL.out, ← List.append_assoc]; exact h7.at')
          obtain ⟨hb7, bc7⟩ := h7.beside HB6.out BC6.out.symm
          obtain ⟨ha7, ac7⟩ := h7.beside HA6.out AC.out.symm
          have HB7 := Aside0.mk hb7
          have BC7 := Aside0.mk bc7.symm
          have HA7 := Aside0.mk ha7
          have AC7 := Aside0.mk ac7.symm
          have BW7 := Aside0.mk (BW6.out.trans (h7.below HC6.out (Nat.le_refl _)))
          clear h7 hb7 bc7 ha7 ac7 HA6 HC6 HB6 BC6 AC BW6 HX HL HXL HR4 f0 f1 f2 f3 f4 f5 f6
          go_wp2_with fail
          go_roundw
          case rel => exact ⟨k + 1, v6, v7, by go_num, by omega, HB7, HC7, HA7, BC7, AB6, AC7, BW7⟩
          case measure => simp [intOf]; omega
        · obtain rfl : k = l1.length := by omega
          rw [List.take_length] at HB HC
          have F1 := Aside0.mk (fl_all V1.out L1.out)
          have hf0 := F0.out
          have hf1 := F1.out
          clear hlt hk AB BC AC V0 V1 L0 L1
          generalize fl l0 = x0 at *
          generalize fl l1 = x1 at *
          obtain ⟨z, hz⟩ : ∃ z, z = x0 ++ x1 := ⟨_, rfl⟩
          have hzl : z.length ≤ 92000 := by rw [hz, List.length_append]; omega
          rw [← hz] at HC
          have HZ := Aside0.mk hz
          clear hz
          go_wp2_with fail
          refine (out_any w.heap.size ga va x0 _ HA.out (by omega)).mono ?_
          rintro e w8 ⟨v8, rfl, ho8, hb8⟩
          obtain ⟨A8, c8, rfl⟩ := Kd.R_slice ho8
          have O8 := Aside0.mk ho8
          have B8 := Aside0.mk hb8
          clear ho8 hb8
          go_wp2_with fail
          refine (out_any w.heap.size gb vb x1 w8 (HB.out.below B8.out) (by omega)).mono ?_
          rintro e w9 ⟨v9, rfl, ho9, hb9⟩
          obtain ⟨A9, c9, rfl, hc9, hr9⟩ := Kd.R_reads ho9
          have O9 := Aside0.mk (Kd.R_step O8.out (fun k _ hlt => hb9.block k hlt))
          have HR9 := Aside0.mk hr9
          have B9 := Aside0.mk (B8.out.trans (hb9.mono B8.out.size))
          have s9 := B9.out.size
          clear ho9 hb9 hr9 hc9 O8 B8
          go_wp2_with ((with_reducible refine gate_builtin (b := .append) (xs := #[.tmp 60, .tmp 62]) rfl ?_); at_builtin; refine Kd.R_append_rows (Kd.int .u8) (w0 := _) _ rfl (.tmp 60) (.tmp 62) 26 5 (.int .u8 0) 1 rfl Try.underlying26 Cod.info5 rfl (by decide) (by omega) _ x0 x1 A9 _ c9 (fun _ => True) (fun _ => False) rfl rfl O9.out HR9.out (fun _ _ h => h) (fun _ h => h.elim) (fun k hk => trivial) B9.out s9 (by omega) ?_; intro v10 w10 ho10 hb10 hg10 hat10; rw [← HZ.out] at ho10; obtain ⟨A10, c10, rfl, hc10, hr10⟩ := Kd.R_reads ho10; have HR10 := Aside0.mk hr10; have C10 := Aside0.mk hc10; have B10 := Aside0.mk hb10; clear ho10 hb10 hg10 hat10 hr10 hc10)
          refine (out_any w.heap.size gc vd z w10 (HC.out.below B10.out) (by omega)).mono ?_
          rintro e w11 ⟨v11, rfl, ho11, hb11⟩
          obtain ⟨A11, c11, rfl, hc11, hr11⟩ := Kd.R_reads ho11
          have HR11 := Aside0.mk hr11
          have C11 := Aside0.mk hc11
          have HS := Aside0.mk (Kd.C_below HR10.out hb11)
          have BE := Aside0.mk (BW.out.trans ((B10.out.trans (hb11.mono B10.out.size)).mono BW.out.size))
          clear ho11 hb11 hr11 hc11 HR10 B10 B9 O9 HR9 HA HB HC BW
          have hxl : z.length ≤ 4611686018427387904 := by omega
          go_wp2_with fail
          refine (sameR (Below.refl _ _) HR11.out C11.out HS.out C10.out hxl).mono ?_
          rintro e w12 ⟨rfl, hb12, _⟩
          have BF := Aside0.mk (BE.out.trans (hb12.mono BE.out.size))
          clear hb12
          go_wp2_with fail
          go_ret
          exact ⟨by first | rfl | simp, BF.out⟩
theorem CodecJoined_walk (A0 : Option Addr) (c0 : Nat) (l0 : List S29) (A1 : Option Addr) (c1 : Nat) (l1 : List S29) (w : World) (hr0 : Kd.C k29 w A0 l0.length l0) (hc0 : l0.length ≤ c0) (hw0 : wfAll (Try.prog.bytesOf 29) wfV l0) (hr1 : Kd.C k29 w A1 l1.length l1) (hc1 : l1.length ≤ c1) (hw1 : wfAll (Try.prog.bytesOf 29) wfV l1) :
    Calls Try.prog 5 #[.slice A0 l0.length c0, .slice A1 l1.length c1] w fun e w' => e = .returned (.bool true) ∧ Below w.heap.size w w' := by
  by_cases h : 300 < l0.length ∨ 20000 < (l0.map weigh).sum
  · exact joined_great0 A0 c0 l0 A1 c1 l1 w hr0 hc0 (decide_eq_true h)
  by_cases h2 : 300 < l1.length ∨ 20000 < (l1.map weigh).sum
  · exact joined_great1 A0 c0 l0 A1 c1 l1 w hr0 hc0 hr1 hc1 (decide_eq_false h) (decide_eq_true h2)
  exact joined_few A0 c0 l0 A1 c1 l1 w hr0 hc0 hr1 hc1 hw0.2 hw1.2 h h2
end Go.Proofs.Ytekbbpbpkekdhaa.Given
