/- What codec's Writer.Int, Bool, Bytes, Text, Len, Out and New do: the walks. -/
import Derived.Test.YtekbbpbpkekdhaaUint
namespace Go.Proofs.Ytekbbpbpkekdhaa.Cod
open Go.RowKit Go.Proofs.Ytekbbpbpkekdhaa.Ex Go.Proofs.YtekbbpbpkekdhaaW.PrintWords Go.Proofs.YtekbbpbpkekdhaaW.PrintLast Go.Proofs.YtekbbpbpkekdhaaW.PrintMore
theorem WAt.ex {S : Nat → Prop} {w w1 : World} {base g : Nat} {v : Value} {bs : List Int} (h : WAt w base g v bs) (hx : Ex S w w1) (hg : ¬ S g) (hv : ∀ k, v.ownBlock = some k → ¬ S k) : WAt w1 base g v bs :=
  ⟨hx.heap h.blk hg, h.low, by
    have h2 : Kd.R (Kd.int .u8) 5 w base (fun k => v.ownBlock = some k) v bs := ⟨fun k hk => hk, h.row.2.imp_ (fun _ _ hp => hp)⟩
    exact Kd.R_mono (Kd.R_step h2 (fun k hk hlt => hx.block k hlt (hv k hk))) (fun k hk => h.row.1 k hk)⟩
theorem len_any (base g : Nat) (v : Value) (bs : List Int) (n : Int) (w : World) (hw : WAt w base g v bs) (hn0 : -9223372036854775808 ≤ n) (hn : n ≤ 9223372036854775807) (hl : bs.length + 10 ≤ 140737488355328) :
    Calls Try.prog 35 #[.pointer (some ⟨g, 0, none⟩), .int .i64 n] w (Wrs base g v w (bs ++ enc n.toNat)) := by
  have HW := Aside0.mk hw
  clear hw
  by_cases h0 : n < 0
  · have e0 : n.toNat = 0 := by omega
    rw [e0]
    clear e0
    go_enter Try.func35, Try.ntmps35
    go_wp2_with fail
    refine (uint_any base g v bs 0 w HW.out (by omega) hl).mono ?_
    rintro e w1 ⟨rfl, v1, h1⟩
    have H1 := Aside0.mk h1
    clear h1
    go_wp2_with fail
    go_end0
    exact ⟨rfl, v1, H1.out⟩
  · obtain ⟨m, rfl⟩ := Int.eq_ofNat_of_zero_le (show 0 ≤ n by omega)
    rw [Int.toNat_natCast]
    go_enter Try.func35, Try.ntmps35
    go_wp2_with fail
    refine (uint_any base g v bs m w HW.out (by omega) hl).mono ?_
    rintro e w1 ⟨rfl, v1, h1⟩
    have H1 := Aside0.mk h1
    clear h1
    go_wp2_with fail
    go_end0
    exact ⟨rfl, v1, H1.out⟩
set_option maxHeartbeats 400000 in
theorem bool_any (base g : Nat) (v : Value) (bs : List Int) (b : Bool) (w : World) (hw : WAt w base g v bs) (hl : bs.length + 10 ≤ 140737488355328) :
    Calls Try.prog 32 #[.pointer (some ⟨g, 0, none⟩), .bool b] w (Wrs base g v w (bs ++ [if b = true then 1 else 0])) := by
  have HW := Aside0.mk hw
  clear hw
  cases b with
  | true =>
    go_enter Try.func32, Try.ntmps32
    go_wp2_with fail
    refine (put_any base g v bs [1] _ 1 1 _ (HW.out.alloc _) (C_lit w [1] (0, 0) (by simp)) (by omega)).mono ?_
    rintro e w1 ⟨rfl, v1, h1⟩
    have H1 := Aside0.mk h1
    clear h1
    go_wp2_with fail
    go_end0
    exact ⟨rfl, v1, ((Wrote.refl HW.out).alloc _).trans H1.out⟩
  | false =>
    go_enter Try.func32, Try.ntmps32
    go_wp2_with fail
    refine (put_any base g v bs [0] _ 1 1 _ (HW.out.alloc _) (C_lit w [0] (0, 0) (by simp)) (by omega)).mono ?_
    rintro e w1 ⟨rfl, v1, h1⟩
    have H1 := Aside0.mk h1
    clear h1
    go_wp2_with fail
    go_end0
    exact ⟨rfl, v1, ((Wrote.refl HW.out).alloc _).trans H1.out⟩
set_option maxHeartbeats 400000 in
theorem int_any (base g : Nat) (v : Value) (bs : List Int) (x : Int) (w : World) (hw : WAt w base g v bs) (h0 : -9223372036854775808 ≤ x) (h1 : x ≤ 9223372036854775807) (hl : bs.length + 10 ≤ 140737488355328) :
    Calls Try.prog 30 #[.pointer (some ⟨g, 0, none⟩), .int .i64 x] w (Wrs base g v w (bs ++ enc (zig x))) := by
  have HW := Aside0.mk hw
  clear hw
  have hz := zig_lt h0 h1
  have HZ := Aside0.mk (zig_eq x h0 h1)
  go_enter Try.func30, Try.ntmps30
  go_wp2_with fail
  rw [HZ.out]
  refine (uint_any base g v bs (zig x) w HW.out hz hl).mono ?_
  rintro e w1 ⟨rfl, v1, h1⟩
  have H1 := Aside0.mk h1
  clear h1 HZ
  go_wp2_with fail
  go_end0
  exact ⟨rfl, v1, H1.out⟩
/-- Bytes: how many, then these. -/
def encB (ys : List Int) : List Int := enc ys.length ++ ys
theorem C_ex {S : Nat → Prop} {w w' : World} {A : Option Addr} {n : Nat} {xs : List Int} (h : Kd.C (Kd.int .u8) w A n xs) (hx : Ex S w w') (hA : ∀ ad, A = some ad → 0 < n → ¬ S ad.block) : Kd.C (Kd.int .u8) w' A n xs := by
  refine ⟨h.1, h.2.1, fun hn => ?_⟩
  obtain ⟨ad, e, hc⟩ := h.2.2 hn
  refine ⟨ad, e, fun j p hj => ?_⟩
  obtain ⟨c, hs, hr, hcell⟩ := hc j p hj
  refine ⟨c, hs, hr, fun i u hu => ?_⟩
  have h1 := hcell i u hu
  have hb : (ad.add (j * (Kd.int .u8).sz + i)).block = ad.block := by unfold Addr.add; split <;> rfl
  have hlt := World.block_lt_of_cell? w _ h1
  exact (hx.cell hlt (by rw [hb]; exact hA ad e hn)).trans h1
set_option maxHeartbeats 400000 in
theorem bytes_any (base g : Nat) (v : Value) (bs ys : List Int) (A : Option Addr) (c : Nat) (w : World) (hw : WAt w base g v bs) (hr : Kd.C (Kd.int .u8) w A ys.length ys) (hA : ∀ ad, A = some ad → 0 < ys.length → ¬ (ad.block = g ∨ some ad.block = v.ownBlock)) (hl : bs.length + ys.length + 10 ≤ 140737488355328) :
    Calls Try.prog 33 #[.pointer (some ⟨g, 0, none⟩), .slice A ys.length c] w (Wrs base g v w (bs ++ encB ys)) := by
  have HW := Aside0.mk hw
  have HR := Aside0.mk hr
  have HA := Aside0.mk hA
  have hle : (enc ys.length).length ≤ 10 := enc_le10 (by omega)
  clear hw hr hA
  go_enter Try.func33, Try.ntmps33
  go_wp2_with fail
  refine (len_any base g v bs (ys.length : Int) w HW.out (by omega) (by omega) (by omega)).mono ?_
  rintro e w1 ⟨rfl, v1, h1⟩
  rw [Int.toNat_natCast] at h1
  have H1 := Aside0.mk h1
  have HR1 := Aside0.mk (C_ex HR.out h1.ex HA.out)
  clear h1
  go_wp2_with fail
  refine (put_any base g v1 (bs ++ enc ys.length) ys A ys.length c w1 H1.out.at' HR1.out (by rw [List.length_append]; omega)).mono ?_
  rintro e w2 ⟨rfl, v2, h2⟩
  have H2 := Aside0.mk h2
  clear h2
  go_wp2_with fail
  go_end0
  exact ⟨rfl, v2, by unfold encB; rw [← List.append_assoc]; exact H1.out.trans H2.out⟩
theorem bytes_anyN (base g : Nat) (v : Value) (bs ys : List Int) (n : Nat) (A : Option Addr) (c : Nat) (w : World) (hn : ys.length = n) (hw : WAt w base g v bs) (hr : Kd.C (Kd.int .u8) w A n ys) (hA : ∀ ad, A = some ad → 0 < ys.length → ¬ (ad.block = g ∨ some ad.block = v.ownBlock)) (hl : bs.length + n + 10 ≤ 140737488355328) :
    Calls Try.prog 33 #[.pointer (some ⟨g, 0, none⟩), .slice A n c] w (Wrs base g v w (bs ++ encB ys)) := by
  subst hn
  exact bytes_any base g v bs ys A c w hw hr hA hl
/-- A text's bytes. -/
def chars (s : ByteArray) : List Int := s.data.toList.map fun b => (b.toNat : Int)
set_option maxHeartbeats 400000 in
theorem text_any (base g : Nat) (v : Value) (bs : List Int) (s : ByteArray) (w : World) (hw : WAt w base g v bs) (hl : bs.length + s.size + 10 ≤ 140737488355328) :
    Calls Try.prog 34 #[.pointer (some ⟨g, 0, none⟩), .string s] w (Wrs base g v w (bs ++ encB (chars s))) := by
  have HW := Aside0.mk hw
  clear hw
  have kb := fun w => Lib.run_convert_string_bytes (P := Try.prog) w 9 26 5 s Try.underlying9 Try.underlying26 Try.underlying5
  have hE : Ex (fun _ => False) w (Lib.bytesWorld w 5 s) := ⟨rfl, rfl, rfl, by rw [Lib.bytesWorld_size]; omega, fun k hk _ => Lib.bytesWorld_at_old w 5 s k hk⟩
  have HE := Aside0.mk hE
  have hlc : (chars s).length = s.size := by unfold chars; rw [List.length_map, Array.length_toList]; rfl
  have HL := Aside0.mk hlc
  have hC : Kd.C (Kd.int .u8) (Lib.bytesWorld w 5 s) (some ⟨w.heap.size, 0, none⟩) (chars s).length (chars s) := Ci_of_cells _ _ _ (by omega) fun j x hj => by
    have hj2 : j < s.size := by rw [← hlc]; exact (List.getElem?_eq_some_iff.1 hj).1
    rw [Lib.bytesWorld_cell w 5 s j hj2]
    unfold chars at hj
    rw [List.getElem?_map] at hj
    have hj3 : j < s.data.toList.length := by rw [Array.length_toList]; exact hj2
    rw [List.getElem?_eq_getElem hj3] at hj
    rw [List.getD_eq_getElem?_getD, List.getElem?_eq_getElem hj3]
    simp only [Option.map_some] at hj
    rw [← Option.some.inj hj]; rfl
  rw [hlc] at hC
  have HC := Aside0.mk hC
  have HB := Aside0.mk (WAt.ex HW.out hE (fun x => x) (fun _ _ x => x))
  clear hE hC hlc
  have hA : ∀ ad, some (⟨w.heap.size, 0, none⟩ : Addr) = some ad → 0 < (chars s).length → ¬ (ad.block = g ∨ some ad.block = v.ownBlock) := by
    rintro ad e _ (h | h)
    · obtain rfl := Option.some.inj e
      have := HW.out.lt; simp at h; omega
    · obtain rfl := Option.some.inj e
      have := Kd.R_lt HW.out.row _ h.symm; simp at this
  have HA := Aside0.mk hA
  clear hA
  go_enter Try.func34, Try.ntmps34
  go_wp2_with fail
  refine (bytes_anyN base g v bs (chars s) s.size (some ⟨w.heap.size, 0, none⟩) (grownCap w s.size 0 5) (Lib.bytesWorld w 5 s) HL.out HB.out HC.out HA.out hl).mono ?_
  rintro e w1 ⟨rfl, v1, h1⟩
  have H1 := Aside0.mk (show Wrote base g v w (bs ++ encB (chars s)) v1 w1 from ⟨h1.at', (HE.out.mono (fun _ _ h => h.elim)).then h1.ex (fun _ _ h => h), h1.new.imp id fun ⟨b, hb, hle⟩ => ⟨b, hb, Nat.le_trans HE.out.size hle⟩⟩)
  clear h1
  go_wp2_with fail
  go_end0
  exact ⟨rfl, v1, H1.out⟩
set_option maxHeartbeats 400000 in
theorem new_any (w : World) : Calls Try.prog 14 #[] w fun e w' => e = .returned (.pointer (some ⟨w.heap.size, 0, none⟩)) ∧ w' = w.alloc (.cells #[.slice none 0 0, .bool true] 62) := by
  go_enter Try.func14, Try.ntmps14
  go_wp2_with fail
  go_ret
  exact ⟨rfl, rfl⟩
theorem WAt.new (w : World) {base : Nat} (hb : base ≤ w.heap.size) : WAt (w.alloc (.cells #[.slice none 0 0, .bool true] 62)) base w.heap.size (.slice none 0 0) [] :=
  ⟨by show (w.heap.push _)[w.heap.size]? = _; simp, hb, Kd.R_nil _ _ _ _ _⟩
end Go.Proofs.Ytekbbpbpkekdhaa.Cod
