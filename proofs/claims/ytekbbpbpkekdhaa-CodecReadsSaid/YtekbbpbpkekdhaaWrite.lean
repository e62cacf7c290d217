/- What the laws' write does: the walk, by the value's kind. -/
import Derived.Test.YtekbbpbpkekdhaaWri
namespace Go.Proofs.Ytekbbpbpkekdhaa.Cod
open Go.RowKit Go.Proofs.Ytekbbpbpkekdhaa.Ex Go.Proofs.YtekbbpbpkekdhaaW.PrintWords Go.Proofs.YtekbbpbpkekdhaaW.PrintLast Go.Proofs.YtekbbpbpkekdhaaW.PrintMore
/-- A value of the reference's. -/
structure V where
  k : Int
  u : Int
  i : Int
  b : Bool
  l : List Int
  s : ByteArray
  n : Int
def V.agg (x : V) (A : Option Addr) (c : Nat) : Value := .agg #[.int .u8 x.k, .int .u64 x.u, .int .i64 x.i, .bool x.b, .slice A x.l.length c, .string x.s, .int .i64 x.n]
def V.ok (x : V) : Prop := (∃ m : Nat, x.u = (m : Int) ∧ m < 18446744073709551616) ∧ -9223372036854775808 ≤ x.i ∧ x.i ≤ 9223372036854775807 ∧ -9223372036854775808 ≤ x.n ∧ x.n ≤ 9223372036854775807
/-- A value's bytes. -/
def form (x : V) : List Int :=
  if x.k = 0 then enc x.u.toNat else if x.k = 1 then enc (zig x.i) else if x.k = 2 then [if x.b = true then 1 else 0] else if x.k = 3 then encB x.l else if x.k = 4 then encB (chars x.s) else if x.k = 5 then enc x.n.toNat else []
set_option maxHeartbeats 400000 in
set_option maxRecDepth 100000 in
theorem write_0 (base g : Nat) (v : Value) (bs : List Int) (x : V) (A : Option Addr) (c : Nat) (w : World) (hw : WAt w base g v bs) (hx : x.ok) (hr : Kd.C (Kd.int .u8) w A x.l.length x.l) (hA : ∀ ad, A = some ad → 0 < x.l.length → ¬ (ad.block = g ∨ some ad.block = v.ownBlock)) (hl : bs.length + x.l.length + x.s.size + 10 ≤ 140737488355328) (hk : x.k = 0) :
    Calls Try.prog 16 #[.pointer (some ⟨g, 0, none⟩), x.agg A c] w (Wrs base g v w (bs ++ form x)) := by
  obtain ⟨k, u, i, b, l, s, n⟩ := x
  obtain rfl : k = 0 := hk
  obtain ⟨⟨m, hu, hu2⟩, hi0, hi1, hn0, hn1⟩ := hx
  obtain rfl : u = (m : Int) := hu
  simp only [] at hu2 hi0 hi1 hn0 hn1 hl hr hA
  unfold V.agg form
  have HW := Aside0.mk (hw.alloc (.cells #[.int .u8 0, .int .u64 (m : Int), .int .i64 i, .bool b, .slice A l.length c, .string s, .int .i64 n] 29))
  have HR := Aside0.mk (Kd.C_below hr ((Below.refl _ _).alloc (Nat.le_refl _) (.cells #[.int .u8 0, .int .u64 (m : Int), .int .i64 i, .bool b, .slice A l.length c, .string s, .int .i64 n] 29)))
  have HA := Aside0.mk hA
  have H0 := Aside0.mk hw
  clear hw hr hA
  go_enter Try.func16, Try.ntmps16
  go_wp2_with fail
  refine (uint_any base g v bs m _ HW.out hu2 (by omega)).mono ?_
  rintro e w1 ⟨rfl, v1, h1⟩
  have H1 := Aside0.mk (((Wrote.refl H0.out).alloc _).trans h1)
  clear h1
  go_wp2_with fail
  go_end0
  exact ⟨rfl, v1, H1.out⟩
set_option maxHeartbeats 400000 in
set_option maxRecDepth 100000 in
theorem write_1 (base g : Nat) (v : Value) (bs : List Int) (x : V) (A : Option Addr) (c : Nat) (w : World) (hw : WAt w base g v bs) (hx : x.ok) (hr : Kd.C (Kd.int .u8) w A x.l.length x.l) (hA : ∀ ad, A = some ad → 0 < x.l.length → ¬ (ad.block = g ∨ some ad.block = v.ownBlock)) (hl : bs.length + x.l.length + x.s.size + 10 ≤ 140737488355328) (hk : x.k = 1) :
    Calls Try.prog 16 #[.pointer (some ⟨g, 0, none⟩), x.agg A c] w (Wrs base g v w (bs ++ form x)) := by
  obtain ⟨k, u, i, b, l, s, n⟩ := x
  obtain rfl : k = 1 := hk
  obtain ⟨⟨m, hu, hu2⟩, hi0, hi1, hn0, hn1⟩ := hx
  obtain rfl : u = (m : Int) := hu
  simp only [] at hu2 hi0 hi1 hn0 hn1 hl hr hA
  unfold V.agg form
  have HW := Aside0.mk (hw.alloc (.cells #[.int .u8 1, .int .u64 (m : Int), .int .i64 i, .bool b, .slice A l.length c, .string s, .int .i64 n] 29))
  have HR := Aside0.mk (Kd.C_below hr ((Below.refl _ _).alloc (Nat.le_refl _) (.cells #[.int .u8 1, .int .u64 (m : Int), .int .i64 i, .bool b, .slice A l.length c, .string s, .int .i64 n] 29)))
  have HA := Aside0.mk hA
  have H0 := Aside0.mk hw
  clear hw hr hA
  go_enter Try.func16, Try.ntmps16
  go_wp2_with fail
  refine (int_any base g v bs i _ HW.out hi0 hi1 (by omega)).mono ?_
  rintro e w1 ⟨rfl, v1, h1⟩
  have H1 := Aside0.mk (((Wrote.refl H0.out).alloc _).trans h1)
  clear h1
  go_wp2_with fail
  go_end0
  exact ⟨rfl, v1, H1.out⟩
set_option maxHeartbeats 1000000 in
set_option maxRecDepth 100000 in
theorem write_2t (base g : Nat) (v : Value) (bs : List Int) (x : V) (A : Option Addr) (c : Nat) (w : World) (hw : WAt w base g v bs) (hx : x.ok) (hr : Kd.C (Kd.int .u8) w A x.l.length x.l) (hA : ∀ ad, A = some ad → 0 < x.l.length → ¬ (ad.block = g ∨ some ad.block = v.ownBlock)) (hl : bs.length + x.l.length + x.s.size + 10 ≤ 140737488355328) (hk : x.k = 2) (hb : x.b = true) :
    Calls Try.prog 16 #[.pointer (some ⟨g, 0, none⟩), x.agg A c] w (Wrs base g v w (bs ++ form x)) := by
  have e : form x = [1] := by unfold form; rw [if_neg (by omega), if_neg (by omega), if_pos hk, hb]; rfl
  rw [e]
  clear e
  obtain ⟨k, u, i, b, l, s, n⟩ := x
  obtain rfl : k = 2 := hk
  obtain rfl : b = true := hb
  obtain ⟨⟨m, hu, hu2⟩, hi0, hi1, hn0, hn1⟩ := hx
  obtain rfl : u = (m : Int) := hu
  simp only [] at hu2 hi0 hi1 hn0 hn1 hl hr hA
  unfold V.agg
  clear hi0 hi1 hn0 hn1
  have HW := Aside0.mk (hw.alloc (.cells #[.int .u8 2, .int .u64 (m : Int), .int .i64 i, .bool true, .slice A l.length c, .string s, .int .i64 n] 29))
  have H0 := Aside0.mk hw
  clear hw hr hA
  go_enter Try.func16, Try.ntmps16
  go_wp2_with fail
  refine (bool_any base g v bs true _ HW.out (by omega)).mono ?_
  rintro e w1 ⟨rfl, v1, h1⟩
  have H1 := Aside0.mk (((Wrote.refl H0.out).alloc _).trans h1)
  clear h1
  go_wp2_with fail
  go_end0
  exact ⟨rfl, v1, H1.out⟩
set_option maxHeartbeats 1000000 in
set_option maxRecDepth 100000 in
theorem write_2f (base g : Nat) (v : Value) (bs : List Int) (x : V) (A : Option Addr) (c : Nat) (w : World) (hw : WAt w base g v bs) (hx : x.ok) (hr : Kd.C (Kd.int .u8) w A x.l.length x.l) (hA : ∀ ad, A = some ad → 0 < x.l.length → ¬ (ad.block = g ∨ some ad.block = v.ownBlock)) (hl : bs.length + x.l.length + x.s.size + 10 ≤ 140737488355328) (hk : x.k = 2) (hb : x.b = false) :
    Calls Try.prog 16 #[.pointer (some ⟨g, 0, none⟩), x.agg A c] w (Wrs base g v w (bs ++ form x)) := by
  have e : form x = [0] := by unfold form; rw [if_neg (by omega), if_neg (by omega), if_pos hk, hb]; rfl
  rw [e]
  clear e
  obtain ⟨k, u, i, b, l, s, n⟩ := x
  obtain rfl : k = 2 := hk
  obtain rfl : b = false := hb
  obtain ⟨⟨m, hu, hu2⟩, hi0, hi1, hn0, hn1⟩ := hx
  obtain rfl : u = (m : Int) := hu
  simp only [] at hu2 hi0 hi1 hn0 hn1 hl hr hA
  unfold V.agg
  clear hi0 hi1 hn0 hn1
  have HW := Aside0.mk (hw.alloc (.cells #[.int .u8 2, .int .u64 (m : Int), .int .i64 i, .bool false, .slice A l.length c, .string s, .int .i64 n] 29))
  have H0 := Aside0.mk hw
  clear hw hr hA
  go_enter Try.func16, Try.ntmps16
  go_wp2_with fail
  refine (bool_any base g v bs false _ HW.out (by omega)).mono ?_
  rintro e w1 ⟨rfl, v1, h1⟩
  have H1 := Aside0.mk (((Wrote.refl H0.out).alloc _).trans h1)
  clear h1
  go_wp2_with fail
  go_end0
  exact ⟨rfl, v1, H1.out⟩
theorem write_2 (base g : Nat) (v : Value) (bs : List Int) (x : V) (A : Option Addr) (c : Nat) (w : World) (hw : WAt w base g v bs) (hx : x.ok) (hr : Kd.C (Kd.int .u8) w A x.l.length x.l) (hA : ∀ ad, A = some ad → 0 < x.l.length → ¬ (ad.block = g ∨ some ad.block = v.ownBlock)) (hl : bs.length + x.l.length + x.s.size + 10 ≤ 140737488355328) (hk : x.k = 2) :
    Calls Try.prog 16 #[.pointer (some ⟨g, 0, none⟩), x.agg A c] w (Wrs base g v w (bs ++ form x)) := by
  by_cases h : x.b = true
  · exact write_2t base g v bs x A c w hw hx hr hA hl hk h
  · exact write_2f base g v bs x A c w hw hx hr hA hl hk (by simpa using h)
set_option maxHeartbeats 400000 in
set_option maxRecDepth 100000 in
theorem write_3 (base g : Nat) (v : Value) (bs : List Int) (x : V) (A : Option Addr) (c : Nat) (w : World) (hw : WAt w base g v bs) (hx : x.ok) (hr : Kd.C (Kd.int .u8) w A x.l.length x.l) (hA : ∀ ad, A = some ad → 0 < x.l.length → ¬ (ad.block = g ∨ some ad.block = v.ownBlock)) (hl : bs.length + x.l.length + x.s.size + 10 ≤ 140737488355328) (hk : x.k = 3) :
    Calls Try.prog 16 #[.pointer (some ⟨g, 0, none⟩), x.agg A c] w (Wrs base g v w (bs ++ form x)) := by
  obtain ⟨k, u, i, b, l, s, n⟩ := x
  obtain rfl : k = 3 := hk
  obtain ⟨⟨m, hu, hu2⟩, hi0, hi1, hn0, hn1⟩ := hx
  obtain rfl : u = (m : Int) := hu
  simp only [] at hu2 hi0 hi1 hn0 hn1 hl hr hA
  unfold V.agg form
  have HW := Aside0.mk (hw.alloc (.cells #[.int .u8 3, .int .u64 (m : Int), .int .i64 i, .bool b, .slice A l.length c, .string s, .int .i64 n] 29))
  have HR := Aside0.mk (Kd.C_below hr ((Below.refl _ _).alloc (Nat.le_refl _) (.cells #[.int .u8 3, .int .u64 (m : Int), .int .i64 i, .bool b, .slice A l.length c, .string s, .int .i64 n] 29)))
  have HA := Aside0.mk hA
  have H0 := Aside0.mk hw
  clear hw hr hA
  go_enter Try.func16, Try.ntmps16
  go_wp2_with fail
  refine (bytes_any base g v bs l A c _ HW.out HR.out HA.out (by omega)).mono ?_
  rintro e w1 ⟨rfl, v1, h1⟩
  have H1 := Aside0.mk (((Wrote.refl H0.out).alloc _).trans h1)
  clear h1
  go_wp2_with fail
  go_end0
  exact ⟨rfl, v1, H1.out⟩
set_option maxHeartbeats 400000 in
set_option maxRecDepth 100000 in
theorem write_4 (base g : Nat) (v : Value) (bs : List Int) (x : V) (A : Option Addr) (c : Nat) (w : World) (hw : WAt w base g v bs) (hx : x.ok) (hr : Kd.C (Kd.int .u8) w A x.l.length x.l) (hA : ∀ ad, A = some ad → 0 < x.l.length → ¬ (ad.block = g ∨ some ad.block = v.ownBlock)) (hl : bs.length + x.l.length + x.s.size + 10 ≤ 140737488355328) (hk : x.k = 4) :
    Calls Try.prog 16 #[.pointer (some ⟨g, 0, none⟩), x.agg A c] w (Wrs base g v w (bs ++ form x)) := by
  obtain ⟨k, u, i, b, l, s, n⟩ := x
  obtain rfl : k = 4 := hk
  obtain ⟨⟨m, hu, hu2⟩, hi0, hi1, hn0, hn1⟩ := hx
  obtain rfl : u = (m : Int) := hu
  simp only [] at hu2 hi0 hi1 hn0 hn1 hl hr hA
  unfold V.agg form
  have HW := Aside0.mk (hw.alloc (.cells #[.int .u8 4, .int .u64 (m : Int), .int .i64 i, .bool b, .slice A l.length c, .string s, .int .i64 n] 29))
  have HR := Aside0.mk (Kd.C_below hr ((Below.refl _ _).alloc (Nat.le_refl _) (.cells #[.int .u8 4, .int .u64 (m : Int), .int .i64 i, .bool b, .slice A l.length c, .string s, .int .i64 n] 29)))
  have HA := Aside0.mk hA
  have H0 := Aside0.mk hw
  clear hw hr hA
  go_enter Try.func16, Try.ntmps16
  go_wp2_with fail
  refine (text_any base g v bs s _ HW.out (by omega)).mono ?_
  rintro e w1 ⟨rfl, v1, h1⟩
  have H1 := Aside0.mk (((Wrote.refl H0.out).alloc _).trans h1)
  clear h1
  go_wp2_with fail
  go_end0
  exact ⟨rfl, v1, H1.out⟩
set_option maxHeartbeats 400000 in
set_option maxRecDepth 100000 in
theorem write_5 (base g : Nat) (v : Value) (bs : List Int) (x : V) (A : Option Addr) (c : Nat) (w : World) (hw : WAt w base g v bs) (hx : x.ok) (hr : Kd.C (Kd.int .u8) w A x.l.length x.l) (hA : ∀ ad, A = some ad → 0 < x.l.length → ¬ (ad.block = g ∨ some ad.block = v.ownBlock)) (hl : bs.length + x.l.length + x.s.size + 10 ≤ 140737488355328) (hk : x.k = 5) :
    Calls Try.prog 16 #[.pointer (some ⟨g, 0, none⟩), x.agg A c] w (Wrs base g v w (bs ++ form x)) := by
  obtain ⟨k, u, i, b, l, s, n⟩ := x
  obtain rfl : k = 5 := hk
  obtain ⟨⟨m, hu, hu2⟩, hi0, hi1, hn0, hn1⟩ := hx
  obtain rfl : u = (m : Int) := hu
  simp only [] at hu2 hi0 hi1 hn0 hn1 hl hr hA
  unfold V.agg form
  have HW := Aside0.mk (hw.alloc (.cells #[.int .u8 5, .int .u64 (m : Int), .int .i64 i, .bool b, .slice A l.length c, .string s, .int .i64 n] 29))
  have HR := Aside0.mk (Kd.C_below hr ((Below.refl _ _).alloc (Nat.le_refl _) (.cells #[.int .u8 5, .int .u64 (m : Int), .int .i64 i, .bool b, .slice A l.length c, .string s, .int .i64 n] 29)))
  have HA := Aside0.mk hA
  have H0 := Aside0.mk hw
  clear hw hr hA
  go_enter Try.func16, Try.ntmps16
  go_wp2_with fail
  refine (len_any base g v bs n _ HW.out hn0 hn1 (by omega)).mono ?_
  rintro e w1 ⟨rfl, v1, h1⟩
  have H1 := Aside0.mk (((Wrote.refl H0.out).alloc _).trans h1)
  clear h1
  go_wp2_with fail
  go_end0
  exact ⟨rfl, v1, H1.out⟩
set_option maxHeartbeats 400000 in
set_option maxRecDepth 100000 in
theorem write_no (base g : Nat) (v : Value) (bs : List Int) (x : V) (A : Option Addr) (c : Nat) (w : World) (hw : WAt w base g v bs) (h0 : x.k ≠ 0) (h1 : x.k ≠ 1) (h2 : x.k ≠ 2) (h3 : x.k ≠ 3) (h4 : x.k ≠ 4) (h5 : x.k ≠ 5) :
    Calls Try.prog 16 #[.pointer (some ⟨g, 0, none⟩), x.agg A c] w (Wrs base g v w (bs ++ form x)) := by
  have e : form x = [] := by unfold form; rw [if_neg h0, if_neg h1, if_neg h2, if_neg h3, if_neg h4, if_neg h5]
  rw [e, List.append_nil]
  obtain ⟨k, u, i, b, l, s, n⟩ := x
  unfold V.agg
  have f0 : (k == 0) = false := beq_eq_false_iff_ne.2 h0
  have f1 : (k == 1) = false := beq_eq_false_iff_ne.2 h1
  have f2 : (k == 2) = false := beq_eq_false_iff_ne.2 h2
  have f3 : (k == 3) = false := beq_eq_false_iff_ne.2 h3
  have f4 : (k == 4) = false := beq_eq_false_iff_ne.2 h4
  have f5 : (k == 5) = false := beq_eq_false_iff_ne.2 h5
  clear e h0 h1 h2 h3 h4 h5
  have H0 := Aside0.mk hw
  clear hw
  go_enter Try.func16, Try.ntmps16
  go_wp2_with fail
  go_end0
  exact ⟨rfl, v, (Wrote.refl H0.out).alloc _⟩
theorem write_any (base g : Nat) (v : Value) (bs : List Int) (x : V) (A : Option Addr) (c : Nat) (w : World) (hw : WAt w base g v bs) (hx : x.ok) (hr : Kd.C (Kd.int .u8) w A x.l.length x.l) (hA : ∀ ad, A = some ad → 0 < x.l.length → ¬ (ad.block = g ∨ some ad.block = v.ownBlock)) (hl : bs.length + x.l.length + x.s.size + 10 ≤ 140737488355328) :
    Calls Try.prog 16 #[.pointer (some ⟨g, 0, none⟩), x.agg A c] w (Wrs base g v w (bs ++ form x)) := by
  by_cases h0 : x.k = 0
  · exact write_0 base g v bs x A c w hw hx hr hA hl h0
  by_cases h1 : x.k = 1
  · exact write_1 base g v bs x A c w hw hx hr hA hl h1
  by_cases h2 : x.k = 2
  · exact write_2 base g v bs x A c w hw hx hr hA hl h2
  by_cases h3 : x.k = 3
  · exact write_3 base g v bs x A c w hw hx hr hA hl h3
  by_cases h4 : x.k = 4
  · exact write_4 base g v bs x A c w hw hx hr hA hl h4
  by_cases h5 : x.k = 5
  · exact write_5 base g v bs x A c w hw hx hr hA hl h5
  exact write_no base g v bs x A c w hw h0 h1 h2 h3 h4 h5
end Go.Proofs.Ytekbbpbpkekdhaa.Cod
