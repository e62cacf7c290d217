/- What the reference's Form makes. -/
import Derived.Test.YtekbbpbpkekdhaaMany
namespace Go.Proofs.Ytekbbpbpkekdhaa.Cod
open Go.RowKit Go.Proofs.Ytekbbpbpkekdhaa.Ex Go.Proofs.Ytekbbpbpkekdhaa.PBase Go.Proofs.Ytekbbpbpkekdhaa.OpenS Go.Proofs.YtekbbpbpkekdhaaW.PrintWords Go.Proofs.YtekbbpbpkekdhaaW.PrintLast Go.Proofs.YtekbbpbpkekdhaaW.PrintMore
theorem number_any (n : Nat) (hn : n < 18446744073709551616) (w : World) : Calls Try.prog 36 #[.int .u64 (n : Int)] w fun e w' => ∃ A c, e = .returned (.slice A (enc n).length c) ∧ (enc n).length ≤ c ∧ Kd.C (Kd.int .u8) w' A (enc n).length (enc n) ∧ Below w.heap.size w w' := by
  refine (tocsinref04_Number.calls 10 (n : Int) _ w (number_some n hn)).mono ?_
  rintro e w1 ⟨v, rfl, hr, hb⟩
  obtain ⟨A, c, rfl, hc, hC⟩ := Kd.R_reads hr
  exact ⟨A, c, rfl, hc, hC, hb⟩
theorem size_le {w W : World} (h : Below w.heap.size w W) : w.heap.size ≤ W.heap.size := h.size
theorem number_as (n : Nat) (a : Int) (ha : a = (n : Int)) (hn : n < 18446744073709551616) (w : World) : Calls Try.prog 36 #[.int .u64 a] w fun e w' => ∃ A c, e = .returned (.slice A (enc n).length c) ∧ (enc n).length ≤ c ∧ Kd.C (Kd.int .u8) w' A (enc n).length (enc n) ∧ Below w.heap.size w w' := by
  subst ha; exact number_any n hn w
theorem append_str {ops : Array Oper} {rest : List Oper} {o : Oper} {a : Act} {Q : Exit → Act → World → Prop} {w0 W : World} (base : Nat) (hgd : o.guard = none) (s x : Operand)
    (ho : o.op = .call { callee := .builtin .append, args := #[s, x], argTypes := #[26, 9] })
    (v : Value) (xs : List Int) (y : ByteArray) (hs : a.eval s = v) (hx : a.eval x = .string y)
    (HO : Kd.R (Kd.int .u8) 5 W base (fun _ => True) v xs) (HB : Below base w0 W) (hbase : base ≤ W.heap.size) (hl : xs.length + y.size ≤ 140737488355328)
    (h : ∀ v1 w1, Kd.R (Kd.int .u8) 5 w1 base (fun _ => True) v1 (xs ++ chars y) → Below base w0 w1 → wpList Try.prog ops Q rest (a.put o.dst v1) w1) :
    wpList Try.prog ops Q (o :: rest) a W :=
  print_append_str base hgd s x 26 9 5 ho Try.underlying26 Try.underlying9 info5 v xs y hs hx (Kd.own_of_R HO) HB hbase hl (fun v1 w1 h1 h2 _ => h v1 w1 (Kd.R_of_own h1 (fun _ _ => trivial)) h2)
theorem alloc_at (w : World) (cs : Array Value) (t : TypeId) : (w.alloc (.cells cs t)).heap[w.heap.size]? = some (.cells cs t (0, 0)) := by show (w.heap.push _)[w.heap.size]? = _; rw [Array.getElem?_push_size]
theorem box_kept {w w1 : World} {cs : Array Value} {t : TypeId} (hb : Below (w.alloc (.cells cs t)).heap.size (w.alloc (.cells cs t)) w1) : w1.heap[w.heap.size]? = some (.cells cs t (0, 0)) :=
  (hb.block _ (blk_lt (alloc_at w cs t))).trans (alloc_at w cs t)
set_option maxHeartbeats 400000 in
set_option maxRecDepth 100000 in
theorem form_0 (x : V) (A : Option Addr) (c : Nat) (w : World) (hx : x.ok) (hk : x.k = 0) : Calls Try.prog 18 #[x.agg A c] w (Made w (form x)) := by
  obtain ⟨k, u, i, b, l, s, n⟩ := x
  obtain rfl : k = 0 := hk
  obtain ⟨⟨m, hu, hu2⟩, hi0, hi1, hn0, hn1⟩ := hx
  obtain rfl : u = (m : Int) := hu
  simp only [] at hu2 hi0 hi1 hn0 hn1
  unfold V.agg form
  have hlen := enc_le10 hu2
  have HB := Aside0.mk ((Below.refl w.heap.size w).alloc (Nat.le_refl _) (.cells #[.int .u8 0, .int .u64 (m : Int), .int .i64 i, .bool b, .slice A l.length c, .string s, .int .i64 n] 29))
  go_enter Try.func18, Try.ntmps18
  go_wp2_with fail
  refine (number_any m hu2 _).mono ?_
  rintro e w1 ⟨A1, c1, rfl, hc1, hC, hb⟩
  have HR := Aside0.mk hC
  have HB1 := Aside0.mk (HB.out.trans (hb.mono (below_size HB.out)))
  clear hC hb HB
  go_wp2_with ((with_reducible refine gate_builtin (b := .append) (xs := #[.tmp 11, .tmp 14]) rfl ?_); at_builtin; (refine Kd.R_append_rows (Kd.int .u8) (w0 := w) w.heap.size rfl (.tmp 11) (.tmp 14) 26 5 (.int .u8 0) 1 rfl Try.underlying26 info5 rfl (by decide) (by omega) (.slice none 0 0) ([] : List Int) (enc m) A1 _ c1 (fun _ => True) (fun _ => False) rfl rfl ?aO ?aR (fun _ _ h => h) (fun _ h => h.elim) ?aF ?aB ?aS ?aL ?_; (case aR => exact HR.out); (case aB => exact HB1.out); (case aF => exact (fun _ _ => trivial)); (case aO => exact Kd.R_nil _ _ _ _ (fun _ => True)); (case aS => exact below_size HB1.out); (case aL => first | omega | (simp; omega)); intro v9 w9 ho hb hg hat; have O9 := Aside0.mk ho; have B9 := Aside0.mk hb; clear ho hb hg hat))
  go_ret
  exact ⟨_, rfl, by have := O9.out; simpa using this, B9.out⟩
set_option maxHeartbeats 400000 in
set_option maxRecDepth 100000 in
theorem form_1 (x : V) (A : Option Addr) (c : Nat) (w : World) (hx : x.ok) (hk : x.k = 1) : Calls Try.prog 18 #[x.agg A c] w (Made w (form x)) := by
  obtain ⟨k, u, i, b, l, s, n⟩ := x
  obtain rfl : k = 1 := hk
  obtain ⟨⟨m, hu, hu2⟩, hi0, hi1, hn0, hn1⟩ := hx
  obtain rfl : u = (m : Int) := hu
  simp only [] at hu2 hi0 hi1 hn0 hn1
  unfold V.agg form
  have HB := Aside0.mk ((Below.refl w.heap.size w).alloc (Nat.le_refl _) (.cells #[.int .u8 1, .int .u64 (m : Int), .int .i64 i, .bool b, .slice A l.length c, .string s, .int .i64 n] 29))
  have hz := zig_lt hi0 hi1
  have hlen := enc_le10 hz
  by_cases hi : i < 0
  all_goals (
    go_enter Try.func18, Try.ntmps18
    go_wp2_with fail
    refine (number_as (zig i) _ ?_ hz _).mono ?_
    · first | (unfold zig; rw [if_pos hi]; omega) | (unfold zig; rw [if_neg (by omega)]; omega)
    rintro e w1 ⟨A1, c1, rfl, hc1, hC, hb⟩
    have HR := Aside0.mk hC
    have HB1 := Aside0.mk (HB.out.trans (hb.mono (below_size HB.out)))
    clear hC hb HB
    go_wp2_with ((with_reducible refine gate_builtin (b := .append) (xs := #[.tmp 32, .tmp 34]) rfl ?_); at_builtin; (refine Kd.R_append_rows (Kd.int .u8) (w0 := w) w.heap.size rfl (.tmp 32) (.tmp 34) 26 5 (.int .u8 0) 1 rfl Try.underlying26 info5 rfl (by decide) (by omega) (.slice none 0 0) ([] : List Int) (enc (zig i)) A1 _ c1 (fun _ => True) (fun _ => False) rfl rfl ?aO ?aR (fun _ _ h => h) (fun _ h => h.elim) ?aF ?aB ?aS ?aL ?_; (case aR => exact HR.out); (case aB => exact HB1.out); (case aF => exact (fun _ _ => trivial)); (case aO => exact Kd.R_nil _ _ _ _ (fun _ => True)); (case aS => exact below_size HB1.out); (case aL => first | omega | (simp; omega)); intro v9 w9 ho hb hg hat; have O9 := Aside0.mk ho; have B9 := Aside0.mk hb; clear ho hb hg hat))
    go_ret
    exact ⟨_, rfl, by have := O9.out; simpa using this, B9.out⟩)
set_option maxHeartbeats 400000 in
set_option maxRecDepth 100000 in
theorem form_2 (x : V) (A : Option Addr) (c : Nat) (w : World) (hx : x.ok) (hk : x.k = 2) : Calls Try.prog 18 #[x.agg A c] w (Made w (form x)) := by
  obtain ⟨k, u, i, b, l, s, n⟩ := x
  obtain rfl : k = 2 := hk
  obtain ⟨⟨m, hu, hu2⟩, hi0, hi1, hn0, hn1⟩ := hx
  obtain rfl : u = (m : Int) := hu
  simp only [] at hu2 hi0 hi1 hn0 hn1
  unfold V.agg form
  have HB := Aside0.mk ((Below.refl w.heap.size w).alloc (Nat.le_refl _) (.cells #[.int .u8 2, .int .u64 (m : Int), .int .i64 i, .bool b, .slice A l.length c, .string s, .int .i64 n] 29))
  cases b with
  | true =>
    go_enter Try.func18, Try.ntmps18
    go_upto_region 14 with (fail)
    obtain ⟨v0, hv0⟩ : ∃ v, v = Value.slice none 0 0 := ⟨_, rfl⟩
    rw [← hv0]
    have HV := Aside0.mk (show Kd.R (Kd.int .u8) 5 _ w.heap.size (fun _ => True) v0 ([] : List Int) by rw [hv0]; exact Kd.R_nil _ _ w _ (fun _ => True))
    clear hv0
    go_wp2_with ((with_reducible refine gate_builtin (b := .append) (xs := #[.tmp 40, .tmp 42]) rfl ?_); at_builtin; (refine Kd.R_append (Kd.int .u8) (w0 := w) w.heap.size rfl (.tmp 40) (.tmp 42) 26 5 (.int .u8 0) 1 rfl Try.underlying26 info5 rfl (by decide) (by omega) v0 ([] : List Int) 1 [.int .u8 1] (fun _ => True) (fun _ => False) rfl (by rw [World.size_alloc]; rfl) rfl (fun _ hk => hk.elim) (fun _ _ => trivial) (Kd.R_alloc HV.out _) HB.out (below_size HB.out) (by simp) ?_; intro v9 w9 ho hb hg hat; have O9 := Aside0.mk ho; have B9 := Aside0.mk hb; clear ho hb hg hat))
    go_ret
    exact ⟨_, rfl, by have := O9.out; simpa using this, B9.out⟩
  | false =>
    go_enter Try.func18, Try.ntmps18
    go_upto_region 14 with (fail)
    obtain ⟨v0, hv0⟩ : ∃ v, v = Value.slice none 0 0 := ⟨_, rfl⟩
    rw [← hv0]
    have HV := Aside0.mk (show Kd.R (Kd.int .u8) 5 _ w.heap.size (fun _ => True) v0 ([] : List Int) by rw [hv0]; exact Kd.R_nil _ _ w _ (fun _ => True))
    clear hv0
    go_wp2_with ((with_reducible refine gate_builtin (b := .append) (xs := #[.tmp 40, .tmp 42]) rfl ?_); at_builtin; (refine Kd.R_append (Kd.int .u8) (w0 := w) w.heap.size rfl (.tmp 40) (.tmp 42) 26 5 (.int .u8 0) 1 rfl Try.underlying26 info5 rfl (by decide) (by omega) v0 ([] : List Int) 0 [.int .u8 0] (fun _ => True) (fun _ => False) rfl (by rw [World.size_alloc]; rfl) rfl (fun _ hk => hk.elim) (fun _ _ => trivial) (Kd.R_alloc HV.out _) HB.out (below_size HB.out) (by simp) ?_; intro v9 w9 ho hb hg hat; have O9 := Aside0.mk ho; have B9 := Aside0.mk hb; clear ho hb hg hat))
    go_ret
    exact ⟨_, rfl, by have := O9.out; simpa using this, B9.out⟩
set_option maxHeartbeats 400000 in
set_option maxRecDepth 100000 in
theorem form_3 (x : V) (A : Option Addr) (c : Nat) (w : World) (hx : x.ok) (hr : Kd.C (Kd.int .u8) w A x.l.length x.l) (hl : x.l.length ≤ 140737488355000) (hk : x.k = 3) : Calls Try.prog 18 #[x.agg A c] w (Made w (form x)) := by
  obtain ⟨k, u, i, b, l, s, n⟩ := x
  obtain rfl : k = 3 := hk
  obtain ⟨⟨m, hu, hu2⟩, hi0, hi1, hn0, hn1⟩ := hx
  obtain rfl : u = (m : Int) := hu
  simp only [] at hu2 hi0 hi1 hn0 hn1 hr hl
  unfold V.agg form
  have HB := Aside0.mk ((Below.refl w.heap.size w).alloc (Nat.le_refl _) (.cells #[.int .u8 3, .int .u64 (m : Int), .int .i64 i, .bool b, .slice A l.length c, .string s, .int .i64 n] 29))
  have HL := Aside0.mk hr
  clear hr
  have hlen := enc_le10 (show l.length < 18446744073709551616 by omega)
  go_enter Try.func18, Try.ntmps18
  go_wp2_with fail
  refine (number_as l.length _ ?_ (by omega) _).mono ?_
  · simp [IntKind.wrap, IntKind.bits, IntKind.signed] <;> omega
  rintro e w1 ⟨A1, c1, rfl, hc1, hC, hb⟩
  have HR := Aside0.mk hC
  have HB1 := Aside0.mk (HB.out.trans (hb.mono (below_size HB.out)))
  have BXX := Aside0.mk (box_kept hb)
  clear hC hb HB
  go_wp2_with (first | ((with_reducible refine gate_builtin (b := .append) (xs := #[.tmp 46, .tmp 51]) rfl ?_); at_builtin; (refine Kd.R_append_rows (Kd.int .u8) (w0 := w) w.heap.size rfl (.tmp 46) (.tmp 51) 26 5 (.int .u8 0) 1 rfl Try.underlying26 info5 rfl (by decide) (by omega) (.slice none 0 0) ([] : List Int) (enc l.length) A1 _ c1 (fun _ => True) (fun _ => False) rfl rfl ?aO ?aR (fun _ _ h => h) (fun _ h => h.elim) ?aF ?aB ?aS ?aL ?_; (case aR => exact HR.out); (case aB => exact HB1.out); (case aF => exact (fun _ _ => trivial)); (case aO => exact Kd.R_nil _ _ _ _ (fun _ => True)); (case aS => exact below_size HB1.out); (case aL => first | omega | (simp; omega)); intro v9 w9 ho hb hg hat; have g4 := blk_cell (blk_grown BXX.out hg (by simp [Value.ownBlock])) 4; have O9 := Aside0.mk ho; have B9 := Aside0.mk hb; clear ho hb hg hat)) | ((with_reducible refine gate_builtin (b := .append) (xs := #[.tmp 53, .tmp 55]) rfl ?_); at_builtin; (refine Kd.R_append_rows (Kd.int .u8) (w0 := w) w.heap.size rfl (.tmp 53) (.tmp 55) 26 5 (.int .u8 0) 1 rfl Try.underlying26 info5 rfl (by decide) (by omega) v9 ([] ++ enc l.length) l A _ c (fun _ => True) (fun _ => False) rfl rfl ?aO ?aR (fun _ _ h => h) (fun _ h => h.elim) ?aF ?aB ?aS ?aL ?_; (case aR => exact (Kd.C_below HL.out B9.out)); (case aB => exact B9.out); (case aF => exact (fun _ _ => trivial)); (case aO => exact O9.out); (case aS => exact below_size B9.out); (case aL => first | omega | (simp; omega)); intro v8 w8 ho hb hg hat; have O8 := Aside0.mk ho; have B8 := Aside0.mk hb; clear ho hb hg hat)))
  go_ret
  exact ⟨_, rfl, by have := O8.out; simpa [encB] using this, B8.out⟩
set_option maxHeartbeats 400000 in
set_option maxRecDepth 100000 in
theorem form_4 (x : V) (A : Option Addr) (c : Nat) (w : World) (hx : x.ok) (hl : x.s.size ≤ 140737488355000) (hk : x.k = 4) : Calls Try.prog 18 #[x.agg A c] w (Made w (form x)) := by
  obtain ⟨k, u, i, b, l, s, n⟩ := x
  obtain rfl : k = 4 := hk
  obtain ⟨⟨m, hu, hu2⟩, hi0, hi1, hn0, hn1⟩ := hx
  obtain rfl : u = (m : Int) := hu
  simp only [] at hu2 hi0 hi1 hn0 hn1 hl
  unfold V.agg form
  have HB := Aside0.mk ((Below.refl w.heap.size w).alloc (Nat.le_refl _) (.cells #[.int .u8 4, .int .u64 (m : Int), .int .i64 i, .bool b, .slice A l.length c, .string s, .int .i64 n] 29))
  have hlen := enc_le10 (show s.size < 18446744073709551616 by omega)
  have hch : (chars s).length = s.size := by unfold chars; rw [List.length_map, Array.length_toList]; rfl
  go_enter Try.func18, Try.ntmps18
  go_wp2_with fail
  refine (number_as s.size _ ?_ (by omega) _).mono ?_
  · simp [IntKind.bits, IntKind.signed] <;> omega
  rintro e w1 ⟨A1, c1, rfl, hc1, hC, hb⟩
  have HR := Aside0.mk hC
  have HB1 := Aside0.mk (HB.out.trans (hb.mono (below_size HB.out)))
  have BXX := Aside0.mk (box_kept hb)
  clear hC hb HB
  go_wp2_with (first | ((with_reducible refine gate_builtin (b := .append) (xs := #[.tmp 59, .tmp 64]) rfl ?_); at_builtin; (refine Kd.R_append_rows (Kd.int .u8) (w0 := w) w.heap.size rfl (.tmp 59) (.tmp 64) 26 5 (.int .u8 0) 1 rfl Try.underlying26 info5 rfl (by decide) (by omega) (.slice none 0 0) ([] : List Int) (enc s.size) A1 _ c1 (fun _ => True) (fun _ => False) rfl rfl ?aO ?aR (fun _ _ h => h) (fun _ h => h.elim) ?aF ?aB ?aS ?aL ?_; (case aR => exact HR.out); (case aB => exact HB1.out); (case aF => exact (fun _ _ => trivial)); (case aO => exact Kd.R_nil _ _ _ _ (fun _ => True)); (case aS => exact below_size HB1.out); (case aL => first | omega | (simp; omega)); intro v9 w9 ho hb hg hat; have g5 := blk_cell (blk_grown BXX.out hg (by simp [Value.ownBlock])) 5; have O9 := Aside0.mk ho; have B9 := Aside0.mk hb; clear ho hb hg hat)) | ((with_reducible refine gate_builtin (b := .append) (xs := #[.tmp 66, .tmp 68]) rfl ?_); at_builtin; (refine append_str (w0 := w) w.heap.size rfl (.tmp 66) (.tmp 68) rfl v9 ([] ++ enc s.size) s rfl rfl O9.out B9.out (below_size B9.out) (by simp; omega) ?_; intro v8 w8 ho hb; have O8 := Aside0.mk ho; have B8 := Aside0.mk hb; clear ho hb)))
  go_ret
  exact ⟨_, rfl, by have := O8.out; simpa [encB, hch] using this, B8.out⟩
set_option maxHeartbeats 400000 in
set_option maxRecDepth 100000 in
theorem form_5 (x : V) (A : Option Addr) (c : Nat) (w : World) (hx : x.ok) (hk : x.k = 5) : Calls Try.prog 18 #[x.agg A c] w (Made w (form x)) := by
  obtain ⟨k, u, i, b, l, s, n⟩ := x
  obtain rfl : k = 5 := hk
  obtain ⟨⟨m, hu, hu2⟩, hi0, hi1, hn0, hn1⟩ := hx
  obtain rfl : u = (m : Int) := hu
  simp only [] at hu2 hi0 hi1 hn0 hn1
  unfold V.agg form
  have HB := Aside0.mk ((Below.refl w.heap.size w).alloc (Nat.le_refl _) (.cells #[.int .u8 5, .int .u64 (m : Int), .int .i64 i, .bool b, .slice A l.length c, .string s, .int .i64 n] 29))
  have hz : n.toNat < 18446744073709551616 := by omega
  have hlen := enc_le10 hz
  by_cases hi : n < 0
  all_goals (
    go_enter Try.func18, Try.ntmps18
    go_wp2_with fail
    refine (number_as n.toNat _ ?_ hz _).mono ?_
    · first | omega | (simp [IntKind.bits, IntKind.signed]; omega)
    rintro e w1 ⟨A1, c1, rfl, hc1, hC, hb⟩
    have HR := Aside0.mk hC
    have HB1 := Aside0.mk (HB.out.trans (hb.mono (below_size HB.out)))
    clear hC hb HB
    go_wp2_with ((with_reducible refine gate_builtin (b := .append) (xs := #[.tmp 76, .tmp 79]) rfl ?_); at_builtin; (refine Kd.R_append_rows (Kd.int .u8) (w0 := w) w.heap.size rfl (.tmp 76) (.tmp 79) 26 5 (.int .u8 0) 1 rfl Try.underlying26 info5 rfl (by decide) (by omega) (.slice none 0 0) ([] : List Int) (enc n.toNat) A1 _ c1 (fun _ => True) (fun _ => False) rfl rfl ?aO ?aR (fun _ _ h => h) (fun _ h => h.elim) ?aF ?aB ?aS ?aL ?_; (case aR => exact HR.out); (case aB => exact HB1.out); (case aF => exact (fun _ _ => trivial)); (case aO => exact Kd.R_nil _ _ _ _ (fun _ => True)); (case aS => exact below_size HB1.out); (case aL => first | omega | (simp; omega)); intro v9 w9 ho hb hg hat; have O9 := Aside0.mk ho; have B9 := Aside0.mk hb; clear ho hb hg hat))
    go_ret
    exact ⟨_, rfl, by have := O9.out; simpa using this, B9.out⟩)
set_option maxHeartbeats 400000 in
set_option maxRecDepth 100000 in
theorem form_9 (x : V) (A : Option Addr) (c : Nat) (w : World) (h0 : ¬ x.k = 0) (h1 : ¬ x.k = 1) (h2 : ¬ x.k = 2) (h3 : ¬ x.k = 3) (h4 : ¬ x.k = 4) (h5 : ¬ x.k = 5) : Calls Try.prog 18 #[x.agg A c] w (Made w (form x)) := by
  obtain ⟨k, u, i, b, l, s, n⟩ := x
  simp only [] at h0 h1 h2 h3 h4 h5
  unfold V.agg form
  simp only [if_neg h0, if_neg h1, if_neg h2, if_neg h3, if_neg h4, if_neg h5]
  have HB := Aside0.mk ((Below.refl w.heap.size w).alloc (Nat.le_refl _) (.cells #[.int .u8 k, .int .u64 u, .int .i64 i, .bool b, .slice A l.length c, .string s, .int .i64 n] 29))
  go_enter Try.func18, Try.ntmps18
  go_wp2_with fail
  go_ret
  exact ⟨_, rfl, Kd.R_nil _ _ _ _ (fun _ => True), HB.out⟩
/-- What Form makes of any value. -/
theorem form_any (x : V) (A : Option Addr) (c : Nat) (w : World) (hx : x.ok) (hr : Kd.C (Kd.int .u8) w A x.l.length x.l) (hl : x.l.length + x.s.size ≤ 140737488355000) : Calls Try.prog 18 #[x.agg A c] w (Made w (form x)) := by
  by_cases h0 : x.k = 0
  · exact form_0 x A c w hx h0
  by_cases h1 : x.k = 1
  · exact form_1 x A c w hx h1
  by_cases h2 : x.k = 2
  · exact form_2 x A c w hx h2
  by_cases h3 : x.k = 3
  · exact form_3 x A c w hx hr (by omega) h3
  by_cases h4 : x.k = 4
  · exact form_4 x A c w hx (by omega) h4
  by_cases h5 : x.k = 5
  · exact form_5 x A c w hx h5
  exact form_9 x A c w h0 h1 h2 h3 h4 h5
end Go.Proofs.Ytekbbpbpkekdhaa.Cod
