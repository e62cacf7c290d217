/- What codec's Reader.Len, Bool and Int do: the walks. -/
import Derived.Test.YtekbbpbpkekdhaaRp
namespace Go.Proofs.Ytekbbpbpkekdhaa.Cod
open Go.RowKit Go.Proofs.Ytekbbpbpkekdhaa.Ex Go.Proofs.YtekbbpbpkekdhaaW.PrintWords Go.Proofs.YtekbbpbpkekdhaaW.PrintLast Go.Proofs.YtekbbpbpkekdhaaW.PrintMore
theorem unzig0 : bits .xor .i64 0 (wrap64 (-wrap64 (bits .and .u64 0 1))) = 0 := by
  have h := unzig_eq 0 (by omega)
  rw [show ((0 : Nat) : Int) = 0 from rfl, show wrap64 ((0 : Int) / 2) = 0 by simp [wrap64]] at h
  exact h
/-- What a reading leaves: a value and what is left; or it has failed. -/
def RPost (base g : Nat) (w : World) (o : Option (Value × List Int)) (z : Value) (e : Ending) (w' : World) : Prop :=
  Ex (fun k => k = g) w w' ∧ match o with
  | some (v, r) => e = .returned v ∧ ∃ A c, RAt w' base g A c r false
  | none => e = .returned z ∧ ∃ A c r, RAt w' base g A c r true
section
variable (base g : Nat) (A : Option Addr) (c : Nat) (xs : List Int) (w : World)
set_option maxHeartbeats 400000 in
theorem ruint_dead (hw : RAt w base g A c xs true) : Calls Try.prog 38 #[.pointer (some ⟨g, 0, none⟩)] w fun e w' => e = .returned (.int .u64 0) ∧ w' = w := by
  have HW := Aside0.mk hw
  clear hw
  go_enter Try.func38, Try.ntmps38
  go_wp2_with fail
  refine (dead_any base g A c xs true w HW.out).mono ?_
  rintro e w1 ⟨rfl, rfl⟩
  go_wp2_with fail
  go_ret
  exact ⟨rfl, rfl⟩
set_option maxHeartbeats 400000 in
theorem rbool_dead (hw : RAt w base g A c xs true) : Calls Try.prog 31 #[.pointer (some ⟨g, 0, none⟩)] w fun e w' => e = .returned (.bool false) ∧ w' = w := by
  have HW := Aside0.mk hw
  clear hw
  go_enter Try.func31, Try.ntmps31
  go_wp2_with fail
  refine (dead_any base g A c xs true w HW.out).mono ?_
  rintro e w1 ⟨rfl, rfl⟩
  go_wp2_with fail
  go_ret
  exact ⟨rfl, rfl⟩
set_option maxHeartbeats 400000 in
theorem rlen_dead (m : Int) (hw : RAt w base g A c xs true) : Calls Try.prog 42 #[.pointer (some ⟨g, 0, none⟩), .int .i64 m] w fun e w' => e = .returned (.int .i64 0) ∧ w' = w := by
  have HW := Aside0.mk hw
  clear hw
  go_enter Try.func42, Try.ntmps42
  go_wp2_with fail
  refine (ruint_dead base g A c xs w HW.out).mono ?_
  rintro e w1 ⟨rfl, rfl⟩
  go_wp2_with fail
  refine (dead_any base g A c xs true _ HW.out).mono ?_
  rintro e w1 ⟨rfl, rfl⟩
  go_wp2_with fail
  go_ret
  exact ⟨rfl, rfl⟩
set_option maxHeartbeats 400000 in
theorem rint_dead (hw : RAt w base g A c xs true) : Calls Try.prog 39 #[.pointer (some ⟨g, 0, none⟩)] w fun e w' => e = .returned (.int .i64 0) ∧ w' = w := by
  have HW := Aside0.mk hw
  clear hw
  have hz : bits .xor .i64 0 (wrap64 (-wrap64 (bits .and .u64 0 1))) = 0 := unzig0
  have HZ := Aside0.mk hz
  clear hz
  go_enter Try.func39, Try.ntmps39
  go_wp2_with fail
  refine (ruint_dead base g A c xs w HW.out).mono ?_
  rintro e w1 ⟨rfl, rfl⟩
  go_wp2_with fail
  go_ret
  exact ⟨congrArg Ending.returned (congrArg (Value.int .i64) HZ.out), rfl⟩
set_option maxHeartbeats 400000 in
theorem rbytes_dead (hw : RAt w base g A c xs true) : Calls Try.prog 40 #[.pointer (some ⟨g, 0, none⟩)] w fun e w' => e = .returned (.slice none 0 0) ∧ w' = w := by
  have HW := Aside0.mk hw
  clear hw
  go_enter Try.func40, Try.ntmps40
  go_wp2_with fail
  refine (ruint_dead base g A c xs w HW.out).mono ?_
  rintro e w1 ⟨rfl, rfl⟩
  go_wp2_with fail
  refine (dead_any base g A c xs true _ HW.out).mono ?_
  rintro e w1 ⟨rfl, rfl⟩
  go_wp2_with fail
  go_ret
  exact ⟨rfl, rfl⟩
set_option maxHeartbeats 400000 in
theorem rtext_dead (hw : RAt w base g A c xs true) : Calls Try.prog 41 #[.pointer (some ⟨g, 0, none⟩)] w fun e w' => e = .returned (.string ⟨#[]⟩) ∧ w' = w := by
  have HW := Aside0.mk hw
  clear hw
  have kc := fun w => run_convert_bytes_nil (P := Try.prog) w 26 5 Try.underlying26 Try.underlying5 0 0 9 Try.underlying9
  go_enter Try.func41, Try.ntmps41
  go_wp2_with fail
  refine (rbytes_dead base g A c xs w HW.out).mono ?_
  rintro e w1 ⟨rfl, rfl⟩
  go_wp2_with fail
  go_ret
  exact ⟨rfl, rfl⟩
/-- A bool: one byte, 0 or 1. -/
def rdB : List Int → Option (Bool × List Int)
  | [] => none
  | x :: r => if 1 < x then none else some (x == 1, r)
set_option maxHeartbeats 400000 in
theorem rbool_any (hw : RAt w base g A c xs false) : Calls Try.prog 31 #[.pointer (some ⟨g, 0, none⟩)] w (RPost base g w ((rdB xs).map fun p => (.bool p.1, p.2)) (.bool false)) := by
  have HW := Aside0.mk hw
  clear hw
  cases xs with
  | nil =>
    have kn := fun w => Lib.run_eql_slice_nil (P := Try.prog) w 26 5 none 0 0 0 0 Try.underlying26
    go_enter Try.func31, Try.ntmps31
    go_wp2_with fail
    refine (dead_any base g A c [] false w HW.out).mono ?_
    rintro e w1 ⟨rfl, rfl⟩
    go_wp2_with fail
    refine (take_less base g A c [] false _ HW.out 1 (by simp)).mono ?_
    rintro e w2 ⟨rfl, rfl⟩
    go_wp2_with fail
    refine (fail_any base g A c [] false _ HW.out).mono ?_
    rintro e w2 ⟨rfl, h2, hx2⟩
    have H2 := Aside0.mk h2
    have HE2 := Aside0.mk hx2
    clear h2 hx2
    go_wp2_with fail
    go_ret
    exact ⟨HE2.out, rfl, _, _, _, H2.out⟩
  | cons x zs =>
    obtain ⟨o, ho⟩ : ∃ o, rdB (x :: zs) = o := ⟨_, rfl⟩
    rw [ho]
    have HO := Aside0.mk ho
    clear ho
    go_enter Try.func31, Try.ntmps31
    go_wp2_with fail
    refine (dead_any base g A c (x :: zs) false w HW.out).mono ?_
    rintro e w1 ⟨rfl, rfl⟩
    go_wp2_with fail
    refine (take_some base g A c (x :: zs) false _ HW.out 1 (by simp)).mono ?_
    rintro e w2 ⟨rfl, h2, hc2, hx2⟩
    obtain ⟨ad, rfl, hcell⟩ := Kd.at_int hc2 0 (by omega) (by omega)
    have hx : rd (List.take 1 (x :: zs)) 0 = x := rfl
    rw [hx, show ad.add (Int.toNat 0) = ad by simp [Addr.add]] at hcell
    have H2 := Aside0.mk (show RAt w2 base g (adv (some ad) c 1) (c - 1) zs false from h2)
    have HE2 := Aside0.mk hx2
    clear h2 hc2 hx2 hx HW
    generalize adv (some ad) c 1 = A2 at *
    generalize c - 1 = c2 at *
    have kn := fun w => Lib.run_eql_slice_nil (P := Try.prog) w 26 5 (some ad) 1 1 0 0 Try.underlying26
    by_cases h1 : 1 < x
    · have hd1 : decide (1 < x) = true := decide_eq_true h1
      have ho : o = none := by rw [← HO.out]; show (if 1 < x then none else some (x == 1, zs)) = _; rw [if_pos h1]
      subst ho
      go_wp2_with fail
      refine (fail_any base g A2 c2 zs false _ H2.out).mono ?_
      rintro e w3 ⟨rfl, h3, hx3⟩
      have H3 := Aside0.mk h3
      have HE3 := Aside0.mk (HE2.out.trans hx3)
      clear h3 hx3
      go_wp2_with fail
      go_ret
      exact ⟨HE3.out, rfl, _, _, _, H3.out⟩
    · have hd1 : decide (1 < x) = false := decide_eq_false h1
      have ho : o = some (x == 1, zs) := by rw [← HO.out]; show (if 1 < x then none else some (x == 1, zs)) = _; rw [if_neg h1]
      subst ho
      generalize (x == 1) = b at *
      go_wp2_with fail
      go_ret
      exact ⟨HE2.out, rfl, _, _, H2.out⟩
/-- A length: a number, at most so great. -/
def rdL (m : Int) (xs : List Int) : Option (Nat × List Int) := (rdU 10 0 0 xs).bind fun p => if 0 ≤ m ∧ (p.1 : Int) ≤ m then some p else none
set_option maxHeartbeats 400000 in
theorem rlen_any (m : Int) (hm : m ≤ 9223372036854775807) (hw : RAt w base g A c xs false) (hx : isB xs) : Calls Try.prog 42 #[.pointer (some ⟨g, 0, none⟩), .int .i64 m] w (RPost base g w ((rdL m xs).map fun p => (.int .i64 (p.1 : Int), p.2)) (.int .i64 0)) := by
  have HC := Aside0.mk (ruint_any base g A c xs w hw hx)
  clear hw hx
  unfold rdL
  cases hU : rdU 10 0 0 xs with
  | none =>
    rw [hU] at HC
    clear hU
    go_enter Try.func42, Try.ntmps42
    go_wp2_with fail
    refine HC.out.mono ?_
    rintro e w1 ⟨hx1, rfl, A1, c1, r1, h1⟩
    have H1 := Aside0.mk h1
    have HE1 := Aside0.mk hx1
    clear h1 hx1
    go_wp2_with fail
    refine (dead_any base g A1 c1 r1 true _ H1.out).mono ?_
    rintro e w2 ⟨rfl, rfl⟩
    go_wp2_with fail
    go_ret
    exact ⟨HE1.out, rfl, _, _, _, H1.out⟩
  | some p =>
    obtain ⟨n, r⟩ := p
    rw [hU] at HC
    clear hU
    show Calls _ _ _ _ (RPost base g w (Option.map _ (if 0 ≤ m ∧ (n : Int) ≤ m then some (n, r) else none)) _)
    by_cases hle : 0 ≤ m ∧ (n : Int) ≤ m
    · rw [if_pos hle]
      have hwm : IntKind.u64.wrap m = m := by rw [wrap_u64]; omega
      have hwn : wrap64 (n : Int) = n := by simp [wrap64]; omega
      have hd0 : decide (0 ≤ m) = true := decide_eq_true hle.1
      have hd1 : decide ((n : Int) ≤ m) = true := decide_eq_true hle.2
      go_enter Try.func42, Try.ntmps42
      go_wp2_with fail
      refine HC.out.mono ?_
      rintro e w1 ⟨hx1, rfl, A1, c1, h1⟩
      have H1 := Aside0.mk h1
      have HE1 := Aside0.mk hx1
      clear h1 hx1
      go_wp2_with fail
      refine (dead_any base g A1 c1 r false _ H1.out).mono ?_
      rintro e w2 ⟨rfl, rfl⟩
      go_wp2_with fail
      go_ret
      exact ⟨HE1.out, by first | rfl | exact congrArg Ending.returned (congrArg (Value.int .i64) hwn), _, _, H1.out⟩
    · rw [if_neg hle]
      by_cases h0 : 0 ≤ m
      · have hwm : IntKind.u64.wrap m = m := by rw [wrap_u64]; omega
        have hd0 : decide (0 ≤ m) = true := decide_eq_true h0
        have hd1 : decide ((n : Int) ≤ m) = false := decide_eq_false (by omega)
        go_enter Try.func42, Try.ntmps42
        go_wp2_with fail
        refine HC.out.mono ?_
        rintro e w1 ⟨hx1, rfl, A1, c1, h1⟩
        have H1 := Aside0.mk h1
        have HE1 := Aside0.mk hx1
        clear h1 hx1
        go_wp2_with fail
        refine (dead_any base g A1 c1 r false _ H1.out).mono ?_
        rintro e w2 ⟨rfl, rfl⟩
        go_wp2_with fail
        refine (fail_any base g A1 c1 r false _ H1.out).mono ?_
        rintro e w3 ⟨rfl, h3, hx3⟩
        have H3 := Aside0.mk h3
        have HE3 := Aside0.mk (HE1.out.trans hx3)
        clear h3 hx3
        go_wp2_with fail
        go_ret
        exact ⟨HE3.out, rfl, _, _, _, H3.out⟩
      · have hd0 : decide (0 ≤ m) = false := decide_eq_false h0
        go_enter Try.func42, Try.ntmps42
        go_wp2_with fail
        refine HC.out.mono ?_
        rintro e w1 ⟨hx1, rfl, A1, c1, h1⟩
        have H1 := Aside0.mk h1
        have HE1 := Aside0.mk hx1
        clear h1 hx1
        go_wp2_with fail
        refine (dead_any base g A1 c1 r false _ H1.out).mono ?_
        rintro e w2 ⟨rfl, rfl⟩
        go_wp2_with fail
        refine (fail_any base g A1 c1 r false _ H1.out).mono ?_
        rintro e w3 ⟨rfl, h3, hx3⟩
        have H3 := Aside0.mk h3
        have HE3 := Aside0.mk (HE1.out.trans hx3)
        clear h3 hx3
        go_wp2_with fail
        go_ret
        exact ⟨HE3.out, rfl, _, _, _, H3.out⟩
set_option maxHeartbeats 400000 in
theorem rint_any (hw : RAt w base g A c xs false) (hx : isB xs) : Calls Try.prog 39 #[.pointer (some ⟨g, 0, none⟩)] w (RPost base g w ((rdU 10 0 0 xs).map fun p => (.int .i64 (unzig p.1), p.2)) (.int .i64 0)) := by
  have HC := Aside0.mk (ruint_any base g A c xs w hw hx)
  clear hw
  cases hU : rdU 10 0 0 xs with
  | none =>
    rw [hU] at HC
    clear hU
    have hz : bits .xor .i64 0 (wrap64 (-wrap64 (bits .and .u64 0 1))) = 0 := unzig0
    have HZ := Aside0.mk hz
    clear hz
    go_enter Try.func39, Try.ntmps39
    go_wp2_with fail
    refine HC.out.mono ?_
    rintro e w1 ⟨hx1, rfl, A1, c1, r1, h1⟩
    have H1 := Aside0.mk h1
    have HE1 := Aside0.mk hx1
    clear h1 hx1
    go_wp2_with fail
    go_ret
    exact ⟨HE1.out, congrArg Ending.returned (congrArg (Value.int .i64) HZ.out), _, _, _, H1.out⟩
  | some p =>
    obtain ⟨n, r⟩ := p
    rw [hU] at HC
    have HN := Aside0.mk (unzig_eq n (rdU_some hx hU).2)
    clear hU hx
    go_enter Try.func39, Try.ntmps39
    go_wp2_with fail
    refine HC.out.mono ?_
    rintro e w1 ⟨hx1, rfl, A1, c1, h1⟩
    have H1 := Aside0.mk h1
    have HE1 := Aside0.mk hx1
    clear h1 hx1
    go_wp2_with fail
    go_ret
    exact ⟨HE1.out, congrArg Ending.returned (congrArg (Value.int .i64) HN.out), _, _, H1.out⟩
/-- Bytes: how many, then these. -/
def rdY (xs : List Int) : Option (List Int × List Int) := (rdU 10 0 0 xs).bind fun p => if p.1 ≤ p.2.length then some (p.2.take p.1, p.2.drop p.1) else none
/-- What Bytes leaves: a piece of the reader's row, ahead of what is left. -/
def YPost (base g : Nat) (w : World) (o : Option (List Int × List Int)) (e : Ending) (w' : World) : Prop :=
  Ex (fun k => k = g) w w' ∧ match o with
  | some (l, r) => ∃ A c, e = .returned (.slice A l.length l.length) ∧ RAt w' base g (adv A c l.length) (c - l.length) r false ∧ Kd.C (Kd.int .u8) w' A l.length l ∧ (∀ ad, A = some ad → ad.spot = none ∧ ad.block ≠ g ∧ ad.block = base ∧ ∃ cells, w'.heap[ad.block]? = some (.cells cells 5 (0, 0))) ∧ l.length + r.length ≤ c
  | none => e = .returned (.slice none 0 0) ∧ ∃ A c r, RAt w' base g A c r true
set_option maxHeartbeats 400000 in
theorem rbytes_any (hw : RAt w base g A c xs false) (hx : isB xs) : Calls Try.prog 40 #[.pointer (some ⟨g, 0, none⟩)] w (YPost base g w (rdY xs)) := by
  have HC := Aside0.mk (ruint_any base g A c xs w hw hx)
  clear hw
  unfold rdY
  cases hU : rdU 10 0 0 xs with
  | none =>
    rw [hU] at HC
    clear hU
    go_enter Try.func40, Try.ntmps40
    go_wp2_with fail
    refine HC.out.mono ?_
    rintro e w1 ⟨hx1, rfl, A1, c1, r1, h1⟩
    have H1 := Aside0.mk h1
    have HE1 := Aside0.mk hx1
    clear h1 hx1
    go_wp2_with fail
    refine (dead_any base g A1 c1 r1 true _ H1.out).mono ?_
    rintro e w2 ⟨rfl, rfl⟩
    go_wp2_with fail
    go_ret
    exact ⟨HE1.out, rfl, _, _, _, H1.out⟩
  | some p =>
    obtain ⟨n, r⟩ := p
    rw [hU] at HC
    clear hU hx
    show Calls _ _ _ _ (YPost base g w (if n ≤ r.length then some (r.take n, r.drop n) else none))
    by_cases hle : n ≤ r.length
    · rw [if_pos hle]
      go_enter Try.func40, Try.ntmps40
      go_wp2_with fail
      refine HC.out.mono ?_
      rintro e w1 ⟨hx1, rfl, A1, c1, h1⟩
      have H1 := Aside0.mk h1
      have HE1 := Aside0.mk hx1
      clear h1 hx1
      go_wp2_with fail
      refine (dead_any base g A1 c1 r false _ H1.out).mono ?_
      rintro e w2 ⟨rfl, rfl⟩
      go_wp2_with fail
      refine (take_some base g A1 c1 r false _ H1.out n hle).mono ?_
      rintro e w3 ⟨rfl, h3, hc3, hx3⟩
      have hcap := H1.out.cap
      have hfar : ∀ ad, A1 = some ad → ad.spot = none ∧ ad.block ≠ g ∧ ad.block = base ∧ ∃ cells, w3.heap[ad.block]? = some (.cells cells 5 (0, 0)) := fun ad e => by
        obtain ⟨a0, a1, a2, cells, a3⟩ := H1.out.far ad e
        exact ⟨a0, a1, a2, cells, hx3.heap a3 a1⟩
      have htl : (r.take n).length = n := by rw [List.length_take]; omega
      have hdl : (r.drop n).length = r.length - n := List.length_drop
      have HF := Aside0.mk hfar
      have H3 := Aside0.mk h3
      have HC3 := Aside0.mk hc3
      have HE3 := Aside0.mk (HE1.out.trans hx3)
      clear h3 hc3 hx3 hfar
      have hz : A1 = none → n = 0 := fun e => by
        rcases Nat.eq_zero_or_pos n with h | h
        · exact h
        · obtain ⟨ad, e', _⟩ := HC3.out.2.2 h
          rw [e] at e'; cases e'
      have kn := fun w => Lib.run_eql_slice_nil (P := Try.prog) w 26 5 A1 n n 0 0 Try.underlying26
      cases A1 with
      | none =>
        obtain rfl := hz rfl
        clear hz
        go_wp2_with fail
        go_ret
        exact ⟨HE3.out, none, c1, by rw [htl]; rfl, by rw [htl]; exact H3.out, by rw [htl]; exact HC3.out, HF.out, by rw [htl, hdl]; omega⟩
      | some ad =>
        clear hz
        go_wp2_with fail
        go_ret
        exact ⟨HE3.out, some ad, c1, by rw [htl]; rfl, by rw [htl]; exact H3.out, by rw [htl]; exact HC3.out, HF.out, by rw [htl, hdl]; omega⟩
    · rw [if_neg hle]
      have kn := fun w => Lib.run_eql_slice_nil (P := Try.prog) w 26 5 none 0 0 0 0 Try.underlying26
      have hd0 : decide ((0 : Int) < (n : Int)) = true := decide_eq_true (by omega)
      go_enter Try.func40, Try.ntmps40
      go_wp2_with fail
      refine HC.out.mono ?_
      rintro e w1 ⟨hx1, rfl, A1, c1, h1⟩
      have H1 := Aside0.mk h1
      have HE1 := Aside0.mk hx1
      clear h1 hx1
      go_wp2_with fail
      refine (dead_any base g A1 c1 r false _ H1.out).mono ?_
      rintro e w2 ⟨rfl, rfl⟩
      go_wp2_with fail
      refine (take_less base g A1 c1 r false _ H1.out n (by omega)).mono ?_
      rintro e w3 ⟨rfl, rfl⟩
      go_wp2_with fail
      refine (fail_any base g A1 c1 r false _ H1.out).mono ?_
      rintro e w4 ⟨rfl, h4, hx4⟩
      have H4 := Aside0.mk h4
      have HE4 := Aside0.mk (HE1.out.trans hx4)
      clear h4 hx4
      go_wp2_with fail
      go_ret
      exact ⟨HE4.out, rfl, _, _, _, H4.out⟩
set_option maxHeartbeats 400000 in
theorem rtext_any (hw : RAt w base g A c xs false) (hx : isB xs) : Calls Try.prog 41 #[.pointer (some ⟨g, 0, none⟩)] w (RPost base g w ((rdY xs).map fun p => (.string (strOfNums p.1), p.2)) (.string ⟨#[]⟩)) := by
  have HC := Aside0.mk (rbytes_any base g A c xs w hw hx)
  clear hw hx
  cases hU : rdY xs with
  | none =>
    rw [hU] at HC
    clear hU
    have kc := fun w => run_convert_bytes_nil (P := Try.prog) w 26 5 Try.underlying26 Try.underlying5 0 0 9 Try.underlying9
    go_enter Try.func41, Try.ntmps41
    go_wp2_with fail
    refine HC.out.mono ?_
    rintro e w1 ⟨hx1, rfl, A1, c1, r1, h1⟩
    have H1 := Aside0.mk h1
    have HE1 := Aside0.mk hx1
    clear h1 hx1
    go_wp2_with fail
    go_ret
    exact ⟨HE1.out, rfl, _, _, _, H1.out⟩
  | some p =>
    obtain ⟨l, r⟩ := p
    rw [hU] at HC
    clear hU
    go_enter Try.func41, Try.ntmps41
    go_wp2_with fail
    refine HC.out.mono ?_
    rintro e w1 ⟨hx1, A1, c1, rfl, h1, hc1, _, _⟩
    have kc := Kd.C_string (P := Try.prog) (src := 26) (dst := 9) (e := 5) (c := l.length) Try.underlying26 Try.underlying5 Try.underlying9 hc1
    have H1 := Aside0.mk h1
    have HE1 := Aside0.mk hx1
    clear h1 hx1 hc1
    go_wp2_with fail
    go_ret
    exact ⟨HE1.out, rfl, _, _, H1.out⟩
end
end Go.Proofs.Ytekbbpbpkekdhaa.Cod
