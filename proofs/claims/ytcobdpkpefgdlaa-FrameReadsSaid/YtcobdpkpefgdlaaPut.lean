/- What slices.Clone of bytes, and frame's put do: the walks. -/
import Derived.Test.YtcobdpkpefgdlaaRefSum
import Derived.Test.YtcobdpkpefgdlaaEnc
import Derived.Laws.OwnMore
namespace Go.Proofs.Ytcobdpkpefgdlaa.Given
open Go.RowKit Go.Proofs.Ytcobdpkpefgdlaa.Cod Go.Proofs.Ytcobdpkpefgdlaa.PBase Go.Proofs.YtcobdpkpefgdlaaW.PrintWords Go.Proofs.YtcobdpkpefgdlaaW.PrintLast Go.Proofs.YtcobdpkpefgdlaaW.PrintMore
theorem info5 : (Try.prog.info? 5).map (fun i => (i.zero, i.size, i.bytes)) = some (some (.int .u8 0), 1, 1) := by kernel_rfl
/-- A row of bytes that is the call's own; nothing else that was there has changed. -/
def Made (w : World) (xs : List Int) (e : Ending) (w' : World) : Prop := ∃ v, e = .returned v ∧ Kd.R (Kd.int .u8) 5 w' w.heap.size (fun _ => True) v xs ∧ Below w.heap.size w w'
theorem R_empty (w : World) : Kd.R (Kd.int .u8) 5 (w.alloc (.cells #[] 5)) w.heap.size (fun _ => True) (.slice (some ⟨w.heap.size, 0, none⟩) 0 0) [] :=
  Kd.R_of_own (own_lit_of w w.heap.size 5 [] (Nat.le_refl _) (by simp)) (fun _ _ => trivial)
set_option maxHeartbeats 400000 in
set_option maxRecDepth 100000 in
theorem clone_any (A : Option Addr) (n c : Nat) (xs : List Int) (w : World) (hr : Kd.C (Kd.int .u8) w A n xs) (hl : n ≤ 140737488355328) :
    Calls Try.prog 31 #[.slice A n c] w (Made w xs) := by
  cases A with
  | none =>
    have e0 : xs = [] := by
      have h1 := hr.1
      rcases Nat.eq_zero_or_pos n with h | h
      · rw [h] at h1; exact List.length_eq_zero_iff.1 h1
      · obtain ⟨ad, e, _⟩ := hr.2.2 h; cases e
    subst e0
    have kn := fun w => Lib.run_eql_slice_nil (P := Try.prog) w 22 5 none n c 0 0 Try.underlying22
    clear hr
    go_enter Try.func31, Try.ntmps31
    go_wp2_with fail
    go_ret
    exact ⟨_, rfl, Kd.R_nil _ _ _ _ _, Below.refl _ _⟩
  | some ad =>
    have kn := fun w => Lib.run_eql_slice_nil (P := Try.prog) w 22 5 (some ad) n c 0 0 Try.underlying22
    have HR := Aside0.mk (Kd.C_below hr ((Below.refl _ _).alloc (Nat.le_refl _) (.cells #[] 5)))
    have HO := Aside0.mk (R_empty w)
    have HB := Aside0.mk ((Below.refl w.heap.size w).alloc (Nat.le_refl _) (.cells #[] 5))
    clear hr
    go_enter Try.func31, Try.ntmps31
    go_wp2_with ((with_reducible refine gate_builtin (b := .append) (xs := #[.tmp 5, .tmp 6]) rfl ?_); at_builtin; refine Kd.R_append_rows (Kd.int .u8) (w0 := w) w.heap.size rfl (.tmp 5) (.tmp 6) 22 5 (.int .u8 0) 1 rfl Try.underlying22 info5 rfl (by decide) (by omega) _ [] xs (some ad) n c (fun _ => True) (fun _ => False) rfl rfl HO.out HR.out (fun _ _ h => h) (fun _ h => h.elim) (fun k hk => trivial) HB.out (by show _ ≤ (w.heap.push _).size; simp) (by simp; omega) ?_; intro v1 w1 ho hb1 hg1 hat; obtain ⟨A1, c1, rfl⟩ := Kd.R_slice ho; have HO1 := Aside0.mk ho; have HB1 := Aside0.mk hb1; clear ho hb1 hg1 hat)
    go_ret
    exact ⟨_, rfl, HO1.out, HB1.out⟩
def slices_Clone_byte_byte.f (l0 : List Int) : Option (List Int) := if l0.length ≤ 140737488355328 then some l0 else none
theorem slices_Clone_byte_byte.calls (A0 : Option Addr) (c0 : Nat) (l0 : List Int) (r : List Int) (w : World) (hr0 : Kd.C (Kd.int .u8) w A0 l0.length l0) (_hc0 : l0.length ≤ c0) (h : slices_Clone_byte_byte.f l0 = some r) :
    Calls Try.prog 31 #[.slice A0 l0.length c0] w fun e w' => ∃ v0_ : Value, e = .returned (v0_) ∧ Kd.R (Kd.int .u8) 5 w' w.heap.size (fun _ => True) v0_ r ∧ Below w.heap.size w w' := by
  unfold slices_Clone_byte_byte.f at h
  split at h
  · obtain rfl := Option.some.inj h
    exact clone_any A0 l0.length c0 l0 w hr0 (by omega)
  · cases h
theorem shr7 (n : Nat) : (n : Int) / (128 : Int) = ((n / 128 : Nat) : Int) := by omega
set_option maxHeartbeats 400000 in
set_option maxRecDepth 100000 in
/-- put, of a length, behind nothing. -/
theorem put_any (m : Nat) (w : World) (hm : m < 9223372036854775808) : Calls Try.prog 24 #[.slice none 0 0, .int .i64 m] w (Made w (enc m)) := by
  have HB0 := Aside0.mk (Below.refl w.heap.size w)
  go_enter Try.func24, Try.ntmps24
  go_wp2
  go_loopw [0, 1] (fun v i wr => ∃ (n : Nat) (bs : List Int), i = .int .i64 n ∧ n ≤ m ∧ Aside0 (bs ++ enc n = enc m) ∧ Aside0 (Kd.R (Kd.int .u8) 5 wr w.heap.size (fun _ => True) v bs) ∧ Aside0 (Below w.heap.size w wr)) (fun _ i _ => (intOf i).toNat)
  case atStart => exact ⟨m, [], rfl, Nat.le_refl _, ⟨rfl⟩, ⟨Kd.R_nil _ _ _ _ _⟩, HB0⟩
  case round =>
    obtain ⟨n, bs, rfl, hn, HE, HO, HB⟩ := hrel
    have hpl : bs.length < 10 := by
      have h1 := enc_le10 (n := m) (by omega)
      have h2 := congrArg List.length HE.out
      rw [List.length_append] at h2
      have : 0 < (enc n).length := by
        by_cases hs : n < 128
        · rw [enc_small hs]; simp
        · rw [enc_big hs]; simp
      omega
    have HL := Aside0.mk hpl
    clear hpl
    by_cases hb : n < 128
    · have hd : decide ((128 : Int) ≤ (n : Int)) = false := decide_eq_false (by omega)
      have hm : (n : Int) % 256 = (n : Int) := by omega
      have HZ := Aside0.mk (show bs ++ [(n : Int)] = enc m by rw [← HE.out, enc_small hb])
      clear HE
      go_wp2_with (first | ((with_reducible refine gate_builtin (b := .append) (xs := #[.tmp 15, .tmp 18]) rfl ?_); at_builtin; refine Kd.R_append (Kd.int .u8) (w0 := w) w.heap.size rfl (.tmp 15) (.tmp 18) 22 5 (.int .u8 0) 1 rfl Try.underlying22 info5 rfl (by decide) (by omega) u0 bs (n : Int) [.int .u8 (n : Int)] (fun _ => True) (fun _ => False) rfl rfl ?aP (fun _ hk => hk.elim) (fun _ _ => trivial) ?aO ?aB ?aS ?aL ?_; (case aP => rfl); (case aB => exact HB.out); (case aO => exact HO.out); (case aS => exact below_size HB.out); (case aL => have := HL.out; omega); intro v5 w5 ho hb hg hat; have HO5 := Aside0.mk ho; have HB5 := Aside0.mk hb; clear ho hb hg hat))
      obtain ⟨A5, c5, rfl⟩ := Kd.R_slice HO5.out
      go_ret
      exact ⟨_, rfl, by rw [← HZ.out]; exact HO5.out, HB5.out⟩
    · have hd : decide ((128 : Int) ≤ (n : Int)) = true := decide_eq_true (by omega)
      have ho := or128 n
      have HZ := Aside0.mk (show (bs ++ [((n % 128 + 128 : Nat) : Int)]) ++ enc (n / 128) = enc m by rw [← HE.out, enc_big hb, List.append_assoc]; rfl)
      clear HE
      go_wp2_with (first | ((with_reducible refine gate_builtin (b := .append) (xs := #[.tmp 9, .tmp 13]) rfl ?_); at_builtin; refine Kd.R_append (Kd.int .u8) (w0 := w) w.heap.size rfl (.tmp 9) (.tmp 13) 22 5 (.int .u8 0) 1 rfl Try.underlying22 info5 rfl (by decide) (by omega) u0 bs ((n % 128 + 128 : Nat) : Int) [.int .u8 ((n % 128 + 128 : Nat) : Int)] (fun _ => True) (fun _ => False) rfl rfl ?aP (fun _ hk => hk.elim) (fun _ _ => trivial) ?aO ?aB ?aS ?aL ?_; (case aP => rfl); (case aB => exact HB.out); (case aO => exact HO.out); (case aS => exact below_size HB.out); (case aL => have := HL.out; omega); intro v5 w5 ho hb hg hat; have HO5 := Aside0.mk ho; have HB5 := Aside0.mk hb; clear ho hb hg hat))
      go_roundw
      case rel => exact ⟨n / 128, _, by rw [shr7], by omega, HZ, HO5, HB5⟩
      case measure => simp [intOf]; omega
end Go.Proofs.Ytcobdpkpefgdlaa.Given
