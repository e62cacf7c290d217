/- What lex.run does with each function that it is given: the walks (printed by wip/tools/genrun_lex.py). -/
import Derived.Test.YtpeaepdhnicceaaPBasex1
import Derived.Test.YtpeaepdhnicceaaLx
import Derived.Test.YtpeaepdhnicceaaWLast
namespace Go.Proofs.Ytpeaepdhnicceaa.Wk
open Go.RowKit Go.Proofs.Ytpeaepdhnicceaa.PBase Go.Proofs.YtpeaepdhnicceaaW.PrintWords Go.Proofs.YtpeaepdhnicceaaW.PrintLast Go.Proofs.YtpeaepdhnicceaaW.PrintMore
abbrev L (s : ByteArray) : List UInt8 := s.data.toList
theorem L_len (s : ByteArray) : (L s).length = s.size := data_length s
theorem L_drop {s : ByteArray} {a : Nat} (h : a < s.size) : (L s).drop a = s[a] :: (L s).drop (a + 1) := by
  have hl : a < (L s).length := by rw [L_len]; exact h
  exact List.drop_eq_getElem_cons hl
theorem bt_nat {s : ByteArray} {a : Nat} (h : a < s.size) : bt s (a : Int) = (s[a].toNat : Int) := by
  unfold bt
  rw [dif_pos (by rw [Int.toNat_natCast]; exact h)]
  rfl
theorem L_end {s : ByteArray} {a : Nat} (h : s.size ≤ a) : (L s).drop a = [] := List.drop_of_length_le (by rw [L_len]; exact h)
theorem letter_some (b : UInt8) : lex_letter.f (b.toNat : Int) = some (Lx.letter b) := by
  unfold lex_letter.f Lx.letter
  by_cases h : 97 ≤ b.toNat
  · rw [if_pos (by omega), decide_eq_true h, Bool.true_and]; congr 1; apply decide_eq_decide.mpr; omega
  · rw [if_neg (by omega), decide_eq_false h, Bool.false_and]
theorem digit_some (b : UInt8) : lex_digit.f (b.toNat : Int) = some (Lx.digit b) := by
  unfold lex_digit.f Lx.digit
  by_cases h : 48 ≤ b.toNat
  · rw [if_pos (by omega), decide_eq_true h, Bool.true_and]; congr 1; apply decide_eq_decide.mpr; omega
  · rw [if_neg (by omega), decide_eq_false h, Bool.false_and]
theorem mark_some (b : UInt8) : lex_mark.f (b.toNat : Int) = some (Lx.mark b) := by
  unfold lex_mark.f Lx.mark
  rw [letter_some, Option.bind_some]
  cases Lx.letter b with
  | true => rfl
  | false =>
    rw [if_neg (by decide), digit_some, Option.bind_some]
    cases Lx.digit b with
    | true => rfl
    | false =>
      rw [if_neg (by decide), Bool.false_or, Bool.false_or]
      congr 1
      by_cases h : b.toNat = 95
      · rw [decide_eq_true h, h]; rfl
      · rw [decide_eq_false h]; exact beq_eq_false_iff_ne.mpr (by omega)
def noEnd_f (x : Int) : Option Bool := some (x != 10)
theorem noEnd_calls (a0 : Int) (r : Bool) (w : World) (h : noEnd_f a0 = some r) : Calls Try.prog 27 #[.int .u8 a0] w fun e w' => e = .returned (.bool r) ∧ Drawn0 w w' := by
  obtain rfl := Option.some.inj h
  go_enter Try.func27, Try.ntmps27
  go_wp2
  go_ret
  exact ⟨rfl, Drawn0.refl _⟩
theorem noEnd_some (b : UInt8) : noEnd_f (b.toNat : Int) = some (Lx.noEnd b) := by
  unfold noEnd_f Lx.noEnd
  by_cases h : b.toNat = 10
  · rw [decide_eq_false (by omega), h]; rfl
  · rw [decide_eq_true h]; congr 1; exact bne_iff_ne.mpr (by omega)

set_option maxHeartbeats 1000000 in
set_option maxRecDepth 100000 in
theorem run27 (s : ByteArray) (a : Nat) (hs : s.size ≤ 4096) (ha : a ≤ s.size + 1) (w : World) :
    Calls Try.prog 26 #[.string s, .int .i64 a, .func (.func 27) #[] #[]] w fun e w' => e = .returned (.int .i64 (Lx.run Lx.noEnd ((L s).drop a) : Nat)) ∧ Drawn0 w w' := by
  obtain ⟨n0, hn0⟩ : ∃ n, n = Lx.run Lx.noEnd ((L s).drop a) := ⟨_, rfl⟩
  rw [← hn0]
  go_enter Try.func26, Try.ntmps26
  go_wp2
  go_loopw [7] (fun i wr => ∃ k : Nat, i = .int .i64 k ∧ a + k ≤ s.size + 1 ∧ Aside0 (n0 = k + Lx.run Lx.noEnd ((L s).drop (a + k))) ∧ Aside0 (Drawn0 w wr)) (fun i _ => s.size + 1 - (intOf i).toNat)
  case atStart => exact ⟨0, rfl, by omega, ⟨by rw [hn0]; simp⟩, ⟨Drawn0.refl _⟩⟩
  case round =>
    obtain ⟨k, rfl, hk, HN, HD⟩ := hrel
    by_cases hlt : a + k < s.size
    · have hd := L_drop hlt
      cases hp : Lx.noEnd s[a + k] with
      | true =>
        have hn := HN.out
        rw [hd, Lx.run_yes hp] at hn
        have HC := Aside0.mk (show noEnd_f ((s[a + k].toNat : Nat) : Int) = some true by rw [noEnd_some, hp])
        clear hd hp
        go_wp2_with (first | (go_at_call 27; refine (noEnd_calls _ true _ HC.out).mono ?_; rintro e w' ⟨rfl, ⟨nd, rfl⟩⟩))
        go_roundw
        case rel => exact ⟨k + 1, by go_num, by omega, ⟨by rw [hn]; rw [show a + k + 1 = a + (k + 1) by omega]; omega⟩, ⟨Drawn0.step HD.out _⟩⟩
        case measure => simp [intOf]; omega
      | false =>
        have hn := HN.out
        rw [hd, Lx.run_no hp] at hn
        have HC := Aside0.mk (show noEnd_f ((s[a + k].toNat : Nat) : Int) = some false by rw [noEnd_some, hp])
        clear hd hp
        go_wp2_with (first | (go_at_call 27; refine (noEnd_calls _ false _ HC.out).mono ?_; rintro e w' ⟨rfl, ⟨nd, rfl⟩⟩))
        go_ret
        refine ⟨?_, Drawn0.step HD.out _⟩
        subst hn
        rfl
    · have hn := HN.out
      rw [L_end (by omega), Lx.run_nil] at hn
      go_wp2
      go_ret
      refine ⟨?_, HD.out⟩
      subst hn
      first
      | rfl
      | (rw [← hn0]; rfl)

set_option maxHeartbeats 1000000 in
set_option maxRecDepth 100000 in
theorem run29 (s : ByteArray) (a : Nat) (hs : s.size ≤ 4096) (ha : a ≤ s.size + 1) (w : World) :
    Calls Try.prog 26 #[.string s, .int .i64 a, .func (.func 29) #[] #[]] w fun e w' => e = .returned (.int .i64 (Lx.run Lx.mark ((L s).drop a) : Nat)) ∧ Drawn0 w w' := by
  obtain ⟨n0, hn0⟩ : ∃ n, n = Lx.run Lx.mark ((L s).drop a) := ⟨_, rfl⟩
  rw [← hn0]
  go_enter Try.func26, Try.ntmps26
  go_wp2
  go_loopw [7] (fun i wr => ∃ k : Nat, i = .int .i64 k ∧ a + k ≤ s.size + 1 ∧ Aside0 (n0 = k + Lx.run Lx.mark ((L s).drop (a + k))) ∧ Aside0 (Drawn0 w wr)) (fun i _ => s.size + 1 - (intOf i).toNat)
  case atStart => exact ⟨0, rfl, by omega, ⟨by rw [hn0]; simp⟩, ⟨Drawn0.refl _⟩⟩
  case round =>
    obtain ⟨k, rfl, hk, HN, HD⟩ := hrel
    by_cases hlt : a + k < s.size
    · have hd := L_drop hlt
      cases hp : Lx.mark s[a + k] with
      | true =>
        have hn := HN.out
        rw [hd, Lx.run_yes hp] at hn
        have HC := Aside0.mk (show lex_mark.f ((s[a + k].toNat : Nat) : Int) = some true by rw [mark_some, hp])
        clear hd hp
        go_wp2_with (first | (go_at_call 29; refine (lex_mark.calls _ true _ HC.out).mono ?_; rintro e w' ⟨rfl, ⟨nd, rfl⟩⟩))
        go_roundw
        case rel => exact ⟨k + 1, by go_num, by omega, ⟨by rw [hn]; rw [show a + k + 1 = a + (k + 1) by omega]; omega⟩, ⟨Drawn0.step HD.out _⟩⟩
        case measure => simp [intOf]; omega
      | false =>
        have hn := HN.out
        rw [hd, Lx.run_no hp] at hn
        have HC := Aside0.mk (show lex_mark.f ((s[a + k].toNat : Nat) : Int) = some false by rw [mark_some, hp])
        clear hd hp
        go_wp2_with (first | (go_at_call 29; refine (lex_mark.calls _ false _ HC.out).mono ?_; rintro e w' ⟨rfl, ⟨nd, rfl⟩⟩))
        go_ret
        refine ⟨?_, Drawn0.step HD.out _⟩
        subst hn
        rfl
    · have hn := HN.out
      rw [L_end (by omega), Lx.run_nil] at hn
      go_wp2
      go_ret
      refine ⟨?_, HD.out⟩
      subst hn
      first
      | rfl
      | (rw [← hn0]; rfl)

set_option maxHeartbeats 1000000 in
set_option maxRecDepth 100000 in
theorem run30 (s : ByteArray) (a : Nat) (hs : s.size ≤ 4096) (ha : a ≤ s.size + 1) (w : World) :
    Calls Try.prog 26 #[.string s, .int .i64 a, .func (.func 30) #[] #[]] w fun e w' => e = .returned (.int .i64 (Lx.run Lx.digit ((L s).drop a) : Nat)) ∧ Drawn0 w w' := by
  obtain ⟨n0, hn0⟩ : ∃ n, n = Lx.run Lx.digit ((L s).drop a) := ⟨_, rfl⟩
  rw [← hn0]
  go_enter Try.func26, Try.ntmps26
  go_wp2
  go_loopw [7] (fun i wr => ∃ k : Nat, i = .int .i64 k ∧ a + k ≤ s.size + 1 ∧ Aside0 (n0 = k + Lx.run Lx.digit ((L s).drop (a + k))) ∧ Aside0 (Drawn0 w wr)) (fun i _ => s.size + 1 - (intOf i).toNat)
  case atStart => exact ⟨0, rfl, by omega, ⟨by rw [hn0]; simp⟩, ⟨Drawn0.refl _⟩⟩
  case round =>
    obtain ⟨k, rfl, hk, HN, HD⟩ := hrel
    by_cases hlt : a + k < s.size
    · have hd := L_drop hlt
      cases hp : Lx.digit s[a + k] with
      | true =>
        have hn := HN.out
        rw [hd, Lx.run_yes hp] at hn
        have HC := Aside0.mk (show lex_digit.f ((s[a + k].toNat : Nat) : Int) = some true by rw [digit_some, hp])
        clear hd hp
        go_wp2_with (first | (go_at_call 30; refine (lex_digit.calls _ true _ HC.out).mono ?_; rintro e w' ⟨rfl, ⟨nd, rfl⟩⟩))
        go_roundw
        case rel => exact ⟨k + 1, by go_num, by omega, ⟨by rw [hn]; rw [show a + k + 1 = a + (k + 1) by omega]; omega⟩, ⟨Drawn0.step HD.out _⟩⟩
        case measure => simp [intOf]; omega
      | false =>
        have hn := HN.out
        rw [hd, Lx.run_no hp] at hn
        have HC := Aside0.mk (show lex_digit.f ((s[a + k].toNat : Nat) : Int) = some false by rw [digit_some, hp])
        clear hd hp
        go_wp2_with (first | (go_at_call 30; refine (lex_digit.calls _ false _ HC.out).mono ?_; rintro e w' ⟨rfl, ⟨nd, rfl⟩⟩))
        go_ret
        refine ⟨?_, Drawn0.step HD.out _⟩
        subst hn
        rfl
    · have hn := HN.out
      rw [L_end (by omega), Lx.run_nil] at hn
      go_wp2
      go_ret
      refine ⟨?_, HD.out⟩
      subst hn
      first
      | rfl
      | (rw [← hn0]; rfl)
end Go.Proofs.Ytpeaepdhnicceaa.Wk
