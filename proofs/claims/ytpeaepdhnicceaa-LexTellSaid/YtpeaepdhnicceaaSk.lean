/- What lex.skip and lex.sign do: the walks. -/
import Derived.Test.YtpeaepdhnicceaaRun
namespace Go.Proofs.Ytpeaepdhnicceaa.Wk
open Go.RowKit Go.Proofs.Ytpeaepdhnicceaa.PBase Go.Proofs.Ytpeaepdhnicceaa.Ix Go.Proofs.YtpeaepdhnicceaaW.PrintWords Go.Proofs.YtpeaepdhnicceaaW.PrintLast Go.Proofs.YtpeaepdhnicceaaW.PrintMore
theorem toU (b : UInt8) : ((b.toNat : Nat) : Int).toNat.toUInt8 = b := by rw [Int.toNat_natCast]; exact UInt8.ofNat_toNat
theorem ix_nil (b : UInt8) : Lib.indexByte [] b = -1 := rfl
theorem ix_cons (c : UInt8) (l : List UInt8) (b : UInt8) : decide (0 ≤ Lib.indexByte (c :: l) b) = (decide (b.toNat = c.toNat) || decide (0 ≤ Lib.indexByte l b)) := by
  have hg := Lib.indexByte_ge l b
  rw [show Lib.indexByte (c :: l) b = if c == b then 0 else if Lib.indexByte l b == -1 then -1 else Lib.indexByte l b + 1 from rfl]
  by_cases h : c = b
  · subst h; simp
  · have hne : ¬ b.toNat = c.toNat := fun e => h (UInt8.toNat_inj.mp e.symm)
    rw [if_neg (by simpa using h), decide_eq_false hne, Bool.false_or]
    split
    · rename_i e; rw [eq_of_beq e]
    · rename_i e
      have : Lib.indexByte l b ≠ -1 := by simpa using e
      apply decide_eq_decide.mpr
      omega
theorem blank_ix (b : UInt8) : ∃ t : Int, strings_IndexByte.f (⟨#[32, 9, 10, 13]⟩ : ByteArray) ((b.toNat : Nat) : Int) = some t ∧ decide (0 ≤ t) = Lx.blank b := by
  refine ⟨_, by unfold strings_IndexByte.f; rfl, ?_⟩
  rw [toU]
  show decide (0 ≤ Lib.indexByte [32, 9, 10, 13] b) = _
  simp only [ix_cons, ix_nil]
  unfold Lx.blank
  simp [Bool.or_assoc]
theorem signA_ix (b : UInt8) : ∃ t : Int, strings_IndexByte.f (⟨#[60, 62, 61, 33, 94]⟩ : ByteArray) ((b.toNat : Nat) : Int) = some t ∧ decide (0 ≤ t) = Lx.signA b := by
  refine ⟨_, by unfold strings_IndexByte.f; rfl, ?_⟩
  rw [toU]
  show decide (0 ≤ Lib.indexByte [60, 62, 61, 33, 94] b) = _
  simp only [ix_cons, ix_nil]
  unfold Lx.signA
  simp [Bool.or_assoc]
theorem signB_ix (b : UInt8) : ∃ t : Int, strings_IndexByte.f (⟨#[123, 125, 40, 41, 91, 93, 44, 58, 59, 61, 60, 62, 45]⟩ : ByteArray) ((b.toNat : Nat) : Int) = some t ∧ decide (0 ≤ t) = Lx.signB b := by
  refine ⟨_, by unfold strings_IndexByte.f; rfl, ?_⟩
  rw [toU]
  show decide (0 ≤ Lib.indexByte [123, 125, 40, 41, 91, 93, 44, 58, 59, 61, 60, 62, 45] b) = _
  simp only [ix_cons, ix_nil]
  unfold Lx.signB
  simp [Bool.or_assoc]
theorem wrap_small {n : Int} (h0 : -1000000 ≤ n) (h1 : n ≤ 1000000) : wrap64 n = n := by
  unfold wrap64
  omega
theorem j0_some (s : ByteArray) (a : Nat) (ha : a < s.size) (x : Bool) : lex_sign.j0 1 s (a : Int) x = some (if x then 2 else if Lx.signB s[a] then 1 else 0) := by
  cases x with
  | true => rfl
  | false =>
    show (if false = true then (some 2) else (if 0 ≤ (a : Int) then (if (a : Int) < (s.size : Int) then ((strings_IndexByte.f (⟨#[123, 125, 40, 41, 91, 93, 44, 58, 59, 61, 60, 62, 45]⟩ : ByteArray) (bt s a)).bind fun t104 => (if t104 ≥ 0 then (some 1) else (some 0))) else (none)) else (none))) = _
    obtain ⟨t, hf, ht⟩ := signB_ix s[a]
    rw [if_neg (by decide), if_pos (by omega), if_pos (by omega), bt_nat ha, hf, Option.bind_some]
    by_cases h : 0 ≤ t
    · rw [if_pos h, ← ht, decide_eq_true h]; rfl
    · rw [if_neg h, ← ht, decide_eq_false h]; rfl
theorem sign_two (b c : UInt8) (l : List UInt8) : Lx.sign (b :: c :: l) = if c.toNat = 61 ∧ Lx.signA b = true then 2 else if Lx.signB b then 1 else 0 := rfl
theorem sign_one (b : UInt8) : Lx.sign [b] = if Lx.signB b then 1 else 0 := rfl
theorem sign_some (s : ByteArray) (a : Nat) (hs : s.size ≤ 4096) (ha : a < s.size) : lex_sign.f 1 s (a : Int) = some ((Lx.sign ((L s).drop a) : Nat) : Int) := by
  unfold lex_sign.f
  rw [wrap_small (by omega) (by omega), L_drop ha]
  by_cases h1 : a + 1 < s.size
  · rw [if_pos (by omega), if_pos (by omega), L_drop h1, show ((a : Int) + 1) = ((a + 1 : Nat) : Int) by omega, bt_nat h1, sign_two]
    by_cases h2 : s[a + 1].toNat = 61
    · obtain ⟨t, hf, ht⟩ := signA_ix s[a]
      rw [if_pos (by omega), if_pos (by omega), if_pos (by omega), bt_nat ha, hf, Option.bind_some, j0_some s a ha]
      rw [show decide (t ≥ 0) = Lx.signA s[a] from ht]
      generalize Lx.signA s[a] = x
      generalize Lx.signB s[a] = y
      cases x <;> cases y <;> simp [h2]
    · rw [if_neg (by omega), j0_some s a ha, if_neg (show ¬ (s[a + 1].toNat = 61 ∧ Lx.signA s[a] = true) from fun h => h2 h.1)]
      generalize Lx.signB s[a] = y
      cases y <;> rfl
  · rw [if_neg (by omega), L_end (show s.size ≤ a + 1 by omega), j0_some s a ha, sign_one]
    generalize Lx.signB s[a] = y
    cases y <;> rfl
theorem sign_any (s : ByteArray) (a : Nat) (hs : s.size ≤ 4096) (ha : a < s.size) (w : World) :
    Calls Try.prog 32 #[.string s, .int .i64 a] w fun e w' => e = .returned (.int .i64 ((Lx.sign ((L s).drop a) : Nat) : Int)) ∧ Drawn0 w w' :=
  lex_sign.calls 1 s a _ w (sign_some s a hs ha)
set_option maxHeartbeats 1000000 in
set_option maxRecDepth 100000 in
theorem skip_any (s : ByteArray) (a : Nat) (hs : s.size ≤ 4096) (ha : a ≤ s.size) (w : World) :
    Calls Try.prog 20 #[.string s, .int .i64 a] w fun e w' => e = .returned (.int .i64 ((a + Lx.skip false ((L s).drop a) : Nat) : Int)) ∧ Drawn0 w w' := by
  obtain ⟨n0, hn0⟩ : ∃ n, n = a + Lx.skip false ((L s).drop a) := ⟨_, rfl⟩
  rw [← hn0]
  go_enter Try.func20, Try.ntmps20
  go_wp2
  go_loopw [1] (fun i wr => ∃ k : Nat, i = .int .i64 k ∧ k ≤ s.size ∧ Aside0 (n0 = k + Lx.skip false ((L s).drop k)) ∧ Aside0 (Drawn0 w wr)) (fun i _ => s.size + 1 - (intOf i).toNat)
  case atStart => exact ⟨a, rfl, ha, ⟨hn0⟩, ⟨Drawn0.refl _⟩⟩
  case round =>
    obtain ⟨k, rfl, hk, HN, HD⟩ := hrel
    by_cases hlt : k < s.size
    · have hd := L_drop hlt
      obtain ⟨t, hf, ht⟩ := blank_ix s[k]
      have HF := Aside0.mk hf
      clear hf
      cases hp : Lx.blank s[k] with
      | true =>
        have hn := HN.out
        rw [hd, Lx.skip, if_pos hp] at hn
        rw [hp] at ht
        clear hd hp
        go_wp2_with (first | (go_at_call 25; refine (strings_IndexByte.calls _ _ t _ HF.out).mono ?_; rintro e w' ⟨rfl, ⟨nd, rfl⟩⟩))
        go_roundw
        case rel => exact ⟨k + 1, by go_num, by omega, ⟨by rw [hn]; omega⟩, ⟨Drawn0.step HD.out _⟩⟩
        case measure => simp [intOf]; omega
      | false =>
        have hn := HN.out
        rw [hp] at ht
        by_cases hc : s[k].toNat = 35
        · have hnE : Lx.noEnd s[k] = true := by unfold Lx.noEnd; rw [hc]; rfl
          rw [hd, Lx.skip, if_neg (by simp [hp]), if_pos hc] at hn
          have hr := Lx.skip_run (s[k] :: (L s).drop (k + 1))
          rw [show Lx.skip true (s[k] :: (L s).drop (k + 1)) = 1 + Lx.skip true ((L s).drop (k + 1)) by rw [Lx.skip, hnE], ← hd] at hr
          rw [List.drop_drop] at hr
          have hle := Lx.run_le Lx.noEnd ((L s).drop k)
          rw [List.length_drop, L_len] at hle
          have hpos : 0 < Lx.run Lx.noEnd ((L s).drop k) := by rw [hd, Lx.run_yes hnE]; omega
          have c1 : ((s[k].toNat : Int) == 35) = true := beq_iff_eq.mpr (by omega)
          have hn2 : n0 = k + Lx.run Lx.noEnd ((L s).drop k) + Lx.skip false ((L s).drop (k + Lx.run Lx.noEnd ((L s).drop k))) := by omega
          clear hr hn hd hp hnE hc
          generalize hq : Lx.run Lx.noEnd ((L s).drop k) = q at *
          have HQ := Aside0.mk hq
          have HN2 := Aside0.mk hn2
          clear hq hn2
          go_wp2_with (first | (go_at_call 25; refine (strings_IndexByte.calls _ _ t _ HF.out).mono ?_; rintro e w' ⟨rfl, ⟨nd, rfl⟩⟩) | (go_at_call 26; refine (run27 s k hs (by omega) _).mono ?_; rw [HQ.out]; rintro e w' ⟨rfl, ⟨nd2, rfl⟩⟩))
          go_roundw
          case rel => exact ⟨k + q, by go_num, by omega, HN2, ⟨Drawn0.step HD.out _⟩⟩
          case measure => simp [intOf]; omega
        · rw [hd, Lx.skip, if_neg (by simp [hp]), if_neg hc] at hn
          have c1 : ((s[k].toNat : Int) == 35) = false := beq_eq_false_iff_ne.mpr (by omega)
          clear hd hp hc
          go_wp2_with (first | (go_at_call 25; refine (strings_IndexByte.calls _ _ t _ HF.out).mono ?_; rintro e w' ⟨rfl, ⟨nd, rfl⟩⟩))
          go_ret
          refine ⟨?_, Drawn0.step HD.out _⟩
          subst hn
          first
          | rfl
          | (rw [← hn0]; rfl)
    · have hn := HN.out
      rw [L_end (by omega), Lx.skip] at hn
      go_wp2
      go_ret
      refine ⟨?_, HD.out⟩
      subst hn
      first
      | rfl
      | (rw [← hn0]; rfl)
end Go.Proofs.Ytpeaepdhnicceaa.Wk
