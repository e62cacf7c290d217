/- What lex.one does: the walk. -/
import Derived.Test.YtpeaepdhnicceaaTx
namespace Go.Proofs.Ytpeaepdhnicceaa.Wk
open Go.RowKit Go.Proofs.Ytpeaepdhnicceaa.PBase Go.Proofs.Ytpeaepdhnicceaa.Ix Go.Proofs.YtpeaepdhnicceaaW.PrintWords Go.Proofs.YtpeaepdhnicceaaW.PrintLast Go.Proofs.YtpeaepdhnicceaaW.PrintMore
theorem sign_le (l : List UInt8) : Lx.sign l ≤ l.length := by
  match l with
  | [] => exact Nat.le_refl _
  | [b] => rw [sign_one]; split <;> simp
  | b :: c :: t => rw [sign_two]; split; · simp
                   · split <;> simp
def tokV (k : Int) (x : ByteArray) (a : Nat) (n : Nat) : Value := .tuple #[.agg #[.int .u8 k, .string x, .int .i64 a], .int .i64 n]
theorem two_news (w : World) (a : Nat) : (((w.alloc (.cells #[.int .u8 0, .string ⟨#[]⟩, .int .i64 0] 31)).alloc (.cells #[.int .u8 0, .string ⟨#[]⟩, .int .i64 a] 31)).heap[w.heap.size]? = some (.cells #[.int .u8 0, .string ⟨#[]⟩, .int .i64 0] 31 (0, 0)) ∧ ((w.alloc (.cells #[.int .u8 0, .string ⟨#[]⟩, .int .i64 0] 31)).alloc (.cells #[.int .u8 0, .string ⟨#[]⟩, .int .i64 a] 31)).heap[w.heap.size + 1]? = some (.cells #[.int .u8 0, .string ⟨#[]⟩, .int .i64 a] 31 (0, 0))) ∧
    Below w.heap.size w ((w.alloc (.cells #[.int .u8 0, .string ⟨#[]⟩, .int .i64 0] 31)).alloc (.cells #[.int .u8 0, .string ⟨#[]⟩, .int .i64 a] 31)) := by
  refine ⟨?_, ((Below.refl _ _).alloc (Nat.le_refl _) _).alloc (by rw [World.size_alloc]; omega) _⟩
  constructor
  · show ((w.heap.push _).push _)[w.heap.size]? = _
    rw [Array.getElem?_push, if_neg (by rw [Array.size_push]; omega), Array.getElem?_push, if_pos rfl]
  · show ((w.heap.push _).push _)[w.heap.size + 1]? = _
    rw [Array.getElem?_push, if_pos (by rw [Array.size_push])]
theorem fin (W w : World) (hB : Below w.heap.size w W) (k2 x2 k1 x1 a1 : Value) (h0 : W.heap[w.heap.size]? = some (.cells #[.int .u8 0, .string ⟨#[]⟩, .int .i64 0] 31 (0, 0))) :
    (((((W.setCell ⟨w.heap.size + 1, 0, none⟩ k2).setCell ⟨w.heap.size + 1, 1, none⟩ x2).setCell ⟨w.heap.size, 0, none⟩ k1).setCell ⟨w.heap.size, 1, none⟩ x1).setCell ⟨w.heap.size, 2, none⟩ a1).heap[w.heap.size]? = some (.cells #[k1, x1, a1] 31 (0, 0)) ∧
    Below w.heap.size w (((((W.setCell ⟨w.heap.size + 1, 0, none⟩ k2).setCell ⟨w.heap.size + 1, 1, none⟩ x2).setCell ⟨w.heap.size, 0, none⟩ k1).setCell ⟨w.heap.size, 1, none⟩ x1).setCell ⟨w.heap.size, 2, none⟩ a1) := by
  refine ⟨blk_put (blk_put (blk_put (blk_far (blk_far h0 (by show w.heap.size ≠ w.heap.size + 1; omega) _) (by show w.heap.size ≠ w.heap.size + 1; omega) _) 0 _ rfl) 1 _ rfl) 2 _ rfl, ?_⟩
  exact below_set (below_set (below_set (below_set (below_set hB (by omega)) (by omega)) (Nat.le_refl _)) (Nat.le_refl _)) (Nat.le_refl _)
theorem fin2 (W w : World) (hB : Below w.heap.size w W) (k2 x2 k1 x1 a1 : Value) (nd : Nat) (h0 : W.heap[w.heap.size]? = some (.cells #[.int .u8 0, .string ⟨#[]⟩, .int .i64 0] 31 (0, 0))) :
    ((((((W.setCell ⟨w.heap.size + 1, 0, none⟩ k2).drewN nd).setCell ⟨w.heap.size + 1, 1, none⟩ x2).setCell ⟨w.heap.size, 0, none⟩ k1).setCell ⟨w.heap.size, 1, none⟩ x1).setCell ⟨w.heap.size, 2, none⟩ a1).heap[w.heap.size]? = some (.cells #[k1, x1, a1] 31 (0, 0)) ∧
    Below w.heap.size w ((((((W.setCell ⟨w.heap.size + 1, 0, none⟩ k2).drewN nd).setCell ⟨w.heap.size + 1, 1, none⟩ x2).setCell ⟨w.heap.size, 0, none⟩ k1).setCell ⟨w.heap.size, 1, none⟩ x1).setCell ⟨w.heap.size, 2, none⟩ a1) := by
  refine ⟨blk_put (blk_put (blk_put (blk_far (blk_drewN (blk_far h0 (by show w.heap.size ≠ w.heap.size + 1; omega) _) nd) (by show w.heap.size ≠ w.heap.size + 1; omega) _) 0 _ rfl) 1 _ rfl) 2 _ rfl, ?_⟩
  exact below_set (below_set (below_set (below_set (pw_below_drewN (below_set hB (by omega)) nd) (by omega)) (Nat.le_refl _)) (Nat.le_refl _)) (Nat.le_refl _)
set_option maxHeartbeats 2000000 in
set_option maxRecDepth 100000 in
theorem one_sign (s : ByteArray) (a : Nat) (hs : s.size ≤ 4096) (ha : a < s.size) (h1 : Lx.letter s[a] = false) (h2 : Lx.digit s[a] = false) (h3 : s[a].toNat ≠ 34) (w : World) :
    Calls Try.prog 21 #[.string s, .int .i64 a] w fun e w' => e = .returned (tokV 4 (s.extract a (a + Lx.sign ((L s).drop a))) a (Lx.sign ((L s).drop a))) ∧ Below w.heap.size w w' := by
  have hle := sign_le ((L s).drop a)
  rw [List.length_drop, L_len] at hle
  obtain ⟨n, hn⟩ : ∃ n, n = Lx.sign ((L s).drop a) := ⟨_, rfl⟩
  rw [← hn] at hle ⊢
  have HN := Aside0.mk hn
  have c3 : ((s[a].toNat : Int) == 34) = false := beq_eq_false_iff_ne.mpr (by omega)
  have HC := Aside0.mk (show lex_letter.f ((s[a].toNat : Nat) : Int) = some false by rw [letter_some, h1])
  have HD := Aside0.mk (show lex_digit.f ((s[a].toNat : Nat) : Int) = some false by rw [digit_some, h2])
  have HB0 := Aside0.mk (two_news w a)
  have g1 : (0 ≤ (a : Int)) = True := eq_true (by omega)
  have g2 : ((a : Int) ≤ (a : Int) + (n : Int)) = True := eq_true (by omega)
  have g3 : ((a : Int) + (n : Int) ≤ (s.size : Int)) = True := eq_true (by omega)
  have g4 : decide ((a : Int) ≤ (a : Int) + (n : Int)) = true := decide_eq_true (by omega)
  have g5 : decide ((a : Int) + (n : Int) ≤ (s.size : Int)) = true := decide_eq_true (by omega)
  clear hn h1 h2 h3
  go_enter Try.func21, Try.ntmps21
  go_wp2_with (first | (go_at_call 28; refine (lex_letter.calls _ false _ HC.out).mono ?_; rintro e w' ⟨rfl, ⟨nd, rfl⟩⟩) | (go_at_call 30; refine (lex_digit.calls _ false _ HD.out).mono ?_; rintro e w' ⟨rfl, ⟨nd2, rfl⟩⟩) | (go_at_call 32; refine (sign_any s a hs ha _).mono ?_; rw [← HN.out]; rintro e w' ⟨rfl, ⟨nd3, rfl⟩⟩))
  obtain ⟨f1, f2⟩ := fin _ w (pw_below_drewN HB0.out.2 (nd + nd2 + nd3)) (.int .u8 4) (.string (s.extract a (a + n))) (.int .u8 4) (.string (s.extract a (a + n))) (.int .i64 a) (blk_drewN HB0.out.1.1 (nd + nd2 + nd3))
  exact bodyPost_ret (results_list (rs := [.cell 4 31, .tmp 5]) rfl (by simp) (.cell w.heap.size 31 #[.int .u8 4, .string (s.extract a (a + n)), .int .i64 a] (0, 0) _ rfl f1 Try.underlying31 rfl (by kernel_rfl) (.tmp .nil))) rfl ⟨rfl, f2⟩
set_option maxHeartbeats 2000000 in
set_option maxRecDepth 100000 in
theorem one_word (s : ByteArray) (a : Nat) (hs : s.size ≤ 4096) (ha : a < s.size) (h1 : Lx.letter s[a] = true) (w : World) :
    Calls Try.prog 21 #[.string s, .int .i64 a] w fun e w' => e = .returned (tokV 1 (s.extract a (a + Lx.run Lx.mark ((L s).drop a))) a (Lx.run Lx.mark ((L s).drop a))) ∧ Below w.heap.size w w' := by
  have hle := Lx.run_le Lx.mark ((L s).drop a)
  rw [List.length_drop, L_len] at hle
  obtain ⟨n, hn⟩ : ∃ n, n = Lx.run Lx.mark ((L s).drop a) := ⟨_, rfl⟩
  rw [← hn] at hle ⊢
  have HN := Aside0.mk hn
  have HC := Aside0.mk (show lex_letter.f ((s[a].toNat : Nat) : Int) = some true by rw [letter_some, h1])
  have HB0 := Aside0.mk (two_news w a)
  have g1 : (0 ≤ (a : Int)) = True := eq_true (by omega)
  have g2 : ((a : Int) ≤ (a : Int) + (n : Int)) = True := eq_true (by omega)
  have g3 : ((a : Int) + (n : Int) ≤ (s.size : Int)) = True := eq_true (by omega)
  have g4 : decide ((a : Int) ≤ (a : Int) + (n : Int)) = true := decide_eq_true (by omega)
  have g5 : decide ((a : Int) + (n : Int) ≤ (s.size : Int)) = true := decide_eq_true (by omega)
  clear hn h1
  go_enter Try.func21, Try.ntmps21
  go_wp2_with (first | (go_at_call 28; refine (lex_letter.calls _ true _ HC.out).mono ?_; rintro e w' ⟨rfl, ⟨nd, rfl⟩⟩) | (go_at_call 26; refine (run29 s a hs (by omega) _).mono ?_; rw [← HN.out]; rintro e w' ⟨rfl, ⟨nd2, rfl⟩⟩))
  obtain ⟨f1, f2⟩ := fin _ w (pw_below_drewN HB0.out.2 (nd + nd2)) (.int .u8 1) (.string (s.extract a (a + n))) (.int .u8 1) (.string (s.extract a (a + n))) (.int .i64 a) (blk_drewN HB0.out.1.1 (nd + nd2))
  exact bodyPost_ret (results_list (rs := [.cell 4 31, .tmp 5]) rfl (by simp) (.cell w.heap.size 31 #[.int .u8 1, .string (s.extract a (a + n)), .int .i64 a] (0, 0) _ rfl f1 Try.underlying31 rfl (by kernel_rfl) (.tmp .nil))) rfl ⟨rfl, f2⟩
theorem num_le (l : List UInt8) : Lx.num l ≤ l.length := by
  have h1 := Lx.run_le Lx.digit l
  unfold Lx.num
  simp only []
  split
  · exact h1
  · rename_i c t e
    have h2 := Lx.run_le Lx.digit t
    have h3 := congrArg List.length e
    rw [List.length_drop, List.length_cons] at h3
    split <;> omega
theorem num_of (s : ByteArray) (a m : Nat) (hm : m = Lx.run Lx.digit ((L s).drop a)) : Lx.num ((L s).drop a) = if h : a + m < s.size then (if s[a + m].toNat = 46 ∧ 0 < Lx.run Lx.digit ((L s).drop (a + m + 1)) then m + (1 + Lx.run Lx.digit ((L s).drop (a + m + 1))) else m) else m := by
  unfold Lx.num
  simp only []
  rw [← hm, List.drop_drop]
  by_cases h : a + m < s.size
  · rw [dif_pos h, L_drop h]
  · rw [dif_neg h, L_end (by omega)]
set_option maxHeartbeats 2000000 in
set_option maxRecDepth 100000 in
theorem one_num (s : ByteArray) (a : Nat) (hs : s.size ≤ 4096) (ha : a < s.size) (h1 : Lx.letter s[a] = false) (h2 : Lx.digit s[a] = true) (w : World) :
    Calls Try.prog 21 #[.string s, .int .i64 a] w fun e w' => e = .returned (tokV 2 (s.extract a (a + Lx.num ((L s).drop a))) a (Lx.num ((L s).drop a))) ∧ Below w.heap.size w w' := by
  have hle := num_le ((L s).drop a)
  rw [List.length_drop, L_len] at hle
  obtain ⟨n, hn⟩ : ∃ n, n = Lx.num ((L s).drop a) := ⟨_, rfl⟩
  rw [← hn] at hle ⊢
  have hlm := Lx.run_le Lx.digit ((L s).drop a)
  rw [List.length_drop, L_len] at hlm
  obtain ⟨m, hm⟩ : ∃ m, m = Lx.run Lx.digit ((L s).drop a) := ⟨_, rfl⟩
  rw [← hm] at hlm
  obtain ⟨p, hp⟩ : ∃ p, p = Lx.run Lx.digit ((L s).drop (a + m + 1)) := ⟨_, rfl⟩
  rw [num_of s a m hm, ← hp] at hn
  have HM := Aside0.mk hm
  have HP := Aside0.mk hp
  have HC := Aside0.mk (show lex_letter.f ((s[a].toNat : Nat) : Int) = some false by rw [letter_some, h1])
  have HD := Aside0.mk (show lex_digit.f ((s[a].toNat : Nat) : Int) = some true by rw [digit_some, h2])
  have HB0 := Aside0.mk (two_news w a)
  have g1 : (0 ≤ (a : Int)) = True := eq_true (by omega)
  have g2 : ((a : Int) ≤ (a : Int) + (n : Int)) = True := eq_true (by omega)
  have g3 : ((a : Int) + (n : Int) ≤ (s.size : Int)) = True := eq_true (by omega)
  have g4 : decide ((a : Int) ≤ (a : Int) + (n : Int)) = true := decide_eq_true (by omega)
  have g5 : decide ((a : Int) + (n : Int) ≤ (s.size : Int)) = true := decide_eq_true (by omega)
  have RUN := Aside0.mk (fun (W : World) => (run30 s (a + m + 1) hs (by omega) W))
  rw [← hp] at RUN
  rw [show ((a + m + 1 : Nat) : Int) = (a : Int) + (m : Int) + 1 by omega] at RUN
  have RUN1 := Aside0.mk (fun (W : World) => (run30 s a hs (by omega) W))
  rw [← hm] at RUN1
  have hpl : p ≤ s.size := by have := Lx.run_le Lx.digit ((L s).drop (a + m + 1)); rw [List.length_drop, L_len, ← hp] at this; omega
  clear hp hm h1 h2
  by_cases q1 : a + m < s.size
  · rw [dif_pos q1] at hn
    by_cases q2 : s[a + m].toNat = 46
    · have c2 : ((s[a + m].toNat : Int) == 46) = true := beq_iff_eq.mpr (by omega)
      by_cases q3 : 0 < p
      · rw [if_pos ⟨q2, q3⟩] at hn
        have c3 : decide ((0 : Int) < (p : Int)) = true := decide_eq_true (by omega)
        have hn' := Aside0.mk (show (m : Int) + (1 + (p : Int)) = (n : Int) by omega)
        have hn2 := Aside0.mk (show a + (m + (1 + p)) = a + n by omega)
        have g2' : ((a : Int) ≤ (a : Int) + ((m : Int) + (1 + (p : Int)))) = True := eq_true (by omega)
        have g3' : ((a : Int) + ((m : Int) + (1 + (p : Int))) ≤ (s.size : Int)) = True := eq_true (by omega)
        clear q2 hn g2 g3 g4 g5
        go_enter Try.func21, Try.ntmps21
        go_wp2_with (first | (go_at_call 28; refine (lex_letter.calls _ false _ HC.out).mono ?_; rintro e w' ⟨rfl, ⟨nd, rfl⟩⟩) | (go_at_call 30; refine (lex_digit.calls _ true _ HD.out).mono ?_; rintro e w' ⟨rfl, ⟨nd2, rfl⟩⟩) | (go_at_call 26; (with_reducible refine (RUN1.out _).mono ?_); rintro e w' ⟨rfl, ⟨nd3, rfl⟩⟩) | (go_at_call 26; (with_reducible refine (RUN.out _).mono ?_); rintro e w' ⟨rfl, ⟨nd4, rfl⟩⟩))
        simp only [hn'.out, hn2.out]
        obtain ⟨f1, f2⟩ := fin2 _ w (pw_below_drewN HB0.out.2 (nd + nd2 + nd3)) (.int .u8 2) (.string (s.extract a (a + n))) (.int .u8 2) (.string (s.extract a (a + n))) (.int .i64 a) nd4 (blk_drewN HB0.out.1.1 (nd + nd2 + nd3))
        exact bodyPost_ret (results_list (rs := [.cell 4 31, .tmp 5]) rfl (by simp) (.cell w.heap.size 31 #[.int .u8 2, .string (s.extract a (a + n)), .int .i64 a] (0, 0) _ rfl f1 Try.underlying31 rfl (by kernel_rfl) (.tmp .nil))) rfl ⟨rfl, f2⟩
      · rw [if_neg (fun h => q3 h.2)] at hn
        have c3 : decide ((0 : Int) < (p : Int)) = false := decide_eq_false (by omega)
        subst hn
        clear q2
        go_enter Try.func21, Try.ntmps21
        go_wp2_with (first | (go_at_call 28; refine (lex_letter.calls _ false _ HC.out).mono ?_; rintro e w' ⟨rfl, ⟨nd, rfl⟩⟩) | (go_at_call 30; refine (lex_digit.calls _ true _ HD.out).mono ?_; rintro e w' ⟨rfl, ⟨nd2, rfl⟩⟩) | (go_at_call 26; (with_reducible refine (RUN1.out _).mono ?_); rintro e w' ⟨rfl, ⟨nd3, rfl⟩⟩) | (go_at_call 26; (with_reducible refine (RUN.out _).mono ?_); rintro e w' ⟨rfl, ⟨nd4, rfl⟩⟩))
        obtain ⟨f1, f2⟩ := fin2 _ w (pw_below_drewN HB0.out.2 (nd + nd2 + nd3)) (.int .u8 2) (.string (s.extract a (a + n))) (.int .u8 2) (.string (s.extract a (a + n))) (.int .i64 a) nd4 (blk_drewN HB0.out.1.1 (nd + nd2 + nd3))
        exact bodyPost_ret (results_list (rs := [.cell 4 31, .tmp 5]) rfl (by simp) (.cell w.heap.size 31 #[.int .u8 2, .string (s.extract a (a + n)), .int .i64 a] (0, 0) _ rfl f1 Try.underlying31 rfl (by kernel_rfl) (.tmp .nil))) rfl ⟨rfl, f2⟩
    · rw [if_neg (fun h => q2 h.1)] at hn
      have c2 : ((s[a + m].toNat : Int) == 46) = false := beq_eq_false_iff_ne.mpr (by omega)
      subst hn
      clear q2
      go_enter Try.func21, Try.ntmps21
      go_wp2_with (first | (go_at_call 28; refine (lex_letter.calls _ false _ HC.out).mono ?_; rintro e w' ⟨rfl, ⟨nd, rfl⟩⟩) | (go_at_call 30; refine (lex_digit.calls _ true _ HD.out).mono ?_; rintro e w' ⟨rfl, ⟨nd2, rfl⟩⟩) | (go_at_call 26; (with_reducible refine (RUN1.out _).mono ?_); rintro e w' ⟨rfl, ⟨nd3, rfl⟩⟩) | (go_at_call 26; (with_reducible refine (RUN.out _).mono ?_); rintro e w' ⟨rfl, ⟨nd4, rfl⟩⟩))
      obtain ⟨f1, f2⟩ := fin2 _ w (pw_below_drewN HB0.out.2 (nd + nd2 + nd3)) (.int .u8 2) (.string (s.extract a (a + n))) (.int .u8 2) (.string (s.extract a (a + n))) (.int .i64 a) nd4 (blk_drewN HB0.out.1.1 (nd + nd2 + nd3))
      exact bodyPost_ret (results_list (rs := [.cell 4 31, .tmp 5]) rfl (by simp) (.cell w.heap.size 31 #[.int .u8 2, .string (s.extract a (a + n)), .int .i64 a] (0, 0) _ rfl f1 Try.underlying31 rfl (by kernel_rfl) (.tmp .nil))) rfl ⟨rfl, f2⟩
  · rw [dif_neg q1] at hn
    subst hn
    go_enter Try.func21, Try.ntmps21
    go_wp2_with (first | (go_at_call 28; refine (lex_letter.calls _ false _ HC.out).mono ?_; rintro e w' ⟨rfl, ⟨nd, rfl⟩⟩) | (go_at_call 30; refine (lex_digit.calls _ true _ HD.out).mono ?_; rintro e w' ⟨rfl, ⟨nd2, rfl⟩⟩) | (go_at_call 26; (with_reducible refine (RUN1.out _).mono ?_); rintro e w' ⟨rfl, ⟨nd3, rfl⟩⟩) | (go_at_call 26; (with_reducible refine (RUN.out _).mono ?_); rintro e w' ⟨rfl, ⟨nd4, rfl⟩⟩))
    obtain ⟨f1, f2⟩ := fin2 _ w (pw_below_drewN HB0.out.2 (nd + nd2 + nd3)) (.int .u8 2) (.string (s.extract a (a + n))) (.int .u8 2) (.string (s.extract a (a + n))) (.int .i64 a) nd4 (blk_drewN HB0.out.1.1 (nd + nd2 + nd3))
    exact bodyPost_ret (results_list (rs := [.cell 4 31, .tmp 5]) rfl (by simp) (.cell w.heap.size 31 #[.int .u8 2, .string (s.extract a (a + n)), .int .i64 a] (0, 0) _ rfl f1 Try.underlying31 rfl (by kernel_rfl) (.tmp .nil))) rfl ⟨rfl, f2⟩
theorem one_text (s : ByteArray) (a : Nat) (hs : s.size ≤ 4096) (ha : a < s.size) (h1 : Lx.letter s[a] = false) (h2 : Lx.digit s[a] = false) (h3 : s[a].toNat = 34) (w : World) :
    Calls Try.prog 21 #[.string s, .int .i64 a] w fun e w' => e = .returned (tokV 3 (textR (Lx.text ((L s).drop (a + 1)))).1 a (textR (Lx.text ((L s).drop (a + 1)))).2) ∧ Below w.heap.size w w' := by
  obtain ⟨r, hr⟩ : ∃ r, r = textR (Lx.text ((L s).drop (a + 1))) := ⟨_, rfl⟩
  rw [← hr]
  have HR := Aside0.mk hr
  have c3 : ((s[a].toNat : Int) == 34) = true := beq_iff_eq.mpr (by omega)
  have HC := Aside0.mk (show lex_letter.f ((s[a].toNat : Nat) : Int) = some false by rw [letter_some, h1])
  have HD := Aside0.mk (show lex_digit.f ((s[a].toNat : Nat) : Int) = some false by rw [digit_some, h2])
  have HB0 := Aside0.mk (two_news w a)
  clear hr h1 h2 h3
  go_enter Try.func21, Try.ntmps21
  go_wp2_with (first | (go_at_call 28; refine (lex_letter.calls _ false _ HC.out).mono ?_; rintro e w' ⟨rfl, ⟨nd, rfl⟩⟩) | (go_at_call 30; refine (lex_digit.calls _ false _ HD.out).mono ?_; rintro e w' ⟨rfl, ⟨nd2, rfl⟩⟩) | (go_at_call 31; refine (text_any s a hs ha _).mono ?_; rw [← HR.out]))
  rintro e w1 ⟨rfl, hb1⟩
  have e0 := blk_below (blk_far (blk_drewN HB0.out.1.1 (nd + nd2)) (p := ⟨w.heap.size + 1, 0, none⟩) (by show w.heap.size ≠ w.heap.size + 1; omega) (.int .u8 3)) hb1
  have e1 := blk_below (blk_put (blk_drewN HB0.out.1.2 (nd + nd2)) 0 (.int .u8 3) rfl) hb1
  have HB1 := Aside0.mk (below_step (below_set (pw_below_drewN HB0.out.2 (nd + nd2)) (j := 0) (v := .int .u8 3) (show w.heap.size ≤ w.heap.size + 1 by omega)) hb1)
  have E0 := Aside0.mk e0
  have x0 := blk_cell e1 0
  have x1 := blk_cell e1 1
  have x2 := blk_cell e1 2
  have y0 := blk_cell e0 0
  have y1 := blk_cell e0 1
  have y2 := blk_cell e0 2
  have i0 := blk_frozen e1 0
  have i1 := blk_frozen e1 1
  have i2 := blk_frozen e1 2
  have j0 := blk_frozen e0 0
  have j1 := blk_frozen e0 1
  have j2 := blk_frozen e0 2
  clear e0 e1 hb1
  go_wp2_with fail
  have f1 : ((((w1.setCell ⟨w.heap.size + 1, 1, none⟩ (.string r.1)).setCell ⟨w.heap.size, 0, none⟩ (.int .u8 3)).setCell ⟨w.heap.size, 1, none⟩ (.string r.1)).setCell ⟨w.heap.size, 2, none⟩ (.int .i64 a)).heap[w.heap.size]? = some (.cells #[.int .u8 3, .string r.1, .int .i64 a] 31 (0, 0)) :=
    blk_put (blk_put (blk_put (blk_far E0.out (p := ⟨w.heap.size + 1, 1, none⟩) (by show w.heap.size ≠ w.heap.size + 1; omega) _) 0 _ rfl) 1 _ rfl) 2 _ rfl
  exact bodyPost_ret (results_list (rs := [.cell 4 31, .tmp 5]) rfl (by simp) (.cell w.heap.size 31 #[.int .u8 3, .string r.1, .int .i64 a] (0, 0) _ rfl f1 Try.underlying31 rfl (by kernel_rfl) (.tmp .nil))) rfl ⟨rfl, below_set (below_set (below_set (below_set HB1.out (by omega)) (Nat.le_refl _)) (Nat.le_refl _)) (Nat.le_refl _)⟩
theorem lx_word {b : UInt8} {t : List UInt8} (h : Lx.letter b = true) : Lx.one (b :: t) = (1, (b :: t).take (Lx.run Lx.mark (b :: t)), Lx.run Lx.mark (b :: t)) := if_pos h
theorem lx_num {b : UInt8} {t : List UInt8} (h : Lx.letter b = false) (h2 : Lx.digit b = true) : Lx.one (b :: t) = (2, (b :: t).take (Lx.num (b :: t)), Lx.num (b :: t)) := (if_neg (by simp [h])).trans (if_pos h2)
theorem lx_text {b : UInt8} {t : List UInt8} (h : Lx.letter b = false) (h2 : Lx.digit b = false) (h3 : b.toNat = 34) : Lx.one (b :: t) = (match Lx.text t with | some q => (3, q.1, q.2 + 1) | none => (3, [], 0)) := (if_neg (by simp [h])).trans ((if_neg (by simp [h2])).trans (if_pos h3))
theorem lx_sign {b : UInt8} {t : List UInt8} (h : Lx.letter b = false) (h2 : Lx.digit b = false) (h3 : ¬ b.toNat = 34) : Lx.one (b :: t) = (4, (b :: t).take (Lx.sign (b :: t)), Lx.sign (b :: t)) := (if_neg (by simp [h])).trans ((if_neg (by simp [h2])).trans (if_neg h3))
/-- The token at a place, told in the program's values. -/
def tokR (x : Nat × List UInt8 × Nat) (a : Nat) : Value := tokV x.1 ⟨x.2.1.toArray⟩ a x.2.2
theorem one_any (s : ByteArray) (a : Nat) (hs : s.size ≤ 4096) (ha : a < s.size) (w : World) :
    Calls Try.prog 21 #[.string s, .int .i64 a] w fun e w' => e = .returned (tokR (Lx.one ((L s).drop a)) a) ∧ Below w.heap.size w w' := by
  have hd := L_drop ha
  have hx : ∀ n, s.extract a (a + n) = ⟨(((L s).drop a).take n).toArray⟩ := fun n => by rw [Lib.extract_eq, Nat.add_sub_cancel_left]
  cases h1 : Lx.letter s[a] with
  | true =>
    rw [hd, lx_word h1, ← hd]
    refine (one_word s a hs ha h1 w).mono ?_
    rintro e w1 ⟨rfl, hb⟩
    exact ⟨by rw [hx]; rfl, hb⟩
  | false =>
    cases h2 : Lx.digit s[a] with
    | true =>
      rw [hd, lx_num h1 h2, ← hd]
      refine (one_num s a hs ha h1 h2 w).mono ?_
      rintro e w1 ⟨rfl, hb⟩
      exact ⟨by rw [hx]; rfl, hb⟩
    | false =>
      by_cases h3 : s[a].toNat = 34
      · rw [hd, lx_text h1 h2 h3]
        refine (one_text s a hs ha h1 h2 h3 w).mono ?_
        rintro e w1 ⟨rfl, hb⟩
        refine ⟨?_, hb⟩
        cases Lx.text ((L s).drop (a + 1)) <;> rfl
      · rw [hd, lx_sign h1 h2 h3, ← hd]
        refine (one_sign s a hs ha h1 h2 h3 w).mono ?_
        rintro e w1 ⟨rfl, hb⟩
        exact ⟨by rw [hx]; rfl, hb⟩
end Go.Proofs.Ytpeaepdhnicceaa.Wk
