/- What the chapter lex says, over lists of bytes: the plain laws. -/
import Derived.Test.YtpeaepdhnicceaaLx
namespace Go.Proofs.Ytpeaepdhnicceaa.Lx
theorem run_app {p : UInt8 → Bool} {b : UInt8} (h : p b = false) (l t : List UInt8) : run p (l ++ b :: t) = run p l := by
  induction l with
  | nil => rw [List.nil_append, run_no h]; rfl
  | cons c l ih => cases hc : p c with
    | true => rw [List.cons_append, run_yes hc, run_yes hc, ih]
    | false => rw [List.cons_append, run_no hc, run_no hc]
theorem run_take (p : UInt8 → Bool) (l : List UInt8) : run p (l.take (run p l)) = run p l := by
  induction l with
  | nil => rfl
  | cons c l ih => cases hc : p c with
    | true => rw [run_yes hc, Nat.add_comm, List.take_succ_cons, run_yes hc, ih]; omega
    | false => rw [run_no hc, List.take_zero]; rfl
theorem run_full {p : UInt8 → Bool} {l : List UInt8} (h : ∀ b ∈ l, p b = true) : run p l = l.length := by
  induction l with
  | nil => rfl
  | cons c l ih => rw [run_yes (h c (by simp)), ih (fun b hb => h b (by simp [hb])), List.length_cons]; omega
/-- A run that ends. -/
theorem run_cut {p : UInt8 → Bool} {b : UInt8} (h : p b = false) (l t : List UInt8) : run p (l.take (run p l) ++ b :: t) = run p l := by
  rw [run_app h, run_take]
theorem skip_end : ∀ (r : Bool) (l t : List UInt8), skip r l = l.length → skip r (l ++ 10 :: t) = l.length + 1 + skip false t
  | true, [], t, _ => by
    rw [List.nil_append, skip, show noEnd 10 = false from rfl, List.length_nil]
  | false, [], t, _ => by
    rw [List.nil_append, skip, if_pos (by rfl), List.length_nil]
  | true, b :: l, t, h => by
    rw [skip, List.length_cons] at h
    have := skip_end (noEnd b) l t (by omega)
    rw [List.cons_append, skip, this, List.length_cons]; omega
  | false, b :: l, t, h => by
    rw [skip, List.length_cons] at h
    rw [List.cons_append, skip, List.length_cons]
    by_cases hb : blank b = true
    · rw [if_pos hb] at h ⊢
      have := skip_end false l t (by omega)
      omega
    · rw [if_neg hb] at h ⊢
      by_cases h35 : b.toNat = 35
      · rw [if_pos h35] at h ⊢
        have := skip_end true l t (by omega)
        omega
      · rw [if_neg h35] at h; omega
theorem skip_lt : ∀ (r : Bool) (l t : List UInt8), skip r l < l.length → skip r (l ++ t) = skip r l
  | true, [], t, h => by simp at h
  | false, [], t, h => by simp at h
  | true, b :: l, t, h => by
    rw [skip, List.length_cons] at h
    rw [List.cons_append, skip, skip, skip_lt (noEnd b) l t (by omega)]
  | false, b :: l, t, h => by
    rw [skip, List.length_cons] at h
    rw [List.cons_append, skip, skip]
    by_cases hb : blank b = true
    · rw [if_pos hb] at h ⊢
      rw [if_pos hb, skip_lt false l t (by omega)]
    · rw [if_neg hb] at h ⊢
      rw [if_neg hb]
      by_cases h35 : b.toNat = 35
      · rw [if_pos h35] at h ⊢
        rw [if_pos h35, skip_lt true l t (by omega)]
      · rw [if_neg h35, if_neg h35]
/-- Is a text blanks and remarks alone? -/
def betw : Bool → List UInt8 → Bool
  | _, [] => true
  | true, b :: t => betw (noEnd b) t
  | false, b :: t => if b.toNat = 35 then betw true t else if blank b then betw false t else false
theorem betw_skip : ∀ (r : Bool) (l : List UInt8), betw r (l.take (skip r l)) = true
  | true, [] => rfl
  | false, [] => rfl
  | true, b :: t => by
    rw [skip, Nat.add_comm, List.take_succ_cons, betw]; exact betw_skip _ t
  | false, b :: t => by
    rw [skip]
    by_cases hb : blank b = true
    · rw [if_pos hb, Nat.add_comm, List.take_succ_cons, betw, if_pos hb]
      have h35 : b.toNat ≠ 35 := by
        unfold blank at hb; simp only [Bool.or_eq_true, decide_eq_true_eq] at hb; omega
      rw [if_neg h35]; exact betw_skip _ t
    · rw [if_neg hb]
      by_cases h35 : b.toNat = 35
      · rw [if_pos h35, Nat.add_comm, List.take_succ_cons, betw, if_pos h35]; exact betw_skip _ t
      · rw [if_neg h35, List.take_zero]; rfl
/-- A text between quotes, as it stands. -/
def esc : List UInt8 → List UInt8
  | [] => []
  | b :: t => if b.toNat = 34 ∨ b.toNat = 92 then 92 :: b :: esc t else b :: esc t
def form (k : Nat) (x : List UInt8) : List UInt8 := if k = 3 then 34 :: (esc x ++ [34]) else x
theorem text_nil : text [] = none := rfl
theorem text_cons (b : UInt8) (t : List UInt8) : text (b :: t) = (if b.toNat < 32 ∨ 126 < b.toNat then none else if b.toNat = 34 then some ([], 1) else
    if b.toNat = 92 then (match t with
      | c :: u => if c.toNat = 34 ∨ c.toNat = 92 then (text u).map (fun q => (c :: q.1, q.2 + 2)) else none
      | [] => none)
    else (text t).map (fun q => (b :: q.1, q.2 + 1))) := text.eq_def (b :: t)
/-- What a text's bytes are (one step). -/
theorem text_cases {l : List UInt8} {q : List UInt8 × Nat} (h : text l = some q) :
    (∃ u, l = 34 :: u ∧ q = ([], 1)) ∨ (∃ c u q', l = 92 :: c :: u ∧ (c.toNat = 34 ∨ c.toNat = 92) ∧ text u = some q' ∧ q = (c :: q'.1, q'.2 + 2)) ∨
    (∃ b u q', l = b :: u ∧ 32 ≤ b.toNat ∧ b.toNat ≤ 126 ∧ b.toNat ≠ 34 ∧ b.toNat ≠ 92 ∧ text u = some q' ∧ q = (b :: q'.1, q'.2 + 1)) := by
  cases l with
  | nil => cases h
  | cons b t =>
    rw [text_cons] at h
    split at h
    · cases h
    · rename_i hb
      split at h
      · rename_i h34
        cases h
        exact .inl ⟨t, by rw [show b = 34 from UInt8.toNat_inj.mp h34], rfl⟩
      · rename_i h34
        split at h
        · rename_i h92
          split at h
          · rename_i c u
            split at h
            · rename_i hc
              obtain ⟨q', hq, rfl⟩ := Option.map_eq_some_iff.mp h
              exact .inr (.inl ⟨c, u, q', by rw [show b = 92 from UInt8.toNat_inj.mp h92], hc, hq, rfl⟩)
            · cases h
          · cases h
        · rename_i h92
          obtain ⟨q', hq, rfl⟩ := Option.map_eq_some_iff.mp h
          exact .inr (.inr ⟨b, t, q', rfl, by omega, by omega, h34, h92, hq, rfl⟩)
theorem text_quote (u : List UInt8) : text (34 :: u) = some ([], 1) := by
  rw [text_cons, if_neg (by decide), if_pos (by decide)]
theorem text_esc_step {c : UInt8} (hc : c.toNat = 34 ∨ c.toNat = 92) (u : List UInt8) : text (92 :: c :: u) = (text u).map (fun q => (c :: q.1, q.2 + 2)) := by
  rw [text_cons, if_neg (by decide), if_neg (by decide), if_pos (by decide)]
  simp only [hc, if_true]
theorem text_raw_step {b : UInt8} (h1 : 32 ≤ b.toNat) (h2 : b.toNat ≤ 126) (h3 : b.toNat ≠ 34) (h4 : b.toNat ≠ 92) (u : List UInt8) : text (b :: u) = (text u).map (fun q => (b :: q.1, q.2 + 1)) := by
  rw [text_cons, if_neg (by omega), if_neg h3, if_neg h4]
theorem text_form : ∀ (n : Nat) (l : List UInt8), l.length ≤ n → ∀ q, text l = some q → l.take q.2 = esc q.1 ++ [34] ∧ q.2 ≤ l.length ∧ 1 ≤ q.2
  | n, l, hn, q, h => by
    rcases text_cases h with ⟨u, rfl, rfl⟩ | ⟨c, u, q', rfl, hc, hq, rfl⟩ | ⟨b, u, q', rfl, h1, h2, h3, h4, hq, rfl⟩
    · exact ⟨rfl, by simp, Nat.le_refl _⟩
    · simp only [List.length_cons] at hn
      cases n with
      | zero => omega
      | succ n =>
        obtain ⟨e, hl, _⟩ := text_form n u (by omega) q' hq
        refine ⟨?_, by simp only [List.length_cons]; omega, by show 1 ≤ q'.2 + 2; omega⟩
        show (92 :: c :: u).take (q'.2 + 2) = esc (c :: q'.1) ++ [34]
        rw [List.take_succ_cons, List.take_succ_cons, e, esc, if_pos hc]; rfl
    · simp only [List.length_cons] at hn
      cases n with
      | zero => omega
      | succ n =>
        obtain ⟨e, hl, _⟩ := text_form n u (by omega) q' hq
        refine ⟨?_, by simp only [List.length_cons]; omega, by show 1 ≤ q'.2 + 1; omega⟩
        show (b :: u).take (q'.2 + 1) = esc (b :: q'.1) ++ [34]
        rw [List.take_succ_cons, e, esc, if_neg (by omega)]; rfl
theorem text_take : ∀ (n : Nat) (l t : List UInt8), l.length ≤ n → ∀ q, text l = some q → text (l.take q.2 ++ t) = some q
  | n, l, t, hn, q, h => by
    rcases text_cases h with ⟨u, rfl, rfl⟩ | ⟨c, u, q', rfl, hc, hq, rfl⟩ | ⟨b, u, q', rfl, h1, h2, h3, h4, hq, rfl⟩
    · exact text_quote _
    · simp only [List.length_cons] at hn
      cases n with
      | zero => omega
      | succ n =>
        show text ((92 :: c :: u).take (q'.2 + 2) ++ t) = _
        rw [List.take_succ_cons, List.take_succ_cons, List.cons_append, List.cons_append, text_esc_step hc, text_take n u t (by omega) q' hq]; rfl
    · simp only [List.length_cons] at hn
      cases n with
      | zero => omega
      | succ n =>
        show text ((b :: u).take (q'.2 + 1) ++ t) = _
        rw [List.take_succ_cons, List.cons_append, text_raw_step h1 h2 h3 h4, text_take n u t (by omega) q' hq]; rfl
/-- A text that ends in a line's end has not ended: nothing behind counts. -/
theorem text_app : ∀ (n : Nat) (l t : List UInt8), l.length ≤ n → text (l ++ 10 :: t) = text l
  | _, [], t, _ => by rw [List.nil_append, text_cons, if_pos (by decide)]; rfl
  | 0, b :: l, t, h => by simp at h
  | n + 1, b :: l, t, h => by
    simp only [List.length_cons] at h
    rw [List.cons_append, text_cons, text_cons, text_app n l t (by omega)]
    cases l with
    | nil =>
      simp only [List.nil_append, show ((10 : UInt8).toNat = 34 ∨ (10 : UInt8).toNat = 92) = False from by decide, if_false]
    | cons c u =>
      simp only [List.length_cons] at h
      simp only [List.cons_append]
      rw [text_app n u t (by omega)]
theorem sign_app {r : List UInt8} (h : r ≠ []) (t : List UInt8) : sign (r ++ 10 :: t) = sign r := by
  match r, h with
  | [b], _ =>
    show sign (b :: 10 :: t) = sign [b]
    rw [sign, sign, if_neg (fun h => absurd h.1 (by decide))]
  | b :: c :: u, _ =>
    show sign (b :: c :: (u ++ 10 :: t)) = sign (b :: c :: u)
    rw [sign, sign]
theorem num_def (l : List UInt8) : num l = (match l.drop (run digit l) with
  | [] => run digit l
  | c :: t => if c.toNat = 46 ∧ 0 < run digit t then run digit l + (1 + run digit t) else run digit l) := rfl
theorem digit_not {b : UInt8} (h : b.toNat = 10 ∨ b.toNat = 32 ∨ b.toNat = 46) : digit b = false := by
  unfold digit; simp only [Bool.and_eq_false_iff, decide_eq_false_iff_not]; omega
theorem mark_not {b : UInt8} (h : b.toNat = 10 ∨ b.toNat = 32) : mark b = false := by
  unfold mark letter digit
  simp only [Bool.or_eq_false_iff, Bool.and_eq_false_iff, decide_eq_false_iff_not]; omega
theorem num_app (r t : List UInt8) : num (r ++ 10 :: t) = num r := by
  have h := run_app (digit_not (b := 10) (.inl rfl)) r t
  rw [num_def, num_def, h, List.drop_append_of_le_length (run_le _ _)]
  cases hd : r.drop (run digit r) with
  | nil => rw [List.nil_append]; simp only [show ((10 : UInt8).toNat = 46) = False from by decide, false_and, if_false]
  | cons c u => rw [List.cons_append]; simp only [run_app (digit_not (b := 10) (.inl rfl)) u t]
theorem num_cut (r t : List UInt8) : num (r.take (num r) ++ 32 :: t) = num r := by
  have key : run digit r ≤ r.length := run_le _ _
  have e : r = r.take (run digit r) ++ r.drop (run digit r) := (List.take_append_drop _ _).symm
  have hlen : (r.take (run digit r)).length = run digit r := by rw [List.length_take]; omega
  by_cases hc : ∃ c u, r.drop (run digit r) = c :: u ∧ c.toNat = 46 ∧ 0 < run digit u
  · obtain ⟨c, u, hd, h46, h0⟩ := hc
    have hn : num r = run digit r + (1 + run digit u) := by rw [num_def, hd]; simp only [h46, h0, and_self, if_true]
    have ht : r.take (num r) = r.take (run digit r) ++ c :: u.take (run digit u) := by
      rw [hn, List.take_add, hd, Nat.add_comm 1, List.take_succ_cons]
    have hrun : run digit (r.take (run digit r) ++ c :: u.take (run digit u) ++ 32 :: t) = run digit r := by
      rw [List.append_assoc, List.cons_append, run_cut (digit_not (.inr (.inr h46)))]
    rw [hn] at ht
    rw [hn, ht, num_def, hrun]
    rw [show (r.take (run digit r) ++ c :: u.take (run digit u) ++ 32 :: t).drop (run digit r) = c :: (u.take (run digit u) ++ 32 :: t) from by
      rw [List.append_assoc, List.drop_append_of_le_length (by omega), List.drop_of_length_le (by omega)]; rfl]
    simp only [run_cut (digit_not (b := 32) (.inr (.inl rfl))) u t, h46, h0, and_self, if_true]
  · have hn : num r = run digit r := by
      rw [num_def]
      split
      · rfl
      · rename_i c u hd
        rw [if_neg (fun h => hc ⟨c, u, hd, h⟩)]
    rw [hn, num_def, run_cut (digit_not (b := 32) (.inr (.inl rfl))) r t]
    rw [show (r.take (run digit r) ++ 32 :: t).drop (run digit r) = 32 :: t from by
      rw [List.drop_append_of_le_length (by omega), List.drop_of_length_le (by omega)]; rfl]
    simp only [show ((32 : UInt8).toNat = 46) = False from by decide, false_and, if_false]
theorem num_le (r : List UInt8) : num r ≤ r.length := by
  have h := run_le digit r
  rw [num_def]
  split
  · exact h
  · rename_i c u hd
    have h2 := run_le digit u
    have h3 : (r.drop (run digit r)).length = r.length - run digit r := List.length_drop
    rw [hd, List.length_cons] at h3
    by_cases hc : c.toNat = 46 ∧ 0 < run digit u
    · rw [if_pos hc]
      have h4 : run digit r + (1 + run digit u) ≤ r.length := by omega
      exact h4
    · rw [if_neg hc]; exact h
theorem num_pos {b : UInt8} {t : List UInt8} (h : digit b = true) : 1 ≤ num (b :: t) := by
  have h1 : 1 ≤ run digit (b :: t) := by rw [run_yes h]; omega
  rw [num_def]
  split
  · exact h1
  · rename_i c u hd
    by_cases hc : c.toNat = 46 ∧ 0 < run digit u
    · rw [if_pos hc]
      have h4 : 1 ≤ run digit (b :: t) + (1 + run digit u) := by omega
      exact h4
    · rw [if_neg hc]; exact h1
theorem sign_le2 (r : List UInt8) : sign r ≤ r.length := by
  match r with
  | [] => exact Nat.le_refl _
  | [b] => rw [sign]; split <;> simp
  | b :: c :: u => rw [sign]; split
                   · simp
                   · split <;> simp
theorem sign_cut {r : List UInt8} (t : List UInt8) (h : sign r ≠ 0) : sign (r.take (sign r) ++ 32 :: t) = sign r := by
  match r, h with
  | [], h => exact absurd rfl h
  | [b], h =>
    have hb : signB b = true := by
      cases hb : signB b with
      | true => rfl
      | false => rw [sign, hb] at h; exact absurd rfl h
    have e : sign [b] = 1 := by rw [sign, hb]; rfl
    rw [e]
    show sign (b :: 32 :: t) = 1
    rw [sign, if_neg (fun h => absurd h.1 (by decide)), if_pos hb]
  | b :: c :: u, h =>
    by_cases hc : c.toNat = 61 ∧ signA b = true
    · have e : sign (b :: c :: u) = 2 := by rw [sign, if_pos hc]
      rw [e]
      show sign (b :: c :: (32 :: t)) = 2
      rw [sign, if_pos hc]
    · have hb : signB b = true := by
        cases hb : signB b with
        | true => rfl
        | false => rw [sign, if_neg hc, hb] at h; exact absurd rfl h
      have e : sign (b :: c :: u) = 1 := by rw [sign, if_neg hc, if_pos hb]
      rw [e]
      show sign (b :: 32 :: t) = 1
      rw [sign, if_neg (fun h => absurd h.1 (by decide)), if_pos hb]
theorem one_cons (b : UInt8) (t : List UInt8) : one (b :: t) = (if letter b then (1, (b :: t).take (run mark (b :: t)), run mark (b :: t))
    else if digit b then (2, (b :: t).take (num (b :: t)), num (b :: t))
    else if b.toNat = 34 then (match text t with | some q => (3, q.1, q.2 + 1) | none => (3, [], 0))
    else (4, (b :: t).take (sign (b :: t)), sign (b :: t))) := rfl
theorem one_len (r : List UInt8) : (one r).2.2 ≤ r.length := by
  cases r with
  | nil => exact Nat.le_refl _
  | cons b t =>
    rw [one_cons]
    split
    · exact run_le _ _
    · split
      · exact num_le _
      · split
        · split
          · rename_i q hq
            have := (text_form t.length t (Nat.le_refl _) q hq).2.1
            simp only [List.length_cons]; omega
          · exact Nat.zero_le _
        · exact sign_le2 _
theorem one_app {r : List UInt8} (h : r ≠ []) (t : List UInt8) : one (r ++ 10 :: t) = one r := by
  cases r with
  | nil => exact absurd rfl h
  | cons b u =>
    rw [List.cons_append, one_cons, one_cons, ← List.cons_append, run_app (mark_not (b := 10) (.inl rfl)), num_app, sign_app h, text_app u.length u t (Nat.le_refl _),
      List.take_append_of_le_length (run_le _ _), List.take_append_of_le_length (num_le _), List.take_append_of_le_length (sign_le2 _)]
theorem letter_mark {b : UInt8} (h : letter b = true) : mark b = true := by unfold mark; rw [h]; rfl
/-- A token, cut out, with a blank behind. -/
theorem one_cut {r : List UInt8} (h : (one r).2.2 ≠ 0) (t : List UInt8) : one (r.take (one r).2.2 ++ 32 :: t) = one r := by
  cases r with
  | nil => exact absurd rfl h
  | cons b u =>
    by_cases h1 : letter b = true
    · have e : one (b :: u) = (1, (b :: u).take (run mark (b :: u)), run mark (b :: u)) := by rw [one_cons, if_pos h1]
      rw [e]
      have hr := run_cut (mark_not (b := 32) (.inr rfl)) (b :: u) t
      have hm : run mark (b :: u) = run mark u + 1 := by rw [run_yes (letter_mark h1)]; omega
      show one ((b :: u).take (run mark (b :: u)) ++ 32 :: t) = _
      rw [show (b :: u).take (run mark (b :: u)) ++ 32 :: t = b :: (u.take (run mark u) ++ 32 :: t) from by rw [hm]; rfl] at hr ⊢
      rw [one_cons, if_pos h1, hr, hm]
      rw [show (b :: (u.take (run mark u) ++ 32 :: t)).take (run mark u + 1) = (b :: u).take (run mark u + 1) from by
        rw [List.take_succ_cons, List.take_succ_cons, List.take_append_of_le_length (by rw [List.length_take]; have := run_le mark u; omega), List.take_take, Nat.min_self]]
    · by_cases h2 : digit b = true
      · have e : one (b :: u) = (2, (b :: u).take (num (b :: u)), num (b :: u)) := by rw [one_cons, if_neg h1, if_pos h2]
        rw [e]
        have hr := num_cut (b :: u) t
        obtain ⟨m, hm⟩ : ∃ m, num (b :: u) = m + 1 := ⟨num (b :: u) - 1, by have := num_pos (t := u) h2; omega⟩
        have hml : m ≤ u.length := by have := num_le (b :: u); rw [List.length_cons] at this; omega
        show one ((b :: u).take (num (b :: u)) ++ 32 :: t) = _
        rw [hm] at hr ⊢
        rw [List.take_succ_cons, List.cons_append] at hr ⊢
        rw [one_cons, if_neg h1, if_pos h2, hr]
        rw [List.take_succ_cons, List.take_append_of_le_length (by rw [List.length_take]; omega), List.take_take, Nat.min_self]
      · by_cases h3 : b.toNat = 34
        · cases hq : text u with
          | none => exact absurd (by rw [one_cons, if_neg h1, if_neg h2, if_pos h3, hq]) h
          | some q =>
            have e : one (b :: u) = (3, q.1, q.2 + 1) := by rw [one_cons, if_neg h1, if_neg h2, if_pos h3, hq]
            rw [e]
            show one ((b :: u).take (q.2 + 1) ++ 32 :: t) = _
            rw [List.take_succ_cons, List.cons_append, one_cons, if_neg h1, if_neg h2, if_pos h3, text_take u.length u _ (Nat.le_refl _) q hq]
        · have e : one (b :: u) = (4, (b :: u).take (sign (b :: u)), sign (b :: u)) := by rw [one_cons, if_neg h1, if_neg h2, if_neg h3]
          rw [e] at h ⊢
          have hr := sign_cut (r := b :: u) t h
          obtain ⟨m, hm⟩ : ∃ m, sign (b :: u) = m + 1 := ⟨sign (b :: u) - 1, by have : sign (b :: u) ≠ 0 := h; omega⟩
          have hml : m ≤ u.length := by have := sign_le2 (b :: u); rw [List.length_cons] at this; omega
          show one ((b :: u).take (sign (b :: u)) ++ 32 :: t) = _
          rw [hm] at hr ⊢
          rw [List.take_succ_cons, List.cons_append] at hr ⊢
          rw [one_cons, if_neg h1, if_neg h2, if_neg h3, hr]
          rw [List.take_succ_cons, List.take_append_of_le_length (by rw [List.length_take]; omega), List.take_take, Nat.min_self]
theorem one_form {r : List UInt8} (h : (one r).2.2 ≠ 0) : form (one r).1 (one r).2.1 = r.take (one r).2.2 := by
  cases r with
  | nil => exact absurd rfl h
  | cons b u =>
    by_cases h1 : letter b = true
    · rw [one_cons, if_pos h1]; rfl
    · by_cases h2 : digit b = true
      · rw [one_cons, if_neg h1, if_pos h2]; rfl
      · by_cases h3 : b.toNat = 34
        · cases hq : text u with
          | none => exact absurd (by rw [one_cons, if_neg h1, if_neg h2, if_pos h3, hq]) h
          | some q =>
            have e : one (b :: u) = (3, q.1, q.2 + 1) := by rw [one_cons, if_neg h1, if_neg h2, if_pos h3, hq]
            rw [e]
            show form 3 q.1 = (b :: u).take (q.2 + 1)
            rw [List.take_succ_cons, (text_form u.length u (Nat.le_refl _) q hq).1, show b = 34 from UInt8.toNat_inj.mp h3]; rfl
        · rw [one_cons, if_neg h1, if_neg h2, if_neg h3]; rfl
theorem one_kind2 {r : List UInt8} (h : (one r).2.2 ≠ 0) : 1 ≤ (one r).1 ∧ (one r).1 ≤ 4 := by
  cases r with
  | nil => exact absurd rfl h
  | cons b u =>
    rw [one_cons]
    split
    · exact ⟨by simp, by simp⟩
    · split
      · exact ⟨by simp, by simp⟩
      · split
        · split <;> exact ⟨by simp, by simp⟩
        · exact ⟨by simp, by simp⟩
/-- A token begins with no blank and no remark. -/
theorem one_first {r t : List UInt8} (h : (one r).2.2 ≠ 0) : skip false (r.take (one r).2.2 ++ t) = 0 := by
  cases r with
  | nil => exact absurd rfl h
  | cons b u =>
    obtain ⟨m, hm⟩ : ∃ m, (one (b :: u)).2.2 = m + 1 := ⟨(one (b :: u)).2.2 - 1, by omega⟩
    rw [hm, List.take_succ_cons, List.cons_append, skip]
    have key : ∀ x : Nat, b.toNat = x → (x = 32 ∨ x = 9 ∨ x = 10 ∨ x = 13 ∨ x = 35) → (one (b :: u)).2.2 = 0 := by
      intro x hx hxs
      have hb : b = UInt8.ofNat x := by rw [← hx]; simp
      rw [one_cons]
      have f1 : letter b = false := by rw [hb]; rcases hxs with rfl | rfl | rfl | rfl | rfl <;> rfl
      have f2 : digit b = false := by rw [hb]; rcases hxs with rfl | rfl | rfl | rfl | rfl <;> rfl
      have f3 : ¬ b.toNat = 34 := by omega
      have f4 : signA b = false := by rw [hb]; rcases hxs with rfl | rfl | rfl | rfl | rfl <;> rfl
      have f5 : signB b = false := by rw [hb]; rcases hxs with rfl | rfl | rfl | rfl | rfl <;> rfl
      rw [f1, f2, if_neg f3]
      show sign (b :: u) = 0
      cases u with
      | nil => rw [sign, f5]; rfl
      | cons c v => rw [sign, f4, f5]; simp
    by_cases hb : blank b = true
    · unfold blank at hb
      simp only [Bool.or_eq_true, decide_eq_true_eq] at hb
      exact absurd (key b.toNat rfl (by omega)) h
    · rw [if_neg hb]
      by_cases h35 : b.toNat = 35
      · exact absurd (key b.toNat rfl (by omega)) h
      · rw [if_neg h35]
/-- The tokens from a place on, and where what is none begins, without a count of rounds. -/
def T (a : Nat) (l : List UInt8) : List Tok × Option Nat := toks (l.length + 1) a l
theorem toks_fuel : ∀ (k k' a : Nat) (l : List UInt8), l.length < k → l.length < k' → toks k a l = toks k' a l
  | 0, _, _, _, h, _ => by omega
  | _, 0, _, _, _, h => by omega
  | k + 1, k' + 1, a, l, h, h' => by
    rw [toks, toks]
    cases hr : l.drop (skip false l) with
    | nil => rfl
    | cons b t =>
      simp only
      by_cases h0 : (one (b :: t)).2.2 = 0
      · rw [if_pos h0, if_pos h0]
      · rw [if_neg h0, if_neg h0]
        have hl : ((b :: t).drop (one (b :: t)).2.2).length < l.length := by
          have h1 : (l.drop (skip false l)).length = l.length - skip false l := List.length_drop
          rw [hr] at h1
          have h2 := one_len (b :: t)
          rw [List.length_drop]
          simp only [List.length_cons] at *
          omega
        rw [toks_fuel k k' _ _ (by omega) (by omega)]
def G (a : Nat) (r : List UInt8) : List Tok × Option Nat :=
  if r = [] then ([], none) else if (one r).2.2 = 0 then ([], some a)
  else (⟨(one r).1, (one r).2.1, a⟩ :: (T (a + (one r).2.2) (r.drop (one r).2.2)).1, (T (a + (one r).2.2) (r.drop (one r).2.2)).2)
theorem T_eq (a : Nat) (l : List UInt8) : T a l = G (a + skip false l) (l.drop (skip false l)) := by
  unfold T G
  rw [toks]
  cases hr : l.drop (skip false l) with
  | nil => rfl
  | cons b t =>
    simp only [reduceCtorEq, if_false]
    by_cases h0 : (one (b :: t)).2.2 = 0
    · rw [if_pos h0, if_pos h0]
    · rw [if_neg h0, if_neg h0]
      have hl : ((b :: t).drop (one (b :: t)).2.2).length < l.length := by
        have h1 : (l.drop (skip false l)).length = l.length - skip false l := List.length_drop
        rw [hr] at h1
        have h2 := one_len (b :: t)
        rw [List.length_drop]
        simp only [List.length_cons] at *
        omega
      unfold T
      rw [toks_fuel l.length (((b :: t).drop (one (b :: t)).2.2).length + 1) _ _ (by omega) (by omega)]
/-- One step: nothing more, or what is none, or a token. -/
theorem T_cases (a : Nat) (l : List UInt8) :
    (skip false l = l.length ∧ T a l = ([], none)) ∨
    (skip false l < l.length ∧ (one (l.drop (skip false l))).2.2 = 0 ∧ T a l = ([], some (a + skip false l))) ∨
    (skip false l < l.length ∧ (one (l.drop (skip false l))).2.2 ≠ 0 ∧ T a l = (⟨(one (l.drop (skip false l))).1, (one (l.drop (skip false l))).2.1, a + skip false l⟩ :: (T (a + skip false l + (one (l.drop (skip false l))).2.2) ((l.drop (skip false l)).drop (one (l.drop (skip false l))).2.2)).1, (T (a + skip false l + (one (l.drop (skip false l))).2.2) ((l.drop (skip false l)).drop (one (l.drop (skip false l))).2.2)).2)) := by
  have hs := skip_le false l
  rw [T_eq a l]
  unfold G
  by_cases hr : l.drop (skip false l) = []
  · left
    rw [if_pos hr]
    exact ⟨by have := List.drop_eq_nil_iff.mp hr; omega, rfl⟩
  · have hlt : skip false l < l.length := by
      rcases Nat.lt_or_ge (skip false l) l.length with h | h
      · exact h
      · exact absurd (List.drop_of_length_le h) hr
    rw [if_neg hr]
    by_cases h0 : (one (l.drop (skip false l))).2.2 = 0
    · right; left
      rw [if_pos h0]
      exact ⟨hlt, h0, rfl⟩
    · right; right
      rw [if_neg h0]
      exact ⟨hlt, h0, rfl⟩
theorem T_end {a : Nat} {l : List UInt8} (h : skip false l = l.length) : T a l = ([], none) := by
  rcases T_cases a l with ⟨_, h2⟩ | ⟨h1, _⟩ | ⟨h1, _⟩
  · exact h2
  · omega
  · omega
theorem G_T {a : Nat} {r : List UInt8} (h : skip false r = 0) : T a r = G a r := by
  rw [T_eq, h, Nat.add_zero, List.drop_zero]
/-- Blanks and remarks ahead. -/
theorem T_blank {a n : Nat} {l m : List UInt8} (h : skip false l = n + skip false m) (h2 : l.drop n = m) : T a l = T (a + n) m := by
  rw [T_eq a l, T_eq (a + n) m, h, ← h2, List.drop_drop, Nat.add_assoc]
theorem T_app : ∀ (n : Nat) (a : Nat) (s t : List UInt8), s.length ≤ n → T a (s ++ 10 :: t) = (match (T a s).2 with
    | none => ((T a s).1 ++ (T (a + s.length + 1) t).1, (T (a + s.length + 1) t).2)
    | some _ => T a s)
  | n, a, s, t, hn => by
    rcases T_cases a s with ⟨h1, h2⟩ | ⟨h1, h2, h3⟩ | ⟨h1, h2, h3⟩
    · rw [h2]
      show _ = ([] ++ (T (a + s.length + 1) t).1, (T (a + s.length + 1) t).2)
      rw [List.nil_append, T_blank (l := s ++ 10 :: t) (n := s.length + 1) (m := t) (skip_end false s t h1) (by
        rw [show s ++ 10 :: t = (s ++ [10]) ++ t from by simp]
        rw [List.drop_append_of_le_length (by simp), List.drop_of_length_le (by simp)]; rfl), Nat.add_assoc]
    · rw [h3]
      show T a (s ++ 10 :: t) = ([], some (a + skip false s))
      rw [T_eq, skip_lt false s _ h1, List.drop_append_of_le_length (by omega)]
      have hne : s.drop (skip false s) ≠ [] := fun e => by have := List.drop_eq_nil_iff.mp e; omega
      unfold G
      rw [if_neg (by simp), one_app hne, if_pos h2]
    · have hne : s.drop (skip false s) ≠ [] := fun e => by have := List.drop_eq_nil_iff.mp e; omega
      have hlen : (s.drop (skip false s)).length = s.length - skip false s := List.length_drop
      have hol := one_len (s.drop (skip false s))
      have hlen2 : ((s.drop (skip false s)).drop (one (s.drop (skip false s))).2.2).length = s.length - skip false s - (one (s.drop (skip false s))).2.2 := by rw [List.length_drop, hlen]
      have hT : T a (s ++ 10 :: t) = G (a + skip false s) (s.drop (skip false s) ++ 10 :: t) := by
        rw [T_eq, skip_lt false s _ h1, List.drop_append_of_le_length (by omega)]
      rw [hT, h3]
      unfold G
      rw [if_neg (by simp), one_app hne, if_neg h2, List.drop_append_of_le_length hol]
      cases n with
      | zero => omega
      | succ n =>
        rw [T_app n _ _ t (by omega)]
        simp only
        cases hT2 : (T (a + skip false s + (one (s.drop (skip false s))).2.2) ((s.drop (skip false s)).drop (one (s.drop (skip false s))).2.2)).2 with
        | none =>
          simp only [hlen2]
          rw [show a + skip false s + (one (s.drop (skip false s))).2.2 + (s.length - skip false s - (one (s.drop (skip false s))).2.2) + 1 = a + s.length + 1 from by omega]
          rfl
        | some p => simp only [hT2]
/-- The place of a token further on. -/
def mv (d : Nat) (x : Tok) : Tok := ⟨x.kind, x.text, x.at' + d⟩
theorem T_shift : ∀ (n : Nat) (a d : Nat) (l : List UInt8), l.length ≤ n → T (a + d) l = ((T a l).1.map (mv d), (T a l).2.map (· + d))
  | n, a, d, l, hn => by
    have hlen : (l.drop (skip false l)).length = l.length - skip false l := List.length_drop
    rcases T_cases a l with ⟨h1, h2⟩ | ⟨h1, h2, h3⟩ | ⟨h1, h2, h3⟩
    · rw [h2, T_end h1]; rfl
    · rw [h3, T_eq]
      have hne : l.drop (skip false l) ≠ [] := fun e => by have := List.drop_eq_nil_iff.mp e; omega
      unfold G
      rw [if_neg hne, if_pos h2]
      simp only [List.map_nil, Option.map_some]
      rw [show a + d + skip false l = a + skip false l + d from by omega]
    · rw [h3, T_eq]
      have hne : l.drop (skip false l) ≠ [] := fun e => by have := List.drop_eq_nil_iff.mp e; omega
      unfold G
      rw [if_neg hne, if_neg h2]
      cases n with
      | zero => omega
      | succ n =>
        rw [show a + d + skip false l + (one (l.drop (skip false l))).2.2 = a + skip false l + (one (l.drop (skip false l))).2.2 + d from by omega]
        rw [T_shift n _ d _ (by rw [List.length_drop, hlen]; omega)]
        simp only [List.map_cons, mv]
        rw [show a + d + skip false l = a + skip false l + d from by omega]
theorem T_bad : ∀ (n : Nat) (a : Nat) (l : List UInt8) (p : Nat), l.length ≤ n → (T a l).2 = some p → a ≤ p ∧ p < a + l.length
  | n, a, l, p, hn, h => by
    have hlen : (l.drop (skip false l)).length = l.length - skip false l := List.length_drop
    rcases T_cases a l with ⟨h1, h2⟩ | ⟨h1, h2, h3⟩ | ⟨h1, h2, h3⟩
    · rw [h2] at h; cases h
    · rw [h3] at h; cases h; omega
    · rw [h3] at h
      cases n with
      | zero => omega
      | succ n =>
        have hol := one_len (l.drop (skip false l))
        have hll := List.length_drop (i := (one (l.drop (skip false l))).2.2) (l := l.drop (skip false l))
        have := T_bad n _ _ p (by omega) h
        omega
/-- A token that some text begins with. -/
def Good (x : Tok) : Prop := ∃ r, (one r).2.2 ≠ 0 ∧ x.kind = (one r).1 ∧ x.text = (one r).2.1
theorem T_good : ∀ (n : Nat) (a : Nat) (l : List UInt8), l.length ≤ n → ∀ x ∈ (T a l).1, Good x
  | n, a, l, hn, x, hx => by
    have hlen : (l.drop (skip false l)).length = l.length - skip false l := List.length_drop
    rcases T_cases a l with ⟨h1, h2⟩ | ⟨h1, h2, h3⟩ | ⟨h1, h2, h3⟩
    · rw [h2] at hx; cases hx
    · rw [h3] at hx; cases hx
    · rw [h3] at hx
      rcases List.mem_cons.mp hx with rfl | hx
      · exact ⟨_, h2, rfl, rfl⟩
      · cases n with
        | zero => omega
        | succ n => exact T_good n _ _ (by rw [List.length_drop, hlen]; omega) x hx
/-- Tokens, each as it stands, a blank behind each. -/
def joined (l : List Tok) : List UInt8 := l.flatMap (fun x => form x.kind x.text ++ [32])
theorem joined_cons (x : Tok) (l : List Tok) : joined (x :: l) = form x.kind x.text ++ 32 :: joined l := by
  unfold joined; rw [List.flatMap_cons, List.append_assoc]; rfl
theorem T_joined : ∀ (X : List Tok) (a : Nat) (tail : List UInt8), (∀ x ∈ X, Good x) → skip false tail = tail.length →
    ((T a (joined X ++ tail)).1.map (fun x => (x.kind, x.text)) = X.map (fun x => (x.kind, x.text))) ∧ (T a (joined X ++ tail)).2 = none
  | [], a, tail, _, h => by
    show ((T a tail).1.map _ = _) ∧ _
    rw [show joined [] ++ tail = tail from rfl, T_end h]; exact ⟨rfl, rfl⟩
  | x :: X, a, tail, hX, h => by
    obtain ⟨r, h0, hk, ht⟩ := hX x (by simp)
    have hf : form x.kind x.text = r.take (one r).2.2 := by rw [hk, ht]; exact one_form h0
    have e : joined (x :: X) ++ tail = r.take (one r).2.2 ++ 32 :: (joined X ++ tail) := by
      rw [joined_cons, hf, List.append_assoc]; rfl
    have hol := one_len r
    have hlt : (r.take (one r).2.2).length = (one r).2.2 := by rw [List.length_take]; omega
    rw [e, G_T (one_first h0)]
    unfold G
    rw [if_neg (by simp), one_cut h0, if_neg h0]
    have ed : (r.take (one r).2.2 ++ 32 :: (joined X ++ tail)).drop (one r).2.2 = 32 :: (joined X ++ tail) := by
      rw [List.drop_append_of_le_length (by omega), List.drop_of_length_le (by omega)]; rfl
    rw [ed, T_blank (l := 32 :: (joined X ++ tail)) (n := 1) (m := joined X ++ tail) (by rw [skip, if_pos (by rfl)]) rfl]
    obtain ⟨i1, i2⟩ := T_joined X (a + (one r).2.2 + 1) tail (fun y hy => hX y (by simp [hy])) h
    exact ⟨by rw [List.map_cons, List.map_cons, i1, hk, ht], i2⟩
/-- A remark: all of it is skipped. -/
theorem skip_note {m : List UInt8} (h : ∀ b ∈ m, b.toNat ≠ 10) : skip false (35 :: m) = (35 :: m).length := by
  have key : ∀ m : List UInt8, (∀ b ∈ m, b.toNat ≠ 10) → skip true m = m.length := by
    intro m
    induction m with
    | nil => intro _; rfl
    | cons b m ih =>
      intro h
      rw [skip, show noEnd b = true from by unfold noEnd; simp [h b (by simp)], ih (fun c hc => h c (by simp [hc])), List.length_cons]; omega
  rw [skip, if_neg (by decide), if_pos (by decide), key m h, List.length_cons]; omega
end Go.Proofs.Ytpeaepdhnicceaa.Lx
