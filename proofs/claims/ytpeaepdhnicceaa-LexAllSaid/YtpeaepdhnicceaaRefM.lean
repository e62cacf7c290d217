/- The longest token at a place, as the reference looks for it: plain. -/
import Derived.Test.YtpeaepdhnicceaaRefL
namespace Go.Proofs.Ytpeaepdhnicceaa.Pure
open Go.RowKit Go.Proofs.Ytpeaepdhnicceaa.Wk Go.Proofs.Ytpeaepdhnicceaa.PTy Go.Proofs.Ytpeaepdhnicceaa.PRef Go.Proofs.YtpeaepdhnicceaaW.PrintWords
theorem all_take (p : UInt8 → Bool) : ∀ (l : List UInt8) (e : Nat), e ≤ l.length → (l.take e).all p = decide (e ≤ Lx.run p l)
  | [], e, h => by
    have : e = 0 := by simpa using h
    subst this; rfl
  | b :: t, 0, _ => by simp
  | b :: t, e + 1, h => by
    rw [List.take_succ_cons, List.all_cons]
    have ih := all_take p t e (by simpa using h)
    cases hb : p b with
    | true => rw [Lx.run_yes hb, ih, Bool.true_and]; apply decide_eq_decide.mpr; omega
    | false => rw [Lx.run_no hb, Bool.false_and, decide_eq_false (by omega)]
theorem digs_take {l : List UInt8} {e : Nat} (h : e ≤ l.length) : digs (l.take e) = decide (1 ≤ e ∧ e ≤ Lx.run Lx.digit l) := by
  unfold digs
  rw [all_take _ l e h]
  have he : (l.take e).isEmpty = decide (e = 0) := by
    cases e with
    | zero => simp
    | succ e => cases l with
      | nil => simp at h
      | cons b t => simp
  rw [he]
  by_cases h1 : e ≤ Lx.run Lx.digit l
  · rw [decide_eq_true h1, Bool.true_and]
    by_cases h0 : e = 0
    · rw [decide_eq_true h0, decide_eq_false (by omega)]; rfl
    · rw [decide_eq_false h0, decide_eq_true (by omega)]; rfl
  · rw [decide_eq_false h1, Bool.false_and]; symm; exact decide_eq_false (by omega)
theorem digs_no {b : UInt8} {u : List UInt8} (h : Lx.digit b = false) : digs (b :: u) = false := by
  unfold digs; rw [List.all_cons, h]; rfl
theorem numB_no {b : UInt8} {u : List UInt8} (h : Lx.digit b = false) : numB (b :: u) = false := by
  unfold numB
  split
  · cases hd : noDot b with
    | true =>
      rw [Lx.run_yes hd, Nat.add_comm, List.take_succ_cons, digs_no h]; rfl
    | false => rw [Lx.run_no hd, List.take_zero]; rfl
  · exact digs_no h
theorem wordB_no {b : UInt8} {u : List UInt8} (h : Lx.letter b = false) : wordB (b :: u) = false := by
  unfold wordB; simp only [h, Bool.and_false]
theorem sign_mem {b : UInt8} {u : List UInt8} (h : signs.contains (b :: u) = true) : Lx.letter b = false ∧ Lx.digit b = false ∧ u.length ≤ 1 := by
  have hm : (b :: u) ∈ signs := List.contains_iff_mem.mp h
  unfold signs at hm
  simp only [List.mem_cons, List.cons.injEq, List.not_mem_nil, or_false] at hm
  rcases hm with ⟨rfl, rfl⟩ | ⟨rfl, rfl⟩ | ⟨rfl, rfl⟩ | ⟨rfl, rfl⟩ | ⟨rfl, rfl⟩ | ⟨rfl, rfl⟩ | ⟨rfl, rfl⟩ | ⟨rfl, rfl⟩ | ⟨rfl, rfl⟩ | ⟨rfl, rfl⟩ | ⟨rfl, rfl⟩ | ⟨rfl, rfl⟩ | ⟨rfl, rfl⟩ | ⟨rfl, rfl⟩ | ⟨rfl, rfl⟩ | ⟨rfl, rfl⟩ | ⟨rfl, rfl⟩ | ⟨rfl, rfl⟩ <;> exact ⟨by decide, by decide, by decide⟩
theorem sign_off {b : UInt8} {u : List UInt8} (h : Lx.letter b = true ∨ Lx.digit b = true ∨ 2 ≤ u.length) : signs.contains (b :: u) = false := by
  cases hc : signs.contains (b :: u) with
  | false => rfl
  | true =>
    obtain ⟨h1, h2, h3⟩ := sign_mem hc
    rcases h with h | h | h
    · rw [h1] at h; cases h
    · rw [h2] at h; cases h
    · omega
theorem byte_eq {b : UInt8} {n : Nat} (hn : n < 256) : (b = UInt8.ofNat n) ↔ b.toNat = n := by
  constructor
  · intro h; rw [h]; simp; omega
  · intro h; apply UInt8.toNat_inj.mp; rw [h]; simp; omega
theorem sign_one (b : UInt8) : signs.contains [b] = Lx.signB b := by
  rw [Bool.eq_iff_iff, List.contains_iff_mem]
  unfold signs Lx.signB
  simp only [List.mem_cons, List.cons.injEq, List.not_mem_nil, or_false, and_true, reduceCtorEq, and_false, false_or, Bool.or_eq_true, decide_eq_true_eq]
  have e : ∀ n : Nat, n < 256 → ((b = UInt8.ofNat n) ↔ b.toNat = n) := fun n hn => byte_eq hn
  have e1 := e 123 (by decide); have e2 := e 125 (by decide); have e3 := e 40 (by decide); have e4 := e 41 (by decide); have e5 := e 91 (by decide); have e6 := e 93 (by decide); have e7 := e 44 (by decide); have e8 := e 58 (by decide); have e9 := e 59 (by decide); have e10 := e 61 (by decide); have e11 := e 60 (by decide); have e12 := e 62 (by decide); have e13 := e 45 (by decide)
  constructor
  · rintro (h | h | h | h | h | h | h | h | h | h | h | h | h) <;> subst h <;> decide
  · intro h
    have : b.toNat = 123 ∨ b.toNat = 125 ∨ b.toNat = 40 ∨ b.toNat = 41 ∨ b.toNat = 91 ∨ b.toNat = 93 ∨ b.toNat = 44 ∨ b.toNat = 58 ∨ b.toNat = 59 ∨ b.toNat = 61 ∨ b.toNat = 60 ∨ b.toNat = 62 ∨ b.toNat = 45 := by omega
    rcases this with h | h | h | h | h | h | h | h | h | h | h | h | h
    · exact .inl (e1.mpr h)
    · exact .inr (.inl (e2.mpr h))
    · exact .inr (.inr (.inl (e3.mpr h)))
    · exact .inr (.inr (.inr (.inl (e4.mpr h))))
    · exact .inr (.inr (.inr (.inr (.inl (e5.mpr h)))))
    · exact .inr (.inr (.inr (.inr (.inr (.inl (e6.mpr h))))))
    · exact .inr (.inr (.inr (.inr (.inr (.inr (.inl (e7.mpr h)))))))
    · exact .inr (.inr (.inr (.inr (.inr (.inr (.inr (.inl (e8.mpr h))))))))
    · exact .inr (.inr (.inr (.inr (.inr (.inr (.inr (.inr (.inl (e9.mpr h)))))))))
    · exact .inr (.inr (.inr (.inr (.inr (.inr (.inr (.inr (.inr (.inl (e10.mpr h))))))))))
    · exact .inr (.inr (.inr (.inr (.inr (.inr (.inr (.inr (.inr (.inr (.inl (e11.mpr h)))))))))))
    · exact .inr (.inr (.inr (.inr (.inr (.inr (.inr (.inr (.inr (.inr (.inr (.inl (e12.mpr h))))))))))))
    · exact .inr (.inr (.inr (.inr (.inr (.inr (.inr (.inr (.inr (.inr (.inr (.inr (e13.mpr h))))))))))))
theorem sign_two (b c : UInt8) : signs.contains [b, c] = (decide (c.toNat = 61) && Lx.signA b) := by
  rw [Bool.eq_iff_iff, List.contains_iff_mem]
  unfold signs Lx.signA
  simp only [List.mem_cons, List.cons.injEq, List.not_mem_nil, or_false, and_true, reduceCtorEq, and_false, Bool.or_eq_true, Bool.and_eq_true, decide_eq_true_eq]
  have e : ∀ (x : UInt8) (n : Nat), n < 256 → ((x = UInt8.ofNat n) ↔ x.toNat = n) := fun x n hn => byte_eq hn
  have c1 := e c 61 (by decide)
  have e1 := e b 60 (by decide); have e2 := e b 62 (by decide); have e3 := e b 61 (by decide); have e4 := e b 33 (by decide); have e5 := e b 94 (by decide)
  constructor
  · rintro (⟨rfl, rfl⟩ | ⟨rfl, rfl⟩ | ⟨rfl, rfl⟩ | ⟨rfl, rfl⟩ | ⟨rfl, rfl⟩) <;> decide
  · rintro ⟨hc, h⟩
    have hc' := c1.mpr hc
    have : b.toNat = 60 ∨ b.toNat = 62 ∨ b.toNat = 61 ∨ b.toNat = 33 ∨ b.toNat = 94 := by omega
    rcases this with h | h | h | h | h
    · exact .inl ⟨e1.mpr h, hc'⟩
    · exact .inr (.inl ⟨e2.mpr h, hc'⟩)
    · exact .inr (.inr (.inl ⟨e3.mpr h, hc'⟩))
    · exact .inr (.inr (.inr (.inl ⟨e4.mpr h, hc'⟩)))
    · exact .inr (.inr (.inr (.inr ⟨e5.mpr h, hc'⟩)))
/-- Kinds of beginnings: of what begins with a letter. -/
theorem kind_letter {b : UInt8} {t : List UInt8} (h : Lx.letter b = true) {e : Nat} (h1 : 1 ≤ e) (h2 : e ≤ (b :: t).length) : kindL ((b :: t).take e) = if e ≤ Lx.run Lx.mark (b :: t) then 1 else 0 := by
  obtain ⟨e, rfl⟩ : ∃ e', e = e' + 1 := ⟨e - 1, by omega⟩
  have ha := all_take Lx.mark (b :: t) (e + 1) h2
  have hnd : Lx.digit b = false := by
    unfold Lx.letter at h; unfold Lx.digit
    simp only [Bool.and_eq_true, decide_eq_true_eq] at h
    simp; omega
  unfold kindL
  have hw : wordB ((b :: t).take (e + 1)) = decide (e + 1 ≤ Lx.run Lx.mark (b :: t)) := by
    unfold wordB
    rw [ha, List.take_succ_cons]
    simp only [h, Bool.and_true]
  rw [hw]
  by_cases hr : e + 1 ≤ Lx.run Lx.mark (b :: t)
  · rw [decide_eq_true hr, if_pos rfl, if_pos hr]
  · rw [decide_eq_false hr, if_neg (by decide), List.take_succ_cons, numB_no hnd, if_neg (by decide), sign_off (.inl h), if_neg (by decide), if_neg hr]
theorem noDot_digit {b : UInt8} (h : Lx.digit b = true) : noDot b = true := by
  unfold Lx.digit at h; unfold noDot
  simp only [Bool.and_eq_true, decide_eq_true_eq] at h
  simp; omega
theorem getElem_run {p : UInt8 → Bool} : ∀ {l : List UInt8} {j : Nat} {c : UInt8}, j < Lx.run p l → l[j]? = some c → p c = true
  | [], j, c, h, _ => by simp [Lx.run] at h
  | b :: t, j, c, h, hc => by
    cases hb : p b with
    | false => rw [Lx.run_no hb] at h; omega
    | true =>
      rw [Lx.run_yes hb] at h
      cases j with
      | zero => simp at hc; subst hc; exact hb
      | succ j => exact getElem_run (l := t) (j := j) (by omega) (by simpa using hc)
theorem run_stop {p : UInt8 → Bool} : ∀ {l : List UInt8} {c : UInt8}, l[Lx.run p l]? = some c → p c = false
  | [], c, h => by simp at h
  | b :: t, c, h => by
    cases hb : p b with
    | false => rw [Lx.run_no hb] at h; simp at h; subst h; exact hb
    | true => rw [Lx.run_yes hb, Nat.add_comm, List.getElem?_cons_succ] at h; exact run_stop h
/-- .. of what begins with a digit. -/
theorem num_prefix {l : List UInt8} {e : Nat} (h1 : 1 ≤ e) (h2 : e ≤ l.length) (h0 : 1 ≤ Lx.run Lx.digit l) : numB (l.take e) = true ↔ (e ≤ Lx.run Lx.digit l ∨ ∃ c u, l.drop (Lx.run Lx.digit l) = c :: u ∧ c.toNat = 46 ∧ Lx.run Lx.digit l + 2 ≤ e ∧ e ≤ Lx.run Lx.digit l + 1 + Lx.run Lx.digit u) := by
  have hge : ∀ j, j < e → (l.take e)[j]? = l[j]? := fun j hj => by rw [List.getElem?_take, if_pos hj]
  have hlen : (l.take e).length = e := by rw [List.length_take]; omega
  by_cases hle : e ≤ Lx.run Lx.digit l
  · refine ⟨fun _ => .inl hle, fun _ => ?_⟩
    have hfull : Lx.run noDot (l.take e) = (l.take e).length := Lx.run_full fun b hb => by
      obtain ⟨j, hj⟩ := List.getElem?_of_mem hb
      have hj2 : j < (l.take e).length := (List.getElem?_eq_some_iff.mp hj).1
      rw [hge j (by omega)] at hj
      exact noDot_digit (getElem_run (by omega) hj)
    unfold numB
    rw [if_neg (by omega), digs_take h2, decide_eq_true ⟨h1, hle⟩]
  · have hlt : Lx.run Lx.digit l < l.length := by omega
    obtain ⟨c, hc⟩ : ∃ c, l[Lx.run Lx.digit l]? = some c := ⟨_, List.getElem?_eq_getElem hlt⟩
    have hcd := run_stop hc
    have hdrop : l.drop (Lx.run Lx.digit l) = c :: l.drop (Lx.run Lx.digit l + 1) := by
      rw [List.drop_eq_getElem_cons hlt]
      rw [List.getElem?_eq_getElem hlt] at hc
      rw [Option.some.inj hc]
    by_cases h46 : c.toNat = 46
    · have hrun : Lx.run noDot (l.take e) = Lx.run Lx.digit l := run_at (b := c) (fun j d hj hd => by
        rw [hge j (by omega)] at hd
        exact noDot_digit (getElem_run hj hd)) (by rw [hge _ (by omega)]; exact hc) (by unfold noDot; simp [h46])
      unfold numB
      rw [hrun, hlen, if_pos (by omega), List.take_take, Nat.min_eq_left (by omega), digs_take (by omega), decide_eq_true ⟨h0, Nat.le_refl _⟩, Bool.true_and]
      rw [show (l.take e).drop (Lx.run Lx.digit l + 1) = (l.drop (Lx.run Lx.digit l + 1)).take (e - (Lx.run Lx.digit l + 1)) from List.drop_take]
      rw [digs_take (by rw [List.length_drop]; omega), decide_eq_true_eq]
      constructor
      · rintro ⟨a1, a2⟩
        exact .inr ⟨c, _, hdrop, h46, by omega, by omega⟩
      · rintro (h | ⟨c', u, hd, _, a1, a2⟩)
        · omega
        · rw [hdrop] at hd
          have := (List.cons.inj hd).2
          subst this
          omega
    · have hbad : ∀ i, Lx.run Lx.digit l < i → i ≤ e → digs (l.take i) = false := fun i h3 h4 => by
        rw [digs_take (by omega), decide_eq_false (by omega)]
      have hff : numB (l.take e) = false := by
        unfold numB
        by_cases hi : Lx.run noDot (l.take e) < (l.take e).length
        · rw [if_pos hi]
          rw [hlen] at hi
          have hgt : Lx.run Lx.digit l < Lx.run noDot (l.take e) := by
            rcases Nat.lt_or_ge (Lx.run Lx.digit l) (Lx.run noDot (l.take e)) with h | h
            · exact h
            · exfalso
              obtain ⟨d, hd⟩ : ∃ d, (l.take e)[Lx.run noDot (l.take e)]? = some d := ⟨_, List.getElem?_eq_getElem (by omega)⟩
              have hnd := run_stop hd
              rw [hge _ hi] at hd
              by_cases he : Lx.run noDot (l.take e) = Lx.run Lx.digit l
              · rw [he, hc] at hd
                obtain rfl := Option.some.inj hd
                unfold noDot at hnd
                simp at hnd
                exact h46 hnd
              · have := noDot_digit (getElem_run (p := Lx.digit) (by omega) hd)
                rw [this] at hnd; cases hnd
          rw [List.take_take, Nat.min_eq_left (by omega), hbad _ hgt (by omega)]; rfl
        · rw [if_neg hi]
          exact hbad e (by omega) (Nat.le_refl _)
      rw [hff]
      refine ⟨fun h => (by cases h), ?_⟩
      rintro (h | ⟨c', u, hd, h46', _, _⟩)
      · omega
      · rw [hdrop] at hd
        have := (List.cons.inj hd).1
        subst this
        exact absurd h46' h46
theorem kind_digit {b : UInt8} {t : List UInt8} (h : Lx.digit b = true) {e : Nat} (h1 : 1 ≤ e) (h2 : e ≤ (b :: t).length) : kindL ((b :: t).take e) = if numB ((b :: t).take e) then 2 else 0 := by
  obtain ⟨e, rfl⟩ : ∃ e', e = e' + 1 := ⟨e - 1, by omega⟩
  have hnl : Lx.letter b = false := by
    unfold Lx.digit at h; unfold Lx.letter
    simp only [Bool.and_eq_true, decide_eq_true_eq] at h
    simp; omega
  unfold kindL
  rw [List.take_succ_cons, wordB_no hnl, if_neg (by decide)]
  split
  · rfl
  · rw [sign_off (.inr (.inl h)), if_neg (by decide)]
theorem kind_other {b : UInt8} {t : List UInt8} (h1 : Lx.letter b = false) (h2 : Lx.digit b = false) : kindL (b :: t) = if signs.contains (b :: t) then 4 else 0 := by
  unfold kindL
  rw [wordB_no h1, if_neg (by decide), numB_no h2, if_neg (by decide)]
/-- The search. -/
def lp (l : List UInt8) : Nat → Nat → Nat → Nat → Nat × Nat
  | 0, _, o, kk => (kk, o)
  | m + 1, e, o, kk => if e ≤ l.length then (if 0 < kindL (l.take e) then lp l m (e + 1) e (kindL (l.take e)) else if (0 < o ∧ o + 1 < e) ∨ (o = 0 ∧ 2 < e) then (kk, o) else lp l m (e + 1) o kk) else (kk, o)
theorem lp_dead (l : List UInt8) : ∀ (m e o kk : Nat), (∀ e', e ≤ e' → e' ≤ l.length → kindL (l.take e') = 0) → lp l m e o kk = (kk, o)
  | 0, _, _, _, _ => rfl
  | m + 1, e, o, kk, h => by
    rw [lp]
    split
    · rename_i he
      rw [h e (Nat.le_refl _) he, if_neg (by omega)]
      split
      · rfl
      · exact lp_dead l m (e + 1) o kk fun e' h1 h2 => h e' (by omega) h2
    · rfl
theorem lp_run (l : List UInt8) (K n : Nat) (hK : 0 < K) (hn : n ≤ l.length) : ∀ (d m e o kk : Nat), e + d = n → (∀ e', e ≤ e' → e' ≤ n → kindL (l.take e') = K) → lp l (m + (d + 1)) e o kk = lp l m (n + 1) n K
  | 0, m, e, o, kk, hd, h => by
    obtain rfl : e = n := by omega
    rw [lp, if_pos hn, h e (Nat.le_refl _) (Nat.le_refl _), if_pos hK]
  | d + 1, m, e, o, kk, hd, h => by
    rw [show m + (d + 1 + 1) = (m + (d + 1)) + 1 from by omega, lp, if_pos (by omega), h e (Nat.le_refl _) (by omega), if_pos hK]
    exact lp_run l K n hK hn d m (e + 1) e K (by omega) fun e' h1 h2 => h e' (by omega) h2
theorem lp_one {b : UInt8} {t : List UInt8} (hq : b.toNat ≠ 34) {m : Nat} (hm : (b :: t).length + 3 ≤ m) : (lp (b :: t) m 1 0 0).2 = (Lx.one (b :: t)).2.2 ∧ ((Lx.one (b :: t)).2.2 ≠ 0 → (lp (b :: t) m 1 0 0).1 = (Lx.one (b :: t)).1 ∧ (Lx.one (b :: t)).2.1 = (b :: t).take (Lx.one (b :: t)).2.2) := by
  cases h1 : Lx.letter b with
  | true =>
    have hn1 : 1 ≤ Lx.run Lx.mark (b :: t) := by rw [Lx.run_yes (Lx.letter_mark h1)]; omega
    have hn2 := Lx.run_le Lx.mark (b :: t)
    have e1 := lp_run (b :: t) 1 (Lx.run Lx.mark (b :: t)) (by decide) hn2 (Lx.run Lx.mark (b :: t) - 1) (m - Lx.run Lx.mark (b :: t)) 1 0 0 (by omega) (fun e' a1 a2 => by rw [kind_letter h1 a1 (by omega), if_pos a2])
    rw [show m - Lx.run Lx.mark (b :: t) + (Lx.run Lx.mark (b :: t) - 1 + 1) = m from by omega] at e1
    rw [e1, lp_dead _ _ _ _ _ (fun e' a1 a2 => by rw [kind_letter h1 (by omega) a2, if_neg (by omega)]), Lx.one_cons, if_pos h1]
    exact ⟨rfl, fun _ => ⟨rfl, rfl⟩⟩
  | false =>
    cases h2 : Lx.digit b with
    | true =>
      have hn1 : 1 ≤ Lx.run Lx.digit (b :: t) := by rw [Lx.run_yes h2]; omega
      have hn2 := Lx.run_le Lx.digit (b :: t)
      have yes : ∀ e, 1 ≤ e → e ≤ (b :: t).length → (e ≤ Lx.run Lx.digit (b :: t) ∨ ∃ c u, (b :: t).drop (Lx.run Lx.digit (b :: t)) = c :: u ∧ c.toNat = 46 ∧ Lx.run Lx.digit (b :: t) + 2 ≤ e ∧ e ≤ Lx.run Lx.digit (b :: t) + 1 + Lx.run Lx.digit u) → kindL ((b :: t).take e) = 2 := fun e a1 a2 hc => by
        rw [kind_digit h2 a1 a2, if_pos ((num_prefix a1 a2 hn1).mpr hc)]
      have no : ∀ e, 1 ≤ e → e ≤ (b :: t).length → ¬ (e ≤ Lx.run Lx.digit (b :: t) ∨ ∃ c u, (b :: t).drop (Lx.run Lx.digit (b :: t)) = c :: u ∧ c.toNat = 46 ∧ Lx.run Lx.digit (b :: t) + 2 ≤ e ∧ e ≤ Lx.run Lx.digit (b :: t) + 1 + Lx.run Lx.digit u) → kindL ((b :: t).take e) = 0 := fun e a1 a2 hc => by
        rw [kind_digit h2 a1 a2, if_neg (fun h => hc ((num_prefix a1 a2 hn1).mp h))]
      have e1 := lp_run (b :: t) 2 (Lx.run Lx.digit (b :: t)) (by decide) hn2 (Lx.run Lx.digit (b :: t) - 1) (m - Lx.run Lx.digit (b :: t)) 1 0 0 (by omega) (fun e' a1 a2 => yes e' a1 (by omega) (.inl a2))
      rw [show m - Lx.run Lx.digit (b :: t) + (Lx.run Lx.digit (b :: t) - 1 + 1) = m from by omega] at e1
      rw [e1, Lx.one_cons, if_neg (by rw [h1]; decide), if_pos h2]
      obtain ⟨n, hn⟩ : ∃ n, n = Lx.run Lx.digit (b :: t) := ⟨_, rfl⟩
      rw [← hn] at yes no e1 hn1 hn2 ⊢
      by_cases hj : ∃ c u, (b :: t).drop n = c :: u ∧ c.toNat = 46 ∧ 0 < Lx.run Lx.digit u
      · obtain ⟨c, u, hd, h46, h0⟩ := hj
        have hnum : Lx.num (b :: t) = n + (1 + Lx.run Lx.digit u) := by
          rw [Lx.num_def, ← hn, hd]; simp only [h46, h0, and_self, if_true]
        have hul := Lx.run_le Lx.digit u
        have hdl := congrArg List.length hd
        have hbt : (b :: t).length = t.length + 1 := rfl
        have hcu : (c :: u).length = u.length + 1 := rfl
        rw [List.length_drop, hcu] at hdl
        obtain ⟨m', hm'⟩ : ∃ m', m - n = m' + 1 := ⟨m - n - 1, by omega⟩
        rw [hm', lp, if_pos (by omega), no (n + 1) (by omega) (by omega) (by
          rintro (h | ⟨c', u', hd', _, a1, _⟩)
          · omega
          · omega), if_neg (by omega), if_neg (by omega)]
        have e2 := lp_run (b :: t) 2 (n + 1 + Lx.run Lx.digit u) (by decide) (by omega) (Lx.run Lx.digit u - 1) (m' - Lx.run Lx.digit u) (n + 1 + 1) n 2 (by omega) (fun e' a1 a2 => yes e' (by omega) (by omega) (.inr ⟨c, u, hd, h46, by omega, by omega⟩))
        rw [show m' - Lx.run Lx.digit u + (Lx.run Lx.digit u - 1 + 1) = m' from by omega] at e2
        rw [e2, lp_dead _ _ _ _ _ (fun e' a1 a2 => by
          refine no e' (by omega) a2 ?_
          rintro (h | ⟨c', u', hd', _, _, a4⟩)
          · omega
          · rw [hd] at hd'; have := (List.cons.inj hd').2; subst this; omega), hnum]
        exact ⟨by show n + 1 + _ = n + (1 + _); omega, fun _ => ⟨rfl, rfl⟩⟩
      · have hnum : Lx.num (b :: t) = n := by
          rw [Lx.num_def, ← hn]
          split
          · rfl
          · rename_i c u hd
            rw [if_neg (fun h => hj ⟨c, u, hd, h⟩)]
        rw [lp_dead _ _ _ _ _ (fun e' a1 a2 => by
          refine no e' (by omega) a2 ?_
          rintro (h | ⟨c', u', hd', h46, a3, a4⟩)
          · omega
          · exact hj ⟨c', u', hd', h46, by omega⟩), hnum]
        exact ⟨rfl, fun _ => ⟨rfl, rfl⟩⟩
    | false =>
      obtain ⟨m, rfl⟩ : ∃ m', m = m' + 4 := ⟨m - 4, by simp only [List.length_cons] at hm; omega⟩
      have dead : ∀ e', 3 ≤ e' → e' ≤ (b :: t).length → kindL ((b :: t).take e') = 0 := fun e' a1 a2 => by
        obtain ⟨e', rfl⟩ : ∃ x, e' = x + 1 := ⟨e' - 1, by omega⟩
        simp only [List.length_cons] at a2
        rw [List.take_succ_cons, kind_other h1 h2, sign_off (.inr (.inr (by rw [List.length_take]; omega)))]; rfl
      rw [Lx.one_cons, if_neg (by rw [h1]; decide), if_neg (by rw [h2]; decide), if_neg hq]
      rw [lp, if_pos (by simp), show (b :: t).take 1 = [b] from by simp, kind_other h1 h2, sign_one]
      cases t with
      | nil =>
        have hend : ∀ m o kk, lp [b] m 2 o kk = (kk, o) := fun m o kk => lp_dead _ _ _ _ _ (fun e' a1 a2 => by simp only [List.length_cons, List.length_nil] at a2; omega)
        cases hb : Lx.signB b with
        | true => rw [if_pos rfl, if_pos (by decide), hend, Lx.sign, hb]; exact ⟨rfl, fun _ => ⟨rfl, rfl⟩⟩
        | false =>
          rw [if_neg (by decide), if_neg (by decide), hend, Lx.sign, hb]
          exact ⟨rfl, fun h => absurd rfl h⟩
      | cons c u =>
        have k2 : kindL ((b :: c :: u).take 2) = if c.toNat = 61 ∧ Lx.signA b = true then 4 else 0 := by
          rw [show (b :: c :: u).take 2 = [b, c] from by simp, kind_other h1 h2, sign_two]
          simp only [Bool.and_eq_true, decide_eq_true_eq]
        have step2 : ∀ o kk, o ≤ 1 → lp (b :: c :: u) (m + 3) 2 o kk = if c.toNat = 61 ∧ Lx.signA b = true then (4, 2) else (kk, o) := fun o kk ho => by
          rw [lp, if_pos (by simp), k2]
          by_cases hc : c.toNat = 61 ∧ Lx.signA b = true
          · rw [if_pos hc, if_pos (by decide), if_pos hc, lp_dead _ _ _ _ _ dead]
          · rw [if_neg hc, if_neg (by decide), if_neg hc, if_neg (by omega), lp_dead _ _ _ _ _ dead]
        cases hb : Lx.signB b with
        | true =>
          rw [if_pos rfl, if_pos (by decide), step2 1 4 (by decide), Lx.sign, hb]
          by_cases hc : c.toNat = 61 ∧ Lx.signA b = true
          · rw [if_pos hc, if_pos hc]; exact ⟨rfl, fun _ => ⟨rfl, rfl⟩⟩
          · rw [if_neg hc, if_neg hc]; exact ⟨rfl, fun _ => ⟨rfl, rfl⟩⟩
        | false =>
          rw [if_neg (by decide), if_neg (by decide), step2 0 0 (by decide), Lx.sign, hb]
          by_cases hc : c.toNat = 61 ∧ Lx.signA b = true
          · rw [if_pos hc, if_pos hc]; exact ⟨rfl, fun _ => ⟨rfl, rfl⟩⟩
          · rw [if_neg hc, if_neg hc]; exact ⟨rfl, fun h => absurd rfl h⟩
end Go.Proofs.Ytpeaepdhnicceaa.Pure
