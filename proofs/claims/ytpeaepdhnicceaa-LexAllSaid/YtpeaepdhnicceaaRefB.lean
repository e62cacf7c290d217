/- What the reference of lex tells of a whole text: plain (2). -/
import Derived.Test.YtpeaepdhnicceaaRefA
namespace Go.Proofs.Ytpeaepdhnicceaa.Pure
open Go.RowKit Go.Proofs.Ytpeaepdhnicceaa.Wk Go.Proofs.Ytpeaepdhnicceaa.PTy Go.Proofs.Ytpeaepdhnicceaa.PRef Go.Proofs.YtpeaepdhnicceaaW.PrintWords
def qt : List UInt8 → Option (List UInt8 × Nat)
  | [] => none
  | b :: t => if b.toNat = 34 then some ([], 1) else if b.toNat = 92 then (match t with
      | c :: u => if c.toNat = 34 ∨ c.toNat = 92 then (qt u).map (fun q => (c :: q.1, q.2 + 2)) else none
      | [] => none)
    else (qt t).map (fun q => (b :: q.1, q.2 + 1))
theorem qt_34 {b : UInt8} {t : List UInt8} (h : b.toNat = 34) : qt (b :: t) = some ([], 1) := by rw [qt.eq_def]; simp only [h, if_true]
theorem qt_esc {b c : UInt8} {u : List UInt8} (h : b.toNat = 92) (hc : c.toNat = 34 ∨ c.toNat = 92) : qt (b :: c :: u) = (qt u).map (fun q => (c :: q.1, q.2 + 2)) := by
  rw [qt.eq_def]; simp only; rw [if_neg (by omega), if_pos h, if_pos hc]
theorem qt_bad {b c : UInt8} {u : List UInt8} (h : b.toNat = 92) (hc : ¬ (c.toNat = 34 ∨ c.toNat = 92)) : qt (b :: c :: u) = none := by
  rw [qt.eq_def]; simp only; rw [if_neg (by omega), if_pos h, if_neg hc]
theorem qt_bad0 {b : UInt8} (h : b.toNat = 92) : qt [b] = none := by
  rw [qt.eq_def]; simp only; rw [if_neg (by omega), if_pos h]
theorem qt_raw {b : UInt8} {t : List UInt8} (h : b.toNat ≠ 34) (h2 : b.toNat ≠ 92) : qt (b :: t) = (qt t).map (fun q => (b :: q.1, q.2 + 1)) := by
  rw [qt.eq_def]; simp only; rw [if_neg h, if_neg h2]
def plainB (b : UInt8) : Bool := decide (32 ≤ b.toNat) && decide (b.toNat ≤ 126)
theorem qt_pos : ∀ (n : Nat) (l : List UInt8), l.length ≤ n → ∀ q, qt l = some q → 1 ≤ q.2 ∧ q.2 ≤ l.length
  | _, [], _, q, h => by simp [qt] at h
  | 0, b :: t, hn, q, h => by simp at hn
  | n + 1, b :: t, hn, q, h => by
    simp only [List.length_cons] at hn ⊢
    by_cases h34 : b.toNat = 34
    · rw [qt_34 h34] at h; cases h; exact ⟨Nat.le_refl _, by omega⟩
    · by_cases h92 : b.toNat = 92
      · cases t with
        | nil => rw [qt_bad0 h92] at h; cases h
        | cons c u =>
          by_cases hc : c.toNat = 34 ∨ c.toNat = 92
          · rw [qt_esc h92 hc] at h
            obtain ⟨q', hq, rfl⟩ := Option.map_eq_some_iff.mp h
            simp only [List.length_cons] at hn ⊢
            have := qt_pos n u (by omega) q' hq
            exact ⟨by show 1 ≤ q'.2 + 2; omega, by show q'.2 + 2 ≤ _; omega⟩
          · rw [qt_bad h92 hc] at h; cases h
      · rw [qt_raw h34 h92] at h
        obtain ⟨q', hq, rfl⟩ := Option.map_eq_some_iff.mp h
        have := qt_pos n t (by omega) q' hq
        exact ⟨by show 1 ≤ q'.2 + 1; omega, by show q'.2 + 1 ≤ _; omega⟩
def chk (l : List UInt8) : Option (List UInt8 × Nat) → Option (List UInt8 × Nat)
  | some q => if (l.take q.2).all plainB = true then some q else none
  | none => none
theorem text_qt : ∀ (n : Nat) (l : List UInt8), l.length ≤ n → Lx.text l = chk l (qt l)
  | _, [], _ => rfl
  | 0, b :: t, hn => by simp at hn
  | n + 1, b :: t, hn => by
    simp only [List.length_cons] at hn
    by_cases hr : b.toNat < 32 ∨ 126 < b.toNat
    · rw [Lx.text_cons, if_pos hr]
      cases hq : qt (b :: t) with
      | none => rfl
      | some q =>
        obtain ⟨p1, _⟩ := qt_pos (b :: t).length (b :: t) (Nat.le_refl _) q hq
        obtain ⟨m, hm⟩ : ∃ m, q.2 = m + 1 := ⟨q.2 - 1, by omega⟩
        unfold chk
        simp only
        rw [hm, List.take_succ_cons, List.all_cons, show plainB b = false by unfold plainB; simp; omega, Bool.false_and, if_neg (by decide)]
    · have hp : plainB b = true := by unfold plainB; simp; omega
      by_cases h34 : b.toNat = 34
      · rw [Lx.text_cons, if_neg hr, if_pos h34, qt_34 h34]
        unfold chk
        simp only
        rw [List.take_succ_cons, List.take_zero, List.all_cons, hp]; rfl
      · by_cases h92 : b.toNat = 92
        · cases t with
          | nil => rw [Lx.text_cons, if_neg hr, if_neg h34, if_pos h92, qt_bad0 h92]; rfl
          | cons c u =>
            simp only [List.length_cons] at hn
            rw [Lx.text_cons, if_neg hr, if_neg h34, if_pos h92]
            simp only
            by_cases hc : c.toNat = 34 ∨ c.toNat = 92
            · rw [if_pos hc, qt_esc h92 hc, text_qt n u (by omega)]
              cases hq : qt u with
              | none => rfl
              | some q =>
                unfold chk
                simp only [Option.map_some]
                rw [List.take_succ_cons, List.take_succ_cons, List.all_cons, List.all_cons, hp, show plainB c = true by unfold plainB; simp; omega, Bool.true_and, Bool.true_and]
                split <;> rfl
            · rw [if_neg hc, qt_bad h92 hc]; rfl
        · rw [Lx.text_cons, if_neg hr, if_neg h34, if_neg h92, qt_raw h34 h92, text_qt n t (by omega)]
          cases hq : qt t with
          | none => rfl
          | some q =>
            unfold chk
            simp only [Option.map_some]
            rw [List.take_succ_cons, List.all_cons, hp, Bool.true_and]
            split <;> rfl
def qres (acc : ByteArray) (i : Nat) : Option (List UInt8 × Nat) → ByteArray × Int
  | some q => (⟨(L acc ++ q.1).toArray⟩, ((i + q.2 : Nat) : Int))
  | none => (⟨#[]⟩, 0)
theorem qres_map (acc : ByteArray) (i n : Nat) (b : UInt8) (o : Option (List UInt8 × Nat)) : qres acc i (o.map (fun q => (b :: q.1, q.2 + n))) = qres (acc ++ (⟨#[b]⟩ : ByteArray)) (i + n) o := by
  cases o with
  | none => rfl
  | some q =>
    unfold qres
    simp only [Option.map_some]
    rw [L_app, show L (⟨#[b]⟩ : ByteArray) = [b] from rfl, List.append_assoc, show i + (q.2 + n) = i + n + q.2 from by omega]; rfl
theorem quoted_loop (s : ByteArray) (hs : s.size ≤ 100000) : ∀ (m k i : Nat) (acc : ByteArray), s.size ≤ i + m → i ≤ s.size → m < k → acc.size ≤ i → tocsinref07_Quoted.l0 k s acc (i : Int) = some (qres acc i (qt ((L s).drop i))) := by
  intro m
  induction m with
  | zero =>
    intro k i acc hm hi hk ha
    obtain ⟨k, rfl⟩ : ∃ k', k = k' + 1 := ⟨k - 1, by omega⟩
    rw [tocsinref07_Quoted.l0, if_neg (by omega), L_end (by omega)]; rfl
  | succ m ih =>
    intro k i acc hm hi hk ha
    obtain ⟨k, rfl⟩ : ∃ k', k = k' + 1 := ⟨k - 1, by omega⟩
    by_cases hlt : i < s.size
    · have hd := L_drop hlt
      rw [tocsinref07_Quoted.l0, if_pos (by omega), if_pos (by omega), bt_nat hlt, next64 hlt (by omega), hd]
      by_cases h34 : s[i].toNat = 34
      · rw [if_pos (by omega), qt_34 h34]
        unfold qres
        simp only [List.append_nil]
      · rw [if_neg (by omega)]
        by_cases h92 : s[i].toNat = 92
        · rw [if_pos (by omega)]
          by_cases hend : i + 1 = s.size
          · rw [if_pos (by omega), L_end (by omega), qt_bad0 h92]; rfl
          · have hlt2 : i + 1 < s.size := by omega
            have hd2 := L_drop hlt2
            have z : ((⟨#[s[i + 1]]⟩ : ByteArray)).size = 1 := rfl
            rw [if_neg (by omega), if_pos (by omega), if_pos (by omega), bt_nat hlt2, next64 hlt2 (by omega), Int.toNat_natCast, Int.toNat_natCast, one_byte hlt2, hd2]
            by_cases hc1 : s[i + 1].toNat = 34
            · rw [if_pos (by omega), if_pos (by omega), if_pos (by omega), if_pos (by omega), qt_esc h92 (.inl hc1), qres_map]
              exact ih k (i + 1 + 1) _ (by omega) (by omega) (by omega) (by rw [sz_app]; omega)
            · rw [if_neg (by omega)]
              by_cases hc2 : s[i + 1].toNat = 92
              · rw [if_pos (by omega), if_pos (by omega), if_pos (by omega), if_pos (by omega), qt_esc h92 (.inr hc2), qres_map]
                exact ih k (i + 1 + 1) _ (by omega) (by omega) (by omega) (by rw [sz_app]; omega)
              · rw [if_neg (by omega), qt_bad h92 (by omega)]; rfl
        · have z : ((⟨#[s[i]]⟩ : ByteArray)).size = 1 := rfl
          rw [if_neg (by omega), if_pos (by omega), if_pos (by omega), Int.toNat_natCast, Int.toNat_natCast, one_byte hlt, if_pos (by omega), qt_raw h34 h92, qres_map]
          exact ih k (i + 1) _ (by omega) (by omega) (by omega) (by rw [sz_app]; omega)
    · rw [tocsinref07_Quoted.l0, if_neg (by omega), L_end (by omega)]; rfl
theorem plain_loop (s : ByteArray) (hs : s.size ≤ 100000) : ∀ (m k i : Nat), s.size ≤ i + m → m < k → tocsinref07_Plain.l0 k s (i : Int) = some (((L s).drop i).all plainB) := by
  intro m
  induction m with
  | zero =>
    intro k i hm hk
    obtain ⟨k, rfl⟩ : ∃ k', k = k' + 1 := ⟨k - 1, by omega⟩
    rw [tocsinref07_Plain.l0, if_neg (by omega), L_end (by omega)]; rfl
  | succ m ih =>
    intro k i hm hk
    obtain ⟨k, rfl⟩ : ∃ k', k = k' + 1 := ⟨k - 1, by omega⟩
    by_cases hlt : i < s.size
    · rw [tocsinref07_Plain.l0, if_pos (by omega), if_pos (by omega), bt_nat hlt, next64 hlt (by omega), L_drop hlt, List.all_cons]
      by_cases h1 : (s[i].toNat : Int) < 32
      · rw [if_pos h1, show plainB s[i] = false by unfold plainB; simp; omega]; rfl
      rw [if_neg h1]
      by_cases h2 : (s[i].toNat : Int) > 126
      · rw [if_pos h2, show plainB s[i] = false by unfold plainB; simp; omega]; rfl
      rw [if_neg h2, show plainB s[i] = true by unfold plainB; simp; omega, Bool.true_and]
      exact ih k (i + 1) (by omega) (by omega)
    · rw [tocsinref07_Plain.l0, if_neg (by omega), L_end (by omega)]; rfl
/-- The longest token at a place. -/
theorem longest_some (s : ByteArray) (hs : s.size ≤ 4096) (b : Nat) (hb : b < s.size) (k : Nat) (hk : 20000 ≤ k) : ∃ r : Out, tocsinref09_longest.f k s (b : Int) = some r ∧ ((Lx.one ((L s).drop b)).2.2 = 0 → r.1 = 0) ∧
    ((Lx.one ((L s).drop b)).2.2 ≠ 0 → r = (((Lx.one ((L s).drop b)).1 : Int), ⟨(Lx.one ((L s).drop b)).2.1.toArray⟩, (b : Int), ((b + (Lx.one ((L s).drop b)).2.2 : Nat) : Int))) := by
  have hd := L_drop hb
  have hlen : ((L s).drop b).length = s.size - b := by rw [List.length_drop, L_len]
  unfold tocsinref09_longest.f
  rw [if_pos (by omega), if_pos (by omega), bt_nat hb]
  by_cases h34 : s[b].toNat = 34
  · rw [if_pos (by omega), if_pos (by omega), Int.toNat_natCast]
    have hL : L (s.extract b s.size) = (L s).drop b := by rw [L_extract, List.take_of_length_le (by omega)]
    have hz : (s.extract b s.size).size = s.size - b := by rw [ByteArray.size_extract]; omega
    have hq : tocsinref07_Quoted.f k (s.extract b s.size) = some (qres ⟨#[]⟩ 1 (qt ((L s).drop (b + 1)))) := by
      unfold tocsinref07_Quoted.f
      obtain ⟨k, rfl⟩ : ∃ k', k = k' + 1 := ⟨k - 1, by omega⟩
      have h0 : bt (s.extract b s.size) 0 = 34 := by
        have h := bt_nat (s := s.extract b s.size) (a := 0) (by omega)
        have g := getL (s := s.extract b s.size) (i := 0) (by omega)
        rw [hL, hd] at g
        rw [← Option.some.inj g, h34] at h
        exact h
      rw [tl, hL, if_neg (by rw [hd]; simp), if_pos (by omega), h0, show ((34 : Int) != 34) = false from rfl, tocsinref07_Quoted.j0, if_neg (by decide)]
      have := quoted_loop (s.extract b s.size) (by omega) s.size k 1 ⟨#[]⟩ (by omega) (by omega) (by omega) (Nat.zero_le _)
      rw [hL, List.drop_drop] at this
      exact this
    rw [hq, Option.bind_some]
    have hone : Lx.one ((L s).drop b) = (match chk ((L s).drop (b + 1)) (qt ((L s).drop (b + 1))) with | some q => (3, q.1, q.2 + 1) | none => (3, [], 0)) := by
      have hnl : Lx.letter s[b] = false := by unfold Lx.letter; simp; omega
      have hnd : Lx.digit s[b] = false := by unfold Lx.digit; simp; omega
      rw [hd, Lx.one_cons, if_neg (by rw [hnl]; decide), if_neg (by rw [hnd]; decide), if_pos h34, text_qt _ _ (Nat.le_refl _)]
      rfl
    rw [hone]
    cases hqt : qt ((L s).drop (b + 1)) with
    | none => exact ⟨_, rfl, fun _ => rfl, fun h => absurd rfl h⟩
    | some q =>
      obtain ⟨p1, p2⟩ := qt_pos _ _ (Nat.le_refl _) q hqt
      rw [List.length_drop, L_len] at p2
      have hz2 : (s.extract b (b + (1 + q.2))).size ≤ s.size := by rw [ByteArray.size_extract]; omega
      have hL2 : L (s.extract b (b + (1 + q.2))) = s[b] :: ((L s).drop (b + 1)).take q.2 := by
        rw [L_extract, hd, show b + (1 + q.2) - b = q.2 + 1 from by omega, List.take_succ_cons]
      unfold qres
      simp only
      have hw : wrap64 ((b : Int) + ((1 + q.2 : Nat) : Int)) = ((b + (1 + q.2) : Nat) : Int) := by rw [w64 (by omega) (by omega)]; omega
      rw [if_pos (show ((1 + q.2 : Nat) : Int) > 0 by omega), hw]
      clear hw
      have hpl : tocsinref07_Plain.f k (s.extract b (b + (1 + q.2))) = some ((((L s).drop (b + 1)).take q.2).all plainB) := by
        unfold tocsinref07_Plain.f
        have := plain_loop (s.extract b (b + (1 + q.2))) (by omega) s.size k 0 (by omega) (by omega)
        rw [List.drop_zero, hL2, List.all_cons, show plainB s[b] = true by unfold plainB; simp; omega, Bool.true_and] at this
        exact this
      rw [if_pos (by omega), if_pos (by omega), Int.toNat_natCast, hpl, Option.bind_some]
      unfold chk
      simp only
      by_cases hall : (((L s).drop (b + 1)).take q.2).all plainB = true
      · rw [hall, if_pos rfl]
        refine ⟨_, rfl, fun h => absurd h (by simp), fun _ => ?_⟩
        rw [if_pos rfl]
        simp only
        rw [show b + (1 + q.2) = b + (q.2 + 1) from by omega]
        rfl
      · rw [if_neg hall, if_neg hall]
        exact ⟨_, rfl, fun _ => rfl, fun h => absurd rfl h⟩
  · rw [if_neg (by omega)]
    have hw : wrap64 ((b : Int) + 1) = ((b + 1 : Nat) : Int) := next64 hb (by omega)
    have hl := longest_loop s (by omega) b (by omega) (s.size + 2) k 1 0 0 (by omega) (by omega) (Nat.le_refl _) (by omega) (fun h => absurd rfl h)
    have ho := lp_one (b := s[b]) (t := (L s).drop (b + 1)) h34 (m := s.size + 2 + 1) (by rw [← hd]; omega)
    rw [← hd] at ho
    rw [hw]
    refine ⟨_, hl, fun h => ?_, fun h => ?_⟩
    · unfold outR stK; rw [ho.1, h]; rfl
    · obtain ⟨h1, h2⟩ := ho.2 h
      unfold outR stK stT stA stE
      rw [ho.1, if_neg h, if_neg h, if_neg h, if_neg h, h1, h2]
end Go.Proofs.Ytpeaepdhnicceaa.Pure
