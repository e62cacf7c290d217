/- What the reference of lex tells, over lists of bytes. -/
import Derived.Test.YtpeaepdhnicceaaPRefx4
import Derived.Test.YtpeaepdhnicceaaLxF
namespace Go.Proofs.Ytpeaepdhnicceaa.Pure
open Go.RowKit Go.Proofs.Ytpeaepdhnicceaa.Wk Go.Proofs.Ytpeaepdhnicceaa.PTy Go.Proofs.Ytpeaepdhnicceaa.PRef Go.Proofs.YtpeaepdhnicceaaW.PrintWords
theorem getL {s : ByteArray} {i : Nat} (h : i < s.size) : (L s)[i]? = some s[i] := by
  have hl : i < (L s).length := by rw [L_len]; exact h
  rw [List.getElem?_eq_getElem hl]; rfl
theorem blank_some (b : UInt8) : tocsinref09_blank.f (b.toNat : Int) = some (Lx.blank b) := by
  unfold tocsinref09_blank.f Lx.blank
  by_cases h1 : b.toNat = 32
  · rw [if_pos (by omega), decide_eq_true h1]; rfl
  rw [if_neg (by omega), decide_eq_false h1]
  by_cases h2 : b.toNat = 9
  · rw [if_pos (by omega), decide_eq_true h2]; rfl
  rw [if_neg (by omega), decide_eq_false h2]
  by_cases h3 : b.toNat = 10
  · rw [if_pos (by omega), decide_eq_true h3]; rfl
  rw [if_neg (by omega), decide_eq_false h3]
  by_cases h4 : b.toNat = 13
  · rw [decide_eq_true h4, h4]; rfl
  · rw [decide_eq_false h4]
    simp only [Bool.or_false]
    congr 1
    exact beq_eq_false_iff_ne.mpr (by omega)
/-- One byte is a name's. -/
theorem may_step (s : ByteArray) (k : Nat) (i : Nat) (h : i < s.size) (hs : s.size ≤ 1000000) : tocsinref07_MayName.l0 (k + 1) s (i : Int) = if Lx.mark s[i] = true then tocsinref07_MayName.l0 k s ((i + 1 : Nat) : Int) else some false := by
  rw [tocsinref07_MayName.l0, if_pos (by omega), if_pos (by omega), bt_nat h, next64 h (by omega)]
  unfold Lx.mark Lx.letter Lx.digit
  generalize s[i] = b
  by_cases h1 : 97 ≤ b.toNat
  · rw [if_pos (by omega)]
    by_cases h2 : b.toNat ≤ 122
    · rw [if_pos (by omega), if_pos (by simp; omega)]
    · rw [if_neg (by omega), if_pos (by omega), if_neg (by omega), if_neg (by omega), if_neg (by simp; omega)]
  · rw [if_neg (by omega)]
    by_cases h3 : 48 ≤ b.toNat
    · rw [if_pos (by omega)]
      by_cases h4 : b.toNat ≤ 57
      · rw [if_pos (by omega), if_pos (by simp; omega)]
      · rw [if_neg (by omega)]
        by_cases h5 : b.toNat = 95
        · rw [if_pos (by omega), if_pos (by simp; omega)]
        · rw [if_neg (by omega), if_neg (by simp; omega)]
    · rw [if_neg (by omega), if_neg (by omega), if_neg (by simp; omega)]
theorem may_some (b : UInt8) (k : Nat) (hk : 10 ≤ k) : tocsinref07_MayName.f k ((⟨#[97]⟩ : ByteArray) ++ (⟨#[b]⟩ : ByteArray)) = some (Lx.mark b) := by
  obtain ⟨k, rfl⟩ : ∃ k', k = k' + 4 := ⟨k - 4, by omega⟩
  have hz : ((⟨#[97]⟩ : ByteArray) ++ (⟨#[b]⟩ : ByteArray)).size = 2 := by rw [sz_app]; rfl
  have hL : L ((⟨#[97]⟩ : ByteArray) ++ (⟨#[b]⟩ : ByteArray)) = [97, b] := by rw [L_app]; rfl
  generalize (⟨#[97]⟩ : ByteArray) ++ (⟨#[b]⟩ : ByteArray) = s at *
  have g0 := getL (s := s) (i := 0) (by omega)
  have g1 := getL (s := s) (i := 1) (by omega)
  rw [hL] at g0 g1
  have e0 : s[0]'(by omega) = 97 := (Option.some.inj g0).symm
  have e1 : s[1]'(by omega) = b := (Option.some.inj g1).symm
  unfold tocsinref07_MayName.f
  have hb0 : bt s 0 = 97 := by
    have := bt_nat (s := s) (a := 0) (by omega)
    rw [e0] at this; exact this
  rw [if_neg (by omega), if_neg (by omega), if_pos (by omega), hb0, if_neg (by decide), decide_eq_false (by decide), tocsinref07_MayName.j0, if_neg (by decide)]
  have s0 := may_step s (k + 2) 0 (by omega) (by omega)
  have s1 := may_step s (k + 1) 1 (by omega) (by omega)
  rw [e0, if_pos (by rfl)] at s0
  rw [e1] at s1
  rw [show ((0 : Nat) : Int) = 0 from rfl] at s0
  rw [s0, s1]
  cases Lx.mark b with
  | true => rw [if_pos rfl, tocsinref07_MayName.l0, if_neg (by omega)]
  | false => rw [if_neg (by decide)]
def wordB (l : List UInt8) : Bool := l.all Lx.mark && (match l with | [] => false | b :: _ => Lx.letter b)
theorem letter_int (b : UInt8) : (if (b.toNat : Int) ≥ 97 then (some (decide ((b.toNat : Int) ≤ 122))) else (some false)) = some (Lx.letter b) := by
  unfold Lx.letter
  by_cases h : 97 ≤ b.toNat
  · rw [if_pos (by omega), decide_eq_true h, Bool.true_and]; congr 1; apply decide_eq_decide.mpr; omega
  · rw [if_neg (by omega), decide_eq_false h, Bool.false_and]
theorem word_loop (s : ByteArray) (hs : s.size ≤ 100000) : ∀ (m k i : Nat), i + m = s.size → m + 12 ≤ k → ((L s).take i).all Lx.mark = true → tocsinref09_word.l0 k s (i : Int) = some (wordB (L s))
  | 0, k, i, hi, hk, ha => by
    obtain ⟨k, rfl⟩ : ∃ k', k = k' + 1 := ⟨k - 1, by omega⟩
    rw [List.take_of_length_le (by rw [L_len]; omega)] at ha
    rw [tocsinref09_word.l0, if_neg (by omega), tl]
    unfold wordB
    rw [ha, Bool.true_and]
    by_cases hz : s.size = 0
    · have : L s = [] := List.length_eq_zero_iff.mp (by rw [L_len]; exact hz)
      rw [this, if_pos rfl]
    · have h0 : 0 < s.size := by omega
      have hd := L_drop (s := s) (a := 0) h0
      rw [List.drop_zero] at hd
      have hb := bt_nat (s := s) (a := 0) h0
      rw [show ((0 : Nat) : Int) = 0 from rfl] at hb
      rw [if_neg (by rw [hd]; simp), if_pos (by omega), hb, letter_int, hd]
  | m + 1, k, i, hi, hk, ha => by
    obtain ⟨k, rfl⟩ : ∃ k', k = k' + 1 := ⟨k - 1, by omega⟩
    have hlt : i < s.size := by omega
    have hlt' : i < (L s).length := by rw [L_len]; exact hlt
    have hts : (L s).take (i + 1) = (L s).take i ++ [s[i]] := by rw [List.take_succ_eq_append_getElem hlt']; rfl
    have z : ((⟨#[s[i]]⟩ : ByteArray)).size = 1 := rfl
    rw [tocsinref09_word.l0, if_pos (by omega), if_pos (by omega), next64 hlt (by omega), if_pos (by omega), if_pos (by omega), Int.toNat_natCast, Int.toNat_natCast, one_byte hlt, if_pos (by omega), may_some _ _ (by omega), Option.bind_some]
    cases hm : Lx.mark s[i] with
    | true =>
      rw [if_pos rfl]
      exact word_loop s hs m k (i + 1) (by omega) (by omega) (by rw [hts, List.all_append, ha, List.all_cons, hm]; rfl)
    | false =>
      rw [if_neg (by decide)]
      unfold wordB
      have : (L s).all Lx.mark = false := by
        rw [List.all_eq_false]
        exact ⟨s[i], List.mem_of_getElem? (getL hlt), by rw [hm]; decide⟩
      rw [this]; rfl
theorem word_some (s : ByteArray) (hs : s.size ≤ 100000) {k : Nat} (hk : s.size + 12 ≤ k) : tocsinref09_word.f k s = some (wordB (L s)) := by
  unfold tocsinref09_word.f
  exact word_loop s hs s.size k 0 (by omega) hk (by simp)
def digs (l : List UInt8) : Bool := l.all Lx.digit && !l.isEmpty
theorem digits_loop (s : ByteArray) (hs : s.size ≤ 100000) : ∀ (m k i : Nat), i + m = s.size → m < k → ((L s).take i).all Lx.digit = true → tocsinref09_digits.l0 k s (i : Int) = some (digs (L s))
  | 0, k, i, hi, hk, ha => by
    obtain ⟨k, rfl⟩ : ∃ k', k = k' + 1 := ⟨k - 1, by omega⟩
    rw [List.take_of_length_le (by rw [L_len]; omega)] at ha
    rw [tocsinref09_digits.l0, if_neg (by omega), tl]
    unfold digs
    rw [ha, Bool.true_and]
    cases L s <;> rfl
  | m + 1, k, i, hi, hk, ha => by
    obtain ⟨k, rfl⟩ : ∃ k', k = k' + 1 := ⟨k - 1, by omega⟩
    have hlt : i < s.size := by omega
    have hlt' : i < (L s).length := by rw [L_len]; exact hlt
    have hts : (L s).take (i + 1) = (L s).take i ++ [s[i]] := by rw [List.take_succ_eq_append_getElem hlt']; rfl
    have hno : Lx.digit s[i] = false → digs (L s) = false := fun hm => by
      unfold digs
      have : (L s).all Lx.digit = false := by
        rw [List.all_eq_false]
        exact ⟨s[i], List.mem_of_getElem? (getL hlt), by rw [hm]; decide⟩
      rw [this]; rfl
    rw [tocsinref09_digits.l0, if_pos (by omega), if_pos (by omega), bt_nat hlt, next64 hlt (by omega)]
    by_cases h1 : (s[i].toNat : Int) < 48
    · rw [if_pos h1, hno (by unfold Lx.digit; simp; omega)]
    rw [if_neg h1]
    by_cases h2 : (s[i].toNat : Int) > 57
    · rw [if_pos h2, hno (by unfold Lx.digit; simp; omega)]
    rw [if_neg h2]
    exact digits_loop s hs m k (i + 1) (by omega) (by omega) (by rw [hts, List.all_append, ha, List.all_cons, show Lx.digit s[i] = true by unfold Lx.digit; simp; omega]; rfl)
theorem digits_some (s : ByteArray) (hs : s.size ≤ 100000) {k : Nat} (hk : s.size < k) : tocsinref09_digits.f k s = some (digs (L s)) := by
  unfold tocsinref09_digits.f
  exact digits_loop s hs s.size k 0 (by omega) hk (by simp)
def noDot (b : UInt8) : Bool := decide (b.toNat ≠ 46)
def numB (l : List UInt8) : Bool := if Lx.run noDot l < l.length then digs (l.take (Lx.run noDot l)) && digs (l.drop (Lx.run noDot l + 1)) else digs l
theorem run_at {p : UInt8 → Bool} : ∀ {l : List UInt8} {i : Nat} {b : UInt8}, (∀ j c, j < i → l[j]? = some c → p c = true) → l[i]? = some b → p b = false → Lx.run p l = i
  | [], i, b, _, h, _ => by simp at h
  | c :: t, 0, b, _, h, hb => by
    simp at h; subst h; exact Lx.run_no hb
  | c :: t, i + 1, b, h, hi, hb => by
    have hc : p c = true := h 0 c (by omega) rfl
    rw [Lx.run_yes hc, run_at (l := t) (i := i) (b := b) (fun j d hj hd => h (j + 1) d (by omega) (by simpa using hd)) (by simpa using hi) hb]; omega
theorem number_loop (s : ByteArray) (hs : s.size ≤ 100000) : ∀ (m k i : Nat), i + m = s.size → m + s.size + 2 ≤ k → (∀ j c, j < i → (L s)[j]? = some c → noDot c = true) → tocsinref09_number.l0 k s (i : Int) = some (numB (L s))
  | 0, k, i, hi, hk, ha => by
    obtain ⟨k, rfl⟩ : ∃ k', k = k' + 1 := ⟨k - 1, by omega⟩
    rw [tocsinref09_number.l0, if_neg (by omega), digits_some s hs (by omega), Option.bind_some]
    unfold numB
    rw [if_neg]
    have : Lx.run noDot (L s) = (L s).length := Lx.run_full fun b hb => by
      obtain ⟨j, hj⟩ := List.getElem?_of_mem hb
      have hj2 : j < (L s).length := (List.getElem?_eq_some_iff.mp hj).1
      rw [L_len] at hj2
      exact ha j b (by omega) hj
    omega
  | m + 1, k, i, hi, hk, ha => by
    obtain ⟨k, rfl⟩ : ∃ k', k = k' + 1 := ⟨k - 1, by omega⟩
    have hlt : i < s.size := by omega
    rw [tocsinref09_number.l0, if_pos (by omega), if_pos (by omega), bt_nat hlt, next64 hlt (by omega)]
    by_cases h : (s[i].toNat : Int) = 46
    · have hrun : Lx.run noDot (L s) = i := run_at ha (getL hlt) (by unfold noDot; simp; omega)
      have e1 : L (s.extract 0 i) = (L s).take i := by rw [L_extract, List.drop_zero]; rfl
      have e2 : L (s.extract (i + 1) s.size) = (L s).drop (i + 1) := by
        rw [L_extract, List.take_of_length_le (by rw [List.length_drop, L_len]; omega)]
      have hnb : numB (L s) = (digs ((L s).take i) && digs ((L s).drop (i + 1))) := by
        unfold numB
        rw [hrun, if_pos (by rw [L_len]; omega)]
      rw [hnb, if_pos h, if_pos (by omega), Int.toNat_natCast, digits_some _ (by rw [ByteArray.size_extract]; omega) (by rw [ByteArray.size_extract]; omega), Option.bind_some, e1]
      cases digs ((L s).take i) with
      | true =>
        rw [if_pos rfl, if_pos (by omega), if_pos (by omega), Int.toNat_natCast, digits_some _ (by rw [ByteArray.size_extract]; omega) (by rw [ByteArray.size_extract]; omega), Option.bind_some, e2]; rfl
      | false => rw [if_neg (by decide)]; rfl
    · rw [if_neg h]
      exact number_loop s hs m k (i + 1) (by omega) (by omega) (fun j c hj hc => by
        by_cases hji : j = i
        · subst hji; rw [getL hlt] at hc; obtain rfl := Option.some.inj hc; unfold noDot; simp; omega
        · exact ha j c (by omega) hc)
theorem number_some (s : ByteArray) (hs : s.size ≤ 100000) {k : Nat} (hk : 2 * s.size + 2 ≤ k) : tocsinref09_number.f k s = some (numB (L s)) := by
  unfold tocsinref09_number.f
  exact number_loop s hs s.size k 0 (by omega) (by omega) (fun j c hj _ => by omega)
def signs : List (List UInt8) := [[60, 61], [62, 61], [61, 61], [33, 61], [94, 61], [123], [125], [40], [41], [91], [93], [44], [58], [59], [61], [60], [62], [45]]
def signsB : List ByteArray := [(⟨#[60, 61]⟩ : ByteArray), (⟨#[62, 61]⟩ : ByteArray), (⟨#[61, 61]⟩ : ByteArray), (⟨#[33, 61]⟩ : ByteArray), (⟨#[94, 61]⟩ : ByteArray), (⟨#[123]⟩ : ByteArray), (⟨#[125]⟩ : ByteArray), (⟨#[40]⟩ : ByteArray), (⟨#[41]⟩ : ByteArray), (⟨#[91]⟩ : ByteArray), (⟨#[93]⟩ : ByteArray), (⟨#[44]⟩ : ByteArray), (⟨#[58]⟩ : ByteArray), (⟨#[59]⟩ : ByteArray), (⟨#[61]⟩ : ByteArray), (⟨#[60]⟩ : ByteArray), (⟨#[62]⟩ : ByteArray), (⟨#[45]⟩ : ByteArray)]
theorem sign_loop (s : ByteArray) (B : List ByteArray) (hB : B.length ≤ 1000) : ∀ (m k i : Nat), i + m = B.length → m < k → tocsinref09_sign.l0 k s B (i : Int) = some (((B.map L).drop i).contains (L s))
  | 0, k, i, hi, hk => by
    obtain ⟨k, rfl⟩ : ∃ k', k = k' + 1 := ⟨k - 1, by omega⟩
    rw [tocsinref09_sign.l0, if_neg (by omega), List.drop_of_length_le (by rw [List.length_map]; omega)]; rfl
  | m + 1, k, i, hi, hk => by
    obtain ⟨k, rfl⟩ : ∃ k', k = k' + 1 := ⟨k - 1, by omega⟩
    have hlt : i < B.length := by omega
    have hrd : rdOf ByteArray.empty B (i : Int) = B[i]'hlt := by
      unfold rdOf; rw [Int.toNat_natCast, List.getD_eq_getElem?_getD, List.getElem?_eq_getElem hlt]; rfl
    have hd : (B.map L).drop i = L (B[i]'hlt) :: (B.map L).drop (i + 1) := by
      rw [List.drop_eq_getElem_cons (by rw [List.length_map]; exact hlt), List.getElem_map]
    rw [tocsinref09_sign.l0, if_pos (by omega), if_pos (by omega), hrd, tl, tl, next64 hlt (by omega), hd, List.contains_cons]
    by_cases h : L (B[i]'hlt) = L s
    · rw [if_pos h, h]; simp
    · rw [if_neg h, sign_loop s B hB m k (i + 1) (by omega) (by omega)]
      have : (L s == L (B[i]'hlt)) = false := beq_eq_false_iff_ne.mpr (Ne.symm h)
      rw [this, Bool.false_or]
theorem sign_some (s : ByteArray) {k : Nat} (hk : 20 ≤ k) : tocsinref09_sign.f k s = some (signs.contains (L s)) := by
  unfold tocsinref09_sign.f
  have := sign_loop s signsB (by decide) 18 k 0 rfl (by omega)
  rw [List.drop_zero, show signsB.map L = signs from rfl] at this
  exact this
def kindL (l : List UInt8) : Nat := if wordB l then 1 else if numB l then 2 else if signs.contains l then 4 else 0
theorem kind_some (s : ByteArray) (hs : s.size ≤ 100000) {k : Nat} (hk : 2 * s.size + 30 ≤ k) : tocsinref09_kind.f k s = some ((kindL (L s) : Int), if kindL (L s) = 0 then ⟨#[]⟩ else s) := by
  unfold tocsinref09_kind.f kindL
  rw [word_some s hs (by omega), Option.bind_some]
  cases wordB (L s) with
  | true => rfl
  | false =>
    rw [if_neg (by decide), number_some s hs (by omega), Option.bind_some]
    cases numB (L s) with
    | true => rfl
    | false =>
      rw [if_neg (by decide), sign_some s (by omega), Option.bind_some]
      cases signs.contains (L s) <;> rfl
end Go.Proofs.Ytpeaepdhnicceaa.Pure
