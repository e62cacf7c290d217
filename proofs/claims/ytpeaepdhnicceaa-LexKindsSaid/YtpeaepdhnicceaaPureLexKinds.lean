/- Digits, a word, a text in quotes, alone, is one token of its kind: plain. -/
import Derived.Test.YtpeaepdhnicceaaPAllx5
import Derived.Test.YtpeaepdhnicceaaLxA
import Derived.Test.YtpeaepdhnicceaaLxF
namespace Go.Proofs.Ytpeaepdhnicceaa.Pure
open Go.RowKit Go.Proofs.Ytpeaepdhnicceaa.Wk Go.Proofs.Ytpeaepdhnicceaa.PTy Go.Proofs.Ytpeaepdhnicceaa.PBase Go.Proofs.Ytpeaepdhnicceaa.Given Go.Proofs.Ytpeaepdhnicceaa.PAll Go.Proofs.YtpeaepdhnicceaaW.PrintWords Go.Proofs.YtpeaepdhnicceaaW.PrintLast
def Dig (l : List UInt8) : Prop := ∀ b ∈ l, 48 ≤ b.toNat ∧ b.toNat ≤ 57
def Let (l : List UInt8) : Prop := ∀ b ∈ l, 97 ≤ b.toNat ∧ b.toNat ≤ 122
theorem dig_digit {b : UInt8} (h : 48 ≤ b.toNat ∧ b.toNat ≤ 57) : Lx.digit b = true ∧ Lx.letter b = false ∧ Lx.mark b = true ∧ Lx.blank b = false ∧ b.toNat ≠ 35 := by
  unfold Lx.mark Lx.digit Lx.letter Lx.blank
  simp only [Bool.and_eq_true, Bool.or_eq_true, decide_eq_true_eq, Bool.and_eq_false_iff, Bool.or_eq_false_iff, decide_eq_false_iff_not]
  omega
theorem let_letter {b : UInt8} (h : 97 ≤ b.toNat ∧ b.toNat ≤ 122) : Lx.letter b = true ∧ Lx.mark b = true ∧ Lx.blank b = false ∧ b.toNat ≠ 35 := by
  unfold Lx.mark Lx.digit Lx.letter Lx.blank
  simp only [Bool.and_eq_true, Bool.or_eq_true, decide_eq_true_eq, Bool.and_eq_false_iff, Bool.or_eq_false_iff, decide_eq_false_iff_not]
  omega
/-- A token that takes the whole text. -/
theorem T_whole {l : List UInt8} {k : Nat} {x : List UInt8} (h0 : Lx.skip false l = 0) (hn : l ≠ []) (h1 : Lx.one l = (k, x, l.length)) : Lx.T 0 l = ([⟨k, x, 0⟩], none) := by
  have hz : l.length ≠ 0 := fun e => hn (List.length_eq_zero_iff.mp e)
  rw [Lx.G_T h0]
  unfold Lx.G
  rw [if_neg hn, h1]
  simp only [if_neg hz, List.drop_length]
  rw [show Lx.T (0 + l.length) [] = ([], none) from Lx.T_end rfl]
theorem skip_no {b : UInt8} {t : List UInt8} (h : Lx.blank b = false) (h2 : b.toNat ≠ 35) : Lx.skip false (b :: t) = 0 := by
  rw [Lx.skip, if_neg (by rw [h]; decide), if_neg h2]
theorem T_digits {l : List UInt8} (h : Dig l) (hn : l ≠ []) : Lx.T 0 l = ([⟨2, l, 0⟩], none) := by
  cases l with
  | nil => exact absurd rfl hn
  | cons b t =>
    obtain ⟨h1, h2, h3, h4, h5⟩ := dig_digit (h b (by simp))
    have hr : Lx.run Lx.digit (b :: t) = (b :: t).length := Lx.run_full fun c hc => (dig_digit (h c hc)).1
    have hnum : Lx.num (b :: t) = (b :: t).length := by rw [Lx.num_def, hr, List.drop_length]
    refine T_whole (skip_no h4 h5) hn ?_
    rw [Lx.one_cons, if_neg (by rw [h2]; decide), if_pos h1, hnum, List.take_length]
theorem T_word {l d : List UInt8} (h : Let l) (hd : Dig d) (hn : l ≠ []) : Lx.T 0 (l ++ d) = ([⟨1, l ++ d, 0⟩], none) := by
  cases l with
  | nil => exact absurd rfl hn
  | cons b t =>
    obtain ⟨h1, h2, h4, h5⟩ := let_letter (h b (by simp))
    have hr : Lx.run Lx.mark (b :: t ++ d) = (b :: t ++ d).length := Lx.run_full fun c hc => by
      rcases List.mem_append.mp hc with hc | hc
      · exact (let_letter (h c hc)).2.1
      · exact (dig_digit (hd c hc)).2.2.1
    refine T_whole (l := b :: t ++ d) (skip_no h4 h5) (by simp) ?_
    rw [List.cons_append] at hr ⊢
    rw [Lx.one_cons, if_pos h1, hr, List.take_length]
theorem text_all : ∀ (l : List UInt8), (∀ b ∈ l, 32 ≤ b.toNat ∧ b.toNat ≤ 126 ∧ b.toNat ≠ 34 ∧ b.toNat ≠ 92) → Lx.text (l ++ [34]) = some (l, l.length + 1)
  | [], _ => Lx.text_quote []
  | b :: t, h => by
    obtain ⟨h1, h2, h3, h4⟩ := h b (by simp)
    rw [List.cons_append, Lx.text_raw_step h1 h2 h3 h4, text_all t fun c hc => h c (by simp [hc])]
    rfl
theorem T_quoted {l : List UInt8} (h : ∀ b ∈ l, 32 ≤ b.toNat ∧ b.toNat ≤ 126 ∧ b.toNat ≠ 34 ∧ b.toNat ≠ 92) : Lx.T 0 (34 :: (l ++ [34])) = ([⟨3, l, 0⟩], none) := by
  refine T_whole (skip_no (by rfl) (by decide)) (by simp) ?_
  rw [Lx.one_cons, if_neg (by decide), if_neg (by decide), if_pos (by decide), text_all l h]
  simp
theorem u64_small {x : Int} (h : 0 ≤ x ∧ x < 18446744073709551616) : IntKind.u64.wrap x = x := by
  have e : IntKind.u64.wrap x = x % 18446744073709551616 := by rfl
  rw [e]; omega
theorem one_num (x : Int) : L (strOfNums [x]) = [UInt8.ofNat x.toNat] := rfl
theorem toNat_ofNat {n : Nat} (h : n < 256) : (UInt8.ofNat n).toNat = n := by simp; omega
/-- The end of the law: a word and a text in quotes. -/
theorem l1_end (letters : List Int) (d w : ByteArray) (hd : Dig (L d)) (hdn : d.size ≤ 100) (hw : Let (L w)) (hwn : L w ≠ []) (hws : w.size ≤ 100) (k : Nat) (i : Int) (hi : (letters.length : Int) ≤ i) :
    tocsinlaw09_LexKinds.l1 (k + 1) letters d w i = some true := by
  have q1 : ((⟨#[34]⟩ : ByteArray)).size = 1 := rfl
  have q2 : ((⟨#[32]⟩ : ByteArray)).size = 1 := rfl
  have z1 : ((⟨#[34]⟩ : ByteArray) ++ w).size = 1 + w.size := by rw [sz_app]; rfl
  have z2 : (((⟨#[34]⟩ : ByteArray) ++ w) ++ (⟨#[32]⟩ : ByteArray)).size = 1 + w.size + 1 := by rw [sz_app, z1]; rfl
  have z3 : ((((⟨#[34]⟩ : ByteArray) ++ w) ++ (⟨#[32]⟩ : ByteArray)) ++ d).size = 1 + w.size + 1 + d.size := by rw [sz_app, z2]
  have z4 : (((((⟨#[34]⟩ : ByteArray) ++ w) ++ (⟨#[32]⟩ : ByteArray)) ++ d) ++ (⟨#[34]⟩ : ByteArray)).size = 1 + w.size + 1 + d.size + 1 := by rw [sz_app, z3]; rfl
  have z5 : (w ++ (⟨#[32]⟩ : ByteArray)).size = w.size + 1 := by rw [sz_app]; rfl
  have z6 : (w ++ d).size = w.size + d.size := sz_app _ _
  have e1 : Lx.T 0 (L (w ++ d)) = ([⟨1, L w ++ L d, 0⟩], none) := by rw [L_app]; exact T_word hw hd hwn
  have e2 : Lx.T 0 (L (((((⟨#[34]⟩ : ByteArray) ++ w) ++ (⟨#[32]⟩ : ByteArray)) ++ d) ++ (⟨#[34]⟩ : ByteArray))) = ([⟨3, L w ++ 32 :: L d, 0⟩], none) := by
    have : L (((((⟨#[34]⟩ : ByteArray) ++ w) ++ (⟨#[32]⟩ : ByteArray)) ++ d) ++ (⟨#[34]⟩ : ByteArray)) = 34 :: ((L w ++ 32 :: L d) ++ [34]) := by
      rw [L_app, L_app, L_app, L_app, show L (⟨#[34]⟩ : ByteArray) = [34] from rfl, show L (⟨#[32]⟩ : ByteArray) = [32] from rfl]
      simp [List.append_assoc]
    rw [this]
    refine T_quoted fun b hb => ?_
    rcases List.mem_append.mp hb with hb | hb
    · have := hw b hb; omega
    · rcases List.mem_cons.mp hb with rfl | hb
      · decide
      · have := hd b hb; omega
  rw [tocsinlaw09_LexKinds.l1, if_neg (by omega), if_pos (by omega), all_T _ (by omega), Option.bind_some, if_pos (by omega), if_pos (by omega), if_pos (by omega), if_pos (by omega), all_T _ (by omega), Option.bind_some, e1, e2, outT_none rfl, outT_none rfl]
  simp only [List.map_cons, List.map_nil]
  have r1 : rd_T31 [tokT ⟨1, L w ++ L d, 0⟩] 0 = tokT ⟨1, L w ++ L d, 0⟩ := rfl
  have r2 : rd_T31 [tokT ⟨3, L w ++ 32 :: L d, 0⟩] 0 = tokT ⟨3, L w ++ 32 :: L d, 0⟩ := rfl
  rw [if_pos trivial, if_pos (by rfl), if_pos (by show (0 : Int) < 1; decide), r1, r2]
  have c1 : ((tokT ⟨1, L w ++ L d, 0⟩).f1).toList = (w ++ d).toList := by
    show (⟨(L w ++ L d).toArray⟩ : ByteArray).toList = _
    rw [tlm, tl, L_app]
  have c2 : ((tokT ⟨3, L w ++ 32 :: L d, 0⟩).f1).toList = ((w ++ (⟨#[32]⟩ : ByteArray)) ++ d).toList := by
    show (⟨(L w ++ 32 :: L d).toArray⟩ : ByteArray).toList = _
    rw [tlm, tl, L_app, L_app, List.append_assoc]; rfl
  rw [if_pos (by rw [c1]; simp [tokT]), if_pos trivial, if_pos (by rfl), if_pos (by show (0 : Int) < 1; decide), if_pos (by omega), if_pos (by omega), c2]
  simp [tokT]
theorem l1_loop2 (letters : List Int) (hl : letters.length ≤ 20) (hr : ∀ x ∈ letters, 0 ≤ x ∧ x < 256) (d : ByteArray) (hd : Dig (L d)) (hdn : d.size ≤ 100) (hne : letters ≠ []) : ∀ (m i k : Nat) (w : ByteArray), i + m = letters.length → m + 1 < k → w.size = i → Let (L w) →
    tocsinlaw09_LexKinds.l1 k letters d w (i : Int) = some true
  | 0, i, k, w, hi, hk, hw, hlt => by
    obtain ⟨k, rfl⟩ : ∃ k', k = k' + 1 := ⟨k - 1, by omega⟩
    have : letters.length ≠ 0 := fun e => hne (List.length_eq_zero_iff.mp e)
    exact l1_end letters d w hd hdn hlt (fun e => by have := congrArg List.length e; rw [L_len, List.length_nil] at this; omega) (by omega) k _ (by omega)
  | m + 1, i, k, w, hi, hk, hw, hlt => by
    obtain ⟨k, rfl⟩ : ∃ k', k = k' + 1 := ⟨k - 1, by omega⟩
    have hx : i < letters.length := by omega
    have hrd : rd letters (i : Int) = letters[i]'hx := by unfold rd; rw [Int.toNat_natCast, List.getD_eq_getElem?_getD, List.getElem?_eq_getElem hx]; rfl
    have hv := hr (letters[i]'hx) (List.getElem_mem hx)
    obtain ⟨c, hc⟩ : ∃ c, c = (97 + Int.tmod (letters[i]'hx) 26) % 256 := ⟨_, rfl⟩
    have hcr : 97 ≤ c ∧ c ≤ 122 := by rw [hc, Int.tmod_eq_emod_of_nonneg hv.1]; omega
    have zs : (strOfNums [c]).size = 1 := by rw [strOfNums_size]; rfl
    rw [tocsinlaw09_LexKinds.l1, if_pos (by omega), if_pos (by omega), Option.bind_some, hrd, ← hc, if_pos (by omega), next64 hx (by omega)]
    refine l1_loop2 letters hl hr d hd hdn hne m (i + 1) k _ (by omega) (by omega) (by rw [sz_app]; omega) ?_
    rw [L_app, one_num]
    intro b hb
    rcases List.mem_append.mp hb with hb | hb
    · exact hlt b hb
    · rw [List.mem_singleton.mp hb, toNat_ofNat (by omega)]; omega
theorem l0_end (letters : List Int) (hr : ∀ x ∈ letters, 0 ≤ x ∧ x < 256) (k : Nat) (d : ByteArray) (hs : d.size ≤ 100) (hd : Dig (L d)) (hn : d.size ≠ 0) (hk : 40 ≤ k) :
    tocsinlaw09_LexKinds.l0 k letters d 0 = some true := by
  obtain ⟨k, rfl⟩ : ∃ k', k = k' + 3 := ⟨k - 3, by omega⟩
  have hne : L d ≠ [] := fun e => hn (by rw [← L_len, e]; rfl)
  rw [tocsinlaw09_LexKinds.l0, if_neg (by decide), tl, if_neg hne, all_T d (by omega), Option.bind_some, T_digits hd hne, outT_none rfl]
  simp only [List.map_cons, List.map_nil]
  have r1 : rd_T31 [tokT ⟨2, L d, 0⟩] 0 = tokT ⟨2, L d, 0⟩ := rfl
  have c1 : ((tokT ⟨2, L d, 0⟩).f1).toList = L d := by
    show (⟨(L d).toArray⟩ : ByteArray).toList = _
    rw [tlm]
  rw [if_pos trivial, if_pos (by rfl), if_pos (by show (0 : Int) < 1; decide), r1, c1]
  have e : (!((tokT ⟨2, L d, 0⟩).f0 == 2) || (!(L d == L d) || (!((tokT ⟨2, L d, 0⟩).f2 == 0)))) = false := by simp [tokT]
  rw [e, tocsinlaw09_LexKinds.j1, if_neg (by decide)]
  by_cases h1 : (letters.length : Int) < 1
  · rw [if_pos h1, tocsinlaw09_LexKinds.j2, if_pos rfl]
  rw [if_neg h1]
  by_cases h2 : (letters.length : Int) > 20
  · rw [decide_eq_true h2, tocsinlaw09_LexKinds.j2, if_pos rfl]
  rw [decide_eq_false h2, tocsinlaw09_LexKinds.j2, if_neg (by decide)]
  exact l1_loop2 letters (by omega) hr d hd hs (fun e => h1 (by rw [e]; decide)) letters.length 0 k ⟨#[]⟩ (by omega) (by omega) rfl (fun b hb => by cases hb)
/-- One digit more. -/
theorem dig_more {d : ByteArray} (hd : Dig (L d)) (x : Nat) (hx : x < 18446744073709551616) : ∃ c : Int, (IntKind.u64.wrap (48 + (Int.tmod (x : Int) 10))) % 256 = c ∧ (strOfNums [c] ++ d).size = d.size + 1 ∧ (strOfNums [c]).size = 1 ∧ Dig (L (strOfNums [c] ++ d)) := by
  obtain ⟨c, hc⟩ : ∃ c, c = (IntKind.u64.wrap (48 + (Int.tmod (x : Int) 10))) % 256 := ⟨_, rfl⟩
  have hcr : 48 ≤ c ∧ c ≤ 57 := by
    rw [hc, Int.tmod_eq_emod_of_nonneg (by omega), u64_small (by omega)]; omega
  have zs : (strOfNums [c]).size = 1 := by rw [strOfNums_size]; rfl
  refine ⟨c, hc.symm, by rw [sz_app]; omega, zs, ?_⟩
  rw [L_app, one_num]
  intro b hb
  rcases List.mem_append.mp hb with hb | hb
  · rw [List.mem_singleton.mp hb, toNat_ofNat (by omega)]; omega
  · exact hd b hb
theorem u64_div (x : Nat) (hx : x < 18446744073709551616) : IntKind.u64.wrap (Int.tdiv (x : Int) 10) = ((x / 10 : Nat) : Int) := by
  rw [Int.tdiv_eq_ediv_of_nonneg (by omega), u64_small (by omega)]; omega
theorem l0_digits (letters : List Int) (hr : ∀ x ∈ letters, 0 ≤ x ∧ x < 256) : ∀ (m : Nat) (k : Nat) (d : ByteArray) (x : Nat), x < 18446744073709551616 → x < 10 ^ m → d.size + m ≤ 22 → m + 50 ≤ k → Dig (L d) → (0 < x ∨ d.size ≠ 0) →
    tocsinlaw09_LexKinds.l0 k letters d (x : Int) = some true
  | 0, k, d, x, hx64, hx, hs, hk, hd, h0 => by
    obtain rfl : x = 0 := by simpa using hx
    exact l0_end letters hr k d (by omega) hd (by omega) (by omega)
  | m + 1, k, d, x, hx64, hx, hs, hk, hd, h0 => by
    by_cases hx0 : x = 0
    · subst hx0; exact l0_end letters hr k d (by omega) hd (by omega) (by omega)
    obtain ⟨k, rfl⟩ : ∃ k', k = k' + 1 := ⟨k - 1, by omega⟩
    obtain ⟨c, hc, z1, z2, hdg⟩ := dig_more hd x hx64
    rw [tocsinlaw09_LexKinds.l0, if_pos (by omega), hc, Option.bind_some, if_pos (by omega), u64_div x hx64]
    exact l0_digits letters hr m k _ (x / 10) (by omega) (by rw [Nat.pow_succ] at hx; omega) (by omega) (by omega) hdg (.inr (by omega))
theorem LexKinds : tocsinlaw09_LexKinds.Pure := by
  intro a l ha hm _ hw
  have ha2 : 0 ≤ a ∧ a < 18446744073709551616 := by
    simp [Lit.wf, IntKind.min, IntKind.max, IntKind.bits, IntKind.signed] at ha; omega
  have hr : ∀ x ∈ l, 0 ≤ x ∧ x < 256 := fun x hx => by
    have := hw x hx
    simp [Lit.wf, IntKind.min, IntKind.max, IntKind.bits, IntKind.signed] at this; omega
  obtain ⟨x, rfl⟩ : ∃ x : Nat, a = (x : Int) := ⟨a.toNat, by omega⟩
  refine ⟨101, ?_⟩
  unfold tocsinlaw09_LexKinds.f
  rw [awake_some, Option.bind_some, if_pos rfl]
  have hd0 : Dig (L ⟨#[]⟩) := fun b hb => by cases hb
  by_cases hx0 : x = 0
  · subst hx0
    obtain ⟨c, hc, z1, z2, hdg⟩ := dig_more hd0 0 (by omega)
    have q0 : ((⟨#[]⟩ : ByteArray)).size = 0 := rfl
    rw [tocsinlaw09_LexKinds.l0, if_neg (by decide), tl, if_pos rfl, hc, Option.bind_some, if_pos (by omega), u64_div 0 (by omega)]
    exact l0_end l hr 100 _ (by omega) hdg (by omega) (by omega)
  · have hx20 : x < 10 ^ 20 := by
      have : (18446744073709551616 : Nat) < 10 ^ 20 := by decide
      omega
    exact l0_digits l hr 20 101 ⟨#[]⟩ x (by omega) hx20 (by show 0 + 20 ≤ 22; omega) (by omega) hd0 (.inl (by omega))
end Go.Proofs.Ytpeaepdhnicceaa.Pure
