/- What the law's own between and form tell, over lists of bytes. -/
import Derived.Test.YtpeaepdhnicceaaPBasex1
import Derived.Test.YtpeaepdhnicceaaLxQ
namespace Go.Proofs.Ytpeaepdhnicceaa.Pure
open Go.RowKit Go.Proofs.Ytpeaepdhnicceaa.Wk Go.Proofs.Ytpeaepdhnicceaa.PTy Go.Proofs.Ytpeaepdhnicceaa.PBase Go.Proofs.YtpeaepdhnicceaaW.PrintWords
theorem L_ext {s t : ByteArray} (h : L s = L t) : s = t := by
  exact ByteArray.ext (Array.toList_inj.mp h)
theorem L_extract (s : ByteArray) (i j : Nat) : L (s.extract i j) = ((L s).drop i).take (j - i) := by
  show (s.extract i j).data.toList = _
  rw [ByteArray.data_extract, Array.toList_extract]
theorem next64 {i n : Nat} (h : i < n) (hn : n ≤ 1000000000) : wrap64 ((i : Int) + 1) = ((i + 1 : Nat) : Int) := by rw [w64 (by omega) (by omega)]; omega
theorem between_loop (s : ByteArray) (hs : s.size ≤ 1000000) : ∀ (m k i : Nat) (st : Bool), i + m = s.size → m < k → Lx.betw st ((L s).drop i) = true → tocsinlaw09_between.l0 k s st (i : Int) = some true
  | _, 0, _, _, _, h, _ => by omega
  | 0, k + 1, i, st, hi, _, _ => by rw [tocsinlaw09_between.l0, if_neg (by omega)]
  | m + 1, k + 1, i, st, hi, hk, hb => by
    have hlt : i < s.size := by omega
    have hd := L_drop hlt
    have hn := next64 hlt (by omega)
    have ih := fun st' => between_loop s hs m k (i + 1) st' (by omega) (by omega)
    rw [tocsinlaw09_between.l0, if_pos (by omega), if_pos (by omega), bt_nat hlt, hn]
    rw [hd] at hb
    cases st with
    | true =>
      rw [if_pos rfl]
      rw [Lx.betw] at hb
      have e : ((s[i].toNat : Int) != 10) = Lx.noEnd s[i] := by
        unfold Lx.noEnd
        by_cases h : s[i].toNat = 10
        · rw [decide_eq_false (by omega), h]; rfl
        · rw [decide_eq_true h]; exact bne_iff_ne.mpr (by omega)
      rw [e]
      exact ih _ hb
    | false =>
      rw [if_neg (by decide)]
      rw [Lx.betw] at hb
      by_cases h35 : s[i].toNat = 35
      · rw [if_pos h35] at hb
        rw [if_pos (by omega)]
        exact ih _ hb
      · rw [if_neg h35] at hb
        rw [if_neg (by omega)]
        by_cases hbl : Lx.blank s[i] = true
        · rw [if_pos hbl] at hb
          have ih' := ih false hb
          unfold Lx.blank at hbl
          simp only [Bool.or_eq_true, decide_eq_true_eq] at hbl
          by_cases h1 : s[i].toNat = 32
          · rw [if_pos (by omega)]; exact ih'
          rw [if_neg (by omega)]
          by_cases h2 : s[i].toNat = 9
          · rw [if_pos (by omega)]; exact ih'
          rw [if_neg (by omega)]
          by_cases h3 : s[i].toNat = 10
          · rw [if_pos (by omega)]; exact ih'
          rw [if_neg (by omega), if_pos (by omega)]; exact ih'
        · rw [if_neg hbl] at hb; cases hb
theorem between_some {s : ByteArray} (hs : s.size ≤ 1000000) {k : Nat} (hk : s.size < k) (h : Lx.betw false (L s) = true) : tocsinlaw09_between.f k s = some true := by
  unfold tocsinlaw09_between.f
  exact between_loop s hs s.size k 0 false (by omega) hk (by rw [List.drop_zero]; exact h)
theorem one_byte {s : ByteArray} {i : Nat} (h : i < s.size) : s.extract i (i + 1) = ⟨#[s[i]]⟩ := by
  apply L_ext
  rw [L_extract, L_drop h, show i + 1 - i = 1 from by omega]; rfl
theorem esc_len (l : List UInt8) : (Lx.esc l).length ≤ 2 * l.length := by
  induction l with
  | nil => exact Nat.le_refl _
  | cons b l ih =>
    rw [Lx.esc]
    split <;> simp only [List.length_cons] <;> omega
theorem form_loop (s : ByteArray) (a b : Int) (hs : s.size ≤ 1000000) : ∀ (m k i : Nat) (acc : ByteArray), i + m = s.size → m < k → acc.size ≤ 2 * i + 1 → tocsinlaw09_form.l0 k acc (i : Int) a s b = some ⟨(L acc ++ (Lx.esc ((L s).drop i) ++ [34])).toArray⟩
  | _, 0, _, _, _, h, _ => by omega
  | 0, k + 1, i, acc, hi, _, ha => by
    rw [tocsinlaw09_form.l0, if_neg (by omega), if_pos (by omega), L_end (by omega), Lx.esc]
    exact congrArg some (L_ext (by rw [L_app]; rfl))
  | m + 1, k + 1, i, acc, hi, hk, ha => by
    have hlt : i < s.size := by omega
    have hd := L_drop hlt
    have hn := next64 hlt (by omega)
    have z1 : ((⟨#[92]⟩ : ByteArray)).size = 1 := rfl
    have z2 : ((⟨#[s[i]]⟩ : ByteArray)).size = 1 := rfl
    rw [tocsinlaw09_form.l0, if_pos (by omega), if_pos (by omega), bt_nat hlt, hn, Int.toNat_natCast, Int.toNat_natCast, one_byte hlt, hd, Lx.esc]
    by_cases he : s[i].toNat = 34 ∨ s[i].toNat = 92
    · have zz : (acc ++ (⟨#[92]⟩ : ByteArray)).size = acc.size + 1 := by rw [sz_app]; rfl
      have zy : ((acc ++ (⟨#[92]⟩ : ByteArray)) ++ (⟨#[s[i]]⟩ : ByteArray)).size = acc.size + 2 := by rw [sz_app, zz]; rfl
      have ih := form_loop s a b hs m k (i + 1) ((acc ++ (⟨#[92]⟩ : ByteArray)) ++ (⟨#[s[i]]⟩ : ByteArray)) (by omega) (by omega) (by omega)
      have fin : L ((acc ++ (⟨#[92]⟩ : ByteArray)) ++ (⟨#[s[i]]⟩ : ByteArray)) ++ (Lx.esc ((L s).drop (i + 1)) ++ [34]) = L acc ++ (92 :: s[i] :: Lx.esc ((L s).drop (i + 1)) ++ [34]) := by
        rw [L_app, L_app, show L (⟨#[92]⟩ : ByteArray) = [92] from rfl, show L (⟨#[s[i]]⟩ : ByteArray) = [s[i]] from rfl]
        simp [List.append_assoc]
      rw [if_pos he]
      rw [fin] at ih
      by_cases h34 : s[i].toNat = 34
      · rw [if_pos (by omega), if_pos (by omega), if_pos (by omega), if_pos (by omega), if_pos (by omega)]; exact ih
      · rw [if_neg (by omega), if_pos (by omega), if_pos (by omega), if_pos (by omega), if_pos (by omega), if_pos (by omega)]; exact ih
    · have zy : (acc ++ (⟨#[s[i]]⟩ : ByteArray)).size = acc.size + 1 := by rw [sz_app]; rfl
      have ih := form_loop s a b hs m k (i + 1) (acc ++ (⟨#[s[i]]⟩ : ByteArray)) (by omega) (by omega) (by omega)
      have fin : L (acc ++ (⟨#[s[i]]⟩ : ByteArray)) ++ (Lx.esc ((L s).drop (i + 1)) ++ [34]) = L acc ++ (s[i] :: Lx.esc ((L s).drop (i + 1)) ++ [34]) := by
        rw [L_app, show L (⟨#[s[i]]⟩ : ByteArray) = [s[i]] from rfl]
        simp [List.append_assoc]
      rw [if_neg he]
      rw [fin] at ih
      rw [if_neg (by omega), if_neg (by omega), if_pos (by omega), if_pos (by omega), if_pos (by omega)]; exact ih
theorem form_some {kd : Nat} {s : ByteArray} (b : Int) (hs : s.size ≤ 1000000) {k : Nat} (hk : s.size < k) : tocsinlaw09_form.f k (kd : Int) s b = some ⟨(Lx.form kd (L s)).toArray⟩ := by
  unfold tocsinlaw09_form.f Lx.form
  by_cases h : kd = 3
  · have := form_loop s (kd : Int) b hs s.size k 0 ⟨#[34]⟩ (by omega) hk (by show 1 ≤ _; omega)
    rw [if_pos (by omega), if_pos h]
    rw [show ((0 : Nat) : Int) = 0 from rfl] at this
    rw [this, List.drop_zero]; rfl
  · rw [if_neg (by omega), if_neg h]
end Go.Proofs.Ytpeaepdhnicceaa.Pure
