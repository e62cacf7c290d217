/- What the reference of lex tells of a whole text: plain. -/
import Derived.Test.YtpeaepdhnicceaaRefM
namespace Go.Proofs.Ytpeaepdhnicceaa.Pure
open Go.RowKit Go.Proofs.Ytpeaepdhnicceaa.Wk Go.Proofs.Ytpeaepdhnicceaa.PTy Go.Proofs.Ytpeaepdhnicceaa.PRef Go.Proofs.YtpeaepdhnicceaaW.PrintWords
abbrev Out := Int × ByteArray × Int × Int
/-- The state of the search: nothing yet, or a beginning of so many bytes. -/
def stT (l : List UInt8) (o : Nat) : ByteArray := if o = 0 then ⟨#[]⟩ else ⟨(l.take o).toArray⟩
def stK (o kk : Nat) : Int := if o = 0 then 0 else (kk : Int)
def stA (b o : Nat) : Int := if o = 0 then 0 else (b : Int)
def stE (b o : Nat) : Int := if o = 0 then 0 else ((b + o : Nat) : Int)
def outR (l : List UInt8) (b : Nat) (q : Nat × Nat) : Out := (stK q.2 q.1, stT l q.2, stA b q.2, stE b q.2)
theorem longest_loop (s : ByteArray) (hs : s.size ≤ 100000) (b : Nat) (hb : b ≤ s.size) : ∀ (m k e o kk : Nat), s.size + 2 ≤ b + e + m → m + 2 * s.size + 40 ≤ k → 1 ≤ e → o < e → (o ≠ 0 → 0 < kk) →
    tocsinref09_longest.l0 k s (b : Int) ((b + e : Nat) : Int) (stK o kk) (stT ((L s).drop b) o) (stA b o) (stE b o) = some (outR ((L s).drop b) b (lp ((L s).drop b) (m + 1) e o kk))  := by
  intro m
  have hlen : ((L s).drop b).length = s.size - b := by rw [List.length_drop, L_len]
  induction m with
  | zero =>
    intro k e o kk hm hk he ho hkk
    obtain ⟨k, rfl⟩ : ∃ k', k = k' + 1 := ⟨k - 1, by omega⟩
    rw [tocsinref09_longest.l0, lp, hlen, if_neg (show ¬ (((b + e : Nat) : Int) ≤ (s.size : Int)) by omega), if_neg (show ¬ (e ≤ s.size - b) by omega)]; rfl
  | succ m ih0 =>
    intro k e o kk hm hk he ho hkk
    obtain ⟨k, rfl⟩ : ∃ k', k = k' + 1 := ⟨k - 1, by omega⟩
    rw [tocsinref09_longest.l0, lp, hlen]
    by_cases hle : b + e ≤ s.size
    · skip
      have hz : (s.extract b (b + e)).size ≤ s.size := by rw [ByteArray.size_extract]; omega
      have hL : L (s.extract b (b + e)) = ((L s).drop b).take e := by rw [L_extract, show b + e - b = e from by omega]
      have hx : s.extract b (b + e) = ⟨(((L s).drop b).take e).toArray⟩ := L_ext hL
      have h1 : Aside0 (wrap64 (((b + e : Nat) : Int) + 1) = ((b + (e + 1) : Nat) : Int)) := Aside0.mk (by rw [w64 (by omega) (by omega)]; omega)
      have h2 : Aside0 (wrap64 ((b : Int) + 2) = ((b + 2 : Nat) : Int)) := Aside0.mk (by rw [w64 (by omega) (by omega)]; omega)
      have hkind := kind_some (s.extract b (b + e)) (by omega) (k := k) (by omega)
      rw [hL] at hkind
      (with_reducible rw [if_pos (show ((b + e : Nat) : Int) ≤ (s.size : Int) by omega), if_pos (show (0 : Int) ≤ (b : Int) by omega), if_pos (show (b : Int) ≤ ((b + e : Nat) : Int) by omega), if_pos (show e ≤ s.size - b by omega)])
      rw [Int.toNat_natCast, Int.toNat_natCast]
      rw [hkind, Option.bind_some]
      rw [h1.out, h2.out]
      clear h1 h2 hkind
      by_cases hK : 0 < kindL (((L s).drop b).take e)
      · have ih := ih0 k (e + 1) e (kindL (((L s).drop b).take e)) (by omega) (by omega) (by omega) (by omega) (fun _ => hK)
        have e1 : stK e (kindL (((L s).drop b).take e)) = (kindL (((L s).drop b).take e) : Int) := by unfold stK; (with_reducible rw [if_neg (by omega)])
        have e2 : stT ((L s).drop b) e = s.extract b (b + e) := by unfold stT; (with_reducible rw [if_neg (by omega), hx])
        have e3 : stA b e = (b : Int) := by unfold stA; (with_reducible rw [if_neg (by omega)])
        have e4 : stE b e = ((b + e : Nat) : Int) := by unfold stE; (with_reducible rw [if_neg (by omega)])
        rw [e1, e2, e3, e4] at ih
        have c0 : ¬ kindL (((L s).drop b).take e) = 0 := by omega
        (with_reducible rw [if_neg c0, if_pos hK])
        simp only
        (with_reducible rw [if_pos (show ((kindL (((L s).drop b).take e) : Nat) : Int) > 0 by omega), if_neg (show ¬ (((b + e : Nat) : Int) > ((b + (e + 1) : Nat) : Int)) by omega), if_neg (show ¬ (((kindL (((L s).drop b).take e) : Nat) : Int) = 0) by omega)])
        exact ih
      · have ih := ih0 k (e + 1) o kk (by omega) (by omega) (by omega) (by omega) hkk
        simp only
        (with_reducible rw [if_neg (show ¬ (((kindL (((L s).drop b).take e) : Nat) : Int) > 0) by omega), if_neg hK])
        by_cases ho0 : o = 0
        · subst ho0
          have e1 : stK 0 kk = 0 := rfl
          rw [e1] at ih ⊢
          (with_reducible rw [if_neg (show ¬ ((0 : Int) > 0) by decide), if_pos (show (0 : Int) = 0 from rfl)])
          by_cases h3 : 2 < e
          · (with_reducible rw [if_pos (show ((b + e : Nat) : Int) > ((b + 2 : Nat) : Int) by omega), if_pos (show (0 < 0 ∧ 0 + 1 < e) ∨ (0 = 0 ∧ 2 < e) by omega)]); rfl
          · (with_reducible rw [if_neg (show ¬ (((b + e : Nat) : Int) > ((b + 2 : Nat) : Int)) by omega), if_neg (show ¬ ((0 < 0 ∧ 0 + 1 < e) ∨ (0 = 0 ∧ 2 < e)) by omega)]); exact ih
        · have e1 : stK o kk = (kk : Int) := by unfold stK; (with_reducible rw [if_neg ho0])
          have e4 : stE b o = ((b + o : Nat) : Int) := by unfold stE; (with_reducible rw [if_neg ho0])
          have hkk' := hkk ho0
          have h5 : Aside0 (wrap64 (stE b o + 1) = ((b + o + 1 : Nat) : Int)) := Aside0.mk (by rw [e4, w64 (by omega) (by omega)]; omega)
          have p1 : stK o kk > 0 := by rw [e1]; omega
          have p2 : ¬ (stK o kk = 0) := by rw [e1]; omega
          (with_reducible rw [if_pos p1, h5.out])
          by_cases h3 : o + 1 < e
          · (with_reducible rw [if_pos (show ((b + e : Nat) : Int) > ((b + o + 1 : Nat) : Int) by omega), if_pos (show (0 < o ∧ o + 1 < e) ∨ (o = 0 ∧ 2 < e) by omega)]); rfl
          · (with_reducible rw [if_neg (show ¬ (((b + e : Nat) : Int) > ((b + o + 1 : Nat) : Int)) by omega), if_neg p2, if_neg (show ¬ ((0 < o ∧ o + 1 < e) ∨ (o = 0 ∧ 2 < e)) by omega)])
            exact ih
    · (with_reducible rw [if_neg (show ¬ (((b + e : Nat) : Int) ≤ (s.size : Int)) by omega), if_neg (show ¬ (e ≤ s.size - b) by omega)]); rfl
end Go.Proofs.Ytpeaepdhnicceaa.Pure
