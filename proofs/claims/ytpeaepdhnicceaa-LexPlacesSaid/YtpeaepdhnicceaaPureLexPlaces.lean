/- Tokens stand one behind the other, each where its text says: plain. -/
import Derived.Test.YtpeaepdhnicceaaPAllx6
import Derived.Test.YtpeaepdhnicceaaLxA
import Derived.Test.YtpeaepdhnicceaaLxF
namespace Go.Proofs.Ytpeaepdhnicceaa.Pure
open Go.RowKit Go.Proofs.Ytpeaepdhnicceaa.Wk Go.Proofs.Ytpeaepdhnicceaa.PTy Go.Proofs.Ytpeaepdhnicceaa.PBase Go.Proofs.Ytpeaepdhnicceaa.Given Go.Proofs.Ytpeaepdhnicceaa.PAll Go.Proofs.YtpeaepdhnicceaaW.PrintWords Go.Proofs.YtpeaepdhnicceaaW.PrintLast
theorem text_le2 {r : List UInt8} (h0 : (Lx.one r).2.2 ≠ 0) : (Lx.one r).2.1.length ≤ r.length := by
  · have h := congrArg List.length (Lx.one_form h0)
    have hl : (r.take (Lx.one r).2.2).length ≤ r.length := by rw [List.length_take]; omega
    have hf : (Lx.one r).2.1.length ≤ (Lx.form (Lx.one r).1 (Lx.one r).2.1).length := by
      unfold Lx.form
      split
      · rw [List.length_cons, List.length_append]
        have key : ∀ l : List UInt8, l.length ≤ (Lx.esc l).length := by
          intro l
          induction l with
          | nil => exact Nat.le_refl _
          | cons b l ih => rw [Lx.esc]; split <;> simp only [List.length_cons] <;> omega
        have := key (Lx.one r).2.1
        omega
      · exact Nat.le_refl _
    omega
theorem places_loop (s : ByteArray) (hs : s.size ≤ 4096) : ∀ (n : Nat) (k b : Nat) (P : List Lx.Tok), s.size - b ≤ n → b ≤ s.size → P.length ≤ b → s.size + 20 + 3 * n ≤ k → (Lx.T b ((L s).drop b)).2 = none →
    tocsinlaw09_LexPlaces.l0 k s ((P ++ (Lx.T b ((L s).drop b)).1).map tokT) 0 (b : Int) (P.length : Int) = some true
  | n, k, b, P, hn, hb, hP, hk, ho => by
    obtain ⟨k, rfl⟩ : ∃ k', k = k' + 4 := ⟨k - 4, by omega⟩
    have hlen : ((L s).drop b).length = s.size - b := by rw [List.length_drop, L_len]
    have hskb : Lx.betw false (((L s).drop b).take (Lx.skip false ((L s).drop b))) = true := Lx.betw_skip false _
    have hlen2 : (((L s).drop b).drop (Lx.skip false ((L s).drop b))).length = s.size - b - Lx.skip false ((L s).drop b) := by rw [List.length_drop, hlen]
    rcases Lx.T_cases b ((L s).drop b) with ⟨h1, h2⟩ | ⟨h1, h2, h3⟩ | ⟨h1, h2, h3⟩
    · rw [h2, List.append_nil]
      rw [tocsinlaw09_LexPlaces.l0, List.length_map, if_pos (by omega), if_neg (by omega), tocsinlaw09_LexPlaces.j1, if_neg (by omega), if_pos (by omega), if_pos (by omega), if_pos (by omega)]
      rw [Int.toNat_natCast, Int.toNat_natCast]
      have hbt : tocsinlaw09_between.f (k + 2) (s.extract b s.size) = some true := by
        apply between_some
        · rw [ByteArray.size_extract]; omega
        · rw [ByteArray.size_extract]; omega
        · rw [L_extract, ← hlen, ← h1]; exact hskb
      rw [hbt, Option.bind_some, tocsinlaw09_LexPlaces.j2, if_neg (by decide), List.length_map, if_neg (by omega)]
      rw [w64 (by omega) (by omega), tocsinlaw09_LexPlaces.l0, List.length_map, if_neg (by omega)]
      rfl
    · rw [h3] at ho; cases ho
    · obtain ⟨sk, hsk⟩ : ∃ sk, sk = Lx.skip false ((L s).drop b) := ⟨_, rfl⟩
      rw [← hsk] at h1 h2 h3 hskb hlen2
      obtain ⟨r, hr⟩ : ∃ r, r = ((L s).drop b).drop sk := ⟨_, rfl⟩
      rw [← hr] at h2 h3 hlen2
      have hr2 : r = (L s).drop (b + sk) := by rw [hr, List.drop_drop]
      have hol := Lx.one_len r
      obtain ⟨m, hm⟩ : ∃ m, m = (Lx.one r).2.2 := ⟨_, rfl⟩
      have hform := Lx.one_form h2
      have htl := text_le2 h2
      have hkd := Lx.one_kind2 h2
      rw [← hm] at h2 h3 hol hform
      have hrd : r.drop m = (L s).drop (b + sk + m) := by rw [hr2, List.drop_drop]
      rw [hrd] at h3
      rw [h3] at ho
      have ho' : (Lx.T (b + sk + m) ((L s).drop (b + sk + m))).2 = none := ho
      obtain ⟨x, hx⟩ : ∃ x : Lx.Tok, x = ⟨(Lx.one r).1, (Lx.one r).2.1, b + sk⟩ := ⟨_, rfl⟩
      rw [h3, ← hx]
      obtain ⟨R, hR⟩ : ∃ R, R = (Lx.T (b + sk + m) ((L s).drop (b + sk + m))).1 := ⟨_, rfl⟩
      have hXl : ((P ++ x :: R).map tokT).length = P.length + (R.length + 1) := by simp
      cases n with
      | zero => omega
      | succ n =>
        have ih := places_loop s hs n (k + 1) (b + sk + m) (P ++ [x]) (by omega) (by omega) (by rw [List.length_append]; simp; omega) (by omega) ho'
        rw [← hR, List.append_assoc, List.singleton_append, List.length_append, show [x].length = 1 from rfl] at ih
        show tocsinlaw09_LexPlaces.l0 (k + 4) s ((P ++ x :: (Lx.T (b + sk + m) ((L s).drop (b + sk + m))).1).map tokT) 0 (b : Int) (P.length : Int) = some true
        rw [← hR]
        have hrd0 : rd_T31 ((P ++ x :: R).map tokT) (P.length : Int) = tokT x := by
          rw [rd_tok _ _ (by simp)]
          congr 1
          simp
        have e2 : (tokT x).f2 = ((b + sk : Nat) : Int) := by rw [hx]; rfl
        have e0 : (tokT x).f0 = ((Lx.one r).1 : Int) := by rw [hx]; rfl
        have e1 : (tokT x).f1 = ⟨(Lx.one r).2.1.toArray⟩ := by rw [hx]; rfl
        have e1z : ((⟨(Lx.one r).2.1.toArray⟩ : ByteArray)).size = (Lx.one r).2.1.length := by show (List.toArray _).size = _; simp
        rw [tocsinlaw09_LexPlaces.l0, hXl, if_pos (by omega), if_pos (by omega), if_pos (by omega), hrd0, e2, tocsinlaw09_LexPlaces.j1, if_neg (by omega), if_pos (by omega), if_pos (by omega), if_pos (by omega), Int.toNat_natCast, Int.toNat_natCast]
        have hbt : tocsinlaw09_between.f (k + 2) (s.extract b (b + sk)) = some true := by
          apply between_some
          · rw [ByteArray.size_extract]; omega
          · rw [ByteArray.size_extract]; omega
          · rw [L_extract, show b + sk - b = sk from by omega]; exact hskb
        rw [hbt, Option.bind_some, tocsinlaw09_LexPlaces.j2, if_neg (by decide), hXl, if_pos (by omega), if_pos (by omega), hrd0, e0, e1]
        rw [form_some _ (by rw [e1z]; omega) (by rw [e1z]; omega), Option.bind_some]
        have eL : L (⟨(Lx.one r).2.1.toArray⟩ : ByteArray) = (Lx.one r).2.1 := rfl
        rw [eL, hform]
        have hsz : ((⟨(r.take m).toArray⟩ : ByteArray)).size = m := by
          show (List.toArray (r.take m)).size = m
          rw [List.size_toArray, List.length_take]; omega
        rw [if_neg (by omega), if_neg (by omega), hsz]
        rw [w64 (n := (s.size : Int) - ((b + sk : Nat) : Int)) (by omega) (by omega), if_neg (by omega), if_pos (by omega)]
        rw [show wrap64 (((b + sk : Nat) : Int) + (m : Int)) = ((b + sk + m : Nat) : Int) from by rw [w64 (by omega) (by omega)]; omega]
        rw [if_pos (by omega), if_pos (by omega), Int.toNat_natCast, Int.toNat_natCast, tl, tl, L_extract, ← hr2, show b + sk + m - (b + sk) = m from by omega]
        rw [if_pos rfl, if_neg (by
          intro e
          have := congrArg List.length e
          have h5 : L (⟨(r.take m).toArray⟩ : ByteArray) = r.take m := rfl
          rw [h5, List.length_take, List.length_nil] at this
          omega)]
        rw [show wrap64 ((P.length : Int) + 1) = ((P.length + 1 : Nat) : Int) from by rw [w64 (by omega) (by omega)]; omega]
        exact ih
theorem LexPlaces : tocsinlaw09_LexPlaces.Pure := by
  intro s hs
  refine ⟨100000, ?_⟩
  unfold tocsinlaw09_LexPlaces.f
  rw [awake_some, Option.bind_some, if_pos rfl]
  by_cases h1 : (s.size : Int) > 5000
  · rw [if_pos h1]
  rw [if_neg h1]
  by_cases h2 : 4096 < s.size
  · rw [all_long s h2 hs, Option.bind_some, if_neg (by decide), if_pos (by rfl), decide_eq_true (by omega), if_pos (by rfl), if_pos (by decide), decide_eq_true (by show (0 : Int) ≤ _; omega)]
  · rw [all_T s (by omega), Option.bind_some]
    cases ho : (Lx.T 0 (L s)).2 with
    | none =>
      rw [outT_none ho, if_pos rfl]
      have := places_loop s (by omega) s.size 100000 0 [] (by omega) (by omega) (Nat.le_refl _) (by omega) (by rw [List.drop_zero]; exact ho)
      rw [List.drop_zero, List.nil_append] at this
      exact this
    | some p =>
      have hp := Lx.T_bad _ 0 (L s) p (Nat.le_refl _) ho
      rw [L_len] at hp
      rw [outT_some ho, if_neg (show ¬ ((90 : Int) = 0) by decide), if_pos (by rfl), decide_eq_false (by omega), if_pos (by rfl), if_pos (by show (p : Int) ≥ 0; omega), decide_eq_true (by show (p : Int) ≤ _; omega)]
end Go.Proofs.Ytpeaepdhnicceaa.Pure
