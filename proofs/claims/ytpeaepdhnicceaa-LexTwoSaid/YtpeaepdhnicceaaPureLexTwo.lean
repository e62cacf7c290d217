/- Of two texts that have tokens, with a line's end between, the tokens are those of both: plain. -/
import Derived.Test.YtpeaepdhnicceaaPAllx4
import Derived.Test.YtpeaepdhnicceaaLxA
namespace Go.Proofs.Ytpeaepdhnicceaa.Pure
open Go.RowKit Go.Proofs.Ytpeaepdhnicceaa.Wk Go.Proofs.Ytpeaepdhnicceaa.PTy Go.Proofs.Ytpeaepdhnicceaa.Given Go.Proofs.Ytpeaepdhnicceaa.PAll Go.Proofs.YtpeaepdhnicceaaW.PrintWords Go.Proofs.YtpeaepdhnicceaaW.PrintLast
theorem cat10b (s t : ByteArray) : L ((s ++ (⟨#[10]⟩ : ByteArray)) ++ t) = L s ++ 10 :: L t := by
  rw [L_app, L_app, List.append_assoc]; rfl
theorem cat10b_size (s t : ByteArray) : ((s ++ (⟨#[10]⟩ : ByteArray)) ++ t).size = s.size + 1 + t.size := by
  rw [sz_app, sz_app]; rfl
theorem two_loop (s : ByteArray) (X Y : List Lx.Tok) (hs : s.size ≤ 2000) (hX : X.length ≤ 5000) (hY : Y.length ≤ 5000) (hat : ∀ y ∈ Y, y.at' ≤ 5000) : ∀ (m k i : Nat), i + m = X.length + Y.length → m < k →
    tocsinlaw09_LexTwo.l0 k s (X.map tokT) (Y.map tokT) ((X ++ Y.map (Lx.mv (s.size + 1))).map tokT) (i : Int) = some true
  | _, 0, _, _, h => by omega
  | m, k + 1, i, hi, hk => by
    have hl : ((X ++ Y.map (Lx.mv (s.size + 1))).map tokT).length = X.length + Y.length := by simp
    rw [tocsinlaw09_LexTwo.l0, hl, List.length_map, List.length_map]
    cases m with
    | zero => rw [if_neg (by omega)]
    | succ m =>
      have ih := two_loop s X Y hs hX hY hat m k (i + 1) (by omega) (by omega)
      rw [if_pos (by omega), show wrap64 ((i : Int) + 1) = ((i + 1 : Nat) : Int) from by rw [w64 (by omega) (by omega)]; omega]
      by_cases hx : i < X.length
      · rw [if_pos (by omega), if_pos (by omega), rd_tok _ i (by simp; omega), rd_tok X i hx, List.getElem_append_left hx, if_neg (by simp)]
        exact ih
      · have hj : i - X.length < Y.length := by omega
        have e0 : wrap64 ((i : Int) - (X.length : Int)) = ((i - X.length : Nat) : Int) := by rw [w64 (by omega) (by omega)]; omega
        have hyat := hat (Y[i - X.length]'hj) (List.getElem_mem hj)
        rw [if_neg (by omega), e0, if_pos (by omega), if_pos (by omega), if_pos (by omega), rd_tok _ i (by simp; omega), rd_tok Y _ hj, List.getElem_append_right (by omega), List.getElem_map]
        have e1 : (tokT (Lx.mv (s.size + 1) (Y[i - X.length]'hj))).f2 = wrap64 (wrap64 ((tokT (Y[i - X.length]'hj)).f2 + (s.size : Int)) + 1) := by
          show (((Y[i - X.length]'hj).at' + (s.size + 1) : Nat) : Int) = wrap64 (wrap64 (((Y[i - X.length]'hj).at' : Int) + (s.size : Int)) + 1)
          rw [w64 (n := ((Y[i - X.length]'hj).at' : Int) + (s.size : Int)) (by omega) (by omega), w64 (by omega) (by omega)]; omega
        have e2 : (tokT (Lx.mv (s.size + 1) (Y[i - X.length]'hj))).f0 = (tokT (Y[i - X.length]'hj)).f0 := rfl
        have e3 : (tokT (Lx.mv (s.size + 1) (Y[i - X.length]'hj))).f1 = (tokT (Y[i - X.length]'hj)).f1 := rfl
        rw [e1, e2, e3, if_neg (by simp)]
        exact ih
theorem LexTwo : tocsinlaw09_LexTwo.Pure := by
  intro s t hs ht
  refine ⟨20000, ?_⟩
  unfold tocsinlaw09_LexTwo.f
  rw [awake_some, Option.bind_some, if_pos rfl]
  have big : tocsinlaw09_LexTwo.j0 20000 s t true = some true := by rw [tocsinlaw09_LexTwo.j0, if_pos rfl]
  by_cases h1 : (s.size : Int) > 2000
  · rw [if_pos h1, big]
  rw [if_neg h1]
  by_cases h2 : (t.size : Int) > 2000
  · rw [decide_eq_true h2, big]
  have z1 : (s ++ (⟨#[10]⟩ : ByteArray)).size = s.size + 1 := by rw [sz_app]; rfl
  have z2 := cat10b_size s t
  rw [decide_eq_false h2, tocsinlaw09_LexTwo.j0, if_neg (by decide), all_T s (by omega), Option.bind_some, all_T t (by omega), Option.bind_some]
  cases ho : (Lx.T 0 (L s)).2 with
  | some p => rw [outT_some ho, if_neg (show ¬ ((90 : Int) = 0) by decide), tocsinlaw09_LexTwo.j1, if_pos rfl]
  | none =>
    rw [outT_none ho, if_pos rfl]
    cases hu : (Lx.T 0 (L t)).2 with
    | some p => rw [outT_some hu, show ((90 : Int) != 0) = true from rfl, tocsinlaw09_LexTwo.j1, if_pos rfl]
    | none =>
      have hT := Lx.T_app _ 0 (L s) (L t) (Nat.le_refl _)
      rw [ho] at hT
      simp only at hT
      have hS := Lx.T_shift _ 0 ((L s).length + 1) (L t) (Nat.le_refl _)
      rw [← Nat.add_assoc] at hS
      rw [hS, hu, L_len] at hT
      have c1 := T_count _ 0 (L s) (Nat.le_refl _)
      have c2 := T_count _ 0 (L t) (Nat.le_refl _)
      rw [L_len] at c1 c2
      rw [outT_none hu, show ((0 : Int) != 0) = false from rfl, tocsinlaw09_LexTwo.j1, if_neg (by decide), if_pos (by omega), if_pos (by omega), all_T _ (by omega), Option.bind_some, cat10b, hT, outT_none rfl, if_pos rfl]
      simp only
      rw [show ((((Lx.T 0 (L s)).1 ++ (Lx.T 0 (L t)).1.map (Lx.mv (s.size + 1))).map tokT).length : Int) = ((Lx.T 0 (L s)).1.length : Int) + ((Lx.T 0 (L t)).1.length : Int) from by simp]
      rw [List.length_map, List.length_map, w64 (by omega) (by omega), bne_self_eq_false, tocsinlaw09_LexTwo.j2, if_neg (by decide)]
      exact two_loop s _ _ (by omega) (by omega) (by omega) (fun y hy => by have := T_at _ 0 (L t) (Nat.le_refl _) y hy; rw [L_len] at this; omega) ((Lx.T 0 (L s)).1.length + (Lx.T 0 (L t)).1.length) _ 0 (by omega) (by omega)
end Go.Proofs.Ytpeaepdhnicceaa.Pure
