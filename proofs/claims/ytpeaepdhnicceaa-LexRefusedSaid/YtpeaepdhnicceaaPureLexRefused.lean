/- What is refused stays refused, whatever stands behind a line's end: plain. -/
import Derived.Test.YtpeaepdhnicceaaPAllx7
import Derived.Test.YtpeaepdhnicceaaLxA
namespace Go.Proofs.Ytpeaepdhnicceaa.Pure
open Go.RowKit Go.Proofs.Ytpeaepdhnicceaa.Wk Go.Proofs.Ytpeaepdhnicceaa.PTy Go.Proofs.Ytpeaepdhnicceaa.Given Go.Proofs.Ytpeaepdhnicceaa.PAll Go.Proofs.YtpeaepdhnicceaaW.PrintWords Go.Proofs.YtpeaepdhnicceaaW.PrintLast
theorem cat10 (s t : ByteArray) : L ((s ++ (⟨#[10]⟩ : ByteArray)) ++ t) = L s ++ 10 :: L t := by
  rw [L_app, L_app, List.append_assoc]; rfl
theorem cat10_size (s t : ByteArray) : ((s ++ (⟨#[10]⟩ : ByteArray)) ++ t).size = s.size + 1 + t.size := by
  rw [sz_app, sz_app]; rfl
theorem LexRefused : tocsinlaw09_LexRefused.Pure := by
  intro s t hs ht
  refine ⟨1, ?_⟩
  unfold tocsinlaw09_LexRefused.f
  rw [awake_some, Option.bind_some, if_pos rfl]
  have big : tocsinlaw09_LexRefused.j0 1 s t true = some true := by rw [tocsinlaw09_LexRefused.j0, if_pos rfl]
  by_cases h1 : (s.size : Int) > 2000
  · rw [if_pos h1, big]
  rw [if_neg h1]
  by_cases h2 : (t.size : Int) > 2000
  · rw [decide_eq_true h2, big]
  have z1 : (s ++ (⟨#[10]⟩ : ByteArray)).size = s.size + 1 := by rw [sz_app]; rfl
  have z2 := cat10_size s t
  rw [decide_eq_false h2, tocsinlaw09_LexRefused.j0, if_neg (by decide), all_T s (by omega), Option.bind_some, if_pos (by omega), if_pos (by omega), all_T _ (by omega), Option.bind_some, cat10]
  have hT := Lx.T_app _ 0 (L s) (L t) (Nat.le_refl _)
  cases ho : (Lx.T 0 (L s)).2 with
  | none => rw [outT_none ho, if_pos rfl]
  | some p =>
    rw [ho] at hT
    simp only at hT
    have hp := Lx.T_bad _ 0 (L s) p (Nat.le_refl _) ho
    rw [L_len] at hp
    rw [hT, outT_some ho, if_neg (show ¬ ((90 : Int) = 0) by decide), if_pos rfl, if_pos rfl, decide_eq_true (by show (p : Int) < (s.size : Int); omega)]
end Go.Proofs.Ytpeaepdhnicceaa.Pure
