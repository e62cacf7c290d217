/- Samples whose minutes rise: plain. -/
import Derived.Test.YtcaagnfhefkoiaaAwk
namespace Go.Proofs.Ytcaagnfhefkoiaa.Rg
open Go.RowKit Go.Proofs.Ytcaagnfhefkoiaa.PBase Go.Proofs.YtcaagnfhefkoiaaW.PrintWords
/-- The minutes rise, and none is above t. -/
structure Rise (l : List S29) (t : Int) : Prop where
  sorted : l.Pairwise fun x y => x.f0 ≤ y.f0
  le : ∀ x ∈ l, x.f0 ≤ t
theorem Rise.mono {l : List S29} {t u : Int} (h : Rise l t) (htu : t ≤ u) : Rise l u := ⟨h.sorted, fun x hx => by have := h.le x hx; omega⟩
theorem Rise.nil (t : Int) : Rise [] t := ⟨.nil, fun x hx => by cases hx⟩
theorem Rise.snoc {l : List S29} {t : Int} (h : Rise l t) {x : S29} (hx : x.f0 = t) : Rise (l ++ [x]) t := by
  refine ⟨List.pairwise_append.2 ⟨h.sorted, by simp, fun a ha b hb => ?_⟩, fun y hy => ?_⟩
  · simp at hb; subst hb; have := h.le a ha; omega
  · rcases List.mem_append.1 hy with hy | hy
    · exact h.le y hy
    · simp at hy; subst hy; omega
theorem late_no {l : List S29} {x : S29} (h : ∀ y ∈ l, y.f0 ≤ x.f0) : late l x = false := by
  unfold late
  cases hl : l.getLast? with
  | none => rfl
  | some y =>
    have := h y (List.mem_of_getLast? hl)
    simp; omega
theorem push_ok {l : List S29} {x : S29} (hb : ¬ badS x) (h : ∀ y ∈ l, y.f0 ≤ x.f0) (hl : l.length < 32) : pushF l x = (0, l ++ [x]) := by
  unfold pushF
  rw [if_neg hb, if_neg (by rw [late_no h]; simp), if_neg (by omega)]
theorem push_full {l : List S29} {x : S29} (hb : ¬ badS x) (h : ∀ y ∈ l, y.f0 ≤ x.f0) (hl : l.length = 32) : pushF l x = (4, l) := by
  unfold pushF
  rw [if_neg hb, if_neg (by rw [late_no h]; simp), if_pos hl]
/-- Of rising minutes what is old stands first. -/
theorem exp_filter {l : List S29} (h : l.Pairwise fun x y => x.f0 ≤ y.f0) (t : Int) : expF l t = l.filter fun x => decide (t < x.f0) := by
  induction l with
  | nil => rfl
  | cons x l ih =>
    rw [List.pairwise_cons] at h
    unfold expF
    by_cases hx : x.f0 ≤ t
    · rw [List.dropWhile_cons_of_pos (by simpa using hx), List.filter_cons_of_neg (by simp; omega)]
      exact ih h.2
    · rw [List.dropWhile_cons_of_neg (by simpa using hx), List.filter_cons_of_pos (by simp; omega)]
      congr 1
      exact (List.filter_eq_self.2 (fun y hy => by have := h.1 y hy; simp; omega)).symm
theorem count_exp (l : List S29) (h : l.Pairwise fun x y => x.f0 ≤ y.f0) (t : Int) : (l.filter fun x => decide (x.f0 ≤ t)).length = l.length - (expF l t).length := by
  rw [exp_filter h]
  have : ∀ l : List S29, (l.filter fun x => decide (x.f0 ≤ t)).length + (l.filter fun x => decide (t < x.f0)).length = l.length := by
    intro l
    induction l with
    | nil => rfl
    | cons x l ih =>
      by_cases hx : x.f0 ≤ t
      · rw [List.filter_cons_of_pos (by simpa using hx), List.filter_cons_of_neg (by simp; omega)]; simp; omega
      · rw [List.filter_cons_of_neg (by simpa using hx), List.filter_cons_of_pos (by simp; omega)]; simp; omega
  have := this l
  omega
theorem Rise.exp {l : List S29} {t : Int} (h : Rise l t) (e : Int) : Rise (expF l e) t := by
  have hs : (expF l e).Sublist l := List.dropWhile_sublist _
  exact ⟨h.sorted.sublist hs, fun x hx => h.le x (hs.subset hx)⟩
end Go.Proofs.Ytcaagnfhefkoiaa.Rg
