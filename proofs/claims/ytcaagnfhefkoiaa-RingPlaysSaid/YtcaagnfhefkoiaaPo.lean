/- What RingOrder's laws rest on: plain; and the ring beside a row that grows. -/
import Derived.Test.YtcaagnfhefkoiaaPf
namespace Go.Proofs.Ytcaagnfhefkoiaa.Rg
open Go.RowKit Go.Proofs.Ytcaagnfhefkoiaa.Ex Go.Proofs.Ytcaagnfhefkoiaa.PBase Go.Proofs.YtcaagnfhefkoiaaW.PrintWords Go.Proofs.YtcaagnfhefkoiaaW.PrintLast Go.Proofs.YtcaagnfhefkoiaaW.PrintMore
def Up (l : List S29) : Prop := l.Pairwise fun x y => x.f0 ≤ y.f0
theorem Up.le_last {l : List S29} (h : Up l) {z : S29} (hz : l.getLast? = some z) : ∀ y ∈ l, y.f0 ≤ z.f0 := by
  intro y hy
  obtain ⟨i, hi, rfl⟩ := List.getElem_of_mem hy
  rw [List.getLast?_eq_getElem?] at hz
  obtain ⟨hl, rfl⟩ := List.getElem?_eq_some_iff.1 hz
  by_cases e : i = l.length - 1
  · simp [e]
  · exact List.pairwise_iff_getElem.1 h i (l.length - 1) hi hl (by omega)
/-- A push takes the sample, or leaves all as it is. -/
theorem push_cases {l : List S29} (h : Up l) (x : S29) : (∃ v, v ≠ 0 ∧ pushF l x = (v, l)) ∨ (pushF l x = (0, l ++ [x]) ∧ Up (l ++ [x])) := by
  unfold pushF
  by_cases hb : badS x
  · exact .inl ⟨2, by omega, if_pos hb⟩
  · by_cases hl : late l x = true
    · exact .inl ⟨160, by omega, by rw [if_neg hb, if_pos hl]⟩
    · by_cases h32 : l.length = 32
      · exact .inl ⟨4, by omega, by rw [if_neg hb, if_neg hl, if_pos h32]⟩
      · refine .inr ⟨by rw [if_neg hb, if_neg hl, if_neg h32], List.pairwise_append.2 ⟨h, by simp, fun a ha b hb2 => ?_⟩⟩
        simp at hb2
        subst hb2
        cases hz : l.getLast? with
        | none =>
          rw [List.getLast?_eq_none_iff] at hz
          rw [hz] at ha; cases ha
        | some z =>
          have h1 := h.le_last hz a ha
          unfold late at hl
          rw [hz] at hl
          simp at hl
          omega
theorem Up.exp {l : List S29} (h : Up l) (e : Int) : Up (expF l e) := List.Pairwise.sublist (List.dropWhile_sublist _) h
theorem exp_drop (l : List S29) (t : Int) : l.drop (l.length - (expF l t).length) = expF l t := by
  unfold expF
  have h1 := List.takeWhile_append_dropWhile (p := fun x : S29 => decide (x.f0 ≤ t)) (l := l)
  have h2 := congrArg List.length h1
  rw [List.length_append] at h2
  have h3 : l.length - (l.dropWhile fun x => decide (x.f0 ≤ t)).length = (l.takeWhile fun x => decide (x.f0 ≤ t)).length := by omega
  rw [h3]
  have h4 := List.drop_left (l₁ := l.takeWhile fun x => decide (x.f0 ≤ t)) (l₂ := l.dropWhile fun x => decide (x.f0 ≤ t))
  rw [h1] at h4
  exact h4
theorem exp_le (l : List S29) (t : Int) : (expF l t).length ≤ l.length := (List.dropWhile_sublist _).length_le
/-- Two windows that meet. -/
theorem win_meet {l : List S29} (h : Up l) {a b c : Int} (hab : a ≤ b) (hbc : b ≤ c) : winF a c l = winF a b l ++ winF b c l := by
  induction l with
  | nil => rfl
  | cons x l ih =>
    have hp := List.pairwise_cons.1 h
    have ih := ih hp.2
    unfold winF at *
    by_cases h1 : a < x.f0 ∧ x.f0 ≤ b
    · rw [List.filter_cons_of_pos (by simp; omega), List.filter_cons_of_pos (p := fun x : S29 => decide (a < x.f0) && decide (x.f0 ≤ b)) (by simp; omega), List.filter_cons_of_neg (by simp; omega), ih]; rfl
    · by_cases h2 : b < x.f0 ∧ x.f0 ≤ c
      · have hn : ∀ l' : List S29, (∀ y ∈ l', x.f0 ≤ y.f0) → l'.filter (fun x => decide (a < x.f0) && decide (x.f0 ≤ b)) = [] := fun l' hl => List.filter_eq_nil_iff.2 (fun y hy => by have := hl y hy; simp; omega)
        rw [List.filter_cons_of_pos (by simp; omega), List.filter_cons_of_neg (p := fun x : S29 => decide (a < x.f0) && decide (x.f0 ≤ b)) (by simp; omega), List.filter_cons_of_pos (p := fun x : S29 => decide (b < x.f0) && decide (x.f0 ≤ c)) (by simp; omega), ih, hn l hp.1]; rfl
      · rw [List.filter_cons_of_neg (by simp; omega), List.filter_cons_of_neg (p := fun x : S29 => decide (a < x.f0) && decide (x.f0 ≤ b)) (by simp; omega), List.filter_cons_of_neg (p := fun x : S29 => decide (b < x.f0) && decide (x.f0 ≤ c)) (by simp; omega), ih]
section
variable {w : World} {g : Nat} {cs : Array Value} {first : Nat} {lr lg : List S29} {Ag : Option Addr} {vw : Value} {xs : List S29} {W W1 : World}
theorem GW.ring (h : GW w g cs first lr Ag lg vw xs W) (hg : w.heap.size ≤ g) (hA : ∀ ad, Ag = some ad → 0 < lg.length → ad.block ≠ g) {cs' : Array Value} {first' : Nat} {l' : List S29} (hr : RAt W1 g cs' first' l') (hx : Ex (fun k => k = g) W W1) : GW w g cs' first' l' Ag lg vw xs W1 :=
  ⟨hr, C_ex29 h.got hx (fun ad e hn => hA ad e hn), Kd.R_mono (Kd.R_step (Kd.R_tight rfl h.q) (fun k ho hlt => hx.block k hlt (fun e => h.a (by rw [← ho, e])))) (fun _ _ => trivial), h.a, h.b, h.low.trans (hx.below h.low.size (fun k e => by omega))⟩
theorem GW.push (h : GW w g cs first lr Ag lg vw xs W) (hg : w.heap.size ≤ g) (hA : ∀ ad, Ag = some ad → 0 < lg.length → ad.block ≠ g) (x : S29) {v : Int} {l' : List S29} (hp : pushF lr x = (v, l')) :
    Calls Try.prog 9 #[.pointer (some ⟨g, 0, none⟩), .agg #[.int .i64 x.f0, .int .i64 x.f1]] W fun e w' => e = .returned (.int .i64 v) ∧ ∃ cs', GW w g cs' first l' Ag lg vw xs w' :=
  (push_any h.r x).mono fun _ _ ⟨he, ⟨cs', hr⟩, hx⟩ => ⟨by rw [hp] at he; exact he, cs', h.ring hg hA (by rw [hp] at hr; exact hr) hx⟩
theorem GW.expire (h : GW w g cs first lr Ag lg vw xs W) (hg : w.heap.size ≤ g) (hA : ∀ ad, Ag = some ad → 0 < lg.length → ad.block ≠ g) (t : Int) :
    Calls Try.prog 10 #[.pointer (some ⟨g, 0, none⟩), .int .i64 t] W fun e w' => e = .returned (.int .i64 ((lr.length - (expF lr t).length : Nat) : Int)) ∧ ∃ cs' first', GW w g cs' first' (expF lr t) Ag lg vw xs w' :=
  (expire_to (w := w) h.r h.low hg t).mono fun _ _ ⟨he, ⟨cs', first', hr⟩, _, hx⟩ => ⟨he, cs', first', h.ring hg hA hr hx⟩
end
end Go.Proofs.Ytcaagnfhefkoiaa.Rg
