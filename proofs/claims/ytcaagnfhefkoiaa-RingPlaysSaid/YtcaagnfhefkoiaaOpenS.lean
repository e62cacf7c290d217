/- Arguments of any shape that is made of numbers, bools, strings, slices and structs are read as the printer's kinds read them; each slice's and string's size is within the form's reach. -/
import Derived.Test.YtcaagnfhefkoiaaWWords
import Derived.Test.YtcaagnfhefkoiaaWMore
import Derived.ProofKit
import Derived.OpenShut
import Derived.SizedLaws
import Derived.Deep.Slices
namespace Go.Proofs.Ytcaagnfhefkoiaa.OpenS
open Go.RowKit Go.Deep Go.Proofs.YtcaagnfhefkoiaaW.PrintWords
variable {H : Type} {enc : TypeId × Value → H} {P : Program} {w : World}
/-- All that a datum weighs is within the reach. -/
def Light (P : Program) (t : TypeId) (d : DataW H) : Prop := ∀ n ∈ d.weights P t, n ≤ 140737488351232
/-- What a type's data are, told by a kind. -/
structure Opens {α : Type} (enc : TypeId × Value → H) (P : Program) (w : World) (t : TypeId) (d : Kd α) (wf : α → Prop) : Prop where
  ok : ∀ n cs x, DataW.trod enc P w 0 (fun _ => true) true n t cs = some x → Light P t x.1 → ∃ p, d.K w p cs ∧ wf p
  sz : P.cellsOf t = d.sz
def wfInt (k : IntKind) (x : Int) : Prop := (Lit.int k x).wf = true
def wfStr (s : ByteArray) : Prop := s.size ≤ 140737488351232
/-- A slice of elements of so many bytes. -/
def wfAll {α : Type} (b : Nat) (wf : α → Prop) (xs : List α) : Prop := xs.length * b ≤ 140737488351232 ∧ ∀ p ∈ xs, wf p
theorem Opens.int {t : TypeId} {k : IntKind} (ht : P.underlying t = some (.int k)) (hc : P.cellsOf t = 1) : Opens enc P w t (Kd.int k) (wfInt k) :=
  ⟨fun n cs x h _ => by
    obtain ⟨m, rfl, _, hw⟩ := DataW.trod_int ht h
    exact ⟨m, rfl, hw⟩, hc⟩
theorem Opens.bool {t : TypeId} (ht : P.underlying t = some .bool) (hc : P.cellsOf t = 1) : Opens enc P w t Kd.bool (fun _ => True) :=
  ⟨fun n cs x h _ => by
    obtain ⟨b, rfl, _⟩ := DataW.trod_bool ht h
    exact ⟨b, rfl, trivial⟩, hc⟩
theorem Opens.str {t : TypeId} (ht : P.underlying t = some .string) (hc : P.cellsOf t = 1) : Opens enc P w t Kd.string wfStr :=
  ⟨fun n cs x h hl => by
    obtain ⟨s, rfl, rfl, _⟩ := DataW.trod_string ht h
    refine ⟨s, rfl, ?_⟩
    have := hl s.data.toList.length (by simp [DataW.weights])
    unfold wfStr; simpa using this, hc⟩
theorem mem_weightsAll {e : TypeId} {ds : List (DataW H)} {d : DataW H} (h : d ∈ ds) {n : Nat} (hn : n ∈ d.weights P e) : n ∈ DataW.weightsAll P e ds := by
  induction ds with
  | nil => simp at h
  | cons x r ih =>
    unfold DataW.weightsAll
    rcases List.mem_cons.1 h with rfl | h
    · exact List.mem_append_left _ hn
    · exact List.mem_append_right _ (ih h)
theorem choose_list {α : Type} {len : Nat} {p : Nat → α → Prop} (h : ∀ i, i < len → ∃ x, p i x) : ∃ xs : List α, xs.length = len ∧ ∀ i x, xs[i]? = some x → p i x := by
  induction len with
  | zero => exact ⟨[], rfl, fun i x hx => by simp at hx⟩
  | succ n ih =>
    obtain ⟨xs, hl, hp⟩ := ih (fun i hi => h i (by omega))
    obtain ⟨x, hx⟩ := h n (by omega)
    refine ⟨xs ++ [x], by simp [hl], fun i y hy => ?_⟩
    by_cases e : i < xs.length
    · rw [List.getElem?_append_left e] at hy; exact hp i y hy
    · rw [List.getElem?_append_right (by omega)] at hy
      have : i - xs.length = 0 := by
        have := (List.getElem?_eq_some_iff.1 hy).1
        simp at this; omega
      rw [this] at hy
      obtain rfl := Option.some.inj hy
      have : i = n := by omega
      rw [this]; exact hx
/-- A slice's cells. -/
theorem opens_row {α : Type} {t e : TypeId} {d : Kd α} {wf : α → Prop} (ht : P.underlying t = some (.slice e)) (h : Opens enc P w e d wf) {n : Nat} {cs : List Value} {x : DataW H × List MemPlace} (hx : DataW.trod enc P w 0 (fun _ => true) true n t cs = some x) (hlt : Light P t x.1) :
    ∃ A c xs, cs = [.slice A xs.length c] ∧ xs.length ≤ c ∧ d.C w A xs.length xs ∧ wfAll (P.bytesOf e) wf xs := by
  rcases open_slice ht hx with ⟨rfl, _⟩ | ⟨a, len, cap, m, n', D, Pl, rfl, _, hl, hm, hmm, rfl, hel⟩
  · exact ⟨none, 0, [], rfl, Nat.le_refl _, ⟨rfl, by simp, fun h => absurd h (by simp)⟩, by simp, fun p hp => by simp at hp⟩
  · have hlm : len ≤ m := by rw [hmm]; simp; exact hl
    obtain ⟨xs, hxl, hxp⟩ := choose_list (p := fun i p => ∃ c, c.length = d.sz ∧ d.K w p c ∧ wf p ∧ ∀ j u, c[j]? = some u → w.cell? (a.add (i * d.sz + j)) = some u) (len := len) (fun i hi => by
      obtain ⟨cs', h1, h2⟩ := hel i (by omega)
      obtain ⟨p, hK, hw⟩ := h.ok _ _ _ h2 (fun k hk => hlt k (by
        simp only [DataW.weights, ht]
        exact List.mem_cons_of_mem _ (List.mem_append_left _ (mem_weightsAll (List.mem_map.2 ⟨i, List.mem_range.2 hi, rfl⟩) hk))))
      obtain ⟨_, hcl, hcc⟩ := World.cells?_some h1
      refine ⟨p, cs', by rw [hcl, h.sz], hK, hw, fun j u hu => ?_⟩
      have hj : j < P.cellsOf e := by rw [← hcl]; exact (List.getElem?_eq_some_iff.1 hu).1
      have := hcc j hj
      rw [Deep.add_add] at this
      rw [← h.sz, this, hu])
    subst hxl
    refine ⟨some a, cap, xs, rfl, hl, ⟨rfl, ?_, fun _ => ⟨a, rfl, fun j p hj => ?_⟩⟩, ?_, fun p hp => ?_⟩
    · unfold maxLen at hm; omega
    · obtain ⟨c, h1, h2, _, h4⟩ := hxp j p hj
      exact ⟨c, h1, h2, h4⟩
    · have h1 := hlt ((xs.length + (m - xs.length)) * P.bytesOf e) (by simp [DataW.weights, ht])
      exact Nat.le_trans (Nat.mul_le_mul_right _ (Nat.le_add_right _ _)) h1
    · obtain ⟨j, hj⟩ := List.getElem?_of_mem hp
      exact (hxp j p hj).elim fun c hc => hc.2.2.1
theorem Opens.slice {α : Type} {t e : TypeId} {d : Kd α} {wf : α → Prop} (ht : P.underlying t = some (.slice e)) (hc : P.cellsOf t = 1) (h : Opens enc P w e d wf) : Opens enc P w t (Kd.slice e d) (wfAll (P.bytesOf e) wf) :=
  ⟨fun n cs x hx hlt => by
    obtain ⟨A, c, xs, rfl, hl, hr, hw⟩ := opens_row ht h hx hlt
    exact ⟨xs, ⟨A, c, rfl, hl, hr⟩, hw⟩, hc⟩
/-- An argument that is a slice. -/
theorem open_arg {α : Type} {t e : TypeId} {d : Kd α} {wf : α → Prop} (ht : P.underlying t = some (.slice e)) (h : Opens enc P w e d wf) {a : Option Addr} {len cap : Nat} {x : DataW H} {ps : List MemPlace}
    (hx : DataW.Trod enc P w 0 (fun _ => true) true t (.slice a len cap) x ps) (hlt : (x.weights P t).all (· ≤ reachBytes) = true) : ∃ xs, xs.length = len ∧ xs.length ≤ cap ∧ d.C w a xs.length xs ∧ wfAll (P.bytesOf e) wf xs := by
  obtain ⟨fuel, hf⟩ := hx
  obtain ⟨A, c, xs, he, hl, hr, hw⟩ := opens_row ht h hf (fun k hk => of_decide_eq_true (List.all_eq_true.1 hlt k hk))
  simp only [Value.cells, List.cons.injEq, and_true, Value.slice.injEq] at he
  obtain ⟨rfl, rfl, rfl⟩ := he
  exact ⟨xs, rfl, hl, hr, hw⟩
end Go.Proofs.Ytcaagnfhefkoiaa.OpenS
