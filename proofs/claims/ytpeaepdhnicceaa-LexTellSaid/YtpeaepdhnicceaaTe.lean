/- What lex.Tell's iterator does: the walk. -/
import Derived.RangeFuncNested
import Derived.RangeFuncBound
import Derived.RangeFuncCalls
import Derived.RangeFuncLeaves
import Derived.RangeFuncFrom
import Derived.Shelf.Abstract
import Derived.Shelf.RegionOpen
import Derived.WalkKit
import Derived.OwnWalkIn
import Derived.TacticsInMore
import Derived.LoopNIn
import Derived.LoopIn
import Derived.Outline
import Derived.Test.YtpeaepdhnicceaaOn
namespace Go.Proofs.Ytpeaepdhnicceaa.Wk
open Go.RowKit Go.Shelf Go.Proofs.Ytpeaepdhnicceaa.PBase Go.Proofs.YtpeaepdhnicceaaW.PrintWords Go.Proofs.YtpeaepdhnicceaaW.PrintLast Go.Proofs.YtpeaepdhnicceaaW.PrintMore
attribute [local go_sem] Oper.semAt_some
theorem tell_any (s : ByteArray) (w : World) : Calls Try.prog 13 #[.string s] w fun e w' => e = .returned (.func (.func 19) #[] #[.pointer (some ⟨w.heap.size, 0, none⟩)]) ∧ w' = w.alloc (.cells #[.string s] 9) := by
  go_enter Try.func13, Try.ntmps13
  go_wp2_with fail
  go_ret
  exact ⟨rfl, rfl⟩
/-- Blocks that stay. -/
def Stay (S : Nat → Prop) (w w' : World) : Prop := ∀ k, S k → w'.heap[k]? = w.heap[k]?
theorem Stay.trans {S : Nat → Prop} {A B C : World} (h : Stay S A B) (k : Stay S B C) : Stay S A C := fun i hi => (k i hi).trans (h i hi)
theorem heap_lt {w w' : World} {k : Nat} (h : w'.heap[k]? = w.heap[k]?) (hk : k < w.heap.size) : k < w'.heap.size := by
  rcases Nat.lt_or_ge k w'.heap.size with h' | h'
  · exact h'
  · rw [Array.getElem?_eq_none h'] at h
    have := Array.getElem?_eq_getElem hk
    rw [← h] at this
    cases this
theorem grown_of_below {w w' : World} (h : Below w.heap.size w w') : w.grownBy w' none := ⟨h.os, h.tape, h.output, h.size, fun k hk _ => h.block k hk⟩
/-- What is told: a kind, a text, a place; and the error (0: none). -/
abbrev El := Nat × List UInt8 × Nat × Nat
def encE (x : El) : Array Value := #[.agg #[.int .u8 x.1, .string ⟨x.2.1.toArray⟩, .int .i64 x.2.2.1], .int .i64 x.2.2.2]
def els (q : List Lx.Tok × Option Nat) : List El := q.1.map (fun t => (t.kind, t.text, t.at', 0)) ++ (match q.2 with | some p => [(0, [], p, 90)] | none => [])
/-- All that is told of a text. -/
def told (s : ByteArray) : List El := if 4096 < s.size then [(0, [], 0, 3)] else els (Lx.toks (s.size + 1) 0 (L s))
theorem text_le : ∀ (n : Nat) (l : List UInt8), l.length ≤ n → ∀ q, Lx.text l = some q → q.2 ≤ l.length
  | _, [], _, q, h => by simp [Lx.text] at h
  | 0, b :: t, hn, q, h => by simp at hn
  | n + 1, b :: t, hn, q, h => by
    rw [text_cons] at h
    simp only [List.length_cons] at hn ⊢
    split at h
    · cases h
    · split at h
      · cases h; simp
      · split at h
        · split at h
          · rename_i c u
            split at h
            · obtain ⟨q', hq, rfl⟩ := Option.map_eq_some_iff.mp h
              simp only [List.length_cons] at hn ⊢
              have := text_le n u (by omega) q' hq
              show q'.2 + 2 ≤ _
              omega
            · cases h
          · cases h
        · obtain ⟨q', hq, rfl⟩ := Option.map_eq_some_iff.mp h
          have := text_le n t (by omega) q' hq
          show q'.2 + 1 ≤ _
          omega
theorem one_le (l : List UInt8) : (Lx.one l).2.2 ≤ l.length := by
  cases l with
  | nil => exact Nat.le_refl _
  | cons b t =>
    cases h1 : Lx.letter b with
    | true => rw [lx_word h1]; exact Lx.run_le _ _
    | false =>
      cases h2 : Lx.digit b with
      | true => rw [lx_num h1 h2]; exact num_le _
      | false =>
        by_cases h3 : b.toNat = 34
        · rw [lx_text h1 h2 h3]
          cases h : Lx.text t with
          | none => exact Nat.zero_le _
          | some q => have := text_le t.length t (Nat.le_refl _) q h; simp only [List.length_cons]; omega
        · rw [lx_sign h1 h2 h3]; exact sign_le _
theorem one_kind (l : List UInt8) : (Lx.one l).1 ≤ 4 := by
  cases l with
  | nil => exact Nat.le_refl _
  | cons b t =>
    cases h1 : Lx.letter b with
    | true => rw [lx_word h1]; exact (by decide : 1 ≤ 4)
    | false =>
      cases h2 : Lx.digit b with
      | true => rw [lx_num h1 h2]; exact (by decide : 2 ≤ 4)
      | false =>
        by_cases h3 : b.toNat = 34
        · rw [lx_text h1 h2 h3]
          cases h : Lx.text t <;> exact (by decide : 3 ≤ 4)
        · rw [lx_sign h1 h2 h3]; exact Nat.le_refl _
theorem toks_end {k a : Nat} {l : List UInt8} (h : l.drop (Lx.skip false l) = []) : Lx.toks (k + 1) a l = ([], none) := by
  rw [Lx.toks, h]
theorem toks_bad {k a : Nat} {l : List UInt8} (h : l.drop (Lx.skip false l) ≠ []) (h0 : (Lx.one (l.drop (Lx.skip false l))).2.2 = 0) : Lx.toks (k + 1) a l = ([], some (a + Lx.skip false l)) := by
  rw [Lx.toks]
  generalize l.drop (Lx.skip false l) = r at *
  cases r with
  | nil => exact absurd rfl h
  | cons b t => simp only [h0, if_true]
theorem toks_next {k a : Nat} {l : List UInt8} (h : l.drop (Lx.skip false l) ≠ []) (h0 : (Lx.one (l.drop (Lx.skip false l))).2.2 ≠ 0) :
    Lx.toks (k + 1) a l = (⟨(Lx.one (l.drop (Lx.skip false l))).1, (Lx.one (l.drop (Lx.skip false l))).2.1, a + Lx.skip false l⟩ :: (Lx.toks k (a + Lx.skip false l + (Lx.one (l.drop (Lx.skip false l))).2.2) ((l.drop (Lx.skip false l)).drop (Lx.one (l.drop (Lx.skip false l))).2.2)).1, (Lx.toks k (a + Lx.skip false l + (Lx.one (l.drop (Lx.skip false l))).2.2) ((l.drop (Lx.skip false l)).drop (Lx.one (l.drop (Lx.skip false l))).2.2)).2) := by
  rw [Lx.toks]
  generalize l.drop (Lx.skip false l) = r at *
  cases r with
  | nil => exact absurd rfl h
  | cons b t => simp only [h0, if_false]
theorem els_cons (t : Lx.Tok) (q : List Lx.Tok × Option Nat) : els (t :: q.1, q.2) = (t.kind, t.text, t.at', 0) :: els q := rfl
end Go.Proofs.Ytpeaepdhnicceaa.Wk
