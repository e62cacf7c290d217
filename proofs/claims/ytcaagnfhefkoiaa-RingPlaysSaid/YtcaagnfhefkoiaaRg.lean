/- A ring's block, and what New, none, at, Len do: the walks. -/
import Derived.Test.YtcaagnfhefkoiaaPBasex2
import Derived.Test.YtcaagnfhefkoiaaEx
import Derived.Deep.RegionHeld3
import Derived.Lib.Hide
namespace Go.Proofs.Ytcaagnfhefkoiaa.Rg
open Go.RowKit Go.Proofs.Ytcaagnfhefkoiaa.Ex Go.Proofs.Ytcaagnfhefkoiaa.PBase Go.Proofs.YtcaagnfhefkoiaaW.PrintWords Go.Proofs.YtcaagnfhefkoiaaW.PrintLast Go.Proofs.YtcaagnfhefkoiaaW.PrintMore
theorem wr64 (x : Int) (h0 : -9223372036854775808 ≤ x) (h1 : x ≤ 9223372036854775807) : IntKind.i64.wrap x = x := by simp [IntKind.wrap, IntKind.bits, IntKind.signed]; omega
/-- A sample's two cells at a place of the ring. -/
def At2 (cs : Array Value) (j : Nat) (x : S29) : Prop := cs[j * 2]? = some (.int .i64 x.f0) ∧ cs[j * 2 + 1]? = some (.int .i64 x.f1)
/-- A ring's cells: where the first sample is, and the samples. -/
structure RB (cs : Array Value) (first : Nat) (l : List S29) : Prop where
  size : cs.size = 67
  c64 : cs[64]? = some (.int .i64 (first : Int))
  c65 : cs[65]? = some (.int .i64 (l.length : Int))
  c66 : cs[66]? = some (.bool true)
  lt : first < 32
  le : l.length ≤ 32
  at' : ∀ i x, l[i]? = some x → At2 cs ((first + i) % 32) x
  any : ∀ j, j < 32 → ∃ x, At2 cs j x
theorem At2.set {cs : Array Value} {j k : Nat} {x : S29} {v : Value} (h : At2 cs j x) (h0 : k ≠ j * 2) (h1 : k ≠ j * 2 + 1) : At2 (cs.setIfInBounds k v) j x := by
  unfold At2 at *
  rw [Array.getElem?_setIfInBounds_ne h0, Array.getElem?_setIfInBounds_ne h1]; exact h
theorem At2.put {cs : Array Value} {j : Nat} (x : S29) (hs : cs.size = 67) (hj : j < 32) : At2 ((cs.setIfInBounds (j * 2) (.int .i64 x.f0)).setIfInBounds (j * 2 + 1) (.int .i64 x.f1)) j x := by
  unfold At2
  rw [Array.getElem?_setIfInBounds_ne (by omega), Array.getElem?_setIfInBounds_self_of_lt (by omega), Array.getElem?_setIfInBounds_self_of_lt (by rw [Array.size_setIfInBounds]; omega)]
  exact ⟨rfl, rfl⟩
/-- A sample goes behind the others. -/
theorem RB.push {cs : Array Value} {first : Nat} {l : List S29} (h : RB cs first l) (x : S29) (hl : l.length < 32) :
    RB (((cs.setIfInBounds ((first + l.length) % 32 * 2) (.int .i64 x.f0)).setIfInBounds ((first + l.length) % 32 * 2 + 1) (.int .i64 x.f1)).setIfInBounds 65 (.int .i64 ((l.length : Int) + 1))) first (l ++ [x]) := by
  have hs := h.size
  have hj : (first + l.length) % 32 < 32 := Nat.mod_lt _ (by omega)
  refine ⟨by simp only [Array.size_setIfInBounds]; exact hs, ?_, ?_, ?_, h.lt, by rw [List.length_append]; simp; omega, fun i y hi => ?_, fun j hj2 => ?_⟩
  · rw [Array.getElem?_setIfInBounds_ne (by omega), Array.getElem?_setIfInBounds_ne (by omega), Array.getElem?_setIfInBounds_ne (by omega)]; exact h.c64
  · rw [Array.getElem?_setIfInBounds_self_of_lt (by simp only [Array.size_setIfInBounds]; omega)]; rw [List.length_append]; rfl
  · rw [Array.getElem?_setIfInBounds_ne (by omega), Array.getElem?_setIfInBounds_ne (by omega), Array.getElem?_setIfInBounds_ne (by omega)]; exact h.c66
  · by_cases hil : i < l.length
    · rw [List.getElem?_append_left hil] at hi
      have hne : (first + i) % 32 ≠ (first + l.length) % 32 := by omega
      have h32 : (first + i) % 32 < 32 := Nat.mod_lt _ (by omega)
      exact (((h.at' i y hi).set (by omega) (by omega)).set (by omega) (by omega)).set (by omega) (by omega)
    · rw [List.getElem?_append_right (by omega)] at hi
      have e : i = l.length := by
        rcases Nat.eq_zero_or_pos (i - l.length) with e | e
        · omega
        · rw [List.getElem?_eq_none (by simp; omega)] at hi; cases hi
      subst e
      rw [Nat.sub_self] at hi
      obtain rfl : x = y := Option.some.inj hi
      exact (At2.put x hs hj).set (by omega) (by omega)
  · by_cases e : j = (first + l.length) % 32
    · rw [e]; exact ⟨x, (At2.put x hs hj).set (by omega) (by omega)⟩
    · obtain ⟨y, hy⟩ := h.any j hj2
      exact ⟨y, ((hy.set (by omega) (by omega)).set (by omega) (by omega)).set (by omega) (by omega)⟩
/-- The first sample goes. -/
theorem RB.pop {cs : Array Value} {first : Nat} {x : S29} {l : List S29} (h : RB cs first (x :: l)) :
    RB ((cs.setIfInBounds 64 (.int .i64 (((first + 1) % 32 : Nat) : Int))).setIfInBounds 65 (.int .i64 (l.length : Int))) ((first + 1) % 32) l := by
  have hs := h.size
  have hle := h.le
  rw [List.length_cons] at hle
  refine ⟨by simp only [Array.size_setIfInBounds]; exact hs, ?_, ?_, ?_, Nat.mod_lt _ (by omega), by omega, fun i y hi => ?_, fun j hj2 => ?_⟩
  · rw [Array.getElem?_setIfInBounds_ne (by omega), Array.getElem?_setIfInBounds_self_of_lt (by omega)]
  · rw [Array.getElem?_setIfInBounds_self_of_lt (by simp only [Array.size_setIfInBounds]; omega)]
  · rw [Array.getElem?_setIfInBounds_ne (by omega), Array.getElem?_setIfInBounds_ne (by omega)]; exact h.c66
  · have h1 := h.at' (i + 1) y (by rw [List.getElem?_cons_succ]; exact hi)
    have e : (first + (i + 1)) % 32 = ((first + 1) % 32 + i) % 32 := by omega
    rw [e] at h1
    have h32 : ((first + 1) % 32 + i) % 32 < 32 := Nat.mod_lt _ (by omega)
    exact (h1.set (by omega) (by omega)).set (by omega) (by omega)
  · obtain ⟨y, hy⟩ := h.any j hj2
    exact ⟨y, (hy.set (by omega) (by omega)).set (by omega) (by omega)⟩
/-- A ring at g. -/
structure RAt (W : World) (g : Nat) (cs : Array Value) (first : Nat) (l : List S29) : Prop where
  blk : W.heap[g]? = some (.cells cs 51 (0, 0))
  rb : RB cs first l
theorem RAt.lt {W : World} {g : Nat} {cs : Array Value} {first : Nat} {l : List S29} (h : RAt W g cs first l) : g < W.heap.size := blk_lt h.blk
theorem RAt.ex {S : Nat → Prop} {W W1 : World} {g : Nat} {cs : Array Value} {first : Nat} {l : List S29} (h : RAt W g cs first l) (hx : Ex S W W1) (hg : ¬ S g) : RAt W1 g cs first l := ⟨hx.heap h.blk hg, h.rb⟩
theorem RAt.below {W W1 : World} {g : Nat} {cs : Array Value} {first : Nat} {l : List S29} (h : RAt W g cs first l) (hb : Below W.heap.size W W1) : RAt W1 g cs first l := ⟨blk_below h.blk hb, h.rb⟩
theorem RAt.drew {W : World} {g : Nat} {cs : Array Value} {first : Nat} {l : List S29} (h : RAt W g cs first l) : RAt W.drew g cs first l := ⟨h.blk, h.rb⟩
section
variable {W : World} {g : Nat} {cs : Array Value} {first : Nat} {l : List S29}
theorem RAt.c64 (h : RAt W g cs first l) : W.cell? ⟨g, 64, none⟩ = some (.int .i64 (first : Int)) := (blk_cell h.blk 64).trans h.rb.c64
theorem RAt.c65 (h : RAt W g cs first l) : W.cell? ⟨g, 65, none⟩ = some (.int .i64 (l.length : Int)) := (blk_cell h.blk 65).trans h.rb.c65
theorem RAt.c66 (h : RAt W g cs first l) : W.cell? ⟨g, 66, none⟩ = some (.bool true) := (blk_cell h.blk 66).trans h.rb.c66
theorem RAt.at' (h : RAt W g cs first l) {i : Nat} {x : S29} (hi : l[i]? = some x) : W.cell? ⟨g, (first + i) % 32 * 2, none⟩ = some (.int .i64 x.f0) ∧ W.cell? ⟨g, (first + i) % 32 * 2 + 1, none⟩ = some (.int .i64 x.f1) :=
  ⟨(blk_cell h.blk _).trans (h.rb.at' i x hi).1, (blk_cell h.blk _).trans (h.rb.at' i x hi).2⟩
end
theorem zero51 (w : World) : (zeroValue 51).run Try.prog w = .ok (.agg (Array.replicate 66 (.int .i64 0) ++ #[.bool false])) w := by kernel_rfl
theorem new_rb : RB ((Array.replicate 66 (Value.int .i64 0) ++ #[Value.bool false]).setIfInBounds 66 (.bool true)) 0 [] := by
  refine ⟨by simp, by rfl, by rfl, by rfl, by omega, by simp, (fun i x h => by cases h), fun j hj => ⟨z29, ?_⟩⟩
  have h0 : ∀ k, k < 66 → ((Array.replicate 66 (Value.int .i64 0) ++ #[Value.bool false]).setIfInBounds 66 (.bool true))[k]? = some (.int .i64 0) := fun k hk => by
    rw [Array.getElem?_setIfInBounds_ne (by omega), Array.getElem?_append_left (by simpa using hk)]
    simp [hk]
  exact ⟨h0 _ (by omega), h0 _ (by omega)⟩
set_option maxHeartbeats 400000 in
/-- New. -/
theorem new_any (w : World) : Calls Try.prog 8 #[] w fun e w' => ∃ cs, e = .returned (.pointer (some ⟨w.heap.size, 0, none⟩)) ∧ RAt w' w.heap.size cs 0 [] ∧ Below w.heap.size w w' := by
  obtain ⟨Z, hz, hZ, hs⟩ : ∃ Z : Array Value, (∀ w, (zeroValue 51).run Try.prog w = .ok (.agg Z) w) ∧ Hid (Z = Array.replicate 66 (.int .i64 0) ++ #[.bool false]) ∧ Z.size = 67 := ⟨_, zero51, Lib.hid rfl, by simp⟩
  go_enter Try.func8, Try.ntmps8
  go_wp2_with fail
  go_ret
  exact ⟨_, rfl, ⟨blk_new _ _, by rw [show Z = _ from hZ]; exact new_rb⟩, (Below.refl _ _).alloc (Nat.le_refl _) _⟩
section
variable {w : World} {g : Nat} {cs : Array Value} {first : Nat} {l : List S29}
set_option maxHeartbeats 400000 in
theorem none_any (h : RAt w g cs first l) : Calls Try.prog 20 #[.pointer (some ⟨g, 0, none⟩)] w fun e w' => e = .returned (.bool false) ∧ w' = w := by
  have c66 := h.c66
  clear h
  go_enter Try.func20, Try.ntmps20
  go_wp2_with fail
  go_ret
  exact ⟨rfl, rfl⟩
set_option maxHeartbeats 400000 in
theorem len_any (h : RAt w g cs first l) : Calls Try.prog 11 #[.pointer (some ⟨g, 0, none⟩)] w fun e w' => e = .returned (.int .i64 (l.length : Int)) ∧ w' = w := by
  have c65 := h.c65
  have HN := Aside0.mk (none_any h)
  clear h
  go_enter Try.func11, Try.ntmps11
  go_wp2_with fail
  refine HN.out.mono ?_
  rintro e w1 ⟨rfl, hw⟩
  subst hw
  go_wp2_with fail
  go_ret
  exact ⟨rfl, rfl⟩
set_option maxHeartbeats 400000 in
theorem at_any (h : RAt w g cs first l) (i : Nat) (hi : i ≤ 32) : Calls Try.prog 21 #[.pointer (some ⟨g, 0, none⟩), .int .i64 (i : Int)] w fun e w' => e = .returned (.pointer (some ⟨g, (first + i) % 32 * 2, none⟩)) ∧ w' = w.drew := by
  have hf := h.rb.lt
  have c64 := h.c64
  clear h
  obtain ⟨j, hj, hj2⟩ : ∃ j : Nat, (first + i) % 32 = j ∧ j < 32 := ⟨_, rfl, Nat.mod_lt _ (by omega)⟩
  have hj1 : ((first : Int) + (i : Int)).tmod 32 = (j : Int) := by rw [Int.tmod_eq_emod_of_nonneg (by omega)]; omega
  have hw := wr64 ((first : Int) + (i : Int)) (by omega) (by omega)
  have hw2 := wr64 (j : Int) (by omega) (by omega)
  have hj3 : (j : Int) < 32 := by omega
  rw [hj]
  clear hj
  go_enter Try.func21, Try.ntmps21
  go_upto_region 1 with (fail)
  have hS0 : w.drew.cell? ⟨g, 64, none⟩ = some (.int .i64 (first : Int)) := c64
  go_region_held3 (fun W' : World => W'.cell? ⟨g, 64, none⟩ = some (.int .i64 (first : Int))) (first | assumption | go_keep) (fail)
  go_wp2_with fail
  go_ret
  exact ⟨rfl, rfl⟩
end
end Go.Proofs.Ytcaagnfhefkoiaa.Rg
