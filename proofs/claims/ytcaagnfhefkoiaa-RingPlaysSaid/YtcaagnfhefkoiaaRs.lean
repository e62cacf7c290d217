/- What a ring's All does: its iterator. -/
import Derived.RangeFuncNested
import Derived.RangeFuncBound
import Derived.RangeFuncCalls
import Derived.RangeFuncLeaves
import Derived.RangeFuncFrom
import Derived.Shelf.Abstract
import Derived.Shelf.RegionOpen
import Derived.WalkKit
import Derived.OwnWalkIn
import Derived.TacticsInMore
import Derived.LoopNIn
import Derived.LoopIn
import Derived.Outline
import Derived.Test.YtcaagnfhefkoiaaRx
namespace Go.Proofs.Ytcaagnfhefkoiaa.Rg
open Go.RowKit Go.Shelf Go.Proofs.Ytcaagnfhefkoiaa.Ex Go.Proofs.Ytcaagnfhefkoiaa.PBase Go.Proofs.YtcaagnfhefkoiaaW.PrintWords Go.Proofs.YtcaagnfhefkoiaaW.PrintLast Go.Proofs.YtcaagnfhefkoiaaW.PrintMore
attribute [local go_sem] Oper.semAt_some
/-- Blocks that stay. -/
def Stay (S : Nat → Prop) (w w' : World) : Prop := ∀ k, S k → w'.heap[k]? = w.heap[k]?
theorem Stay.trans {S : Nat → Prop} {A B C : World} (h : Stay S A B) (k : Stay S B C) : Stay S A C := fun i hi => (k i hi).trans (h i hi)
/-- A ring, made or not, as its methods tell it while some blocks stay. -/
structure IsRing (p : Option Addr) (l : List S29) (S : Nat → Prop) (w : World) : Prop where
  len : ∀ W, Stay S w W → Calls Try.prog 11 #[.pointer p] W fun e w' => e = .returned (.int .i64 (l.length : Int)) ∧ w' = W
  at' : ∀ W, Stay S w W → ∀ (i : Nat) (x : S29), l[i]? = some x → ∃ (g j : Nat), Calls Try.prog 21 #[.pointer p, .int .i64 (i : Int)] W (fun e w' => e = .returned (.pointer (some ⟨g, j, none⟩)) ∧ w' = W.drew) ∧ W.cell? ⟨g, j, none⟩ = some (.int .i64 x.f0) ∧ W.cell? ⟨g, j + 1, none⟩ = some (.int .i64 x.f1)
  le : l.length ≤ 32
theorem RAt.isRing {w : World} {g : Nat} {cs : Array Value} {first : Nat} {l : List S29} (h : RAt w g cs first l) {S : Nat → Prop} (hS : S g) : IsRing (some ⟨g, 0, none⟩) l S w := by
  have hW : ∀ W, Stay S w W → RAt W g cs first l := fun W hs => ⟨(hs g hS).trans h.blk, h.rb⟩
  refine ⟨fun W hs => len_any (hW W hs), fun W hs i x hi => ?_, h.rb.le⟩
  have hil := (List.getElem?_eq_some_iff.1 hi).1
  have hle := h.rb.le
  obtain ⟨p0, p1⟩ := (hW W hs).at' hi
  exact ⟨_, _, at_any (hW W hs) i (by omega), p0, p1⟩
theorem grown_of_below {w w' : World} (h : Below w.heap.size w w') : w.grownBy w' none := ⟨h.os, h.tape, h.output, h.size, fun k hk _ => h.block k hk⟩
def enc29 (x : S29) : Array Value := #[.agg #[.int .i64 x.f0, .int .i64 x.f1]]
set_option maxHeartbeats 400000 in
theorem all22_any (p : Option Addr) (w : World) : Calls Try.prog 22 #[.pointer p] w fun e w' => e = .returned (.func (.func 23) #[] #[.pointer (some ⟨w.heap.size, 0, none⟩)]) ∧ w' = w.alloc (.cells #[.pointer p] 23) := by
  go_enter Try.func22, Try.ntmps22
  go_wp2_with fail
  go_ret
  exact ⟨rfl, rfl⟩
set_option maxHeartbeats 1000000 in
set_option maxRecDepth 100000 in
theorem all_stops (p : Option Addr) (l : List S29) (Bn : Nat) (S : Nat → Prop) (w : World) (hr : IsRing p l S w) (hBn : w.heap[Bn]? = some (.cells #[.pointer p] 23 (0, 0))) (hS : S Bn) (hSl : ∀ k, S k → k < w.heap.size) :
    SeqStopsK Fence.wide 101 Try.prog 23 #[.pointer (some ⟨Bn, 0, none⟩)] enc29 (Stay S) (fun ys => ys = l) (fun _ => True) 33 w := fun lf J Jx W hW hJ hJx hY h0 => by
  have hstay0 : Stay S w W := fun k hk => hW.block k (hSl k hk)
  have HY := Aside0.mk hY
  have HJ := Aside0.mk hJ
  have HSl := Aside0.mk hSl
  have HR := Aside0.mk hr
  have HBn := Aside0.mk hBn
  have HS := Aside0.mk hS
  have HLE := hr.le
  have c0 : W.cell? ⟨Bn, 0, none⟩ = some (.pointer p) := blk_cell ((hstay0 Bn hS).trans hBn) 0
  clear hY hJ hJx hSl hr hBn hS hW
  refine callsIn_of_wp Try.func23 rfl trivial ?_ rfl
  simp only [Try.ntmps23, List.size_toArray, List.length_cons, List.length_nil, Nat.reduceAdd, Nat.reduceSub, Array.replicate_succ, Array.replicate_zero, List.push_toArray, List.append_toArray, List.nil_append, List.cons_append]
  gi_wp2
  refine ⟨trivial, callsIn_wide.2 ?_⟩
  refine (HR.out.len W hstay0).mono ?_
  rintro e w1 ⟨rfl, hw⟩
  have hw2 := hw.symm
  clear hw
  subst hw2
  gi_wp2
  gi_loopw [6] (fun x wr => ∃ (k : Nat), x = .int .i64 (k : Int) ∧ k ≤ l.length ∧ Aside0 (J (l.take k) wr) ∧ Aside0 (Stay S w wr)) (fun x _ => l.length - (intOf x).toNat)
  case atStart => exact ⟨0, rfl, Nat.zero_le _, ⟨h0⟩, ⟨hstay0⟩⟩
  case round =>
    clear hstay0 h0 c0
    obtain ⟨k, rfl, hk, HJ0, HSt⟩ := hrel
    have c1 : wr.cell? ⟨Bn, 0, none⟩ = some (.pointer p) := blk_cell ((HSt.out Bn HS.out).trans HBn.out) 0
    by_cases hkl : k < l.length
    · obtain ⟨x, hx⟩ : ∃ x, l[k]? = some x := ⟨_, List.getElem?_eq_getElem hkl⟩
      obtain ⟨g, j, hat, p0, p1⟩ := HR.out.at' wr HSt.out k x hx
      have HAT := Aside0.mk hat
      have HX := Aside0.mk hx
      have hd : decide ((k : Int) < (l.length : Int)) = true := decide_eq_true (by omega)
      clear hat hx
      gi_wp2
      refine ⟨trivial, callsIn_wide.2 ?_⟩
      refine HAT.out.mono ?_
      rintro e w2 ⟨rfl, rfl⟩
      have HJ1 := Aside0.mk (HJ.out (l.take k) wr wr.drew none HJ0.out (grown_of_below (below_drew (Below.refl _ _))) (fun r e => by cases e))
      obtain ⟨fn, tmps, assign, body, hy, hR⟩ := HY.out (l.take k) x wr.drew HJ1.out (by rw [List.length_take]; omega)
      dsimp only [enc29] at hy
      have HR1 := Aside0.mk hR
      have q0 : wr.drew.cell? ⟨g, j, none⟩ = some (.int .i64 x.f0) := p0
      have q1 : wr.drew.cell? ⟨g, j + 1, none⟩ = some (.int .i64 x.f1) := p1
      clear hR p0 p1
      gi_wp2
      refine HR1.out.mono ?_
      rintro e W3 (⟨rfl, hJ3, hk3⟩ | ⟨rfl, hJx3⟩)
      · have HJ3 := Aside0.mk hJ3
        have HK3 := Aside0.mk hk3
        have ht : l.take k ++ [x] = l.take (k + 1) := by
          rw [List.take_add_one, HX.out]; rfl
        rw [ht] at HJ3
        clear hJ3 hk3 ht
        gi_wp2
        go_roundw
        case rel => exact ⟨k + 1, by go_num, by omega, HJ3, ⟨HSt.out.trans HK3.out⟩⟩
        case measure => simp [intOf]; omega
      · have HJ3 := Aside0.mk hJx3
        clear hJx3
        gi_wp2
        refine bodyPost_ret (results_none rfl _ _ _) rfl ?_
        exact ⟨⟨_, rfl⟩, .inr ⟨_, trivial, HJ3.out⟩⟩
    · obtain rfl : k = l.length := by omega
      have hd : decide ((l.length : Int) < (l.length : Int)) = false := decide_eq_false (by omega)
      gi_wp2
      rw [List.take_length] at HJ0
      go_end0
      exact ⟨⟨_, rfl⟩, .inl ⟨_, rfl, HJ0.out⟩⟩
end Go.Proofs.Ytcaagnfhefkoiaa.Rg
