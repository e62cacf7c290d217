/- What the laws' awake tells: true. -/
import Derived.Test.YtcaagnfhefkoiaaGw
namespace Go.Proofs.Ytcaagnfhefkoiaa.Rg
open Go.RowKit Go.Proofs.Ytcaagnfhefkoiaa.Ex Go.Proofs.Ytcaagnfhefkoiaa.PBase Go.Proofs.Ytcaagnfhefkoiaa.OpenS Go.Proofs.YtcaagnfhefkoiaaW.PrintWords Go.Proofs.YtcaagnfhefkoiaaW.PrintLast Go.Proofs.YtcaagnfhefkoiaaW.PrintMore
attribute [local go_sem high] eqA29
/-- A push, told for a call in a law. -/
theorem push_to {w W : World} {g : Nat} {cs : Array Value} {first : Nat} {l : List S29} (h : RAt W g cs first l) (hl : Below w.heap.size w W) (hg : w.heap.size ≤ g) (x : S29) {v : Int} {l' : List S29} (hp : pushF l x = (v, l')) :
    Calls Try.prog 9 #[.pointer (some ⟨g, 0, none⟩), .agg #[.int .i64 x.f0, .int .i64 x.f1]] W fun e w' => e = .returned (.int .i64 v) ∧ (∃ cs', RAt w' g cs' first l') ∧ Below w.heap.size w w' :=
  (push_any h x).mono fun e w' ⟨he, hr, hx⟩ => ⟨by rw [hp] at he; exact he, by rw [hp] at hr; exact hr, hl.trans (hx.below hl.size (fun k e => by omega))⟩
theorem expire_to {w W : World} {g : Nat} {cs : Array Value} {first : Nat} {l : List S29} (h : RAt W g cs first l) (hl : Below w.heap.size w W) (hg : w.heap.size ≤ g) (t : Int) :
    Calls Try.prog 10 #[.pointer (some ⟨g, 0, none⟩), .int .i64 t] W fun e w' => e = .returned (.int .i64 ((l.length - (expF l t).length : Nat) : Int)) ∧ (∃ cs' first', RAt w' g cs' first' (expF l t)) ∧ Below w.heap.size w w' ∧ Ex (fun k => k = g) W w' :=
  (expire_any h t).mono fun e w' ⟨k, he, hk, hd, hr, hx⟩ => by
    have e1 := congrArg List.length hd
    rw [List.length_drop] at e1
    refine ⟨by rw [he, ← e1]; congr 3; omega, by rw [← hd]; exact hr, hl.trans (hx.below hl.size (fun k e => by omega)), hx⟩
set_option maxHeartbeats 4000000 in
set_option maxRecDepth 100000 in
theorem awake_any (w : World) : Calls Try.prog 19 #[] w fun e w' => e = .returned (.bool true) ∧ Below w.heap.size w w' := by
  have hu29 := Try.underlying29
  go_enter Try.func19, Try.ntmps19
  go_wp2_with fail
  refine (new_some w).mono ?_
  rintro e w1 ⟨g, cs, rfl, hg, hr, hb⟩
  have R := Aside0.mk hr
  have B := Aside0.mk hb
  have HG := Aside0.mk hg
  clear hr hb hg
  go_wp2_with fail
  refine (push_to R.out B.out HG.out ⟨5, 100⟩ (v := 0) (l' := [⟨5, 100⟩]) (by simp [pushF, badS, late])).mono ?_
  rintro e w2 ⟨rfl, ⟨cs2, hr⟩, hb⟩
  replace R := Aside0.mk hr
  replace B := Aside0.mk hb
  clear hr hb
  go_wp2_with fail
  refine (push_to R.out B.out HG.out ⟨5, 200⟩ (v := 0) (l' := [⟨5, 100⟩, ⟨5, 200⟩]) (by simp [pushF, badS, late])).mono ?_
  rintro e w3 ⟨rfl, ⟨cs3, hr⟩, hb⟩
  replace R := Aside0.mk hr
  replace B := Aside0.mk hb
  clear hr hb
  go_wp2_with fail
  refine (push_to R.out B.out HG.out ⟨9, -1⟩ (v := 0) (l' := [⟨5, 100⟩, ⟨5, 200⟩, ⟨9, -1⟩]) (by simp [pushF, badS, late])).mono ?_
  rintro e w4 ⟨rfl, ⟨cs4, hr⟩, hb⟩
  replace R := Aside0.mk hr
  replace B := Aside0.mk hb
  clear hr hb
  go_wp2_with fail
  refine (push_to R.out B.out HG.out ⟨8, 1⟩ (v := 160) (l' := [⟨5, 100⟩, ⟨5, 200⟩, ⟨9, -1⟩]) (by simp [pushF, badS, late])).mono ?_
  rintro e w5 ⟨rfl, ⟨cs5, hr⟩, hb⟩
  replace R := Aside0.mk hr
  replace B := Aside0.mk hb
  clear hr hb
  go_wp2_with fail
  refine (window_in (R.out.isRing (S := fun k => k < w5.heap.size) R.out.lt) 4 5).mono ?_
  rintro e w6 ⟨⟨vw, rfl, hrw⟩, hbw⟩
  rw [show winF 4 5 [⟨5, 100⟩, ⟨5, 200⟩, ⟨9, -1⟩] = [⟨5, 100⟩, ⟨5, 200⟩] by simp [winF]] at hrw
  obtain ⟨Aw, cw, rfl, hcw, hCw⟩ := Kd.R_reads hrw
  have HGL := Aside0.mk R.out.lt
  replace R := Aside0.mk (R.out.below hbw)
  replace B := Aside0.mk (B.out.trans (hbw.mono B.out.size))
  have HW := Aside0.mk (show ∃ ad, Aw = some ad ∧ ad.block ≠ g ∧ ad.block < w6.heap.size ∧ w6.cell? ⟨(ad.add (1 * 2)).block, (ad.add (1 * 2)).off + 1, none⟩ = some (.int .i64 200) from by
    obtain ⟨ad, e, _, h1⟩ := at_T29 hCw 1 (by omega) (by simp)
    obtain ⟨_, inner, ho, _⟩ := hrw
    have h2 := own_base ho ad.block (by rw [e]; rfl)
    have h3 := own_lt ho ad.block (by rw [e]; rfl)
    have h4 := HGL.out
    exact ⟨ad, e, by omega, h3, h1⟩)
  clear hrw hbw hcw hCw
  go_wp2_with fail
  refine (expire_to R.out B.out HG.out 5).mono ?_
  rw [show expF [⟨5, 100⟩, ⟨5, 200⟩, ⟨9, -1⟩] 5 = [⟨9, -1⟩] by simp [expF]]
  rintro e w7 ⟨rfl, ⟨cs7, first7, hr⟩, hb, hx⟩
  obtain ⟨ad, rfl, h1, h2, h3⟩ := HW.out
  have HC := Aside0.mk (show w7.cell? ⟨(ad.add (1 * 2)).block, (ad.add (1 * 2)).off + 1, none⟩ = some (.int .i64 200) from (hx.cell (by show (ad.add (1 * 2)).block < _; rw [add_block]; exact h2) (by show ¬ (ad.add (1 * 2)).block = g; rw [add_block]; exact h1)).trans h3)
  replace R := Aside0.mk hr
  replace B := Aside0.mk hb
  clear hr hb hx h1 h2 h3 HW
  go_wp2_with fail
  refine (last_any R.out).mono ?_
  rintro e w8 ⟨he, hb⟩
  have he2 : e = .returned (.tuple #[.agg #[.int .i64 9, .int .i64 (-1)], .bool true]) := he
  subst he2
  have c2 := (Below.cell hb (World.block_lt_of_cell? w7 _ HC.out)).trans HC.out
  have B8 := Aside0.mk (B.out.trans (hb.mono B.out.size))
  have hba : Below w8.heap.size w8 (w8.alloc (.cells #[.int .i64 9, .int .i64 (-1)] 29)) := (Below.refl _ _).alloc (Nat.le_refl _) _
  have c3 := (Below.cell hba (World.block_lt_of_cell? w8 _ c2)).trans c2
  have B9 := Aside0.mk (B8.out.trans (hba.mono B8.out.size))
  have c4 : (w8.alloc (.cells #[.int .i64 9, .int .i64 (-1)] 29)).cell? ⟨ad.block, ad.off + 2 + 1, none⟩ = some (.int .i64 200) := c3
  have c5 : (w8.alloc (.cells #[.int .i64 9, .int .i64 (-1)] 29)).cell? ⟨ad.block, ad.off + 3, none⟩ = some (.int .i64 200) := c3
  clear hb he hba c2 c3
  go_wp2_with fail
  go_ret
  exact ⟨rfl, B9.out⟩
end Go.Proofs.Ytcaagnfhefkoiaa.Rg
