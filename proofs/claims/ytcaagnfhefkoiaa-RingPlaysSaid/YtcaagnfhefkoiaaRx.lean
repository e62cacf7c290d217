/- What a ring's Expire and Last do: the walks. -/
import Derived.Test.YtcaagnfhefkoiaaRp
namespace Go.Proofs.Ytcaagnfhefkoiaa.Rg
open Go.RowKit Go.Proofs.Ytcaagnfhefkoiaa.Ex Go.Proofs.Ytcaagnfhefkoiaa.PBase Go.Proofs.YtcaagnfhefkoiaaW.PrintWords Go.Proofs.YtcaagnfhefkoiaaW.PrintLast Go.Proofs.YtcaagnfhefkoiaaW.PrintMore
theorem size29 : (Try.prog.info? 29).map (·.size) = some 2 := by kernel_rfl
/-- What is left when what is old has gone. -/
def expF (l : List S29) (at' : Int) : List S29 := l.dropWhile fun x => decide (x.f0 ≤ at')
theorem RAt.popped {W : World} {g : Nat} {cs : Array Value} {first : Nat} {x : S29} {l : List S29} (h : RAt W g cs first (x :: l)) :
    ∃ cs', RAt ((W.setCell ⟨g, 64, none⟩ (.int .i64 (((first + 1) % 32 : Nat) : Int))).setCell ⟨g, 65, none⟩ (.int .i64 (l.length : Int))) g cs' ((first + 1) % 32) l ∧
      Ex (fun k => k = g) W ((W.setCell ⟨g, 64, none⟩ (.int .i64 (((first + 1) % 32 : Nat) : Int))).setCell ⟨g, 65, none⟩ (.int .i64 (l.length : Int))) := by
  refine ⟨_, ⟨blk_set (blk_set h.blk _ _) _ _, h.rb.pop⟩, Ex.setCell (Ex.setCell (Ex.refl _ _) ?_ _) ?_ _⟩
  all_goals exact fun _ => rfl
set_option maxHeartbeats 1000000 in
set_option maxRecDepth 100000 in
theorem expire_any {w : World} {g : Nat} {cs : Array Value} {first : Nat} {l : List S29} (h : RAt w g cs first l) (t : Int) :
    Calls Try.prog 10 #[.pointer (some ⟨g, 0, none⟩), .int .i64 t] w fun e w' => ∃ k : Nat, e = .returned (.int .i64 (k : Int)) ∧ k ≤ l.length ∧ l.drop k = expF l t ∧ (∃ cs' first', RAt w' g cs' first' (l.drop k)) ∧ Ex (fun k => k = g) w w' := by
  have R := Aside0.mk h
  have hle := h.rb.le
  clear h
  go_enter Try.func10, Try.ntmps10
  go_wp2_with fail
  refine (none_any R.out).mono ?_
  rintro e w1 ⟨rfl, hw⟩
  have hw2 := hw.symm
  clear hw
  subst hw2
  go_wp2_with fail
  go_loopw [5] (fun x W => ∃ (k : Nat) (cs : Array Value) (first : Nat), x = .int .i64 (k : Int) ∧ k ≤ l.length ∧ Aside0 (expF l t = expF (l.drop k) t) ∧ Aside0 (RAt W g cs first (l.drop k)) ∧ Aside0 (Ex (fun k => k = g) w W)) (fun x _ => l.length - (intOf x).toNat)
  case atStart => exact ⟨0, cs, first, rfl, Nat.zero_le _, ⟨rfl⟩, ⟨R.out⟩, ⟨Ex.refl _ _⟩⟩
  case round =>
    clear R
    obtain ⟨k, cs, first, rfl, hk, E, R, X⟩ := hrel
    by_cases hkl : k < l.length
    · have hd := List.drop_eq_getElem_cons hkl
      obtain ⟨x, hx⟩ : ∃ x, l[k] = x := ⟨_, rfl⟩
      rw [hx] at hd
      rw [hd] at R E
      have HD := Aside0.mk hd
      obtain ⟨p0, p1⟩ := R.out.at' (i := 0) (x := x) rfl
      rw [Nat.add_zero, Nat.mod_eq_of_lt R.out.rb.lt] at p0
      have c64 := R.out.c64
      have c65 : wr.cell? ⟨g, 65, none⟩ = some (.int .i64 (((l.drop (k + 1)).length : Int) + 1)) := R.out.c65
      have f64 : wr.frozen? ⟨g, 64, none⟩ = false := blk_frozen R.out.blk 64
      have f65 : wr.frozen? ⟨g, 65, none⟩ = false := blk_frozen R.out.blk 65
      have hl : (l.drop (k + 1)).length ≤ 32 := by rw [List.length_drop]; omega
      have hdp : decide ((0 : Int) < ((l.drop (k + 1)).length : Int) + 1) = true := decide_eq_true (by omega)
      have hf := R.out.rb.lt
      have hrem : ((first : Int) + 1).tmod 32 = (((first + 1) % 32 : Nat) : Int) := by rw [Int.tmod_eq_emod_of_nonneg (by omega)]; omega
      have HPOP := Aside0.mk R.out.popped
      have HAT := Aside0.mk (at_any R.out 0 (by omega))
      rw [Nat.add_zero, Nat.mod_eq_of_lt hf] at HAT
      clear p1 hd hx
      generalize (l.drop (k + 1)).length = m at *
      by_cases ht : x.f0 ≤ t
      · have hdt : decide (x.f0 ≤ t) = true := decide_eq_true ht
        go_wp2_with fail
        refine HAT.out.mono ?_
        rintro e w2 ⟨rfl, rfl⟩
        go_wp2_with fail
        obtain ⟨cs', hp1, hp2⟩ := HPOP.out
        rw [show (((first + 1) % 32 : Nat) : Int) = ((first : Int) + 1) % 32 by omega] at hp1 hp2
        go_roundw
        case rel => exact ⟨k + 1, cs', (first + 1) % 32, by go_num, by omega, ⟨by rw [E.out]; unfold expF; rw [List.dropWhile_cons_of_pos (by rw [hdt])]⟩, ⟨hp1.drew⟩, ⟨(X.out.trans hp2).drew⟩⟩
        case measure => simp [intOf]; omega
      · have hdt : decide (x.f0 ≤ t) = false := decide_eq_false ht
        go_wp2_with fail
        refine HAT.out.mono ?_
        rintro e w2 ⟨rfl, rfl⟩
        go_wp2_with fail
        go_ret
        exact ⟨k, rfl, hk, by rw [E.out, HD.out]; unfold expF; rw [List.dropWhile_cons_of_neg (by rw [hdt]; simp)], by rw [HD.out]; exact ⟨cs, first, R.out.drew⟩, X.out.drew⟩
    · obtain rfl : k = l.length := by omega
      have hd : l.drop l.length = [] := List.drop_length
      rw [hd] at R E
      have c65 := R.out.c65
      have HD := Aside0.mk hd
      clear hd
      go_wp2_with fail
      go_ret
      exact ⟨l.length, rfl, hk, by rw [E.out, HD.out]; rfl, by rw [HD.out]; exact ⟨cs, first, R.out⟩, X.out⟩
set_option maxHeartbeats 1000000 in
set_option maxRecDepth 100000 in
theorem last_any {w : World} {g : Nat} {cs : Array Value} {first : Nat} {l : List S29} (h : RAt w g cs first l) :
    Calls Try.prog 17 #[.pointer (some ⟨g, 0, none⟩)] w fun e w' => (match l.getLast? with | some x => e = .returned (.tuple #[.agg #[.int .i64 x.f0, .int .i64 x.f1], .bool true]) | none => e = .returned (.tuple #[.agg #[.int .i64 0, .int .i64 0], .bool false])) ∧ Below w.heap.size w w' := by
  have R := Aside0.mk h
  have hle := h.rb.le
  have HB := Aside0.mk ((Below.refl w.heap.size w).alloc (Nat.le_refl _) (.cells #[.int .i64 0, .int .i64 0] 29))
  have R1 := Aside0.mk (h.below HB.out)
  clear h
  rcases Nat.eq_zero_or_pos l.length with hn | hn
  · obtain rfl := List.length_eq_zero_iff.1 hn
    go_enter Try.func17, Try.ntmps17
    go_wp2_with fail
    refine (len_any R1.out).mono ?_
    rintro e w1 ⟨rfl, hw⟩
    subst hw
    go_wp2_with fail
    refine bodyPost_ret (results_list (rs := [.cell 2 29, .tmp 3]) rfl (by simp) (.cell w.heap.size 29 _ (0, 0) _ rfl (blk_new _ _) Try.underlying29 rfl size29 (.tmp .nil))) rfl ?_
    exact ⟨rfl, HB.out⟩
  · obtain ⟨n, hn⟩ : ∃ n, l.length = n + 1 := ⟨l.length - 1, by omega⟩
    obtain ⟨x, hx⟩ : ∃ x, l[n]? = some x := ⟨_, List.getElem?_eq_getElem (by omega)⟩
    have hlast : l.getLast? = some x := by rw [List.getLast?_eq_getElem?, hn]; exact hx
    rw [hlast]
    go_enter Try.func17, Try.ntmps17
    go_wp2_with fail
    refine (len_any R1.out).mono ?_
    rintro e w1 ⟨rfl, hw⟩
    subst hw
    rw [hn]
    have hd : (((n + 1 : Nat) : Int) == 0) = false := beq_eq_false_iff_ne.2 (by omega)
    have c65 := R1.out.c65
    obtain ⟨p0, p1⟩ := R1.out.at' hx
    rw [hn] at c65
    go_wp2_with fail
    refine (at_any R1.out n (by omega)).mono ?_
    rintro e w2 ⟨rfl, rfl⟩
    have hne : w.heap.size ≠ g := by have := R.out.lt; omega
    have hne2 : g ≠ w.heap.size := fun e => hne e.symm
    go_wp2_with fail
    refine bodyPost_ret (results_list (rs := [.cell 2 29, .tmp 3]) rfl (by simp) (.cell w.heap.size 29 _ (0, 0) _ rfl (blk_drew (blk_new _ _)) Try.underlying29 rfl size29 (.tmp .nil))) rfl ?_
    exact ⟨rfl, ((Below.refl w.heap.size w).alloc (Nat.le_refl _) _).drew⟩
end Go.Proofs.Ytcaagnfhefkoiaa.Rg
