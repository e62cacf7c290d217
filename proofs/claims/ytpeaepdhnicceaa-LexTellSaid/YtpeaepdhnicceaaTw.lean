/- What lex.Tell's iterator does: the walk (2). -/
import Derived.Test.YtpeaepdhnicceaaTe
namespace Go.Proofs.Ytpeaepdhnicceaa.Wk
open Go.RowKit Go.Shelf Go.Proofs.Ytpeaepdhnicceaa.PBase Go.Proofs.YtpeaepdhnicceaaW.PrintWords Go.Proofs.YtpeaepdhnicceaaW.PrintLast Go.Proofs.YtpeaepdhnicceaaW.PrintMore
attribute [local go_sem] Oper.semAt_some
theorem new_tok (w : World) (k : Int) (x : ByteArray) (a : Nat) : Below w.heap.size w (w.alloc (.cells #[.int .u8 k, .string x, .int .i64 a] 31)) := (Below.refl _ _).alloc (Nat.le_refl _) _
set_option maxHeartbeats 2000000 in
set_option maxRecDepth 100000 in
theorem tell_long (s : ByteArray) (hs : 4096 < s.size) (Bn : Nat) (S : Nat → Prop) (w : World) (hBn : w.heap[Bn]? = some (.cells #[.string s] 9 (0, 0))) (hS : S Bn) (hSl : ∀ k, S k → k < w.heap.size) :
    SeqStopsK Fence.wide 101 Try.prog 19 #[.pointer (some ⟨Bn, 0, none⟩)] encE (Stay S) (fun l => l = told s) (fun l => l <+: told s) 4098 w := fun l J Jx W hW hJ hJx hY h0 => by
  have hstay0 : Stay S w W := fun k hk => hW.block k (hSl k hk)
  have hd : decide ((4096 : Int) < (s.size : Int)) = true := decide_eq_true (by omega)
  have ht : told s = [(0, [], 0, 3)] := if_pos hs
  have HT := Aside0.mk ht
  have HY := Aside0.mk hY
  have HJ := Aside0.mk hJ
  have H0 := Aside0.mk h0
  have c1 : W.cell? ⟨Bn, 0, none⟩ = some (.string s) := blk_cell ((hstay0 Bn hS).trans hBn) 0
  clear hY hJ hJx hSl hS hBn hW h0 ht
  refine callsIn_of_wp Try.func19 rfl trivial ?_ rfl
  simp only [Try.ntmps19, List.size_toArray, List.length_cons, List.length_nil, Nat.reduceAdd, Nat.reduceSub, Array.replicate_succ, Array.replicate_zero, List.push_toArray, List.append_toArray, List.nil_append, List.cons_append]
  obtain ⟨fn, tmps, assign, body, hy, hR⟩ := HY.out [] (0, [], 0, 3) W H0.out (by simp)
  rw [show encE (0, [], 0, 3) = #[.agg #[.int .u8 0, .string ⟨#[]⟩, .int .i64 0], .int .i64 3] from rfl] at hy
  have HR1 := Aside0.mk hR
  clear hR
  gi_wp2
  refine HR1.out.mono ?_
  rintro e W3 (⟨rfl, hJ3, hk3⟩ | ⟨rfl, hJx3⟩)
  · have HJ3 := Aside0.mk hJ3
    clear hJ3 hk3
    gi_wp2
    refine bodyPost_ret (results_none rfl _ _ _) rfl ?_
    exact ⟨⟨_, rfl⟩, .inl ⟨_, HT.out.symm, HJ3.out⟩⟩
  · have HJ3 := Aside0.mk hJx3
    clear hJx3
    gi_wp2
    refine bodyPost_ret (results_none rfl _ _ _) rfl ?_
    exact ⟨⟨_, rfl⟩, .inr ⟨_, by rw [HT.out]; exact List.prefix_refl _, HJ3.out⟩⟩
set_option maxHeartbeats 2000000 in
set_option maxRecDepth 100000 in
theorem tell_short (s : ByteArray) (hs : s.size ≤ 4096) (Bn : Nat) (S : Nat → Prop) (w : World) (hBn : w.heap[Bn]? = some (.cells #[.string s] 9 (0, 0))) (hS : S Bn) (hSl : ∀ k, S k → k < w.heap.size) :
    SeqStopsK Fence.wide 101 Try.prog 19 #[.pointer (some ⟨Bn, 0, none⟩)] encE (Stay S) (fun l => l = told s) (fun l => l <+: told s) 4098 w := fun l J Jx W hW hJ hJx hY h0 => by
  have hstay0 : Stay S w W := fun k hk => hW.block k (hSl k hk)
  have hd : decide ((4096 : Int) < (s.size : Int)) = false := decide_eq_false (by omega)
  have HT := Aside0.mk (show told s = els (Lx.toks (s.size + 1) 0 (L s)) from if_neg (by omega))
  have HY := Aside0.mk hY
  have HJ := Aside0.mk hJ
  have H0 := Aside0.mk h0
  have HSl := Aside0.mk hSl
  have HBn := Aside0.mk hBn
  have HS := Aside0.mk hS
  have HS0 := Aside0.mk hstay0
  have c1 : W.cell? ⟨Bn, 0, none⟩ = some (.string s) := blk_cell ((hstay0 Bn hS).trans hBn) 0
  clear hY hJ hJx hSl hS hBn hW h0 hstay0
  refine callsIn_of_wp Try.func19 rfl trivial ?_ rfl
  simp only [Try.ntmps19, List.size_toArray, List.length_cons, List.length_nil, Nat.reduceAdd, Nat.reduceSub, Array.replicate_succ, Array.replicate_zero, List.push_toArray, List.append_toArray, List.nil_append, List.cons_append]
  gi_wp2
  refine ⟨trivial, callsIn_wide.2 ?_⟩
  refine (skip_any s 0 hs (Nat.zero_le _) _).mono ?_
  rintro e w1 ⟨rfl, hd1⟩
  have HJ1 := Aside0.mk (HJ.out [] W w1 none H0.out (grown_of_below hd1.below) (fun r e => by cases e))
  have HS1 := Aside0.mk (HS0.out.trans (fun k hk => hd1.below.block k (heap_lt (HS0.out k hk) (HSl.out k hk))))
  clear hd1 c1
  gi_wp2
  gi_loopw [3] (fun v wr => ∃ (pre : List El) (a k p : Nat), v = .int .i64 (p : Int) ∧ a ≤ p ∧ p ≤ s.size ∧ s.size + 1 ≤ a + k ∧ Aside0 (p = a + Lx.skip false ((L s).drop a)) ∧ Aside0 (told s = pre ++ els (Lx.toks k a ((L s).drop a)) ∧ pre.length ≤ a) ∧ Aside0 (J pre wr) ∧ Aside0 (Stay S w wr)) (fun v _ => s.size + 1 - (intOf v).toNat)
  case atStart =>
    have := Lx.skip_le false (L s)
    rw [L_len] at this
    exact ⟨[], 0, s.size + 1, Lx.skip false (L s), by simp, Nat.zero_le _, this, by omega, ⟨by simp⟩, ⟨⟨by rw [HT.out]; rfl, Nat.zero_le _⟩⟩, HJ1, HS1⟩
  case round =>
    clear HJ1 HS1 H0 HS0
    obtain ⟨pre, a, k, p, rfl, hap, hple, hk, HPA, HP, HJ0, HSt⟩ := hrel
    have c1 : wr.cell? ⟨Bn, 0, none⟩ = some (.string s) := blk_cell ((HSt.out Bn HS.out).trans HBn.out) 0
    obtain ⟨k, rfl⟩ : ∃ k', k = k' + 1 := ⟨k - 1, by omega⟩
    have hdd : ((L s).drop a).drop (Lx.skip false ((L s).drop a)) = (L s).drop p := by rw [List.drop_drop, ← HPA.out]
    have hP := HP.out
    by_cases hlt : p < s.size
    · have hne : ((L s).drop a).drop (Lx.skip false ((L s).drop a)) ≠ [] := by rw [hdd, L_drop hlt]; simp
      obtain ⟨x, hx⟩ : ∃ x, x = Lx.one ((L s).drop p) := ⟨_, rfl⟩
      have hle := one_le ((L s).drop p)
      rw [List.length_drop, L_len, ← hx] at hle
      have HONE := Aside0.mk (fun W => one_any s p hs hlt W)
      rw [← hx] at HONE
      unfold tokR tokV at HONE
      obtain ⟨xk, xt, xn⟩ := x
      simp only [] at HONE hle
      by_cases h0 : xn = 0
      · rw [toks_bad hne (by rw [hdd, ← hx]; exact h0), ← HPA.out] at hP
        have HP2 := Aside0.mk hP
        have HX := Aside0.mk hx
        clear hP hx hne hdd
        subst h0
        gi_wp2
        refine ⟨trivial, callsIn_wide.2 ?_⟩
        refine (HONE.out _).mono ?_
        rintro e w2 ⟨rfl, hb2⟩
        have HB3 := Aside0.mk (below_step hb2 (new_tok w2 (xk : Int) ⟨xt.toArray⟩ p))
        have hlt2 : Bn < wr.heap.size := heap_lt ((HSt.out Bn HS.out)) (HSl.out Bn HS.out)
        obtain ⟨fn, tmps, assign, body, hy, hR⟩ := HY.out pre (0, [], p, 90) _ (HJ.out pre wr _ none HJ0.out (grown_of_below HB3.out) (fun r e => by cases e)) (by have := HP.out.2; omega)
        rw [show encE (0, [], p, 90) = #[.agg #[.int .u8 0, .string ⟨#[]⟩, .int .i64 p], .int .i64 90] from rfl] at hy
        have HR1 := Aside0.mk hR
        clear hR
        gi_wp2
        refine HR1.out.mono ?_
        rintro e W3 (⟨rfl, hJ3, hk3⟩ | ⟨rfl, hJx3⟩)
        · have HJ3 := Aside0.mk hJ3
          clear hJ3 hk3
          gi_wp2
          refine bodyPost_ret (results_none rfl _ _ _) rfl ?_
          exact ⟨⟨_, rfl⟩, .inl ⟨_, HP2.out.1.symm, HJ3.out⟩⟩
        · have HJ3 := Aside0.mk hJx3
          clear hJx3
          gi_wp2
          refine bodyPost_ret (results_none rfl _ _ _) rfl ?_
          exact ⟨⟨_, rfl⟩, .inr ⟨_, by rw [HP2.out.1]; exact List.prefix_refl _, HJ3.out⟩⟩
      · rw [toks_next hne (by rw [hdd, ← hx]; exact h0), ← HPA.out, hdd, ← hx, els_cons] at hP
        simp only [List.drop_drop] at hP
        have HP2 := Aside0.mk hP
        have HX := Aside0.mk hx
        clear hP hx hne hdd
        have c9 : ((xn : Int) == 0) = false := beq_eq_false_iff_ne.mpr (by omega)
        gi_wp2
        refine ⟨trivial, callsIn_wide.2 ?_⟩
        refine (HONE.out _).mono ?_
        rintro e w2 ⟨rfl, hb2⟩
        have HB3 := Aside0.mk (below_step hb2 (new_tok w2 (xk : Int) ⟨xt.toArray⟩ p))
        obtain ⟨fn, tmps, assign, body, hy, hR⟩ := HY.out pre (xk, xt, p, 0) _ (HJ.out pre wr _ none HJ0.out (grown_of_below HB3.out) (fun r e => by cases e)) (by have := HP.out.2; omega)
        rw [show encE (xk, xt, p, 0) = #[.agg #[.int .u8 (xk : Int), .string ⟨xt.toArray⟩, .int .i64 p], .int .i64 0] from rfl] at hy
        have HR1 := Aside0.mk hR
        have HSt2 := Aside0.mk (HSt.out.trans (fun k hk => HB3.out.block k (heap_lt (HSt.out k hk) (HSl.out k hk))))
        clear hR
        gi_wp2
        refine HR1.out.mono ?_
        rintro e W3 (⟨rfl, hJ3, hk3⟩ | ⟨rfl, hJx3⟩)
        · have HJ3 := Aside0.mk hJ3
          have HSt3 := Aside0.mk (HSt2.out.trans hk3)
          have c3 : W3.cell? ⟨Bn, 0, none⟩ = some (.string s) := blk_cell ((HSt3.out Bn HS.out).trans HBn.out) 0
          have hsk := Lx.skip_le false ((L s).drop (p + xn))
          rw [List.length_drop, L_len] at hsk
          clear hJ3 hk3
          gi_wp2
          refine ⟨trivial, callsIn_wide.2 ?_⟩
          refine (skip_any s (p + xn) hs (by omega) _).mono ?_
          rintro e w4 ⟨rfl, hd4⟩
          have HJ4 := Aside0.mk (HJ.out _ W3 w4 none HJ3.out (grown_of_below hd4.below) (fun r e => by cases e))
          have HSt4 := Aside0.mk (HSt3.out.trans (fun k hk => hd4.below.block k (heap_lt (HSt3.out k hk) (HSl.out k hk))))
          clear hd4
          gi_wp2
          go_roundw
          case rel => exact ⟨pre ++ [(xk, xt, p, 0)], p + xn, k, _, rfl, by omega, by omega, by omega, ⟨rfl⟩, ⟨⟨by rw [HP2.out.1, List.append_assoc]; rfl, by have := HP.out.2; rw [List.length_append]; simp; omega⟩⟩, HJ4, HSt4⟩
          case measure => simp [intOf]; omega
        · have HJ3 := Aside0.mk hJx3
          clear hJx3
          gi_wp2
          refine bodyPost_ret (results_none rfl _ _ _) rfl ?_
          exact ⟨⟨_, rfl⟩, .inr ⟨_, by rw [HP2.out.1]; exact (List.prefix_append_right_inj _).mpr (List.cons_prefix_cons.mpr ⟨rfl, List.nil_prefix⟩), HJ3.out⟩⟩
    · rw [toks_end (by rw [hdd, L_end (by omega)])] at hP
      have HP2 := Aside0.mk hP
      clear hP hdd
      gi_wp2
      go_end0
      exact ⟨⟨_, rfl⟩, .inl ⟨pre, by rw [HP2.out.1]; simp [els], HJ0.out⟩⟩
end Go.Proofs.Ytpeaepdhnicceaa.Wk
