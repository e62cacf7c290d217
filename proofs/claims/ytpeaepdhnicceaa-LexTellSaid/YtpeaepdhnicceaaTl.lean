/- What LexTell does: the walk. -/
import Derived.Test.YtpeaepdhnicceaaTlS
import Derived.Test.YtpeaepdhnicceaaTk
namespace Go.Proofs.Ytpeaepdhnicceaa.Wk
open Go.RowKit Go.Shelf Go.Proofs.Ytpeaepdhnicceaa.Rgl Go.Proofs.Ytpeaepdhnicceaa.PTy Go.Proofs.Ytpeaepdhnicceaa.PBase Go.Proofs.YtpeaepdhnicceaaW.PrintWords Go.Proofs.YtpeaepdhnicceaaW.PrintLast Go.Proofs.YtpeaepdhnicceaaW.PrintMore
attribute [local go_sem] Oper.semAt_some
theorem res4 {tmps : Array Value} {W : World} {a : Addr} {v0 : Value} (h4 : tmps.getD 4 undef = .pointer (some a)) (c0 : W.cell? a = some v0) : (results Try.f4 tmps).run Try.prog W = .ok v0 W := by
  have h4' : tmps[4]?.getD undef = .pointer (some a) := by simpa using h4
  simp [results, h4', asAddr, loadVar, Sem.run_bind, Try.isAgg4, c0, go_sem]
theorem nil36 (v : Array Value) (W : World) : (binOp BinOp.eql 36 (Value.func (Fn.func 19) #[] v) Value.nilFunc).run Try.prog W = .ok (.bool false) W := by
  have e : (Op.equal 36 (Value.func (Fn.func 19) #[] v) Value.nilFunc).run Try.prog W = .ok false W := by kernel_rfl
  simp [binOp, e, go_sem]
attribute [local go_sem] nil36
attribute [local go_sem high] eqA31
set_option maxRecDepth 100000 in
set_option maxHeartbeats 4000000 in
theorem ltell_few (s : ByteArray) (hs : s.size ≤ 8000) (stop : Int) (w : World) :
    Calls Try.prog 4 #[.string s, .int .i64 stop] w fun e w' => e = .returned (.bool true) ∧ Below w.heap.size w w' := by
  have hd8 : decide ((8000 : Int) < (s.size : Int)) = false := decide_eq_false (by omega)
  refine (callsIn_wide (n := 102)).1 ?_
  refine callsIn_of_wp_marks Try.func4 rfl trivial ?_ rfl
  simp only [Try.ntmps4, List.size_toArray, List.length_cons, List.length_nil, Nat.reduceAdd, Nat.reduceSub, Array.replicate_succ, Array.replicate_zero, List.push_toArray, List.append_toArray, List.nil_append, List.cons_append]
  gi_wp2
  refine ⟨trivial, callsIn_wide.2 ?_⟩
  refine (all_any s (by omega) _).mono ?_
  rintro e w1 ⟨⟨v, rfl, hR⟩, hb⟩
  generalize hA : allF s = r at *
  obtain ⟨l, at', e⟩ := r
  have HA := Aside0.mk hA
  obtain ⟨A, c, rfl, hc, _⟩ := Kd.R_reads hR
  have HR := Aside0.mk hR
  have HB := Aside0.mk hb
  have HC := Aside0.mk hc
  clear hR hb hA hc
  gi_wp2_with (refine ⟨trivial, ?_⟩; gi_at_call 13; refine (callsIn_wide.2 (tell_any _ _)).mono ?_; rintro e w' ⟨rfl, rfl⟩)
  obtain ⟨W0, hW0, hst, hbn, hsz⟩ := six w w1 stop (.slice A l.length c) l at' e s HB.out HR.out
  have HBN := Aside0.mk hbn
  simp only [Nat.add_assoc, Nat.reduceAdd]
  rw [← hW0]
  refine range_toldH rfl (by decide) (gf := 19) (lb := #[.pointer (some ⟨w1.heap.size + 3, 0, none⟩)]) rfl trivial (enters_of Try.func19 (by kernel_rfl) rfl)
    (tell_gives s (w1.heap.size + 3) (fun k => k = w1.heap.size + 3) W0 hbn rfl (fun k hk => by omega)) (fun _ {_ _ _} h1 h2 => Stay.trans h1 h2)
    (fun x W l o o' hll _ _ k hk => World.putObj_heap_other (by omega)) (fun _ => rfl)
    (TS w w1.heap.size stop (.slice A l.length c) l at' e) (fun c => match c with | .ret => TX w | _ => fun _ _ => False)
    (TS.own _ _ _ _ _ _ _ _ (by omega)) (fun c => by cases c <;> first | exact TX.own _ _ (by have := hst.lo; omega) | exact fun _ _ _ _ h _ _ => h) hst
    (fun x a' W => ∃ b, a' = { tmps := #[.string s, .int .i64 stop, undef, .pointer (some ⟨w.heap.size, 0, none⟩), .pointer (some ⟨w.heap.size + 1, 0, none⟩), .pointer (some ⟨w1.heap.size, 0, none⟩), .pointer (some ⟨w1.heap.size + 1, 0, none⟩), .pointer (some ⟨w1.heap.size + 2, 0, none⟩), .func (.func 19) #[] #[.pointer (some ⟨w1.heap.size + 3, 0, none⟩)], .pointer (some ⟨w1.heap.size + 4, 0, none⟩), .pointer (some ⟨w1.heap.size + 5, 0, none⟩), .pointer (some ⟨b, 0, none⟩), .int .i64 (x.2.2.2 : Int), .string s, .int .i64 (s.size : Int), .bool false, .tuple #[.slice A l.length c, .int .i64 at', .int .i64 e], .string s, .tuple #[.slice A l.length c, .int .i64 at', .int .i64 e], .slice A l.length c, .int .i64 at', .int .i64 e, .string s, .func (.func 19) #[] #[.pointer (some ⟨w1.heap.size + 3, 0, none⟩)], .func (.func 19) #[] #[.pointer (some ⟨w1.heap.size + 3, 0, none⟩)], .bool false, .func (.func 19) #[] #[.pointer (some ⟨w1.heap.size + 3, 0, none⟩)], .agg #[.int .u8 x.1, .string ⟨x.2.1.toArray⟩, .int .i64 x.2.2.1], .int .i64 (x.2.2.2 : Int), undef, undef, undef, undef, undef, undef, undef, undef, undef, undef, undef, undef, undef, undef, undef, undef, undef, undef, undef, undef, undef, undef, undef, undef, undef, undef, undef, undef, undef, undef, undef, undef, undef, undef, undef, undef, undef, undef, undef, undef, undef, undef, undef, undef, undef, undef], defers := [] } ∧ W.heap[b]? = some (.cells #[.int .u8 x.1, .string ⟨x.2.1.toArray⟩, .int .i64 x.2.2.1] 31 (0, 0)))
    (fun x a' _ W W' row h hg hr => by obtain ⟨b, h1, h2⟩ := h; exact ⟨b, h1, cells_stay h2 hg (fun r e => (hr r e).2)⟩) ?assign ?body ?done ?stop
  case assign =>
    intro l' pre x W K _ hI hK
    dsimp only [encE]
    gi_wp2
    exact hK _ _ (KeepsFrom.of_grownBy (World.grownBy_alloc W _ none) (fun j e => by cases e)) (fun k hk => Below.heap_alloc W _ k (by have := hI.big; omega)) (TS.own _ _ _ _ _ _ _ _ (Nat.le_refl _) pre W _ none hI (World.grownBy_alloc W _ none) (fun r e => by cases e)) ⟨W.heap.size, rfl, heap_alloc_new W _⟩
  case body =>
    rintro l' pre x a' W _ hI hlen ⟨b, rfl, hb⟩
    have HI := Aside0.mk hI
    have HBk := Aside0.mk hb
    have HL := Aside0.mk hlen
    have hpf : (pre.any fun x => decide (x.2.2.2 ≠ 0)) = false := by
      rw [List.any_eq_false]; intro y hy; simp [pre_ok hlen y hy]
    have x0 : W.cell? ⟨b, 0, none⟩ = some (.int .u8 (x.1 : Int)) := blk_cell hb 0
    have x1 : W.cell? ⟨b, 1, none⟩ = some (.string ⟨x.2.1.toArray⟩) := blk_cell hb 1
    have x2 : W.cell? ⟨b, 2, none⟩ = some (.int .i64 (x.2.2.1 : Int)) := blk_cell hb 2
    have y3 : W.cell? ⟨w.heap.size, 0, none⟩ = some (.int .i64 stop) := blk_cell hI.b3 0
    have y5 : W.cell? ⟨w1.heap.size, 0, none⟩ = some (.slice A l.length c) := blk_cell hI.b5 0
    have y6 : W.cell? ⟨w1.heap.size + 1, 0, none⟩ = some (.int .i64 at') := blk_cell hI.b6 0
    have y7 : W.cell? ⟨w1.heap.size + 2, 0, none⟩ = some (.int .i64 e) := blk_cell hI.b7 0
    have yk : W.cell? ⟨w1.heap.size + 4, 0, none⟩ = some (.int .i64 (pre.length : Int)) := blk_cell hI.bk 0
    have fk := blk_frozen hI.bk 0
    have yf : W.cell? ⟨w1.heap.size + 5, 0, none⟩ = some (.bool false) := by rw [← hpf]; exact blk_cell hI.bf 0
    have ff := blk_frozen hI.bf 0
    obtain ⟨r0, h4⟩ := hI.b4
    have y4 : W.cell? ⟨w.heap.size + 1, 0, none⟩ = some (.bool r0) := blk_cell h4 0
    have f4 := blk_frozen h4 0
    have nb5 : b ≠ w1.heap.size + 5 := blk_ne hb hI.bf (by decide)
    have nb5' : w1.heap.size + 5 ≠ b := fun h => nb5 h.symm
    have nb4 : b ≠ w1.heap.size + 4 := blk_ne hb hI.bk (by decide)
    have nb4' : w1.heap.size + 4 ≠ b := fun h => nb4 h.symm
    have hlo := hI.lo
    have hpl : pre.length ≤ 8002 := by have h9 := hlen.length_le; have h8 := told_len s hs; rw [List.length_append] at h9; omega
    have H4 := Aside0.mk h4
    clear hI hb hlen h4 hpf
    by_cases he : x.2.2.2 = 0
    · have c0 : (((x.2.2.2 : Nat) : Int) != 0) = false := bne_eq_false_iff_eq.mpr (by omega)
      by_cases h0 : e = 0
      · subst h0
        have g0 := good_at HL.out he (by rw [HA.out])
        rw [HA.out] at g0
        have hlt : pre.length < l.length := (List.getElem?_eq_some_iff.1 g0).1
        have rdx : rd_T31 l (pre.length : Int) = tokS x := by simp [rd_T31, g0]
        obtain ⟨ad, rfl, z0, z1, z2⟩ := at_T31 (Kd.R_reads' HI.out.row).2.2 (pre.length : Int) (by omega) (by omega)
        rw [rdx] at z0 z1 z2
        dsimp only [tokS] at z0 z1 z2
        simp only [Int.toNat_natCast] at z0 z1 z2
        have p0 : (0 ≤ (pre.length : Int)) = True := eq_true (by omega)
        have q0 : ((pre.length : Int) < (l.length : Int)) = True := eq_true (by omega)
        have q1 : ((l.length : Int) ≤ (pre.length : Int)) = False := eq_false (by omega)
        have q2 : (l.length ≤ pre.length) = False := eq_false (by omega)
        have q3 : (pre.length < l.length) = True := eq_true (by omega)
        clear hlt g0 rdx
        gi_wp2
        have hS : (fun W' : World => W'.cell? ⟨w1.heap.size, 0, none⟩ = some (.slice (some ad) l.length c) ∧ W'.cell? ⟨w1.heap.size + 1, 0, none⟩ = some (.int .i64 at') ∧ W'.cell? ⟨w1.heap.size + 2, 0, none⟩ = some (.int .i64 0) ∧ W'.cell? ⟨w1.heap.size + 4, 0, none⟩ = some (.int .i64 (pre.length : Int)) ∧ W'.cell? ⟨b, 0, none⟩ = some (.int .u8 (x.1 : Int)) ∧ W'.cell? ⟨b, 1, none⟩ = some (.string ⟨x.2.1.toArray⟩) ∧ W'.cell? ⟨b, 2, none⟩ = some (.int .i64 (x.2.2.1 : Int)) ∧ W'.cell? (ad.add (pre.length * 3)) = some (.int .u8 (x.1 : Int)) ∧ W'.cell? ⟨(ad.add (pre.length * 3)).block, (ad.add (pre.length * 3)).off + 1, none⟩ = some (.string ⟨x.2.1.toArray⟩) ∧ W'.cell? ⟨(ad.add (pre.length * 3)).block, (ad.add (pre.length * 3)).off + 2, none⟩ = some (.int .i64 (x.2.2.1 : Int))) W.drew := ⟨y5, y6, y7, yk, x0, x1, x2, z0, z1, z2⟩
        refine Tkl.region_round (by kernel_rfl) (by kernel_rfl) (by rintro ⟨_, _, h⟩; exact h) (fun W' : World => W'.cell? ⟨w1.heap.size, 0, none⟩ = some (.slice (some ad) l.length c) ∧ W'.cell? ⟨w1.heap.size + 1, 0, none⟩ = some (.int .i64 at') ∧ W'.cell? ⟨w1.heap.size + 2, 0, none⟩ = some (.int .i64 0) ∧ W'.cell? ⟨w1.heap.size + 4, 0, none⟩ = some (.int .i64 (pre.length : Int)) ∧ W'.cell? ⟨b, 0, none⟩ = some (.int .u8 (x.1 : Int)) ∧ W'.cell? ⟨b, 1, none⟩ = some (.string ⟨x.2.1.toArray⟩) ∧ W'.cell? ⟨b, 2, none⟩ = some (.int .i64 (x.2.2.1 : Int)) ∧ W'.cell? (ad.add (pre.length * 3)) = some (.int .u8 (x.1 : Int)) ∧ W'.cell? ⟨(ad.add (pre.length * 3)).block, (ad.add (pre.length * 3)).off + 1, none⟩ = some (.string ⟨x.2.1.toArray⟩) ∧ W'.cell? ⟨(ad.add (pre.length * 3)).block, (ad.add (pre.length * 3)).off + 2, none⟩ = some (.int .i64 (x.2.2.1 : Int))) ?_
        refine Tkl.tk_take 0 41 (v := ?_) rfl rfl (by kernel_rfl) (by kernel_rfl) (by kernel_rfl) (fun _ _ _ h => h) (by rfl) (by assumption) ?_ ?_
        rotate_left
        · (rintro w ⟨s5, s6, s7, sk, sx0, sx1, sx2, sz0, sz1, sz2⟩; go_simp; all_goals with_reducible rfl)
        try simp only [Act.put, List.setIfInBounds_toArray, List.set_cons_zero, List.set_cons_succ]
        refine Tkl.tk_take 1 42 (v := ?_) rfl rfl (by kernel_rfl) (by kernel_rfl) (by kernel_rfl) (fun _ _ _ h => h) (by rfl) (by assumption) ?_ ?_
        rotate_left
        · (rintro w ⟨s5, s6, s7, sk, sx0, sx1, sx2, sz0, sz1, sz2⟩; go_simp; all_goals with_reducible rfl)
        try simp only [Act.put, List.setIfInBounds_toArray, List.set_cons_zero, List.set_cons_succ]
        refine Tkl.tk_take 2 43 (v := ?_) rfl rfl (by kernel_rfl) (by kernel_rfl) (by kernel_rfl) (fun _ _ _ h => h) (by rfl) (by assumption) ?_ ?_
        rotate_left
        · (rintro w ⟨s5, s6, s7, sk, sx0, sx1, sx2, sz0, sz1, sz2⟩; go_simp; all_goals with_reducible rfl)
        try simp only [Act.put, List.setIfInBounds_toArray, List.set_cons_zero, List.set_cons_succ]
        refine Tkl.tk_take 3 44 (v := ?_) rfl rfl (by kernel_rfl) (by kernel_rfl) (by kernel_rfl) (fun _ _ _ h => h) (by rfl) (by assumption) ?_ ?_
        rotate_left
        · (rintro w ⟨s5, s6, s7, sk, sx0, sx1, sx2, sz0, sz1, sz2⟩; go_simp; all_goals with_reducible rfl)
        try simp only [Act.put, List.setIfInBounds_toArray, List.set_cons_zero, List.set_cons_succ]
        refine Tkl.tk_take 4 45 (v := ?_) rfl rfl (by kernel_rfl) (by kernel_rfl) (by kernel_rfl) (fun _ _ _ h => h) (by rfl) (by assumption) ?_ ?_
        rotate_left
        · (rintro w ⟨s5, s6, s7, sk, sx0, sx1, sx2, sz0, sz1, sz2⟩; go_simp; all_goals with_reducible rfl)
        try simp only [Act.put, List.setIfInBounds_toArray, List.set_cons_zero, List.set_cons_succ]
        refine Tkl.tk_take 5 46 (v := ?_) rfl rfl (by kernel_rfl) (by kernel_rfl) (by kernel_rfl) (fun _ _ _ h => h) (by rfl) (by assumption) ?_ ?_
        rotate_left
        · (rintro w ⟨s5, s6, s7, sk, sx0, sx1, sx2, sz0, sz1, sz2⟩; go_simp; all_goals with_reducible rfl)
        try simp only [Act.put, List.setIfInBounds_toArray, List.set_cons_zero, List.set_cons_succ]
        refine Tkl.tk_take 6 47 (v := ?_) rfl rfl (by kernel_rfl) (by kernel_rfl) (by kernel_rfl) (fun _ _ _ h => h) (by rfl) (by assumption) ?_ ?_
        rotate_left
        · (rintro w ⟨s5, s6, s7, sk, sx0, sx1, sx2, sz0, sz1, sz2⟩; go_simp; all_goals with_reducible rfl)
        try simp only [Act.put, List.setIfInBounds_toArray, List.set_cons_zero, List.set_cons_succ]
        refine Tkl.tk_take 7 48 (v := ?_) rfl rfl (by kernel_rfl) (by kernel_rfl) (by kernel_rfl) (fun _ _ _ h => h) (by rfl) (by assumption) ?_ ?_
        rotate_left
        · (rintro w ⟨s5, s6, s7, sk, sx0, sx1, sx2, sz0, sz1, sz2⟩; go_simp; all_goals with_reducible rfl)
        try simp only [Act.put, List.setIfInBounds_toArray, List.set_cons_zero, List.set_cons_succ]
        refine Tkl.tk_take 8 49 (v := ?_) rfl rfl (by kernel_rfl) (by kernel_rfl) (by kernel_rfl) (fun _ _ _ h => h) (by rfl) (by assumption) ?_ ?_
        rotate_left
        · (rintro w ⟨s5, s6, s7, sk, sx0, sx1, sx2, sz0, sz1, sz2⟩; go_simp; all_goals with_reducible rfl)
        try simp only [Act.put, List.setIfInBounds_toArray, List.set_cons_zero, List.set_cons_succ]
        refine Tkl.tk_take 9 50 (v := ?_) rfl rfl (by kernel_rfl) (by kernel_rfl) (by kernel_rfl) (fun _ _ _ h => h) (by rfl) (by assumption) ?_ ?_
        rotate_left
        · (rintro w ⟨s5, s6, s7, sk, sx0, sx1, sx2, sz0, sz1, sz2⟩; go_simp; all_goals with_reducible rfl)
        try simp only [Act.put, List.setIfInBounds_toArray, List.set_cons_zero, List.set_cons_succ]
        refine Tkl.tk_take 10 51 (v := ?_) rfl rfl (by kernel_rfl) (by kernel_rfl) (by kernel_rfl) (fun _ _ _ h => h) (by rfl) (by assumption) ?_ ?_
        rotate_left
        · (rintro w ⟨s5, s6, s7, sk, sx0, sx1, sx2, sz0, sz1, sz2⟩; go_simp; all_goals with_reducible rfl)
        try simp only [Act.put, List.setIfInBounds_toArray, List.set_cons_zero, List.set_cons_succ]
        refine Tkl.tk_take 11 52 (v := ?_) rfl rfl (by kernel_rfl) (by kernel_rfl) (by kernel_rfl) (fun _ _ _ h => h) (by rfl) (by assumption) ?_ ?_
        rotate_left
        · (rintro w ⟨s5, s6, s7, sk, sx0, sx1, sx2, sz0, sz1, sz2⟩; go_simp; all_goals with_reducible rfl)
        try simp only [Act.put, List.setIfInBounds_toArray, List.set_cons_zero, List.set_cons_succ]
        refine Tkl.tk_take 12 53 (v := ?_) rfl rfl (by kernel_rfl) (by kernel_rfl) (by kernel_rfl) (fun _ _ _ h => h) (by rfl) (by assumption) ?_ ?_
        rotate_left
        · (rintro w ⟨s5, s6, s7, sk, sx0, sx1, sx2, sz0, sz1, sz2⟩; go_simp; all_goals with_reducible rfl)
        try simp only [Act.put, List.setIfInBounds_toArray, List.set_cons_zero, List.set_cons_succ]
        refine Tkl.tk_take 13 54 (v := ?_) rfl rfl (by kernel_rfl) (by kernel_rfl) (by kernel_rfl) (fun _ _ _ h => h) (by rfl) (by assumption) ?_ ?_
        rotate_left
        · (rintro w ⟨s5, s6, s7, sk, sx0, sx1, sx2, sz0, sz1, sz2⟩; go_simp; all_goals with_reducible rfl)
        try simp only [Act.put, List.setIfInBounds_toArray, List.set_cons_zero, List.set_cons_succ]
        refine Tkl.tk_take 14 55 (v := ?_) rfl rfl (by kernel_rfl) (by kernel_rfl) (by kernel_rfl) (fun _ _ _ h => h) (by rfl) (by assumption) ?_ ?_
        rotate_left
        · (rintro w ⟨s5, s6, s7, sk, sx0, sx1, sx2, sz0, sz1, sz2⟩; go_simp; all_goals with_reducible rfl)
        try simp only [Act.put, List.setIfInBounds_toArray, List.set_cons_zero, List.set_cons_succ]
        refine Tkl.tk_take 15 56 (v := ?_) rfl rfl (by kernel_rfl) (by kernel_rfl) (by kernel_rfl) (fun _ _ _ h => h) (by rfl) (by assumption) ?_ ?_
        rotate_left
        · (rintro w ⟨s5, s6, s7, sk, sx0, sx1, sx2, sz0, sz1, sz2⟩; go_simp; all_goals with_reducible rfl)
        try simp only [Act.put, List.setIfInBounds_toArray, List.set_cons_zero, List.set_cons_succ]
        refine wpAnyH_done (by kernel_rfl) ?_ _
        all_goals gi_wp2
        · exact ⟨keeps_set (keeps_drew (keeps_set (KeepsFrom.refl _ _) (by omega) 0 _)) (by omega) 0 _, TX.lay (below_drew (HI.out.next he).below) (blk_drew (blk_far H4.out (by show w.heap.size + 1 ≠ w1.heap.size + 4; omega) _)) _⟩
        · refine ⟨keeps_drew (keeps_set (KeepsFrom.refl _ _) (by omega) 0 _), fun k hk => ?_, ?_⟩
          · subst hk
            exact Below.heap_setCell _ _ _ _ (by show w1.heap.size + 3 ≠ w1.heap.size + 4; omega)
          · exact TS.own _ _ _ _ _ _ _ _ (Nat.le_refl _) _ _ _ none (HI.out.next he) (grown_of_below (below_drew (Below.refl _ _))) (fun r e => by cases e)
      · have ce : (e == 0) = false := beq_eq_false_iff_ne.mpr h0
        clear h0
        gi_wp2
        have hS : (fun W' : World => W'.cell? ⟨w1.heap.size, 0, none⟩ = some (.slice A l.length c) ∧ W'.cell? ⟨w1.heap.size + 1, 0, none⟩ = some (.int .i64 at') ∧ W'.cell? ⟨w1.heap.size + 2, 0, none⟩ = some (.int .i64 e) ∧ W'.cell? ⟨w1.heap.size + 4, 0, none⟩ = some (.int .i64 (pre.length : Int)) ∧ W'.cell? ⟨b, 0, none⟩ = some (.int .u8 (x.1 : Int)) ∧ W'.cell? ⟨b, 1, none⟩ = some (.string ⟨x.2.1.toArray⟩) ∧ W'.cell? ⟨b, 2, none⟩ = some (.int .i64 (x.2.2.1 : Int))) W.drew := ⟨y5, y6, y7, yk, x0, x1, x2⟩
        refine Tkl.region_round (by kernel_rfl) (by kernel_rfl) (by rintro ⟨_, _, h⟩; exact h) (fun W' : World => W'.cell? ⟨w1.heap.size, 0, none⟩ = some (.slice A l.length c) ∧ W'.cell? ⟨w1.heap.size + 1, 0, none⟩ = some (.int .i64 at') ∧ W'.cell? ⟨w1.heap.size + 2, 0, none⟩ = some (.int .i64 e) ∧ W'.cell? ⟨w1.heap.size + 4, 0, none⟩ = some (.int .i64 (pre.length : Int)) ∧ W'.cell? ⟨b, 0, none⟩ = some (.int .u8 (x.1 : Int)) ∧ W'.cell? ⟨b, 1, none⟩ = some (.string ⟨x.2.1.toArray⟩) ∧ W'.cell? ⟨b, 2, none⟩ = some (.int .i64 (x.2.2.1 : Int))) ?_
        refine Tkl.tk_take 0 41 (v := ?_) rfl rfl (by kernel_rfl) (by kernel_rfl) (by kernel_rfl) (fun _ _ _ h => h) (by rfl) (by assumption) ?_ ?_
        rotate_left
        · (rintro w ⟨s5, s6, s7, sk, sx0, sx1, sx2⟩; go_simp; all_goals with_reducible rfl)
        try simp only [Act.put, List.setIfInBounds_toArray, List.set_cons_zero, List.set_cons_succ]
        refine Tkl.tk_take 1 42 (v := ?_) rfl rfl (by kernel_rfl) (by kernel_rfl) (by kernel_rfl) (fun _ _ _ h => h) (by rfl) (by assumption) ?_ ?_
        rotate_left
        · (rintro w ⟨s5, s6, s7, sk, sx0, sx1, sx2⟩; go_simp; all_goals with_reducible rfl)
        try simp only [Act.put, List.setIfInBounds_toArray, List.set_cons_zero, List.set_cons_succ]
        refine Tkl.tk_take 2 43 (v := ?_) rfl rfl (by kernel_rfl) (by kernel_rfl) (by kernel_rfl) (fun _ _ _ h => h) (by rfl) (by assumption) ?_ ?_
        rotate_left
        · (rintro w ⟨s5, s6, s7, sk, sx0, sx1, sx2⟩; go_simp; all_goals with_reducible rfl)
        try simp only [Act.put, List.setIfInBounds_toArray, List.set_cons_zero, List.set_cons_succ]
        refine Tkl.tk_skip 3 44 rfl rfl (by kernel_rfl) (by kernel_rfl) (by kernel_rfl) (fun _ _ _ h => h) (by rfl) (by assumption) ?_
        try simp only [Act.put, List.setIfInBounds_toArray, List.set_cons_zero, List.set_cons_succ]
        refine Tkl.tk_skip 4 45 rfl rfl (by kernel_rfl) (by kernel_rfl) (by kernel_rfl) (fun _ _ _ h => h) (by rfl) (by assumption) ?_
        try simp only [Act.put, List.setIfInBounds_toArray, List.set_cons_zero, List.set_cons_succ]
        refine Tkl.tk_skip 5 46 rfl rfl (by kernel_rfl) (by kernel_rfl) (by kernel_rfl) (fun _ _ _ h => h) (by rfl) (by assumption) ?_
        try simp only [Act.put, List.setIfInBounds_toArray, List.set_cons_zero, List.set_cons_succ]
        refine Tkl.tk_skip 6 47 rfl rfl (by kernel_rfl) (by kernel_rfl) (by kernel_rfl) (fun _ _ _ h => h) (by rfl) (by assumption) ?_
        try simp only [Act.put, List.setIfInBounds_toArray, List.set_cons_zero, List.set_cons_succ]
        refine Tkl.tk_skip 7 48 rfl rfl (by kernel_rfl) (by kernel_rfl) (by kernel_rfl) (fun _ _ _ h => h) (by rfl) (by assumption) ?_
        try simp only [Act.put, List.setIfInBounds_toArray, List.set_cons_zero, List.set_cons_succ]
        refine Tkl.tk_skip 8 49 rfl rfl (by kernel_rfl) (by kernel_rfl) (by kernel_rfl) (fun _ _ _ h => h) (by rfl) (by assumption) ?_
        try simp only [Act.put, List.setIfInBounds_toArray, List.set_cons_zero, List.set_cons_succ]
        refine Tkl.tk_skip 9 50 rfl rfl (by kernel_rfl) (by kernel_rfl) (by kernel_rfl) (fun _ _ _ h => h) (by rfl) (by assumption) ?_
        try simp only [Act.put, List.setIfInBounds_toArray, List.set_cons_zero, List.set_cons_succ]
        refine Tkl.tk_skip 10 51 rfl rfl (by kernel_rfl) (by kernel_rfl) (by kernel_rfl) (fun _ _ _ h => h) (by rfl) (by assumption) ?_
        try simp only [Act.put, List.setIfInBounds_toArray, List.set_cons_zero, List.set_cons_succ]
        refine Tkl.tk_skip 11 52 rfl rfl (by kernel_rfl) (by kernel_rfl) (by kernel_rfl) (fun _ _ _ h => h) (by rfl) (by assumption) ?_
        try simp only [Act.put, List.setIfInBounds_toArray, List.set_cons_zero, List.set_cons_succ]
        refine Tkl.tk_skip 12 53 rfl rfl (by kernel_rfl) (by kernel_rfl) (by kernel_rfl) (fun _ _ _ h => h) (by rfl) (by assumption) ?_
        try simp only [Act.put, List.setIfInBounds_toArray, List.set_cons_zero, List.set_cons_succ]
        refine Tkl.tk_skip 13 54 rfl rfl (by kernel_rfl) (by kernel_rfl) (by kernel_rfl) (fun _ _ _ h => h) (by rfl) (by assumption) ?_
        try simp only [Act.put, List.setIfInBounds_toArray, List.set_cons_zero, List.set_cons_succ]
        refine Tkl.tk_skip 14 55 rfl rfl (by kernel_rfl) (by kernel_rfl) (by kernel_rfl) (fun _ _ _ h => h) (by rfl) (by assumption) ?_
        try simp only [Act.put, List.setIfInBounds_toArray, List.set_cons_zero, List.set_cons_succ]
        refine Tkl.tk_take 15 56 (v := ?_) rfl rfl (by kernel_rfl) (by kernel_rfl) (by kernel_rfl) (fun _ _ _ h => h) (by rfl) (by assumption) ?_ ?_
        rotate_left
        · (rintro w ⟨s5, s6, s7, sk, sx0, sx1, sx2⟩; go_simp; all_goals with_reducible rfl)
        try simp only [Act.put, List.setIfInBounds_toArray, List.set_cons_zero, List.set_cons_succ]
        refine wpAnyH_done (by kernel_rfl) ?_ _
        all_goals gi_wp2
        · exact ⟨keeps_set (keeps_drew (keeps_set (KeepsFrom.refl _ _) (by omega) 0 _)) (by omega) 0 _, TX.lay (below_drew (HI.out.next he).below) (blk_drew (blk_far H4.out (by show w.heap.size + 1 ≠ w1.heap.size + 4; omega) _)) _⟩
        · refine ⟨keeps_drew (keeps_set (KeepsFrom.refl _ _) (by omega) 0 _), fun k hk => ?_, ?_⟩
          · subst hk
            exact Below.heap_setCell _ _ _ _ (by show w1.heap.size + 3 ≠ w1.heap.size + 4; omega)
          · exact TS.own _ _ _ _ _ _ _ _ (Nat.le_refl _) _ _ _ none (HI.out.next he) (grown_of_below (below_drew (Below.refl _ _))) (fun r e => by cases e)
    · have c0 : (((x.2.2.2 : Nat) : Int) != 0) = true := bne_iff_ne.mpr (by omega)
      obtain ⟨q1, q2, q3⟩ := bad_form HL.out he
      have q4 := HA.out.symm.trans q3
      have hat : at' = ((x.2.2.1 : Nat) : Int) := (Prod.mk.inj (Prod.mk.inj q4).2).1
      have hee : e = ((x.2.2.2 : Nat) : Int) := (Prod.mk.inj (Prod.mk.inj q4).2).2
      clear q3 q4
      gi_wp2
      · exact ⟨keeps_set (keeps_set (keeps_set (KeepsFrom.refl _ _) (by omega) 0 _) (by omega) 0 _) (by omega) 0 _, TX.lay (HI.out.bad he).below (blk_far (blk_far H4.out (by show w.heap.size + 1 ≠ w1.heap.size + 5; omega) _) (by show w.heap.size + 1 ≠ w1.heap.size + 4; omega) _) _⟩
      · refine ⟨keeps_set (keeps_set (KeepsFrom.refl _ _) (by omega) 0 _) (by omega) 0 _, fun k hk => ?_, HI.out.bad he⟩
        subst hk
        rw [Below.heap_setCell _ _ _ _ (by show w1.heap.size + 3 ≠ w1.heap.size + 4; omega), Below.heap_setCell _ _ _ _ (by show w1.heap.size + 3 ≠ w1.heap.size + 5; omega)]
  case done =>
    rintro D ys W hD hys hI hK
    subst hys
    have HI := Aside0.mk hI
    have hlo := hI.lo
    have y5 : W.cell? ⟨w1.heap.size, 0, none⟩ = some (.slice A l.length c) := blk_cell hI.b5 0
    have y7 : W.cell? ⟨w1.heap.size + 2, 0, none⟩ = some (.int .i64 e) := blk_cell hI.b7 0
    have yk : W.cell? ⟨w1.heap.size + 4, 0, none⟩ = some (.int .i64 ((told s).length : Int)) := blk_cell hI.bk 0
    have yf : W.cell? ⟨w1.heap.size + 5, 0, none⟩ = some (.bool ((told s).any fun x => decide (x.2.2.2 ≠ 0))) := blk_cell hI.bf 0
    obtain ⟨r0, h4⟩ := hI.b4
    have y4 : W.cell? ⟨w.heap.size + 1, 0, none⟩ = some (.bool r0) := blk_cell h4 0
    have f4 := blk_frozen h4 0
    have H4 := Aside0.mk h4
    have HX := Aside0.mk (TX.lay hI.below h4 [])
    have HK2 := Aside0.mk (show (W.setCell ⟨w.heap.size + 1, 0, none⟩ (.bool true)).heap[D]? = some (.deferred (some [])) from (Below.heap_setCell _ _ _ _ (by show D ≠ w.heap.size + 1; omega)).trans hK)
    have hDA := done_all s
    rw [HA.out] at hDA
    clear hI h4 hK
    rcases hDA with ⟨ha, he⟩ | ⟨ha, he, hl⟩
    all_goals rw [ha] at yf
    · have c1 : (e != 0) = true := bne_iff_ne.mpr he
      clear ha he
      gi_wp2
      refine ⟨by simp, .inl ⟨_, _, rfl, run_takeDeferred HK2.out, ?_⟩⟩
      refine ⟨_, res4 rfl (blk_cell (put_cell HX.out.out (by omega)) 0), rfl, ?_⟩
      exact HX.out.below.trans (belowK_b (w := w) (Nat.le_refl _) _ D _ _ (by omega) HK2.out rfl rfl)
    · have c1 : (e != 0) = false := bne_eq_false_iff_eq.mpr he
      have c2 : (((told s).length : Int) == (l.length : Int)) = true := by rw [beq_iff_eq]; have : l.length = (told s).length := hl; omega
      clear ha he hl
      gi_wp2
      refine ⟨by simp, .inl ⟨_, _, rfl, run_takeDeferred HK2.out, ?_⟩⟩
      refine ⟨_, res4 rfl (blk_cell (put_cell HX.out.out (by omega)) 0), rfl, ?_⟩
      exact HX.out.below.trans (belowK_b (w := w) (Nat.le_refl _) _ D _ _ (by omega) HK2.out rfl rfl)
  case stop =>
    rintro D c pre W hD hp hx hK
    match c, hx with
    | .ret, hx =>
      have hlo := hst.lo
      gi_wp2
      refine ⟨by simp, .inl ⟨_, _, rfl, run_takeDeferred hK, ?_⟩⟩
      refine ⟨_, res4 rfl (blk_cell (put_cell hx.out (by omega)) 0), rfl, ?_⟩
      exact hx.below.trans (belowK_b (w := w) (Nat.le_refl _) W D _ _ (by omega) hK rfl rfl)
end Go.Proofs.Ytpeaepdhnicceaa.Wk
