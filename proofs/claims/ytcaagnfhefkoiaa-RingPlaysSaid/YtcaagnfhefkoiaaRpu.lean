/- What the reference's Push does: the walk. -/
import Derived.Test.YtcaagnfhefkoiaaRord
namespace Go.Proofs.Ytcaagnfhefkoiaa.Given
open Go.RowKit Go.Proofs.Ytcaagnfhefkoiaa.Rg Go.Proofs.Ytcaagnfhefkoiaa.Ex Go.Proofs.Ytcaagnfhefkoiaa.PBase Go.Proofs.Ytcaagnfhefkoiaa.OpenS Go.Proofs.YtcaagnfhefkoiaaW.PrintWords Go.Proofs.YtcaagnfhefkoiaaW.PrintLast Go.Proofs.YtcaagnfhefkoiaaW.PrintMore
theorem C_one {W : World} {m : Nat} {x : S29} (h : W.heap[m]? = some (.cells #[.int .i64 x.f0, .int .i64 x.f1] 29 (0, 0))) : Kd.C k29 W (some ⟨m, 0, none⟩) 1 [x] := by
  refine ⟨rfl, by decide, fun _ => ⟨_, rfl, fun j p hj => ?_⟩⟩
  have hj0 : j = 0 := by
    rcases j with _ | j
    · rfl
    · simp at hj
  subst hj0
  obtain rfl : x = p := Option.some.inj hj
  refine ⟨[.int .i64 x.f0, .int .i64 x.f1], rfl, k29_mk _ _, fun i u hu => ?_⟩
  have e : (⟨m, 0, none⟩ : Addr).add (0 * k29.sz + i) = ⟨m, i, none⟩ := by
    show Addr.add ⟨m, 0, none⟩ (0 * 2 + i) = _
    simp [Addr.add]; intro h; exact h.symm
  rw [e]
  refine (blk_cell h i).trans ?_
  rcases i with _ | _ | i
  · exact hu
  · exact hu
  · simp at hu
theorem lt_new (w : World) (o : Obj) : w.heap.size < (w.alloc o).heap.size := by rw [World.size_alloc]; exact Nat.lt_succ_self _
theorem lt_more {n : Nat} {w : World} (h : n < w.heap.size) (o : Obj) : n < (w.alloc o).heap.size := by rw [World.size_alloc]; omega
theorem lt_drew {n : Nat} {w : World} (h : n < w.heap.size) : n < w.drew.heap.size := h
theorem le_more {n : Nat} {w : World} (h : n ≤ w.heap.size) (o : Obj) : n ≤ (w.alloc o).heap.size := by rw [World.size_alloc]; omega
theorem le_drew {n : Nat} {w : World} (h : n ≤ w.heap.size) : n ≤ w.drew.heap.size := h
theorem sz_drew (w : World) : w.drew.heap.size = w.heap.size := rfl
theorem blk_newN {w : World} {o : Obj} {n : Nat} (h : w.heap.size = n) : (w.alloc o).heap[n]? = some o := by subst h; exact blk_new _ _
theorem bc_alloc {W : World} {a b : Addr} {u v : Value} (h : W.cell? a = some u ∧ W.cell? b = some v) (o : Obj) : (W.alloc o).cell? a = some u ∧ (W.alloc o).cell? b = some v := ⟨pw_cell_below (below_alloc (Below.refl _ _) o) h.1, pw_cell_below (below_alloc (Below.refl _ _) o) h.2⟩
theorem bc_drew {W : World} {a b : Addr} {u v : Value} (h : W.cell? a = some u ∧ W.cell? b = some v) : W.drew.cell? a = some u ∧ W.drew.cell? b = some v := h
def BoxOf (w V : World) (x : S29) : Prop := V.heap[w.heap.size]? = some (.cells #[.int .i64 x.f0, .int .i64 x.f1] 29 (0, 0))
structure AfterOne (w W : World) (e : Nat) (l : List S29) (x : S29) (v1 : Value) (w1 : World) : Prop where
  row : Kd.R k29 29 w1 w.heap.size (fun _ => True) v1 l
  below : Below w.heap.size w w1
  box : BoxOf w w1 x
  keep : ∀ {b : Nat} {o : Obj}, W.heap[b]? = some o → b ≠ e → w1.heap[b]? = some o
  ne : v1.ownBlock ≠ some w.heap.size
structure AfterTwo (w : World) (l : List S29) (x : S29) (v2 : Value) (w2 : World) : Prop where
  row : Kd.R k29 29 w2 w.heap.size (fun _ => True) v2 l
  below : Below w.heap.size w w2
  box : BoxOf w w2 x
section
variable {o : Oper} {a : Act} {ops : Array Oper} {Kc : Act → World → Prop} {Q : Exit → Act → World → Prop}
theorem rpu_one {w V W : World} {e : Nat} {x : S29} {l : List S29} {A : Option Addr} {c : Nat} (hl : l.length ≤ 32) (hw : Region.wanted o (yielded ops a.tmps) = true) (s t : Operand)
    (ho : o.op = .call { callee := .builtin .append, args := #[s, t], argTypes := #[36, 36] }) (hs : a.eval s = .slice (some ⟨e, 0, none⟩) 0 0) (hx : a.eval t = .slice A l.length c)
    (hQ : Kd.C k29 V A l.length l ∧ Below w.heap.size w V ∧ BoxOf w V x) (hVW : Below V.heap.size V W) (hE : W.heap[e]? = some (.cells #[] 29 (0, 0))) (hVe : V.heap.size ≤ e)
    (h : ∀ v1 w1, AfterOne w W e l x v1 w1 → Kc (a.put o.dst v1) w1) :
    if Region.wanted o (yielded ops a.tmps) = true then Oper.wp Try.prog o a W Kc Q else Kc (a.put o.dst undef) W := by
  have hvs : w.heap.size < V.heap.size := blk_lt hQ.2.2
  have hB : Below w.heap.size w W := below_then hQ.2.1 (Nat.le_of_lt hvs) hVW
  have hbW : BoxOf w W x := blk_below hQ.2.2 hVW
  refine Kd.R_append_rows_step k29 (w0 := w) w.heap.size hw s t 36 29 (.agg #[(.int .i64 0), (.int .i64 0)]) 16 ho Try.underlying36 info29 rfl (by decide) (by omega) _ ([] : List S29) l A _ c (fun _ => True) (fun _ => False) hs hx (R_empty hE (by omega)) (Kd.C_below hQ.1 hVW) (KM29 _ _ _) (fun _ h => h.elim) (fun _ _ => trivial) hB hB.size (by simp; omega) ?_
  intro v1 w1 ho' hb hg hat
  refine h v1 w1 ⟨ho', hb, blk_grown hbW hg (fun e2 => ?_), fun hb' hne => blk_grown hb' hg (fun e2 => hne (Option.some.inj e2)), fun e2 => ?_⟩
  · have e3 : w.heap.size = e := Option.some.inj e2
    omega
  · have hws : V.heap.size ≤ W.heap.size := hVW.size
    rcases hat with h | ⟨b, h, hle⟩
    · rw [h] at e2
      have e3 : e = w.heap.size := Option.some.inj e2
      omega
    · rw [h] at e2
      have e3 : b = w.heap.size := Option.some.inj e2
      omega
theorem rpu_two {w W w1 W2 : World} {e m : Nat} {x : S29} {l : List S29} {v1 : Value} {c : Nat} (hl : l.length ≤ 32) (hw : Region.wanted o (yielded ops a.tmps) = true) (s t : Operand)
    (ho : o.op = .call { callee := .builtin .append, args := #[s, t], argTypes := #[36, 36] }) (hs : a.eval s = v1) (hx : a.eval t = .slice (some ⟨m, 0, none⟩) 1 c)
    (hA : AfterOne w W e l x v1 w1) (hVW : Below w1.heap.size w1 W2) (hX : W2.heap[m]? = some (.cells #[.int .i64 x.f0, .int .i64 x.f1] 29 (0, 0)))
    (h : ∀ v2 w2, AfterTwo w (l ++ [x]) x v2 w2 → Kc (a.put o.dst v2) w2) :
    if Region.wanted o (yielded ops a.tmps) = true then Oper.wp Try.prog o a W2 Kc Q else Kc (a.put o.dst undef) W2 := by
  have hvs : w.heap.size ≤ w1.heap.size := hA.below.size
  have hB : Below w.heap.size w W2 := below_then hA.below hvs hVW
  have hbW : BoxOf w W2 x := blk_below hA.box hVW
  refine Kd.R_append_rows_step k29 (w0 := w) w.heap.size hw s t 36 29 (.agg #[(.int .i64 0), (.int .i64 0)]) 16 ho Try.underlying36 info29 rfl (by decide) (by omega) _ l [x] _ _ c (fun _ => True) (fun _ => False) hs hx (Kd.R_below hA.row hVW) (C_one hX) (KM29 _ _ _) (fun _ h => h.elim) (fun _ _ => trivial) hB hB.size (by omega) ?_
  intro v2 w2 ho' hb hg hat
  exact h v2 w2 ⟨ho', hb, blk_grown hbW hg (fun e2 => hA.ne e2.symm)⟩
end
def RPPost (w : World) (OK : Addr → Prop) (l : List S29) (x : S29) (e : Ending) (w' : World) : Prop :=
  ∃ A' c', e = .returned (.tuple #[.slice A' (pushF l x).2.length c', .int .i64 (pushF l x).1]) ∧ (pushF l x).2.length ≤ c' ∧ Kd.C k29 w' A' (pushF l x).2.length (pushF l x).2 ∧ Below w.heap.size w w' ∧ ∀ ad, A' = some ad → 0 < (pushF l x).2.length → w.heap.size ≤ ad.block ∨ OK ad
set_option maxHeartbeats 4000000 in
set_option maxRecDepth 100000 in
theorem rpush_any (OK : Addr → Prop) (A : Option Addr) (c : Nat) (l : List S29) (x : S29) (w : World) (hC : Kd.C k29 w A l.length l) (hc : l.length ≤ c) (hl : l.length ≤ 32) (hOK : ∀ ad, A = some ad → 0 < l.length → OK ad) :
    Calls Try.prog 16 #[.slice A l.length c, .agg #[.int .i64 x.f0, .int .i64 x.f1]] w (RPPost w OK l x) := by
  have hal : Below w.heap.size w (w.alloc (.cells #[.int .i64 x.f0, .int .i64 x.f1] 29)) := (Below.refl _ _).alloc (Nat.le_refl _) _
  have Q0 := Aside0.mk (show Kd.C k29 (w.alloc (.cells #[.int .i64 x.f0, .int .i64 x.f1] 29)) A l.length l ∧ Below w.heap.size w (w.alloc (.cells #[.int .i64 x.f0, .int .i64 x.f1] 29)) ∧ (w.alloc (.cells #[.int .i64 x.f0, .int .i64 x.f1] 29)).heap[w.heap.size]? = some (.cells #[.int .i64 x.f0, .int .i64 x.f1] 29 (0, 0)) from ⟨Kd.C_below hC hal, hal, blk_new _ _⟩)
  clear hC hal
  go_enter Try.func16, Try.ntmps16
  go_upto_region 1 with (fail)
  refine gen_wp (fun V => Kd.C k29 V A l.length l ∧ Below w.heap.size w V ∧ V.heap[w.heap.size]? = some (.cells #[.int .i64 x.f0, .int .i64 x.f1] 29 (0, 0))) Q0.out ?_
  intro V hV
  have Q := Aside0.mk hV
  have b0 : V.cell? ⟨w.heap.size, 0, none⟩ = some (.int .i64 x.f0) := blk_cell hV.2.2 0
  have b1 : V.cell? ⟨w.heap.size, 1, none⟩ = some (.int .i64 x.f1) := blk_cell hV.2.2 1
  clear hV Q0
  have same : ∀ v W, pushF l x = (v, l) → Kd.C k29 W A l.length l → Below w.heap.size w W → RPPost w OK l x (.returned (.tuple #[.slice A l.length c, .int .i64 v])) W := fun v W hp h1 h2 => by
    unfold RPPost; rw [hp]; exact ⟨A, c, rfl, hc, h1, h2, fun ad e h0 => .inr (hOK ad e h0)⟩
  have SAME := Aside0.mk same
  clear same hOK
  by_cases hbad : badS x
  · have HP := Aside0.mk (SAME.out 2 V (if_pos hbad) Q.out.1 Q.out.2.1)
    by_cases h0 : x.f0 < 0
    · have hd0 : decide (x.f0 < 0) = true := decide_eq_true h0
      go_wp2_with fail
      go_ret2
      exact HP.out
    · have hd0 : decide (x.f0 < 0) = false := decide_eq_false h0
      by_cases h1 : x.f1 < -4611686018427387903
      · have hd1 : decide (x.f1 < -4611686018427387903) = true := decide_eq_true h1
        go_wp2_with fail
        go_ret2
        exact HP.out
      · have hd1 : decide (x.f1 < -4611686018427387903) = false := decide_eq_false h1
        have h2 : 4611686018427387903 < x.f1 := by rcases hbad with h | h | h; exact absurd h h0; exact absurd h h1; exact h
        have hd2 : decide (4611686018427387903 < x.f1) = true := decide_eq_true h2
        go_wp2_with fail
        go_ret2
        exact HP.out
  · have hd0 : decide (x.f0 < 0) = false := decide_eq_false (fun h => hbad (.inl h))
    have hd1 : decide (x.f1 < -4611686018427387903) = false := decide_eq_false (fun h => hbad (.inr (.inl h)))
    have hd2 : decide (4611686018427387903 < x.f1) = false := decide_eq_false (fun h => hbad (.inr (.inr h)))
    have HP0 := Aside0.mk (show pushF l x = if late l x = true then (160, l) else if l.length = 32 then (4, l) else (0, l ++ [x]) from if_neg hbad)
    clear hbad
    go_upto_region 3 with (fail)
    clear hd0 hd1 hd2
    rcases Nat.eq_zero_or_pos l.length with hn | hn
    · have hlate : late l x = false := by rw [List.length_eq_zero_iff.1 hn]; rfl
      have HP := Aside0.mk (show pushF l x = if l.length = 32 then (4, l) else (0, l ++ [x]) by rw [HP0.out, if_neg (by rw [hlate]; simp)])
      have hdn : decide ((0 : Int) < (l.length : Int)) = false := decide_eq_false (by omega)
      have hdn2 : decide (0 < l.length) = false := decide_eq_false (by omega)
      clear hn hlate HP0
      go_region
      go_upto_region 5 with (fail)
      clear hdn hdn2 b0 b1
      refine gen_wp (fun V => Kd.C k29 V A l.length l ∧ Below w.heap.size w V ∧ V.heap[w.heap.size]? = some (.cells #[.int .i64 x.f0, .int .i64 x.f1] 29 (0, 0))) ⟨Kd.C_drew Q.out.1, below_drew Q.out.2.1, Q.out.2.2⟩ ?_
      intro V hV
      replace Q := Aside0.mk hV
      clear hV
      by_cases h32 : l.length = 32
      · have hq1 : decide ((32 : Int) ≤ (l.length : Int)) = true := decide_eq_true (by omega)
        have hq2 : decide (32 ≤ l.length) = true := decide_eq_true (by omega)
        have HPP := Aside0.mk (SAME.out 4 V (by rw [HP.out, if_pos h32]) Q.out.1 Q.out.2.1)
        go_wp2_with fail
        go_ret2
        exact HPP.out
      · have hq1 : decide ((32 : Int) ≤ (l.length : Int)) = false := decide_eq_false (by omega)
        have hq2 : decide (32 ≤ l.length) = false := decide_eq_false (by omega)
        have HPP := Aside0.mk (show pushF l x = (0, l ++ [x]) by rw [HP.out, if_neg h32])
        go_upto_region 7 with (fail)
        clear hq1 hq2 h32 SAME HP
        have hvs : w.heap.size < V.heap.size := blk_lt Q.out.2.2
        have hS0 : V.drew.cell? ⟨w.heap.size, 0, none⟩ = some (.int .i64 x.f0) ∧ V.drew.cell? ⟨w.heap.size, 1, none⟩ = some (.int .i64 x.f1) := ⟨blk_cell Q.out.2.2 0, blk_cell Q.out.2.2 1⟩
        go_region_held3 (fun W' : World => W'.cell? ⟨w.heap.size, 0, none⟩ = some (.int .i64 x.f0) ∧ W'.cell? ⟨w.heap.size, 1, none⟩ = some (.int .i64 x.f1)) (first | assumption | ((repeat (first | assumption | apply bc_drew | apply bc_alloc)); done) | go_keep) (first
          | (refine rpu_one hl (by rfl) (.tmp 40) (.tmp 41) rfl rfl rfl Q.out ?aV ?aE ?aL ?_; (case aV => (repeat (with_reducible first | exact Below.refl _ _ | apply below_drew | apply below_alloc))); (case aE => (repeat (with_reducible first | exact blk_new _ _ | (refine blk_newN ?_; (simp only [sz_drew, World.size_alloc]); done) | apply blk_drew | apply blk_alloc))); (case aL => first | omega | (simp only [sz_drew, World.size_alloc]; omega)); intro v1 w1 h1; have H1 := Aside0.mk h1; have hS1 : w1.cell? ⟨w.heap.size, 0, none⟩ = some (.int .i64 x.f0) ∧ w1.cell? ⟨w.heap.size, 1, none⟩ = some (.int .i64 x.f1) := ⟨blk_cell h1.box 0, blk_cell h1.box 1⟩; clear h1)
          | (refine rpu_two hl (by rfl) (.tmp 42) (.tmp 44) rfl rfl rfl H1.out ?aV ?aE ?_; (case aV => (repeat (with_reducible first | exact Below.refl _ _ | apply below_drew | apply below_alloc))); (case aE => first | ((repeat (with_reducible first | exact blk_new _ _ | (refine blk_newN ?_; (simp only [sz_drew, World.size_alloc]); done) | apply blk_drew | apply blk_alloc)); done) | (refine blk_below (H1.out.keep (by (repeat (with_reducible first | exact blk_new _ _ | (refine blk_newN ?_; (simp only [sz_drew, World.size_alloc]); done) | apply blk_drew | apply blk_alloc))) ?_) (by (repeat (with_reducible first | exact Below.refl _ _ | apply below_drew | apply below_alloc))); first | omega | (simp only [sz_drew, World.size_alloc]; omega))); intro v2 w2 h2; have H2 := Aside0.mk h2; have hS2 : w2.cell? ⟨w.heap.size, 0, none⟩ = some (.int .i64 x.f0) ∧ w2.cell? ⟨w.heap.size, 1, none⟩ = some (.int .i64 x.f1) := ⟨blk_cell h2.box 0, blk_cell h2.box 1⟩; clear h2))
        all_goals (
          go_wp2_with fail
          go_ret2
          have hv2 := H2.out.row
          obtain ⟨A2, c2, e2, hc2, hC2⟩ := Kd.R_reads hv2
          subst e2
          obtain ⟨_, inner, ho, _⟩ := hv2
          unfold RPPost
          rw [HPP.out]
          exact ⟨A2, c2, rfl, hc2, hC2, H2.out.below, fun ad e _ => .inl (own_base ho ad.block (by rw [e]; rfl))⟩)
    · obtain ⟨n, hn⟩ : ∃ n, l.length = n + 1 := ⟨l.length - 1, by omega⟩
      obtain ⟨y, hy, hly⟩ := last_some (x := x) hn
      obtain ⟨ad, hA, p0, _⟩ := at_T29 Q.out.1 (n : Int) (by omega) (by omega)
      rw [rd_get hy, Int.toNat_natCast] at p0
      subst hA
      have hS0 : V.drew.cell? ⟨w.heap.size, 0, none⟩ = some (.int .i64 x.f0) ∧ V.drew.cell? (ad.add (n * 2)) = some (.int .i64 y.f0) := ⟨b0, p0⟩
      have hdn : decide ((0 : Int) < (l.length : Int)) = true := decide_eq_true (by omega)
      have hdn2 : decide (0 < l.length) = true := decide_eq_true (by omega)
      have hwn : IntKind.i64.wrap ((l.length : Int) - 1) = (n : Int) := by rw [wr64 _ (by omega) (by omega)]; omega
      have hi1 : (n : Int) < (l.length : Int) := by omega
      have hi2 : n < l.length := by omega
      have HY := Aside0.mk (And.intro hy hly)
      clear p0 hy hly hn
      obtain ⟨A, hA⟩ : ∃ A, A = some ad := ⟨_, rfl⟩
      go_region_held3 (fun W' : World => W'.cell? ⟨w.heap.size, 0, none⟩ = some (.int .i64 x.f0) ∧ W'.cell? (ad.add (n * 2)) = some (.int .i64 y.f0)) (first | assumption | go_keep) (fail)
      cases hl2 : decide (x.f0 < y.f0) with
      | true =>
        have HPP := Aside0.mk (SAME.out 160 V.drew (by rw [HP0.out, HY.out.2, hl2, if_pos rfl]) (Kd.C_drew Q.out.1) (below_drew Q.out.2.1))
        go_wp2_with fail
        go_ret2
        exact HPP.out
      | false =>
        have HP := Aside0.mk (show pushF l x = if l.length = 32 then (4, l) else (0, l ++ [x]) by rw [HP0.out, HY.out.2, hl2, if_neg (by simp)])
        go_upto_region 5 with (fail)
        clear hdn hdn2 hwn hi1 hi2 HY HP0 hS0 hl2 b0 b1
        rw [← hA] at Q SAME ⊢
        clear hA
        refine gen_wp (fun V => Kd.C k29 V A l.length l ∧ Below w.heap.size w V ∧ V.heap[w.heap.size]? = some (.cells #[.int .i64 x.f0, .int .i64 x.f1] 29 (0, 0))) ⟨Kd.C_drew Q.out.1, below_drew Q.out.2.1, Q.out.2.2⟩ ?_
        intro V hV
        replace Q := Aside0.mk hV
        clear hV
        by_cases h32 : l.length = 32
        · have hq1 : decide ((32 : Int) ≤ (l.length : Int)) = true := decide_eq_true (by omega)
          have hq2 : decide (32 ≤ l.length) = true := decide_eq_true (by omega)
          have HPP := Aside0.mk (SAME.out 4 V (by rw [HP.out, if_pos h32]) Q.out.1 Q.out.2.1)
          go_wp2_with fail
          go_ret2
          exact HPP.out
        · have hq1 : decide ((32 : Int) ≤ (l.length : Int)) = false := decide_eq_false (by omega)
          have hq2 : decide (32 ≤ l.length) = false := decide_eq_false (by omega)
          have HPP := Aside0.mk (show pushF l x = (0, l ++ [x]) by rw [HP.out, if_neg h32])
          go_upto_region 7 with (fail)
          clear hq1 hq2 h32 SAME HP
          have hvs : w.heap.size < V.heap.size := blk_lt Q.out.2.2
          have hS0 : V.drew.cell? ⟨w.heap.size, 0, none⟩ = some (.int .i64 x.f0) ∧ V.drew.cell? ⟨w.heap.size, 1, none⟩ = some (.int .i64 x.f1) := ⟨blk_cell Q.out.2.2 0, blk_cell Q.out.2.2 1⟩
          go_region_held3 (fun W' : World => W'.cell? ⟨w.heap.size, 0, none⟩ = some (.int .i64 x.f0) ∧ W'.cell? ⟨w.heap.size, 1, none⟩ = some (.int .i64 x.f1)) (first | assumption | ((repeat (first | assumption | apply bc_drew | apply bc_alloc)); done) | go_keep) (first
            | (refine rpu_one hl (by rfl) (.tmp 40) (.tmp 41) rfl rfl rfl Q.out ?aV ?aE ?aL ?_; (case aV => (repeat (with_reducible first | exact Below.refl _ _ | apply below_drew | apply below_alloc))); (case aE => (repeat (with_reducible first | exact blk_new _ _ | (refine blk_newN ?_; (simp only [sz_drew, World.size_alloc]); done) | apply blk_drew | apply blk_alloc))); (case aL => first | omega | (simp only [sz_drew, World.size_alloc]; omega)); intro v1 w1 h1; have H1 := Aside0.mk h1; have hS1 : w1.cell? ⟨w.heap.size, 0, none⟩ = some (.int .i64 x.f0) ∧ w1.cell? ⟨w.heap.size, 1, none⟩ = some (.int .i64 x.f1) := ⟨blk_cell h1.box 0, blk_cell h1.box 1⟩; clear h1)
            | (refine rpu_two hl (by rfl) (.tmp 42) (.tmp 44) rfl rfl rfl H1.out ?aV ?aE ?_; (case aV => (repeat (with_reducible first | exact Below.refl _ _ | apply below_drew | apply below_alloc))); (case aE => first | ((repeat (with_reducible first | exact blk_new _ _ | (refine blk_newN ?_; (simp only [sz_drew, World.size_alloc]); done) | apply blk_drew | apply blk_alloc)); done) | (refine blk_below (H1.out.keep (by (repeat (with_reducible first | exact blk_new _ _ | (refine blk_newN ?_; (simp only [sz_drew, World.size_alloc]); done) | apply blk_drew | apply blk_alloc))) ?_) (by (repeat (with_reducible first | exact Below.refl _ _ | apply below_drew | apply below_alloc))); first | omega | (simp only [sz_drew, World.size_alloc]; omega))); intro v2 w2 h2; have H2 := Aside0.mk h2; have hS2 : w2.cell? ⟨w.heap.size, 0, none⟩ = some (.int .i64 x.f0) ∧ w2.cell? ⟨w.heap.size, 1, none⟩ = some (.int .i64 x.f1) := ⟨blk_cell h2.box 0, blk_cell h2.box 1⟩; clear h2))
          all_goals (
            go_wp2_with fail
            go_ret2
            have hv2 := H2.out.row
            obtain ⟨A2, c2, e2, hc2, hC2⟩ := Kd.R_reads hv2
            subst e2
            obtain ⟨_, inner, ho, _⟩ := hv2
            unfold RPPost
            rw [HPP.out]
            exact ⟨A2, c2, rfl, hc2, hC2, H2.out.below, fun ad e _ => .inl (own_base ho ad.block (by rw [e]; rfl))⟩)
end Go.Proofs.Ytcaagnfhefkoiaa.Given
