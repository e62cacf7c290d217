/- A range over a function whose body is told something of the world: a law; what frame's each, All and the law's own tells do: the walks; tells in the printer's own form. -/
import Derived.RangeFuncNested
import Derived.RangeFuncFrom
import Derived.RangeFuncWrites
import Derived.RangeFuncRecord
import Derived.RangeFuncCalls
import Derived.Test.YtcobdpkpefgdlaaWhole
import Derived.Test.YtcobdpkpefgdlaaNw
namespace Go.Proofs.Ytcobdpkpefgdlaa.Rg
open Go Go.RowKit
/-- All that is no cells and lies from B on stays, but for block l. -/
def But (B l : Nat) (W W' : World) : Prop := ∀ (k : Nat) (o : Obj), B ≤ k → k ≠ l → W.heap[k]? = some o → o.isCells = false → W'.heap[k]? = some o
/-- What a round hands back to the iterator. -/
def Back {α : Type} (B l : Nat) (J Jx : List α → World → Prop) (Kp : World → World → Prop) (pre : List α) (W : World) (e : Ending) (W' : World) : Prop :=
  (e = .returned (.bool true) ∧ J pre W' ∧ Kp W W' ∧ KeepsFrom B W W') ∨ (e = .returned (.bool false) ∧ Jx pre W' ∧ But B l W W' ∧ W.heap.size ≤ W'.heap.size)
/-- What an iterator does, whose rounds are told Pr of the world in which they begin. -/
def Gives {α : Type} (F : Fence) (n : Nat) (P : Program) (g : Nat) (lb : Array Value) (encs : α → Array Value) (Kp : α → World → World → Prop) (Pr : α → World → Prop) (S Sp : List α → Prop) (w : World) : Prop :=
  ∀ (l : Nat) (J Jx : List α → World → Prop) (W : World), Below w.heap.size w W → l < W.heap.size → OwnFrom W.heap.size J → OwnFrom W.heap.size Jx →
    (∀ pre x W1, J pre W1 → Pr x W1 → Sp (pre ++ [x]) → YieldAt F (n - 1) P l (encs x) W1 (Back w.heap.size l J Jx (Kp x) (pre ++ [x]) W1)) →
    J [] W →
    CallsIn F n P g (#[.func (.yield l) #[] #[]] ++ lb) W fun e W' => (∃ v, e = .returned v) ∧ ((∃ xs, S xs ∧ J xs W') ∨ (∃ pre, Sp pre ∧ Jx pre W'))
/-- How a body may be left. -/
def Left {α : Type} (B : Nat) (Kp : World → World → Prop) (I : List α → World → Prop) (Ix : Code → List α → World → Prop) (xs : List α) (W : World) : Exit → Act → World → Prop
  | .normal, _, W' => KeepsFrom B W W' ∧ Kp W W' ∧ I xs W'
  | .ret, _, W' => KeepsFrom B W W' ∧ Ix .ret xs W'
  | .exit id, _, W' => KeepsFrom B W W' ∧ Ix (.exit id) xs W'
  | .goto t, _, W' => KeepsFrom B W W' ∧ Ix (.goto t) xs W'
  | .panic _, _, _ => False
  | .outgrown, _, _ => False
theorem own_row {W W' : World} {row : Option Nat} {k : Nat} {o : Obj} (h : W.heap[k]? = some o) (hg : W.grownBy W' row) (hr : ∀ r, row = some r → r ≠ k) : W'.heap[k]? = some o :=
  (hg.block k (Array.getElem?_eq_some_iff.1 h).1 (fun e => hr k e.symm rfl)).trans h
variable {F : Fence} {n : Nat} {P : Program}
theorem range_told {α : Type} {g : Operand} {ps : Array Tmp} {assign body : Code} {Q : Exit → Act → World → Prop} {a : Act} {w : World}
    (hro : F.round = none) (h1 : 1 ≤ n) {gf : Nat} {lb : Array Value} (hg : a.eval g = .func (.func gf) #[] lb) (hF : F.fn gf) (eg : ∀ args w, (callFunc gf args).run P w = .ok (.enter gf args) w)
    {encs : α → Array Value} {Kp : α → World → World → Prop} {Pr : α → World → Prop} {S Sp : List α → Prop} (hseq : Gives F (n - 1) P gf lb encs Kp Pr S Sp w)
    (hKt : ∀ x {A B C : World}, Kp x A B → Kp x B C → Kp x A C) (hKb : ∀ x (W : World) (l : Nat) (o o' : Obj), w.heap.size ≤ l → W.heap[l]? = some o' → o'.isCells = false → Kp x W (W.putObj l o)) (hps : ∀ x, (encs x).size = ps.size)
    (I : List α → World → Prop) (Ix : Code → List α → World → Prop) (hI : OwnFrom w.heap.size I) (hIx : ∀ c, OwnFrom w.heap.size (Ix c)) (hPr : ∀ x, OwnFrom w.heap.size (fun (_ : Unit) W => Pr x W)) (h0 : I [] w) (a₁ : α → Act)
    (hassign : ∀ (l : Nat) (x : α) (W : World) (K : Act → World → Prop), K (a₁ x) W →
      assign.wpIn (F.inRound l) (n - 1 - 1) P (Exit.then K (fun _ _ _ => False)) { tmps := (ps.zip (encs x)).foldl (fun t (p, v) => t.setIfInBounds p v) a.tmps, defers := [] } W)
    (hbody : ∀ (l : Nat) (pre : List α) (x : α) (W : World), w.heap.size ≤ l → I pre W → Pr x W → Sp (pre ++ [x]) → body.wpIn (F.inRound l) (n - 1 - 1) P (Left w.heap.size (Kp x) I Ix (pre ++ [x]) W) (a₁ x) W)
    (hdone : ∀ (D : Nat) (xs : List α) (W : World), w.heap.size ≤ D → S xs → I xs W → W.heap[D]? = some (.deferred (some [])) → Q .normal { a with defers := { target := .collected D, args := #[] } :: a.defers } W)
    (hstop : ∀ (D : Nat) (c : Code) (pre : List α) (W : World), w.heap.size ≤ D → Sp pre → Ix c pre W → W.heap[D]? = some (.deferred (some [])) → c.wpIn F n P Q { a with defers := { target := .collected D, args := #[] } :: a.defers } W) :
    (Code.rangeFunc g ps assign body).wpIn F n P Q a w := by
  refine wpIn_rangeFunc fun fn hfn => ?_
  rw [hro]
  generalize hL : w.heap.size = L at *
  obtain ⟨rc, hrc⟩ : ∃ rc : LoopState → Option Code → Loop, rc = fun st pe => { state := st, pending := pe, fn, tmps := a.tmps, params := ps, assign, body, defers := L } := ⟨_, rfl⟩
  obtain ⟨V, hV⟩ : ∃ V, V = (w.alloc (.deferred (some []))).alloc (.loop (rc .ready none)) := ⟨_, rfl⟩
  have hVz : V.heap.size = L + 2 := by rw [hV, World.size_alloc, World.size_alloc, hL]
  have v1 : V.heap[L + 1]? = some (.loop (rc .ready none)) := by
    have := World.alloc_heap_new (w.alloc (.deferred (some []))) (.loop (rc .ready none))
    rw [World.size_alloc, hL] at this
    rw [hV]; exact this
  have v0 : V.heap[L]? = some (.deferred (some [])) := by
    have := World.alloc_heap_new w (.deferred (some []))
    rw [hL] at this
    rw [hV]; exact (Below.heap_alloc _ _ _ (by rw [World.size_alloc]; omega)).trans this
  have vI : I [] V := by rw [hV]; exact hI.alloc _ (hI.alloc _ h0)
  have vB : Below L w V := by
    have := ((Below.refl L w).alloc (by omega) (.deferred (some []))).alloc (by rw [World.size_alloc]; omega) (.loop (rc .ready none))
    rw [hV]; exact this
  refine ⟨L + 1, [{ target := .collected L, args := #[] }], V, { target := .fn (.func gf) lb, args := #[.func (.yield (L + 1)) #[] #[]] }, V, gf, #[.func (.yield (L + 1)) #[] #[]] ++ lb, V, ?_, ?_, ?_, ?_, fun _ => h1, ?_⟩
  · have := run_enterLoop_outer (P := P) (w := w) fn a.tmps ps assign body
    rw [hL] at this
    rw [hV, hrc]; exact this
  · simp only [resolve, hg]; simp [go_sem]
  · intro f' hf'; simp [Target.leads] at hf'; subst hf'; exact hF
  · simp [invoke, go_sem, eg]
  have back := hseq (L + 1)
    (fun pre W => I pre W ∧ W.heap[L + 1]? = some (.loop (rc .ready none)) ∧ W.heap[L]? = some (.deferred (some [])))
    (fun pre W => ∃ c, Ix c pre W ∧ W.heap[L + 1]? = some (.loop (rc .done (some c))) ∧ W.heap[L]? = some (.deferred (some []))) V (by rw [hL]; exact vB) (by omega)
    (fun s A B row hs hg' hr => ⟨hI s A B row hs.1 hg' (fun r e => ⟨by have := (hr r e).1; omega, (hr r e).2⟩), own_row hs.2.1 hg' (fun r e => by have := (hr r e).1; omega), own_row hs.2.2 hg' (fun r e => by have := (hr r e).1; omega)⟩)
    (fun s A B row hs hg' hr => by
      obtain ⟨c, hc, hl, hk⟩ := hs
      exact ⟨c, hIx c s A B row hc hg' (fun r e => ⟨by have := (hr r e).1; omega, (hr r e).2⟩), own_row hl hg' (fun r e => by have := (hr r e).1; omega), own_row hk hg' (fun r e => by have := (hr r e).1; omega)⟩)
    (fun pre x W hJ hp hlen => by
      obtain ⟨hi, hl, hk⟩ := hJ
      have hz : L + 1 < W.heap.size := (Array.getElem?_eq_some_iff.1 hl).1
      obtain ⟨U, hU⟩ : ∃ U, U = W.putObj (L + 1) (.loop { rc .ready none with state := .busy }) := ⟨_, rfl⟩
      have u1 : U.heap[L + 1]? = some (.loop { rc .ready none with state := .busy }) := by rw [hU]; exact World.putObj_heap_same hz
      have u0 : U.heap[L]? = some (.deferred (some [])) := by rw [hU]; exact (World.putObj_heap_other (by omega)).trans hk
      have uz : U.heap.size = W.heap.size := by rw [hU]; exact World.putObj_size
      have uo : ∀ k, k ≠ L + 1 → U.heap[k]? = W.heap[k]? := fun k h => by rw [hU]; exact World.putObj_heap_other h
      have uI : I pre U := by rw [hU]; exact hI.putObj _ hi (by omega) hl rfl
      have uP : Pr x U := by rw [hU]; exact (hPr x).putObj (s := ()) _ hp (by omega) hl rfl
      have uK : Kp x W U := by rw [hU]; exact hKb _ _ _ _ _ (by omega) hl rfl
      have hb : (Instr.beginRound (L + 1)).run P W = .ok () U := by
        rw [hU]; exact run_beginRound hl (by rw [hrc])
      refine ⟨fn, _, assign, body, ?_, roundIn_of_wpIn hfn (hassign (L + 1) x W _ ⟨U, hb, wpIn_mono (hbody (L + 1) pre x U (by omega) uI uP hlen) ?_⟩)⟩
      · have := run_yield (P := P) (args := encs x) hl (by rw [hrc]; exact hps x)
        rw [hrc] at this; exact this
      have tail : ∀ (j : Option Code) (Z : World), KeepsFrom L U Z → ∃ Z', Z' = Z.putObj (L + 1) (.loop (rc (if j.isNone then .ready else .done) j)) ∧ (Instr.endRound (L + 1) j).run P Z = .ok (.bool j.isNone) Z' ∧
          Z.heap[L + 1]? = some (.loop { rc .ready none with state := .busy }) ∧ Z'.heap[L + 1]? = some (.loop (rc (if j.isNone then .ready else .done) j)) ∧ Z'.heap[L]? = some (.deferred (some [])) ∧
          (∀ (k : Nat) (o : Obj), L ≤ k → k ≠ L + 1 → W.heap[k]? = some o → o.isCells = false → Z'.heap[k]? = some o) ∧ W.heap.size ≤ Z'.heap.size := fun j Z kf => by
        have z1 := kf.same _ _ (by omega) u1 rfl
        refine ⟨_, rfl, ?_, z1, World.putObj_heap_same (Array.getElem?_eq_some_iff.1 z1).1, (World.putObj_heap_other (by omega)).trans (kf.same _ _ (Nat.le_refl _) u0 rfl), fun k o hk hne hko hoc => (World.putObj_heap_other hne).trans (kf.same k o hk ((uo k hne).trans hko) hoc), ?_⟩
        · have := run_endRound (P := P) j z1
          rw [hrc] at this ⊢
          exact this
        · rw [World.putObj_size]; have := kf.size; omega
      intro e a3 Z hz3
      cases e with
      | normal =>
        obtain ⟨kf, kp, iz⟩ := hz3
        obtain ⟨Z', hZ', he, z1, y1, y0, yk, ys⟩ := tail none Z kf
        refine ⟨_, Z', he, .inl ⟨rfl, ⟨?_, y1, y0⟩, ?_, ys, ?_⟩⟩
        · rw [hZ']; exact hI.putObj _ iz (by omega) z1 rfl
        · rw [hZ']; exact hKt x uK (hKt x kp (hKb _ _ _ _ _ (by omega) z1 rfl))
        · intro k o hk hko hoc
          by_cases hne : k = L + 1
          · subst hne; rw [hl] at hko; cases hko; exact y1
          · exact yk k o (by omega) hne hko hoc
      | ret =>
        obtain ⟨kf, iz⟩ := hz3
        obtain ⟨Z', hZ', he, z1, y1, y0, yk, ys⟩ := tail (some .ret) Z kf
        exact ⟨_, Z', he, .inr ⟨rfl, ⟨.ret, by rw [hZ']; exact (hIx _).putObj _ iz (by omega) z1 rfl, y1, y0⟩, fun k o hk hne hko hoc => yk k o (by omega) hne hko hoc, ys⟩⟩
      | exit id =>
        obtain ⟨kf, iz⟩ := hz3
        obtain ⟨Z', hZ', he, z1, y1, y0, yk, ys⟩ := tail (some (.exit id)) Z kf
        exact ⟨_, Z', he, .inr ⟨rfl, ⟨.exit id, by rw [hZ']; exact (hIx _).putObj _ iz (by omega) z1 rfl, y1, y0⟩, fun k o hk hne hko hoc => yk k o (by omega) hne hko hoc, ys⟩⟩
      | goto t =>
        obtain ⟨kf, iz⟩ := hz3
        obtain ⟨Z', hZ', he, z1, y1, y0, yk, ys⟩ := tail (some (.goto t)) Z kf
        exact ⟨_, Z', he, .inr ⟨rfl, ⟨.goto t, by rw [hZ']; exact (hIx _).putObj _ iz (by omega) z1 rfl, y1, y0⟩, fun k o hk hne hko hoc => yk k o (by omega) hne hko hoc, ys⟩⟩
      | panic ch => exact hz3.elim
      | outgrown => exact hz3.elim)
    ⟨vI, v1, v0⟩
  refine back.mono ?_
  rintro e Z ⟨⟨v, rfl⟩, h⟩
  rcases h with ⟨xs, hS, hi, hl, hk⟩ | ⟨pre, hSp, c, hi, hl, hk⟩
  · have he := run_endLoop (P := P) hl (by rw [hrc]; simp)
    rw [hrc] at he
    exact ⟨none, _, he, hdone L xs _ (Nat.le_refl _) hS (hI.putObj _ hi (by omega) hl rfl) ((World.putObj_heap_other (by omega)).trans hk)⟩
  · have he := run_endLoop (P := P) hl (by rw [hrc]; simp)
    rw [hrc] at he
    exact ⟨some c, _, he, hstop L c pre _ (Nat.le_refl _) hSp ((hIx c).putObj _ hi (by omega) hl rfl) ((World.putObj_heap_other (by omega)).trans hk)⟩
end Go.Proofs.Ytcobdpkpefgdlaa.Rg

namespace Go.Proofs.Ytcobdpkpefgdlaa.Given
open Go.RowKit Go.Shelf Go.Proofs.Ytcobdpkpefgdlaa.Cod Go.Proofs.Ytcobdpkpefgdlaa.Ex Go.Proofs.Ytcobdpkpefgdlaa.Pure Go.Proofs.Ytcobdpkpefgdlaa.Nx Go.Proofs.Ytcobdpkpefgdlaa.Rg Go.Proofs.YtcobdpkpefgdlaaW.PrintWords Go.Proofs.YtcobdpkpefgdlaaW.PrintLast
attribute [local go_sem] Oper.semAt_some
abbrev E3 := Value × Nat × List Int
def encs3 (x : E3) : Array Value := #[x.1, .int .i64 x.2.1]
def last3 (l : List E3) : Nat := match l.getLast? with | none => 0 | some x => x.2.1
theorem last3_snoc (l : List E3) (x : E3) : last3 (l ++ [x]) = x.2.1 := by unfold last3; rw [List.getLast?_concat]
/-- A row of its own that holds q, from block B on. -/
def OwnB (B : Nat) (v : Value) (q : List Int) (W : World) : Prop := Kd.R (Kd.int .u8) 5 W B (fun _ => True) v q
/-- What a round keeps: S's blocks, and all cells from B on but for the row that it was handed. -/
structure Keep (S : Nat → Prop) (B : Nat) (v : Value) (W W' : World) : Prop where
  s : Stay S W W'
  c : ∀ (k : Nat) (o : Obj), B ≤ k → v.ownBlock ≠ some k → W.heap[k]? = some o → o.isCells = true → W'.heap[k]? = some o
theorem Keep.trans {S : Nat → Prop} {B : Nat} {v : Value} {X Y Z : World} (h : Keep S B v X Y) (k : Keep S B v Y Z) : Keep S B v X Z :=
  ⟨h.s.trans k.s, fun i o hB hv hi ho => k.c i o hB hv (h.c i o hB hv hi ho) ho⟩
theorem Keep.putObj {S : Nat → Prop} {B : Nat} {v : Value} {W : World} {L : Nat} (hS : ∀ k, S k → k < L) {l : Nat} {o o' : Obj} (hl : L ≤ l) (h : W.heap[l]? = some o') (ho : o'.isCells = false) : Keep S B v W (W.putObj l o) :=
  ⟨fun k hk => World.putObj_heap_other (by have := hS k hk; omega), fun k p _ _ hk hp => by
    by_cases e : k = l
    · subst e; rw [h] at hk; cases hk; rw [ho] at hp; cases hp
    · exact (World.putObj_heap_other e).trans hk⟩
theorem OwnB.kept {B : Nat} {v : Value} {q : List Int} {W W' : World} {row : Option Nat} (h : OwnB B v q W) (hg : W.grownBy W' row) (hr : ∀ r, row = some r → ∃ o : Obj, W.heap[r]? = some o ∧ o.isCells = false) : OwnB B v q W' := by
  obtain ⟨h1, cs, ⟨hl, ho⟩, h3⟩ := h
  refine ⟨h1, cs, ⟨hl, ?_⟩, ?_⟩
  · rcases ho with ho | ⟨g, cap, cur, e, hb, hh, a1, a2, a3, a4⟩
    · exact .inl ho
    · refine .inr ⟨g, cap, cur, e, hb, ?_, a1, a2, a3, a4⟩
      exact (hg.block g (Array.getElem?_eq_some_iff.1 hh).1 (fun e => by obtain ⟨o, ho, hc⟩ := hr g e.symm; rw [hh] at ho; cases ho; cases hc)).trans hh
  · exact h3
theorem OwnB.lower {B B' : Nat} {v : Value} {q : List Int} {W : World} (h : OwnB B v q W) (hB : B' ≤ B) : OwnB B' v q W := Kd.R_lower h hB
theorem OwnB.blk {B : Nat} {v : Value} {q : List Int} {W : World} (h : OwnB B v q W) : ∀ k, v.ownBlock = some k → B ≤ k := by
  obtain ⟨_, cs, ho, _⟩ := h
  exact own_base ho
theorem OwnB.slice {B : Nat} {v : Value} {q : List Int} {W : World} (h : OwnB B v q W) : ∃ A c, v = .slice A q.length c := Kd.R_slice h
theorem recsL_step {b : List Int} (hb : isB b) {p : List Int} {m : Nat} (h : nextL b = some (p, m)) : recsL b = p :: recsL (b.drop m) := by
  obtain ⟨r, hbr, hm, hp⟩ := nextL_some hb h
  have hfb : isB (frameL p) := fun y hy => hb y (by rw [hbr]; exact List.mem_append_left _ hy)
  have hpB : isB p := fun y hy => hfb y (by unfold frameL; exact List.mem_append_left _ (List.mem_append_right _ hy))
  have hrB : isB r := fun y hy => hb y (by rw [hbr]; exact List.mem_append_right _ hy)
  have h1 := (wholeL_frame (p := p) (r := r) hpB hrB hp).2
  rw [hbr, h1, hm, List.drop_left]
set_option maxHeartbeats 1000000 in
set_option maxRecDepth 100000 in
theorem each_gives (A : Option Addr) (c : Nat) (xs : List Int) (hx : isB xs) (hl : xs.length ≤ 1000000) (hc : xs.length ≤ c) (Bn : Nat) (S : Nat → Prop) (B : Nat) (w : World) (hBn : w.heap[Bn]? = some (.cells #[.slice A xs.length c] 22 (0, 0))) (hS : S Bn) (hr : Kd.C (Kd.int .u8) w A xs.length xs) (hA : ∀ ad, A = some ad → 0 < xs.length → S ad.block) (hSl : ∀ k, S k → k < w.heap.size) (hB : B ≤ w.heap.size) :
    Gives Fence.wide 101 Try.prog 38 #[.pointer (some ⟨Bn, 0, none⟩)] encs3 (fun x => Keep S B x.1) (fun x W => OwnB B x.1 x.2.2 W) (fun l => l.map (·.2.2) = recsL xs ∧ last3 l = wholeL xs) (fun l => l.map (·.2.2) <+: recsL xs) w := fun l J Jx W hW hlW hJ hJx hY h0 => by
  have hstay0 : Stay S w W := fun k hk => hW.block k (hSl k hk)
  have hz0 : B ≤ W.heap.size := Nat.le_trans hB hW.size
  obtain ⟨i0, hi, _, hsz, _⟩ := info_parts info5
  have HI := Aside0.mk hi
  have HSZ := Aside0.mk hsz
  have HY := Aside0.mk hY
  have HJ := Aside0.mk hJ
  have HX := Aside0.mk hx
  have HA := Aside0.mk hA
  have HSl := Aside0.mk hSl
  have HR := Aside0.mk hr
  have HBn := Aside0.mk hBn
  have HS := Aside0.mk hS
  clear hi hsz hY hJ hJx hx hA hSl hr hBn hS hW hB
  refine callsIn_of_wp Try.func38 rfl trivial ?_ rfl
  simp only [Try.ntmps38, List.size_toArray, List.length_cons, List.length_nil, Nat.reduceAdd, Nat.reduceSub, Array.replicate_succ, Array.replicate_zero, List.push_toArray, List.append_toArray, List.nil_append, List.cons_append]
  gi_wp2
  gi_loopw [3] (fun p wr => ∃ (pre : List E3) (a : Nat), p = .int .i64 (a : Int) ∧ a ≤ xs.length ∧ Aside0 (pre.length ≤ a ∧ last3 pre = a ∧ wholeL xs = a + wholeL (xs.drop a) ∧ recsL xs = pre.map (·.2.2) ++ recsL (xs.drop a)) ∧ Aside0 (J pre wr) ∧ Aside0 (Stay S w wr ∧ B ≤ wr.heap.size)) (fun p _ => xs.length - (intOf p).toNat)
  case atStart => exact ⟨[], 0, rfl, Nat.zero_le _, ⟨⟨Nat.le_refl _, rfl, by simp, by simp⟩⟩, ⟨h0⟩, ⟨hstay0, hz0⟩⟩
  case round =>
    clear hstay0 h0 hz0
    obtain ⟨pre, a, rfl, ha, HP, HJ0, HSt⟩ := hrel
    have c1 : wr.cell? ⟨Bn, 0, none⟩ = some (.slice A xs.length c) := blk_cell ((HSt.out.1 Bn HS.out).trans HBn.out) 0
    obtain ⟨A', hA'⟩ : ∃ A', A' = (if c = a then A else A.map (·.add (a * 1))) := ⟨_, rfl⟩
    have hcut := cut_from (P := Try.prog) 22 5 .i64 Try.underlying22 HI.out 1 HSZ.out A xs.length c (a : Int) (by omega) (by omega) wr
    rw [Int.toNat_natCast, ← hA'] at hcut
    have hCw : Kd.C (Kd.int .u8) wr A xs.length xs := C_blk HR.out (fun ad e hn => HSt.out.1 _ (HA.out ad e hn))
    have hrow := Kd.C_drop (c := c) hCw ha hc
    rw [show a * (Kd.int .u8).sz = a * 1 from rfl, ← hA', show (xs.drop a).length = xs.length - a from List.length_drop] at hrow
    have hok : okB (xs.drop a) = true := okB_of (isB_drop HX.out a) (by rw [List.length_drop]; omega)
    have HROW := Aside0.mk hrow
    have HOK := Aside0.mk hok
    have HD := Aside0.mk (show (xs.drop a).length = xs.length - a from List.length_drop)
    have HcL := Aside0.mk (show xs.length - a ≤ c - a by omega)
    clear hrow hok hCw hA'
    cases hn : nextL (xs.drop a) with
    | none =>
      have hf : frame_Next.f (xs.drop a) = some ([], 0, 40) := by
        unfold frame_Next.f; rw [if_pos ⟨HOK.out, by rw [List.length_drop]; omega⟩, hn]; rfl
      have HF := Aside0.mk hf
      have HN := Aside0.mk hn
      clear hf hn
      gi_wp2
      refine ⟨trivial, callsIn_wide.2 ?_⟩
      rw [← HD.out] at HROW HcL ⊢
      refine (frame_Next.calls A' (c - a) (xs.drop a) _ _ _ wr HROW.out HcL.out HF.out).mono ?_
      rintro e w1 ⟨v1, rfl, ho, hb⟩
      have HJ1 := Aside0.mk (HJ.out pre wr w1 none HJ0.out (grown_of_below hb) (fun r e => by cases e))
      clear ho hb
      gi_wp2
      refine ⟨fun _ h => (by cases h), ?_⟩
      gi_wp2
      refine bodyPost_ret (results_none rfl _ _ _) rfl ?_
      refine ⟨⟨_, rfl⟩, .inl ⟨pre, ⟨?_, ?_⟩, HJ1.out⟩⟩
      · rw [HP.out.2.2.2, (wholeL_none HN.out).2, List.append_nil]
      · rw [HP.out.2.1, HP.out.2.2.1, (wholeL_none HN.out).1]; rfl
    | some q =>
      obtain ⟨q, m⟩ := q
      have hf : frame_Next.f (xs.drop a) = some (q, (m : Int), 0) := by
        unfold frame_Next.f; rw [if_pos ⟨HOK.out, by rw [List.length_drop]; omega⟩, hn]; rfl
      obtain ⟨hst, hml, h5⟩ := wholeL_step (isB_drop HX.out a) hn
      have hrc := recsL_step (isB_drop HX.out a) hn
      rw [List.length_drop] at hml
      rw [List.drop_drop] at hrc
      have HF := Aside0.mk hf
      have HST := Aside0.mk hst
      have HRC := Aside0.mk hrc
      clear hf hn hst hrc
      gi_wp2
      refine ⟨trivial, callsIn_wide.2 ?_⟩
      rw [← HD.out] at HROW HcL ⊢
      refine (frame_Next.calls A' (c - a) (xs.drop a) _ _ _ wr HROW.out HcL.out HF.out).mono ?_
      rintro e w1 ⟨v1, rfl, ho, hb⟩
      have HJ1 := Aside0.mk (HJ.out pre wr w1 none HJ0.out (grown_of_below hb) (fun r e => by cases e))
      have HB1 := Aside0.mk hb
      have hown : OwnB B v1 q w1 := OwnB.lower ho HSt.out.2
      obtain ⟨A1, c1, rfl⟩ := Kd.R_slice ho
      clear ho hb
      have hrecs : recsL xs = (pre ++ [((.slice A1 q.length c1, a + m, q) : E3)]).map (·.2.2) ++ recsL (xs.drop (a + m)) := by
        rw [HP.out.2.2.2, HRC.out, List.map_append, List.append_assoc]; rfl
      obtain ⟨fn, tmps, assign, body, hy, hR⟩ := HY.out pre (.slice A1 q.length c1, a + m, q) w1 HJ1.out hown ⟨recsL (xs.drop (a + m)), hrecs.symm⟩
      dsimp only [encs3] at hy
      have ham : ((a + m : Nat) : Int) = (a : Int) + (m : Int) := by omega
      rw [ham] at hy
      have HR1 := Aside0.mk hR
      have HO1 := Aside0.mk hown
      have HRS := Aside0.mk hrecs
      clear hR hown hrecs
      gi_wp2
      refine HR1.out.mono ?_
      rintro e W3 (⟨rfl, hJ3, hk3, hf3⟩ | ⟨rfl, hJx3, _⟩)
      · have HJ3 := Aside0.mk hJ3
        have HK3 := Aside0.mk hk3
        have HF3 := Aside0.mk hf3
        clear hJ3 hk3 hf3
        gi_wp2
        go_roundw
        case rel => exact ⟨pre ++ [(.slice A1 q.length c1, a + m, q)], a + m, by go_num, by omega, ⟨⟨by have := HP.out.1; rw [List.length_append]; simp; omega, last3_snoc _ _, by rw [HP.out.2.2.1, HST.out, List.drop_drop]; omega, HRS.out⟩⟩, HJ3, ⟨(HSt.out.1.trans (fun k hk => HB1.out.block k (heap_lt (HSt.out.1 k hk) (HSl.out k hk)))).trans HK3.out.s, by have := HSt.out.2; have := HB1.out.size; have := HF3.out.size; omega⟩⟩
        case measure => simp [intOf]; omega
      · have HJ3 := Aside0.mk hJx3
        clear hJx3
        gi_wp2
        refine bodyPost_ret (results_none rfl _ _ _) rfl ?_
        exact ⟨⟨_, rfl⟩, .inr ⟨_, ⟨_, HRS.out.symm⟩, HJ3.out⟩⟩
theorem round_wide {m m' l0 : Nat} {P : Program} {l : Nat} {f : FuncId} {tmps : Array Value} {assign body : Code} {w : World} {R : Ending → World → Prop} (h : RoundIn Fence.wide m P l f tmps assign body w R) : RoundIn (Fence.wide.inRound l0) m' P l f tmps assign body w R :=
  ⟨h.1, fun c cs _ => h.2 c cs (fun d hd => by cases hd)⟩
theorem stay_row {W W' : World} {row : Option Nat} {B k : Nat} {o : Obj} (h : W.heap[k]? = some o) (hk : k < B) (hg : W.grownBy W' row) (hr : ∀ r, row = some r → B ≤ r ∧ ∃ o : Obj, W.heap[r]? = some o ∧ o.isCells = false) : W'.heap[k]? = some o :=
  own_row h hg (fun r e => by have := (hr r e).1; omega)
abbrev E1 := Value × List Int
def enc1 (x : E1) : Array Value := #[x.1]
def pr31 (x : E3) : E1 := (x.1, x.2.2)
theorem pr31_map (l : List E3) : (l.map pr31).map (·.2) = l.map (·.2.2) := by rw [List.map_map]; rfl
set_option maxHeartbeats 1000000 in
set_option maxRecDepth 100000 in
theorem all_gives (A : Option Addr) (c : Nat) (xs : List Int) (hx : isB xs) (hl : xs.length ≤ 1000000) (hc : xs.length ≤ c) (Bn : Nat) (S : Nat → Prop) (B : Nat) (w : World) (hBn : w.heap[Bn]? = some (.cells #[.slice A xs.length c] 22 (0, 0))) (hS : S Bn) (hr : Kd.C (Kd.int .u8) w A xs.length xs) (hA : ∀ ad, A = some ad → 0 < xs.length → S ad.block) (hSl : ∀ k, S k → k < B) (hB : B = w.heap.size) :
    Gives Fence.wide 102 Try.prog 32 #[.pointer (some ⟨Bn, 0, none⟩)] enc1 (fun x => Keep S B x.1) (fun x W => OwnB B x.1 x.2 W) (fun l => l.map (·.2) = recsL xs) (fun l => l.map (·.2) <+: recsL xs) w := fun l J Jx W hW hlW hJ hJx hY h0 => by
  have hstay0 : Stay S w W := fun k hk => hW.block k (by have := hSl k hk; omega)
  have hz0 : B ≤ W.heap.size := by have := hW.size; omega
  have HY := Aside0.mk hY
  have cb : W.heap[Bn]? = some (.cells #[.slice A xs.length c] 22 (0, 0)) := (hstay0 Bn hS).trans hBn
  have hBW : Bn < W.heap.size := by have := hSl Bn hS; omega
  have hrW : Kd.C (Kd.int .u8) W A xs.length xs := C_blk hr (fun ad e hn => hstay0 _ (hA ad e hn))
  refine callsIn_of_wp_marks Try.func32 rfl trivial ?_ rfl
  simp only [Try.ntmps32, List.size_toArray, List.length_cons, List.length_nil, Nat.reduceAdd, Nat.reduceSub, Array.replicate_succ, Array.replicate_zero, List.push_toArray, List.append_toArray, List.nil_append, List.cons_append]
  have c1 : (W.alloc (.cells #[.func (.yield l) #[] #[]] 42)).cell? ⟨Bn, 0, none⟩ = some (.slice A xs.length c) := blk_cell ((Below.heap_alloc W _ Bn hBW).trans cb) 0
  have HC := Aside0.mk cb
  have HRW := Aside0.mk hrW
  have HST0 := Aside0.mk hstay0
  have HX := Aside0.mk hx
  have HA := Aside0.mk hA
  have HSl := Aside0.mk hSl
  have HJ := Aside0.mk hJ
  have HJx := Aside0.mk hJx
  have H0 := Aside0.mk h0
  have HS := Aside0.mk hS
  have HB := Aside0.mk hB
  have HW := Aside0.mk hW
  clear cb hrW hstay0 hx hA hSl hJ hJx h0 hS hY hr hBn hB hW
  gi_wp2_with (refine ⟨trivial, ?_⟩; gi_at_call 33; refine (callsIn_wide.2 (each_any _ _ _ _)).mono ?_; rintro e w' ⟨rfl, rfl⟩)
  obtain ⟨V, hV⟩ : ∃ V, V = ((W.alloc (.cells #[.func (.yield l) #[] #[]] 42)).alloc (.cells #[.slice A xs.length c] 22)) := ⟨_, rfl⟩
  have hVz : V.heap.size = W.heap.size + 2 := by rw [hV, World.size_alloc, World.size_alloc]
  have BV : Below W.heap.size W V := by rw [hV]; exact ((Below.refl _ W).alloc (Nat.le_refl _) _).alloc (by rw [World.size_alloc]; omega) _
  have vc : V.heap[W.heap.size + 1]? = some (.cells #[.slice A xs.length c] 22 (0, 0)) := by
    have := World.alloc_heap_new (W.alloc (.cells #[.func (.yield l) #[] #[]] 42)) (.cells #[.slice A xs.length c] 22)
    rw [World.size_alloc] at this
    rw [hV]; exact this
  have vb : V.heap[W.heap.size]? = some (.cells #[.func (.yield l) #[] #[]] 42 (0, 0)) := by
    rw [hV]; exact (Below.heap_alloc _ _ _ (by rw [World.size_alloc]; omega)).trans (World.alloc_heap_new W _)
  have vJ : J [] V := by rw [hV]; exact HJ.out.alloc _ (HJ.out.alloc _ H0.out)
  have hSlt : ∀ k, (S k ∨ k = W.heap.size ∨ k = W.heap.size + 1) → k < V.heap.size := fun k hk => by
    rcases hk with hk | hk | hk
    · have := HSl.out k hk; omega
    · omega
    · omega
  have HVB := Aside0.mk vb
  have HVC := Aside0.mk vc
  have HVJ := Aside0.mk vJ
  have HBV := Aside0.mk BV
  have HSL2 := Aside0.mk hSlt
  rw [← hV]
  clear hV vb vc vJ BV hSlt c1
  refine range_told rfl (by decide) (gf := 38) (lb := #[.pointer (some ⟨W.heap.size + 1, 0, none⟩)]) rfl trivial (enters_of Try.func38 (by kernel_rfl) rfl)
    (each_gives A c xs HX.out hl hc (W.heap.size + 1) (fun k => S k ∨ k = W.heap.size ∨ k = W.heap.size + 1) V.heap.size V HVC.out (.inr (.inr rfl)) (Kd.C_below HRW.out HBV.out) (fun ad e hn => .inl (HA.out ad e hn)) HSL2.out (Nat.le_refl _))
    (fun _ {_ _ _} => Keep.trans) (fun x W' l' o o' hl' h ho => Keep.putObj (L := V.heap.size) HSL2.out hl' h ho) (fun _ => rfl)
    (fun pre W' => J (pre.map pr31) W' ∧ W'.heap[W.heap.size]? = some (.cells #[.func (.yield l) #[] #[]] 42 (0, 0)) ∧ W'.heap[W.heap.size + 1]? = some (.cells #[.slice A xs.length c] 22 (0, 0)))
    (fun c' pre W' => c' = .ret ∧ Jx (pre.map pr31) W')
    (fun s X Y row hs hg hr => ⟨HJ.out _ X Y row hs.1 hg (fun r e => ⟨by have := (hr r e).1; omega, (hr r e).2⟩), stay_row hs.2.1 (by omega) hg hr, stay_row hs.2.2 (by omega) hg hr⟩)
    (fun c' s X Y row hs hg hr => ⟨hs.1, HJx.out _ X Y row hs.2 hg (fun r e => ⟨by have := (hr r e).1; omega, (hr r e).2⟩)⟩)
    (fun x s X Y row hs hg hr => OwnB.kept hs hg (fun r e => (hr r e).2))
    ⟨HVJ.out, HVB.out, HVC.out⟩
    (fun x => { tmps := #[.func (.yield l) #[] #[], .pointer (some ⟨Bn, 0, none⟩), .pointer (some ⟨W.heap.size, 0, none⟩), x.1, .slice A xs.length c, .func (.func 38) #[] #[.pointer (some ⟨W.heap.size + 1, 0, none⟩)], x.1, .int .i64 (x.2.1 : Int), undef, undef, undef, undef], defers := [] }) ?assign ?body ?done ?stop
  case assign =>
    intro l' x W' K hK
    dsimp only [encs3]
    gi_wp2
    exact hK
  case body =>
    rintro l' pre x W' hl' ⟨hJ', hb', hc'⟩ hP hlen
    obtain ⟨fn, tmps, assign, body, hy, hR⟩ := HY.out (pre.map pr31) (pr31 x) W' hJ' (OwnB.lower hP (by omega)) (by rw [← pr31_map] at hlen; simpa using hlen)
    dsimp only [enc1, pr31] at hy
    have HR1 := Aside0.mk hR
    have HB' := Aside0.mk hb'
    have HC' := Aside0.mk hc'
    have HP := Aside0.mk hP
    have cy := blk_cell hb' 0
    clear hR hb' hc' hJ' hP
    gi_wp2
    refine (round_wide HR1.out).mono ?_
    rintro e W3 (⟨rfl, hJ3, hk3, hf3⟩ | ⟨rfl, hJx3, hbut, hsz⟩)
    · have hBe := HB.out
      have hb3 := hk3.c W.heap.size _ (by omega) (fun e => by have := HP.out.blk _ e; omega) HB'.out rfl
      have hc3 := hk3.c (W.heap.size + 1) _ (by omega) (fun e => by have := HP.out.blk _ e; omega) HC'.out rfl
      have HF := Aside0.mk (And.intro hJ3 (And.intro hk3 (And.intro hf3 (And.intro hb3 hc3))))
      clear hJ3 hk3 hf3 hb3 hc3 hBe
      gi_wp2
      have hBe := HB.out
      obtain ⟨hJ3, hk3, hf3, hb3, hc3⟩ := HF.out
      refine ⟨⟨hf3.size, fun k o hk => hf3.same k o (by omega)⟩, ⟨fun k hk => ?_, fun k o hk => hk3.c k o (by omega)⟩, ?_, hb3, hc3⟩
      · rcases hk with hk | rfl | rfl
        · exact hk3.s k hk
        · rw [hb3, HB'.out]
        · rw [hc3, HC'.out]
      · rw [List.map_append]; exact hJ3
    · have HF := Aside0.mk (And.intro hJx3 (And.intro hbut hsz))
      clear hJx3 hbut hsz
      gi_wp2
      have hBe := HB.out
      obtain ⟨hJx3, hbut, hsz⟩ := HF.out
      refine ⟨⟨hsz, fun k o hk hko ho => hbut k o (by omega) ?_ hko ho⟩, rfl, ?_⟩
      · omega
      · rw [List.map_append]; exact hJx3
  case done =>
    rintro D ys W' hD hys ⟨hJ', _, _⟩ hK
    gi_wp2
    refine ⟨by simp, .inl ⟨_, _, rfl, run_takeDeferred hK, ?_⟩⟩
    exact ⟨_, results_none rfl _ _ _, ⟨_, rfl⟩, .inl ⟨_, by rw [pr31_map]; exact hys.1, HJ.out.putObj _ hJ' (by omega) hK rfl⟩⟩
  case stop =>
    rintro D c' pre W' hD hp ⟨rfl, hJ'⟩ hK
    gi_wp2
    refine ⟨by simp, .inl ⟨_, _, rfl, run_takeDeferred hK, ?_⟩⟩
    exact ⟨_, results_none rfl _ _ _, ⟨_, rfl⟩, .inr ⟨_, by rw [pr31_map]; exact hp, HJx.out.putObj _ hJ' (by omega) hK rfl⟩⟩
end Go.Proofs.Ytcobdpkpefgdlaa.Given

namespace Go.Proofs.Ytcobdpkpefgdlaa.Given
open Go.RowKit Go.Shelf Go.Proofs.Ytcobdpkpefgdlaa.Cod Go.Proofs.Ytcobdpkpefgdlaa.Ex Go.Proofs.Ytcobdpkpefgdlaa.Pure Go.Proofs.Ytcobdpkpefgdlaa.PBase Go.Proofs.Ytcobdpkpefgdlaa.Nx Go.Proofs.Ytcobdpkpefgdlaa.Rg Go.Proofs.YtcobdpkpefgdlaaW.PrintWords Go.Proofs.YtcobdpkpefgdlaaW.PrintLast
attribute [local go_sem] Oper.semAt_some
set_option maxHeartbeats 400000 in
theorem all_any (A : Option Addr) (n c : Nat) (w : World) : Calls Try.prog 19 #[.slice A n c] w fun e w' => e = .returned (.func (.func 32) #[] #[.pointer (some ⟨w.heap.size, 0, none⟩)]) ∧ w' = w.alloc (.cells #[.slice A n c] 22) := by
  go_enter Try.func19, Try.ntmps19
  go_wp2_with fail
  go_ret
  exact ⟨rfl, rfl⟩
theorem nil32 (v : Array Value) (W : World) : (binOp BinOp.eql 39 (Value.func (Fn.func 32) #[] v) Value.nilFunc).run Try.prog W = .ok (.bool false) W := by
  have e : (Op.equal 39 (Value.func (Fn.func 32) #[] v) Value.nilFunc).run Try.prog W = .ok false W := by kernel_rfl
  simp [binOp, e, go_sem]
attribute [local go_sem] nil32
theorem res23 {tmps : Array Value} {W : World} {a : Addr} {v0 : Value} (h : tmps.getD 6 undef = .pointer (some a)) (c0 : W.cell? a = some v0) : (results Try.f23 tmps).run Try.prog W = .ok v0 W := by
  have h' : tmps[6]?.getD undef = .pointer (some a) := by simpa using h
  simp [results, h', asAddr, loadVar, Sem.run_bind, Try.isAgg4, c0, go_sem]
theorem prefix_at {l m : List (List Int)} {x : List Int} (h : l ++ [x] <+: m) : l.length < m.length ∧ m.getD l.length [] = x := by
  obtain ⟨r, rfl⟩ := h
  refine ⟨by simp, ?_⟩
  rw [List.getD_eq_getElem?_getD, List.append_assoc, List.getElem?_append_right (Nat.le_refl _)]
  simp
theorem three (w : World) (a b c : Obj) : ((((w.alloc a).alloc b).alloc c).heap[w.heap.size]? = some a ∧ (((w.alloc a).alloc b).alloc c).heap[w.heap.size + 1]? = some b ∧ (((w.alloc a).alloc b).alloc c).heap[w.heap.size + 2]? = some c) ∧ (((w.alloc a).alloc b).alloc c).heap.size = w.heap.size + 3 ∧ Below w.heap.size w (((w.alloc a).alloc b).alloc c) := by
  refine ⟨⟨?_, ?_, ?_⟩, by simp only [World.size_alloc], ((((Below.refl _ w).alloc (Nat.le_refl _) a).alloc (by rw [World.size_alloc]; omega) b).alloc (by simp only [World.size_alloc]; omega) c)⟩
  all_goals
    show (((w.heap.push a).push b).push c)[_]? = _
    simp only [Array.getElem?_push, Array.size_push]
    simp
  all_goals (intro h; omega)
set_option maxHeartbeats 4000000 in
set_option maxRecDepth 100000 in
theorem tells_in (A : Option Addr) (c : Nat) (xs : List Int) (hx : isB xs) (hl : xs.length ≤ 1000000) (hc : xs.length ≤ c) (A1 : Option Addr) (c1 : Nat) (hc1 : (recsL xs).length ≤ c1) (hls : (recsL xs).length ≤ 1000000) (hrl : ∀ x ∈ recsL xs, x.length ≤ 1000000) (w : World) (hr : Kd.C (Kd.int .u8) w A xs.length xs) (hr1 : Kd.C (Kd.slice 5 (Kd.int .u8)) w A1 (recsL xs).length (recsL xs)) :
    Calls Try.prog 23 #[.slice A xs.length c, .slice A1 (recsL xs).length c1, .int .i64 (wholeL xs : Int)] w fun e w' => e = .returned (.bool true) ∧ Below w.heap.size w w' := by
  refine (callsIn_wide (n := 103)).1 ?_
  refine callsIn_of_wp_marks Try.func23 rfl trivial ?_ rfl
  simp only [Try.ntmps23, List.size_toArray, List.length_cons, List.length_nil, Nat.reduceAdd, Nat.reduceSub, Array.replicate_succ, Array.replicate_zero, List.push_toArray, List.append_toArray, List.nil_append, List.cons_append]
  have HR := Aside0.mk hr
  have HR1 := Aside0.mk hr1
  have HX := Aside0.mk hx
  have HRL := Aside0.mk hrl
  clear hr hr1 hx hrl
  generalize hls' : recsL xs = ls at *
  have HLS := Aside0.mk hls'
  clear hls'
  gi_wp2_with (refine ⟨trivial, ?_⟩; gi_at_call 19; refine (callsIn_wide.2 (all_any _ _ _ _)).mono ?_; rintro e w' ⟨rfl, rfl⟩)
  obtain ⟨V, hV⟩ : ∃ V, V = (((w.alloc (.cells #[.slice A1 ls.length c1] 35)).alloc (.cells #[.bool false] 4)).alloc (.cells #[.slice A xs.length c] 22)) := ⟨_, rfl⟩
  have h3 := three w (.cells #[.slice A1 ls.length c1] 35) (.cells #[.bool false] 4) (.cells #[.slice A xs.length c] 22)
  rw [← hV] at h3
  rw [← hV]
  have H3 := Aside0.mk h3
  clear hV h3
  simp only [Nat.add_assoc, Nat.reduceAdd]
  refine ⟨trivial, callsIn_wide.2 ?_⟩
  refine (whole_in A c xs HX.out hl hc V (Kd.C_below HR.out H3.out.2.2)).mono ?_
  rintro e w3 ⟨rfl, hB3⟩
  have K0 := Aside0.mk ((hB3.block _ (by have := H3.out.2.1; omega)).trans H3.out.1.1)
  have K1 := Aside0.mk ((hB3.block _ (by have := H3.out.2.1; omega)).trans H3.out.1.2.1)
  have K2 := Aside0.mk ((hB3.block _ (by have := H3.out.2.1; omega)).trans H3.out.1.2.2)
  have KB := Aside0.mk (H3.out.2.2.trans (hB3.mono H3.out.2.2.size))
  have KZ := Aside0.mk (show w.heap.size + 3 ≤ w3.heap.size by have := H3.out.2.1; have := hB3.size; omega)
  clear hB3 H3
  gi_wp2
  obtain ⟨V, hV⟩ : ∃ V, V = w3.alloc (.cells #[.int .i64 0] 3) := ⟨_, rfl⟩
  have hVz : V.heap.size = w3.heap.size + 1 := by rw [hV, World.size_alloc]
  have vk : V.heap[w3.heap.size]? = some (.cells #[.int .i64 0] 3 (0, 0)) := by rw [hV]; exact World.alloc_heap_new w3 _
  have v0 := (Below.heap_alloc w3 (.cells #[.int .i64 0] 3) w.heap.size (by have := KZ.out; omega)).trans K0.out
  have v1 := (Below.heap_alloc w3 (.cells #[.int .i64 0] 3) (w.heap.size + 1) (by have := KZ.out; omega)).trans K1.out
  have v2 := (Below.heap_alloc w3 (.cells #[.int .i64 0] 3) (w.heap.size + 2) (by have := KZ.out; omega)).trans K2.out
  rw [← hV] at v0 v1 v2
  have vB : Below w.heap.size w V := by rw [hV]; exact KB.out.alloc KB.out.size _
  have HV := Aside0.mk (And.intro vk (And.intro v0 (And.intro v1 (And.intro v2 vB))))
  have HVZ := Aside0.mk hVz
  rw [← hV]
  clear hV vk v0 v1 v2 vB K0 K1 K2 KB hVz
  have hAw : ∀ ad, A = some ad → 0 < xs.length → ad.block < w.heap.size := fun ad e hn => C_old HR.out ad e hn
  have HAW := Aside0.mk hAw
  clear hAw
  have hSl : ∀ k, (k = w.heap.size + 2 ∨ ∃ ad, A = some ad ∧ 0 < xs.length ∧ k = ad.block) → k < V.heap.size := fun k hk => by
    have := KZ.out; have := HVZ.out
    rcases hk with rfl | ⟨ad, e, hn, rfl⟩
    · omega
    · have := HAW.out ad e hn; omega
  have HSL := Aside0.mk hSl
  clear hSl
  refine range_told rfl (by decide) (gf := 32) (lb := #[.pointer (some ⟨w.heap.size + 2, 0, none⟩)]) rfl trivial (enters_of Try.func32 (by kernel_rfl) rfl)
    (all_gives A c xs HX.out hl hc (w.heap.size + 2) (fun k => k = w.heap.size + 2 ∨ ∃ ad, A = some ad ∧ 0 < xs.length ∧ k = ad.block) V.heap.size V HV.out.2.2.2.1 (.inl rfl) (Kd.C_below HR.out HV.out.2.2.2.2) (fun ad e hn => .inr ⟨ad, e, hn, rfl⟩) HSL.out rfl)
    (fun _ {_ _ _} => Keep.trans) (fun x W' l' o o' hl' h ho => Keep.putObj (L := V.heap.size) HSL.out hl' h ho) (fun _ => rfl)
    (fun pre W' => (W'.heap[w3.heap.size]? = some (.cells #[.int .i64 (pre.length : Int)] 3 (0, 0)) ∧ W'.heap[w.heap.size]? = some (.cells #[.slice A1 ls.length c1] 35 (0, 0)) ∧ W'.heap[w.heap.size + 1]? = some (.cells #[.bool false] 4 (0, 0))) ∧ Below w.heap.size w W')
    (fun _ _ _ => False)
    (fun s X Y row hs hg hr => ⟨⟨stay_row hs.1.1 (by have := HVZ.out; omega) hg hr, stay_row hs.1.2.1 (by have := HVZ.out; have := KZ.out; omega) hg hr, stay_row hs.1.2.2 (by have := HVZ.out; have := KZ.out; omega) hg hr⟩, hs.2.grown hg hs.2.size (fun k e => by have := (hr k e).1; have := HVZ.out; have := KZ.out; omega)⟩)
    (fun _ _ _ _ _ hs _ _ => hs)
    (fun x s X Y row hs hg hr => OwnB.kept hs hg (fun r e => (hr r e).2))
    ⟨⟨HV.out.1, HV.out.2.1, HV.out.2.2.1⟩, HV.out.2.2.2.2⟩
    (fun x => { tmps := #[.slice A xs.length c, .slice A1 ls.length c1, .int .i64 (wholeL xs : Int), undef, .pointer (some ⟨w.heap.size, 0, none⟩), undef, .pointer (some ⟨w.heap.size + 1, 0, none⟩), .func (.func 32) #[] #[.pointer (some ⟨w.heap.size + 2, 0, none⟩)], .pointer (some ⟨w3.heap.size, 0, none⟩), x.1, .slice A xs.length c, .func (.func 32) #[] #[.pointer (some ⟨w.heap.size + 2, 0, none⟩)], .func (.func 32) #[] #[.pointer (some ⟨w.heap.size + 2, 0, none⟩)], .bool false, .bool false, .slice A xs.length c, .int .i64 (wholeL xs : Int), .int .i64 (wholeL xs : Int), .bool false, .bool false, .func (.func 32) #[] #[.pointer (some ⟨w.heap.size + 2, 0, none⟩)], x.1, undef, undef, undef, undef, undef, undef, undef, undef, undef, undef, undef, undef, undef, undef, undef, undef, undef, undef, undef], defers := [] }) ?assign ?body ?done ?stop
  case assign =>
    intro l' x W' K hK
    dsimp only [enc1]
    gi_wp2
    exact hK
  case body =>
    rintro l' pre x W' hl' ⟨⟨hk, h0, h1⟩, hB⟩ hP hpre
    rw [HLS.out, List.map_append] at hpre
    obtain ⟨hlt, hat⟩ := prefix_at (x := x.2) (by simpa using hpre)
    rw [List.length_map] at hlt hat
    obtain ⟨A2, c2, hx1⟩ := hP.slice
    obtain ⟨v, q⟩ := x
    dsimp only at hx1 hat hP hpre
    subst hx1
    have hCq : Kd.C (Kd.int .u8) W' A2 q.length q := (Kd.R_reads' hP).2.2
    have hcq := (Kd.R_reads' hP).2.1
    obtain ⟨ad1, A3, c3, e1, hcell, hc3, hC3⟩ := at_L2 (Kd.C_below HR1.out hB) (pre.length : Int) (by omega) (by omega)
    subst e1
    rw [Int.toNat_natCast] at hcell
    have hrd : rd_L2 ls (pre.length : Int) = q := by unfold rd_L2; rw [Int.toNat_natCast]; exact hat
    rw [hrd] at hcell hc3 hC3
    have hsame : tocsinref04_Same.f 1000001 q q = some true := by
      have hq : q.length ≤ 1000000 := HRL.out q (by rw [← hat, List.getD_eq_getElem?_getD, List.getElem?_eq_getElem hlt]; exact List.getElem_mem hlt)
      rw [same_some q q (by omega) (by omega), decide_eq_true rfl]
    have ck := blk_cell hk 0
    have cl := blk_cell h0 0
    have fk := blk_frozen hk 0
    have d1 : decide (ls.length ≤ pre.length) = false := decide_eq_false (by omega)
    have HF := Aside0.mk (And.intro hk (And.intro h0 (And.intro h1 (And.intro hB hP))))
    have HQ := Aside0.mk (And.intro hCq (And.intro hcq (And.intro hC3 (And.intro hc3 hsame))))
    clear hk h0 h1 hB hP hCq hcq hC3 hc3 hsame hpre hat hrd
    gi_wp2_with (refine ⟨trivial, ?_⟩; gi_at_call 13; refine (CallsIn.inRound l' (callsIn_wide.2 (tocsinref04_Same.calls 1000001 A2 c2 q A3 c3 q true _ HQ.out.1 HQ.out.2.1 HQ.out.2.2.1 HQ.out.2.2.2.1 HQ.out.2.2.2.2))).mono ?_; rintro e w' ⟨rfl, nd, rfl⟩)
    obtain ⟨hk, h0, h1, hB, hP⟩ := HF.out
    have hkb := HVZ.out
    have hkz := KZ.out
    have hh : ∀ k : Nat, (W'.drewN nd).heap[k]? = W'.heap[k]? := fun k => rfl
    have hk' : (W'.drewN nd).heap[w3.heap.size]? = some (.cells #[.int .i64 (pre.length : Int)] 3 (0, 0)) := (hh _).trans hk
    have hset : ∀ k : Nat, k ≠ w3.heap.size → ((W'.drewN nd).setCell ⟨w3.heap.size, 0, none⟩ (.int .i64 ((pre.length : Int) + 1))).heap[k]? = W'.heap[k]? := fun k hne => (Below.heap_setCell _ ⟨w3.heap.size, 0, none⟩ _ k hne).trans (hh k)
    have hput := blk_put hk' 0 (.int .i64 ((pre.length : Int) + 1)) rfl
    refine ⟨⟨?_, fun k o hk1 hk2 hk3 => (hset k (by omega)).trans hk2⟩, ⟨fun k hS => hset k ?_, fun k o hk1 hk2 hk3 _ => (hset k (by omega)).trans hk3⟩, ⟨?_, (hset _ (by omega)).trans h0, (hset _ (by omega)).trans h1⟩, ?_⟩
    · rw [World.size_setCell]; exact Nat.le_refl _
    · rcases hS with rfl | ⟨ad, e, hn, rfl⟩
      · omega
      · have := HAW.out ad e hn; omega
    · rw [List.length_append, show [((Value.slice A2 q.length c2, q) : E1)].length = 1 from rfl, show ((pre.length + 1 : Nat) : Int) = (pre.length : Int) + 1 from by omega]
      exact hput
    · exact (hB.trans ((show Drawn0 W' (W'.drewN nd) from ⟨⟨nd, rfl⟩⟩).below.mono hB.size)).setCell (p := ⟨w3.heap.size, 0, none⟩) (by show w.heap.size ≤ w3.heap.size; omega) _
  case done =>
    rintro D ys W' hD hys ⟨⟨hk, h0, h1⟩, hB⟩ hK
    have hlen : ys.length = ls.length := by rw [← HLS.out, ← hys, List.length_map]
    have ck := blk_cell hk 0
    have cl := blk_cell h0 0
    have cr := blk_cell h1 0
    have fr := blk_frozen h1 0
    rw [hlen] at ck
    have d1 : ((ls.length : Int) == (ls.length : Int)) = true := beq_self_eq_true _
    have HF := Aside0.mk (And.intro h1 (And.intro hB (And.intro hD hK)))
    clear hk h0 h1 hB hlen hys hD hK
    gi_wp2
    obtain ⟨h1, hB, hD, hK⟩ := HF.out
    have hvz := HVZ.out
    have hkz := KZ.out
    have hK2 : (W'.setCell ⟨w.heap.size + 1, 0, none⟩ (.bool true)).heap[D]? = some (.deferred (some [])) := (Below.heap_setCell W' ⟨w.heap.size + 1, 0, none⟩ _ D (by show D ≠ w.heap.size + 1; omega)).trans hK
    have hr2 := blk_put h1 0 (.bool true) rfl
    have hb2 : Below w.heap.size w (W'.setCell ⟨w.heap.size + 1, 0, none⟩ (.bool true)) := hB.setCell (p := ⟨w.heap.size + 1, 0, none⟩) (by show w.heap.size ≤ w.heap.size + 1; omega) _
    refine ⟨by simp, .inl ⟨_, _, rfl, run_takeDeferred hK2, ?_⟩⟩
    exact ⟨_, res23 rfl (blk_cell ((World.putObj_heap_other (by omega)).trans hr2) 0), rfl, hb2.trans (belowK_b (w := w) (Nat.le_refl _) _ D _ _ (by omega) hK2 rfl rfl)⟩
  case stop =>
    rintro D c' pre W' _ _ h _
    exact h.elim
end Go.Proofs.Ytcobdpkpefgdlaa.Given

namespace Go.Proofs.Ytcobdpkpefgdlaa.Tf
open Go.RowKit Go.Proofs.Crc Go.Proofs.Ytcobdpkpefgdlaa.Cod Go.Proofs.Ytcobdpkpefgdlaa.Given Go.Proofs.Ytcobdpkpefgdlaa.Nx Go.Proofs.Ytcobdpkpefgdlaa.Pure Go.Proofs.YtcobdpkpefgdlaaW.PrintWords Go.Proofs.YtcobdpkpefgdlaaW.PrintLast
def okT (l0 : List Int) (l1 : List (List Int)) (a2 : Int) : Prop := okB l0 = true ∧ l0.length ≤ 1000000 ∧ recsL l0 = l1 ∧ (wholeL l0 : Int) = a2 ∧ l1.length ≤ 1000000 ∧ ∀ x ∈ l1, x.length ≤ 1000000
instance (l0 : List Int) (l1 : List (List Int)) (a2 : Int) : Decidable (okT l0 l1 a2) := by unfold okT; infer_instance
def tocsinlaw04_tells.f (l0 : List Int) (l1 : List (List Int)) (a2 : Int) : Option Bool := if okT l0 l1 a2 then some true else none
theorem tocsinlaw04_tells.calls (A0 : Option Addr) (c0 : Nat) (l0 : List Int) (A1 : Option Addr) (c1 : Nat) (l1 : List (List Int)) (a2 : Int) (r : Bool) (w : World) (hr0 : Kd.C (Kd.int .u8) w A0 l0.length l0) (hc0 : l0.length ≤ c0) (hr1 : Kd.C (Kd.slice 5 (Kd.int .u8)) w A1 l1.length l1) (hc1 : l1.length ≤ c1) (h : tocsinlaw04_tells.f l0 l1 a2 = some r) :
    Calls Try.prog 23 #[.slice A0 l0.length c0, .slice A1 l1.length c1, .int .i64 a2] w fun e w' => e = .returned (.bool r) ∧ Below w.heap.size w w' := by
  unfold tocsinlaw04_tells.f at h
  split at h
  · rename_i hok
    obtain rfl := Option.some.inj h
    obtain ⟨h1, h2, h3, h4, h5, h6⟩ := hok
    subst h3 h4
    exact tells_in A0 c0 l0 (isB_ok h1).1 h2 hc0 A1 c1 hc1 h5 h6 w hr0 hr1
  · cases h
theorem tells_some {l0 : List Int} {l1 : List (List Int)} {a2 : Int} (h : okT l0 l1 a2) : tocsinlaw04_tells.f l0 l1 a2 = some true := by unfold tocsinlaw04_tells.f; rw [if_pos h]
end Go.Proofs.Ytcobdpkpefgdlaa.Tf
