/- A range over a function whose body is told which elements come, and whose loop variable lies in a box: a law. -/
import Derived.Test.YtpeaepdhnicceaaTg
namespace Go.Proofs.Ytpeaepdhnicceaa.Rgl
open Go Go.RowKit
variable {F : Fence} {n : Nat} {P : Program}
theorem range_toldH {α : Type} {g : Operand} {ps : Array Tmp} {assign body : Code} {Q : Exit → Act → World → Prop} {a : Act} {w : World}
    (hro : F.round = none) (h1 : 1 ≤ n) {gf : Nat} {lb : Array Value} (hg : a.eval g = .func (.func gf) #[] lb) (hF : F.fn gf) (eg : ∀ args w, (callFunc gf args).run P w = .ok (.enter gf args) w)
    {encs : α → Array Value} {Kp : α → World → World → Prop} {S Sp : List α → Prop} (hseq : Gives F (n - 1) P gf lb encs Kp (fun _ _ => True) S Sp w)
    (hKt : ∀ x {A B C : World}, Kp x A B → Kp x B C → Kp x A C) (hKb : ∀ x (W : World) (l : Nat) (o o' : Obj), w.heap.size ≤ l → W.heap[l]? = some o' → o'.isCells = false → Kp x W (W.putObj l o)) (hps : ∀ x, (encs x).size = ps.size)
    (I : List α → World → Prop) (Ix : Code → List α → World → Prop) (hI : OwnFrom w.heap.size I) (hIx : ∀ c, OwnFrom w.heap.size (Ix c)) (h0 : I [] w) (At : α → Act → World → Prop) (hAt : ∀ x a', OwnFrom w.heap.size (fun (_ : Unit) W => At x a' W))
    (hassign : ∀ (l : Nat) (pre : List α) (x : α) (W : World) (K : Act → World → Prop), w.heap.size ≤ l → I pre W → (∀ a' W', KeepsFrom w.heap.size W W' → Kp x W W' → I pre W' → At x a' W' → K a' W') →
      assign.wpIn (F.inRound l) (n - 1 - 1) P (Exit.then K (fun _ _ _ => False)) { tmps := (ps.zip (encs x)).foldl (fun t (p, v) => t.setIfInBounds p v) a.tmps, defers := [] } W)
    (hbody : ∀ (l : Nat) (pre : List α) (x : α) (a' : Act) (W : World), w.heap.size ≤ l → I pre W → Sp (pre ++ [x]) → At x a' W → body.wpIn (F.inRound l) (n - 1 - 1) P (Left w.heap.size (Kp x) I Ix (pre ++ [x]) W) a' W)
    (hdone : ∀ (D : Nat) (xs : List α) (W : World), w.heap.size ≤ D → S xs → I xs W → W.heap[D]? = some (.deferred (some [])) → Q .normal { a with defers := { target := .collected D, args := #[] } :: a.defers } W)
    (hstop : ∀ (D : Nat) (c : Code) (pre : List α) (W : World), w.heap.size ≤ D → Sp pre → Ix c pre W → W.heap[D]? = some (.deferred (some [])) → c.wpIn F n P Q { a with defers := { target := .collected D, args := #[] } :: a.defers } W) :
    (Code.rangeFunc g ps assign body).wpIn F n P Q a w := by
  refine wpIn_rangeFunc fun fn hfn => ?_
  rw [hro]
  generalize hL : w.heap.size = L at *
  obtain ⟨rc, hrc⟩ : ∃ rc : LoopState → Option Code → Loop, rc = fun st pe => { state := st, pending := pe, fn, tmps := a.tmps, params := ps, assign, body, defers := L } := ⟨_, rfl⟩
  obtain ⟨V, hV⟩ : ∃ V, V = (w.alloc (.deferred (some []))).alloc (.loop (rc .ready none)) := ⟨_, rfl⟩
  have hVz : V.heap.size = L + 2 := by rw [hV, World.size_alloc, World.size_alloc, hL]
  have v1 : V.heap[L + 1]? = some (.loop (rc .ready none)) := by
    have := World.alloc_heap_new (w.alloc (.deferred (some []))) (.loop (rc .ready none))
    rw [World.size_alloc, hL] at this
    rw [hV]; exact this
  have v0 : V.heap[L]? = some (.deferred (some [])) := by
    have := World.alloc_heap_new w (.deferred (some []))
    rw [hL] at this
    rw [hV]; exact (Below.heap_alloc _ _ _ (by rw [World.size_alloc]; omega)).trans this
  have vI : I [] V := by rw [hV]; exact hI.alloc _ (hI.alloc _ h0)
  have vB : Below L w V := by
    have := ((Below.refl L w).alloc (by omega) (.deferred (some []))).alloc (by rw [World.size_alloc]; omega) (.loop (rc .ready none))
    rw [hV]; exact this
  refine ⟨L + 1, [{ target := .collected L, args := #[] }], V, { target := .fn (.func gf) lb, args := #[.func (.yield (L + 1)) #[] #[]] }, V, gf, #[.func (.yield (L + 1)) #[] #[]] ++ lb, V, ?_, ?_, ?_, ?_, fun _ => h1, ?_⟩
  · have := run_enterLoop_outer (P := P) (w := w) fn a.tmps ps assign body
    rw [hL] at this
    rw [hV, hrc]; exact this
  · simp only [resolve, hg]; simp [go_sem]
  · intro f' hf'; simp [Target.leads] at hf'; subst hf'; exact hF
  · simp [invoke, go_sem, eg]
  have back := hseq (L + 1)
    (fun pre W => I pre W ∧ W.heap[L + 1]? = some (.loop (rc .ready none)) ∧ W.heap[L]? = some (.deferred (some [])))
    (fun pre W => ∃ c, Ix c pre W ∧ W.heap[L + 1]? = some (.loop (rc .done (some c))) ∧ W.heap[L]? = some (.deferred (some []))) V (by rw [hL]; exact vB) (by omega)
    (fun s A B row hs hg' hr => ⟨hI s A B row hs.1 hg' (fun r e => ⟨by have := (hr r e).1; omega, (hr r e).2⟩), own_row hs.2.1 hg' (fun r e => by have := (hr r e).1; omega), own_row hs.2.2 hg' (fun r e => by have := (hr r e).1; omega)⟩)
    (fun s A B row hs hg' hr => by
      obtain ⟨c, hc, hl, hk⟩ := hs
      exact ⟨c, hIx c s A B row hc hg' (fun r e => ⟨by have := (hr r e).1; omega, (hr r e).2⟩), own_row hl hg' (fun r e => by have := (hr r e).1; omega), own_row hk hg' (fun r e => by have := (hr r e).1; omega)⟩)
    (fun pre x W0 hJ _ hlen => by
      obtain ⟨hi0, hl0, hk0⟩ := hJ
      refine ⟨fn, _, assign, body, ?_, roundIn_of_wpIn hfn (hassign (L + 1) pre x W0 _ (by omega) hi0 (fun a' W kf1 kp1 hi hat => ?_))⟩
      · have := run_yield (P := P) (args := encs x) hl0 (by rw [hrc]; exact hps x)
        rw [hrc] at this; exact this
      have hl := kf1.same _ _ (by omega) hl0 rfl
      have hk := kf1.same _ _ (Nat.le_refl _) hk0 rfl
      have hz : L + 1 < W.heap.size := (Array.getElem?_eq_some_iff.1 hl).1
      obtain ⟨U, hU⟩ : ∃ U, U = W.putObj (L + 1) (.loop { rc .ready none with state := .busy }) := ⟨_, rfl⟩
      have u1 : U.heap[L + 1]? = some (.loop { rc .ready none with state := .busy }) := by rw [hU]; exact World.putObj_heap_same hz
      have u0 : U.heap[L]? = some (.deferred (some [])) := by rw [hU]; exact (World.putObj_heap_other (by omega)).trans hk
      have uz : U.heap.size = W.heap.size := by rw [hU]; exact World.putObj_size
      have uo : ∀ k, k ≠ L + 1 → U.heap[k]? = W.heap[k]? := fun k h => by rw [hU]; exact World.putObj_heap_other h
      have uI : I pre U := by rw [hU]; exact hI.putObj _ hi (by omega) hl rfl
      have uP : At x a' U := by rw [hU]; exact (hAt x a').putObj (s := ()) _ hat (by omega) hl rfl
      have uK : Kp x W U := by rw [hU]; exact hKb _ _ _ _ _ (by omega) hl rfl
      have hb : (Instr.beginRound (L + 1)).run P W = .ok () U := by
        rw [hU]; exact run_beginRound hl (by rw [hrc])
      refine ⟨U, hb, wpIn_mono (hbody (L + 1) pre x a' U (by omega) uI hlen uP) ?_⟩
      have tail : ∀ (j : Option Code) (Z : World), KeepsFrom L U Z → ∃ Z', Z' = Z.putObj (L + 1) (.loop (rc (if j.isNone then .ready else .done) j)) ∧ (Instr.endRound (L + 1) j).run P Z = .ok (.bool j.isNone) Z' ∧
          Z.heap[L + 1]? = some (.loop { rc .ready none with state := .busy }) ∧ Z'.heap[L + 1]? = some (.loop (rc (if j.isNone then .ready else .done) j)) ∧ Z'.heap[L]? = some (.deferred (some [])) ∧
          (∀ (k : Nat) (o : Obj), L ≤ k → k ≠ L + 1 → W.heap[k]? = some o → o.isCells = false → Z'.heap[k]? = some o) ∧ W.heap.size ≤ Z'.heap.size := fun j Z kf => by
        have z1 := kf.same _ _ (by omega) u1 rfl
        refine ⟨_, rfl, ?_, z1, World.putObj_heap_same (Array.getElem?_eq_some_iff.1 z1).1, (World.putObj_heap_other (by omega)).trans (kf.same _ _ (Nat.le_refl _) u0 rfl), fun k o hk hne hko hoc => (World.putObj_heap_other hne).trans (kf.same k o hk ((uo k hne).trans hko) hoc), ?_⟩
        · have := run_endRound (P := P) j z1
          rw [hrc] at this ⊢
          exact this
        · rw [World.putObj_size]; have := kf.size; omega
      intro e a3 Z hz3
      cases e with
      | normal =>
        obtain ⟨kf, kp, iz⟩ := hz3
        obtain ⟨Z', hZ', he, z1, y1, y0, yk, ys⟩ := tail none Z kf
        refine ⟨_, Z', he, .inl ⟨rfl, ⟨?_, y1, y0⟩, ?_, Nat.le_trans kf1.size ys, ?_⟩⟩
        · rw [hZ']; exact hI.putObj _ iz (by omega) z1 rfl
        · rw [hZ']; exact hKt x kp1 (hKt x uK (hKt x kp (hKb _ _ _ _ _ (by omega) z1 rfl)))
        · intro k o hk hko hoc
          by_cases hne : k = L + 1
          · subst hne; rw [hl0] at hko; cases hko; exact y1
          · exact yk k o (by omega) hne (kf1.same _ _ (by omega) hko hoc) hoc
      | ret =>
        obtain ⟨kf, iz⟩ := hz3
        obtain ⟨Z', hZ', he, z1, y1, y0, yk, ys⟩ := tail (some .ret) Z kf
        exact ⟨_, Z', he, .inr ⟨rfl, ⟨.ret, by rw [hZ']; exact (hIx _).putObj _ iz (by omega) z1 rfl, y1, y0⟩, fun k o hk hne hko hoc => yk k o (by omega) hne (kf1.same _ _ (by omega) hko hoc) hoc, Nat.le_trans kf1.size ys⟩⟩
      | exit id =>
        obtain ⟨kf, iz⟩ := hz3
        obtain ⟨Z', hZ', he, z1, y1, y0, yk, ys⟩ := tail (some (.exit id)) Z kf
        exact ⟨_, Z', he, .inr ⟨rfl, ⟨.exit id, by rw [hZ']; exact (hIx _).putObj _ iz (by omega) z1 rfl, y1, y0⟩, fun k o hk hne hko hoc => yk k o (by omega) hne (kf1.same _ _ (by omega) hko hoc) hoc, Nat.le_trans kf1.size ys⟩⟩
      | goto t =>
        obtain ⟨kf, iz⟩ := hz3
        obtain ⟨Z', hZ', he, z1, y1, y0, yk, ys⟩ := tail (some (.goto t)) Z kf
        exact ⟨_, Z', he, .inr ⟨rfl, ⟨.goto t, by rw [hZ']; exact (hIx _).putObj _ iz (by omega) z1 rfl, y1, y0⟩, fun k o hk hne hko hoc => yk k o (by omega) hne (kf1.same _ _ (by omega) hko hoc) hoc, Nat.le_trans kf1.size ys⟩⟩
      | panic ch => exact hz3.elim
      | outgrown => exact hz3.elim)
    ⟨vI, v1, v0⟩
  refine back.mono ?_
  rintro e Z ⟨⟨v, rfl⟩, h⟩
  rcases h with ⟨xs, hS, hi, hl, hk⟩ | ⟨pre, hSp, c, hi, hl, hk⟩
  · have he := run_endLoop (P := P) hl (by rw [hrc]; simp)
    rw [hrc] at he
    exact ⟨none, _, he, hdone L xs _ (Nat.le_refl _) hS (hI.putObj _ hi (by omega) hl rfl) ((World.putObj_heap_other (by omega)).trans hk)⟩
  · have he := run_endLoop (P := P) hl (by rw [hrc]; simp)
    rw [hrc] at he
    exact ⟨some c, _, he, hstop L c pre _ (Nat.le_refl _) hSp ((hIx c).putObj _ hi (by omega) hl rfl) ((World.putObj_heap_other (by omega)).trans hk)⟩
end Go.Proofs.Ytpeaepdhnicceaa.Rgl
