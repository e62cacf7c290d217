/- Any text has just the tokens that the chapter says, or is refused, and where: plain. -/
import Derived.Test.YtpeaepdhnicceaaPRefx5
import Derived.Test.YtpeaepdhnicceaaRefB
namespace Go.Proofs.Ytpeaepdhnicceaa.Pure
open Go.RowKit Go.Proofs.Ytpeaepdhnicceaa.Wk Go.Proofs.Ytpeaepdhnicceaa.PTy Go.Proofs.Ytpeaepdhnicceaa.Given Go.Proofs.Ytpeaepdhnicceaa.PRef Go.Proofs.YtpeaepdhnicceaaW.PrintWords Go.Proofs.YtpeaepdhnicceaaW.PrintLast
/-- The rest of the tokens, within a remark or not. -/
def U (st : Bool) (b : Nat) (l : List UInt8) : List Lx.Tok × Option Nat := Lx.G (b + Lx.skip st l) (l.drop (Lx.skip st l))
theorem U_T (b : Nat) (l : List UInt8) : U false b l = Lx.T b l := (Lx.T_eq b l).symm
theorem U_true (b : Nat) (x : UInt8) (t : List UInt8) : U true b (x :: t) = U (Lx.noEnd x) (b + 1) t := by
  unfold U
  rw [Lx.skip, Nat.add_comm 1, List.drop_succ_cons, show b + (Lx.skip (Lx.noEnd x) t + 1) = b + 1 + Lx.skip (Lx.noEnd x) t from by omega]
theorem U_blank (b : Nat) {x : UInt8} (h : Lx.blank x = true) (t : List UInt8) : U false b (x :: t) = U false (b + 1) t := by
  unfold U
  rw [Lx.skip, if_pos h, Nat.add_comm 1, List.drop_succ_cons, show b + (Lx.skip false t + 1) = b + 1 + Lx.skip false t from by omega]
theorem U_mark (b : Nat) {x : UInt8} (h : Lx.blank x = false) (h35 : x.toNat = 35) (t : List UInt8) : U false b (x :: t) = U true (b + 1) t := by
  unfold U
  rw [Lx.skip, if_neg (by rw [h]; decide), if_pos h35, Nat.add_comm 1, List.drop_succ_cons, show b + (Lx.skip true t + 1) = b + 1 + Lx.skip true t from by omega]
theorem U_nil (st : Bool) (b : Nat) : U st b [] = ([], none) := by
  unfold U; cases st <;> rfl
theorem U_tok (b : Nat) {x : UInt8} (h : Lx.blank x = false) (h35 : x.toNat ≠ 35) (t : List UInt8) : U false b (x :: t) = Lx.G b (x :: t) := by
  unfold U
  rw [Lx.skip, if_neg (by rw [h]; decide), if_neg h35, Nat.add_zero, List.drop_zero]
/-- Tokens of the reference that are these. -/
def Same33 (X : List Lx.Tok) (Y : List S33) : Prop := Y.map (fun y => (y.f0, y.f1, y.f2)) = X.map (fun x => ((x.kind : Int), (⟨x.text.toArray⟩ : ByteArray), (x.at' : Int)))
/-- What the reference tells behind what it has. -/
def Rest (acc : List S33) (q : List Lx.Tok × Option Nat) (r : Option (List S33 × Int × Int)) : Prop :=
  match q.2 with
  | none => ∃ Y, Same33 q.1 Y ∧ r = some (acc ++ Y, 0, 0)
  | some p => r = some ([], (p : Int), 90)
theorem Rest.cons {acc : List S33} {x : Lx.Tok} {y : S33} {q : List Lx.Tok × Option Nat} {r : Option (List S33 × Int × Int)} (hy : (y.f0, y.f1, y.f2) = ((x.kind : Int), (⟨x.text.toArray⟩ : ByteArray), (x.at' : Int))) (h : Rest (acc ++ [y]) q r) : Rest acc (x :: q.1, q.2) r := by
  obtain ⟨X, o⟩ := q
  unfold Rest at *
  cases o with
  | none =>
    obtain ⟨Y, h1, h2⟩ := h
    refine ⟨y :: Y, ?_, by rw [h2, List.append_assoc]; rfl⟩
    unfold Same33 at *
    rw [List.map_cons, List.map_cons, h1, hy]
  | some p => exact h
theorem all_loops (s : ByteArray) (hs : s.size ≤ 4096) : ∀ (m : Nat), (∀ (k b : Nat) (acc : List S33), s.size ≤ b + m → b ≤ s.size → 3 * m + 20100 ≤ k → acc.length ≤ b → Rest acc (U false b ((L s).drop b)) (tocsinref09_All.l0 k s acc (b : Int))) ∧
    (∀ (k b : Nat) (acc : List S33), s.size ≤ b + m → b ≤ s.size → 3 * m + 20099 ≤ k → acc.length ≤ b → Rest acc (U true b ((L s).drop b)) (tocsinref09_All.l1 k s acc (b : Int))) := by
  have end0 : ∀ (k b : Nat) (acc : List S33), s.size ≤ b → 1 ≤ k → Rest acc ([], none) (tocsinref09_All.l0 k s acc (b : Int)) := fun k b acc hb hk => by
    obtain ⟨k, rfl⟩ : ∃ k', k = k' + 1 := ⟨k - 1, by omega⟩
    rw [tocsinref09_All.l0, if_neg (by omega)]
    exact ⟨[], rfl, by rw [List.append_nil]⟩
  have end1 : ∀ (k b : Nat) (acc : List S33), s.size ≤ b → 2 ≤ k → Rest acc ([], none) (tocsinref09_All.l1 k s acc (b : Int)) := fun k b acc hb hk => by
    obtain ⟨k, rfl⟩ : ∃ k', k = k' + 1 := ⟨k - 1, by omega⟩
    rw [tocsinref09_All.l1, if_neg (by omega)]
    exact end0 k b acc hb (by omega)
  intro m
  induction m using Nat.strongRecOn with
  | ind m ih =>
    have hl1 : ∀ (k b : Nat) (acc : List S33), s.size ≤ b + m → b ≤ s.size → 3 * m + 20099 ≤ k → acc.length ≤ b → Rest acc (U true b ((L s).drop b)) (tocsinref09_All.l1 k s acc (b : Int)) := by
      intro k b acc h1 h2 h3 h4
      by_cases hlt : b < s.size
      · obtain ⟨k, rfl⟩ : ∃ k', k = k' + 1 := ⟨k - 1, by omega⟩
        have hd := L_drop hlt
        have hn := next64 hlt (by omega)
        rw [hd, U_true, tocsinref09_All.l1, if_pos (by omega), if_pos (by omega), bt_nat hlt]
        by_cases h10 : s[b].toNat = 10
        · obtain ⟨k, rfl⟩ : ∃ k', k = k' + 1 := ⟨k - 1, by omega⟩
          have hbl : Lx.blank s[b] = true := by unfold Lx.blank; simp; omega
          rw [if_pos (by omega), tocsinref09_All.l0, if_pos (by omega), if_pos (by omega), bt_nat hlt, blank_some, Option.bind_some, hbl, if_pos rfl, hn, show Lx.noEnd s[b] = false by unfold Lx.noEnd; simp [h10]]
          exact (ih (m - 1) (by omega)).1 k (b + 1) acc (by omega) (by omega) (by omega) (by omega)
        · rw [if_neg (by omega), hn, show Lx.noEnd s[b] = true by unfold Lx.noEnd; simp [h10]]
          exact (ih (m - 1) (by omega)).2 k (b + 1) acc (by omega) (by omega) (by omega) (by omega)
      · rw [L_end (by omega), U_nil]; exact end1 k b acc (by omega) (by omega)
    refine ⟨?_, hl1⟩
    intro k b acc h1 h2 h3 h4
    by_cases hlt : b < s.size
    · obtain ⟨k, rfl⟩ : ∃ k', k = k' + 1 := ⟨k - 1, by omega⟩
      have hd := L_drop hlt
      rw [tocsinref09_All.l0, if_pos (by omega), if_pos (by omega), bt_nat hlt, blank_some, Option.bind_some]
      cases hbl : Lx.blank s[b] with
      | true =>
        have hn := next64 hlt (by omega)
        rw [if_pos rfl, hn, hd, U_blank b hbl]
        exact (ih (m - 1) (by omega)).1 k (b + 1) acc (by omega) (by omega) (by omega) (by omega)
      | false =>
        rw [if_neg (by decide)]
        by_cases h35 : s[b].toNat = 35
        · have hu := hl1 k b acc h1 h2 (by omega) h4
          rw [hd, U_true, show Lx.noEnd s[b] = true by unfold Lx.noEnd; simp [h35]] at hu
          rw [if_pos (by omega), hd, U_mark b hbl h35]
          exact hu
        · obtain ⟨r, hr, hr0, hr1⟩ := longest_some s hs b hlt k (by omega)
          rw [if_neg (by omega), hr, Option.bind_some]
          have hU : U false b ((L s).drop b) = Lx.G b ((L s).drop b) := by rw [hd]; exact U_tok b hbl h35 _
          have hne : (L s).drop b ≠ [] := by rw [hd]; simp
          rw [hU]
          unfold Lx.G
          rw [if_neg hne]
          by_cases h0 : (Lx.one ((L s).drop b)).2.2 = 0
          · rw [if_pos h0, if_pos (hr0 h0)]; rfl
          · have hol := Lx.one_len ((L s).drop b)
            have hkd := (Lx.one_kind2 h0).1
            have hlen : ((L s).drop b).length = s.size - b := by rw [List.length_drop, L_len]
            rw [if_neg h0, hr1 h0]
            simp only
            rw [if_neg (show ¬ (((Lx.one ((L s).drop b)).1 : Int) = 0) by omega), if_pos (by omega)]
            refine Rest.cons (y := ⟨((Lx.one ((L s).drop b)).1 : Int), ⟨(Lx.one ((L s).drop b)).2.1.toArray⟩, (b : Int), ((b + (Lx.one ((L s).drop b)).2.2 : Nat) : Int)⟩) rfl ?_
            have := (ih (m - (Lx.one ((L s).drop b)).2.2) (by omega)).1 k (b + (Lx.one ((L s).drop b)).2.2) (acc ++ [⟨((Lx.one ((L s).drop b)).1 : Int), ⟨(Lx.one ((L s).drop b)).2.1.toArray⟩, (b : Int), ((b + (Lx.one ((L s).drop b)).2.2 : Nat) : Int)⟩]) (by omega) (by omega) (by omega) (by rw [List.length_append]; simp; omega)
            rw [U_T, ← List.drop_drop] at this
            exact this
    · rw [L_end (by omega), U_nil]; exact end0 k b acc (by omega) (by omega)
theorem l1_same (s : ByteArray) (X : List Lx.Tok) (Y : List S33) (hXY : Same33 X Y) (hX : X.length ≤ 100000) (a e t : Int) (K : Nat) (h0 : ∀ k, K ≤ k → tocsinlaw09_LexAll.l0 k s Y a e (wrap64 (t + 1)) = some true) : ∀ (m k i : Nat) (x7 : List S31), i + m = X.length → K + m + 1 ≤ k → x7.length = X.length → (∀ j, i ≤ j → x7[j]? = (X.map tokT)[j]?) →
    tocsinlaw09_LexAll.l1 k s Y a e t x7 (i : Int) = some true := by
  have hYl : Y.length = X.length := by have := congrArg List.length hXY; simpa using this
  intro m
  induction m with
  | zero =>
    intro k i x7 hi hk hl _
    obtain ⟨k, rfl⟩ : ∃ k', k = k' + 1 := ⟨k - 1, by omega⟩
    rw [tocsinlaw09_LexAll.l1, if_neg (by omega)]
    exact h0 k (by omega)
  | succ m ih =>
    intro k i x7 hi hk hl hx
    obtain ⟨k, rfl⟩ : ∃ k', k = k' + 1 := ⟨k - 1, by omega⟩
    have hiX : i < X.length := by omega
    have hiY : i < Y.length := by omega
    have e7 : rd_T31 x7 (i : Int) = tokT (X[i]'hiX) := by
      have := hx i (Nat.le_refl _)
      unfold rd_T31
      rw [Int.toNat_natCast, List.getD_eq_getElem?_getD, this, List.getElem?_map, List.getElem?_eq_getElem hiX]; rfl
    have e3 : rd_T33 Y (i : Int) = Y[i]'hiY := by
      unfold rd_T33
      rw [Int.toNat_natCast, List.getD_eq_getElem?_getD, List.getElem?_eq_getElem hiY]; rfl
    have hsame : ((Y[i]'hiY).f0, (Y[i]'hiY).f1, (Y[i]'hiY).f2) = (((X[i]'hiX).kind : Int), (⟨(X[i]'hiX).text.toArray⟩ : ByteArray), ((X[i]'hiX).at' : Int)) := by
      have h1 := congrArg (fun l => l[i]?) hXY
      simp only [List.getElem?_map, List.getElem?_eq_getElem hiX, List.getElem?_eq_getElem hiY, Option.map_some] at h1
      exact Option.some.inj h1
    have s0 : (Y[i]'hiY).f0 = ((X[i]'hiX).kind : Int) := congrArg (·.1) hsame
    have s1 : (Y[i]'hiY).f1 = ⟨(X[i]'hiX).text.toArray⟩ := congrArg (·.2.1) hsame
    have s2 : (Y[i]'hiY).f2 = ((X[i]'hiX).at' : Int) := congrArg (·.2.2) hsame
    have hone : tocsinlaw09_one.f (tokT (X[i]'hiX)).f0 (tokT (X[i]'hiX)).f1 (tokT (X[i]'hiX)).f2 (Y[i]'hiY).f0 (Y[i]'hiY).f1 (Y[i]'hiY).f2 (Y[i]'hiY).f3 = some true := by
      unfold tocsinlaw09_one.f
      rw [s0, s1, s2, if_pos (show (tokT (X[i]'hiX)).f0 = ((X[i]'hiX).kind : Int) from rfl), if_pos (show ((tokT (X[i]'hiX)).f1).toList = (⟨(X[i]'hiX).text.toArray⟩ : ByteArray).toList from rfl)]
      exact congrArg some (beq_self_eq_true _)
    rw [tocsinlaw09_LexAll.l1, if_pos (by omega), if_pos (by omega), if_pos (by omega), e7, e3, hone, Option.bind_some, if_pos rfl, Int.toNat_natCast, next64 hiX (by omega)]
    refine ih k (i + 1) _ (by omega) (by omega) (by rw [List.length_set]; exact hl) (fun j hj => ?_)
    rw [List.getElem?_set_ne (by omega)]
    exact hx j (by omega)
theorem l0_same (s : ByteArray) (Z : List S31) (X : List Lx.Tok) (Y : List S33) (a e : Int) (hall : lex_All.f s = some (Z, a, e)) (hZ : Z = X.map tokT) (hXY : Same33 X Y) (hX : X.length ≤ 10000) : ∀ k, 60000 ≤ k → tocsinlaw09_LexAll.l0 k s Y a e 0 = some true := by
  have hYl : Y.length = X.length := by have := congrArg List.length hXY; simpa using this
  have hZl : Z.length = X.length := by rw [hZ, List.length_map]
  have step : ∀ (t : Int) (K : Nat), t < 2 → (∀ k, K ≤ k → tocsinlaw09_LexAll.l0 k s Y a e (wrap64 (t + 1)) = some true) → ∀ k, K + X.length + 4 ≤ k → tocsinlaw09_LexAll.l0 k s Y a e t = some true := fun t K ht h k hk => by
    obtain ⟨k, rfl⟩ : ∃ k', k = k' + 2 := ⟨k - 2, by omega⟩
    rw [tocsinlaw09_LexAll.l0, if_pos ht, hall, Option.bind_some]
    simp only
    rw [if_pos trivial, if_pos trivial, hZl, hYl, bne_self_eq_false, tocsinlaw09_LexAll.j1, if_neg (by decide)]
    exact l1_same s X Y hXY (by omega) a e t K h X.length k 0 Z (by omega) (by omega) hZl (fun j _ => by rw [hZ])
  have two : ∀ k, 1 ≤ k → tocsinlaw09_LexAll.l0 k s Y a e 2 = some true := fun k hk => by
    obtain ⟨k, rfl⟩ : ∃ k', k = k' + 1 := ⟨k - 1, by omega⟩
    rw [tocsinlaw09_LexAll.l0, if_neg (by decide)]
  have one := step 1 1 (by decide) (fun k hk => by rw [show wrap64 ((1 : Int) + 1) = 2 from by rw [w64 (by omega) (by omega)]; rfl]; exact two k hk)
  have zero := step 0 (1 + X.length + 4) (by decide) (fun k hk => by rw [show wrap64 ((0 : Int) + 1) = 1 from by rw [w64 (by omega) (by omega)]; rfl]; exact one k hk)
  exact fun k hk => zero k (by omega)
theorem LexAll : tocsinlaw09_LexAll.Pure := by
  intro s hs
  refine ⟨100000, ?_⟩
  unfold tocsinlaw09_LexAll.f
  by_cases h1 : (s.size : Int) > 8000
  · rw [if_pos h1]
  rw [if_neg h1]
  unfold tocsinref09_All.f
  by_cases h2 : (s.size : Int) > 4096
  · rw [if_pos h2, Option.bind_some]
    exact l0_same s [] [] [] 0 3 (all_long s (by omega) hs) rfl rfl (by simp) _ (by omega)
  rw [if_neg h2]
  have hr := (all_loops s (by omega) s.size).1 100000 0 [] (by omega) (by omega) (by omega) (Nat.le_refl _)
  rw [List.drop_zero, U_T] at hr
  have ha := all_T s (by omega)
  have hc := T_count _ 0 (L s) (Nat.le_refl _)
  rw [L_len] at hc
  unfold Rest at hr
  cases ho : (Lx.T 0 (L s)).2 with
  | none =>
    rw [ho] at hr
    obtain ⟨Y, hY, hr⟩ := hr
    rw [outT_none ho] at ha
    rw [show ((0 : Nat) : Int) = 0 from rfl] at hr
    rw [hr, Option.bind_some]
    exact l0_same s _ _ _ 0 0 ha rfl hY (by omega) _ (by omega)
  | some p =>
    rw [ho] at hr
    rw [outT_some ho] at ha
    rw [show ((0 : Nat) : Int) = 0 from rfl] at hr
    rw [hr, Option.bind_some]
    exact l0_same s [] [] [] (p : Int) 90 ha rfl rfl (by simp) _ (by omega)
end Go.Proofs.Ytpeaepdhnicceaa.Pure
