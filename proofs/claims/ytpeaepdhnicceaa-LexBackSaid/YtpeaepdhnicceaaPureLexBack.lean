/- Tokens written one behind the other, a blank between, are read as the same tokens: plain. -/
import Derived.Test.YtpeaepdhnicceaaPAllx3
import Derived.Test.YtpeaepdhnicceaaLxA
import Derived.Test.YtpeaepdhnicceaaLxF
namespace Go.Proofs.Ytpeaepdhnicceaa.Pure
open Go.RowKit Go.Proofs.Ytpeaepdhnicceaa.Wk Go.Proofs.Ytpeaepdhnicceaa.PTy Go.Proofs.Ytpeaepdhnicceaa.PBase Go.Proofs.Ytpeaepdhnicceaa.Given Go.Proofs.Ytpeaepdhnicceaa.PAll Go.Proofs.YtpeaepdhnicceaaW.PrintWords Go.Proofs.YtpeaepdhnicceaaW.PrintLast
/-- How many bytes the tokens written so have, at most. -/
def wide : List Lx.Tok → Nat
  | [] => 0
  | x :: l => x.text.length + wide l
theorem form_len (k : Nat) (x : List UInt8) : (Lx.form k x).length ≤ 2 * x.length + 2 := by
  unfold Lx.form
  split
  · have := esc_len x
    rw [List.length_cons, List.length_append]; simp only [List.length_cons, List.length_nil]; omega
  · omega
theorem joined_len (X : List Lx.Tok) : (Lx.joined X).length ≤ 2 * wide X + 3 * X.length := by
  induction X with
  | nil => exact Nat.le_refl _
  | cons x X ih =>
    rw [Lx.joined_cons, List.length_append, List.length_cons, List.length_cons]
    have := form_len x.kind x.text
    unfold wide
    omega
theorem joined_snoc (X : List Lx.Tok) (x : Lx.Tok) : Lx.joined (X ++ [x]) = Lx.joined X ++ (Lx.form x.kind x.text ++ [32]) := by
  unfold Lx.joined; rw [List.flatMap_append]; simp
theorem wide_take (X : List Lx.Tok) (i : Nat) : wide (X.take i) ≤ wide X := by
  induction X generalizing i with
  | nil => simp [wide]
  | cons x X ih => cases i with
    | zero => exact Nat.zero_le _
    | succ i => rw [List.take_succ_cons]; have := ih i; unfold wide; omega
theorem wide_T : ∀ (n a : Nat) (l : List UInt8), l.length ≤ n → wide (Lx.T a l).1 ≤ l.length
  | n, a, l, hn => by
    have hlen : (l.drop (Lx.skip false l)).length = l.length - Lx.skip false l := List.length_drop
    rcases Lx.T_cases a l with ⟨h1, h2⟩ | ⟨h1, h2, h3⟩ | ⟨h1, h2, h3⟩
    · rw [h2]; exact Nat.zero_le _
    · rw [h3]; exact Nat.zero_le _
    · rw [h3]
      cases n with
      | zero => omega
      | succ n =>
        have hol := Lx.one_len (l.drop (Lx.skip false l))
        have hll := List.length_drop (i := (Lx.one (l.drop (Lx.skip false l))).2.2) (l := l.drop (Lx.skip false l))
        have ih := wide_T n (a + Lx.skip false l + (Lx.one (l.drop (Lx.skip false l))).2.2) _ (by omega : ((l.drop (Lx.skip false l)).drop (Lx.one (l.drop (Lx.skip false l))).2.2).length ≤ n)
        have hf := congrArg List.length (Lx.one_form h2)
        rw [List.length_take] at hf
        have key : ∀ (k : Nat) (x : List UInt8), x.length ≤ (Lx.form k x).length := by
          intro k x
          unfold Lx.form
          split
          · rw [List.length_cons, List.length_append]
            have key : ∀ l : List UInt8, l.length ≤ (Lx.esc l).length := by
              intro l
              induction l with
              | nil => exact Nat.le_refl _
              | cons b l ih => rw [Lx.esc]; split <;> simp only [List.length_cons] <;> omega
            have := key x
            omega
          · exact Nat.le_refl _
        have hk := key (Lx.one (l.drop (Lx.skip false l))).1 (Lx.one (l.drop (Lx.skip false l))).2.1
        unfold wide
        show (Lx.one (l.drop (Lx.skip false l))).2.1.length + _ ≤ _
        omega
def noTen (l : List UInt8) : List UInt8 := l.filter (fun b => decide (b.toNat ≠ 10))
theorem noTen_mem {l : List UInt8} : ∀ b ∈ noTen l, b.toNat ≠ 10 := fun b hb => by
  have := (List.mem_filter.mp hb).2
  simpa using this
theorem noTen_len (l : List UInt8) : (noTen l).length ≤ l.length := List.length_filter_le _ _
/-- Kinds and texts of what is told. -/
theorem l3_loop (X Y : List Lx.Tok) (t n : ByteArray) (x12 : Int) (hX : X.length ≤ 100000) (hY : Y.map (fun x : Lx.Tok => (x.kind, x.text)) = X.map (fun x : Lx.Tok => (x.kind, x.text))) (k0 : Nat) :
    ∀ (m i : Nat), i + m = X.length → (∀ k, k0 ≤ k → tocsinlaw09_LexBack.l2 k (X.map tokT) t n (wrap64 (x12 + 1)) = some true) → ∀ k, k0 + m + 1 ≤ k → tocsinlaw09_LexBack.l3 k (X.map tokT) t n x12 (Y.map tokT) (i : Int) = some true
  | 0, i, hi, h, k, hk => by
    obtain ⟨k, rfl⟩ : ∃ k', k = k' + 1 := ⟨k - 1, by omega⟩
    rw [tocsinlaw09_LexBack.l3, List.length_map, if_neg (by omega)]
    exact h k (by omega)
  | m + 1, i, hi, h, k, hk => by
    obtain ⟨k, rfl⟩ : ∃ k', k = k' + 1 := ⟨k - 1, by omega⟩
    have hl : Y.length = X.length := by have := congrArg List.length hY; simpa using this
    have hx : i < X.length := by omega
    have hy : i < Y.length := by omega
    have he : ((Y[i]'hy).kind, (Y[i]'hy).text) = ((X[i]'hx).kind, (X[i]'hx).text) := by
      have h1 := congrArg (fun l => l[i]?) hY
      simp only [List.getElem?_map, List.getElem?_eq_getElem hx, List.getElem?_eq_getElem hy, Option.map_some] at h1
      exact Option.some.inj h1
    have e0 : (tokT (Y[i]'hy)).f0 = (tokT (X[i]'hx)).f0 := by show (((Y[i]'hy).kind : Nat) : Int) = _; rw [(Prod.mk.inj he).1]; rfl
    have e1 : (tokT (Y[i]'hy)).f1 = (tokT (X[i]'hx)).f1 := by show (⟨(Y[i]'hy).text.toArray⟩ : ByteArray) = _; rw [(Prod.mk.inj he).2]; rfl
    rw [tocsinlaw09_LexBack.l3, List.length_map, List.length_map, if_pos (by omega), if_pos (by omega), if_pos (by omega), rd_tok Y i hy, rd_tok X i hx, e0, e1, if_pos rfl, if_pos rfl, next64 hx (by omega)]
    exact l3_loop X Y t n x12 hX hY k0 m (i + 1) (by omega) h k (by omega)
/-- A text whose tokens are these: the comparison goes through. -/
theorem j4_some (X : List Lx.Tok) (t n : ByteArray) (x12 : Int) (u : ByteArray) (hX : X.length ≤ 100000) (k0 : Nat)
    (hu : u.size ≤ 4096 → (Lx.T 0 (L u)).1.map (fun x : Lx.Tok => (x.kind, x.text)) = X.map (fun x : Lx.Tok => (x.kind, x.text)) ∧ (Lx.T 0 (L u)).2 = none)
    (h : ∀ k, k0 ≤ k → tocsinlaw09_LexBack.l2 k (X.map tokT) t n (wrap64 (x12 + 1)) = some true) (k : Nat) (hk : k0 + X.length + 3 ≤ k) :
    tocsinlaw09_LexBack.j4 k (X.map tokT) t n x12 u = some true := by
  obtain ⟨k, rfl⟩ : ∃ k', k = k' + 2 := ⟨k - 2, by omega⟩
  rw [tocsinlaw09_LexBack.j4]
  by_cases hs : (u.size : Int) > 4096
  · rw [if_pos hs]
  rw [if_neg hs, all_T u (by omega), Option.bind_some]
  obtain ⟨h1, h2⟩ := hu (by omega)
  have hl : (Lx.T 0 (L u)).1.length = X.length := by have := congrArg List.length h1; simpa using this
  rw [outT_none h2, if_pos rfl]
  simp only [List.length_map, hl, bne_self_eq_false]
  rw [tocsinlaw09_LexBack.j5, if_neg (by decide)]
  exact l3_loop X _ t n x12 hX h1 k0 X.length 0 (by omega) h k (by omega)
theorem l2_some (X : List Lx.Tok) (t n : ByteArray) (hX : X.length ≤ 100000) (hg : ∀ x ∈ X, Lx.Good x) (ht : L t = Lx.joined X) (m : List UInt8) (hm : ∀ b ∈ m, b.toNat ≠ 10) (hn : L n = 35 :: m) (z1 : t.size ≤ 1000000) (z2 : n.size ≤ 1000000) (k : Nat) (hk : 3 * X.length + 30 ≤ k) :
    tocsinlaw09_LexBack.l2 k (X.map tokT) t n 0 = some true := by
  have hnz : n.size = (35 :: m).length := by rw [← hn, L_len]
  have tn : ((⟨#[10, 9]⟩ : ByteArray)).size = 2 := rfl
  have s1 : (n ++ (⟨#[10, 9]⟩ : ByteArray)).size = n.size + 2 := by rw [sz_app]; rfl
  have s2 : ((n ++ (⟨#[10, 9]⟩ : ByteArray)) ++ t).size = n.size + 2 + t.size := by rw [sz_app, s1]
  have hnote : Lx.skip false (35 :: m) = (35 :: m).length := Lx.skip_note hm
  -- the second turn
  have two : ∀ k, 2 ≤ k → tocsinlaw09_LexBack.l2 k (X.map tokT) t n 2 = some true := fun k hk => by
    obtain ⟨k, rfl⟩ : ∃ k', k = k' + 1 := ⟨k - 1, by omega⟩
    rw [tocsinlaw09_LexBack.l2, if_neg (by decide)]
  have one : ∀ k, X.length + 8 ≤ k → tocsinlaw09_LexBack.l2 k (X.map tokT) t n 1 = some true := fun k hk => by
    obtain ⟨k, rfl⟩ : ∃ k', k = k' + 1 := ⟨k - 1, by omega⟩
    rw [tocsinlaw09_LexBack.l2, if_pos (by decide), if_pos rfl, if_pos (by omega), if_pos (by omega), if_pos (by omega)]
    refine j4_some X t n 1 _ hX 2 (fun _ => ?_) (fun k hk => by rw [show wrap64 ((1 : Int) + 1) = 2 from by rw [w64 (by omega) (by omega)]; rfl]; exact two k hk) k (by omega)
    have hL : L (((n ++ (⟨#[10, 9]⟩ : ByteArray)) ++ t) ++ n) = (35 :: m) ++ 10 :: (9 :: (Lx.joined X ++ (35 :: m))) := by
      rw [L_app, L_app, L_app, hn, ht, show L (⟨#[10, 9]⟩ : ByteArray) = [10, 9] from rfl]
      simp [List.append_assoc]
    rw [hL]
    have e1 : Lx.skip false (9 :: (Lx.joined X ++ (35 :: m))) = 1 + Lx.skip false (Lx.joined X ++ (35 :: m)) := by rw [Lx.skip, if_pos (by rfl)]
    have e2 := Lx.skip_end false (35 :: m) (9 :: (Lx.joined X ++ (35 :: m))) hnote
    rw [e1] at e2
    rw [Lx.T_blank (a := 0) (n := (35 :: m).length + 2) (m := Lx.joined X ++ (35 :: m)) (by rw [e2]; omega) (by
      rw [show (35 :: m) ++ 10 :: (9 :: (Lx.joined X ++ (35 :: m))) = ((35 :: m) ++ [10, 9]) ++ (Lx.joined X ++ (35 :: m)) from by simp]
      rw [List.drop_append_of_le_length (by simp), List.drop_of_length_le (by simp)]; rfl)]
    exact Lx.T_joined X _ (35 :: m) hg hnote
  obtain ⟨k, rfl⟩ : ∃ k', k = k' + 1 := ⟨k - 1, by omega⟩
  rw [tocsinlaw09_LexBack.l2, if_pos (by decide), if_neg (by decide)]
  refine j4_some X t n 0 t hX (X.length + 8) (fun _ => ?_) (fun k hk => by rw [show wrap64 ((0 : Int) + 1) = 1 from by rw [w64 (by omega) (by omega)]; rfl]; exact one k hk) k (by omega)
  rw [ht]
  have := Lx.T_joined X 0 [] hg rfl
  rw [List.append_nil] at this
  exact this
theorem l1_loop (X : List Lx.Tok) (r t : ByteArray) (hr : r.size ≤ 200) (hX : X.length ≤ 100000) (hg : ∀ x ∈ X, Lx.Good x) (ht : L t = Lx.joined X) (z1 : t.size ≤ 1000000) : ∀ (m i k : Nat) (acc : ByteArray), i + m = r.size → 3 * X.length + 40 + m ≤ k → acc.size ≤ i + 1 → L acc = 35 :: noTen ((L r).take i) →
    tocsinlaw09_LexBack.l1 k r (X.map tokT) t acc (i : Int) = some true
  | 0, i, k, acc, hi, hk, ha, hl => by
    obtain ⟨k, rfl⟩ : ∃ k', k = k' + 1 := ⟨k - 1, by omega⟩
    rw [tocsinlaw09_LexBack.l1, if_neg (by omega)]
    exact l2_some X t acc hX hg ht _ noTen_mem hl z1 (by omega) k (by omega)
  | m + 1, i, k, acc, hi, hk, ha, hl => by
    obtain ⟨k, rfl⟩ : ∃ k', k = k' + 1 := ⟨k - 1, by omega⟩
    have hlt : i < r.size := by omega
    have hlt' : i < (L r).length := by rw [L_len]; exact hlt
    have hts : (L r).take (i + 1) = (L r).take i ++ [r[i]] := by rw [List.take_succ_eq_append_getElem hlt']; rfl
    have hnt : noTen ((L r).take (i + 1)) = noTen ((L r).take i) ++ (if r[i].toNat = 10 then [] else [r[i]]) := by
      rw [hts]; unfold noTen; rw [List.filter_append]
      by_cases h : r[i].toNat = 10
      · rw [if_pos h, List.filter_cons, if_neg (by simp [h])]; rfl
      · rw [if_neg h, List.filter_cons, if_pos (by simp [h])]; rfl
    rw [tocsinlaw09_LexBack.l1, if_pos (by omega), if_pos (by omega), bt_nat hlt, next64 hlt (by omega), Int.toNat_natCast, Int.toNat_natCast, one_byte hlt]
    have z2 : ((⟨#[r[i]]⟩ : ByteArray)).size = 1 := rfl
    by_cases h : r[i].toNat = 10
    · rw [if_pos (by omega)]
      exact l1_loop X r t hr hX hg ht z1 m (i + 1) k acc (by omega) (by omega) (by omega) (by rw [hnt, if_pos h, List.append_nil]; exact hl)
    · rw [if_neg (by omega), if_pos (by omega), if_pos (by omega), if_pos (by omega)]
      exact l1_loop X r t hr hX hg ht z1 m (i + 1) k _ (by omega) (by omega) (by rw [sz_app]; omega) (by rw [L_app, hl, hnt, if_neg h]; rfl)
theorem l0_loop (X : List Lx.Tok) (r : ByteArray) (hr : r.size ≤ 200) (hX : X.length ≤ 3000) (hg : ∀ x ∈ X, Lx.Good x) (hw : wide X ≤ 3000) : ∀ (m i k : Nat) (acc : ByteArray), i + m = X.length → 3 * X.length + 5000 + m ≤ k → L acc = Lx.joined (X.take i) →
    tocsinlaw09_LexBack.l0 k r (X.map tokT) acc (i : Int) = some true
  | 0, i, k, acc, hi, hk, hl => by
    obtain ⟨k, rfl⟩ : ∃ k', k = k' + 1 := ⟨k - 1, by omega⟩
    rw [List.take_of_length_le (by omega)] at hl
    have hz : acc.size ≤ 1000000 := by rw [← L_len, hl]; have := joined_len X; omega
    rw [tocsinlaw09_LexBack.l0, List.length_map, if_neg (by omega)]
    exact l1_loop X r acc hr (by omega) hg hl hz r.size 0 k ⟨#[35]⟩ (by omega) (by omega) (by show 1 ≤ _; omega) rfl
  | m + 1, i, k, acc, hi, hk, hl => by
    obtain ⟨k, rfl⟩ : ∃ k', k = k' + 1 := ⟨k - 1, by omega⟩
    have hx : i < X.length := by omega
    obtain ⟨x, hxe⟩ : ∃ x, x = X[i]'hx := ⟨_, rfl⟩
    have hts : X.take (i + 1) = X.take i ++ [x] := by rw [List.take_succ_eq_append_getElem hx, hxe]
    have hj := joined_snoc (X.take i) x
    rw [← hts] at hj
    have hz : acc.size ≤ 20000 := by
      rw [← L_len, hl]; have := joined_len (X.take i); have := wide_take X i; have : (X.take i).length ≤ X.length := by rw [List.length_take]; omega
      omega
    have hxw : x.text.length ≤ 3000 := by
      have := wide_take X (i + 1)
      rw [hts] at this
      have key : ∀ (A : List Lx.Tok) (b : Lx.Tok), b.text.length ≤ wide (A ++ [b]) := by
        intro A b
        induction A with
        | nil => show _ ≤ wide [b]; unfold wide; omega
        | cons a A ih => show _ ≤ wide (a :: (A ++ [b])); unfold wide; omega
      have := key (X.take i) x
      omega
    have e1z : ((⟨x.text.toArray⟩ : ByteArray)).size = x.text.length := by show (List.toArray _).size = _; simp
    have hfl := form_len x.kind x.text
    have fz : ((⟨(Lx.form x.kind x.text).toArray⟩ : ByteArray)).size = (Lx.form x.kind x.text).length := by show (List.toArray _).size = _; simp
    rw [tocsinlaw09_LexBack.l0, List.length_map, if_pos (by omega), if_pos (by omega), rd_tok X i hx, ← hxe]
    have hfs : tocsinlaw09_form.f k (tokT x).f0 (tokT x).f1 (tokT x).f2 = some ⟨(Lx.form x.kind x.text).toArray⟩ := form_some (kd := x.kind) (s := ⟨x.text.toArray⟩) _ (by omega) (by omega)
    have s1 : (acc ++ (⟨(Lx.form x.kind x.text).toArray⟩ : ByteArray)).size = acc.size + (Lx.form x.kind x.text).length := by rw [sz_app, fz]
    rw [hfs, Option.bind_some, if_pos (by omega), if_pos (by omega), next64 hx (by omega)]
    exact l0_loop X r hr hX hg hw m (i + 1) k _ (by omega) (by omega) (by
      rw [L_app, L_app, hl, hj, List.append_assoc])
theorem LexBack : tocsinlaw09_LexBack.Pure := by
  intro s r hs hr
  refine ⟨100000, ?_⟩
  unfold tocsinlaw09_LexBack.f
  rw [awake_some, Option.bind_some, if_pos rfl]
  have big : tocsinlaw09_LexBack.j0 100000 s r true = some true := by rw [tocsinlaw09_LexBack.j0, if_pos rfl]
  by_cases h1 : (s.size : Int) > 3000
  · rw [if_pos h1, big]
  rw [if_neg h1]
  by_cases h2 : (r.size : Int) > 200
  · rw [decide_eq_true h2, big]
  rw [decide_eq_false h2, tocsinlaw09_LexBack.j0, if_neg (by decide), all_T s (by omega), Option.bind_some]
  cases ho : (Lx.T 0 (L s)).2 with
  | some p => rw [outT_some ho, if_neg (show ¬ ((90 : Int) = 0) by decide)]
  | none =>
    rw [outT_none ho, if_pos rfl]
    have c1 := T_count _ 0 (L s) (Nat.le_refl _)
    have c2 := wide_T _ 0 (L s) (Nat.le_refl _)
    rw [L_len] at c1 c2
    exact l0_loop _ r (by omega) (by omega) (Lx.T_good _ 0 (L s) (Nat.le_refl _)) (by omega) (Lx.T 0 (L s)).1.length 0 _ ⟨#[]⟩ (by omega) (by omega) rfl
end Go.Proofs.Ytpeaepdhnicceaa.Pure
