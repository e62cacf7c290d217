/- The sum of pieces, told by their sums and lengths joined in whatever order: the printed law's function tells true. -/
import Derived.Test.YtfejhegogajnhaaPAllx2
import Derived.Test.YtfejhegogajnhaaGreat
namespace Go.Proofs.Ytfejhegogajnhaa.TreeP
open Go.RowKit Go.Proofs.Crc Go.Proofs.Ytfejhegogajnhaa Go.Proofs.Ytfejhegogajnhaa.Given Go.Proofs.Ytfejhegogajnhaa.PAll Go.Proofs.YtfejhegogajnhaaW.PrintWords Go.Proofs.YtfejhegogajnhaaW.PrintLast Go.Proofs.YtfejhegogajnhaaW.PrintMore
/-- Behind i rounds of the shift from a on. -/
def Sh (xs : List Int) (a i : Nat) (ys : List Int) : Prop := ys.length = xs.length ∧ (∀ j, j < a → ys[j]? = xs[j]?) ∧ (∀ j, a ≤ j → j < i → ys[j]? = xs[j + 1]?) ∧ ∀ j, i ≤ j → ys[j]? = xs[j]?
theorem Sh.start (xs : List Int) (a : Nat) : Sh xs a a xs := ⟨rfl, fun _ _ => rfl, fun j h1 h2 => by omega, fun _ _ => rfl⟩
theorem rd_nat (xs : List Int) (i : Nat) : rd xs (i : Int) = xs.getD i 0 := by unfold rd; rw [Int.toNat_natCast]
theorem rd_some {xs : List Int} {i : Nat} {x : Int} (h : xs[i]? = some x) : rd xs (i : Int) = x := by rw [rd_nat, List.getD_eq_getElem?_getD, h]; rfl
theorem rd_get (l : List Int) (k : Nat) (h : k < l.length) : rd l (k : Int) = l[k] := by
  unfold rd; rw [Int.toNat_natCast, List.getD_eq_getElem?_getD, List.getElem?_eq_getElem h]; rfl
theorem Sh.step {xs ys : List Int} {a i : Nat} (h : Sh xs a i ys) (ha : a ≤ i) (hi : i + 1 < xs.length) : Sh xs a (i + 1) (ys.set i (rd ys ((i + 1 : Nat) : Int))) := by
  obtain ⟨h1, h2, h3, h4⟩ := h
  have hv : ys[i + 1]? = some (rd ys ((i + 1 : Nat) : Int)) := by
    have : i + 1 < ys.length := by omega
    rw [List.getElem?_eq_getElem this, rd_get ys (i + 1) this]
  refine ⟨by rw [List.length_set, h1], fun j hj => ?_, fun j hj1 hj2 => ?_, fun j hj => ?_⟩
  · rw [List.getElem?_set_ne (by omega)]; exact h2 j hj
  · by_cases e : j = i
    · subst e
      rw [List.getElem?_set_self (by omega), ← hv, h4 (j + 1) (by omega)]
    · rw [List.getElem?_set_ne (by omega)]; exact h3 j hj1 (by omega)
  · rw [List.getElem?_set_ne (by omega)]; exact h4 j (by omega)
theorem Sh.done {xs ys : List Int} {a : Nat} (h : Sh xs a (xs.length - 1) ys) (ha : a < xs.length) : ys.take (xs.length - 1) = xs.eraseIdx a := by
  obtain ⟨h1, h2, h3, h4⟩ := h
  apply List.ext_getElem?
  intro j
  rw [List.getElem?_eraseIdx, List.getElem?_take]
  by_cases hj : j < xs.length - 1
  · rw [if_pos hj]
    by_cases hja : j < a
    · rw [if_pos hja]; exact h2 j hja
    · rw [if_neg hja]; exact h3 j (by omega) hj
  · rw [if_neg hj]
    by_cases hja : j < a
    · omega
    · rw [if_neg hja]; symm; exact List.getElem?_eq_none (by omega)
theorem l2_pure (x1 : List Int) (x8 x9 : Int) (xs ss : List Int) (a : Nat) (hl : ss.length = xs.length) (ha : a < xs.length) (hb : xs.length < 1000000) (d : Nat) : ∀ (k i : Nat) (ys zs : List Int), a ≤ i → i ≤ xs.length - 1 → xs.length - 1 - i = d → d < k → Sh xs a i ys → Sh ss a i zs →
    tocsinlaw02_CrcTree.l2 k x1 ys zs x8 x9 (i : Int) = tocsinlaw02_CrcTree.l1 (k - d - 1) x1 (xs.eraseIdx a) (ss.eraseIdx a) x8 (wrap64 (x9 + 1)) := by
  induction d with
  | zero =>
    intro k i ys zs h1 h2 hd hk hy hz
    obtain ⟨k, rfl⟩ : ∃ m, k = m + 1 := ⟨k - 1, by omega⟩
    obtain rfl : i = xs.length - 1 := by omega
    have ly := hy.1
    have lz := hz.1
    simp only [tocsinlaw02_CrcTree.l2]
    rw [ly, lz, hl, w64 (n := (xs.length : Int) - 1) (by omega) (by omega), if_neg (by omega), if_pos (by omega), if_pos (by omega), if_pos (by omega), if_pos (by omega)]
    have e : ((xs.length : Int) - 1).toNat = xs.length - 1 := by omega
    rw [e, hy.done ha]
    have hz2 := hz
    rw [← hl] at hz2
    have := hz2.done (by omega)
    rw [hl] at this
    rw [this]; rfl
  | succ d ih =>
    intro k i ys zs h1 h2 hd hk hy hz
    obtain ⟨k, rfl⟩ : ∃ m, k = m + 1 := ⟨k - 1, by omega⟩
    have ly := hy.1
    have lz := hz.1
    simp only [tocsinlaw02_CrcTree.l2]
    rw [ly, lz, hl, w64 (n := (xs.length : Int) - 1) (by omega) (by omega), w64 (n := (i : Int) + 1) (by omega) (by omega), if_pos (by omega), if_pos (by omega), if_pos (by omega), if_pos (by omega), if_pos (by omega), if_pos (by omega), if_pos (by omega)]
    rw [show ((i : Int) + 1) = ((i + 1 : Nat) : Int) from by omega, Int.toNat_natCast, ih k (i + 1) _ _ (by omega) (by omega) (by omega) (by omega) (hy.step h1 (by omega)) (hz.step h1 (by omega))]
    congr 1; omega
/-- Two neighbours joined. -/
def merge (ps : List (List UInt8)) (a : Nat) : List (List UInt8) := (ps.set a (ps.getD a [] ++ ps.getD (a + 1) [])).eraseIdx (a + 1)
theorem merge_flatten (ps : List (List UInt8)) : ∀ a, a + 1 < ps.length → (merge ps a).flatten = ps.flatten := by
  induction ps with
  | nil => intro a h; simp at h
  | cons x ps ih =>
    intro a h
    cases a with
    | zero =>
      cases ps with
      | nil => simp at h
      | cons y ps => simp [merge]
    | succ a =>
      have h2 : a + 1 < ps.length := by simpa using h
      have := ih a h2
      unfold merge at *
      simp only [List.set_cons_succ, List.getD_cons_succ, List.eraseIdx_cons_succ, List.flatten_cons]
      rw [this]
theorem merge_length (ps : List (List UInt8)) (a : Nat) (h : a + 1 < ps.length) : (merge ps a).length = ps.length - 1 := by
  unfold merge; rw [List.length_eraseIdx, List.length_set, if_pos h]
def sumsOf (ps : List (List UInt8)) : List Int := ps.map fun b => I (sum b)
def sizesOf (ps : List (List UInt8)) : List Int := ps.map fun b => (b.length : Int)
theorem getD_lt {α : Type} {ps : List α} {a : Nat} {z : α} (h : a < ps.length) : ps.getD a z = ps[a] := by rw [List.getD_eq_getElem?_getD, List.getElem?_eq_getElem h]; rfl
theorem map_eraseIdx' {α β : Type} (f : α → β) (l : List α) (i : Nat) : (l.eraseIdx i).map f = (l.map f).eraseIdx i := by
  apply List.ext_getElem?
  intro j
  rw [List.getElem?_map, List.getElem?_eraseIdx, List.getElem?_eraseIdx]
  split <;> rw [List.getElem?_map]
theorem sums_merge (ps : List (List UInt8)) (a : Nat) : sumsOf (merge ps a) = ((sumsOf ps).set a (I (join (sum (ps.getD a [])) (sum (ps.getD (a + 1) [])) (ps.getD (a + 1) []).length))).eraseIdx (a + 1) := by
  unfold sumsOf merge
  rw [map_eraseIdx', List.map_set, sum_append]
theorem sizes_merge (ps : List (List UInt8)) (a : Nat) : sizesOf (merge ps a) = ((sizesOf ps).set a (((ps.getD a []).length : Int) + ((ps.getD (a + 1) []).length : Int))).eraseIdx (a + 1) := by
  unfold sizesOf merge
  rw [map_eraseIdx', List.map_set, List.length_append]; rfl
theorem rd_sums (ps : List (List UInt8)) (a : Nat) (h : a < ps.length) : rd (sumsOf ps) (a : Int) = I (sum (ps.getD a [])) := rd_some (by unfold sumsOf; rw [List.getElem?_map, List.getElem?_eq_getElem h, getD_lt h]; rfl)
theorem rd_sizes (ps : List (List UInt8)) (a : Nat) (h : a < ps.length) : rd (sizesOf ps) (a : Int) = ((ps.getD a []).length : Int) := rd_some (by unfold sizesOf; rw [List.getElem?_map, List.getElem?_eq_getElem h, getD_lt h]; rfl)
theorem part_len (ps : List (List UInt8)) (a : Nat) (h : a < ps.length) : (ps.getD a []).length ≤ ps.flatten.length := by
  rw [getD_lt h]
  obtain ⟨s, t, e⟩ := List.append_of_mem (List.getElem_mem h)
  have : ps.flatten.length = s.flatten.length + (ps[a].length + t.flatten.length) := by
    conv => lhs; rw [e]
    rw [List.flatten_append, List.flatten_cons, List.length_append, List.length_append]
  omega
theorem two_len (ps : List (List UInt8)) (a : Nat) (h : a + 1 < ps.length) : (ps.getD a []).length + (ps.getD (a + 1) []).length ≤ ps.flatten.length := by
  rw [← merge_flatten ps a h]
  have hm := part_len (merge ps a) a (by rw [merge_length ps a h]; omega)
  have e : (merge ps a).getD a [] = ps.getD a [] ++ ps.getD (a + 1) [] := by
    unfold merge
    rw [List.getD_eq_getElem?_getD, List.getElem?_eraseIdx, if_pos (by omega), List.getElem?_set_self (by omega)]; rfl
  rw [e, List.length_append] at hm
  exact hm
theorem toB_length (xs : List Int) : (toB xs).length = xs.length := List.length_map ..
theorem sumsOf_length (ps : List (List UInt8)) : (sumsOf ps).length = ps.length := List.length_map ..
theorem sizesOf_length (ps : List (List UInt8)) : (sizesOf ps).length = ps.length := List.length_map ..
theorem tree_j3 (x1 : List Int) (x8 x9 : Int) (ps : List (List UInt8)) (a k : Nat) (ha : a + 1 < ps.length) (hm : ps.length ≤ 40) (hf : ps.flatten.length ≤ 10000) (hk : 150 ≤ k) :
    tocsinlaw02_CrcTree.j3 k x1 (sumsOf ps) (sizesOf ps) x8 x9 (a : Int) = tocsinlaw02_CrcTree.l1 (k - (ps.length - 1 - (a + 1)) - 2) x1 (sumsOf (merge ps a)) (sizesOf (merge ps a)) x8 (wrap64 (x9 + 1)) := by
  obtain ⟨k, rfl⟩ : ∃ m, k = m + 1 := ⟨k - 1, by omega⟩
  have l5 := sumsOf_length ps
  have l6 := sizesOf_length ps
  have h2 := two_len ps a ha
  simp only [tocsinlaw02_CrcTree.j3]
  rw [l5, l6, w64 (n := (a : Int) + 1) (by omega) (by omega), if_pos (by omega), if_pos (by omega), if_pos (by omega), if_pos (by omega), if_pos (by omega), show ((a : Int) + 1) = ((a + 1 : Nat) : Int) from by omega,
    rd_sums ps a (by omega), rd_sums ps (a + 1) ha, rd_sizes ps (a + 1) ha, rd_sizes ps a (by omega), Join_some _ _ _ k (by omega) (by omega), Option.bind_some, if_pos (by omega), w64 (by omega) (by omega), Int.toNat_natCast]
  have e := l2_pure x1 x8 x9 ((sumsOf ps).set a (I (join (sum (ps.getD a [])) (sum (ps.getD (a + 1) [])) (ps.getD (a + 1) []).length))) ((sizesOf ps).set a (((ps.getD a []).length : Int) + ((ps.getD (a + 1) []).length : Int))) (a + 1)
    (by rw [List.length_set, List.length_set, l5, l6]) (by rw [List.length_set, l5]; omega) (by rw [List.length_set, l5]; omega) (ps.length - 1 - (a + 1)) k (a + 1) _ _ (Nat.le_refl _) (by rw [List.length_set, l5]; omega) (by rw [List.length_set, l5]) (by omega) (Sh.start _ _) (Sh.start _ _)
  rw [e, ← sums_merge, ← sizes_merge]
  congr 1; omega
theorem tree_l1 (x1 : List Int) (hx1 : isB x1) (m : Nat) : ∀ (k t : Nat) (ps : List (List UInt8)), ps.length = m → m ≤ 40 → ps.flatten.length ≤ 10000 → t + m ≤ 1000 → 200 + m * 50 ≤ k →
    tocsinlaw02_CrcTree.l1 k x1 (sumsOf ps) (sizesOf ps) (I (sum ps.flatten)) (t : Int) = some true := by
  induction m with
  | zero =>
    intro k t ps hm _ _ _ hk
    obtain ⟨k, rfl⟩ : ∃ m, k = m + 1 := ⟨k - 1, by omega⟩
    obtain rfl := List.eq_nil_of_length_eq_zero hm
    simp only [tocsinlaw02_CrcTree.l1]
    rw [if_neg (by simp [sumsOf]), if_pos (by simp [sumsOf])]
    decide
  | succ m ih =>
    intro k t ps hm h40 hf ht hk
    obtain ⟨k, rfl⟩ : ∃ m, k = m + 1 := ⟨k - 1, by omega⟩
    have l5 := sumsOf_length ps
    simp only [tocsinlaw02_CrcTree.l1]
    rw [l5]
    by_cases h1 : m = 0
    · subst h1
      rw [if_neg (by omega), if_neg (by omega), if_pos (by omega)]
      match ps, hm with
      | [b], _ =>
        have : rd (sumsOf [b]) 0 = I (sum [b].flatten) := by
          rw [show (0 : Int) = ((0 : Nat) : Int) from rfl, rd_sums [b] 0 (by simp)]; simp
        rw [this]; simp
    · rw [if_pos (by omega)]
      have step : ∀ a : Nat, a + 1 < ps.length → tocsinlaw02_CrcTree.j3 k x1 (sumsOf ps) (sizesOf ps) (I (sum ps.flatten)) (t : Int) (a : Int) = some true := by
        intro a ha
        rw [tree_j3 x1 _ _ ps a k ha (by omega) hf (by omega), w64 (by omega) (by omega), show ((t : Int) + 1) = ((t + 1 : Nat) : Int) from by omega, ← merge_flatten ps a ha]
        exact ih _ (t + 1) (merge ps a) (by rw [merge_length ps a ha]; omega) (by omega) (by rw [merge_flatten ps a ha]; exact hf) (by omega) (by omega)
      rw [w64 (n := (ps.length : Int) - 1) (by omega) (by omega)]
      by_cases ho : (t : Int) < (x1.length : Int)
      · rw [if_pos ho, if_pos (by omega), if_neg (by omega)]
        have hx := hx1 _ (rd_mem x1 t (by omega))
        generalize rd x1 (t : Int) = x at *
        rw [w64 (by omega) (by omega)]
        have hmod : Int.tmod x ((ps.length : Int) - 1) = (((x.toNat % (ps.length - 1) : Nat)) : Int) := by
          rw [Int.tmod_eq_emod_of_nonneg hx.1]
          have e1 : x = (x.toNat : Int) := by omega
          have e2 : (ps.length : Int) - 1 = ((ps.length - 1 : Nat) : Int) := by omega
          rw [e2]; conv => lhs; rw [e1]
          norm_cast
        rw [hmod]
        have hlt := Nat.mod_lt x.toNat (show 0 < ps.length - 1 by omega)
        exact step _ (by omega)
      · rw [if_neg ho]
        exact step 0 (by omega)
/-- The first loop fills in the sums and lengths. -/
theorem tree_l0 (x0 : List (List Int)) (x1 : List Int) (hb : ∀ x ∈ x0, isB x) (ht : total x0 ≤ 10000) (hx1 : isB x1) (h40 : x0.length ≤ 40) (d : Nat) : ∀ (k i : Nat) (ys zs : List Int), i ≤ x0.length → x0.length - i = d → 2500 + d < k → ys.length = x0.length → zs.length = x0.length →
    ys.take i = (sumsOf (x0.map toB)).take i → zs.take i = (sizesOf (x0.map toB)).take i → tocsinlaw02_CrcTree.l0 k x0 x1 ys zs (i : Int) = some true := by
  have hll : (x0.map toB).length = x0.length := List.length_map ..
  induction d with
  | zero =>
    intro k i ys zs hi hd hk ly lz hy hz
    obtain ⟨k, rfl⟩ : ∃ m, k = m + 1 := ⟨k - 1, by omega⟩
    obtain rfl : i = x0.length := by omega
    rw [List.take_of_length_le (by omega), List.take_of_length_le (by rw [sumsOf_length, hll]; exact Nat.le_refl _)] at hy
    rw [List.take_of_length_le (by omega), List.take_of_length_le (by rw [sizesOf_length, hll]; exact Nat.le_refl _)] at hz
    have hfl : toB x0.flatten = (x0.map toB).flatten := by unfold toB; rw [List.map_flatten]
    simp only [tocsinlaw02_CrcTree.l0]
    rw [if_neg (by omega)]
    have hof : crc_Of.f x0 = some (I (sum (x0.map toB).flatten)) := by
      unfold crc_Of.f; rw [if_pos, hfl]
      simp only [Bool.and_eq_true, List.all_eq_true, decide_eq_true_eq]
      refine ⟨fun x hx => okB_of (hb x hx) ?_, by omega⟩
      have : x.length ≤ x0.flatten.length := by
        obtain ⟨a, b, rfl⟩ := List.append_of_mem hx
        simp; omega
      unfold total at ht; omega
    rw [hof, Option.bind_some, hy, hz]
    have hlen : (x0.map toB).flatten.length ≤ 10000 := by rw [← hfl, toB_length]; unfold total at ht; omega
    exact tree_l1 x1 hx1 x0.length k 0 (x0.map toB) hll h40 hlen (by omega) (by omega)
  | succ d ih =>
    intro k i ys zs hi hd hk ly lz hy hz
    obtain ⟨k, rfl⟩ : ∃ m, k = m + 1 := ⟨k - 1, by omega⟩
    have hlt : i < x0.length := by omega
    have hrd : rd_L1 x0 (i : Int) = x0[i] := by unfold rd_L1; rw [Int.toNat_natCast, List.getD_eq_getElem?_getD, List.getElem?_eq_getElem hlt]; rfl
    have hxl : x0[i].length ≤ 10000 := by
      have := total_succ x0 i hlt
      have := total_mono x0 (i + 1)
      omega
    simp only [tocsinlaw02_CrcTree.l0]
    rw [if_pos (by omega), if_pos (by omega), hrd, sum_some (hb _ (List.getElem_mem hlt)) (by omega), Option.bind_some, if_pos (by omega), if_pos (by omega), w64 (by omega) (by omega), show ((i : Int) + 1) = ((i + 1 : Nat) : Int) from by omega, Int.toNat_natCast]
    have put : ∀ (ys ss : List Int) (v : Int), ys.length = x0.length → ss[i]? = some v → ys.take i = ss.take i → (ys.set i v).take (i + 1) = ss.take (i + 1) := by
      intro ys ss v hl hv hy
      have hsl : i < ss.length := (List.getElem?_eq_some_iff.1 hv).1
      rw [List.take_succ_eq_append_getElem (by rw [List.length_set]; omega), List.take_succ_eq_append_getElem hsl, List.getElem_set_self, List.take_set_of_le (Nat.le_refl i), hy]
      rw [List.getElem?_eq_getElem hsl] at hv
      rw [Option.some.inj hv]
    refine ih k (i + 1) _ _ (by omega) (by omega) (by omega) (by rw [List.length_set]; exact ly) (by rw [List.length_set]; exact lz) (put _ _ _ ly ?_ hy) (put _ _ _ lz ?_ hz)
    · unfold sumsOf; rw [List.getElem?_map, List.getElem?_map, List.getElem?_eq_getElem hlt]; rfl
    · unfold sizesOf; rw [List.getElem?_map, List.getElem?_map, List.getElem?_eq_getElem hlt]; simp [toB_length]
theorem tree_pure (x0 : List (List Int)) (x1 : List Int) (hs : smallL x0) (hlen : x0.length ≤ 140737488351232) (hb : ∀ x ∈ x0, isB x) (hx1 : isB x1) : ∃ k, tocsinlaw02_CrcTree.f k x0 x1 = some true := by
  have hG := Great_some x0 hs (by omega)
  have up : ∀ n k b, PBase.tocsinlaw02_Great.f k x0 = some b → PBase.tocsinlaw02_Great.f (k + n) x0 = some b := by
    intro n; induction n with
    | zero => intro k b h; exact h
    | succ n ih => intro k b h; exact PBase.tocsinlaw02_Great.mono _ _ _ (ih k b h)
  have hG2 := up 3000 _ _ hG
  refine ⟨x0.length + 1 + 3000, ?_⟩
  unfold tocsinlaw02_CrcTree.f tocsinlaw02_awake.f
  rw [Option.bind_some, if_pos rfl, hG2, Option.bind_some]
  have early : ∀ k, tocsinlaw02_CrcTree.j0 (k + 1) x0 x1 true = some true := fun k => by simp [tocsinlaw02_CrcTree.j0]
  by_cases ht : 10000 < total x0
  · rw [decide_eq_true ht, if_pos rfl]; exact early _
  · rw [decide_eq_false ht, if_neg (by simp)]
    by_cases h40 : (x0.length : Int) > 40
    · rw [decide_eq_true h40]; exact early _
    · rw [decide_eq_false h40]
      show tocsinlaw02_CrcTree.j0 (x0.length + 3000 + 1) x0 x1 false = _
      simp only [tocsinlaw02_CrcTree.j0]
      rw [if_neg (by simp), if_pos (by omega), if_pos (by omega), if_pos (by omega), Int.toNat_natCast]
      exact tree_l0 x0 x1 hb (by omega) hx1 (by omega) x0.length _ 0 _ _ (by omega) (by omega) (by omega) (by simp) (by simp) (by simp) (by simp)
theorem bytes24 : Try.prog.bytesOf 24 = 24 := by kernel_rfl
theorem bytes5 : Try.prog.bytesOf 5 = 1 := by kernel_rfl
end Go.Proofs.Ytfejhegogajnhaa.TreeP
namespace Go.Proofs.Ytfejhegogajnhaa.Given
open Go.RowKit Go.Proofs.Crc Go.Proofs.Ytfejhegogajnhaa Go.Proofs.Ytfejhegogajnhaa.OpenS Go.Proofs.YtfejhegogajnhaaW.PrintWords
theorem CrcTree_walk (A0 : Option Addr) (c0 : Nat) (l0 : List (List Int)) (A1 : Option Addr) (c1 : Nat) (l1 : List Int) (w : World) (hr0 : Kd.C (Kd.slice 5 (Kd.int .u8)) w A0 l0.length l0) (hc0 : l0.length ≤ c0) (hw : wfAll (Try.prog.bytesOf 24) (wfAll (Try.prog.bytesOf 5) (wfInt .u8)) l0)
    (hr1 : Kd.C (Kd.int .u8) w A1 l1.length l1) (hc1 : l1.length ≤ c1) (hw1 : wfAll (Try.prog.bytesOf 5) (wfInt .u8) l1) :
    Calls Try.prog 5 #[.slice A0 l0.length c0, .slice A1 l1.length c1] w fun e w' => e = .returned (.bool true) ∧ Below w.heap.size w w' := by
  rw [TreeP.bytes5, TreeP.bytes24] at hw
  have isB_ofS : ∀ {n : Nat} {xs : List Int}, wfAll n (wfInt .u8) xs → isB xs := fun h x hx => by
    have := h.2 x hx
    simp [wfInt, Lit.wf, IntKind.min, IntKind.max, IntKind.bits, IntKind.signed] at this; omega
  have hlen : l0.length ≤ 140737488351232 := by have := hw.1; omega
  have hs : smallL l0 := fun x hx => by have := (hw.2 x hx).1; omega
  have hb : ∀ x ∈ l0, isB x := fun x hx => isB_ofS (hw.2 x hx)
  obtain ⟨k, hk⟩ := TreeP.tree_pure l0 l1 hs hlen hb (isB_ofS hw1)
  exact PAll.tocsinlaw02_CrcTree.calls k A0 c0 l0 A1 c1 l1 true w hr0 hc0 hr1 hc1 hk
end Go.Proofs.Ytfejhegogajnhaa.Given
