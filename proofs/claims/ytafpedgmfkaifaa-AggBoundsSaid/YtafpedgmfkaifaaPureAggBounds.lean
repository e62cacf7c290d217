/- The mean lies between least and greatest, sums add up: plain. -/
import Derived.Test.YtafpedgmfkaifaaPAllx2
import Derived.Test.YtafpedgmfkaifaaPureAggOf
namespace Go.Proofs.Ytafpedgmfkaifaa.Pure
open Go.RowKit Go.Proofs.Ytafpedgmfkaifaa.PBase Go.Proofs.Ytafpedgmfkaifaa.Given Go.Proofs.Ytafpedgmfkaifaa.PAll Go.Proofs.YtafpedgmfkaifaaW.PrintWords Go.Proofs.YtafpedgmfkaifaaW.PrintLast
def tot : List Int → Int
  | [] => 0
  | x :: l => x + tot l
theorem tot_append (a b : List Int) : tot (a ++ b) = tot a + tot b := by
  induction a with
  | nil => simp [tot]
  | cons x a ih => simp only [List.cons_append, tot, ih]; omega
def Sm (xs : List Int) : Prop := ∀ x ∈ xs, -1000000000000 ≤ x ∧ x ≤ 1000000000000
theorem add_small {a b : Int} (h1 : -2000000000000000 ≤ a) (h2 : a ≤ 2000000000000000) (h3 : -1000000000000 ≤ b) (h4 : b ≤ 1000000000000) : addI a b = a + b := by
  unfold addI
  rw [sat_id (x := a) (by omega) (by omega), sat_id (x := b) (by omega) (by omega), sat_id (x := a + b) (by omega) (by omega)]
theorem fold_tot : ∀ (xs : List Int) (acc : Int), Sm xs → -2000000000000000 ≤ acc - 1000000000000 * xs.length → acc + 1000000000000 * xs.length ≤ 2000000000000000 →
    xs.foldl addI acc = acc + tot xs
  | [], acc, _, _, _ => by simp [tot]
  | x :: xs, acc, hs, h1, h2 => by
    have hx := hs x List.mem_cons_self
    rw [List.length_cons] at h1 h2
    rw [List.foldl_cons, add_small (by omega) (by omega) hx.1 hx.2, fold_tot xs (acc + x) (fun y hy => hs y (List.mem_cons_of_mem _ hy)) (by omega) (by omega)]
    show acc + x + tot xs = acc + (x + tot xs)
    omega
theorem sumV_tot {xs : List Int} (hs : Sm xs) (hl : xs.length ≤ 1000) : sumV xs = tot xs := by
  unfold sumV
  rw [fold_tot xs 0 hs (by omega) (by omega)]; omega
theorem tot_bounds {xs : List Int} {m M : Int} (h : ∀ x ∈ xs, m ≤ x ∧ x ≤ M) : m * xs.length ≤ tot xs ∧ tot xs ≤ M * xs.length := by
  induction xs with
  | nil => simp [tot]
  | cons x xs ih =>
    have hx := h x List.mem_cons_self
    have := ih fun y hy => h y (List.mem_cons_of_mem _ hy)
    rw [List.length_cons]; unfold tot
    have e1 : m * ((xs.length + 1 : Nat) : Int) = m * xs.length + m := by rw [Int.natCast_add, Int.mul_add]; simp
    have e2 : M * ((xs.length + 1 : Nat) : Int) = M * xs.length + M := by rw [Int.natCast_add, Int.mul_add]; simp
    rw [e1, e2]; omega
theorem tdiv_between {s m M : Int} {n : Nat} (hn : 0 < n) (h1 : m * n ≤ s) (h2 : s ≤ M * n) : m ≤ s.tdiv n ∧ s.tdiv n ≤ M := by
  have hn' : (0 : Int) < n := by omega
  by_cases h : 0 ≤ s
  · rw [Int.tdiv_eq_ediv_of_nonneg h]
    refine ⟨Int.le_ediv_of_mul_le hn' h1, ?_⟩
    have := Int.ediv_le_ediv hn' h2
    rwa [Int.mul_ediv_cancel _ (by omega)] at this
  · have e : s.tdiv n = -((-s) / n) := by
      rw [← Int.tdiv_eq_ediv_of_nonneg (by omega), Int.neg_tdiv, Int.neg_neg]
    rw [e]
    have a1 : (-M) * n ≤ -s := by rw [Int.neg_mul]; omega
    have a2 : -s ≤ (-m) * n := by rw [Int.neg_mul]; omega
    have b1 := Int.le_ediv_of_mul_le hn' a1
    have b2 := Int.ediv_le_ediv hn' a2
    rw [Int.mul_ediv_cancel _ (by omega)] at b2
    omega
theorem minN_le (xs : List Int) : ∀ (k : Nat), k ≤ xs.length → ∀ j, j < k → minN xs k ≤ rd xs (j : Int)
  | 0, _, j, hj => by omega
  | k + 1, hk, j, hj => by
    show (if rd xs (k : Int) < minN xs k then rd xs (k : Int) else minN xs k) ≤ _
    by_cases e : j = k
    · subst e; split <;> omega
    · have := minN_le xs k (by omega) j (by omega)
      split <;> omega
theorem minN_at (xs : List Int) : ∀ (k : Nat), 0 < k → k ≤ xs.length → ∃ j, j < k ∧ minN xs k = rd xs (j : Int)
  | 0, h, _ => by omega
  | k + 1, _, hk => by
    show ∃ j, j < k + 1 ∧ (if rd xs (k : Int) < minN xs k then rd xs (k : Int) else minN xs k) = _
    by_cases h0 : k = 0
    · subst h0; exact ⟨0, by omega, by split <;> rfl⟩
    · obtain ⟨j, hj, e⟩ := minN_at xs k (by omega) (by omega)
      split
      · exact ⟨k, by omega, rfl⟩
      · exact ⟨j, by omega, e⟩
theorem maxN_le (xs : List Int) : ∀ (k : Nat), k ≤ xs.length → ∀ j, j < k → rd xs (j : Int) ≤ maxN xs k
  | 0, _, j, hj => by omega
  | k + 1, hk, j, hj => by
    show _ ≤ (if maxN xs k < rd xs (k : Int) then rd xs (k : Int) else maxN xs k)
    by_cases e : j = k
    · subst e; split <;> omega
    · have := maxN_le xs k (by omega) j (by omega)
      split <;> omega
theorem maxN_at (xs : List Int) : ∀ (k : Nat), 0 < k → k ≤ xs.length → ∃ j, j < k ∧ maxN xs k = rd xs (j : Int)
  | 0, h, _ => by omega
  | k + 1, _, hk => by
    show ∃ j, j < k + 1 ∧ (if maxN xs k < rd xs (k : Int) then rd xs (k : Int) else maxN xs k) = _
    by_cases h0 : k = 0
    · subst h0; exact ⟨0, by omega, by split <;> rfl⟩
    · obtain ⟨j, hj, e⟩ := maxN_at xs k (by omega) (by omega)
      split
      · exact ⟨k, by omega, rfl⟩
      · exact ⟨j, by omega, e⟩
/-- A sample brought to at most 10^12. -/
def cutS (x : S30) : S30 := ⟨0, x.f1.tmod 1000000000000⟩
theorem cut_sm (x : Int) : -1000000000000 ≤ x.tmod 1000000000000 ∧ x.tmod 1000000000000 ≤ 1000000000000 := by
  have h1 := Int.tmod_lt_of_pos x (b := 1000000000000) (by decide)
  have h2 := Int.lt_tmod_of_pos x (b := 1000000000000) (by decide)
  omega
theorem sm_cut (l : List S30) : Sm (vals (l.map cutS)) := by
  intro x hx
  unfold vals at hx
  rw [List.map_map] at hx
  obtain ⟨y, _, rfl⟩ := List.mem_map.1 hx
  exact cut_sm y.f1
theorem rd_T30_eq {l : List S30} {j : Nat} (h : j < l.length) : rd_T30 l (j : Int) = l[j] := by
  unfold rd_T30; rw [Int.toNat_natCast, List.getD_eq_getElem?_getD, List.getElem?_eq_getElem h]; rfl
theorem bounds_l0 (a b : List S30) (ha : a.length ≤ 500) (K : Nat) : ∀ (k j : Nat) (out : List S30), j ≤ a.length → out.length ≤ 500 + j → a.length + K < k + j →
    ∃ k', K ≤ k' ∧ tocsinlaw18_AggBounds.l0 k a b out j = tocsinlaw18_AggBounds.l1 k' a b (out ++ (a.drop j).map cutS) 0
  | 0, j, out, hj, ho, hk => by omega
  | k + 1, j, out, hj, ho, hk => by
    rw [tocsinlaw18_AggBounds.l0]
    by_cases h : j < a.length
    · rw [if_pos (by omega), if_pos (by omega), if_pos (by omega), w64 (by omega) (by omega), show ((j : Int) + 1) = ((j + 1 : Nat) : Int) by omega]
      obtain ⟨k', hk', e⟩ := bounds_l0 a b ha K k (j + 1) (out ++ [⟨0, Int.tmod ((rd_T30 a (j : Int)).f1) 1000000000000⟩]) (by omega) (by rw [List.length_append]; simp; omega) (by omega)
      refine ⟨k', hk', ?_⟩
      rw [e, List.drop_eq_getElem_cons h, List.map_cons, List.append_assoc, rd_T30_eq h]; rfl
    · rw [if_neg (by omega), List.drop_eq_nil_of_le (by omega)]
      exact ⟨k, by omega, by simp⟩
theorem fl11 (p q : Bool) : Go.bits .or .i64 (Go.bits .or .i64 ((if p = true then 1 else 0) + (if q = true then 2 else 0)) 1) 2 = (if (p || true) = true then (1 : Int) else 0) + (if (q || true) = true then 2 else 0) := by cases p <;> cases q <;> decide +kernel
theorem fl10 (p q : Bool) : Go.bits .or .i64 ((if p = true then 1 else 0) + (if q = true then 2 else 0)) 1 = (if (p || true) = true then (1 : Int) else 0) + (if (q || false) = true then 2 else 0) := by cases p <;> cases q <;> decide +kernel
theorem fl01 (p q : Bool) : Go.bits .or .i64 ((if p = true then 1 else 0) + (if q = true then 2 else 0)) 2 = (if (p || false) = true then (1 : Int) else 0) + (if (q || true) = true then 2 else 0) := by cases p <;> cases q <;> decide +kernel
theorem fl00 (p q : Bool) : ((if p = true then 1 else 0) + (if q = true then 2 else 0)) = (if (p || false) = true then (1 : Int) else 0) + (if (q || false) = true then 2 else 0) := by cases p <;> cases q <;> decide +kernel
theorem bounds_l1 (a b : List S30) (hb : b.length ≤ 500) (K : Nat) : ∀ (k j : Nat) (out : List S30), j ≤ b.length → out.length ≤ 500 + j → b.length + K < k + j →
    ∃ k', K ≤ k' ∧ tocsinlaw18_AggBounds.l1 k a b out j = tocsinlaw18_AggBounds.l1 (k' + 1) a b (out ++ (b.drop j).map cutS) b.length
  | 0, j, out, hj, ho, hk => by omega
  | k + 1, j, out, hj, ho, hk => by
    by_cases h : j < b.length
    · rw [tocsinlaw18_AggBounds.l1, if_pos (by omega), if_pos (by omega), if_pos (by omega), w64 (by omega) (by omega), show ((j : Int) + 1) = ((j + 1 : Nat) : Int) by omega]
      obtain ⟨k', hk', e⟩ := bounds_l1 a b hb K k (j + 1) (out ++ [⟨0, Int.tmod ((rd_T30 b (j : Int)).f1) 1000000000000⟩]) (by omega) (by rw [List.length_append]; simp; omega) (by omega)
      refine ⟨k', hk', ?_⟩
      rw [e, List.drop_eq_getElem_cons h, List.map_cons, List.append_assoc, rd_T30_eq h]; rfl
    · obtain rfl : j = b.length := by omega
      exact ⟨k, by omega, by rw [List.drop_length]; simp⟩
def flag (xs : List Int) (m : Int) (j : Nat) : Bool := (xs.take j).any (· == m)
theorem flag_succ {xs : List Int} {m : Int} {j : Nat} (h : j < xs.length) : flag xs m (j + 1) = (flag xs m j || (rd xs (j : Int) == m)) := by
  unfold flag
  rw [List.take_succ_eq_append_getElem h, List.any_append, rd_eq h]; simp
theorem flag_true {xs : List Int} {m : Int} {j : Nat} (h : j < xs.length) (e : m = rd xs (j : Int)) : flag xs m xs.length = true := by
  unfold flag
  rw [List.take_length, List.any_eq_true]
  exact ⟨xs[j], List.getElem_mem h, by rw [e, rd_eq h]; simp⟩
/-- What the last steps say. -/
def Last (k : Nat) (a l : List S30) (lo hi : Int) (f : Int) : Prop := tocsinlaw18_AggBounds.l2 (k + 1) a l lo hi f l.length = some true
theorem bounds_l2 (a l : List S30) (hl : l.length ≤ 1000) (lo hi : Int) (hlo : ∀ j, j < l.length → lo ≤ rd (vals l) (j : Int)) (hhi : ∀ j, j < l.length → rd (vals l) (j : Int) ≤ hi) (K : Nat) : ∀ (k j : Nat), j ≤ l.length → 2 * l.length + K < k + 2 * j →
    ∃ k', K ≤ k' ∧ tocsinlaw18_AggBounds.l2 k a l lo hi ((if flag (vals l) lo j = true then 1 else 0) + (if flag (vals l) hi j = true then 2 else 0)) j = tocsinlaw18_AggBounds.l2 (k' + 1) a l lo hi ((if flag (vals l) lo l.length = true then 1 else 0) + (if flag (vals l) hi l.length = true then 2 else 0)) l.length
  | 0, j, hj, hk => by omega
  | 1, j, hj, hk => by
    obtain rfl : j = l.length := by omega
    exact ⟨0, by omega, rfl⟩
  | k + 2, j, hj, hk => by
    by_cases h : j < l.length
    · have h1 := hlo j h
      have h2 := hhi j h
      rw [tocsinlaw18_AggBounds.l2, if_pos (by omega), if_pos (by omega), rd30 h, if_neg (by omega), decide_eq_false (by omega)]
      rw [tocsinlaw18_AggBounds.j5, if_neg (by simp), if_pos (by omega), if_pos (by omega), rd30 h, w64 (by omega) (by omega), show ((j : Int) + 1) = ((j + 1 : Nat) : Int) by omega]
      obtain ⟨k', hk', e⟩ := bounds_l2 a l hl lo hi hlo hhi K k (j + 1) (by omega) (by omega)
      refine ⟨k', hk', ?_⟩
      rw [← e, flag_succ (by rw [vals_len]; exact h), flag_succ (by rw [vals_len]; exact h)]
      generalize flag (vals l) lo j = p
      generalize flag (vals l) hi j = q
      by_cases e1 : rd (vals l) (j : Int) = lo
      · by_cases e2 : rd (vals l) (j : Int) = hi
        · rw [if_pos e1, if_pos e2, show (rd (vals l) (j : Int) == lo) = true by simpa using e1, show (rd (vals l) (j : Int) == hi) = true by simpa using e2, fl11 p q]
        · rw [if_pos e1, if_neg e2, show (rd (vals l) (j : Int) == lo) = true by simpa using e1, show (rd (vals l) (j : Int) == hi) = false by simpa using e2, fl10 p q]
      · by_cases e2 : rd (vals l) (j : Int) = hi
        · rw [if_neg e1, if_pos e2, show (rd (vals l) (j : Int) == lo) = false by simpa using e1, show (rd (vals l) (j : Int) == hi) = true by simpa using e2, fl01 p q]
        · rw [if_neg e1, if_neg e2, show (rd (vals l) (j : Int) == lo) = false by simpa using e1, show (rd (vals l) (j : Int) == hi) = false by simpa using e2, fl00 p q]
    · obtain rfl : j = l.length := by omega
      exact ⟨k + 1, by omega, rfl⟩
theorem of_some {a : Int} {l : List S30} (hl : l.length ≤ 100000) (h0 : 0 ≤ a) (h1 : a ≤ 5) (hn : 0 < l.length ∨ a ≤ 1) : agg_Of.f a l = some (aggV a (vals l), true) := by
  unfold agg_Of.f
  rw [if_neg (by omega), if_neg (by omega)]
theorem AggBounds (a b : List S30) : ∃ k, tocsinlaw18_AggBounds.f k a b = some true := by
  refine ⟨2 * (2 * (a.length + b.length) + 100), ?_⟩
  have hj0 : ∀ k, tocsinlaw18_AggBounds.j0 (k + 1) a b true = some true := fun k => by rw [tocsinlaw18_AggBounds.j0, if_pos rfl, awake_some]; rfl
  obtain ⟨k0, hk0⟩ : ∃ k0, 2 * (2 * (a.length + b.length) + 100) = k0 + 1 := ⟨_, rfl⟩
  rw [hk0]
  unfold tocsinlaw18_AggBounds.f
  by_cases h1 : (a.length : Int) > 500
  · rw [if_pos h1, hj0]
  rw [if_neg h1]
  by_cases h2 : (b.length : Int) > 500
  · rw [if_pos h2, hj0]
  rw [if_neg h2]
  by_cases h3 : (a.length : Int) = 0
  · rw [if_pos h3, hj0]
  rw [if_neg h3]
  by_cases h4 : (b.length : Int) = 0
  · rw [show ((b.length : Int) == 0) = true by simpa using h4, hj0]
  rw [show ((b.length : Int) == 0) = false by simpa using h4, tocsinlaw18_AggBounds.j0, if_neg (by simp)]
  obtain ⟨k1, hk1, e1⟩ := bounds_l0 a b (by omega) (3 * (a.length + b.length) + 50) k0 0 [] (by omega) (by simp) (by omega)
  rw [show ((0 : Nat) : Int) = 0 from rfl] at e1
  rw [e1, List.drop_zero, List.nil_append]
  obtain ⟨k2, hk2, e2⟩ := bounds_l1 a b (by omega) (2 * (a.length + b.length) + 40) k1 0 (a.map cutS) (by omega) (by rw [List.length_map]; omega) (by omega)
  rw [show ((0 : Nat) : Int) = 0 from rfl] at e2
  rw [e2, List.drop_zero, ← List.map_append]
  obtain ⟨l, hl⟩ : ∃ l, l = (a ++ b).map cutS := ⟨_, rfl⟩
  have hsm : Sm (vals l) := by rw [hl]; exact sm_cut _
  have hlen : l.length = a.length + b.length := by rw [hl, List.length_map, List.length_append]
  rw [← hl]
  clear hl e1 e2
  have hvl := vals_len l
  rw [tocsinlaw18_AggBounds.l1, if_neg (by omega), of_some (by omega) (by omega) (by omega) (by omega), Option.bind_some, of_some (by omega) (by omega) (by omega) (by omega), Option.bind_some, of_some (by omega) (by omega) (by omega) (by omega), Option.bind_some, if_pos rfl, if_pos rfl, if_pos rfl]
  have v2 : aggV 2 (vals l) = minN (vals l) (vals l).length := rfl
  have v3 : aggV 3 (vals l) = maxN (vals l) (vals l).length := rfl
  have v4 : aggV 4 (vals l) = meanV (sumV (vals l)) (vals l).length := rfl
  have v0 : aggV 0 (vals l) = 1000 * ((vals l).length : Int) := rfl
  have v5 : aggV 5 (vals l) = rd (vals l) (((vals l).length - 1 : Nat) : Int) := rfl
  have v1 : ∀ xs, aggV 1 xs = sumV xs := fun xs => rfl
  have hlo : ∀ j, j < l.length → aggV 2 (vals l) ≤ rd (vals l) (j : Int) := fun j hj => by rw [v2]; exact minN_le _ _ (Nat.le_refl _) j (by omega)
  have hhi : ∀ j, j < l.length → rd (vals l) (j : Int) ≤ aggV 3 (vals l) := fun j hj => by rw [v3]; exact maxN_le _ _ (Nat.le_refl _) j (by omega)
  have hmem : ∀ x ∈ vals l, aggV 2 (vals l) ≤ x ∧ x ≤ aggV 3 (vals l) := fun x hx => by
    obtain ⟨j, hj⟩ := List.getElem?_of_mem hx
    have hj2 := (List.getElem?_eq_some_iff.1 hj)
    obtain ⟨hj3, hj4⟩ := hj2
    have e : rd (vals l) (j : Int) = x := by rw [rd_eq hj3, hj4]
    rw [← e]
    exact ⟨hlo j (by omega), hhi j (by omega)⟩
  have hsum := sumV_tot hsm (by omega)
  have htb := tot_bounds hmem
  have htb2 := tot_bounds hsm
  have hmean : aggV 2 (vals l) ≤ aggV 4 (vals l) ∧ aggV 4 (vals l) ≤ aggV 3 (vals l) := by
    rw [v4]
    unfold meanV
    rw [if_neg (by omega), hsum, sat_id (by omega) (by omega)]
    exact tdiv_between (by omega) htb.1 htb.2
  have hj3 : (if aggV 2 (vals l) > aggV 4 (vals l) then tocsinlaw18_AggBounds.j3 k2 a l (aggV 2 (vals l)) (aggV 3 (vals l)) true else tocsinlaw18_AggBounds.j3 k2 a l (aggV 2 (vals l)) (aggV 3 (vals l)) (decide (aggV 4 (vals l) > aggV 3 (vals l)))) = tocsinlaw18_AggBounds.j3 k2 a l (aggV 2 (vals l)) (aggV 3 (vals l)) false := by
    rw [if_neg (by omega), decide_eq_false (by omega)]
  refine (show _ = _ from hj3).trans ?_
  obtain ⟨k3, rfl⟩ : ∃ m, k2 = m + 1 := ⟨k2 - 1, by omega⟩
  rw [tocsinlaw18_AggBounds.j3, if_neg (by simp)]
  obtain ⟨k4, hk4, e4⟩ := bounds_l2 a l (by omega) (aggV 2 (vals l)) (aggV 3 (vals l)) hlo hhi 5 k3 0 (by omega) (by omega)
  have f0 : ∀ m, flag (vals l) m 0 = false := fun m => by unfold flag; simp
  rw [f0, f0, if_neg (by simp), if_neg (by simp)] at e4
  refine e4.trans ?_
  obtain ⟨j2, hj2, e2⟩ := minN_at (vals l) (vals l).length (by omega) (Nat.le_refl _)
  obtain ⟨j3, hj3', e3⟩ := maxN_at (vals l) (vals l).length (by omega) (Nat.le_refl _)
  have g1 := flag_true hj2 (m := aggV 2 (vals l)) (by rw [v2, e2])
  have g2 := flag_true hj3' (m := aggV 3 (vals l)) (by rw [v3, e3])
  rw [hvl] at g1 g2
  rw [g1, g2, if_pos rfl, if_pos rfl, tocsinlaw18_AggBounds.l2, if_neg (by omega), of_some (by omega) (by omega) (by omega) (by omega), Option.bind_some, of_some (by omega) (by omega) (by omega) (by omega), Option.bind_some, of_some (by omega) (by omega) (by omega) (by omega), Option.bind_some, if_pos (by omega), if_pos (by omega)]
  have ht1 : (l.take ((a.length : Int)).toNat).length ≤ 100000 := by rw [List.length_take]; omega
  have ht2 : (l.drop ((a.length : Int)).toNat).length ≤ 100000 := by rw [List.length_drop]; omega
  rw [of_some ht1 (by omega) (by omega) (by omega), Option.bind_some, of_some ht2 (by omega) (by omega) (by omega), Option.bind_some, if_pos (show (1 : Int) + 2 = 3 by decide)]
  dsimp only
  rw [v0, w64 (x := 1000 * (l.length : Int)) (by omega) (by omega), if_pos (by rw [hvl])]
  rw [w64 (by omega) (by omega), if_pos (by omega), if_pos (by omega)]
  have hlast : aggV 5 (vals l) = (rd_T30 l ((l.length : Int) - 1)).f1 := by
    rw [v5, hvl, show ((l.length : Int) - 1) = ((l.length - 1 : Nat) : Int) by omega, rd30 (by omega)]
  rw [if_pos hlast, v1, v1, v1]
  have hsplit : vals l = vals (l.take ((a.length : Int)).toNat) ++ vals (l.drop ((a.length : Int)).toNat) := by
    unfold vals; rw [← List.map_append, List.take_append_drop]
  have s1 : Sm (vals (l.take ((a.length : Int)).toNat)) := fun x hx => hsm x (by rw [hsplit]; exact List.mem_append_left _ hx)
  have s2 : Sm (vals (l.drop ((a.length : Int)).toNat)) := fun x hx => hsm x (by rw [hsplit]; exact List.mem_append_right _ hx)
  have l1 : (vals (l.take ((a.length : Int)).toNat)).length ≤ 1000 := by rw [vals_len, List.length_take]; omega
  have l2 : (vals (l.drop ((a.length : Int)).toNat)).length ≤ 1000 := by rw [vals_len, List.length_drop]; omega
  have b1 := tot_bounds s1
  have b2 := tot_bounds s2
  have heq : sumV (vals l) = wrap64 (sumV (vals (l.take ((a.length : Int)).toNat)) + sumV (vals (l.drop ((a.length : Int)).toNat))) := by
    rw [hsum, sumV_tot s1 l1, sumV_tot s2 l2, w64 (by omega) (by omega), ← tot_append, ← hsplit]
  rw [if_pos heq, awake_some]; rfl
end Go.Proofs.Ytafpedgmfkaifaa.Pure
