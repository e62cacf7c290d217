/- Reading and writing are each other's contrary: plain. -/
import Derived.Test.YtekbbpbpkekdhaaRw
import Derived.Test.YtekbbpbpkekdhaaMany
namespace Go.Proofs.Ytekbbpbpkekdhaa.Cod
open Go.RowKit Go.Proofs.Ytekbbpbpkekdhaa.Ex Go.Proofs.Ytekbbpbpkekdhaa.PBase Go.Proofs.Ytekbbpbpkekdhaa.OpenS Go.Proofs.YtekbbpbpkekdhaaW.PrintWords
theorem chars_of {l : List Int} (h : isB l) : chars (strOfNums l) = l := by
  unfold chars strOfNums
  rw [List.toList_toArray, List.map_map]
  conv => rhs; rw [← List.map_id l]
  refine List.map_congr_left fun x hx => ?_
  have := h x hx
  simp only [Function.comp, id, UInt8.toNat_ofNat']
  omega
theorem size_of (l : List Int) : (strOfNums l).size = l.length := by
  unfold strOfNums; show (Array.size _) = _; simp
theorem of_chars (s : ByteArray) : strOfNums (chars s) = s := by
  unfold chars strOfNums
  rw [List.map_map]
  have : (s.data.toList.map ((fun n : Int => UInt8.ofNat n.toNat) ∘ fun b => (b.toNat : Int))) = s.data.toList := by
    conv => rhs; rw [← List.map_id s.data.toList]
    refine List.map_congr_left fun x hx => ?_
    simp
  rw [this]
theorem rdY_form {xs l r : List Int} (hx : isB xs) (h : rdY xs = some (l, r)) : xs = encB l ++ r ∧ isB l := by
  unfold rdY at h
  cases hU : rdU 10 0 0 xs with
  | none => rw [hU] at h; cases h
  | some p =>
    obtain ⟨n, t⟩ := p
    obtain ⟨he, hn⟩ := rdU_some hx hU
    rw [hU] at h
    have h' : (if n ≤ t.length then some (t.take n, t.drop n) else none) = some (l, r) := h
    split at h'
    · rename_i hle
      cases h'
      have hl : (t.take n).length = n := by rw [List.length_take]; omega
      refine ⟨?_, ?_⟩
      · unfold encB
        rw [hl, List.append_assoc, List.take_append_drop]; exact he
      · rw [he] at hx
        exact fun y hy => isB_right hx y (List.mem_of_mem_take hy)
    · cases h'
theorem encB_len (l : List Int) : l.length ≤ (encB l).length := by unfold encB; rw [List.length_append]; omega
theorem ok_mk (k u i : Int) (b : Bool) (l : List Int) (s : ByteArray) (n : Int) (hu : ∃ m : Nat, u = (m : Int) ∧ m < 18446744073709551616) (h0 : -9223372036854775808 ≤ i) (h1 : i ≤ 9223372036854775807) (h2 : -9223372036854775808 ≤ n) (h3 : n ≤ 9223372036854775807) : (V.mk k u i b l s n).ok := ⟨hu, h0, h1, h2, h3⟩
theorem weigh0 (k u i : Int) (b : Bool) (n : Int) : weigh ⟨k, u, i, b, [], ⟨#[]⟩, n⟩ = 0 := rfl
theorem dec_form {k m : Int} {xs : List Int} {x : S29} {r : List Int} (hx : isB xs) (hk0 : 0 ≤ k) (hk5 : k ≤ 5) (hm : m ≤ 9223372036854775807) (h : decS k m xs = some (x, r)) :
    xs = form (toV x) ++ r ∧ (toV x).ok ∧ weigh x ≤ (form (toV x)).length := by
  unfold decS at h
  rcases (show k = 0 ∨ k = 1 ∨ k = 2 ∨ k = 3 ∨ k = 4 ∨ k = 5 by omega) with rfl | rfl | rfl | rfl | rfl | rfl
  · rw [if_pos rfl] at h
    obtain ⟨⟨n, t⟩, hU, h2⟩ := Option.map_eq_some_iff.1 h
    obtain ⟨he, hn⟩ := rdU_some hx hU
    simp only [Prod.mk.injEq] at h2; obtain ⟨rfl, rfl⟩ := h2
    exact ⟨by simpa [form, toV] using he, ok_mk _ _ _ _ _ _ _ ⟨n, rfl, hn⟩ (by (try dsimp only); omega) (by (try dsimp only); omega) (by (try dsimp only); omega) (by (try dsimp only); omega), by rw [weigh0]; exact Nat.zero_le _⟩
  · rw [if_neg (by decide), if_pos rfl] at h
    obtain ⟨⟨n, t⟩, hU, h2⟩ := Option.map_eq_some_iff.1 h
    obtain ⟨he, hn⟩ := rdU_some hx hU
    simp only [Prod.mk.injEq] at h2; obtain ⟨rfl, rfl⟩ := h2
    have hr := unzig_range hn
    exact ⟨by simpa [form, toV, zig_unzig] using he, ok_mk _ _ _ _ _ _ _ ⟨0, rfl, by omega⟩ hr.1 hr.2 (by (try dsimp only); omega) (by (try dsimp only); omega), by rw [weigh0]; exact Nat.zero_le _⟩
  · rw [if_neg (by decide), if_neg (by decide), if_pos rfl] at h
    obtain ⟨⟨v, t⟩, hU, h2⟩ := Option.map_eq_some_iff.1 h
    simp only [Prod.mk.injEq] at h2; obtain ⟨rfl, rfl⟩ := h2
    refine ⟨?_, ok_mk _ _ _ _ _ _ _ ⟨0, rfl, by omega⟩ (by (try dsimp only); omega) (by (try dsimp only); omega) (by (try dsimp only); omega) (by (try dsimp only); omega), by rw [weigh0]; exact Nat.zero_le _⟩
    cases xs with
    | nil => cases hU
    | cons y ys =>
      have h' : (if 1 < y then none else some (y == 1, ys)) = some (v, t) := hU
      have hy := hx y List.mem_cons_self
      split at h'
      · cases h'
      · cases h'
        rcases (show y = 0 ∨ y = 1 by omega) with rfl | rfl <;> simp [form, toV]
  · rw [if_neg (by decide), if_neg (by decide), if_neg (by decide), if_pos rfl] at h
    obtain ⟨⟨l, t⟩, hU, h2⟩ := Option.map_eq_some_iff.1 h
    obtain ⟨he, hl⟩ := rdY_form hx hU
    simp only [Prod.mk.injEq] at h2; obtain ⟨rfl, rfl⟩ := h2
    refine ⟨by simpa [form, toV] using he, ok_mk _ _ _ _ _ _ _ ⟨0, rfl, by omega⟩ (by (try dsimp only); omega) (by (try dsimp only); omega) (by (try dsimp only); omega) (by (try dsimp only); omega), ?_⟩
    have := encB_len l
    show l.length + 0 ≤ (encB l).length
    omega
  · rw [if_neg (by decide), if_neg (by decide), if_neg (by decide), if_neg (by decide), if_pos rfl] at h
    obtain ⟨⟨l, t⟩, hU, h2⟩ := Option.map_eq_some_iff.1 h
    obtain ⟨he, hl⟩ := rdY_form hx hU
    simp only [Prod.mk.injEq] at h2; obtain ⟨rfl, rfl⟩ := h2
    refine ⟨by simpa [form, toV, chars_of hl] using he, ok_mk _ _ _ _ _ _ _ ⟨0, rfl, by omega⟩ (by (try dsimp only); omega) (by (try dsimp only); omega) (by (try dsimp only); omega) (by (try dsimp only); omega), ?_⟩
    have := encB_len l
    show 0 + (strOfNums l).size ≤ (encB (chars (strOfNums l))).length
    rw [chars_of hl, size_of]; omega
  · rw [if_neg (by decide), if_neg (by decide), if_neg (by decide), if_neg (by decide), if_neg (by decide)] at h
    obtain ⟨⟨n, t⟩, hU, h2⟩ := Option.map_eq_some_iff.1 h
    simp only [Prod.mk.injEq] at h2; obtain ⟨rfl, rfl⟩ := h2
    unfold rdL at hU
    cases hV : rdU 10 0 0 xs with
    | none => rw [hV] at hU; cases hU
    | some p =>
      obtain ⟨n', t'⟩ := p
      obtain ⟨he, hn⟩ := rdU_some hx hV
      rw [hV] at hU
      have h' : (if 0 ≤ m ∧ (n' : Int) ≤ m then some (n', t') else none) = some (n, t) := hU
      split at h'
      · rename_i hc
        cases h'
        refine ⟨by simpa [form, toV] using he, ok_mk _ _ _ _ _ _ _ ⟨0, rfl, by omega⟩ (by (try dsimp only); omega) (by (try dsimp only); omega) (by (try dsimp only); omega) (by (try dsimp only); omega), by rw [weigh0]; exact Nat.zero_le _⟩
      · cases h'
/-- What is told again of a value that was written. -/
def norm (x : S29) : S29 :=
  if x.f0 = 0 then ⟨0, x.f1, 0, false, [], ⟨#[]⟩, 0⟩ else if x.f0 = 1 then ⟨1, 0, x.f2, false, [], ⟨#[]⟩, 0⟩ else if x.f0 = 2 then ⟨2, 0, 0, x.f3, [], ⟨#[]⟩, 0⟩
  else if x.f0 = 3 then ⟨3, 0, 0, false, x.f4, ⟨#[]⟩, 0⟩ else if x.f0 = 4 then ⟨4, 0, 0, false, [], x.f5, 0⟩ else ⟨5, 0, 0, false, [], ⟨#[]⟩, max x.f6 0⟩
theorem rdY_of {l : List Int} (hl : l.length < 18446744073709551616) (r : List Int) : rdY (encB l ++ r) = some (l, r) := by
  unfold rdY encB
  rw [List.append_assoc, rdU_of hl]
  show (if l.length ≤ (l ++ r).length then some ((l ++ r).take l.length, (l ++ r).drop l.length) else none) = _
  rw [if_pos (by rw [List.length_append]; omega), List.take_left, List.drop_left]
theorem form_dec {x : S29} (hv : wfV x) (hk0 : 0 ≤ x.f0) (hk5 : x.f0 ≤ 5) (hl : weigh x ≤ 100000) (r : List Int) : decS x.f0 (max x.f6 0) (form (toV x) ++ r) = some (norm x, r) := by
  obtain ⟨⟨n, hn, hn2⟩, h1, h2, h3, h4⟩ := wf_ok hv
  unfold decS form norm
  have e0 : (toV x).k = x.f0 := rfl
  have e1 : (toV x).u = x.f1 := rfl
  have e2 : (toV x).i = x.f2 := rfl
  have e3 : (toV x).b = x.f3 := rfl
  have e4 : (toV x).l = x.f4 := rfl
  have e5 : (toV x).s = x.f5 := rfl
  have e6 : (toV x).n = x.f6 := rfl
  rw [e1] at hn; rw [e2] at h1 h2; rw [e6] at h3 h4
  rw [e0, e1, e2, e3, e4, e5, e6]
  unfold weigh at hl
  by_cases c0 : x.f0 = 0
  · simp only [if_pos c0]
    rw [hn, Int.toNat_natCast, rdU_of hn2]; rfl
  simp only [if_neg c0]
  by_cases c1 : x.f0 = 1
  · simp only [if_pos c1]
    rw [rdU_of (zig_lt h1 h2)]
    show some ((⟨1, 0, unzig (zig x.f2), false, [], ⟨#[]⟩, 0⟩ : S29), r) = _
    rw [unzig_zig]
  simp only [if_neg c1]
  by_cases c2 : x.f0 = 2
  · simp only [if_pos c2]
    cases x.f3 <;> rfl
  simp only [if_neg c2]
  by_cases c3 : x.f0 = 3
  · simp only [if_pos c3]
    rw [rdY_of (by omega)]; rfl
  simp only [if_neg c3]
  by_cases c4 : x.f0 = 4
  · simp only [if_pos c4]
    rw [rdY_of (by rw [chars_len]; omega)]
    show some ((⟨4, 0, 0, false, [], strOfNums (chars x.f5), 0⟩ : S29), r) = _
    rw [of_chars]
  simp only [if_neg c4]
  have c5 : x.f0 = 5 := by omega
  simp only [if_pos c5]
  unfold rdL
  rw [rdU_of (by omega)]
  show Option.map _ (if 0 ≤ max x.f6 0 ∧ (x.f6.toNat : Int) ≤ max x.f6 0 then some (x.f6.toNat, r) else none) = _
  rw [if_pos (by omega)]
  show some ((⟨5, 0, 0, false, [], ⟨#[]⟩, (x.f6.toNat : Int)⟩ : S29), r) = _
  rw [show (x.f6.toNat : Int) = max x.f6 0 by omega]
end Go.Proofs.Ytekbbpbpkekdhaa.Cod
