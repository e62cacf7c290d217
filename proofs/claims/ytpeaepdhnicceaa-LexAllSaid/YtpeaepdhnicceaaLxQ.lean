/- What lex.All tells, by the plain tokens. -/
import Derived.Test.YtpeaepdhnicceaaGiven
import Derived.Test.YtpeaepdhnicceaaLxP
namespace Go.Proofs.Ytpeaepdhnicceaa.Pure
open Go.RowKit Go.Proofs.Ytpeaepdhnicceaa.Wk Go.Proofs.Ytpeaepdhnicceaa.PTy Go.Proofs.Ytpeaepdhnicceaa.Given Go.Proofs.YtpeaepdhnicceaaW.PrintWords
def tokT (x : Lx.Tok) : S31 := ⟨(x.kind : Int), ⟨x.text.toArray⟩, (x.at' : Int)⟩
def outT (q : List Lx.Tok × Option Nat) : List S31 × Int × Int := match q.2 with
  | none => (q.1.map tokT, 0, 0)
  | some p => ([], (p : Int), 90)
theorem allF_T (s : ByteArray) (h : s.size ≤ 4096) : allF s = outT (Lx.T 0 (L s)) := by
  have e : told s = els (Lx.T 0 (L s)) := by
    unfold told; rw [if_neg (by omega)]; unfold Lx.T; rw [L_len]
  unfold allF
  rw [e]
  generalize Lx.T 0 (L s) = q
  obtain ⟨X, o⟩ := q
  have hX : ∀ Y : List Lx.Tok, (Y.map (fun t : Lx.Tok => ((t.kind, t.text, t.at', 0) : El))).find? (fun x => decide (x.2.2.2 ≠ 0)) = none := by
    intro Y
    rw [List.find?_eq_none]
    intro x hx
    obtain ⟨t, _, rfl⟩ := List.mem_map.mp hx
    simp
  unfold els outT
  cases o with
  | none =>
    simp only [List.append_nil, hX, List.map_map]
    rfl
  | some p =>
    simp only [List.find?_append, hX]
    rfl
theorem all_T (s : ByteArray) (h : s.size ≤ 4096) : lex_All.f s = some (outT (Lx.T 0 (L s))) := by
  unfold lex_All.f; rw [if_pos (by omega), allF_T s h]
theorem all_long (s : ByteArray) (h : 4096 < s.size) (h2 : s.size ≤ 140737488351232) : lex_All.f s = some ([], 0, 3) := by
  unfold lex_All.f; rw [if_pos h2]; unfold allF told; rw [if_pos h]; rfl
theorem outT_none {q : List Lx.Tok × Option Nat} (h : q.2 = none) : outT q = (q.1.map tokT, 0, 0) := by unfold outT; rw [h]
theorem outT_some {q : List Lx.Tok × Option Nat} {p : Nat} (h : q.2 = some p) : outT q = ([], (p : Int), 90) := by unfold outT; rw [h]
theorem T_at : ∀ (n : Nat) (a : Nat) (l : List UInt8), l.length ≤ n → ∀ x ∈ (Lx.T a l).1, a ≤ x.at' ∧ x.at' < a + l.length
  | n, a, l, hn, x, hx => by
    have hlen : (l.drop (Lx.skip false l)).length = l.length - Lx.skip false l := List.length_drop
    rcases Lx.T_cases a l with ⟨h1, h2⟩ | ⟨h1, h2, h3⟩ | ⟨h1, h2, h3⟩
    · rw [h2] at hx; cases hx
    · rw [h3] at hx; cases hx
    · rw [h3] at hx
      rcases List.mem_cons.mp hx with rfl | hx
      · exact ⟨by show a ≤ a + _; omega, by show a + _ < a + _; omega⟩
      · cases n with
        | zero => omega
        | succ n =>
          have hol := Lx.one_len (l.drop (Lx.skip false l))
          have hll := List.length_drop (i := (Lx.one (l.drop (Lx.skip false l))).2.2) (l := l.drop (Lx.skip false l))
          have := T_at n _ _ (by omega) x hx
          omega
theorem T_count : ∀ (n : Nat) (a : Nat) (l : List UInt8), l.length ≤ n → (Lx.T a l).1.length ≤ l.length
  | n, a, l, hn => by
    have hlen : (l.drop (Lx.skip false l)).length = l.length - Lx.skip false l := List.length_drop
    rcases Lx.T_cases a l with ⟨h1, h2⟩ | ⟨h1, h2, h3⟩ | ⟨h1, h2, h3⟩
    · rw [h2]; exact Nat.zero_le _
    · rw [h3]; exact Nat.zero_le _
    · rw [h3]
      cases n with
      | zero => omega
      | succ n =>
        have hol := Lx.one_len (l.drop (Lx.skip false l))
        have hll := List.length_drop (i := (Lx.one (l.drop (Lx.skip false l))).2.2) (l := l.drop (Lx.skip false l))
        have := T_count n (a + Lx.skip false l + (Lx.one (l.drop (Lx.skip false l))).2.2) _ (by omega : ((l.drop (Lx.skip false l)).drop (Lx.one (l.drop (Lx.skip false l))).2.2).length ≤ n)
        rw [List.length_cons]; omega
theorem L_app (s t : ByteArray) : L (s ++ t) = L s ++ L t := by
  show (s ++ t).data.toList = _
  rw [ByteArray.data_append, Array.toList_append]
theorem sz_app (s t : ByteArray) : (s ++ t).size = s.size + t.size := ByteArray.size_append
theorem w64 {n : Int} (h1 : -9223372036854775808 ≤ n) (h2 : n ≤ 9223372036854775807) : wrap64 n = n := by unfold wrap64; omega
theorem rd_tok (X : List Lx.Tok) (i : Nat) (h : i < X.length) : rd_T31 (X.map tokT) (i : Int) = tokT (X[i]'h) := by
  unfold rd_T31
  rw [Int.toNat_natCast, List.getD_eq_getElem?_getD, List.getElem?_map, List.getElem?_eq_getElem h]; rfl
theorem tl (s : ByteArray) : s.toList = L s := by
  show ByteArray.toList s = s.data.toList
  exact ByteArray.toList_eq s
theorem tlm (l : List UInt8) : (⟨l.toArray⟩ : ByteArray).toList = l := by rw [tl]
end Go.Proofs.Ytpeaepdhnicceaa.Pure
