/- What lex.text does: the walk. -/
import Derived.Test.YtpeaepdhnicceaaSk
import Derived.Test.YtpeaepdhnicceaaBld
namespace Go.Proofs.Ytpeaepdhnicceaa.Wk
open Go.RowKit Go.Proofs.Ytpeaepdhnicceaa.PBase Go.Proofs.Ytpeaepdhnicceaa.Ix Go.Proofs.YtpeaepdhnicceaaW.PrintWords Go.Proofs.YtpeaepdhnicceaaW.PrintLast Go.Proofs.YtpeaepdhnicceaaW.PrintMore
def textR : Option (List UInt8 × Nat) → ByteArray × Nat
  | some q => (⟨q.1.toArray⟩, q.2 + 1)
  | none => (⟨#[]⟩, 0)
theorem text_cons (b : UInt8) (t : List UInt8) : Lx.text (b :: t) = if b.toNat < 32 ∨ 126 < b.toNat then none else if b.toNat = 34 then some ([], 1) else
    if b.toNat = 92 then (match t with
      | c :: u => if c.toNat = 34 ∨ c.toNat = 92 then (Lx.text u).map (fun q => (c :: q.1, q.2 + 2)) else none
      | [] => none)
    else (Lx.text t).map (fun q => (b :: q.1, q.2 + 1)) := by
  rw [Lx.text.eq_def]
  cases t <;> rfl
theorem text_stop {b : UInt8} {t : List UInt8} (h : b.toNat < 32 ∨ 126 < b.toNat) : Lx.text (b :: t) = none := by rw [text_cons, if_pos h]
theorem text_quote {b : UInt8} {t : List UInt8} (h : b.toNat = 34) : Lx.text (b :: t) = some ([], 1) := by rw [text_cons, if_neg (by omega), if_pos h]
theorem text_esc {b c : UInt8} {t : List UInt8} (h : b.toNat = 92) (h' : c.toNat = 34 ∨ c.toNat = 92) : Lx.text (b :: c :: t) = (Lx.text t).map (fun q => (c :: q.1, q.2 + 2)) := by
  rw [text_cons, if_neg (by omega), if_neg (by omega), if_pos h]; exact if_pos h'
theorem text_bad {b c : UInt8} {t : List UInt8} (h : b.toNat = 92) (h' : ¬ (c.toNat = 34 ∨ c.toNat = 92)) : Lx.text (b :: c :: t) = none := by
  rw [text_cons, if_neg (by omega), if_neg (by omega), if_pos h]; exact if_neg h'
theorem text_bad' {b : UInt8} (h : b.toNat = 92) : Lx.text [b] = none := by
  rw [text_cons, if_neg (by omega), if_neg (by omega), if_pos h]
theorem text_plain {b : UInt8} {t : List UInt8} (h1 : 32 ≤ b.toNat) (h2 : b.toNat ≤ 126) (h3 : b.toNat ≠ 34) (h4 : b.toNat ≠ 92) : Lx.text (b :: t) = (Lx.text t).map (fun q => (b :: q.1, q.2 + 1)) := by
  rw [text_cons, if_neg (by omega), if_neg h3, if_neg h4]
/-- What has been read so far goes before what will be. -/
def onto (pre : List UInt8) (n : Nat) (o : Option (List UInt8 × Nat)) : Option (List UInt8 × Nat) := o.map (fun q => (pre ++ q.1, q.2 + n))
theorem onto_map (pre : List UInt8) (n : Nat) (b : UInt8) (m : Nat) (o : Option (List UInt8 × Nat)) : onto pre n (o.map (fun q => (b :: q.1, q.2 + m))) = onto (pre ++ [b]) (n + m) o := by
  cases o with
  | none => rfl
  | some q => unfold onto; simp [List.append_assoc]; omega
theorem byteCells_snoc (pre : List UInt8) (b : UInt8) : Lib.byteCells (pre ++ [b]) = Lib.byteCells pre ++ [.int .u8 (b.toNat : Int)] := by
  rw [Lib.byteCells_append]; rfl
set_option maxHeartbeats 2000000 in
set_option maxRecDepth 100000 in
theorem text_any (s : ByteArray) (a : Nat) (hs : s.size ≤ 4096) (ha : a < s.size) (w : World) :
    Calls Try.prog 31 #[.string s, .int .i64 a] w fun e w' => e = .returned (.tuple #[.string (textR (Lx.text ((L s).drop (a + 1)))).1, .int .i64 ((textR (Lx.text ((L s).drop (a + 1)))).2 : Nat)]) ∧ Below w.heap.size w w' := by
  obtain ⟨T, hT⟩ : ∃ T, T = Lx.text ((L s).drop (a + 1)) := ⟨_, rfl⟩
  rw [← hT]
  have HT := Aside0.mk hT
  have HB0 := Aside0.mk ((Below.refl w.heap.size w).alloc (Nat.le_refl _) (.cells #[.pointer none, .slice none 0 0] 60))
  have HI0 := Aside0.mk (show Lib.IsBuilder 60 5 w.heap.size w.heap.size (Lib.byteCells []) (w.alloc (.cells #[.pointer none, .slice none 0 0] 60)) from Lib.fresh_isBuilder 60 5 w)
  clear hT
  go_enter Try.func31, Try.ntmps31
  go_wp2
  go_loopw [7] (fun i wr => ∃ (k : Nat) (pre : List UInt8), i = .int .i64 k ∧ a + 1 ≤ k ∧ k ≤ s.size ∧ pre.length ≤ k ∧ Aside0 (T = onto pre (k - (a + 1)) (Lx.text ((L s).drop k))) ∧ Aside0 (Lib.IsBuilder 60 5 w.heap.size w.heap.size (Lib.byteCells pre) wr) ∧ Aside0 (Below w.heap.size w wr)) (fun i _ => s.size + 1 - (intOf i).toNat)
  case atStart => exact ⟨a + 1, [], by go_num, Nat.le_refl _, by omega, Nat.zero_le _, ⟨by rw [HT.out, Nat.sub_self]; unfold onto; cases Lx.text ((L s).drop (a + 1)) <;> rfl⟩, HI0, HB0⟩
  case round =>
    clear HI0 HB0 HT
    obtain ⟨k, pre, rfl, hk0, hk, hpl, HN, HI, HB⟩ := hrel
    have HL := Aside0.mk (show (Lib.byteCells pre).length + 1 ≤ 140737488355328 by rw [Lib.byteCells_length]; omega)
    by_cases hlt : k < s.size
    · have hd := L_drop hlt
      have hn := HN.out
      rw [hd] at hn
      by_cases h1 : 32 ≤ s[k].toNat
      · by_cases h2 : s[k].toNat ≤ 126
        · by_cases h3 : s[k].toNat = 34
          · have c3 : ((s[k].toNat : Int) == 34) = true := beq_iff_eq.mpr (by omega)
            rw [text_quote h3] at hn
            have HR := Aside0.mk hn
            clear hn hd h3
            go_wp2_with (first | (go_at_call 37; refine (Try.BString w.heap.size w.heap.size pre _ HI.out HB.out.size).mono ?_; rintro e w1 ⟨rfl, hb1⟩))
            go_ret2
            refine ⟨?_, HB.out.trans hb1⟩
            rw [HR.out]
            simp only [onto, textR, Option.map_some, List.append_nil]
            have e1 : (k : Int) + 1 - (a : Int) = ((1 + (k - (a + 1)) + 1 : Nat) : Int) := by omega
            rw [← e1]
            rfl
          · have c3 : ((s[k].toNat : Int) == 34) = false := beq_eq_false_iff_ne.mpr (by omega)
            by_cases h4 : s[k].toNat = 92
            · have c4 : ((s[k].toNat : Int) == 92) = true := beq_iff_eq.mpr (by omega)
              by_cases h5 : k + 1 < s.size
              · rw [L_drop h5] at hn
                by_cases h6 : s[k + 1].toNat = 34
                · have c6 : ((s[k + 1].toNat : Int) == 34) = true := beq_iff_eq.mpr (by omega)
                  rw [text_esc h4 (.inl h6), onto_map] at hn
                  have HR := Aside0.mk hn
                  clear hn hd h3 h4 h6
                  go_wp2_with (first | (go_at_call 38; refine (Try.WriteByte w.heap.size w.heap.size _ _ _ HI.out HL.out HB.out.size).mono ?_; rintro e w1 ⟨rfl, hi1, hb1⟩))
                  go_roundw
                  case rel => exact ⟨k + 2, pre ++ [s[k + 1]], by go_num, by omega, by omega, by simp; omega, ⟨by rw [HR.out, show k + 1 + 1 = k + 2 by omega, show k - (a + 1) + 2 = k + 2 - (a + 1) by omega]⟩, ⟨by rw [byteCells_snoc]; exact .inr hi1⟩, ⟨HB.out.trans hb1⟩⟩
                  case measure => simp [intOf]; omega
                · have c6 : ((s[k + 1].toNat : Int) == 34) = false := beq_eq_false_iff_ne.mpr (by omega)
                  by_cases h7 : s[k + 1].toNat = 92
                  · have c7 : ((s[k + 1].toNat : Int) == 92) = true := beq_iff_eq.mpr (by omega)
                    rw [text_esc h4 (.inr h7), onto_map] at hn
                    have HR := Aside0.mk hn
                    clear hn hd h3 h4 h6 h7
                    go_wp2_with (first | (go_at_call 38; refine (Try.WriteByte w.heap.size w.heap.size _ _ _ HI.out HL.out HB.out.size).mono ?_; rintro e w1 ⟨rfl, hi1, hb1⟩))
                    go_roundw
                    case rel => exact ⟨k + 2, pre ++ [s[k + 1]], by go_num, by omega, by omega, by simp; omega, ⟨by rw [HR.out, show k + 1 + 1 = k + 2 by omega, show k - (a + 1) + 2 = k + 2 - (a + 1) by omega]⟩, ⟨by rw [byteCells_snoc]; exact .inr hi1⟩, ⟨HB.out.trans hb1⟩⟩
                    case measure => simp [intOf]; omega
                  · have c7 : ((s[k + 1].toNat : Int) == 92) = false := beq_eq_false_iff_ne.mpr (by omega)
                    rw [text_bad h4 (by omega)] at hn
                    have HR := Aside0.mk hn
                    clear hn hd h3 h4 h6 h7
                    go_wp2
                    go_ret2
                    exact ⟨by rw [HR.out]; rfl, HB.out⟩
              · rw [L_end (by omega), text_bad' h4] at hn
                have HR := Aside0.mk hn
                clear hn hd h3 h4
                go_wp2
                go_ret2
                exact ⟨by rw [HR.out]; rfl, HB.out⟩
            · have c4 : ((s[k].toNat : Int) == 92) = false := beq_eq_false_iff_ne.mpr (by omega)
              rw [text_plain h1 h2 h3 h4, onto_map] at hn
              have HR := Aside0.mk hn
              clear hn hd h3 h4
              go_wp2_with (first | (go_at_call 38; refine (Try.WriteByte w.heap.size w.heap.size _ _ _ HI.out HL.out HB.out.size).mono ?_; rintro e w1 ⟨rfl, hi1, hb1⟩))
              go_roundw
              case rel => exact ⟨k + 1, pre ++ [s[k]], by go_num, by omega, by omega, by simp; omega, ⟨by rw [HR.out, show k - (a + 1) + 1 = k + 1 - (a + 1) by omega]⟩, ⟨by rw [byteCells_snoc]; exact .inr hi1⟩, ⟨HB.out.trans hb1⟩⟩
              case measure => simp [intOf]; omega
        · rw [text_stop (.inr (by omega))] at hn
          have HR := Aside0.mk hn
          clear hn hd
          go_wp2
          go_ret2
          exact ⟨by rw [HR.out]; rfl, HB.out⟩
      · rw [text_stop (.inl (by omega))] at hn
        have HR := Aside0.mk hn
        clear hn hd
        go_wp2
        go_ret2
        exact ⟨by rw [HR.out]; rfl, HB.out⟩
    · have hn := HN.out
      rw [L_end (by omega)] at hn
      have HR := Aside0.mk hn
      clear hn
      go_wp2
      go_ret2
      exact ⟨by rw [HR.out]; rfl, HB.out⟩
end Go.Proofs.Ytpeaepdhnicceaa.Wk
