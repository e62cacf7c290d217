/- What crc.Of and crc.Sum do: the walk, in the printer's own form. -/
import Derived.Test.YtcobdpkpefgdlaaOn
import Derived.Test.YtcobdpkpefgdlaaWLast
namespace Go.Proofs.Ytcobdpkpefgdlaa.Given
open Go.RowKit Go.Proofs.Crc Go.Proofs.YtcobdpkpefgdlaaW.PrintWords Go.Proofs.YtcobdpkpefgdlaaW.PrintLast
def okB (xs : List Int) : Bool := xs.all (fun x => decide (0 ≤ x) && decide (x < 256)) && decide (xs.length ≤ 140737488355328)
theorem okB_is {xs : List Int} (h : okB xs = true) : isB xs ∧ xs.length ≤ 140737488355328 := by
  unfold okB at h
  simp only [Bool.and_eq_true, List.all_eq_true, decide_eq_true_eq] at h
  exact h
theorem okB_of {xs : List Int} (h : isB xs) (hl : xs.length ≤ 140737488355328) : okB xs = true := by
  unfold okB
  simp only [Bool.and_eq_true, List.all_eq_true, decide_eq_true_eq]
  exact ⟨h, hl⟩
def crc_Of.f (l0 : List (List Int)) : Option Int := if (l0.all okB && decide (l0.length ≤ 140737488355328)) = true then some ((sum (toB l0.flatten)).toNat : Int) else none
def crc_Sum.f (l0 : List Int) : Option Int := if okB l0 = true then some ((sum (toB l0)).toNat : Int) else none
def rdL (xs : List (List Int)) (i : Nat) : List Int := xs.getD i ([] : List Int)
theorem atL {w : World} {A : Option Addr} {n : Nat} {xs : List (List Int)} (h : Kd.C (Kd.slice 5 (Kd.int .u8)) w A n xs) (i : Nat) (h1 : i < n) : ∃ ad A0 c0, A = some ad ∧ w.cell? (ad.add i) = some (.slice A0 (rdL xs i).length c0) ∧ (Kd.int .u8).C w A0 (rdL xs i).length (rdL xs i) := by
  obtain ⟨ad, c, e, _, hK, hc0⟩ := Kd.C_get h ([] : List Int) (i : Int) (by omega) (by omega)
  have hc : ∀ j u, c[j]? = some u → w.cell? (ad.add ((i : Int).toNat * 1 + j)) = some u := hc0
  obtain ⟨A0, c0, rfl, _, g0⟩ := hK
  rw [Int.toNat_natCast] at g0 hc
  exact ⟨ad, A0, c0, e, by have hq := hc 0 _ rfl; rw [Nat.mul_one, Nat.add_zero] at hq; exact hq, g0⟩
theorem rdL_mem (xs : List (List Int)) (k : Nat) (h : k < xs.length) : rdL xs k ∈ xs := by
  unfold rdL; rw [List.getD_eq_getElem?_getD, List.getElem?_eq_getElem h]; exact List.getElem_mem h
theorem toB_append (a b : List Int) : toB (a ++ b) = toB a ++ toB b := List.map_append
theorem flat_take_succ (xs : List (List Int)) (k : Nat) (h : k < xs.length) : toB (xs.take (k + 1)).flatten = toB (xs.take k).flatten ++ toB (rdL xs k) := by
  unfold rdL; rw [List.take_succ_eq_append_getElem h, List.flatten_append, toB_append, List.getD_eq_getElem?_getD, List.getElem?_eq_getElem h]; simp
theorem not_u32 (p : W) : Go.bits .xor .u32 IntKind.u32.max (p.toNat : Int) = ((~~~ p).toNat : Int) := by
  have h : Go.bits .xor .u32 (I 4294967295#32) (I p) = I (4294967295#32 ^^^ p) := bits_xor _ _
  have e : 4294967295#32 ^^^ p = ~~~ p := by rw [not_eq_xor p, BitVec.xor_comm]; rfl
  rw [e] at h
  exact h
set_option maxHeartbeats 1000000 in
set_option maxRecDepth 100000 in
theorem crc_Of.calls (A0 : Option Addr) (c0 : Nat) (l0 : List (List Int)) (r : Int) (w : World) (hr0 : Kd.C (Kd.slice 5 (Kd.int .u8)) w A0 l0.length l0) (_hc0 : l0.length ≤ c0) (h : crc_Of.f l0 = some r) :
    Calls Try.prog 34 #[.slice A0 l0.length c0] w fun e w' => e = .returned (.int .u32 r) ∧ Below w.heap.size w w' := by
  unfold crc_Of.f at h
  split at h
  case isFalse => cases h
  case isTrue hok =>
  obtain rfl := Option.some.inj h
  clear h
  simp only [Bool.and_eq_true, decide_eq_true_eq, List.all_eq_true] at hok
  have hl := hok.2
  have HK : Hid (∀ x ∈ l0, okB x = true) := hok.1
  have HR := Lib.hid hr0
  clear hok hr0
  go_enter Try.func34, Try.ntmps34
  go_wp2_with (go_at_call 39; refine (row_any _).mono ?_; rintro e w' ⟨Z, rfl, rfl, hs, hZ⟩)
  have hB : Hid (Below w.heap.size w (w.alloc (.cells Z 69))) := (Below.refl _ _).alloc (Nat.le_refl _) _
  have HZ : Hid (∀ j, j < 256 → (w.alloc (.cells Z 69)).cell? ⟨w.heap.size, j, none⟩ = some (tabV j)) := fun j hj => by
    rw [World.cell?_alloc_new]; exact hZ j hj
  clear hZ hs
  go_loop [3, 10] (fun p i => ∃ k : Nat, k ≤ l0.length ∧ i = .int .i64 k ∧ p = .int .u32 ((run (~~~ 0#32) (toB (l0.take k).flatten)).toNat : Int)) (fun _ i => l0.length - (intOf i).toNat)
  case atStart => exact ⟨0, Nat.zero_le _, rfl, rfl⟩
  case round =>
    obtain ⟨k, hk, rfl, rfl⟩ := hrel
    by_cases hlt : k < l0.length
    · obtain ⟨ad, A1, c1, e, hcell, hread⟩ := atL HR k hlt
      cases e
      have hcell2 : (w.alloc (.cells Z 69)).cell? (ad.add k) = some (.slice A1 (rdL l0 k).length c1) := (hB.cell (World.block_lt_of_cell? w _ hcell)).trans hcell
      have hread2 := Lib.hid (Kd.C_below hread hB)
      have hx := okB_is (HK _ (rdL_mem l0 k hlt))
      have hx1 := Lib.hid hx.1
      have hx2 := Lib.hid hx.2
      have hstep := Lib.hid (flat_take_succ l0 k hlt)
      clear hcell hread hx
      generalize rdL l0 k = x at *
      generalize hq : run (~~~ 0#32) (toB (l0.take k).flatten) = q
      have Hq := Lib.hid hq
      clear hq
      go_wp2_with (go_at_call 40; refine (on_any q w.heap.size A1 c1 x _ HZ hread2 hx1 hx2).mono ?_; rintro e w' ⟨rfl, rfl⟩)
      go_round
      case rel => exact ⟨k + 1, by omega, by go_num, by rw [hstep.out, run_append, Hq.out]⟩
      case measure => simp [intOf]; omega
    · obtain rfl : k = l0.length := by omega
      have h := List.take_length (l := l0)
      rw [h]
      clear h
      have hn := Lib.hid (not_u32 (run (~~~ 0#32) (toB l0.flatten)))
      go_wp2_with fail
      go_ret
      exact ⟨ret_int hn.out, hB⟩
/-- A row of rows that lies in one block. -/
theorem C_of_cells (w : World) (b : Nat) (ls : List (List Int)) (hn : ls.length ≤ 9223372036854775807) (h : ∀ j xs, ls[j]? = some xs → ∃ A c, w.cell? ⟨b, j, none⟩ = some (.slice A xs.length c) ∧ xs.length ≤ c ∧ (Kd.int .u8).C w A xs.length xs) :
    Kd.C (Kd.slice 5 (Kd.int .u8)) w (some ⟨b, 0, none⟩) ls.length ls := by
  refine ⟨rfl, hn, fun _ => ⟨_, rfl, fun j xs hj => ?_⟩⟩
  obtain ⟨A, c, hc, hl, hr⟩ := h j xs hj
  refine ⟨[.slice A xs.length c], rfl, ⟨A, c, rfl, hl, hr⟩, fun i u hu => ?_⟩
  match i with
  | 0 =>
    obtain rfl := Option.some.inj hu
    have e : (⟨b, 0, none⟩ : Addr).add (j * (Kd.slice 5 (Kd.int .u8)).sz + 0) = ⟨b, j, none⟩ := by
      rw [show (Kd.slice 5 (Kd.int .u8)).sz = 1 from rfl]; simp [Addr.add]; omega
    rw [e]; exact hc
  | i + 1 => simp at hu
theorem C_one (w : World) (A : Option Addr) (c : Nat) (xs : List Int) (hc : xs.length ≤ c) (hr : (Kd.int .u8).C w A xs.length xs) :
    Kd.C (Kd.slice 5 (Kd.int .u8)) (w.alloc (.cells #[.slice A xs.length c] 22)) (some ⟨w.heap.size, 0, none⟩) 1 [xs] := by
  refine C_of_cells _ _ [xs] (by simp) fun j ys hj => ?_
  match j with
  | 0 =>
    obtain rfl := Option.some.inj hj
    exact ⟨A, c, by rw [World.cell?_alloc_new]; rfl, hc, Kd.C_below hr ((Below.refl _ _).alloc (Nat.le_refl _) _)⟩
  | j + 1 => simp at hj
theorem C_two (w : World) (A B : Option Addr) (c d : Nat) (xs ys : List Int) (hc : xs.length ≤ c) (hd : ys.length ≤ d) (hr : (Kd.int .u8).C w A xs.length xs) (hs : (Kd.int .u8).C w B ys.length ys) :
    Kd.C (Kd.slice 5 (Kd.int .u8)) (w.alloc (.cells #[.slice A xs.length c, .slice B ys.length d] 22)) (some ⟨w.heap.size, 0, none⟩) 2 [xs, ys] := by
  refine C_of_cells _ _ [xs, ys] (by simp) fun j zs hj => ?_
  match j with
  | 0 =>
    obtain rfl := Option.some.inj hj
    exact ⟨A, c, by rw [World.cell?_alloc_new]; rfl, hc, Kd.C_below hr ((Below.refl _ _).alloc (Nat.le_refl _) _)⟩
  | 1 =>
    obtain rfl := Option.some.inj hj
    exact ⟨B, d, by rw [World.cell?_alloc_new]; rfl, hd, Kd.C_below hs ((Below.refl _ _).alloc (Nat.le_refl _) _)⟩
  | j + 2 => simp at hj
theorem Of_one (xs : List Int) : crc_Of.f [xs] = crc_Sum.f xs := by
  unfold crc_Sum.f crc_Of.f
  simp
set_option maxHeartbeats 1000000 in
theorem crc_Sum.calls (A0 : Option Addr) (c0 : Nat) (l0 : List Int) (r : Int) (w : World) (hr0 : Kd.C (Kd.int .u8) w A0 l0.length l0) (hc0 : l0.length ≤ c0) (h : crc_Sum.f l0 = some r) :
    Calls Try.prog 28 #[.slice A0 l0.length c0] w fun e w' => e = .returned (.int .u32 r) ∧ Below w.heap.size w w' := by
  have HR := Lib.hid hr0
  have HC := Lib.hid hc0
  have HF : Hid (crc_Of.f [l0] = some r) := (Of_one l0).trans h
  have HB := Lib.hid ((Below.refl w.heap.size w).alloc (Nat.le_refl _) (.cells #[.slice A0 l0.length c0] 22))
  clear hr0 hc0 h
  go_enter Try.func28, Try.ntmps28
  go_wp2_with fail
  refine (crc_Of.calls _ _ [l0] r _ (C_one w A0 c0 l0 HC HR) (Nat.le_refl _) HF).mono ?_
  rintro e w' ⟨rfl, hb⟩
  have Hb := Lib.hid hb
  clear hb
  go_wp2_with fail
  go_ret
  exact ⟨rfl, Below.trans HB (Hb.mono (by simp))⟩
end Go.Proofs.Ytcobdpkpefgdlaa.Given
