/- What CrcTurned does: the walk. -/
import Derived.Test.YtfejhegogajnhaaAwakeW
import Derived.Deep.RegionWith
namespace Go.Proofs.Ytfejhegogajnhaa.Given
open Go.RowKit Go.Proofs.Crc Go.Proofs.YtfejhegogajnhaaW.PrintWords Go.Proofs.YtfejhegogajnhaaW.PrintLast
/-- Sum, told of a row of an elder world. -/
theorem sumR {w W : World} (hB : Below w.heap.size w W) {A : Option Addr} {n : Nat} (c : Nat) {xs : List Int} (hn : xs.length = n) (hr : Kd.C (Kd.int .u8) w A n xs) (hc : n ≤ c) (hx : isB xs) (hl : n ≤ 140737488355328) :
    Calls Try.prog 14 #[.slice A n c] W fun e w' => e = .returned (.int .u32 ((sum (toB xs)).toNat : Int)) ∧ Below w.heap.size w w' := by
  subst hn
  exact (crc_Sum.calls A c xs _ W (Kd.C_below hr hB) hc (by unfold crc_Sum.f; rw [if_pos (okB_of hx hl)])).mono fun e w' h => ⟨h.1, bel0 hB h.2⟩
/-- Of, over two rows of an elder world that stand in a row of rows. -/
theorem ofR2 {w W : World} (hB : Below w.heap.size w W) (b : Nat) {A1 A2 : Option Addr} {n1 n2 : Nat} (c1 c2 : Nat) {xs ys : List Int} (h0 : W.cell? ⟨b, 0, none⟩ = some (.slice A1 n1 c1)) (h1 : W.cell? ⟨b, 1, none⟩ = some (.slice A2 n2 c2))
    (hn1 : xs.length = n1) (hn2 : ys.length = n2) (hr1 : Kd.C (Kd.int .u8) w A1 n1 xs) (hr2 : Kd.C (Kd.int .u8) w A2 n2 ys)
    (hc1 : n1 ≤ c1) (hc2 : n2 ≤ c2) (hx : isB xs) (hy : isB ys) (hl1 : n1 ≤ 140737488355328) (hl2 : n2 ≤ 140737488355328) :
    Calls Try.prog 13 #[.slice (some ⟨b, 0, none⟩) 2 2] W fun e w' => e = .returned (.int .u32 ((sum (toB xs ++ toB ys)).toNat : Int)) ∧ Below w.heap.size w w' ∧ Below W.heap.size W w' := by
  subst hn1 hn2
  have hC : Kd.C (Kd.slice 5 (Kd.int .u8)) W (some ⟨b, 0, none⟩) 2 [xs, ys] := C_of_cells W b [xs, ys] (by simp) fun j zs hj => by
    match j with
    | 0 =>
      obtain rfl := Option.some.inj hj
      exact ⟨A1, c1, h0, hc1, Kd.C_below hr1 hB⟩
    | 1 =>
      obtain rfl := Option.some.inj hj
      exact ⟨A2, c2, h1, hc2, Kd.C_below hr2 hB⟩
    | j + 2 => simp at hj
  refine (crc_Of.calls _ 2 [xs, ys] ((sum (toB xs ++ toB ys)).toNat : Int) W hC (Nat.le_refl _) ?_).mono fun e w' h => ⟨h.1, bel0 hB h.2, h.2⟩
  unfold crc_Of.f
  rw [if_pos (by simp [okB_of hx hl1, okB_of hy hl2])]
  simp [toB_append]
theorem joinR (a b : W) (n : Nat) (hn : n < 9223372036854775808) {w W : World} (hB : Below w.heap.size w W) : Calls Try.prog 15 #[.int .u32 (a.toNat : Int), .int .u32 (b.toNat : Int), .int .i64 (n : Int)] W fun e w' => e = .returned (.int .u32 ((join a b n).toNat : Int)) ∧ Below w.heap.size w w' :=
  (PBase.crc_Join.calls 100 _ _ _ _ W (Join_some a b n 100 hn (Nat.le_refl _))).mono fun _ _ h => ⟨h.1, pw_below_drawn hB h.2⟩
theorem takeR {w : World} {A : Option Addr} {xs : List Int} {n : Nat} (h : Kd.C (Kd.int .u8) w A xs.length xs) (hb : isB xs) (hn : n ≤ xs.length) : (xs.take n).length = n ∧ Kd.C (Kd.int .u8) w A n (xs.take n) ∧ isB (xs.take n) := by
  have h1 : (xs.take n).length = n := by rw [List.length_take]; omega
  have h2 := Kd.C_take (m := n) h hn
  rw [h1] at h2
  exact ⟨h1, h2, fun x hx => hb x (List.mem_of_mem_take hx)⟩
theorem turned_law (a b : List UInt8) (n : Nat) (ha : a.length = n) (hb : b.length = n) : sum (a ++ b) ^^^ sum (b ++ a) = join (sum a ^^^ sum b) (sum a ^^^ sum b) n := by
  rw [sum_append, sum_append, ha, hb]; unfold join; rw [pow_xor, xor_swap, BitVec.xor_comm (sum b) (sum a)]
theorem toB_length (xs : List Int) : (toB xs).length = xs.length := List.length_map ..
end Go.Proofs.Ytfejhegogajnhaa.Given
