/- What the laws' awake does: the walk. -/
import Derived.Test.YtfejhegogajnhaaRefSum
import Derived.Lib.SlBytesConst
namespace Go.Proofs.Ytfejhegogajnhaa.Given
open Go.RowKit Go.Instr Go.Proofs.Crc Go.Proofs.YtfejhegogajnhaaW.PrintWords Go.Proofs.YtfejhegogajnhaaW.PrintLast
theorem cell_alloc_m (w : World) (C : Array Value) (t : Nat) (m : Nat × Nat) (j : Nat) : (w.alloc (.cells C t m)).cell? ⟨w.heap.size, j, none⟩ = C[j]? := World.cell?_alloc_mark w C t m j
theorem Ci_of_cells (w : World) (b : Nat) (xs : List Int) (hn : xs.length ≤ 9223372036854775807) (h : ∀ j x, xs[j]? = some x → w.cell? ⟨b, j, none⟩ = some (.int .u8 x)) :
    Kd.C (Kd.int .u8) w (some ⟨b, 0, none⟩) xs.length xs := by
  refine ⟨rfl, hn, fun _ => ⟨_, rfl, fun j x hj => ?_⟩⟩
  refine ⟨[.int .u8 x], rfl, rfl, fun i u hu => ?_⟩
  match i with
  | 0 =>
    obtain rfl := Option.some.inj hu
    have e : (⟨b, 0, none⟩ : Addr).add (j * (Kd.int .u8).sz + 0) = ⟨b, j, none⟩ := by
      rw [show (Kd.int .u8).sz = 1 from rfl]; simp [Addr.add]; omega
    rw [e]; exact h j x hj
  | i + 1 => simp at hu
theorem C_lit (w : World) (xs : List Int) (m : Nat × Nat) (hn : xs.length ≤ 9223372036854775807) :
    Kd.C (Kd.int .u8) (w.alloc (.cells (xs.map (Value.int .u8)).toArray 5 m)) (some ⟨w.heap.size, 0, none⟩) xs.length xs :=
  Ci_of_cells _ _ xs hn fun j x hj => by rw [cell_alloc_m]; simp [hj]
theorem C_nil (w : World) : Kd.C (Kd.int .u8) w none 0 [] := ⟨rfl, by decide, fun h => absurd h (by decide)⟩
theorem CL_nil (w : World) : Kd.C (Kd.slice 5 (Kd.int .u8)) w none 0 [] := ⟨rfl, by decide, fun h => absurd h (by decide)⟩
theorem C_three (w : World) (A B : Option Addr) (c d : Nat) (xs ys : List Int) (hc : xs.length ≤ c) (hd : ys.length ≤ d) (hr : (Kd.int .u8).C w A xs.length xs) (hs : (Kd.int .u8).C w B ys.length ys) :
    Kd.C (Kd.slice 5 (Kd.int .u8)) (w.alloc (.cells #[.slice A xs.length c, .slice none 0 0, .slice B ys.length d] 24)) (some ⟨w.heap.size, 0, none⟩) 3 [xs, [], ys] := by
  refine C_of_cells _ _ [xs, [], ys] (by simp) fun j zs hj => ?_
  match j with
  | 0 =>
    obtain rfl := Option.some.inj hj
    exact ⟨A, c, by rw [World.cell?_alloc_new]; rfl, hc, Kd.C_below hr ((Below.refl _ _).alloc (Nat.le_refl _) _)⟩
  | 1 =>
    obtain rfl := Option.some.inj hj
    exact ⟨none, 0, by rw [World.cell?_alloc_new]; rfl, Nat.le_refl _, C_nil _⟩
  | 2 =>
    obtain rfl := Option.some.inj hj
    exact ⟨B, d, by rw [World.cell?_alloc_new]; rfl, hd, Kd.C_below hs ((Below.refl _ _).alloc (Nat.le_refl _) _)⟩
  | j + 3 => simp at hj
theorem bel1 {w w1 w2 : World} {o : Obj} (h : Below w.heap.size w w1) (k : Below (w1.alloc o).heap.size (w1.alloc o) w2) : Below w.heap.size w w2 :=
  (h.alloc h.size o).trans (k.mono (by have := h.size; simp; omega))
theorem bel0 {w w1 w2 : World} (h : Below w.heap.size w w1) (k : Below w1.heap.size w1 w2) : Below w.heap.size w w2 := h.trans (k.mono h.size)
theorem bel3 {w w1 w2 : World} {o p q : Obj} (h : Below w.heap.size w w1) (k : Below (((w1.alloc o).alloc p).alloc q).heap.size (((w1.alloc o).alloc p).alloc q) w2) : Below w.heap.size w w2 :=
  bel1 ((h.alloc h.size o).alloc (by have := h.size; simp; omega) p) k
theorem e2 : crc_Sum.f ([97] : List Int) = some 3251651376 := by decide +kernel
theorem e3 : crc_Sum.f ([49, 50, 51, 52, 53, 54, 55, 56, 57] : List Int) = some 3808858755 := by decide +kernel
theorem e4 : crc_Of.f ([[49, 50], [], [51, 52, 53, 54, 55, 56, 57]] : List (List Int)) = some 3808858755 := by decide +kernel
theorem e5 : crc_Of.f ([] : List (List Int)) = some 0 := by decide +kernel
theorem e6 : crc_Sum.f ([49, 50, 51, 52] : List Int) = some 4131058926 := by decide +kernel
theorem e7 : crc_Sum.f ([53, 54, 55, 56, 57] : List Int) = some 2209703384 := by decide +kernel
theorem e8 : PBase.crc_Join.f 100 4131058926 2209703384 5 = some 3808858755 := by
  have h := Join_some 4131058926#32 2209703384#32 5 100 (by omega) (by omega)
  rw [show ((5 : Nat) : Int) = 5 from rfl, show I 4131058926#32 = 4131058926 from rfl, show I 2209703384#32 = 2209703384 from rfl] at h
  rw [h]; decide +kernel
theorem e9 : PBase.crc_Join.f 100 7 9 0 = some 14 := by
  have h := Join_some 7#32 9#32 0 100 (by omega) (by omega)
  rw [show ((0 : Nat) : Int) = 0 from rfl, show I 7#32 = 7 from rfl, show I 9#32 = 9 from rfl] at h
  rw [h]; decide +kernel
theorem e10 : PBase.crc_Join.f 100 7 9 (-1) = some 0 := Join_neg _ _ _ _ (by omega)
theorem L3 (w : World) (m n : Nat × Nat) (xs ys : List Int) (hx : xs.length ≤ 9223372036854775807) (hy : ys.length ≤ 9223372036854775807) :
    Kd.C (Kd.slice 5 (Kd.int .u8)) (((w.alloc (.cells (xs.map (Value.int .u8)).toArray 5 m)).alloc (.cells (ys.map (Value.int .u8)).toArray 5 n)).alloc (.cells #[.slice (some ⟨w.heap.size, 0, none⟩) xs.length xs.length, .slice none 0 0, .slice (some ⟨w.heap.size + 1, 0, none⟩) ys.length ys.length] 24)) (some ⟨w.heap.size + 2, 0, none⟩) 3 [xs, [], ys] := by
  have h := C_three ((w.alloc (.cells (xs.map (Value.int .u8)).toArray 5 m)).alloc (.cells (ys.map (Value.int .u8)).toArray 5 n)) _ (some ⟨w.heap.size + 1, 0, none⟩) xs.length ys.length xs ys (Nat.le_refl _) (Nat.le_refl _)
    (Kd.C_below (C_lit w xs m hx) ((Below.refl _ _).alloc (Nat.le_refl _) _))
    (by have h := C_lit (w.alloc (.cells (xs.map (Value.int .u8)).toArray 5 m)) ys n hy; rwa [World.size_alloc] at h)
  rwa [World.size_alloc, World.size_alloc] at h
def tocsinlaw02_awake.f : Option Bool := some true
set_option maxHeartbeats 4000000 in
set_option maxRecDepth 100000 in
theorem tocsinlaw02_awake.calls (r : Bool) (w : World) (h : tocsinlaw02_awake.f = some r) :
    Calls Try.prog 17 #[] w fun e w' => e = .returned (.bool r) ∧ Below w.heap.size w w' := by
  obtain rfl := Option.some.inj h
  clear h
  have e1 := Lib.hid (show crc_Sum.f ([] : List Int) = some 0 by decide +kernel)
  have kc := fun (w : World) (C : Array Value) (n c : Nat) => Lib.run_convert_bytes_const (P := Try.prog) w 24 5 C n c Try.underlying24 Try.underlying5
  have kc2 : ∀ (w : World) (o : Obj) (C : Array Value) (n c : Nat), (convert 24 24 (.slice (some ⟨w.heap.size + 1, 0, none⟩) n c)).run Try.prog ((w.alloc o).alloc (.cells C 5)) = .ok (.slice (some ⟨w.heap.size + 1, 0, none⟩) n c) ((w.alloc o).alloc (.cells C 5 (C.size, C.size + 1))) := fun w o C n c => by
    have h := kc (w.alloc o) C n c
    rwa [World.size_alloc] at h
  have B0 := Lib.hid (Below.refl w.heap.size w)
  go_enter Try.func17, Try.ntmps17
  go_wp2_with fail
  refine (crc_Sum.calls none 0 [] 0 _ (C_nil _) (Nat.le_refl _) e1).mono ?_
  rintro e w1 ⟨rfl, hb⟩
  have B1 := Lib.hid (bel0 B0 hb)
  clear hb B0
  go_wp2_with fail
  refine (crc_Sum.calls _ _ [97] 3251651376 _ (C_lit w1 [97] _ (by decide)) (Nat.le_refl _) e2).mono ?_
  rintro e w2 ⟨rfl, hb⟩
  have B2 := Lib.hid (bel1 B1 hb)
  clear hb B1
  go_wp2_with fail
  refine (crc_Sum.calls _ _ [49, 50, 51, 52, 53, 54, 55, 56, 57] 3808858755 _ (C_lit w2 _ _ (by decide)) (Nat.le_refl _) e3).mono ?_
  rintro e w3 ⟨rfl, hb⟩
  have B3 := Lib.hid (bel1 B2 hb)
  clear hb B2
  go_wp2_with fail
  refine (crc_Of.calls _ _ [[49, 50], [], [51, 52, 53, 54, 55, 56, 57]] 3808858755 _ (L3 w3 _ _ [49, 50] [51, 52, 53, 54, 55, 56, 57] (by decide) (by decide)) (Nat.le_refl _) e4).mono ?_
  rintro e w4 ⟨rfl, hb⟩
  have B4 := Lib.hid (bel3 B3 hb)
  clear hb B3
  go_wp2_with fail
  refine (crc_Of.calls none 0 [] 0 _ (CL_nil _) (Nat.le_refl _) e5).mono ?_
  rintro e w5 ⟨rfl, hb⟩
  have B5 := Lib.hid (bel0 B4 hb)
  clear hb B4
  go_wp2_with fail
  refine (crc_Sum.calls _ _ [49, 50, 51, 52] 4131058926 _ (C_lit w5 _ _ (by decide)) (Nat.le_refl _) e6).mono ?_
  rintro e w6 ⟨rfl, hb⟩
  have B6 := Lib.hid (bel1 B5 hb)
  clear hb B5
  go_wp2_with fail
  refine (crc_Sum.calls _ _ [53, 54, 55, 56, 57] 2209703384 _ (C_lit w6 _ _ (by decide)) (Nat.le_refl _) e7).mono ?_
  rintro e w7 ⟨rfl, hb⟩
  have B7 := Lib.hid (bel1 B6 hb)
  clear hb B6
  go_wp2_with fail
  refine (PBase.crc_Join.calls 100 4131058926 2209703384 5 3808858755 _ e8).mono ?_
  rintro e w8 ⟨rfl, hd⟩
  have B8 := Lib.hid (pw_below_drawn B7 hd)
  clear hd B7
  go_wp2_with fail
  refine (PBase.crc_Join.calls 100 7 9 0 14 _ e9).mono ?_
  rintro e w9 ⟨rfl, hd⟩
  have B9 := Lib.hid (pw_below_drawn B8 hd)
  clear hd B8
  go_wp2_with fail
  refine (PBase.crc_Join.calls 100 7 9 (-1) 0 _ e10).mono ?_
  rintro e w10 ⟨rfl, hd⟩
  have B10 := Lib.hid (pw_below_drawn B9 hd)
  clear hd B9
  go_wp2_with fail
  go_ret
  exact ⟨rfl, B10⟩
end Go.Proofs.Ytfejhegogajnhaa.Given
