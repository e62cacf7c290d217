/- What frame's laws' awake does: the walk. -/
import Derived.Test.YtcobdpkpefgdlaaPlain
import Derived.Test.YtcobdpkpefgdlaaPAllx2
import Derived.Outline
import Derived.Lib.SlBytesConst
namespace Go.Proofs.Ytcobdpkpefgdlaa.Given
open Go.RowKit Go.Instr Go.Proofs.Crc Go.Proofs.Ytcobdpkpefgdlaa.Cod Go.Proofs.Ytcobdpkpefgdlaa.PBase Go.Proofs.Ytcobdpkpefgdlaa.PMid Go.Proofs.Ytcobdpkpefgdlaa.PAll Go.Proofs.Ytcobdpkpefgdlaa.Pure Go.Proofs.YtcobdpkpefgdlaaW.PrintWords Go.Proofs.YtcobdpkpefgdlaaW.PrintLast Go.Proofs.YtcobdpkpefgdlaaW.PrintMore
theorem C_lit (w : World) (xs : List Int) (m : Nat × Nat) (hn : xs.length ≤ 9223372036854775807) :
    Kd.C (Kd.int .u8) (w.alloc (.cells (xs.map (Value.int .u8)).toArray 5 m)) (some ⟨w.heap.size, 0, none⟩) xs.length xs := by
  refine ⟨rfl, hn, fun _ => ⟨_, rfl, fun j x hj => ⟨[.int .u8 x], rfl, rfl, fun i u hu => ?_⟩⟩⟩
  match i with
  | 0 =>
    obtain rfl := Option.some.inj hu
    have e : (⟨w.heap.size, 0, none⟩ : Addr).add (j * (Kd.int .u8).sz + 0) = ⟨w.heap.size, j, none⟩ := by
      rw [show (Kd.int .u8).sz = 1 from rfl]; simp [Addr.add]; omega
    rw [e, World.cell?_alloc_mark]; simp [hj]
  | i + 1 => simp at hu
theorem C_nil (w : World) : Kd.C (Kd.int .u8) w none 0 [] := ⟨rfl, by decide, fun h => absurd h (by decide)⟩
theorem bel1 {w w1 w2 : World} {o : Obj} (h : Below w.heap.size w w1) (k : Below (w1.alloc o).heap.size (w1.alloc o) w2) : Below w.heap.size w w2 :=
  (h.alloc h.size o).trans (k.mono (by have := h.size; simp; omega))
theorem bel0 {w w1 w2 : World} (h : Below w.heap.size w w1) (k : Below w1.heap.size w1 w2) : Below w.heap.size w w2 := h.trans (k.mono h.size)
theorem n1 : frame_Encode.f [97] = some ([1, 97, 196, 255, 110, 113], 0) := by
  rw [encode_some _ (fun x hx => by simp at hx; omega), if_neg (by decide)]
  unfold frameL
  rw [show ([97] : List Int).length = 1 from rfl, enc_small (by decide)]
  decide +kernel
theorem n2 : frame_Encode.f [] = some ([0, 81, 83, 125, 82], 0) := by
  rw [encode_some _ (fun x hx => by simp at hx), if_neg (by decide)]
  unfold frameL
  rw [show ([] : List Int).length = 0 from rfl, enc_small (by decide)]
  decide +kernel
theorem n3 : crc_Sum.f [1, 97] = some 1903099844 := by decide +kernel
theorem n4 : frame_Next.f 20 [1, 97, 196, 255, 110, 113] = some ([97], 6, 0) := by decide +kernel
theorem n5 : frame_Next.f 20 [1, 97, 196, 255, 110] = some ([], 0, 40) := by decide +kernel
theorem n6 : frame_Next.f 20 [0, 0, 0, 0, 0] = some ([], 0, 40) := by decide +kernel
theorem add_zero' (ad : Addr) : ad.add 0 = ad := by
  unfold Addr.add
  split
  · cases ad; simp_all
  · cases ad; simp_all
theorem at6 {w : World} {ad : Addr} {a b c d e f : Int} (h : Kd.C (Kd.int .u8) w (some ad) 6 [a, b, c, d, e, f]) : w.cell? ad = some (.int .u8 a) ∧ w.cell? ⟨ad.block, ad.off + 1, none⟩ = some (.int .u8 b) ∧ w.cell? ⟨ad.block, ad.off + 2, none⟩ = some (.int .u8 c) ∧ w.cell? ⟨ad.block, ad.off + 5, none⟩ = some (.int .u8 f) := by
  refine ⟨?_, ?_, ?_, ?_⟩
  · obtain ⟨_, e, h0⟩ := Kd.at_int h 0 (by omega) (by omega); cases e; rw [← add_zero' ad]; exact h0
  · obtain ⟨_, e, h0⟩ := Kd.at_int h 1 (by omega) (by omega); cases e; exact h0
  · obtain ⟨_, e, h0⟩ := Kd.at_int h 2 (by omega) (by omega); cases e; exact h0
  · obtain ⟨_, e, h0⟩ := Kd.at_int h 5 (by omega) (by omega); cases e; exact h0
theorem at1 {w : World} {ad : Addr} {n : Nat} {a : Int} {l : List Int} (h : Kd.C (Kd.int .u8) w (some ad) n (a :: l)) : w.cell? ad = some (.int .u8 a) := by
  have hn : 0 < n := by rw [← h.1]; simp
  obtain ⟨_, e, h0⟩ := Kd.at_int h 0 (by omega) (by omega); cases e; rw [← add_zero' ad]; exact h0
theorem V_of_C {w : World} {A : Option Addr} {c base : Nat} {xs : List Int} (h : Kd.C (Kd.int .u8) w A xs.length xs) (hc : xs.length ≤ c) : Kd.V (Kd.int .u8) 5 w base (fun _ => True) (.slice A xs.length c) xs :=
  Kd.V_mk hc fun W' hW => by
    refine ⟨h.1, h.2.1, fun hn => ?_⟩
    obtain ⟨ad, e, hcell⟩ := h.2.2 hn
    refine ⟨ad, e, fun j p hj => ?_⟩
    obtain ⟨cs, hs, hr, hcc⟩ := hcell j p hj
    refine ⟨cs, hs, hr, fun i u hu => ?_⟩
    have h1 := hcc i u hu
    have hlt := World.block_lt_of_cell? w _ h1
    exact (World.cell?_of_block (hW _ trivial hlt)).trans h1
def tocsinlaw04_awake.f : Option Bool := some true
set_option maxHeartbeats 1000000 in
set_option maxRecDepth 100000 in
theorem tocsinlaw04_awake.calls (r : Bool) (w : World) (h : tocsinlaw04_awake.f = some r) :
    Calls Try.prog 15 #[] w fun e w' => e = .returned (.bool r) ∧ Below w.heap.size w w' := by
  obtain rfl := Option.some.inj h
  clear h
  have kc := fun (w : World) (C : Array Value) (n c : Nat) => Lib.run_convert_bytes_const (P := Try.prog) w 22 5 C n c Try.underlying22 Try.underlying5
  have B0 := Aside0.mk (Below.refl w.heap.size w)
  go_enter Try.func15, Try.ntmps15
  go_wp2_with fail
  refine (frame_Encode.calls _ _ [97] _ _ _ (C_lit w [97] _ (by decide)) (Nat.le_refl _) n1).mono ?_
  rintro e w1 ⟨v1, rfl, ho, hb⟩
  obtain ⟨ad1, c1, rfl⟩ := Kd.R_slice1 ho (by decide)
  obtain ⟨_, _, e1, hc1, hr1⟩ := Kd.R_reads ho
  cases e1
  have HR1 := Aside0.mk hr1
  have HC1 := Aside0.mk hc1
  have B1 := Aside0.mk (bel1 B0.out hb)
  clear hb B0 ho hr1 hc1
  go_wp2_with fail
  refine (frame_Encode.calls none 0 [] _ _ _ (C_nil _) (Nat.le_refl _) n2).mono ?_
  rintro e w2 ⟨v2, rfl, ho, hb⟩
  obtain ⟨ad2, c2, rfl⟩ := Kd.R_slice1 ho (by decide)
  obtain ⟨_, _, e1, hc2, hr2⟩ := Kd.R_reads ho
  cases e1
  have HR1' := Aside0.mk (Kd.C_below HR1.out hb)
  have B2 := Aside0.mk (bel0 B1.out hb)
  have t := at1 hr2
  obtain ⟨a0, a1, a2, a5⟩ := at6 HR1'.out
  clear hb B1 ho HR1 hc2 hr2
  go_wp2_with fail
  refine (crc_Sum.calls _ _ [1, 97] 1903099844 _ (C_lit w2 [1, 97] _ (by decide)) (Nat.le_refl _) n3).mono ?_
  rintro e w3 ⟨rfl, hb⟩
  have HR3 := Aside0.mk (Kd.C_below (Kd.C_below HR1'.out ((Below.refl _ _).alloc (Nat.le_refl _) _)) hb)
  have B3 := Aside0.mk (bel1 B2.out hb)
  clear hb B2 HR1' t a0 a1 a2 a5
  go_wp2_with fail
  refine (frame_Next.calls 20 (fun _ => True) (some ad1) c1 [1, 97, 196, 255, 110, 113] _ _ _ _ (V_of_C HR3.out HC1.out) n4).mono ?_
  rintro e w4 ⟨v4, rfl, ho, hb⟩
  obtain ⟨ad4, c4, rfl⟩ := Kd.R_slice1 ho (by decide)
  obtain ⟨_, _, e1, hc4, hr4⟩ := Kd.R_reads ho
  cases e1
  have HR4 := Aside0.mk (Kd.C_below HR3.out hb)
  have HN4 := Aside0.mk hr4
  have B4 := Aside0.mk (bel0 B3.out hb)
  clear hb B3 ho HR3 hr4 hc4
  have h5 := Aside0.mk (Kd.C_take HR4.out (show 5 ≤ 6 by decide))
  have hcc : 5 ≤ c1 := by have := HC1.out; simp at this; omega
  go_wp2_with fail
  refine (frame_Next.calls 20 (fun _ => True) (some ad1) c1 [1, 97, 196, 255, 110] _ _ _ _ (V_of_C h5.out hcc) n5).mono ?_
  rintro e w5 ⟨v5, rfl, ho, hb⟩
  obtain ⟨A5, c5, rfl⟩ := Kd.R_slice ho
  have HR5 := Aside0.mk (Kd.C_below HR4.out hb)
  have HN5 := Aside0.mk (Kd.C_below HN4.out hb)
  have B5 := Aside0.mk (bel0 B4.out hb)
  clear hb B4 ho HR4 HN4 h5 hcc
  go_wp2_with fail
  refine (frame_Next.calls 20 (fun _ => True) _ _ [0, 0, 0, 0, 0] _ _ _ _ (V_of_C (C_lit w5 [0, 0, 0, 0, 0] (0, 0) (by decide)) (Nat.le_refl _)) n6).mono ?_
  rintro e w6 ⟨v6, rfl, ho, hb⟩
  obtain ⟨A6, c6, rfl⟩ := Kd.R_slice ho
  have HR6 := Aside0.mk (Kd.C_below (Kd.C_below HR5.out ((Below.refl _ _).alloc (Nat.le_refl _) _)) hb)
  have HN6 := Aside0.mk (Kd.C_below (Kd.C_below HN5.out ((Below.refl _ _).alloc (Nat.le_refl _) _)) hb)
  have B6 := Aside0.mk (bel1 B5.out hb)
  have t := at1 HN6.out
  obtain ⟨a0, a1, a2, a5⟩ := at6 HR6.out
  clear hb B5 ho HR5 HN5
  go_wp2_with fail
  go_ret
  exact ⟨rfl, B6.out⟩
end Go.Proofs.Ytcobdpkpefgdlaa.Given
