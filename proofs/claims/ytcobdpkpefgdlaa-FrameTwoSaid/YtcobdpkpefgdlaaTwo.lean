/- FrameTwo: frames of two rows of records, one behind the other, are told one row behind the other: the walk. -/
import Derived.Test.YtcobdpkpefgdlaaTornG
namespace Go.Proofs.Ytcobdpkpefgdlaa.Given
open Go.RowKit Go.Proofs.Crc Go.Proofs.Ytcobdpkpefgdlaa.Cod Go.Proofs.Ytcobdpkpefgdlaa.Pure Go.Proofs.Ytcobdpkpefgdlaa.PBase Go.Proofs.Ytcobdpkpefgdlaa.Tf Go.Proofs.Ytcobdpkpefgdlaa.OpenS Go.Proofs.YtcobdpkpefgdlaaW.PrintWords Go.Proofs.YtcobdpkpefgdlaaW.PrintLast Go.Proofs.YtcobdpkpefgdlaaW.PrintMore
/-- Slices that are read in an elder world. -/
def held (W0 : World) : Kd (List Int) where
  sz := 1
  E := []
  K := fun _ x cs => (Kd.slice 5 (Kd.int .u8)).K W0 x cs
  M := fun _ _ _ x cs => (Kd.slice 5 (Kd.int .u8)).K W0 x cs
  K_len := fun h => (Kd.slice 5 (Kd.int .u8)).K_len h
  K_one := fun h => (Kd.slice 5 (Kd.int .u8)).K_one h
  K_below := fun _ h => h
  K_of_M := fun h => h
  M_mono := fun _ h => h
  M_bound := fun h => h
  M_move := fun _ h => h
  M_lower := fun _ h => h
theorem held_of {W0 W : World} {A : Option Addr} {n : Nat} {xs : List (List Int)} (h : Kd.C (Kd.slice 5 (Kd.int .u8)) W0 A n xs) (hb : Below W0.heap.size W0 W) : ReadsRow ((held W0).K W) 1 W A n xs :=
  ReadsRow.imp_ h hb (fun _ _ hp => hp)
theorem held_to {W0 W : World} {A : Option Addr} {n : Nat} {xs : List (List Int)} (h : Kd.C (held W0) W A n xs) (hb : Below W0.heap.size W0 W) : Kd.C (Kd.slice 5 (Kd.int .u8)) W A n xs :=
  ReadsRow.imp_ h (Below.refl _ _) (fun _ _ hp => (Kd.slice 5 (Kd.int .u8)).K_below hb hp)
theorem info22' : (Try.prog.info? 22).map (fun i => (i.zero, i.size, i.bytes)) = some (some (.slice none 0 0), 1, 24) := by kernel_rfl
set_option maxHeartbeats 4000000 in
set_option maxRecDepth 100000 in
theorem two_few (A0 : Option Addr) (c0 : Nat) (l0 : List (List Int)) (A1 : Option Addr) (c1 : Nat) (l1 : List (List Int)) (w : World) (hr0 : Kd.C (Kd.slice 5 (Kd.int .u8)) w A0 l0.length l0) (hc0 : l0.length ≤ c0) (hr1 : Kd.C (Kd.slice 5 (Kd.int .u8)) w A1 l1.length l1) (hc1 : l1.length ≤ c1)
    (g0 : tocsinlaw04_great.f 10000 l0 = some false) (g1 : tocsinlaw04_great.f 10000 l1 = some false) (f0 : PAll.tocsinlaw04_framed.f 10000 l0 = some (rowL l0, endsF 0 l0, true)) (f1 : PAll.tocsinlaw04_framed.f 10000 l1 = some (rowL l1, endsF 0 l1, true))
    (b0 : (rowL l0).length ≤ 300000) (b1 : (rowL l1).length ≤ 300000) (h0 : l0.length ≤ 100) (h1 : l1.length ≤ 100) (ht : tocsinlaw04_tells.f (rowL l0 ++ rowL l1) (l0 ++ l1) (((rowL l0).length + (rowL l1).length : Nat) : Int) = some true) :
    Calls Try.prog 10 #[.slice A0 l0.length c0, .slice A1 l1.length c1] w fun e w' => e = .returned (.bool true) ∧ Below w.heap.size w w' := by
  have HR0 := Aside0.mk hr0
  have HR1 := Aside0.mk hr1
  have HG := Aside0.mk (And.intro g0 (And.intro g1 (And.intro f0 (And.intro f1 ht))))
  clear hr0 hr1 g0 g1 f0 f1 ht
  go_enter Try.func10, Try.ntmps10
  go_wp2_with fail
  refine (tocsinlaw04_awake.calls true w rfl).mono ?_
  rintro e w1 ⟨rfl, hb⟩
  have B1 := Aside0.mk hb
  clear hb
  go_wp2_with fail
  refine (tocsinlaw04_great.calls 10000 A0 c0 l0 false w1 (Kd.C_below HR0.out B1.out) hc0 HG.out.1).mono ?_
  rintro e w2 ⟨rfl, hd⟩
  have B2 := Aside0.mk (B1.out.trans (hd.below.mono B1.out.size))
  clear hd B1
  go_wp2_with fail
  refine (tocsinlaw04_great.calls 10000 A1 c1 l1 false w2 (Kd.C_below HR1.out B2.out) hc1 HG.out.2.1).mono ?_
  rintro e w3 ⟨rfl, hd⟩
  have B3 := Aside0.mk (B2.out.trans (hd.below.mono B2.out.size))
  clear hd B2
  go_wp2_with fail
  refine (PAll.tocsinlaw04_framed.calls 10000 A0 c0 l0 _ _ _ w3 (Kd.C_below HR0.out B3.out) hc0 HG.out.2.2.1).mono ?_
  rintro e w4 ⟨va, vb, rfl, hoa, -, hb⟩
  have B4 := Aside0.mk (B3.out.trans (hb.mono B3.out.size))
  have OA := Aside0.mk (Kd.R_lower hoa B3.out.size)
  clear hb hoa B3
  go_wp2_with fail
  refine (PAll.tocsinlaw04_framed.calls 10000 A1 c1 l1 _ _ _ w4 (Kd.C_below HR1.out B4.out) hc1 HG.out.2.2.2.1).mono ?_
  rintro e w5 ⟨vc, vd, rfl, hoc, -, hb⟩
  have B5 := Aside0.mk (B4.out.trans (hb.mono B4.out.size))
  have OA5 := Aside0.mk (Kd.R_below OA.out hb)
  obtain ⟨Ac, cc, rfl⟩ := Kd.R_slice hoc
  have OC := Aside0.mk (Kd.R_reads' hoc)
  clear hb hoc B4 OA
  go_upto_region 9 with (first | ((with_reducible refine gate_builtin (b := .append) (xs := #[.tmp 32, .tmp 33]) rfl ?_); at_builtin; refine Kd.R_append_rows (Kd.int .u8) (w0 := w) w.heap.size rfl (.tmp 32) (.tmp 33) 22 5 (.int .u8 0) 1 rfl Try.underlying22 info5 rfl (by decide) (by omega) va (rowL l0) (rowL l1) Ac (rowL l1).length cc (fun _ => True) (fun _ => False) rfl rfl OA5.out OC.out.2.2 (fun _ _ h => h) (fun _ h => h.elim) (fun _ _ => trivial) B5.out B5.out.size (by omega) ?_; intro v6 w6 ho6 hb6 hg6 hat6; have O6 := Aside0.mk ho6; have B6 := Aside0.mk hb6; clear ho6 hb6 hg6 hat6))
  obtain ⟨v11, hv11⟩ : ∃ v, v = Value.slice none 0 0 := ⟨_, rfl⟩
  rw [← hv11]
  have N11 := Aside0.mk (show Kd.R (held w) 22 w6 w.heap.size (fun _ => True) v11 ([] : List (List Int)) by rw [hv11]; exact Kd.R_nil _ _ _ _ _)
  have E11 := Aside0.mk hv11
  clear hv11
  go_wp2_with (first | ((with_reducible refine gate_builtin (b := .append) (xs := #[.tmp 35, .tmp 36]) rfl ?_); at_builtin; refine Kd.R_append_rows (held w) (w0 := w) w.heap.size rfl (.tmp 35) (.tmp 36) 35 22 (.slice none 0 0) 24 rfl Try.underlying35 info22' rfl Nat.zero_lt_one (by omega) v11 ([] : List (List Int)) l0 A0 l0.length c0 (fun _ => True) (fun _ => False) rfl rfl N11.out (held_of HR0.out B6.out) (fun _ _ h => h) (fun _ h => h.elim) (fun _ _ => trivial) B6.out B6.out.size (by simp; omega) ?_; intro v7 w7 ho7 hb7 hg7 hat7; have O7 := Aside0.mk ho7; have B7 := Aside0.mk hb7; have O67 := Aside0.mk (Kd.R_grown O6.out hg7 (fun k _ => by rw [E11.out]; simp [Value.ownBlock])); clear ho7 hb7 hg7 hat7) | ((with_reducible refine gate_builtin (b := .append) (xs := #[.tmp 38, .tmp 39]) rfl ?_); at_builtin; refine Kd.R_append_rows (held w) (w0 := w) w.heap.size rfl (.tmp 38) (.tmp 39) 35 22 (.slice none 0 0) 24 rfl Try.underlying35 info22' rfl Nat.zero_lt_one (by omega) v7 ([] ++ l0) l1 A1 l1.length c1 (fun _ => True) (fun _ => False) rfl rfl O7.out (held_of HR1.out B7.out) (fun _ _ h => h) (fun _ h => h.elim) (fun _ _ => trivial) B7.out B7.out.size (by simp; omega) ?_; intro v8 w8 ho8 hb8 hg8 hat8; have O8 := Aside0.mk ho8; have B8 := Aside0.mk hb8; have G8 := Aside0.mk hg8; clear ho8 hb8 hg8 hat8))
  have O68 := Kd.R_grown (Kd.R_bound O67.out) G8.out (fun k hk e => by
    obtain ⟨_, _, _, q, hq, cells, hc⟩ := hk
    obtain ⟨inner, ho⟩ := Kd.R_own O7.out
    obtain ⟨cells', hc'⟩ := own_typed ho k e.symm
    rw [hc] at hc'
    cases hc'
    simp [Kd.int, Kd.scalar] at hq)
  have O8' := O8.out
  have ht := HG.out.2.2.2.2
  rw [← List.length_append] at ht
  rw [show ([] : List (List Int)) ++ l0 ++ l1 = l0 ++ l1 from rfl] at O8'
  generalize rowL l0 ++ rowL l1 = z at *
  generalize l0 ++ l1 = y at *
  obtain ⟨A6, c6, rfl⟩ := Kd.R_slice O68
  obtain ⟨A8, c8, rfl⟩ := Kd.R_slice O8'
  have P6 := Aside0.mk (Kd.R_reads' O68)
  have P8 := Aside0.mk (And.intro (Kd.R_reads' O8').2.1 (held_to (Kd.R_reads' O8').2.2 B8.out))
  have HT := Aside0.mk ht
  clear O68 O8' ht O8 O67 O6 O7 HG
  go_wp2_with (go_at_call 23; (with_reducible refine (tocsinlaw04_tells.calls A6 c6 z A8 c8 y _ true _ P6.out.2.2 P6.out.2.1 P8.out.2 P8.out.1 HT.out).mono ?_); rintro e w9 ⟨rfl, hb9⟩; have B9 := Aside0.mk hb9; clear hb9)
  go_ret
  exact ⟨rfl, B8.out.trans (B9.out.mono B8.out.size)⟩
theorem two_true (A0 : Option Addr) (c0 : Nat) (l0 : List (List Int)) (w : World) (k : Nat) (b : Bool) (hr0 : Kd.C (Kd.slice 5 (Kd.int .u8)) w A0 l0.length l0) (hc0 : l0.length ≤ c0) (g0 : tocsinlaw04_great.f k l0 = some true) (A1 : Option Addr) (c1 : Nat) (l1 : List (List Int)) (hb : b = true) :
    Calls Try.prog 10 #[.slice A0 l0.length c0, .slice A1 l1.length c1] w fun e w' => e = .returned (.bool b) ∧ Below w.heap.size w w' := by
  subst hb
  have HR0 := Aside0.mk hr0
  have HG := Aside0.mk g0
  clear hr0 g0
  go_enter Try.func10, Try.ntmps10
  go_wp2_with fail
  refine (tocsinlaw04_awake.calls true w rfl).mono ?_
  rintro e w1 ⟨rfl, hb⟩
  have B1 := Aside0.mk hb
  clear hb
  go_wp2_with fail
  refine (tocsinlaw04_great.calls k A0 c0 l0 true w1 (Kd.C_below HR0.out B1.out) hc0 HG.out).mono ?_
  rintro e w2 ⟨rfl, hd⟩
  have B2 := Aside0.mk (B1.out.trans (hd.below.mono B1.out.size))
  clear hd B1
  go_wp2
  go_ret
  exact ⟨rfl, B2.out⟩
theorem two_late (A0 : Option Addr) (c0 : Nat) (l0 : List (List Int)) (w : World) (k : Nat) (hr0 : Kd.C (Kd.slice 5 (Kd.int .u8)) w A0 l0.length l0) (hc0 : l0.length ≤ c0) (g0 : tocsinlaw04_great.f k l0 = some false) (A1 : Option Addr) (c1 : Nat) (l1 : List (List Int)) (hr1 : Kd.C (Kd.slice 5 (Kd.int .u8)) w A1 l1.length l1) (hc1 : l1.length ≤ c1) (g1 : tocsinlaw04_great.f k l1 = some true) :
    Calls Try.prog 10 #[.slice A0 l0.length c0, .slice A1 l1.length c1] w fun e w' => e = .returned (.bool true) ∧ Below w.heap.size w w' := by
  have HR0 := Aside0.mk hr0
  have HR1 := Aside0.mk hr1
  have HG := Aside0.mk g0
  have HG1 := Aside0.mk g1
  clear hr0 g0 hr1 g1
  go_enter Try.func10, Try.ntmps10
  go_wp2_with fail
  refine (tocsinlaw04_awake.calls true w rfl).mono ?_
  rintro e w1 ⟨rfl, hb⟩
  have B1 := Aside0.mk hb
  clear hb
  go_wp2_with fail
  refine (tocsinlaw04_great.calls k A0 c0 l0 false w1 (Kd.C_below HR0.out B1.out) hc0 HG.out).mono ?_
  rintro e w2 ⟨rfl, hd⟩
  have B2 := Aside0.mk (B1.out.trans (hd.below.mono B1.out.size))
  clear hd B1
  go_wp2_with fail
  refine (tocsinlaw04_great.calls k A1 c1 l1 true w2 (Kd.C_below HR1.out B2.out) hc1 HG1.out).mono ?_
  rintro e w3 ⟨rfl, hd⟩
  have B3 := Aside0.mk (B2.out.trans (hd.below.mono B2.out.size))
  clear hd B2
  go_wp2
  go_ret
  exact ⟨rfl, B3.out⟩
theorem FrameTwo_walk (A0 : Option Addr) (c0 : Nat) (l0 : List (List Int)) (A1 : Option Addr) (c1 : Nat) (l1 : List (List Int)) (w : World) (hr0 : Kd.C (Kd.slice 5 (Kd.int .u8)) w A0 l0.length l0) (hc0 : l0.length ≤ c0) (hw : wfAll (Try.prog.bytesOf 22) (wfAll (Try.prog.bytesOf 5) (wfInt .u8)) l0) (hr1 : Kd.C (Kd.slice 5 (Kd.int .u8)) w A1 l1.length l1) (hc1 : l1.length ≤ c1) (hw1 : wfAll (Try.prog.bytesOf 22) (wfAll (Try.prog.bytesOf 5) (wfInt .u8)) l1) :
    Calls Try.prog 10 #[.slice A0 l0.length c0, .slice A1 l1.length c1] w fun e w' => e = .returned (.bool true) ∧ Below w.heap.size w w' := by
  obtain ⟨g, hg, hgf⟩ := great_some l0 (k := 10000) (by omega)
  obtain ⟨g', hg', hgf'⟩ := great_some l1 (k := 10000) (by omega)
  cases g with
  | true => exact two_true A0 c0 l0 w 10000 true hr0 hc0 hg A1 c1 l1 rfl
  | false =>
    cases g' with
    | true => exact two_late A0 c0 l0 w 10000 hr0 hc0 hg A1 c1 l1 hr1 hc1 hg'
    | false =>
      obtain ⟨h0, t0⟩ := hgf rfl
      obtain ⟨h1, t1⟩ := hgf' rfl
      have ok0 : Okr l0 := fun p hp => ⟨isB_ofS (hw.2 p hp), by have := tot_mem hp; omega⟩
      have ok1 : Okr l1 := fun p hp => ⟨isB_ofS (hw1.2 p hp), by have := tot_mem hp; omega⟩
      have r0 := rowL_len ok0
      have r1 := rowL_len ok1
      have ok : Okr (l0 ++ l1) := fun p hp => (List.mem_append.mp hp).elim (ok0 p) (ok1 p)
      have hall := row_all ok
      rw [rowL_append] at hall
      refine two_few A0 c0 l0 A1 c1 l1 w hr0 hc0 hr1 hc1 hg hg' (framed_some ok0 h0 t0 (by omega)) (framed_some ok1 h1 t1 (by omega)) (by omega) (by omega) h0 h1 ?_
      exact tells_some ⟨okB_of (isB_append (rowL_isB ok0) (rowL_isB ok1)) (by rw [List.length_append]; omega), by rw [List.length_append]; omega, hall.2, by rw [hall.1, List.length_append], by rw [List.length_append]; omega, fun x hx => by have := (ok x hx).2; omega⟩
end Go.Proofs.Ytcobdpkpefgdlaa.Given
