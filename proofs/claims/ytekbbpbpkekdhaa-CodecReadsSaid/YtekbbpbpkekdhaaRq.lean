/- What the reference's Read does: the walk, by the value's kind. -/
import Derived.Test.YtekbbpbpkekdhaaRq0
namespace Go.Proofs.Ytekbbpbpkekdhaa.Cod
open Go.RowKit Go.Proofs.Ytekbbpbpkekdhaa.Ex Go.Proofs.Ytekbbpbpkekdhaa.PBase Go.Proofs.Ytekbbpbpkekdhaa.OpenS Go.Proofs.Ytekbbpbpkekdhaa.Given Go.Proofs.YtekbbpbpkekdhaaW.PrintWords Go.Proofs.YtekbbpbpkekdhaaW.PrintLast Go.Proofs.YtekbbpbpkekdhaaW.PrintMore
theorem own_stays {W : World} {base n c : Nat} {A : Option Addr} {xs : List Int} (h : Kd.R (Kd.int .u8) 5 W base (fun _ => True) (.slice A n c) xs) {T : Nat} (hT : T < base) :
    n ≤ c ∧ ∀ V, Ex (fun k => k ≤ T) W V → Kd.C (Kd.int .u8) V A n xs := by
  obtain ⟨e0, hc, hC⟩ := Kd.R_reads' h
  subst e0
  obtain ⟨_, inner, ho, _⟩ := h
  refine ⟨hc, fun V hx => C_ex hC hx (fun ad e _ => ?_)⟩
  have := own_base ho ad.block (by rw [e]; rfl)
  omega
set_option maxHeartbeats 1000000 in
set_option maxRecDepth 100000 in
theorem rread_f (g : Nat) (A : Option Addr) (c : Nat) (bs : List Int) (a : Nat) (k : Int) (m : Int) (w : World) (hq : QAt w g A c bs a true) :
    Calls Try.prog 23 #[.pointer (some ⟨g, 0, none⟩), .int .u8 k, .int .i64 m] w (RDPost g A c bs w k (dec k m (bs.drop a) true)) := by
  have HQ := Aside0.mk hq
  have hle := hq.le
  have hcap := hq.cap
  clear hq
  go_enter Try.func23, Try.ntmps23
  go_upto_region 2 with (fail)
  refine gen_wp (fun V => QW w g A c bs a true #[.int .u8 k, .int .u64 0, .int .i64 0, .bool false, .slice none 0 0, .string ⟨#[]⟩, .int .i64 0] V) (QW.new HQ.out _) ?_
  intro V hV
  have Q := Aside0.mk hV
  clear hV
  obtain ⟨⟨g0, g1, g2⟩, ⟨o0, o1, o2, o3, o4, o5, o6⟩, ⟨n0, n1, n2, n3, n4, n5, n6⟩, fg, fo, fz⟩ := Q.out.cells
  have fg1 := fg 1; have fg2 := fg 2
  have fo1 := fo 1; have fo2 := fo 2; have fo3 := fo 3; have fo4 := fo 4; have fo5 := fo 5; have fo6 := fo 6
  have fz0 := fz 0; have fz1 := fz 1; have fz2 := fz 2; have fz3 := fz 3; have fz4 := fz 4; have fz5 := fz 5; have fz6 := fz 6
  clear fg fo fz
  go_wp2_with fail
  refine bodyPost_ret (results_single rfl (.cell w.heap.size 29 _ (0, 0) _ rfl (Q.out.fin _ _ _ _ _ _ _).1 Try.underlying29 rfl size29 .nil)) rfl ?_
  exact ⟨(Q.out.fin _ _ _ _ _ _ _).2.2.2, rfl, _, (Q.out.fin _ _ _ _ _ _ _).2.2.1⟩
set_option maxHeartbeats 1000000 in
set_option maxRecDepth 100000 in
theorem rread_2 (g : Nat) (A : Option Addr) (c : Nat) (bs : List Int) (a : Nat) (m : Int) (w : World) (hq : QAt w g A c bs a false) (hb : isB bs) (hl : bs.length ≤ 100000) :
    Calls Try.prog 23 #[.pointer (some ⟨g, 0, none⟩), .int .u8 2, .int .i64 m] w (RDPost g A c bs w 2 (dec 2 m (bs.drop a) false)) := by
  have HQ := Aside0.mk hq
  have hle := hq.le
  have hcap := hq.cap
  clear hq
  go_enter Try.func23, Try.ntmps23
  go_upto_region 2 with (fail)
  refine gen_wp (fun V => QW w g A c bs a false #[.int .u8 2, .int .u64 0, .int .i64 0, .bool false, .slice none 0 0, .string ⟨#[]⟩, .int .i64 0] V) (QW.new HQ.out _) ?_
  intro V hV
  have Q := Aside0.mk hV
  clear hV
  have HB := Aside0.mk hb
  clear hb
  obtain ⟨⟨g0, g1, g2⟩, ⟨o0, o1, o2, o3, o4, o5, o6⟩, ⟨n0, n1, n2, n3, n4, n5, n6⟩, fg, fo, fz⟩ := Q.out.cells
  have fg1 := fg 1; have fg2 := fg 2
  have fo1 := fo 1; have fo2 := fo 2; have fo3 := fo 3; have fo4 := fo 4; have fo5 := fo 5; have fo6 := fo 6
  have fz0 := fz 0; have fz1 := fz 1; have fz2 := fz 2; have fz3 := fz 3; have fz4 := fz 4; have fz5 := fz 5; have fz6 := fz 6
  clear fg fo fz
  go_upto_region 5 with (fail)
  clear g0 g1 g2 o0 o1 o2 o3 o4 o5 o6 n0 n1 n2 n3 n4 n5 n6 fg1 fg2 fo1 fo2 fo3 fo4 fo5 fo6 fz0 fz1 fz2 fz3 fz4 fz5 fz6
  by_cases hal : a < bs.length
  · obtain ⟨x, hx⟩ : ∃ x, bs[a]? = some x := ⟨_, List.getElem?_eq_getElem hal⟩
    have hxb := HB.out x (List.mem_of_getElem? hx)
    have hdr : bs.drop a = x :: bs.drop (a + 1) := by rw [List.drop_eq_getElem_cons hal]; congr 1; exact (List.getElem?_eq_some_iff.1 hx).2
    obtain ⟨ad, rfl, hcell⟩ := Kd.at_int Q.out.q.row (a : Int) (by omega) (by omega)
    have HRD := Aside0.mk (show rd bs (a : Int) = x from by unfold rd; rw [Int.toNat_natCast, List.getD_eq_getElem?_getD, hx]; rfl)
    rw [HRD.out] at hcell
    have hix1 : (a : Int) < (bs.length : Int) := by omega
    have hd1 : decide ((bs.length : Int) ≤ (a : Int)) = false := decide_eq_false (by omega)
    have hd1n : decide (bs.length ≤ a) = false := decide_eq_false (by omega)
    have HDR := Aside0.mk hdr
    clear hdr hx
    rw [Int.toNat_natCast] at hcell
    have HCELL := Aside0.mk hcell
    clear hcell
    by_cases h1 : 1 < x
    · have hd2 : decide (1 < x) = true := decide_eq_true h1
      have hS0 : V.drew.cell? ⟨g, 0, none⟩ = some (.slice (some ad) bs.length c) ∧ V.drew.cell? ⟨g, 1, none⟩ = some (.int .i64 (a : Int)) ∧ V.drew.cell? (ad.add a) = some (.int .u8 x) := ⟨Q.out.cells.1.1, Q.out.cells.1.2.1, HCELL.out⟩
      go_region_held3 (fun W' : World => W'.cell? ⟨g, 0, none⟩ = some (.slice (some ad) bs.length c) ∧ W'.cell? ⟨g, 1, none⟩ = some (.int .i64 (a : Int)) ∧ W'.cell? (ad.add a) = some (.int .u8 x)) (first | assumption | go_keep) (fail)
      obtain ⟨⟨g0, g1, g2⟩, ⟨o0, o1, o2, o3, o4, o5, o6⟩, ⟨n0, n1, n2, n3, n4, n5, n6⟩, fg, fo, fz⟩ := Q.out.cells
      have fg1 := fg 1; have fg2 := fg 2
      have fo1 := fo 1; have fo2 := fo 2; have fo3 := fo 3; have fo4 := fo 4; have fo5 := fo 5; have fo6 := fo 6
      have fz0 := fz 0; have fz1 := fz 1; have fz2 := fz 2; have fz3 := fz 3; have fz4 := fz 4; have fz5 := fz 5; have fz6 := fz 6
      clear fg fo fz
      have hdec : dec 2 m (bs.drop a) false = none := by rw [HDR.out]; have h9 : rdB (x :: bs.drop (a + 1)) = none := if_pos h1; show (rdB (x :: bs.drop (a + 1))).map _ = none; rw [h9]; rfl
      have HDEC := Aside0.mk hdec
      clear hdec
      go_upto_region 7 with (fail)
      refine gen_wp (fun V => QW w g (some ad) c bs a true #[.int .u8 2, .int .u64 0, .int .i64 0, .bool false, .slice none 0 0, .string ⟨#[]⟩, .int .i64 0] V) (Q.out.drew.fail) ?_
      intro V hV
      have Q := Aside0.mk hV
      clear hV
      clear g0 g1 g2 o0 o1 o2 o3 o4 o5 o6 n0 n1 n2 n3 n4 n5 n6 fg1 fg2 fo1 fo2 fo3 fo4 fo5 fo6 fz0 fz1 fz2 fz3 fz4 fz5 fz6
      obtain ⟨⟨g0, g1, g2⟩, ⟨o0, o1, o2, o3, o4, o5, o6⟩, ⟨n0, n1, n2, n3, n4, n5, n6⟩, fg, fo, fz⟩ := Q.out.cells
      have fg1 := fg 1; have fg2 := fg 2
      have fo1 := fo 1; have fo2 := fo 2; have fo3 := fo 3; have fo4 := fo 4; have fo5 := fo 5; have fo6 := fo 6
      have fz0 := fz 0; have fz1 := fz 1; have fz2 := fz 2; have fz3 := fz 3; have fz4 := fz 4; have fz5 := fz 5; have fz6 := fz 6
      clear fg fo fz
      go_wp2_with fail
      refine bodyPost_ret (results_single rfl (.cell w.heap.size 29 _ (0, 0) _ rfl (Q.out.fin _ _ _ _ _ _ _).1 Try.underlying29 rfl size29 .nil)) rfl ?_
      exact ⟨(Q.out.fin _ _ _ _ _ _ _).2.2.2, by rw [HDEC.out]; exact ⟨rfl, _, (Q.out.fin _ _ _ _ _ _ _).2.2.1⟩⟩
    · have hd2 : decide (1 < x) = false := decide_eq_false h1
      have hS0 : V.drew.cell? ⟨g, 0, none⟩ = some (.slice (some ad) bs.length c) ∧ V.drew.cell? ⟨g, 1, none⟩ = some (.int .i64 (a : Int)) ∧ V.drew.cell? (ad.add a) = some (.int .u8 x) := ⟨Q.out.cells.1.1, Q.out.cells.1.2.1, HCELL.out⟩
      go_region_held3 (fun W' : World => W'.cell? ⟨g, 0, none⟩ = some (.slice (some ad) bs.length c) ∧ W'.cell? ⟨g, 1, none⟩ = some (.int .i64 (a : Int)) ∧ W'.cell? (ad.add a) = some (.int .u8 x)) (first | assumption | go_keep) (fail)
      go_upto_region 8 with (fail)
      have hS1 : V.drew.drew.cell? ⟨g, 0, none⟩ = some (.slice (some ad) bs.length c) ∧ V.drew.drew.cell? ⟨g, 1, none⟩ = some (.int .i64 (a : Int)) ∧ V.drew.drew.cell? (ad.add a) = some (.int .u8 x) := ⟨Q.out.cells.1.1, Q.out.cells.1.2.1, HCELL.out⟩
      clear hS0
      obtain ⟨⟨g0, g1, g2⟩, ⟨o0, o1, o2, o3, o4, o5, o6⟩, ⟨n0, n1, n2, n3, n4, n5, n6⟩, fg, fo, fz⟩ := Q.out.cells
      have fg1 := fg 1; have fg2 := fg 2
      have fo1 := fo 1; have fo2 := fo 2; have fo3 := fo 3; have fo4 := fo 4; have fo5 := fo 5; have fo6 := fo 6
      have fz0 := fz 0; have fz1 := fz 1; have fz2 := fz 2; have fz3 := fz 3; have fz4 := fz 4; have fz5 := fz 5; have fz6 := fz 6
      clear fg fo fz
      have hq1 := Q.out.set 3 (.bool (x == 1))
      obtain ⟨ad2, e2, hc2⟩ := Kd.at_int hq1.q.row (a : Int) (by omega) (by omega)
      injection e2 with e2
      subst e2
      rw [show rd bs (a : Int) = x from HRD.out, Int.toNat_natCast] at hc2
      have hS2 : (V.setCell ⟨w.heap.size + 1, 3, none⟩ (.bool (x == 1))).drew.drew.cell? ⟨g, 0, none⟩ = some (.slice (some ad) bs.length c) ∧ (V.setCell ⟨w.heap.size + 1, 3, none⟩ (.bool (x == 1))).drew.drew.cell? ⟨g, 1, none⟩ = some (.int .i64 (a : Int)) ∧ (V.setCell ⟨w.heap.size + 1, 3, none⟩ (.bool (x == 1))).drew.drew.cell? (ad.add a) = some (.int .u8 x) := ⟨hq1.cells.1.1, hq1.cells.1.2.1, hc2⟩
      clear hq1 hc2
      go_region_held3 (fun W' : World => W'.cell? ⟨g, 0, none⟩ = some (.slice (some ad) bs.length c) ∧ W'.cell? ⟨g, 1, none⟩ = some (.int .i64 (a : Int)) ∧ W'.cell? (ad.add a) = some (.int .u8 x)) (first | assumption | go_keep) (fail)
      go_upto_region 10 with (fail)
      have hq2 := (Q.out.set 3 (.bool (x == 1))).drew.drew.go (a + 1) (by omega)
      rw [show ((a + 1 : Nat) : Int) = (a : Int) + 1 by omega] at hq2
      have HQ2 := Aside0.mk hq2
      clear hq2 hS1
      have hdec : dec 2 m (bs.drop a) false = some (⟨2, 0, 0, x == 1, [], ⟨#[]⟩, 0⟩, bs.drop (a + 1)) := by rw [HDR.out]; have h9 : rdB (x :: bs.drop (a + 1)) = some (x == 1, bs.drop (a + 1)) := if_neg h1; show (rdB (x :: bs.drop (a + 1))).map _ = _; rw [h9]; rfl
      have HDEC := Aside0.mk hdec
      clear hdec
      refine gen_wp (fun V => QW w g (some ad) c bs (a + 1) false #[.int .u8 2, .int .u64 0, .int .i64 0, .bool (x == 1), .slice none 0 0, .string ⟨#[]⟩, .int .i64 0] V) (HQ2.out) ?_
      intro V hV
      have Q := Aside0.mk hV
      clear hV
      clear HQ2 g0 g1 g2 o0 o1 o2 o3 o4 o5 o6 n0 n1 n2 n3 n4 n5 n6 fg1 fg2 fo1 fo2 fo3 fo4 fo5 fo6 fz0 fz1 fz2 fz3 fz4 fz5 fz6
      obtain ⟨⟨g0, g1, g2⟩, ⟨o0, o1, o2, o3, o4, o5, o6⟩, ⟨n0, n1, n2, n3, n4, n5, n6⟩, fg, fo, fz⟩ := Q.out.cells
      have fg1 := fg 1; have fg2 := fg 2
      have fo1 := fo 1; have fo2 := fo 2; have fo3 := fo 3; have fo4 := fo 4; have fo5 := fo 5; have fo6 := fo 6
      have fz0 := fz 0; have fz1 := fz 1; have fz2 := fz 2; have fz3 := fz 3; have fz4 := fz 4; have fz5 := fz 5; have fz6 := fz 6
      clear fg fo fz
      go_wp2_with fail
      refine bodyPost_ret (results_single rfl (.cell w.heap.size 29 _ (0, 0) _ rfl (Q.out.fin _ _ _ _ _ _ _).1 Try.underlying29 rfl size29 .nil)) rfl ?_
      exact ⟨(Q.out.fin _ _ _ _ _ _ _).2.2.2, by rw [HDEC.out]; exact ⟨none, 0, a + 1, rfl, Nat.le_refl _, C_nil _, (Q.out.fin _ _ _ _ _ _ _).2.2.1, rfl⟩⟩
  · have hd1 : decide ((bs.length : Int) ≤ (a : Int)) = true := decide_eq_true (by omega)
    have hd1n : decide (bs.length ≤ a) = true := decide_eq_true (by omega)
    obtain ⟨⟨g0, g1, g2⟩, ⟨o0, o1, o2, o3, o4, o5, o6⟩, ⟨n0, n1, n2, n3, n4, n5, n6⟩, fg, fo, fz⟩ := Q.out.cells
    have fg1 := fg 1; have fg2 := fg 2
    have fo1 := fo 1; have fo2 := fo 2; have fo3 := fo 3; have fo4 := fo 4; have fo5 := fo 5; have fo6 := fo 6
    have fz0 := fz 0; have fz1 := fz 1; have fz2 := fz 2; have fz3 := fz 3; have fz4 := fz 4; have fz5 := fz 5; have fz6 := fz 6
    clear fg fo fz
    have hdec : dec 2 m (bs.drop a) false = none := by rw [List.drop_eq_nil_of_le (by omega)]; rfl
    have HDEC := Aside0.mk hdec
    clear hdec
    go_region
    go_upto_region 7 with (fail)
    refine gen_wp (fun V => QW w g A c bs a true #[.int .u8 2, .int .u64 0, .int .i64 0, .bool false, .slice none 0 0, .string ⟨#[]⟩, .int .i64 0] V) (Q.out.drew.fail) ?_
    intro V hV
    have Q := Aside0.mk hV
    clear hV
    clear g0 g1 g2 o0 o1 o2 o3 o4 o5 o6 n0 n1 n2 n3 n4 n5 n6 fg1 fg2 fo1 fo2 fo3 fo4 fo5 fo6 fz0 fz1 fz2 fz3 fz4 fz5 fz6
    obtain ⟨⟨g0, g1, g2⟩, ⟨o0, o1, o2, o3, o4, o5, o6⟩, ⟨n0, n1, n2, n3, n4, n5, n6⟩, fg, fo, fz⟩ := Q.out.cells
    have fg1 := fg 1; have fg2 := fg 2
    have fo1 := fo 1; have fo2 := fo 2; have fo3 := fo 3; have fo4 := fo 4; have fo5 := fo 5; have fo6 := fo 6
    have fz0 := fz 0; have fz1 := fz 1; have fz2 := fz 2; have fz3 := fz 3; have fz4 := fz 4; have fz5 := fz 5; have fz6 := fz 6
    clear fg fo fz
    go_wp2_with fail
    refine bodyPost_ret (results_single rfl (.cell w.heap.size 29 _ (0, 0) _ rfl (Q.out.fin _ _ _ _ _ _ _).1 Try.underlying29 rfl size29 .nil)) rfl ?_
    exact ⟨(Q.out.fin _ _ _ _ _ _ _).2.2.2, by rw [HDEC.out]; exact ⟨rfl, _, (Q.out.fin _ _ _ _ _ _ _).2.2.1⟩⟩
set_option maxHeartbeats 1000000 in
set_option maxRecDepth 100000 in
theorem rread_0 (g : Nat) (A : Option Addr) (c : Nat) (bs : List Int) (a : Nat) (m : Int) (w : World) (hq : QAt w g A c bs a false) (hb : isB bs) (hl : bs.length ≤ 100000) :
    Calls Try.prog 23 #[.pointer (some ⟨g, 0, none⟩), .int .u8 0, .int .i64 m] w (RDPost g A c bs w 0 (dec 0 m (bs.drop a) false)) := by
  have HQ := Aside0.mk hq
  have hle := hq.le
  have hcap := hq.cap
  clear hq
  go_enter Try.func23, Try.ntmps23
  go_upto_region 2 with (fail)
  refine gen_wp (fun V => QW w g A c bs a false #[.int .u8 0, .int .u64 0, .int .i64 0, .bool false, .slice none 0 0, .string ⟨#[]⟩, .int .i64 0] V) (QW.new HQ.out _) ?_
  intro V hV
  have Q := Aside0.mk hV
  clear hV
  have HB := Aside0.mk hb
  clear hb
  obtain ⟨⟨g0, g1, g2⟩, ⟨o0, o1, o2, o3, o4, o5, o6⟩, ⟨n0, n1, n2, n3, n4, n5, n6⟩, fg, fo, fz⟩ := Q.out.cells
  have fg1 := fg 1; have fg2 := fg 2
  have fo1 := fo 1; have fo2 := fo 2; have fo3 := fo 3; have fo4 := fo 4; have fo5 := fo 5; have fo6 := fo 6
  have fz0 := fz 0; have fz1 := fz 1; have fz2 := fz 2; have fz3 := fz 3; have fz4 := fz 4; have fz5 := fz 5; have fz6 := fz 6
  clear fg fo fz
  go_wp2_with fail
  refine (rnumber_any g A c bs a false V Q.out.q HB.out hl).mono ?_
  rintro e w1 ⟨hx, hm⟩
  clear g0 g1 g2 o0 o1 o2 o3 o4 o5 o6 n0 n1 n2 n3 n4 n5 n6 fg1 fg2 fo1 fo2 fo3 fo4 fo5 fo6 fz0 fz1 fz2 fz3 fz4 fz5 fz6
  cases hU : rdU 10 0 0 (bs.drop a) with
  | none =>
    rw [hU] at hm
    obtain ⟨rfl, hq1⟩ := hm
    replace Q := Aside0.mk (Q.out.step hx hq1)
    clear hx hq1
    have HDEC := Aside0.mk (show dec 0 m (bs.drop a) false = none by show (rdU 10 0 0 (bs.drop a)).map _ = none; rw [hU]; rfl)
    clear hU
    obtain ⟨⟨g0, g1, g2⟩, ⟨o0, o1, o2, o3, o4, o5, o6⟩, ⟨n0, n1, n2, n3, n4, n5, n6⟩, fg, fo, fz⟩ := Q.out.cells
    have fg1 := fg 1; have fg2 := fg 2
    have fo1 := fo 1; have fo2 := fo 2; have fo3 := fo 3; have fo4 := fo 4; have fo5 := fo 5; have fo6 := fo 6
    have fz0 := fz 0; have fz1 := fz 1; have fz2 := fz 2; have fz3 := fz 3; have fz4 := fz 4; have fz5 := fz 5; have fz6 := fz 6
    clear fg fo fz
    go_upto_region 14 with (fail)
    refine gen_wp (fun V => QW w g A c bs a true #[.int .u8 0, .int .u64 0, .int .i64 0, .bool false, .slice none 0 0, .string ⟨#[]⟩, .int .i64 0] V) (Q.out.fail) ?_
    intro V hV
    have Q := Aside0.mk hV
    clear hV
    clear g0 g1 g2 o0 o1 o2 o3 o4 o5 o6 n0 n1 n2 n3 n4 n5 n6 fg1 fg2 fo1 fo2 fo3 fo4 fo5 fo6 fz0 fz1 fz2 fz3 fz4 fz5 fz6
    obtain ⟨⟨g0, g1, g2⟩, ⟨o0, o1, o2, o3, o4, o5, o6⟩, ⟨n0, n1, n2, n3, n4, n5, n6⟩, fg, fo, fz⟩ := Q.out.cells
    have fg1 := fg 1; have fg2 := fg 2
    have fo1 := fo 1; have fo2 := fo 2; have fo3 := fo 3; have fo4 := fo 4; have fo5 := fo 5; have fo6 := fo 6
    have fz0 := fz 0; have fz1 := fz 1; have fz2 := fz 2; have fz3 := fz 3; have fz4 := fz 4; have fz5 := fz 5; have fz6 := fz 6
    clear fg fo fz
    go_wp2_with fail
    refine bodyPost_ret (results_single rfl (.cell w.heap.size 29 _ (0, 0) _ rfl (Q.out.fin _ _ _ _ _ _ _).1 Try.underlying29 rfl size29 .nil)) rfl ?_
    exact ⟨(Q.out.fin _ _ _ _ _ _ _).2.2.2, by rw [HDEC.out]; exact ⟨rfl, _, (Q.out.fin _ _ _ _ _ _ _).2.2.1⟩⟩
  | some p =>
    obtain ⟨n, r⟩ := p
    obtain ⟨hen, hn⟩ := rdU_some (isB_drop HB.out a) hU
    rw [hU] at hm
    obtain ⟨rfl, b, hq1, hr⟩ := hm
    have hbl := hq1.le
    replace Q := Aside0.mk (Q.out.step hx hq1)
    clear hx hq1 hen
    have HDEC := Aside0.mk (show dec 0 m (bs.drop a) false = some (⟨0, (n : Int), 0, false, [], ⟨#[]⟩, 0⟩, r) by show (rdU 10 0 0 (bs.drop a)).map _ = _; rw [hU]; rfl)
    clear hU
    obtain ⟨⟨g0, g1, g2⟩, ⟨o0, o1, o2, o3, o4, o5, o6⟩, ⟨n0, n1, n2, n3, n4, n5, n6⟩, fg, fo, fz⟩ := Q.out.cells
    have fg1 := fg 1; have fg2 := fg 2
    have fo1 := fo 1; have fo2 := fo 2; have fo3 := fo 3; have fo4 := fo 4; have fo5 := fo 5; have fo6 := fo 6
    have fz0 := fz 0; have fz1 := fz 1; have fz2 := fz 2; have fz3 := fz 3; have fz4 := fz 4; have fz5 := fz 5; have fz6 := fz 6
    clear fg fo fz
    go_upto_region 37 with (fail)
    refine gen_wp (fun V => QW w g A c bs b false #[.int .u8 0, .int .u64 (n : Int), .int .i64 0, .bool false, .slice none 0 0, .string ⟨#[]⟩, .int .i64 0] V) (Q.out.set 1 _) ?_
    intro V hV
    have Q := Aside0.mk hV
    clear hV
    clear g0 g1 g2 o0 o1 o2 o3 o4 o5 o6 n0 n1 n2 n3 n4 n5 n6 fg1 fg2 fo1 fo2 fo3 fo4 fo5 fo6 fz0 fz1 fz2 fz3 fz4 fz5 fz6
    obtain ⟨⟨g0, g1, g2⟩, ⟨o0, o1, o2, o3, o4, o5, o6⟩, ⟨n0, n1, n2, n3, n4, n5, n6⟩, fg, fo, fz⟩ := Q.out.cells
    have fg1 := fg 1; have fg2 := fg 2
    have fo1 := fo 1; have fo2 := fo 2; have fo3 := fo 3; have fo4 := fo 4; have fo5 := fo 5; have fo6 := fo 6
    have fz0 := fz 0; have fz1 := fz 1; have fz2 := fz 2; have fz3 := fz 3; have fz4 := fz 4; have fz5 := fz 5; have fz6 := fz 6
    clear fg fo fz
    go_wp2_with fail
    refine bodyPost_ret (results_single rfl (.cell w.heap.size 29 _ (0, 0) _ rfl (Q.out.fin _ _ _ _ _ _ _).1 Try.underlying29 rfl size29 .nil)) rfl ?_
    exact ⟨(Q.out.fin _ _ _ _ _ _ _).2.2.2, by rw [HDEC.out]; exact ⟨none, 0, b, rfl, Nat.le_refl _, C_nil _, (Q.out.fin _ _ _ _ _ _ _).2.2.1, hr⟩⟩
set_option maxHeartbeats 1000000 in
set_option maxRecDepth 100000 in
theorem rread_1 (g : Nat) (A : Option Addr) (c : Nat) (bs : List Int) (a : Nat) (m : Int) (w : World) (hq : QAt w g A c bs a false) (hb : isB bs) (hl : bs.length ≤ 100000) :
    Calls Try.prog 23 #[.pointer (some ⟨g, 0, none⟩), .int .u8 1, .int .i64 m] w (RDPost g A c bs w 1 (dec 1 m (bs.drop a) false)) := by
  have HQ := Aside0.mk hq
  have hle := hq.le
  have hcap := hq.cap
  clear hq
  go_enter Try.func23, Try.ntmps23
  go_upto_region 2 with (fail)
  refine gen_wp (fun V => QW w g A c bs a false #[.int .u8 1, .int .u64 0, .int .i64 0, .bool false, .slice none 0 0, .string ⟨#[]⟩, .int .i64 0] V) (QW.new HQ.out _) ?_
  intro V hV
  have Q := Aside0.mk hV
  clear hV
  have HB := Aside0.mk hb
  clear hb
  obtain ⟨⟨g0, g1, g2⟩, ⟨o0, o1, o2, o3, o4, o5, o6⟩, ⟨n0, n1, n2, n3, n4, n5, n6⟩, fg, fo, fz⟩ := Q.out.cells
  have fg1 := fg 1; have fg2 := fg 2
  have fo1 := fo 1; have fo2 := fo 2; have fo3 := fo 3; have fo4 := fo 4; have fo5 := fo 5; have fo6 := fo 6
  have fz0 := fz 0; have fz1 := fz 1; have fz2 := fz 2; have fz3 := fz 3; have fz4 := fz 4; have fz5 := fz 5; have fz6 := fz 6
  clear fg fo fz
  go_wp2_with fail
  refine (rnumber_any g A c bs a false V Q.out.q HB.out hl).mono ?_
  rintro e w1 ⟨hx, hm⟩
  clear g0 g1 g2 o0 o1 o2 o3 o4 o5 o6 n0 n1 n2 n3 n4 n5 n6 fg1 fg2 fo1 fo2 fo3 fo4 fo5 fo6 fz0 fz1 fz2 fz3 fz4 fz5 fz6
  cases hU : rdU 10 0 0 (bs.drop a) with
  | none =>
    rw [hU] at hm
    obtain ⟨rfl, hq1⟩ := hm
    replace Q := Aside0.mk (Q.out.step hx hq1)
    clear hx hq1
    have HDEC := Aside0.mk (show dec 1 m (bs.drop a) false = none by show (rdU 10 0 0 (bs.drop a)).map _ = none; rw [hU]; rfl)
    clear hU
    obtain ⟨⟨g0, g1, g2⟩, ⟨o0, o1, o2, o3, o4, o5, o6⟩, ⟨n0, n1, n2, n3, n4, n5, n6⟩, fg, fo, fz⟩ := Q.out.cells
    have fg1 := fg 1; have fg2 := fg 2
    have fo1 := fo 1; have fo2 := fo 2; have fo3 := fo 3; have fo4 := fo 4; have fo5 := fo 5; have fo6 := fo 6
    have fz0 := fz 0; have fz1 := fz 1; have fz2 := fz 2; have fz3 := fz 3; have fz4 := fz 4; have fz5 := fz 5; have fz6 := fz 6
    clear fg fo fz
    go_upto_region 14 with (fail)
    refine gen_wp (fun V => QW w g A c bs a true #[.int .u8 1, .int .u64 0, .int .i64 0, .bool false, .slice none 0 0, .string ⟨#[]⟩, .int .i64 0] V) (Q.out.fail) ?_
    intro V hV
    have Q := Aside0.mk hV
    clear hV
    clear g0 g1 g2 o0 o1 o2 o3 o4 o5 o6 n0 n1 n2 n3 n4 n5 n6 fg1 fg2 fo1 fo2 fo3 fo4 fo5 fo6 fz0 fz1 fz2 fz3 fz4 fz5 fz6
    obtain ⟨⟨g0, g1, g2⟩, ⟨o0, o1, o2, o3, o4, o5, o6⟩, ⟨n0, n1, n2, n3, n4, n5, n6⟩, fg, fo, fz⟩ := Q.out.cells
    have fg1 := fg 1; have fg2 := fg 2
    have fo1 := fo 1; have fo2 := fo 2; have fo3 := fo 3; have fo4 := fo 4; have fo5 := fo 5; have fo6 := fo 6
    have fz0 := fz 0; have fz1 := fz 1; have fz2 := fz 2; have fz3 := fz 3; have fz4 := fz 4; have fz5 := fz 5; have fz6 := fz 6
    clear fg fo fz
    go_wp2_with fail
    refine bodyPost_ret (results_single rfl (.cell w.heap.size 29 _ (0, 0) _ rfl (Q.out.fin _ _ _ _ _ _ _).1 Try.underlying29 rfl size29 .nil)) rfl ?_
    exact ⟨(Q.out.fin _ _ _ _ _ _ _).2.2.2, by rw [HDEC.out]; exact ⟨rfl, _, (Q.out.fin _ _ _ _ _ _ _).2.2.1⟩⟩
  | some p =>
    obtain ⟨n, r⟩ := p
    obtain ⟨hen, hn⟩ := rdU_some (isB_drop HB.out a) hU
    rw [hU] at hm
    obtain ⟨rfl, b, hq1, hr⟩ := hm
    have hbl := hq1.le
    replace Q := Aside0.mk (Q.out.step hx hq1)
    clear hx hq1 hen
    have HDEC := Aside0.mk (show dec 1 m (bs.drop a) false = some (⟨1, 0, unzig n, false, [], ⟨#[]⟩, 0⟩, r) by show (rdU 10 0 0 (bs.drop a)).map _ = _; rw [hU]; rfl)
    clear hU
    by_cases h2 : n % 2 = 1
    · have hz : unzig n = -((n / 2 : Nat) : Int) - 1 := by unfold unzig; rw [if_neg (by omega)]
      have hd : ((n : Int) % 2 == 1) = true := by rw [beq_iff_eq]; omega
      obtain ⟨⟨g0, g1, g2⟩, ⟨o0, o1, o2, o3, o4, o5, o6⟩, ⟨n0, n1, n2, n3, n4, n5, n6⟩, fg, fo, fz⟩ := Q.out.cells
      have fg1 := fg 1; have fg2 := fg 2
      have fo1 := fo 1; have fo2 := fo 2; have fo3 := fo 3; have fo4 := fo 4; have fo5 := fo 5; have fo6 := fo 6
      have fz0 := fz 0; have fz1 := fz 1; have fz2 := fz 2; have fz3 := fz 3; have fz4 := fz 4; have fz5 := fz 5; have fz6 := fz 6
      clear fg fo fz
      go_upto_region 37 with (fail)
      refine gen_wp (fun V => QW w g A c bs b false #[.int .u8 1, .int .u64 0, .int .i64 (unzig n), .bool false, .slice none 0 0, .string ⟨#[]⟩, .int .i64 0] V) (by rw [show unzig n = -((n : Int) / 2) - 1 by rw [hz]; omega]; exact (Q.out.set 2 _).set 2 _) ?_
      intro V hV
      have Q := Aside0.mk hV
      clear hV
      clear hz g0 g1 g2 o0 o1 o2 o3 o4 o5 o6 n0 n1 n2 n3 n4 n5 n6 fg1 fg2 fo1 fo2 fo3 fo4 fo5 fo6 fz0 fz1 fz2 fz3 fz4 fz5 fz6
      obtain ⟨⟨g0, g1, g2⟩, ⟨o0, o1, o2, o3, o4, o5, o6⟩, ⟨n0, n1, n2, n3, n4, n5, n6⟩, fg, fo, fz⟩ := Q.out.cells
      have fg1 := fg 1; have fg2 := fg 2
      have fo1 := fo 1; have fo2 := fo 2; have fo3 := fo 3; have fo4 := fo 4; have fo5 := fo 5; have fo6 := fo 6
      have fz0 := fz 0; have fz1 := fz 1; have fz2 := fz 2; have fz3 := fz 3; have fz4 := fz 4; have fz5 := fz 5; have fz6 := fz 6
      clear fg fo fz
      go_wp2_with fail
      refine bodyPost_ret (results_single rfl (.cell w.heap.size 29 _ (0, 0) _ rfl (Q.out.fin _ _ _ _ _ _ _).1 Try.underlying29 rfl size29 .nil)) rfl ?_
      exact ⟨(Q.out.fin _ _ _ _ _ _ _).2.2.2, by rw [HDEC.out]; exact ⟨none, 0, b, rfl, Nat.le_refl _, C_nil _, (Q.out.fin _ _ _ _ _ _ _).2.2.1, hr⟩⟩
    · have hz : unzig n = ((n / 2 : Nat) : Int) := by unfold unzig; rw [if_pos (by omega)]
      have hd : ((n : Int) % 2 == 1) = false := beq_eq_false_iff_ne.2 (by omega)
      obtain ⟨⟨g0, g1, g2⟩, ⟨o0, o1, o2, o3, o4, o5, o6⟩, ⟨n0, n1, n2, n3, n4, n5, n6⟩, fg, fo, fz⟩ := Q.out.cells
      have fg1 := fg 1; have fg2 := fg 2
      have fo1 := fo 1; have fo2 := fo 2; have fo3 := fo 3; have fo4 := fo 4; have fo5 := fo 5; have fo6 := fo 6
      have fz0 := fz 0; have fz1 := fz 1; have fz2 := fz 2; have fz3 := fz 3; have fz4 := fz 4; have fz5 := fz 5; have fz6 := fz 6
      clear fg fo fz
      go_upto_region 37 with (fail)
      refine gen_wp (fun V => QW w g A c bs b false #[.int .u8 1, .int .u64 0, .int .i64 (unzig n), .bool false, .slice none 0 0, .string ⟨#[]⟩, .int .i64 0] V) (by rw [show unzig n = (n : Int) / 2 by rw [hz]; omega]; exact Q.out.set 2 _) ?_
      intro V hV
      have Q := Aside0.mk hV
      clear hV
      clear hz g0 g1 g2 o0 o1 o2 o3 o4 o5 o6 n0 n1 n2 n3 n4 n5 n6 fg1 fg2 fo1 fo2 fo3 fo4 fo5 fo6 fz0 fz1 fz2 fz3 fz4 fz5 fz6
      obtain ⟨⟨g0, g1, g2⟩, ⟨o0, o1, o2, o3, o4, o5, o6⟩, ⟨n0, n1, n2, n3, n4, n5, n6⟩, fg, fo, fz⟩ := Q.out.cells
      have fg1 := fg 1; have fg2 := fg 2
      have fo1 := fo 1; have fo2 := fo 2; have fo3 := fo 3; have fo4 := fo 4; have fo5 := fo 5; have fo6 := fo 6
      have fz0 := fz 0; have fz1 := fz 1; have fz2 := fz 2; have fz3 := fz 3; have fz4 := fz 4; have fz5 := fz 5; have fz6 := fz 6
      clear fg fo fz
      go_wp2_with fail
      refine bodyPost_ret (results_single rfl (.cell w.heap.size 29 _ (0, 0) _ rfl (Q.out.fin _ _ _ _ _ _ _).1 Try.underlying29 rfl size29 .nil)) rfl ?_
      exact ⟨(Q.out.fin _ _ _ _ _ _ _).2.2.2, by rw [HDEC.out]; exact ⟨none, 0, b, rfl, Nat.le_refl _, C_nil _, (Q.out.fin _ _ _ _ _ _ _).2.2.1, hr⟩⟩
set_option maxHeartbeats 1000000 in
set_option maxRecDepth 100000 in
theorem rread_5 (g : Nat) (A : Option Addr) (c : Nat) (bs : List Int) (a : Nat) (m : Int) (w : World) (hq : QAt w g A c bs a false) (hb : isB bs) (hl : bs.length ≤ 100000) (hm : m ≤ 9223372036854775807) :
    Calls Try.prog 23 #[.pointer (some ⟨g, 0, none⟩), .int .u8 5, .int .i64 m] w (RDPost g A c bs w 5 (dec 5 m (bs.drop a) false)) := by
  have HQ := Aside0.mk hq
  have hle := hq.le
  have hcap := hq.cap
  clear hq
  go_enter Try.func23, Try.ntmps23
  go_upto_region 2 with (fail)
  refine gen_wp (fun V => QW w g A c bs a false #[.int .u8 5, .int .u64 0, .int .i64 0, .bool false, .slice none 0 0, .string ⟨#[]⟩, .int .i64 0] V) (QW.new HQ.out _) ?_
  intro V hV
  have Q := Aside0.mk hV
  clear hV
  have HB := Aside0.mk hb
  clear hb
  obtain ⟨⟨g0, g1, g2⟩, ⟨o0, o1, o2, o3, o4, o5, o6⟩, ⟨n0, n1, n2, n3, n4, n5, n6⟩, fg, fo, fz⟩ := Q.out.cells
  have fg1 := fg 1; have fg2 := fg 2
  have fo1 := fo 1; have fo2 := fo 2; have fo3 := fo 3; have fo4 := fo 4; have fo5 := fo 5; have fo6 := fo 6
  have fz0 := fz 0; have fz1 := fz 1; have fz2 := fz 2; have fz3 := fz 3; have fz4 := fz 4; have fz5 := fz 5; have fz6 := fz 6
  clear fg fo fz
  go_wp2_with fail
  refine (rnumber_any g A c bs a false V Q.out.q HB.out hl).mono ?_
  rintro e w1 ⟨hx, hm⟩
  clear g0 g1 g2 o0 o1 o2 o3 o4 o5 o6 n0 n1 n2 n3 n4 n5 n6 fg1 fg2 fo1 fo2 fo3 fo4 fo5 fo6 fz0 fz1 fz2 fz3 fz4 fz5 fz6
  cases hU : rdU 10 0 0 (bs.drop a) with
  | none =>
    rw [hU] at hm
    obtain ⟨rfl, hq1⟩ := hm
    replace Q := Aside0.mk (Q.out.step hx hq1)
    clear hx hq1
    have hU2 : rdL m (bs.drop a) = none := by unfold rdL; rw [hU]; rfl
    have HDEC := Aside0.mk (show dec 5 m (bs.drop a) false = none by show (rdL m (bs.drop a)).map _ = none; rw [hU2]; rfl)
    clear hU hU2
    obtain ⟨⟨g0, g1, g2⟩, ⟨o0, o1, o2, o3, o4, o5, o6⟩, ⟨n0, n1, n2, n3, n4, n5, n6⟩, fg, fo, fz⟩ := Q.out.cells
    have fg1 := fg 1; have fg2 := fg 2
    have fo1 := fo 1; have fo2 := fo 2; have fo3 := fo 3; have fo4 := fo 4; have fo5 := fo 5; have fo6 := fo 6
    have fz0 := fz 0; have fz1 := fz 1; have fz2 := fz 2; have fz3 := fz 3; have fz4 := fz 4; have fz5 := fz 5; have fz6 := fz 6
    clear fg fo fz
    go_upto_region 14 with (fail)
    refine gen_wp (fun V => QW w g A c bs a true #[.int .u8 5, .int .u64 0, .int .i64 0, .bool false, .slice none 0 0, .string ⟨#[]⟩, .int .i64 0] V) (Q.out.fail) ?_
    intro V hV
    have Q := Aside0.mk hV
    clear hV
    clear g0 g1 g2 o0 o1 o2 o3 o4 o5 o6 n0 n1 n2 n3 n4 n5 n6 fg1 fg2 fo1 fo2 fo3 fo4 fo5 fo6 fz0 fz1 fz2 fz3 fz4 fz5 fz6
    obtain ⟨⟨g0, g1, g2⟩, ⟨o0, o1, o2, o3, o4, o5, o6⟩, ⟨n0, n1, n2, n3, n4, n5, n6⟩, fg, fo, fz⟩ := Q.out.cells
    have fg1 := fg 1; have fg2 := fg 2
    have fo1 := fo 1; have fo2 := fo 2; have fo3 := fo 3; have fo4 := fo 4; have fo5 := fo 5; have fo6 := fo 6
    have fz0 := fz 0; have fz1 := fz 1; have fz2 := fz 2; have fz3 := fz 3; have fz4 := fz 4; have fz5 := fz 5; have fz6 := fz 6
    clear fg fo fz
    go_wp2_with fail
    refine bodyPost_ret (results_single rfl (.cell w.heap.size 29 _ (0, 0) _ rfl (Q.out.fin _ _ _ _ _ _ _).1 Try.underlying29 rfl size29 .nil)) rfl ?_
    exact ⟨(Q.out.fin _ _ _ _ _ _ _).2.2.2, by rw [HDEC.out]; exact ⟨rfl, _, (Q.out.fin _ _ _ _ _ _ _).2.2.1⟩⟩
  | some p =>
    obtain ⟨n, r⟩ := p
    obtain ⟨hen, hn⟩ := rdU_some (isB_drop HB.out a) hU
    rw [hU] at hm
    obtain ⟨rfl, b, hq1, hr⟩ := hm
    have hbl := hq1.le
    replace Q := Aside0.mk (Q.out.step hx hq1)
    clear hx hq1 hen
    by_cases hok : 0 ≤ m ∧ (n : Int) ≤ m
    · have HDEC := Aside0.mk (show dec 5 m (bs.drop a) false = some (⟨5, 0, 0, false, [], ⟨#[]⟩, (n : Int)⟩, r) by have h9 : rdL m (bs.drop a) = some (n, r) := (by unfold rdL; rw [hU]; exact if_pos hok); show (rdL m (bs.drop a)).map _ = _; rw [h9]; rfl)
      clear hU
      have hd1 : decide (m < 0) = false := decide_eq_false (by omega)
      have hw1 : IntKind.u64.wrap m = m := by rw [wrap_u64]; omega
      have hd2 : decide (m < (n : Int)) = false := decide_eq_false (by omega)
      obtain ⟨⟨g0, g1, g2⟩, ⟨o0, o1, o2, o3, o4, o5, o6⟩, ⟨n0, n1, n2, n3, n4, n5, n6⟩, fg, fo, fz⟩ := Q.out.cells
      have fg1 := fg 1; have fg2 := fg 2
      have fo1 := fo 1; have fo2 := fo 2; have fo3 := fo 3; have fo4 := fo 4; have fo5 := fo 5; have fo6 := fo 6
      have fz0 := fz 0; have fz1 := fz 1; have fz2 := fz 2; have fz3 := fz 3; have fz4 := fz 4; have fz5 := fz 5; have fz6 := fz 6
      clear fg fo fz
      go_upto_region 37 with (fail)
      refine gen_wp (fun V => QW w g A c bs b false #[.int .u8 5, .int .u64 0, .int .i64 0, .bool false, .slice none 0 0, .string ⟨#[]⟩, .int .i64 (n : Int)] V) (Q.out.set 6 _) ?_
      intro V hV
      have Q := Aside0.mk hV
      clear hV
      clear g0 g1 g2 o0 o1 o2 o3 o4 o5 o6 n0 n1 n2 n3 n4 n5 n6 fg1 fg2 fo1 fo2 fo3 fo4 fo5 fo6 fz0 fz1 fz2 fz3 fz4 fz5 fz6
      obtain ⟨⟨g0, g1, g2⟩, ⟨o0, o1, o2, o3, o4, o5, o6⟩, ⟨n0, n1, n2, n3, n4, n5, n6⟩, fg, fo, fz⟩ := Q.out.cells
      have fg1 := fg 1; have fg2 := fg 2
      have fo1 := fo 1; have fo2 := fo 2; have fo3 := fo 3; have fo4 := fo 4; have fo5 := fo 5; have fo6 := fo 6
      have fz0 := fz 0; have fz1 := fz 1; have fz2 := fz 2; have fz3 := fz 3; have fz4 := fz 4; have fz5 := fz 5; have fz6 := fz 6
      clear fg fo fz
      go_wp2_with fail
      refine bodyPost_ret (results_single rfl (.cell w.heap.size 29 _ (0, 0) _ rfl (Q.out.fin _ _ _ _ _ _ _).1 Try.underlying29 rfl size29 .nil)) rfl ?_
      exact ⟨(Q.out.fin _ _ _ _ _ _ _).2.2.2, by rw [HDEC.out]; exact ⟨none, 0, b, rfl, Nat.le_refl _, C_nil _, (Q.out.fin _ _ _ _ _ _ _).2.2.1, hr⟩⟩
    · have HDEC := Aside0.mk (show dec 5 m (bs.drop a) false = none by have h9 : rdL m (bs.drop a) = none := (by unfold rdL; rw [hU]; exact if_neg hok); show (rdL m (bs.drop a)).map _ = _; rw [h9]; rfl)
      clear hU
      by_cases hm0 : m < 0
      · have hd1 : decide (m < 0) = true := decide_eq_true hm0
        obtain ⟨⟨g0, g1, g2⟩, ⟨o0, o1, o2, o3, o4, o5, o6⟩, ⟨n0, n1, n2, n3, n4, n5, n6⟩, fg, fo, fz⟩ := Q.out.cells
        have fg1 := fg 1; have fg2 := fg 2
        have fo1 := fo 1; have fo2 := fo 2; have fo3 := fo 3; have fo4 := fo 4; have fo5 := fo 5; have fo6 := fo 6
        have fz0 := fz 0; have fz1 := fz 1; have fz2 := fz 2; have fz3 := fz 3; have fz4 := fz 4; have fz5 := fz 5; have fz6 := fz 6
        clear fg fo fz
        go_upto_region 35 with (fail)
        refine gen_wp (fun V => QW w g A c bs b true #[.int .u8 5, .int .u64 0, .int .i64 0, .bool false, .slice none 0 0, .string ⟨#[]⟩, .int .i64 0] V) (Q.out.fail) ?_
        intro V hV
        have Q := Aside0.mk hV
        clear hV
        clear g0 g1 g2 o0 o1 o2 o3 o4 o5 o6 n0 n1 n2 n3 n4 n5 n6 fg1 fg2 fo1 fo2 fo3 fo4 fo5 fo6 fz0 fz1 fz2 fz3 fz4 fz5 fz6
        obtain ⟨⟨g0, g1, g2⟩, ⟨o0, o1, o2, o3, o4, o5, o6⟩, ⟨n0, n1, n2, n3, n4, n5, n6⟩, fg, fo, fz⟩ := Q.out.cells
        have fg1 := fg 1; have fg2 := fg 2
        have fo1 := fo 1; have fo2 := fo 2; have fo3 := fo 3; have fo4 := fo 4; have fo5 := fo 5; have fo6 := fo 6
        have fz0 := fz 0; have fz1 := fz 1; have fz2 := fz 2; have fz3 := fz 3; have fz4 := fz 4; have fz5 := fz 5; have fz6 := fz 6
        clear fg fo fz
        go_wp2_with fail
        refine bodyPost_ret (results_single rfl (.cell w.heap.size 29 _ (0, 0) _ rfl (Q.out.fin _ _ _ _ _ _ _).1 Try.underlying29 rfl size29 .nil)) rfl ?_
        exact ⟨(Q.out.fin _ _ _ _ _ _ _).2.2.2, by rw [HDEC.out]; exact ⟨rfl, _, (Q.out.fin _ _ _ _ _ _ _).2.2.1⟩⟩
      · have hd1 : decide (m < 0) = false := decide_eq_false hm0
        have hw1 : IntKind.u64.wrap m = m := by rw [wrap_u64]; omega
        have hd2 : decide (m < (n : Int)) = true := decide_eq_true (by omega)
        obtain ⟨⟨g0, g1, g2⟩, ⟨o0, o1, o2, o3, o4, o5, o6⟩, ⟨n0, n1, n2, n3, n4, n5, n6⟩, fg, fo, fz⟩ := Q.out.cells
        have fg1 := fg 1; have fg2 := fg 2
        have fo1 := fo 1; have fo2 := fo 2; have fo3 := fo 3; have fo4 := fo 4; have fo5 := fo 5; have fo6 := fo 6
        have fz0 := fz 0; have fz1 := fz 1; have fz2 := fz 2; have fz3 := fz 3; have fz4 := fz 4; have fz5 := fz 5; have fz6 := fz 6
        clear fg fo fz
        go_upto_region 35 with (fail)
        refine gen_wp (fun V => QW w g A c bs b true #[.int .u8 5, .int .u64 0, .int .i64 0, .bool false, .slice none 0 0, .string ⟨#[]⟩, .int .i64 0] V) (Q.out.fail) ?_
        intro V hV
        have Q := Aside0.mk hV
        clear hV
        clear g0 g1 g2 o0 o1 o2 o3 o4 o5 o6 n0 n1 n2 n3 n4 n5 n6 fg1 fg2 fo1 fo2 fo3 fo4 fo5 fo6 fz0 fz1 fz2 fz3 fz4 fz5 fz6
        obtain ⟨⟨g0, g1, g2⟩, ⟨o0, o1, o2, o3, o4, o5, o6⟩, ⟨n0, n1, n2, n3, n4, n5, n6⟩, fg, fo, fz⟩ := Q.out.cells
        have fg1 := fg 1; have fg2 := fg 2
        have fo1 := fo 1; have fo2 := fo 2; have fo3 := fo 3; have fo4 := fo 4; have fo5 := fo 5; have fo6 := fo 6
        have fz0 := fz 0; have fz1 := fz 1; have fz2 := fz 2; have fz3 := fz 3; have fz4 := fz 4; have fz5 := fz 5; have fz6 := fz 6
        clear fg fo fz
        go_wp2_with fail
        refine bodyPost_ret (results_single rfl (.cell w.heap.size 29 _ (0, 0) _ rfl (Q.out.fin _ _ _ _ _ _ _).1 Try.underlying29 rfl size29 .nil)) rfl ?_
        exact ⟨(Q.out.fin _ _ _ _ _ _ _).2.2.2, by rw [HDEC.out]; exact ⟨rfl, _, (Q.out.fin _ _ _ _ _ _ _).2.2.1⟩⟩
set_option maxHeartbeats 1000000 in
set_option maxRecDepth 100000 in
theorem rread_3 (g : Nat) (A : Option Addr) (c : Nat) (bs : List Int) (a : Nat) (m : Int) (w : World) (hq : QAt w g A c bs a false) (hb : isB bs) (hl : bs.length ≤ 100000) :
    Calls Try.prog 23 #[.pointer (some ⟨g, 0, none⟩), .int .u8 3, .int .i64 m] w (RDPost g A c bs w 3 (dec 3 m (bs.drop a) false)) := by
  have HQ := Aside0.mk hq
  have hle := hq.le
  have hcap := hq.cap
  clear hq
  go_enter Try.func23, Try.ntmps23
  go_upto_region 2 with (fail)
  refine gen_wp (fun V => QW w g A c bs a false #[.int .u8 3, .int .u64 0, .int .i64 0, .bool false, .slice none 0 0, .string ⟨#[]⟩, .int .i64 0] V) (QW.new HQ.out _) ?_
  intro V hV
  have Q := Aside0.mk hV
  clear hV
  have HB := Aside0.mk hb
  clear hb
  obtain ⟨⟨g0, g1, g2⟩, ⟨o0, o1, o2, o3, o4, o5, o6⟩, ⟨n0, n1, n2, n3, n4, n5, n6⟩, fg, fo, fz⟩ := Q.out.cells
  have fg1 := fg 1; have fg2 := fg 2
  have fo1 := fo 1; have fo2 := fo 2; have fo3 := fo 3; have fo4 := fo 4; have fo5 := fo 5; have fo6 := fo 6
  have fz0 := fz 0; have fz1 := fz 1; have fz2 := fz 2; have fz3 := fz 3; have fz4 := fz 4; have fz5 := fz 5; have fz6 := fz 6
  clear fg fo fz
  go_wp2_with fail
  refine (rnumber_any g A c bs a false V Q.out.q HB.out hl).mono ?_
  rintro e w1 ⟨hx, hm⟩
  clear g0 g1 g2 o0 o1 o2 o3 o4 o5 o6 n0 n1 n2 n3 n4 n5 n6 fg1 fg2 fo1 fo2 fo3 fo4 fo5 fo6 fz0 fz1 fz2 fz3 fz4 fz5 fz6
  cases hU : rdU 10 0 0 (bs.drop a) with
  | none =>
    rw [hU] at hm
    obtain ⟨rfl, hq1⟩ := hm
    replace Q := Aside0.mk (Q.out.step hx hq1)
    clear hx hq1
    have hU2 : rdY (bs.drop a) = none := by unfold rdY; rw [hU]; rfl
    have HDEC := Aside0.mk (show dec 3 m (bs.drop a) false = none by show (rdY (bs.drop a)).map _ = none; rw [hU2]; rfl)
    clear hU hU2
    obtain ⟨⟨g0, g1, g2⟩, ⟨o0, o1, o2, o3, o4, o5, o6⟩, ⟨n0, n1, n2, n3, n4, n5, n6⟩, fg, fo, fz⟩ := Q.out.cells
    have fg1 := fg 1; have fg2 := fg 2
    have fo1 := fo 1; have fo2 := fo 2; have fo3 := fo 3; have fo4 := fo 4; have fo5 := fo 5; have fo6 := fo 6
    have fz0 := fz 0; have fz1 := fz 1; have fz2 := fz 2; have fz3 := fz 3; have fz4 := fz 4; have fz5 := fz 5; have fz6 := fz 6
    clear fg fo fz
    go_upto_region 14 with (fail)
    refine gen_wp (fun V => QW w g A c bs a true #[.int .u8 3, .int .u64 0, .int .i64 0, .bool false, .slice none 0 0, .string ⟨#[]⟩, .int .i64 0] V) (Q.out.fail) ?_
    intro V hV
    have Q := Aside0.mk hV
    clear hV
    clear g0 g1 g2 o0 o1 o2 o3 o4 o5 o6 n0 n1 n2 n3 n4 n5 n6 fg1 fg2 fo1 fo2 fo3 fo4 fo5 fo6 fz0 fz1 fz2 fz3 fz4 fz5 fz6
    obtain ⟨⟨g0, g1, g2⟩, ⟨o0, o1, o2, o3, o4, o5, o6⟩, ⟨n0, n1, n2, n3, n4, n5, n6⟩, fg, fo, fz⟩ := Q.out.cells
    have fg1 := fg 1; have fg2 := fg 2
    have fo1 := fo 1; have fo2 := fo 2; have fo3 := fo 3; have fo4 := fo 4; have fo5 := fo 5; have fo6 := fo 6
    have fz0 := fz 0; have fz1 := fz 1; have fz2 := fz 2; have fz3 := fz 3; have fz4 := fz 4; have fz5 := fz 5; have fz6 := fz 6
    clear fg fo fz
    go_wp2_with fail
    refine bodyPost_ret (results_single rfl (.cell w.heap.size 29 _ (0, 0) _ rfl (Q.out.fin _ _ _ _ _ _ _).1 Try.underlying29 rfl size29 .nil)) rfl ?_
    exact ⟨(Q.out.fin _ _ _ _ _ _ _).2.2.2, by rw [HDEC.out]; exact ⟨rfl, _, (Q.out.fin _ _ _ _ _ _ _).2.2.1⟩⟩
  | some p =>
    obtain ⟨n, r⟩ := p
    obtain ⟨hen, hn⟩ := rdU_some (isB_drop HB.out a) hU
    rw [hU] at hm
    obtain ⟨rfl, b, hq1, hr⟩ := hm
    have hbl := hq1.le
    replace Q := Aside0.mk (Q.out.step hx hq1)
    clear hx hq1 hen
    have hrl : r.length = bs.length - b := by rw [hr, List.length_drop]
    have hw1 : IntKind.i64.wrap ((bs.length : Int) - (b : Int)) = (bs.length : Int) - (b : Int) := wr64 _ (by omega) (by omega)
    have hw2 : IntKind.u64.wrap ((bs.length : Int) - (b : Int)) = (bs.length : Int) - (b : Int) := by rw [wrap_u64]; omega
    have hS0 : w1.drew.cell? ⟨g, 0, none⟩ = some (.slice A bs.length c) ∧ w1.drew.cell? ⟨g, 1, none⟩ = some (.int .i64 (b : Int)) := ⟨Q.out.cells.1.1, Q.out.cells.1.2.1⟩
    by_cases hok : n ≤ r.length
    · have HDEC := Aside0.mk (show dec 3 m (bs.drop a) false = some (⟨3, 0, 0, false, r.take n, ⟨#[]⟩, 0⟩, r.drop n) by have h9 : rdY (bs.drop a) = some (r.take n, r.drop n) := (by unfold rdY; rw [hU]; exact if_pos hok); show (rdY (bs.drop a)).map _ = _; rw [h9]; rfl)
      clear hU
      have hd1 : decide ((bs.length : Int) - (b : Int) < (n : Int)) = false := decide_eq_false (by omega)
      obtain ⟨⟨g0, g1, g2⟩, ⟨o0, o1, o2, o3, o4, o5, o6⟩, ⟨n0, n1, n2, n3, n4, n5, n6⟩, fg, fo, fz⟩ := Q.out.cells
      have fg1 := fg 1; have fg2 := fg 2
      have fo1 := fo 1; have fo2 := fo 2; have fo3 := fo 3; have fo4 := fo 4; have fo5 := fo 5; have fo6 := fo 6
      have fz0 := fz 0; have fz1 := fz 1; have fz2 := fz 2; have fz3 := fz 3; have fz4 := fz 4; have fz5 := fz 5; have fz6 := fz 6
      clear fg fo fz
      go_upto_region 24 with (fail)
      go_region_held3 (fun W' : World => W'.cell? ⟨g, 0, none⟩ = some (.slice A bs.length c) ∧ W'.cell? ⟨g, 1, none⟩ = some (.int .i64 (b : Int))) (first | assumption | go_keep) (fail)
      obtain ⟨A', c', ys, hys, hcut, hyc, hyr⟩ := cut_row (A := A) (a := b) (k := n) hcap (by omega)
      have HYS := Aside0.mk (show r.take n = ys by rw [hys, hr])
      have HYR := Aside0.mk (hyr _ Q.out.q.row)
      have HYL := Aside0.mk (show ys.length < 140737488355328 by rw [hys, List.length_take]; omega)
      have hw3 : IntKind.i64.wrap (n : Int) = (n : Int) := wr64 _ (by omega) (by omega)
      have hw4 : IntKind.i64.wrap ((b : Int) + (n : Int)) = (b : Int) + (n : Int) := wr64 _ (by omega) (by omega)
      clear hys hyr
      go_upto_region 27 with (fail)
      have hS1 : w1.drew.drew.cell? ⟨g, 0, none⟩ = some (.slice A bs.length c) ∧ w1.drew.drew.cell? ⟨g, 1, none⟩ = some (.int .i64 (b : Int)) := hS0
      clear g0 g1 g2 o0 o1 o2 o3 o4 o5 o6 n0 n1 n2 n3 n4 n5 n6 fg1 fg2 fo1 fo2 fo3 fo4 fo5 fo6 fz0 fz1 fz2 fz3 fz4 fz5 fz6
      go_region_held3 (fun W' : World => W'.cell? ⟨g, 0, none⟩ = some (.slice A bs.length c) ∧ W'.cell? ⟨g, 1, none⟩ = some (.int .i64 (b : Int))) (first | assumption | go_keep) (first | (go_at_call 15; refine (tocsinref04_Copy.calls A' c' ys ys _ (Kd.C_below HYR.out (below_drew (below_drew (Below.refl _ _)))) hyc (copy_some ys HYL.out)).mono ?_; rintro e w2 ⟨v2, rfl, hr2, hb2⟩; obtain ⟨A4, c4, rfl⟩ := Kd.R_slice hr2; have Q2 := Aside0.mk (Q.out.drew.drew.below hb2); have R2 := Aside0.mk hr2; have hS2 : w2.cell? ⟨g, 0, none⟩ = some (.slice A bs.length c) ∧ w2.cell? ⟨g, 1, none⟩ = some (.int .i64 (b : Int)) := ⟨Q2.out.cells.1.1, Q2.out.cells.1.2.1⟩; clear hr2 hb2 hS0 hS1))
      clear hcut hw1 hw2 hw3 hd1 hS2
      obtain ⟨hc4, hst⟩ := own_stays R2.out (T := w.heap.size + 1) (by have := Q.out.q.lt; have := blk_lt Q.out.o; show w.heap.size + 1 < w1.heap.size; omega)
      have HST := Aside0.mk hst
      clear hst R2 Q
      have Q := Q2
      clear Q2
      obtain ⟨⟨g0, g1, g2⟩, ⟨o0, o1, o2, o3, o4, o5, o6⟩, ⟨n0, n1, n2, n3, n4, n5, n6⟩, fg, fo, fz⟩ := Q.out.cells
      have fg1 := fg 1; have fg2 := fg 2
      have fo1 := fo 1; have fo2 := fo 2; have fo3 := fo 3; have fo4 := fo 4; have fo5 := fo 5; have fo6 := fo 6
      have fz0 := fz 0; have fz1 := fz 1; have fz2 := fz 2; have fz3 := fz 3; have fz4 := fz 4; have fz5 := fz 5; have fz6 := fz 6
      clear fg fo fz
      go_upto_region 37 with (fail)
      have hq3 := (Q.out.go (b + n) (by omega)).set 4 (.slice A4 ys.length c4)
      have hx3 := (Q.out.q.go (b + n) (by omega)).2.mono (T := fun k => k ≤ w.heap.size + 1) (fun k _ e => by have := Q.out.gl; omega)
      have hx4 := hx3.setCell (p := ⟨w.heap.size + 1, 4, none⟩) (fun _ => Nat.le_refl _) (.slice A4 ys.length c4)
      rw [show ((b + n : Nat) : Int) = (b : Int) + (n : Int) by omega] at hq3 hx4
      have QX := Aside0.mk (And.intro hq3 hx4)
      clear hq3 hx3 hx4
      refine gen_wp (fun V => QW w g A c bs (b + n) false #[.int .u8 3, .int .u64 0, .int .i64 0, .bool false, .slice A4 ys.length c4, .string ⟨#[]⟩, .int .i64 0] V ∧ Ex (fun k => k ≤ w.heap.size + 1) w2 V) QX.out ?_
      rintro V ⟨hV, hE⟩
      have Q1 := Aside0.mk hV
      have E1 := Aside0.mk hE
      clear hV hE QX Q g0 g1 g2 o0 o1 o2 o3 o4 o5 o6 n0 n1 n2 n3 n4 n5 n6 fg1 fg2 fo1 fo2 fo3 fo4 fo5 fo6 fz0 fz1 fz2 fz3 fz4 fz5 fz6
      have Q := Q1
      clear Q1
      obtain ⟨⟨g0, g1, g2⟩, ⟨o0, o1, o2, o3, o4, o5, o6⟩, ⟨n0, n1, n2, n3, n4, n5, n6⟩, fg, fo, fz⟩ := Q.out.cells
      have fg1 := fg 1; have fg2 := fg 2
      have fo1 := fo 1; have fo2 := fo 2; have fo3 := fo 3; have fo4 := fo 4; have fo5 := fo 5; have fo6 := fo 6
      have fz0 := fz 0; have fz1 := fz 1; have fz2 := fz 2; have fz3 := fz 3; have fz4 := fz 4; have fz5 := fz 5; have fz6 := fz 6
      clear fg fo fz
      go_wp2_with fail
      refine bodyPost_ret (results_single rfl (.cell w.heap.size 29 _ (0, 0) _ rfl (Q.out.fin _ _ _ _ _ _ _).1 Try.underlying29 rfl size29 .nil)) rfl ?_
      exact ⟨(Q.out.fin _ _ _ _ _ _ _).2.2.2, by rw [HDEC.out, HYS.out]; exact ⟨A4, c4, b + n, rfl, hc4, HST.out _ (E1.out.trans ((Q.out.fin _ _ _ _ _ _ _).2.1.mono (fun k _ e => by omega))), (Q.out.fin _ _ _ _ _ _ _).2.2.1, by rw [hr, List.drop_drop]⟩⟩
    · have HDEC := Aside0.mk (show dec 3 m (bs.drop a) false = none by have h9 : rdY (bs.drop a) = none := (by unfold rdY; rw [hU]; exact if_neg hok); show (rdY (bs.drop a)).map _ = _; rw [h9]; rfl)
      clear hU
      have hd1 : decide ((bs.length : Int) - (b : Int) < (n : Int)) = true := decide_eq_true (by omega)
      obtain ⟨⟨g0, g1, g2⟩, ⟨o0, o1, o2, o3, o4, o5, o6⟩, ⟨n0, n1, n2, n3, n4, n5, n6⟩, fg, fo, fz⟩ := Q.out.cells
      have fg1 := fg 1; have fg2 := fg 2
      have fo1 := fo 1; have fo2 := fo 2; have fo3 := fo 3; have fo4 := fo 4; have fo5 := fo 5; have fo6 := fo 6
      have fz0 := fz 0; have fz1 := fz 1; have fz2 := fz 2; have fz3 := fz 3; have fz4 := fz 4; have fz5 := fz 5; have fz6 := fz 6
      clear fg fo fz
      go_upto_region 24 with (fail)
      go_region_held3 (fun W' : World => W'.cell? ⟨g, 0, none⟩ = some (.slice A bs.length c) ∧ W'.cell? ⟨g, 1, none⟩ = some (.int .i64 (b : Int))) (first | assumption | go_keep) (fail)
      go_upto_region 26 with (fail)
      refine gen_wp (fun V => QW w g A c bs b true #[.int .u8 3, .int .u64 0, .int .i64 0, .bool false, .slice none 0 0, .string ⟨#[]⟩, .int .i64 0] V) (Q.out.drew.fail) ?_
      intro V hV
      have Q := Aside0.mk hV
      clear hV
      clear hS0 g0 g1 g2 o0 o1 o2 o3 o4 o5 o6 n0 n1 n2 n3 n4 n5 n6 fg1 fg2 fo1 fo2 fo3 fo4 fo5 fo6 fz0 fz1 fz2 fz3 fz4 fz5 fz6
      obtain ⟨⟨g0, g1, g2⟩, ⟨o0, o1, o2, o3, o4, o5, o6⟩, ⟨n0, n1, n2, n3, n4, n5, n6⟩, fg, fo, fz⟩ := Q.out.cells
      have fg1 := fg 1; have fg2 := fg 2
      have fo1 := fo 1; have fo2 := fo 2; have fo3 := fo 3; have fo4 := fo 4; have fo5 := fo 5; have fo6 := fo 6
      have fz0 := fz 0; have fz1 := fz 1; have fz2 := fz 2; have fz3 := fz 3; have fz4 := fz 4; have fz5 := fz 5; have fz6 := fz 6
      clear fg fo fz
      go_wp2_with fail
      refine bodyPost_ret (results_single rfl (.cell w.heap.size 29 _ (0, 0) _ rfl (Q.out.fin _ _ _ _ _ _ _).1 Try.underlying29 rfl size29 .nil)) rfl ?_
      exact ⟨(Q.out.fin _ _ _ _ _ _ _).2.2.2, by rw [HDEC.out]; exact ⟨rfl, _, (Q.out.fin _ _ _ _ _ _ _).2.2.1⟩⟩
set_option maxHeartbeats 1000000 in
set_option maxRecDepth 100000 in
theorem rread_4 (g : Nat) (A : Option Addr) (c : Nat) (bs : List Int) (a : Nat) (m : Int) (w : World) (hq : QAt w g A c bs a false) (hb : isB bs) (hl : bs.length ≤ 100000) :
    Calls Try.prog 23 #[.pointer (some ⟨g, 0, none⟩), .int .u8 4, .int .i64 m] w (RDPost g A c bs w 4 (dec 4 m (bs.drop a) false)) := by
  have HQ := Aside0.mk hq
  have hle := hq.le
  have hcap := hq.cap
  clear hq
  go_enter Try.func23, Try.ntmps23
  go_upto_region 2 with (fail)
  refine gen_wp (fun V => QW w g A c bs a false #[.int .u8 4, .int .u64 0, .int .i64 0, .bool false, .slice none 0 0, .string ⟨#[]⟩, .int .i64 0] V) (QW.new HQ.out _) ?_
  intro V hV
  have Q := Aside0.mk hV
  clear hV
  have HB := Aside0.mk hb
  clear hb
  obtain ⟨⟨g0, g1, g2⟩, ⟨o0, o1, o2, o3, o4, o5, o6⟩, ⟨n0, n1, n2, n3, n4, n5, n6⟩, fg, fo, fz⟩ := Q.out.cells
  have fg1 := fg 1; have fg2 := fg 2
  have fo1 := fo 1; have fo2 := fo 2; have fo3 := fo 3; have fo4 := fo 4; have fo5 := fo 5; have fo6 := fo 6
  have fz0 := fz 0; have fz1 := fz 1; have fz2 := fz 2; have fz3 := fz 3; have fz4 := fz 4; have fz5 := fz 5; have fz6 := fz 6
  clear fg fo fz
  go_wp2_with fail
  refine (rnumber_any g A c bs a false V Q.out.q HB.out hl).mono ?_
  rintro e w1 ⟨hx, hm⟩
  clear g0 g1 g2 o0 o1 o2 o3 o4 o5 o6 n0 n1 n2 n3 n4 n5 n6 fg1 fg2 fo1 fo2 fo3 fo4 fo5 fo6 fz0 fz1 fz2 fz3 fz4 fz5 fz6
  cases hU : rdU 10 0 0 (bs.drop a) with
  | none =>
    rw [hU] at hm
    obtain ⟨rfl, hq1⟩ := hm
    replace Q := Aside0.mk (Q.out.step hx hq1)
    clear hx hq1
    have hU2 : rdY (bs.drop a) = none := by unfold rdY; rw [hU]; rfl
    have HDEC := Aside0.mk (show dec 4 m (bs.drop a) false = none by show (rdY (bs.drop a)).map _ = none; rw [hU2]; rfl)
    clear hU hU2
    obtain ⟨⟨g0, g1, g2⟩, ⟨o0, o1, o2, o3, o4, o5, o6⟩, ⟨n0, n1, n2, n3, n4, n5, n6⟩, fg, fo, fz⟩ := Q.out.cells
    have fg1 := fg 1; have fg2 := fg 2
    have fo1 := fo 1; have fo2 := fo 2; have fo3 := fo 3; have fo4 := fo 4; have fo5 := fo 5; have fo6 := fo 6
    have fz0 := fz 0; have fz1 := fz 1; have fz2 := fz 2; have fz3 := fz 3; have fz4 := fz 4; have fz5 := fz 5; have fz6 := fz 6
    clear fg fo fz
    go_upto_region 14 with (fail)
    refine gen_wp (fun V => QW w g A c bs a true #[.int .u8 4, .int .u64 0, .int .i64 0, .bool false, .slice none 0 0, .string ⟨#[]⟩, .int .i64 0] V) (Q.out.fail) ?_
    intro V hV
    have Q := Aside0.mk hV
    clear hV
    clear g0 g1 g2 o0 o1 o2 o3 o4 o5 o6 n0 n1 n2 n3 n4 n5 n6 fg1 fg2 fo1 fo2 fo3 fo4 fo5 fo6 fz0 fz1 fz2 fz3 fz4 fz5 fz6
    obtain ⟨⟨g0, g1, g2⟩, ⟨o0, o1, o2, o3, o4, o5, o6⟩, ⟨n0, n1, n2, n3, n4, n5, n6⟩, fg, fo, fz⟩ := Q.out.cells
    have fg1 := fg 1; have fg2 := fg 2
    have fo1 := fo 1; have fo2 := fo 2; have fo3 := fo 3; have fo4 := fo 4; have fo5 := fo 5; have fo6 := fo 6
    have fz0 := fz 0; have fz1 := fz 1; have fz2 := fz 2; have fz3 := fz 3; have fz4 := fz 4; have fz5 := fz 5; have fz6 := fz 6
    clear fg fo fz
    go_wp2_with fail
    refine bodyPost_ret (results_single rfl (.cell w.heap.size 29 _ (0, 0) _ rfl (Q.out.fin _ _ _ _ _ _ _).1 Try.underlying29 rfl size29 .nil)) rfl ?_
    exact ⟨(Q.out.fin _ _ _ _ _ _ _).2.2.2, by rw [HDEC.out]; exact ⟨rfl, _, (Q.out.fin _ _ _ _ _ _ _).2.2.1⟩⟩
  | some p =>
    obtain ⟨n, r⟩ := p
    obtain ⟨hen, hn⟩ := rdU_some (isB_drop HB.out a) hU
    rw [hU] at hm
    obtain ⟨rfl, b, hq1, hr⟩ := hm
    have hbl := hq1.le
    replace Q := Aside0.mk (Q.out.step hx hq1)
    clear hx hq1 hen
    have hrl : r.length = bs.length - b := by rw [hr, List.length_drop]
    have hw1 : IntKind.i64.wrap ((bs.length : Int) - (b : Int)) = (bs.length : Int) - (b : Int) := wr64 _ (by omega) (by omega)
    have hw2 : IntKind.u64.wrap ((bs.length : Int) - (b : Int)) = (bs.length : Int) - (b : Int) := by rw [wrap_u64]; omega
    have hS0 : w1.drew.cell? ⟨g, 0, none⟩ = some (.slice A bs.length c) ∧ w1.drew.cell? ⟨g, 1, none⟩ = some (.int .i64 (b : Int)) := ⟨Q.out.cells.1.1, Q.out.cells.1.2.1⟩
    by_cases hok : n ≤ r.length
    · have HDEC := Aside0.mk (show dec 4 m (bs.drop a) false = some (⟨4, 0, 0, false, [], strOfNums (r.take n), 0⟩, r.drop n) by have h9 : rdY (bs.drop a) = some (r.take n, r.drop n) := (by unfold rdY; rw [hU]; exact if_pos hok); show (rdY (bs.drop a)).map _ = _; rw [h9]; rfl)
      clear hU
      have hd1 : decide ((bs.length : Int) - (b : Int) < (n : Int)) = false := decide_eq_false (by omega)
      obtain ⟨⟨g0, g1, g2⟩, ⟨o0, o1, o2, o3, o4, o5, o6⟩, ⟨n0, n1, n2, n3, n4, n5, n6⟩, fg, fo, fz⟩ := Q.out.cells
      have fg1 := fg 1; have fg2 := fg 2
      have fo1 := fo 1; have fo2 := fo 2; have fo3 := fo 3; have fo4 := fo 4; have fo5 := fo 5; have fo6 := fo 6
      have fz0 := fz 0; have fz1 := fz 1; have fz2 := fz 2; have fz3 := fz 3; have fz4 := fz 4; have fz5 := fz 5; have fz6 := fz 6
      clear fg fo fz
      go_upto_region 24 with (fail)
      go_region_held3 (fun W' : World => W'.cell? ⟨g, 0, none⟩ = some (.slice A bs.length c) ∧ W'.cell? ⟨g, 1, none⟩ = some (.int .i64 (b : Int))) (first | assumption | go_keep) (fail)
      obtain ⟨A', c', ys, hys, hcut, hyc, hyr⟩ := cut_row (A := A) (a := b) (k := n) hcap (by omega)
      have HYS := Aside0.mk (show r.take n = ys by rw [hys, hr])
      have HYR := Aside0.mk (hyr _ Q.out.q.row)
      have HYL := Aside0.mk (show ys.length < 140737488355328 by rw [hys, List.length_take]; omega)
      have hw3 : IntKind.i64.wrap (n : Int) = (n : Int) := wr64 _ (by omega) (by omega)
      have hw4 : IntKind.i64.wrap ((b : Int) + (n : Int)) = (b : Int) + (n : Int) := wr64 _ (by omega) (by omega)
      clear hys hyr
      go_upto_region 27 with (fail)
      have hS1 : w1.drew.drew.cell? ⟨g, 0, none⟩ = some (.slice A bs.length c) ∧ w1.drew.drew.cell? ⟨g, 1, none⟩ = some (.int .i64 (b : Int)) := hS0
      clear g0 g1 g2 o0 o1 o2 o3 o4 o5 o6 n0 n1 n2 n3 n4 n5 n6 fg1 fg2 fo1 fo2 fo3 fo4 fo5 fo6 fz0 fz1 fz2 fz3 fz4 fz5 fz6
      go_region_held3 (fun W' : World => W'.cell? ⟨g, 0, none⟩ = some (.slice A bs.length c) ∧ W'.cell? ⟨g, 1, none⟩ = some (.int .i64 (b : Int))) (first | assumption | go_keep) (first | (go_at_call 15; refine (tocsinref04_Copy.calls A' c' ys ys _ (Kd.C_below HYR.out (below_drew (below_drew (Below.refl _ _)))) hyc (copy_some ys HYL.out)).mono ?_; rintro e w2 ⟨v2, rfl, hr2, hb2⟩; obtain ⟨A4, c4, rfl⟩ := Kd.R_slice hr2; have Q2 := Aside0.mk (Q.out.drew.drew.below hb2); have R2 := Aside0.mk hr2; have hS2 : w2.cell? ⟨g, 0, none⟩ = some (.slice A bs.length c) ∧ w2.cell? ⟨g, 1, none⟩ = some (.int .i64 (b : Int)) := ⟨Q2.out.cells.1.1, Q2.out.cells.1.2.1⟩; clear hr2 hb2 hS0 hS1))
      clear hcut hw1 hw2 hw3 hd1 hS2
      obtain ⟨hc4, hst⟩ := own_stays R2.out (T := w.heap.size + 1) (by have := Q.out.q.lt; have := blk_lt Q.out.o; show w.heap.size + 1 < w1.heap.size; omega)
      have HST := Aside0.mk hst
      clear hst R2 Q
      have Q := Q2
      clear Q2
      obtain ⟨⟨g0, g1, g2⟩, ⟨o0, o1, o2, o3, o4, o5, o6⟩, ⟨n0, n1, n2, n3, n4, n5, n6⟩, fg, fo, fz⟩ := Q.out.cells
      have fg1 := fg 1; have fg2 := fg 2
      have fo1 := fo 1; have fo2 := fo 2; have fo3 := fo 3; have fo4 := fo 4; have fo5 := fo 5; have fo6 := fo 6
      have fz0 := fz 0; have fz1 := fz 1; have fz2 := fz 2; have fz3 := fz 3; have fz4 := fz 4; have fz5 := fz 5; have fz6 := fz 6
      clear fg fo fz
      go_upto_region 31 with (fail)
      have hq3 := Q.out.go (b + n) (by omega)
      have hx3 := (Q.out.q.go (b + n) (by omega)).2.mono (T := fun k => k ≤ w.heap.size + 1) (fun k _ e => by have := Q.out.gl; omega)
      rw [show ((b + n : Nat) : Int) = (b : Int) + (n : Int) by omega] at hq3 hx3
      have QX := Aside0.mk (And.intro hq3 (HST.out _ hx3))
      clear hq3 hx3
      refine gen_wp (fun V => QW w g A c bs (b + n) false #[.int .u8 4, .int .u64 0, .int .i64 0, .bool false, .slice none 0 0, .string ⟨#[]⟩, .int .i64 0] V ∧ Kd.C (Kd.int .u8) V A4 ys.length ys) QX.out ?_
      rintro V ⟨hV, hE⟩
      have Q1 := Aside0.mk hV
      have kc := Kd.C_string (P := Try.prog) (src := 26) (dst := 9) (e := 5) (c := c4) Try.underlying26 Try.underlying5 Try.underlying9 hE
      clear hV hE QX Q g0 g1 g2 o0 o1 o2 o3 o4 o5 o6 n0 n1 n2 n3 n4 n5 n6 fg1 fg2 fo1 fo2 fo3 fo4 fo5 fo6 fz0 fz1 fz2 fz3 fz4 fz5 fz6
      have Q := Q1
      clear Q1
      obtain ⟨⟨g0, g1, g2⟩, ⟨o0, o1, o2, o3, o4, o5, o6⟩, ⟨n0, n1, n2, n3, n4, n5, n6⟩, fg, fo, fz⟩ := Q.out.cells
      have fg1 := fg 1; have fg2 := fg 2
      have fo1 := fo 1; have fo2 := fo 2; have fo3 := fo 3; have fo4 := fo 4; have fo5 := fo 5; have fo6 := fo 6
      have fz0 := fz 0; have fz1 := fz 1; have fz2 := fz 2; have fz3 := fz 3; have fz4 := fz 4; have fz5 := fz 5; have fz6 := fz 6
      clear fg fo fz
      go_upto_region 37 with (fail)
      refine gen_wp (fun V => QW w g A c bs (b + n) false #[.int .u8 4, .int .u64 0, .int .i64 0, .bool false, .slice none 0 0, .string (strOfNums ys), .int .i64 0] V) (Q.out.set 5 _) ?_
      intro V hV
      have Q := Aside0.mk hV
      clear hV
      clear kc g0 g1 g2 o0 o1 o2 o3 o4 o5 o6 n0 n1 n2 n3 n4 n5 n6 fg1 fg2 fo1 fo2 fo3 fo4 fo5 fo6 fz0 fz1 fz2 fz3 fz4 fz5 fz6
      obtain ⟨⟨g0, g1, g2⟩, ⟨o0, o1, o2, o3, o4, o5, o6⟩, ⟨n0, n1, n2, n3, n4, n5, n6⟩, fg, fo, fz⟩ := Q.out.cells
      have fg1 := fg 1; have fg2 := fg 2
      have fo1 := fo 1; have fo2 := fo 2; have fo3 := fo 3; have fo4 := fo 4; have fo5 := fo 5; have fo6 := fo 6
      have fz0 := fz 0; have fz1 := fz 1; have fz2 := fz 2; have fz3 := fz 3; have fz4 := fz 4; have fz5 := fz 5; have fz6 := fz 6
      clear fg fo fz
      go_wp2_with fail
      refine bodyPost_ret (results_single rfl (.cell w.heap.size 29 _ (0, 0) _ rfl (Q.out.fin _ _ _ _ _ _ _).1 Try.underlying29 rfl size29 .nil)) rfl ?_
      exact ⟨(Q.out.fin _ _ _ _ _ _ _).2.2.2, by rw [HDEC.out, HYS.out]; exact ⟨none, 0, b + n, rfl, Nat.le_refl _, C_nil _, (Q.out.fin _ _ _ _ _ _ _).2.2.1, by rw [hr, List.drop_drop]⟩⟩
    · have HDEC := Aside0.mk (show dec 4 m (bs.drop a) false = none by have h9 : rdY (bs.drop a) = none := (by unfold rdY; rw [hU]; exact if_neg hok); show (rdY (bs.drop a)).map _ = _; rw [h9]; rfl)
      clear hU
      have hd1 : decide ((bs.length : Int) - (b : Int) < (n : Int)) = true := decide_eq_true (by omega)
      obtain ⟨⟨g0, g1, g2⟩, ⟨o0, o1, o2, o3, o4, o5, o6⟩, ⟨n0, n1, n2, n3, n4, n5, n6⟩, fg, fo, fz⟩ := Q.out.cells
      have fg1 := fg 1; have fg2 := fg 2
      have fo1 := fo 1; have fo2 := fo 2; have fo3 := fo 3; have fo4 := fo 4; have fo5 := fo 5; have fo6 := fo 6
      have fz0 := fz 0; have fz1 := fz 1; have fz2 := fz 2; have fz3 := fz 3; have fz4 := fz 4; have fz5 := fz 5; have fz6 := fz 6
      clear fg fo fz
      go_upto_region 24 with (fail)
      go_region_held3 (fun W' : World => W'.cell? ⟨g, 0, none⟩ = some (.slice A bs.length c) ∧ W'.cell? ⟨g, 1, none⟩ = some (.int .i64 (b : Int))) (first | assumption | go_keep) (fail)
      go_upto_region 26 with (fail)
      refine gen_wp (fun V => QW w g A c bs b true #[.int .u8 4, .int .u64 0, .int .i64 0, .bool false, .slice none 0 0, .string ⟨#[]⟩, .int .i64 0] V) (Q.out.drew.fail) ?_
      intro V hV
      have Q := Aside0.mk hV
      clear hV
      clear hS0 g0 g1 g2 o0 o1 o2 o3 o4 o5 o6 n0 n1 n2 n3 n4 n5 n6 fg1 fg2 fo1 fo2 fo3 fo4 fo5 fo6 fz0 fz1 fz2 fz3 fz4 fz5 fz6
      obtain ⟨⟨g0, g1, g2⟩, ⟨o0, o1, o2, o3, o4, o5, o6⟩, ⟨n0, n1, n2, n3, n4, n5, n6⟩, fg, fo, fz⟩ := Q.out.cells
      have fg1 := fg 1; have fg2 := fg 2
      have fo1 := fo 1; have fo2 := fo 2; have fo3 := fo 3; have fo4 := fo 4; have fo5 := fo 5; have fo6 := fo 6
      have fz0 := fz 0; have fz1 := fz 1; have fz2 := fz 2; have fz3 := fz 3; have fz4 := fz 4; have fz5 := fz 5; have fz6 := fz 6
      clear fg fo fz
      go_wp2_with fail
      refine bodyPost_ret (results_single rfl (.cell w.heap.size 29 _ (0, 0) _ rfl (Q.out.fin _ _ _ _ _ _ _).1 Try.underlying29 rfl size29 .nil)) rfl ?_
      exact ⟨(Q.out.fin _ _ _ _ _ _ _).2.2.2, by rw [HDEC.out]; exact ⟨rfl, _, (Q.out.fin _ _ _ _ _ _ _).2.2.1⟩⟩
/-- What the reference's Read tells. -/
theorem rread_any (g : Nat) (A : Option Addr) (c : Nat) (bs : List Int) (a : Nat) (f : Bool) (k m : Int) (w : World) (hq : QAt w g A c bs a f) (hb : isB bs) (hl : bs.length ≤ 100000) (hk0 : 0 ≤ k) (hk5 : k ≤ 5) (hm : m ≤ 9223372036854775807) :
    Calls Try.prog 23 #[.pointer (some ⟨g, 0, none⟩), .int .u8 k, .int .i64 m] w (RDPost g A c bs w k (dec k m (bs.drop a) f)) := by
  cases f with
  | true => exact rread_f g A c bs a k m w hq
  | false =>
    rcases (show k = 0 ∨ k = 1 ∨ k = 2 ∨ k = 3 ∨ k = 4 ∨ k = 5 by omega) with rfl | rfl | rfl | rfl | rfl | rfl
    · exact rread_0 g A c bs a m w hq hb hl
    · exact rread_1 g A c bs a m w hq hb hl
    · exact rread_2 g A c bs a m w hq hb hl
    · exact rread_3 g A c bs a m w hq hb hl
    · exact rread_4 g A c bs a m w hq hb hl
    · exact rread_5 g A c bs a m w hq hb hl hm

end Go.Proofs.Ytekbbpbpkekdhaa.Cod
