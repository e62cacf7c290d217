/- What RingFull does: the walk. -/
import Derived.Test.YtcaagnfhefkoiaaPf
namespace Go.Proofs.Ytcaagnfhefkoiaa.Given
open Go.RowKit Go.Proofs.Ytcaagnfhefkoiaa.Rg Go.Proofs.Ytcaagnfhefkoiaa.Ex Go.Proofs.Ytcaagnfhefkoiaa.PBase Go.Proofs.Ytcaagnfhefkoiaa.OpenS Go.Proofs.YtcaagnfhefkoiaaW.PrintWords Go.Proofs.YtcaagnfhefkoiaaW.PrintLast Go.Proofs.YtcaagnfhefkoiaaW.PrintMore
theorem info3 : (Try.prog.info? 3).map (fun i => (i.zero, i.size, i.bytes)) = some (some (.int .i64 0), 1, 8) := by kernel_rfl
/-- The ring, and the row of minutes. -/
structure FW (w : World) (g : Nat) (cs : Array Value) (lr : List S29) (vm : Value) (ms : List Int) (W : World) : Prop where
  r : RAt W g cs 0 lr
  q : Kd.R (Kd.int .i64) 3 W w.heap.size (fun _ => True) vm ms
  a : vm.ownBlock ≠ some g
  low : Below w.heap.size w W
theorem FW.grew {w : World} {g : Nat} {cs : Array Value} {lr : List S29} {vm vm1 : Value} {ms ms1 : List Int} {W W1 : World} (h : FW w g cs lr vm ms W) (hq : Kd.R (Kd.int .i64) 3 W1 w.heap.size (fun _ => True) vm1 ms1) (hl : Below w.heap.size w W1) (hg : W.grownBy W1 vm.ownBlock)
    (hat : vm1.ownBlock = vm.ownBlock ∨ ∃ b, vm1.ownBlock = some b ∧ W.heap.size ≤ b) : FW w g cs lr vm1 ms1 W1 := by
  refine ⟨h.r.ex (Ex.of_grown hg) (fun e => h.a e.symm), hq, fun e => ?_, hl⟩
  rcases hat with ha | ⟨b, ha, hb⟩
  · exact h.a (by rw [← ha]; exact e)
  · rw [ha] at e; injection e with e; have := h.r.lt; omega
/-- A push. -/
theorem FW.push {w : World} {g : Nat} {cs : Array Value} {lr : List S29} {vm : Value} {ms : List Int} {W : World} (h : FW w g cs lr vm ms W) (hg : w.heap.size ≤ g) (x : S29) {v : Int} {l' : List S29} (hp : pushF lr x = (v, l')) :
    Calls Try.prog 9 #[.pointer (some ⟨g, 0, none⟩), .agg #[.int .i64 x.f0, .int .i64 x.f1]] W fun e w' => e = .returned (.int .i64 v) ∧ ∃ cs', FW w g cs' l' vm ms w' :=
  (push_any h.r x).mono fun e w' ⟨he, ⟨cs', hr⟩, hx⟩ => ⟨by rw [hp] at he; exact he, cs', by rw [hp] at hr; exact hr,
    Kd.R_of_own (own_move (Kd.own_of_R h.q) (fun k hk => hx.block k (Kd.R_lt h.q k hk) (fun e => h.a (by rw [hk, e])))) (fun _ _ => trivial), h.a, h.low.trans (hx.below h.low.size (fun k e => by omega))⟩
set_option maxHeartbeats 4000000 in
set_option maxRecDepth 100000 in
theorem rfull_few (A0 : Option Addr) (c0 : Nat) (l0 : List Int) (ex : Int) (w : World) (hr0 : Kd.C (Kd.int .u8) w A0 l0.length l0) (hb0 : ∀ x ∈ l0, 0 ≤ x ∧ x < 256) (h : l0.length ≤ 40) :
    Calls Try.prog 3 #[.slice A0 l0.length c0, .int .i64 ex] w fun e w' => e = .returned (.bool true) ∧ Below w.heap.size w w' := by
  have HR := Aside0.mk hr0
  have HB := Aside0.mk hb0
  have hd1 : decide ((40 : Int) < (l0.length : Int)) = false := decide_eq_false (by omega)
  clear hr0 hb0
  go_enter Try.func3, Try.ntmps3
  go_wp2_with fail
  refine (new_some w).mono ?_
  rintro e w1 ⟨g, cs, rfl, hg, hr, hb⟩
  have F1 := Aside0.mk (show FW w g cs [] (.slice none 0 0) (([] : List S29).map (·.f0)) w1 from ⟨hr, Kd.R_nil _ _ _ _ (fun _ => True), (fun e => by cases e), hb⟩)
  have HG := Aside0.mk hg
  clear hr hb hg
  go_wp2_with fail
  go_loopw [8, 6, 7] (fun i a vm W => ∃ (k t : Nat) (cs : Array Value) (lr : List S29), i = .int .i64 (k : Int) ∧ k ≤ 37 ∧ a = .int .i64 (t : Int) ∧ t ≤ 255 * k ∧ lr.length = min k 32 ∧ Aside0 (Rise lr (t : Int)) ∧ Aside0 (FW w g cs lr vm (lr.map (·.f0)) W)) (fun i _ _ _ => 37 - (intOf i).toNat)
  case atStart => exact ⟨0, 0, cs, [], rfl, by omega, rfl, by omega, rfl, ⟨Rise.nil _⟩, F1⟩
  case round =>
    clear F1
    obtain ⟨k, t, cs, lr, rfl, hk, rfl, ht, hlr, RS, F⟩ := hrel
    by_cases hlt : k < 37
    · have hq1 : decide ((k : Int) < 37) = true := decide_eq_true (by omega)
      rcases Nat.eq_zero_or_pos l0.length with hz | hz
      · have hq2 : decide ((0 : Int) < (l0.length : Int)) = false := decide_eq_false (by omega)
        obtain ⟨t1, ht1⟩ : ∃ t1, t1 = t := ⟨_, rfl⟩
        rw [← ht1]
        have ht2 : t1 ≤ 255 * (k + 1) := by omega
        have ht3 : t ≤ t1 := by omega
        clear ht1
        go_upto_region 11 with (fail)
        clear hq1 hq2 hz
        obtain ⟨cs0, hcs0⟩ : ∃ c, c = cs := ⟨_, rfl⟩
        have hbad : ¬ badS ⟨(t1 : Int), (k : Int)⟩ := fun h => by rcases h with h | h | h <;> simp at h <;> omega
        have hle : ∀ y ∈ lr, y.f0 ≤ (t1 : Int) := fun y hy => by have := RS.out.le y hy; omega
        by_cases h32 : k < 32
        · have HP := Aside0.mk (F.out.push HG.out ⟨(t1 : Int), (k : Int)⟩ (push_ok hbad hle (by omega)))
          have hk32 : decide ((k : Int) < 32) = true := decide_eq_true (by omega)
          have RS2 := Aside0.mk ((RS.out.mono (show (t : Int) ≤ (t1 : Int) by omega)).snoc (x := ⟨(t1 : Int), (k : Int)⟩) rfl)
          clear hbad hle F RS
          go_wp2_with fail
          refine HP.out.mono ?_
          rintro e w2 ⟨rfl, cs', h2⟩
          have F2 := Aside0.mk h2
          clear h2 HP
          go_wp2_with ((with_reducible refine gate_builtin (b := .append) (xs := #[.tmp 55, .tmp 57]) rfl ?_); at_builtin; (refine Kd.R_append (Kd.int .i64) (w0 := w) w.heap.size rfl (.tmp 55) (.tmp 57) 25 3 (.int .i64 0) 8 rfl Try.underlying25 info3 rfl (by decide) (by omega) _ (lr.map (·.f0)) (t1 : Int) [.int .i64 (t1 : Int)] (fun _ => True) (fun _ => False) rfl (by first | rfl | (rw [World.size_alloc]; rfl)) rfl (fun _ hk => hk.elim) (fun _ _ => trivial) ?aO ?aB ?aS ?aL ?_; (case aO => first | exact F2.out.q | exact Kd.R_alloc F2.out.q _); (case aB => first | exact F2.out.low | exact F2.out.low.alloc F2.out.low.size _); (case aS => first | exact F2.out.low.size | exact (F2.out.low.alloc F2.out.low.size _).size); (case aL => simp; omega); intro v9 w9 ho hb hg hat; have F9 := Aside0.mk (F2.out.grew ho hb hg hat); clear ho hb hg hat))
          go_wp2_with fail
          go_roundw
          case rel => exact ⟨k + 1, t1, cs', lr ++ [⟨(t1 : Int), (k : Int)⟩], by go_num, by omega, by go_num, by omega, by rw [List.length_append]; simp; omega, RS2, by rw [List.map_append]; exact F9⟩
          case measure => simp [intOf]; omega
        · have HP := Aside0.mk (F.out.push HG.out ⟨(t1 : Int), (k : Int)⟩ (push_full hbad hle (by omega)))
          have hk32 : decide ((k : Int) < 32) = false := decide_eq_false (by omega)
          have hk32' : decide ((32 : Int) ≤ (k : Int)) = true := decide_eq_true (by omega)
          have RS2 := Aside0.mk (RS.out.mono (show (t : Int) ≤ (t1 : Int) by omega))
          clear hbad hle F RS
          go_wp2_with fail
          refine HP.out.mono ?_
          rintro e w2 ⟨rfl, cs', h2⟩
          have F2 := Aside0.mk h2
          clear h2 HP
          go_wp2_with fail
          go_roundw
          case rel => exact ⟨k + 1, t1, cs', lr, by go_num, by omega, by go_num, by omega, by omega, RS2, F2⟩
          case measure => simp [intOf]; omega
      · have hq2 : decide ((0 : Int) < (l0.length : Int)) = true := decide_eq_true (by omega)
        have hm : k % l0.length < l0.length := Nat.mod_lt _ hz
        obtain ⟨x, hx⟩ : ∃ x, l0[k % l0.length]? = some x := ⟨_, List.getElem?_eq_getElem hm⟩
        have hxb := HB.out x (List.mem_of_getElem? hx)
        obtain ⟨ad, rfl, hcell⟩ := Kd.at_int (Kd.C_below HR.out F.out.low) ((k % l0.length : Nat) : Int) (by omega) (by omega)
        rw [show rd l0 ((k % l0.length : Nat) : Int) = x from by unfold rd; rw [Int.toNat_natCast, List.getD_eq_getElem?_getD, hx]; rfl, Int.toNat_natCast] at hcell
        obtain ⟨y, rfl⟩ := Int.eq_ofNat_of_zero_le hxb.1
        have hne : (l0.length : Int) ≠ 0 := by omega
        have hne2 : l0.length ≠ 0 := by omega
        have hix1 : ((k % l0.length : Nat) : Int) < (l0.length : Int) := by omega
        clear hx
        have hwt : wrap64 ((t : Int) + (y : Int)) = (t : Int) + (y : Int) := w64 (by omega) (by omega)
        go_upto_region 11 with (fail)
        obtain ⟨t1, ht1⟩ : ∃ t1, t1 = t + y := ⟨_, rfl⟩
        rw [show (t : Int) + (y : Int) = (t1 : Int) by omega]
        have ht2 : t1 ≤ 255 * (k + 1) := by omega
        have ht3 : t ≤ t1 := by omega
        clear ht1 hwt hix1 hne hne2 hm hz hq1 hq2 hcell hxb
        obtain ⟨cs0, hcs0⟩ : ∃ c, c = cs := ⟨_, rfl⟩
        have hbad : ¬ badS ⟨(t1 : Int), (k : Int)⟩ := fun h => by rcases h with h | h | h <;> simp at h <;> omega
        have hle : ∀ y ∈ lr, y.f0 ≤ (t1 : Int) := fun y hy => by have := RS.out.le y hy; omega
        by_cases h32 : k < 32
        · have HP := Aside0.mk (F.out.push HG.out ⟨(t1 : Int), (k : Int)⟩ (push_ok hbad hle (by omega)))
          have hk32 : decide ((k : Int) < 32) = true := decide_eq_true (by omega)
          have RS2 := Aside0.mk ((RS.out.mono (show (t : Int) ≤ (t1 : Int) by omega)).snoc (x := ⟨(t1 : Int), (k : Int)⟩) rfl)
          clear hbad hle F RS
          go_wp2_with fail
          refine HP.out.mono ?_
          rintro e w2 ⟨rfl, cs', h2⟩
          have F2 := Aside0.mk h2
          clear h2 HP
          go_wp2_with ((with_reducible refine gate_builtin (b := .append) (xs := #[.tmp 55, .tmp 57]) rfl ?_); at_builtin; (refine Kd.R_append (Kd.int .i64) (w0 := w) w.heap.size rfl (.tmp 55) (.tmp 57) 25 3 (.int .i64 0) 8 rfl Try.underlying25 info3 rfl (by decide) (by omega) _ (lr.map (·.f0)) (t1 : Int) [.int .i64 (t1 : Int)] (fun _ => True) (fun _ => False) rfl (by first | rfl | (rw [World.size_alloc]; rfl)) rfl (fun _ hk => hk.elim) (fun _ _ => trivial) ?aO ?aB ?aS ?aL ?_; (case aO => first | exact F2.out.q | exact Kd.R_alloc F2.out.q _); (case aB => first | exact F2.out.low | exact F2.out.low.alloc F2.out.low.size _); (case aS => first | exact F2.out.low.size | exact (F2.out.low.alloc F2.out.low.size _).size); (case aL => simp; omega); intro v9 w9 ho hb hg hat; have F9 := Aside0.mk (F2.out.grew ho hb hg hat); clear ho hb hg hat))
          go_wp2_with fail
          go_roundw
          case rel => exact ⟨k + 1, t1, cs', lr ++ [⟨(t1 : Int), (k : Int)⟩], by go_num, by omega, by go_num, by omega, by rw [List.length_append]; simp; omega, RS2, by rw [List.map_append]; exact F9⟩
          case measure => simp [intOf]; omega
        · have HP := Aside0.mk (F.out.push HG.out ⟨(t1 : Int), (k : Int)⟩ (push_full hbad hle (by omega)))
          have hk32 : decide ((k : Int) < 32) = false := decide_eq_false (by omega)
          have hk32' : decide ((32 : Int) ≤ (k : Int)) = true := decide_eq_true (by omega)
          have RS2 := Aside0.mk (RS.out.mono (show (t : Int) ≤ (t1 : Int) by omega))
          clear hbad hle F RS
          go_wp2_with fail
          refine HP.out.mono ?_
          rintro e w2 ⟨rfl, cs', h2⟩
          have F2 := Aside0.mk h2
          clear h2 HP
          go_wp2_with fail
          go_roundw
          case rel => exact ⟨k + 1, t1, cs', lr, by go_num, by omega, by go_num, by omega, by omega, RS2, F2⟩
          case measure => simp [intOf]; omega
    · obtain rfl : k = 37 := by omega
      have hl32 : lr.length = 32 := by omega
      obtain ⟨Am, cm, rfl, hcm, hCm⟩ := Kd.R_reads F.out.q
      rw [List.length_map] at hcm hCm
      have CM := Aside0.mk hCm
      clear HR HB hCm hlr hcm
      rw [List.length_map]
      go_wp2_with fail
      go_loopw [11, 10] (fun i n W => ∃ j : Nat, i = .int .i64 (j : Int) ∧ j ≤ 32 ∧ n = .int .i64 ((((lr.take j).filter fun x => decide (x.f0 ≤ ex)).length : Nat) : Int) ∧ W = wr) (fun i _ _ => 32 - (intOf i).toNat)
      case atStart => exact ⟨0, rfl, by omega, rfl, rfl⟩
      case round =>
        obtain ⟨j, rfl, hj, rfl, rfl⟩ := hrel
        by_cases hjl : j < 32
        · obtain ⟨x, hx⟩ : ∃ x, lr[j]? = some x := ⟨_, List.getElem?_eq_getElem (by omega)⟩
          obtain ⟨ad, rfl, hcell⟩ := Kd.at_int CM.out (j : Int) (by omega) (by omega)
          rw [show rd (lr.map (·.f0)) (j : Int) = x.f0 from by unfold rd; rw [Int.toNat_natCast, List.getD_eq_getElem?_getD, List.getElem?_map, hx]; rfl, Int.toNat_natCast] at hcell
          have htk : lr.take (j + 1) = lr.take j ++ [x] := by rw [List.take_add_one, hx]; rfl
          have hdj : decide ((j : Int) < (lr.length : Int)) = true := decide_eq_true (by omega)
          have hcl : ((lr.take j).filter fun x => decide (x.f0 ≤ ex)).length ≤ 32 := Nat.le_trans (List.length_filter_le ..) (by rw [List.length_take]; omega)
          have HTK := Aside0.mk htk
          clear htk hx
          by_cases hxe : x.f0 ≤ ex
          · have hdx : decide (x.f0 ≤ ex) = true := decide_eq_true hxe
            have HN := Aside0.mk (show ((lr.take (j + 1)).filter fun x => decide (x.f0 ≤ ex)).length = ((lr.take j).filter fun x => decide (x.f0 ≤ ex)).length + 1 by rw [HTK.out, List.filter_append, List.filter_cons_of_pos (by simpa using hxe), List.filter_nil, List.length_append]; rfl)
            generalize ((lr.take j).filter fun x => decide (x.f0 ≤ ex)).length = c at *
            go_wp2_with fail
            go_roundw
            case rel => exact ⟨j + 1, by go_num, by omega, by rw [HN.out]; go_num, by first | rfl | trivial⟩
            case measure => simp [intOf]; omega
          · have hdx : decide (x.f0 ≤ ex) = false := decide_eq_false hxe
            have HN := Aside0.mk (show ((lr.take (j + 1)).filter fun x => decide (x.f0 ≤ ex)).length = ((lr.take j).filter fun x => decide (x.f0 ≤ ex)).length by rw [HTK.out, List.filter_append, List.filter_cons_of_neg (by simpa using hxe), List.filter_nil, List.append_nil])
            generalize ((lr.take j).filter fun x => decide (x.f0 ≤ ex)).length = c at *
            go_wp2_with fail
            go_roundw
            case rel => exact ⟨j + 1, by go_num, by omega, by rw [HN.out], by first | rfl | trivial⟩
            case measure => simp [intOf]; omega
        · obtain rfl : j = lr.length := by omega
          rw [List.take_length, count_exp lr RS.out.sorted ex]
          have hdj : decide ((lr.length : Int) < (lr.length : Int)) = false := decide_eq_false (by omega)
          have HEX := Aside0.mk (expire_to F.out.r F.out.low HG.out ex)
          have RS2 := Aside0.mk (RS.out.exp ex)
          have hle2 : (expF lr ex).length ≤ 32 := Nat.le_trans (List.dropWhile_sublist _).length_le (by omega)
          generalize hl2 : expF lr ex = l2 at *
          obtain ⟨N, hN⟩ : ∃ N, lr.length - l2.length = N := ⟨_, rfl⟩
          rw [hN] at HEX ⊢
          have hE : (l2.length : Int) = 32 - (N : Int) := by omega
          have hl2N : l2.length = 32 - N := by omega
          have hN32 : N ≤ 32 := by omega
          clear hN CM F RS hl2 hle2
          go_wp2_with fail
          refine HEX.out.mono ?_
          rintro e w3 ⟨rfl, ⟨cs3, first3, hr3⟩, hb3, _⟩
          have R3 := Aside0.mk hr3
          have B3 := Aside0.mk hb3
          clear hr3 hb3 HEX
          go_wp2_with fail
          refine (len_any R3.out).mono ?_
          rintro e w4 ⟨rfl, hw⟩
          have hw2 := hw.symm
          clear hw
          subst hw2
          rw [hE]
          clear hE
          go_wp2_with fail
          go_loopw [12] (fun i W => ∃ (j : Nat) (cs : Array Value) (first : Nat) (l3 : List S29), i = .int .i64 (j : Int) ∧ j ≤ N ∧ l3.length = 32 - N + j ∧ Aside0 (Rise l3 (t : Int)) ∧ Aside0 (RAt W g cs first l3) ∧ Aside0 (Below w.heap.size w W)) (fun i _ => N - (intOf i).toNat)
          case atStart => exact ⟨0, cs3, first3, l2, rfl, by omega, by omega, RS2, R3, B3⟩
          case round =>
            clear RS2 R3 B3
            obtain ⟨j, cs5, first5, l3, rfl, hj, hl3, RS3, R5, B5⟩ := hrel
            have hbad : ¬ badS ⟨(t : Int), 0⟩ := fun h => by rcases h with h | h | h <;> simp at h <;> omega
            have hle3 : ∀ y ∈ l3, y.f0 ≤ (t : Int) := fun y hy => RS3.out.le y hy
            by_cases hjn : j < N
            · have HP := Aside0.mk (push_to R5.out B5.out HG.out ⟨(t : Int), 0⟩ (push_ok hbad hle3 (by omega)))
              have RS4 := Aside0.mk (RS3.out.snoc (x := ⟨(t : Int), 0⟩) rfl)
              have hdj : decide ((j : Int) < (N : Int)) = true := decide_eq_true (by omega)
              clear hbad hle3
              go_wp2_with fail
              refine HP.out.mono ?_
              rintro e w6 ⟨rfl, ⟨cs6, hr6⟩, hb6⟩
              have R6 := Aside0.mk hr6
              have B6 := Aside0.mk hb6
              clear hr6 hb6 HP
              go_wp2_with fail
              go_roundw
              case rel => exact ⟨j + 1, cs6, first5, _, by go_num, by omega, by rw [List.length_append]; simp; omega, RS4, R6, B6⟩
              case measure => simp [intOf]; omega
            · obtain rfl : j = N := by omega
              have HP := Aside0.mk (push_to R5.out B5.out HG.out ⟨(t : Int), 0⟩ (push_full hbad hle3 (by omega)))
              have hdj : decide ((j : Int) < (j : Int)) = false := decide_eq_false (by omega)
              clear hbad hle3
              go_wp2_with fail
              refine HP.out.mono ?_
              rintro e w6 ⟨rfl, ⟨cs6, hr6⟩, hb6⟩
              have B6 := Aside0.mk hb6
              clear hr6 hb6 HP
              go_wp2_with fail
              go_ret
              exact ⟨rfl, B6.out⟩
set_option maxRecDepth 100000 in
theorem RingFull_walk (A0 : Option Addr) (c0 : Nat) (l0 : List Int) (ex : Int) (w : World) (hr0 : Kd.C (Kd.int .u8) w A0 l0.length l0) (_hc0 : l0.length ≤ c0) (hw0 : wfAll (Try.prog.bytesOf 5) (wfInt .u8) l0) (_h1 : wfInt .i64 ex) :
    Calls Try.prog 3 #[.slice A0 l0.length c0, .int .i64 ex] w fun e w' => e = .returned (.bool true) ∧ Below w.heap.size w w' := by
  by_cases h : 40 < l0.length
  · have hd1 : decide ((40 : Int) < (l0.length : Int)) = true := decide_eq_true (by omega)
    clear hr0 _hc0 hw0 _h1
    go_enter Try.func3, Try.ntmps3
    go_wp2_with fail
    go_ret
    exact ⟨rfl, Below.refl _ _⟩
  · exact rfull_few A0 c0 l0 ex w hr0 (fun x hx => by
      have := hw0.2 x hx
      simp [wfInt, Lit.wf, IntKind.min, IntKind.max, IntKind.bits, IntKind.signed] at this; omega) (by omega)
end Go.Proofs.Ytcaagnfhefkoiaa.Given
