/- What codec's Over and Reader.Uint do: the walks. -/
import Derived.Test.YtekbbpbpkekdhaaRd
namespace Go.Proofs.Ytekbbpbpkekdhaa.Cod
open Go.RowKit Go.Proofs.Ytekbbpbpkekdhaa.Ex Go.Proofs.YtekbbpbpkekdhaaW.PrintWords Go.Proofs.YtekbbpbpkekdhaaW.PrintLast Go.Proofs.YtekbbpbpkekdhaaW.PrintMore
theorem RAt.new {w w1 : World} {A : Option Addr} {n c : Nat} {xs : List Int} (h : Kd.R (Kd.int .u8) 5 w1 w.heap.size (fun _ => True) (.slice A n c) xs) (hb : Below w.heap.size w w1) :
    ∃ b, w.heap.size ≤ b ∧ RAt (w1.alloc (.cells #[.slice A n c, .bool true, .bool false] 65)) b w1.heap.size A c xs false := by
  obtain ⟨e, hc, hr⟩ := Kd.R_reads' h
  subst e
  obtain ⟨_, inner, ho, _⟩ := h
  rcases ho.2 with ⟨hv, _⟩ | ⟨g, cap, cur, hv, hbg, hcell, _⟩
  · injection hv with h1 h2 h3
    exact ⟨w.heap.size, Nat.le_refl _, by show (w1.heap.push _)[w1.heap.size]? = _; simp, hb.size, hc, Kd.C_below hr ((Below.refl _ _).alloc (Nat.le_refl _) _), fun ad e => by rw [h1] at e; cases e⟩
  · injection hv with h1 h2 h3
    have hlt := blk_lt hcell
    refine ⟨g, hbg, by show (w1.heap.push _)[w1.heap.size]? = _; simp, Nat.le_of_lt hlt, hc, Kd.C_below hr ((Below.refl _ _).alloc (Nat.le_refl _) _), fun ad e => ?_⟩
    rw [h1] at e; cases e
    refine ⟨rfl, by show g ≠ w1.heap.size; omega, rfl, cur, ?_⟩
    show (w1.heap.push _)[g]? = _
    rw [Array.getElem?_push_lt hlt, ← hcell, Array.getElem?_eq_getElem hlt]
set_option maxHeartbeats 400000 in
theorem over_any (A : Option Addr) (n c : Nat) (xs : List Int) (w : World) (hr : Kd.C (Kd.int .u8) w A n xs) (hl : n ≤ 140737488355328) :
    Calls Try.prog 20 #[.slice A n c] w fun e w' => ∃ b g A' c', e = .returned (.pointer (some ⟨g, 0, none⟩)) ∧ w.heap.size ≤ b ∧ RAt w' b g A' c' xs false ∧ Below w.heap.size w w' := by
  have HR := Aside0.mk (clone_any A n c xs w hr hl)
  clear hr
  go_enter Try.func20, Try.ntmps20
  go_wp2_with fail
  refine HR.out.mono ?_
  rintro e w1 ⟨v1, rfl, ho, hb⟩
  obtain ⟨A1, c1, rfl⟩ := Kd.R_slice ho
  obtain ⟨b, hbb, hrat⟩ := RAt.new ho hb
  have HO := Aside0.mk hrat
  have HBB := Aside0.mk hbb
  clear hrat hbb
  have HB := Aside0.mk (hb.alloc hb.size (.cells #[.slice A1 xs.length c1, .bool true, .bool false] 65))
  clear ho hb
  go_wp2_with fail
  go_ret
  exact ⟨_, _, _, _, rfl, HBB.out, HO.out, HB.out⟩
theorem and127 (x : Int) (h0 : 0 ≤ x) (h1 : x < 256) : Go.bits .and .u8 x 127 = ((x.toNat % 128 : Nat) : Int) := by
  obtain ⟨n, rfl⟩ := Int.eq_ofNat_of_zero_le h0
  rw [show (127 : Int) = ((127 : Nat) : Int) from rfl, u8_and_nat _ _ (by omega) (by omega), Int.toNat_natCast]
  congr 1
  exact Nat.and_two_pow_sub_one_eq_mod n 7
theorem orv (vv k y : Nat) (hk : k ≤ 8) (hv : vv < 2 ^ (7 * k)) (hy : y < 128) :
    Go.bits .or .u64 (vv : Int) (IntKind.u64.wrap (IntKind.u64.wrap (y : Int) * 2 ^ (7 * k))) = ((vv + y * 2 ^ (7 * k) : Nat) : Int) ∧ vv + y * 2 ^ (7 * k) < 2 ^ (7 * (k + 1)) := by
  have h1 : 2 ^ (7 * k) * 128 ≤ 9223372036854775808 := by
    have : 2 ^ (7 * k) ≤ 2 ^ 56 := Nat.pow_le_pow_right (by omega) (by omega)
    omega
  have h2 : y * 2 ^ (7 * k) + 2 ^ (7 * k) ≤ 2 ^ (7 * k) * 128 := by
    have : (y + 1) * 2 ^ (7 * k) ≤ 128 * 2 ^ (7 * k) := Nat.mul_le_mul_right _ (by omega)
    rw [Nat.add_mul, Nat.one_mul] at this
    omega
  have e1 : IntKind.u64.wrap (y : Int) = y := by rw [wrap_u64]; omega
  have e2 : IntKind.u64.wrap ((y : Int) * 2 ^ (7 * k)) = ((y * 2 ^ (7 * k) : Nat) : Int) := by
    have : (y : Int) * 2 ^ (7 * k) = ((y * 2 ^ (7 * k) : Nat) : Int) := by push_cast; rfl
    rw [this, wrap_u64]; omega
  rw [e1, e2, u64_or_nat _ _ (by omega) (by omega)]
  constructor
  · congr 1
    rw [Nat.or_comm, Nat.mul_comm y, ← Nat.two_pow_add_eq_or_of_lt hv, Nat.add_comm]
  · rw [show 7 * (k + 1) = 7 * k + 7 by omega, Nat.pow_add]
    omega
theorem orv9 (vv y : Nat) (hv : vv < 2 ^ (7 * 9)) (hy : y < 2) :
    Go.bits .or .u64 (vv : Int) (IntKind.u64.wrap (IntKind.u64.wrap (y : Int) * 9223372036854775808)) = ((vv + y * 2 ^ (7 * 9) : Nat) : Int) := by
  have e1 : IntKind.u64.wrap (y : Int) = y := by rw [wrap_u64]; omega
  have e2 : IntKind.u64.wrap ((y : Int) * 9223372036854775808) = ((y * 2 ^ (7 * 9) : Nat) : Int) := by
    rw [wrap_u64]; omega
  rw [e1, e2, u64_or_nat _ _ (by omega) (by omega)]
  congr 1
  rw [Nat.or_comm, Nat.mul_comm y, ← Nat.two_pow_add_eq_or_of_lt hv, Nat.add_comm]
/-- How a number is read: at most so many bytes, the i-th now, v so far. -/
def rdU : Nat → Nat → Nat → List Int → Option (Nat × List Int)
  | 0, _, _, _ => none
  | _ + 1, _, _, [] => none
  | f + 1, i, v, x :: xs => if i = 9 ∧ 1 < x then none else if x < 128 then (if x = 0 ∧ 0 < i then none else some (v + x.toNat * 2 ^ (7 * i), xs)) else rdU f (i + 1) (v + (x.toNat - 128) * 2 ^ (7 * i)) xs
theorem rdU_nil (f i v : Nat) : rdU f i v [] = none := by cases f <;> rfl
def isB (xs : List Int) : Prop := ∀ x ∈ xs, 0 ≤ x ∧ x < 256
/-- What Uint leaves. -/
def UPost (base g : Nat) (w : World) (o : Option (Nat × List Int)) (e : Ending) (w' : World) : Prop :=
  Ex (fun k => k = g) w w' ∧ match o with
  | some (n, r) => e = .returned (.int .u64 (n : Int)) ∧ ∃ A c, RAt w' base g A c r false
  | none => e = .returned (.int .u64 0) ∧ ∃ A c r, RAt w' base g A c r true
set_option maxHeartbeats 400000 in
set_option maxRecDepth 100000 in
theorem ruint_any (base g : Nat) (A : Option Addr) (c : Nat) (xs : List Int) (w : World) (hw : RAt w base g A c xs false) (hx : isB xs) :
    Calls Try.prog 38 #[.pointer (some ⟨g, 0, none⟩)] w (UPost base g w (rdU 10 0 0 xs)) := by
  have HW := Aside0.mk hw
  have HX := Aside0.mk hx
  clear hw hx
  obtain ⟨o, ho⟩ : ∃ o, rdU 10 0 0 xs = o := ⟨_, rfl⟩
  rw [ho]
  have HO := Aside0.mk ho
  clear ho
  go_enter Try.func38, Try.ntmps38
  go_wp2_with fail
  refine (dead_any base g A c xs false w HW.out).mono ?_
  rintro e w1 ⟨rfl, rfl⟩
  go_wp2_with fail
  go_loopw [3, 8] (fun x y wr => ∃ (k vv : Nat) (A' : Option Addr) (c' : Nat) (ys : List Int), x = .int .u64 vv ∧ y = .int .i64 k ∧ k ≤ 10 ∧ vv < 2 ^ (7 * k) ∧ Aside0 (isB ys) ∧ Aside0 (RAt wr base g A' c' ys false) ∧ Aside0 (rdU (10 - k) k vv ys = o) ∧ Aside0 (Ex (fun k => k = g) w1 wr)) (fun _ y _ => 10 - (intOf y).toNat)
  case atStart => exact ⟨0, 0, A, c, xs, rfl, rfl, by omega, by simp, HX, HW, HO, ⟨Ex.refl _ _⟩⟩
  case round =>
    clear HW HX HO
    obtain ⟨k, vv, A', c', ys, rfl, rfl, hk, hvv, HX, HW, HO, HE⟩ := hrel
    by_cases hk10 : k = 10
    · subst hk10
      have ho : o = none := by rw [← HO.out]; rfl
      subst ho
      clear HO hvv
      go_wp2_with fail
      refine (fail_any base g A' c' ys false wr HW.out).mono ?_
      rintro e w2 ⟨rfl, h2, hx2⟩
      have H2 := Aside0.mk h2
      have HE2 := Aside0.mk (HE.out.trans hx2)
      clear h2 hx2
      go_wp2_with fail
      go_ret
      exact ⟨HE2.out, rfl, _, _, _, H2.out⟩
    · have hdk : decide ((k : Int) < 10) = true := by simp; omega
      cases ys with
      | nil =>
        have ho : o = none := by rw [← HO.out]; exact rdU_nil _ _ _
        subst ho
        clear HO hvv
        have kn := fun w => Lib.run_eql_slice_nil (P := Try.prog) w 26 5 none 0 0 0 0 Try.underlying26
        go_wp2_with fail
        refine (take_less base g A' c' [] false wr HW.out 1 (by simp)).mono ?_
        rintro e w2 ⟨rfl, rfl⟩
        go_wp2_with fail
        refine (fail_any base g A' c' [] false _ HW.out).mono ?_
        rintro e w2 ⟨rfl, h2, hx2⟩
        have H2 := Aside0.mk h2
        have HE2 := Aside0.mk (HE.out.trans hx2)
        clear h2 hx2
        go_wp2_with fail
        go_ret
        exact ⟨HE2.out, rfl, _, _, _, H2.out⟩
      | cons x zs =>
        have hx0 := HX.out x List.mem_cons_self
        have HZ := Aside0.mk (fun y hy => HX.out y (List.mem_cons_of_mem _ hy) : isB zs)
        clear HX
        go_wp2_with fail
        refine (take_some base g A' c' (x :: zs) false wr HW.out 1 (by simp)).mono ?_
        rintro e w2 ⟨rfl, h2, hc2, hx2⟩
        obtain ⟨ad, rfl, hcell⟩ := Kd.at_int hc2 0 (by omega) (by omega)
        have hx : rd (List.take 1 (x :: zs)) 0 = x := rfl
        rw [hx, show ad.add (Int.toNat 0) = ad by simp [Addr.add]] at hcell
        have H2 := Aside0.mk (show RAt w2 base g (adv (some ad) c' 1) (c' - 1) zs false from h2)
        have HE2 := Aside0.mk (HE.out.trans hx2)
        clear h2 hc2 hx2 hx HE HW
        generalize adv (some ad) c' 1 = A2 at *
        generalize c' - 1 = c2 at *
        have kn := fun w => Lib.run_eql_slice_nil (P := Try.prog) w 26 5 (some ad) 1 1 0 0 Try.underlying26
        by_cases h9 : k = 9 ∧ 1 < x
        · obtain ⟨rfl, h1x⟩ := h9
          have ho : o = none := by rw [← HO.out]; show rdU (0 + 1) 9 vv (x :: zs) = none; unfold rdU; rw [if_pos ⟨rfl, h1x⟩]
          subst ho
          have hd1 : decide (1 < x) = true := decide_eq_true h1x
          clear HO hvv
          go_wp2_with fail
          refine (fail_any base g A2 c2 zs false _ H2.out).mono ?_
          rintro e w3 ⟨rfl, h3, hx3⟩
          have H3 := Aside0.mk h3
          have HE3 := Aside0.mk (HE2.out.trans hx3)
          clear h3 hx3
          go_wp2_with fail
          go_ret
          exact ⟨HE3.out, rfl, _, _, _, H3.out⟩
        · obtain ⟨y, rfl⟩ := Int.eq_ofNat_of_zero_le hx0.1
          have hy := hx0.2
          have ha := and127 (y : Int) hx0.1 hx0.2
          rw [Int.toNat_natCast] at ha
          have hyz : ((y : Int) == 0) = decide (y = 0) := by
            by_cases h : y = 0
            · subst h; rfl
            · rw [decide_eq_false h]; exact beq_eq_false_iff_ne.2 (by omega)
          by_cases hk9 : k = 9
          · subst hk9
            have hy2 : y < 2 := by omega
            have hor := orv9 vv (y % 128) hvv (by omega)
            rw [← ha] at hor
            have hd1 : decide (1 < (y : Int)) = false := decide_eq_false (by omega)
            have hd128 : decide ((y : Int) < 128) = true := decide_eq_true (by omega)
            by_cases hy0 : y = 0
            · subst hy0
              have ho : o = none := by rw [← HO.out]; show rdU (0 + 1) 9 vv ((0 : Int) :: zs) = none; unfold rdU; rw [if_neg (by omega), if_pos (by omega), if_pos (by omega)]
              subst ho
              clear HO hvv hor
              go_wp2_with fail
              refine (fail_any base g A2 c2 zs false _ H2.out).mono ?_
              rintro e w3 ⟨rfl, h3, hx3⟩
              have H3 := Aside0.mk h3
              have HE3 := Aside0.mk (HE2.out.trans hx3)
              clear h3 hx3
              go_wp2_with fail
              go_ret
              exact ⟨HE3.out, rfl, _, _, _, H3.out⟩
            · obtain rfl : y = 1 := by omega
              obtain ⟨nv, hnv⟩ : ∃ nv, nv = vv + 1 % 128 * 2 ^ (7 * 9) := ⟨_, rfl⟩
              rw [← hnv] at hor
              have ho : o = some (nv, zs) := by rw [hnv, ← HO.out]; show rdU (0 + 1) 9 vv ((1 : Int) :: zs) = _; unfold rdU; rw [if_neg (by omega), if_pos (by omega), if_neg (by omega)]; rfl
              subst ho
              clear HO hvv ha hnv
              go_wp2_with fail
              go_ret
              exact ⟨HE2.out, by show Ending.returned (Value.int .u64 _) = _; exact congrArg _ (congrArg _ hor), _, _, H2.out⟩
          · have hk8 : k ≤ 8 := by omega
            have hke : ((k : Int) == 9) = false := beq_eq_false_iff_ne.2 (by omega)
            obtain ⟨hor, hlt⟩ := orv vv k (y % 128) hk8 hvv (by omega)
            rw [← ha] at hor
            obtain ⟨f, hf⟩ : ∃ f, 10 - k = f + 1 := ⟨9 - k, by omega⟩
            rw [hf] at HO
            by_cases h128 : y < 128
            · have hd128 : decide ((y : Int) < 128) = true := decide_eq_true (by omega)
              by_cases hf0 : y = 0 ∧ 0 < k
              · obtain ⟨rfl, hk0⟩ := hf0
                have ho : o = none := by rw [← HO.out]; unfold rdU; rw [if_neg (by omega), if_pos (by omega), if_pos (by omega)]
                subst ho
                have hdk0 : decide ((0 : Int) < (k : Int)) = true := decide_eq_true (by omega)
                clear HO hvv hor
                go_wp2_with fail
                refine (fail_any base g A2 c2 zs false _ H2.out).mono ?_
                rintro e w3 ⟨rfl, h3, hx3⟩
                have H3 := Aside0.mk h3
                have HE3 := Aside0.mk (HE2.out.trans hx3)
                clear h3 hx3
                go_wp2_with fail
                go_ret
                exact ⟨HE3.out, rfl, _, _, _, H3.out⟩
              · obtain ⟨nv, hnv⟩ : ∃ nv, nv = vv + y % 128 * 2 ^ (7 * k) := ⟨_, rfl⟩
                rw [← hnv] at hor
                have ho : o = some (nv, zs) := by rw [hnv, ← HO.out]; unfold rdU; rw [if_neg (by omega), if_pos (by omega), if_neg (by omega), Int.toNat_natCast, Nat.mod_eq_of_lt h128]
                subst ho
                clear HO hvv ha hnv
                by_cases hy0 : y = 0
                · subst hy0
                  have hk0 : k = 0 := by omega
                  subst hk0
                  clear hlt hf hf0
                  rw [show (2 : Int) ^ (7 * 0) = 1 from rfl, Int.mul_one] at hor
                  go_wp2_with fail
                  go_ret
                  exact ⟨HE2.out, congrArg Ending.returned (congrArg (Value.int .u64) hor), _, _, H2.out⟩
                · have hyf : ((y : Int) == 0) = false := beq_eq_false_iff_ne.2 (by omega)
                  clear hyz hlt hf hf0
                  go_wp2_with fail
                  go_ret
                  exact ⟨HE2.out, rfl, _, _, H2.out⟩
            · have hd128 : decide ((y : Int) < 128) = false := decide_eq_false (by omega)
              have ho : rdU f (k + 1) (vv + y % 128 * 2 ^ (7 * k)) zs = o := by
                rw [← HO.out, show rdU (f + 1) k vv ((y : Int) :: zs) = rdU f (k + 1) (vv + ((y : Int).toNat - 128) * 2 ^ (7 * k)) zs by rw [rdU, if_neg (by omega), if_neg (by omega)], Int.toNat_natCast, show y % 128 = y - 128 by omega]
              have HO2 := Aside0.mk (show rdU (10 - (k + 1)) (k + 1) (vv + y % 128 * 2 ^ (7 * k)) zs = o by rw [show 10 - (k + 1) = f by omega]; exact ho)
              have HL := Aside0.mk hlt
              have HR := Aside0.mk hor
              clear ho hlt HO hvv hf hor ha
              generalize vv + y % 128 * 2 ^ (7 * k) = nv at *
              go_wp2_with fail
              go_roundw
              case rel => exact ⟨k + 1, nv, A2, c2, zs, congrArg (Value.int .u64) HR.out, by go_num, by omega, HL.out, HZ, H2, HO2, HE2⟩
              case measure => simp [intOf]; omega
end Go.Proofs.Ytekbbpbpkekdhaa.Cod
