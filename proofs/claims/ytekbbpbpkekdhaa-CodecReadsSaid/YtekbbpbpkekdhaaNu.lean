/- What the reference's number tells: plain. -/
import Derived.Test.YtekbbpbpkekdhaaForm
import Derived.Test.YtekbbpbpkekdhaaDec
import Derived.Test.YtekbbpbpkekdhaaWrites
import Derived.Deep.RegionHeld3
namespace Go.Proofs.Ytekbbpbpkekdhaa.Cod
open Go.RowKit
/-- What bytes say, the lowest first: seven bits a byte. -/
def valL : List Int → Nat
  | [] => 0
  | x :: xs => x.toNat % 128 + 128 * valL xs
theorem valL_enc (m : Nat) : ∀ n, n ≤ m → valL (enc n) = n := by
  induction m with
  | zero => intro n h; rw [enc_small (by omega)]; simp [valL]; omega
  | succ m ih =>
    intro n h
    by_cases hs : n < 128
    · rw [enc_small hs]; simp [valL]; omega
    · rw [enc_big hs]
      show ((n % 128 + 128 : Nat) : Int).toNat % 128 + 128 * valL (enc (n / 128)) = n
      rw [ih (n / 128) (by omega), Int.toNat_natCast]; omega
/-- The first k bytes are a number's form. -/
def Hit (xs : List Int) (k : Nat) : Prop := enc (valL (xs.take k) % 18446744073709551616) = xs.take k
theorem enc_pos (n : Nat) : 0 < (enc n).length := by
  by_cases hs : n < 128
  · rw [enc_small hs]; simp
  · rw [enc_big hs]; simp
theorem hit_some {xs : List Int} {k : Nat} (h : Hit xs k) : rdU 10 0 0 xs = some (valL (xs.take k) % 18446744073709551616, xs.drop k) := by
  have e : xs = enc (valL (xs.take k) % 18446744073709551616) ++ xs.drop k := by rw [h, List.take_append_drop]
  have := rdU_of (n := valL (xs.take k) % 18446744073709551616) (by omega) (xs.drop k)
  rwa [← e] at this
theorem some_hit {xs : List Int} (hx : isB xs) {n : Nat} {r : List Int} (h : rdU 10 0 0 xs = some (n, r)) : ∃ k, 1 ≤ k ∧ k ≤ 10 ∧ k ≤ xs.length ∧ Hit xs k := by
  obtain ⟨e, hn⟩ := rdU_some hx h
  have h1 := enc_pos n
  have h10 := enc_le10 hn
  refine ⟨(enc n).length, h1, h10, by rw [e, List.length_append]; omega, ?_⟩
  have ht : xs.take (enc n).length = enc n := by rw [e, List.take_left]
  unfold Hit
  rw [ht, valL_enc n n (Nat.le_refl _), Nat.mod_eq_of_lt hn]
theorem none_of {xs : List Int} (hx : isB xs) {K : Nat} (hK : 10 < K ∨ xs.length < K) (h : ∀ k, 1 ≤ k → k < K → ¬ Hit xs k) : rdU 10 0 0 xs = none := by
  cases hr : rdU 10 0 0 xs with
  | none => rfl
  | some p =>
    obtain ⟨k, h1, h10, hl, hh⟩ := some_hit hx (show rdU 10 0 0 xs = some (p.1, p.2) from hr)
    exact absurd hh (h k h1 (by omega))
/-- A step of the inner loop: the byte before. -/
theorem valL_step {xs : List Int} {i : Nat} {x : Int} (hx : xs[i]? = some x) {k : Nat} (hk : i < k) (hb : 0 ≤ x) :
    IntKind.u64.wrap (IntKind.u64.wrap (((valL ((xs.take k).drop (i + 1)) % 18446744073709551616 : Nat) : Int) * 128) + x % 128) = ((valL ((xs.take k).drop i) % 18446744073709551616 : Nat) : Int) := by
  have hlt := (List.getElem?_eq_some_iff.1 hx).1
  have e : (xs.take k).drop i = x :: (xs.take k).drop (i + 1) := by
    have hl : i < (xs.take k).length := by rw [List.length_take]; omega
    rw [List.drop_eq_getElem_cons hl]
    congr 1
    rw [List.getElem_take]
    exact (List.getElem?_eq_some_iff.1 hx).2
  rw [e]
  show _ = (((x.toNat % 128 + 128 * valL ((xs.take k).drop (i + 1))) % 18446744073709551616 : Nat) : Int)
  rw [wrap_u64, wrap_u64]
  omega
end Go.Proofs.Ytekbbpbpkekdhaa.Cod
/-! What the reference's number does: the walk. -/
namespace Go.Proofs.Ytekbbpbpkekdhaa.Cod
open Go.RowKit Go.Proofs.Ytekbbpbpkekdhaa.Ex Go.Proofs.Ytekbbpbpkekdhaa.PBase Go.Proofs.Ytekbbpbpkekdhaa.OpenS Go.Proofs.Ytekbbpbpkekdhaa.Given Go.Proofs.YtekbbpbpkekdhaaW.PrintWords Go.Proofs.YtekbbpbpkekdhaaW.PrintLast Go.Proofs.YtekbbpbpkekdhaaW.PrintMore
theorem isB_drop {xs : List Int} (h : isB xs) (n : Nat) : isB (xs.drop n) := fun x hx => h x (List.mem_of_mem_drop hx)
theorem wr64 (x : Int) (h0 : -9223372036854775808 ≤ x) (h1 : x ≤ 9223372036854775807) : IntKind.i64.wrap x = x := by simp [IntKind.wrap, IntKind.bits, IntKind.signed]; omega
/-- The reference's reader at g. -/
structure QAt (W : World) (g : Nat) (A : Option Addr) (c : Nat) (bs : List Int) (a : Nat) (f : Bool) : Prop where
  blk : W.heap[g]? = some (.cells #[.slice A bs.length c, .int .i64 (a : Int), .bool f] 40 (0, 0))
  row : Kd.C (Kd.int .u8) W A bs.length bs
  cap : bs.length ≤ c
  le : a ≤ bs.length
  far : ∀ ad, A = some ad → 0 < bs.length → ad.block ≠ g
theorem QAt.lt {W : World} {g : Nat} {A : Option Addr} {c : Nat} {bs : List Int} {a : Nat} {f : Bool} (h : QAt W g A c bs a f) : g < W.heap.size := blk_lt h.blk
theorem QAt.below {W W1 : World} {g : Nat} {A : Option Addr} {c : Nat} {bs : List Int} {a : Nat} {f : Bool} (h : QAt W g A c bs a f) (hb : Below W.heap.size W W1) : QAt W1 g A c bs a f :=
  ⟨(hb.block _ (blk_lt h.blk)).trans h.blk, Kd.C_below h.row hb, h.cap, h.le, h.far⟩
theorem QAt.ex {S : Nat → Prop} {W W1 : World} {g : Nat} {A : Option Addr} {c : Nat} {bs : List Int} {a : Nat} {f : Bool} (h : QAt W g A c bs a f) (hx : Ex S W W1) (hg : ¬ S g) (hA : ∀ ad, A = some ad → 0 < bs.length → ¬ S ad.block) : QAt W1 g A c bs a f :=
  ⟨hx.heap h.blk hg, C_ex h.row hx (fun ad e hn => hA ad e hn), h.cap, h.le, h.far⟩
theorem QAt.drew {W : World} {g : Nat} {A : Option Addr} {c : Nat} {bs : List Int} {a : Nat} {f : Bool} (h : QAt W g A c bs a f) : QAt W.drew g A c bs a f := h.below (below_drew (Below.refl _ _))
theorem below_drew_then {W W1 : World} (h : Below W.drew.heap.size W.drew W1) : Below W.heap.size W W1 := (below_drew (Below.refl W.heap.size W)).trans h
/-- The reader's place is set. -/
theorem QAt.go {W : World} {g : Nat} {A : Option Addr} {c : Nat} {bs : List Int} {a : Nat} {f : Bool} (h : QAt W g A c bs a f) (b : Nat) (hb : b ≤ bs.length) : QAt (W.setCell ⟨g, 1, none⟩ (.int .i64 (b : Int))) g A c bs b f ∧ Ex (fun k => k = g) W (W.setCell ⟨g, 1, none⟩ (.int .i64 (b : Int))) := by
  have hx : Ex (fun k => k = g) W (W.setCell ⟨g, 1, none⟩ (.int .i64 (b : Int))) := (Ex.refl (fun k => k = g) W).setCell (p := ⟨g, 1, none⟩) (fun _ => rfl) _
  exact ⟨⟨blk_set h.blk 1 _, C_ex h.row hx (fun ad e hn => h.far ad e hn), h.cap, hb, h.far⟩, hx⟩
theorem QAt.fail {W : World} {g : Nat} {A : Option Addr} {c : Nat} {bs : List Int} {a : Nat} {f : Bool} (h : QAt W g A c bs a f) : QAt (W.setCell ⟨g, 2, none⟩ (.bool true)) g A c bs a true ∧ Ex (fun k => k = g) W (W.setCell ⟨g, 2, none⟩ (.bool true)) := by
  have hx : Ex (fun k => k = g) W (W.setCell ⟨g, 2, none⟩ (.bool true)) := (Ex.refl (fun k => k = g) W).setCell (p := ⟨g, 2, none⟩) (fun _ => rfl) _
  exact ⟨⟨blk_set h.blk 2 _, C_ex h.row hx (fun ad e hn => h.far ad e hn), h.cap, h.le, h.far⟩, hx⟩
theorem cut_row {A : Option Addr} {c : Nat} {bs : List Int} {a k : Nat} (hc : bs.length ≤ c) (h : a + k ≤ bs.length) :
    ∃ A' c' ys, ys = (bs.drop a).take k ∧ (∀ W : World, (Instr.slice 26 (.slice A bs.length c) (some (.int .i64 (a : Int))) (some (.int .i64 ((a : Int) + (k : Int)))) none).run Try.prog W = .ok (.slice A' ys.length c') W) ∧ ys.length ≤ c' ∧ ∀ W, Kd.C (Kd.int .u8) W A bs.length bs → Kd.C (Kd.int .u8) W A' ys.length ys := by
  obtain ⟨i0, hi, _, hsz, _⟩ := info_parts info5
  have hcut := cut_mid (P := Try.prog) 26 5 .i64 .i64 Try.underlying26 hi 1 hsz A bs.length c (a : Int) ((a : Int) + (k : Int)) (by omega) (by omega) (by omega) hc
  rw [Int.toNat_natCast, show ((a : Int) + (k : Int)).toNat = a + k by omega, Nat.add_sub_cancel_left] at hcut
  have hl2 : ((bs.drop a).take k).length = k := by rw [List.length_take, List.length_drop]; omega
  refine ⟨_, _, _, rfl, by rw [hl2]; exact hcut, by omega, fun W hr => ?_⟩
  have h1 := Kd.C_take hr h
  have hl : (bs.take (a + k)).length = a + k := by rw [List.length_take]; omega
  have h2 := Kd.C_drop (c := c) h1 (show a ≤ (bs.take (a + k)).length by rw [hl]; omega) (by rw [hl]; omega)
  have e : (bs.take (a + k)).drop a = (bs.drop a).take k := by rw [List.drop_take, Nat.add_sub_cancel_left]
  rw [e] at h2
  exact h2
set_option maxRecDepth 100000 in
theorem valL_step3 {xs : List Int} {i : Nat} {x : Int} (hx : xs[i]? = some x) {k : Nat} (hk : i < k) (hb : 0 ≤ x) :
    IntKind.u64.wrap (IntKind.u64.wrap ((valL ((xs.take k).drop (i + 1)) : Int) % 18446744073709551616 * 128) + IntKind.u64.wrap (x.tmod 128)) = ((valL ((xs.take k).drop i) % 18446744073709551616 : Nat) : Int) := by
  rw [← valL_step hx hk hb, Int.tmod_eq_emod_of_nonneg hb]
  simp only [wrap_u64]
  omega
/-- What number leaves. -/
def NPost (g : Nat) (A : Option Addr) (c : Nat) (bs : List Int) (a : Nat) (f : Bool) (w : World) (e : Ending) (w' : World) : Prop :=
  Ex (fun k => k = g) w w' ∧ match rdU 10 0 0 (bs.drop a) with
  | some (n, r) => e = .returned (.tuple #[.int .u64 (n : Int), .bool true]) ∧ ∃ b, QAt w' g A c bs b f ∧ r = bs.drop b
  | none => e = .returned (.tuple #[.int .u64 0, .bool false]) ∧ QAt w' g A c bs a f
set_option maxHeartbeats 1000000 in
set_option maxRecDepth 100000 in
theorem rnumber_any (g : Nat) (A : Option Addr) (c : Nat) (bs : List Int) (a : Nat) (f : Bool) (w : World) (hq : QAt w g A c bs a f) (hb : isB bs) (hl : bs.length ≤ 100000) :
    Calls Try.prog 43 #[.pointer (some ⟨g, 0, none⟩)] w (NPost g A c bs a f w) := by
  have HQ := Aside0.mk hq
  have HB := Aside0.mk hb
  have hle := hq.le
  have hcap := hq.cap
  clear hq hb
  go_enter Try.func43, Try.ntmps43
  go_wp2_with fail
  go_loopw [4] (fun x W => ∃ k : Nat, x = .int .i64 (k : Int) ∧ 1 ≤ k ∧ k ≤ 11 ∧ Aside0 (∀ j, 1 ≤ j → j < k → ¬ Hit (bs.drop a) j) ∧ Aside0 (QAt W g A c bs a f) ∧ Aside0 (Ex (fun k => k = g) w W)) (fun x _ => 11 - (intOf x).toNat)
  case atStart => exact ⟨1, rfl, by omega, by omega, ⟨fun j h1 h2 => by omega⟩, HQ, ⟨Ex.refl _ _⟩⟩
  case round =>
    clear HQ
    obtain ⟨k, rfl, hk1, hk11, HN, Q, E⟩ := hrel
    have q0 : wr.cell? ⟨g, 0, none⟩ = some (.slice A bs.length c) := blk_cell Q.out.blk 0
    have q1 : wr.cell? ⟨g, 1, none⟩ = some (.int .i64 (a : Int)) := blk_cell Q.out.blk 1
    by_cases hgo : k ≤ 10 ∧ a + k ≤ bs.length
    · obtain ⟨hk10, hak⟩ := hgo
      have hd1 : decide ((k : Int) ≤ 10) = true := decide_eq_true (by omega)
      have hd2 : decide ((a : Int) + (k : Int) ≤ (bs.length : Int)) = true := decide_eq_true (by omega)
      go_upto_region 2 with (fail)
      have hS0 : wr.drew.cell? ⟨g, 0, none⟩ = some (.slice A bs.length c) ∧ wr.drew.cell? ⟨g, 1, none⟩ = some (.int .i64 (a : Int)) := ⟨q0, q1⟩
      go_region_held3 (fun W' : World => W'.cell? ⟨g, 0, none⟩ = some (.slice A bs.length c) ∧ W'.cell? ⟨g, 1, none⟩ = some (.int .i64 (a : Int))) (first | assumption | go_keep) (fail)
      rw [wr64 ((a : Int) + (k : Int)) (by omega) (by omega), hd2]
      go_wp2_with fail
      refine gen_wp (fun W => QAt W g A c bs a f ∧ Ex (fun k => k = g) w W) ⟨Q.out.drew, E.out.drew⟩ ?_
      rintro V ⟨hQ, hE⟩
      have Q1 := Aside0.mk hQ
      have E1 := Aside0.mk hE
      clear hQ hE q0 q1 hS0 Q E
      have hvl0 : valL (((bs.drop a).take k).drop k) = 0 := by rw [List.drop_eq_nil_of_le (by rw [List.length_take]; omega)]; rfl
      go_loopw [5, 6] (fun x y W => ∃ i : Int, x = .int .u64 ((valL (((bs.drop a).take k).drop (i + 1).toNat) % 18446744073709551616 : Nat) : Int) ∧ y = .int .i64 i ∧ -1 ≤ i ∧ i < k ∧ Aside0 (QAt W g A c bs a f) ∧ Aside0 (Ex (fun k => k = g) w W)) (fun _ y _ => (intOf y + 1).toNat)
      case atStart => exact ⟨(k : Int) - 1, by rw [show ((k : Int) - 1 + 1).toNat = k by omega, hvl0]; rfl, rfl, by omega, by omega, Q1, E1⟩
      case round =>
        clear Q1 E1
        obtain ⟨i, rfl, rfl, hi0, hik, Q, E⟩ := hrel
        have q0 : wr.cell? ⟨g, 0, none⟩ = some (.slice A bs.length c) := blk_cell Q.out.blk 0
        have q1 : wr.cell? ⟨g, 1, none⟩ = some (.int .i64 (a : Int)) := blk_cell Q.out.blk 1
        by_cases hi : 0 ≤ i
        · obtain ⟨j, rfl⟩ := Int.eq_ofNat_of_zero_le hi
          obtain ⟨x, hx⟩ : ∃ x, bs[a + j]? = some x := ⟨_, List.getElem?_eq_getElem (by omega)⟩
          have hxb := HB.out x (List.mem_of_getElem? hx)
          have hys : (bs.drop a)[j]? = some x := by rw [List.getElem?_drop]; exact hx
          have hst := Aside0.mk (valL_step3 hys (k := k) (by omega) hxb.1)
          rw [show ((j : Int) + 1).toNat = j + 1 by omega]
          obtain ⟨ad, rfl, hcell⟩ := Kd.at_int Q.out.row ((a : Int) + (j : Int)) (by omega) (by omega)
          rw [show rd bs ((a : Int) + (j : Int)) = x from by unfold rd; rw [show ((a : Int) + (j : Int)).toNat = a + j by omega, List.getD_eq_getElem?_getD, hx]; rfl] at hcell
          have hd3 : decide ((0 : Int) ≤ (j : Int)) = true := decide_eq_true (by omega)
          go_upto_region 8 with (fail)
          have hS0 : wr.drew.cell? ⟨g, 0, none⟩ = some (.slice (some ad) bs.length c) ∧ wr.drew.cell? ⟨g, 1, none⟩ = some (.int .i64 (a : Int)) ∧ wr.drew.cell? (ad.add ((a : Int) + (j : Int)).toNat) = some (.int .u8 x) := ⟨q0, q1, hcell⟩
          have hw9 : IntKind.i64.wrap ((a : Int) + (j : Int)) = (a : Int) + (j : Int) := wr64 _ (by omega) (by omega)
          have hix0 : (0 : Int) ≤ (a : Int) + (j : Int) := by omega
          have hix1 : (a : Int) + (j : Int) < (bs.length : Int) := by omega
          go_region_held3 (fun W' : World => W'.cell? ⟨g, 0, none⟩ = some (.slice (some ad) bs.length c) ∧ W'.cell? ⟨g, 1, none⟩ = some (.int .i64 (a : Int)) ∧ W'.cell? (ad.add ((a : Int) + (j : Int)).toNat) = some (.int .u8 x)) (first | assumption | go_keep) (fail)
          go_wp2_with fail
          go_roundw
          case rel => exact ⟨(j : Int) - 1, by rw [show ((j : Int) - 1 + 1).toNat = j by omega]; exact congrArg (Value.int .u64) hst.out, by go_num, by omega, by omega, Aside0.mk Q.out.drew, Aside0.mk E.out.drew⟩
          case measure => simp [intOf] <;> omega
        · have hd3 : decide (0 ≤ i) = false := decide_eq_false hi
          obtain rfl : i = -1 := by omega
          rw [show ((-1 : Int) + 1).toNat = 0 from rfl, List.drop_zero]
          obtain ⟨v, hv⟩ : ∃ v, valL ((bs.drop a).take k) % 18446744073709551616 = v := ⟨_, rfl⟩
          have hv2 : v < 18446744073709551616 := by omega
          have hHit : Hit (bs.drop a) k ↔ enc v = (bs.drop a).take k := by rw [← hv]; exact Iff.rfl
          have HV := Aside0.mk hv
          rw [hv]
          clear hvl0 hv
          obtain ⟨A', c', ys, hys, hcut, hyc, hyr⟩ := cut_row (A := A) hcap hak
          have HYS := Aside0.mk hys
          have HYR := Aside0.mk (hyr _ Q.out.row)
          have HH := Aside0.mk hHit
          have HYL := Aside0.mk (show ys.length ≤ 100000 by rw [hys, List.length_take]; omega)
          have HE := Aside0.mk (enc_le10 hv2)
          clear hys hyr hHit
          go_upto_region 9 with (fail)
          have hw9 : IntKind.i64.wrap ((a : Int) + (k : Int)) = (a : Int) + (k : Int) := wr64 _ (by omega) (by omega)
          have hS0 : wr.drew.cell? ⟨g, 0, none⟩ = some (.slice A bs.length c) ∧ wr.drew.cell? ⟨g, 1, none⟩ = some (.int .i64 (a : Int)) := ⟨q0, q1⟩
          clear q0 q1
          go_region_held3 (fun W' : World => W'.cell? ⟨g, 0, none⟩ = some (.slice A bs.length c) ∧ W'.cell? ⟨g, 1, none⟩ = some (.int .i64 (a : Int))) (first | assumption | go_keep)
            (first
              | (go_at_call 17; refine (sameR (w := w2) (Below.refl _ _) HA1.out.2 HA1.out.1 HYR2.out hyc (by have := HE.out; omega)).mono ?_; rintro e w3 ⟨rfl, hb3, _⟩; have Q3 := Aside0.mk (Q2.out.below hb3); have E3 := Aside0.mk (E2.out.trans (Ex.of_below hb3 _)); have hS3 : w3.cell? ⟨g, 0, none⟩ = some (.slice A bs.length c) ∧ w3.cell? ⟨g, 1, none⟩ = some (.int .i64 (a : Int)) := ⟨blk_cell Q3.out.blk 0, blk_cell Q3.out.blk 1⟩; clear hb3 hS2)
              | (go_at_call 36; refine (number_as v _ rfl hv2 _).mono ?_; rintro e w2 ⟨A1, c1, rfl, hc1, hC1, hb2⟩; have Q2 := Aside0.mk (Q.out.drew.below hb2); have E2 := Aside0.mk (E.out.drew.trans (Ex.of_below hb2 _)); have HA1 := Aside0.mk (And.intro hc1 hC1); have HYR2 := Aside0.mk (Kd.C_below HYR.out (below_drew_then hb2)); have hS2 : w2.cell? ⟨g, 0, none⟩ = some (.slice A bs.length c) ∧ w2.cell? ⟨g, 1, none⟩ = some (.int .i64 (a : Int)) := ⟨blk_cell Q2.out.blk 0, blk_cell Q2.out.blk 1⟩; clear hc1 hC1 hb2 hS0))
          by_cases hhit : enc v = ys
          · have hH := HH.out.2 (hhit.trans HYS.out)
            have hd5 : decide (enc v = ys) = true := decide_eq_true hhit
            have hr := hit_some hH
            rw [HV.out] at hr
            have HR := Aside0.mk hr
            obtain ⟨hQ4, hE4⟩ := Q3.out.go (a + k) (by omega)
            rw [show ((a + k : Nat) : Int) = (a : Int) + (k : Int) by omega] at hQ4 hE4
            have Q4 := Aside0.mk hQ4
            have E4 := Aside0.mk (E3.out.trans hE4)
            have q0 := hS3.1
            have q1 := hS3.2
            have f1 : w3.frozen? ⟨g, 1, none⟩ = false := blk_frozen Q3.out.blk 1
            clear hQ4 hE4 hS3 hr hhit hH
            rw [hd5]
            go_wp2_with fail
            go_ret2
            exact ⟨E4.out, by rw [HR.out]; exact ⟨rfl, a + k, Q4.out, by rw [List.drop_drop]⟩⟩
          · have hH : ¬ Hit (bs.drop a) k := fun h => hhit ((HH.out.1 h).trans HYS.out.symm)
            have hd5 : decide (enc v = ys) = false := decide_eq_false hhit
            have HN2 := Aside0.mk (fun j (h1 : 1 ≤ j) (h2 : j < k + 1) => show ¬ Hit (bs.drop a) j from by
              by_cases e : j = k
              · rw [e]; exact hH
              · exact HN.out j h1 (by omega))
            clear hH hhit
            rw [hd5]
            go_wp2_with fail
            go_roundw
            case rel => exact ⟨k + 1, by go_num, by omega, by omega, HN2, Q3, E3⟩
            case measure => simp [intOf]; omega
    · have hr : rdU 10 0 0 (bs.drop a) = none := none_of (isB_drop HB.out a) (K := k) (by rw [List.length_drop]; omega) HN.out
      have HR := Aside0.mk hr
      clear hr
      have hS0 : wr.drew.cell? ⟨g, 0, none⟩ = some (.slice A bs.length c) ∧ wr.drew.cell? ⟨g, 1, none⟩ = some (.int .i64 (a : Int)) := ⟨q0, q1⟩
      by_cases hk10 : k ≤ 10
      · have hd1 : decide ((k : Int) ≤ 10) = true := decide_eq_true (by omega)
        have hd2 : decide ((a : Int) + (k : Int) ≤ (bs.length : Int)) = false := decide_eq_false (by omega)
        go_upto_region 2 with (fail)
        go_region_held3 (fun W' : World => W'.cell? ⟨g, 0, none⟩ = some (.slice A bs.length c) ∧ W'.cell? ⟨g, 1, none⟩ = some (.int .i64 (a : Int))) (first | assumption | go_keep) (fail)
        rw [wr64 ((a : Int) + (k : Int)) (by omega) (by omega), hd2]
        go_wp2_with fail
        go_ret2
        exact ⟨E.out.drew, by rw [HR.out]; exact ⟨rfl, Q.out.drew⟩⟩
      · obtain rfl : k = 11 := by omega
        go_upto_region 2 with (fail)
        go_region
        go_wp2_with fail
        go_ret2
        exact ⟨E.out.drew, by rw [HR.out]; exact ⟨rfl, Q.out.drew⟩⟩
end Go.Proofs.Ytekbbpbpkekdhaa.Cod
