/- What CrcOdd does: the walk. -/
import Derived.Test.YtfejhegogajnhaaWith
import Derived.Laws.CopyOwn
import Derived.Laws.NewBlocks
import Derived.RegionTactic
namespace Go.Proofs.Ytfejhegogajnhaa.Given
open Go.RowKit Go.Proofs.Crc Go.Proofs.Ytfejhegogajnhaa.Open Go.Proofs.YtfejhegogajnhaaW.PrintWords Go.Proofs.YtfejhegogajnhaaW.PrintLast
theorem info5 : (Try.prog.info? 5).map (fun i => (i.zero, i.size, i.bytes)) = some (some (.int .u8 0), 1, 1) := by kernel_rfl
def xorI (a b : Int) : Int := Go.bits .xor .u8 a b
def oMix (l o : List Int) : Nat → List Int
  | 0 => l
  | k + 1 => (oMix l o k).set k (xorI (rd l (k : Int)) (rd o (k : Int)))
def oddTo (o : List Int) : Nat → Bool
  | 0 => false
  | k + 1 => oddTo o k ^^ par (wide (UInt8.ofNat (rd o (k : Int)).toNat))
theorem oMix_length (l o : List Int) (k : Nat) : (oMix l o k).length = l.length := by
  induction k with
  | zero => rfl
  | succ k ih => rw [oMix, List.length_set, ih]
theorem oMix_at (l o : List Int) (k j : Nat) (h : k ≤ j) : (oMix l o k)[j]? = l[j]? := by
  induction k with
  | zero => rfl
  | succ k ih => rw [oMix, List.getElem?_set_ne (by omega), ih (by omega)]
theorem xorI_eq {a b : Int} (ha : 0 ≤ a ∧ a < 256) (hb : 0 ≤ b ∧ b < 256) : xorI a b = ((a.toNat ^^^ b.toNat : Nat) : Int) := u8_xor a b ha.1 ha.2 hb.1 hb.2
theorem xorI_range {a b : Int} (ha : 0 ≤ a ∧ a < 256) (hb : 0 ≤ b ∧ b < 256) : 0 ≤ xorI a b ∧ xorI a b < 256 := by
  rw [xorI_eq ha hb]
  have := Nat.xor_lt_two_pow (x := a.toNat) (y := b.toNat) (n := 8) (by omega) (by omega)
  omega
theorem wide_xor {a b : Int} (ha : 0 ≤ a ∧ a < 256) (hb : 0 ≤ b ∧ b < 256) : wide (UInt8.ofNat (xorI a b).toNat) = wide (UInt8.ofNat a.toNat) ^^^ wide (UInt8.ofNat b.toNat) := by
  have w1 : ∀ x : Int, 0 ≤ x ∧ x < 256 → (wide (UInt8.ofNat x.toNat)).toNat = x.toNat := fun x hx => by
    unfold wide; rw [BitVec.toNat_setWidth]; simp; omega
  apply BitVec.eq_of_toNat_eq
  rw [w1 _ (xorI_range ha hb), BitVec.toNat_xor, w1 a ha, w1 b hb, xorI_eq ha hb, Int.toNat_natCast]
theorem foldl_par (bs : List UInt8) : ∀ b : Bool, bs.foldl (fun o x => o ^^ par (wide x)) b = (b ^^ odd bs) := by
  induction bs with
  | nil => intro b; simp [odd]
  | cons x bs ih =>
    intro b
    have h2 := ih (false ^^ par (wide x))
    unfold odd at *
    simp only [List.foldl_cons]
    rw [ih, h2]; cases b <;> cases par (wide x) <;> simp
theorem odd_cons (x : UInt8) (bs : List UInt8) : odd (x :: bs) = (par (wide x) ^^ odd bs) := by
  have h : odd (x :: bs) = bs.foldl (fun o x => o ^^ par (wide x)) (false ^^ par (wide x)) := rfl
  rw [h, foldl_par]; simp
theorem odd_set (bs : List UInt8) (y : UInt8) : ∀ k (h : k < bs.length), odd (bs.set k y) = (odd bs ^^ par (wide bs[k]) ^^ par (wide y)) := by
  induction bs with
  | nil => intro k h; simp at h
  | cons x bs ih =>
    intro k h
    cases k with
    | zero => simp only [List.set_cons_zero, odd_cons, List.getElem_cons_zero]; cases par (wide x) <;> cases par (wide y) <;> cases odd bs <;> rfl
    | succ k =>
      simp only [List.set_cons_succ, odd_cons, List.getElem_cons_succ]
      rw [ih k (by simpa using h)]; cases par (wide x) <;> cases odd bs <;> cases par (wide (bs[k]'(by simpa using h))) <;> cases par (wide y) <;> rfl
theorem oMix_isB {l o : List Int} (hl : isB l) (ho : isB o) (k : Nat) (h1 : k ≤ l.length) (h2 : k ≤ o.length) : isB (oMix l o k) := by
  induction k with
  | zero => exact hl
  | succ k ih =>
    intro x hx
    rcases List.mem_or_eq_of_mem_set hx with h | h
    · exact ih (by omega) (by omega) x h
    · rw [h]; exact xorI_range (hl _ (rd_mem l k (by omega))) (ho _ (rd_mem o k (by omega)))
theorem rd_get (l : List Int) (k : Nat) (h : k < l.length) : rd l (k : Int) = l[k] := by
  unfold rd; rw [Int.toNat_natCast, List.getD_eq_getElem?_getD, List.getElem?_eq_getElem h]; rfl
theorem oMix_odd {l o : List Int} (hl : isB l) (ho : isB o) (k : Nat) (h1 : k ≤ l.length) (h2 : k ≤ o.length) : odd (toB (oMix l o k)) = (odd (toB l) ^^ oddTo o k) := by
  induction k with
  | zero => simp [oMix, oddTo]
  | succ k ih =>
    have hk : k < (oMix l o k).length := by rw [oMix_length]; omega
    have e : toB (oMix l o (k + 1)) = (toB (oMix l o k)).set k (UInt8.ofNat (xorI (rd l (k : Int)) (rd o (k : Int))).toNat) := by
      unfold toB; rw [oMix, List.map_set]
    rw [e, odd_set _ _ k (by rw [toB_length]; exact hk), ih (by omega) (by omega), wide_xor (hl _ (rd_mem l k (by omega))) (ho _ (rd_mem o k (by omega))), par_xor]
    have e2 : (toB (oMix l o k))[k]'(by rw [toB_length]; exact hk) = UInt8.ofNat (rd l (k : Int)).toNat := by
      have h3 := oMix_at l o k k (Nat.le_refl _)
      rw [List.getElem?_eq_getElem hk, List.getElem?_eq_getElem (by omega : k < l.length)] at h3
      unfold toB
      rw [List.getElem_map, Option.some.inj h3, rd_get l k (by omega)]
    rw [e2, oddTo]
    cases odd (toB l) <;> cases oddTo o k <;> cases par (wide (UInt8.ofNat (rd l (k : Int)).toNat)) <;> cases par (wide (UInt8.ofNat (rd o (k : Int)).toNat)) <;> rfl
theorem odd_unlike (a b : List UInt8) (h : sum a = sum b) : odd a = odd b := by
  have h1 : run (~~~ 0#32) a = run (~~~ 0#32) b := by
    have := congrArg (fun x : W => ~~~ x) h
    simpa [sum] using this
  have h2 := congrArg par h1
  rw [par_run, par_run, foldl_par, foldl_par] at h2
  simpa using h2
theorem parTo_wide (x : UInt8) : parTo (wide x) 8 = par (wide x) := by
  have h : ∀ i, parTo (wide x) (8 + i) = parTo (wide x) 8 := by
    intro i
    induction i with
    | zero => rfl
    | succ i ih =>
      show (parTo (wide x) (8 + i) ^^ (wide x).getLsbD (8 + i)) = _
      have : (wide x).getLsbD (8 + i) = false := by unfold wide; rw [BitVec.getLsbD_setWidth, BitVec.getLsbD_of_ge _ _ (by omega)]; simp
      rw [ih, this]; simp
  exact (h 24).symm
theorem oMix_rd (l o : List Int) (k : Nat) (_h : k < l.length) : rd l (k : Int) = rd (oMix l o k) (k : Int) := by
  have h3 := oMix_at l o k k (Nat.le_refl _)
  unfold rd; rw [Int.toNat_natCast, List.getD_eq_getElem?_getD, List.getD_eq_getElem?_getD, h3]
theorem odd_sums {l o : List Int} (hl : isB l) (ho : isB o) (k : Nat) (h1 : k ≤ l.length) (h2 : k ≤ o.length) (h : oddTo o k = true) : sum (toB l) ≠ sum (toB (oMix l o k)) := by
  intro e
  have h3 := odd_unlike _ _ e
  rw [oMix_odd hl ho k h1 h2, h] at h3
  cases odd (toB l) <;> simp at h3
theorem sum_some {xs : List Int} (h : isB xs) (hl : xs.length ≤ 140737488355328) : crc_Sum.f xs = some ((sum (toB xs)).toNat : Int) := by unfold crc_Sum.f; rw [if_pos (okB_of h hl)]
/-- Sum, told of a row of this very world. -/
theorem sumC {w W : World} (hB : Below w.heap.size w W) {A : Option Addr} {n : Nat} (c : Nat) {xs : List Int} (hn : xs.length = n) (hr : Kd.C (Kd.int .u8) W A xs.length xs) (hc : n ≤ c) (hx : isB xs) (hl : n ≤ 140737488355328) :
    Calls Try.prog 14 #[.slice A n c] W fun e w' => e = .returned (.int .u32 ((sum (toB xs)).toNat : Int)) ∧ Below w.heap.size w w' := by
  subst hn
  exact (crc_Sum.calls A c xs _ W hr hc (sum_some hx hl)).mono fun _ _ h => ⟨h.1, bel0 hB h.2⟩
def vals (xs : List Int) : Array Value := (xs.map (Value.int .u8)).toArray
theorem vals_get (xs : List Int) (k : Nat) (h : k < xs.length) : (vals xs)[k]? = some (.int .u8 (rd xs (k : Int))) := by
  unfold vals; rw [rd_get xs k h]; simp [h]
theorem vals_set (xs : List Int) (k : Nat) (y : Int) : (vals xs).setIfInBounds k (.int .u8 y) = vals (xs.set k y) := by
  unfold vals; rw [List.map_set]; simp
theorem C_vals {w : World} {g : Nat} {xs : List Int} (h : w.heap[g]? = some (.cells (vals xs) 5 (0, 0))) (hn : xs.length ≤ 9223372036854775807) : Kd.C (Kd.int .u8) w (some ⟨g, 0, none⟩) xs.length xs :=
  Ci_of_cells w g xs hn fun j x hj => by
    rw [blk_cell h j]; unfold vals; simp [hj]
theorem bitTest {x : Int} (h0 : 0 ≤ x) (h1 : x < 256) (j : Nat) (hj : j < 8) : (x / (2 ^ j : Int) % 2 == 1) = (wide (UInt8.ofNat x.toNat)).getLsbD j := by
  rw [bit_val x h0 h1 j hj]
  cases (wide (UInt8.ofNat x.toNat)).getLsbD j <;> rfl
theorem copy_pos {w w1 : World} {A0 : Option Addr} {l0 : List Int} (HR0 : Kd.C (Kd.int .u8) w A0 l0.length l0) (B1 : Below w.heap.size w w1) (ZZ : List Value) : 0 < (vals l0).toList.length → (some ⟨w1.heap.size, 0, none⟩ : Option Addr) = some ⟨w1.heap.size, 0, none⟩ ∧ ∃ ad, A0 = some ad ∧ ∀ j v, (vals l0).toList[j]? = some v → (w1.alloc (.cells ZZ.toArray 5)).cell? (ad.add j) = some v := by
  have hcopy : ∀ j v, (vals l0).toList[j]? = some v → ∃ ad, A0 = some ad ∧ (w1.alloc (.cells ZZ.toArray 5)).cell? (ad.add j) = some v := by
    intro j v hv
    have hj : j < l0.length := by have := (List.getElem?_eq_some_iff.1 hv).1; simpa [vals] using this
    obtain ⟨ad, e, hcell⟩ := Kd.at_int HR0 (j : Int) (by omega) (by omega)
    refine ⟨ad, e, ?_⟩
    rw [Int.toNat_natCast] at hcell
    have h1 := vals_get l0 j hj
    rw [← Array.getElem?_toList] at h1
    rw [h1] at hv
    rw [← Option.some.inj hv]
    exact (Below.cell (below_alloc B1 _) (World.block_lt_of_cell? w _ hcell)).trans hcell
  intro hp
  refine ⟨rfl, ?_⟩
  obtain ⟨ad, e, _⟩ := hcopy 0 _ (List.getElem?_eq_getElem hp)
  refine ⟨ad, e, fun j v hv => ?_⟩
  obtain ⟨ad', e', h'⟩ := hcopy j v hv
  rw [e] at e'
  rw [Option.some.inj e']; exact h'
set_option maxHeartbeats 400000 in
set_option maxRecDepth 100000 in
theorem odd_short (A0 : Option Addr) (c0 : Nat) (l0 : List Int) (A1 : Option Addr) (c1 : Nat) (l1 : List Int) (w : World) (hr0 : Kd.C (Kd.int .u8) w A0 l0.length l0) (hc0 : l0.length ≤ c0) (hb0 : isB l0) (hr1 : Kd.C (Kd.int .u8) w A1 l1.length l1) (_hc1 : l1.length ≤ c1) (hb1 : isB l1) (hlen : l0.length ≤ 5000) :
    Calls Try.prog 7 #[.slice A0 l0.length c0, .slice A1 l1.length c1] w fun e w' => e = .returned (.bool true) ∧ Below w.heap.size w w' := by
  have hd5 : decide ((5000 : Int) < (l0.length : Int)) = false := by simp; omega
  have B0 := Lib.hid (Below.refl w.heap.size w)
  have HR0 := Lib.hid hr0
  have HX0 := Lib.hid hb0
  have HR1 := Lib.hid hr1
  have HX1 := Lib.hid hb1
  have hm1 : l1.length ≤ 9223372036854775807 := hr1.2.1
  clear hr0 hb0 hr1 hb1
  obtain ⟨ZZ, hmk, hZ⟩ : ∃ ZZ : List Value, (∀ w : World, (Instr.makeSlice 24 (.int .i64 (l0.length : Int)) (.int .i64 (l0.length : Int))).run Try.prog w = .ok (.slice (some ⟨w.heap.size, 0, none⟩) l0.length l0.length) (w.alloc (.cells ZZ.toArray 5))) ∧ Hid (ZZ.length = l0.length) :=
    ⟨(madeCells #[.int .u8 0] l0.length).toList, fun w => run_make_row' 24 5 (.int .u8 0) 1 Try.underlying24 info5 rfl .i64 .i64 l0.length (by omega) (by omega) w, by
      show _ = _
      simp [madeCells]⟩
  go_enter Try.func7, Try.ntmps7
  go_wp2_with fail
  refine (tocsinlaw02_awake.calls true _ rfl).mono ?_
  rintro e w1 ⟨rfl, hb⟩
  have B1 := Lib.hid (bel0 B0 hb)
  clear hb B0
  have hsz := B1.size
  have HN : Hid ((vals l0).toList.length = Nat.min l0.length l0.length) := by show _ = _; simp [vals]
  have HF : Hid (0 + (vals l0).toList.length ≤ ZZ.length) := by show 0 + _ ≤ _; rw [hZ.out]; simp [vals]
  have HO : Hid (∀ v ∈ (vals l0).toList, v.oneCell' = true) := by
    show ∀ v ∈ (vals l0).toList, _
    intro v hv
    simp only [vals, List.mem_map] at hv
    obtain ⟨x, _, rfl⟩ := hv; rfl
  have HS : Hid ((splice ZZ 0 (vals l0).toList).toArray = vals l0) := by
    show _ = _
    unfold splice
    rw [List.take_zero, List.nil_append, List.drop_of_length_le (by rw [hZ.out]; simp [vals])]; simp
  have HA : Hid (Below w.heap.size w (w1.alloc (.cells ZZ.toArray 5))) := below_alloc B1 _
  have HG : Hid ((w1.alloc (.cells ZZ.toArray 5)).heap[w1.heap.size]? = some (.cells ZZ.toArray 5 (0, 0))) := by
    show (w1.heap.push _)[w1.heap.size]? = _; simp
  go_wp2_with (with_reducible refine wpList_copy_splice rfl (.tmp 17) (.tmp 18) 24 24 rfl 5 Try.underlying24 (by kernel_rfl) (some ⟨w1.heap.size, 0, none⟩) A0 l0.length l0.length l0.length c0 rfl rfl w1.heap.size 0 ZZ 5 HG.out (vals l0).toList HN.out (copy_pos HR0.out B1.out ZZ) HF.out HO.out w.heap.size w HA.out hsz ?_; intro w2 hblk hb2; rw [HS.out] at hblk; have B2 := Lib.hid hb2; clear hb2)
  clear hmk HN HF HO HS HG HA B1 hZ
  generalize w1.heap.size = g at *
  go_loopw [6, 7] (fun p i wr => ∃ k : Nat, k ≤ l0.length ∧ k ≤ l1.length ∧ i = .int .i64 k ∧ p = .bool (oddTo l1 k) ∧ Hid (wr.heap[g]? = some (.cells (vals (oMix l0 l1 k)) 5 (0, 0))) ∧ Hid (Below w.heap.size w wr)) (fun _ i _ => l0.length - (intOf i).toNat)
  case atStart => exact ⟨0, Nat.zero_le _, Nat.zero_le _, rfl, rfl, hblk, B2⟩
  case round =>
    clear hblk B2
    obtain ⟨k, hk0, hk1, rfl, rfl, hblk, HB⟩ := hrel
    by_cases hin : k < l0.length ∧ k < l1.length
    · obtain ⟨hlt0, hlt1⟩ := hin
      have hd0 : decide ((k : Int) < (l0.length : Int)) = true := by simp; omega
      have hd1 : decide ((k : Int) < (l1.length : Int)) = true := by simp; omega
      obtain ⟨ad, e, hcell⟩ := Kd.at_int HR1 (k : Int) (by omega) (by omega)
      cases e
      rw [Int.toNat_natCast] at hcell
      have hadb : (ad.add k).block < w.heap.size := World.block_lt_of_cell? w (ad.add k) hcell
      replace hcell := (Below.cell HB (World.block_lt_of_cell? w _ hcell)).trans hcell
      have hml : (oMix l0 l1 k).length = l0.length := oMix_length l0 l1 k
      have hc2 : wr.cell? ⟨g, k, none⟩ = some (.int .u8 (rd (oMix l0 l1 k) (k : Int))) := (blk_cell hblk k).trans (vals_get _ k (by omega))
      have hf2 : wr.frozen? ⟨g, k, none⟩ = false := blk_frozen hblk k
      have hx := HX1 _ (rd_mem l1 k hlt1)
      have hx0 := hx.1
      have hx1 := hx.2
      clear hx hml
      generalize hz : rd l1 (k : Int) = x at *
      have Hz := Lib.hid hz
      clear hz
      generalize ha : rd (oMix l0 l1 k) (k : Int) = a at *
      have Ha := Lib.hid ha
      clear ha
      have hnext : oMix l0 l1 (k + 1) = (oMix l0 l1 k).set k (Go.bits .xor .u8 a x) := by
        rw [← Ha.out, ← oMix_rd l0 l1 k hlt0, ← Hz.out]; rfl
      have G1 : Hid ((wr.setCell ⟨g, k, none⟩ (.int .u8 (Go.bits .xor .u8 a x))).drew.heap[g]? = some (.cells (vals (oMix l0 l1 (k + 1))) 5 (0, 0))) := by
        show (wr.setCell ⟨g, k, none⟩ _).heap[g]? = _
        rw [hnext, ← vals_set]; exact blk_set hblk k _
      have G2 : Hid (Below w.heap.size w (wr.setCell ⟨g, k, none⟩ (.int .u8 (Go.bits .xor .u8 a x))).drew) := below_drew (Below.setCell HB (p := ⟨g, k, none⟩) hsz _)
      have G3 : Hid ((wr.setCell ⟨g, k, none⟩ (.int .u8 (Go.bits .xor .u8 a x))).drew.cell? (ad.add k) = some (.int .u8 x)) := by
        rw [← hcell]
        exact (Below.cell G2 hadb).trans (Below.cell HB hadb).symm
      clear hnext
      go_wp2_with fail
      go_region
      clear hblk HB hcell hc2 hf2 Ha
      generalize (wr.setCell ⟨g, k, none⟩ (.int .u8 (Go.bits .xor .u8 a x))).drew = W3 at *
      have hcell := G3.out
      clear G3
      go_wp2_with fail
      go_loop [6, 8] (fun p i => ∃ j : Nat, j ≤ 8 ∧ i = .int .i64 j ∧ p = .bool (oddTo l1 k ^^ parTo (wide (UInt8.ofNat x.toNat)) j)) (fun _ i => 8 - (intOf i).toNat)
      case atStart => exact ⟨0, Nat.zero_le _, rfl, by simp [parTo]⟩
      case round =>
        obtain ⟨j, hj, rfl, rfl⟩ := hrel
        by_cases hlj : j < 8
        · have hpow : ∃ m : Int, (2 : Int) ^ j = m ∧ 1 ≤ m ∧ m ≤ 128 := by
            rcases (show j = 0 ∨ j = 1 ∨ j = 2 ∨ j = 3 ∨ j = 4 ∨ j = 5 ∨ j = 6 ∨ j = 7 by omega) with e | e | e | e | e | e | e | e <;> rw [e] <;> exact ⟨_, rfl, by decide, by decide⟩
          have hb := bitTest hx0 hx1 j hlj
          obtain ⟨m, hm, hm1, hm2⟩ := hpow
          rw [hm] at hb
          have hq0 : 0 ≤ x / m := Int.ediv_nonneg hx0 (by omega)
          have hq1 : x / m ≤ 255 := Int.le_trans (Int.ediv_le_self _ hx0) (by omega)
          have hstep : parTo (wide (UInt8.ofNat x.toNat)) (j + 1) = (parTo (wide (UInt8.ofNat x.toNat)) j ^^ (wide (UInt8.ofNat x.toNat)).getLsbD j) := rfl
          cases hbit : (wide (UInt8.ofNat x.toNat)).getLsbD j with
          | true =>
            rw [hbit] at hb hstep
            have HS := Lib.hid hstep
            clear hstep hbit
            generalize parTo (wide (UInt8.ofNat x.toNat)) j = pj at *
            go_wp2_with fail
            go_round
            case rel => exact ⟨j + 1, by omega, by go_num, by rw [HS.out]; cases oddTo l1 k <;> cases pj <;> rfl⟩
            case measure => simp [intOf]; omega
          | false =>
            rw [hbit] at hb hstep
            have HS := Lib.hid hstep
            clear hstep hbit
            generalize parTo (wide (UInt8.ofNat x.toNat)) j = pj at *
            go_wp2_with fail
            go_round
            case rel => exact ⟨j + 1, by omega, by go_num, by rw [HS.out]; cases oddTo l1 k <;> cases pj <;> rfl⟩
            case measure => simp [intOf]; omega
        · obtain rfl : j = 8 := by omega
          have hp := parTo_wide (UInt8.ofNat x.toNat)
          rw [hp]
          have HE : Hid (oddTo l1 (k + 1) = (oddTo l1 k ^^ par (wide (UInt8.ofNat x.toNat)))) := by show _ = _; rw [oddTo, Hz.out]
          clear hp
          generalize (oddTo l1 k ^^ par (wide (UInt8.ofNat x.toNat))) = od at *
          go_wp2_with fail
          go_roundw
          case rel => exact ⟨k + 1, by omega, by omega, by go_num, by rw [HE.out], G1, G2⟩
          case measure => simp [intOf]; omega
    · by_cases hlt0 : k < l0.length
      · have hd0 : decide ((k : Int) < (l0.length : Int)) = true := by simp; omega
        have hd1 : decide ((k : Int) < (l1.length : Int)) = false := by simp; omega
        cases ho : oddTo l1 k with
        | false =>
          go_wp2_with fail
          go_ret
          exact ⟨rfl, HB⟩
        | true =>
          have hne := odd_sums (HX0) (HX1) k hk0 hk1 ho
          have hml : (oMix l0 l1 k).length = l0.length := oMix_length l0 l1 k
          have HM := Lib.hid (oMix_isB HX0.out HX1.out k hk0 hk1)
          have HC := Lib.hid (C_vals hblk (by omega))
          clear hblk ho
          generalize oMix l0 l1 k = cs at *
          have hne1 : (((sum (toB l0)).toNat : Int) == ((sum (toB cs)).toNat : Int)) = false := by
            rw [beq_eq_false_iff_ne]; exact fun h => hne (I_inj h)
          have hne2 : (((sum (toB l0)).toNat : Int) != ((sum (toB cs)).toNat : Int)) = true := by
            rw [bne_iff_ne]; exact fun h => hne (I_inj h)
          have HL := Lib.hid hml
          clear hne hml
          go_wp2_with fail
          refine (crc_Sum.calls A0 c0 l0 _ wr (Kd.C_below HR0 HB) hc0 (sum_some HX0 (by omega))).mono ?_
          rintro e w3 ⟨rfl, hb⟩
          have HC3 := Lib.hid (Kd.C_below HC hb)
          have HB3 := Lib.hid (bel0 HB hb)
          clear hb HB HC
          go_wp2_with fail
          refine (sumC (w := w) HB3 l0.length HL HC3 (Nat.le_refl _) HM (by omega)).mono ?_
          rintro e w4 ⟨rfl, HB4⟩
          go_wp2_with fail
          go_ret
          exact ⟨rfl, HB4⟩
      · have hd0 : decide ((k : Int) < (l0.length : Int)) = false := by simp; omega
        cases ho : oddTo l1 k with
        | false =>
          go_wp2_with fail
          go_ret
          exact ⟨rfl, HB⟩
        | true =>
          have hne := odd_sums (HX0) (HX1) k hk0 hk1 ho
          have hml : (oMix l0 l1 k).length = l0.length := oMix_length l0 l1 k
          have HM := Lib.hid (oMix_isB HX0.out HX1.out k hk0 hk1)
          have HC := Lib.hid (C_vals hblk (by omega))
          clear hblk ho
          generalize oMix l0 l1 k = cs at *
          have hne1 : (((sum (toB l0)).toNat : Int) == ((sum (toB cs)).toNat : Int)) = false := by
            rw [beq_eq_false_iff_ne]; exact fun h => hne (I_inj h)
          have hne2 : (((sum (toB l0)).toNat : Int) != ((sum (toB cs)).toNat : Int)) = true := by
            rw [bne_iff_ne]; exact fun h => hne (I_inj h)
          have HL := Lib.hid hml
          clear hne hml
          go_wp2_with fail
          refine (crc_Sum.calls A0 c0 l0 _ wr (Kd.C_below HR0 HB) hc0 (sum_some HX0 (by omega))).mono ?_
          rintro e w3 ⟨rfl, hb⟩
          have HC3 := Lib.hid (Kd.C_below HC hb)
          have HB3 := Lib.hid (bel0 HB hb)
          clear hb HB HC
          go_wp2_with fail
          refine (sumC (w := w) HB3 l0.length HL HC3 (Nat.le_refl _) HM (by omega)).mono ?_
          rintro e w4 ⟨rfl, HB4⟩
          go_wp2_with fail
          go_ret
          exact ⟨rfl, HB4⟩
set_option maxHeartbeats 400000 in
set_option maxRecDepth 100000 in
theorem odd_long (A0 : Option Addr) (c0 : Nat) (l0 : List Int) (A1 : Option Addr) (c1 : Nat) (l1 : List Int) (w : World) (h5 : 5000 < l0.length) :
    Calls Try.prog 7 #[.slice A0 l0.length c0, .slice A1 l1.length c1] w fun e w' => e = .returned (.bool true) ∧ Below w.heap.size w w' := by
  have B0 := Lib.hid (Below.refl w.heap.size w)
  go_enter Try.func7, Try.ntmps7
  go_wp2_with fail
  refine (tocsinlaw02_awake.calls true _ rfl).mono ?_
  rintro e w1 ⟨rfl, hb⟩
  have B1 := Lib.hid (bel0 B0 hb)
  clear hb B0
  go_wp2_with fail
  go_ret
  exact ⟨rfl, B1⟩
theorem CrcOdd_walk (A0 : Option Addr) (c0 : Nat) (l0 : List Int) (A1 : Option Addr) (c1 : Nat) (l1 : List Int) (w : World) (hr0 : Kd.C (Kd.int .u8) w A0 l0.length l0) (hc0 : l0.length ≤ c0) (hb0 : wfAll (wfInt .u8) l0) (hr1 : Kd.C (Kd.int .u8) w A1 l1.length l1) (hc1 : l1.length ≤ c1) (hb1 : wfAll (wfInt .u8) l1) :
    Calls Try.prog 7 #[.slice A0 l0.length c0, .slice A1 l1.length c1] w fun e w' => e = .returned (.bool true) ∧ Below w.heap.size w w' := by
  by_cases h5 : 5000 < l0.length
  · exact odd_long A0 c0 l0 A1 c1 l1 w h5
  · exact odd_short A0 c0 l0 A1 c1 l1 w hr0 hc0 (isB_of hb0) hr1 hc1 (isB_of hb1) (by omega)
end Go.Proofs.Ytfejhegogajnhaa.Given
