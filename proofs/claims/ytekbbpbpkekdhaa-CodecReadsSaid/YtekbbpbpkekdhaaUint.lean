/- What codec's Writer.Uint does: the walk. -/
import Derived.Test.YtekbbpbpkekdhaaPut
import Derived.Test.YtekbbpbpkekdhaaEnc
namespace Go.Proofs.Ytekbbpbpkekdhaa.Cod
open Go.RowKit Go.Proofs.Ytekbbpbpkekdhaa.Ex Go.Proofs.YtekbbpbpkekdhaaW.PrintWords Go.Proofs.YtekbbpbpkekdhaaW.PrintLast Go.Proofs.YtekbbpbpkekdhaaW.PrintMore
theorem WAt.lt {w : World} {base g : Nat} {v : Value} {bs : List Int} (h : WAt w base g v bs) : g < w.heap.size := blk_lt h.blk
theorem WAt.alloc {w : World} {base g : Nat} {v : Value} {bs : List Int} (h : WAt w base g v bs) (o : Obj) : WAt (w.alloc o) base g v bs :=
  ⟨(Ex.of_below ((Below.refl _ _).alloc (Nat.le_refl _) o) (fun _ => False)).heap h.blk (fun x => x), h.low, Kd.R_alloc h.row o⟩
theorem Wrote.refl {w : World} {base g : Nat} {v : Value} {bs : List Int} (h : WAt w base g v bs) : Wrote base g v w bs v w := ⟨h, Ex.refl _ _, .inl rfl⟩
theorem Wrote.alloc {w w1 : World} {base g : Nat} {v v1 : Value} {bs : List Int} (h : Wrote base g v w bs v1 w1) (o : Obj) : Wrote base g v w bs v1 (w1.alloc o) := ⟨h.at'.alloc o, h.ex.alloc o, h.new⟩
theorem Wrote.trans {w w1 w2 : World} {base g : Nat} {v v1 v2 : Value} {bs bs2 : List Int} (h : Wrote base g v w bs v1 w1) (k : Wrote base g v1 w1 bs2 v2 w2) : Wrote base g v w bs2 v2 w2 :=
  ⟨k.at', h.ex.then k.ex (fun i hi hT => hT.imp id fun e => by
      rcases h.new with hn | ⟨b, hb, hle⟩
      · rw [← hn]; exact e
      · rw [hb] at e; injection e with e; omega),
   by
    rcases k.new with hk | ⟨b, hb, hle⟩
    · rcases h.new with hn | ⟨b, hb, hle⟩
      · exact .inl (hk.trans hn)
      · exact .inr ⟨b, by rw [hk]; exact hb, hle⟩
    · exact .inr ⟨b, hb, Nat.le_trans h.ex.size hle⟩⟩
theorem Ci_of_cells (w : World) (b : Nat) (xs : List Int) (hn : xs.length ≤ 9223372036854775807) (h : ∀ j x, xs[j]? = some x → w.cell? ⟨b, j, none⟩ = some (.int .u8 x)) :
    Kd.C (Kd.int .u8) w (some ⟨b, 0, none⟩) xs.length xs := by
  refine ⟨rfl, hn, fun _ => ⟨_, rfl, fun j x hj => ?_⟩⟩
  refine ⟨[.int .u8 x], rfl, rfl, fun i u hu => ?_⟩
  match i with
  | 0 =>
    obtain rfl := Option.some.inj hu
    have e : (⟨b, 0, none⟩ : Addr).add (j * (Kd.int .u8).sz + 0) = ⟨b, j, none⟩ := by
      rw [show (Kd.int .u8).sz = 1 from rfl]; simp [Addr.add]; omega
    rw [e]; exact h j x hj
  | i + 1 => simp at hu
theorem C_lit (w : World) (xs : List Int) (m : Nat × Nat) (hn : xs.length ≤ 9223372036854775807) :
    Kd.C (Kd.int .u8) (w.alloc (.cells (xs.map (Value.int .u8)).toArray 5 m)) (some ⟨w.heap.size, 0, none⟩) xs.length xs :=
  Ci_of_cells _ _ xs hn fun j x hj => by rw [World.cell?_alloc_mark]; simp [hj]
theorem C_nil (w : World) : Kd.C (Kd.int .u8) w none 0 [] := ⟨rfl, by decide, fun h => absurd h (by decide)⟩
set_option maxHeartbeats 400000 in
set_option maxRecDepth 100000 in
theorem uint_any (base g : Nat) (v : Value) (bs : List Int) (n : Nat) (w : World) (hw : WAt w base g v bs) (hn : n < 18446744073709551616) (hl : bs.length + 10 ≤ 140737488355328) :
    Calls Try.prog 29 #[.pointer (some ⟨g, 0, none⟩), .int .u64 (n : Int)] w (Wrs base g v w (bs ++ enc n)) := by
  have HW := Aside0.mk hw
  have hlen := enc_le10 hn
  clear hw
  go_enter Try.func29, Try.ntmps29
  go_wp2_with fail
  go_loopw [1] (fun x wr => ∃ (n' : Nat) (pre : List Int) (v' : Value), x = .int .u64 n' ∧ n' ≤ n ∧ Aside0 (pre ++ enc n' = enc n) ∧ Aside0 (Wrote base g v w (bs ++ pre) v' wr)) (fun x _ => (intOf x).toNat)
  case atStart => exact ⟨n, [], v, rfl, Nat.le_refl _, ⟨rfl⟩, ⟨by rw [List.append_nil]; exact Wrote.refl HW.out⟩⟩
  case round =>
    clear HW
    obtain ⟨n', pre, v', rfl, hle, HE, HW⟩ := hrel
    have hpl : pre.length < (enc n).length := by
      rw [← HE.out, List.length_append]
      have : 0 < (enc n').length := by
        by_cases hs : n' < 128
        · rw [enc_small hs]; simp
        · rw [enc_big hs]; simp
      omega
    by_cases hb : n' < 128
    · have hd : decide ((128 : Int) ≤ (n' : Int)) = false := by simp; omega
      have hm : (n' : Int) % 256 = (n' : Int) := by omega
      have he : bs ++ enc n = bs ++ pre ++ [(n' : Int)] := by rw [← HE.out, enc_small hb, List.append_assoc]
      have HZ := Aside0.mk he
      clear he HE
      go_wp2_with fail
      refine (put_any base g v' (bs ++ pre) [(n' : Int)] _ 1 1 _ (HW.out.at'.alloc _) (C_lit wr [(n' : Int)] (0, 0) (by simp)) (by rw [List.length_append]; omega)).mono ?_
      rintro e w1 ⟨rfl, v1, h1⟩
      have H1 := Aside0.mk h1
      clear h1
      go_wp2_with fail
      go_end0
      exact ⟨rfl, v1, by rw [HZ.out]; exact (HW.out.alloc _).trans H1.out⟩
    · have hd : decide ((128 : Int) ≤ (n' : Int)) = true := by simp; omega
      have hor := or128 n'
      have he : pre ++ [((n' % 128 + 128 : Nat) : Int)] ++ enc (n' / 128) = enc n := by rw [← HE.out, enc_big hb, List.append_assoc]; rfl
      have HZ := Aside0.mk he
      clear he HE
      generalize ((n' % 128 + 128 : Nat) : Int) = y at *
      go_wp2_with fail
      refine (put_any base g v' (bs ++ pre) [y] _ 1 1 _ (HW.out.at'.alloc _) (C_lit wr [y] (0, 0) (by simp)) (by rw [List.length_append]; omega)).mono ?_
      rintro e w1 ⟨rfl, v1, h1⟩
      have H1 := Aside0.mk h1
      clear h1
      go_wp2_with fail
      go_roundw
      case rel => exact ⟨n' / 128, pre ++ [y], v1, by go_num, by omega, HZ, ⟨by rw [← List.append_assoc]; exact (HW.out.alloc _).trans H1.out⟩⟩
      case measure => simp [intOf]; omega
end Go.Proofs.Ytekbbpbpkekdhaa.Cod
