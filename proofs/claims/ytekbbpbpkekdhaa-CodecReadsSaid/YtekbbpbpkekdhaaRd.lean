/- What codec's Over, left, fail, dead, Err, Done and take do: the walks. -/
import Derived.Test.YtekbbpbpkekdhaaOut
namespace Go.Proofs.Ytekbbpbpkekdhaa.Cod
open Go.RowKit Go.Proofs.Ytekbbpbpkekdhaa.Ex Go.Proofs.YtekbbpbpkekdhaaW.PrintWords Go.Proofs.YtekbbpbpkekdhaaW.PrintLast Go.Proofs.YtekbbpbpkekdhaaW.PrintMore
/-- A reader at g: what is left to be read, and whether it has failed; its row is block base and isn't the reader itself. -/
structure RAt (w : World) (base g : Nat) (A : Option Addr) (c : Nat) (xs : List Int) (fl : Bool) : Prop where
  blk : w.heap[g]? = some (.cells #[.slice A xs.length c, .bool true, .bool fl] 65 (0, 0))
  low : base ≤ g
  cap : xs.length ≤ c
  row : Kd.C (Kd.int .u8) w A xs.length xs
  far : ∀ ad, A = some ad → ad.spot = none ∧ ad.block ≠ g ∧ ad.block = base ∧ ∃ cells, w.heap[ad.block]? = some (.cells cells 5 (0, 0))
theorem RAt.lt {w : World} {base g : Nat} {A : Option Addr} {c : Nat} {xs : List Int} {fl : Bool} (h : RAt w base g A c xs fl) : g < w.heap.size := blk_lt h.blk
theorem RAt.ex {S : Nat → Prop} {w w1 : World} {base g : Nat} {A : Option Addr} {c : Nat} {xs : List Int} {fl : Bool} (h : RAt w base g A c xs fl) (hx : Ex S w w1) (hg : ¬ S g) (hA : ∀ ad, A = some ad → ¬ S ad.block) : RAt w1 base g A c xs fl :=
  ⟨hx.heap h.blk hg, h.low, h.cap, C_ex h.row hx (fun ad e _ => hA ad e), fun ad e => by
    obtain ⟨h0, h1, h2, cells, h3⟩ := h.far ad e
    exact ⟨h0, h1, h2, cells, hx.heap h3 (hA ad e)⟩⟩
theorem Ex.drawn {w w1 : World} (h : Drawn0 w w1) (S : Nat → Prop) : Ex S w w1 := Ex.of_below h.below S
theorem RAt.below {w w1 : World} {base g : Nat} {A : Option Addr} {c : Nat} {xs : List Int} {fl : Bool} (h : RAt w base g A c xs fl) (hb : Below w.heap.size w w1) : RAt w1 base g A c xs fl := h.ex (Ex.of_below hb (fun _ => False)) (fun x => x) (fun _ _ x => x)
theorem RAt.drawn {w w1 : World} {base g : Nat} {A : Option Addr} {c : Nat} {xs : List Int} {fl : Bool} (h : RAt w base g A c xs fl) (hb : Drawn0 w w1) : RAt w1 base g A c xs fl := h.below hb.below
section
variable (base g : Nat) (A : Option Addr) (c : Nat) (xs : List Int) (fl : Bool) (w : World) (hw : RAt w base g A c xs fl)
include hw
set_option maxHeartbeats 400000 in
theorem left_any : Calls Try.prog 44 #[.pointer (some ⟨g, 0, none⟩)] w fun e w' => e = .returned (.int .i64 xs.length) ∧ w' = w := by
  have h0 : w.cell? ⟨g, 0, none⟩ = some (.slice A xs.length c) := blk_cell hw.blk 0
  clear hw
  go_enter Try.func44, Try.ntmps44
  go_wp2_with fail
  go_ret
  exact ⟨rfl, rfl⟩
set_option maxHeartbeats 400000 in
theorem fail_any : Calls Try.prog 48 #[.pointer (some ⟨g, 0, none⟩)] w fun e w' => e = .returned (.tuple #[]) ∧ RAt w' base g A c xs true ∧ Ex (fun k => k = g) w w' := by
  have h2 : w.cell? ⟨g, 2, none⟩ = some (.bool fl) := blk_cell hw.blk 2
  have f2 : w.frozen? ⟨g, 2, none⟩ = false := blk_frozen hw.blk 2
  have HW := Aside0.mk hw
  clear hw
  go_enter Try.func48, Try.ntmps48
  go_wp2_with fail
  go_end0
  have hx : Ex (fun k => k = g) w (w.setCell ⟨g, 2, none⟩ (.bool true)) := (Ex.refl (fun k => k = g) w).setCell (p := ⟨g, 2, none⟩) (fun _ => rfl) _
  refine ⟨rfl, ⟨blk_set HW.out.blk 2 _, HW.out.low, HW.out.cap, C_ex HW.out.row hx (fun ad e _ => (HW.out.far ad e).2.1), fun ad e => ?_⟩, hx⟩
  obtain ⟨h0, h1, h2, cells, h3⟩ := HW.out.far ad e
  exact ⟨h0, h1, h2, cells, hx.heap h3 h1⟩
set_option maxHeartbeats 400000 in
theorem dead_any : Calls Try.prog 46 #[.pointer (some ⟨g, 0, none⟩)] w fun e w' => e = .returned (.bool fl) ∧ w' = w := by
  have h1 : w.cell? ⟨g, 1, none⟩ = some (.bool true) := blk_cell hw.blk 1
  have h2 : w.cell? ⟨g, 2, none⟩ = some (.bool fl) := blk_cell hw.blk 2
  clear hw
  go_enter Try.func46, Try.ntmps46
  go_wp2_with fail
  go_ret
  exact ⟨rfl, rfl⟩
set_option maxHeartbeats 400000 in
theorem err_any : Calls Try.prog 24 #[.pointer (some ⟨g, 0, none⟩)] w fun e w' => e = .returned (.int .i64 (if fl = true then 60 else 0)) ∧ w' = w := by
  have h1 : w.cell? ⟨g, 1, none⟩ = some (.bool true) := blk_cell hw.blk 1
  have h2 : w.cell? ⟨g, 2, none⟩ = some (.bool fl) := blk_cell hw.blk 2
  clear hw
  cases fl <;> (go_enter Try.func24, Try.ntmps24; go_wp2_with fail; go_ret; exact ⟨rfl, rfl⟩)
set_option maxHeartbeats 400000 in
theorem done_any : Calls Try.prog 26 #[.pointer (some ⟨g, 0, none⟩)] w fun e w' => e = .returned (.int .i64 (if fl = true ∨ 0 < xs.length then 60 else 0)) ∧ w' = w := by
  cases fl with
  | true =>
    have HE := Aside0.mk (err_any base g A c xs true w hw)
    clear hw
    have he : (if true = true ∨ 0 < xs.length then (60 : Int) else 0) = 60 := if_pos (.inl rfl)
    rw [he]
    clear he
    go_enter Try.func26, Try.ntmps26
    go_wp2_with fail
    refine HE.out.mono ?_
    rintro e w1 ⟨rfl, rfl⟩
    go_wp2_with fail
    go_ret
    exact ⟨rfl, rfl⟩
  | false =>
    have HE := Aside0.mk (err_any base g A c xs false w hw)
    have HL := Aside0.mk (left_any base g A c xs false w hw)
    clear hw
    by_cases h : 0 < xs.length
    · have hd : decide ((0 : Int) < (xs.length : Int)) = true := by simp; omega
      have he : (if false = true ∨ 0 < xs.length then (60 : Int) else 0) = 60 := if_pos (.inr h)
      rw [he]
      clear he h
      generalize (xs.length : Int) = n at *
      go_enter Try.func26, Try.ntmps26
      go_wp2_with fail
      refine HE.out.mono ?_
      rintro e w1 ⟨rfl, rfl⟩
      go_wp2_with fail
      refine HL.out.mono ?_
      rintro e w1 ⟨rfl, rfl⟩
      go_wp2_with fail
      go_ret
      exact ⟨rfl, rfl⟩
    · have hd : decide ((0 : Int) < (xs.length : Int)) = false := decide_eq_false (by omega)
      have he : (if false = true ∨ 0 < xs.length then (60 : Int) else 0) = 0 := if_neg (fun h' => h'.elim (fun h' => by cases h') h)
      rw [he]
      clear he h
      generalize (xs.length : Int) = n at *
      go_enter Try.func26, Try.ntmps26
      go_wp2_with fail
      refine HE.out.mono ?_
      rintro e w1 ⟨rfl, rfl⟩
      go_wp2_with fail
      refine HL.out.mono ?_
      rintro e w1 ⟨rfl, rfl⟩
      go_wp2_with fail
      go_ret
      exact ⟨rfl, rfl⟩
theorem len63 : xs.length ≤ 9223372036854775807 := hw.row.2.1
/-- The address behind n cells. -/
def adv (A : Option Addr) (c n : Nat) : Option Addr := if c = n then A else A.map (·.add n)
theorem adv_rat (n : Nat) (hn : n ≤ xs.length) : RAt (w.setCell ⟨g, 0, none⟩ (.slice (adv A c n) (xs.length - n) (c - n))) base g (adv A c n) (c - n) (xs.drop n) fl ∧ Kd.C (Kd.int .u8) (w.setCell ⟨g, 0, none⟩ (.slice (adv A c n) (xs.length - n) (c - n))) A n (xs.take n) := by
  have hx : Ex (fun k => k = g) w (w.setCell ⟨g, 0, none⟩ (.slice (adv A c n) (xs.length - n) (c - n))) := (Ex.refl (fun k => k = g) w).setCell (p := ⟨g, 0, none⟩) (fun _ => rfl) _
  have hl : (xs.drop n).length = xs.length - n := List.length_drop
  have hc := hw.cap
  have hfar : ∀ ad, adv A c n = some ad → ad.spot = none ∧ ad.block ≠ g ∧ ad.block = base ∧ ∃ cells, w.heap[ad.block]? = some (.cells cells 5 (0, 0)) := by
    intro ad e
    unfold adv at e
    split at e
    · exact hw.far ad e
    · obtain ⟨a0, rfl, rfl⟩ := Option.map_eq_some_iff.1 e
      obtain ⟨h0, h1, h2, h3⟩ := hw.far a0 rfl
      have hbl : (a0.add n).block = a0.block := by unfold Addr.add; split <;> rfl
      have hsp : (a0.add n).spot = none := by unfold Addr.add; split <;> first | exact h0 | rfl
      exact ⟨hsp, by rw [hbl]; exact h1, by rw [hbl]; exact h2, by rw [hbl]; exact h3⟩
  have hrow := Kd.C_drop (c := c) hw.row hn hw.cap
  have htk := Kd.C_take hw.row hn
  rw [show n * (Kd.int .u8).sz = n from Nat.mul_one n] at hrow
  rw [show (xs.take n).length = n by rw [List.length_take]; omega] at htk
  refine ⟨⟨by rw [hl]; exact blk_set hw.blk 0 _, hw.low, by omega, C_ex hrow hx (fun ad e _ => (hfar ad e).2.1), fun ad e => ?_⟩, C_ex htk hx (fun ad e _ => (hw.far ad e).2.1)⟩
  obtain ⟨h0, h1, h2, cells, h3⟩ := hfar ad e
  exact ⟨h0, h1, h2, cells, hx.heap h3 h1⟩
set_option maxHeartbeats 400000 in
theorem take_less (n : Nat) (hn : xs.length < n) : Calls Try.prog 47 #[.pointer (some ⟨g, 0, none⟩), .int .u64 (n : Int)] w fun e w' => e = .returned (.slice none 0 0) ∧ w' = w := by
  have HL := Aside0.mk (left_any base g A c xs fl w hw)
  have h63 := len63 base g A c xs fl w hw
  clear hw
  have hwr : IntKind.u64.wrap (xs.length : Int) = xs.length := by rw [wrap_u64]; omega
  have hd : decide ((xs.length : Int) < (n : Int)) = true := by simp; omega
  generalize (xs.length : Int) = m at *
  go_enter Try.func47, Try.ntmps47
  go_wp2_with fail
  refine HL.out.mono ?_
  rintro e w1 ⟨rfl, rfl⟩
  go_wp2_with fail
  go_ret
  exact ⟨rfl, rfl⟩
set_option maxHeartbeats 400000 in
theorem take_some (n : Nat) (hn : n ≤ xs.length) : Calls Try.prog 47 #[.pointer (some ⟨g, 0, none⟩), .int .u64 (n : Int)] w fun e w' => e = .returned (.slice A n n) ∧ RAt w' base g (adv A c n) (c - n) (xs.drop n) fl ∧ Kd.C (Kd.int .u8) w' A n (xs.take n) ∧ Ex (fun k => k = g) w w' := by
  have HL := Aside0.mk (left_any base g A c xs fl w hw)
  have h63 := len63 base g A c xs fl w hw
  have hwr : IntKind.u64.wrap (xs.length : Int) = xs.length := by rw [wrap_u64]; omega
  have hd : decide ((xs.length : Int) < (n : Int)) = false := decide_eq_false (by omega)
  have h0 : w.cell? ⟨g, 0, none⟩ = some (.slice A xs.length c) := blk_cell hw.blk 0
  have f0 : w.frozen? ⟨g, 0, none⟩ = false := blk_frozen hw.blk 0
  have HW := Aside0.mk (adv_rat base g A c xs fl w hw n hn)
  have hc := hw.cap
  clear hw
  by_cases hcn : c = n
  · obtain rfl := hcn
    have ea : adv A c c = A := if_pos rfl
    rw [ea, Nat.sub_self, show xs.length - c = 0 by omega] at HW
    rw [ea, Nat.sub_self]
    go_enter Try.func47, Try.ntmps47
    go_wp2_with fail
    refine HL.out.mono ?_
    rintro e w1 ⟨rfl, rfl⟩
    go_wp2_with fail
    go_ret
    exact ⟨rfl, HW.out.1, HW.out.2, (Ex.refl (fun k => k = g) _).setCell (p := ⟨g, 0, none⟩) (fun _ => rfl) _⟩
  · have ea : adv A c n = A.map (·.add n) := if_neg hcn
    rw [ea] at HW
    rw [ea]
    go_enter Try.func47, Try.ntmps47
    go_wp2_with fail
    refine HL.out.mono ?_
    rintro e w1 ⟨rfl, rfl⟩
    go_wp2_with fail
    go_ret
    exact ⟨rfl, HW.out.1, HW.out.2, (Ex.refl (fun k => k = g) _).setCell (p := ⟨g, 0, none⟩) (fun _ => rfl) _⟩
end
end Go.Proofs.Ytekbbpbpkekdhaa.Cod
