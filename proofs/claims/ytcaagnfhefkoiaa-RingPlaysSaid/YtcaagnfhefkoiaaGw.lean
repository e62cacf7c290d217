/- Rows of samples beside a ring. -/
import Derived.Test.YtcaagnfhefkoiaaAl
import Derived.Test.YtcaagnfhefkoiaaPl
import Derived.Test.YtcaagnfhefkoiaaOpenAct
namespace Go.Proofs.Ytcaagnfhefkoiaa.Rg
open Go.RowKit Go.Proofs.Ytcaagnfhefkoiaa.Ex Go.Proofs.Ytcaagnfhefkoiaa.PBase Go.Proofs.Ytcaagnfhefkoiaa.OpenS Go.Proofs.YtcaagnfhefkoiaaW.PrintWords Go.Proofs.YtcaagnfhefkoiaaW.PrintLast Go.Proofs.YtcaagnfhefkoiaaW.PrintMore
theorem add_block (ad : Addr) (k : Nat) : (ad.add k).block = ad.block := by unfold Addr.add; split <;> rfl
theorem C_old29 {w : World} {A : Option Addr} {n : Nat} {xs : List S29} (h : Kd.C k29 w A n xs) : ∀ ad, A = some ad → 0 < n → ad.block < w.heap.size := fun ad e hn => by
  obtain ⟨ad', e', hc⟩ := h.2.2 hn
  rw [e] at e'
  obtain rfl := Option.some.inj e'
  obtain ⟨x, hx⟩ : ∃ x, xs[0]? = some x := ⟨_, List.getElem?_eq_getElem (by rw [h.1]; exact hn)⟩
  obtain ⟨c, hs, hr, hcell⟩ := hc 0 x hx
  rw [k29_open hr] at hcell
  have := World.block_lt_of_cell? w _ (hcell 0 _ rfl)
  rwa [add_block] at this
theorem C_ex29 {S : Nat → Prop} {w w1 : World} {A : Option Addr} {n : Nat} {xs : List S29} (h : Kd.C k29 w A n xs) (hx : Ex S w w1) (hA : ∀ ad, A = some ad → 0 < n → ¬ S ad.block) : Kd.C k29 w1 A n xs := by
  refine ⟨h.1, h.2.1, fun hn => ?_⟩
  obtain ⟨ad, e, hc⟩ := h.2.2 hn
  have hlt := C_old29 h ad e hn
  refine ⟨ad, e, fun j p hj => ?_⟩
  obtain ⟨c, hs, hr, hcell⟩ := hc j p hj
  refine ⟨c, hs, by rw [k29_open hr]; exact k29_mk _ _, fun i u hu => ?_⟩
  exact (hx.cell (by rw [add_block]; exact hlt) (by rw [add_block]; exact hA ad e hn)).trans (hcell i u hu)
/-- The ring, a row that is read, a row that grows. -/
structure GW (w : World) (g : Nat) (cs : Array Value) (first : Nat) (lr : List S29) (Ag : Option Addr) (lg : List S29) (vw : Value) (xs : List S29) (W : World) : Prop where
  r : RAt W g cs first lr
  got : Kd.C k29 W Ag lg.length lg
  q : Kd.R k29 29 W w.heap.size (fun _ => True) vw xs
  a : vw.ownBlock ≠ some g
  b : ∀ ad, Ag = some ad → 0 < lg.length → vw.ownBlock ≠ some ad.block
  low : Below w.heap.size w W
section
variable {w : World} {g : Nat} {cs : Array Value} {first : Nat} {lr lg : List S29} {Ag : Option Addr} {vw vw1 : Value} {xs ys : List S29} {W W1 : World}
theorem GW.grew (h : GW w g cs first lr Ag lg vw xs W) (hq : Kd.R k29 29 W1 w.heap.size (fun _ => True) vw1 ys) (hl : Below w.heap.size w W1) (hg : W.grownBy W1 vw.ownBlock)
    (hat : vw1.ownBlock = vw.ownBlock ∨ ∃ b, vw1.ownBlock = some b ∧ W.heap.size ≤ b) : GW w g cs first lr Ag lg vw1 ys W1 := by
  have hx := Ex.of_grown hg
  refine ⟨h.r.ex hx (fun e => h.a e.symm), C_ex29 h.got hx (fun ad e hn hs => h.b ad e hn hs.symm), hq, fun e => ?_, fun ad e hn e2 => ?_, hl⟩
  · rcases hat with ha | ⟨b, ha, hb⟩
    · exact h.a (by rw [← ha]; exact e)
    · rw [ha] at e; injection e with e; have := h.r.lt; omega
  · rcases hat with ha | ⟨b, ha, hb⟩
    · exact h.b ad e hn (by rw [← ha]; exact e2)
    · rw [ha] at e2; injection e2 with e2; have := C_old29 h.got ad e hn; omega
theorem GW.below (h : GW w g cs first lr Ag lg vw xs W) (hb : Below W.heap.size W W1) : GW w g cs first lr Ag lg vw xs W1 :=
  ⟨h.r.below hb, Kd.C_below h.got hb, Kd.R_below h.q hb, h.a, h.b, h.low.trans (hb.mono h.low.size)⟩
end
/-- Same, of two rows that hold the same. -/
theorem same29 {w W : World} (hB : Below w.heap.size w W) {A0 A1 : Option Addr} {c0 c1 : Nat} {l : List S29} (h0 : Kd.C k29 w A0 l.length l) (hc0 : l.length ≤ c0) (h1 : Kd.C k29 w A1 l.length l) (hc1 : l.length ≤ c1) (hl : l.length ≤ 100000) :
    Calls Try.prog 13 #[.slice A0 l.length c0, .slice A1 l.length c1] W fun e w' => e = .returned (.bool true) ∧ Below W.heap.size W w' :=
  (tocsinref16_Same.calls (l.length + 1) A0 c0 l A1 c1 l true W (Kd.C_below h0 hB) hc0 (Kd.C_below h1 hB) hc1 (same_true l hl)).mono fun e w' ⟨he, hd⟩ => ⟨he, hd.below⟩
/-- A new ring, wherever it lies. -/
theorem new_some (w : World) : Calls Try.prog 8 #[] w fun e w' => ∃ g cs, e = .returned (.pointer (some ⟨g, 0, none⟩)) ∧ w.heap.size ≤ g ∧ RAt w' g cs 0 [] ∧ Below w.heap.size w w' :=
  (new_any w).mono fun e w' ⟨cs, he, hr, hb⟩ => ⟨_, cs, he, Nat.le_refl _, hr, hb⟩
end Go.Proofs.Ytcaagnfhefkoiaa.Rg
