/- Of what is nil, or nobody made, nothing is written or told. No conditions. -/
import Derived.Test.YtekbbpbpkekdhaaRows
import Derived.Test.YtekbbpbpkekdhaaNone
import Derived.Test.YtekbbpbpkekdhaaOpenS
import Derived.Test.YtekbbpbpkekdhaaOpenV
import Derived.WalkKit
import Derived.ProofKit
import Derived.OpenShut
import Derived.ShutString
import Derived.ChangeOld
import Derived.Below
import Derived.SizedLaws
namespace Go.Proofs.Ytekbbpbpkekdhaa.codecNone
open Go.ChangeShapes Go.WideShapes Go.ChangeAt Go.RowKit Go.Proofs.Ytekbbpbpkekdhaa.OpenS Go.Proofs.Ytekbbpbpkekdhaa.PBase Go.Proofs.Ytekbbpbpkekdhaa.Cod Go.Proofs.YtekbbpbpkekdhaaW.PrintWords
open Go.ChangeMaps (open_string shut_string)
set_option linter.unusedVariables false
set_option linter.unusedSimpArgs false
theorem own : ownKnob Try.prog.godebug = none := by kernel_rfl
theorem laidOut : laidOutB Try.prog = true := by kernel_rfl
theorem open_val {H : Type} {enc : TypeId × Value → H} {w : World} {cs : Array Value} {x : DataW H} {ps : List MemPlace} (hx : DataW.Trod enc Try.prog w 0 (fun _ => true) true 29 (.agg cs) x ps) (hlt : (x.weights Try.prog 29).all (· ≤ reachBytes) = true) :
    ∃ (v : S29) (A : Option Addr) (c : Nat), Value.agg cs = aggS v A c ∧ v.f4.length ≤ c ∧ Kd.C (Kd.int .u8) w A v.f4.length v.f4 ∧ wfV v := by
  obtain ⟨fuel, hf⟩ := hx
  obtain ⟨v, hk, hw⟩ := (Opens.val (enc := enc) (w := w)).ok _ _ _ hf (fun k hk => of_decide_eq_true (List.all_eq_true.1 hlt k hk))
  obtain ⟨A, c, he, hl, hC⟩ := k29_open hk
  have e2 : cs.toList = [.int .u8 v.f0, .int .u64 v.f1, .int .i64 v.f2, .bool v.f3, .slice A v.f4.length c, .string v.f5, .int .i64 v.f6] := he
  refine ⟨v, A, c, ?_, hl, hC, hw⟩
  unfold aggS
  congr 1
  apply Array.toList_inj.mp
  rw [e2]
set_option maxRecDepth 100000 in
theorem lifted (os : Os) (started : os.Started) (H : Type) (enc : TypeId × Value → H) :
    ReturnsInHanded {} Try.checked os 9 .any (Rows.codecNoneSpec.pre6 enc Try.prog Try.f9 Rows.codecNoneRow.domain false) (Rows.codecNoneSpec.post enc Try.prog Try.f9 false true false false) := by
  refine returnsInHanded_of_change_sized (C := Try.checked) own started (by kernel_rfl) Try.func9
    (ChangeSpec.witness6 (enc := enc) (C := Try.checked) false ⟨#[], #[.agg #[.int .u8 0, .int .u64 0, .int .i64 0, .bool false, .slice none 0 0, .string ByteArray.empty, .int .i64 0]], []⟩ 8 (by kernel_rfl) (by kernel_rfl) (by kernel_rfl) (by kernel_rfl)) ?_
  intro W base args ds gs before hval0 hW hcnd hsz0 _
  have hsz : (DataW.weightsEach Try.prog (Try.f9.params.toList ++ Rows.codecNoneSpec.plain.varTypes Try.prog) (ds ++ gs)).all (· ≤ reachBytes) = true := hsz0
  have hval : ∀ (j : Nat) t v, Try.f9.params[j]? = some t → args[j]? = some v → Value.okWide Try.prog W .any base t v := hval0
  have hW' := hW
  obtain ⟨p, q, hA0, hV, rfl, hfz, hnd⟩ := hW
  have hA : DataW.TrodAll enc Try.prog W 0 (fun _ => true) true Try.f9.params.toList args.toList ds p := hA0
  rw [Try.params9] at hA hval hsz
  obtain ⟨v0, vs0, d0, ds0, p0, q0, hargs, rfl, rfl, h0, r0⟩ := trodAll_cons hA
  obtain ⟨rfl, rfl, rfl⟩ := trodAll_nil r0
  obtain rfl : args = #[v0] := by cases args; simp_all
  obtain ⟨rfl, rfl⟩ := trodVars_none hV
  have z0 : (d0.weights Try.prog 29).all (· ≤ reachBytes) = true := List.all_eq_true.2 fun n hn => List.all_eq_true.1 hsz n (DataW.weights_mem_each (j := 0) rfl rfl n hn)
  obtain ⟨cs0, rfl, hcs0⟩ := okWide_struct Try.underlying29 (hval 0 29 v0 rfl rfl)
  have k0 := h0
  have lt0 : ∀ x ∈ p0, x.block < W.heap.size := by obtain ⟨m, hm⟩ := k0; exact DataW.trod_lt m _ _ _ hm
  obtain ⟨l0, a0, cap0, e0, hc0, hr0, hw0⟩ := open_val h0 z0
  rw [e0] at hW' k0 ⊢
  clear hA0 hval0 hsz0
  refine (Given.none_any l0 a0 cap0 W hw0 hr0 hc0).mono fun e W' ⟨he, bel⟩ => ?_
  subst he
  exact ⟨_, rfl, _, _, _, [], _, [], hW', trodAll_mk1 (shut_bool Try.underlying4 _), (trodAll_cons_mk (Below.trod laidOut (by kernel_rfl) (of_decide_eq_true (by kernel_rfl)) k0 bel lt0) trodAll_mk0), rfl, bel.frame _, fun h => by cases h⟩
theorem over : Rows.codecNoneRow.holds Try.pinned (OpenSpec.ofChange Rows.codecNoneSpec) :=
  OpenClaim.holds_of_wide 9 Try.f9 rfl rfl rfl rfl rfl rfl rfl ⟨rfl, rfl, rfl, rfl, rfl⟩ rfl rfl rfl rfl rfl (by kernel_rfl) Try.func9 (by kernel_rfl)
    (of_decide_eq_true (by kernel_rfl)) (by unfold Func.isWrapper; first | (rw [if_pos (by decide +kernel)]; kernel_rfl) | (rw [if_neg (by decide +kernel)]; exact ⟨rfl, rfl⟩))
    (fun os started H enc _ => lifted os started H enc)
theorem proved : Rows.CodecNoneSaid := over
#print axioms proved
end Go.Proofs.Ytekbbpbpkekdhaa.codecNone
namespace Go.Proofs.Ytekbbpbpkekdhaa
/-- The row, under a short name, for the claim. -/
theorem codecNone_holds : Rows.CodecNoneSaid := codecNone.proved
end Go.Proofs.Ytekbbpbpkekdhaa
