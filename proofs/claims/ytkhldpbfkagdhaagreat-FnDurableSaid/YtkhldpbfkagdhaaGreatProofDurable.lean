/-
  Proved: FnDurable returns true for every input, and each argument reads behind the call as it read before. Conditions: none.
-/
import Derived.Test.YtkhldpbfkagdhaaGreatRows
import Derived.Test.YtkhldpbfkagdhaaGreatQDU3
import Derived.WalkKit
import Derived.ShutString
import Derived.ChangeOld
namespace Go.Proofs.YtkhldpbfkagdhaaGreat.fnDurable
open Go.ChangeShapes Go.WideShapes Go.ChangeAt Go.RowKit
open Go.ChangeMaps (open_string shut_string)
set_option linter.unusedVariables false
theorem own : ownKnob Tryz.prog.godebug = none := by kernel_rfl
theorem c2x : laidOutB Tryz.prog = true := by kernel_rfl
set_option maxRecDepth 100000 in
theorem c7a (os : Os) (started : os.Started) (H : Type) (enc : TypeId × Value → H) :
    ReturnsInHanded {} Tryz.checked os 3 .any (Rows.fnDurableSpec.pre6 enc Tryz.prog Tryz.f3 Rows.fnDurableRow.domain false) (Rows.fnDurableSpec.post enc Tryz.prog Tryz.f3 false true false false) := by
  refine returnsInHanded_of_change (C := Tryz.checked) own started (by kernel_rfl) Tryz.func3
    (ChangeSpec.witness6 (enc := enc) (C := Tryz.checked) false ⟨#[], #[.slice none 0 0], []⟩ 8 (by kernel_rfl) (by kernel_rfl) (by kernel_rfl) (by kernel_rfl)) ?_
  intro W base args ds gs before hval0 hW hcnd _
  have hval : ∀ (j : Nat) t v, Tryz.f3.params[j]? = some t → args[j]? = some v → Value.okWide Tryz.prog W .any base t v := hval0
  have hW' := hW
  obtain ⟨p, q, hA0, hV, rfl, hfz, hnd⟩ := hW
  have hA : DataW.TrodAll enc Tryz.prog W 0 (fun _ => true) true Tryz.f3.params.toList args.toList ds p := hA0
  rw [Tryz.params3] at hA hval
  obtain ⟨v0, vs0, d0, ds0, p0, q0, hargs, rfl, rfl, h0, r0⟩ := trodAll_cons hA
  obtain ⟨rfl, rfl, rfl⟩ := trodAll_nil r0
  obtain rfl : args = #[v0] := by cases args; simp_all
  obtain ⟨rfl, rfl⟩ := trodVars_none hV
  have k0 := h0
  have lt0 : ∀ x ∈ p0, x.block < W.heap.size := by obtain ⟨m, hm⟩ := k0; exact DataW.trod_lt m _ _ _ hm
  obtain ⟨A0, n0, c0, rfl⟩ := okWide_slice Tryz.underlying22 (hval 0 22 v0 rfl rfl)
  obtain ⟨_, ⟨x0, rfl⟩, e0⟩ : ∃ ds, Is (fun r : List UInt8 => [a0m r]) ds ∧ a3P W ds [.slice A0 n0 c0] := by obtain ⟨fuel, hf⟩ := h0; exact c2B.run enc W 0 _ true fuel _ _ hf
  clear hA0 hval0
  refine (c7b (w := W) (c1x (x0 := x0)) (vs := [.slice A0 n0 c0]) ⟨_, _, _, rfl, rfl, e0, rfl⟩).mono fun e W' ⟨he, bel⟩ => ?_
  subst he
  exact ⟨_, rfl, _, _, _, [], _, [], hW', trodAll_mk1 (shut_bool Tryz.underlying4 _), (trodAll_cons_mk (Below.trod c2x (by kernel_rfl) (c9f (by kernel_rfl)) k0 bel lt0) trodAll_mk0), rfl, bel.frame _, fun h => by cases h⟩
theorem over : Rows.fnDurableRow.holds Tryz.pinned (OpenSpec.ofChange Rows.fnDurableSpec) :=
  OpenClaim.holds_of_wide 3 Tryz.f3 rfl rfl rfl rfl rfl rfl rfl ⟨rfl, rfl, rfl, rfl, rfl⟩ rfl rfl rfl rfl rfl (by kernel_rfl) Tryz.func3 (by kernel_rfl)
    (c9f (by kernel_rfl)) (by unfold Func.isWrapper; first | (rw [if_pos (by decide +kernel)]; kernel_rfl) | (rw [if_neg (by decide +kernel)]; exact ⟨rfl, rfl⟩))
    (fun os started H enc _ => c7a os started H enc)
theorem proved : Rows.FnDurableSaid := over
end Go.Proofs.YtkhldpbfkagdhaaGreat.fnDurable
