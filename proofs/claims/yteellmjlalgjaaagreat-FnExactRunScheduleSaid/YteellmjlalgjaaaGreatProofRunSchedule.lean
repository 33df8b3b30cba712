/-
  Proved: FnExactRunSchedule returns true for every input, and each argument reads behind the call as it read before. Conditions: none.
-/
import Derived.Test.YteellmjlalgjaaaGreatRows
import Derived.Test.YteellmjlalgjaaaGreatQRS4
import Derived.WalkKit
import Derived.ShutString
import Derived.ChangeOld
namespace Go.Proofs.YteellmjlalgjaaaGreat.fnExactRunSchedule
open Go.ChangeShapes Go.WideShapes Go.ChangeAt Go.RowKit
open Go.ChangeMaps (open_string shut_string)
set_option linter.unusedVariables false
theorem own : ownKnob Tryz.prog.godebug = none := by kernel_rfl
theorem b2s : laidOutB Tryz.prog = true := by kernel_rfl
set_option maxRecDepth 100000 in
theorem b9K (os : Os) (started : os.Started) (H : Type) (enc : TypeId × Value → H) :
    ReturnsInHanded {} Tryz.checked os 3 .any (Rows.fnExactRunScheduleSpec.pre6 enc Tryz.prog Tryz.f3 Rows.fnExactRunScheduleRow.domain false) (Rows.fnExactRunScheduleSpec.post enc Tryz.prog Tryz.f3 false true false false) := by
  refine returnsInHanded_of_change (C := Tryz.checked) own started (by kernel_rfl) Tryz.func3
    (ChangeSpec.witness6 (enc := enc) (C := Tryz.checked) false ⟨#[], #[.agg #[.string ByteArray.empty, .int .i64 0, .slice none 0 0, .slice none 0 0], .agg #[.slice none 0 0], .slice none 0 0], []⟩ 8 (by kernel_rfl) (by kernel_rfl) (by kernel_rfl) (by kernel_rfl)) ?_
  intro W base args ds gs before hval0 hW hcnd _
  have hval : ∀ (j : Nat) t v, Tryz.f3.params[j]? = some t → args[j]? = some v → Value.okWide Tryz.prog W .any base t v := hval0
  have hW' := hW
  obtain ⟨p, q, hA0, hV, rfl, hfz, hnd⟩ := hW
  have hA : DataW.TrodAll enc Tryz.prog W 0 (fun _ => true) true Tryz.f3.params.toList args.toList ds p := hA0
  rw [Tryz.params3] at hA hval
  obtain ⟨v0, vs0, d0, ds0, p0, q0, hargs, rfl, rfl, h0, r0⟩ := trodAll_cons hA
  obtain ⟨v1, vs1, d1, ds1, p1, q1, rfl, rfl, rfl, h1, r1⟩ := trodAll_cons r0
  obtain ⟨v2, vs2, d2, ds2, p2, q2, rfl, rfl, rfl, h2, r2⟩ := trodAll_cons r1
  obtain ⟨rfl, rfl, rfl⟩ := trodAll_nil r2
  obtain rfl : args = #[v0, v1, v2] := by cases args; simp_all
  obtain ⟨rfl, rfl⟩ := trodVars_none hV
  have k0 := h0
  have lt0 : ∀ x ∈ p0, x.block < W.heap.size := by obtain ⟨m, hm⟩ := k0; exact DataW.trod_lt m _ _ _ hm
  obtain ⟨cs0, rfl, _⟩ := okWide_struct Tryz.underlying25 (hval 0 25 v0 rfl rfl)
  obtain ⟨_, ⟨x0, rfl⟩, e0⟩ : ∃ ds, Is eDb ds ∧ a3i W ds cs0.toList := by obtain ⟨fuel, hf⟩ := h0; exact c4M.run enc W 0 _ true fuel _ _ hf
  have k1 := h1
  have lt1 : ∀ x ∈ p1, x.block < W.heap.size := by obtain ⟨m, hm⟩ := k1; exact DataW.trod_lt m _ _ _ hm
  obtain ⟨cs1, rfl, _⟩ := okWide_struct Tryz.underlying28 (hval 1 28 v1 rfl rfl)
  obtain ⟨_, ⟨x1, rfl⟩, e1⟩ : ∃ ds, Is (fun r : List TxT => [a0Z r]) ds ∧ a3i W ds cs1.toList := by obtain ⟨fuel, hf⟩ := h1; exact b9O.run enc W 0 _ true fuel _ _ hf
  have k2 := h2
  have lt2 : ∀ x ∈ p2, x.block < W.heap.size := by obtain ⟨m, hm⟩ := k2; exact DataW.trod_lt m _ _ _ hm
  obtain ⟨A2, n2, c2, rfl⟩ := okWide_slice Tryz.underlying29 (hval 2 29 v2 rfl rfl)
  obtain ⟨_, ⟨x2, rfl⟩, e2⟩ : ∃ ds, Is (fun r : List Int => [a2P r]) ds ∧ a3i W ds [.slice A2 n2 c2] := by obtain ⟨fuel, hf⟩ := h2; exact c1V.run enc W 0 _ true fuel _ _ hf
  clear hA0 hval0
  refine (c3E (w := W) (c3R (x0 := x0) (x1 := x1) (x2 := x2)) (vs := [.agg cs0, .agg cs1, .slice A2 n2 c2]) ⟨_, _, _, rfl, (by rw [Array.toArray_toList]), e0, ⟨_, _, _, rfl, (by rw [Array.toArray_toList]), e1, ⟨_, _, _, rfl, rfl, e2, rfl⟩⟩⟩).mono fun e W' ⟨he, bel⟩ => ?_
  subst he
  exact ⟨_, rfl, _, _, _, [], _, [], hW', trodAll_mk1 (shut_bool Tryz.underlying4 _), (trodAll_cons_mk (Below.trod b2s (by kernel_rfl) (c5p (by kernel_rfl)) k0 bel lt0) (trodAll_cons_mk (Below.trod b2s (by kernel_rfl) (c5p (by kernel_rfl)) k1 bel lt1) (trodAll_cons_mk (Below.trod b2s (by kernel_rfl) (c5p (by kernel_rfl)) k2 bel lt2) trodAll_mk0))), rfl, bel.frame _, fun h => by cases h⟩
theorem over : Rows.fnExactRunScheduleRow.holds Tryz.pinned (OpenSpec.ofChange Rows.fnExactRunScheduleSpec) :=
  OpenClaim.holds_of_wide 3 Tryz.f3 rfl rfl rfl rfl rfl rfl rfl ⟨rfl, rfl, rfl, rfl, rfl⟩ rfl rfl rfl rfl rfl (by kernel_rfl) Tryz.func3 (by kernel_rfl)
    (c5p (by kernel_rfl)) (by unfold Func.isWrapper; first | (rw [if_pos (by decide +kernel)]; kernel_rfl) | (rw [if_neg (by decide +kernel)]; exact ⟨rfl, rfl⟩))
    (fun os started H enc _ => b9K os started H enc)
theorem proved : Rows.FnExactRunScheduleSaid := over
end Go.Proofs.YteellmjlalgjaaaGreat.fnExactRunSchedule
