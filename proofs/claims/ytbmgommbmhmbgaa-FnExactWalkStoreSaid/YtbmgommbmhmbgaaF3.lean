/-
  Walks of a store; the laws of cursors.
-/
import Derived.Test.YtbmgommbmhmbgaaF2
namespace Go.Proofs.Ytbmgommbmhmbgaa
open Go.RowKit
open Go.Proofs
set_option linter.unusedVariables false
set_option linter.unusedSimpArgs false
set_option maxRecDepth 100000 in
theorem ok_impl_WalkStore {x : StoreT} {y : CursorT} (hb : wStore x ≤ 1048576) : KFn Try.prog 29 [.agg [(.dv [] (.str (x.1))), (.dv [] (itemsD (x.2.1))), (.dv [] (.int .i64 (x.2.2)))], .agg [(.dv [] (.bool (y.1.1))), (.dv [] (.bool (y.1.2.1))), (.dv [] (.int .i64 (y.1.2.2.1.1))), (.dv [] (.int .i64 (y.1.2.2.1.2.1))), (.dv [] (.str (y.1.2.2.1.2.2))), (.dv [] (.int .i64 (y.1.2.2.2.1))), (.dv [] (.int .i64 (y.1.2.2.2.2.1))), (.dv [] (.str (y.1.2.2.2.2.2))), (.dv [] (.bool (y.2.1))), (.dv [] (.bool (y.2.2.1))), (.dv [] (.int .i64 (y.2.2.2.1))), (.dv [] (.int .i64 (y.2.2.2.2.1))), (.dv [] (.str (y.2.2.2.2.2)))]] (.one (.key 9)) [(9, some (kcOf false (itemsD (walkN x 16 y))))] := by
  refine ⟨fn_intro Try.func29 rfl Try.ntmps29 Try.results29 rfl (fun C => ?_)⟩
  refine ok_factA (x := .tmp 0) 0 (ev_tmp rfl) rfl (fun (f0_0 : (x.1).size ≤ 9223372036854775807) => ?_)
  refine ok_factA (x := .tmp 0) 1 (ev_tmp rfl) rfl (fun (f0_1 : ((x.2.1)).length ≤ 9223372036854775807) => ?_)
  refine ok_factA (x := .tmp 0) 2 (ev_tmp rfl) rfl (fun (f0_2 : -9223372036854775808 ≤ (x.2.2) ∧ (x.2.2) ≤ 9223372036854775807) => ?_)
  refine ok_factA (x := .tmp 1) 2 (ev_tmp rfl) rfl (fun (f1_2 : -9223372036854775808 ≤ (y.1.2.2.1.1) ∧ (y.1.2.2.1.1) ≤ 9223372036854775807) => ?_)
  refine ok_factA (x := .tmp 1) 3 (ev_tmp rfl) rfl (fun (f1_3 : -9223372036854775808 ≤ (y.1.2.2.1.2.1) ∧ (y.1.2.2.1.2.1) ≤ 9223372036854775807) => ?_)
  refine ok_factA (x := .tmp 1) 4 (ev_tmp rfl) rfl (fun (f1_4 : (y.1.2.2.1.2.2).size ≤ 9223372036854775807) => ?_)
  refine ok_factA (x := .tmp 1) 5 (ev_tmp rfl) rfl (fun (f1_5 : -9223372036854775808 ≤ (y.1.2.2.2.1) ∧ (y.1.2.2.2.1) ≤ 9223372036854775807) => ?_)
  refine ok_factA (x := .tmp 1) 6 (ev_tmp rfl) rfl (fun (f1_6 : -9223372036854775808 ≤ (y.1.2.2.2.2.1) ∧ (y.1.2.2.2.2.1) ≤ 9223372036854775807) => ?_)
  refine ok_factA (x := .tmp 1) 7 (ev_tmp rfl) rfl (fun (f1_7 : (y.1.2.2.2.2.2).size ≤ 9223372036854775807) => ?_)
  refine ok_factA (x := .tmp 1) 10 (ev_tmp rfl) rfl (fun (f1_10 : -9223372036854775808 ≤ (y.2.2.2.1) ∧ (y.2.2.2.1) ≤ 9223372036854775807) => ?_)
  refine ok_factA (x := .tmp 1) 11 (ev_tmp rfl) rfl (fun (f1_11 : -9223372036854775808 ≤ (y.2.2.2.2.1) ∧ (y.2.2.2.2.1) ≤ 9223372036854775807) => ?_)
  refine ok_factA (x := .tmp 1) 12 (ev_tmp rfl) rfl (fun (f1_12 : (y.2.2.2.2.2).size ≤ 9223372036854775807) => ?_)
  refine ok_seq ?_
  refine ok_region ?_
  refine o_box rfl rfl rfl (ev_tmp rfl) rfl rfl rfl rfl ?_
  refine o_box rfl rfl rfl (ev_tmp rfl) rfl rfl rfl rfl ?_
  refine o_pure rfl rfl (pu_move (.inr rfl) ev_nil) rfl rfl ?_
  refine ops_nil ?_
  refine then_n ?_
  refine ok_seq ?_
  refine ok_region ?_
  refine o_build0 (k := 9) hT rfl rfl rfl rfl rfl rfl rfl rfl ?_
  refine o_pure rfl rfl (pu_move (.inr rfl) (ev_tmp rfl)) rfl rfl ?_
  refine ops_nil ?_
  refine then_n ?_
  refine ok_seq ?_
  refine ok_block ?_
  refine ok_loop (ι := Nat × CursorT × List ItemT) (fun zz => ⟨[(2, .box 2 0), (3, .box 3 0), (4, .one .nil), (5, .one (.key 9))], [(2, 29, [(.dv [] (.str (x.1))), (.dv [] (itemsD (x.2.1))), (.dv [] (.int .i64 (x.2.2)))]), (3, 47, [(.dv [] (.bool (zz.2.1.1.1))), (.dv [] (.bool (zz.2.1.1.2.1))), (.dv [] (.int .i64 (zz.2.1.1.2.2.1.1))), (.dv [] (.int .i64 (zz.2.1.1.2.2.1.2.1))), (.dv [] (.str (zz.2.1.1.2.2.1.2.2))), (.dv [] (.int .i64 (zz.2.1.1.2.2.2.1))), (.dv [] (.int .i64 (zz.2.1.1.2.2.2.2.1))), (.dv [] (.str (zz.2.1.1.2.2.2.2.2))), (.dv [] (.bool (zz.2.1.2.1))), (.dv [] (.bool (zz.2.1.2.2.1))), (.dv [] (.int .i64 (zz.2.1.2.2.2.1))), (.dv [] (.int .i64 (zz.2.1.2.2.2.2.1))), (.dv [] (.str (zz.2.1.2.2.2.2.2)))])], [(9, some (kcOf false (.sl 52 4 (zz.2.2.length) (zz.2.2.flatMap eItem))))]⟩) (fun zz => zz.2.2.length = zz.1 ∧ zz.1 ≤ 16 ∧ walkN x 16 y = zz.2.2 ++ walkN x (16 - zz.1) zz.2.1) (fun zz => 16 - zz.1) ((0, y, [])) ?_ (weak_sub ⟨rfl, rfl, rfl, rfl, trivial⟩ ⟨rfl, rfl, trivial⟩ ⟨rfl, trivial⟩ rfl) (fun zz hx => ?_)
  · exact ⟨rfl, by omega, rfl⟩
  obtain ⟨k, c, o⟩ := zz
  replace hx : o.length = k ∧ k ≤ 16 ∧ walkN x 16 y = o ++ walkN x (16 - k) c := hx
  obtain ⟨hl, hk, hw⟩ := hx
  show Ok _ _ _ _ _ (⟨[(2, .box 2 0), (3, .box 3 0), (4, .one .nil), (5, .one (.key 9))], [(2, 29, [(.dv [] (.str (x.1))), (.dv [] (itemsD (x.2.1))), (.dv [] (.int .i64 (x.2.2)))]), (3, 47, [(.dv [] (.bool (c.1.1))), (.dv [] (.bool (c.1.2.1))), (.dv [] (.int .i64 (c.1.2.2.1.1))), (.dv [] (.int .i64 (c.1.2.2.1.2.1))), (.dv [] (.str (c.1.2.2.1.2.2))), (.dv [] (.int .i64 (c.1.2.2.2.1))), (.dv [] (.int .i64 (c.1.2.2.2.2.1))), (.dv [] (.str (c.1.2.2.2.2.2))), (.dv [] (.bool (c.2.1))), (.dv [] (.bool (c.2.2.1))), (.dv [] (.int .i64 (c.2.2.2.1))), (.dv [] (.int .i64 (c.2.2.2.2.1))), (.dv [] (.str (c.2.2.2.2.2)))])], [(9, some (kcOf false (.sl 52 4 (o.length) (o.flatMap eItem))))]⟩ : St)
  refine ok_seq ?_
  refine ok_seq ?_
  refine ok_region ?_
  refine o_pure rfl rfl (pu_move (.inl rfl) (ev_tmp rfl)) rfl rfl ?_
  refine o_pure rfl rfl (pu_lenKn (n := (o.length)) hT rfl rfl (ev_tmp rfl) rfl rfl) rfl rfl ?_
  refine o_pure rfl rfl (pu_lss rfl (ev_tmp rfl) (ev_int (inR_lit rfl))) rfl rfl ?_
  refine ops_nil ?_
  refine then_n ?_
  refine ok_cond (ev_tmp rfl) (fun c1 => ?_) (fun c1 => ?_)
  · skip
    have d1 := of_decide_eq_true c1
    refine ok_skip ?_
    refine then_n ?_
    refine ok_block ?_
    refine ok_seq ?_
    refine ok_region ?_
    refine o_pure rfl rfl (pu_loadBoxA hT rfl rfl (ev_tmp rfl) rfl rfl) rfl rfl ?_
    refine o_pure rfl rfl (pu_loadBoxA hT rfl rfl (ev_tmp rfl) rfl rfl) rfl rfl ?_
    refine o_callK 16000 rfl rfl rfl Try.call23 (ok_impl_CursorNext (by first | omega | assumption)) (as_cons (ev_tmp rfl) (ag_agg (ag_cons ac_dv (ag_cons ac_dv (ag_cons ac_dv ag_nil)))) (as_cons (ev_tmp rfl) (ag_agg (ag_cons ac_dv (ag_cons ac_dv (ag_cons ac_dv (ag_cons ac_dv (ag_cons ac_dv (ag_cons ac_dv (ag_cons ac_dv (ag_cons ac_dv (ag_cons ac_dv (ag_cons ac_dv (ag_cons ac_dv (ag_cons ac_dv (ag_cons ac_dv ag_nil)))))))))))))) as_nil)) rfl rfl rfl ?_
    refine o_pure rfl rfl (pu_move (.inl rfl) (ev_tmp rfl)) rfl rfl ?_
    refine o_pure rfl rfl (pu_extractA rfl (ev_tmp rfl) rfl) rfl rfl ?_
    refine o_pure rfl rfl (pu_extractA rfl (ev_tmp rfl) rfl) rfl rfl ?_
    refine o_pure rfl rfl (pu_extract1 rfl (ev_tmp rfl) rfl) rfl rfl ?_
    refine o_alloc hT rfl rfl rfl rfl rfl rfl ?_
    refine o_alloc hT rfl rfl rfl rfl rfl rfl ?_
    refine o_store hT rfl rfl rfl rfl (ev_tmp rfl) (ev_tmp rfl) rfl rfl rfl rfl rfl rfl ?_
    refine o_store hT rfl rfl rfl rfl (ev_tmp rfl) (ev_tmp rfl) rfl rfl rfl rfl rfl rfl ?_
    refine o_pure rfl rfl (pu_move (.inr rfl) (ev_tmp rfl)) rfl rfl ?_
    refine ops_nil ?_
    refine then_n ?_
    refine ok_seq ?_
    refine ok_seq ?_
    refine ok_region ?_
    refine o_pure rfl rfl (pu_move (.inl rfl) (ev_tmp rfl)) rfl rfl ?_
    refine o_pure rfl rfl (pu_not rfl (ev_tmp rfl)) rfl rfl ?_
    refine ops_nil ?_
    refine then_n ?_
    refine ok_cond (ev_tmp rfl) (fun c2 => ?_) (fun c2 => ?_)
    · skip
      refine ok_exit ?_
      refine then_e ?_
      refine blk_o rfl ?_
      refine then_e ?_
      refine blk_e rfl ?_
      refine then_n ?_
      refine ok_seq ?_
      refine ok_region ?_
      refine o_pure rfl rfl (pu_move (.inl rfl) (ev_tmp rfl)) rfl rfl ?_
      refine o_pure rfl rfl (pu_move (.inr rfl) (ev_tmp rfl)) rfl rfl ?_
      refine ops_nil ?_
      refine then_n ?_
      refine ok_weak (σ' := ⟨[(4, .one (.key 9))], [], [(9, some (kcOf false (itemsD (walkN x 16 y))))]⟩) (weak_sub ⟨rfl, trivial⟩ trivial ⟨(congrArg (fun l : List ItemT => some (some (KC.mk false 52 4 l.length (l.flatMap eItem)))) (by first | exact walk_end (by omega) hw | exact walk_stop (by omega) hw (by have h := c2; simpa using h))), trivial⟩ rfl) ?_
      refine ok_ret ?_
      refine fin1 (res_tmp rfl) ?_
      exact ⟨rfl, rfl⟩
    · skip
      refine ok_skip ?_
      refine then_n ?_
      refine ok_seq ?_
      refine ok_region ?_
      refine o_pure rfl rfl (pu_loadBoxA hT rfl rfl (ev_tmp rfl) rfl rfl) rfl rfl ?_
      refine o_store hT rfl rfl rfl rfl (ev_tmp rfl) (ev_tmp rfl) rfl rfl rfl rfl rfl rfl ?_
      refine ops_nil ?_
      refine then_n ?_
      refine ok_region ?_
      refine o_pure rfl rfl (pu_move (.inl rfl) (ev_tmp rfl)) rfl rfl ?_
      refine o_pure rfl rfl (pu_loadBoxA hT rfl rfl (ev_tmp rfl) rfl rfl) rfl rfl ?_
      refine o_build1 (k := 25) (js := [25001]) hT rfl rfl rfl rfl rfl rfl rfl rfl rfl (ev_tmp rfl) rfl rfl (ow_cons' (ow_dv rfl) (ow_cons' (ow_dv rfl) (ow_cons' (ow_dv rfl) (ow_cons' (ow_key rfl) ow_nil rfl) rfl) rfl) rfl) (by decide) (by decide) rfl rfl ?_
      simp only [killT, killB, SV.kill, CV.kill, List.map_cons, List.map_nil, List.any_cons, List.any_nil, List.contains_cons, List.contains_nil, List.nil_append, List.cons_append, Nat.reduceBEq, Bool.or_false, Bool.false_or, Bool.or_true, Bool.true_or, cond_true, cond_false]
      refine o_appK (k := 9) (j := 25) (cs := (o ++ [(curNext x c).2.1]).flatMap eItem) (n := (o ++ [(curNext x c).2.1]).length) hT rfl rfl rfl rfl rfl rfl rfl (ev_tmp rfl) rfl rfl rfl (ev_tmp rfl) rfl rfl (by decide) (by dsimp only [kcOf]; omega) (by dsimp only [kcOf]; omega) (by simp) (by rw [List.flatMap_append]; rfl) ?_
      simp only [killT, killB, SV.kill, CV.kill, List.map_cons, List.map_nil, List.any_cons, List.any_nil, List.contains_cons, List.contains_nil, List.nil_append, List.cons_append, Nat.reduceBEq, Bool.or_false, Bool.false_or, Bool.or_true, Bool.true_or, cond_true, cond_false]
      refine o_pure rfl rfl (pu_move (.inr rfl) (ev_tmp rfl)) rfl rfl ?_
      refine ops_nil ?_
      refine blk_n ?_
      refine then_n ?_
      refine ⟨(k + 1, (curNext x c).1, o ++ [(curNext x c).2.1]), ?_, ?_, weak_sub ⟨rfl, rfl, rfl, rfl, trivial⟩ ⟨rfl, rfl, trivial⟩ ⟨rfl, trivial⟩ rfl⟩
      · exact ⟨by simp only [List.length_append, List.length_singleton]; omega, by omega, walk_go (by omega) hw (by have h := c2; simpa using h)⟩
      · dsimp only; omega
  · skip
    have d1 := of_decide_eq_false c1
    refine ok_exit ?_
    refine then_e ?_
    refine then_e ?_
    refine blk_e rfl ?_
    refine then_n ?_
    refine ok_seq ?_
    refine ok_region ?_
    refine o_pure rfl rfl (pu_move (.inl rfl) (ev_tmp rfl)) rfl rfl ?_
    refine o_pure rfl rfl (pu_move (.inr rfl) (ev_tmp rfl)) rfl rfl ?_
    refine ops_nil ?_
    refine then_n ?_
    refine ok_weak (σ' := ⟨[(4, .one (.key 9))], [], [(9, some (kcOf false (itemsD (walkN x 16 y))))]⟩) (weak_sub ⟨rfl, trivial⟩ trivial ⟨(congrArg (fun l : List ItemT => some (some (KC.mk false 52 4 l.length (l.flatMap eItem)))) (by first | exact walk_end (by omega) hw | exact walk_stop (by omega) hw (by have h := c2; simpa using h))), trivial⟩ rfl) ?_
    refine ok_ret ?_
    refine fin1 (res_tmp rfl) ?_
    exact ⟨rfl, rfl⟩
set_option maxRecDepth 100000 in
theorem ok_spec_WalkStore {x : StoreT} {y : CursorT} (hb : wStore x ≤ 1048576) : KFn Try.prog 28 [.agg [(.dv [] (.str (x.1))), (.dv [] (itemsD (x.2.1))), (.dv [] (.int .i64 (x.2.2)))], .agg [(.dv [] (.bool (y.1.1))), (.dv [] (.bool (y.1.2.1))), (.dv [] (.int .i64 (y.1.2.2.1.1))), (.dv [] (.int .i64 (y.1.2.2.1.2.1))), (.dv [] (.str (y.1.2.2.1.2.2))), (.dv [] (.int .i64 (y.1.2.2.2.1))), (.dv [] (.int .i64 (y.1.2.2.2.2.1))), (.dv [] (.str (y.1.2.2.2.2.2))), (.dv [] (.bool (y.2.1))), (.dv [] (.bool (y.2.2.1))), (.dv [] (.int .i64 (y.2.2.2.1))), (.dv [] (.int .i64 (y.2.2.2.2.1))), (.dv [] (.str (y.2.2.2.2.2)))]] (.one (.key 10)) [(10, some (kcOf false (itemsD (walkN x 16 y))))] := by
  refine ⟨fn_intro Try.func28 rfl Try.ntmps28 Try.results28 rfl (fun C => ?_)⟩
  refine ok_factA (x := .tmp 0) 0 (ev_tmp rfl) rfl (fun (f0_0 : (x.1).size ≤ 9223372036854775807) => ?_)
  refine ok_factA (x := .tmp 0) 1 (ev_tmp rfl) rfl (fun (f0_1 : ((x.2.1)).length ≤ 9223372036854775807) => ?_)
  refine ok_factA (x := .tmp 0) 2 (ev_tmp rfl) rfl (fun (f0_2 : -9223372036854775808 ≤ (x.2.2) ∧ (x.2.2) ≤ 9223372036854775807) => ?_)
  refine ok_factA (x := .tmp 1) 2 (ev_tmp rfl) rfl (fun (f1_2 : -9223372036854775808 ≤ (y.1.2.2.1.1) ∧ (y.1.2.2.1.1) ≤ 9223372036854775807) => ?_)
  refine ok_factA (x := .tmp 1) 3 (ev_tmp rfl) rfl (fun (f1_3 : -9223372036854775808 ≤ (y.1.2.2.1.2.1) ∧ (y.1.2.2.1.2.1) ≤ 9223372036854775807) => ?_)
  refine ok_factA (x := .tmp 1) 4 (ev_tmp rfl) rfl (fun (f1_4 : (y.1.2.2.1.2.2).size ≤ 9223372036854775807) => ?_)
  refine ok_factA (x := .tmp 1) 5 (ev_tmp rfl) rfl (fun (f1_5 : -9223372036854775808 ≤ (y.1.2.2.2.1) ∧ (y.1.2.2.2.1) ≤ 9223372036854775807) => ?_)
  refine ok_factA (x := .tmp 1) 6 (ev_tmp rfl) rfl (fun (f1_6 : -9223372036854775808 ≤ (y.1.2.2.2.2.1) ∧ (y.1.2.2.2.2.1) ≤ 9223372036854775807) => ?_)
  refine ok_factA (x := .tmp 1) 7 (ev_tmp rfl) rfl (fun (f1_7 : (y.1.2.2.2.2.2).size ≤ 9223372036854775807) => ?_)
  refine ok_factA (x := .tmp 1) 10 (ev_tmp rfl) rfl (fun (f1_10 : -9223372036854775808 ≤ (y.2.2.2.1) ∧ (y.2.2.2.1) ≤ 9223372036854775807) => ?_)
  refine ok_factA (x := .tmp 1) 11 (ev_tmp rfl) rfl (fun (f1_11 : -9223372036854775808 ≤ (y.2.2.2.2.1) ∧ (y.2.2.2.2.1) ≤ 9223372036854775807) => ?_)
  refine ok_factA (x := .tmp 1) 12 (ev_tmp rfl) rfl (fun (f1_12 : (y.2.2.2.2.2).size ≤ 9223372036854775807) => ?_)
  refine ok_seq ?_
  refine ok_region ?_
  refine o_box rfl rfl rfl (ev_tmp rfl) rfl rfl rfl rfl ?_
  refine o_box rfl rfl rfl (ev_tmp rfl) rfl rfl rfl rfl ?_
  refine o_pure rfl rfl (pu_move (.inr rfl) ev_nil) rfl rfl ?_
  refine ops_nil ?_
  refine then_n ?_
  refine ok_seq ?_
  refine ok_region ?_
  refine o_build0 (k := 10) hT rfl rfl rfl rfl rfl rfl rfl rfl ?_
  refine o_pure rfl rfl (pu_move (.inr rfl) (ev_tmp rfl)) rfl rfl ?_
  refine ops_nil ?_
  refine then_n ?_
  refine ok_seq ?_
  refine ok_seq ?_
  refine ok_region ?_
  refine o_pure rfl rfl (pu_move (.inr rfl) (ev_int (inR_lit rfl))) rfl rfl ?_
  refine ops_nil ?_
  refine then_n ?_
  refine ok_block ?_
  refine ok_loop (ι := Nat × CursorT × List ItemT) (fun zz => ⟨[(2, .box 2 0), (3, .box 3 0), (5, .one (.key 10)), (6, .one (.dv [] (.int .i64 ((zz.1 : Int)))))], [(2, 29, [(.dv [] (.str (x.1))), (.dv [] (itemsD (x.2.1))), (.dv [] (.int .i64 (x.2.2)))]), (3, 47, [(.dv [] (.bool (zz.2.1.1.1))), (.dv [] (.bool (zz.2.1.1.2.1))), (.dv [] (.int .i64 (zz.2.1.1.2.2.1.1))), (.dv [] (.int .i64 (zz.2.1.1.2.2.1.2.1))), (.dv [] (.str (zz.2.1.1.2.2.1.2.2))), (.dv [] (.int .i64 (zz.2.1.1.2.2.2.1))), (.dv [] (.int .i64 (zz.2.1.1.2.2.2.2.1))), (.dv [] (.str (zz.2.1.1.2.2.2.2.2))), (.dv [] (.bool (zz.2.1.2.1))), (.dv [] (.bool (zz.2.1.2.2.1))), (.dv [] (.int .i64 (zz.2.1.2.2.2.1))), (.dv [] (.int .i64 (zz.2.1.2.2.2.2.1))), (.dv [] (.str (zz.2.1.2.2.2.2.2)))])], [(10, some (kcOf false (.sl 52 4 (zz.2.2.length) (zz.2.2.flatMap eItem))))]⟩) (fun zz => zz.2.2.length = zz.1 ∧ zz.1 ≤ 16 ∧ walkN x 16 y = zz.2.2 ++ walkN x (16 - zz.1) zz.2.1) (fun zz => 16 - zz.1) ((0, y, [])) ?_ (weak_sub ⟨rfl, rfl, rfl, rfl, trivial⟩ ⟨rfl, rfl, trivial⟩ ⟨rfl, trivial⟩ rfl) (fun zz hx => ?_)
  · exact ⟨rfl, by omega, rfl⟩
  obtain ⟨k, c, o⟩ := zz
  replace hx : o.length = k ∧ k ≤ 16 ∧ walkN x 16 y = o ++ walkN x (16 - k) c := hx
  obtain ⟨hl, hk, hw⟩ := hx
  show Ok _ _ _ _ _ (⟨[(2, .box 2 0), (3, .box 3 0), (5, .one (.key 10)), (6, .one (.dv [] (.int .i64 ((k : Int)))))], [(2, 29, [(.dv [] (.str (x.1))), (.dv [] (itemsD (x.2.1))), (.dv [] (.int .i64 (x.2.2)))]), (3, 47, [(.dv [] (.bool (c.1.1))), (.dv [] (.bool (c.1.2.1))), (.dv [] (.int .i64 (c.1.2.2.1.1))), (.dv [] (.int .i64 (c.1.2.2.1.2.1))), (.dv [] (.str (c.1.2.2.1.2.2))), (.dv [] (.int .i64 (c.1.2.2.2.1))), (.dv [] (.int .i64 (c.1.2.2.2.2.1))), (.dv [] (.str (c.1.2.2.2.2.2))), (.dv [] (.bool (c.2.1))), (.dv [] (.bool (c.2.2.1))), (.dv [] (.int .i64 (c.2.2.2.1))), (.dv [] (.int .i64 (c.2.2.2.2.1))), (.dv [] (.str (c.2.2.2.2.2)))])], [(10, some (kcOf false (.sl 52 4 (o.length) (o.flatMap eItem))))]⟩ : St)
  refine ok_seq ?_
  refine ok_seq ?_
  refine ok_region ?_
  refine o_pure rfl rfl (pu_move (.inl rfl) (ev_tmp rfl)) rfl rfl ?_
  refine o_pure rfl rfl (pu_lss rfl (ev_tmp rfl) (ev_int (inR_lit rfl))) rfl rfl ?_
  refine ops_nil ?_
  refine then_n ?_
  refine ok_cond (ev_tmp rfl) (fun c1 => ?_) (fun c1 => ?_)
  · skip
    have d1 := of_decide_eq_true c1
    refine ok_skip ?_
    refine then_n ?_
    refine ok_seq ?_
    refine ok_block ?_
    refine ok_seq ?_
    refine ok_region ?_
    refine o_pure rfl rfl (pu_loadBoxA hT rfl rfl (ev_tmp rfl) rfl rfl) rfl rfl ?_
    refine o_pure rfl rfl (pu_loadBoxA hT rfl rfl (ev_tmp rfl) rfl rfl) rfl rfl ?_
    refine o_callK 18000 rfl rfl rfl Try.call21 (ok_spec_CursorNext (by first | omega | assumption)) (as_cons (ev_tmp rfl) (ag_agg (ag_cons ac_dv (ag_cons ac_dv (ag_cons ac_dv ag_nil)))) (as_cons (ev_tmp rfl) (ag_agg (ag_cons ac_dv (ag_cons ac_dv (ag_cons ac_dv (ag_cons ac_dv (ag_cons ac_dv (ag_cons ac_dv (ag_cons ac_dv (ag_cons ac_dv (ag_cons ac_dv (ag_cons ac_dv (ag_cons ac_dv (ag_cons ac_dv (ag_cons ac_dv ag_nil)))))))))))))) as_nil)) rfl rfl rfl ?_
    refine o_pure rfl rfl (pu_move (.inl rfl) (ev_tmp rfl)) rfl rfl ?_
    refine o_pure rfl rfl (pu_extractA rfl (ev_tmp rfl) rfl) rfl rfl ?_
    refine o_pure rfl rfl (pu_extractA rfl (ev_tmp rfl) rfl) rfl rfl ?_
    refine o_pure rfl rfl (pu_extract1 rfl (ev_tmp rfl) rfl) rfl rfl ?_
    refine o_alloc hT rfl rfl rfl rfl rfl rfl ?_
    refine o_alloc hT rfl rfl rfl rfl rfl rfl ?_
    refine o_store hT rfl rfl rfl rfl (ev_tmp rfl) (ev_tmp rfl) rfl rfl rfl rfl rfl rfl ?_
    refine o_store hT rfl rfl rfl rfl (ev_tmp rfl) (ev_tmp rfl) rfl rfl rfl rfl rfl rfl ?_
    refine o_pure rfl rfl (pu_move (.inr rfl) (ev_tmp rfl)) rfl rfl ?_
    refine ops_nil ?_
    refine then_n ?_
    refine ok_seq ?_
    refine ok_seq ?_
    refine ok_region ?_
    refine o_pure rfl rfl (pu_move (.inl rfl) (ev_tmp rfl)) rfl rfl ?_
    refine o_pure rfl rfl (pu_not rfl (ev_tmp rfl)) rfl rfl ?_
    refine ops_nil ?_
    refine then_n ?_
    refine ok_cond (ev_tmp rfl) (fun c2 => ?_) (fun c2 => ?_)
    · skip
      refine ok_seq ?_
      refine ok_region ?_
      refine o_pure rfl rfl (pu_move (.inl rfl) (ev_tmp rfl)) rfl rfl ?_
      refine o_pure rfl rfl (pu_move (.inr rfl) (ev_tmp rfl)) rfl rfl ?_
      refine ops_nil ?_
      refine then_n ?_
      refine ok_weak (σ' := ⟨[(4, .one (.key 10))], [], [(10, some (kcOf false (itemsD (walkN x 16 y))))]⟩) (weak_sub ⟨rfl, trivial⟩ trivial ⟨(congrArg (fun l : List ItemT => some (some (KC.mk false 52 4 l.length (l.flatMap eItem)))) (by first | exact walk_end (by omega) hw | exact walk_stop (by omega) hw (by have h := c2; simpa using h))), trivial⟩ rfl) ?_
      refine ok_ret ?_
      refine then_r ?_
      refine blk_r ?_
      refine then_r ?_
      refine then_r ?_
      refine blk_r ?_
      refine then_r ?_
      refine fin1 (res_tmp rfl) ?_
      exact ⟨rfl, rfl⟩
    · skip
      refine ok_skip ?_
      refine then_n ?_
      refine ok_seq ?_
      refine ok_region ?_
      refine o_pure rfl rfl (pu_move (.inl rfl) (ev_tmp rfl)) rfl rfl ?_
      refine o_pure rfl rfl (pu_loadBoxA hT rfl rfl (ev_tmp rfl) rfl rfl) rfl rfl ?_
      refine o_build1 (k := 27) (js := [27001]) hT rfl rfl rfl rfl rfl rfl rfl rfl rfl (ev_tmp rfl) rfl rfl (ow_cons' (ow_dv rfl) (ow_cons' (ow_dv rfl) (ow_cons' (ow_dv rfl) (ow_cons' (ow_key rfl) ow_nil rfl) rfl) rfl) rfl) (by decide) (by decide) rfl rfl ?_
      simp only [killT, killB, SV.kill, CV.kill, List.map_cons, List.map_nil, List.any_cons, List.any_nil, List.contains_cons, List.contains_nil, List.nil_append, List.cons_append, Nat.reduceBEq, Bool.or_false, Bool.false_or, Bool.or_true, Bool.true_or, cond_true, cond_false]
      refine o_appK (k := 10) (j := 27) (cs := (o ++ [(curNext x c).2.1]).flatMap eItem) (n := (o ++ [(curNext x c).2.1]).length) hT rfl rfl rfl rfl rfl rfl rfl (ev_tmp rfl) rfl rfl rfl (ev_tmp rfl) rfl rfl (by decide) (by dsimp only [kcOf]; omega) (by dsimp only [kcOf]; omega) (by simp) (by rw [List.flatMap_append]; rfl) ?_
      simp only [killT, killB, SV.kill, CV.kill, List.map_cons, List.map_nil, List.any_cons, List.any_nil, List.contains_cons, List.contains_nil, List.nil_append, List.cons_append, Nat.reduceBEq, Bool.or_false, Bool.false_or, Bool.or_true, Bool.true_or, cond_true, cond_false]
      refine o_pure rfl rfl (pu_move (.inr rfl) (ev_tmp rfl)) rfl rfl ?_
      refine ops_nil ?_
      refine then_n ?_
      refine ok_region ?_
      refine o_pure rfl rfl (pu_loadBoxA hT rfl rfl (ev_tmp rfl) rfl rfl) rfl rfl ?_
      refine o_store hT rfl rfl rfl rfl (ev_tmp rfl) (ev_tmp rfl) rfl rfl rfl rfl rfl rfl ?_
      refine ops_nil ?_
      refine blk_n ?_
      refine then_n ?_
      refine ok_region ?_
      refine o_pure rfl rfl (pu_move (.inl rfl) (ev_tmp rfl)) rfl rfl ?_
      refine o_pure rfl rfl (pu_addR rfl (ev_tmp rfl) (ev_int (inR_lit rfl)) (inR64 (by omega) (by omega))) rfl rfl ?_
      refine o_pure rfl rfl (pu_move (.inr rfl) (ev_tmp rfl)) rfl rfl ?_
      refine ops_nil ?_
      refine then_n ?_
      refine ⟨(k + 1, (curNext x c).1, o ++ [(curNext x c).2.1]), ?_, ?_, weak_sub ⟨rfl, rfl, rfl, rfl, trivial⟩ ⟨rfl, rfl, trivial⟩ ⟨rfl, trivial⟩ rfl⟩
      · exact ⟨by simp only [List.length_append, List.length_singleton]; omega, by omega, walk_go (by omega) hw (by have h := c2; simpa using h)⟩
      · dsimp only; omega
  · skip
    have d1 := of_decide_eq_false c1
    refine ok_exit ?_
    refine then_e ?_
    refine then_e ?_
    refine blk_e rfl ?_
    refine then_n ?_
    refine ok_seq ?_
    refine ok_region ?_
    refine o_pure rfl rfl (pu_move (.inl rfl) (ev_tmp rfl)) rfl rfl ?_
    refine o_pure rfl rfl (pu_move (.inr rfl) (ev_tmp rfl)) rfl rfl ?_
    refine ops_nil ?_
    refine then_n ?_
    refine ok_weak (σ' := ⟨[(4, .one (.key 10))], [], [(10, some (kcOf false (itemsD (walkN x 16 y))))]⟩) (weak_sub ⟨rfl, trivial⟩ trivial ⟨(congrArg (fun l : List ItemT => some (some (KC.mk false 52 4 l.length (l.flatMap eItem)))) (by first | exact walk_end (by omega) hw | exact walk_stop (by omega) hw (by have h := c2; simpa using h))), trivial⟩ rfl) ?_
    refine ok_ret ?_
    refine fin1 (res_tmp rfl) ?_
    exact ⟨rfl, rfl⟩
end Go.Proofs.Ytbmgommbmhmbgaa
