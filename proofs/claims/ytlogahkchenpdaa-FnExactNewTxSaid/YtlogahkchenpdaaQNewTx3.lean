/-
  Contracts of the program's functions for the statement NewTx, by the rules of the logic. Conditions: none but those in the theorems.
-/
import Derived.Below
import Derived.Deep.Slices
import Derived.OpenShut
import Derived.ProofKit
import Derived.Test.YtlogahkchenpdaaQNewTx2
namespace Go.Proofs.Ytlogahkchenpdaa
open Go.RowKit
open Go.Proofs
set_option linter.unusedVariables false
set_option linter.unusedSimpArgs false

theorem take_csG {α : Type} [Inhabited α] {enc : α → List DV} {xs : List α} {k : Nat} (hk : k < xs.length) : (xs.take k).flatMap enc ++ enc (xs.getD (k : Int).toNat default) = (xs.take (k + 1)).flatMap enc ∧ (xs.take k).length + 1 = (xs.take (k + 1)).length := by
  have e : xs.getD (k : Int).toNat default = xs[k] := by simp [List.getD, List.getElem?_eq_getElem hk]
  rw [List.take_add_one, List.getElem?_eq_getElem hk, e]
  simp only [Option.toList_some, List.flatMap_append, List.flatMap_cons, List.flatMap_nil, List.append_nil, List.length_append, List.length_singleton]
  exact ⟨trivial, trivial⟩
theorem wOp_rec (o : OpT) : o.2.2.2.1.length ≤ wOp o := by unfold wOp wRecord wList; omega

set_option maxRecDepth 100000 in
theorem ok_impl_copyOps {x : List OpT} (hb : wList wOp x ≤ 1099511627776) : KFn Try.prog 108 [.one (.dv [] (opsD (x)))] (.one (.key 6)) [(6, some (kcOf false (opsD (x))))] := by
  refine ⟨fn_intro Try.func108 rfl Try.ntmps108 Try.results108 rfl (fun C => ?_)⟩
  have hwl : wList wOp x = x.length + wSum wOp x := rfl
  refine ok_fact (x := .tmp 0) (ev_tmp rfl) (fun (f0 : ((x)).length ≤ 9223372036854775807) => ?_)
  refine ok_seq ?_
  refine ok_region ?_
  refine o_pure rfl rfl (pu_move (.inr rfl) ev_nil) rfl rfl ?_
  refine ops_nil ?_
  refine then_n ?_
  refine ok_seq ?_
  refine ok_region ?_
  refine o_build0 (k := 6) hT rfl rfl rfl rfl rfl rfl rfl rfl ?_
  refine o_pure rfl rfl (pu_move (.inr rfl) (ev_tmp rfl)) rfl rfl ?_
  refine ops_nil ?_
  refine then_n ?_
  refine ok_seq ?_
  refine ok_seq ?_
  refine ok_region ?_
  refine o_pure rfl rfl (pu_move (.inl rfl) (ev_tmp rfl)) rfl rfl ?_
  refine o_pure rfl rfl (pu_lenV hT rfl rfl (ev_tmp rfl)) rfl rfl ?_
  refine o_pure rfl rfl (pu_move (.inl rfl) (ev_int (inR_lit rfl))) rfl rfl ?_
  refine ops_nil ?_
  refine then_n ?_
  refine ok_block ?_
  refine ok_loop (ι := Nat) (fun zz => ⟨[(2, .one .nil), (3, .one (.key 6)), (7, .one (.dv [] (opsD (x)))), (8, .one (.dv [] (.int .i64 ((((x)).length : Int))))), (9, .one (.dv [] (.int .i64 ((zz : Int)))))], [], [(6, some (kcOf false (.sl 102 7 ((x.take zz).length) ((x.take zz).flatMap eOp))))]⟩) (fun zz => zz ≤ x.length) (fun zz => x.length - zz) (0) ?_ (weak_sub ⟨rfl, rfl, rfl, rfl, rfl, trivial⟩ trivial ⟨rfl, trivial⟩ rfl) (fun zz hx => ?_)
  · exact Nat.zero_le _
  obtain ⟨k, rfl⟩ : ∃ v, v = zz := ⟨_, rfl⟩
  replace hx : k ≤ x.length := hx
  have hw := fun h => wSum_succ wOp x k h
  show Ok _ _ _ _ _ (⟨[(2, .one .nil), (3, .one (.key 6)), (7, .one (.dv [] (opsD (x)))), (8, .one (.dv [] (.int .i64 ((((x)).length : Int))))), (9, .one (.dv [] (.int .i64 ((k : Int)))))], [], [(6, some (kcOf false (.sl 102 7 ((x.take k).length) ((x.take k).flatMap eOp))))]⟩ : St)
  refine ok_seq ?_
  refine ok_region ?_
  refine o_pure rfl rfl (pu_lss rfl (ev_tmp rfl) (ev_tmp rfl)) rfl rfl ?_
  refine ops_nil ?_
  refine then_n ?_
  refine ok_seq ?_
  refine ok_cond (ev_tmp rfl) (fun c1 => ?_) (fun c1 => ?_)
  · skip
    have d1 := of_decide_eq_true c1
    have hk2 : k < x.length := by omega
    obtain ⟨hw1, hw2⟩ := hw hk2
    have hrec := wOp_rec (x.getD (k : Int).toNat default)
    refine ok_skip ?_
    refine then_n ?_
    refine ok_seq ?_
    refine ok_block ?_
    refine ok_seq ?_
    refine ok_region ?_
    refine o_pure rfl rfl (pu_indexD hT rfl rfl rfl (ev_tmp rfl) (ev_tmp rfl) (fun _ => rfl) (by first | omega | (simp only [Bool.and_eq_true, Bool.or_eq_true, Bool.or_eq_false_iff, Bool.and_eq_false_iff, Bool.not_eq_true', Bool.not_eq_false', beq_iff_eq, decide_eq_true_eq, decide_eq_false_iff_not] at hg; omega) | (have hh := of_decide_eq_true (beq_tt hg); omega) | (have hh := of_decide_eq_true (beq_tt (and_r hg)); omega)) (by first | omega | (simp only [Bool.and_eq_true, Bool.or_eq_true, Bool.or_eq_false_iff, Bool.and_eq_false_iff, Bool.not_eq_true', Bool.not_eq_false', beq_iff_eq, decide_eq_true_eq, decide_eq_false_iff_not] at hg; omega) | (have hh := of_decide_eq_true (beq_tt hg); omega) | (have hh := of_decide_eq_true (beq_tt (and_r hg)); omega))) rfl rfl ?_
    refine o_pure rfl rfl (pu_loadRefA hT rfl rfl (ev_tmp rfl) rfl) rfl rfl ?_
    refine o_alloc hT rfl rfl rfl rfl rfl rfl ?_
    refine o_store hT rfl rfl rfl rfl (ev_tmp rfl) (ev_tmp rfl) rfl rfl rfl rfl rfl rfl ?_
    refine ops_nil ?_
    refine then_n ?_
    refine ok_seq ?_
    refine ok_region ?_
    refine o_pure rfl rfl (pu_fieldBox hT rfl rfl rfl (ev_tmp rfl)) rfl rfl ?_
    refine o_pure rfl rfl (pu_loadBoxA hT rfl rfl (ev_tmp rfl) rfl rfl) rfl rfl ?_
    refine o_callK 697 rfl rfl rfl Try.call159 (ok_impl_copyRecord (x := (((x)).getD ((k : Int)).toNat default).2.2.2.1) (by omega)) (as_cons (ev_tmp rfl) (ag_agg (ag_cons ac_dv ag_nil)) as_nil) rfl rfl rfl ?_
    refine o_pure rfl rfl (pu_fieldBox hT rfl rfl rfl (ev_tmp rfl)) rfl rfl ?_
    refine o_store hT rfl rfl rfl rfl (ev_tmp rfl) (ev_tmp rfl) rfl rfl rfl rfl rfl rfl ?_
    refine ops_nil ?_
    refine then_n ?_
    refine ok_region ?_
    refine o_pure rfl rfl (pu_move (.inl rfl) (ev_tmp rfl)) rfl rfl ?_
    refine o_pure rfl rfl (pu_loadBoxA hT rfl rfl (ev_tmp rfl) rfl rfl) rfl rfl ?_
    refine o_build1 (k := 19) (js := [700]) hT rfl rfl rfl rfl rfl rfl rfl rfl rfl (ev_tmp rfl) rfl rfl (ow_cons' (ow_dv rfl) (ow_cons' (ow_dv rfl) (ow_cons' (ow_dv rfl) (ow_cons' (ow_dv rfl) (ow_cons' (ow_dv rfl) (ow_cons' (ow_key rfl) (ow_cons' (ow_dv rfl) ow_nil rfl) rfl) rfl) rfl) rfl) rfl) rfl) (by decide) (by decide) rfl rfl ?_
    simp only [killT, killB, SV.kill, CV.kill, List.map_cons, List.map_nil, List.any_cons, List.any_nil, List.contains_cons, List.contains_nil, List.nil_append, List.cons_append, Nat.reduceBEq, Bool.or_false, Bool.false_or, Bool.or_true, Bool.true_or, cond_true, cond_false]
    refine o_appK (k := 6) (j := 19) (cs := (x.take (k + 1)).flatMap eOp) (n := (x.take (k + 1)).length) hT rfl rfl rfl rfl rfl rfl rfl (ev_tmp rfl) rfl rfl rfl (ev_tmp rfl) rfl rfl (by decide) (by dsimp only [kcOf]; simp only [List.length_take]; omega) (by dsimp only [kcOf]; simp only [List.length_take]; omega) ((take_csG (enc := eOp) hk2).2) ((take_csG (enc := eOp) hk2).1) ?_
    simp only [killT, killB, SV.kill, CV.kill, List.map_cons, List.map_nil, List.any_cons, List.any_nil, List.contains_cons, List.contains_nil, List.nil_append, List.cons_append, Nat.reduceBEq, Bool.or_false, Bool.false_or, Bool.or_true, Bool.true_or, cond_true, cond_false]
    refine o_pure rfl rfl (pu_move (.inr rfl) (ev_tmp rfl)) rfl rfl ?_
    refine ops_nil ?_
    refine blk_n ?_
    refine then_n ?_
    refine ok_region ?_
    refine o_pure rfl rfl (pu_addR rfl (ev_tmp rfl) (ev_int (inR_lit rfl)) (inR64 (by omega) (by omega))) rfl rfl ?_
    refine o_pure rfl rfl (pu_move (.inl rfl) (ev_tmp rfl)) rfl rfl ?_
    refine ops_nil ?_
    refine then_n ?_
    refine ⟨k + 1, ?_, ?_, weak_sub ⟨rfl, rfl, rfl, rfl, rfl, trivial⟩ trivial ⟨rfl, trivial⟩ rfl⟩
    · omega
    · omega
  · skip
    have d1 := of_decide_eq_false c1
    refine ok_exit ?_
    refine then_e ?_
    refine then_e ?_
    refine blk_e rfl ?_
    refine then_n ?_
    refine ok_seq ?_
    refine ok_region ?_
    refine o_pure rfl rfl (pu_move (.inl rfl) (ev_tmp rfl)) rfl rfl ?_
    refine o_pure rfl rfl (pu_move (.inr rfl) (ev_tmp rfl)) rfl rfl ?_
    refine ops_nil ?_
    refine then_n ?_
    refine ok_weak (σ' := ⟨[(2, .one (.key 6))], [], [(6, some (kcOf false (opsD (x))))]⟩) (weak_sub ⟨rfl, trivial⟩ trivial ⟨(congrArg (fun l : List (OpT) => some (some (KC.mk false 102 7 l.length (l.flatMap eOp)))) (List.take_of_length_le (by omega))), trivial⟩ rfl) ?_
    refine ok_ret ?_
    refine fin1 (res_tmp rfl) ?_
    exact ⟨rfl, rfl⟩
set_option maxRecDepth 100000 in
theorem ok_spec_l9Copy {x : List OpT} (hb : wList wOp x ≤ 1099511627776) : KFn Try.prog 105 [.one (.dv [] (opsD (x)))] (.one (.key 6)) [(6, some (kcOf false (opsD (x))))] := by
  refine ⟨fn_intro Try.func105 rfl Try.ntmps105 Try.results105 rfl (fun C => ?_)⟩
  have hwl : wList wOp x = x.length + wSum wOp x := rfl
  refine ok_fact (x := .tmp 0) (ev_tmp rfl) (fun (f0 : ((x)).length ≤ 9223372036854775807) => ?_)
  refine ok_seq ?_
  refine ok_region ?_
  refine o_pure rfl rfl (pu_move (.inr rfl) ev_nil) rfl rfl ?_
  refine ops_nil ?_
  refine then_n ?_
  refine ok_seq ?_
  refine ok_region ?_
  refine o_build0 (k := 6) hT rfl rfl rfl rfl rfl rfl rfl rfl ?_
  refine o_pure rfl rfl (pu_move (.inr rfl) (ev_tmp rfl)) rfl rfl ?_
  refine ops_nil ?_
  refine then_n ?_
  refine ok_seq ?_
  refine ok_seq ?_
  refine ok_region ?_
  refine o_pure rfl rfl (pu_move (.inr rfl) (ev_int (inR_lit rfl))) rfl rfl ?_
  refine ops_nil ?_
  refine then_n ?_
  refine ok_block ?_
  refine ok_loop (ι := Nat) (fun zz => ⟨[(0, .one (.dv [] (opsD (x)))), (2, .one .nil), (3, .one (.key 6)), (4, .one (.dv [] (.int .i64 ((zz : Int)))))], [], [(6, some (kcOf false (.sl 102 7 ((x.take zz).length) ((x.take zz).flatMap eOp))))]⟩) (fun zz => zz ≤ x.length) (fun zz => x.length - zz) (0) ?_ (weak_sub ⟨rfl, rfl, rfl, rfl, trivial⟩ trivial ⟨rfl, trivial⟩ rfl) (fun zz hx => ?_)
  · exact Nat.zero_le _
  obtain ⟨k, rfl⟩ : ∃ v, v = zz := ⟨_, rfl⟩
  replace hx : k ≤ x.length := hx
  have hw := fun h => wSum_succ wOp x k h
  show Ok _ _ _ _ _ (⟨[(0, .one (.dv [] (opsD (x)))), (2, .one .nil), (3, .one (.key 6)), (4, .one (.dv [] (.int .i64 ((k : Int)))))], [], [(6, some (kcOf false (.sl 102 7 ((x.take k).length) ((x.take k).flatMap eOp))))]⟩ : St)
  refine ok_seq ?_
  refine ok_seq ?_
  refine ok_region ?_
  refine o_pure rfl rfl (pu_move (.inl rfl) (ev_tmp rfl)) rfl rfl ?_
  refine o_pure rfl rfl (pu_move (.inl rfl) (ev_tmp rfl)) rfl rfl ?_
  refine o_pure rfl rfl (pu_lenV hT rfl rfl (ev_tmp rfl)) rfl rfl ?_
  refine o_pure rfl rfl (pu_lss rfl (ev_tmp rfl) (ev_tmp rfl)) rfl rfl ?_
  refine ops_nil ?_
  refine then_n ?_
  refine ok_cond (ev_tmp rfl) (fun c1 => ?_) (fun c1 => ?_)
  · skip
    have d1 := of_decide_eq_true c1
    have hk2 : k < x.length := by omega
    obtain ⟨hw1, hw2⟩ := hw hk2
    have hrec := wOp_rec (x.getD (k : Int).toNat default)
    refine ok_skip ?_
    refine then_n ?_
    refine ok_seq ?_
    refine ok_block ?_
    refine ok_seq ?_
    refine ok_region ?_
    refine o_pure rfl rfl (pu_move (.inl rfl) (ev_tmp rfl)) rfl rfl ?_
    refine o_pure rfl rfl (pu_move (.inl rfl) (ev_tmp rfl)) rfl rfl ?_
    refine o_pure rfl rfl (pu_indexD hT rfl rfl rfl (ev_tmp rfl) (ev_tmp rfl) (fun _ => rfl) (by first | omega | (simp only [Bool.and_eq_true, Bool.or_eq_true, Bool.or_eq_false_iff, Bool.and_eq_false_iff, Bool.not_eq_true', Bool.not_eq_false', beq_iff_eq, decide_eq_true_eq, decide_eq_false_iff_not] at hg; omega) | (have hh := of_decide_eq_true (beq_tt hg); omega) | (have hh := of_decide_eq_true (beq_tt (and_r hg)); omega)) (by first | omega | (simp only [Bool.and_eq_true, Bool.or_eq_true, Bool.or_eq_false_iff, Bool.and_eq_false_iff, Bool.not_eq_true', Bool.not_eq_false', beq_iff_eq, decide_eq_true_eq, decide_eq_false_iff_not] at hg; omega) | (have hh := of_decide_eq_true (beq_tt hg); omega) | (have hh := of_decide_eq_true (beq_tt (and_r hg)); omega))) rfl rfl ?_
    refine o_pure rfl rfl (pu_loadRefA hT rfl rfl (ev_tmp rfl) rfl) rfl rfl ?_
    refine o_alloc hT rfl rfl rfl rfl rfl rfl ?_
    refine o_store hT rfl rfl rfl rfl (ev_tmp rfl) (ev_tmp rfl) rfl rfl rfl rfl rfl rfl ?_
    refine ops_nil ?_
    refine then_n ?_
    refine ok_seq ?_
    refine ok_region ?_
    refine o_pure rfl rfl (pu_move (.inl rfl) (ev_tmp rfl)) rfl rfl ?_
    refine o_pure rfl rfl (pu_move (.inl rfl) (ev_tmp rfl)) rfl rfl ?_
    refine o_pure rfl rfl (pu_indexD hT rfl rfl rfl (ev_tmp rfl) (ev_tmp rfl) (fun _ => rfl) (by first | omega | (simp only [Bool.and_eq_true, Bool.or_eq_true, Bool.or_eq_false_iff, Bool.and_eq_false_iff, Bool.not_eq_true', Bool.not_eq_false', beq_iff_eq, decide_eq_true_eq, decide_eq_false_iff_not] at hg; omega) | (have hh := of_decide_eq_true (beq_tt hg); omega) | (have hh := of_decide_eq_true (beq_tt (and_r hg)); omega)) (by first | omega | (simp only [Bool.and_eq_true, Bool.or_eq_true, Bool.or_eq_false_iff, Bool.and_eq_false_iff, Bool.not_eq_true', Bool.not_eq_false', beq_iff_eq, decide_eq_true_eq, decide_eq_false_iff_not] at hg; omega) | (have hh := of_decide_eq_true (beq_tt hg); omega) | (have hh := of_decide_eq_true (beq_tt (and_r hg)); omega))) rfl rfl ?_
    refine o_pure rfl rfl (pu_fieldRef hT rfl rfl rfl (ev_tmp rfl)) rfl rfl ?_
    refine o_pure rfl rfl (pu_loadRefA hT rfl rfl (ev_tmp rfl) rfl) rfl rfl ?_
    refine o_callK 697 rfl rfl rfl Try.call156 (ok_spec_l5Copy (x := (((x)).getD ((k : Int)).toNat default).2.2.2.1) (by omega)) (as_cons (ev_tmp rfl) (ag_agg (ag_cons ac_dv ag_nil)) as_nil) rfl rfl rfl ?_
    refine o_pure rfl rfl (pu_fieldBox hT rfl rfl rfl (ev_tmp rfl)) rfl rfl ?_
    refine o_store hT rfl rfl rfl rfl (ev_tmp rfl) (ev_tmp rfl) rfl rfl rfl rfl rfl rfl ?_
    refine ops_nil ?_
    refine then_n ?_
    refine ok_region ?_
    refine o_pure rfl rfl (pu_move (.inl rfl) (ev_tmp rfl)) rfl rfl ?_
    refine o_pure rfl rfl (pu_loadBoxA hT rfl rfl (ev_tmp rfl) rfl rfl) rfl rfl ?_
    refine o_build1 (k := 26) (js := [700]) hT rfl rfl rfl rfl rfl rfl rfl rfl rfl (ev_tmp rfl) rfl rfl (ow_cons' (ow_dv rfl) (ow_cons' (ow_dv rfl) (ow_cons' (ow_dv rfl) (ow_cons' (ow_dv rfl) (ow_cons' (ow_dv rfl) (ow_cons' (ow_key rfl) (ow_cons' (ow_dv rfl) ow_nil rfl) rfl) rfl) rfl) rfl) rfl) rfl) (by decide) (by decide) rfl rfl ?_
    simp only [killT, killB, SV.kill, CV.kill, List.map_cons, List.map_nil, List.any_cons, List.any_nil, List.contains_cons, List.contains_nil, List.nil_append, List.cons_append, Nat.reduceBEq, Bool.or_false, Bool.false_or, Bool.or_true, Bool.true_or, cond_true, cond_false]
    refine o_appK (k := 6) (j := 26) (cs := (x.take (k + 1)).flatMap eOp) (n := (x.take (k + 1)).length) hT rfl rfl rfl rfl rfl rfl rfl (ev_tmp rfl) rfl rfl rfl (ev_tmp rfl) rfl rfl (by decide) (by dsimp only [kcOf]; simp only [List.length_take]; omega) (by dsimp only [kcOf]; simp only [List.length_take]; omega) ((take_csG (enc := eOp) hk2).2) ((take_csG (enc := eOp) hk2).1) ?_
    simp only [killT, killB, SV.kill, CV.kill, List.map_cons, List.map_nil, List.any_cons, List.any_nil, List.contains_cons, List.contains_nil, List.nil_append, List.cons_append, Nat.reduceBEq, Bool.or_false, Bool.false_or, Bool.or_true, Bool.true_or, cond_true, cond_false]
    refine o_pure rfl rfl (pu_move (.inr rfl) (ev_tmp rfl)) rfl rfl ?_
    refine ops_nil ?_
    refine blk_n ?_
    refine then_n ?_
    refine ok_region ?_
    refine o_pure rfl rfl (pu_move (.inl rfl) (ev_tmp rfl)) rfl rfl ?_
    refine o_pure rfl rfl (pu_addR rfl (ev_tmp rfl) (ev_int (inR_lit rfl)) (inR64 (by omega) (by omega))) rfl rfl ?_
    refine o_pure rfl rfl (pu_move (.inr rfl) (ev_tmp rfl)) rfl rfl ?_
    refine ops_nil ?_
    refine then_n ?_
    refine ⟨k + 1, ?_, ?_, weak_sub ⟨rfl, rfl, rfl, rfl, trivial⟩ trivial ⟨rfl, trivial⟩ rfl⟩
    · omega
    · omega
  · skip
    have d1 := of_decide_eq_false c1
    refine ok_exit ?_
    refine then_e ?_
    refine then_e ?_
    refine blk_e rfl ?_
    refine then_n ?_
    refine ok_seq ?_
    refine ok_region ?_
    refine o_pure rfl rfl (pu_move (.inl rfl) (ev_tmp rfl)) rfl rfl ?_
    refine o_pure rfl rfl (pu_move (.inr rfl) (ev_tmp rfl)) rfl rfl ?_
    refine ops_nil ?_
    refine then_n ?_
    refine ok_weak (σ' := ⟨[(2, .one (.key 6))], [], [(6, some (kcOf false (opsD (x))))]⟩) (weak_sub ⟨rfl, trivial⟩ trivial ⟨(congrArg (fun l : List (OpT) => some (some (KC.mk false 102 7 l.length (l.flatMap eOp)))) (List.take_of_length_le (by omega))), trivial⟩ rfl) ?_
    refine ok_ret ?_
    refine fin1 (res_tmp rfl) ?_
    exact ⟨rfl, rfl⟩
set_option maxRecDepth 100000 in
theorem ok_spec_l10Stores {x : List StoreT} (hb : wList wStore x ≤ 1099511627776) : KFn Try.prog 155 [.one (.dv [] (storesD (x)))] (.one (.key 5)) [(5, some (kcOf false (storesD (x))))] := by
  refine ⟨fn_intro Try.func155 rfl Try.ntmps155 Try.results155 rfl (fun C => ?_)⟩
  have hwl : wList wStore x = x.length + wSum wStore x := rfl
  refine ok_fact (x := .tmp 0) (ev_tmp rfl) (fun (f0 : ((x)).length ≤ 9223372036854775807) => ?_)
  refine ok_seq ?_
  refine ok_region ?_
  refine o_pure rfl rfl (pu_move (.inr rfl) ev_nil) rfl rfl ?_
  refine ops_nil ?_
  refine then_n ?_
  refine ok_seq ?_
  refine ok_region ?_
  refine o_build0 (k := 5) hT rfl rfl rfl rfl rfl rfl rfl rfl ?_
  refine o_pure rfl rfl (pu_move (.inr rfl) (ev_tmp rfl)) rfl rfl ?_
  refine ops_nil ?_
  refine then_n ?_
  refine ok_seq ?_
  refine ok_seq ?_
  refine ok_region ?_
  refine o_pure rfl rfl (pu_move (.inr rfl) (ev_int (inR_lit rfl))) rfl rfl ?_
  refine ops_nil ?_
  refine then_n ?_
  refine ok_block ?_
  refine ok_loop (ι := Nat) (fun zz => ⟨[(0, .one (.dv [] (storesD (x)))), (2, .one .nil), (3, .one (.key 5)), (4, .one (.dv [] (.int .i64 ((zz : Int)))))], [], [(5, some (kcOf false (.sl 82 3 ((x.take zz).length) ((x.take zz).flatMap eStore))))]⟩) (fun zz => zz ≤ x.length) (fun zz => x.length - zz) (0) ?_ (weak_sub ⟨rfl, rfl, rfl, rfl, trivial⟩ trivial ⟨rfl, trivial⟩ rfl) (fun zz hx => ?_)
  · exact Nat.zero_le _
  obtain ⟨k, rfl⟩ : ∃ v, v = zz := ⟨_, rfl⟩
  replace hx : k ≤ x.length := hx
  have hw := fun h => wSum_succ wStore x k h
  show Ok _ _ _ _ _ (⟨[(0, .one (.dv [] (storesD (x)))), (2, .one .nil), (3, .one (.key 5)), (4, .one (.dv [] (.int .i64 ((k : Int)))))], [], [(5, some (kcOf false (.sl 82 3 ((x.take k).length) ((x.take k).flatMap eStore))))]⟩ : St)
  refine ok_seq ?_
  refine ok_seq ?_
  refine ok_region ?_
  refine o_pure rfl rfl (pu_move (.inl rfl) (ev_tmp rfl)) rfl rfl ?_
  refine o_pure rfl rfl (pu_move (.inl rfl) (ev_tmp rfl)) rfl rfl ?_
  refine o_pure rfl rfl (pu_lenV hT rfl rfl (ev_tmp rfl)) rfl rfl ?_
  refine o_pure rfl rfl (pu_lss rfl (ev_tmp rfl) (ev_tmp rfl)) rfl rfl ?_
  refine ops_nil ?_
  refine then_n ?_
  refine ok_cond (ev_tmp rfl) (fun c1 => ?_) (fun c1 => ?_)
  · skip
    have d1 := of_decide_eq_true c1
    have hk2 : k < x.length := by omega
    obtain ⟨hw1, hw2⟩ := hw hk2
    refine ok_skip ?_
    refine then_n ?_
    refine ok_seq ?_
    refine ok_block ?_
    refine ok_region ?_
    refine o_pure rfl rfl (pu_move (.inl rfl) (ev_tmp rfl)) rfl rfl ?_
    refine o_pure rfl rfl (pu_move (.inl rfl) (ev_tmp rfl)) rfl rfl ?_
    refine o_pure rfl rfl (pu_move (.inl rfl) (ev_tmp rfl)) rfl rfl ?_
    refine o_pure rfl rfl (pu_indexD hT rfl rfl rfl (ev_tmp rfl) (ev_tmp rfl) (fun _ => rfl) (by first | omega | (simp only [Bool.and_eq_true, Bool.or_eq_true, Bool.or_eq_false_iff, Bool.and_eq_false_iff, Bool.not_eq_true', Bool.not_eq_false', beq_iff_eq, decide_eq_true_eq, decide_eq_false_iff_not] at hg; omega) | (have hh := of_decide_eq_true (beq_tt hg); omega) | (have hh := of_decide_eq_true (beq_tt (and_r hg)); omega)) (by first | omega | (simp only [Bool.and_eq_true, Bool.or_eq_true, Bool.or_eq_false_iff, Bool.and_eq_false_iff, Bool.not_eq_true', Bool.not_eq_false', beq_iff_eq, decide_eq_true_eq, decide_eq_false_iff_not] at hg; omega) | (have hh := of_decide_eq_true (beq_tt hg); omega) | (have hh := of_decide_eq_true (beq_tt (and_r hg)); omega))) rfl rfl ?_
    refine o_pure rfl rfl (pu_loadRefA hT rfl rfl (ev_tmp rfl) rfl) rfl rfl ?_
    refine o_callK 17000 rfl rfl rfl Try.call170 (ok_spec_l6Copy (x := (((x)).getD ((k : Int)).toNat default)) (by omega)) (as_cons (ev_tmp rfl) (ag_agg (ag_cons ac_dv (ag_cons ac_dv (ag_cons ac_dv ag_nil)))) as_nil) rfl rfl rfl ?_
    refine o_build1 (k := 18) (js := [17030]) hT rfl rfl rfl rfl rfl rfl rfl rfl rfl (ev_tmp rfl) rfl rfl (ow_cons' (ow_dv rfl) (ow_cons' (ow_key rfl) (ow_cons' (ow_dv rfl) ow_nil rfl) rfl) rfl) (by decide) (by decide) rfl rfl ?_
    simp only [killT, killB, SV.kill, CV.kill, List.map_cons, List.map_nil, List.any_cons, List.any_nil, List.contains_cons, List.contains_nil, List.nil_append, List.cons_append, Nat.reduceBEq, Bool.or_false, Bool.false_or, Bool.or_true, Bool.true_or, cond_true, cond_false]
    refine o_appK (k := 5) (j := 18) (cs := (x.take (k + 1)).flatMap eStore) (n := (x.take (k + 1)).length) hT rfl rfl rfl rfl rfl rfl rfl (ev_tmp rfl) rfl rfl rfl (ev_tmp rfl) rfl rfl (by decide) (by dsimp only [kcOf]; simp only [List.length_take]; omega) (by dsimp only [kcOf]; simp only [List.length_take]; omega) ((take_csG (enc := eStore) hk2).2) ((take_csG (enc := eStore) hk2).1) ?_
    simp only [killT, killB, SV.kill, CV.kill, List.map_cons, List.map_nil, List.any_cons, List.any_nil, List.contains_cons, List.contains_nil, List.nil_append, List.cons_append, Nat.reduceBEq, Bool.or_false, Bool.false_or, Bool.or_true, Bool.true_or, cond_true, cond_false]
    refine o_pure rfl rfl (pu_move (.inr rfl) (ev_tmp rfl)) rfl rfl ?_
    refine ops_nil ?_
    refine blk_n ?_
    refine then_n ?_
    refine ok_region ?_
    refine o_pure rfl rfl (pu_move (.inl rfl) (ev_tmp rfl)) rfl rfl ?_
    refine o_pure rfl rfl (pu_addR rfl (ev_tmp rfl) (ev_int (inR_lit rfl)) (inR64 (by omega) (by omega))) rfl rfl ?_
    refine o_pure rfl rfl (pu_move (.inr rfl) (ev_tmp rfl)) rfl rfl ?_
    refine ops_nil ?_
    refine then_n ?_
    refine ⟨k + 1, ?_, ?_, weak_sub ⟨rfl, rfl, rfl, rfl, trivial⟩ trivial ⟨rfl, trivial⟩ rfl⟩
    · omega
    · omega
  · skip
    have d1 := of_decide_eq_false c1
    refine ok_exit ?_
    refine then_e ?_
    refine then_e ?_
    refine blk_e rfl ?_
    refine then_n ?_
    refine ok_seq ?_
    refine ok_region ?_
    refine o_pure rfl rfl (pu_move (.inl rfl) (ev_tmp rfl)) rfl rfl ?_
    refine o_pure rfl rfl (pu_move (.inr rfl) (ev_tmp rfl)) rfl rfl ?_
    refine ops_nil ?_
    refine then_n ?_
    refine ok_weak (σ' := ⟨[(2, .one (.key 5))], [], [(5, some (kcOf false (storesD (x))))]⟩) (weak_sub ⟨rfl, trivial⟩ trivial ⟨(congrArg (fun l : List (StoreT) => some (some (KC.mk false 82 3 l.length (l.flatMap eStore)))) (List.take_of_length_le (by omega))), trivial⟩ rfl) ?_
    refine ok_ret ?_
    refine fin1 (res_tmp rfl) ?_
    exact ⟨rfl, rfl⟩
set_option maxRecDepth 100000 in
theorem ok_impl_copyTx {x : TxT} (hb : wTx x ≤ 1099511627776) : KFn Try.prog 158 [.agg [(.dv [] (.int .i64 (x.1))), (.dv [] (opsD (x.2.1))), (.dv [] (.int .i64 (x.2.2.1))), (.dv [] (.int .i64 (x.2.2.2.1))), (.dv [] (storesD (x.2.2.2.2)))]] (.agg [(.dv [] (.int .i64 (x.1))), (.key 800), (.dv [] (.int .i64 (x.2.2.1))), (.dv [] (.int .i64 (x.2.2.2.1))), (.key 31)]) [(800, some (kcOf false (opsD (x.2.1)))), (31, some (kcOf false (storesD (x.2.2.2.2))))] := by
  refine ⟨fn_intro Try.func158 rfl Try.ntmps158 Try.results158 rfl (fun C => ?_)⟩
  have hwt : wTx x = wList wOp x.2.1 + wList wStore x.2.2.2.2 := rfl
  have hwl : wList wStore x.2.2.2.2 = x.2.2.2.2.length + wSum wStore x.2.2.2.2 := rfl
  refine ok_factA (x := .tmp 0) 0 (ev_tmp rfl) rfl (fun (f0_0 : -9223372036854775808 ≤ (x.1) ∧ (x.1) ≤ 9223372036854775807) => ?_)
  refine ok_factA (x := .tmp 0) 1 (ev_tmp rfl) rfl (fun (f0_1 : ((x.2.1)).length ≤ 9223372036854775807) => ?_)
  refine ok_factA (x := .tmp 0) 2 (ev_tmp rfl) rfl (fun (f0_2 : -9223372036854775808 ≤ (x.2.2.1) ∧ (x.2.2.1) ≤ 9223372036854775807) => ?_)
  refine ok_factA (x := .tmp 0) 3 (ev_tmp rfl) rfl (fun (f0_3 : -9223372036854775808 ≤ (x.2.2.2.1) ∧ (x.2.2.2.1) ≤ 9223372036854775807) => ?_)
  refine ok_factA (x := .tmp 0) 4 (ev_tmp rfl) rfl (fun (f0_4 : ((x.2.2.2.2)).length ≤ 9223372036854775807) => ?_)
  refine ok_seq ?_
  refine ok_region ?_
  refine o_box rfl rfl rfl (ev_tmp rfl) rfl rfl rfl rfl ?_
  refine o_alloc hT rfl rfl rfl rfl rfl rfl ?_
  refine ops_nil ?_
  refine then_n ?_
  refine ok_seq ?_
  refine ok_regionD (oB := [1, 2]) (oK := []) (by kernel_rfl) rfl rfl ?_
  refine d_take 0 rfl (by kernel_rfl) rfl rfl (pu_fieldBox hT rfl rfl rfl (ev_tmp rfl)) rfl rfl rfl rfl ?_
  refine d_take 1 rfl (by kernel_rfl) rfl rfl (pu_loadBox1 hT rfl rfl (ev_tmp rfl) rfl rfl) rfl rfl rfl rfl ?_
  refine d_take 2 rfl (by kernel_rfl) rfl rfl (pu_fieldBox hT rfl rfl rfl (ev_tmp rfl)) rfl rfl rfl rfl ?_
  refine d_take 3 rfl (by kernel_rfl) rfl rfl (pu_loadBox1 hT rfl rfl (ev_tmp rfl) rfl rfl) rfl rfl rfl rfl ?_
  refine d_take 5 rfl (by kernel_rfl) rfl rfl (pu_fieldBox hT rfl rfl rfl (ev_tmp rfl)) rfl rfl rfl rfl ?_
  refine d_take 6 rfl (by kernel_rfl) rfl rfl (pu_loadBox1 hT rfl rfl (ev_tmp rfl) rfl rfl) rfl rfl rfl rfl ?_
  refine d_take 7 rfl (by kernel_rfl) rfl rfl (pu_fieldBox hT rfl rfl rfl (ev_tmp rfl)) rfl rfl rfl rfl ?_
  refine d_take 8 rfl (by kernel_rfl) rfl rfl (pu_loadBox1 hT rfl rfl (ev_tmp rfl) rfl rfl) rfl rfl rfl rfl ?_
  refine d_vars (A := [(10, 3, 138, _)]) hT ⟨⟨_, _, rfl⟩, rfl, trivial⟩ ?_
  refine a_callK 794 4 rfl (by kernel_rfl) rfl rfl rfl (vok hT ⟨⟨_, _, rfl⟩, rfl, trivial⟩ (by kernel_rfl) (by kernel_rfl)) (vok hT ⟨⟨_, _, rfl⟩, rfl, trivial⟩ (by kernel_rfl) (by kernel_rfl)) rfl Try.call108 (ok_impl_copyOps (x := x.2.1) (by omega)) (as_cons (ev_tmp rfl) (ag_one ac_dv) as_nil) rfl rfl rfl rfl rfl ?_
  refine a_take 9 rfl (by kernel_rfl) rfl rfl rfl (vok hT ⟨⟨_, _, rfl⟩, rfl, trivial⟩ (by kernel_rfl) (by kernel_rfl)) (vok hT ⟨⟨_, _, rfl⟩, rfl, trivial⟩ (by kernel_rfl) (by kernel_rfl)) (pu_build hT hB rfl rfl rfl (bp_cons (ev_tmp rfl) rfl rfl rfl rfl rfl (bp_cons (ev_tmp rfl) rfl rfl rfl rfl rfl (bp_cons (ev_tmp rfl) rfl rfl rfl rfl rfl (bp_cons (ev_tmp rfl) rfl rfl rfl rfl rfl bp_nil))))) rfl rfl rfl rfl ?_
  refine a_exit1 (vok hT ⟨⟨_, _, rfl⟩, rfl, trivial⟩ (by kernel_rfl) (by kernel_rfl)) rfl rfl (by kernel_rfl) ?_
  dsimp only [addT, addB]
  refine d_last 11 rfl (by kernel_rfl) rfl (by kernel_rfl) (ef_storeBox hT rfl rfl rfl (ev_tmp rfl) (ev_tmp rfl) rfl rfl rfl rfl rfl rfl) (by kernel_rfl) ?_
  refine then_n ?_
  refine ok_seq ?_
  refine ok_seq ?_
  refine ok_weak (weak_nilB 31 (b := 3) (i := 4) (e := 82) (sz := 3) rfl rfl rfl rfl rfl) ?_
  simp only [killT, killB, SV.kill, CV.kill, List.map_cons, List.map_nil, List.any_cons, List.any_nil, List.contains_cons, List.contains_nil, List.nil_append, List.cons_append, Nat.reduceBEq, Bool.or_false, Bool.false_or, Bool.or_true, Bool.true_or, cond_true, cond_false]
  refine ok_region ?_
  refine o_pure rfl rfl (pu_fieldBox hT rfl rfl rfl (ev_tmp rfl)) rfl rfl ?_
  refine o_pure rfl rfl (pu_loadBox1 hT rfl rfl (ev_tmp rfl) rfl rfl) rfl rfl ?_
  refine o_pure rfl rfl (pu_lenV hT rfl rfl (ev_tmp rfl)) rfl rfl ?_
  refine o_pure rfl rfl (pu_move (.inl rfl) (ev_int (inR_lit rfl))) rfl rfl ?_
  refine ops_nil ?_
  refine then_n ?_
  refine ok_block ?_
  refine ok_loop (ι := Nat) (fun zz => ⟨[(2, .box 2 0), (3, .box 3 0), (17, .one (.dv [] (storesD (x.2.2.2.2)))), (18, .one (.dv [] (.int .i64 ((((x.2.2.2.2)).length : Int))))), (19, .one (.dv [] (.int .i64 ((zz : Int)))))], [(2, 138, [(.dv [] (.int .i64 (0))), .nil, (.dv [] (.int .i64 (0))), (.dv [] (.int .i64 (0))), .nil]), (3, 138, [(.dv [] (.int .i64 (x.1))), (.key 800), (.dv [] (.int .i64 (x.2.2.1))), (.dv [] (.int .i64 (x.2.2.2.1))), (.key 31)])], [(31, some (kcOf false (.sl 82 3 ((x.2.2.2.2.take zz).length) ((x.2.2.2.2.take zz).flatMap eStore)))), (800, some (kcOf false (opsD ((x.2.1)))))]⟩) (fun zz => zz ≤ x.2.2.2.2.length) (fun zz => x.2.2.2.2.length - zz) (0) ?_ (weak_sub ⟨rfl, rfl, rfl, rfl, rfl, trivial⟩ ⟨rfl, rfl, trivial⟩ ⟨rfl, rfl, trivial⟩ rfl) (fun zz hx => ?_)
  · exact Nat.zero_le _
  obtain ⟨k, rfl⟩ : ∃ v, v = zz := ⟨_, rfl⟩
  replace hx : k ≤ x.2.2.2.2.length := hx
  have hw := fun h => wSum_succ wStore x.2.2.2.2 k h
  show Ok _ _ _ _ _ (⟨[(2, .box 2 0), (3, .box 3 0), (17, .one (.dv [] (storesD (x.2.2.2.2)))), (18, .one (.dv [] (.int .i64 ((((x.2.2.2.2)).length : Int))))), (19, .one (.dv [] (.int .i64 ((k : Int)))))], [(2, 138, [(.dv [] (.int .i64 (0))), .nil, (.dv [] (.int .i64 (0))), (.dv [] (.int .i64 (0))), .nil]), (3, 138, [(.dv [] (.int .i64 (x.1))), (.key 800), (.dv [] (.int .i64 (x.2.2.1))), (.dv [] (.int .i64 (x.2.2.2.1))), (.key 31)])], [(31, some (kcOf false (.sl 82 3 ((x.2.2.2.2.take k).length) ((x.2.2.2.2.take k).flatMap eStore)))), (800, some (kcOf false (opsD ((x.2.1)))))]⟩ : St)
  refine ok_seq ?_
  refine ok_region ?_
  refine o_pure rfl rfl (pu_lss rfl (ev_tmp rfl) (ev_tmp rfl)) rfl rfl ?_
  refine ops_nil ?_
  refine then_n ?_
  refine ok_seq ?_
  refine ok_cond (ev_tmp rfl) (fun c1 => ?_) (fun c1 => ?_)
  · skip
    have d1 := of_decide_eq_true c1
    have hk2 : k < x.2.2.2.2.length := by omega
    obtain ⟨hw1, hw2⟩ := hw hk2
    refine ok_skip ?_
    refine then_n ?_
    refine ok_seq ?_
    refine ok_block ?_
    refine ok_seq ?_
    refine ok_region ?_
    refine o_pure rfl rfl (pu_indexD hT rfl rfl rfl (ev_tmp rfl) (ev_tmp rfl) (fun _ => rfl) (by first | omega | (simp only [Bool.and_eq_true, Bool.or_eq_true, Bool.or_eq_false_iff, Bool.and_eq_false_iff, Bool.not_eq_true', Bool.not_eq_false', beq_iff_eq, decide_eq_true_eq, decide_eq_false_iff_not] at hg; omega) | (have hh := of_decide_eq_true (beq_tt hg); omega) | (have hh := of_decide_eq_true (beq_tt (and_r hg)); omega)) (by first | omega | (simp only [Bool.and_eq_true, Bool.or_eq_true, Bool.or_eq_false_iff, Bool.and_eq_false_iff, Bool.not_eq_true', Bool.not_eq_false', beq_iff_eq, decide_eq_true_eq, decide_eq_false_iff_not] at hg; omega) | (have hh := of_decide_eq_true (beq_tt hg); omega) | (have hh := of_decide_eq_true (beq_tt (and_r hg)); omega))) rfl rfl ?_
    refine o_pure rfl rfl (pu_loadRefA hT rfl rfl (ev_tmp rfl) rfl) rfl rfl ?_
    refine o_alloc hT rfl rfl rfl rfl rfl rfl ?_
    refine o_store hT rfl rfl rfl rfl (ev_tmp rfl) (ev_tmp rfl) rfl rfl rfl rfl rfl rfl ?_
    refine ops_nil ?_
    refine then_n ?_
    refine ok_regionH [0, 1, 2, 3, 4] (oB := [2, 3, 5]) (oK := [31, 800]) (by kernel_rfl) rfl rfl ?_
    refine d_take 0 rfl (by kernel_rfl) rfl rfl (pu_fieldBox hT rfl rfl rfl (ev_tmp rfl)) rfl rfl rfl rfl ?_
    refine d_take 1 rfl (by kernel_rfl) rfl rfl (pu_loadBox1 hT rfl rfl (ev_tmp rfl) rfl rfl) rfl rfl rfl rfl ?_
    refine d_take 2 rfl (by kernel_rfl) rfl rfl (pu_loadBoxA hT rfl rfl (ev_tmp rfl) rfl rfl) rfl rfl rfl rfl ?_
    refine d_callK 26000 3 rfl (by kernel_rfl) rfl rfl rfl Try.call171 (ok_impl_copyStore (x := (((x.2.2.2.2)).getD ((k : Int)).toNat default)) (by omega)) (as_cons (ev_tmp rfl) (ag_agg (ag_cons ac_dv (ag_cons ac_dv (ag_cons ac_dv ag_nil)))) as_nil) rfl rfl rfl rfl rfl ?_
    refine d_build1 (k := 27) (js := [26030]) 4 hT rfl (by kernel_rfl) rfl rfl rfl rfl rfl rfl rfl rfl rfl (ev_tmp rfl) rfl rfl (ow_cons' (ow_dv rfl) (ow_cons' (ow_key rfl) (ow_cons' (ow_dv rfl) ow_nil rfl) rfl) rfl) (by decide) (by decide) rfl rfl (by decide) ?_
    simp only [killT, killB, SV.kill, CV.kill, List.map_cons, List.map_nil, List.any_cons, List.any_nil, List.contains_cons, List.contains_nil, List.nil_append, List.cons_append, Nat.reduceBEq, Bool.or_false, Bool.false_or, Bool.or_true, Bool.true_or, cond_true, cond_false]
    refine d_chain [5, 6, 7] rfl rfl (by kernel_rfl) ?_
    refine o_appK (k := 31) (j := 27) (cs := (x.2.2.2.2.take (k + 1)).flatMap eStore) (n := (x.2.2.2.2.take (k + 1)).length) hT rfl rfl rfl rfl rfl rfl rfl (ev_tmp rfl) rfl rfl rfl (ev_tmp rfl) rfl rfl (by decide) (by dsimp only [kcOf]; simp only [List.length_take]; omega) (by dsimp only [kcOf]; simp only [List.length_take]; omega) ((take_csG (enc := eStore) hk2).2) ((take_csG (enc := eStore) hk2).1) ?_
    simp only [killT, killB, SV.kill, CV.kill, List.map_cons, List.map_nil, List.any_cons, List.any_nil, List.contains_cons, List.contains_nil, List.nil_append, List.cons_append, Nat.reduceBEq, Bool.or_false, Bool.false_or, Bool.or_true, Bool.true_or, cond_true, cond_false]
    refine o_pure rfl rfl (pu_fieldBox hT rfl rfl rfl (ev_tmp rfl)) rfl rfl ?_
    refine o_store hT rfl rfl rfl rfl (ev_tmp rfl) (ev_tmp rfl) rfl rfl rfl rfl rfl rfl ?_
    refine ops_nil ?_
    refine blk_n ?_
    refine then_n ?_
    refine ok_region ?_
    refine o_pure rfl rfl (pu_addR rfl (ev_tmp rfl) (ev_int (inR_lit rfl)) (inR64 (by omega) (by omega))) rfl rfl ?_
    refine o_pure rfl rfl (pu_move (.inl rfl) (ev_tmp rfl)) rfl rfl ?_
    refine ops_nil ?_
    refine then_n ?_
    refine ⟨k + 1, ?_, ?_, weak_sub ⟨rfl, rfl, rfl, rfl, rfl, trivial⟩ ⟨rfl, rfl, trivial⟩ ⟨rfl, rfl, trivial⟩ rfl⟩
    · omega
    · omega
  · skip
    have d1 := of_decide_eq_false c1
    refine ok_exit ?_
    refine then_e ?_
    refine then_e ?_
    refine blk_e rfl ?_
    refine then_n ?_
    refine ok_seq ?_
    refine ok_region ?_
    refine o_pure rfl rfl (pu_loadBoxA hT rfl rfl (ev_tmp rfl) rfl rfl) rfl rfl ?_
    refine o_store hT rfl rfl rfl rfl (ev_tmp rfl) (ev_tmp rfl) rfl rfl rfl rfl rfl rfl ?_
    refine ops_nil ?_
    refine then_n ?_
    refine ok_weak (σ' := ⟨[(2, .box 2 0)], [(2, 138, [(.dv [] (.int .i64 (x.1))), (.key 800), (.dv [] (.int .i64 (x.2.2.1))), (.dv [] (.int .i64 (x.2.2.2.1))), (.key 31)])], [(800, some (kcOf false (opsD (x.2.1)))), (31, some (kcOf false (storesD (x.2.2.2.2))))]⟩) (weak_sub ⟨rfl, trivial⟩ ⟨rfl, trivial⟩ ⟨rfl, (congrArg (fun l : List (StoreT) => some (some (KC.mk false 82 3 l.length (l.flatMap eStore)))) (List.take_of_length_le (by omega))), trivial⟩ rfl) ?_
    refine ok_ret ?_
    refine fin1 (res_cell hT rfl rfl rfl rfl) ?_
    exact ⟨rfl, rfl⟩
set_option maxRecDepth 100000 in
theorem ok_impl_copyQueue {x : List TxT} (hb : wList wTx x ≤ 1099511627776) : KFn Try.prog 107 [.agg [(.dv [] (txsD (x)))]] (.agg [(.key 31)]) [(31, some (kcOf false (txsD (x))))] := by
  refine ⟨fn_intro Try.func107 rfl Try.ntmps107 Try.results107 rfl (fun C => ?_)⟩
  have hwl : wList wTx x = x.length + wSum wTx x := rfl
  refine ok_factA (x := .tmp 0) 0 (ev_tmp rfl) rfl (fun (f0_0 : ((x)).length ≤ 9223372036854775807) => ?_)
  refine ok_seq ?_
  refine ok_region ?_
  refine o_box rfl rfl rfl (ev_tmp rfl) rfl rfl rfl rfl ?_
  refine o_alloc hT rfl rfl rfl rfl rfl rfl ?_
  refine ops_nil ?_
  refine then_n ?_
  refine ok_seq ?_
  refine ok_region ?_
  refine o_pure rfl rfl (pu_build hT hB rfl rfl rfl bp_nil) rfl rfl ?_
  refine o_alloc hT rfl rfl rfl rfl rfl rfl ?_
  refine o_store hT rfl rfl rfl rfl (ev_tmp rfl) (ev_tmp rfl) rfl rfl rfl rfl rfl rfl ?_
  refine ops_nil ?_
  refine then_n ?_
  refine ok_seq ?_
  refine ok_seq ?_
  refine ok_weak (weak_nilB 31 (b := 3) (i := 0) (e := 138) (sz := 5) rfl rfl rfl rfl rfl) ?_
  simp only [killT, killB, SV.kill, CV.kill, List.map_cons, List.map_nil, List.any_cons, List.any_nil, List.contains_cons, List.contains_nil, List.nil_append, List.cons_append, Nat.reduceBEq, Bool.or_false, Bool.false_or, Bool.or_true, Bool.true_or, cond_true, cond_false]
  refine ok_region ?_
  refine o_pure rfl rfl (pu_fieldBox hT rfl rfl rfl (ev_tmp rfl)) rfl rfl ?_
  refine o_pure rfl rfl (pu_loadBox1 hT rfl rfl (ev_tmp rfl) rfl rfl) rfl rfl ?_
  refine o_pure rfl rfl (pu_lenV hT rfl rfl (ev_tmp rfl)) rfl rfl ?_
  refine o_pure rfl rfl (pu_move (.inl rfl) (ev_int (inR_lit rfl))) rfl rfl ?_
  refine ops_nil ?_
  refine then_n ?_
  refine ok_block ?_
  refine ok_loop (ι := Nat) (fun zz => ⟨[(2, .box 2 0), (3, .box 3 0), (8, .one (.dv [] (txsD (x)))), (9, .one (.dv [] (.int .i64 ((((x)).length : Int))))), (10, .one (.dv [] (.int .i64 ((zz : Int)))))], [(2, 70, [.nil]), (3, 70, [(.key 31)])], [(31, some (kcOf false (.sl 138 5 ((x.take zz).length) ((x.take zz).flatMap eTx))))]⟩) (fun zz => zz ≤ x.length) (fun zz => x.length - zz) (0) ?_ (weak_sub ⟨rfl, rfl, rfl, rfl, rfl, trivial⟩ ⟨rfl, rfl, trivial⟩ ⟨rfl, trivial⟩ rfl) (fun zz hx => ?_)
  · exact Nat.zero_le _
  obtain ⟨k, rfl⟩ : ∃ v, v = zz := ⟨_, rfl⟩
  replace hx : k ≤ x.length := hx
  have hw := fun h => wSum_succ wTx x k h
  show Ok _ _ _ _ _ (⟨[(2, .box 2 0), (3, .box 3 0), (8, .one (.dv [] (txsD (x)))), (9, .one (.dv [] (.int .i64 ((((x)).length : Int))))), (10, .one (.dv [] (.int .i64 ((k : Int)))))], [(2, 70, [.nil]), (3, 70, [(.key 31)])], [(31, some (kcOf false (.sl 138 5 ((x.take k).length) ((x.take k).flatMap eTx))))]⟩ : St)
  refine ok_seq ?_
  refine ok_region ?_
  refine o_pure rfl rfl (pu_lss rfl (ev_tmp rfl) (ev_tmp rfl)) rfl rfl ?_
  refine ops_nil ?_
  refine then_n ?_
  refine ok_seq ?_
  refine ok_cond (ev_tmp rfl) (fun c1 => ?_) (fun c1 => ?_)
  · skip
    have d1 := of_decide_eq_true c1
    have hk2 : k < x.length := by omega
    obtain ⟨hw1, hw2⟩ := hw hk2
    refine ok_skip ?_
    refine then_n ?_
    refine ok_seq ?_
    refine ok_block ?_
    refine ok_seq ?_
    refine ok_region ?_
    refine o_pure rfl rfl (pu_indexD hT rfl rfl rfl (ev_tmp rfl) (ev_tmp rfl) (fun _ => rfl) (by first | omega | (simp only [Bool.and_eq_true, Bool.or_eq_true, Bool.or_eq_false_iff, Bool.and_eq_false_iff, Bool.not_eq_true', Bool.not_eq_false', beq_iff_eq, decide_eq_true_eq, decide_eq_false_iff_not] at hg; omega) | (have hh := of_decide_eq_true (beq_tt hg); omega) | (have hh := of_decide_eq_true (beq_tt (and_r hg)); omega)) (by first | omega | (simp only [Bool.and_eq_true, Bool.or_eq_true, Bool.or_eq_false_iff, Bool.and_eq_false_iff, Bool.not_eq_true', Bool.not_eq_false', beq_iff_eq, decide_eq_true_eq, decide_eq_false_iff_not] at hg; omega) | (have hh := of_decide_eq_true (beq_tt hg); omega) | (have hh := of_decide_eq_true (beq_tt (and_r hg)); omega))) rfl rfl ?_
    refine o_pure rfl rfl (pu_loadRefA hT rfl rfl (ev_tmp rfl) rfl) rfl rfl ?_
    refine o_alloc hT rfl rfl rfl rfl rfl rfl ?_
    refine o_store hT rfl rfl rfl rfl (ev_tmp rfl) (ev_tmp rfl) rfl rfl rfl rfl rfl rfl ?_
    refine ops_nil ?_
    refine then_n ?_
    refine ok_regionH [0, 1, 2, 3, 4] (oB := [2, 3, 5]) (oK := [31]) (by kernel_rfl) rfl rfl ?_
    refine d_take 0 rfl (by kernel_rfl) rfl rfl (pu_fieldBox hT rfl rfl rfl (ev_tmp rfl)) rfl rfl rfl rfl ?_
    refine d_take 1 rfl (by kernel_rfl) rfl rfl (pu_loadBox1 hT rfl rfl (ev_tmp rfl) rfl rfl) rfl rfl rfl rfl ?_
    refine d_take 2 rfl (by kernel_rfl) rfl rfl (pu_loadBoxA hT rfl rfl (ev_tmp rfl) rfl rfl) rfl rfl rfl rfl ?_
    refine d_callK 17000 3 rfl (by kernel_rfl) rfl rfl rfl Try.call158 (ok_impl_copyTx (x := (((x)).getD ((k : Int)).toNat default)) (by omega)) (as_cons (ev_tmp rfl) (ag_agg (ag_cons ac_dv (ag_cons ac_dv (ag_cons ac_dv (ag_cons ac_dv (ag_cons ac_dv ag_nil)))))) as_nil) rfl rfl rfl rfl rfl ?_
    refine d_build1 (k := 18) (js := [17800, 17031]) 4 hT rfl (by kernel_rfl) rfl rfl rfl rfl rfl rfl rfl rfl rfl (ev_tmp rfl) rfl rfl (ow_cons' (ow_dv rfl) (ow_cons' (ow_key rfl) (ow_cons' (ow_dv rfl) (ow_cons' (ow_dv rfl) (ow_cons' (ow_key rfl) ow_nil rfl) rfl) rfl) rfl) rfl) (by decide) (by decide) rfl rfl (by decide) ?_
    simp only [killT, killB, SV.kill, CV.kill, List.map_cons, List.map_nil, List.any_cons, List.any_nil, List.contains_cons, List.contains_nil, List.nil_append, List.cons_append, Nat.reduceBEq, Bool.or_false, Bool.false_or, Bool.or_true, Bool.true_or, cond_true, cond_false]
    refine d_chain [5, 6, 7] rfl rfl (by kernel_rfl) ?_
    refine o_appK (k := 31) (j := 18) (cs := (x.take (k + 1)).flatMap eTx) (n := (x.take (k + 1)).length) hT rfl rfl rfl rfl rfl rfl rfl (ev_tmp rfl) rfl rfl rfl (ev_tmp rfl) rfl rfl (by decide) (by dsimp only [kcOf]; simp only [List.length_take]; omega) (by dsimp only [kcOf]; simp only [List.length_take]; omega) ((take_csG (enc := eTx) hk2).2) ((take_csG (enc := eTx) hk2).1) ?_
    simp only [killT, killB, SV.kill, CV.kill, List.map_cons, List.map_nil, List.any_cons, List.any_nil, List.contains_cons, List.contains_nil, List.nil_append, List.cons_append, Nat.reduceBEq, Bool.or_false, Bool.false_or, Bool.or_true, Bool.true_or, cond_true, cond_false]
    refine o_pure rfl rfl (pu_fieldBox hT rfl rfl rfl (ev_tmp rfl)) rfl rfl ?_
    refine o_store hT rfl rfl rfl rfl (ev_tmp rfl) (ev_tmp rfl) rfl rfl rfl rfl rfl rfl ?_
    refine ops_nil ?_
    refine blk_n ?_
    refine then_n ?_
    refine ok_region ?_
    refine o_pure rfl rfl (pu_addR rfl (ev_tmp rfl) (ev_int (inR_lit rfl)) (inR64 (by omega) (by omega))) rfl rfl ?_
    refine o_pure rfl rfl (pu_move (.inl rfl) (ev_tmp rfl)) rfl rfl ?_
    refine ops_nil ?_
    refine then_n ?_
    refine ⟨k + 1, ?_, ?_, weak_sub ⟨rfl, rfl, rfl, rfl, rfl, trivial⟩ ⟨rfl, rfl, trivial⟩ ⟨rfl, trivial⟩ rfl⟩
    · omega
    · omega
  · skip
    have d1 := of_decide_eq_false c1
    refine ok_exit ?_
    refine then_e ?_
    refine then_e ?_
    refine blk_e rfl ?_
    refine then_n ?_
    refine ok_seq ?_
    refine ok_region ?_
    refine o_pure rfl rfl (pu_loadBoxA hT rfl rfl (ev_tmp rfl) rfl rfl) rfl rfl ?_
    refine o_store hT rfl rfl rfl rfl (ev_tmp rfl) (ev_tmp rfl) rfl rfl rfl rfl rfl rfl ?_
    refine ops_nil ?_
    refine then_n ?_
    refine ok_weak (σ' := ⟨[(2, .box 2 0)], [(2, 70, [(.key 31)])], [(31, some (kcOf false (txsD (x))))]⟩) (weak_sub ⟨rfl, trivial⟩ ⟨rfl, trivial⟩ ⟨(congrArg (fun l : List (TxT) => some (some (KC.mk false 138 5 l.length (l.flatMap eTx)))) (List.take_of_length_le (by omega))), trivial⟩ rfl) ?_
    refine ok_ret ?_
    refine fin1 (res_cell hT rfl rfl rfl rfl) ?_
    exact ⟨rfl, rfl⟩
set_option maxRecDepth 100000 in
theorem ok_spec_l10Copy {x : List TxT} (hb : wList wTx x ≤ 1099511627776) : KFn Try.prog 104 [.agg [(.dv [] (txsD (x)))]] (.agg [(.key 31)]) [(31, some (kcOf false (txsD (x))))] := by
  refine ⟨fn_intro Try.func104 rfl Try.ntmps104 Try.results104 rfl (fun C => ?_)⟩
  have hwl : wList wTx x = x.length + wSum wTx x := rfl
  refine ok_factA (x := .tmp 0) 0 (ev_tmp rfl) rfl (fun (f0_0 : ((x)).length ≤ 9223372036854775807) => ?_)
  refine ok_seq ?_
  refine ok_region ?_
  refine o_box rfl rfl rfl (ev_tmp rfl) rfl rfl rfl rfl ?_
  refine o_alloc hT rfl rfl rfl rfl rfl rfl ?_
  refine ops_nil ?_
  refine then_n ?_
  refine ok_seq ?_
  refine ok_region ?_
  refine o_pure rfl rfl (pu_build hT hB rfl rfl rfl bp_nil) rfl rfl ?_
  refine o_alloc hT rfl rfl rfl rfl rfl rfl ?_
  refine o_store hT rfl rfl rfl rfl (ev_tmp rfl) (ev_tmp rfl) rfl rfl rfl rfl rfl rfl ?_
  refine ops_nil ?_
  refine then_n ?_
  refine ok_seq ?_
  refine ok_seq ?_
  refine ok_weak (weak_nilB 31 (b := 3) (i := 0) (e := 138) (sz := 5) rfl rfl rfl rfl rfl) ?_
  simp only [killT, killB, SV.kill, CV.kill, List.map_cons, List.map_nil, List.any_cons, List.any_nil, List.contains_cons, List.contains_nil, List.nil_append, List.cons_append, Nat.reduceBEq, Bool.or_false, Bool.false_or, Bool.or_true, Bool.true_or, cond_true, cond_false]
  refine ok_region ?_
  refine o_pure rfl rfl (pu_move (.inr rfl) (ev_int (inR_lit rfl))) rfl rfl ?_
  refine ops_nil ?_
  refine then_n ?_
  refine ok_block ?_
  refine ok_loop (ι := Nat) (fun zz => ⟨[(1, .box 1 0), (2, .box 2 0), (3, .box 3 0), (4, .one (.dv [] (.int .i64 ((zz : Int)))))], [(1, 70, [(.dv [] (txsD (x)))]), (2, 70, [.nil]), (3, 70, [(.key 31)])], [(31, some (kcOf false (.sl 138 5 ((x.take zz).length) ((x.take zz).flatMap eTx))))]⟩) (fun zz => zz ≤ x.length) (fun zz => x.length - zz) (0) ?_ (weak_sub ⟨rfl, rfl, rfl, rfl, trivial⟩ ⟨rfl, rfl, rfl, trivial⟩ ⟨rfl, trivial⟩ rfl) (fun zz hx => ?_)
  · exact Nat.zero_le _
  obtain ⟨k, rfl⟩ : ∃ v, v = zz := ⟨_, rfl⟩
  replace hx : k ≤ x.length := hx
  have hw := fun h => wSum_succ wTx x k h
  show Ok _ _ _ _ _ (⟨[(1, .box 1 0), (2, .box 2 0), (3, .box 3 0), (4, .one (.dv [] (.int .i64 ((k : Int)))))], [(1, 70, [(.dv [] (txsD (x)))]), (2, 70, [.nil]), (3, 70, [(.key 31)])], [(31, some (kcOf false (.sl 138 5 ((x.take k).length) ((x.take k).flatMap eTx))))]⟩ : St)
  refine ok_seq ?_
  refine ok_seq ?_
  refine ok_region ?_
  refine o_pure rfl rfl (pu_move (.inl rfl) (ev_tmp rfl)) rfl rfl ?_
  refine o_pure rfl rfl (pu_fieldBox hT rfl rfl rfl (ev_tmp rfl)) rfl rfl ?_
  refine o_pure rfl rfl (pu_loadBox1 hT rfl rfl (ev_tmp rfl) rfl rfl) rfl rfl ?_
  refine o_pure rfl rfl (pu_lenV hT rfl rfl (ev_tmp rfl)) rfl rfl ?_
  refine o_pure rfl rfl (pu_lss rfl (ev_tmp rfl) (ev_tmp rfl)) rfl rfl ?_
  refine ops_nil ?_
  refine then_n ?_
  refine ok_cond (ev_tmp rfl) (fun c1 => ?_) (fun c1 => ?_)
  · skip
    have d1 := of_decide_eq_true c1
    have hk2 : k < x.length := by omega
    obtain ⟨hw1, hw2⟩ := hw hk2
    have hwt : wTx (x.getD (k : Int).toNat default) = wList wOp (x.getD (k : Int).toNat default).2.1 + wList wStore (x.getD (k : Int).toNat default).2.2.2.2 := rfl
    refine ok_skip ?_
    refine then_n ?_
    refine ok_seq ?_
    refine ok_block ?_
    refine ok_seq ?_
    refine ok_region ?_
    refine o_pure rfl rfl (pu_fieldBox hT rfl rfl rfl (ev_tmp rfl)) rfl rfl ?_
    refine o_pure rfl rfl (pu_loadBox1 hT rfl rfl (ev_tmp rfl) rfl rfl) rfl rfl ?_
    refine o_pure rfl rfl (pu_move (.inl rfl) (ev_tmp rfl)) rfl rfl ?_
    refine o_pure rfl rfl (pu_indexD hT rfl rfl rfl (ev_tmp rfl) (ev_tmp rfl) (fun _ => rfl) (by first | omega | (simp only [Bool.and_eq_true, Bool.or_eq_true, Bool.or_eq_false_iff, Bool.and_eq_false_iff, Bool.not_eq_true', Bool.not_eq_false', beq_iff_eq, decide_eq_true_eq, decide_eq_false_iff_not] at hg; omega) | (have hh := of_decide_eq_true (beq_tt hg); omega) | (have hh := of_decide_eq_true (beq_tt (and_r hg)); omega)) (by first | omega | (simp only [Bool.and_eq_true, Bool.or_eq_true, Bool.or_eq_false_iff, Bool.and_eq_false_iff, Bool.not_eq_true', Bool.not_eq_false', beq_iff_eq, decide_eq_true_eq, decide_eq_false_iff_not] at hg; omega) | (have hh := of_decide_eq_true (beq_tt hg); omega) | (have hh := of_decide_eq_true (beq_tt (and_r hg)); omega))) rfl rfl ?_
    refine o_pure rfl rfl (pu_loadRefA hT rfl rfl (ev_tmp rfl) rfl) rfl rfl ?_
    refine o_alloc hT rfl rfl rfl rfl rfl rfl ?_
    refine o_store hT rfl rfl rfl rfl (ev_tmp rfl) (ev_tmp rfl) rfl rfl rfl rfl rfl rfl ?_
    refine ops_nil ?_
    refine then_n ?_
    refine ok_seq ?_
    refine ok_region ?_
    refine o_pure rfl rfl (pu_fieldBox hT rfl rfl rfl (ev_tmp rfl)) rfl rfl ?_
    refine o_pure rfl rfl (pu_loadBox1 hT rfl rfl (ev_tmp rfl) rfl rfl) rfl rfl ?_
    refine o_pure rfl rfl (pu_move (.inl rfl) (ev_tmp rfl)) rfl rfl ?_
    refine o_pure rfl rfl (pu_indexD hT rfl rfl rfl (ev_tmp rfl) (ev_tmp rfl) (fun _ => rfl) (by first | omega | (simp only [Bool.and_eq_true, Bool.or_eq_true, Bool.or_eq_false_iff, Bool.and_eq_false_iff, Bool.not_eq_true', Bool.not_eq_false', beq_iff_eq, decide_eq_true_eq, decide_eq_false_iff_not] at hg; omega) | (have hh := of_decide_eq_true (beq_tt hg); omega) | (have hh := of_decide_eq_true (beq_tt (and_r hg)); omega)) (by first | omega | (simp only [Bool.and_eq_true, Bool.or_eq_true, Bool.or_eq_false_iff, Bool.and_eq_false_iff, Bool.not_eq_true', Bool.not_eq_false', beq_iff_eq, decide_eq_true_eq, decide_eq_false_iff_not] at hg; omega) | (have hh := of_decide_eq_true (beq_tt hg); omega) | (have hh := of_decide_eq_true (beq_tt (and_r hg)); omega))) rfl rfl ?_
    refine o_pure rfl rfl (pu_fieldRef hT rfl rfl rfl (ev_tmp rfl)) rfl rfl ?_
    refine o_pure rfl rfl (pu_loadRef1 hT rfl rfl (ev_tmp rfl) rfl) rfl rfl ?_
    refine o_callK 25000 rfl rfl rfl Try.call105 (ok_spec_l9Copy (x := (((x)).getD ((k : Int)).toNat default).2.1) (by omega)) (as_cons (ev_tmp rfl) (ag_one ac_dv) as_nil) rfl rfl rfl ?_
    refine o_pure rfl rfl (pu_fieldBox hT rfl rfl rfl (ev_tmp rfl)) rfl rfl ?_
    refine o_store hT rfl rfl rfl rfl (ev_tmp rfl) (ev_tmp rfl) rfl rfl rfl rfl rfl rfl ?_
    refine ops_nil ?_
    refine then_n ?_
    refine ok_seq ?_
    refine ok_region ?_
    refine o_pure rfl rfl (pu_fieldBox hT rfl rfl rfl (ev_tmp rfl)) rfl rfl ?_
    refine o_pure rfl rfl (pu_loadBox1 hT rfl rfl (ev_tmp rfl) rfl rfl) rfl rfl ?_
    refine o_pure rfl rfl (pu_move (.inl rfl) (ev_tmp rfl)) rfl rfl ?_
    refine o_pure rfl rfl (pu_indexD hT rfl rfl rfl (ev_tmp rfl) (ev_tmp rfl) (fun _ => rfl) (by first | omega | (simp only [Bool.and_eq_true, Bool.or_eq_true, Bool.or_eq_false_iff, Bool.and_eq_false_iff, Bool.not_eq_true', Bool.not_eq_false', beq_iff_eq, decide_eq_true_eq, decide_eq_false_iff_not] at hg; omega) | (have hh := of_decide_eq_true (beq_tt hg); omega) | (have hh := of_decide_eq_true (beq_tt (and_r hg)); omega)) (by first | omega | (simp only [Bool.and_eq_true, Bool.or_eq_true, Bool.or_eq_false_iff, Bool.and_eq_false_iff, Bool.not_eq_true', Bool.not_eq_false', beq_iff_eq, decide_eq_true_eq, decide_eq_false_iff_not] at hg; omega) | (have hh := of_decide_eq_true (beq_tt hg); omega) | (have hh := of_decide_eq_true (beq_tt (and_r hg)); omega))) rfl rfl ?_
    refine o_pure rfl rfl (pu_fieldRef hT rfl rfl rfl (ev_tmp rfl)) rfl rfl ?_
    refine o_pure rfl rfl (pu_loadRef1 hT rfl rfl (ev_tmp rfl) rfl) rfl rfl ?_
    refine o_callK 33000 rfl rfl rfl Try.call155 (ok_spec_l10Stores (x := (((x)).getD ((k : Int)).toNat default).2.2.2.2) (by omega)) (as_cons (ev_tmp rfl) (ag_one ac_dv) as_nil) rfl rfl rfl ?_
    refine o_pure rfl rfl (pu_fieldBox hT rfl rfl rfl (ev_tmp rfl)) rfl rfl ?_
    refine o_store hT rfl rfl rfl rfl (ev_tmp rfl) (ev_tmp rfl) rfl rfl rfl rfl rfl rfl ?_
    refine ops_nil ?_
    refine then_n ?_
    refine ok_region ?_
    refine o_pure rfl rfl (pu_fieldBox hT rfl rfl rfl (ev_tmp rfl)) rfl rfl ?_
    refine o_pure rfl rfl (pu_loadBox1 hT rfl rfl (ev_tmp rfl) rfl rfl) rfl rfl ?_
    refine o_pure rfl rfl (pu_loadBoxA hT rfl rfl (ev_tmp rfl) rfl rfl) rfl rfl ?_
    refine o_build1 (k := 38) (js := [25006, 33005]) hT rfl rfl rfl rfl rfl rfl rfl rfl rfl (ev_tmp rfl) rfl rfl (ow_cons' (ow_dv rfl) (ow_cons' (ow_key rfl) (ow_cons' (ow_dv rfl) (ow_cons' (ow_dv rfl) (ow_cons' (ow_key rfl) ow_nil rfl) rfl) rfl) rfl) rfl) (by decide) (by decide) rfl rfl ?_
    simp only [killT, killB, SV.kill, CV.kill, List.map_cons, List.map_nil, List.any_cons, List.any_nil, List.contains_cons, List.contains_nil, List.nil_append, List.cons_append, Nat.reduceBEq, Bool.or_false, Bool.false_or, Bool.or_true, Bool.true_or, cond_true, cond_false]
    refine o_appK (k := 31) (j := 38) (cs := (x.take (k + 1)).flatMap eTx) (n := (x.take (k + 1)).length) hT rfl rfl rfl rfl rfl rfl rfl (ev_tmp rfl) rfl rfl rfl (ev_tmp rfl) rfl rfl (by decide) (by dsimp only [kcOf]; simp only [List.length_take]; omega) (by dsimp only [kcOf]; simp only [List.length_take]; omega) ((take_csG (enc := eTx) hk2).2) ((take_csG (enc := eTx) hk2).1) ?_
    simp only [killT, killB, SV.kill, CV.kill, List.map_cons, List.map_nil, List.any_cons, List.any_nil, List.contains_cons, List.contains_nil, List.nil_append, List.cons_append, Nat.reduceBEq, Bool.or_false, Bool.false_or, Bool.or_true, Bool.true_or, cond_true, cond_false]
    refine o_pure rfl rfl (pu_fieldBox hT rfl rfl rfl (ev_tmp rfl)) rfl rfl ?_
    refine o_store hT rfl rfl rfl rfl (ev_tmp rfl) (ev_tmp rfl) rfl rfl rfl rfl rfl rfl ?_
    refine ops_nil ?_
    refine blk_n ?_
    refine then_n ?_
    refine ok_region ?_
    refine o_pure rfl rfl (pu_move (.inl rfl) (ev_tmp rfl)) rfl rfl ?_
    refine o_pure rfl rfl (pu_addR rfl (ev_tmp rfl) (ev_int (inR_lit rfl)) (inR64 (by omega) (by omega))) rfl rfl ?_
    refine o_pure rfl rfl (pu_move (.inr rfl) (ev_tmp rfl)) rfl rfl ?_
    refine ops_nil ?_
    refine then_n ?_
    refine ⟨k + 1, ?_, ?_, weak_sub ⟨rfl, rfl, rfl, rfl, trivial⟩ ⟨rfl, rfl, rfl, trivial⟩ ⟨rfl, trivial⟩ rfl⟩
    · omega
    · omega
  · skip
    have d1 := of_decide_eq_false c1
    refine ok_exit ?_
    refine then_e ?_
    refine then_e ?_
    refine blk_e rfl ?_
    refine then_n ?_
    refine ok_seq ?_
    refine ok_region ?_
    refine o_pure rfl rfl (pu_loadBoxA hT rfl rfl (ev_tmp rfl) rfl rfl) rfl rfl ?_
    refine o_store hT rfl rfl rfl rfl (ev_tmp rfl) (ev_tmp rfl) rfl rfl rfl rfl rfl rfl ?_
    refine ops_nil ?_
    refine then_n ?_
    refine ok_weak (σ' := ⟨[(2, .box 2 0)], [(2, 70, [(.key 31)])], [(31, some (kcOf false (txsD (x))))]⟩) (weak_sub ⟨rfl, trivial⟩ ⟨rfl, trivial⟩ ⟨(congrArg (fun l : List (TxT) => some (some (KC.mk false 138 5 l.length (l.flatMap eTx)))) (List.take_of_length_le (by omega))), trivial⟩ rfl) ?_
    refine ok_ret ?_
    refine fin1 (res_cell hT rfl rfl rfl rfl) ?_
    exact ⟨rfl, rfl⟩
end Go.Proofs.Ytlogahkchenpdaa

namespace Go.Proofs.Ytlogahkchenpdaa
open Go.RowKit
open Go.Proofs
set_option linter.unusedVariables false
set_option linter.unusedSimpArgs false

def nidQ (q : List TxT) : Int := if 0 < q.length then IntKind.i64.wrap ((q.getD ((q.length : Int) - 1).toNat default).1 + 1) else 1
def newTx (q : List TxT) (o : List OpT) : List TxT × Int × Bool := if decide (6 ≤ q.length) || !areB o then (q, 0, false) else (q ++ [(nidQ q, o, 0, 0, [])], nidQ q, true)
theorem le_cast {a : Nat} : decide ((6 : Int) ≤ (a : Int)) = decide (6 ≤ a) := decide_eq_decide.2 (by omega)
theorem new_bad {q : List TxT} {o : List OpT} (h : (decide ((6 : Int) ≤ (q.length : Int)) || !areB o) = true) : newTx q o = (q, 0, false) := by
  rw [le_cast] at h
  rw [newTx, if_pos h]
theorem new_good {q : List TxT} {o : List OpT} {z : Int} (h : (decide ((6 : Int) ≤ (q.length : Int)) || !areB o) = false) (hz : z = nidQ q) : newTx q o = (q ++ [(z, o, 0, 0, [])], z, true) := by
  rw [le_cast] at h
  rw [newTx, if_neg (by rw [h]; simp), hz]
theorem nid_pos {q : List TxT} (h : (0 : Int) < (q.length : Int)) : IntKind.i64.wrap ((q.getD ((q.length : Int) - 1).toNat default).1 + 1) = nidQ q := by rw [nidQ, if_pos (by omega)]
theorem nid_zero {q : List TxT} (h : ¬ (0 : Int) < (q.length : Int)) : 1 = nidQ q := by rw [nidQ, if_neg (by omega)]
theorem are_big {l : List OpT} (h : (6 : Int) < (l.length : Int)) : areB l = false := by
  unfold areB; rw [decide_eq_false (by omega)]; simp
theorem newTx_w (q : List TxT) (o : List OpT) : wList wTx (newTx q o).1 ≤ wList wTx q + wList wOp o + 1 := by
  unfold newTx
  split
  · show wList wTx q ≤ _; omega
  · show wList wTx (q ++ [(nidQ q, o, 0, 0, [])]) ≤ _
    have h1 : wTx (nidQ q, o, 0, 0, []) = wList wOp o + wList wStore [] := rfl
    have h2 : wList wStore [] = 0 := rfl
    simp only [wList, wSum, List.length_append, List.map_append, List.sum_append, List.map_cons, List.map_nil, List.sum_cons, List.sum_nil, List.length_cons, List.length_nil] at h1 ⊢
    omega

set_option maxRecDepth 100000 in
theorem ok_impl_NewTx {x : List TxT} {y : List OpT} (hb : wList wTx x ≤ 1099511627776) (hb2 : wList wOp y ≤ 1099511627776) : KFn Try.prog 45 [.agg [(.dv [] (txsD (x)))], .one (.dv [] (opsD (y)))] (.tup [(true, [(.key 90001)]), (false, [(.dv [] (.int .i64 ((newTx x y).2.1)))]), (false, [(.dv [] (.bool ((newTx x y).2.2)))])]) [(90001, some (kcOf false (txsD ((newTx x y).1))))] := by
  refine ⟨fn_intro Try.func45 rfl Try.ntmps45 Try.results45 rfl (fun C => ?_)⟩
  have hwl : wList wTx x = x.length + wSum wTx x := rfl
  refine ok_factA (x := .tmp 0) 0 (ev_tmp rfl) rfl (fun (f0_0 : ((x)).length ≤ 9223372036854775807) => ?_)
  refine ok_fact (x := .tmp 1) (ev_tmp rfl) (fun (f1 : ((y)).length ≤ 9223372036854775807) => ?_)
  refine ok_seq ?_
  refine ok_region ?_
  refine o_box rfl rfl rfl (ev_tmp rfl) rfl rfl rfl rfl ?_
  refine o_alloc hT rfl rfl rfl rfl rfl rfl ?_
  refine o_pure rfl rfl (pu_move (.inr rfl) (ev_int (inR_lit rfl))) rfl rfl ?_
  refine o_pure rfl rfl (pu_move (.inr rfl) ev_bool) rfl rfl ?_
  refine ops_nil ?_
  refine then_n ?_
  refine ok_seq ?_
  refine ok_region ?_
  refine o_pure rfl rfl (pu_loadBoxA hT rfl rfl (ev_tmp rfl) rfl rfl) rfl rfl ?_
  refine o_callK 89970 rfl rfl rfl Try.call107 (ok_impl_copyQueue (x := x) (by omega)) (as_cons (ev_tmp rfl) (ag_agg (ag_cons ac_dv ag_nil)) as_nil) rfl rfl rfl ?_
  refine o_alloc hT rfl rfl rfl rfl rfl rfl ?_
  refine o_store hT rfl rfl rfl rfl (ev_tmp rfl) (ev_tmp rfl) rfl rfl rfl rfl rfl rfl ?_
  refine ops_nil ?_
  refine then_n ?_
  refine ok_seq ?_
  refine ok_region ?_
  refine o_pure rfl rfl (pu_fieldBox hT rfl rfl rfl (ev_tmp rfl)) rfl rfl ?_
  refine o_pure rfl rfl (pu_loadBox1 hT rfl rfl (ev_tmp rfl) rfl rfl) rfl rfl ?_
  refine o_pure rfl rfl (pu_lenV hT rfl rfl (ev_tmp rfl)) rfl rfl ?_
  refine o_pure rfl rfl (pu_move (.inr rfl) (ev_tmp rfl)) rfl rfl ?_
  refine ops_nil ?_
  refine then_n ?_
  refine ok_seq ?_
  refine ok_seq ?_
  refine ok_region ?_
  refine o_pure rfl rfl (pu_move (.inl rfl) (ev_tmp rfl)) rfl rfl ?_
  refine o_pure rfl rfl (pu_geq rfl (ev_tmp rfl) (ev_int (inR_lit rfl))) rfl rfl ?_
  refine o_pure rfl rfl (pu_move (.inl rfl) (ev_tmp rfl)) rfl rfl ?_
  refine o_pureG (gd_bool rfl rfl rfl rfl rfl) rfl (fun hg => pu_move (.inl rfl) (ev_tmp rfl)) rfl rfl ?_
  refine o_callG (gd_bool rfl rfl rfl rfl rfl) rfl rfl Try.call65 (ok_impl_areOps (l := y) ) (fun hg => (as_cons (ev_opt rfl hg) (ag_one ac_dv) as_nil)) rfl rfl ?_
  refine o_pureG (gd_bool rfl rfl rfl rfl rfl) rfl (fun hg => pu_not rfl (ev_opt rfl hg)) rfl rfl ?_
  refine o_pure rfl rfl (pu_or rfl (ev_tmp rfl) (fun hb => (ev_opt rfl (beq_f hb)))) rfl rfl ?_
  refine ops_nil ?_
  refine then_n ?_
  refine ok_cond (ev_tmp rfl) (fun c1 => ?_) (fun c1 => ?_)
  · skip
    refine ok_seq ?_
    refine ok_region ?_
    refine o_pure rfl rfl (pu_loadBoxA hT rfl rfl (ev_tmp rfl) rfl rfl) rfl rfl ?_
    refine o_store hT rfl rfl rfl rfl (ev_tmp rfl) (ev_tmp rfl) rfl rfl rfl rfl rfl rfl ?_
    refine o_pure rfl rfl (pu_move (.inr rfl) (ev_int (inR_lit rfl))) rfl rfl ?_
    refine o_pure rfl rfl (pu_move (.inr rfl) ev_bool) rfl rfl ?_
    refine ops_nil ?_
    refine then_n ?_
    rw [new_bad c1]
    refine ok_weak (σ' := ⟨[(4, .box 4 0), (5, .one (.dv [] (.int .i64 (0)))), (6, .one (.dv [] (.bool (false))))], [(4, 70, [(.key 90001)])], [(90001, some (kcOf false (txsD (x))))]⟩) (weak_sub ⟨rfl, rfl, rfl, trivial⟩ ⟨rfl, trivial⟩ ⟨rfl, trivial⟩ rfl) ?_
    refine ok_ret ?_
    refine then_r ?_
    refine fin3 (res_cell hT rfl rfl rfl rfl) (res_tmp rfl) (res_tmp rfl) rfl rfl rfl ?_
    first | exact ⟨rfl, rfl⟩ | skip
  · skip
    refine ok_skip ?_
    refine then_n ?_
    refine ok_seq ?_
    refine ok_region ?_
    refine o_pure rfl rfl (pu_move (.inr rfl) (ev_int (inR_lit rfl))) rfl rfl ?_
    refine ops_nil ?_
    refine then_n ?_
    refine ok_seq ?_
    refine ok_seq ?_
    refine ok_region ?_
    refine o_pure rfl rfl (pu_move (.inl rfl) (ev_tmp rfl)) rfl rfl ?_
    refine o_pure rfl rfl (pu_gtr rfl (ev_tmp rfl) (ev_int (inR_lit rfl))) rfl rfl ?_
    refine ops_nil ?_
    refine then_n ?_
    refine ok_cond (ev_tmp rfl) (fun c2 => ?_) (fun c2 => ?_)
    · skip
      have d2 := of_decide_eq_true c2
      refine ok_region ?_
      refine o_pure rfl rfl (pu_fieldBox hT rfl rfl rfl (ev_tmp rfl)) rfl rfl ?_
      refine o_pure rfl rfl (pu_loadBox1 hT rfl rfl (ev_tmp rfl) rfl rfl) rfl rfl ?_
      refine o_pure rfl rfl (pu_move (.inl rfl) (ev_tmp rfl)) rfl rfl ?_
      refine o_pure rfl rfl (pu_subR rfl (ev_tmp rfl) (ev_int (inR_lit rfl)) (inR64 (by omega) (by omega))) rfl rfl ?_
      refine o_pure rfl rfl (pu_indexD hT rfl rfl rfl (ev_tmp rfl) (ev_tmp rfl) (fun _ => rfl) (by first | omega | (simp only [Bool.and_eq_true, Bool.or_eq_true, Bool.or_eq_false_iff, Bool.and_eq_false_iff, Bool.not_eq_true', Bool.not_eq_false', beq_iff_eq, decide_eq_true_eq, decide_eq_false_iff_not] at hg; omega) | (have hh := of_decide_eq_true (beq_tt hg); omega) | (have hh := of_decide_eq_true (beq_tt (and_r hg)); omega)) (by first | omega | (simp only [Bool.and_eq_true, Bool.or_eq_true, Bool.or_eq_false_iff, Bool.and_eq_false_iff, Bool.not_eq_true', Bool.not_eq_false', beq_iff_eq, decide_eq_true_eq, decide_eq_false_iff_not] at hg; omega) | (have hh := of_decide_eq_true (beq_tt hg); omega) | (have hh := of_decide_eq_true (beq_tt (and_r hg)); omega))) rfl rfl ?_
      refine o_pure rfl rfl (pu_fieldRef hT rfl rfl rfl (ev_tmp rfl)) rfl rfl ?_
      refine o_pure rfl rfl (pu_loadRef1 hT rfl rfl (ev_tmp rfl) rfl) rfl rfl ?_
      refine o_pure rfl rfl (pu_add rfl (ev_tmp rfl) (ev_int (inR_lit rfl))) rfl rfl ?_
      refine o_pure rfl rfl (pu_move (.inr rfl) (ev_tmp rfl)) rfl rfl ?_
      refine ops_nil ?_
      refine then_n ?_
      refine ok_seq ?_
      refine ok_regionH [0, 1, 2, 3, 4, 5, 6] (oB := [2, 4, 7]) (oK := [90001]) (by kernel_rfl) rfl rfl ?_
      refine d_take 0 rfl (by kernel_rfl) rfl rfl (pu_fieldBox hT rfl rfl rfl (ev_tmp rfl)) rfl rfl rfl rfl ?_
      refine d_take 1 rfl (by kernel_rfl) rfl rfl (pu_loadBox1 hT rfl rfl (ev_tmp rfl) rfl rfl) rfl rfl rfl rfl ?_
      refine d_take 2 rfl (by kernel_rfl) rfl rfl (pu_move (.inl rfl) (ev_tmp rfl)) rfl rfl rfl rfl ?_
      refine d_take 3 rfl (by kernel_rfl) rfl rfl (pu_move (.inl rfl) (ev_tmp rfl)) rfl rfl rfl rfl ?_
      refine d_callK 89999 4 rfl (by kernel_rfl) rfl rfl rfl Try.call108 (ok_impl_copyOps (x := y) (by omega)) (as_cons (ev_tmp rfl) (ag_one ac_dv) as_nil) rfl rfl rfl rfl rfl ?_
      refine d_take 5 rfl (by kernel_rfl) rfl rfl (pu_build hT hB rfl rfl rfl (bp_cons (ev_tmp rfl) rfl rfl rfl rfl rfl (bp_cons (ev_tmp rfl) rfl rfl rfl rfl rfl bp_nil))) rfl rfl rfl rfl ?_
      refine d_build1 (k := 39) (js := [90005]) 6 hT rfl (by kernel_rfl) rfl rfl rfl rfl rfl rfl rfl rfl rfl (ev_tmp rfl) rfl rfl (ow_cons' (ow_dv rfl) (ow_cons' (ow_key rfl) (ow_cons' (ow_dv rfl) (ow_cons' (ow_dv rfl) (ow_cons' (ow_nilc (e := 82) (sz := 3) rfl) ow_nil rfl) rfl) rfl) rfl) rfl) (by decide) (by decide) rfl rfl (by decide) ?_
      simp only [killT, killB, SV.kill, CV.kill, List.map_cons, List.map_nil, List.any_cons, List.any_nil, List.contains_cons, List.contains_nil, List.nil_append, List.cons_append, Nat.reduceBEq, Bool.or_false, Bool.false_or, Bool.or_true, Bool.true_or, cond_true, cond_false]
      refine d_chain [7, 8, 9] rfl rfl (by kernel_rfl) ?_
      refine o_appK (k := 90001) (j := 39) (cs := (x ++ [(IntKind.i64.wrap ((x.getD ((x.length : Int) - 1).toNat default).1 + 1), y, (0 : Int), (0 : Int), ([] : List StoreT))]).flatMap eTx) (n := (x ++ [(IntKind.i64.wrap ((x.getD ((x.length : Int) - 1).toNat default).1 + 1), y, (0 : Int), (0 : Int), ([] : List StoreT))]).length) hT rfl rfl rfl rfl rfl rfl rfl (ev_tmp rfl) rfl rfl rfl (ev_tmp rfl) rfl rfl (by decide) (by dsimp only [kcOf, KC.old]; omega) (by dsimp only [kcOf, KC.old]; omega) (by rw [List.length_append]; rfl) (by rw [List.flatMap_append]; rfl) ?_
      simp only [killT, killB, SV.kill, CV.kill, List.map_cons, List.map_nil, List.any_cons, List.any_nil, List.contains_cons, List.contains_nil, List.nil_append, List.cons_append, Nat.reduceBEq, Bool.or_false, Bool.false_or, Bool.or_true, Bool.true_or, cond_true, cond_false]
      refine o_pure rfl rfl (pu_fieldBox hT rfl rfl rfl (ev_tmp rfl)) rfl rfl ?_
      refine o_store hT rfl rfl rfl rfl (ev_tmp rfl) (ev_tmp rfl) rfl rfl rfl rfl rfl rfl ?_
      refine ops_nil ?_
      refine then_n ?_
      refine ok_seq ?_
      refine ok_region ?_
      refine o_pure rfl rfl (pu_loadBoxA hT rfl rfl (ev_tmp rfl) rfl rfl) rfl rfl ?_
      refine o_pure rfl rfl (pu_move (.inl rfl) (ev_tmp rfl)) rfl rfl ?_
      refine o_store hT rfl rfl rfl rfl (ev_tmp rfl) (ev_tmp rfl) rfl rfl rfl rfl rfl rfl ?_
      refine o_pure rfl rfl (pu_move (.inr rfl) (ev_tmp rfl)) rfl rfl ?_
      refine o_pure rfl rfl (pu_move (.inr rfl) ev_bool) rfl rfl ?_
      refine ops_nil ?_
      refine then_n ?_
      rw [new_good c1 (nid_pos d2)]
      refine ok_weak (σ' := ⟨[(4, .box 4 0), (5, .one (.dv [] (.int .i64 (IntKind.i64.wrap (((((x)).getD (((((x)).length : Int)) - (1)).toNat default).1) + (1)))))), (6, .one (.dv [] (.bool (true))))], [(4, 70, [(.key 90001)])], [(90001, some (kcOf false (txsD (x ++ [(IntKind.i64.wrap ((x.getD ((x.length : Int) - 1).toNat default).1 + 1), y, (0 : Int), (0 : Int), ([] : List StoreT))]))))]⟩) (weak_sub ⟨rfl, rfl, rfl, trivial⟩ ⟨rfl, trivial⟩ ⟨rfl, trivial⟩ rfl) ?_
      refine ok_ret ?_
      refine fin3 (res_cell hT rfl rfl rfl rfl) (res_tmp rfl) (res_tmp rfl) rfl rfl rfl ?_
      first | exact ⟨rfl, rfl⟩ | skip
    · skip
      have d2 := of_decide_eq_false c2
      refine ok_skip ?_
      refine then_n ?_
      refine ok_seq ?_
      refine ok_regionH [0, 1, 2, 3, 4, 5, 6] (oB := [2, 4, 7]) (oK := [90001]) (by kernel_rfl) rfl rfl ?_
      refine d_take 0 rfl (by kernel_rfl) rfl rfl (pu_fieldBox hT rfl rfl rfl (ev_tmp rfl)) rfl rfl rfl rfl ?_
      refine d_take 1 rfl (by kernel_rfl) rfl rfl (pu_loadBox1 hT rfl rfl (ev_tmp rfl) rfl rfl) rfl rfl rfl rfl ?_
      refine d_take 2 rfl (by kernel_rfl) rfl rfl (pu_move (.inl rfl) (ev_tmp rfl)) rfl rfl rfl rfl ?_
      refine d_take 3 rfl (by kernel_rfl) rfl rfl (pu_move (.inl rfl) (ev_tmp rfl)) rfl rfl rfl rfl ?_
      refine d_callK 89999 4 rfl (by kernel_rfl) rfl rfl rfl Try.call108 (ok_impl_copyOps (x := y) (by omega)) (as_cons (ev_tmp rfl) (ag_one ac_dv) as_nil) rfl rfl rfl rfl rfl ?_
      refine d_take 5 rfl (by kernel_rfl) rfl rfl (pu_build hT hB rfl rfl rfl (bp_cons (ev_tmp rfl) rfl rfl rfl rfl rfl (bp_cons (ev_tmp rfl) rfl rfl rfl rfl rfl bp_nil))) rfl rfl rfl rfl ?_
      refine d_build1 (k := 39) (js := [90005]) 6 hT rfl (by kernel_rfl) rfl rfl rfl rfl rfl rfl rfl rfl rfl (ev_tmp rfl) rfl rfl (ow_cons' (ow_dv rfl) (ow_cons' (ow_key rfl) (ow_cons' (ow_dv rfl) (ow_cons' (ow_dv rfl) (ow_cons' (ow_nilc (e := 82) (sz := 3) rfl) ow_nil rfl) rfl) rfl) rfl) rfl) (by decide) (by decide) rfl rfl (by decide) ?_
      simp only [killT, killB, SV.kill, CV.kill, List.map_cons, List.map_nil, List.any_cons, List.any_nil, List.contains_cons, List.contains_nil, List.nil_append, List.cons_append, Nat.reduceBEq, Bool.or_false, Bool.false_or, Bool.or_true, Bool.true_or, cond_true, cond_false]
      refine d_chain [7, 8, 9] rfl rfl (by kernel_rfl) ?_
      refine o_appK (k := 90001) (j := 39) (cs := (x ++ [((1 : Int), y, (0 : Int), (0 : Int), ([] : List StoreT))]).flatMap eTx) (n := (x ++ [((1 : Int), y, (0 : Int), (0 : Int), ([] : List StoreT))]).length) hT rfl rfl rfl rfl rfl rfl rfl (ev_tmp rfl) rfl rfl rfl (ev_tmp rfl) rfl rfl (by decide) (by dsimp only [kcOf, KC.old]; omega) (by dsimp only [kcOf, KC.old]; omega) (by rw [List.length_append]; rfl) (by rw [List.flatMap_append]; rfl) ?_
      simp only [killT, killB, SV.kill, CV.kill, List.map_cons, List.map_nil, List.any_cons, List.any_nil, List.contains_cons, List.contains_nil, List.nil_append, List.cons_append, Nat.reduceBEq, Bool.or_false, Bool.false_or, Bool.or_true, Bool.true_or, cond_true, cond_false]
      refine o_pure rfl rfl (pu_fieldBox hT rfl rfl rfl (ev_tmp rfl)) rfl rfl ?_
      refine o_store hT rfl rfl rfl rfl (ev_tmp rfl) (ev_tmp rfl) rfl rfl rfl rfl rfl rfl ?_
      refine ops_nil ?_
      refine then_n ?_
      refine ok_seq ?_
      refine ok_region ?_
      refine o_pure rfl rfl (pu_loadBoxA hT rfl rfl (ev_tmp rfl) rfl rfl) rfl rfl ?_
      refine o_pure rfl rfl (pu_move (.inl rfl) (ev_tmp rfl)) rfl rfl ?_
      refine o_store hT rfl rfl rfl rfl (ev_tmp rfl) (ev_tmp rfl) rfl rfl rfl rfl rfl rfl ?_
      refine o_pure rfl rfl (pu_move (.inr rfl) (ev_tmp rfl)) rfl rfl ?_
      refine o_pure rfl rfl (pu_move (.inr rfl) ev_bool) rfl rfl ?_
      refine ops_nil ?_
      refine then_n ?_
      rw [new_good c1 (nid_zero d2)]
      refine ok_weak (σ' := ⟨[(4, .box 4 0), (5, .one (.dv [] (.int .i64 (1)))), (6, .one (.dv [] (.bool (true))))], [(4, 70, [(.key 90001)])], [(90001, some (kcOf false (txsD (x ++ [((1 : Int), y, (0 : Int), (0 : Int), ([] : List StoreT))]))))]⟩) (weak_sub ⟨rfl, rfl, rfl, trivial⟩ ⟨rfl, trivial⟩ ⟨rfl, trivial⟩ rfl) ?_
      refine ok_ret ?_
      refine fin3 (res_cell hT rfl rfl rfl rfl) (res_tmp rfl) (res_tmp rfl) rfl rfl rfl ?_
      first | exact ⟨rfl, rfl⟩ | skip
set_option maxRecDepth 100000 in
theorem ok_spec_NewTx {x : List TxT} {y : List OpT} (hb : wList wTx x ≤ 1099511627776) (hb2 : wList wOp y ≤ 1099511627776) : KFn Try.prog 43 [.agg [(.dv [] (txsD (x)))], .one (.dv [] (opsD (y)))] (.tup [(true, [(.key 90001)]), (false, [(.dv [] (.int .i64 ((newTx x y).2.1)))]), (false, [(.dv [] (.bool ((newTx x y).2.2)))])]) [(90001, some (kcOf false (txsD ((newTx x y).1))))] := by
  refine ⟨fn_intro Try.func43 rfl Try.ntmps43 Try.results43 rfl (fun C => ?_)⟩
  have hwl : wList wTx x = x.length + wSum wTx x := rfl
  refine ok_factA (x := .tmp 0) 0 (ev_tmp rfl) rfl (fun (f0_0 : ((x)).length ≤ 9223372036854775807) => ?_)
  refine ok_fact (x := .tmp 1) (ev_tmp rfl) (fun (f1 : ((y)).length ≤ 9223372036854775807) => ?_)
  refine ok_seq ?_
  refine ok_region ?_
  refine o_box rfl rfl rfl (ev_tmp rfl) rfl rfl rfl rfl ?_
  refine o_alloc hT rfl rfl rfl rfl rfl rfl ?_
  refine o_pure rfl rfl (pu_move (.inr rfl) (ev_int (inR_lit rfl))) rfl rfl ?_
  refine o_pure rfl rfl (pu_move (.inr rfl) ev_bool) rfl rfl ?_
  refine ops_nil ?_
  refine then_n ?_
  refine ok_seq ?_
  refine ok_region ?_
  refine o_pure rfl rfl (pu_loadBoxA hT rfl rfl (ev_tmp rfl) rfl rfl) rfl rfl ?_
  refine o_callK 89970 rfl rfl rfl Try.call104 (ok_spec_l10Copy (x := x) (by omega)) (as_cons (ev_tmp rfl) (ag_agg (ag_cons ac_dv ag_nil)) as_nil) rfl rfl rfl ?_
  refine o_alloc hT rfl rfl rfl rfl rfl rfl ?_
  refine o_store hT rfl rfl rfl rfl (ev_tmp rfl) (ev_tmp rfl) rfl rfl rfl rfl rfl rfl ?_
  refine ops_nil ?_
  refine then_n ?_
  refine ok_seq ?_
  refine ok_seq ?_
  refine ok_region ?_
  refine o_pure rfl rfl (pu_fieldBox hT rfl rfl rfl (ev_tmp rfl)) rfl rfl ?_
  refine o_pure rfl rfl (pu_loadBox1 hT rfl rfl (ev_tmp rfl) rfl rfl) rfl rfl ?_
  refine o_pure rfl rfl (pu_lenV hT rfl rfl (ev_tmp rfl)) rfl rfl ?_
  refine o_pure rfl rfl (pu_geq rfl (ev_tmp rfl) (ev_int (inR_lit rfl))) rfl rfl ?_
  refine o_pure rfl rfl (pu_move (.inl rfl) (ev_tmp rfl)) rfl rfl ?_
  refine o_pureG (gd_bool rfl rfl rfl rfl rfl) rfl (fun hg => pu_move (.inl rfl) (ev_tmp rfl)) rfl rfl ?_
  refine o_pureG (gd_bool rfl rfl rfl rfl rfl) rfl (fun hg => pu_lenV hT rfl rfl (ev_opt rfl hg)) rfl rfl ?_
  refine o_pureG (gd_bool rfl rfl rfl rfl rfl) rfl (fun hg => pu_gtr rfl (ev_opt rfl hg) (ev_int (inR_lit rfl))) rfl rfl ?_
  refine o_pure rfl rfl (pu_or rfl (ev_tmp rfl) (fun hb => (ev_opt rfl (beq_f hb)))) rfl rfl ?_
  refine ops_nil ?_
  refine then_n ?_
  refine ok_cond (ev_tmp rfl) (fun c1 => ?_) (fun c1 => ?_)
  · skip
    have hbad : (decide ((6 : Int) ≤ (x.length : Int)) || !areB y) = true := by
      cases h : decide ((6 : Int) < (y.length : Int)) with
      | true => rw [are_big (of_decide_eq_true h)]; simp
      | false => rw [h, Bool.or_false] at c1; rw [c1]; rfl
    refine ok_seq ?_
    refine ok_region ?_
    refine o_pure rfl rfl (pu_loadBoxA hT rfl rfl (ev_tmp rfl) rfl rfl) rfl rfl ?_
    refine o_store hT rfl rfl rfl rfl (ev_tmp rfl) (ev_tmp rfl) rfl rfl rfl rfl rfl rfl ?_
    refine o_pure rfl rfl (pu_move (.inr rfl) (ev_int (inR_lit rfl))) rfl rfl ?_
    refine o_pure rfl rfl (pu_move (.inr rfl) ev_bool) rfl rfl ?_
    refine ops_nil ?_
    refine then_n ?_
    rw [new_bad hbad]
    refine ok_weak (σ' := ⟨[(4, .box 4 0), (5, .one (.dv [] (.int .i64 (0)))), (6, .one (.dv [] (.bool (false))))], [(4, 70, [(.key 90001)])], [(90001, some (kcOf false (txsD (x))))]⟩) (weak_sub ⟨rfl, rfl, rfl, trivial⟩ ⟨rfl, trivial⟩ ⟨rfl, trivial⟩ rfl) ?_
    refine ok_ret ?_
    refine then_r ?_
    refine fin3 (res_cell hT rfl rfl rfl rfl) (res_tmp rfl) (res_tmp rfl) rfl rfl rfl ?_
    first | exact ⟨rfl, rfl⟩ | skip
  · skip
    refine ok_skip ?_
    refine then_n ?_
    refine ok_seq ?_
    refine ok_seq ?_
    refine ok_region ?_
    refine o_pure rfl rfl (pu_move (.inr rfl) (ev_int (inR_lit rfl))) rfl rfl ?_
    refine ops_nil ?_
    refine then_n ?_
    refine ok_block ?_
    refine ok_loop (ι := Nat) (fun zz => ⟨[(1, .one (.dv [] (opsD (y)))), (2, .box 2 0), (4, .box 4 0), (7, .box 7 0), (8, .one (.dv [] (.int .i64 ((zz : Int)))))], [(2, 70, [(.dv [] (txsD (x)))]), (4, 70, [.nil]), (7, 70, [(.key 90001)])], [(90001, some (kcOf false (txsD ((x)))))]⟩) (fun zz => zz ≤ y.length ∧ (y.take zz).all isOpB = true) (fun zz => y.length - zz) (0) ?_ (weak_sub ⟨rfl, rfl, rfl, rfl, rfl, trivial⟩ ⟨rfl, rfl, rfl, trivial⟩ ⟨rfl, trivial⟩ rfl) (fun zz hx => ?_)
    · exact ⟨Nat.zero_le _, rfl⟩
    obtain ⟨k, rfl⟩ : ∃ v, v = zz := ⟨_, rfl⟩
    replace hx : k ≤ y.length ∧ (y.take k).all isOpB = true := hx
    obtain ⟨hk, hall⟩ := hx
    show Ok _ _ _ _ _ (⟨[(1, .one (.dv [] (opsD (y)))), (2, .box 2 0), (4, .box 4 0), (7, .box 7 0), (8, .one (.dv [] (.int .i64 ((k : Int)))))], [(2, 70, [(.dv [] (txsD (x)))]), (4, 70, [.nil]), (7, 70, [(.key 90001)])], [(90001, some (kcOf false (txsD ((x)))))]⟩ : St)
    refine ok_seq ?_
    refine ok_seq ?_
    refine ok_region ?_
    refine o_pure rfl rfl (pu_move (.inl rfl) (ev_tmp rfl)) rfl rfl ?_
    refine o_pure rfl rfl (pu_move (.inl rfl) (ev_tmp rfl)) rfl rfl ?_
    refine o_pure rfl rfl (pu_lenV hT rfl rfl (ev_tmp rfl)) rfl rfl ?_
    refine o_pure rfl rfl (pu_lss rfl (ev_tmp rfl) (ev_tmp rfl)) rfl rfl ?_
    refine ops_nil ?_
    refine then_n ?_
    refine ok_cond (ev_tmp rfl) (fun c2 => ?_) (fun c2 => ?_)
    · skip
      have d2 := of_decide_eq_true c2
      refine ok_skip ?_
      refine then_n ?_
      refine ok_seq ?_
      refine ok_block ?_
      refine ok_seq ?_
      refine ok_region ?_
      refine o_pure rfl rfl (pu_move (.inl rfl) (ev_tmp rfl)) rfl rfl ?_
      refine o_pure rfl rfl (pu_move (.inl rfl) (ev_tmp rfl)) rfl rfl ?_
      refine o_pure rfl rfl (pu_indexD hT rfl rfl rfl (ev_tmp rfl) (ev_tmp rfl) (fun _ => rfl) (by first | omega | (simp only [Bool.and_eq_true, Bool.or_eq_true, Bool.or_eq_false_iff, Bool.and_eq_false_iff, Bool.not_eq_true', Bool.not_eq_false', beq_iff_eq, decide_eq_true_eq, decide_eq_false_iff_not] at hg; omega) | (have hh := of_decide_eq_true (beq_tt hg); omega) | (have hh := of_decide_eq_true (beq_tt (and_r hg)); omega)) (by first | omega | (simp only [Bool.and_eq_true, Bool.or_eq_true, Bool.or_eq_false_iff, Bool.and_eq_false_iff, Bool.not_eq_true', Bool.not_eq_false', beq_iff_eq, decide_eq_true_eq, decide_eq_false_iff_not] at hg; omega) | (have hh := of_decide_eq_true (beq_tt hg); omega) | (have hh := of_decide_eq_true (beq_tt (and_r hg)); omega))) rfl rfl ?_
      refine o_pure rfl rfl (pu_loadRefA hT rfl rfl (ev_tmp rfl) rfl) rfl rfl ?_
      refine o_call rfl rfl rfl Try.call60 (ok_spec_IsOp (x := (((y)).getD ((k : Int)).toNat default)) ) (as_cons (ev_tmp rfl) (ag_agg (ag_cons ac_dv (ag_cons ac_dv (ag_cons ac_dv (ag_cons ac_dv (ag_cons ac_dv (ag_cons ac_dv (ag_cons ac_dv ag_nil)))))))) as_nil) rfl rfl ?_
      refine o_pure rfl rfl (pu_not rfl (ev_tmp rfl)) rfl rfl ?_
      refine ops_nil ?_
      refine then_n ?_
      refine ok_cond (ev_tmp rfl) (fun c3 => ?_) (fun c3 => ?_)
      · skip
        have hbad : (decide ((6 : Int) ≤ (x.length : Int)) || !areB y) = true := by
          rw [are_no (k := k) (by omega) (by simpa using c3)]; simp
        refine ok_seq ?_
        refine ok_region ?_
        refine o_pure rfl rfl (pu_loadBoxA hT rfl rfl (ev_tmp rfl) rfl rfl) rfl rfl ?_
        refine o_store hT rfl rfl rfl rfl (ev_tmp rfl) (ev_tmp rfl) rfl rfl rfl rfl rfl rfl ?_
        refine o_pure rfl rfl (pu_move (.inr rfl) (ev_int (inR_lit rfl))) rfl rfl ?_
        refine o_pure rfl rfl (pu_move (.inr rfl) ev_bool) rfl rfl ?_
        refine ops_nil ?_
        refine then_n ?_
        rw [new_bad hbad]
        refine ok_weak (σ' := ⟨[(4, .box 4 0), (5, .one (.dv [] (.int .i64 (0)))), (6, .one (.dv [] (.bool (false))))], [(4, 70, [(.key 90001)])], [(90001, some (kcOf false (txsD (x))))]⟩) (weak_sub ⟨rfl, rfl, rfl, trivial⟩ ⟨rfl, trivial⟩ ⟨rfl, trivial⟩ rfl) ?_
        refine ok_ret ?_
        refine blk_r ?_
        refine then_r ?_
        refine then_r ?_
        refine blk_r ?_
        refine then_r ?_
        refine fin3 (res_cell hT rfl rfl rfl rfl) (res_tmp rfl) (res_tmp rfl) rfl rfl rfl ?_
        first | exact ⟨rfl, rfl⟩ | skip
      · skip
        refine ok_skip ?_
        refine blk_n ?_
        refine then_n ?_
        refine ok_region ?_
        refine o_pure rfl rfl (pu_move (.inl rfl) (ev_tmp rfl)) rfl rfl ?_
        refine o_pure rfl rfl (pu_addR rfl (ev_tmp rfl) (ev_int (inR_lit rfl)) (inR64 (by omega) (by omega))) rfl rfl ?_
        refine o_pure rfl rfl (pu_move (.inr rfl) (ev_tmp rfl)) rfl rfl ?_
        refine ops_nil ?_
        refine then_n ?_
        refine ⟨k + 1, ?_, ?_, weak_sub ⟨rfl, rfl, rfl, rfl, rfl, trivial⟩ ⟨rfl, rfl, rfl, trivial⟩ ⟨rfl, trivial⟩ rfl⟩
        · exact ⟨by omega, are_step hall (by omega) (by simpa using c3)⟩
        · omega
    · skip
      have d2 := of_decide_eq_false c2
      have hgood : (decide ((6 : Int) ≤ (x.length : Int)) || !areB y) = false := by
        have h1 := c1
        simp only [Bool.or_eq_false_iff, decide_eq_false_iff_not] at h1
        rw [are_yes hall (by omega), decide_eq_true (by omega : (y.length : Int) ≤ 6), decide_eq_false (by omega : ¬ (6 : Int) ≤ (x.length : Int))]; rfl
      refine ok_exit ?_
      refine then_e ?_
      refine then_e ?_
      refine blk_e rfl ?_
      refine then_n ?_
      refine ok_seq ?_
      refine ok_region ?_
      refine o_pure rfl rfl (pu_move (.inr rfl) (ev_int (inR_lit rfl))) rfl rfl ?_
      refine ops_nil ?_
      refine then_n ?_
      refine ok_seq ?_
      refine ok_seq ?_
      refine ok_region ?_
      refine o_pure rfl rfl (pu_fieldBox hT rfl rfl rfl (ev_tmp rfl)) rfl rfl ?_
      refine o_pure rfl rfl (pu_loadBox1 hT rfl rfl (ev_tmp rfl) rfl rfl) rfl rfl ?_
      refine o_pure rfl rfl (pu_lenV hT rfl rfl (ev_tmp rfl)) rfl rfl ?_
      refine o_pure rfl rfl (pu_gtr rfl (ev_tmp rfl) (ev_int (inR_lit rfl))) rfl rfl ?_
      refine ops_nil ?_
      refine then_n ?_
      refine ok_cond (ev_tmp rfl) (fun c4 => ?_) (fun c4 => ?_)
      · skip
        have d4 := of_decide_eq_true c4
        refine ok_region ?_
        refine o_pure rfl rfl (pu_fieldBox hT rfl rfl rfl (ev_tmp rfl)) rfl rfl ?_
        refine o_pure rfl rfl (pu_loadBox1 hT rfl rfl (ev_tmp rfl) rfl rfl) rfl rfl ?_
        refine o_pure rfl rfl (pu_fieldBox hT rfl rfl rfl (ev_tmp rfl)) rfl rfl ?_
        refine o_pure rfl rfl (pu_loadBox1 hT rfl rfl (ev_tmp rfl) rfl rfl) rfl rfl ?_
        refine o_pure rfl rfl (pu_lenV hT rfl rfl (ev_tmp rfl)) rfl rfl ?_
        refine o_pure rfl rfl (pu_subR rfl (ev_tmp rfl) (ev_int (inR_lit rfl)) (inR64 (by omega) (by omega))) rfl rfl ?_
        refine o_pure rfl rfl (pu_indexD hT rfl rfl rfl (ev_tmp rfl) (ev_tmp rfl) (fun _ => rfl) (by first | omega | (simp only [Bool.and_eq_true, Bool.or_eq_true, Bool.or_eq_false_iff, Bool.and_eq_false_iff, Bool.not_eq_true', Bool.not_eq_false', beq_iff_eq, decide_eq_true_eq, decide_eq_false_iff_not] at hg; omega) | (have hh := of_decide_eq_true (beq_tt hg); omega) | (have hh := of_decide_eq_true (beq_tt (and_r hg)); omega)) (by first | omega | (simp only [Bool.and_eq_true, Bool.or_eq_true, Bool.or_eq_false_iff, Bool.and_eq_false_iff, Bool.not_eq_true', Bool.not_eq_false', beq_iff_eq, decide_eq_true_eq, decide_eq_false_iff_not] at hg; omega) | (have hh := of_decide_eq_true (beq_tt hg); omega) | (have hh := of_decide_eq_true (beq_tt (and_r hg)); omega))) rfl rfl ?_
        refine o_pure rfl rfl (pu_fieldRef hT rfl rfl rfl (ev_tmp rfl)) rfl rfl ?_
        refine o_pure rfl rfl (pu_loadRef1 hT rfl rfl (ev_tmp rfl) rfl) rfl rfl ?_
        refine o_pure rfl rfl (pu_add rfl (ev_tmp rfl) (ev_int (inR_lit rfl))) rfl rfl ?_
        refine o_pure rfl rfl (pu_move (.inr rfl) (ev_tmp rfl)) rfl rfl ?_
        refine ops_nil ?_
        refine then_n ?_
        refine ok_seq ?_
        refine ok_regionH [0, 1, 2, 3, 4, 5, 6] (oB := [2, 4, 7]) (oK := [90001]) (by kernel_rfl) rfl rfl ?_
        refine d_take 0 rfl (by kernel_rfl) rfl rfl (pu_fieldBox hT rfl rfl rfl (ev_tmp rfl)) rfl rfl rfl rfl ?_
        refine d_take 1 rfl (by kernel_rfl) rfl rfl (pu_loadBox1 hT rfl rfl (ev_tmp rfl) rfl rfl) rfl rfl rfl rfl ?_
        refine d_take 2 rfl (by kernel_rfl) rfl rfl (pu_move (.inl rfl) (ev_tmp rfl)) rfl rfl rfl rfl ?_
        refine d_take 3 rfl (by kernel_rfl) rfl rfl (pu_move (.inl rfl) (ev_tmp rfl)) rfl rfl rfl rfl ?_
        refine d_callK 89999 4 rfl (by kernel_rfl) rfl rfl rfl Try.call105 (ok_spec_l9Copy (x := y) (by omega)) (as_cons (ev_tmp rfl) (ag_one ac_dv) as_nil) rfl rfl rfl rfl rfl ?_
        refine d_take 5 rfl (by kernel_rfl) rfl rfl (pu_build hT hB rfl rfl rfl (bp_cons (ev_tmp rfl) rfl rfl rfl rfl rfl (bp_cons (ev_tmp rfl) rfl rfl rfl rfl rfl bp_nil))) rfl rfl rfl rfl ?_
        refine d_build1 (k := 55) (js := [90005]) 6 hT rfl (by kernel_rfl) rfl rfl rfl rfl rfl rfl rfl rfl rfl (ev_tmp rfl) rfl rfl (ow_cons' (ow_dv rfl) (ow_cons' (ow_key rfl) (ow_cons' (ow_dv rfl) (ow_cons' (ow_dv rfl) (ow_cons' (ow_nilc (e := 82) (sz := 3) rfl) ow_nil rfl) rfl) rfl) rfl) rfl) (by decide) (by decide) rfl rfl (by decide) ?_
        simp only [killT, killB, SV.kill, CV.kill, List.map_cons, List.map_nil, List.any_cons, List.any_nil, List.contains_cons, List.contains_nil, List.nil_append, List.cons_append, Nat.reduceBEq, Bool.or_false, Bool.false_or, Bool.or_true, Bool.true_or, cond_true, cond_false]
        refine d_chain [7, 8, 9] rfl rfl (by kernel_rfl) ?_
        refine o_appK (k := 90001) (j := 55) (cs := (x ++ [(IntKind.i64.wrap ((x.getD ((x.length : Int) - 1).toNat default).1 + 1), y, (0 : Int), (0 : Int), ([] : List StoreT))]).flatMap eTx) (n := (x ++ [(IntKind.i64.wrap ((x.getD ((x.length : Int) - 1).toNat default).1 + 1), y, (0 : Int), (0 : Int), ([] : List StoreT))]).length) hT rfl rfl rfl rfl rfl rfl rfl (ev_tmp rfl) rfl rfl rfl (ev_tmp rfl) rfl rfl (by decide) (by dsimp only [kcOf, KC.old]; omega) (by dsimp only [kcOf, KC.old]; omega) (by rw [List.length_append]; rfl) (by rw [List.flatMap_append]; rfl) ?_
        simp only [killT, killB, SV.kill, CV.kill, List.map_cons, List.map_nil, List.any_cons, List.any_nil, List.contains_cons, List.contains_nil, List.nil_append, List.cons_append, Nat.reduceBEq, Bool.or_false, Bool.false_or, Bool.or_true, Bool.true_or, cond_true, cond_false]
        refine o_pure rfl rfl (pu_fieldBox hT rfl rfl rfl (ev_tmp rfl)) rfl rfl ?_
        refine o_store hT rfl rfl rfl rfl (ev_tmp rfl) (ev_tmp rfl) rfl rfl rfl rfl rfl rfl ?_
        refine ops_nil ?_
        refine then_n ?_
        refine ok_seq ?_
        refine ok_region ?_
        refine o_pure rfl rfl (pu_loadBoxA hT rfl rfl (ev_tmp rfl) rfl rfl) rfl rfl ?_
        refine o_pure rfl rfl (pu_move (.inl rfl) (ev_tmp rfl)) rfl rfl ?_
        refine o_store hT rfl rfl rfl rfl (ev_tmp rfl) (ev_tmp rfl) rfl rfl rfl rfl rfl rfl ?_
        refine o_pure rfl rfl (pu_move (.inr rfl) (ev_tmp rfl)) rfl rfl ?_
        refine o_pure rfl rfl (pu_move (.inr rfl) ev_bool) rfl rfl ?_
        refine ops_nil ?_
        refine then_n ?_
        rw [new_good hgood (nid_pos d4)]
        refine ok_weak (σ' := ⟨[(4, .box 4 0), (5, .one (.dv [] (.int .i64 (IntKind.i64.wrap (((((x)).getD (((((x)).length : Int)) - (1)).toNat default).1) + (1)))))), (6, .one (.dv [] (.bool (true))))], [(4, 70, [(.key 90001)])], [(90001, some (kcOf false (txsD (x ++ [(IntKind.i64.wrap ((x.getD ((x.length : Int) - 1).toNat default).1 + 1), y, (0 : Int), (0 : Int), ([] : List StoreT))]))))]⟩) (weak_sub ⟨rfl, rfl, rfl, trivial⟩ ⟨rfl, trivial⟩ ⟨rfl, trivial⟩ rfl) ?_
        refine ok_ret ?_
        refine fin3 (res_cell hT rfl rfl rfl rfl) (res_tmp rfl) (res_tmp rfl) rfl rfl rfl ?_
        first | exact ⟨rfl, rfl⟩ | skip
      · skip
        have d4 := of_decide_eq_false c4
        refine ok_skip ?_
        refine then_n ?_
        refine ok_seq ?_
        refine ok_regionH [0, 1, 2, 3, 4, 5, 6] (oB := [2, 4, 7]) (oK := [90001]) (by kernel_rfl) rfl rfl ?_
        refine d_take 0 rfl (by kernel_rfl) rfl rfl (pu_fieldBox hT rfl rfl rfl (ev_tmp rfl)) rfl rfl rfl rfl ?_
        refine d_take 1 rfl (by kernel_rfl) rfl rfl (pu_loadBox1 hT rfl rfl (ev_tmp rfl) rfl rfl) rfl rfl rfl rfl ?_
        refine d_take 2 rfl (by kernel_rfl) rfl rfl (pu_move (.inl rfl) (ev_tmp rfl)) rfl rfl rfl rfl ?_
        refine d_take 3 rfl (by kernel_rfl) rfl rfl (pu_move (.inl rfl) (ev_tmp rfl)) rfl rfl rfl rfl ?_
        refine d_callK 89999 4 rfl (by kernel_rfl) rfl rfl rfl Try.call105 (ok_spec_l9Copy (x := y) (by omega)) (as_cons (ev_tmp rfl) (ag_one ac_dv) as_nil) rfl rfl rfl rfl rfl ?_
        refine d_take 5 rfl (by kernel_rfl) rfl rfl (pu_build hT hB rfl rfl rfl (bp_cons (ev_tmp rfl) rfl rfl rfl rfl rfl (bp_cons (ev_tmp rfl) rfl rfl rfl rfl rfl bp_nil))) rfl rfl rfl rfl ?_
        refine d_build1 (k := 55) (js := [90005]) 6 hT rfl (by kernel_rfl) rfl rfl rfl rfl rfl rfl rfl rfl rfl (ev_tmp rfl) rfl rfl (ow_cons' (ow_dv rfl) (ow_cons' (ow_key rfl) (ow_cons' (ow_dv rfl) (ow_cons' (ow_dv rfl) (ow_cons' (ow_nilc (e := 82) (sz := 3) rfl) ow_nil rfl) rfl) rfl) rfl) rfl) (by decide) (by decide) rfl rfl (by decide) ?_
        simp only [killT, killB, SV.kill, CV.kill, List.map_cons, List.map_nil, List.any_cons, List.any_nil, List.contains_cons, List.contains_nil, List.nil_append, List.cons_append, Nat.reduceBEq, Bool.or_false, Bool.false_or, Bool.or_true, Bool.true_or, cond_true, cond_false]
        refine d_chain [7, 8, 9] rfl rfl (by kernel_rfl) ?_
        refine o_appK (k := 90001) (j := 55) (cs := (x ++ [((1 : Int), y, (0 : Int), (0 : Int), ([] : List StoreT))]).flatMap eTx) (n := (x ++ [((1 : Int), y, (0 : Int), (0 : Int), ([] : List StoreT))]).length) hT rfl rfl rfl rfl rfl rfl rfl (ev_tmp rfl) rfl rfl rfl (ev_tmp rfl) rfl rfl (by decide) (by dsimp only [kcOf, KC.old]; omega) (by dsimp only [kcOf, KC.old]; omega) (by rw [List.length_append]; rfl) (by rw [List.flatMap_append]; rfl) ?_
        simp only [killT, killB, SV.kill, CV.kill, List.map_cons, List.map_nil, List.any_cons, List.any_nil, List.contains_cons, List.contains_nil, List.nil_append, List.cons_append, Nat.reduceBEq, Bool.or_false, Bool.false_or, Bool.or_true, Bool.true_or, cond_true, cond_false]
        refine o_pure rfl rfl (pu_fieldBox hT rfl rfl rfl (ev_tmp rfl)) rfl rfl ?_
        refine o_store hT rfl rfl rfl rfl (ev_tmp rfl) (ev_tmp rfl) rfl rfl rfl rfl rfl rfl ?_
        refine ops_nil ?_
        refine then_n ?_
        refine ok_seq ?_
        refine ok_region ?_
        refine o_pure rfl rfl (pu_loadBoxA hT rfl rfl (ev_tmp rfl) rfl rfl) rfl rfl ?_
        refine o_pure rfl rfl (pu_move (.inl rfl) (ev_tmp rfl)) rfl rfl ?_
        refine o_store hT rfl rfl rfl rfl (ev_tmp rfl) (ev_tmp rfl) rfl rfl rfl rfl rfl rfl ?_
        refine o_pure rfl rfl (pu_move (.inr rfl) (ev_tmp rfl)) rfl rfl ?_
        refine o_pure rfl rfl (pu_move (.inr rfl) ev_bool) rfl rfl ?_
        refine ops_nil ?_
        refine then_n ?_
        rw [new_good hgood (nid_zero d4)]
        refine ok_weak (σ' := ⟨[(4, .box 4 0), (5, .one (.dv [] (.int .i64 (1)))), (6, .one (.dv [] (.bool (true))))], [(4, 70, [(.key 90001)])], [(90001, some (kcOf false (txsD (x ++ [((1 : Int), y, (0 : Int), (0 : Int), ([] : List StoreT))]))))]⟩) (weak_sub ⟨rfl, rfl, rfl, trivial⟩ ⟨rfl, trivial⟩ ⟨rfl, trivial⟩ rfl) ?_
        refine ok_ret ?_
        refine fin3 (res_cell hT rfl rfl rfl rfl) (res_tmp rfl) (res_tmp rfl) rfl rfl rfl ?_
        first | exact ⟨rfl, rfl⟩ | skip
set_option maxRecDepth 100000 in
theorem ok_laws_FnExactNewTx {x0 : List TxT} {x1 : List (OpT)}  : PFn Try.prog 10 [.agg [(.dv [] (txsD (x0)))], .one (.dv [] (opsD (x1)))] (.one (.dv [] (.bool (true)))) := by
  refine ⟨fn_intro Try.func10 rfl Try.ntmps10 Try.results10 rfl (fun C => ?_)⟩
  have hnw := newTx_w x0 x1
  have hwq : wTxQueue x0 = wList wTx x0 := rfl
  have hwn : wTxQueue (newTx x0 x1).1 = wList wTx (newTx x0 x1).1 := rfl
  have : wTxQueue x0 = wList wTx (x0) := rfl
  have : wList wTx (x0) = (x0).length + wSum wTx (x0) := rfl
  have : wList wOp x1 = x1.length + wSum wOp x1 := rfl
  have := wSum_bound cTx_le (x0)
  have := wSum_bound cOp_le (x1)
  have : wTxQueue (newTx x0 x1).1 = wList wTx ((newTx x0 x1).1) := rfl
  have : wList wTx ((newTx x0 x1).1) = ((newTx x0 x1).1).length + wSum wTx ((newTx x0 x1).1) := rfl
  have := wSum_bound cTx_le ((newTx x0 x1).1)
  refine ok_factA (x := .tmp 0) 0 (ev_tmp rfl) rfl (fun (f0_0 : ((x0)).length ≤ 9223372036854775807) => ?_)
  refine ok_fact (x := .tmp 1) (ev_tmp rfl) (fun (f1 : ((x1)).length ≤ 9223372036854775807) => ?_)
  refine ok_seq ?_
  refine ok_region ?_
  refine o_box rfl rfl rfl (ev_tmp rfl) rfl rfl rfl rfl ?_
  refine o_pure rfl rfl (pu_move (.inr rfl) ev_bool) rfl rfl ?_
  refine ops_nil ?_
  refine then_n ?_
  refine ok_seq ?_
  refine ok_region ?_
  refine o_pure rfl rfl (pu_move (.inr rfl) (ev_int (inR_lit rfl))) rfl rfl ?_
  refine ops_nil ?_
  refine then_n ?_
  refine ok_seq ?_
  refine ok_region ?_
  refine o_pure rfl rfl (pu_loadBoxA hT rfl rfl (ev_tmp rfl) rfl rfl) rfl rfl ?_
  refine o_pure rfl rfl (pu_move (.inl rfl) (ev_tmp rfl)) rfl rfl ?_
  refine o_call rfl rfl rfl Try.call42 (ok_laws_szTxQueue (by omega) (by omega)) (as_cons (ev_tmp rfl) (ag_agg (ag_cons ac_dv ag_nil)) (as_cons (ev_tmp rfl) (ag_one ac_dv) as_nil)) rfl rfl ?_
  refine o_pure rfl rfl (pu_move (.inr rfl) (ev_tmp rfl)) rfl rfl ?_
  refine ops_nil ?_
  refine then_n ?_
  refine ok_seq ?_
  refine ok_seq ?_
  refine ok_region ?_
  refine o_pure rfl rfl (pu_move (.inl rfl) (ev_tmp rfl)) rfl rfl ?_
  refine o_pure rfl rfl (pu_lss rfl (ev_tmp rfl) (ev_int (inR_lit rfl))) rfl rfl ?_
  refine ops_nil ?_
  refine then_n ?_
  refine ok_cond (ev_tmp rfl) (fun c1 => ?_) (fun c1 => ?_)
  · skip
    have d1 := of_decide_eq_true c1
    first | have q1 := szR_n d1 | skip
    refine ok_seq ?_
    refine ok_region ?_
    refine o_pure rfl rfl (pu_move (.inr rfl) ev_bool) rfl rfl ?_
    refine ops_nil ?_
    refine then_n ?_
    refine ok_ret ?_
    refine then_r ?_
    refine fin1 (res_tmp rfl) (eqB ?_)
    first | rfl | (exfalso; omega) | (exfalso; simp_all; done) | (exfalso; simp_all; omega)
  · skip
    have d1 := of_decide_eq_false c1
    first | have q1 := szR_nn d1 | skip
    refine ok_skip ?_
    refine then_n ?_
    refine ok_seq ?_
    refine ok_region ?_
    refine o_pure rfl rfl (pu_move (.inl rfl) (ev_tmp rfl)) rfl rfl ?_
    refine o_pure rfl rfl (pu_move (.inl rfl) (ev_tmp rfl)) rfl rfl ?_
    refine o_call rfl rfl rfl Try.call21 (ok_laws_szOpS (by omega) (by omega)) (as_cons (ev_tmp rfl) (ag_one ac_dv) (as_cons (ev_tmp rfl) (ag_one ac_dv) as_nil)) rfl rfl ?_
    refine o_pure rfl rfl (pu_move (.inr rfl) (ev_tmp rfl)) rfl rfl ?_
    refine ops_nil ?_
    refine then_n ?_
    refine ok_seq ?_
    refine ok_seq ?_
    refine ok_region ?_
    refine o_pure rfl rfl (pu_move (.inl rfl) (ev_tmp rfl)) rfl rfl ?_
    refine o_pure rfl rfl (pu_lss rfl (ev_tmp rfl) (ev_int (inR_lit rfl))) rfl rfl ?_
    refine ops_nil ?_
    refine then_n ?_
    refine ok_cond (ev_tmp rfl) (fun c2 => ?_) (fun c2 => ?_)
    · skip
      have d2 := of_decide_eq_true c2
      first | have q2 := szR_n d2 | skip
      refine ok_seq ?_
      refine ok_region ?_
      refine o_pure rfl rfl (pu_move (.inr rfl) ev_bool) rfl rfl ?_
      refine ops_nil ?_
      refine then_n ?_
      refine ok_ret ?_
      refine then_r ?_
      refine fin1 (res_tmp rfl) (eqB ?_)
      first | rfl | (exfalso; omega) | (exfalso; simp_all; done) | (exfalso; simp_all; omega)
    · skip
      have d2 := of_decide_eq_false c2
      first | have q2 := szR_nn d2 | skip
      refine ok_skip ?_
      refine then_n ?_
      refine ok_seq ?_
      refine ok_region ?_
      refine o_pure rfl rfl (pu_loadBoxA hT rfl rfl (ev_tmp rfl) rfl rfl) rfl rfl ?_
      refine o_callK 32000 rfl rfl rfl Try.call44 (ok_laws_toTxQueue (by first | omega | (simp only [wKey, wField, wRecord, wItem, wStore, wIndexDef, wDatabase, wOp, wTx, wTxQueue] at hb ⊢; omega) | (have hq := hw (by omega); omega))) (as_cons (ev_tmp rfl) (ag_agg (ag_cons ac_dv ag_nil)) as_nil) rfl rfl rfl ?_
      refine o_pure rfl rfl (pu_move (.inl rfl) (ev_tmp rfl)) rfl rfl ?_
      refine o_callK 34000 rfl rfl rfl Try.call23 (ok_laws_toOpS (by first | omega | (simp only [wKey, wField, wRecord, wItem, wStore, wIndexDef, wDatabase, wOp, wTx, wTxQueue] at hb ⊢; omega) | (have hq := hw (by omega); omega))) (as_cons (ev_tmp rfl) (ag_one ac_dv) as_nil) rfl rfl rfl ?_
      refine o_callK 35000 rfl rfl rfl Try.call43 (ok_spec_NewTx (by omega) (by omega)) (as_cons (ev_tmp rfl) (ag_agg (ag_cons (ac_key' rfl rfl) ag_nil)) (as_cons (ev_tmp rfl) (ag_one (ac_key' rfl rfl)) as_nil)) rfl rfl rfl ?_
      refine o_pure rfl rfl (pu_move (.inl rfl) (ev_tmp rfl)) rfl rfl ?_
      refine o_pure rfl rfl (pu_extractA rfl (ev_tmp rfl) rfl) rfl rfl ?_
      refine o_pure rfl rfl (pu_extract1 rfl (ev_tmp rfl) rfl) rfl rfl ?_
      refine o_pure rfl rfl (pu_extract1 rfl (ev_tmp rfl) rfl) rfl rfl ?_
      refine o_alloc hT rfl rfl rfl rfl rfl rfl ?_
      refine o_store hT rfl rfl rfl rfl (ev_tmp rfl) (ev_tmp rfl) rfl rfl rfl rfl rfl rfl ?_
      refine o_pure rfl rfl (pu_move (.inr rfl) (ev_tmp rfl)) rfl rfl ?_
      refine o_pure rfl rfl (pu_move (.inr rfl) (ev_tmp rfl)) rfl rfl ?_
      refine ops_nil ?_
      refine then_n ?_
      refine ok_seq ?_
      refine ok_region ?_
      refine o_pure rfl rfl (pu_loadBoxA hT rfl rfl (ev_tmp rfl) rfl rfl) rfl rfl ?_
      refine o_callK 40000 rfl rfl rfl Try.call44 (ok_laws_toTxQueue (by first | omega | (simp only [wKey, wField, wRecord, wItem, wStore, wIndexDef, wDatabase, wOp, wTx, wTxQueue] at hb ⊢; omega) | (have hq := hw (by omega); omega))) (as_cons (ev_tmp rfl) (ag_agg (ag_cons ac_dv ag_nil)) as_nil) rfl rfl rfl ?_
      refine o_alloc hT rfl rfl rfl rfl rfl rfl ?_
      refine o_store hT rfl rfl rfl rfl (ev_tmp rfl) (ev_tmp rfl) rfl rfl rfl rfl rfl rfl ?_
      refine ops_nil ?_
      refine then_n ?_
      refine ok_seq ?_
      refine ok_region ?_
      refine o_pure rfl rfl (pu_move (.inl rfl) (ev_tmp rfl)) rfl rfl ?_
      refine o_callK 42000 rfl rfl rfl Try.call23 (ok_laws_toOpS (by first | omega | (simp only [wKey, wField, wRecord, wItem, wStore, wIndexDef, wDatabase, wOp, wTx, wTxQueue] at hb ⊢; omega) | (have hq := hw (by omega); omega))) (as_cons (ev_tmp rfl) (ag_one ac_dv) as_nil) rfl rfl rfl ?_
      refine o_pure rfl rfl (pu_move (.inr rfl) (ev_tmp rfl)) rfl rfl ?_
      refine ops_nil ?_
      refine then_n ?_
      refine ok_seq ?_
      refine ok_region ?_
      refine o_pure rfl rfl (pu_loadBoxA hT rfl rfl (ev_tmp rfl) rfl rfl) rfl rfl ?_
      refine o_pure rfl rfl (pu_move (.inl rfl) (ev_tmp rfl)) rfl rfl ?_
      refine o_callK 46000 rfl rfl rfl Try.call45 (ok_impl_NewTx (by omega) (by omega)) (as_cons (ev_tmp rfl) (ag_agg (ag_cons (ac_key' rfl rfl) ag_nil)) (as_cons (ev_tmp rfl) (ag_one (ac_key' rfl rfl)) as_nil)) rfl rfl rfl ?_
      refine o_pure rfl rfl (pu_move (.inl rfl) (ev_tmp rfl)) rfl rfl ?_
      refine o_pure rfl rfl (pu_extractA rfl (ev_tmp rfl) rfl) rfl rfl ?_
      refine o_pure rfl rfl (pu_extract1 rfl (ev_tmp rfl) rfl) rfl rfl ?_
      refine o_pure rfl rfl (pu_extract1 rfl (ev_tmp rfl) rfl) rfl rfl ?_
      refine o_alloc hT rfl rfl rfl rfl rfl rfl ?_
      refine o_store hT rfl rfl rfl rfl (ev_tmp rfl) (ev_tmp rfl) rfl rfl rfl rfl rfl rfl ?_
      refine o_pure rfl rfl (pu_move (.inr rfl) (ev_tmp rfl)) rfl rfl ?_
      refine o_pure rfl rfl (pu_move (.inr rfl) (ev_tmp rfl)) rfl rfl ?_
      refine ops_nil ?_
      refine then_n ?_
      refine ok_seq ?_
      refine ok_seq ?_
      refine ok_region ?_
      refine o_pure rfl rfl (pu_loadBoxA hT rfl rfl (ev_tmp rfl) rfl rfl) rfl rfl ?_
      refine o_pure rfl rfl (pu_loadBoxA hT rfl rfl (ev_tmp rfl) rfl rfl) rfl rfl ?_
      refine o_call rfl rfl rfl Try.call46 ok_laws_eqTxQueue (as_cons (ev_tmp rfl) (ag_agg (ag_cons (ac_key' rfl rfl) ag_nil)) (as_cons (ev_tmp rfl) (ag_agg (ag_cons (ac_key' rfl rfl) ag_nil)) as_nil)) rfl rfl ?_
      refine o_pure rfl rfl (pu_not rfl (ev_tmp rfl)) rfl rfl ?_
      refine o_pure rfl rfl (pu_move (.inl rfl) (ev_tmp rfl)) rfl rfl ?_
      refine o_pureG (gd_bool rfl rfl rfl rfl rfl) rfl (fun hg => pu_move (.inl rfl) (ev_tmp rfl)) rfl rfl ?_
      refine o_pureG (gd_bool rfl rfl rfl rfl rfl) rfl (fun hg => pu_move (.inl rfl) (ev_tmp rfl)) rfl rfl ?_
      refine o_pureG (gd_bool rfl rfl rfl rfl rfl) rfl (fun hg => pu_neq rfl (ev_opt rfl hg) (ev_opt rfl hg)) rfl rfl ?_
      refine o_pure rfl rfl (pu_or rfl (ev_tmp rfl) (fun hb => (ev_opt rfl (beq_f hb)))) rfl rfl ?_
      refine o_pure rfl rfl (pu_move (.inl rfl) (ev_tmp rfl)) rfl rfl ?_
      refine o_pureG (gd_bool rfl rfl rfl rfl rfl) rfl (fun hg => pu_move (.inl rfl) (ev_tmp rfl)) rfl rfl ?_
      refine o_pureG (gd_bool rfl rfl rfl rfl rfl) rfl (fun hg => pu_move (.inl rfl) (ev_tmp rfl)) rfl rfl ?_
      refine o_pureG (gd_bool rfl rfl rfl rfl rfl) rfl (fun hg => pu_bneq hT rfl rfl (ev_opt rfl hg) (ev_opt rfl hg)) rfl rfl ?_
      refine o_pure rfl rfl (pu_or rfl (ev_tmp rfl) (fun hb => (ev_opt rfl (beq_f hb)))) rfl rfl ?_
      refine ops_nil ?_
      refine then_n ?_
      refine ok_cond (ev_tmp rfl) (fun c3 => ?_) (fun c3 => ?_)
      · skip
        refine ok_seq ?_
        refine ok_region ?_
        refine o_pure rfl rfl (pu_move (.inr rfl) ev_bool) rfl rfl ?_
        refine ops_nil ?_
        refine then_n ?_
        refine ok_ret ?_
        refine then_r ?_
        refine fin1 (res_tmp rfl) (eqB ?_)
        first | rfl | (exfalso; omega) | (exfalso; simp_all; done) | (exfalso; simp_all; omega)
      · skip
        refine ok_skip ?_
        refine then_n ?_
        refine ok_seq ?_
        refine ok_seq ?_
        refine ok_regionD (oB := [2, 6, 9, 11]) (oK := [34007, 38007, 42007, 46007, 125001, 136001]) (by kernel_rfl) rfl rfl ?_
        refine d_take 0 rfl (by kernel_rfl) rfl rfl (pu_loadBoxA hT rfl rfl (ev_tmp rfl) rfl rfl) rfl rfl rfl rfl ?_
        refine d_take 1 rfl (by kernel_rfl) rfl rfl (pu_loadBoxA hT rfl rfl (ev_tmp rfl) rfl rfl) rfl rfl rfl rfl ?_
        refine d_callK 66000 2 rfl (by kernel_rfl) rfl rfl rfl Try.call44 (ok_laws_toTxQueue (by first | omega | (simp only [wKey, wField, wRecord, wItem, wStore, wIndexDef, wDatabase, wOp, wTx, wTxQueue] at hb ⊢; omega) | (have hq := hw (by omega); omega))) (as_cons (ev_tmp rfl) (ag_agg (ag_cons ac_dv ag_nil)) as_nil) rfl rfl rfl rfl rfl ?_
        refine d_call 3 rfl (by kernel_rfl) rfl rfl rfl Try.call46 ok_laws_eqTxQueue (as_cons (ev_tmp rfl) (ag_agg (ag_cons (ac_key' rfl rfl) ag_nil)) (as_cons (ev_tmp rfl) (ag_agg (ag_cons (ac_key' rfl rfl) ag_nil)) as_nil)) rfl rfl rfl rfl ?_
        refine d_take 4 rfl (by kernel_rfl) rfl rfl (pu_not rfl (ev_tmp rfl)) rfl rfl rfl rfl ?_
        refine d_done (by kernel_rfl) ?_
        refine then_n ?_
        refine ok_cond (ev_tmp rfl) (fun c4 => ?_) (fun c4 => ?_)
        · skip
          refine ok_seq ?_
          refine ok_region ?_
          refine o_pure rfl rfl (pu_move (.inr rfl) ev_bool) rfl rfl ?_
          refine ops_nil ?_
          refine then_n ?_
          refine ok_ret ?_
          refine then_r ?_
          refine fin1 (res_tmp rfl) (eqB ?_)
          first | rfl | (exfalso; omega) | (exfalso; simp_all; done) | (exfalso; simp_all; omega)
        · skip
          refine ok_skip ?_
          refine then_n ?_
          refine ok_seq ?_
          refine ok_seq ?_
          refine ok_region ?_
          refine o_pure rfl rfl (pu_move (.inl rfl) (ev_tmp rfl)) rfl rfl ?_
          refine o_pure rfl rfl (pu_move (.inl rfl) (ev_tmp rfl)) rfl rfl ?_
          refine o_callK 71000 rfl rfl rfl Try.call23 (ok_laws_toOpS (by first | omega | (simp only [wKey, wField, wRecord, wItem, wStore, wIndexDef, wDatabase, wOp, wTx, wTxQueue] at hb ⊢; omega) | (have hq := hw (by omega); omega))) (as_cons (ev_tmp rfl) (ag_one ac_dv) as_nil) rfl rfl rfl ?_
          refine o_call rfl rfl rfl Try.call26 ok_laws_eqOpS (as_cons (ev_tmp rfl) (ag_one (ac_key' rfl rfl)) (as_cons (ev_tmp rfl) (ag_one (ac_key' rfl rfl)) as_nil)) rfl rfl ?_
          refine o_pure rfl rfl (pu_not rfl (ev_tmp rfl)) rfl rfl ?_
          refine ops_nil ?_
          refine then_n ?_
          refine ok_cond (ev_tmp rfl) (fun c5 => ?_) (fun c5 => ?_)
          · skip
            refine ok_seq ?_
            refine ok_region ?_
            refine o_pure rfl rfl (pu_move (.inr rfl) ev_bool) rfl rfl ?_
            refine ops_nil ?_
            refine then_n ?_
            refine ok_ret ?_
            refine then_r ?_
            refine fin1 (res_tmp rfl) (eqB ?_)
            first | rfl | (exfalso; omega) | (exfalso; simp_all; done) | (exfalso; simp_all; omega)
          · skip
            refine ok_skip ?_
            refine then_n ?_
            refine ok_seq ?_
            refine ok_region ?_
            refine o_pure rfl rfl (pu_move (.inr rfl) (ev_int (inR_lit rfl))) rfl rfl ?_
            refine ops_nil ?_
            refine then_n ?_
            refine ok_seq ?_
            refine ok_region ?_
            refine o_pure rfl rfl (pu_loadBoxA hT rfl rfl (ev_tmp rfl) rfl rfl) rfl rfl ?_
            refine o_pure rfl rfl (pu_move (.inl rfl) (ev_tmp rfl)) rfl rfl ?_
            refine o_callW [(0, 46007, ⟨false, _, _, _, _⟩, ⟨false, _, _, _, _⟩)] rfl rfl rfl Try.call47 (ok_laws_markTxQueue (x := x0) (by omega) (by omega)) ⟨rfl, trivial⟩ rfl (aw_cons (ev_tmp rfl) (aw_agg (awc_cons (awc_key rfl) awc_nil)) (aw_cons (ev_tmp rfl) (aw_one (awc_dv rfl)) aw_nil)) rfl rfl ?_
            simp only [killT, killB, SV.kill, CV.kill, List.map_cons, List.map_nil, List.any_cons, List.any_nil, List.contains_cons, List.contains_nil, List.nil_append, List.cons_append, Nat.reduceBEq, Bool.or_false, Bool.false_or, Bool.or_true, Bool.true_or, cond_true, cond_false]
            refine o_pure rfl rfl (pu_move (.inr rfl) (ev_tmp rfl)) rfl rfl ?_
            refine ops_nil ?_
            refine then_n ?_
            refine ok_seq ?_
            refine ok_region ?_
            refine o_pure rfl rfl (pu_move (.inl rfl) (ev_tmp rfl)) rfl rfl ?_
            refine o_pure rfl rfl (pu_move (.inl rfl) (ev_tmp rfl)) rfl rfl ?_
            refine o_callW [(0, 42007, ⟨false, _, _, _, _⟩, ⟨false, _, _, _, _⟩)] rfl rfl rfl Try.call27 (ok_laws_markOpS (x := x1) (by omega) (by omega)) ⟨rfl, trivial⟩ rfl (aw_cons (ev_tmp rfl) (aw_one (awc_key rfl)) (aw_cons (ev_tmp rfl) (aw_one (awc_dv rfl)) aw_nil)) rfl rfl ?_
            simp only [killT, killB, SV.kill, CV.kill, List.map_cons, List.map_nil, List.any_cons, List.any_nil, List.contains_cons, List.contains_nil, List.nil_append, List.cons_append, Nat.reduceBEq, Bool.or_false, Bool.false_or, Bool.or_true, Bool.true_or, cond_true, cond_false]
            refine o_pure rfl rfl (pu_move (.inr rfl) (ev_tmp rfl)) rfl rfl ?_
            refine ops_nil ?_
            refine then_n ?_
            refine ok_seq ?_
            refine ok_seq ?_
            refine ok_region ?_
            refine o_pure rfl rfl (pu_move (.inl rfl) (ev_tmp rfl)) rfl rfl ?_
            refine o_pure rfl rfl (pu_lss rfl (ev_tmp rfl) (ev_int (inR_lit rfl))) rfl rfl ?_
            refine o_pure rfl rfl (pu_move (.inl rfl) (ev_tmp rfl)) rfl rfl ?_
            refine o_pureG (gd_bool rfl rfl rfl rfl rfl) rfl (fun hg => pu_loadBoxA hT rfl rfl (ev_tmp rfl) rfl rfl) rfl rfl ?_
            refine o_pureG (gd_bool rfl rfl rfl rfl rfl) rfl (fun hg => pu_loadBoxA hT rfl rfl (ev_tmp rfl) rfl rfl) rfl rfl ?_
            refine o_callG (gd_bool rfl rfl rfl rfl rfl) rfl rfl Try.call46 ok_laws_eqTxQueue (fun hg => (as_cons (ev_opt rfl hg) (ag_agg (ag_cons (ac_key' rfl rfl) ag_nil)) (as_cons (ev_opt rfl hg) (ag_agg (ag_cons (ac_key' rfl rfl) ag_nil)) as_nil))) rfl rfl ?_
            refine o_pureG (gd_bool rfl rfl rfl rfl rfl) rfl (fun hg => pu_not rfl (ev_opt rfl hg)) rfl rfl ?_
            refine o_pure rfl rfl (pu_or rfl (ev_tmp rfl) (fun hb => (ev_opt rfl (beq_f hb)))) rfl rfl ?_
            refine o_pure rfl rfl (pu_move (.inl rfl) (ev_tmp rfl)) rfl rfl ?_
            refine o_pureG (gd_bool rfl rfl rfl rfl rfl) rfl (fun hg => pu_move (.inl rfl) (ev_tmp rfl)) rfl rfl ?_
            refine o_pureG (gd_bool rfl rfl rfl rfl rfl) rfl (fun hg => pu_move (.inl rfl) (ev_tmp rfl)) rfl rfl ?_
            refine o_pureG (gd_bool rfl rfl rfl rfl rfl) rfl (fun hg => pu_neq rfl (ev_opt rfl hg) (ev_opt rfl hg)) rfl rfl ?_
            refine o_pure rfl rfl (pu_or rfl (ev_tmp rfl) (fun hb => (ev_opt rfl (beq_f hb)))) rfl rfl ?_
            refine o_pure rfl rfl (pu_move (.inl rfl) (ev_tmp rfl)) rfl rfl ?_
            refine o_pureG (gd_bool rfl rfl rfl rfl rfl) rfl (fun hg => pu_move (.inl rfl) (ev_tmp rfl)) rfl rfl ?_
            refine o_pureG (gd_bool rfl rfl rfl rfl rfl) rfl (fun hg => pu_move (.inl rfl) (ev_tmp rfl)) rfl rfl ?_
            refine o_pureG (gd_bool rfl rfl rfl rfl rfl) rfl (fun hg => pu_bneq hT rfl rfl (ev_opt rfl hg) (ev_opt rfl hg)) rfl rfl ?_
            refine o_pure rfl rfl (pu_or rfl (ev_tmp rfl) (fun hb => (ev_opt rfl (beq_f hb)))) rfl rfl ?_
            refine ops_nil ?_
            refine then_n ?_
            refine ok_cond (ev_tmp rfl) (fun c6 => ?_) (fun c6 => ?_)
            · skip
              refine ok_seq ?_
              refine ok_region ?_
              refine o_pure rfl rfl (pu_move (.inr rfl) ev_bool) rfl rfl ?_
              refine ops_nil ?_
              refine then_n ?_
              refine ok_ret ?_
              refine then_r ?_
              refine fin1 (res_tmp rfl) (eqB ?_)
              first | rfl | (exfalso; omega) | (exfalso; simp_all; done) | (exfalso; simp_all; omega)
            · skip
              refine ok_skip ?_
              refine then_n ?_
              refine ok_seq ?_
              refine ok_region ?_
              refine o_pure rfl rfl (pu_move (.inr rfl) (ev_int (inR_lit rfl))) rfl rfl ?_
              refine ops_nil ?_
              refine then_n ?_
              refine ok_seq ?_
              refine ok_region ?_
              refine o_pure rfl rfl (pu_loadBoxA hT rfl rfl (ev_tmp rfl) rfl rfl) rfl rfl ?_
              refine o_pure rfl rfl (pu_move (.inl rfl) (ev_tmp rfl)) rfl rfl ?_
              refine o_callW [(0, 136001, ⟨false, _, _, _, _⟩, ⟨false, _, _, _, _⟩)] rfl rfl rfl Try.call47 (ok_laws_markTxQueue (x := (newTx x0 x1).1) (by omega) (by omega)) ⟨rfl, trivial⟩ rfl (aw_cons (ev_tmp rfl) (aw_agg (awc_cons (awc_key rfl) awc_nil)) (aw_cons (ev_tmp rfl) (aw_one (awc_dv rfl)) aw_nil)) rfl rfl ?_
              simp only [killT, killB, SV.kill, CV.kill, List.map_cons, List.map_nil, List.any_cons, List.any_nil, List.contains_cons, List.contains_nil, List.nil_append, List.cons_append, Nat.reduceBEq, Bool.or_false, Bool.false_or, Bool.or_true, Bool.true_or, cond_true, cond_false]
              refine o_pure rfl rfl (pu_move (.inr rfl) (ev_tmp rfl)) rfl rfl ?_
              refine ops_nil ?_
              refine then_n ?_
              refine ok_seq ?_
              refine ok_region ?_
              refine o_pure rfl rfl (pu_move (.inr rfl) (ev_int (inR_lit rfl))) rfl rfl ?_
              refine ops_nil ?_
              refine then_n ?_
              refine ok_seq ?_
              refine ok_region ?_
              refine o_pure rfl rfl (pu_loadBoxA hT rfl rfl (ev_tmp rfl) rfl rfl) rfl rfl ?_
              refine o_pure rfl rfl (pu_move (.inl rfl) (ev_tmp rfl)) rfl rfl ?_
              refine o_call rfl rfl rfl Try.call48 (ok_laws_heldTxQueue (x := (newTx x0 x1).1) rfl (by omega) (by omega)) (as_cons (ev_tmp rfl) (ag_agg (ag_cons (ac_key' rfl rfl) ag_nil)) (as_cons (ev_tmp rfl) (ag_one ac_dv) as_nil)) rfl rfl ?_
              refine o_pure rfl rfl (pu_move (.inr rfl) (ev_tmp rfl)) rfl rfl ?_
              refine ops_nil ?_
              refine then_n ?_
              refine ok_seq ?_
              refine ok_seq ?_
              refine ok_region ?_
              refine o_pure rfl rfl (pu_move (.inl rfl) (ev_tmp rfl)) rfl rfl ?_
              refine o_pure rfl rfl (pu_lss rfl (ev_tmp rfl) (ev_int (inR_lit rfl))) rfl rfl ?_
              refine ops_nil ?_
              refine then_n ?_
              refine ok_cond (ev_tmp rfl) (fun c7 => ?_) (fun c7 => ?_)
              · skip
                have d7 := of_decide_eq_true c7
                first | have q7 := szR_n d7 | skip
                refine ok_seq ?_
                refine ok_region ?_
                refine o_pure rfl rfl (pu_move (.inr rfl) ev_bool) rfl rfl ?_
                refine ops_nil ?_
                refine then_n ?_
                refine ok_ret ?_
                refine then_r ?_
                refine fin1 (res_tmp rfl) (eqB ?_)
                first | rfl | (exfalso; omega) | (exfalso; simp_all; done) | (exfalso; simp_all; omega)
              · skip
                have d7 := of_decide_eq_false c7
                first | have q7 := szR_nn d7 | skip
                refine ok_skip ?_
                refine then_n ?_
                refine ok_seq ?_
                refine ok_seq ?_
                refine ok_region ?_
                refine o_pure rfl rfl (pu_move (.inl rfl) (ev_tmp rfl)) rfl rfl ?_
                refine o_pure rfl rfl (pu_move (.inl rfl) (ev_tmp rfl)) rfl rfl ?_
                refine o_pure rfl rfl (pu_neq rfl (ev_tmp rfl) (ev_tmp rfl)) rfl rfl ?_
                refine ops_nil ?_
                refine then_n ?_
                refine ok_cond (ev_tmp rfl) (fun c8 => ?_) (fun c8 => ?_)
                · skip
                  have d8 := nd_t c8
                  refine ok_seq ?_
                  refine ok_region ?_
                  refine o_pure rfl rfl (pu_move (.inr rfl) ev_bool) rfl rfl ?_
                  refine ops_nil ?_
                  refine then_n ?_
                  refine ok_ret ?_
                  refine then_r ?_
                  refine fin1 (res_tmp rfl) (eqB ?_)
                  first | rfl | (exfalso; omega) | (exfalso; simp_all; done) | (exfalso; simp_all; omega)
                · skip
                  have d8 := nd_f c8
                  refine ok_skip ?_
                  refine then_n ?_
                  refine ok_seq ?_
                  refine ok_region ?_
                  refine o_pure rfl rfl (pu_loadBoxA hT rfl rfl (ev_tmp rfl) rfl rfl) rfl rfl ?_
                  refine o_callK 111000 rfl rfl rfl Try.call44 (ok_laws_toTxQueue (by first | omega | (simp only [wKey, wField, wRecord, wItem, wStore, wIndexDef, wDatabase, wOp, wTx, wTxQueue] at hb ⊢; omega) | (have hq := hw (by omega); omega))) (as_cons (ev_tmp rfl) (ag_agg (ag_cons ac_dv ag_nil)) as_nil) rfl rfl rfl ?_
                  refine o_pure rfl rfl (pu_move (.inl rfl) (ev_tmp rfl)) rfl rfl ?_
                  refine o_callK 113000 rfl rfl rfl Try.call23 (ok_laws_toOpS (by first | omega | (simp only [wKey, wField, wRecord, wItem, wStore, wIndexDef, wDatabase, wOp, wTx, wTxQueue] at hb ⊢; omega) | (have hq := hw (by omega); omega))) (as_cons (ev_tmp rfl) (ag_one ac_dv) as_nil) rfl rfl rfl ?_
                  refine o_callK 114000 rfl rfl rfl Try.call45 (ok_impl_NewTx (by omega) (by omega)) (as_cons (ev_tmp rfl) (ag_agg (ag_cons (ac_key' rfl rfl) ag_nil)) (as_cons (ev_tmp rfl) (ag_one (ac_key' rfl rfl)) as_nil)) rfl rfl rfl ?_
                  refine o_pure rfl rfl (pu_move (.inl rfl) (ev_tmp rfl)) rfl rfl ?_
                  refine o_pure rfl rfl (pu_extractA rfl (ev_tmp rfl) rfl) rfl rfl ?_
                  refine o_pure rfl rfl (pu_extract1 rfl (ev_tmp rfl) rfl) rfl rfl ?_
                  refine o_pure rfl rfl (pu_extract1 rfl (ev_tmp rfl) rfl) rfl rfl ?_
                  refine o_alloc hT rfl rfl rfl rfl rfl rfl ?_
                  refine o_store hT rfl rfl rfl rfl (ev_tmp rfl) (ev_tmp rfl) rfl rfl rfl rfl rfl rfl ?_
                  refine o_pure rfl rfl (pu_move (.inr rfl) (ev_tmp rfl)) rfl rfl ?_
                  refine o_pure rfl rfl (pu_move (.inr rfl) (ev_tmp rfl)) rfl rfl ?_
                  refine ops_nil ?_
                  refine then_n ?_
                  refine ok_seq ?_
                  refine ok_seq ?_
                  refine ok_region ?_
                  refine o_pure rfl rfl (pu_loadBoxA hT rfl rfl (ev_tmp rfl) rfl rfl) rfl rfl ?_
                  refine o_pure rfl rfl (pu_loadBoxA hT rfl rfl (ev_tmp rfl) rfl rfl) rfl rfl ?_
                  refine o_call rfl rfl rfl Try.call46 ok_laws_eqTxQueue (as_cons (ev_tmp rfl) (ag_agg (ag_cons (ac_key' rfl rfl) ag_nil)) (as_cons (ev_tmp rfl) (ag_agg (ag_cons (ac_key' rfl rfl) ag_nil)) as_nil)) rfl rfl ?_
                  refine o_pure rfl rfl (pu_not rfl (ev_tmp rfl)) rfl rfl ?_
                  refine o_pure rfl rfl (pu_move (.inl rfl) (ev_tmp rfl)) rfl rfl ?_
                  refine o_pureG (gd_bool rfl rfl rfl rfl rfl) rfl (fun hg => pu_move (.inl rfl) (ev_tmp rfl)) rfl rfl ?_
                  refine o_pureG (gd_bool rfl rfl rfl rfl rfl) rfl (fun hg => pu_move (.inl rfl) (ev_tmp rfl)) rfl rfl ?_
                  refine o_pureG (gd_bool rfl rfl rfl rfl rfl) rfl (fun hg => pu_neq rfl (ev_opt rfl hg) (ev_opt rfl hg)) rfl rfl ?_
                  refine o_pure rfl rfl (pu_or rfl (ev_tmp rfl) (fun hb => (ev_opt rfl (beq_f hb)))) rfl rfl ?_
                  refine o_pure rfl rfl (pu_move (.inl rfl) (ev_tmp rfl)) rfl rfl ?_
                  refine o_pureG (gd_bool rfl rfl rfl rfl rfl) rfl (fun hg => pu_move (.inl rfl) (ev_tmp rfl)) rfl rfl ?_
                  refine o_pureG (gd_bool rfl rfl rfl rfl rfl) rfl (fun hg => pu_move (.inl rfl) (ev_tmp rfl)) rfl rfl ?_
                  refine o_pureG (gd_bool rfl rfl rfl rfl rfl) rfl (fun hg => pu_bneq hT rfl rfl (ev_opt rfl hg) (ev_opt rfl hg)) rfl rfl ?_
                  refine o_pure rfl rfl (pu_or rfl (ev_tmp rfl) (fun hb => (ev_opt rfl (beq_f hb)))) rfl rfl ?_
                  refine ops_nil ?_
                  refine then_n ?_
                  refine ok_cond (ev_tmp rfl) (fun c9 => ?_) (fun c9 => ?_)
                  · skip
                    refine ok_seq ?_
                    refine ok_region ?_
                    refine o_pure rfl rfl (pu_move (.inr rfl) ev_bool) rfl rfl ?_
                    refine ops_nil ?_
                    refine then_n ?_
                    refine ok_ret ?_
                    refine then_r ?_
                    refine fin1 (res_tmp rfl) (eqB ?_)
                    first | rfl | (exfalso; omega) | (exfalso; simp_all; done) | (exfalso; simp_all; omega)
                  · skip
                    refine ok_skip ?_
                    refine then_n ?_
                    refine ok_seq ?_
                    refine ok_region ?_
                    refine o_pure rfl rfl (pu_move (.inr rfl) (ev_int (inR_lit rfl))) rfl rfl ?_
                    refine ops_nil ?_
                    refine then_n ?_
                    refine ok_seq ?_
                    refine ok_region ?_
                    refine o_pure rfl rfl (pu_loadBoxA hT rfl rfl (ev_tmp rfl) rfl rfl) rfl rfl ?_
                    refine o_pure rfl rfl (pu_move (.inl rfl) (ev_tmp rfl)) rfl rfl ?_
                    refine o_call rfl rfl rfl Try.call48 (ok_laws_heldTxQueue (x := (newTx x0 x1).1) rfl (by omega) (by omega)) (as_cons (ev_tmp rfl) (ag_agg (ag_cons (ac_key' rfl rfl) ag_nil)) (as_cons (ev_tmp rfl) (ag_one ac_dv) as_nil)) rfl rfl ?_
                    refine o_pure rfl rfl (pu_move (.inr rfl) (ev_tmp rfl)) rfl rfl ?_
                    refine ops_nil ?_
                    refine then_n ?_
                    refine ok_seq ?_
                    refine ok_seq ?_
                    refine ok_region ?_
                    refine o_pure rfl rfl (pu_move (.inl rfl) (ev_tmp rfl)) rfl rfl ?_
                    refine o_pure rfl rfl (pu_lss rfl (ev_tmp rfl) (ev_int (inR_lit rfl))) rfl rfl ?_
                    refine ops_nil ?_
                    refine then_n ?_
                    refine ok_cond (ev_tmp rfl) (fun c10 => ?_) (fun c10 => ?_)
                    · skip
                      have d10 := of_decide_eq_true c10
                      first | have q10 := szR_n d10 | skip
                      refine ok_seq ?_
                      refine ok_region ?_
                      refine o_pure rfl rfl (pu_move (.inr rfl) ev_bool) rfl rfl ?_
                      refine ops_nil ?_
                      refine then_n ?_
                      refine ok_ret ?_
                      refine then_r ?_
                      refine fin1 (res_tmp rfl) (eqB ?_)
                      first | rfl | (exfalso; omega) | (exfalso; simp_all; done) | (exfalso; simp_all; omega)
                    · skip
                      have d10 := of_decide_eq_false c10
                      first | have q10 := szR_nn d10 | skip
                      refine ok_skip ?_
                      refine then_n ?_
                      refine ok_seq ?_
                      refine ok_seq ?_
                      refine ok_region ?_
                      refine o_pure rfl rfl (pu_move (.inl rfl) (ev_tmp rfl)) rfl rfl ?_
                      refine o_pure rfl rfl (pu_move (.inl rfl) (ev_tmp rfl)) rfl rfl ?_
                      refine o_pure rfl rfl (pu_neq rfl (ev_tmp rfl) (ev_tmp rfl)) rfl rfl ?_
                      refine ops_nil ?_
                      refine then_n ?_
                      refine ok_cond (ev_tmp rfl) (fun c11 => ?_) (fun c11 => ?_)
                      · skip
                        have d11 := nd_t c11
                        refine ok_seq ?_
                        refine ok_region ?_
                        refine o_pure rfl rfl (pu_move (.inr rfl) ev_bool) rfl rfl ?_
                        refine ops_nil ?_
                        refine then_n ?_
                        refine ok_ret ?_
                        refine then_r ?_
                        refine fin1 (res_tmp rfl) (eqB ?_)
                        first | rfl | (exfalso; omega) | (exfalso; simp_all; done) | (exfalso; simp_all; omega)
                      · skip
                        have d11 := nd_f c11
                        refine ok_skip ?_
                        refine then_n ?_
                        refine ok_seq ?_
                        refine ok_region ?_
                        refine o_pure rfl rfl (pu_move (.inr rfl) ev_bool) rfl rfl ?_
                        refine ops_nil ?_
                        refine then_n ?_
                        refine ok_ret ?_
                        refine fin1 (res_tmp rfl) (eqB ?_)
                        first | rfl | (exfalso; omega) | (exfalso; simp_all; done) | (exfalso; simp_all; omega)
end Go.Proofs.Ytlogahkchenpdaa

namespace Go.Proofs.Ytlogahkchenpdaa
open Go.RowKit Go.ChangeShapes Go.WideShapes Go.Deep

def LayW (W : World) : List DV → List Value → Prop := LayL (fun b => b < W.heap.size) W
/-- whatever reads as data of type t reads as data of which Q holds -/
structure OpensD (P : Program) (Q : List DV → Prop) (t : TypeId) : Prop where
  run : ∀ {H : Type} (enc : TypeId × Value → H) (W : World) (base : Nat) (spare : Nat → Bool) (held : Bool) (fuel : Nat) (cs : List Value) (y : DataW H × List MemPlace),
    DataW.trod enc P W base spare held fuel t cs = some y → ∃ ds, Q ds ∧ LayW W ds cs
def Is {α : Type} (enc : α → List DV) (ds : List DV) : Prop := ∃ x, ds = enc x
theorem opensD_int {P : Program} {t : TypeId} (ht : P.underlying t = some (.int .i64)) : OpensD P (Is eInt) t := by
  refine ⟨fun {H} enc W base spare held fuel cs y h => ?_⟩
  obtain ⟨n, rfl, _, hw⟩ := DataW.trod_int ht h
  have hb : -9223372036854775808 ≤ n ∧ n ≤ 9223372036854775807 := by simpa [Lit.wf, IntKind.min, IntKind.max, IntKind.signed, IntKind.bits] using hw
  exact ⟨_, ⟨n, rfl⟩, by unfold LayW LayL LayL Lay; exact ⟨_, _, rfl, ⟨rfl, inR64 hb.1 hb.2⟩, rfl⟩⟩
theorem opensD_str {P : Program} {t : TypeId} (ht : P.underlying t = some .string) : OpensD P (Is eStr) t := by
  refine ⟨fun {H} enc W base spare held fuel cs y h => ?_⟩
  obtain ⟨s, rfl, _, hs⟩ := DataW.trod_string ht h
  exact ⟨_, ⟨s, rfl⟩, by simp only [LayW, LayL, Lay]; exact ⟨_, _, rfl, ⟨rfl, by simpa [maxLen] using hs⟩, rfl⟩⟩
theorem points {α : Type} {enc : α → List DV} {W : World} {sz : Nat} {f : Nat → Option Value} (hs : ∀ x, (enc x).length = sz) : ∀ n : Nat,
    (∀ i, i < n → ∃ x ci, LayW W (enc x) ci ∧ ∀ j, j < sz → f (i * sz + j) = ci[j]?) → ∃ (xs : List α) (cells : List Value), xs.length = n ∧ LayW W (xs.flatMap enc) cells ∧ ∀ j u, cells[j]? = some u → f j = some u
  | 0, _ => ⟨[], [], rfl, by simp [LayW, LayL], by simp⟩
  | n + 1, h => by
    obtain ⟨xs, cells, h1, h2, h3⟩ := points hs n (fun i hi => h i (by omega))
    obtain ⟨x, ci, g1, g2⟩ := h n (by omega)
    have hl : cells.length = n * sz := by rw [layL_len _ _ h2, flat_len hs, h1]
    have hci : ci.length = sz := by rw [layL_len _ _ g1, hs]
    refine ⟨xs ++ [x], cells ++ ci, by simp [h1], by have := layL_append _ _ _ _ h2 g1; simp only [List.flatMap_append, List.flatMap_cons, List.flatMap_nil, List.append_nil]; exact this, fun j u hu => ?_⟩
    rcases Nat.lt_or_ge j cells.length with hj | hj
    · rw [List.getElem?_append_left hj] at hu; exact h3 j u hu
    · rw [List.getElem?_append_right hj] at hu
      have hjs : j - cells.length < sz := by rw [← hci]; exact (List.getElem?_eq_some_iff.1 hu).1
      have := g2 (j - cells.length) hjs
      rw [show n * sz + (j - cells.length) = j by omega] at this
      rw [this, hu]
theorem opensD_slice {α : Type} {P : Program} {enc : α → List DV} {t e : TypeId} {sz : Nat} (e' : Nat) (hs : ∀ x, (enc x).length = sz) (hsz : Nat.blt 0 sz = true) (ht : P.underlying t = some (.slice e)) (hc : P.cellsOf e = sz) (he : OpensD P (Is enc) e) : OpensD P (Is fun xs : List α => [listD e' sz enc xs]) t := by
  refine ⟨fun {H} ench W base spare held fuel cs y h => ?_⟩
  have hpos : 0 < sz := by simpa [Nat.blt_eq] using hsz
  rcases open_slice ht h with ⟨rfl, _⟩ | ⟨a, len, cap, m, n, D, Pl, rfl, _, hl, hm, hmm, _, hi⟩
  · refine ⟨_, ⟨[], rfl⟩, ?_⟩
    simp only [LayW, LayL, Lay]
    exact ⟨_, _, rfl, ⟨none, 0, [], rfl, Nat.le_refl _, by simp [maxLen], hpos, by simp, by simp [LayL], fun h => by simp at h⟩, rfl⟩
  · have hlm : len ≤ m := by rw [hmm]; split <;> omega
    obtain ⟨xs, cells, h1, h2, h3⟩ := points (W := W) (f := fun j => W.cell? (a.add j)) hs len (fun i hil => by
      obtain ⟨cs', hc1, hc2⟩ := hi i (by omega)
      obtain ⟨ds, ⟨x, rfl⟩, hx⟩ := he.run ench W base spare held n cs' _ hc2
      obtain ⟨_, hcl, hat⟩ := World.cells?_some hc1
      refine ⟨x, cs', hx, fun j hj => ?_⟩
      have := hat j (by rw [hc]; exact hj)
      rw [← Go.Deep.add_add, hc] at *
      exact this)
    refine ⟨_, ⟨xs, rfl⟩, ?_⟩
    simp only [LayW, LayL]
    refine ⟨_, _, rfl, ?_, rfl⟩
    simp only [Lay]
    refine ⟨some a, cap, cells, by rw [h1], by omega, hm, hpos, flat_len hs xs, h2, fun hp => ?_⟩
    have hcl : 0 < cells.length := by
      rw [layL_len _ _ h2, flat_len hs]
      exact Nat.mul_pos hp hpos
    have h0 := h3 0 _ (List.getElem?_eq_getElem hcl)
    have ha0 : a.add 0 = a := by simp [Addr.add]
    simp only [ha0] at h0
    have hsp : a.spot = none := by
      cases hs : a.spot with
      | none => rfl
      | some s =>
        unfold World.cell? at h0
        split at h0
        · simp [hs] at h0
        · cases h0
    obtain ⟨b, off, sp⟩ := a
    simp only at hsp
    subst hsp
    refine ⟨b, off, rfl, World.block_lt_of_cell? W _ h0, fun j u hu => ?_⟩
    have := h3 j u hu
    simp only [add_row] at this
    exact this
/-! ### structs -/
def Qcat : List (List DV → Prop) → List DV → Prop
  | [], ds => ds = []
  | Q :: Qs, ds => ∃ a b, ds = a ++ b ∧ Q a ∧ Qcat Qs b
def contig (P : Program) : List Field → Nat → Nat → Bool
  | [], off, n => off == n
  | f :: fs, off, n => f.offset == off && contig P fs (off + P.cellsOf f.type) n
def OpensAll (P : Program) : List Field → List (List DV → Prop) → Prop
  | [], [] => True
  | f :: fs, Q :: Qs => OpensD P Q f.type ∧ OpensAll P fs Qs
  | _, _ => False
theorem opens_fields {P : Program} {W : World} {H : Type} (enc : TypeId × Value → H) (base : Nat) (spare : Nat → Bool) (held : Bool) (n : Nat) {cs : List Value} : ∀ (fs : List Field) (Qs : List (List DV → Prop)) (off : Nat), contig P fs off cs.length = true → OpensAll P fs Qs →
    (∀ f ∈ fs, ∃ y, DataW.trod enc P W base spare held n f.type ((cs.drop f.offset).take (P.cellsOf f.type)) = some y) → ∃ ds, Qcat Qs ds ∧ LayW W ds (cs.drop off)
  | [], [], off, h1, _, _ => by
    simp only [contig, beq_iff_eq] at h1
    subst h1
    exact ⟨[], rfl, by simp [LayW, LayL]⟩
  | [], _ :: _, _, _, h2, _ => h2.elim
  | _ :: _, [], _, _, h2, _ => h2.elim
  | f :: fs, Q :: Qs, off, h1, h2, h3 => by
    simp only [contig, Bool.and_eq_true, beq_iff_eq] at h1
    obtain ⟨e1, h1⟩ := h1
    obtain ⟨y, hy⟩ := h3 f (by simp)
    rw [e1] at hy
    obtain ⟨a, ha, la⟩ := h2.1.run enc W base spare held n _ _ hy
    obtain ⟨b, hb, lb⟩ := opens_fields enc base spare held n fs Qs _ h1 h2.2 (fun g hg => h3 g (by simp [hg]))
    refine ⟨a ++ b, ⟨a, b, rfl, ha, hb⟩, ?_⟩
    have := layL_append _ _ _ _ la lb
    rw [← List.drop_drop, List.take_append_drop] at this
    exact this
theorem opensD_struct {P : Program} {t : TypeId} {fs : Array Field} {Qs : List (List DV → Prop)} (ht : P.underlying t = some (.struct fs)) (hc : contig P fs.toList 0 (P.cellsOf t) = true) (h : OpensAll P fs.toList Qs) : OpensD P (Qcat Qs) t := by
  refine ⟨fun {H} enc W base spare held fuel cs y h' => ?_⟩
  obtain ⟨xs, n, _, _, hl, hlen, hf⟩ := DataW.trod_struct ht h'
  have := opens_fields (cs := cs) enc base spare held n fs.toList Qs 0 (by rw [hl]; exact hc) h (fun f hf' => by
    obtain ⟨i, hi⟩ := List.mem_iff_getElem?.1 hf'
    have hi' : fs[i]? = some f := by simpa using hi
    have h2 := hf i f hi'
    have hlt : i < xs.length := by
      rw [hlen]
      rw [Array.getElem?_eq_some_iff] at hi'
      exact hi'.1
    rw [List.getElem?_eq_getElem hlt] at h2
    exact ⟨_, h2⟩)
  simpa using this
theorem OpensD.mono {P : Program} {Q R : List DV → Prop} {t : TypeId} (h : OpensD P Q t) (hq : ∀ ds, Q ds → R ds) : OpensD P R t := by
  refine ⟨fun {H} enc W base spare held fuel cs y h' => ?_⟩
  obtain ⟨ds, h1, h2⟩ := h.run enc W base spare held fuel cs y h'
  exact ⟨ds, hq ds h1, h2⟩
/-! ### a call from the outside -/
/-- arguments that are read: structs and single values -/
def TopL (w : World) : List SV → List Value → Prop
  | [], vs => vs = []
  | .one c :: us, vs => ∃ d v vs', c = .dv [] d ∧ vs = v :: vs' ∧ LayW w [d] [v] ∧ TopL w us vs'
  | .agg cs :: us, vs => ∃ ds xs vs', cs = ds.map (CV.dv []) ∧ vs = .agg xs.toArray :: vs' ∧ LayW w ds xs ∧ TopL w us vs'
  | _ :: _, _ => False
theorem lay_top {w : World} {L : Lyt} {d : DV} {v : Value} (h : LayW w [d] [v]) : CVr ⟨w, [], L.rv⟩ L w (.dv [] d) v := by
  simp only [LayW, LayL] at h
  obtain ⟨v', _, e, h1, rfl⟩ := h
  simp only [List.cons.injEq, and_true] at e
  subst e
  simp only [CVr]
  exact lay_conv (fun b hb _ => ⟨.inl ⟨hb, by simp⟩, rfl⟩) d _ h1
theorem lays_top {w : World} {L : Lyt} : ∀ {ds : List DV} {vs : List Value}, LayW w ds vs → CVL ⟨w, [], L.rv⟩ L w (ds.map (CV.dv [])) vs
  | [], _, h => by simp only [LayW, LayL] at h; subst h; rfl
  | d :: ds, _, h => by
    simp only [LayW, LayL] at h
    obtain ⟨v, vs', rfl, h1, h2⟩ := h
    exact ⟨v, vs', rfl, lay_top (by simp only [LayW, LayL]; exact ⟨v, [], rfl, h1, rfl⟩), lays_top h2⟩
theorem topL_sv {P : Program} {w : World} {L : Lyt} : ∀ {us : List SV} {vs : List Value}, TopL w us vs → vs.length = us.length ∧ (∀ u ∈ us, u.keys = [] ∧ u.boxes = []) ∧ ∀ (i : Nat) (v : SV), us[i]? = some v → ∃ x, vs[i]? = some x ∧ SVr P ⟨w, [], L.rv⟩ L w v x
  | [], _, h => by simp only [TopL] at h; subst h; simp
  | .one c :: us, _, h => by
    simp only [TopL] at h
    obtain ⟨d, v, vs', rfl, rfl, h1, h2⟩ := h
    obtain ⟨g1, g2, g3⟩ := topL_sv (P := P) (L := L) h2
    refine ⟨by simp [g1], fun u hu => ?_, fun i x hx => ?_⟩
    · rcases List.mem_cons.1 hu with rfl | hu
      · exact ⟨rfl, rfl⟩
      · exact g2 u hu
    · cases i with
      | zero => simp only [List.getElem?_cons_zero, Option.some.injEq] at hx; subst hx; exact ⟨v, rfl, by simp only [SVr]; exact lay_top h1⟩
      | succ i => simpa using g3 i x (by simpa using hx)
  | .agg cs :: us, _, h => by
    simp only [TopL] at h
    obtain ⟨ds, xs, vs', rfl, rfl, h1, h2⟩ := h
    obtain ⟨g1, g2, g3⟩ := topL_sv (P := P) (L := L) h2
    refine ⟨by simp [g1], fun u hu => ?_, fun i x hx => ?_⟩
    · rcases List.mem_cons.1 hu with rfl | hu
      · refine ⟨?_, rfl⟩
        simp only [SV.keys]
        rw [List.flatMap_eq_nil_iff]
        intro c hc
        obtain ⟨d, _, rfl⟩ := List.mem_map.1 hc
        rfl
      · exact g2 u hu
    · cases i with
      | zero => simp only [List.getElem?_cons_zero, Option.some.injEq] at hx; subst hx; exact ⟨_, rfl, by simp only [SVr]; exact ⟨xs, rfl, lays_top h1⟩⟩
      | succ i => simpa using g3 i x (by simpa using hx)
  | .tup _ :: _, _, h => by simp [TopL] at h
  | .box _ _ :: _, _, h => by simp [TopL] at h
  | .ref _ _ :: _, _, h => by simp [TopL] at h
  | .eptr _ _ :: _, _, h => by simp [TopL] at h
  | .fn _ _ :: _, _, h => by simp [TopL] at h
  | .clo _ _ :: _, _, h => by simp [TopL] at h
  | .opt _ _ :: _, _, h => by simp [TopL] at h
  | .any :: _, _, h => by simp [TopL] at h
theorem pfn_run {P : Program} {f : FuncId} {us : List SV} {b : Bool} (hf : PFn P f us (.one (.dv [] (.bool b)))) {w : World} {vs : List Value} (h : TopL w us vs) :
    Calls P f vs.toArray w fun e w' => e = .returned (.bool b) ∧ Below w.heap.size w w' := by
  let L : Lyt := ⟨fun _ => 0, fun _ => [], fun _ => .bool false⟩
  obtain ⟨h1, h2, h3⟩ := topL_sv (P := P) (L := L) h
  obtain ⟨t1, t2⟩ := enum_tk us 0 h2
  have hr : Rel P ⟨w, [], L.rv⟩ us.length L ⟨enumS 0 us, [], []⟩ ⟨vs.toArray, []⟩ w := {
    df := rfl
    sz := by simp [h1]
    tm := fun i v hv => by
      obtain ⟨_, h4⟩ := enumS_look us 0 i v hv
      obtain ⟨x, h5, h6⟩ := h3 i v (by simpa using h4)
      have : vs.toArray.getD i undef = x := by simp [Array.getD_eq_getD_getElem?, h5]
      rw [this]; exact h6
    bx := fun i t cs h => by cases h
    ks := fun k c h => by cases h
    b1 := fun i x h => by cases h
    k1 := fun k c h => by cases h
    kn := fun k c h => by cases h
    bb := fun i j x y h => by cases h
    bk := fun i k x c h => by cases h
    kk := fun k j c d h => by cases h
    lk := fun k hk => by simp only [St.tk, t1, List.flatMap_nil, List.append_nil] at hk; cases hk
    lb := fun b hb => by simp only [St.tb, t2] at hb; cases hb
    s0 := fun b hb => by cases hb
    chg := Chg.refl _ _ }
  refine (hf.ok w [] L vs h1 hr).mono ?_
  rintro e w' ⟨r, res, σ', L', rfl, rfl, hr'⟩
  have hv := hr'.tm 0 _ rfl
  simp only [SVr, CVr, Lay] at hv
  refine ⟨?_, hr'.chg.below⟩
  have : (#[r] : Array Value).getD 0 undef = r := rfl
  rw [this] at hv
  rw [hv]
end Go.Proofs.Ytlogahkchenpdaa

namespace Go.Proofs.Ytlogahkchenpdaa
open Go.RowKit
open Go.Proofs
theorem opensKey : OpensD Try.prog (Is eKey) 89 :=
  (opensD_struct (Qs := [Is eInt, Is eInt, Is eStr]) Try.underlying89 (by kernel_rfl) ⟨(opensD_int Try.underlying3), (opensD_int Try.underlying3), (opensD_str Try.underlying9), trivial⟩).mono fun ds h => by
    obtain ⟨_, _, rfl, ⟨a, rfl⟩, ⟨_, _, rfl, ⟨b, rfl⟩, ⟨_, _, rfl, ⟨c, rfl⟩, rfl⟩⟩⟩ := h
    exact ⟨(a, b, c), rfl⟩
theorem opensField : OpensD Try.prog (Is eField) 210 :=
  (opensD_struct (Qs := [Is eStr, Is eInt]) Try.underlying210 (by kernel_rfl) ⟨(opensD_str Try.underlying9), (opensD_int Try.underlying3), trivial⟩).mono fun ds h => by
    obtain ⟨_, _, rfl, ⟨a, rfl⟩, ⟨_, _, rfl, ⟨b, rfl⟩, rfl⟩⟩ := h
    exact ⟨(a, b), rfl⟩
theorem opensFields : OpensD Try.prog (Is fun xs => [listD 161 2 eField xs]) 90 := opensD_slice (sz := 2) 161 (fun _ => rfl) rfl Try.underlying90 (by kernel_rfl) opensField
theorem opensRecord : OpensD Try.prog (Is (fun r : RecT => [fieldsD r])) 92 :=
  (opensD_struct (Qs := [Is (fun r : RecT => [fieldsD r])]) Try.underlying92 (by kernel_rfl) ⟨opensFields, trivial⟩).mono fun ds h => by
    obtain ⟨_, _, rfl, ⟨a, rfl⟩, rfl⟩ := h
    exact ⟨a, rfl⟩
theorem opensItem : OpensD Try.prog (Is eItem) 206 :=
  (opensD_struct (Qs := [Is eKey, Is (fun r : RecT => [fieldsD r])]) Try.underlying206 (by kernel_rfl) ⟨opensKey, opensRecord, trivial⟩).mono fun ds h => by
    obtain ⟨_, _, rfl, ⟨a, rfl⟩, ⟨_, _, rfl, ⟨b, rfl⟩, rfl⟩⟩ := h
    exact ⟨(a, b), rfl⟩
theorem opensItems : OpensD Try.prog (Is fun xs => [listD 150 4 eItem xs]) 144 := opensD_slice (sz := 4) 150 (fun _ => rfl) rfl Try.underlying144 (by kernel_rfl) opensItem
theorem opensStore : OpensD Try.prog (Is eStore) 146 :=
  (opensD_struct (Qs := [Is eStr, Is (fun r : List ItemT => [itemsD r]), Is eInt]) Try.underlying146 (by kernel_rfl) ⟨(opensD_str Try.underlying9), opensItems, (opensD_int Try.underlying3), trivial⟩).mono fun ds h => by
    obtain ⟨_, _, rfl, ⟨a, rfl⟩, ⟨_, _, rfl, ⟨b, rfl⟩, ⟨_, _, rfl, ⟨c, rfl⟩, rfl⟩⟩⟩ := h
    exact ⟨(a, b, c), rfl⟩
theorem opensStores : OpensD Try.prog (Is fun xs => [listD 82 3 eStore xs]) 22 := opensD_slice (sz := 3) 82 (fun _ => rfl) rfl Try.underlying22 (by kernel_rfl) opensStore
theorem opensOp : OpensD Try.prog (Is eOp) 94 :=
  (opensD_struct (Qs := [Is eInt, Is eStr, Is eKey, Is (fun r : RecT => [fieldsD r]), Is eStr]) Try.underlying94 (by kernel_rfl) ⟨(opensD_int Try.underlying3), (opensD_str Try.underlying9), opensKey, opensRecord, (opensD_str Try.underlying9), trivial⟩).mono fun ds h => by
    obtain ⟨_, _, rfl, ⟨a, rfl⟩, ⟨_, _, rfl, ⟨b, rfl⟩, ⟨_, _, rfl, ⟨c, rfl⟩, ⟨_, _, rfl, ⟨d, rfl⟩, ⟨_, _, rfl, ⟨e, rfl⟩, rfl⟩⟩⟩⟩⟩ := h
    exact ⟨(a, b, c, d, e), rfl⟩
theorem opensOps : OpensD Try.prog (Is fun xs => [listD 102 7 eOp xs]) 45 := opensD_slice (sz := 7) 102 (fun _ => rfl) rfl Try.underlying45 (by kernel_rfl) opensOp
theorem opensTx : OpensD Try.prog (Is eTx) 181 :=
  (opensD_struct (Qs := [Is eInt, Is (fun r : List OpT => [opsD r]), Is eInt, Is eInt, Is (fun r : List StoreT => [storesD r])]) Try.underlying181 (by kernel_rfl) ⟨(opensD_int Try.underlying3), opensOps, (opensD_int Try.underlying3), (opensD_int Try.underlying3), opensStores, trivial⟩).mono fun ds h => by
    obtain ⟨_, _, rfl, ⟨a, rfl⟩, ⟨_, _, rfl, ⟨b, rfl⟩, ⟨_, _, rfl, ⟨c, rfl⟩, ⟨_, _, rfl, ⟨d, rfl⟩, ⟨_, _, rfl, ⟨e, rfl⟩, rfl⟩⟩⟩⟩⟩ := h
    exact ⟨(a, b, c, d, e), rfl⟩
theorem opensTxs : OpensD Try.prog (Is fun xs => [listD 138 5 eTx xs]) 64 := opensD_slice (sz := 5) 138 (fun _ => rfl) rfl Try.underlying64 (by kernel_rfl) opensTx
theorem opensQueue : OpensD Try.prog (Is (fun r : List TxT => [txsD r])) 66 :=
  (opensD_struct (Qs := [Is (fun r : List TxT => [txsD r])]) Try.underlying66 (by kernel_rfl) ⟨opensTxs, trivial⟩).mono fun ds h => by
    obtain ⟨_, _, rfl, ⟨a, rfl⟩, rfl⟩ := h
    exact ⟨a, rfl⟩
end Go.Proofs.Ytlogahkchenpdaa

