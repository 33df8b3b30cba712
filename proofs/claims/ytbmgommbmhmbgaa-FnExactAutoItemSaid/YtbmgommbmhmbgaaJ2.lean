/-
  Items added to a store; the law of AddItem.
-/
import Derived.Test.YtbmgommbmhmbgaaJ1
namespace Go.Proofs.Ytbmgommbmhmbgaa
open Go.RowKit
open Go.Proofs
set_option linter.unusedVariables false
set_option linter.unusedSimpArgs false

def addN (x : StoreT) (k : KeyT) (r : RecT) : StoreT × Bool := if 0 ≤ fndK x k then (x, false) else putN x k r
theorem add_yes {x : StoreT} {k : KeyT} {r : RecT} (h : 0 ≤ fndK x k) : addN x k r = (x, false) := if_pos h
theorem add_no {x : StoreT} {k : KeyT} {r : RecT} (h : ¬ 0 ≤ fndK x k) : addN x k r = putN x k r := if_neg h
theorem addN_w (x : StoreT) (k : KeyT) (r : RecT) : wStore (addN x k r).1 ≤ wStore x + wKey k + wRecord r + 1 := by
  have := putN_w x k r
  unfold addN
  split
  · show wStore x ≤ _; omega
  · exact this

set_option maxRecDepth 100000 in
theorem ok_impl_AddItem {x : StoreT} {k : KeyT} {r : RecT} (hb : wStore x ≤ 1048576) (hb2 : r.length ≤ 1048576) : KFn Try.prog 45 [.agg [(.dv [] (.str (x.1))), (.dv [] (itemsD (x.2.1))), (.dv [] (.int .i64 (x.2.2)))], .agg [(.dv [] (.int .i64 (k.1))), (.dv [] (.int .i64 (k.2.1))), (.dv [] (.str (k.2.2)))], .agg [(.dv [] (fieldsD (r)))]] (.tup [(true, [(.dv [] (.str ((addN x k r).1.1))), (.key 9001), (.dv [] (.int .i64 ((addN x k r).1.2.2)))]), (false, [(.dv [] (.bool ((addN x k r).2)))])]) [(9001, some (kcOf false (itemsD ((addN x k r).1.2.1))))] := by
  refine ⟨fn_intro Try.func45 rfl Try.ntmps45 Try.results45 rfl (fun C => ?_)⟩
  refine ok_factA (x := .tmp 0) 0 (ev_tmp rfl) rfl (fun (f0_0 : (x.1).size ≤ 9223372036854775807) => ?_)
  refine ok_factA (x := .tmp 0) 1 (ev_tmp rfl) rfl (fun (f0_1 : ((x.2.1)).length ≤ 9223372036854775807) => ?_)
  refine ok_factA (x := .tmp 0) 2 (ev_tmp rfl) rfl (fun (f0_2 : -9223372036854775808 ≤ (x.2.2) ∧ (x.2.2) ≤ 9223372036854775807) => ?_)
  refine ok_factA (x := .tmp 1) 0 (ev_tmp rfl) rfl (fun (f1_0 : -9223372036854775808 ≤ (k.1) ∧ (k.1) ≤ 9223372036854775807) => ?_)
  refine ok_factA (x := .tmp 1) 1 (ev_tmp rfl) rfl (fun (f1_1 : -9223372036854775808 ≤ (k.2.1) ∧ (k.2.1) ≤ 9223372036854775807) => ?_)
  refine ok_factA (x := .tmp 1) 2 (ev_tmp rfl) rfl (fun (f1_2 : (k.2.2).size ≤ 9223372036854775807) => ?_)
  refine ok_factA (x := .tmp 2) 0 (ev_tmp rfl) rfl (fun (f2_0 : ((r)).length ≤ 9223372036854775807) => ?_)
  refine ok_seq ?_
  refine ok_region ?_
  refine o_box rfl rfl rfl (ev_tmp rfl) rfl rfl rfl rfl ?_
  refine o_box rfl rfl rfl (ev_tmp rfl) rfl rfl rfl rfl ?_
  refine o_box rfl rfl rfl (ev_tmp rfl) rfl rfl rfl rfl ?_
  refine o_alloc hT rfl rfl rfl rfl rfl rfl ?_
  refine o_pure rfl rfl (pu_move (.inr rfl) ev_bool) rfl rfl ?_
  refine ops_nil ?_
  refine then_n ?_
  refine ok_seq ?_
  refine ok_seq ?_
  refine ok_region ?_
  refine o_pure rfl rfl (pu_loadBoxA hT rfl rfl (ev_tmp rfl) rfl rfl) rfl rfl ?_
  refine o_pure rfl rfl (pu_loadBoxA hT rfl rfl (ev_tmp rfl) rfl rfl) rfl rfl ?_
  refine o_call rfl rfl rfl Try.call80 ok_impl_FindItem (as_cons (ev_tmp rfl) (ag_agg (ag_cons ac_dv (ag_cons ac_dv (ag_cons ac_dv ag_nil)))) (as_cons (ev_tmp rfl) (ag_agg (ag_cons ac_dv (ag_cons ac_dv (ag_cons ac_dv ag_nil)))) as_nil)) rfl rfl ?_
  refine o_pure rfl rfl (pu_geq rfl (ev_tmp rfl) (ev_int (inR_lit rfl))) rfl rfl ?_
  refine ops_nil ?_
  refine then_n ?_
  refine ok_cond (ev_tmp rfl) (fun c1 => ?_) (fun c1 => ?_)
  · skip
    have d1 := of_decide_eq_true c1
    refine ok_seq ?_
    refine ok_region ?_
    refine o_pure rfl rfl (pu_loadBoxA hT rfl rfl (ev_tmp rfl) rfl rfl) rfl rfl ?_
    refine o_callK 8971 rfl rfl rfl Try.call79 (ok_impl_copyStore (x := x) (by omega)) (as_cons (ev_tmp rfl) (ag_agg (ag_cons ac_dv (ag_cons ac_dv (ag_cons ac_dv ag_nil)))) as_nil) rfl rfl rfl ?_
    refine o_store hT rfl rfl rfl rfl (ev_tmp rfl) (ev_tmp rfl) rfl rfl rfl rfl rfl rfl ?_
    refine o_pure rfl rfl (pu_move (.inr rfl) ev_bool) rfl rfl ?_
    refine ops_nil ?_
    refine then_n ?_
    rw [add_yes d1]
    refine ok_weak (σ' := ⟨[(6, .box 6 0), (7, .one (.dv [] (.bool (false))))], [(6, 29, [(.dv [] (.str ((x).1))), (.key 9001), (.dv [] (.int .i64 ((x).2.2)))])], [(9001, some (kcOf false (itemsD (x.2.1))))]⟩) (weak_sub ⟨rfl, rfl, trivial⟩ ⟨rfl, trivial⟩ ⟨rfl, trivial⟩ rfl) ?_
    refine ok_ret ?_
    refine then_r ?_
    refine fin2 (res_cell hT rfl rfl rfl rfl) (res_tmp rfl) rfl rfl ?_
    first | exact ⟨rfl, rfl⟩ | skip
  · skip
    have d1 := of_decide_eq_false c1
    refine ok_skip ?_
    refine then_n ?_
    refine ok_seq ?_
    refine ok_region ?_
    refine o_pure rfl rfl (pu_loadBoxA hT rfl rfl (ev_tmp rfl) rfl rfl) rfl rfl ?_
    refine o_pure rfl rfl (pu_loadBoxA hT rfl rfl (ev_tmp rfl) rfl rfl) rfl rfl ?_
    refine o_pure rfl rfl (pu_loadBoxA hT rfl rfl (ev_tmp rfl) rfl rfl) rfl rfl ?_
    refine o_callK 0 rfl rfl rfl Try.call40 (ok_impl_PutItem (x := x) (k := k) (r := r) (by omega) (by omega)) (as_cons (ev_tmp rfl) (ag_agg (ag_cons ac_dv (ag_cons ac_dv (ag_cons ac_dv ag_nil)))) (as_cons (ev_tmp rfl) (ag_agg (ag_cons ac_dv (ag_cons ac_dv (ag_cons ac_dv ag_nil)))) (as_cons (ev_tmp rfl) (ag_agg (ag_cons ac_dv ag_nil)) as_nil))) rfl rfl rfl ?_
    refine o_pure rfl rfl (pu_extractA rfl (ev_tmp rfl) rfl) rfl rfl ?_
    refine o_pure rfl rfl (pu_extract1 rfl (ev_tmp rfl) rfl) rfl rfl ?_
    refine o_store hT rfl rfl rfl rfl (ev_tmp rfl) (ev_tmp rfl) rfl rfl rfl rfl rfl rfl ?_
    refine o_pure rfl rfl (pu_move (.inr rfl) (ev_tmp rfl)) rfl rfl ?_
    refine ops_nil ?_
    refine then_n ?_
    rw [add_no d1]
    refine ok_weak (σ' := ⟨[(6, .box 6 0), (7, .one (.dv [] (.bool ((putN (x) (k) (r)).2))))], [(6, 29, [(.dv [] (.str ((putN (x) (k) (r)).1.1))), (.key 9001), (.dv [] (.int .i64 ((putN (x) (k) (r)).1.2.2)))])], [(9001, some (kcOf false (itemsD ((putN x k r).1.2.1))))]⟩) (weak_sub ⟨rfl, rfl, trivial⟩ ⟨rfl, trivial⟩ ⟨rfl, trivial⟩ rfl) ?_
    refine ok_ret ?_
    refine fin2 (res_cell hT rfl rfl rfl rfl) (res_tmp rfl) rfl rfl ?_
    first | exact ⟨rfl, rfl⟩ | skip
set_option maxRecDepth 100000 in
theorem ok_spec_AddItem {x : StoreT} {k : KeyT} {r : RecT} (hb : wStore x ≤ 1048576) (hb2 : r.length ≤ 1048576) : KFn Try.prog 44 [.agg [(.dv [] (.str (x.1))), (.dv [] (itemsD (x.2.1))), (.dv [] (.int .i64 (x.2.2)))], .agg [(.dv [] (.int .i64 (k.1))), (.dv [] (.int .i64 (k.2.1))), (.dv [] (.str (k.2.2)))], .agg [(.dv [] (fieldsD (r)))]] (.tup [(true, [(.dv [] (.str ((addN x k r).1.1))), (.key 9001), (.dv [] (.int .i64 ((addN x k r).1.2.2)))]), (false, [(.dv [] (.bool ((addN x k r).2)))])]) [(9001, some (kcOf false (itemsD ((addN x k r).1.2.1))))] := by
  refine ⟨fn_intro Try.func44 rfl Try.ntmps44 Try.results44 rfl (fun C => ?_)⟩
  refine ok_factA (x := .tmp 0) 0 (ev_tmp rfl) rfl (fun (f0_0 : (x.1).size ≤ 9223372036854775807) => ?_)
  refine ok_factA (x := .tmp 0) 1 (ev_tmp rfl) rfl (fun (f0_1 : ((x.2.1)).length ≤ 9223372036854775807) => ?_)
  refine ok_factA (x := .tmp 0) 2 (ev_tmp rfl) rfl (fun (f0_2 : -9223372036854775808 ≤ (x.2.2) ∧ (x.2.2) ≤ 9223372036854775807) => ?_)
  refine ok_factA (x := .tmp 1) 0 (ev_tmp rfl) rfl (fun (f1_0 : -9223372036854775808 ≤ (k.1) ∧ (k.1) ≤ 9223372036854775807) => ?_)
  refine ok_factA (x := .tmp 1) 1 (ev_tmp rfl) rfl (fun (f1_1 : -9223372036854775808 ≤ (k.2.1) ∧ (k.2.1) ≤ 9223372036854775807) => ?_)
  refine ok_factA (x := .tmp 1) 2 (ev_tmp rfl) rfl (fun (f1_2 : (k.2.2).size ≤ 9223372036854775807) => ?_)
  refine ok_factA (x := .tmp 2) 0 (ev_tmp rfl) rfl (fun (f2_0 : ((r)).length ≤ 9223372036854775807) => ?_)
  refine ok_seq ?_
  refine ok_region ?_
  refine o_box rfl rfl rfl (ev_tmp rfl) rfl rfl rfl rfl ?_
  refine o_box rfl rfl rfl (ev_tmp rfl) rfl rfl rfl rfl ?_
  refine o_box rfl rfl rfl (ev_tmp rfl) rfl rfl rfl rfl ?_
  refine o_alloc hT rfl rfl rfl rfl rfl rfl ?_
  refine o_pure rfl rfl (pu_move (.inr rfl) ev_bool) rfl rfl ?_
  refine ops_nil ?_
  refine then_n ?_
  refine ok_seq ?_
  refine ok_seq ?_
  refine ok_region ?_
  refine o_pure rfl rfl (pu_loadBoxA hT rfl rfl (ev_tmp rfl) rfl rfl) rfl rfl ?_
  refine o_pure rfl rfl (pu_loadBoxA hT rfl rfl (ev_tmp rfl) rfl rfl) rfl rfl ?_
  refine o_call rfl rfl rfl Try.call73 ok_spec_FindItem (as_cons (ev_tmp rfl) (ag_agg (ag_cons ac_dv (ag_cons ac_dv (ag_cons ac_dv ag_nil)))) (as_cons (ev_tmp rfl) (ag_agg (ag_cons ac_dv (ag_cons ac_dv (ag_cons ac_dv ag_nil)))) as_nil)) rfl rfl ?_
  refine o_pure rfl rfl (pu_geq rfl (ev_tmp rfl) (ev_int (inR_lit rfl))) rfl rfl ?_
  refine ops_nil ?_
  refine then_n ?_
  refine ok_cond (ev_tmp rfl) (fun c1 => ?_) (fun c1 => ?_)
  · skip
    have d1 := of_decide_eq_true c1
    refine ok_seq ?_
    refine ok_region ?_
    refine o_pure rfl rfl (pu_loadBoxA hT rfl rfl (ev_tmp rfl) rfl rfl) rfl rfl ?_
    refine o_callK 8971 rfl rfl rfl Try.call72 (ok_spec_l6Copy (x := x) (by omega)) (as_cons (ev_tmp rfl) (ag_agg (ag_cons ac_dv (ag_cons ac_dv (ag_cons ac_dv ag_nil)))) as_nil) rfl rfl rfl ?_
    refine o_store hT rfl rfl rfl rfl (ev_tmp rfl) (ev_tmp rfl) rfl rfl rfl rfl rfl rfl ?_
    refine o_pure rfl rfl (pu_move (.inr rfl) ev_bool) rfl rfl ?_
    refine ops_nil ?_
    refine then_n ?_
    rw [add_yes d1]
    refine ok_weak (σ' := ⟨[(6, .box 6 0), (7, .one (.dv [] (.bool (false))))], [(6, 29, [(.dv [] (.str ((x).1))), (.key 9001), (.dv [] (.int .i64 ((x).2.2)))])], [(9001, some (kcOf false (itemsD (x.2.1))))]⟩) (weak_sub ⟨rfl, rfl, trivial⟩ ⟨rfl, trivial⟩ ⟨rfl, trivial⟩ rfl) ?_
    refine ok_ret ?_
    refine then_r ?_
    refine fin2 (res_cell hT rfl rfl rfl rfl) (res_tmp rfl) rfl rfl ?_
    first | exact ⟨rfl, rfl⟩ | skip
  · skip
    have d1 := of_decide_eq_false c1
    refine ok_skip ?_
    refine then_n ?_
    refine ok_seq ?_
    refine ok_region ?_
    refine o_pure rfl rfl (pu_loadBoxA hT rfl rfl (ev_tmp rfl) rfl rfl) rfl rfl ?_
    refine o_pure rfl rfl (pu_loadBoxA hT rfl rfl (ev_tmp rfl) rfl rfl) rfl rfl ?_
    refine o_pure rfl rfl (pu_loadBoxA hT rfl rfl (ev_tmp rfl) rfl rfl) rfl rfl ?_
    refine o_callK 0 rfl rfl rfl Try.call37 (ok_spec_PutItem (x := x) (k := k) (r := r) (by omega) (by omega)) (as_cons (ev_tmp rfl) (ag_agg (ag_cons ac_dv (ag_cons ac_dv (ag_cons ac_dv ag_nil)))) (as_cons (ev_tmp rfl) (ag_agg (ag_cons ac_dv (ag_cons ac_dv (ag_cons ac_dv ag_nil)))) (as_cons (ev_tmp rfl) (ag_agg (ag_cons ac_dv ag_nil)) as_nil))) rfl rfl rfl ?_
    refine o_pure rfl rfl (pu_extractA rfl (ev_tmp rfl) rfl) rfl rfl ?_
    refine o_pure rfl rfl (pu_extract1 rfl (ev_tmp rfl) rfl) rfl rfl ?_
    refine o_store hT rfl rfl rfl rfl (ev_tmp rfl) (ev_tmp rfl) rfl rfl rfl rfl rfl rfl ?_
    refine o_pure rfl rfl (pu_move (.inr rfl) (ev_tmp rfl)) rfl rfl ?_
    refine ops_nil ?_
    refine then_n ?_
    rw [add_no d1]
    refine ok_weak (σ' := ⟨[(6, .box 6 0), (7, .one (.dv [] (.bool ((putN (x) (k) (r)).2))))], [(6, 29, [(.dv [] (.str ((putN (x) (k) (r)).1.1))), (.key 9001), (.dv [] (.int .i64 ((putN (x) (k) (r)).1.2.2)))])], [(9001, some (kcOf false (itemsD ((putN x k r).1.2.1))))]⟩) (weak_sub ⟨rfl, rfl, trivial⟩ ⟨rfl, trivial⟩ ⟨rfl, trivial⟩ rfl) ?_
    refine ok_ret ?_
    refine fin2 (res_cell hT rfl rfl rfl rfl) (res_tmp rfl) rfl rfl ?_
    first | exact ⟨rfl, rfl⟩ | skip
set_option maxRecDepth 100000 in
theorem ok_laws_FnExactAddItem {x0 : StoreT} {x1 : KeyT} {x2 : RecT}  : PFn Try.prog 9 [.agg [(.dv [] (.str (x0.1))), (.dv [] (itemsD (x0.2.1))), (.dv [] (.int .i64 (x0.2.2)))], .agg [(.dv [] (.int .i64 (x1.1))), (.dv [] (.int .i64 (x1.2.1))), (.dv [] (.str (x1.2.2)))], .agg [(.dv [] (fieldsD (x2)))]] (.one (.dv [] (.bool (true)))) := by
  refine ⟨fn_intro Try.func9 rfl Try.ntmps9 Try.results9 rfl (fun C => ?_)⟩
  have hpw := addN_w x0 x1 x2
  have : wStore x0 = (x0.1).size + wList wItem (x0.2.1) := rfl
  have : wList wItem (x0.2.1) = (x0.2.1).length + wSum wItem (x0.2.1) := rfl
  have : wKey x1 = (x1.2.2).size := rfl
  have : wRecord x2 = wList wField (x2) := rfl
  have : wList wField (x2) = (x2).length + wSum wField (x2) := rfl
  have := wSum_bound cItem_le (x0.2.1)
  have := wSum_bound cField_le (x2)
  have : wStore (addN x0 x1 x2).1 = ((addN x0 x1 x2).1.1).size + wList wItem ((addN x0 x1 x2).1.2.1) := rfl
  have : wList wItem ((addN x0 x1 x2).1.2.1) = ((addN x0 x1 x2).1.2.1).length + wSum wItem ((addN x0 x1 x2).1.2.1) := rfl
  have := wSum_bound cItem_le ((addN x0 x1 x2).1.2.1)
  refine ok_factA (x := .tmp 0) 0 (ev_tmp rfl) rfl (fun (f0_0 : (x0.1).size ≤ 9223372036854775807) => ?_)
  refine ok_factA (x := .tmp 0) 1 (ev_tmp rfl) rfl (fun (f0_1 : ((x0.2.1)).length ≤ 9223372036854775807) => ?_)
  refine ok_factA (x := .tmp 0) 2 (ev_tmp rfl) rfl (fun (f0_2 : -9223372036854775808 ≤ (x0.2.2) ∧ (x0.2.2) ≤ 9223372036854775807) => ?_)
  refine ok_factA (x := .tmp 1) 0 (ev_tmp rfl) rfl (fun (f1_0 : -9223372036854775808 ≤ (x1.1) ∧ (x1.1) ≤ 9223372036854775807) => ?_)
  refine ok_factA (x := .tmp 1) 1 (ev_tmp rfl) rfl (fun (f1_1 : -9223372036854775808 ≤ (x1.2.1) ∧ (x1.2.1) ≤ 9223372036854775807) => ?_)
  refine ok_factA (x := .tmp 1) 2 (ev_tmp rfl) rfl (fun (f1_2 : (x1.2.2).size ≤ 9223372036854775807) => ?_)
  refine ok_factA (x := .tmp 2) 0 (ev_tmp rfl) rfl (fun (f2_0 : ((x2)).length ≤ 9223372036854775807) => ?_)
  refine ok_seq ?_
  refine ok_region ?_
  refine o_box rfl rfl rfl (ev_tmp rfl) rfl rfl rfl rfl ?_
  refine o_box rfl rfl rfl (ev_tmp rfl) rfl rfl rfl rfl ?_
  refine o_box rfl rfl rfl (ev_tmp rfl) rfl rfl rfl rfl ?_
  refine o_pure rfl rfl (pu_move (.inr rfl) ev_bool) rfl rfl ?_
  refine ops_nil ?_
  refine then_n ?_
  refine ok_seq ?_
  refine ok_region ?_
  refine o_pure rfl rfl (pu_move (.inr rfl) (ev_int (inR_lit rfl))) rfl rfl ?_
  refine ops_nil ?_
  refine then_n ?_
  refine ok_seq ?_
  refine ok_region ?_
  refine o_pure rfl rfl (pu_loadBoxA hT rfl rfl (ev_tmp rfl) rfl rfl) rfl rfl ?_
  refine o_pure rfl rfl (pu_move (.inl rfl) (ev_tmp rfl)) rfl rfl ?_
  refine o_call rfl rfl rfl Try.call11 (ok_laws_szStore (by omega) (by omega)) (as_cons (ev_tmp rfl) (ag_agg (ag_cons ac_dv (ag_cons ac_dv (ag_cons ac_dv ag_nil)))) (as_cons (ev_tmp rfl) (ag_one ac_dv) as_nil)) rfl rfl ?_
  refine o_pure rfl rfl (pu_move (.inr rfl) (ev_tmp rfl)) rfl rfl ?_
  refine ops_nil ?_
  refine then_n ?_
  refine ok_seq ?_
  refine ok_seq ?_
  refine ok_region ?_
  refine o_pure rfl rfl (pu_move (.inl rfl) (ev_tmp rfl)) rfl rfl ?_
  refine o_pure rfl rfl (pu_lss rfl (ev_tmp rfl) (ev_int (inR_lit rfl))) rfl rfl ?_
  refine ops_nil ?_
  refine then_n ?_
  refine ok_cond (ev_tmp rfl) (fun c1 => ?_) (fun c1 => ?_)
  · skip
    have d1 := of_decide_eq_true c1
    first | have q1 := szR_n d1 | skip
    refine ok_seq ?_
    refine ok_region ?_
    refine o_pure rfl rfl (pu_move (.inr rfl) ev_bool) rfl rfl ?_
    refine ops_nil ?_
    refine then_n ?_
    refine ok_ret ?_
    refine then_r ?_
    refine fin1 (res_tmp rfl) (eqB ?_)
    first | rfl | (exfalso; omega) | (exfalso; simp_all; done) | (exfalso; simp_all; omega)
  · skip
    have d1 := of_decide_eq_false c1
    first | have q1 := szR_nn d1 | skip
    refine ok_skip ?_
    refine then_n ?_
    refine ok_seq ?_
    refine ok_region ?_
    refine o_pure rfl rfl (pu_loadBoxA hT rfl rfl (ev_tmp rfl) rfl rfl) rfl rfl ?_
    refine o_pure rfl rfl (pu_move (.inl rfl) (ev_tmp rfl)) rfl rfl ?_
    refine o_call rfl rfl rfl Try.call35 (ok_laws_szKey (by omega) (by omega)) (as_cons (ev_tmp rfl) (ag_agg (ag_cons ac_dv (ag_cons ac_dv (ag_cons ac_dv ag_nil)))) (as_cons (ev_tmp rfl) (ag_one ac_dv) as_nil)) rfl rfl ?_
    refine o_pure rfl rfl (pu_move (.inr rfl) (ev_tmp rfl)) rfl rfl ?_
    refine ops_nil ?_
    refine then_n ?_
    refine ok_seq ?_
    refine ok_seq ?_
    refine ok_region ?_
    refine o_pure rfl rfl (pu_move (.inl rfl) (ev_tmp rfl)) rfl rfl ?_
    refine o_pure rfl rfl (pu_lss rfl (ev_tmp rfl) (ev_int (inR_lit rfl))) rfl rfl ?_
    refine ops_nil ?_
    refine then_n ?_
    refine ok_cond (ev_tmp rfl) (fun c2 => ?_) (fun c2 => ?_)
    · skip
      have d2 := of_decide_eq_true c2
      first | have q2 := szR_n d2 | skip
      refine ok_seq ?_
      refine ok_region ?_
      refine o_pure rfl rfl (pu_move (.inr rfl) ev_bool) rfl rfl ?_
      refine ops_nil ?_
      refine then_n ?_
      refine ok_ret ?_
      refine then_r ?_
      refine fin1 (res_tmp rfl) (eqB ?_)
      first | rfl | (exfalso; omega) | (exfalso; simp_all; done) | (exfalso; simp_all; omega)
    · skip
      have d2 := of_decide_eq_false c2
      first | have q2 := szR_nn d2 | skip
      refine ok_skip ?_
      refine then_n ?_
      refine ok_seq ?_
      refine ok_region ?_
      refine o_pure rfl rfl (pu_loadBoxA hT rfl rfl (ev_tmp rfl) rfl rfl) rfl rfl ?_
      refine o_pure rfl rfl (pu_move (.inl rfl) (ev_tmp rfl)) rfl rfl ?_
      refine o_call rfl rfl rfl Try.call36 (ok_laws_szRecord (by omega) (by omega)) (as_cons (ev_tmp rfl) (ag_agg (ag_cons ac_dv ag_nil)) (as_cons (ev_tmp rfl) (ag_one ac_dv) as_nil)) rfl rfl ?_
      refine o_pure rfl rfl (pu_move (.inr rfl) (ev_tmp rfl)) rfl rfl ?_
      refine ops_nil ?_
      refine then_n ?_
      refine ok_seq ?_
      refine ok_seq ?_
      refine ok_region ?_
      refine o_pure rfl rfl (pu_move (.inl rfl) (ev_tmp rfl)) rfl rfl ?_
      refine o_pure rfl rfl (pu_lss rfl (ev_tmp rfl) (ev_int (inR_lit rfl))) rfl rfl ?_
      refine ops_nil ?_
      refine then_n ?_
      refine ok_cond (ev_tmp rfl) (fun c3 => ?_) (fun c3 => ?_)
      · skip
        have d3 := of_decide_eq_true c3
        first | have q3 := szR_n d3 | skip
        refine ok_seq ?_
        refine ok_region ?_
        refine o_pure rfl rfl (pu_move (.inr rfl) ev_bool) rfl rfl ?_
        refine ops_nil ?_
        refine then_n ?_
        refine ok_ret ?_
        refine then_r ?_
        refine fin1 (res_tmp rfl) (eqB ?_)
        first | rfl | (exfalso; omega) | (exfalso; simp_all; done) | (exfalso; simp_all; omega)
      · skip
        have d3 := of_decide_eq_false c3
        first | have q3 := szR_nn d3 | skip
        refine ok_skip ?_
        refine then_n ?_
        refine ok_seq ?_
        refine ok_regionD (oB := [3, 4, 5]) (oK := []) (by kernel_rfl) rfl rfl ?_
        refine d_take 0 rfl (by kernel_rfl) rfl rfl (pu_loadBoxA hT rfl rfl (ev_tmp rfl) rfl rfl) rfl rfl rfl rfl ?_
        refine d_take 2 rfl (by kernel_rfl) rfl rfl (pu_loadBoxA hT rfl rfl (ev_tmp rfl) rfl rfl) rfl rfl rfl rfl ?_
        refine d_take 4 rfl (by kernel_rfl) rfl rfl (pu_loadBoxA hT rfl rfl (ev_tmp rfl) rfl rfl) rfl rfl rfl rfl ?_
        refine d_vars (A := [(10, 8, 29, _)]) hT ⟨⟨_, _, rfl⟩, rfl, trivial⟩ ?_
        refine a_callK 36000 1 rfl (by kernel_rfl) rfl rfl rfl (vok hT ⟨⟨_, _, rfl⟩, rfl, trivial⟩ (by kernel_rfl) (by kernel_rfl)) (vok hT ⟨⟨_, _, rfl⟩, rfl, trivial⟩ (by kernel_rfl) (by kernel_rfl)) rfl Try.call13 (ok_laws_toStore (by first | omega | (simp only [wKey, wField, wRecord, wItem, wStore, wIndexDef, wDatabase, wOp, wTx, wTxQueue] at hb ⊢; omega) | (have hq := hw (by omega); omega))) (as_cons (ev_tmp rfl) (ag_agg (ag_cons ac_dv (ag_cons ac_dv (ag_cons ac_dv ag_nil)))) as_nil) rfl rfl rfl rfl rfl ?_
        refine a_call 3 rfl (by kernel_rfl) rfl rfl rfl (vok hT ⟨⟨_, _, rfl⟩, rfl, trivial⟩ (by kernel_rfl) (by kernel_rfl)) (vok hT ⟨⟨_, _, rfl⟩, rfl, trivial⟩ (by kernel_rfl) (by kernel_rfl)) rfl Try.call38 ok_laws_toKey (as_cons (ev_tmp rfl) (ag_agg (ag_cons ac_dv (ag_cons ac_dv (ag_cons ac_dv ag_nil)))) as_nil) rfl rfl rfl rfl ?_
        refine a_callK 40000 5 rfl (by kernel_rfl) rfl rfl rfl (vok hT ⟨⟨_, _, rfl⟩, rfl, trivial⟩ (by kernel_rfl) (by kernel_rfl)) (vok hT ⟨⟨_, _, rfl⟩, rfl, trivial⟩ (by kernel_rfl) (by kernel_rfl)) rfl Try.call39 (ok_laws_toRecord (by first | omega | (simp only [wKey, wField, wRecord, wItem, wStore, wIndexDef, wDatabase, wOp, wTx, wTxQueue] at hb ⊢; omega) | (have hq := hw (by omega); omega))) (as_cons (ev_tmp rfl) (ag_agg (ag_cons ac_dv ag_nil)) as_nil) rfl rfl rfl rfl rfl ?_
        refine a_callK 41000 6 rfl (by kernel_rfl) rfl rfl rfl (vok hT ⟨⟨_, _, rfl⟩, rfl, trivial⟩ (by kernel_rfl) (by kernel_rfl)) (vok hT ⟨⟨_, _, rfl⟩, rfl, trivial⟩ (by kernel_rfl) (by kernel_rfl)) rfl Try.call44 (ok_spec_AddItem (by omega) (by omega)) (as_cons (ev_tmp rfl) (ag_agg (ag_cons ac_dv (ag_cons (ac_key' rfl rfl) (ag_cons ac_dv ag_nil)))) (as_cons (ev_tmp rfl) (ag_agg (ag_cons ac_dv (ag_cons ac_dv (ag_cons ac_dv ag_nil)))) (as_cons (ev_tmp rfl) (ag_agg (ag_cons (ac_key' rfl rfl) ag_nil)) as_nil))) rfl rfl rfl rfl rfl ?_
        refine a_take 7 rfl (by kernel_rfl) rfl rfl rfl (vok hT ⟨⟨_, _, rfl⟩, rfl, trivial⟩ (by kernel_rfl) (by kernel_rfl)) (vok hT ⟨⟨_, _, rfl⟩, rfl, trivial⟩ (by kernel_rfl) (by kernel_rfl)) (pu_move (.inl rfl) (ev_tmp rfl)) rfl rfl rfl rfl ?_
        refine a_takeX 8 rfl (by kernel_rfl) rfl rfl rfl rfl (vok hT ⟨⟨_, _, rfl⟩, rfl, trivial⟩ (by kernel_rfl) (by kernel_rfl)) (vok hT ⟨⟨_, _, rfl⟩, rfl, trivial⟩ (by kernel_rfl) (by kernel_rfl)) (pu_extractA rfl (ev_tmp rfl) rfl) rfl rfl ?_
        refine a_takeX 9 rfl (by kernel_rfl) rfl rfl rfl rfl (vok hT ⟨⟨_, _, rfl⟩, rfl, trivial⟩ (by kernel_rfl) (by kernel_rfl)) (vok hT ⟨⟨_, _, rfl⟩, rfl, trivial⟩ (by kernel_rfl) (by kernel_rfl)) (pu_extract1 rfl (ev_tmp rfl) rfl) rfl rfl ?_
        refine a_exit1 (vok hT ⟨⟨_, _, rfl⟩, rfl, trivial⟩ (by kernel_rfl) (by kernel_rfl)) rfl rfl (by kernel_rfl) ?_
        dsimp only [addT, addB]
        refine d_chain [11, 12] rfl rfl (by kernel_rfl) ?_
        refine o_store hT rfl rfl rfl rfl (ev_tmp rfl) (ev_tmp rfl) rfl rfl rfl rfl rfl rfl ?_
        refine o_pure rfl rfl (pu_move (.inr rfl) (ev_tmp rfl)) rfl rfl ?_
        refine ops_nil ?_
        refine then_n ?_
        refine ok_seq ?_
        refine ok_region ?_
        refine o_pure rfl rfl (pu_loadBoxA hT rfl rfl (ev_tmp rfl) rfl rfl) rfl rfl ?_
        refine o_callK 45000 rfl rfl rfl Try.call13 (ok_laws_toStore (by first | omega | (simp only [wKey, wField, wRecord, wItem, wStore, wIndexDef, wDatabase, wOp, wTx, wTxQueue] at hb ⊢; omega) | (have hq := hw (by omega); omega))) (as_cons (ev_tmp rfl) (ag_agg (ag_cons ac_dv (ag_cons ac_dv (ag_cons ac_dv ag_nil)))) as_nil) rfl rfl rfl ?_
        refine o_alloc hT rfl rfl rfl rfl rfl rfl ?_
        refine o_store hT rfl rfl rfl rfl (ev_tmp rfl) (ev_tmp rfl) rfl rfl rfl rfl rfl rfl ?_
        refine ops_nil ?_
        refine then_n ?_
        refine ok_seq ?_
        refine ok_region ?_
        refine o_pure rfl rfl (pu_loadBoxA hT rfl rfl (ev_tmp rfl) rfl rfl) rfl rfl ?_
        refine o_callK 47000 rfl rfl rfl Try.call39 (ok_laws_toRecord (by first | omega | (simp only [wKey, wField, wRecord, wItem, wStore, wIndexDef, wDatabase, wOp, wTx, wTxQueue] at hb ⊢; omega) | (have hq := hw (by omega); omega))) (as_cons (ev_tmp rfl) (ag_agg (ag_cons ac_dv ag_nil)) as_nil) rfl rfl rfl ?_
        refine o_alloc hT rfl rfl rfl rfl rfl rfl ?_
        refine o_store hT rfl rfl rfl rfl (ev_tmp rfl) (ev_tmp rfl) rfl rfl rfl rfl rfl rfl ?_
        refine ops_nil ?_
        refine then_n ?_
        refine ok_seq ?_
        refine ok_regionD (oB := [3, 4, 5, 8, 10, 11]) (oK := [45007, 46007, 50001, 53007, 54007]) (by kernel_rfl) rfl rfl ?_
        refine d_take 0 rfl (by kernel_rfl) rfl rfl (pu_loadBoxA hT rfl rfl (ev_tmp rfl) rfl rfl) rfl rfl rfl rfl ?_
        refine d_take 1 rfl (by kernel_rfl) rfl rfl (pu_loadBoxA hT rfl rfl (ev_tmp rfl) rfl rfl) rfl rfl rfl rfl ?_
        refine d_take 3 rfl (by kernel_rfl) rfl rfl (pu_loadBoxA hT rfl rfl (ev_tmp rfl) rfl rfl) rfl rfl rfl rfl ?_
        refine d_vars (A := [(8, 12, 29, _)]) hT ⟨⟨_, _, rfl⟩, rfl, trivial⟩ ?_
        refine a_call 2 rfl (by kernel_rfl) rfl rfl rfl (vok hT ⟨⟨_, _, rfl⟩, rfl, trivial⟩ (by kernel_rfl) (by kernel_rfl)) (vok hT ⟨⟨_, _, rfl⟩, rfl, trivial⟩ (by kernel_rfl) (by kernel_rfl)) rfl Try.call38 ok_laws_toKey (as_cons (ev_tmp rfl) (ag_agg (ag_cons ac_dv (ag_cons ac_dv (ag_cons ac_dv ag_nil)))) as_nil) rfl rfl rfl rfl ?_
        refine a_callK 53000 4 rfl (by kernel_rfl) rfl rfl rfl (vok hT ⟨⟨_, _, rfl⟩, rfl, trivial⟩ (by kernel_rfl) (by kernel_rfl)) (vok hT ⟨⟨_, _, rfl⟩, rfl, trivial⟩ (by kernel_rfl) (by kernel_rfl)) rfl Try.call45 (ok_impl_AddItem (by omega) (by omega)) (as_cons (ev_tmp rfl) (ag_agg (ag_cons ac_dv (ag_cons (ac_key' rfl rfl) (ag_cons ac_dv ag_nil)))) (as_cons (ev_tmp rfl) (ag_agg (ag_cons ac_dv (ag_cons ac_dv (ag_cons ac_dv ag_nil)))) (as_cons (ev_tmp rfl) (ag_agg (ag_cons (ac_key' rfl rfl) ag_nil)) as_nil))) rfl rfl rfl rfl rfl ?_
        refine a_take 5 rfl (by kernel_rfl) rfl rfl rfl (vok hT ⟨⟨_, _, rfl⟩, rfl, trivial⟩ (by kernel_rfl) (by kernel_rfl)) (vok hT ⟨⟨_, _, rfl⟩, rfl, trivial⟩ (by kernel_rfl) (by kernel_rfl)) (pu_move (.inl rfl) (ev_tmp rfl)) rfl rfl rfl rfl ?_
        refine a_takeX 6 rfl (by kernel_rfl) rfl rfl rfl rfl (vok hT ⟨⟨_, _, rfl⟩, rfl, trivial⟩ (by kernel_rfl) (by kernel_rfl)) (vok hT ⟨⟨_, _, rfl⟩, rfl, trivial⟩ (by kernel_rfl) (by kernel_rfl)) (pu_extractA rfl (ev_tmp rfl) rfl) rfl rfl ?_
        refine a_takeX 7 rfl (by kernel_rfl) rfl rfl rfl rfl (vok hT ⟨⟨_, _, rfl⟩, rfl, trivial⟩ (by kernel_rfl) (by kernel_rfl)) (vok hT ⟨⟨_, _, rfl⟩, rfl, trivial⟩ (by kernel_rfl) (by kernel_rfl)) (pu_extract1 rfl (ev_tmp rfl) rfl) rfl rfl ?_
        refine a_exit1 (vok hT ⟨⟨_, _, rfl⟩, rfl, trivial⟩ (by kernel_rfl) (by kernel_rfl)) rfl rfl (by kernel_rfl) ?_
        dsimp only [addT, addB]
        refine d_chain [9, 10] rfl rfl (by kernel_rfl) ?_
        refine o_store hT rfl rfl rfl rfl (ev_tmp rfl) (ev_tmp rfl) rfl rfl rfl rfl rfl rfl ?_
        refine o_pure rfl rfl (pu_move (.inr rfl) (ev_tmp rfl)) rfl rfl ?_
        refine ops_nil ?_
        refine then_n ?_
        refine ok_seq ?_
        refine ok_seq ?_
        refine ok_region ?_
        refine o_pure rfl rfl (pu_loadBoxA hT rfl rfl (ev_tmp rfl) rfl rfl) rfl rfl ?_
        refine o_pure rfl rfl (pu_loadBoxA hT rfl rfl (ev_tmp rfl) rfl rfl) rfl rfl ?_
        refine o_call rfl rfl rfl Try.call16 ok_laws_eqStore (as_cons (ev_tmp rfl) (ag_agg (ag_cons ac_dv (ag_cons (ac_key' rfl rfl) (ag_cons ac_dv ag_nil)))) (as_cons (ev_tmp rfl) (ag_agg (ag_cons ac_dv (ag_cons (ac_key' rfl rfl) (ag_cons ac_dv ag_nil)))) as_nil)) rfl rfl ?_
        refine o_pure rfl rfl (pu_not rfl (ev_tmp rfl)) rfl rfl ?_
        refine o_pure rfl rfl (pu_move (.inl rfl) (ev_tmp rfl)) rfl rfl ?_
        refine o_pureG (gd_bool rfl rfl rfl rfl rfl) rfl (fun hg => pu_move (.inl rfl) (ev_tmp rfl)) rfl rfl ?_
        refine o_pureG (gd_bool rfl rfl rfl rfl rfl) rfl (fun hg => pu_move (.inl rfl) (ev_tmp rfl)) rfl rfl ?_
        refine o_pureG (gd_bool rfl rfl rfl rfl rfl) rfl (fun hg => pu_bneq hT rfl rfl (ev_opt rfl hg) (ev_opt rfl hg)) rfl rfl ?_
        refine o_pure rfl rfl (pu_or rfl (ev_tmp rfl) (fun hb => (ev_opt rfl (beq_f hb)))) rfl rfl ?_
        refine ops_nil ?_
        refine then_n ?_
        refine ok_cond (ev_tmp rfl) (fun c4 => ?_) (fun c4 => ?_)
        · skip
          refine ok_seq ?_
          refine ok_region ?_
          refine o_pure rfl rfl (pu_move (.inr rfl) ev_bool) rfl rfl ?_
          refine ops_nil ?_
          refine then_n ?_
          refine ok_ret ?_
          refine then_r ?_
          refine fin1 (res_tmp rfl) (eqB ?_)
          first | rfl | (exfalso; omega) | (exfalso; simp_all; done) | (exfalso; simp_all; omega)
        · skip
          refine ok_skip ?_
          refine then_n ?_
          refine ok_seq ?_
          refine ok_seq ?_
          refine ok_regionD (oB := [3, 4, 5, 8, 10, 11, 12]) (oK := [45007, 46007, 50001, 53007, 54007, 62001]) (by kernel_rfl) rfl rfl ?_
          refine d_take 0 rfl (by kernel_rfl) rfl rfl (pu_loadBoxA hT rfl rfl (ev_tmp rfl) rfl rfl) rfl rfl rfl rfl ?_
          refine d_take 1 rfl (by kernel_rfl) rfl rfl (pu_loadBoxA hT rfl rfl (ev_tmp rfl) rfl rfl) rfl rfl rfl rfl ?_
          refine d_callK 67000 2 rfl (by kernel_rfl) rfl rfl rfl Try.call13 (ok_laws_toStore (by first | omega | (simp only [wKey, wField, wRecord, wItem, wStore, wIndexDef, wDatabase, wOp, wTx, wTxQueue] at hb ⊢; omega) | (have hq := hw (by omega); omega))) (as_cons (ev_tmp rfl) (ag_agg (ag_cons ac_dv (ag_cons ac_dv (ag_cons ac_dv ag_nil)))) as_nil) rfl rfl rfl rfl rfl ?_
          refine d_call 3 rfl (by kernel_rfl) rfl rfl rfl Try.call16 ok_laws_eqStore (as_cons (ev_tmp rfl) (ag_agg (ag_cons ac_dv (ag_cons (ac_key' rfl rfl) (ag_cons ac_dv ag_nil)))) (as_cons (ev_tmp rfl) (ag_agg (ag_cons ac_dv (ag_cons (ac_key' rfl rfl) (ag_cons ac_dv ag_nil)))) as_nil)) rfl rfl rfl rfl ?_
          refine d_take 4 rfl (by kernel_rfl) rfl rfl (pu_not rfl (ev_tmp rfl)) rfl rfl rfl rfl ?_
          refine d_done (by kernel_rfl) ?_
          refine then_n ?_
          refine ok_cond (ev_tmp rfl) (fun c5 => ?_) (fun c5 => ?_)
          · skip
            refine ok_seq ?_
            refine ok_region ?_
            refine o_pure rfl rfl (pu_move (.inr rfl) ev_bool) rfl rfl ?_
            refine ops_nil ?_
            refine then_n ?_
            refine ok_ret ?_
            refine then_r ?_
            refine fin1 (res_tmp rfl) (eqB ?_)
            first | rfl | (exfalso; omega) | (exfalso; simp_all; done) | (exfalso; simp_all; omega)
          · skip
            refine ok_skip ?_
            refine then_n ?_
            refine ok_seq ?_
            refine ok_seq ?_
            refine ok_regionD (oB := [3, 4, 5, 8, 10, 11, 12]) (oK := [45007, 46007, 50001, 53007, 54007, 62001, 76007]) (by kernel_rfl) rfl rfl ?_
            refine d_take 0 rfl (by kernel_rfl) rfl rfl (pu_loadBoxA hT rfl rfl (ev_tmp rfl) rfl rfl) rfl rfl rfl rfl ?_
            refine d_take 1 rfl (by kernel_rfl) rfl rfl (pu_loadBoxA hT rfl rfl (ev_tmp rfl) rfl rfl) rfl rfl rfl rfl ?_
            refine d_callK 72000 2 rfl (by kernel_rfl) rfl rfl rfl Try.call39 (ok_laws_toRecord (by first | omega | (simp only [wKey, wField, wRecord, wItem, wStore, wIndexDef, wDatabase, wOp, wTx, wTxQueue] at hb ⊢; omega) | (have hq := hw (by omega); omega))) (as_cons (ev_tmp rfl) (ag_agg (ag_cons ac_dv ag_nil)) as_nil) rfl rfl rfl rfl rfl ?_
            refine d_call 3 rfl (by kernel_rfl) rfl rfl rfl Try.call41 ok_laws_eqRecord (as_cons (ev_tmp rfl) (ag_agg (ag_cons (ac_key' rfl rfl) ag_nil)) (as_cons (ev_tmp rfl) (ag_agg (ag_cons (ac_key' rfl rfl) ag_nil)) as_nil)) rfl rfl rfl rfl ?_
            refine d_take 4 rfl (by kernel_rfl) rfl rfl (pu_not rfl (ev_tmp rfl)) rfl rfl rfl rfl ?_
            refine d_done (by kernel_rfl) ?_
            refine then_n ?_
            refine ok_cond (ev_tmp rfl) (fun c6 => ?_) (fun c6 => ?_)
            · skip
              refine ok_seq ?_
              refine ok_region ?_
              refine o_pure rfl rfl (pu_move (.inr rfl) ev_bool) rfl rfl ?_
              refine ops_nil ?_
              refine then_n ?_
              refine ok_ret ?_
              refine then_r ?_
              refine fin1 (res_tmp rfl) (eqB ?_)
              first | rfl | (exfalso; omega) | (exfalso; simp_all; done) | (exfalso; simp_all; omega)
            · skip
              refine ok_skip ?_
              refine then_n ?_
              refine ok_seq ?_
              refine ok_region ?_
              refine o_pure rfl rfl (pu_move (.inr rfl) (ev_int (inR_lit rfl))) rfl rfl ?_
              refine ops_nil ?_
              refine then_n ?_
              refine ok_seq ?_
              refine ok_region ?_
              refine o_pure rfl rfl (pu_loadBoxA hT rfl rfl (ev_tmp rfl) rfl rfl) rfl rfl ?_
              refine o_pure rfl rfl (pu_move (.inl rfl) (ev_tmp rfl)) rfl rfl ?_
              refine o_callW [(0, 54007, ⟨false, _, _, _, _⟩, ⟨false, _, _, _, _⟩)] rfl rfl rfl Try.call17 (ok_laws_markStore (x := x0) (by omega) (by omega)) ⟨rfl, trivial⟩ rfl (aw_cons (ev_tmp rfl) (aw_agg (awc_cons (awc_dv rfl) (awc_cons (awc_key rfl) (awc_cons (awc_dv rfl) awc_nil)))) (aw_cons (ev_tmp rfl) (aw_one (awc_dv rfl)) aw_nil)) rfl rfl ?_
              simp only [killT, killB, SV.kill, CV.kill, List.map_cons, List.map_nil, List.any_cons, List.any_nil, List.contains_cons, List.contains_nil, List.nil_append, List.cons_append, Nat.reduceBEq, Bool.or_false, Bool.false_or, Bool.or_true, Bool.true_or, cond_true, cond_false]
              refine o_pure rfl rfl (pu_move (.inr rfl) (ev_tmp rfl)) rfl rfl ?_
              refine ops_nil ?_
              refine then_n ?_
              refine ok_seq ?_
              refine ok_region ?_
              refine o_pure rfl rfl (pu_loadBoxA hT rfl rfl (ev_tmp rfl) rfl rfl) rfl rfl ?_
              refine o_pure rfl rfl (pu_move (.inl rfl) (ev_tmp rfl)) rfl rfl ?_
              refine o_callW [(0, 53007, ⟨false, _, _, _, _⟩, ⟨false, _, _, _, _⟩)] rfl rfl rfl Try.call42 (ok_laws_markRecord (x := x2) (by omega) (by omega)) ⟨rfl, trivial⟩ rfl (aw_cons (ev_tmp rfl) (aw_agg (awc_cons (awc_key rfl) awc_nil)) (aw_cons (ev_tmp rfl) (aw_one (awc_dv rfl)) aw_nil)) rfl rfl ?_
              simp only [killT, killB, SV.kill, CV.kill, List.map_cons, List.map_nil, List.any_cons, List.any_nil, List.contains_cons, List.contains_nil, List.nil_append, List.cons_append, Nat.reduceBEq, Bool.or_false, Bool.false_or, Bool.or_true, Bool.true_or, cond_true, cond_false]
              refine o_pure rfl rfl (pu_move (.inr rfl) (ev_tmp rfl)) rfl rfl ?_
              refine ops_nil ?_
              refine then_n ?_
              refine ok_seq ?_
              refine ok_seq ?_
              refine ok_region ?_
              refine o_pure rfl rfl (pu_move (.inl rfl) (ev_tmp rfl)) rfl rfl ?_
              refine o_pure rfl rfl (pu_lss rfl (ev_tmp rfl) (ev_int (inR_lit rfl))) rfl rfl ?_
              refine o_pure rfl rfl (pu_move (.inl rfl) (ev_tmp rfl)) rfl rfl ?_
              refine o_pureG (gd_bool rfl rfl rfl rfl rfl) rfl (fun hg => pu_loadBoxA hT rfl rfl (ev_tmp rfl) rfl rfl) rfl rfl ?_
              refine o_pureG (gd_bool rfl rfl rfl rfl rfl) rfl (fun hg => pu_loadBoxA hT rfl rfl (ev_tmp rfl) rfl rfl) rfl rfl ?_
              refine o_callG (gd_bool rfl rfl rfl rfl rfl) rfl rfl Try.call16 ok_laws_eqStore (fun hg => (as_cons (ev_opt rfl hg) (ag_agg (ag_cons ac_dv (ag_cons (ac_key' rfl rfl) (ag_cons ac_dv ag_nil)))) (as_cons (ev_opt rfl hg) (ag_agg (ag_cons ac_dv (ag_cons (ac_key' rfl rfl) (ag_cons ac_dv ag_nil)))) as_nil))) rfl rfl ?_
              refine o_pureG (gd_bool rfl rfl rfl rfl rfl) rfl (fun hg => pu_not rfl (ev_opt rfl hg)) rfl rfl ?_
              refine o_pure rfl rfl (pu_or rfl (ev_tmp rfl) (fun hb => (ev_opt rfl (beq_f hb)))) rfl rfl ?_
              refine o_pure rfl rfl (pu_move (.inl rfl) (ev_tmp rfl)) rfl rfl ?_
              refine o_pureG (gd_bool rfl rfl rfl rfl rfl) rfl (fun hg => pu_move (.inl rfl) (ev_tmp rfl)) rfl rfl ?_
              refine o_pureG (gd_bool rfl rfl rfl rfl rfl) rfl (fun hg => pu_move (.inl rfl) (ev_tmp rfl)) rfl rfl ?_
              refine o_pureG (gd_bool rfl rfl rfl rfl rfl) rfl (fun hg => pu_bneq hT rfl rfl (ev_opt rfl hg) (ev_opt rfl hg)) rfl rfl ?_
              refine o_pure rfl rfl (pu_or rfl (ev_tmp rfl) (fun hb => (ev_opt rfl (beq_f hb)))) rfl rfl ?_
              refine ops_nil ?_
              refine then_n ?_
              refine ok_cond (ev_tmp rfl) (fun c7 => ?_) (fun c7 => ?_)
              · skip
                refine ok_seq ?_
                refine ok_region ?_
                refine o_pure rfl rfl (pu_move (.inr rfl) ev_bool) rfl rfl ?_
                refine ops_nil ?_
                refine then_n ?_
                refine ok_ret ?_
                refine then_r ?_
                refine fin1 (res_tmp rfl) (eqB ?_)
                first | rfl | (exfalso; omega) | (exfalso; simp_all; done) | (exfalso; simp_all; omega)
              · skip
                refine ok_skip ?_
                refine then_n ?_
                refine ok_seq ?_
                refine ok_region ?_
                refine o_pure rfl rfl (pu_move (.inr rfl) (ev_int (inR_lit rfl))) rfl rfl ?_
                refine ops_nil ?_
                refine then_n ?_
                refine ok_seq ?_
                refine ok_region ?_
                refine o_pure rfl rfl (pu_loadBoxA hT rfl rfl (ev_tmp rfl) rfl rfl) rfl rfl ?_
                refine o_pure rfl rfl (pu_move (.inl rfl) (ev_tmp rfl)) rfl rfl ?_
                refine o_callW [(0, 62001, ⟨false, _, _, _, _⟩, ⟨false, _, _, _, _⟩)] rfl rfl rfl Try.call17 (ok_laws_markStore (x := (addN x0 x1 x2).1) (by omega) (by omega)) ⟨rfl, trivial⟩ rfl (aw_cons (ev_tmp rfl) (aw_agg (awc_cons (awc_dv rfl) (awc_cons (awc_key rfl) (awc_cons (awc_dv rfl) awc_nil)))) (aw_cons (ev_tmp rfl) (aw_one (awc_dv rfl)) aw_nil)) rfl rfl ?_
                simp only [killT, killB, SV.kill, CV.kill, List.map_cons, List.map_nil, List.any_cons, List.any_nil, List.contains_cons, List.contains_nil, List.nil_append, List.cons_append, Nat.reduceBEq, Bool.or_false, Bool.false_or, Bool.or_true, Bool.true_or, cond_true, cond_false]
                refine o_pure rfl rfl (pu_move (.inr rfl) (ev_tmp rfl)) rfl rfl ?_
                refine ops_nil ?_
                refine then_n ?_
                refine ok_seq ?_
                refine ok_region ?_
                refine o_pure rfl rfl (pu_move (.inr rfl) (ev_int (inR_lit rfl))) rfl rfl ?_
                refine ops_nil ?_
                refine then_n ?_
                refine ok_seq ?_
                refine ok_region ?_
                refine o_pure rfl rfl (pu_loadBoxA hT rfl rfl (ev_tmp rfl) rfl rfl) rfl rfl ?_
                refine o_pure rfl rfl (pu_move (.inl rfl) (ev_tmp rfl)) rfl rfl ?_
                refine o_call rfl rfl rfl Try.call43 (ok_laws_heldStore (x := (addN x0 x1 x2).1) rfl (by omega) (by omega)) (as_cons (ev_tmp rfl) (ag_agg (ag_cons ac_dv (ag_cons (ac_key' rfl rfl) (ag_cons ac_dv ag_nil)))) (as_cons (ev_tmp rfl) (ag_one ac_dv) as_nil)) rfl rfl ?_
                refine o_pure rfl rfl (pu_move (.inr rfl) (ev_tmp rfl)) rfl rfl ?_
                refine ops_nil ?_
                refine then_n ?_
                refine ok_seq ?_
                refine ok_seq ?_
                refine ok_region ?_
                refine o_pure rfl rfl (pu_move (.inl rfl) (ev_tmp rfl)) rfl rfl ?_
                refine o_pure rfl rfl (pu_lss rfl (ev_tmp rfl) (ev_int (inR_lit rfl))) rfl rfl ?_
                refine ops_nil ?_
                refine then_n ?_
                refine ok_cond (ev_tmp rfl) (fun c8 => ?_) (fun c8 => ?_)
                · skip
                  have d8 := of_decide_eq_true c8
                  first | have q8 := szR_n d8 | skip
                  refine ok_seq ?_
                  refine ok_region ?_
                  refine o_pure rfl rfl (pu_move (.inr rfl) ev_bool) rfl rfl ?_
                  refine ops_nil ?_
                  refine then_n ?_
                  refine ok_ret ?_
                  refine then_r ?_
                  refine fin1 (res_tmp rfl) (eqB ?_)
                  first | rfl | (exfalso; omega) | (exfalso; simp_all; done) | (exfalso; simp_all; omega)
                · skip
                  have d8 := of_decide_eq_false c8
                  first | have q8 := szR_nn d8 | skip
                  refine ok_skip ?_
                  refine then_n ?_
                  refine ok_seq ?_
                  refine ok_seq ?_
                  refine ok_region ?_
                  refine o_pure rfl rfl (pu_move (.inl rfl) (ev_tmp rfl)) rfl rfl ?_
                  refine o_pure rfl rfl (pu_move (.inl rfl) (ev_tmp rfl)) rfl rfl ?_
                  refine o_pure rfl rfl (pu_neq rfl (ev_tmp rfl) (ev_tmp rfl)) rfl rfl ?_
                  refine ops_nil ?_
                  refine then_n ?_
                  refine ok_cond (ev_tmp rfl) (fun c9 => ?_) (fun c9 => ?_)
                  · skip
                    have d9 := nd_t c9
                    refine ok_seq ?_
                    refine ok_region ?_
                    refine o_pure rfl rfl (pu_move (.inr rfl) ev_bool) rfl rfl ?_
                    refine ops_nil ?_
                    refine then_n ?_
                    refine ok_ret ?_
                    refine then_r ?_
                    refine fin1 (res_tmp rfl) (eqB ?_)
                    first | rfl | (exfalso; omega) | (exfalso; simp_all; done) | (exfalso; simp_all; omega)
                  · skip
                    have d9 := nd_f c9
                    refine ok_skip ?_
                    refine then_n ?_
                    refine ok_seq ?_
                    refine ok_regionD (oB := [3, 4, 5, 8, 10, 11, 12]) (oK := [45007, 46007, 50001, 53007, 54007, 62001, 76007, 78007]) (by kernel_rfl) rfl rfl ?_
                    refine d_take 0 rfl (by kernel_rfl) rfl rfl (pu_loadBoxA hT rfl rfl (ev_tmp rfl) rfl rfl) rfl rfl rfl rfl ?_
                    refine d_take 2 rfl (by kernel_rfl) rfl rfl (pu_loadBoxA hT rfl rfl (ev_tmp rfl) rfl rfl) rfl rfl rfl rfl ?_
                    refine d_take 4 rfl (by kernel_rfl) rfl rfl (pu_loadBoxA hT rfl rfl (ev_tmp rfl) rfl rfl) rfl rfl rfl rfl ?_
                    refine d_vars (A := [(10, 17, 29, _)]) hT ⟨⟨_, _, rfl⟩, rfl, trivial⟩ ?_
                    refine a_callK 107000 1 rfl (by kernel_rfl) rfl rfl rfl (vok hT ⟨⟨_, _, rfl⟩, rfl, trivial⟩ (by kernel_rfl) (by kernel_rfl)) (vok hT ⟨⟨_, _, rfl⟩, rfl, trivial⟩ (by kernel_rfl) (by kernel_rfl)) rfl Try.call13 (ok_laws_toStore (by first | omega | (simp only [wKey, wField, wRecord, wItem, wStore, wIndexDef, wDatabase, wOp, wTx, wTxQueue] at hb ⊢; omega) | (have hq := hw (by omega); omega))) (as_cons (ev_tmp rfl) (ag_agg (ag_cons ac_dv (ag_cons ac_dv (ag_cons ac_dv ag_nil)))) as_nil) rfl rfl rfl rfl rfl ?_
                    refine a_call 3 rfl (by kernel_rfl) rfl rfl rfl (vok hT ⟨⟨_, _, rfl⟩, rfl, trivial⟩ (by kernel_rfl) (by kernel_rfl)) (vok hT ⟨⟨_, _, rfl⟩, rfl, trivial⟩ (by kernel_rfl) (by kernel_rfl)) rfl Try.call38 ok_laws_toKey (as_cons (ev_tmp rfl) (ag_agg (ag_cons ac_dv (ag_cons ac_dv (ag_cons ac_dv ag_nil)))) as_nil) rfl rfl rfl rfl ?_
                    refine a_callK 111000 5 rfl (by kernel_rfl) rfl rfl rfl (vok hT ⟨⟨_, _, rfl⟩, rfl, trivial⟩ (by kernel_rfl) (by kernel_rfl)) (vok hT ⟨⟨_, _, rfl⟩, rfl, trivial⟩ (by kernel_rfl) (by kernel_rfl)) rfl Try.call39 (ok_laws_toRecord (by first | omega | (simp only [wKey, wField, wRecord, wItem, wStore, wIndexDef, wDatabase, wOp, wTx, wTxQueue] at hb ⊢; omega) | (have hq := hw (by omega); omega))) (as_cons (ev_tmp rfl) (ag_agg (ag_cons ac_dv ag_nil)) as_nil) rfl rfl rfl rfl rfl ?_
                    refine a_callK 112000 6 rfl (by kernel_rfl) rfl rfl rfl (vok hT ⟨⟨_, _, rfl⟩, rfl, trivial⟩ (by kernel_rfl) (by kernel_rfl)) (vok hT ⟨⟨_, _, rfl⟩, rfl, trivial⟩ (by kernel_rfl) (by kernel_rfl)) rfl Try.call45 (ok_impl_AddItem (by omega) (by omega)) (as_cons (ev_tmp rfl) (ag_agg (ag_cons ac_dv (ag_cons (ac_key' rfl rfl) (ag_cons ac_dv ag_nil)))) (as_cons (ev_tmp rfl) (ag_agg (ag_cons ac_dv (ag_cons ac_dv (ag_cons ac_dv ag_nil)))) (as_cons (ev_tmp rfl) (ag_agg (ag_cons (ac_key' rfl rfl) ag_nil)) as_nil))) rfl rfl rfl rfl rfl ?_
                    refine a_take 7 rfl (by kernel_rfl) rfl rfl rfl (vok hT ⟨⟨_, _, rfl⟩, rfl, trivial⟩ (by kernel_rfl) (by kernel_rfl)) (vok hT ⟨⟨_, _, rfl⟩, rfl, trivial⟩ (by kernel_rfl) (by kernel_rfl)) (pu_move (.inl rfl) (ev_tmp rfl)) rfl rfl rfl rfl ?_
                    refine a_takeX 8 rfl (by kernel_rfl) rfl rfl rfl rfl (vok hT ⟨⟨_, _, rfl⟩, rfl, trivial⟩ (by kernel_rfl) (by kernel_rfl)) (vok hT ⟨⟨_, _, rfl⟩, rfl, trivial⟩ (by kernel_rfl) (by kernel_rfl)) (pu_extractA rfl (ev_tmp rfl) rfl) rfl rfl ?_
                    refine a_takeX 9 rfl (by kernel_rfl) rfl rfl rfl rfl (vok hT ⟨⟨_, _, rfl⟩, rfl, trivial⟩ (by kernel_rfl) (by kernel_rfl)) (vok hT ⟨⟨_, _, rfl⟩, rfl, trivial⟩ (by kernel_rfl) (by kernel_rfl)) (pu_extract1 rfl (ev_tmp rfl) rfl) rfl rfl ?_
                    refine a_exit1 (vok hT ⟨⟨_, _, rfl⟩, rfl, trivial⟩ (by kernel_rfl) (by kernel_rfl)) rfl rfl (by kernel_rfl) ?_
                    dsimp only [addT, addB]
                    refine d_chain [11, 12] rfl rfl (by kernel_rfl) ?_
                    refine o_store hT rfl rfl rfl rfl (ev_tmp rfl) (ev_tmp rfl) rfl rfl rfl rfl rfl rfl ?_
                    refine o_pure rfl rfl (pu_move (.inr rfl) (ev_tmp rfl)) rfl rfl ?_
                    refine ops_nil ?_
                    refine then_n ?_
                    refine ok_seq ?_
                    refine ok_seq ?_
                    refine ok_region ?_
                    refine o_pure rfl rfl (pu_loadBoxA hT rfl rfl (ev_tmp rfl) rfl rfl) rfl rfl ?_
                    refine o_pure rfl rfl (pu_loadBoxA hT rfl rfl (ev_tmp rfl) rfl rfl) rfl rfl ?_
                    refine o_call rfl rfl rfl Try.call16 ok_laws_eqStore (as_cons (ev_tmp rfl) (ag_agg (ag_cons ac_dv (ag_cons (ac_key' rfl rfl) (ag_cons ac_dv ag_nil)))) (as_cons (ev_tmp rfl) (ag_agg (ag_cons ac_dv (ag_cons (ac_key' rfl rfl) (ag_cons ac_dv ag_nil)))) as_nil)) rfl rfl ?_
                    refine o_pure rfl rfl (pu_not rfl (ev_tmp rfl)) rfl rfl ?_
                    refine o_pure rfl rfl (pu_move (.inl rfl) (ev_tmp rfl)) rfl rfl ?_
                    refine o_pureG (gd_bool rfl rfl rfl rfl rfl) rfl (fun hg => pu_move (.inl rfl) (ev_tmp rfl)) rfl rfl ?_
                    refine o_pureG (gd_bool rfl rfl rfl rfl rfl) rfl (fun hg => pu_move (.inl rfl) (ev_tmp rfl)) rfl rfl ?_
                    refine o_pureG (gd_bool rfl rfl rfl rfl rfl) rfl (fun hg => pu_bneq hT rfl rfl (ev_opt rfl hg) (ev_opt rfl hg)) rfl rfl ?_
                    refine o_pure rfl rfl (pu_or rfl (ev_tmp rfl) (fun hb => (ev_opt rfl (beq_f hb)))) rfl rfl ?_
                    refine ops_nil ?_
                    refine then_n ?_
                    refine ok_cond (ev_tmp rfl) (fun c10 => ?_) (fun c10 => ?_)
                    · skip
                      refine ok_seq ?_
                      refine ok_region ?_
                      refine o_pure rfl rfl (pu_move (.inr rfl) ev_bool) rfl rfl ?_
                      refine ops_nil ?_
                      refine then_n ?_
                      refine ok_ret ?_
                      refine then_r ?_
                      refine fin1 (res_tmp rfl) (eqB ?_)
                      first | rfl | (exfalso; omega) | (exfalso; simp_all; done) | (exfalso; simp_all; omega)
                    · skip
                      refine ok_skip ?_
                      refine then_n ?_
                      refine ok_seq ?_
                      refine ok_region ?_
                      refine o_pure rfl rfl (pu_move (.inr rfl) (ev_int (inR_lit rfl))) rfl rfl ?_
                      refine ops_nil ?_
                      refine then_n ?_
                      refine ok_seq ?_
                      refine ok_region ?_
                      refine o_pure rfl rfl (pu_loadBoxA hT rfl rfl (ev_tmp rfl) rfl rfl) rfl rfl ?_
                      refine o_pure rfl rfl (pu_move (.inl rfl) (ev_tmp rfl)) rfl rfl ?_
                      refine o_call rfl rfl rfl Try.call43 (ok_laws_heldStore (x := (addN x0 x1 x2).1) rfl (by omega) (by omega)) (as_cons (ev_tmp rfl) (ag_agg (ag_cons ac_dv (ag_cons (ac_key' rfl rfl) (ag_cons ac_dv ag_nil)))) (as_cons (ev_tmp rfl) (ag_one ac_dv) as_nil)) rfl rfl ?_
                      refine o_pure rfl rfl (pu_move (.inr rfl) (ev_tmp rfl)) rfl rfl ?_
                      refine ops_nil ?_
                      refine then_n ?_
                      refine ok_seq ?_
                      refine ok_seq ?_
                      refine ok_region ?_
                      refine o_pure rfl rfl (pu_move (.inl rfl) (ev_tmp rfl)) rfl rfl ?_
                      refine o_pure rfl rfl (pu_lss rfl (ev_tmp rfl) (ev_int (inR_lit rfl))) rfl rfl ?_
                      refine ops_nil ?_
                      refine then_n ?_
                      refine ok_cond (ev_tmp rfl) (fun c11 => ?_) (fun c11 => ?_)
                      · skip
                        have d11 := of_decide_eq_true c11
                        first | have q11 := szR_n d11 | skip
                        refine ok_seq ?_
                        refine ok_region ?_
                        refine o_pure rfl rfl (pu_move (.inr rfl) ev_bool) rfl rfl ?_
                        refine ops_nil ?_
                        refine then_n ?_
                        refine ok_ret ?_
                        refine then_r ?_
                        refine fin1 (res_tmp rfl) (eqB ?_)
                        first | rfl | (exfalso; omega) | (exfalso; simp_all; done) | (exfalso; simp_all; omega)
                      · skip
                        have d11 := of_decide_eq_false c11
                        first | have q11 := szR_nn d11 | skip
                        refine ok_skip ?_
                        refine then_n ?_
                        refine ok_seq ?_
                        refine ok_seq ?_
                        refine ok_region ?_
                        refine o_pure rfl rfl (pu_move (.inl rfl) (ev_tmp rfl)) rfl rfl ?_
                        refine o_pure rfl rfl (pu_move (.inl rfl) (ev_tmp rfl)) rfl rfl ?_
                        refine o_pure rfl rfl (pu_neq rfl (ev_tmp rfl) (ev_tmp rfl)) rfl rfl ?_
                        refine ops_nil ?_
                        refine then_n ?_
                        refine ok_cond (ev_tmp rfl) (fun c12 => ?_) (fun c12 => ?_)
                        · skip
                          have d12 := nd_t c12
                          refine ok_seq ?_
                          refine ok_region ?_
                          refine o_pure rfl rfl (pu_move (.inr rfl) ev_bool) rfl rfl ?_
                          refine ops_nil ?_
                          refine then_n ?_
                          refine ok_ret ?_
                          refine then_r ?_
                          refine fin1 (res_tmp rfl) (eqB ?_)
                          first | rfl | (exfalso; omega) | (exfalso; simp_all; done) | (exfalso; simp_all; omega)
                        · skip
                          have d12 := nd_f c12
                          refine ok_skip ?_
                          refine then_n ?_
                          refine ok_seq ?_
                          refine ok_region ?_
                          refine o_pure rfl rfl (pu_move (.inr rfl) ev_bool) rfl rfl ?_
                          refine ops_nil ?_
                          refine then_n ?_
                          refine ok_ret ?_
                          refine fin1 (res_tmp rfl) (eqB ?_)
                          first | rfl | (exfalso; omega) | (exfalso; simp_all; done) | (exfalso; simp_all; omega)
end Go.Proofs.Ytbmgommbmhmbgaa
