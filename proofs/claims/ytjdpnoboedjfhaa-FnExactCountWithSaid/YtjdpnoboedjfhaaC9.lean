/-
  Items with a field, counted.
-/
import Derived.Test.YtjdpnoboedjfhaaC8
namespace Go.Proofs.Ytjdpnoboedjfhaa
open Go.RowKit
open Go.Proofs
set_option linter.unusedVariables false
set_option linter.unusedSimpArgs false
set_option maxRecDepth 100000 in
theorem ok_impl_CountWith {x : StoreT} {f : Str} {n : Int} (hb : wStore x ≤ 1048576) : PFn Try.prog 32 [.agg [(.dv [] (.str (x.1))), (.dv [] (itemsD (x.2.1))), (.dv [] (.int .i64 (x.2.2)))], .one (.dv [] (.str (f))), .one (.dv [] (.int .i64 (n)))] (.one (.dv [] (.int .i64 (((x.2.1.filter (hasF f n)).length : Int))))) := by
  refine ⟨fn_intro Try.func32 rfl Try.ntmps32 Try.results32 rfl (fun C => ?_)⟩
  refine ok_factA (x := .tmp 0) 0 (ev_tmp rfl) rfl (fun (f0_0 : (x.1).size ≤ 9223372036854775807) => ?_)
  refine ok_factA (x := .tmp 0) 1 (ev_tmp rfl) rfl (fun (f0_1 : ((x.2.1)).length ≤ 9223372036854775807) => ?_)
  refine ok_factA (x := .tmp 0) 2 (ev_tmp rfl) rfl (fun (f0_2 : -9223372036854775808 ≤ (x.2.2) ∧ (x.2.2) ≤ 9223372036854775807) => ?_)
  refine ok_fact (x := .tmp 1) (ev_tmp rfl) (fun (f1 : (f).size ≤ 9223372036854775807) => ?_)
  refine ok_fact (x := .tmp 2) (ev_tmp rfl) (fun (f2 : -9223372036854775808 ≤ (n) ∧ (n) ≤ 9223372036854775807) => ?_)
  refine ok_seq ?_
  refine ok_region ?_
  refine o_box rfl rfl rfl (ev_tmp rfl) rfl rfl rfl rfl ?_
  refine o_pure rfl rfl (pu_move (.inr rfl) (ev_int (inR_lit rfl))) rfl rfl ?_
  refine ops_nil ?_
  refine then_n ?_
  refine ok_seq ?_
  refine ok_region ?_
  refine o_pure rfl rfl (pu_loadBoxA hT rfl rfl (ev_tmp rfl) rfl rfl) rfl rfl ?_
  refine o_pure rfl rfl (pu_move (.inl rfl) (ev_tmp rfl)) rfl rfl ?_
  refine o_pure rfl rfl (pu_move (.inl rfl) (ev_tmp rfl)) rfl rfl ?_
  refine o_callK 10000 rfl rfl rfl Try.call35 (ok_impl_ItemsWith (by omega)) (as_cons (ev_tmp rfl) (ag_agg (ag_cons ac_dv (ag_cons ac_dv (ag_cons ac_dv ag_nil)))) (as_cons (ev_tmp rfl) (ag_one ac_dv) (as_cons (ev_tmp rfl) (ag_one ac_dv) as_nil))) rfl rfl rfl ?_
  refine o_pure rfl rfl (pu_lenK hT rfl rfl (ev_tmp rfl) rfl) rfl rfl ?_
  refine o_pure rfl rfl (pu_move (.inr rfl) (ev_tmp rfl)) rfl rfl ?_
  refine ops_nil ?_
  refine then_n ?_
  refine ok_ret ?_
  refine fin1 (res_tmp rfl) (eqI ?_)
  rfl
set_option maxRecDepth 100000 in
theorem ok_spec_CountWith {x : StoreT} {f : Str} {n : Int} (hb : wStore x ≤ 1048576) : PFn Try.prog 30 [.agg [(.dv [] (.str (x.1))), (.dv [] (itemsD (x.2.1))), (.dv [] (.int .i64 (x.2.2)))], .one (.dv [] (.str (f))), .one (.dv [] (.int .i64 (n)))] (.one (.dv [] (.int .i64 (((x.2.1.filter (hasF f n)).length : Int))))) := by
  refine ⟨fn_intro Try.func30 rfl Try.ntmps30 Try.results30 rfl (fun C => ?_)⟩
  refine ok_factA (x := .tmp 0) 0 (ev_tmp rfl) rfl (fun (f0_0 : (x.1).size ≤ 9223372036854775807) => ?_)
  refine ok_factA (x := .tmp 0) 1 (ev_tmp rfl) rfl (fun (f0_1 : ((x.2.1)).length ≤ 9223372036854775807) => ?_)
  refine ok_factA (x := .tmp 0) 2 (ev_tmp rfl) rfl (fun (f0_2 : -9223372036854775808 ≤ (x.2.2) ∧ (x.2.2) ≤ 9223372036854775807) => ?_)
  refine ok_fact (x := .tmp 1) (ev_tmp rfl) (fun (f1 : (f).size ≤ 9223372036854775807) => ?_)
  refine ok_fact (x := .tmp 2) (ev_tmp rfl) (fun (f2 : -9223372036854775808 ≤ (n) ∧ (n) ≤ 9223372036854775807) => ?_)
  refine ok_seq ?_
  refine ok_region ?_
  refine o_box rfl rfl rfl (ev_tmp rfl) rfl rfl rfl rfl ?_
  refine o_pure rfl rfl (pu_move (.inr rfl) (ev_int (inR_lit rfl))) rfl rfl ?_
  refine ops_nil ?_
  refine then_n ?_
  refine ok_seq ?_
  refine ok_region ?_
  refine o_pure rfl rfl (pu_loadBoxA hT rfl rfl (ev_tmp rfl) rfl rfl) rfl rfl ?_
  refine o_pure rfl rfl (pu_move (.inl rfl) (ev_tmp rfl)) rfl rfl ?_
  refine o_pure rfl rfl (pu_move (.inl rfl) (ev_tmp rfl)) rfl rfl ?_
  refine o_callK 10000 rfl rfl rfl Try.call34 (ok_spec_ItemsWith (by omega)) (as_cons (ev_tmp rfl) (ag_agg (ag_cons ac_dv (ag_cons ac_dv (ag_cons ac_dv ag_nil)))) (as_cons (ev_tmp rfl) (ag_one ac_dv) (as_cons (ev_tmp rfl) (ag_one ac_dv) as_nil))) rfl rfl rfl ?_
  refine o_pure rfl rfl (pu_lenK hT rfl rfl (ev_tmp rfl) rfl) rfl rfl ?_
  refine o_pure rfl rfl (pu_move (.inr rfl) (ev_tmp rfl)) rfl rfl ?_
  refine ops_nil ?_
  refine then_n ?_
  refine ok_ret ?_
  refine fin1 (res_tmp rfl) (eqI ?_)
  rfl
set_option maxRecDepth 100000 in
theorem ok_laws_FnExactCountWith {x0 : StoreT} {x1 : Str} {x2 : Int}  : PFn Try.prog 7 [.agg [(.dv [] (.str (x0.1))), (.dv [] (itemsD (x0.2.1))), (.dv [] (.int .i64 (x0.2.2)))], .one (.dv [] (.str (x1))), .one (.dv [] (.int .i64 (x2)))] (.one (.dv [] (.bool (true)))) := by
  refine ⟨fn_intro Try.func7 rfl Try.ntmps7 Try.results7 rfl (fun C => ?_)⟩
  refine ok_factA (x := .tmp 0) 0 (ev_tmp rfl) rfl (fun (f0_0 : (x0.1).size ≤ 9223372036854775807) => ?_)
  refine ok_factA (x := .tmp 0) 1 (ev_tmp rfl) rfl (fun (f0_1 : ((x0.2.1)).length ≤ 9223372036854775807) => ?_)
  refine ok_factA (x := .tmp 0) 2 (ev_tmp rfl) rfl (fun (f0_2 : -9223372036854775808 ≤ (x0.2.2) ∧ (x0.2.2) ≤ 9223372036854775807) => ?_)
  refine ok_fact (x := .tmp 1) (ev_tmp rfl) (fun (f1 : (x1).size ≤ 9223372036854775807) => ?_)
  refine ok_fact (x := .tmp 2) (ev_tmp rfl) (fun (f2 : -9223372036854775808 ≤ (x2) ∧ (x2) ≤ 9223372036854775807) => ?_)
  refine ok_seq ?_
  refine ok_region ?_
  refine o_box rfl rfl rfl (ev_tmp rfl) rfl rfl rfl rfl ?_
  refine o_pure rfl rfl (pu_move (.inr rfl) ev_bool) rfl rfl ?_
  refine ops_nil ?_
  refine then_n ?_
  refine ok_seq ?_
  refine ok_seq ?_
  refine ok_region ?_
  refine o_pure rfl rfl (pu_move (.inl rfl) (ev_tmp rfl)) rfl rfl ?_
  refine o_pure rfl rfl (pu_lenS hT rfl rfl (ev_tmp rfl)) rfl rfl ?_
  refine o_pure rfl rfl (pu_gtr rfl (ev_tmp rfl) (ev_int (inR_lit rfl))) rfl rfl ?_
  refine ops_nil ?_
  refine then_n ?_
  refine ok_cond (ev_tmp rfl) (fun c1 => ?_) (fun c1 => ?_)
  · skip
    have d1 := of_decide_eq_true c1
    first | have q1 := szR_n d1 | skip
    refine ok_seq ?_
    refine ok_region ?_
    refine o_pure rfl rfl (pu_move (.inr rfl) ev_bool) rfl rfl ?_
    refine ops_nil ?_
    refine then_n ?_
    refine ok_ret ?_
    refine then_r ?_
    refine fin1 (res_tmp rfl) (eqB ?_)
    first | rfl | (exfalso; simp_all)
  · skip
    have d1 := of_decide_eq_false c1
    first | have q1 := szR_nn d1 | skip
    refine ok_skip ?_
    refine then_n ?_
    refine ok_seq ?_
    refine ok_region ?_
    refine o_pure rfl rfl (pu_move (.inr rfl) (ev_int (inR_lit rfl))) rfl rfl ?_
    refine ops_nil ?_
    refine then_n ?_
    refine ok_seq ?_
    refine ok_region ?_
    refine o_pure rfl rfl (pu_loadBoxA hT rfl rfl (ev_tmp rfl) rfl rfl) rfl rfl ?_
    refine o_pure rfl rfl (pu_move (.inl rfl) (ev_tmp rfl)) rfl rfl ?_
    refine o_call rfl rfl rfl Try.call29 (ok_laws_szStore (by omega) (by omega)) (as_cons (ev_tmp rfl) (ag_agg (ag_cons ac_dv (ag_cons ac_dv (ag_cons ac_dv ag_nil)))) (as_cons (ev_tmp rfl) (ag_one ac_dv) as_nil)) rfl rfl ?_
    refine o_pure rfl rfl (pu_move (.inr rfl) (ev_tmp rfl)) rfl rfl ?_
    refine ops_nil ?_
    refine then_n ?_
    refine ok_seq ?_
    refine ok_seq ?_
    refine ok_region ?_
    refine o_pure rfl rfl (pu_move (.inl rfl) (ev_tmp rfl)) rfl rfl ?_
    refine o_pure rfl rfl (pu_lss rfl (ev_tmp rfl) (ev_int (inR_lit rfl))) rfl rfl ?_
    refine ops_nil ?_
    refine then_n ?_
    refine ok_cond (ev_tmp rfl) (fun c2 => ?_) (fun c2 => ?_)
    · skip
      have d2 := of_decide_eq_true c2
      first | have q2 := szR_n d2 | skip
      refine ok_seq ?_
      refine ok_region ?_
      refine o_pure rfl rfl (pu_move (.inr rfl) ev_bool) rfl rfl ?_
      refine ops_nil ?_
      refine then_n ?_
      refine ok_ret ?_
      refine then_r ?_
      refine fin1 (res_tmp rfl) (eqB ?_)
      first | rfl | (exfalso; simp_all)
    · skip
      have d2 := of_decide_eq_false c2
      first | have q2 := szR_nn d2 | skip
      refine ok_skip ?_
      refine then_n ?_
      refine ok_seq ?_
      refine ok_region ?_
      refine o_pure rfl rfl (pu_loadBoxA hT rfl rfl (ev_tmp rfl) rfl rfl) rfl rfl ?_
      refine o_callK 20000 rfl rfl rfl Try.call31 (ok_laws_toStore (by first | omega | (simp only [wKey, wField, wRecord, wItem, wStore, wIndexDef, wDatabase, wOp, wTx, wTxQueue] at hb ⊢; omega) | (have hq := hw (by omega); omega))) (as_cons (ev_tmp rfl) (ag_agg (ag_cons ac_dv (ag_cons ac_dv (ag_cons ac_dv ag_nil)))) as_nil) rfl rfl rfl ?_
      refine o_pure rfl rfl (pu_move (.inl rfl) (ev_tmp rfl)) rfl rfl ?_
      refine o_pure rfl rfl (pu_move (.inl rfl) (ev_tmp rfl)) rfl rfl ?_
      refine o_call rfl rfl rfl Try.call30 (ok_spec_CountWith (by omega)) (as_cons (ev_tmp rfl) (ag_agg (ag_cons ac_dv (ag_cons (ac_key' rfl rfl) (ag_cons ac_dv ag_nil)))) (as_cons (ev_tmp rfl) (ag_one ac_dv) (as_cons (ev_tmp rfl) (ag_one ac_dv) as_nil))) rfl rfl ?_
      refine o_pure rfl rfl (pu_move (.inr rfl) (ev_tmp rfl)) rfl rfl ?_
      refine ops_nil ?_
      refine then_n ?_
      refine ok_seq ?_
      refine ok_region ?_
      refine o_pure rfl rfl (pu_loadBoxA hT rfl rfl (ev_tmp rfl) rfl rfl) rfl rfl ?_
      refine o_callK 25000 rfl rfl rfl Try.call31 (ok_laws_toStore (by first | omega | (simp only [wKey, wField, wRecord, wItem, wStore, wIndexDef, wDatabase, wOp, wTx, wTxQueue] at hb ⊢; omega) | (have hq := hw (by omega); omega))) (as_cons (ev_tmp rfl) (ag_agg (ag_cons ac_dv (ag_cons ac_dv (ag_cons ac_dv ag_nil)))) as_nil) rfl rfl rfl ?_
      refine o_alloc hT rfl rfl rfl rfl rfl rfl ?_
      refine o_store hT rfl rfl rfl rfl (ev_tmp rfl) (ev_tmp rfl) rfl rfl rfl rfl rfl rfl ?_
      refine ops_nil ?_
      refine then_n ?_
      refine ok_seq ?_
      refine ok_region ?_
      refine o_pure rfl rfl (pu_loadBoxA hT rfl rfl (ev_tmp rfl) rfl rfl) rfl rfl ?_
      refine o_pure rfl rfl (pu_move (.inl rfl) (ev_tmp rfl)) rfl rfl ?_
      refine o_pure rfl rfl (pu_move (.inl rfl) (ev_tmp rfl)) rfl rfl ?_
      refine o_call rfl rfl rfl Try.call32 (ok_impl_CountWith (by omega)) (as_cons (ev_tmp rfl) (ag_agg (ag_cons ac_dv (ag_cons (ac_key' rfl rfl) (ag_cons ac_dv ag_nil)))) (as_cons (ev_tmp rfl) (ag_one ac_dv) (as_cons (ev_tmp rfl) (ag_one ac_dv) as_nil))) rfl rfl ?_
      refine o_pure rfl rfl (pu_move (.inr rfl) (ev_tmp rfl)) rfl rfl ?_
      refine ops_nil ?_
      refine then_n ?_
      refine ok_seq ?_
      refine ok_seq ?_
      refine ok_region ?_
      refine o_pure rfl rfl (pu_move (.inl rfl) (ev_tmp rfl)) rfl rfl ?_
      refine o_pure rfl rfl (pu_move (.inl rfl) (ev_tmp rfl)) rfl rfl ?_
      refine o_pure rfl rfl (pu_neq rfl (ev_tmp rfl) (ev_tmp rfl)) rfl rfl ?_
      refine ops_nil ?_
      refine then_n ?_
      refine ok_cond (ev_tmp rfl) (fun c3 => ?_) (fun c3 => ?_)
      · skip
        have d3 := nd_t c3
        refine ok_seq ?_
        refine ok_region ?_
        refine o_pure rfl rfl (pu_move (.inr rfl) ev_bool) rfl rfl ?_
        refine ops_nil ?_
        refine then_n ?_
        refine ok_ret ?_
        refine then_r ?_
        refine fin1 (res_tmp rfl) (eqB ?_)
        first | rfl | (exfalso; simp_all)
      · skip
        have d3 := nd_f c3
        refine ok_skip ?_
        refine then_n ?_
        refine ok_seq ?_
        refine ok_seq ?_
        refine ok_regionD (oB := [3, 9]) (oK := [29007, 34007]) (by kernel_rfl) rfl rfl ?_
        refine d_take 0 rfl (by kernel_rfl) rfl rfl (pu_loadBoxA hT rfl rfl (ev_tmp rfl) rfl rfl) rfl rfl rfl rfl ?_
        refine d_take 1 rfl (by kernel_rfl) rfl rfl (pu_loadBoxA hT rfl rfl (ev_tmp rfl) rfl rfl) rfl rfl rfl rfl ?_
        refine d_callK 35000 2 rfl (by kernel_rfl) rfl rfl rfl Try.call31 (ok_laws_toStore (by first | omega | (simp only [wKey, wField, wRecord, wItem, wStore, wIndexDef, wDatabase, wOp, wTx, wTxQueue] at hb ⊢; omega) | (have hq := hw (by omega); omega))) (as_cons (ev_tmp rfl) (ag_agg (ag_cons ac_dv (ag_cons ac_dv (ag_cons ac_dv ag_nil)))) as_nil) rfl rfl rfl rfl rfl ?_
        refine d_call 3 rfl (by kernel_rfl) rfl rfl rfl Try.call33 ok_laws_eqStore (as_cons (ev_tmp rfl) (ag_agg (ag_cons ac_dv (ag_cons (ac_key' rfl rfl) (ag_cons ac_dv ag_nil)))) (as_cons (ev_tmp rfl) (ag_agg (ag_cons ac_dv (ag_cons (ac_key' rfl rfl) (ag_cons ac_dv ag_nil)))) as_nil)) rfl rfl rfl rfl ?_
        refine d_take 4 rfl (by kernel_rfl) rfl rfl (pu_not rfl (ev_tmp rfl)) rfl rfl rfl rfl ?_
        refine d_done (by kernel_rfl) ?_
        refine then_n ?_
        refine ok_cond (ev_tmp rfl) (fun c4 => ?_) (fun c4 => ?_)
        · skip
          refine ok_seq ?_
          refine ok_region ?_
          refine o_pure rfl rfl (pu_move (.inr rfl) ev_bool) rfl rfl ?_
          refine ops_nil ?_
          refine then_n ?_
          refine ok_ret ?_
          refine then_r ?_
          refine fin1 (res_tmp rfl) (eqB ?_)
          first | rfl | (exfalso; simp_all)
        · skip
          refine ok_skip ?_
          refine then_n ?_
          refine ok_seq ?_
          refine ok_region ?_
          refine o_pure rfl rfl (pu_move (.inr rfl) ev_bool) rfl rfl ?_
          refine ops_nil ?_
          refine then_n ?_
          refine ok_ret ?_
          refine fin1 (res_tmp rfl) (eqB ?_)
          first | rfl | (exfalso; simp_all)
end Go.Proofs.Ytjdpnoboedjfhaa
