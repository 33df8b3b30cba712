/-
  The law of PutItem.
-/
import Derived.Test.YtbmgommbmhmbgaaI3
import Derived.Test.YtbmgommbmhmbgaaH2
namespace Go.Proofs.Ytbmgommbmhmbgaa
open Go.RowKit
open Go.Proofs
set_option linter.unusedVariables false
set_option linter.unusedSimpArgs false

theorem setI_w {l : List ItemT} {i : Nat} {r : RecT} (hi : i < l.length) : wSum wItem (setI l i r) ≤ wSum wItem l + wRecord r := by
  have e : l = l.take i ++ l.getD i default :: l.drop (i + 1) := by rw [← drop_cons hi, List.take_append_drop]
  have e2 : setI l i r = l.take i ++ ((l.getD i default).1, r) :: l.drop (i + 1) := by rw [setI, List.set_eq_take_append_cons_drop, if_pos hi]
  have h1 : wSum wItem l = wSum wItem (l.take i) + (wItem (l.getD i default) + wSum wItem (l.drop (i + 1))) := by
    conv => lhs; rw [e]
    simp [wSum]
  have h2 : wSum wItem (setI l i r) = wSum wItem (l.take i) + (wItem ((l.getD i default).1, r) + wSum wItem (l.drop (i + 1))) := by
    rw [e2]; simp [wSum]
  have h3 : wItem ((l.getD i default).1, r) = wKey (l.getD i default).1 + wRecord r := rfl
  have h4 : wItem (l.getD i default) = wKey (l.getD i default).1 + wRecord (l.getD i default).2 := rfl
  omega
theorem putN_w (x : StoreT) (k : KeyT) (r : RecT) : wStore (putN x k r).1 ≤ wStore x + wKey k + wRecord r + 1 := by
  have hx : wStore x = x.1.size + (x.2.1.length + wSum wItem x.2.1) := rfl
  unfold putN
  split
  · show wStore x ≤ _; omega
  · split
    · rename_i h
      have hl := fndK_lt h
      have h2 := setI_w (l := x.2.1) (i := (fndK x k).toNat) (r := r) (by omega)
      have h3 : wStore (x.1, setI x.2.1 (fndK x k).toNat r, x.2.2) = x.1.size + ((setI x.2.1 (fndK x k).toNat r).length + wSum wItem (setI x.2.1 (fndK x k).toNat r)) := rfl
      rw [setI_len] at h3
      show wStore (x.1, setI x.2.1 (fndK x k).toNat r, x.2.2) ≤ _
      omega
    · split
      · show wStore x ≤ _; omega
      · have h2 := insI_w (o := x.2.1) (j := posK k x.2.1) (y := (k, r))
        have h3 : wStore (x.1, insI x.2.1 (posK k x.2.1) (k, r), autoP x k) = x.1.size + ((insI x.2.1 (posK k x.2.1) (k, r)).length + wSum wItem (insI x.2.1 (posK k x.2.1) (k, r))) := rfl
        have h4 : wItem (k, r) = wKey k + wRecord r := rfl
        rw [insI_len] at h3
        show wStore (x.1, insI x.2.1 (posK k x.2.1) (k, r), autoP x k) ≤ _
        omega

set_option maxRecDepth 100000 in
theorem ok_laws_FnExactPutItem {x0 : StoreT} {x1 : KeyT} {x2 : RecT}  : PFn Try.prog 8 [.agg [(.dv [] (.str (x0.1))), (.dv [] (itemsD (x0.2.1))), (.dv [] (.int .i64 (x0.2.2)))], .agg [(.dv [] (.int .i64 (x1.1))), (.dv [] (.int .i64 (x1.2.1))), (.dv [] (.str (x1.2.2)))], .agg [(.dv [] (fieldsD (x2)))]] (.one (.dv [] (.bool (true)))) := by
  refine ⟨fn_intro Try.func8 rfl Try.ntmps8 Try.results8 rfl (fun C => ?_)⟩
  have hpw := putN_w x0 x1 x2
  have : wStore x0 = (x0.1).size + wList wItem (x0.2.1) := rfl
  have : wList wItem (x0.2.1) = (x0.2.1).length + wSum wItem (x0.2.1) := rfl
  have : wKey x1 = (x1.2.2).size := rfl
  have : wRecord x2 = wList wField (x2) := rfl
  have : wList wField (x2) = (x2).length + wSum wField (x2) := rfl
  have := wSum_bound cItem_le (x0.2.1)
  have := wSum_bound cField_le (x2)
  have : wStore (putN x0 x1 x2).1 = ((putN x0 x1 x2).1.1).size + wList wItem ((putN x0 x1 x2).1.2.1) := rfl
  have : wList wItem ((putN x0 x1 x2).1.2.1) = ((putN x0 x1 x2).1.2.1).length + wSum wItem ((putN x0 x1 x2).1.2.1) := rfl
  have := wSum_bound cItem_le ((putN x0 x1 x2).1.2.1)
  refine ok_factA (x := .tmp 0) 0 (ev_tmp rfl) rfl (fun (f0_0 : (x0.1).size ≤ 9223372036854775807) => ?_)
  refine ok_factA (x := .tmp 0) 1 (ev_tmp rfl) rfl (fun (f0_1 : ((x0.2.1)).length ≤ 9223372036854775807) => ?_)
  refine ok_factA (x := .tmp 0) 2 (ev_tmp rfl) rfl (fun (f0_2 : -9223372036854775808 ≤ (x0.2.2) ∧ (x0.2.2) ≤ 9223372036854775807) => ?_)
  refine ok_factA (x := .tmp 1) 0 (ev_tmp rfl) rfl (fun (f1_0 : -9223372036854775808 ≤ (x1.1) ∧ (x1.1) ≤ 9223372036854775807) => ?_)
  refine ok_factA (x := .tmp 1) 1 (ev_tmp rfl) rfl (fun (f1_1 : -9223372036854775808 ≤ (x1.2.1) ∧ (x1.2.1) ≤ 9223372036854775807) => ?_)
  refine ok_factA (x := .tmp 1) 2 (ev_tmp rfl) rfl (fun (f1_2 : (x1.2.2).size ≤ 9223372036854775807) => ?_)
  refine ok_factA (x := .tmp 2) 0 (ev_tmp rfl) rfl (fun (f2_0 : ((x2)).length ≤ 9223372036854775807) => ?_)
  refine ok_seq ?_
  refine ok_region ?_
  refine o_box rfl rfl rfl (ev_tmp rfl) rfl rfl rfl rfl ?_
  refine o_box rfl rfl rfl (ev_tmp rfl) rfl rfl rfl rfl ?_
  refine o_box rfl rfl rfl (ev_tmp rfl) rfl rfl rfl rfl ?_
  refine o_pure rfl rfl (pu_move (.inr rfl) ev_bool) rfl rfl ?_
  refine ops_nil ?_
  refine then_n ?_
  refine ok_seq ?_
  refine ok_region ?_
  refine o_pure rfl rfl (pu_move (.inr rfl) (ev_int (inR_lit rfl))) rfl rfl ?_
  refine ops_nil ?_
  refine then_n ?_
  refine ok_seq ?_
  refine ok_region ?_
  refine o_pure rfl rfl (pu_loadBoxA hT rfl rfl (ev_tmp rfl) rfl rfl) rfl rfl ?_
  refine o_pure rfl rfl (pu_move (.inl rfl) (ev_tmp rfl)) rfl rfl ?_
  refine o_call rfl rfl rfl Try.call11 (ok_laws_szStore (by omega) (by omega)) (as_cons (ev_tmp rfl) (ag_agg (ag_cons ac_dv (ag_cons ac_dv (ag_cons ac_dv ag_nil)))) (as_cons (ev_tmp rfl) (ag_one ac_dv) as_nil)) rfl rfl ?_
  refine o_pure rfl rfl (pu_move (.inr rfl) (ev_tmp rfl)) rfl rfl ?_
  refine ops_nil ?_
  refine then_n ?_
  refine ok_seq ?_
  refine ok_seq ?_
  refine ok_region ?_
  refine o_pure rfl rfl (pu_move (.inl rfl) (ev_tmp rfl)) rfl rfl ?_
  refine o_pure rfl rfl (pu_lss rfl (ev_tmp rfl) (ev_int (inR_lit rfl))) rfl rfl ?_
  refine ops_nil ?_
  refine then_n ?_
  refine ok_cond (ev_tmp rfl) (fun c1 => ?_) (fun c1 => ?_)
  · skip
    have d1 := of_decide_eq_true c1
    first | have q1 := szR_n d1 | skip
    refine ok_seq ?_
    refine ok_region ?_
    refine o_pure rfl rfl (pu_move (.inr rfl) ev_bool) rfl rfl ?_
    refine ops_nil ?_
    refine then_n ?_
    refine ok_ret ?_
    refine then_r ?_
    refine fin1 (res_tmp rfl) (eqB ?_)
    first | rfl | (exfalso; omega) | (exfalso; simp_all; done) | (exfalso; simp_all; omega)
  · skip
    have d1 := of_decide_eq_false c1
    first | have q1 := szR_nn d1 | skip
    refine ok_skip ?_
    refine then_n ?_
    refine ok_seq ?_
    refine ok_region ?_
    refine o_pure rfl rfl (pu_loadBoxA hT rfl rfl (ev_tmp rfl) rfl rfl) rfl rfl ?_
    refine o_pure rfl rfl (pu_move (.inl rfl) (ev_tmp rfl)) rfl rfl ?_
    refine o_call rfl rfl rfl Try.call35 (ok_laws_szKey (by omega) (by omega)) (as_cons (ev_tmp rfl) (ag_agg (ag_cons ac_dv (ag_cons ac_dv (ag_cons ac_dv ag_nil)))) (as_cons (ev_tmp rfl) (ag_one ac_dv) as_nil)) rfl rfl ?_
    refine o_pure rfl rfl (pu_move (.inr rfl) (ev_tmp rfl)) rfl rfl ?_
    refine ops_nil ?_
    refine then_n ?_
    refine ok_seq ?_
    refine ok_seq ?_
    refine ok_region ?_
    refine o_pure rfl rfl (pu_move (.inl rfl) (ev_tmp rfl)) rfl rfl ?_
    refine o_pure rfl rfl (pu_lss rfl (ev_tmp rfl) (ev_int (inR_lit rfl))) rfl rfl ?_
    refine ops_nil ?_
    refine then_n ?_
    refine ok_cond (ev_tmp rfl) (fun c2 => ?_) (fun c2 => ?_)
    · skip
      have d2 := of_decide_eq_true c2
      first | have q2 := szR_n d2 | skip
      refine ok_seq ?_
      refine ok_region ?_
      refine o_pure rfl rfl (pu_move (.inr rfl) ev_bool) rfl rfl ?_
      refine ops_nil ?_
      refine then_n ?_
      refine ok_ret ?_
      refine then_r ?_
      refine fin1 (res_tmp rfl) (eqB ?_)
      first | rfl | (exfalso; omega) | (exfalso; simp_all; done) | (exfalso; simp_all; omega)
    · skip
      have d2 := of_decide_eq_false c2
      first | have q2 := szR_nn d2 | skip
      refine ok_skip ?_
      refine then_n ?_
      refine ok_seq ?_
      refine ok_region ?_
      refine o_pure rfl rfl (pu_loadBoxA hT rfl rfl (ev_tmp rfl) rfl rfl) rfl rfl ?_
      refine o_pure rfl rfl (pu_move (.inl rfl) (ev_tmp rfl)) rfl rfl ?_
      refine o_call rfl rfl rfl Try.call36 (ok_laws_szRecord (by omega) (by omega)) (as_cons (ev_tmp rfl) (ag_agg (ag_cons ac_dv ag_nil)) (as_cons (ev_tmp rfl) (ag_one ac_dv) as_nil)) rfl rfl ?_
      refine o_pure rfl rfl (pu_move (.inr rfl) (ev_tmp rfl)) rfl rfl ?_
      refine ops_nil ?_
      refine then_n ?_
      refine ok_seq ?_
      refine ok_seq ?_
      refine ok_region ?_
      refine o_pure rfl rfl (pu_move (.inl rfl) (ev_tmp rfl)) rfl rfl ?_
      refine o_pure rfl rfl (pu_lss rfl (ev_tmp rfl) (ev_int (inR_lit rfl))) rfl rfl ?_
      refine ops_nil ?_
      refine then_n ?_
      refine ok_cond (ev_tmp rfl) (fun c3 => ?_) (fun c3 => ?_)
      · skip
        have d3 := of_decide_eq_true c3
        first | have q3 := szR_n d3 | skip
        refine ok_seq ?_
        refine ok_region ?_
        refine o_pure rfl rfl (pu_move (.inr rfl) ev_bool) rfl rfl ?_
        refine ops_nil ?_
        refine then_n ?_
        refine ok_ret ?_
        refine then_r ?_
        refine fin1 (res_tmp rfl) (eqB ?_)
        first | rfl | (exfalso; omega) | (exfalso; simp_all; done) | (exfalso; simp_all; omega)
      · skip
        have d3 := of_decide_eq_false c3
        first | have q3 := szR_nn d3 | skip
        refine ok_skip ?_
        refine then_n ?_
        refine ok_seq ?_
        refine ok_regionD (oB := [3, 4, 5]) (oK := []) (by kernel_rfl) rfl rfl ?_
        refine d_take 0 rfl (by kernel_rfl) rfl rfl (pu_loadBoxA hT rfl rfl (ev_tmp rfl) rfl rfl) rfl rfl rfl rfl ?_
        refine d_take 2 rfl (by kernel_rfl) rfl rfl (pu_loadBoxA hT rfl rfl (ev_tmp rfl) rfl rfl) rfl rfl rfl rfl ?_
        refine d_take 4 rfl (by kernel_rfl) rfl rfl (pu_loadBoxA hT rfl rfl (ev_tmp rfl) rfl rfl) rfl rfl rfl rfl ?_
        refine d_vars (A := [(10, 8, 29, _)]) hT ⟨⟨_, _, rfl⟩, rfl, trivial⟩ ?_
        refine a_callK 36000 1 rfl (by kernel_rfl) rfl rfl rfl (vok hT ⟨⟨_, _, rfl⟩, rfl, trivial⟩ (by kernel_rfl) (by kernel_rfl)) (vok hT ⟨⟨_, _, rfl⟩, rfl, trivial⟩ (by kernel_rfl) (by kernel_rfl)) rfl Try.call13 (ok_laws_toStore (by first | omega | (simp only [wKey, wField, wRecord, wItem, wStore, wIndexDef, wDatabase, wOp, wTx, wTxQueue] at hb ⊢; omega) | (have hq := hw (by omega); omega))) (as_cons (ev_tmp rfl) (ag_agg (ag_cons ac_dv (ag_cons ac_dv (ag_cons ac_dv ag_nil)))) as_nil) rfl rfl rfl rfl rfl ?_
        refine a_call 3 rfl (by kernel_rfl) rfl rfl rfl (vok hT ⟨⟨_, _, rfl⟩, rfl, trivial⟩ (by kernel_rfl) (by kernel_rfl)) (vok hT ⟨⟨_, _, rfl⟩, rfl, trivial⟩ (by kernel_rfl) (by kernel_rfl)) rfl Try.call38 ok_laws_toKey (as_cons (ev_tmp rfl) (ag_agg (ag_cons ac_dv (ag_cons ac_dv (ag_cons ac_dv ag_nil)))) as_nil) rfl rfl rfl rfl ?_
        refine a_callK 40000 5 rfl (by kernel_rfl) rfl rfl rfl (vok hT ⟨⟨_, _, rfl⟩, rfl, trivial⟩ (by kernel_rfl) (by kernel_rfl)) (vok hT ⟨⟨_, _, rfl⟩, rfl, trivial⟩ (by kernel_rfl) (by kernel_rfl)) rfl Try.call39 (ok_laws_toRecord (by first | omega | (simp only [wKey, wField, wRecord, wItem, wStore, wIndexDef, wDatabase, wOp, wTx, wTxQueue] at hb ⊢; omega) | (have hq := hw (by omega); omega))) (as_cons (ev_tmp rfl) (ag_agg (ag_cons ac_dv ag_nil)) as_nil) rfl rfl rfl rfl rfl ?_
        refine a_callK 41000 6 rfl (by kernel_rfl) rfl rfl rfl (vok hT ⟨⟨_, _, rfl⟩, rfl, trivial⟩ (by kernel_rfl) (by kernel_rfl)) (vok hT ⟨⟨_, _, rfl⟩, rfl, trivial⟩ (by kernel_rfl) (by kernel_rfl)) rfl Try.call37 (ok_spec_PutItem (by omega) (by omega)) (as_cons (ev_tmp rfl) (ag_agg (ag_cons ac_dv (ag_cons (ac_key' rfl rfl) (ag_cons ac_dv ag_nil)))) (as_cons (ev_tmp rfl) (ag_agg (ag_cons ac_dv (ag_cons ac_dv (ag_cons ac_dv ag_nil)))) (as_cons (ev_tmp rfl) (ag_agg (ag_cons (ac_key' rfl rfl) ag_nil)) as_nil))) rfl rfl rfl rfl rfl ?_
        refine a_take 7 rfl (by kernel_rfl) rfl rfl rfl (vok hT ⟨⟨_, _, rfl⟩, rfl, trivial⟩ (by kernel_rfl) (by kernel_rfl)) (vok hT ⟨⟨_, _, rfl⟩, rfl, trivial⟩ (by kernel_rfl) (by kernel_rfl)) (pu_move (.inl rfl) (ev_tmp rfl)) rfl rfl rfl rfl ?_
        refine a_takeX 8 rfl (by kernel_rfl) rfl rfl rfl rfl (vok hT ⟨⟨_, _, rfl⟩, rfl, trivial⟩ (by kernel_rfl) (by kernel_rfl)) (vok hT ⟨⟨_, _, rfl⟩, rfl, trivial⟩ (by kernel_rfl) (by kernel_rfl)) (pu_extractA rfl (ev_tmp rfl) rfl) rfl rfl ?_
        refine a_takeX 9 rfl (by kernel_rfl) rfl rfl rfl rfl (vok hT ⟨⟨_, _, rfl⟩, rfl, trivial⟩ (by kernel_rfl) (by kernel_rfl)) (vok hT ⟨⟨_, _, rfl⟩, rfl, trivial⟩ (by kernel_rfl) (by kernel_rfl)) (pu_extract1 rfl (ev_tmp rfl) rfl) rfl rfl ?_
        refine a_exit1 (vok hT ⟨⟨_, _, rfl⟩, rfl, trivial⟩ (by kernel_rfl) (by kernel_rfl)) rfl rfl (by kernel_rfl) ?_
        dsimp only [addT, addB]
        refine d_chain [11, 12] rfl rfl (by kernel_rfl) ?_
        refine o_store hT rfl rfl rfl rfl (ev_tmp rfl) (ev_tmp rfl) rfl rfl rfl rfl rfl rfl ?_
        refine o_pure rfl rfl (pu_move (.inr rfl) (ev_tmp rfl)) rfl rfl ?_
        refine ops_nil ?_
        refine then_n ?_
        refine ok_seq ?_
        refine ok_region ?_
        refine o_pure rfl rfl (pu_loadBoxA hT rfl rfl (ev_tmp rfl) rfl rfl) rfl rfl ?_
        refine o_callK 45000 rfl rfl rfl Try.call13 (ok_laws_toStore (by first | omega | (simp only [wKey, wField, wRecord, wItem, wStore, wIndexDef, wDatabase, wOp, wTx, wTxQueue] at hb ⊢; omega) | (have hq := hw (by omega); omega))) (as_cons (ev_tmp rfl) (ag_agg (ag_cons ac_dv (ag_cons ac_dv (ag_cons ac_dv ag_nil)))) as_nil) rfl rfl rfl ?_
        refine o_alloc hT rfl rfl rfl rfl rfl rfl ?_
        refine o_store hT rfl rfl rfl rfl (ev_tmp rfl) (ev_tmp rfl) rfl rfl rfl rfl rfl rfl ?_
        refine ops_nil ?_
        refine then_n ?_
        refine ok_seq ?_
        refine ok_region ?_
        refine o_pure rfl rfl (pu_loadBoxA hT rfl rfl (ev_tmp rfl) rfl rfl) rfl rfl ?_
        refine o_callK 47000 rfl rfl rfl Try.call39 (ok_laws_toRecord (by first | omega | (simp only [wKey, wField, wRecord, wItem, wStore, wIndexDef, wDatabase, wOp, wTx, wTxQueue] at hb ⊢; omega) | (have hq := hw (by omega); omega))) (as_cons (ev_tmp rfl) (ag_agg (ag_cons ac_dv ag_nil)) as_nil) rfl rfl rfl ?_
        refine o_alloc hT rfl rfl rfl rfl rfl rfl ?_
        refine o_store hT rfl rfl rfl rfl (ev_tmp rfl) (ev_tmp rfl) rfl rfl rfl rfl rfl rfl ?_
        refine ops_nil ?_
        refine then_n ?_
        refine ok_seq ?_
        refine ok_regionD (oB := [3, 4, 5, 8, 10, 11]) (oK := [45007, 46007, 50001, 53007, 54007]) (by kernel_rfl) rfl rfl ?_
        refine d_take 0 rfl (by kernel_rfl) rfl rfl (pu_loadBoxA hT rfl rfl (ev_tmp rfl) rfl rfl) rfl rfl rfl rfl ?_
        refine d_take 1 rfl (by kernel_rfl) rfl rfl (pu_loadBoxA hT rfl rfl (ev_tmp rfl) rfl rfl) rfl rfl rfl rfl ?_
        refine d_take 3 rfl (by kernel_rfl) rfl rfl (pu_loadBoxA hT rfl rfl (ev_tmp rfl) rfl rfl) rfl rfl rfl rfl ?_
        refine d_vars (A := [(8, 12, 29, _)]) hT ⟨⟨_, _, rfl⟩, rfl, trivial⟩ ?_
        refine a_call 2 rfl (by kernel_rfl) rfl rfl rfl (vok hT ⟨⟨_, _, rfl⟩, rfl, trivial⟩ (by kernel_rfl) (by kernel_rfl)) (vok hT ⟨⟨_, _, rfl⟩, rfl, trivial⟩ (by kernel_rfl) (by kernel_rfl)) rfl Try.call38 ok_laws_toKey (as_cons (ev_tmp rfl) (ag_agg (ag_cons ac_dv (ag_cons ac_dv (ag_cons ac_dv ag_nil)))) as_nil) rfl rfl rfl rfl ?_
        refine a_callK 53000 4 rfl (by kernel_rfl) rfl rfl rfl (vok hT ⟨⟨_, _, rfl⟩, rfl, trivial⟩ (by kernel_rfl) (by kernel_rfl)) (vok hT ⟨⟨_, _, rfl⟩, rfl, trivial⟩ (by kernel_rfl) (by kernel_rfl)) rfl Try.call40 (ok_impl_PutItem (by omega) (by omega)) (as_cons (ev_tmp rfl) (ag_agg (ag_cons ac_dv (ag_cons (ac_key' rfl rfl) (ag_cons ac_dv ag_nil)))) (as_cons (ev_tmp rfl) (ag_agg (ag_cons ac_dv (ag_cons ac_dv (ag_cons ac_dv ag_nil)))) (as_cons (ev_tmp rfl) (ag_agg (ag_cons (ac_key' rfl rfl) ag_nil)) as_nil))) rfl rfl rfl rfl rfl ?_
        refine a_take 5 rfl (by kernel_rfl) rfl rfl rfl (vok hT ⟨⟨_, _, rfl⟩, rfl, trivial⟩ (by kernel_rfl) (by kernel_rfl)) (vok hT ⟨⟨_, _, rfl⟩, rfl, trivial⟩ (by kernel_rfl) (by kernel_rfl)) (pu_move (.inl rfl) (ev_tmp rfl)) rfl rfl rfl rfl ?_
        refine a_takeX 6 rfl (by kernel_rfl) rfl rfl rfl rfl (vok hT ⟨⟨_, _, rfl⟩, rfl, trivial⟩ (by kernel_rfl) (by kernel_rfl)) (vok hT ⟨⟨_, _, rfl⟩, rfl, trivial⟩ (by kernel_rfl) (by kernel_rfl)) (pu_extractA rfl (ev_tmp rfl) rfl) rfl rfl ?_
        refine a_takeX 7 rfl (by kernel_rfl) rfl rfl rfl rfl (vok hT ⟨⟨_, _, rfl⟩, rfl, trivial⟩ (by kernel_rfl) (by kernel_rfl)) (vok hT ⟨⟨_, _, rfl⟩, rfl, trivial⟩ (by kernel_rfl) (by kernel_rfl)) (pu_extract1 rfl (ev_tmp rfl) rfl) rfl rfl ?_
        refine a_exit1 (vok hT ⟨⟨_, _, rfl⟩, rfl, trivial⟩ (by kernel_rfl) (by kernel_rfl)) rfl rfl (by kernel_rfl) ?_
        dsimp only [addT, addB]
        refine d_chain [9, 10] rfl rfl (by kernel_rfl) ?_
        refine o_store hT rfl rfl rfl rfl (ev_tmp rfl) (ev_tmp rfl) rfl rfl rfl rfl rfl rfl ?_
        refine o_pure rfl rfl (pu_move (.inr rfl) (ev_tmp rfl)) rfl rfl ?_
        refine ops_nil ?_
        refine then_n ?_
        refine ok_seq ?_
        refine ok_seq ?_
        refine ok_region ?_
        refine o_pure rfl rfl (pu_loadBoxA hT rfl rfl (ev_tmp rfl) rfl rfl) rfl rfl ?_
        refine o_pure rfl rfl (pu_loadBoxA hT rfl rfl (ev_tmp rfl) rfl rfl) rfl rfl ?_
        refine o_call rfl rfl rfl Try.call16 ok_laws_eqStore (as_cons (ev_tmp rfl) (ag_agg (ag_cons ac_dv (ag_cons (ac_key' rfl rfl) (ag_cons ac_dv ag_nil)))) (as_cons (ev_tmp rfl) (ag_agg (ag_cons ac_dv (ag_cons (ac_key' rfl rfl) (ag_cons ac_dv ag_nil)))) as_nil)) rfl rfl ?_
        refine o_pure rfl rfl (pu_not rfl (ev_tmp rfl)) rfl rfl ?_
        refine o_pure rfl rfl (pu_move (.inl rfl) (ev_tmp rfl)) rfl rfl ?_
        refine o_pureG (gd_bool rfl rfl rfl rfl rfl) rfl (fun hg => pu_move (.inl rfl) (ev_tmp rfl)) rfl rfl ?_
        refine o_pureG (gd_bool rfl rfl rfl rfl rfl) rfl (fun hg => pu_move (.inl rfl) (ev_tmp rfl)) rfl rfl ?_
        refine o_pureG (gd_bool rfl rfl rfl rfl rfl) rfl (fun hg => pu_bneq hT rfl rfl (ev_opt rfl hg) (ev_opt rfl hg)) rfl rfl ?_
        refine o_pure rfl rfl (pu_or rfl (ev_tmp rfl) (fun hb => (ev_opt rfl (beq_f hb)))) rfl rfl ?_
        refine ops_nil ?_
        refine then_n ?_
        refine ok_cond (ev_tmp rfl) (fun c4 => ?_) (fun c4 => ?_)
        · skip
          refine ok_seq ?_
          refine ok_region ?_
          refine o_pure rfl rfl (pu_move (.inr rfl) ev_bool) rfl rfl ?_
          refine ops_nil ?_
          refine then_n ?_
          refine ok_ret ?_
          refine then_r ?_
          refine fin1 (res_tmp rfl) (eqB ?_)
          first | rfl | (exfalso; omega) | (exfalso; simp_all; done) | (exfalso; simp_all; omega)
        · skip
          refine ok_skip ?_
          refine then_n ?_
          refine ok_seq ?_
          refine ok_seq ?_
          refine ok_regionD (oB := [3, 4, 5, 8, 10, 11, 12]) (oK := [45007, 46007, 50001, 53007, 54007, 62001]) (by kernel_rfl) rfl rfl ?_
          refine d_take 0 rfl (by kernel_rfl) rfl rfl (pu_loadBoxA hT rfl rfl (ev_tmp rfl) rfl rfl) rfl rfl rfl rfl ?_
          refine d_take 1 rfl (by kernel_rfl) rfl rfl (pu_loadBoxA hT rfl rfl (ev_tmp rfl) rfl rfl) rfl rfl rfl rfl ?_
          refine d_callK 67000 2 rfl (by kernel_rfl) rfl rfl rfl Try.call13 (ok_laws_toStore (by first | omega | (simp only [wKey, wField, wRecord, wItem, wStore, wIndexDef, wDatabase, wOp, wTx, wTxQueue] at hb ⊢; omega) | (have hq := hw (by omega); omega))) (as_cons (ev_tmp rfl) (ag_agg (ag_cons ac_dv (ag_cons ac_dv (ag_cons ac_dv ag_nil)))) as_nil) rfl rfl rfl rfl rfl ?_
          refine d_call 3 rfl (by kernel_rfl) rfl rfl rfl Try.call16 ok_laws_eqStore (as_cons (ev_tmp rfl) (ag_agg (ag_cons ac_dv (ag_cons (ac_key' rfl rfl) (ag_cons ac_dv ag_nil)))) (as_cons (ev_tmp rfl) (ag_agg (ag_cons ac_dv (ag_cons (ac_key' rfl rfl) (ag_cons ac_dv ag_nil)))) as_nil)) rfl rfl rfl rfl ?_
          refine d_take 4 rfl (by kernel_rfl) rfl rfl (pu_not rfl (ev_tmp rfl)) rfl rfl rfl rfl ?_
          refine d_done (by kernel_rfl) ?_
          refine then_n ?_
          refine ok_cond (ev_tmp rfl) (fun c5 => ?_) (fun c5 => ?_)
          · skip
            refine ok_seq ?_
            refine ok_region ?_
            refine o_pure rfl rfl (pu_move (.inr rfl) ev_bool) rfl rfl ?_
            refine ops_nil ?_
            refine then_n ?_
            refine ok_ret ?_
            refine then_r ?_
            refine fin1 (res_tmp rfl) (eqB ?_)
            first | rfl | (exfalso; omega) | (exfalso; simp_all; done) | (exfalso; simp_all; omega)
          · skip
            refine ok_skip ?_
            refine then_n ?_
            refine ok_seq ?_
            refine ok_seq ?_
            refine ok_regionD (oB := [3, 4, 5, 8, 10, 11, 12]) (oK := [45007, 46007, 50001, 53007, 54007, 62001, 76007]) (by kernel_rfl) rfl rfl ?_
            refine d_take 0 rfl (by kernel_rfl) rfl rfl (pu_loadBoxA hT rfl rfl (ev_tmp rfl) rfl rfl) rfl rfl rfl rfl ?_
            refine d_take 1 rfl (by kernel_rfl) rfl rfl (pu_loadBoxA hT rfl rfl (ev_tmp rfl) rfl rfl) rfl rfl rfl rfl ?_
            refine d_callK 72000 2 rfl (by kernel_rfl) rfl rfl rfl Try.call39 (ok_laws_toRecord (by first | omega | (simp only [wKey, wField, wRecord, wItem, wStore, wIndexDef, wDatabase, wOp, wTx, wTxQueue] at hb ⊢; omega) | (have hq := hw (by omega); omega))) (as_cons (ev_tmp rfl) (ag_agg (ag_cons ac_dv ag_nil)) as_nil) rfl rfl rfl rfl rfl ?_
            refine d_call 3 rfl (by kernel_rfl) rfl rfl rfl Try.call41 ok_laws_eqRecord (as_cons (ev_tmp rfl) (ag_agg (ag_cons (ac_key' rfl rfl) ag_nil)) (as_cons (ev_tmp rfl) (ag_agg (ag_cons (ac_key' rfl rfl) ag_nil)) as_nil)) rfl rfl rfl rfl ?_
            refine d_take 4 rfl (by kernel_rfl) rfl rfl (pu_not rfl (ev_tmp rfl)) rfl rfl rfl rfl ?_
            refine d_done (by kernel_rfl) ?_
            refine then_n ?_
            refine ok_cond (ev_tmp rfl) (fun c6 => ?_) (fun c6 => ?_)
            · skip
              refine ok_seq ?_
              refine ok_region ?_
              refine o_pure rfl rfl (pu_move (.inr rfl) ev_bool) rfl rfl ?_
              refine ops_nil ?_
              refine then_n ?_
              refine ok_ret ?_
              refine then_r ?_
              refine fin1 (res_tmp rfl) (eqB ?_)
              first | rfl | (exfalso; omega) | (exfalso; simp_all; done) | (exfalso; simp_all; omega)
            · skip
              refine ok_skip ?_
              refine then_n ?_
              refine ok_seq ?_
              refine ok_region ?_
              refine o_pure rfl rfl (pu_move (.inr rfl) (ev_int (inR_lit rfl))) rfl rfl ?_
              refine ops_nil ?_
              refine then_n ?_
              refine ok_seq ?_
              refine ok_region ?_
              refine o_pure rfl rfl (pu_loadBoxA hT rfl rfl (ev_tmp rfl) rfl rfl) rfl rfl ?_
              refine o_pure rfl rfl (pu_move (.inl rfl) (ev_tmp rfl)) rfl rfl ?_
              refine o_callW [(0, 54007, ⟨false, _, _, _, _⟩, ⟨false, _, _, _, _⟩)] rfl rfl rfl Try.call17 (ok_laws_markStore (x := x0) (by omega) (by omega)) ⟨rfl, trivial⟩ rfl (aw_cons (ev_tmp rfl) (aw_agg (awc_cons (awc_dv rfl) (awc_cons (awc_key rfl) (awc_cons (awc_dv rfl) awc_nil)))) (aw_cons (ev_tmp rfl) (aw_one (awc_dv rfl)) aw_nil)) rfl rfl ?_
              simp only [killT, killB, SV.kill, CV.kill, List.map_cons, List.map_nil, List.any_cons, List.any_nil, List.contains_cons, List.contains_nil, List.nil_append, List.cons_append, Nat.reduceBEq, Bool.or_false, Bool.false_or, Bool.or_true, Bool.true_or, cond_true, cond_false]
              refine o_pure rfl rfl (pu_move (.inr rfl) (ev_tmp rfl)) rfl rfl ?_
              refine ops_nil ?_
              refine then_n ?_
              refine ok_seq ?_
              refine ok_region ?_
              refine o_pure rfl rfl (pu_loadBoxA hT rfl rfl (ev_tmp rfl) rfl rfl) rfl rfl ?_
              refine o_pure rfl rfl (pu_move (.inl rfl) (ev_tmp rfl)) rfl rfl ?_
              refine o_callW [(0, 53007, ⟨false, _, _, _, _⟩, ⟨false, _, _, _, _⟩)] rfl rfl rfl Try.call42 (ok_laws_markRecord (x := x2) (by omega) (by omega)) ⟨rfl, trivial⟩ rfl (aw_cons (ev_tmp rfl) (aw_agg (awc_cons (awc_key rfl) awc_nil)) (aw_cons (ev_tmp rfl) (aw_one (awc_dv rfl)) aw_nil)) rfl rfl ?_
              simp only [killT, killB, SV.kill, CV.kill, List.map_cons, List.map_nil, List.any_cons, List.any_nil, List.contains_cons, List.contains_nil, List.nil_append, List.cons_append, Nat.reduceBEq, Bool.or_false, Bool.false_or, Bool.or_true, Bool.true_or, cond_true, cond_false]
              refine o_pure rfl rfl (pu_move (.inr rfl) (ev_tmp rfl)) rfl rfl ?_
              refine ops_nil ?_
              refine then_n ?_
              refine ok_seq ?_
              refine ok_seq ?_
              refine ok_region ?_
              refine o_pure rfl rfl (pu_move (.inl rfl) (ev_tmp rfl)) rfl rfl ?_
              refine o_pure rfl rfl (pu_lss rfl (ev_tmp rfl) (ev_int (inR_lit rfl))) rfl rfl ?_
              refine o_pure rfl rfl (pu_move (.inl rfl) (ev_tmp rfl)) rfl rfl ?_
              refine o_pureG (gd_bool rfl rfl rfl rfl rfl) rfl (fun hg => pu_loadBoxA hT rfl rfl (ev_tmp rfl) rfl rfl) rfl rfl ?_
              refine o_pureG (gd_bool rfl rfl rfl rfl rfl) rfl (fun hg => pu_loadBoxA hT rfl rfl (ev_tmp rfl) rfl rfl) rfl rfl ?_
              refine o_callG (gd_bool rfl rfl rfl rfl rfl) rfl rfl Try.call16 ok_laws_eqStore (fun hg => (as_cons (ev_opt rfl hg) (ag_agg (ag_cons ac_dv (ag_cons (ac_key' rfl rfl) (ag_cons ac_dv ag_nil)))) (as_cons (ev_opt rfl hg) (ag_agg (ag_cons ac_dv (ag_cons (ac_key' rfl rfl) (ag_cons ac_dv ag_nil)))) as_nil))) rfl rfl ?_
              refine o_pureG (gd_bool rfl rfl rfl rfl rfl) rfl (fun hg => pu_not rfl (ev_opt rfl hg)) rfl rfl ?_
              refine o_pure rfl rfl (pu_or rfl (ev_tmp rfl) (fun hb => (ev_opt rfl (beq_f hb)))) rfl rfl ?_
              refine o_pure rfl rfl (pu_move (.inl rfl) (ev_tmp rfl)) rfl rfl ?_
              refine o_pureG (gd_bool rfl rfl rfl rfl rfl) rfl (fun hg => pu_move (.inl rfl) (ev_tmp rfl)) rfl rfl ?_
              refine o_pureG (gd_bool rfl rfl rfl rfl rfl) rfl (fun hg => pu_move (.inl rfl) (ev_tmp rfl)) rfl rfl ?_
              refine o_pureG (gd_bool rfl rfl rfl rfl rfl) rfl (fun hg => pu_bneq hT rfl rfl (ev_opt rfl hg) (ev_opt rfl hg)) rfl rfl ?_
              refine o_pure rfl rfl (pu_or rfl (ev_tmp rfl) (fun hb => (ev_opt rfl (beq_f hb)))) rfl rfl ?_
              refine ops_nil ?_
              refine then_n ?_
              refine ok_cond (ev_tmp rfl) (fun c7 => ?_) (fun c7 => ?_)
              · skip
                refine ok_seq ?_
                refine ok_region ?_
                refine o_pure rfl rfl (pu_move (.inr rfl) ev_bool) rfl rfl ?_
                refine ops_nil ?_
                refine then_n ?_
                refine ok_ret ?_
                refine then_r ?_
                refine fin1 (res_tmp rfl) (eqB ?_)
                first | rfl | (exfalso; omega) | (exfalso; simp_all; done) | (exfalso; simp_all; omega)
              · skip
                refine ok_skip ?_
                refine then_n ?_
                refine ok_seq ?_
                refine ok_region ?_
                refine o_pure rfl rfl (pu_move (.inr rfl) (ev_int (inR_lit rfl))) rfl rfl ?_
                refine ops_nil ?_
                refine then_n ?_
                refine ok_seq ?_
                refine ok_region ?_
                refine o_pure rfl rfl (pu_loadBoxA hT rfl rfl (ev_tmp rfl) rfl rfl) rfl rfl ?_
                refine o_pure rfl rfl (pu_move (.inl rfl) (ev_tmp rfl)) rfl rfl ?_
                refine o_callW [(0, 62001, ⟨false, _, _, _, _⟩, ⟨false, _, _, _, _⟩)] rfl rfl rfl Try.call17 (ok_laws_markStore (x := (putN x0 x1 x2).1) (by omega) (by omega)) ⟨rfl, trivial⟩ rfl (aw_cons (ev_tmp rfl) (aw_agg (awc_cons (awc_dv rfl) (awc_cons (awc_key rfl) (awc_cons (awc_dv rfl) awc_nil)))) (aw_cons (ev_tmp rfl) (aw_one (awc_dv rfl)) aw_nil)) rfl rfl ?_
                simp only [killT, killB, SV.kill, CV.kill, List.map_cons, List.map_nil, List.any_cons, List.any_nil, List.contains_cons, List.contains_nil, List.nil_append, List.cons_append, Nat.reduceBEq, Bool.or_false, Bool.false_or, Bool.or_true, Bool.true_or, cond_true, cond_false]
                refine o_pure rfl rfl (pu_move (.inr rfl) (ev_tmp rfl)) rfl rfl ?_
                refine ops_nil ?_
                refine then_n ?_
                refine ok_seq ?_
                refine ok_region ?_
                refine o_pure rfl rfl (pu_move (.inr rfl) (ev_int (inR_lit rfl))) rfl rfl ?_
                refine ops_nil ?_
                refine then_n ?_
                refine ok_seq ?_
                refine ok_region ?_
                refine o_pure rfl rfl (pu_loadBoxA hT rfl rfl (ev_tmp rfl) rfl rfl) rfl rfl ?_
                refine o_pure rfl rfl (pu_move (.inl rfl) (ev_tmp rfl)) rfl rfl ?_
                refine o_call rfl rfl rfl Try.call43 (ok_laws_heldStore (x := (putN x0 x1 x2).1) rfl (by omega) (by omega)) (as_cons (ev_tmp rfl) (ag_agg (ag_cons ac_dv (ag_cons (ac_key' rfl rfl) (ag_cons ac_dv ag_nil)))) (as_cons (ev_tmp rfl) (ag_one ac_dv) as_nil)) rfl rfl ?_
                refine o_pure rfl rfl (pu_move (.inr rfl) (ev_tmp rfl)) rfl rfl ?_
                refine ops_nil ?_
                refine then_n ?_
                refine ok_seq ?_
                refine ok_seq ?_
                refine ok_region ?_
                refine o_pure rfl rfl (pu_move (.inl rfl) (ev_tmp rfl)) rfl rfl ?_
                refine o_pure rfl rfl (pu_lss rfl (ev_tmp rfl) (ev_int (inR_lit rfl))) rfl rfl ?_
                refine ops_nil ?_
                refine then_n ?_
                refine ok_cond (ev_tmp rfl) (fun c8 => ?_) (fun c8 => ?_)
                · skip
                  have d8 := of_decide_eq_true c8
                  first | have q8 := szR_n d8 | skip
                  refine ok_seq ?_
                  refine ok_region ?_
                  refine o_pure rfl rfl (pu_move (.inr rfl) ev_bool) rfl rfl ?_
                  refine ops_nil ?_
                  refine then_n ?_
                  refine ok_ret ?_
                  refine then_r ?_
                  refine fin1 (res_tmp rfl) (eqB ?_)
                  first | rfl | (exfalso; omega) | (exfalso; simp_all; done) | (exfalso; simp_all; omega)
                · skip
                  have d8 := of_decide_eq_false c8
                  first | have q8 := szR_nn d8 | skip
                  refine ok_skip ?_
                  refine then_n ?_
                  refine ok_seq ?_
                  refine ok_seq ?_
                  refine ok_region ?_
                  refine o_pure rfl rfl (pu_move (.inl rfl) (ev_tmp rfl)) rfl rfl ?_
                  refine o_pure rfl rfl (pu_move (.inl rfl) (ev_tmp rfl)) rfl rfl ?_
                  refine o_pure rfl rfl (pu_neq rfl (ev_tmp rfl) (ev_tmp rfl)) rfl rfl ?_
                  refine ops_nil ?_
                  refine then_n ?_
                  refine ok_cond (ev_tmp rfl) (fun c9 => ?_) (fun c9 => ?_)
                  · skip
                    have d9 := nd_t c9
                    refine ok_seq ?_
                    refine ok_region ?_
                    refine o_pure rfl rfl (pu_move (.inr rfl) ev_bool) rfl rfl ?_
                    refine ops_nil ?_
                    refine then_n ?_
                    refine ok_ret ?_
                    refine then_r ?_
                    refine fin1 (res_tmp rfl) (eqB ?_)
                    first | rfl | (exfalso; omega) | (exfalso; simp_all; done) | (exfalso; simp_all; omega)
                  · skip
                    have d9 := nd_f c9
                    refine ok_skip ?_
                    refine then_n ?_
                    refine ok_seq ?_
                    refine ok_regionD (oB := [3, 4, 5, 8, 10, 11, 12]) (oK := [45007, 46007, 50001, 53007, 54007, 62001, 76007, 78007]) (by kernel_rfl) rfl rfl ?_
                    refine d_take 0 rfl (by kernel_rfl) rfl rfl (pu_loadBoxA hT rfl rfl (ev_tmp rfl) rfl rfl) rfl rfl rfl rfl ?_
                    refine d_take 2 rfl (by kernel_rfl) rfl rfl (pu_loadBoxA hT rfl rfl (ev_tmp rfl) rfl rfl) rfl rfl rfl rfl ?_
                    refine d_take 4 rfl (by kernel_rfl) rfl rfl (pu_loadBoxA hT rfl rfl (ev_tmp rfl) rfl rfl) rfl rfl rfl rfl ?_
                    refine d_vars (A := [(10, 17, 29, _)]) hT ⟨⟨_, _, rfl⟩, rfl, trivial⟩ ?_
                    refine a_callK 107000 1 rfl (by kernel_rfl) rfl rfl rfl (vok hT ⟨⟨_, _, rfl⟩, rfl, trivial⟩ (by kernel_rfl) (by kernel_rfl)) (vok hT ⟨⟨_, _, rfl⟩, rfl, trivial⟩ (by kernel_rfl) (by kernel_rfl)) rfl Try.call13 (ok_laws_toStore (by first | omega | (simp only [wKey, wField, wRecord, wItem, wStore, wIndexDef, wDatabase, wOp, wTx, wTxQueue] at hb ⊢; omega) | (have hq := hw (by omega); omega))) (as_cons (ev_tmp rfl) (ag_agg (ag_cons ac_dv (ag_cons ac_dv (ag_cons ac_dv ag_nil)))) as_nil) rfl rfl rfl rfl rfl ?_
                    refine a_call 3 rfl (by kernel_rfl) rfl rfl rfl (vok hT ⟨⟨_, _, rfl⟩, rfl, trivial⟩ (by kernel_rfl) (by kernel_rfl)) (vok hT ⟨⟨_, _, rfl⟩, rfl, trivial⟩ (by kernel_rfl) (by kernel_rfl)) rfl Try.call38 ok_laws_toKey (as_cons (ev_tmp rfl) (ag_agg (ag_cons ac_dv (ag_cons ac_dv (ag_cons ac_dv ag_nil)))) as_nil) rfl rfl rfl rfl ?_
                    refine a_callK 111000 5 rfl (by kernel_rfl) rfl rfl rfl (vok hT ⟨⟨_, _, rfl⟩, rfl, trivial⟩ (by kernel_rfl) (by kernel_rfl)) (vok hT ⟨⟨_, _, rfl⟩, rfl, trivial⟩ (by kernel_rfl) (by kernel_rfl)) rfl Try.call39 (ok_laws_toRecord (by first | omega | (simp only [wKey, wField, wRecord, wItem, wStore, wIndexDef, wDatabase, wOp, wTx, wTxQueue] at hb ⊢; omega) | (have hq := hw (by omega); omega))) (as_cons (ev_tmp rfl) (ag_agg (ag_cons ac_dv ag_nil)) as_nil) rfl rfl rfl rfl rfl ?_
                    refine a_callK 112000 6 rfl (by kernel_rfl) rfl rfl rfl (vok hT ⟨⟨_, _, rfl⟩, rfl, trivial⟩ (by kernel_rfl) (by kernel_rfl)) (vok hT ⟨⟨_, _, rfl⟩, rfl, trivial⟩ (by kernel_rfl) (by kernel_rfl)) rfl Try.call40 (ok_impl_PutItem (by omega) (by omega)) (as_cons (ev_tmp rfl) (ag_agg (ag_cons ac_dv (ag_cons (ac_key' rfl rfl) (ag_cons ac_dv ag_nil)))) (as_cons (ev_tmp rfl) (ag_agg (ag_cons ac_dv (ag_cons ac_dv (ag_cons ac_dv ag_nil)))) (as_cons (ev_tmp rfl) (ag_agg (ag_cons (ac_key' rfl rfl) ag_nil)) as_nil))) rfl rfl rfl rfl rfl ?_
                    refine a_take 7 rfl (by kernel_rfl) rfl rfl rfl (vok hT ⟨⟨_, _, rfl⟩, rfl, trivial⟩ (by kernel_rfl) (by kernel_rfl)) (vok hT ⟨⟨_, _, rfl⟩, rfl, trivial⟩ (by kernel_rfl) (by kernel_rfl)) (pu_move (.inl rfl) (ev_tmp rfl)) rfl rfl rfl rfl ?_
                    refine a_takeX 8 rfl (by kernel_rfl) rfl rfl rfl rfl (vok hT ⟨⟨_, _, rfl⟩, rfl, trivial⟩ (by kernel_rfl) (by kernel_rfl)) (vok hT ⟨⟨_, _, rfl⟩, rfl, trivial⟩ (by kernel_rfl) (by kernel_rfl)) (pu_extractA rfl (ev_tmp rfl) rfl) rfl rfl ?_
                    refine a_takeX 9 rfl (by kernel_rfl) rfl rfl rfl rfl (vok hT ⟨⟨_, _, rfl⟩, rfl, trivial⟩ (by kernel_rfl) (by kernel_rfl)) (vok hT ⟨⟨_, _, rfl⟩, rfl, trivial⟩ (by kernel_rfl) (by kernel_rfl)) (pu_extract1 rfl (ev_tmp rfl) rfl) rfl rfl ?_
                    refine a_exit1 (vok hT ⟨⟨_, _, rfl⟩, rfl, trivial⟩ (by kernel_rfl) (by kernel_rfl)) rfl rfl (by kernel_rfl) ?_
                    dsimp only [addT, addB]
                    refine d_chain [11, 12] rfl rfl (by kernel_rfl) ?_
                    refine o_store hT rfl rfl rfl rfl (ev_tmp rfl) (ev_tmp rfl) rfl rfl rfl rfl rfl rfl ?_
                    refine o_pure rfl rfl (pu_move (.inr rfl) (ev_tmp rfl)) rfl rfl ?_
                    refine ops_nil ?_
                    refine then_n ?_
                    refine ok_seq ?_
                    refine ok_seq ?_
                    refine ok_region ?_
                    refine o_pure rfl rfl (pu_loadBoxA hT rfl rfl (ev_tmp rfl) rfl rfl) rfl rfl ?_
                    refine o_pure rfl rfl (pu_loadBoxA hT rfl rfl (ev_tmp rfl) rfl rfl) rfl rfl ?_
                    refine o_call rfl rfl rfl Try.call16 ok_laws_eqStore (as_cons (ev_tmp rfl) (ag_agg (ag_cons ac_dv (ag_cons (ac_key' rfl rfl) (ag_cons ac_dv ag_nil)))) (as_cons (ev_tmp rfl) (ag_agg (ag_cons ac_dv (ag_cons (ac_key' rfl rfl) (ag_cons ac_dv ag_nil)))) as_nil)) rfl rfl ?_
                    refine o_pure rfl rfl (pu_not rfl (ev_tmp rfl)) rfl rfl ?_
                    refine o_pure rfl rfl (pu_move (.inl rfl) (ev_tmp rfl)) rfl rfl ?_
                    refine o_pureG (gd_bool rfl rfl rfl rfl rfl) rfl (fun hg => pu_move (.inl rfl) (ev_tmp rfl)) rfl rfl ?_
                    refine o_pureG (gd_bool rfl rfl rfl rfl rfl) rfl (fun hg => pu_move (.inl rfl) (ev_tmp rfl)) rfl rfl ?_
                    refine o_pureG (gd_bool rfl rfl rfl rfl rfl) rfl (fun hg => pu_bneq hT rfl rfl (ev_opt rfl hg) (ev_opt rfl hg)) rfl rfl ?_
                    refine o_pure rfl rfl (pu_or rfl (ev_tmp rfl) (fun hb => (ev_opt rfl (beq_f hb)))) rfl rfl ?_
                    refine ops_nil ?_
                    refine then_n ?_
                    refine ok_cond (ev_tmp rfl) (fun c10 => ?_) (fun c10 => ?_)
                    · skip
                      refine ok_seq ?_
                      refine ok_region ?_
                      refine o_pure rfl rfl (pu_move (.inr rfl) ev_bool) rfl rfl ?_
                      refine ops_nil ?_
                      refine then_n ?_
                      refine ok_ret ?_
                      refine then_r ?_
                      refine fin1 (res_tmp rfl) (eqB ?_)
                      first | rfl | (exfalso; omega) | (exfalso; simp_all; done) | (exfalso; simp_all; omega)
                    · skip
                      refine ok_skip ?_
                      refine then_n ?_
                      refine ok_seq ?_
                      refine ok_region ?_
                      refine o_pure rfl rfl (pu_move (.inr rfl) (ev_int (inR_lit rfl))) rfl rfl ?_
                      refine ops_nil ?_
                      refine then_n ?_
                      refine ok_seq ?_
                      refine ok_region ?_
                      refine o_pure rfl rfl (pu_loadBoxA hT rfl rfl (ev_tmp rfl) rfl rfl) rfl rfl ?_
                      refine o_pure rfl rfl (pu_move (.inl rfl) (ev_tmp rfl)) rfl rfl ?_
                      refine o_call rfl rfl rfl Try.call43 (ok_laws_heldStore (x := (putN x0 x1 x2).1) rfl (by omega) (by omega)) (as_cons (ev_tmp rfl) (ag_agg (ag_cons ac_dv (ag_cons (ac_key' rfl rfl) (ag_cons ac_dv ag_nil)))) (as_cons (ev_tmp rfl) (ag_one ac_dv) as_nil)) rfl rfl ?_
                      refine o_pure rfl rfl (pu_move (.inr rfl) (ev_tmp rfl)) rfl rfl ?_
                      refine ops_nil ?_
                      refine then_n ?_
                      refine ok_seq ?_
                      refine ok_seq ?_
                      refine ok_region ?_
                      refine o_pure rfl rfl (pu_move (.inl rfl) (ev_tmp rfl)) rfl rfl ?_
                      refine o_pure rfl rfl (pu_lss rfl (ev_tmp rfl) (ev_int (inR_lit rfl))) rfl rfl ?_
                      refine ops_nil ?_
                      refine then_n ?_
                      refine ok_cond (ev_tmp rfl) (fun c11 => ?_) (fun c11 => ?_)
                      · skip
                        have d11 := of_decide_eq_true c11
                        first | have q11 := szR_n d11 | skip
                        refine ok_seq ?_
                        refine ok_region ?_
                        refine o_pure rfl rfl (pu_move (.inr rfl) ev_bool) rfl rfl ?_
                        refine ops_nil ?_
                        refine then_n ?_
                        refine ok_ret ?_
                        refine then_r ?_
                        refine fin1 (res_tmp rfl) (eqB ?_)
                        first | rfl | (exfalso; omega) | (exfalso; simp_all; done) | (exfalso; simp_all; omega)
                      · skip
                        have d11 := of_decide_eq_false c11
                        first | have q11 := szR_nn d11 | skip
                        refine ok_skip ?_
                        refine then_n ?_
                        refine ok_seq ?_
                        refine ok_seq ?_
                        refine ok_region ?_
                        refine o_pure rfl rfl (pu_move (.inl rfl) (ev_tmp rfl)) rfl rfl ?_
                        refine o_pure rfl rfl (pu_move (.inl rfl) (ev_tmp rfl)) rfl rfl ?_
                        refine o_pure rfl rfl (pu_neq rfl (ev_tmp rfl) (ev_tmp rfl)) rfl rfl ?_
                        refine ops_nil ?_
                        refine then_n ?_
                        refine ok_cond (ev_tmp rfl) (fun c12 => ?_) (fun c12 => ?_)
                        · skip
                          have d12 := nd_t c12
                          refine ok_seq ?_
                          refine ok_region ?_
                          refine o_pure rfl rfl (pu_move (.inr rfl) ev_bool) rfl rfl ?_
                          refine ops_nil ?_
                          refine then_n ?_
                          refine ok_ret ?_
                          refine then_r ?_
                          refine fin1 (res_tmp rfl) (eqB ?_)
                          first | rfl | (exfalso; omega) | (exfalso; simp_all; done) | (exfalso; simp_all; omega)
                        · skip
                          have d12 := nd_f c12
                          refine ok_skip ?_
                          refine then_n ?_
                          refine ok_seq ?_
                          refine ok_region ?_
                          refine o_pure rfl rfl (pu_move (.inr rfl) ev_bool) rfl rfl ?_
                          refine ops_nil ?_
                          refine then_n ?_
                          refine ok_ret ?_
                          refine fin1 (res_tmp rfl) (eqB ?_)
                          first | rfl | (exfalso; omega) | (exfalso; simp_all; done) | (exfalso; simp_all; omega)
end Go.Proofs.Ytbmgommbmhmbgaa
