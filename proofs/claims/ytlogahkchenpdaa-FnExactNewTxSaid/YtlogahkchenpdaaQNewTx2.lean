/-
  Contracts of the program's functions for the statement NewTx, by the rules of the logic. Conditions: none but those in the theorems.
-/
import Derived.Test.YtlogahkchenpdaaQNewTx1
namespace Go.Proofs.Ytlogahkchenpdaa
open Go.RowKit
open Go.Proofs
set_option linter.unusedVariables false
set_option linter.unusedSimpArgs false
set_option maxRecDepth 100000 in
theorem ok_laws_szTx {x : TxT} {left : Int} (h0 : 0 ≤ left) (h1 : left ≤ 1048576) : PFn Try.prog 154 [.agg [(.dv [] (.int .i64 (x.1))), (.dv [] (opsD (x.2.1))), (.dv [] (.int .i64 (x.2.2.1))), (.dv [] (.int .i64 (x.2.2.2.1))), (.dv [] (storesD (x.2.2.2.2)))], .one (.dv [] (.int .i64 (left)))] (.one (.dv [] (.int .i64 (szR (left) (wTx x))))) := by
  refine ⟨fn_intro Try.func154 rfl Try.ntmps154 Try.results154 rfl (fun C => ?_)⟩
  refine ok_factA (x := .tmp 0) 0 (ev_tmp rfl) rfl (fun (f0_0 : -9223372036854775808 ≤ (x.1) ∧ (x.1) ≤ 9223372036854775807) => ?_)
  refine ok_factA (x := .tmp 0) 1 (ev_tmp rfl) rfl (fun (f0_1 : ((x.2.1)).length ≤ 9223372036854775807) => ?_)
  refine ok_factA (x := .tmp 0) 2 (ev_tmp rfl) rfl (fun (f0_2 : -9223372036854775808 ≤ (x.2.2.1) ∧ (x.2.2.1) ≤ 9223372036854775807) => ?_)
  refine ok_factA (x := .tmp 0) 3 (ev_tmp rfl) rfl (fun (f0_3 : -9223372036854775808 ≤ (x.2.2.2.1) ∧ (x.2.2.2.1) ≤ 9223372036854775807) => ?_)
  refine ok_factA (x := .tmp 0) 4 (ev_tmp rfl) rfl (fun (f0_4 : ((x.2.2.2.2)).length ≤ 9223372036854775807) => ?_)
  refine ok_fact (x := .tmp 1) (ev_tmp rfl) (fun (f1 : -9223372036854775808 ≤ (left) ∧ (left) ≤ 9223372036854775807) => ?_)
  refine ok_seq ?_
  refine ok_region ?_
  refine o_box rfl rfl rfl (ev_tmp rfl) rfl rfl rfl rfl ?_
  refine o_pure rfl rfl (pu_move (.inr rfl) (ev_int (inR_lit rfl))) rfl rfl ?_
  refine ops_nil ?_
  refine then_n ?_
  refine ok_seq ?_
  refine ok_region ?_
  refine o_pure rfl rfl (pu_fieldBox hT rfl rfl rfl (ev_tmp rfl)) rfl rfl ?_
  refine o_pure rfl rfl (pu_loadBox1 hT rfl rfl (ev_tmp rfl) rfl rfl) rfl rfl ?_
  refine o_pure rfl rfl (pu_move (.inl rfl) (ev_tmp rfl)) rfl rfl ?_
  refine o_call rfl rfl rfl Try.call21 (ok_laws_szOpS (by omega) (by omega)) (as_cons (ev_tmp rfl) (ag_one ac_dv) (as_cons (ev_tmp rfl) (ag_one ac_dv) as_nil)) rfl rfl ?_
  refine o_pure rfl rfl (pu_move (.inr rfl) (ev_tmp rfl)) rfl rfl ?_
  refine ops_nil ?_
  refine then_n ?_
  refine ok_seq ?_
  refine ok_seq ?_
  refine ok_region ?_
  refine o_pure rfl rfl (pu_move (.inl rfl) (ev_tmp rfl)) rfl rfl ?_
  refine o_pure rfl rfl (pu_lss rfl (ev_tmp rfl) (ev_int (inR_lit rfl))) rfl rfl ?_
  refine ops_nil ?_
  refine then_n ?_
  refine ok_cond (ev_tmp rfl) (fun c1 => ?_) (fun c1 => ?_)
  · skip
    have d1 := of_decide_eq_true c1
    first | have q1 := szR_n d1 | skip
    refine ok_seq ?_
    refine ok_region ?_
    refine o_pure rfl rfl (pu_move (.inr rfl) (ev_int (inR_lit rfl))) rfl rfl ?_
    refine ops_nil ?_
    refine then_n ?_
    refine ok_ret ?_
    refine then_r ?_
    refine fin1 (res_tmp rfl) (eqI ?_)
    have hh := szR_cases left (wTx x); simp only [wTx] at hh ⊢ <;> omega
  · skip
    have d1 := of_decide_eq_false c1
    first | have q1 := szR_nn d1 | skip
    refine ok_skip ?_
    refine then_n ?_
    refine ok_seq ?_
    refine ok_region ?_
    refine o_pure rfl rfl (pu_fieldBox hT rfl rfl rfl (ev_tmp rfl)) rfl rfl ?_
    refine o_pure rfl rfl (pu_loadBox1 hT rfl rfl (ev_tmp rfl) rfl rfl) rfl rfl ?_
    refine o_pure rfl rfl (pu_move (.inl rfl) (ev_tmp rfl)) rfl rfl ?_
    refine o_call rfl rfl rfl Try.call49 (ok_laws_szStoreS (by omega) (by omega)) (as_cons (ev_tmp rfl) (ag_one ac_dv) (as_cons (ev_tmp rfl) (ag_one ac_dv) as_nil)) rfl rfl ?_
    refine o_pure rfl rfl (pu_move (.inr rfl) (ev_tmp rfl)) rfl rfl ?_
    refine ops_nil ?_
    refine then_n ?_
    refine ok_seq ?_
    refine ok_seq ?_
    refine ok_region ?_
    refine o_pure rfl rfl (pu_move (.inl rfl) (ev_tmp rfl)) rfl rfl ?_
    refine o_pure rfl rfl (pu_lss rfl (ev_tmp rfl) (ev_int (inR_lit rfl))) rfl rfl ?_
    refine ops_nil ?_
    refine then_n ?_
    refine ok_cond (ev_tmp rfl) (fun c2 => ?_) (fun c2 => ?_)
    · skip
      have d2 := of_decide_eq_true c2
      first | have q2 := szR_n d2 | skip
      refine ok_seq ?_
      refine ok_region ?_
      refine o_pure rfl rfl (pu_move (.inr rfl) (ev_int (inR_lit rfl))) rfl rfl ?_
      refine ops_nil ?_
      refine then_n ?_
      refine ok_ret ?_
      refine then_r ?_
      refine fin1 (res_tmp rfl) (eqI ?_)
      have hh := szR_cases left (wTx x); simp only [wTx] at hh ⊢ <;> omega
    · skip
      have d2 := of_decide_eq_false c2
      first | have q2 := szR_nn d2 | skip
      refine ok_skip ?_
      refine then_n ?_
      refine ok_seq ?_
      refine ok_region ?_
      refine o_pure rfl rfl (pu_move (.inl rfl) (ev_tmp rfl)) rfl rfl ?_
      refine o_pure rfl rfl (pu_move (.inr rfl) (ev_tmp rfl)) rfl rfl ?_
      refine ops_nil ?_
      refine then_n ?_
      refine ok_ret ?_
      refine fin1 (res_tmp rfl) (eqI ?_)
      have hh := szR_cases left (wTx x); simp only [wTx] at hh ⊢ <;> omega
set_option maxRecDepth 100000 in
theorem ok_laws_szTxS {x : List (TxT)} {left : Int} (h0 : 0 ≤ left) (h1 : left ≤ 1048576) : PFn Try.prog 103 [.one (.dv [] (txsD (x))), .one (.dv [] (.int .i64 (left)))] (.one (.dv [] (.int .i64 (szR (left) (wList wTx x))))) := by
  refine ⟨fn_intro Try.func103 rfl Try.ntmps103 Try.results103 rfl (fun C => ?_)⟩
  refine ok_fact (x := .tmp 0) (ev_tmp rfl) (fun (f0 : ((x)).length ≤ 9223372036854775807) => ?_)
  refine ok_fact (x := .tmp 1) (ev_tmp rfl) (fun (f1 : -9223372036854775808 ≤ (left) ∧ (left) ≤ 9223372036854775807) => ?_)
  refine ok_seq ?_
  refine ok_region ?_
  refine o_pure rfl rfl (pu_move (.inr rfl) (ev_int (inR_lit rfl))) rfl rfl ?_
  refine ops_nil ?_
  refine then_n ?_
  refine ok_seq ?_
  refine ok_region ?_
  refine o_pure rfl rfl (pu_move (.inl rfl) (ev_tmp rfl)) rfl rfl ?_
  refine o_pure rfl rfl (pu_move (.inl rfl) (ev_tmp rfl)) rfl rfl ?_
  refine o_pure rfl rfl (pu_lenV hT rfl rfl (ev_tmp rfl)) rfl rfl ?_
  refine o_pure rfl rfl (pu_subR rfl (ev_tmp rfl) (ev_tmp rfl) (inR64 (by omega) (by omega))) rfl rfl ?_
  refine o_pure rfl rfl (pu_move (.inr rfl) (ev_tmp rfl)) rfl rfl ?_
  refine ops_nil ?_
  refine then_n ?_
  refine ok_seq ?_
  refine ok_seq ?_
  refine ok_region ?_
  refine o_pure rfl rfl (pu_move (.inl rfl) (ev_tmp rfl)) rfl rfl ?_
  refine o_pure rfl rfl (pu_lss rfl (ev_tmp rfl) (ev_int (inR_lit rfl))) rfl rfl ?_
  refine ops_nil ?_
  refine then_n ?_
  refine ok_cond (ev_tmp rfl) (fun c1 => ?_) (fun c1 => ?_)
  · skip
    have d1 := of_decide_eq_true c1
    first | have q1 := szR_n d1 | skip
    refine ok_seq ?_
    refine ok_region ?_
    refine o_pure rfl rfl (pu_move (.inr rfl) (ev_int (inR_lit rfl))) rfl rfl ?_
    refine ops_nil ?_
    refine then_n ?_
    refine ok_ret ?_
    refine then_r ?_
    refine fin1 (res_tmp rfl) (eqI ?_)
    have hh := szR_cases left (wList wTx x); simp only [wList] at hh ⊢ <;> omega
  · skip
    have d1 := of_decide_eq_false c1
    first | have q1 := szR_nn d1 | skip
    refine ok_skip ?_
    refine then_n ?_
    refine ok_seq ?_
    refine ok_seq ?_
    refine ok_region ?_
    refine o_pure rfl rfl (pu_move (.inr rfl) (ev_int (inR_lit rfl))) rfl rfl ?_
    refine ops_nil ?_
    refine then_n ?_
    refine ok_block ?_
    refine ok_loop (ι := Nat × Int) (fun zz => ⟨[(0, .one (.dv [] (txsD (x)))), (1, .one (.dv [] (.int .i64 (zz.2)))), (5, .one (.dv [] (.int .i64 ((zz.1 : Int)))))], [], []⟩) (fun zz => zz.1 ≤ x.length ∧ 0 ≤ zz.2 ∧ zz.2 + (wSum wTx (x.take zz.1) : Int) = left - (x.length : Int)) (fun zz => x.length - zz.1) ((0, left - (x.length : Int))) ?_ (weak_sub ⟨rfl, rfl, rfl, trivial⟩ trivial trivial rfl) (fun zz hx => ?_)
    · exact ⟨Nat.zero_le _, by omega, by simp [wSum]⟩
    obtain ⟨k, l⟩ := zz
    replace hx : k ≤ x.length ∧ 0 ≤ l ∧ l + (wSum wTx (x.take k) : Int) = left - (x.length : Int) := hx
    obtain ⟨hk, hl, he⟩ := hx
    have hw := fun h => wSum_succ wTx x k h
    show Ok _ _ _ _ _ (⟨[(0, .one (.dv [] (txsD (x)))), (1, .one (.dv [] (.int .i64 (l)))), (5, .one (.dv [] (.int .i64 ((k : Int)))))], [], []⟩ : St)
    refine ok_seq ?_
    refine ok_seq ?_
    refine ok_region ?_
    refine o_pure rfl rfl (pu_move (.inl rfl) (ev_tmp rfl)) rfl rfl ?_
    refine o_pure rfl rfl (pu_move (.inl rfl) (ev_tmp rfl)) rfl rfl ?_
    refine o_pure rfl rfl (pu_lenV hT rfl rfl (ev_tmp rfl)) rfl rfl ?_
    refine o_pure rfl rfl (pu_lss rfl (ev_tmp rfl) (ev_tmp rfl)) rfl rfl ?_
    refine ops_nil ?_
    refine then_n ?_
    refine ok_cond (ev_tmp rfl) (fun c2 => ?_) (fun c2 => ?_)
    · skip
      have d2 := of_decide_eq_true c2
      first | have q2 := szR_n d2 | skip
      refine ok_skip ?_
      refine then_n ?_
      refine ok_seq ?_
      refine ok_block ?_
      refine ok_seq ?_
      refine ok_region ?_
      refine o_pure rfl rfl (pu_move (.inl rfl) (ev_tmp rfl)) rfl rfl ?_
      refine o_pure rfl rfl (pu_move (.inl rfl) (ev_tmp rfl)) rfl rfl ?_
      refine o_pure rfl rfl (pu_indexD hT rfl rfl rfl (ev_tmp rfl) (ev_tmp rfl) (fun _ => rfl) (by first | omega | (simp only [Bool.and_eq_true, Bool.or_eq_true, Bool.or_eq_false_iff, Bool.and_eq_false_iff, Bool.not_eq_true', Bool.not_eq_false', beq_iff_eq, decide_eq_true_eq, decide_eq_false_iff_not] at hg; omega) | (have hh := of_decide_eq_true (beq_tt hg); omega) | (have hh := of_decide_eq_true (beq_tt (and_r hg)); omega)) (by first | omega | (simp only [Bool.and_eq_true, Bool.or_eq_true, Bool.or_eq_false_iff, Bool.and_eq_false_iff, Bool.not_eq_true', Bool.not_eq_false', beq_iff_eq, decide_eq_true_eq, decide_eq_false_iff_not] at hg; omega) | (have hh := of_decide_eq_true (beq_tt hg); omega) | (have hh := of_decide_eq_true (beq_tt (and_r hg)); omega))) rfl rfl ?_
      refine o_pure rfl rfl (pu_loadRefA hT rfl rfl (ev_tmp rfl) rfl) rfl rfl ?_
      refine o_pure rfl rfl (pu_move (.inl rfl) (ev_tmp rfl)) rfl rfl ?_
      refine o_call rfl rfl rfl Try.call154 (ok_laws_szTx (by omega) (by omega)) (as_cons (ev_tmp rfl) (ag_agg (ag_cons ac_dv (ag_cons ac_dv (ag_cons ac_dv (ag_cons ac_dv (ag_cons ac_dv ag_nil)))))) (as_cons (ev_tmp rfl) (ag_one ac_dv) as_nil)) rfl rfl ?_
      refine o_pure rfl rfl (pu_move (.inr rfl) (ev_tmp rfl)) rfl rfl ?_
      refine ops_nil ?_
      refine then_n ?_
      refine ok_seq ?_
      refine ok_region ?_
      refine o_pure rfl rfl (pu_move (.inl rfl) (ev_tmp rfl)) rfl rfl ?_
      refine o_pure rfl rfl (pu_lss rfl (ev_tmp rfl) (ev_int (inR_lit rfl))) rfl rfl ?_
      refine ops_nil ?_
      refine then_n ?_
      refine ok_cond (ev_tmp rfl) (fun c3 => ?_) (fun c3 => ?_)
      · skip
        have d3 := of_decide_eq_true c3
        first | have q3 := szR_n d3 | skip
        refine ok_seq ?_
        refine ok_region ?_
        refine o_pure rfl rfl (pu_move (.inr rfl) (ev_int (inR_lit rfl))) rfl rfl ?_
        refine ops_nil ?_
        refine then_n ?_
        refine ok_ret ?_
        refine blk_r ?_
        refine then_r ?_
        refine then_r ?_
        refine blk_r ?_
        refine then_r ?_
        refine fin1 (res_tmp rfl) (eqI ?_)
        have hw' := hw (by omega); have hh := szR_cases left (wList wTx x); simp only [wList] at hh ⊢ <;> omega
      · skip
        have d3 := of_decide_eq_false c3
        first | have q3 := szR_nn d3 | skip
        refine ok_skip ?_
        refine blk_n ?_
        refine then_n ?_
        refine ok_region ?_
        refine o_pure rfl rfl (pu_move (.inl rfl) (ev_tmp rfl)) rfl rfl ?_
        refine o_pure rfl rfl (pu_addR rfl (ev_tmp rfl) (ev_int (inR_lit rfl)) (inR64 (by omega) (by omega))) rfl rfl ?_
        refine o_pure rfl rfl (pu_move (.inr rfl) (ev_tmp rfl)) rfl rfl ?_
        refine ops_nil ?_
        refine then_n ?_
        refine ⟨(k + 1, szR l (wTx (x.getD (k : Int).toNat default))), ?_, ?_, weak_sub ⟨rfl, rfl, rfl, trivial⟩ trivial trivial rfl⟩
        · have hw' := hw (by omega)
          dsimp only
          exact ⟨by omega, by omega, by omega⟩
        · omega
    · skip
      have d2 := of_decide_eq_false c2
      first | have q2 := szR_nn d2 | skip
      refine ok_exit ?_
      refine then_e ?_
      refine then_e ?_
      refine blk_e rfl ?_
      refine then_n ?_
      refine ok_seq ?_
      refine ok_region ?_
      refine o_pure rfl rfl (pu_move (.inl rfl) (ev_tmp rfl)) rfl rfl ?_
      refine o_pure rfl rfl (pu_move (.inr rfl) (ev_tmp rfl)) rfl rfl ?_
      refine ops_nil ?_
      refine then_n ?_
      refine ok_ret ?_
      refine fin1 (res_tmp rfl) (eqI ?_)
      have hw' := wSum_all wTx x k (by omega); have hh := szR_cases left (wList wTx x); simp only [wList] at hh ⊢ <;> omega
set_option maxRecDepth 100000 in
theorem ok_laws_szTxQueue {x : List TxT} {left : Int} (h0 : 0 ≤ left) (h1 : left ≤ 1048576) : PFn Try.prog 42 [.agg [(.dv [] (txsD (x)))], .one (.dv [] (.int .i64 (left)))] (.one (.dv [] (.int .i64 (szR (left) (wTxQueue x))))) := by
  refine ⟨fn_intro Try.func42 rfl Try.ntmps42 Try.results42 rfl (fun C => ?_)⟩
  refine ok_factA (x := .tmp 0) 0 (ev_tmp rfl) rfl (fun (f0_0 : ((x)).length ≤ 9223372036854775807) => ?_)
  refine ok_fact (x := .tmp 1) (ev_tmp rfl) (fun (f1 : -9223372036854775808 ≤ (left) ∧ (left) ≤ 9223372036854775807) => ?_)
  refine ok_seq ?_
  refine ok_region ?_
  refine o_box rfl rfl rfl (ev_tmp rfl) rfl rfl rfl rfl ?_
  refine o_pure rfl rfl (pu_move (.inr rfl) (ev_int (inR_lit rfl))) rfl rfl ?_
  refine ops_nil ?_
  refine then_n ?_
  refine ok_seq ?_
  refine ok_region ?_
  refine o_pure rfl rfl (pu_fieldBox hT rfl rfl rfl (ev_tmp rfl)) rfl rfl ?_
  refine o_pure rfl rfl (pu_loadBox1 hT rfl rfl (ev_tmp rfl) rfl rfl) rfl rfl ?_
  refine o_pure rfl rfl (pu_move (.inl rfl) (ev_tmp rfl)) rfl rfl ?_
  refine o_call rfl rfl rfl Try.call103 (ok_laws_szTxS (by omega) (by omega)) (as_cons (ev_tmp rfl) (ag_one ac_dv) (as_cons (ev_tmp rfl) (ag_one ac_dv) as_nil)) rfl rfl ?_
  refine o_pure rfl rfl (pu_move (.inr rfl) (ev_tmp rfl)) rfl rfl ?_
  refine ops_nil ?_
  refine then_n ?_
  refine ok_seq ?_
  refine ok_seq ?_
  refine ok_region ?_
  refine o_pure rfl rfl (pu_move (.inl rfl) (ev_tmp rfl)) rfl rfl ?_
  refine o_pure rfl rfl (pu_lss rfl (ev_tmp rfl) (ev_int (inR_lit rfl))) rfl rfl ?_
  refine ops_nil ?_
  refine then_n ?_
  refine ok_cond (ev_tmp rfl) (fun c1 => ?_) (fun c1 => ?_)
  · skip
    have d1 := of_decide_eq_true c1
    first | have q1 := szR_n d1 | skip
    refine ok_seq ?_
    refine ok_region ?_
    refine o_pure rfl rfl (pu_move (.inr rfl) (ev_int (inR_lit rfl))) rfl rfl ?_
    refine ops_nil ?_
    refine then_n ?_
    refine ok_ret ?_
    refine then_r ?_
    refine fin1 (res_tmp rfl) (eqI ?_)
    have hh := szR_cases left (wTxQueue x); simp only [wTxQueue] at hh ⊢ <;> omega
  · skip
    have d1 := of_decide_eq_false c1
    first | have q1 := szR_nn d1 | skip
    refine ok_skip ?_
    refine then_n ?_
    refine ok_seq ?_
    refine ok_region ?_
    refine o_pure rfl rfl (pu_move (.inl rfl) (ev_tmp rfl)) rfl rfl ?_
    refine o_pure rfl rfl (pu_move (.inr rfl) (ev_tmp rfl)) rfl rfl ?_
    refine ops_nil ?_
    refine then_n ?_
    refine ok_ret ?_
    refine fin1 (res_tmp rfl) (eqI ?_)
    have hh := szR_cases left (wTxQueue x); simp only [wTxQueue] at hh ⊢ <;> omega
set_option maxRecDepth 100000 in
theorem ok_laws_toTx {x : TxT} (hb : wTx x ≤ 1048576) : KFn Try.prog 157 [.agg [(.dv [] (.int .i64 (x.1))), (.dv [] (opsD (x.2.1))), (.dv [] (.int .i64 (x.2.2.1))), (.dv [] (.int .i64 (x.2.2.2.1))), (.dv [] (storesD (x.2.2.2.2)))]] (.agg [(.dv [] (.int .i64 (x.1))), (.key 9007), (.dv [] (.int .i64 (x.2.2.1))), (.dv [] (.int .i64 (x.2.2.2.1))), (.key 19007)]) [(9007, some (kcOf false (opsD (x.2.1)))), (19007, some (kcOf false (storesD (x.2.2.2.2))))] := by
  refine ⟨fn_intro Try.func157 rfl Try.ntmps157 Try.results157 rfl (fun C => ?_)⟩
  refine ok_factA (x := .tmp 0) 0 (ev_tmp rfl) rfl (fun (f0_0 : -9223372036854775808 ≤ (x.1) ∧ (x.1) ≤ 9223372036854775807) => ?_)
  refine ok_factA (x := .tmp 0) 1 (ev_tmp rfl) rfl (fun (f0_1 : ((x.2.1)).length ≤ 9223372036854775807) => ?_)
  refine ok_factA (x := .tmp 0) 2 (ev_tmp rfl) rfl (fun (f0_2 : -9223372036854775808 ≤ (x.2.2.1) ∧ (x.2.2.1) ≤ 9223372036854775807) => ?_)
  refine ok_factA (x := .tmp 0) 3 (ev_tmp rfl) rfl (fun (f0_3 : -9223372036854775808 ≤ (x.2.2.2.1) ∧ (x.2.2.2.1) ≤ 9223372036854775807) => ?_)
  refine ok_factA (x := .tmp 0) 4 (ev_tmp rfl) rfl (fun (f0_4 : ((x.2.2.2.2)).length ≤ 9223372036854775807) => ?_)
  refine ok_seq ?_
  refine ok_region ?_
  refine o_box rfl rfl rfl (ev_tmp rfl) rfl rfl rfl rfl ?_
  refine o_alloc hT rfl rfl rfl rfl rfl rfl ?_
  refine ops_nil ?_
  refine then_n ?_
  refine ok_seq ?_
  refine ok_region ?_
  refine o_alloc hT rfl rfl rfl rfl rfl rfl ?_
  refine ops_nil ?_
  refine then_n ?_
  refine ok_seq ?_
  refine ok_region ?_
  refine o_pure rfl rfl (pu_fieldBox hT rfl rfl rfl (ev_tmp rfl)) rfl rfl ?_
  refine o_pure rfl rfl (pu_loadBox1 hT rfl rfl (ev_tmp rfl) rfl rfl) rfl rfl ?_
  refine o_pure rfl rfl (pu_fieldBox hT rfl rfl rfl (ev_tmp rfl)) rfl rfl ?_
  refine o_store hT rfl rfl rfl rfl (ev_tmp rfl) (ev_tmp rfl) rfl rfl rfl rfl rfl rfl ?_
  refine ops_nil ?_
  refine then_n ?_
  refine ok_seq ?_
  refine ok_region ?_
  refine o_pure rfl rfl (pu_fieldBox hT rfl rfl rfl (ev_tmp rfl)) rfl rfl ?_
  refine o_pure rfl rfl (pu_loadBox1 hT rfl rfl (ev_tmp rfl) rfl rfl) rfl rfl ?_
  refine o_callK 9000 rfl rfl rfl Try.call23 (ok_laws_toOpS (by first | omega | (simp only [wKey, wField, wRecord, wItem, wStore, wIndexDef, wDatabase, wOp, wTx, wTxQueue] at hb ⊢; omega) | (have hq := hw (by omega); omega))) (as_cons (ev_tmp rfl) (ag_one ac_dv) as_nil) rfl rfl rfl ?_
  refine o_pure rfl rfl (pu_fieldBox hT rfl rfl rfl (ev_tmp rfl)) rfl rfl ?_
  refine o_store hT rfl rfl rfl rfl (ev_tmp rfl) (ev_tmp rfl) rfl rfl rfl rfl rfl rfl ?_
  refine ops_nil ?_
  refine then_n ?_
  refine ok_seq ?_
  refine ok_region ?_
  refine o_pure rfl rfl (pu_fieldBox hT rfl rfl rfl (ev_tmp rfl)) rfl rfl ?_
  refine o_pure rfl rfl (pu_loadBox1 hT rfl rfl (ev_tmp rfl) rfl rfl) rfl rfl ?_
  refine o_pure rfl rfl (pu_fieldBox hT rfl rfl rfl (ev_tmp rfl)) rfl rfl ?_
  refine o_store hT rfl rfl rfl rfl (ev_tmp rfl) (ev_tmp rfl) rfl rfl rfl rfl rfl rfl ?_
  refine ops_nil ?_
  refine then_n ?_
  refine ok_seq ?_
  refine ok_region ?_
  refine o_pure rfl rfl (pu_fieldBox hT rfl rfl rfl (ev_tmp rfl)) rfl rfl ?_
  refine o_pure rfl rfl (pu_loadBox1 hT rfl rfl (ev_tmp rfl) rfl rfl) rfl rfl ?_
  refine o_pure rfl rfl (pu_fieldBox hT rfl rfl rfl (ev_tmp rfl)) rfl rfl ?_
  refine o_store hT rfl rfl rfl rfl (ev_tmp rfl) (ev_tmp rfl) rfl rfl rfl rfl rfl rfl ?_
  refine ops_nil ?_
  refine then_n ?_
  refine ok_seq ?_
  refine ok_region ?_
  refine o_pure rfl rfl (pu_fieldBox hT rfl rfl rfl (ev_tmp rfl)) rfl rfl ?_
  refine o_pure rfl rfl (pu_loadBox1 hT rfl rfl (ev_tmp rfl) rfl rfl) rfl rfl ?_
  refine o_callK 19000 rfl rfl rfl Try.call52 (ok_laws_toStoreS (by first | omega | (simp only [wKey, wField, wRecord, wItem, wStore, wIndexDef, wDatabase, wOp, wTx, wTxQueue] at hb ⊢; omega) | (have hq := hw (by omega); omega))) (as_cons (ev_tmp rfl) (ag_one ac_dv) as_nil) rfl rfl rfl ?_
  refine o_pure rfl rfl (pu_fieldBox hT rfl rfl rfl (ev_tmp rfl)) rfl rfl ?_
  refine o_store hT rfl rfl rfl rfl (ev_tmp rfl) (ev_tmp rfl) rfl rfl rfl rfl rfl rfl ?_
  refine ops_nil ?_
  refine then_n ?_
  refine ok_seq ?_
  refine ok_region ?_
  refine o_pure rfl rfl (pu_loadBoxA hT rfl rfl (ev_tmp rfl) rfl rfl) rfl rfl ?_
  refine o_store hT rfl rfl rfl rfl (ev_tmp rfl) (ev_tmp rfl) rfl rfl rfl rfl rfl rfl ?_
  refine ops_nil ?_
  refine then_n ?_
  refine ok_weak (σ' := ⟨[(2, .box 2 0)], [(2, 138, [(.dv [] (.int .i64 (x.1))), (.key 9007), (.dv [] (.int .i64 (x.2.2.1))), (.dv [] (.int .i64 (x.2.2.2.1))), (.key 19007)])], [(9007, some (kcOf false (opsD (x.2.1)))), (19007, some (kcOf false (storesD (x.2.2.2.2))))]⟩) (weak_sub ⟨rfl, trivial⟩ ⟨rfl, trivial⟩ ⟨rfl, rfl, trivial⟩ rfl) ?_
  refine ok_ret ?_
  refine fin1 (res_cell hT rfl rfl rfl rfl) ?_
  exact ⟨rfl, rfl⟩
set_option maxRecDepth 100000 in
theorem ok_laws_toTxS {x : List (TxT)} (hb : wList wTx x ≤ 1048576) : KFn Try.prog 106 [.one (.dv [] (txsD (x)))] (.one (.key 7)) [(7, some (kcOf false (txsD (x))))] := by
  refine ⟨fn_intro Try.func106 rfl Try.ntmps106 Try.results106 rfl (fun C => ?_)⟩
  refine ok_fact (x := .tmp 0) (ev_tmp rfl) (fun (f0 : ((x)).length ≤ 9223372036854775807) => ?_)
  refine ok_seq ?_
  refine ok_region ?_
  refine o_pure rfl rfl (pu_move (.inr rfl) ev_nil) rfl rfl ?_
  refine ops_nil ?_
  refine then_n ?_
  refine ok_seq ?_
  refine ok_region ?_
  refine o_pure rfl rfl (pu_move (.inl rfl) (ev_tmp rfl)) rfl rfl ?_
  refine o_pure rfl rfl (pu_lenV hT rfl rfl (ev_tmp rfl)) rfl rfl ?_
  refine o_make (k := 7) (n := ((x)).length) (zd := [.int .i64 (0), .sl 102 7 0 [], .int .i64 (0), .int .i64 (0), .sl 82 3 0 []]) (cs := fillD eTx [.int .i64 (0), .sl 102 7 0 [], .int .i64 (0), .int .i64 (0), .sl 82 3 0 []] x 0) hT rfl rfl rfl rfl rfl rfl (ev_tmp rfl) (ev_tmp rfl) rfl rfl rfl (by have := wList_len wTx x; omega) rfl rfl fillD_zero ?_
  refine o_pure rfl rfl (pu_move (.inr rfl) (ev_tmp rfl)) rfl rfl ?_
  refine ops_nil ?_
  refine then_n ?_
  refine ok_seq ?_
  refine ok_seq ?_
  refine ok_region ?_
  refine o_pure rfl rfl (pu_move (.inr rfl) (ev_int (inR_lit rfl))) rfl rfl ?_
  refine ops_nil ?_
  refine then_n ?_
  refine ok_block ?_
  refine ok_loop (ι := Nat) (fun zz => ⟨[(0, .one (.dv [] (txsD (x)))), (3, .one (.key 7)), (4, .one (.dv [] (.int .i64 ((zz : Int)))))], [], [(7, some (kcOf false (.sl 138 5 ((x).length) (fillD eTx [.int .i64 (0), .sl 102 7 0 [], .int .i64 (0), .int .i64 (0), .sl 82 3 0 []] x zz))))]⟩) (fun zz => zz ≤ x.length) (fun zz => x.length - zz) (0) ?_ (weak_sub ⟨rfl, rfl, rfl, trivial⟩ trivial ⟨rfl, trivial⟩ rfl) (fun zz hx => ?_)
  · exact Nat.zero_le _
  obtain ⟨k, rfl⟩ : ∃ v, v = zz := ⟨_, rfl⟩
  replace hx : k ≤ x.length := hx
  have hw := fun h => wSum_succ wTx x k h
  have hw2 := wSum_le wTx x (k + 1)
  have hw3 : wList wTx x = x.length + wSum wTx x := rfl
  show Ok _ _ _ _ _ (⟨[(0, .one (.dv [] (txsD (x)))), (3, .one (.key 7)), (4, .one (.dv [] (.int .i64 ((k : Int)))))], [], [(7, some (kcOf false (.sl 138 5 ((x).length) (fillD eTx [.int .i64 (0), .sl 102 7 0 [], .int .i64 (0), .int .i64 (0), .sl 82 3 0 []] x k))))]⟩ : St)
  refine ok_seq ?_
  refine ok_seq ?_
  refine ok_region ?_
  refine o_pure rfl rfl (pu_move (.inl rfl) (ev_tmp rfl)) rfl rfl ?_
  refine o_pure rfl rfl (pu_move (.inl rfl) (ev_tmp rfl)) rfl rfl ?_
  refine o_pure rfl rfl (pu_lenV hT rfl rfl (ev_tmp rfl)) rfl rfl ?_
  refine o_pure rfl rfl (pu_lss rfl (ev_tmp rfl) (ev_tmp rfl)) rfl rfl ?_
  refine ops_nil ?_
  refine then_n ?_
  refine ok_cond (ev_tmp rfl) (fun c1 => ?_) (fun c1 => ?_)
  · skip
    have d1 := of_decide_eq_true c1
    refine ok_skip ?_
    refine then_n ?_
    refine ok_seq ?_
    refine ok_block ?_
    refine ok_region ?_
    refine o_pure rfl rfl (pu_move (.inl rfl) (ev_tmp rfl)) rfl rfl ?_
    refine o_pure rfl rfl (pu_move (.inl rfl) (ev_tmp rfl)) rfl rfl ?_
    refine o_pure rfl rfl (pu_move (.inl rfl) (ev_tmp rfl)) rfl rfl ?_
    refine o_pure rfl rfl (pu_move (.inl rfl) (ev_tmp rfl)) rfl rfl ?_
    refine o_pure rfl rfl (pu_indexD hT rfl rfl rfl (ev_tmp rfl) (ev_tmp rfl) (fun _ => rfl) (by first | omega | (simp only [Bool.and_eq_true, Bool.or_eq_true, Bool.or_eq_false_iff, Bool.and_eq_false_iff, Bool.not_eq_true', Bool.not_eq_false', beq_iff_eq, decide_eq_true_eq, decide_eq_false_iff_not] at hg; omega) | (have hh := of_decide_eq_true (beq_tt hg); omega) | (have hh := of_decide_eq_true (beq_tt (and_r hg)); omega)) (by first | omega | (simp only [Bool.and_eq_true, Bool.or_eq_true, Bool.or_eq_false_iff, Bool.and_eq_false_iff, Bool.not_eq_true', Bool.not_eq_false', beq_iff_eq, decide_eq_true_eq, decide_eq_false_iff_not] at hg; omega) | (have hh := of_decide_eq_true (beq_tt hg); omega) | (have hh := of_decide_eq_true (beq_tt (and_r hg)); omega))) rfl rfl ?_
    refine o_pure rfl rfl (pu_loadRefA hT rfl rfl (ev_tmp rfl) rfl) rfl rfl ?_
    refine o_callK 20000 rfl rfl rfl Try.call157 (ok_laws_toTx (by first | omega | (simp only [wKey, wField, wRecord, wItem, wStore, wIndexDef, wDatabase, wOp, wTx, wTxQueue] at hb ⊢; omega) | (have hq := hw (by omega); omega))) (as_cons (ev_tmp rfl) (ag_agg (ag_cons ac_dv (ag_cons ac_dv (ag_cons ac_dv (ag_cons ac_dv (ag_cons ac_dv ag_nil)))))) as_nil) rfl rfl rfl ?_
    refine o_pure rfl rfl (pu_indexK (i := k) hT rfl rfl rfl (ev_tmp rfl) rfl (ev_tmp rfl) rfl (by show _ < ((x).length); omega)) rfl rfl ?_
    refine o_storeE (js := [29007, 39007]) (cs := fillD eTx [.int .i64 (0), .sl 102 7 0 [], .int .i64 (0), .int .i64 (0), .sl 82 3 0 []] x (k + 1)) hT rfl rfl rfl rfl (ev_tmp rfl) (ev_tmp rfl) rfl rfl rfl rfl (ow_cons' (ow_dv rfl) (ow_cons' (ow_key rfl) (ow_cons' (ow_dv rfl) (ow_cons' (ow_dv rfl) (ow_cons' (ow_key rfl) ow_nil rfl) rfl) rfl) rfl) rfl) (by decide) (by decide) rfl (by show _ ≤ List.length (fillD eTx [.int .i64 (0), .sl 102 7 0 [], .int .i64 (0), .int .i64 (0), .sl 82 3 0 []] x k); rw [fillD_len (sz := 5) (fun _ => rfl) rfl]; omega) (fillD_succ (sz := 5) (fun _ => rfl) rfl (by omega) rfl) ?_
    simp only [killT, killB, SV.kill, CV.kill, List.map_cons, List.map_nil, List.any_cons, List.any_nil, List.contains_cons, List.contains_nil, List.nil_append, List.cons_append, Nat.reduceBEq, Bool.or_false, Bool.false_or, Bool.or_true, Bool.true_or, cond_true, cond_false]
    refine ops_nil ?_
    refine blk_n ?_
    refine then_n ?_
    refine ok_region ?_
    refine o_pure rfl rfl (pu_move (.inl rfl) (ev_tmp rfl)) rfl rfl ?_
    refine o_pure rfl rfl (pu_addR rfl (ev_tmp rfl) (ev_int (inR_lit rfl)) (inR64 (by omega) (by omega))) rfl rfl ?_
    refine o_pure rfl rfl (pu_move (.inr rfl) (ev_tmp rfl)) rfl rfl ?_
    refine ops_nil ?_
    refine then_n ?_
    refine ⟨k + 1, ?_, ?_, weak_sub ⟨rfl, rfl, rfl, trivial⟩ trivial ⟨rfl, trivial⟩ rfl⟩
    · omega
    · omega
  · skip
    have d1 := of_decide_eq_false c1
    refine ok_exit ?_
    refine then_e ?_
    refine then_e ?_
    refine blk_e rfl ?_
    refine then_n ?_
    refine ok_seq ?_
    refine ok_region ?_
    refine o_pure rfl rfl (pu_move (.inl rfl) (ev_tmp rfl)) rfl rfl ?_
    refine o_pure rfl rfl (pu_move (.inr rfl) (ev_tmp rfl)) rfl rfl ?_
    refine ops_nil ?_
    refine then_n ?_
    refine ok_weak (σ' := ⟨[(2, .one (.key 7))], [], [(7, some (kcOf false (txsD (x))))]⟩) (weak_sub ⟨rfl, trivial⟩ trivial ⟨(congrArg (fun cs => some (some (KC.mk false 138 5 x.length cs))) (fillD_all (by omega))), trivial⟩ rfl) ?_
    refine ok_ret ?_
    refine fin1 (res_tmp rfl) ?_
    exact ⟨rfl, rfl⟩
set_option maxRecDepth 100000 in
theorem ok_laws_toTxQueue {x : List TxT} (hb : wTxQueue x ≤ 1048576) : KFn Try.prog 44 [.agg [(.dv [] (txsD (x)))]] (.agg [(.key 6007)]) [(6007, some (kcOf false (txsD (x))))] := by
  refine ⟨fn_intro Try.func44 rfl Try.ntmps44 Try.results44 rfl (fun C => ?_)⟩
  refine ok_factA (x := .tmp 0) 0 (ev_tmp rfl) rfl (fun (f0_0 : ((x)).length ≤ 9223372036854775807) => ?_)
  refine ok_seq ?_
  refine ok_region ?_
  refine o_box rfl rfl rfl (ev_tmp rfl) rfl rfl rfl rfl ?_
  refine o_alloc hT rfl rfl rfl rfl rfl rfl ?_
  refine ops_nil ?_
  refine then_n ?_
  refine ok_seq ?_
  refine ok_region ?_
  refine o_alloc hT rfl rfl rfl rfl rfl rfl ?_
  refine ops_nil ?_
  refine then_n ?_
  refine ok_seq ?_
  refine ok_region ?_
  refine o_pure rfl rfl (pu_fieldBox hT rfl rfl rfl (ev_tmp rfl)) rfl rfl ?_
  refine o_pure rfl rfl (pu_loadBox1 hT rfl rfl (ev_tmp rfl) rfl rfl) rfl rfl ?_
  refine o_callK 6000 rfl rfl rfl Try.call106 (ok_laws_toTxS (by first | omega | (simp only [wKey, wField, wRecord, wItem, wStore, wIndexDef, wDatabase, wOp, wTx, wTxQueue] at hb ⊢; omega) | (have hq := hw (by omega); omega))) (as_cons (ev_tmp rfl) (ag_one ac_dv) as_nil) rfl rfl rfl ?_
  refine o_pure rfl rfl (pu_fieldBox hT rfl rfl rfl (ev_tmp rfl)) rfl rfl ?_
  refine o_store hT rfl rfl rfl rfl (ev_tmp rfl) (ev_tmp rfl) rfl rfl rfl rfl rfl rfl ?_
  refine ops_nil ?_
  refine then_n ?_
  refine ok_seq ?_
  refine ok_region ?_
  refine o_pure rfl rfl (pu_loadBoxA hT rfl rfl (ev_tmp rfl) rfl rfl) rfl rfl ?_
  refine o_store hT rfl rfl rfl rfl (ev_tmp rfl) (ev_tmp rfl) rfl rfl rfl rfl rfl rfl ?_
  refine ops_nil ?_
  refine then_n ?_
  refine ok_weak (σ' := ⟨[(2, .box 2 0)], [(2, 70, [(.key 6007)])], [(6007, some (kcOf false (txsD (x))))]⟩) (weak_sub ⟨rfl, trivial⟩ ⟨rfl, trivial⟩ ⟨rfl, trivial⟩ rfl) ?_
  refine ok_ret ?_
  refine fin1 (res_cell hT rfl rfl rfl rfl) ?_
  exact ⟨rfl, rfl⟩
set_option maxRecDepth 100000 in
theorem ok_laws_eqTx {x : TxT}  : PFn Try.prog 160 [.agg [(.dv [] (.int .i64 (x.1))), (.dv [] (opsD (x.2.1))), (.dv [] (.int .i64 (x.2.2.1))), (.dv [] (.int .i64 (x.2.2.2.1))), (.dv [] (storesD (x.2.2.2.2)))], .agg [(.dv [] (.int .i64 (x.1))), (.dv [] (opsD (x.2.1))), (.dv [] (.int .i64 (x.2.2.1))), (.dv [] (.int .i64 (x.2.2.2.1))), (.dv [] (storesD (x.2.2.2.2)))]] (.one (.dv [] (.bool (true)))) := by
  refine ⟨fn_intro Try.func160 rfl Try.ntmps160 Try.results160 rfl (fun C => ?_)⟩
  refine ok_factA (x := .tmp 0) 0 (ev_tmp rfl) rfl (fun (f0_0 : -9223372036854775808 ≤ (x.1) ∧ (x.1) ≤ 9223372036854775807) => ?_)
  refine ok_factA (x := .tmp 0) 1 (ev_tmp rfl) rfl (fun (f0_1 : ((x.2.1)).length ≤ 9223372036854775807) => ?_)
  refine ok_factA (x := .tmp 0) 2 (ev_tmp rfl) rfl (fun (f0_2 : -9223372036854775808 ≤ (x.2.2.1) ∧ (x.2.2.1) ≤ 9223372036854775807) => ?_)
  refine ok_factA (x := .tmp 0) 3 (ev_tmp rfl) rfl (fun (f0_3 : -9223372036854775808 ≤ (x.2.2.2.1) ∧ (x.2.2.2.1) ≤ 9223372036854775807) => ?_)
  refine ok_factA (x := .tmp 0) 4 (ev_tmp rfl) rfl (fun (f0_4 : ((x.2.2.2.2)).length ≤ 9223372036854775807) => ?_)
  refine ok_factA (x := .tmp 1) 0 (ev_tmp rfl) rfl (fun (f1_0 : -9223372036854775808 ≤ (x.1) ∧ (x.1) ≤ 9223372036854775807) => ?_)
  refine ok_factA (x := .tmp 1) 1 (ev_tmp rfl) rfl (fun (f1_1 : ((x.2.1)).length ≤ 9223372036854775807) => ?_)
  refine ok_factA (x := .tmp 1) 2 (ev_tmp rfl) rfl (fun (f1_2 : -9223372036854775808 ≤ (x.2.2.1) ∧ (x.2.2.1) ≤ 9223372036854775807) => ?_)
  refine ok_factA (x := .tmp 1) 3 (ev_tmp rfl) rfl (fun (f1_3 : -9223372036854775808 ≤ (x.2.2.2.1) ∧ (x.2.2.2.1) ≤ 9223372036854775807) => ?_)
  refine ok_factA (x := .tmp 1) 4 (ev_tmp rfl) rfl (fun (f1_4 : ((x.2.2.2.2)).length ≤ 9223372036854775807) => ?_)
  refine ok_seq ?_
  refine ok_region ?_
  refine o_box rfl rfl rfl (ev_tmp rfl) rfl rfl rfl rfl ?_
  refine o_box rfl rfl rfl (ev_tmp rfl) rfl rfl rfl rfl ?_
  refine o_pure rfl rfl (pu_move (.inr rfl) ev_bool) rfl rfl ?_
  refine ops_nil ?_
  refine then_n ?_
  refine ok_seq ?_
  refine ok_seq ?_
  refine ok_region ?_
  refine o_pure rfl rfl (pu_fieldBox hT rfl rfl rfl (ev_tmp rfl)) rfl rfl ?_
  refine o_pure rfl rfl (pu_loadBox1 hT rfl rfl (ev_tmp rfl) rfl rfl) rfl rfl ?_
  refine o_pure rfl rfl (pu_fieldBox hT rfl rfl rfl (ev_tmp rfl)) rfl rfl ?_
  refine o_pure rfl rfl (pu_loadBox1 hT rfl rfl (ev_tmp rfl) rfl rfl) rfl rfl ?_
  refine o_pure rfl rfl (pu_neq rfl (ev_tmp rfl) (ev_tmp rfl)) rfl rfl ?_
  refine ops_nil ?_
  refine then_n ?_
  refine ok_cond (ev_tmp rfl) (fun c1 => ?_) (fun c1 => ?_)
  · skip
    have d1 := nd_t c1
    refine ok_seq ?_
    refine ok_region ?_
    refine o_pure rfl rfl (pu_move (.inr rfl) ev_bool) rfl rfl ?_
    refine ops_nil ?_
    refine then_n ?_
    refine ok_ret ?_
    refine then_r ?_
    refine fin1 (res_tmp rfl) (eqB ?_)
    first | rfl | (exfalso; simp_all [sEq])
  · skip
    have d1 := nd_f c1
    refine ok_skip ?_
    refine then_n ?_
    refine ok_seq ?_
    refine ok_seq ?_
    refine ok_region ?_
    refine o_pure rfl rfl (pu_fieldBox hT rfl rfl rfl (ev_tmp rfl)) rfl rfl ?_
    refine o_pure rfl rfl (pu_loadBox1 hT rfl rfl (ev_tmp rfl) rfl rfl) rfl rfl ?_
    refine o_pure rfl rfl (pu_fieldBox hT rfl rfl rfl (ev_tmp rfl)) rfl rfl ?_
    refine o_pure rfl rfl (pu_loadBox1 hT rfl rfl (ev_tmp rfl) rfl rfl) rfl rfl ?_
    refine o_call rfl rfl rfl Try.call26 ok_laws_eqOpS (as_cons (ev_tmp rfl) (ag_one ac_dv) (as_cons (ev_tmp rfl) (ag_one ac_dv) as_nil)) rfl rfl ?_
    refine o_pure rfl rfl (pu_not rfl (ev_tmp rfl)) rfl rfl ?_
    refine ops_nil ?_
    refine then_n ?_
    refine ok_cond (ev_tmp rfl) (fun c2 => ?_) (fun c2 => ?_)
    · skip
      refine ok_seq ?_
      refine ok_region ?_
      refine o_pure rfl rfl (pu_move (.inr rfl) ev_bool) rfl rfl ?_
      refine ops_nil ?_
      refine then_n ?_
      refine ok_ret ?_
      refine then_r ?_
      refine fin1 (res_tmp rfl) (eqB ?_)
      first | rfl | (exfalso; simp_all [sEq])
    · skip
      refine ok_skip ?_
      refine then_n ?_
      refine ok_seq ?_
      refine ok_seq ?_
      refine ok_region ?_
      refine o_pure rfl rfl (pu_fieldBox hT rfl rfl rfl (ev_tmp rfl)) rfl rfl ?_
      refine o_pure rfl rfl (pu_loadBox1 hT rfl rfl (ev_tmp rfl) rfl rfl) rfl rfl ?_
      refine o_pure rfl rfl (pu_fieldBox hT rfl rfl rfl (ev_tmp rfl)) rfl rfl ?_
      refine o_pure rfl rfl (pu_loadBox1 hT rfl rfl (ev_tmp rfl) rfl rfl) rfl rfl ?_
      refine o_pure rfl rfl (pu_neq rfl (ev_tmp rfl) (ev_tmp rfl)) rfl rfl ?_
      refine ops_nil ?_
      refine then_n ?_
      refine ok_cond (ev_tmp rfl) (fun c3 => ?_) (fun c3 => ?_)
      · skip
        have d3 := nd_t c3
        refine ok_seq ?_
        refine ok_region ?_
        refine o_pure rfl rfl (pu_move (.inr rfl) ev_bool) rfl rfl ?_
        refine ops_nil ?_
        refine then_n ?_
        refine ok_ret ?_
        refine then_r ?_
        refine fin1 (res_tmp rfl) (eqB ?_)
        first | rfl | (exfalso; simp_all [sEq])
      · skip
        have d3 := nd_f c3
        refine ok_skip ?_
        refine then_n ?_
        refine ok_seq ?_
        refine ok_seq ?_
        refine ok_region ?_
        refine o_pure rfl rfl (pu_fieldBox hT rfl rfl rfl (ev_tmp rfl)) rfl rfl ?_
        refine o_pure rfl rfl (pu_loadBox1 hT rfl rfl (ev_tmp rfl) rfl rfl) rfl rfl ?_
        refine o_pure rfl rfl (pu_fieldBox hT rfl rfl rfl (ev_tmp rfl)) rfl rfl ?_
        refine o_pure rfl rfl (pu_loadBox1 hT rfl rfl (ev_tmp rfl) rfl rfl) rfl rfl ?_
        refine o_pure rfl rfl (pu_neq rfl (ev_tmp rfl) (ev_tmp rfl)) rfl rfl ?_
        refine ops_nil ?_
        refine then_n ?_
        refine ok_cond (ev_tmp rfl) (fun c4 => ?_) (fun c4 => ?_)
        · skip
          have d4 := nd_t c4
          refine ok_seq ?_
          refine ok_region ?_
          refine o_pure rfl rfl (pu_move (.inr rfl) ev_bool) rfl rfl ?_
          refine ops_nil ?_
          refine then_n ?_
          refine ok_ret ?_
          refine then_r ?_
          refine fin1 (res_tmp rfl) (eqB ?_)
          first | rfl | (exfalso; simp_all [sEq])
        · skip
          have d4 := nd_f c4
          refine ok_skip ?_
          refine then_n ?_
          refine ok_seq ?_
          refine ok_seq ?_
          refine ok_region ?_
          refine o_pure rfl rfl (pu_fieldBox hT rfl rfl rfl (ev_tmp rfl)) rfl rfl ?_
          refine o_pure rfl rfl (pu_loadBox1 hT rfl rfl (ev_tmp rfl) rfl rfl) rfl rfl ?_
          refine o_pure rfl rfl (pu_fieldBox hT rfl rfl rfl (ev_tmp rfl)) rfl rfl ?_
          refine o_pure rfl rfl (pu_loadBox1 hT rfl rfl (ev_tmp rfl) rfl rfl) rfl rfl ?_
          refine o_call rfl rfl rfl Try.call55 ok_laws_eqStoreS (as_cons (ev_tmp rfl) (ag_one ac_dv) (as_cons (ev_tmp rfl) (ag_one ac_dv) as_nil)) rfl rfl ?_
          refine o_pure rfl rfl (pu_not rfl (ev_tmp rfl)) rfl rfl ?_
          refine ops_nil ?_
          refine then_n ?_
          refine ok_cond (ev_tmp rfl) (fun c5 => ?_) (fun c5 => ?_)
          · skip
            refine ok_seq ?_
            refine ok_region ?_
            refine o_pure rfl rfl (pu_move (.inr rfl) ev_bool) rfl rfl ?_
            refine ops_nil ?_
            refine then_n ?_
            refine ok_ret ?_
            refine then_r ?_
            refine fin1 (res_tmp rfl) (eqB ?_)
            first | rfl | (exfalso; simp_all [sEq])
          · skip
            refine ok_skip ?_
            refine then_n ?_
            refine ok_seq ?_
            refine ok_region ?_
            refine o_pure rfl rfl (pu_move (.inr rfl) ev_bool) rfl rfl ?_
            refine ops_nil ?_
            refine then_n ?_
            refine ok_ret ?_
            refine fin1 (res_tmp rfl) (eqB ?_)
            first | rfl | (exfalso; simp_all [sEq])
set_option maxRecDepth 100000 in
theorem ok_laws_eqTxS {x : List (TxT)}  : PFn Try.prog 109 [.one (.dv [] (txsD (x))), .one (.dv [] (txsD (x)))] (.one (.dv [] (.bool (true)))) := by
  refine ⟨fn_intro Try.func109 rfl Try.ntmps109 Try.results109 rfl (fun C => ?_)⟩
  refine ok_fact (x := .tmp 0) (ev_tmp rfl) (fun (f0 : ((x)).length ≤ 9223372036854775807) => ?_)
  refine ok_fact (x := .tmp 1) (ev_tmp rfl) (fun (f1 : ((x)).length ≤ 9223372036854775807) => ?_)
  refine ok_seq ?_
  refine ok_region ?_
  refine o_pure rfl rfl (pu_move (.inr rfl) ev_bool) rfl rfl ?_
  refine ops_nil ?_
  refine then_n ?_
  refine ok_seq ?_
  refine ok_seq ?_
  refine ok_region ?_
  refine o_pure rfl rfl (pu_move (.inl rfl) (ev_tmp rfl)) rfl rfl ?_
  refine o_pure rfl rfl (pu_lenV hT rfl rfl (ev_tmp rfl)) rfl rfl ?_
  refine o_pure rfl rfl (pu_move (.inl rfl) (ev_tmp rfl)) rfl rfl ?_
  refine o_pure rfl rfl (pu_lenV hT rfl rfl (ev_tmp rfl)) rfl rfl ?_
  refine o_pure rfl rfl (pu_neq rfl (ev_tmp rfl) (ev_tmp rfl)) rfl rfl ?_
  refine ops_nil ?_
  refine then_n ?_
  refine ok_cond (ev_tmp rfl) (fun c1 => ?_) (fun c1 => ?_)
  · skip
    have d1 := nd_t c1
    refine ok_seq ?_
    refine ok_region ?_
    refine o_pure rfl rfl (pu_move (.inr rfl) ev_bool) rfl rfl ?_
    refine ops_nil ?_
    refine then_n ?_
    refine ok_ret ?_
    refine then_r ?_
    refine fin1 (res_tmp rfl) (eqB ?_)
    first | rfl | (exfalso; simp_all [sEq])
  · skip
    have d1 := nd_f c1
    refine ok_skip ?_
    refine then_n ?_
    refine ok_seq ?_
    refine ok_seq ?_
    refine ok_region ?_
    refine o_pure rfl rfl (pu_move (.inr rfl) (ev_int (inR_lit rfl))) rfl rfl ?_
    refine ops_nil ?_
    refine then_n ?_
    refine ok_block ?_
    refine ok_loop (ι := Nat) (fun zz => ⟨[(0, .one (.dv [] (txsD (x)))), (1, .one (.dv [] (txsD (x)))), (5, .one (.dv [] (.int .i64 ((zz : Int)))))], [], []⟩) (fun zz => zz ≤ x.length) (fun zz => x.length - zz) (0) ?_ (weak_sub ⟨rfl, rfl, rfl, trivial⟩ trivial trivial rfl) (fun zz hx => ?_)
    · exact Nat.zero_le _
    obtain ⟨k, rfl⟩ : ∃ v, v = zz := ⟨_, rfl⟩
    replace hx : k ≤ x.length := hx
    show Ok _ _ _ _ _ (⟨[(0, .one (.dv [] (txsD (x)))), (1, .one (.dv [] (txsD (x)))), (5, .one (.dv [] (.int .i64 ((k : Int)))))], [], []⟩ : St)
    refine ok_seq ?_
    refine ok_seq ?_
    refine ok_region ?_
    refine o_pure rfl rfl (pu_move (.inl rfl) (ev_tmp rfl)) rfl rfl ?_
    refine o_pure rfl rfl (pu_move (.inl rfl) (ev_tmp rfl)) rfl rfl ?_
    refine o_pure rfl rfl (pu_lenV hT rfl rfl (ev_tmp rfl)) rfl rfl ?_
    refine o_pure rfl rfl (pu_lss rfl (ev_tmp rfl) (ev_tmp rfl)) rfl rfl ?_
    refine ops_nil ?_
    refine then_n ?_
    refine ok_cond (ev_tmp rfl) (fun c2 => ?_) (fun c2 => ?_)
    · skip
      have d2 := of_decide_eq_true c2
      refine ok_skip ?_
      refine then_n ?_
      refine ok_seq ?_
      refine ok_block ?_
      refine ok_seq ?_
      refine ok_regionD (oB := []) (oK := []) (by kernel_rfl) rfl rfl ?_
      refine d_take 0 rfl (by kernel_rfl) rfl rfl (pu_move (.inl rfl) (ev_tmp rfl)) rfl rfl rfl rfl ?_
      refine d_take 1 rfl (by kernel_rfl) rfl rfl (pu_move (.inl rfl) (ev_tmp rfl)) rfl rfl rfl rfl ?_
      refine d_take 2 rfl (by kernel_rfl) rfl rfl (pu_indexD hT rfl rfl rfl (ev_tmp rfl) (ev_tmp rfl) (fun _ => rfl) (by first | omega | (simp only [Bool.and_eq_true, Bool.or_eq_true, Bool.or_eq_false_iff, Bool.and_eq_false_iff, Bool.not_eq_true', Bool.not_eq_false', beq_iff_eq, decide_eq_true_eq, decide_eq_false_iff_not] at hg; omega) | (have hh := of_decide_eq_true (beq_tt hg); omega) | (have hh := of_decide_eq_true (beq_tt (and_r hg)); omega)) (by first | omega | (simp only [Bool.and_eq_true, Bool.or_eq_true, Bool.or_eq_false_iff, Bool.and_eq_false_iff, Bool.not_eq_true', Bool.not_eq_false', beq_iff_eq, decide_eq_true_eq, decide_eq_false_iff_not] at hg; omega) | (have hh := of_decide_eq_true (beq_tt hg); omega) | (have hh := of_decide_eq_true (beq_tt (and_r hg)); omega))) rfl rfl rfl rfl ?_
      refine d_take 3 rfl (by kernel_rfl) rfl rfl (pu_loadRefA hT rfl rfl (ev_tmp rfl) rfl) rfl rfl rfl rfl ?_
      refine d_take 4 rfl (by kernel_rfl) rfl rfl (pu_move (.inl rfl) (ev_tmp rfl)) rfl rfl rfl rfl ?_
      refine d_take 5 rfl (by kernel_rfl) rfl rfl (pu_move (.inl rfl) (ev_tmp rfl)) rfl rfl rfl rfl ?_
      refine d_take 6 rfl (by kernel_rfl) rfl rfl (pu_indexD hT rfl rfl rfl (ev_tmp rfl) (ev_tmp rfl) (fun _ => rfl) (by first | omega | (simp only [Bool.and_eq_true, Bool.or_eq_true, Bool.or_eq_false_iff, Bool.and_eq_false_iff, Bool.not_eq_true', Bool.not_eq_false', beq_iff_eq, decide_eq_true_eq, decide_eq_false_iff_not] at hg; omega) | (have hh := of_decide_eq_true (beq_tt hg); omega) | (have hh := of_decide_eq_true (beq_tt (and_r hg)); omega)) (by first | omega | (simp only [Bool.and_eq_true, Bool.or_eq_true, Bool.or_eq_false_iff, Bool.and_eq_false_iff, Bool.not_eq_true', Bool.not_eq_false', beq_iff_eq, decide_eq_true_eq, decide_eq_false_iff_not] at hg; omega) | (have hh := of_decide_eq_true (beq_tt hg); omega) | (have hh := of_decide_eq_true (beq_tt (and_r hg)); omega))) rfl rfl rfl rfl ?_
      refine d_take 7 rfl (by kernel_rfl) rfl rfl (pu_loadRefA hT rfl rfl (ev_tmp rfl) rfl) rfl rfl rfl rfl ?_
      refine d_call 8 rfl (by kernel_rfl) rfl rfl rfl Try.call160 ok_laws_eqTx (as_cons (ev_tmp rfl) (ag_agg (ag_cons ac_dv (ag_cons ac_dv (ag_cons ac_dv (ag_cons ac_dv (ag_cons ac_dv ag_nil)))))) (as_cons (ev_tmp rfl) (ag_agg (ag_cons ac_dv (ag_cons ac_dv (ag_cons ac_dv (ag_cons ac_dv (ag_cons ac_dv ag_nil)))))) as_nil)) rfl rfl rfl rfl ?_
      refine d_take 9 rfl (by kernel_rfl) rfl rfl (pu_not rfl (ev_tmp rfl)) rfl rfl rfl rfl ?_
      refine d_done (by kernel_rfl) ?_
      refine then_n ?_
      refine ok_cond (ev_tmp rfl) (fun c3 => ?_) (fun c3 => ?_)
      · skip
        refine ok_seq ?_
        refine ok_region ?_
        refine o_pure rfl rfl (pu_move (.inr rfl) ev_bool) rfl rfl ?_
        refine ops_nil ?_
        refine then_n ?_
        refine ok_ret ?_
        refine blk_r ?_
        refine then_r ?_
        refine then_r ?_
        refine blk_r ?_
        refine then_r ?_
        refine fin1 (res_tmp rfl) (eqB ?_)
        first | rfl | (exfalso; simp_all [sEq])
      · skip
        refine ok_skip ?_
        refine blk_n ?_
        refine then_n ?_
        refine ok_region ?_
        refine o_pure rfl rfl (pu_move (.inl rfl) (ev_tmp rfl)) rfl rfl ?_
        refine o_pure rfl rfl (pu_addR rfl (ev_tmp rfl) (ev_int (inR_lit rfl)) (inR64 (by omega) (by omega))) rfl rfl ?_
        refine o_pure rfl rfl (pu_move (.inr rfl) (ev_tmp rfl)) rfl rfl ?_
        refine ops_nil ?_
        refine then_n ?_
        refine ⟨k + 1, ?_, ?_, weak_sub ⟨rfl, rfl, rfl, trivial⟩ trivial trivial rfl⟩
        · omega
        · omega
    · skip
      have d2 := of_decide_eq_false c2
      refine ok_exit ?_
      refine then_e ?_
      refine then_e ?_
      refine blk_e rfl ?_
      refine then_n ?_
      refine ok_seq ?_
      refine ok_region ?_
      refine o_pure rfl rfl (pu_move (.inr rfl) ev_bool) rfl rfl ?_
      refine ops_nil ?_
      refine then_n ?_
      refine ok_ret ?_
      refine fin1 (res_tmp rfl) (eqB ?_)
      first | rfl | (exfalso; simp_all [sEq])
set_option maxRecDepth 100000 in
theorem ok_laws_eqTxQueue {x : List TxT}  : PFn Try.prog 46 [.agg [(.dv [] (txsD (x)))], .agg [(.dv [] (txsD (x)))]] (.one (.dv [] (.bool (true)))) := by
  refine ⟨fn_intro Try.func46 rfl Try.ntmps46 Try.results46 rfl (fun C => ?_)⟩
  refine ok_factA (x := .tmp 0) 0 (ev_tmp rfl) rfl (fun (f0_0 : ((x)).length ≤ 9223372036854775807) => ?_)
  refine ok_factA (x := .tmp 1) 0 (ev_tmp rfl) rfl (fun (f1_0 : ((x)).length ≤ 9223372036854775807) => ?_)
  refine ok_seq ?_
  refine ok_region ?_
  refine o_box rfl rfl rfl (ev_tmp rfl) rfl rfl rfl rfl ?_
  refine o_box rfl rfl rfl (ev_tmp rfl) rfl rfl rfl rfl ?_
  refine o_pure rfl rfl (pu_move (.inr rfl) ev_bool) rfl rfl ?_
  refine ops_nil ?_
  refine then_n ?_
  refine ok_seq ?_
  refine ok_seq ?_
  refine ok_region ?_
  refine o_pure rfl rfl (pu_fieldBox hT rfl rfl rfl (ev_tmp rfl)) rfl rfl ?_
  refine o_pure rfl rfl (pu_loadBox1 hT rfl rfl (ev_tmp rfl) rfl rfl) rfl rfl ?_
  refine o_pure rfl rfl (pu_fieldBox hT rfl rfl rfl (ev_tmp rfl)) rfl rfl ?_
  refine o_pure rfl rfl (pu_loadBox1 hT rfl rfl (ev_tmp rfl) rfl rfl) rfl rfl ?_
  refine o_call rfl rfl rfl Try.call109 ok_laws_eqTxS (as_cons (ev_tmp rfl) (ag_one ac_dv) (as_cons (ev_tmp rfl) (ag_one ac_dv) as_nil)) rfl rfl ?_
  refine o_pure rfl rfl (pu_not rfl (ev_tmp rfl)) rfl rfl ?_
  refine ops_nil ?_
  refine then_n ?_
  refine ok_cond (ev_tmp rfl) (fun c1 => ?_) (fun c1 => ?_)
  · skip
    refine ok_seq ?_
    refine ok_region ?_
    refine o_pure rfl rfl (pu_move (.inr rfl) ev_bool) rfl rfl ?_
    refine ops_nil ?_
    refine then_n ?_
    refine ok_ret ?_
    refine then_r ?_
    refine fin1 (res_tmp rfl) (eqB ?_)
    first | rfl | (exfalso; simp_all [sEq])
  · skip
    refine ok_skip ?_
    refine then_n ?_
    refine ok_seq ?_
    refine ok_region ?_
    refine o_pure rfl rfl (pu_move (.inr rfl) ev_bool) rfl rfl ?_
    refine ops_nil ?_
    refine then_n ?_
    refine ok_ret ?_
    refine fin1 (res_tmp rfl) (eqB ?_)
    first | rfl | (exfalso; simp_all [sEq])
end Go.Proofs.Ytlogahkchenpdaa

namespace Go.Proofs.Ytlogahkchenpdaa
open Go.RowKit
open Go.Proofs
set_option linter.unusedVariables false
set_option linter.unusedSimpArgs false

def isOpB (o : OpT) : Bool := (decide (1 ≤ o.1) && decide (o.1 ≤ 6)) && isName o.2.1 && (decide (o.1 = 5) || isKey o.2.2.1) && isRec o.2.2.2.1 && ((decide (o.1 = 6) && isName o.2.2.2.2) || (!decide (o.1 = 6) && sEq o.2.2.2.2 (ByteArray.mk #[])))
set_option maxRecDepth 100000 in
theorem ok_impl_IsOp {x : OpT}  : PFn Try.prog 124 [.agg [(.dv [] (.int .i64 (x.1))), (.dv [] (.str (x.2.1))), (.dv [] (.int .i64 (x.2.2.1.1))), (.dv [] (.int .i64 (x.2.2.1.2.1))), (.dv [] (.str (x.2.2.1.2.2))), (.dv [] (fieldsD (x.2.2.2.1))), (.dv [] (.str (x.2.2.2.2)))]] (.one (.dv [] (.bool (isOpB x)))) := by
  refine ⟨fn_intro Try.func124 rfl Try.ntmps124 Try.results124 rfl (fun C => ?_)⟩
  refine ok_factA (x := .tmp 0) 0 (ev_tmp rfl) rfl (fun (f0_0 : -9223372036854775808 ≤ (x.1) ∧ (x.1) ≤ 9223372036854775807) => ?_)
  refine ok_factA (x := .tmp 0) 1 (ev_tmp rfl) rfl (fun (f0_1 : (x.2.1).size ≤ 9223372036854775807) => ?_)
  refine ok_factA (x := .tmp 0) 2 (ev_tmp rfl) rfl (fun (f0_2 : -9223372036854775808 ≤ (x.2.2.1.1) ∧ (x.2.2.1.1) ≤ 9223372036854775807) => ?_)
  refine ok_factA (x := .tmp 0) 3 (ev_tmp rfl) rfl (fun (f0_3 : -9223372036854775808 ≤ (x.2.2.1.2.1) ∧ (x.2.2.1.2.1) ≤ 9223372036854775807) => ?_)
  refine ok_factA (x := .tmp 0) 4 (ev_tmp rfl) rfl (fun (f0_4 : (x.2.2.1.2.2).size ≤ 9223372036854775807) => ?_)
  refine ok_factA (x := .tmp 0) 5 (ev_tmp rfl) rfl (fun (f0_5 : ((x.2.2.2.1)).length ≤ 9223372036854775807) => ?_)
  refine ok_factA (x := .tmp 0) 6 (ev_tmp rfl) rfl (fun (f0_6 : (x.2.2.2.2).size ≤ 9223372036854775807) => ?_)
  refine ok_seq ?_
  refine ok_region ?_
  refine o_box rfl rfl rfl (ev_tmp rfl) rfl rfl rfl rfl ?_
  refine o_pure rfl rfl (pu_move (.inr rfl) ev_bool) rfl rfl ?_
  refine ops_nil ?_
  refine then_n ?_
  refine ok_seq ?_
  refine ok_seq ?_
  refine ok_region ?_
  refine o_pure rfl rfl (pu_fieldBox hT rfl rfl rfl (ev_tmp rfl)) rfl rfl ?_
  refine o_pure rfl rfl (pu_loadBox1 hT rfl rfl (ev_tmp rfl) rfl rfl) rfl rfl ?_
  refine o_call rfl rfl rfl Try.call98 ok_impl_InRange (as_cons (ev_tmp rfl) (ag_one ac_dv) (as_cons (ev_int (inR_lit rfl)) (ag_one ac_dv) (as_cons (ev_int (inR_lit rfl)) (ag_one ac_dv) as_nil))) rfl rfl ?_
  refine o_pure rfl rfl (pu_not rfl (ev_tmp rfl)) rfl rfl ?_
  refine o_pure rfl rfl (pu_move (.inl rfl) (ev_tmp rfl)) rfl rfl ?_
  refine o_pureG (gd_bool rfl rfl rfl rfl rfl) rfl (fun hg => pu_fieldBox hT rfl rfl rfl (ev_tmp rfl)) rfl rfl ?_
  refine o_pureG (gd_bool rfl rfl rfl rfl rfl) rfl (fun hg => pu_loadBox1 hT rfl rfl (ev_opt rfl hg) rfl rfl) rfl rfl ?_
  refine o_callG (gd_bool rfl rfl rfl rfl rfl) rfl rfl Try.call97 ok_impl_IsName (fun hg => (as_cons (ev_opt rfl hg) (ag_one ac_dv) as_nil)) rfl rfl ?_
  refine o_pureG (gd_bool rfl rfl rfl rfl rfl) rfl (fun hg => pu_not rfl (ev_opt rfl hg)) rfl rfl ?_
  refine o_pure rfl rfl (pu_or rfl (ev_tmp rfl) (fun hb => (ev_opt rfl (beq_f hb)))) rfl rfl ?_
  refine o_pure rfl rfl (pu_move (.inl rfl) (ev_tmp rfl)) rfl rfl ?_
  refine o_pureG (gd_bool rfl rfl rfl rfl rfl) rfl (fun hg => pu_fieldBox hT rfl rfl rfl (ev_tmp rfl)) rfl rfl ?_
  refine o_pureG (gd_bool rfl rfl rfl rfl rfl) rfl (fun hg => pu_loadBox1 hT rfl rfl (ev_opt rfl hg) rfl rfl) rfl rfl ?_
  refine o_pureG (gd_bool rfl rfl rfl rfl rfl) rfl (fun hg => pu_neq rfl (ev_opt rfl hg) (ev_int (inR_lit rfl))) rfl rfl ?_
  refine o_pureG (gd_bool rfl rfl rfl rfl rfl) rfl (fun hg => pu_move (.inl rfl) (ev_opt rfl hg)) rfl rfl ?_
  refine o_pureG (gd_opt rfl rfl rfl rfl rfl) rfl (fun hg => pu_fieldBox hT rfl rfl rfl (ev_tmp rfl)) rfl rfl ?_
  refine o_pureG (gd_opt rfl rfl rfl rfl rfl) rfl (fun hg => pu_loadBoxA hT rfl rfl (ev_opt rfl hg) rfl rfl) rfl rfl ?_
  refine o_callG (gd_opt rfl rfl rfl rfl rfl) rfl rfl Try.call126 ok_impl_IsKey (fun hg => (as_cons (ev_opt rfl hg) (ag_agg (ag_cons ac_dv (ag_cons ac_dv (ag_cons ac_dv ag_nil)))) as_nil)) rfl rfl ?_
  refine o_pureG (gd_opt rfl rfl rfl rfl rfl) rfl (fun hg => pu_not rfl (ev_opt rfl hg)) rfl rfl ?_
  refine o_pureG (gd_bool rfl rfl rfl rfl rfl) rfl (fun hg => pu_and rfl (ev_opt rfl hg) (fun hb => (ev_opt rfl (and_mk hg (beq_t hb))))) rfl rfl ?_
  refine o_pure rfl rfl (pu_or rfl (ev_tmp rfl) (fun hb => (ev_opt rfl (beq_f hb)))) rfl rfl ?_
  refine o_pure rfl rfl (pu_move (.inl rfl) (ev_tmp rfl)) rfl rfl ?_
  refine o_pureG (gd_bool rfl rfl rfl rfl rfl) rfl (fun hg => pu_fieldBox hT rfl rfl rfl (ev_tmp rfl)) rfl rfl ?_
  refine o_pureG (gd_bool rfl rfl rfl rfl rfl) rfl (fun hg => pu_loadBoxA hT rfl rfl (ev_opt rfl hg) rfl rfl) rfl rfl ?_
  refine o_callG (gd_bool rfl rfl rfl rfl rfl) rfl rfl Try.call127 ok_impl_IsRecord (fun hg => (as_cons (ev_opt rfl hg) (ag_agg (ag_cons ac_dv ag_nil)) as_nil)) rfl rfl ?_
  refine o_pureG (gd_bool rfl rfl rfl rfl rfl) rfl (fun hg => pu_not rfl (ev_opt rfl hg)) rfl rfl ?_
  refine o_pure rfl rfl (pu_or rfl (ev_tmp rfl) (fun hb => (ev_opt rfl (beq_f hb)))) rfl rfl ?_
  refine ops_nil ?_
  refine then_n ?_
  refine ok_cond (ev_tmp rfl) (fun c1 => ?_) (fun c1 => ?_)
  · skip
    refine ok_seq ?_
    refine ok_region ?_
    refine o_pure rfl rfl (pu_move (.inr rfl) ev_bool) rfl rfl ?_
    refine ops_nil ?_
    refine then_n ?_
    refine ok_ret ?_
    refine then_r ?_
    refine fin1 (res_tmp rfl) (eqB ?_)
    grind [isOpB]
  · skip
    refine ok_skip ?_
    refine then_n ?_
    refine ok_seq ?_
    refine ok_seq ?_
    refine ok_region ?_
    refine o_pure rfl rfl (pu_fieldBox hT rfl rfl rfl (ev_tmp rfl)) rfl rfl ?_
    refine o_pure rfl rfl (pu_loadBox1 hT rfl rfl (ev_tmp rfl) rfl rfl) rfl rfl ?_
    refine o_pure rfl rfl (pu_eql rfl (ev_tmp rfl) (ev_int (inR_lit rfl))) rfl rfl ?_
    refine ops_nil ?_
    refine then_n ?_
    refine ok_cond (ev_tmp rfl) (fun c2 => ?_) (fun c2 => ?_)
    · skip
      have d2 := of_decide_eq_true c2
      refine ok_seq ?_
      refine ok_region ?_
      refine o_pure rfl rfl (pu_fieldBox hT rfl rfl rfl (ev_tmp rfl)) rfl rfl ?_
      refine o_pure rfl rfl (pu_loadBox1 hT rfl rfl (ev_tmp rfl) rfl rfl) rfl rfl ?_
      refine o_call rfl rfl rfl Try.call97 ok_impl_IsName (as_cons (ev_tmp rfl) (ag_one ac_dv) as_nil) rfl rfl ?_
      refine o_pure rfl rfl (pu_move (.inr rfl) (ev_tmp rfl)) rfl rfl ?_
      refine ops_nil ?_
      refine then_n ?_
      refine ok_ret ?_
      refine then_r ?_
      refine fin1 (res_tmp rfl) (eqB ?_)
      grind [isOpB]
    · skip
      have d2 := of_decide_eq_false c2
      refine ok_skip ?_
      refine then_n ?_
      refine ok_seq ?_
      refine ok_region ?_
      refine o_pure rfl rfl (pu_fieldBox hT rfl rfl rfl (ev_tmp rfl)) rfl rfl ?_
      refine o_pure rfl rfl (pu_loadBox1 hT rfl rfl (ev_tmp rfl) rfl rfl) rfl rfl ?_
      refine o_pure rfl rfl (pu_seq rfl (ev_tmp rfl) (ev_str (str_lit rfl))) rfl rfl ?_
      refine o_pure rfl rfl (pu_move (.inr rfl) (ev_tmp rfl)) rfl rfl ?_
      refine ops_nil ?_
      refine then_n ?_
      refine ok_ret ?_
      refine fin1 (res_tmp rfl) (eqB ?_)
      grind [isOpB]
set_option maxRecDepth 100000 in
theorem ok_spec_IsOp {x : OpT}  : PFn Try.prog 60 [.agg [(.dv [] (.int .i64 (x.1))), (.dv [] (.str (x.2.1))), (.dv [] (.int .i64 (x.2.2.1.1))), (.dv [] (.int .i64 (x.2.2.1.2.1))), (.dv [] (.str (x.2.2.1.2.2))), (.dv [] (fieldsD (x.2.2.2.1))), (.dv [] (.str (x.2.2.2.2)))]] (.one (.dv [] (.bool (isOpB x)))) := by
  refine ⟨fn_intro Try.func60 rfl Try.ntmps60 Try.results60 rfl (fun C => ?_)⟩
  refine ok_factA (x := .tmp 0) 0 (ev_tmp rfl) rfl (fun (f0_0 : -9223372036854775808 ≤ (x.1) ∧ (x.1) ≤ 9223372036854775807) => ?_)
  refine ok_factA (x := .tmp 0) 1 (ev_tmp rfl) rfl (fun (f0_1 : (x.2.1).size ≤ 9223372036854775807) => ?_)
  refine ok_factA (x := .tmp 0) 2 (ev_tmp rfl) rfl (fun (f0_2 : -9223372036854775808 ≤ (x.2.2.1.1) ∧ (x.2.2.1.1) ≤ 9223372036854775807) => ?_)
  refine ok_factA (x := .tmp 0) 3 (ev_tmp rfl) rfl (fun (f0_3 : -9223372036854775808 ≤ (x.2.2.1.2.1) ∧ (x.2.2.1.2.1) ≤ 9223372036854775807) => ?_)
  refine ok_factA (x := .tmp 0) 4 (ev_tmp rfl) rfl (fun (f0_4 : (x.2.2.1.2.2).size ≤ 9223372036854775807) => ?_)
  refine ok_factA (x := .tmp 0) 5 (ev_tmp rfl) rfl (fun (f0_5 : ((x.2.2.2.1)).length ≤ 9223372036854775807) => ?_)
  refine ok_factA (x := .tmp 0) 6 (ev_tmp rfl) rfl (fun (f0_6 : (x.2.2.2.2).size ≤ 9223372036854775807) => ?_)
  refine ok_seq ?_
  refine ok_region ?_
  refine o_box rfl rfl rfl (ev_tmp rfl) rfl rfl rfl rfl ?_
  refine o_pure rfl rfl (pu_move (.inr rfl) ev_bool) rfl rfl ?_
  refine ops_nil ?_
  refine then_n ?_
  refine ok_seq ?_
  refine ok_region ?_
  refine o_pure rfl rfl (pu_fieldBox hT rfl rfl rfl (ev_tmp rfl)) rfl rfl ?_
  refine o_pure rfl rfl (pu_loadBox1 hT rfl rfl (ev_tmp rfl) rfl rfl) rfl rfl ?_
  refine o_call rfl rfl rfl Try.call96 ok_spec_l1In (as_cons (ev_tmp rfl) (ag_one ac_dv) (as_cons (ev_int (inR_lit rfl)) (ag_one ac_dv) (as_cons (ev_int (inR_lit rfl)) (ag_one ac_dv) as_nil))) rfl rfl ?_
  refine o_pure rfl rfl (pu_move (.inl rfl) (ev_tmp rfl)) rfl rfl ?_
  refine o_pureG (gd_bool rfl rfl rfl rfl rfl) rfl (fun hg => pu_fieldBox hT rfl rfl rfl (ev_tmp rfl)) rfl rfl ?_
  refine o_pureG (gd_bool rfl rfl rfl rfl rfl) rfl (fun hg => pu_loadBox1 hT rfl rfl (ev_opt rfl hg) rfl rfl) rfl rfl ?_
  refine o_callG (gd_bool rfl rfl rfl rfl rfl) rfl rfl Try.call94 ok_spec_IsName (fun hg => (as_cons (ev_opt rfl hg) (ag_one ac_dv) as_nil)) rfl rfl ?_
  refine o_pure rfl rfl (pu_and rfl (ev_tmp rfl) (fun hb => (ev_opt rfl (beq_t hb)))) rfl rfl ?_
  refine o_pure rfl rfl (pu_move (.inl rfl) (ev_tmp rfl)) rfl rfl ?_
  refine o_pureG (gd_bool rfl rfl rfl rfl rfl) rfl (fun hg => pu_fieldBox hT rfl rfl rfl (ev_tmp rfl)) rfl rfl ?_
  refine o_pureG (gd_bool rfl rfl rfl rfl rfl) rfl (fun hg => pu_loadBox1 hT rfl rfl (ev_opt rfl hg) rfl rfl) rfl rfl ?_
  refine o_pureG (gd_bool rfl rfl rfl rfl rfl) rfl (fun hg => pu_eql rfl (ev_opt rfl hg) (ev_int (inR_lit rfl))) rfl rfl ?_
  refine o_pureG (gd_bool rfl rfl rfl rfl rfl) rfl (fun hg => pu_move (.inl rfl) (ev_opt rfl hg)) rfl rfl ?_
  refine o_pureG (gd_opt rfl rfl rfl rfl rfl) rfl (fun hg => pu_fieldBox hT rfl rfl rfl (ev_tmp rfl)) rfl rfl ?_
  refine o_pureG (gd_opt rfl rfl rfl rfl rfl) rfl (fun hg => pu_loadBoxA hT rfl rfl (ev_opt rfl hg) rfl rfl) rfl rfl ?_
  refine o_callG (gd_opt rfl rfl rfl rfl rfl) rfl rfl Try.call120 ok_spec_IsKey (fun hg => (as_cons (ev_opt rfl hg) (ag_agg (ag_cons ac_dv (ag_cons ac_dv (ag_cons ac_dv ag_nil)))) as_nil)) rfl rfl ?_
  refine o_pureG (gd_bool rfl rfl rfl rfl rfl) rfl (fun hg => pu_or rfl (ev_opt rfl hg) (fun hb => (ev_opt rfl (and_mk hg (beq_f hb))))) rfl rfl ?_
  refine o_pure rfl rfl (pu_and rfl (ev_tmp rfl) (fun hb => (ev_opt rfl (beq_t hb)))) rfl rfl ?_
  refine o_pure rfl rfl (pu_move (.inl rfl) (ev_tmp rfl)) rfl rfl ?_
  refine o_pureG (gd_bool rfl rfl rfl rfl rfl) rfl (fun hg => pu_fieldBox hT rfl rfl rfl (ev_tmp rfl)) rfl rfl ?_
  refine o_pureG (gd_bool rfl rfl rfl rfl rfl) rfl (fun hg => pu_loadBoxA hT rfl rfl (ev_opt rfl hg) rfl rfl) rfl rfl ?_
  refine o_callG (gd_bool rfl rfl rfl rfl rfl) rfl rfl Try.call121 ok_spec_IsRecord (fun hg => (as_cons (ev_opt rfl hg) (ag_agg (ag_cons ac_dv ag_nil)) as_nil)) rfl rfl ?_
  refine o_pure rfl rfl (pu_and rfl (ev_tmp rfl) (fun hb => (ev_opt rfl (beq_t hb)))) rfl rfl ?_
  refine o_pure rfl rfl (pu_move (.inl rfl) (ev_tmp rfl)) rfl rfl ?_
  refine o_pureG (gd_bool rfl rfl rfl rfl rfl) rfl (fun hg => pu_fieldBox hT rfl rfl rfl (ev_tmp rfl)) rfl rfl ?_
  refine o_pureG (gd_bool rfl rfl rfl rfl rfl) rfl (fun hg => pu_loadBox1 hT rfl rfl (ev_opt rfl hg) rfl rfl) rfl rfl ?_
  refine o_pureG (gd_bool rfl rfl rfl rfl rfl) rfl (fun hg => pu_eql rfl (ev_opt rfl hg) (ev_int (inR_lit rfl))) rfl rfl ?_
  refine o_pureG (gd_bool rfl rfl rfl rfl rfl) rfl (fun hg => pu_move (.inl rfl) (ev_opt rfl hg)) rfl rfl ?_
  refine o_pureG (gd_opt rfl rfl rfl rfl rfl) rfl (fun hg => pu_fieldBox hT rfl rfl rfl (ev_tmp rfl)) rfl rfl ?_
  refine o_pureG (gd_opt rfl rfl rfl rfl rfl) rfl (fun hg => pu_loadBox1 hT rfl rfl (ev_opt rfl hg) rfl rfl) rfl rfl ?_
  refine o_callG (gd_opt rfl rfl rfl rfl rfl) rfl rfl Try.call94 ok_spec_IsName (fun hg => (as_cons (ev_opt rfl hg) (ag_one ac_dv) as_nil)) rfl rfl ?_
  refine o_pureG (gd_bool rfl rfl rfl rfl rfl) rfl (fun hg => pu_and rfl (ev_opt rfl hg) (fun hb => (ev_opt rfl (and_mk hg (beq_t hb))))) rfl rfl ?_
  refine o_pureG (gd_bool rfl rfl rfl rfl rfl) rfl (fun hg => pu_move (.inl rfl) (ev_opt rfl hg)) rfl rfl ?_
  refine o_pureG (gd_opt rfl rfl rfl rfl rfl) rfl (fun hg => pu_fieldBox hT rfl rfl rfl (ev_tmp rfl)) rfl rfl ?_
  refine o_pureG (gd_opt rfl rfl rfl rfl rfl) rfl (fun hg => pu_loadBox1 hT rfl rfl (ev_opt rfl hg) rfl rfl) rfl rfl ?_
  refine o_pureG (gd_opt rfl rfl rfl rfl rfl) rfl (fun hg => pu_neq rfl (ev_opt rfl hg) (ev_int (inR_lit rfl))) rfl rfl ?_
  refine o_pureG (gd_opt rfl rfl rfl rfl rfl) rfl (fun hg => pu_move (.inl rfl) (ev_opt rfl hg)) rfl rfl ?_
  refine o_pureG (gd_opt rfl rfl rfl rfl rfl) rfl (fun hg => pu_fieldBox hT rfl rfl rfl (ev_tmp rfl)) rfl rfl ?_
  refine o_pureG (gd_opt rfl rfl rfl rfl rfl) rfl (fun hg => pu_loadBox1 hT rfl rfl (ev_opt rfl hg) rfl rfl) rfl rfl ?_
  refine o_pureG (gd_opt rfl rfl rfl rfl rfl) rfl (fun hg => pu_seq rfl (ev_opt rfl hg) (ev_str (str_lit rfl))) rfl rfl ?_
  refine o_pureG (gd_opt rfl rfl rfl rfl rfl) rfl (fun hg => pu_and rfl (ev_opt rfl hg) (fun hb => (ev_opt rfl (and_mk hg (beq_t hb))))) rfl rfl ?_
  refine o_pureG (gd_bool rfl rfl rfl rfl rfl) rfl (fun hg => pu_or rfl (ev_opt rfl hg) (fun hb => (ev_opt rfl (and_mk hg (beq_f hb))))) rfl rfl ?_
  refine o_pure rfl rfl (pu_and rfl (ev_tmp rfl) (fun hb => (ev_opt rfl (beq_t hb)))) rfl rfl ?_
  refine o_pure rfl rfl (pu_move (.inr rfl) (ev_tmp rfl)) rfl rfl ?_
  refine ops_nil ?_
  refine then_n ?_
  refine ok_ret ?_
  refine fin1 (res_tmp rfl) (eqB ?_)
  grind [isOpB]
end Go.Proofs.Ytlogahkchenpdaa

namespace Go.Proofs.Ytlogahkchenpdaa
open Go.RowKit
open Go.Proofs
set_option linter.unusedVariables false
set_option linter.unusedSimpArgs false

theorem item_len (x : ItemT) : x.2.length ≤ wItem x := by unfold wItem wRecord wList; omega
set_option maxRecDepth 100000 in
theorem ok_impl_copyRecord {x : RecT} (hb : x.length ≤ 1099511627776) : KFn Try.prog 159 [.agg [(.dv [] (fieldsD (x)))]] (.agg [(.key 3)]) [(3, some (kcOf false (fieldsD (x))))] := by
  refine ⟨fn_intro Try.func159 rfl Try.ntmps159 Try.results159 rfl (fun C => ?_)⟩
  refine ok_factA (x := .tmp 0) 0 (ev_tmp rfl) rfl (fun (f0_0 : ((x)).length ≤ 9223372036854775807) => ?_)
  refine ok_seq ?_
  refine ok_region ?_
  refine o_box rfl rfl rfl (ev_tmp rfl) rfl rfl rfl rfl ?_
  refine o_alloc hT rfl rfl rfl rfl rfl rfl ?_
  refine ops_nil ?_
  refine then_n ?_
  refine ok_seq ?_
  refine ok_region ?_
  refine o_build0 (k := 3) hT rfl rfl rfl rfl rfl rfl rfl rfl ?_
  refine o_pure rfl rfl (pu_fieldBox hT rfl rfl rfl (ev_tmp rfl)) rfl rfl ?_
  refine o_pure rfl rfl (pu_loadBox1 hT rfl rfl (ev_tmp rfl) rfl rfl) rfl rfl ?_
  refine o_appV (k := 3) (cs := (x).flatMap eField) (n := (x).length) hT rfl rfl rfl rfl rfl rfl rfl (ev_tmp rfl) rfl rfl rfl (ev_tmp rfl) (plain_flat (fun _ => rfl) _) (by first | (dsimp only [kcOf]; omega) | omega) (by first | (dsimp only [kcOf]; omega) | omega) (Nat.zero_add _) (rfl) ?_
  simp only [killT, killB, SV.kill, CV.kill, List.map_cons, List.map_nil, List.any_cons, List.any_nil, List.contains_cons, List.contains_nil, List.nil_append, List.cons_append, Nat.reduceBEq, Bool.or_false, Bool.false_or, Bool.or_true, Bool.true_or, cond_true, cond_false]
  refine o_pure rfl rfl (pu_build hT hB rfl rfl rfl (bp_cons (ev_tmp rfl) rfl rfl rfl rfl rfl bp_nil)) rfl rfl ?_
  refine o_store hT rfl rfl rfl rfl (ev_tmp rfl) (ev_tmp rfl) rfl rfl rfl rfl rfl rfl ?_
  refine ops_nil ?_
  refine then_n ?_
  refine ok_weak (σ' := ⟨[(2, .box 2 0)], [(2, 100, [(.key 3)])], [(3, some (kcOf false (fieldsD (x))))]⟩) (weak_sub ⟨rfl, trivial⟩ ⟨rfl, trivial⟩ ⟨rfl, trivial⟩ rfl) ?_
  refine ok_ret ?_
  refine fin1 (res_cell hT rfl rfl rfl rfl) ?_
  exact ⟨rfl, rfl⟩
set_option maxRecDepth 100000 in
theorem ok_spec_l5Copy {x : RecT} (hb : x.length ≤ 1099511627776) : KFn Try.prog 156 [.agg [(.dv [] (fieldsD (x)))]] (.agg [(.key 3)]) [(3, some (kcOf false (fieldsD (x))))] := by
  refine ⟨fn_intro Try.func156 rfl Try.ntmps156 Try.results156 rfl (fun C => ?_)⟩
  refine ok_factA (x := .tmp 0) 0 (ev_tmp rfl) rfl (fun (f0_0 : ((x)).length ≤ 9223372036854775807) => ?_)
  refine ok_seq ?_
  refine ok_region ?_
  refine o_box rfl rfl rfl (ev_tmp rfl) rfl rfl rfl rfl ?_
  refine o_alloc hT rfl rfl rfl rfl rfl rfl ?_
  refine ops_nil ?_
  refine then_n ?_
  refine ok_seq ?_
  refine ok_region ?_
  refine o_build0 (k := 3) hT rfl rfl rfl rfl rfl rfl rfl rfl ?_
  refine o_pure rfl rfl (pu_fieldBox hT rfl rfl rfl (ev_tmp rfl)) rfl rfl ?_
  refine o_pure rfl rfl (pu_loadBox1 hT rfl rfl (ev_tmp rfl) rfl rfl) rfl rfl ?_
  refine o_appV (k := 3) (cs := (x).flatMap eField) (n := (x).length) hT rfl rfl rfl rfl rfl rfl rfl (ev_tmp rfl) rfl rfl rfl (ev_tmp rfl) (plain_flat (fun _ => rfl) _) (by first | (dsimp only [kcOf]; omega) | omega) (by first | (dsimp only [kcOf]; omega) | omega) (Nat.zero_add _) (rfl) ?_
  simp only [killT, killB, SV.kill, CV.kill, List.map_cons, List.map_nil, List.any_cons, List.any_nil, List.contains_cons, List.contains_nil, List.nil_append, List.cons_append, Nat.reduceBEq, Bool.or_false, Bool.false_or, Bool.or_true, Bool.true_or, cond_true, cond_false]
  refine o_pure rfl rfl (pu_build hT hB rfl rfl rfl (bp_cons (ev_tmp rfl) rfl rfl rfl rfl rfl bp_nil)) rfl rfl ?_
  refine o_store hT rfl rfl rfl rfl (ev_tmp rfl) (ev_tmp rfl) rfl rfl rfl rfl rfl rfl ?_
  refine ops_nil ?_
  refine then_n ?_
  refine ok_weak (σ' := ⟨[(2, .box 2 0)], [(2, 100, [(.key 3)])], [(3, some (kcOf false (fieldsD (x))))]⟩) (weak_sub ⟨rfl, trivial⟩ ⟨rfl, trivial⟩ ⟨rfl, trivial⟩ rfl) ?_
  refine ok_ret ?_
  refine fin1 (res_cell hT rfl rfl rfl rfl) ?_
  exact ⟨rfl, rfl⟩
set_option maxRecDepth 100000 in
theorem ok_impl_copyItem {x : ItemT} (hb : x.2.length ≤ 1099511627776) : KFn Try.prog 183 [.agg [(.dv [] (.int .i64 (x.1.1))), (.dv [] (.int .i64 (x.1.2.1))), (.dv [] (.str (x.1.2.2))), (.dv [] (fieldsD (x.2)))]] (.agg [(.dv [] (.int .i64 (x.1.1))), (.dv [] (.int .i64 (x.1.2.1))), (.dv [] (.str (x.1.2.2))), (.key 7003)]) [(7003, some (kcOf false (fieldsD (x.2))))] := by
  refine ⟨fn_intro Try.func183 rfl Try.ntmps183 Try.results183 rfl (fun C => ?_)⟩
  refine ok_factA (x := .tmp 0) 0 (ev_tmp rfl) rfl (fun (f0_0 : -9223372036854775808 ≤ (x.1.1) ∧ (x.1.1) ≤ 9223372036854775807) => ?_)
  refine ok_factA (x := .tmp 0) 1 (ev_tmp rfl) rfl (fun (f0_1 : -9223372036854775808 ≤ (x.1.2.1) ∧ (x.1.2.1) ≤ 9223372036854775807) => ?_)
  refine ok_factA (x := .tmp 0) 2 (ev_tmp rfl) rfl (fun (f0_2 : (x.1.2.2).size ≤ 9223372036854775807) => ?_)
  refine ok_factA (x := .tmp 0) 3 (ev_tmp rfl) rfl (fun (f0_3 : ((x.2)).length ≤ 9223372036854775807) => ?_)
  refine ok_seq ?_
  refine ok_region ?_
  refine o_box rfl rfl rfl (ev_tmp rfl) rfl rfl rfl rfl ?_
  refine o_alloc hT rfl rfl rfl rfl rfl rfl ?_
  refine ops_nil ?_
  refine then_n ?_
  refine ok_seq ?_
  refine ok_regionD (oB := [1, 2]) (oK := []) (by kernel_rfl) rfl rfl ?_
  refine d_take 0 rfl (by kernel_rfl) rfl rfl (pu_fieldBox hT rfl rfl rfl (ev_tmp rfl)) rfl rfl rfl rfl ?_
  refine d_take 1 rfl (by kernel_rfl) rfl rfl (pu_loadBoxA hT rfl rfl (ev_tmp rfl) rfl rfl) rfl rfl rfl rfl ?_
  refine d_take 2 rfl (by kernel_rfl) rfl rfl (pu_fieldBox hT rfl rfl rfl (ev_tmp rfl)) rfl rfl rfl rfl ?_
  refine d_take 3 rfl (by kernel_rfl) rfl rfl (pu_loadBoxA hT rfl rfl (ev_tmp rfl) rfl rfl) rfl rfl rfl rfl ?_
  refine d_callK 7000 4 rfl (by kernel_rfl) rfl rfl rfl Try.call159 (ok_impl_copyRecord (by omega)) (as_cons (ev_tmp rfl) (ag_agg (ag_cons ac_dv ag_nil)) as_nil) rfl rfl rfl rfl rfl ?_
  refine d_take 5 rfl (by kernel_rfl) rfl rfl (pu_build hT hB rfl rfl rfl (bp_cons (ev_tmp rfl) rfl rfl rfl rfl rfl (bp_cons (ev_tmp rfl) rfl rfl rfl rfl rfl bp_nil))) rfl rfl rfl rfl ?_
  refine d_last 6 rfl (by kernel_rfl) rfl (by kernel_rfl) (ef_storeBox hT rfl rfl rfl (ev_tmp rfl) (ev_tmp rfl) rfl rfl rfl rfl rfl rfl) (by kernel_rfl) ?_
  refine then_n ?_
  refine ok_weak (σ' := ⟨[(2, .box 2 0)], [(2, 150, [(.dv [] (.int .i64 (x.1.1))), (.dv [] (.int .i64 (x.1.2.1))), (.dv [] (.str (x.1.2.2))), (.key 7003)])], [(7003, some (kcOf false (fieldsD (x.2))))]⟩) (weak_sub ⟨rfl, trivial⟩ ⟨rfl, trivial⟩ ⟨rfl, trivial⟩ rfl) ?_
  refine ok_ret ?_
  refine fin1 (res_cell hT rfl rfl rfl rfl) ?_
  exact ⟨rfl, rfl⟩
set_option maxRecDepth 100000 in
theorem ok_spec_l6Item {x : ItemT} (hb : x.2.length ≤ 1099511627776) : KFn Try.prog 178 [.agg [(.dv [] (.int .i64 (x.1.1))), (.dv [] (.int .i64 (x.1.2.1))), (.dv [] (.str (x.1.2.2))), (.dv [] (fieldsD (x.2)))]] (.agg [(.dv [] (.int .i64 (x.1.1))), (.dv [] (.int .i64 (x.1.2.1))), (.dv [] (.str (x.1.2.2))), (.key 7003)]) [(7003, some (kcOf false (fieldsD (x.2))))] := by
  refine ⟨fn_intro Try.func178 rfl Try.ntmps178 Try.results178 rfl (fun C => ?_)⟩
  refine ok_factA (x := .tmp 0) 0 (ev_tmp rfl) rfl (fun (f0_0 : -9223372036854775808 ≤ (x.1.1) ∧ (x.1.1) ≤ 9223372036854775807) => ?_)
  refine ok_factA (x := .tmp 0) 1 (ev_tmp rfl) rfl (fun (f0_1 : -9223372036854775808 ≤ (x.1.2.1) ∧ (x.1.2.1) ≤ 9223372036854775807) => ?_)
  refine ok_factA (x := .tmp 0) 2 (ev_tmp rfl) rfl (fun (f0_2 : (x.1.2.2).size ≤ 9223372036854775807) => ?_)
  refine ok_factA (x := .tmp 0) 3 (ev_tmp rfl) rfl (fun (f0_3 : ((x.2)).length ≤ 9223372036854775807) => ?_)
  refine ok_seq ?_
  refine ok_region ?_
  refine o_box rfl rfl rfl (ev_tmp rfl) rfl rfl rfl rfl ?_
  refine o_alloc hT rfl rfl rfl rfl rfl rfl ?_
  refine ops_nil ?_
  refine then_n ?_
  refine ok_seq ?_
  refine ok_regionD (oB := [1, 2]) (oK := []) (by kernel_rfl) rfl rfl ?_
  refine d_take 0 rfl (by kernel_rfl) rfl rfl (pu_fieldBox hT rfl rfl rfl (ev_tmp rfl)) rfl rfl rfl rfl ?_
  refine d_take 1 rfl (by kernel_rfl) rfl rfl (pu_loadBoxA hT rfl rfl (ev_tmp rfl) rfl rfl) rfl rfl rfl rfl ?_
  refine d_take 2 rfl (by kernel_rfl) rfl rfl (pu_fieldBox hT rfl rfl rfl (ev_tmp rfl)) rfl rfl rfl rfl ?_
  refine d_take 3 rfl (by kernel_rfl) rfl rfl (pu_loadBoxA hT rfl rfl (ev_tmp rfl) rfl rfl) rfl rfl rfl rfl ?_
  refine d_callK 7000 4 rfl (by kernel_rfl) rfl rfl rfl Try.call156 (ok_spec_l5Copy (by omega)) (as_cons (ev_tmp rfl) (ag_agg (ag_cons ac_dv ag_nil)) as_nil) rfl rfl rfl rfl rfl ?_
  refine d_take 5 rfl (by kernel_rfl) rfl rfl (pu_build hT hB rfl rfl rfl (bp_cons (ev_tmp rfl) rfl rfl rfl rfl rfl (bp_cons (ev_tmp rfl) rfl rfl rfl rfl rfl bp_nil))) rfl rfl rfl rfl ?_
  refine d_last 6 rfl (by kernel_rfl) rfl (by kernel_rfl) (ef_storeBox hT rfl rfl rfl (ev_tmp rfl) (ev_tmp rfl) rfl rfl rfl rfl rfl rfl) (by kernel_rfl) ?_
  refine then_n ?_
  refine ok_weak (σ' := ⟨[(2, .box 2 0)], [(2, 150, [(.dv [] (.int .i64 (x.1.1))), (.dv [] (.int .i64 (x.1.2.1))), (.dv [] (.str (x.1.2.2))), (.key 7003)])], [(7003, some (kcOf false (fieldsD (x.2))))]⟩) (weak_sub ⟨rfl, trivial⟩ ⟨rfl, trivial⟩ ⟨rfl, trivial⟩ rfl) ?_
  refine ok_ret ?_
  refine fin1 (res_cell hT rfl rfl rfl rfl) ?_
  exact ⟨rfl, rfl⟩
end Go.Proofs.Ytlogahkchenpdaa

namespace Go.Proofs.Ytlogahkchenpdaa
open Go.RowKit
open Go.Proofs
set_option linter.unusedVariables false
set_option linter.unusedSimpArgs false

theorem eqSlotI {k : IntKind} {a b : Int} (h : a = b) : some (SV.one (CV.dv [] (DV.int k a))) = some (SV.one (CV.dv [] (DV.int k b))) := by rw [h]
def mkL {α : Type} (m : α → Int → α) (c : α → Nat) : List α → Int → List α
  | [], _ => []
  | x :: xs, k => m x k :: mkL m c xs (k + (c x : Int))
theorem mkL_len {α : Type} {m : α → Int → α} {c : α → Nat} : ∀ (xs : List α) (k : Int), (mkL m c xs k).length = xs.length
  | [], _ => rfl
  | x :: xs, k => by rw [mkL, List.length_cons, mkL_len xs, List.length_cons]
theorem mkL_app {α : Type} {m : α → Int → α} {c : α → Nat} : ∀ (xs ys : List α) (k : Int), mkL m c (xs ++ ys) k = mkL m c xs k ++ mkL m c ys (k + (wSum c xs : Int))
  | [], ys, k => by simp [mkL, wSum]
  | x :: xs, ys, k => by
    rw [List.cons_append, mkL, mkL_app xs ys, mkL, List.cons_append]
    congr 3
    have : wSum c (x :: xs) = c x + wSum c xs := by simp [wSum]
    omega
theorem getD_at {α : Type} [Inhabited α] {xs : List α} {j : Nat} (h : j < xs.length) : xs.getD (j : Int).toNat default = xs[j] := by simp [List.getD, List.getElem?_eq_getElem h]
theorem mkL_succ {α : Type} [Inhabited α] {m : α → Int → α} {c : α → Nat} {xs : List α} {j : Nat} {k : Int} (h : j < xs.length) : mkL m c (xs.take (j + 1)) k = mkL m c (xs.take j) k ++ [m (xs.getD (j : Int).toNat default) (k + (wSum c (xs.take j) : Int))] := by
  rw [List.take_add_one, List.getElem?_eq_getElem h, mkL_app, getD_at h]; rfl
theorem mkL_getD {α : Type} [Inhabited α] {m : α → Int → α} {c : α → Nat} {xs : List α} {j : Nat} {k : Int} (h : j < xs.length) : (mkL m c xs k).getD (j : Int).toNat default = m (xs.getD (j : Int).toNat default) (k + (wSum c (xs.take j) : Int)) := by
  have e : mkL m c xs k = mkL m c (xs.take (j + 1)) k ++ mkL m c (xs.drop (j + 1)) (k + (wSum c (xs.take (j + 1)) : Int)) := by rw [← mkL_app, List.take_append_drop]
  rw [e, mkL_succ h]
  have hl : (mkL m c (xs.take j) k).length = j := by rw [mkL_len, List.length_take]; omega
  have : (j : Int).toNat = j := by omega
  rw [List.getD, List.append_assoc, List.getElem?_append_right (by omega), show (j : Int).toNat - (mkL m c (xs.take j) k).length = 0 by omega]
  rfl
theorem drop_flat {α : Type} [Inhabited α] {enc : α → List DV} {xs : List α} {j : Nat} (h : j < xs.length) : (xs.drop j).flatMap enc = enc (xs.getD (j : Int).toNat default) ++ (xs.drop (j + 1)).flatMap enc := by
  rw [List.drop_eq_getElem_cons h, List.flatMap_cons, getD_at h]
theorem mk_open {α : Type} [Inhabited α] {enc : α → List DV} {A : List DV} {xs : List α} {j : Nat} (h : j < xs.length) : A ++ (xs.drop j).flatMap enc = mid A (enc (xs.getD (j : Int).toNat default)) ((xs.drop (j + 1)).flatMap enc) := by rw [drop_flat h]; rfl
theorem mk_close {α : Type} [Inhabited α] {m : α → Int → α} {c : α → Nat} {enc : α → List DV} {B C : List DV} {xs : List α} {j : Nat} {k : Int} (h : j < xs.length) (hB : B = enc (m (xs.getD (j : Int).toNat default) (k + (wSum c (xs.take j) : Int)))) : mid ((mkL m c (xs.take j) k).flatMap enc) B C = (mkL m c (xs.take (j + 1)) k).flatMap enc ++ C := by
  unfold mid
  rw [mkL_succ h, List.flatMap_append, hB]; simp
theorem mk_fin {α : Type} {m : α → Int → α} {c : α → Nat} {enc : α → List DV} {e sz : Nat} {xs : List α} {j : Nat} {k : Int} (h : xs.length ≤ j) : some (some (KC.mk true e sz xs.length ((mkL m c (xs.take j) k).flatMap enc ++ (xs.drop j).flatMap enc))) = some (some (kcOf true (listD e sz enc (mkL m c xs k)))) := by
  rw [List.take_of_length_le h, List.drop_eq_nil_of_le h]
  simp only [listD, kcOf, mkL_len, List.flatMap_nil, List.append_nil]
theorem mk_pre {α : Type} {m : α → Int → α} {c : α → Nat} {enc : α → List DV} {sz : Nat} (hs : ∀ x, (enc x).length = sz) {xs : List α} {j : Nat} {k : Int} (h : j ≤ xs.length) : ((mkL m c (xs.take j) k).flatMap enc).length = j * sz := by
  rw [flat_len hs, mkL_len, List.length_take, Nat.min_eq_left h]
theorem wSum_bound {α : Type} {c w : α → Nat} (h : ∀ x, c x ≤ 8 * (1 + w x)) : ∀ xs : List α, wSum c xs ≤ 8 * wList w xs
  | [] => by simp [wSum, wList]
  | x :: xs => by
    have := wSum_bound h xs
    have := h x
    simp only [wSum, wList, List.map_cons, List.sum_cons, List.length_cons] at *
    omega
theorem wSum_ge {α : Type} {c : α → Nat} (h : ∀ x, 1 ≤ c x) : ∀ xs : List α, xs.length ≤ wSum c xs
  | [] => by simp [wSum]
  | x :: xs => by
    have := wSum_ge h xs
    have := h x
    simp only [wSum, List.map_cons, List.sum_cons, List.length_cons] at *
    omega
def mDig (k : Nat) (out : Str) : Str := if k = 0 then out else mDig (k / 10) (strOf [UInt8.ofNat (IntKind.u8.wrap (48 + (k : Int) % 10)).toNat] ++ out)
termination_by k
theorem mDig_go {k : Nat} {out : Str} (h : 0 < (k : Int)) : mDig (k / 10) (strOf [UInt8.ofNat (IntKind.u8.wrap (48 + (k : Int) % 10)).toNat] ++ out) = mDig k out := by rw [mDig.eq_def k out, if_neg (by omega)]
theorem mDig_end {k : Nat} {out : Str} (h : ¬ 0 < (k : Int)) : mDig k out = out := by rw [mDig.eq_def k out, if_pos (by omega)]
def mText (k : Int) : Str := if k ≤ 0 then ByteArray.mk #[109, 48] else ByteArray.mk #[109] ++ mDig k.toNat (ByteArray.mk #[])

def mkField (x : FieldT) (k : Int) : FieldT := (mText (k), (k) + (1))
def cField (x : FieldT) : Nat := 2
theorem cField_le (x : FieldT) : cField x ≤ 8 * (1 + wField x) := by
  simp only [cField]
  omega
def mkItem (x : ItemT) (k : Int) : ItemT := ((k, (k) + (1), mText (((k) + (1)) + (1))), mkL mkField cField (x.2) ((((k) + (1)) + (1)) + (1)))
def cItem (x : ItemT) : Nat := 3 + wSum cField (x.2)
theorem cItem_le (x : ItemT) : cItem x ≤ 8 * (1 + wItem x) := by
  have h3 := wSum_bound cField_le (x.2)
  simp only [cItem, wItem, wKey, wRecord]
  omega
set_option maxRecDepth 100000 in
theorem ok_laws_markText {k : Int} (hk : k ≤ 9000000000000000000) : PFn Try.prog 71 [.one (.dv [] (.int .i64 (k)))] (.one (.dv [] (.str (mText k)))) := by
  refine ⟨fn_intro Try.func71 rfl Try.ntmps71 Try.results71 rfl (fun C => ?_)⟩
  refine ok_fact (x := .tmp 0) (ev_tmp rfl) (fun (f0 : -9223372036854775808 ≤ (k) ∧ (k) ≤ 9223372036854775807) => ?_)
  refine ok_seq ?_
  refine ok_region ?_
  refine o_pure rfl rfl (pu_move (.inr rfl) (ev_str (str_lit rfl))) rfl rfl ?_
  refine ops_nil ?_
  refine then_n ?_
  refine ok_seq ?_
  refine ok_seq ?_
  refine ok_region ?_
  refine o_pure rfl rfl (pu_move (.inl rfl) (ev_tmp rfl)) rfl rfl ?_
  refine o_pure rfl rfl (pu_leq rfl (ev_tmp rfl) (ev_int (inR_lit rfl))) rfl rfl ?_
  refine ops_nil ?_
  refine then_n ?_
  refine ok_cond (ev_tmp rfl) (fun c1 => ?_) (fun c1 => ?_)
  · skip
    have d1 := of_decide_eq_true c1
    refine ok_seq ?_
    refine ok_region ?_
    refine o_pure rfl rfl (pu_move (.inr rfl) (ev_str (str_lit rfl))) rfl rfl ?_
    refine ops_nil ?_
    refine then_n ?_
    refine ok_ret ?_
    refine then_r ?_
    refine fin1 (res_tmp rfl) (eqS ?_)
    rw [mText, if_pos d1]
  · skip
    have d1 := of_decide_eq_false c1
    refine ok_skip ?_
    refine then_n ?_
    refine ok_seq ?_
    refine ok_region ?_
    refine o_pure rfl rfl (pu_move (.inr rfl) (ev_str (str_lit rfl))) rfl rfl ?_
    refine ops_nil ?_
    refine then_n ?_
    refine ok_seq ?_
    refine ok_block ?_
    refine ok_loop (ι := Nat × Str) (fun zz => ⟨[(0, .one (.dv [] (.int .i64 ((zz.1 : Int))))), (2, .one (.dv [] (.str (ByteArray.mk #[])))), (3, .one (.dv [] (.str (zz.2))))], [], []⟩) (fun zz => mDig zz.1 zz.2 = mDig k.toNat (ByteArray.mk #[]) ∧ zz.2.size + zz.1 ≤ k.toNat) (fun zz => zz.1) ((k.toNat, ByteArray.mk #[])) ?_ (weak_sub ⟨(eqSlotI (by show k = ((k.toNat : Nat) : Int); omega)), rfl, rfl, trivial⟩ trivial trivial rfl) (fun zz hx => ?_)
    · exact ⟨rfl, by show 0 + _ ≤ _; omega⟩
    obtain ⟨n, out⟩ := zz
    replace hx : mDig n out = mDig k.toNat (ByteArray.mk #[]) ∧ out.size + n ≤ k.toNat := hx
    obtain ⟨hd, hs⟩ := hx
    show Ok _ _ _ _ _ (⟨[(0, .one (.dv [] (.int .i64 ((n : Int))))), (2, .one (.dv [] (.str (ByteArray.mk #[])))), (3, .one (.dv [] (.str (out))))], [], []⟩ : St)
    refine ok_seq ?_
    refine ok_seq ?_
    refine ok_region ?_
    refine o_pure rfl rfl (pu_move (.inl rfl) (ev_tmp rfl)) rfl rfl ?_
    refine o_pure rfl rfl (pu_gtr rfl (ev_tmp rfl) (ev_int (inR_lit rfl))) rfl rfl ?_
    refine ops_nil ?_
    refine then_n ?_
    refine ok_cond (ev_tmp rfl) (fun c2 => ?_) (fun c2 => ?_)
    · skip
      have d2 := of_decide_eq_true c2
      have hs1 : (strOf [UInt8.ofNat (IntKind.u8.wrap (48 + (n : Int) % 10)).toNat]).size = 1 := rfl
      refine ok_skip ?_
      refine then_n ?_
      refine ok_block ?_
      refine ok_seq ?_
      refine ok_region ?_
      refine o_pure rfl rfl (pu_move (.inl rfl) (ev_tmp rfl)) rfl rfl ?_
      refine o_pure rfl rfl (pu_remN rfl (ev_tmp rfl) (ev_int (inR_lit rfl)) (by omega) (by omega)) rfl rfl ?_
      refine o_pure rfl rfl (pu_addR rfl (ev_int (inR_lit rfl)) (ev_tmp rfl) (inR64 (by omega) (by omega))) rfl rfl ?_
      refine o_pure rfl rfl (pu_convI hT rfl rfl rfl (ev_tmp rfl)) rfl rfl ?_
      refine o_build1 (k := 12) (js := []) hT rfl rfl rfl rfl rfl rfl rfl rfl rfl (ev_tmp rfl) rfl rfl (ow_cons' (ow_dv rfl) ow_nil rfl) (by decide) (by decide) rfl rfl ?_
      simp only [killT, killB, SV.kill, CV.kill, List.map_cons, List.map_nil, List.any_cons, List.any_nil, List.contains_cons, List.contains_nil, List.nil_append, List.cons_append, Nat.reduceBEq, Bool.or_false, Bool.false_or, Bool.or_true, Bool.true_or, cond_true, cond_false]
      refine o_pure rfl rfl (pu_convB1 (b := UInt8.ofNat (IntKind.u8.wrap ((48) + (((n : Int)) % (10)))).toNat) hT rfl rfl rfl rfl (ev_keyv (c := ⟨false, 5, 1, 1, [.int .u8 (IntKind.u8.wrap ((48) + (((n : Int)) % (10))))]⟩) (ev_tmp rfl) rfl) (wrap_u8 _)) rfl rfl ?_
      refine o_pure rfl rfl (pu_move (.inl rfl) (ev_tmp rfl)) rfl rfl ?_
      refine o_pure rfl rfl (pu_sadd rfl (ev_tmp rfl) (ev_tmp rfl) (by omega)) rfl rfl ?_
      refine o_pure rfl rfl (pu_move (.inr rfl) (ev_tmp rfl)) rfl rfl ?_
      refine ops_nil ?_
      refine then_n ?_
      refine ok_region ?_
      refine o_pure rfl rfl (pu_move (.inl rfl) (ev_tmp rfl)) rfl rfl ?_
      refine o_pure rfl rfl (pu_quoN rfl (ev_tmp rfl) (ev_int (inR_lit rfl)) (by omega) (by omega)) rfl rfl ?_
      refine o_pure rfl rfl (pu_move (.inr rfl) (ev_tmp rfl)) rfl rfl ?_
      refine ops_nil ?_
      refine blk_n ?_
      refine then_n ?_
      refine ⟨(n / 10, strOf [UInt8.ofNat (IntKind.u8.wrap (48 + (n : Int) % 10)).toNat] ++ out), ?_, ?_, weak_sub ⟨rfl, rfl, rfl, trivial⟩ trivial trivial rfl⟩
      · exact ⟨(mDig_go d2).trans hd, by rw [ByteArray.size_append, hs1]; dsimp only; omega⟩
      · dsimp only; omega
    · skip
      have d2 := of_decide_eq_false c2
      have hs9 : (ByteArray.mk #[109]).size = 1 := rfl
      refine ok_exit ?_
      refine then_e ?_
      refine then_e ?_
      refine blk_e rfl ?_
      refine then_n ?_
      refine ok_seq ?_
      refine ok_region ?_
      refine o_pure rfl rfl (pu_move (.inl rfl) (ev_tmp rfl)) rfl rfl ?_
      refine o_pure rfl rfl (pu_sadd rfl (ev_str (str_lit rfl)) (ev_tmp rfl) (by omega)) rfl rfl ?_
      refine o_pure rfl rfl (pu_move (.inr rfl) (ev_tmp rfl)) rfl rfl ?_
      refine ops_nil ?_
      refine then_n ?_
      refine ok_ret ?_
      refine fin1 (res_tmp rfl) (eqS ?_)
      rw [mText, if_neg d1, ← hd, mDig_end d2]
set_option maxRecDepth 100000 in
theorem ok_laws_markFieldS {x : List (FieldT)} {k : Int} (h0 : 0 ≤ k) (h1 : k + (wSum cField x : Int) ≤ 4611686018427387904) : WFn Try.prog 72 [.one (.key 0), .one (.dv [] (.int .i64 (k)))] (.one (.dv [] (.int .i64 (k + (wSum cField x : Int))))) [(0, kcOf true (.sl 161 2 (x.length) (x.flatMap eField)))] [(0, kcOf true (fieldsD (mkL mkField cField x k)))] := by
  refine ⟨fn_intro Try.func72 rfl Try.ntmps72 Try.results72 rfl (fun C => ?_)⟩
  have hln : x.length ≤ wSum cField x := wSum_ge (fun _ => by simp only [cField]; omega) x
  refine ok_fact (x := .tmp 1) (ev_tmp rfl) (fun (f1 : -9223372036854775808 ≤ (k) ∧ (k) ≤ 9223372036854775807) => ?_)
  refine ok_seq ?_
  refine ok_region ?_
  refine o_pure rfl rfl (pu_move (.inr rfl) (ev_int (inR_lit rfl))) rfl rfl ?_
  refine ops_nil ?_
  refine then_n ?_
  refine ok_seq ?_
  refine ok_seq ?_
  refine ok_region ?_
  refine o_pure rfl rfl (pu_move (.inr rfl) (ev_int (inR_lit rfl))) rfl rfl ?_
  refine ops_nil ?_
  refine then_n ?_
  refine ok_block ?_
  refine ok_loop (ι := Nat) (fun zz => ⟨[(0, .one (.key 0)), (1, .one (.dv [] (.int .i64 (k + (wSum cField (x.take zz) : Int))))), (4, .one (.dv [] (.int .i64 (0)))), (5, .one (.dv [] (.int .i64 ((zz : Int)))))], [], [(0, some ⟨true, 161, 2, x.length, (mkL mkField cField (x.take zz) k).flatMap eField ++ (x.drop zz).flatMap eField⟩)]⟩) (fun zz => zz ≤ x.length) (fun zz => x.length - zz) (0) ?_ (weak_sub ⟨rfl, (eqSlotI (by simp [wSum])), rfl, rfl, trivial⟩ trivial ⟨rfl, trivial⟩ rfl) (fun zz hx => ?_)
  · exact Nat.zero_le _
  obtain ⟨j, rfl⟩ : ∃ v, v = zz := ⟨_, rfl⟩
  replace hx : j ≤ x.length := hx
  have hw := fun h => wSum_succ cField x j h
  show Ok _ _ _ _ _ (⟨[(0, .one (.key 0)), (1, .one (.dv [] (.int .i64 (k + (wSum cField (x.take j) : Int))))), (4, .one (.dv [] (.int .i64 (0)))), (5, .one (.dv [] (.int .i64 ((j : Int)))))], [], [(0, some ⟨true, 161, 2, x.length, (mkL mkField cField (x.take j) k).flatMap eField ++ (x.drop j).flatMap eField⟩)]⟩ : St)
  refine ok_seq ?_
  refine ok_seq ?_
  refine ok_region ?_
  refine o_pure rfl rfl (pu_move (.inl rfl) (ev_tmp rfl)) rfl rfl ?_
  refine o_pure rfl rfl (pu_move (.inl rfl) (ev_tmp rfl)) rfl rfl ?_
  refine o_pure rfl rfl (pu_lenKn (n := (x.length)) hT rfl rfl (ev_tmp rfl) rfl rfl) rfl rfl ?_
  refine o_pure rfl rfl (pu_lss rfl (ev_tmp rfl) (ev_tmp rfl)) rfl rfl ?_
  refine ops_nil ?_
  refine then_n ?_
  refine ok_cond (ev_tmp rfl) (fun c1 => ?_) (fun c1 => ?_)
  · skip
    have d1 := of_decide_eq_true c1
    have hj : j < x.length := by omega
    obtain ⟨hw1, hw2⟩ := hw hj
    have hc : cField (x.getD (j : Int).toNat default) = 2 := rfl
    refine ok_kcs (k := 0) (cs' := mid ((mkL mkField cField (x.take j) k).flatMap eField) [.str ((x.getD (j : Int).toNat default).1), .int .i64 ((x.getD (j : Int).toNat default).2)] ((x.drop (j + 1)).flatMap eField)) rfl (mk_open hj) ?_
    refine ok_skip ?_
    refine then_n ?_
    refine ok_seq ?_
    refine ok_block ?_
    refine ok_seq ?_
    refine ok_region ?_
    refine o_pure rfl rfl (pu_move (.inl rfl) (ev_tmp rfl)) rfl rfl ?_
    refine o_pure rfl rfl (pu_move (.inl rfl) (ev_tmp rfl)) rfl rfl ?_
    refine o_pure rfl rfl (pu_move (.inl rfl) (ev_tmp rfl)) rfl rfl ?_
    refine o_call rfl rfl rfl Try.call71 (ok_laws_markText (by omega)) (as_cons (ev_tmp rfl) (ag_one ac_dv) as_nil) rfl rfl ?_
    refine o_pure rfl rfl (pu_indexK (i := j) hT rfl rfl rfl (ev_tmp rfl) rfl (ev_tmp rfl) rfl (by show _ < (x.length); omega)) rfl rfl ?_
    refine o_pure rfl rfl (pu_fieldE hT rfl rfl rfl (ev_tmp rfl)) rfl rfl ?_
    refine o_storeE (js := []) (cs := mid ((mkL mkField cField (x.take j) k).flatMap eField) [.str (mText (k + (wSum cField (x.take j) : Int))), .int .i64 ((x.getD (j : Int).toNat default).2)] ((x.drop (j + 1)).flatMap eField)) hT rfl rfl rfl rfl (ev_tmp rfl) (ev_tmp rfl) rfl rfl rfl rfl (ow_cons' (ow_dv rfl) ow_nil rfl) (by decide) (by decide) rfl (le_mid (off := (j * 2 + 0)) (n := 1) (j := 0) (mk_pre (sz := 2) (fun _ => rfl) (Nat.le_of_lt hj)) (by omega) (Nat.le_of_ble_eq_true rfl)) (setR_mid (off := (j * 2 + 0)) (j := 0) (mk_pre (sz := 2) (fun _ => rfl) (Nat.le_of_lt hj)) (by omega) rfl (Nat.le_of_ble_eq_true rfl)) ?_
    simp only [killT, killB, SV.kill, CV.kill, List.map_cons, List.map_nil, List.any_cons, List.any_nil, List.contains_cons, List.contains_nil, List.nil_append, List.cons_append, Nat.reduceBEq, Bool.or_false, Bool.false_or, Bool.or_true, Bool.true_or, cond_true, cond_false]
    refine ops_nil ?_
    refine then_n ?_
    refine ok_seq ?_
    refine ok_region ?_
    refine o_pure rfl rfl (pu_move (.inl rfl) (ev_tmp rfl)) rfl rfl ?_
    refine o_pure rfl rfl (pu_addR rfl (ev_tmp rfl) (ev_int (inR_lit rfl)) (inR64 (by omega) (by omega))) rfl rfl ?_
    refine o_pure rfl rfl (pu_move (.inr rfl) (ev_tmp rfl)) rfl rfl ?_
    refine ops_nil ?_
    refine then_n ?_
    refine ok_seq ?_
    refine ok_region ?_
    refine o_pure rfl rfl (pu_move (.inl rfl) (ev_tmp rfl)) rfl rfl ?_
    refine o_pure rfl rfl (pu_move (.inl rfl) (ev_tmp rfl)) rfl rfl ?_
    refine o_pure rfl rfl (pu_move (.inl rfl) (ev_tmp rfl)) rfl rfl ?_
    refine o_pure rfl rfl (pu_indexK (i := j) hT rfl rfl rfl (ev_tmp rfl) rfl (ev_tmp rfl) rfl (by show _ < (x.length); omega)) rfl rfl ?_
    refine o_pure rfl rfl (pu_fieldE hT rfl rfl rfl (ev_tmp rfl)) rfl rfl ?_
    refine o_storeE (js := []) (cs := mid ((mkL mkField cField (x.take j) k).flatMap eField) [.str (mText (k + (wSum cField (x.take j) : Int))), .int .i64 ((k + (wSum cField (x.take j) : Int)) + (1))] ((x.drop (j + 1)).flatMap eField)) hT rfl rfl rfl rfl (ev_tmp rfl) (ev_tmp rfl) rfl rfl rfl rfl (ow_cons' (ow_dv rfl) ow_nil rfl) (by decide) (by decide) rfl (le_mid (off := (j * 2 + 1)) (n := 1) (j := 1) (mk_pre (sz := 2) (fun _ => rfl) (Nat.le_of_lt hj)) (by omega) (Nat.le_of_ble_eq_true rfl)) (setR_mid (off := (j * 2 + 1)) (j := 1) (mk_pre (sz := 2) (fun _ => rfl) (Nat.le_of_lt hj)) (by omega) rfl (Nat.le_of_ble_eq_true rfl)) ?_
    simp only [killT, killB, SV.kill, CV.kill, List.map_cons, List.map_nil, List.any_cons, List.any_nil, List.contains_cons, List.contains_nil, List.nil_append, List.cons_append, Nat.reduceBEq, Bool.or_false, Bool.false_or, Bool.or_true, Bool.true_or, cond_true, cond_false]
    refine ops_nil ?_
    refine then_n ?_
    refine ok_region ?_
    refine o_pure rfl rfl (pu_move (.inl rfl) (ev_tmp rfl)) rfl rfl ?_
    refine o_pure rfl rfl (pu_addR rfl (ev_tmp rfl) (ev_int (inR_lit rfl)) (inR64 (by omega) (by omega))) rfl rfl ?_
    refine o_pure rfl rfl (pu_move (.inr rfl) (ev_tmp rfl)) rfl rfl ?_
    refine ops_nil ?_
    refine blk_n ?_
    refine then_n ?_
    refine ok_region ?_
    refine o_pure rfl rfl (pu_move (.inl rfl) (ev_tmp rfl)) rfl rfl ?_
    refine o_pure rfl rfl (pu_addR rfl (ev_tmp rfl) (ev_int (inR_lit rfl)) (inR64 (by omega) (by omega))) rfl rfl ?_
    refine o_pure rfl rfl (pu_move (.inr rfl) (ev_tmp rfl)) rfl rfl ?_
    refine ops_nil ?_
    refine then_n ?_
    refine ⟨j + 1, ?_, ?_, weak_sub ⟨rfl, (eqSlotI (by omega)), rfl, rfl, trivial⟩ trivial ⟨(congrArg (fun cs => some (some (KC.mk true 161 2 x.length cs))) (mk_close (by omega) (by rfl))), trivial⟩ rfl⟩
    · omega
    · omega
  · skip
    have d1 := of_decide_eq_false c1
    refine ok_exit ?_
    refine then_e ?_
    refine then_e ?_
    refine blk_e rfl ?_
    refine then_n ?_
    refine ok_seq ?_
    refine ok_region ?_
    refine o_pure rfl rfl (pu_move (.inl rfl) (ev_tmp rfl)) rfl rfl ?_
    refine o_pure rfl rfl (pu_move (.inr rfl) (ev_tmp rfl)) rfl rfl ?_
    refine ops_nil ?_
    refine then_n ?_
    refine ok_weak (σ' := ⟨[(4, .one (.dv [] (.int .i64 (k + (wSum cField (x.take j) : Int)))))], [], [(0, some (kcOf true (fieldsD (mkL mkField cField x k))))]⟩) (weak_sub ⟨rfl, trivial⟩ trivial ⟨(mk_fin (by omega)), trivial⟩ rfl) ?_
    refine ok_ret ?_
    refine fin1 (res_tmp rfl) ⟨eqI ?_, w1_ok rfl⟩
    have hq := wSum_all cField x j (by omega); omega
set_option maxRecDepth 100000 in
theorem ok_laws_heldFieldS {x y : List (FieldT)} {k : Int} (hy : y = mkL mkField cField x k) (h0 : 0 ≤ k) (h1 : k + (wSum cField x : Int) ≤ 4611686018427387904) : PFn Try.prog 81 [.one (.dv [] (fieldsD (y))), .one (.dv [] (.int .i64 (k)))] (.one (.dv [] (.int .i64 (k + (wSum cField x : Int))))) := by
  refine ⟨fn_intro Try.func81 rfl Try.ntmps81 Try.results81 rfl (fun C => ?_)⟩
  refine ok_fact (x := .tmp 0) (ev_tmp rfl) (fun (f0 : ((y)).length ≤ 9223372036854775807) => ?_)
  refine ok_fact (x := .tmp 1) (ev_tmp rfl) (fun (f1 : -9223372036854775808 ≤ (k) ∧ (k) ≤ 9223372036854775807) => ?_)
  refine ok_seq ?_
  refine ok_region ?_
  refine o_pure rfl rfl (pu_move (.inr rfl) (ev_int (inR_lit rfl))) rfl rfl ?_
  refine ops_nil ?_
  refine then_n ?_
  refine ok_seq ?_
  refine ok_seq ?_
  refine ok_region ?_
  refine o_pure rfl rfl (pu_move (.inr rfl) (ev_int (inR_lit rfl))) rfl rfl ?_
  refine ops_nil ?_
  refine then_n ?_
  refine ok_block ?_
  refine ok_loop (ι := Nat) (fun zz => ⟨[(0, .one (.dv [] (fieldsD (y)))), (1, .one (.dv [] (.int .i64 (k + (wSum cField (x.take zz) : Int))))), (5, .one (.dv [] (.int .i64 ((zz : Int)))))], [], []⟩) (fun zz => zz ≤ x.length) (fun zz => x.length - zz) (0) ?_ (weak_sub ⟨rfl, (eqSlotI (by simp [wSum])), rfl, trivial⟩ trivial trivial rfl) (fun zz hx => ?_)
  · exact Nat.zero_le _
  obtain ⟨j, rfl⟩ : ∃ v, v = zz := ⟨_, rfl⟩
  replace hx : j ≤ x.length := hx
  have hw := fun h => wSum_succ cField x j h
  have hyl : y.length = x.length := by rw [hy, mkL_len]
  show Ok _ _ _ _ _ (⟨[(0, .one (.dv [] (fieldsD (y)))), (1, .one (.dv [] (.int .i64 (k + (wSum cField (x.take j) : Int))))), (5, .one (.dv [] (.int .i64 ((j : Int)))))], [], []⟩ : St)
  refine ok_seq ?_
  refine ok_seq ?_
  refine ok_region ?_
  refine o_pure rfl rfl (pu_move (.inl rfl) (ev_tmp rfl)) rfl rfl ?_
  refine o_pure rfl rfl (pu_move (.inl rfl) (ev_tmp rfl)) rfl rfl ?_
  refine o_pure rfl rfl (pu_lenV hT rfl rfl (ev_tmp rfl)) rfl rfl ?_
  refine o_pure rfl rfl (pu_lss rfl (ev_tmp rfl) (ev_tmp rfl)) rfl rfl ?_
  refine ops_nil ?_
  refine then_n ?_
  refine ok_cond (ev_tmp rfl) (fun c1 => ?_) (fun c1 => ?_)
  · skip
    have d1 := of_decide_eq_true c1
    have hj : j < x.length := by omega
    obtain ⟨hw1, hw2⟩ := hw hj
    have hc : cField (x.getD (j : Int).toNat default) = 2 := rfl
    have he : y.getD (j : Int).toNat default = mkField (x.getD (j : Int).toNat default) (k + (wSum cField (x.take j) : Int)) := by rw [hy]; exact mkL_getD hj
    refine ok_skip ?_
    refine then_n ?_
    refine ok_seq ?_
    refine ok_block ?_
    refine ok_seq ?_
    refine ok_seq ?_
    refine ok_regionD (oB := []) (oK := []) (by kernel_rfl) rfl rfl ?_
    refine d_take 0 rfl (by kernel_rfl) rfl rfl (pu_move (.inl rfl) (ev_tmp rfl)) rfl rfl rfl rfl ?_
    refine d_take 1 rfl (by kernel_rfl) rfl rfl (pu_move (.inl rfl) (ev_tmp rfl)) rfl rfl rfl rfl ?_
    refine d_take 2 rfl (by kernel_rfl) rfl rfl (pu_indexD hT rfl rfl rfl (ev_tmp rfl) (ev_tmp rfl) (fun _ => rfl) (by first | omega | (simp only [Bool.and_eq_true, Bool.or_eq_true, Bool.or_eq_false_iff, Bool.and_eq_false_iff, Bool.not_eq_true', Bool.not_eq_false', beq_iff_eq, decide_eq_true_eq, decide_eq_false_iff_not] at hg; omega) | (have hh := of_decide_eq_true (beq_tt hg); omega) | (have hh := of_decide_eq_true (beq_tt (and_r hg)); omega)) (by first | omega | (simp only [Bool.and_eq_true, Bool.or_eq_true, Bool.or_eq_false_iff, Bool.and_eq_false_iff, Bool.not_eq_true', Bool.not_eq_false', beq_iff_eq, decide_eq_true_eq, decide_eq_false_iff_not] at hg; omega) | (have hh := of_decide_eq_true (beq_tt hg); omega) | (have hh := of_decide_eq_true (beq_tt (and_r hg)); omega))) rfl rfl rfl rfl ?_
    refine d_take 3 rfl (by kernel_rfl) rfl rfl (pu_fieldRef hT rfl rfl rfl (ev_tmp rfl)) rfl rfl rfl rfl ?_
    refine d_take 4 rfl (by kernel_rfl) rfl rfl (pu_loadRef1 hT rfl rfl (ev_tmp rfl) rfl) rfl rfl rfl rfl ?_
    refine d_take 5 rfl (by kernel_rfl) rfl rfl (pu_move (.inl rfl) (ev_tmp rfl)) rfl rfl rfl rfl ?_
    refine d_call 6 rfl (by kernel_rfl) rfl rfl rfl Try.call71 (ok_laws_markText (by omega)) (as_cons (ev_tmp rfl) (ag_one ac_dv) as_nil) rfl rfl rfl rfl ?_
    refine d_take 7 rfl (by kernel_rfl) rfl rfl (pu_sne rfl (ev_tmp rfl) (ev_tmp rfl)) rfl rfl rfl rfl ?_
    refine d_done (by kernel_rfl) ?_
    refine then_n ?_
    refine ok_cond (ev_tmp rfl) (fun c2 => ?_) (fun c2 => ?_)
    · skip
      refine ok_seq ?_
      refine ok_region ?_
      refine o_pure rfl rfl (pu_move (.inr rfl) (ev_int (inR_lit rfl))) rfl rfl ?_
      refine ops_nil ?_
      refine then_n ?_
      refine ok_ret ?_
      refine then_r ?_
      refine blk_r ?_
      refine then_r ?_
      refine then_r ?_
      refine blk_r ?_
      refine then_r ?_
      refine fin1 (res_tmp rfl) (eqI ?_)
      exfalso; rw [he] at c2; simp [mkField, sEq] at c2
    · skip
      refine ok_skip ?_
      refine then_n ?_
      refine ok_seq ?_
      refine ok_region ?_
      refine o_pure rfl rfl (pu_move (.inl rfl) (ev_tmp rfl)) rfl rfl ?_
      refine o_pure rfl rfl (pu_addR rfl (ev_tmp rfl) (ev_int (inR_lit rfl)) (inR64 (by omega) (by omega))) rfl rfl ?_
      refine o_pure rfl rfl (pu_move (.inr rfl) (ev_tmp rfl)) rfl rfl ?_
      refine ops_nil ?_
      refine then_n ?_
      refine ok_seq ?_
      refine ok_seq ?_
      refine ok_region ?_
      refine o_pure rfl rfl (pu_move (.inl rfl) (ev_tmp rfl)) rfl rfl ?_
      refine o_pure rfl rfl (pu_move (.inl rfl) (ev_tmp rfl)) rfl rfl ?_
      refine o_pure rfl rfl (pu_indexD hT rfl rfl rfl (ev_tmp rfl) (ev_tmp rfl) (fun _ => rfl) (by first | omega | (simp only [Bool.and_eq_true, Bool.or_eq_true, Bool.or_eq_false_iff, Bool.and_eq_false_iff, Bool.not_eq_true', Bool.not_eq_false', beq_iff_eq, decide_eq_true_eq, decide_eq_false_iff_not] at hg; omega) | (have hh := of_decide_eq_true (beq_tt hg); omega) | (have hh := of_decide_eq_true (beq_tt (and_r hg)); omega)) (by first | omega | (simp only [Bool.and_eq_true, Bool.or_eq_true, Bool.or_eq_false_iff, Bool.and_eq_false_iff, Bool.not_eq_true', Bool.not_eq_false', beq_iff_eq, decide_eq_true_eq, decide_eq_false_iff_not] at hg; omega) | (have hh := of_decide_eq_true (beq_tt hg); omega) | (have hh := of_decide_eq_true (beq_tt (and_r hg)); omega))) rfl rfl ?_
      refine o_pure rfl rfl (pu_fieldRef hT rfl rfl rfl (ev_tmp rfl)) rfl rfl ?_
      refine o_pure rfl rfl (pu_loadRef1 hT rfl rfl (ev_tmp rfl) rfl) rfl rfl ?_
      refine o_pure rfl rfl (pu_move (.inl rfl) (ev_tmp rfl)) rfl rfl ?_
      refine o_pure rfl rfl (pu_neq rfl (ev_tmp rfl) (ev_tmp rfl)) rfl rfl ?_
      refine ops_nil ?_
      refine then_n ?_
      refine ok_cond (ev_tmp rfl) (fun c3 => ?_) (fun c3 => ?_)
      · skip
        have d3 := nd_t c3
        refine ok_seq ?_
        refine ok_region ?_
        refine o_pure rfl rfl (pu_move (.inr rfl) (ev_int (inR_lit rfl))) rfl rfl ?_
        refine ops_nil ?_
        refine then_n ?_
        refine ok_ret ?_
        refine then_r ?_
        refine blk_r ?_
        refine then_r ?_
        refine then_r ?_
        refine blk_r ?_
        refine then_r ?_
        refine fin1 (res_tmp rfl) (eqI ?_)
        exfalso; rw [he] at c3; simp [mkField, sEq] at c3
      · skip
        have d3 := nd_f c3
        refine ok_skip ?_
        refine then_n ?_
        refine ok_region ?_
        refine o_pure rfl rfl (pu_move (.inl rfl) (ev_tmp rfl)) rfl rfl ?_
        refine o_pure rfl rfl (pu_addR rfl (ev_tmp rfl) (ev_int (inR_lit rfl)) (inR64 (by omega) (by omega))) rfl rfl ?_
        refine o_pure rfl rfl (pu_move (.inr rfl) (ev_tmp rfl)) rfl rfl ?_
        refine ops_nil ?_
        refine blk_n ?_
        refine then_n ?_
        refine ok_region ?_
        refine o_pure rfl rfl (pu_move (.inl rfl) (ev_tmp rfl)) rfl rfl ?_
        refine o_pure rfl rfl (pu_addR rfl (ev_tmp rfl) (ev_int (inR_lit rfl)) (inR64 (by omega) (by omega))) rfl rfl ?_
        refine o_pure rfl rfl (pu_move (.inr rfl) (ev_tmp rfl)) rfl rfl ?_
        refine ops_nil ?_
        refine then_n ?_
        refine ⟨j + 1, ?_, ?_, weak_sub ⟨rfl, (eqSlotI (by omega)), rfl, trivial⟩ trivial trivial rfl⟩
        · omega
        · omega
  · skip
    have d1 := of_decide_eq_false c1
    refine ok_exit ?_
    refine then_e ?_
    refine then_e ?_
    refine blk_e rfl ?_
    refine then_n ?_
    refine ok_seq ?_
    refine ok_region ?_
    refine o_pure rfl rfl (pu_move (.inl rfl) (ev_tmp rfl)) rfl rfl ?_
    refine o_pure rfl rfl (pu_move (.inr rfl) (ev_tmp rfl)) rfl rfl ?_
    refine ops_nil ?_
    refine then_n ?_
    refine ok_ret ?_
    refine fin1 (res_tmp rfl) (eqI ?_)
    have hq := wSum_all cField x j (by omega); omega
set_option maxRecDepth 100000 in
theorem ok_laws_markItemS {x : List (ItemT)} {k : Int} (h0 : 0 ≤ k) (h1 : k + (wSum cItem x : Int) ≤ 4611686018427387904) : WFn Try.prog 172 [.one (.key 0), .one (.dv [] (.int .i64 (k)))] (.one (.dv [] (.int .i64 (k + (wSum cItem x : Int))))) [(0, kcOf true (.sl 150 4 (x.length) (x.flatMap eItem)))] [(0, kcOf true (itemsD (mkL mkItem cItem x k)))] := by
  refine ⟨fn_intro Try.func172 rfl Try.ntmps172 Try.results172 rfl (fun C => ?_)⟩
  have hln : x.length ≤ wSum cItem x := wSum_ge (fun _ => by simp only [cItem]; omega) x
  refine ok_fact (x := .tmp 1) (ev_tmp rfl) (fun (f1 : -9223372036854775808 ≤ (k) ∧ (k) ≤ 9223372036854775807) => ?_)
  refine ok_seq ?_
  refine ok_region ?_
  refine o_pure rfl rfl (pu_move (.inr rfl) (ev_int (inR_lit rfl))) rfl rfl ?_
  refine ops_nil ?_
  refine then_n ?_
  refine ok_seq ?_
  refine ok_seq ?_
  refine ok_region ?_
  refine o_pure rfl rfl (pu_move (.inr rfl) (ev_int (inR_lit rfl))) rfl rfl ?_
  refine ops_nil ?_
  refine then_n ?_
  refine ok_block ?_
  refine ok_loop (ι := Nat) (fun zz => ⟨[(0, .one (.key 0)), (1, .one (.dv [] (.int .i64 (k + (wSum cItem (x.take zz) : Int))))), (4, .one (.dv [] (.int .i64 (0)))), (5, .one (.dv [] (.int .i64 ((zz : Int)))))], [], [(0, some ⟨true, 150, 4, x.length, (mkL mkItem cItem (x.take zz) k).flatMap eItem ++ (x.drop zz).flatMap eItem⟩)]⟩) (fun zz => zz ≤ x.length) (fun zz => x.length - zz) (0) ?_ (weak_sub ⟨rfl, (eqSlotI (by simp [wSum])), rfl, rfl, trivial⟩ trivial ⟨rfl, trivial⟩ rfl) (fun zz hx => ?_)
  · exact Nat.zero_le _
  obtain ⟨j, rfl⟩ : ∃ v, v = zz := ⟨_, rfl⟩
  replace hx : j ≤ x.length := hx
  have hw := fun h => wSum_succ cItem x j h
  show Ok _ _ _ _ _ (⟨[(0, .one (.key 0)), (1, .one (.dv [] (.int .i64 (k + (wSum cItem (x.take j) : Int))))), (4, .one (.dv [] (.int .i64 (0)))), (5, .one (.dv [] (.int .i64 ((j : Int)))))], [], [(0, some ⟨true, 150, 4, x.length, (mkL mkItem cItem (x.take j) k).flatMap eItem ++ (x.drop j).flatMap eItem⟩)]⟩ : St)
  refine ok_seq ?_
  refine ok_seq ?_
  refine ok_region ?_
  refine o_pure rfl rfl (pu_move (.inl rfl) (ev_tmp rfl)) rfl rfl ?_
  refine o_pure rfl rfl (pu_move (.inl rfl) (ev_tmp rfl)) rfl rfl ?_
  refine o_pure rfl rfl (pu_lenKn (n := (x.length)) hT rfl rfl (ev_tmp rfl) rfl rfl) rfl rfl ?_
  refine o_pure rfl rfl (pu_lss rfl (ev_tmp rfl) (ev_tmp rfl)) rfl rfl ?_
  refine ops_nil ?_
  refine then_n ?_
  refine ok_cond (ev_tmp rfl) (fun c1 => ?_) (fun c1 => ?_)
  · skip
    have d1 := of_decide_eq_true c1
    have hj : j < x.length := by omega
    obtain ⟨hw1, hw2⟩ := hw hj
    have hc : cItem (x.getD (j : Int).toNat default) = 3 + wSum cField ((x.getD (j : Int).toNat default).2) := rfl
    refine ok_kcs (k := 0) (cs' := mid ((mkL mkItem cItem (x.take j) k).flatMap eItem) [.int .i64 ((x.getD (j : Int).toNat default).1.1), .int .i64 ((x.getD (j : Int).toNat default).1.2.1), .str ((x.getD (j : Int).toNat default).1.2.2), fieldsD ((x.getD (j : Int).toNat default).2)] ((x.drop (j + 1)).flatMap eItem)) rfl (mk_open hj) ?_
    refine ok_skip ?_
    refine then_n ?_
    refine ok_seq ?_
    refine ok_block ?_
    refine ok_seq ?_
    refine ok_region ?_
    refine o_pure rfl rfl (pu_move (.inl rfl) (ev_tmp rfl)) rfl rfl ?_
    refine o_pure rfl rfl (pu_move (.inl rfl) (ev_tmp rfl)) rfl rfl ?_
    refine o_pure rfl rfl (pu_move (.inl rfl) (ev_tmp rfl)) rfl rfl ?_
    refine o_pure rfl rfl (pu_indexK (i := j) hT rfl rfl rfl (ev_tmp rfl) rfl (ev_tmp rfl) rfl (by show _ < (x.length); omega)) rfl rfl ?_
    refine o_pure rfl rfl (pu_fieldE hT rfl rfl rfl (ev_tmp rfl)) rfl rfl ?_
    refine o_pure rfl rfl (pu_fieldE hT rfl rfl rfl (ev_tmp rfl)) rfl rfl ?_
    refine o_storeE (js := []) (cs := mid ((mkL mkItem cItem (x.take j) k).flatMap eItem) [.int .i64 (k + (wSum cItem (x.take j) : Int)), .int .i64 ((x.getD (j : Int).toNat default).1.2.1), .str ((x.getD (j : Int).toNat default).1.2.2), fieldsD ((x.getD (j : Int).toNat default).2)] ((x.drop (j + 1)).flatMap eItem)) hT rfl rfl rfl rfl (ev_tmp rfl) (ev_tmp rfl) rfl rfl rfl rfl (ow_cons' (ow_dv rfl) ow_nil rfl) (by decide) (by decide) rfl (le_mid (off := ((j * 4 + 0) + 0)) (n := 1) (j := 0) (mk_pre (sz := 4) (fun _ => rfl) (Nat.le_of_lt hj)) (by omega) (Nat.le_of_ble_eq_true rfl)) (setR_mid (off := ((j * 4 + 0) + 0)) (j := 0) (mk_pre (sz := 4) (fun _ => rfl) (Nat.le_of_lt hj)) (by omega) rfl (Nat.le_of_ble_eq_true rfl)) ?_
    simp only [killT, killB, SV.kill, CV.kill, List.map_cons, List.map_nil, List.any_cons, List.any_nil, List.contains_cons, List.contains_nil, List.nil_append, List.cons_append, Nat.reduceBEq, Bool.or_false, Bool.false_or, Bool.or_true, Bool.true_or, cond_true, cond_false]
    refine ops_nil ?_
    refine then_n ?_
    refine ok_seq ?_
    refine ok_region ?_
    refine o_pure rfl rfl (pu_move (.inl rfl) (ev_tmp rfl)) rfl rfl ?_
    refine o_pure rfl rfl (pu_addR rfl (ev_tmp rfl) (ev_int (inR_lit rfl)) (inR64 (by omega) (by omega))) rfl rfl ?_
    refine o_pure rfl rfl (pu_move (.inr rfl) (ev_tmp rfl)) rfl rfl ?_
    refine ops_nil ?_
    refine then_n ?_
    refine ok_seq ?_
    refine ok_region ?_
    refine o_pure rfl rfl (pu_move (.inl rfl) (ev_tmp rfl)) rfl rfl ?_
    refine o_pure rfl rfl (pu_move (.inl rfl) (ev_tmp rfl)) rfl rfl ?_
    refine o_pure rfl rfl (pu_move (.inl rfl) (ev_tmp rfl)) rfl rfl ?_
    refine o_pure rfl rfl (pu_indexK (i := j) hT rfl rfl rfl (ev_tmp rfl) rfl (ev_tmp rfl) rfl (by show _ < (x.length); omega)) rfl rfl ?_
    refine o_pure rfl rfl (pu_fieldE hT rfl rfl rfl (ev_tmp rfl)) rfl rfl ?_
    refine o_pure rfl rfl (pu_fieldE hT rfl rfl rfl (ev_tmp rfl)) rfl rfl ?_
    refine o_storeE (js := []) (cs := mid ((mkL mkItem cItem (x.take j) k).flatMap eItem) [.int .i64 (k + (wSum cItem (x.take j) : Int)), .int .i64 ((k + (wSum cItem (x.take j) : Int)) + (1)), .str ((x.getD (j : Int).toNat default).1.2.2), fieldsD ((x.getD (j : Int).toNat default).2)] ((x.drop (j + 1)).flatMap eItem)) hT rfl rfl rfl rfl (ev_tmp rfl) (ev_tmp rfl) rfl rfl rfl rfl (ow_cons' (ow_dv rfl) ow_nil rfl) (by decide) (by decide) rfl (le_mid (off := ((j * 4 + 0) + 1)) (n := 1) (j := 1) (mk_pre (sz := 4) (fun _ => rfl) (Nat.le_of_lt hj)) (by omega) (Nat.le_of_ble_eq_true rfl)) (setR_mid (off := ((j * 4 + 0) + 1)) (j := 1) (mk_pre (sz := 4) (fun _ => rfl) (Nat.le_of_lt hj)) (by omega) rfl (Nat.le_of_ble_eq_true rfl)) ?_
    simp only [killT, killB, SV.kill, CV.kill, List.map_cons, List.map_nil, List.any_cons, List.any_nil, List.contains_cons, List.contains_nil, List.nil_append, List.cons_append, Nat.reduceBEq, Bool.or_false, Bool.false_or, Bool.or_true, Bool.true_or, cond_true, cond_false]
    refine ops_nil ?_
    refine then_n ?_
    refine ok_seq ?_
    refine ok_region ?_
    refine o_pure rfl rfl (pu_move (.inl rfl) (ev_tmp rfl)) rfl rfl ?_
    refine o_pure rfl rfl (pu_addR rfl (ev_tmp rfl) (ev_int (inR_lit rfl)) (inR64 (by omega) (by omega))) rfl rfl ?_
    refine o_pure rfl rfl (pu_move (.inr rfl) (ev_tmp rfl)) rfl rfl ?_
    refine ops_nil ?_
    refine then_n ?_
    refine ok_seq ?_
    refine ok_region ?_
    refine o_pure rfl rfl (pu_move (.inl rfl) (ev_tmp rfl)) rfl rfl ?_
    refine o_pure rfl rfl (pu_move (.inl rfl) (ev_tmp rfl)) rfl rfl ?_
    refine o_pure rfl rfl (pu_move (.inl rfl) (ev_tmp rfl)) rfl rfl ?_
    refine o_call rfl rfl rfl Try.call71 (ok_laws_markText (by omega)) (as_cons (ev_tmp rfl) (ag_one ac_dv) as_nil) rfl rfl ?_
    refine o_pure rfl rfl (pu_indexK (i := j) hT rfl rfl rfl (ev_tmp rfl) rfl (ev_tmp rfl) rfl (by show _ < (x.length); omega)) rfl rfl ?_
    refine o_pure rfl rfl (pu_fieldE hT rfl rfl rfl (ev_tmp rfl)) rfl rfl ?_
    refine o_pure rfl rfl (pu_fieldE hT rfl rfl rfl (ev_tmp rfl)) rfl rfl ?_
    refine o_storeE (js := []) (cs := mid ((mkL mkItem cItem (x.take j) k).flatMap eItem) [.int .i64 (k + (wSum cItem (x.take j) : Int)), .int .i64 ((k + (wSum cItem (x.take j) : Int)) + (1)), .str (mText (((k + (wSum cItem (x.take j) : Int)) + (1)) + (1))), fieldsD ((x.getD (j : Int).toNat default).2)] ((x.drop (j + 1)).flatMap eItem)) hT rfl rfl rfl rfl (ev_tmp rfl) (ev_tmp rfl) rfl rfl rfl rfl (ow_cons' (ow_dv rfl) ow_nil rfl) (by decide) (by decide) rfl (le_mid (off := ((j * 4 + 0) + 2)) (n := 1) (j := 2) (mk_pre (sz := 4) (fun _ => rfl) (Nat.le_of_lt hj)) (by omega) (Nat.le_of_ble_eq_true rfl)) (setR_mid (off := ((j * 4 + 0) + 2)) (j := 2) (mk_pre (sz := 4) (fun _ => rfl) (Nat.le_of_lt hj)) (by omega) rfl (Nat.le_of_ble_eq_true rfl)) ?_
    simp only [killT, killB, SV.kill, CV.kill, List.map_cons, List.map_nil, List.any_cons, List.any_nil, List.contains_cons, List.contains_nil, List.nil_append, List.cons_append, Nat.reduceBEq, Bool.or_false, Bool.false_or, Bool.or_true, Bool.true_or, cond_true, cond_false]
    refine ops_nil ?_
    refine then_n ?_
    refine ok_seq ?_
    refine ok_region ?_
    refine o_pure rfl rfl (pu_move (.inl rfl) (ev_tmp rfl)) rfl rfl ?_
    refine o_pure rfl rfl (pu_addR rfl (ev_tmp rfl) (ev_int (inR_lit rfl)) (inR64 (by omega) (by omega))) rfl rfl ?_
    refine o_pure rfl rfl (pu_move (.inr rfl) (ev_tmp rfl)) rfl rfl ?_
    refine ops_nil ?_
    refine then_n ?_
    refine ok_region ?_
    refine o_pure rfl rfl (pu_move (.inl rfl) (ev_tmp rfl)) rfl rfl ?_
    refine o_pure rfl rfl (pu_move (.inl rfl) (ev_tmp rfl)) rfl rfl ?_
    refine o_pure rfl rfl (pu_indexK (i := j) hT rfl rfl rfl (ev_tmp rfl) rfl (ev_tmp rfl) rfl (by show _ < (x.length); omega)) rfl rfl ?_
    refine o_pure rfl rfl (pu_fieldE hT rfl rfl rfl (ev_tmp rfl)) rfl rfl ?_
    refine o_pure rfl rfl (pu_fieldE hT rfl rfl rfl (ev_tmp rfl)) rfl rfl ?_
    refine o_pure rfl rfl (pu_loadE1 hT rfl rfl (ev_tmp rfl) rfl (get_mid (off := ((j * 4 + 3) + 0)) (j := 3) (mk_pre (sz := 4) (fun _ => rfl) (Nat.le_of_lt hj)) (by omega) rfl)) rfl rfl ?_
    refine o_pure rfl rfl (pu_move (.inl rfl) (ev_tmp rfl)) rfl rfl ?_
    refine o_callN (t := 42) (ccs := mid ((mkL mkItem cItem (x.take j) k).flatMap eItem) [.int .i64 (k + (wSum cItem (x.take j) : Int)), .int .i64 ((k + (wSum cItem (x.take j) : Int)) + (1)), .str (mText (((k + (wSum cItem (x.take j) : Int)) + (1)) + (1))), fieldsD (mkL mkField cField ((x.getD (j : Int).toNat default).2) ((((k + (wSum cItem (x.take j) : Int)) + (1)) + (1)) + (1)))] ((x.drop (j + 1)).flatMap eItem)) 5044 rfl rfl rfl Try.call72 (ok_laws_markFieldS (by omega) (by omega)) rfl rfl (get_mid (off := ((j * 4 + 3) + 0)) (j := 3) (mk_pre (sz := 4) (fun _ => rfl) (Nat.le_of_lt hj)) (by omega) rfl) rfl (aw_cons (ev_tmp rfl) (aw_one (awc_key rfl)) (aw_cons (ev_tmp rfl) (aw_one (awc_dv rfl)) aw_nil)) rfl rfl (set_mid (off := ((j * 4 + 3) + 0)) (j := 3) (mk_pre (sz := 4) (fun _ => rfl) (Nat.le_of_lt hj)) (by omega) rfl (Nat.lt_of_lt_of_le (Nat.lt_succ_self _) (Nat.le_of_ble_eq_true rfl))) ?_
    simp only [killT, killB, SV.kill, CV.kill, List.map_cons, List.map_nil, List.any_cons, List.any_nil, List.contains_cons, List.contains_nil, List.nil_append, List.cons_append, Nat.reduceBEq, Bool.or_false, Bool.false_or, Bool.or_true, Bool.true_or, cond_true, cond_false]
    refine o_pure rfl rfl (pu_move (.inr rfl) (ev_tmp rfl)) rfl rfl ?_
    refine ops_nil ?_
    refine blk_n ?_
    refine then_n ?_
    refine ok_region ?_
    refine o_pure rfl rfl (pu_move (.inl rfl) (ev_tmp rfl)) rfl rfl ?_
    refine o_pure rfl rfl (pu_addR rfl (ev_tmp rfl) (ev_int (inR_lit rfl)) (inR64 (by omega) (by omega))) rfl rfl ?_
    refine o_pure rfl rfl (pu_move (.inr rfl) (ev_tmp rfl)) rfl rfl ?_
    refine ops_nil ?_
    refine then_n ?_
    refine ⟨j + 1, ?_, ?_, weak_sub ⟨rfl, (eqSlotI (by omega)), rfl, rfl, trivial⟩ trivial ⟨(congrArg (fun cs => some (some (KC.mk true 150 4 x.length cs))) (mk_close (by omega) (by rfl))), trivial⟩ rfl⟩
    · omega
    · omega
  · skip
    have d1 := of_decide_eq_false c1
    refine ok_exit ?_
    refine then_e ?_
    refine then_e ?_
    refine blk_e rfl ?_
    refine then_n ?_
    refine ok_seq ?_
    refine ok_region ?_
    refine o_pure rfl rfl (pu_move (.inl rfl) (ev_tmp rfl)) rfl rfl ?_
    refine o_pure rfl rfl (pu_move (.inr rfl) (ev_tmp rfl)) rfl rfl ?_
    refine ops_nil ?_
    refine then_n ?_
    refine ok_weak (σ' := ⟨[(4, .one (.dv [] (.int .i64 (k + (wSum cItem (x.take j) : Int)))))], [], [(0, some (kcOf true (itemsD (mkL mkItem cItem x k))))]⟩) (weak_sub ⟨rfl, trivial⟩ trivial ⟨(mk_fin (by omega)), trivial⟩ rfl) ?_
    refine ok_ret ?_
    refine fin1 (res_tmp rfl) ⟨eqI ?_, w1_ok rfl⟩
    have hq := wSum_all cItem x j (by omega); omega
set_option maxRecDepth 100000 in
theorem ok_laws_heldItemS {x y : List (ItemT)} {k : Int} (hy : y = mkL mkItem cItem x k) (h0 : 0 ≤ k) (h1 : k + (wSum cItem x : Int) ≤ 4611686018427387904) : PFn Try.prog 173 [.one (.dv [] (itemsD (y))), .one (.dv [] (.int .i64 (k)))] (.one (.dv [] (.int .i64 (k + (wSum cItem x : Int))))) := by
  refine ⟨fn_intro Try.func173 rfl Try.ntmps173 Try.results173 rfl (fun C => ?_)⟩
  refine ok_fact (x := .tmp 0) (ev_tmp rfl) (fun (f0 : ((y)).length ≤ 9223372036854775807) => ?_)
  refine ok_fact (x := .tmp 1) (ev_tmp rfl) (fun (f1 : -9223372036854775808 ≤ (k) ∧ (k) ≤ 9223372036854775807) => ?_)
  refine ok_seq ?_
  refine ok_region ?_
  refine o_pure rfl rfl (pu_move (.inr rfl) (ev_int (inR_lit rfl))) rfl rfl ?_
  refine ops_nil ?_
  refine then_n ?_
  refine ok_seq ?_
  refine ok_seq ?_
  refine ok_region ?_
  refine o_pure rfl rfl (pu_move (.inr rfl) (ev_int (inR_lit rfl))) rfl rfl ?_
  refine ops_nil ?_
  refine then_n ?_
  refine ok_block ?_
  refine ok_loop (ι := Nat) (fun zz => ⟨[(0, .one (.dv [] (itemsD (y)))), (1, .one (.dv [] (.int .i64 (k + (wSum cItem (x.take zz) : Int))))), (5, .one (.dv [] (.int .i64 ((zz : Int)))))], [], []⟩) (fun zz => zz ≤ x.length) (fun zz => x.length - zz) (0) ?_ (weak_sub ⟨rfl, (eqSlotI (by simp [wSum])), rfl, trivial⟩ trivial trivial rfl) (fun zz hx => ?_)
  · exact Nat.zero_le _
  obtain ⟨j, rfl⟩ : ∃ v, v = zz := ⟨_, rfl⟩
  replace hx : j ≤ x.length := hx
  have hw := fun h => wSum_succ cItem x j h
  have hyl : y.length = x.length := by rw [hy, mkL_len]
  show Ok _ _ _ _ _ (⟨[(0, .one (.dv [] (itemsD (y)))), (1, .one (.dv [] (.int .i64 (k + (wSum cItem (x.take j) : Int))))), (5, .one (.dv [] (.int .i64 ((j : Int)))))], [], []⟩ : St)
  refine ok_seq ?_
  refine ok_seq ?_
  refine ok_region ?_
  refine o_pure rfl rfl (pu_move (.inl rfl) (ev_tmp rfl)) rfl rfl ?_
  refine o_pure rfl rfl (pu_move (.inl rfl) (ev_tmp rfl)) rfl rfl ?_
  refine o_pure rfl rfl (pu_lenV hT rfl rfl (ev_tmp rfl)) rfl rfl ?_
  refine o_pure rfl rfl (pu_lss rfl (ev_tmp rfl) (ev_tmp rfl)) rfl rfl ?_
  refine ops_nil ?_
  refine then_n ?_
  refine ok_cond (ev_tmp rfl) (fun c1 => ?_) (fun c1 => ?_)
  · skip
    have d1 := of_decide_eq_true c1
    have hj : j < x.length := by omega
    obtain ⟨hw1, hw2⟩ := hw hj
    have hc : cItem (x.getD (j : Int).toNat default) = 3 + wSum cField ((x.getD (j : Int).toNat default).2) := rfl
    have he : y.getD (j : Int).toNat default = mkItem (x.getD (j : Int).toNat default) (k + (wSum cItem (x.take j) : Int)) := by rw [hy]; exact mkL_getD hj
    refine ok_skip ?_
    refine then_n ?_
    refine ok_seq ?_
    refine ok_block ?_
    refine ok_seq ?_
    refine ok_seq ?_
    refine ok_region ?_
    refine o_pure rfl rfl (pu_move (.inl rfl) (ev_tmp rfl)) rfl rfl ?_
    refine o_pure rfl rfl (pu_move (.inl rfl) (ev_tmp rfl)) rfl rfl ?_
    refine o_pure rfl rfl (pu_indexD hT rfl rfl rfl (ev_tmp rfl) (ev_tmp rfl) (fun _ => rfl) (by first | omega | (simp only [Bool.and_eq_true, Bool.or_eq_true, Bool.or_eq_false_iff, Bool.and_eq_false_iff, Bool.not_eq_true', Bool.not_eq_false', beq_iff_eq, decide_eq_true_eq, decide_eq_false_iff_not] at hg; omega) | (have hh := of_decide_eq_true (beq_tt hg); omega) | (have hh := of_decide_eq_true (beq_tt (and_r hg)); omega)) (by first | omega | (simp only [Bool.and_eq_true, Bool.or_eq_true, Bool.or_eq_false_iff, Bool.and_eq_false_iff, Bool.not_eq_true', Bool.not_eq_false', beq_iff_eq, decide_eq_true_eq, decide_eq_false_iff_not] at hg; omega) | (have hh := of_decide_eq_true (beq_tt hg); omega) | (have hh := of_decide_eq_true (beq_tt (and_r hg)); omega))) rfl rfl ?_
    refine o_pure rfl rfl (pu_fieldRef hT rfl rfl rfl (ev_tmp rfl)) rfl rfl ?_
    refine o_pure rfl rfl (pu_fieldRef hT rfl rfl rfl (ev_tmp rfl)) rfl rfl ?_
    refine o_pure rfl rfl (pu_loadRef1 hT rfl rfl (ev_tmp rfl) rfl) rfl rfl ?_
    refine o_pure rfl rfl (pu_move (.inl rfl) (ev_tmp rfl)) rfl rfl ?_
    refine o_pure rfl rfl (pu_neq rfl (ev_tmp rfl) (ev_tmp rfl)) rfl rfl ?_
    refine ops_nil ?_
    refine then_n ?_
    refine ok_cond (ev_tmp rfl) (fun c2 => ?_) (fun c2 => ?_)
    · skip
      have d2 := nd_t c2
      refine ok_seq ?_
      refine ok_region ?_
      refine o_pure rfl rfl (pu_move (.inr rfl) (ev_int (inR_lit rfl))) rfl rfl ?_
      refine ops_nil ?_
      refine then_n ?_
      refine ok_ret ?_
      refine then_r ?_
      refine blk_r ?_
      refine then_r ?_
      refine then_r ?_
      refine blk_r ?_
      refine then_r ?_
      refine fin1 (res_tmp rfl) (eqI ?_)
      exfalso; rw [he] at c2; simp [mkItem, sEq] at c2
    · skip
      have d2 := nd_f c2
      refine ok_skip ?_
      refine then_n ?_
      refine ok_seq ?_
      refine ok_region ?_
      refine o_pure rfl rfl (pu_move (.inl rfl) (ev_tmp rfl)) rfl rfl ?_
      refine o_pure rfl rfl (pu_addR rfl (ev_tmp rfl) (ev_int (inR_lit rfl)) (inR64 (by omega) (by omega))) rfl rfl ?_
      refine o_pure rfl rfl (pu_move (.inr rfl) (ev_tmp rfl)) rfl rfl ?_
      refine ops_nil ?_
      refine then_n ?_
      refine ok_seq ?_
      refine ok_seq ?_
      refine ok_region ?_
      refine o_pure rfl rfl (pu_move (.inl rfl) (ev_tmp rfl)) rfl rfl ?_
      refine o_pure rfl rfl (pu_move (.inl rfl) (ev_tmp rfl)) rfl rfl ?_
      refine o_pure rfl rfl (pu_indexD hT rfl rfl rfl (ev_tmp rfl) (ev_tmp rfl) (fun _ => rfl) (by first | omega | (simp only [Bool.and_eq_true, Bool.or_eq_true, Bool.or_eq_false_iff, Bool.and_eq_false_iff, Bool.not_eq_true', Bool.not_eq_false', beq_iff_eq, decide_eq_true_eq, decide_eq_false_iff_not] at hg; omega) | (have hh := of_decide_eq_true (beq_tt hg); omega) | (have hh := of_decide_eq_true (beq_tt (and_r hg)); omega)) (by first | omega | (simp only [Bool.and_eq_true, Bool.or_eq_true, Bool.or_eq_false_iff, Bool.and_eq_false_iff, Bool.not_eq_true', Bool.not_eq_false', beq_iff_eq, decide_eq_true_eq, decide_eq_false_iff_not] at hg; omega) | (have hh := of_decide_eq_true (beq_tt hg); omega) | (have hh := of_decide_eq_true (beq_tt (and_r hg)); omega))) rfl rfl ?_
      refine o_pure rfl rfl (pu_fieldRef hT rfl rfl rfl (ev_tmp rfl)) rfl rfl ?_
      refine o_pure rfl rfl (pu_fieldRef hT rfl rfl rfl (ev_tmp rfl)) rfl rfl ?_
      refine o_pure rfl rfl (pu_loadRef1 hT rfl rfl (ev_tmp rfl) rfl) rfl rfl ?_
      refine o_pure rfl rfl (pu_move (.inl rfl) (ev_tmp rfl)) rfl rfl ?_
      refine o_pure rfl rfl (pu_neq rfl (ev_tmp rfl) (ev_tmp rfl)) rfl rfl ?_
      refine ops_nil ?_
      refine then_n ?_
      refine ok_cond (ev_tmp rfl) (fun c3 => ?_) (fun c3 => ?_)
      · skip
        have d3 := nd_t c3
        refine ok_seq ?_
        refine ok_region ?_
        refine o_pure rfl rfl (pu_move (.inr rfl) (ev_int (inR_lit rfl))) rfl rfl ?_
        refine ops_nil ?_
        refine then_n ?_
        refine ok_ret ?_
        refine then_r ?_
        refine blk_r ?_
        refine then_r ?_
        refine then_r ?_
        refine blk_r ?_
        refine then_r ?_
        refine fin1 (res_tmp rfl) (eqI ?_)
        exfalso; rw [he] at c3; simp [mkItem, sEq] at c3
      · skip
        have d3 := nd_f c3
        refine ok_skip ?_
        refine then_n ?_
        refine ok_seq ?_
        refine ok_region ?_
        refine o_pure rfl rfl (pu_move (.inl rfl) (ev_tmp rfl)) rfl rfl ?_
        refine o_pure rfl rfl (pu_addR rfl (ev_tmp rfl) (ev_int (inR_lit rfl)) (inR64 (by omega) (by omega))) rfl rfl ?_
        refine o_pure rfl rfl (pu_move (.inr rfl) (ev_tmp rfl)) rfl rfl ?_
        refine ops_nil ?_
        refine then_n ?_
        refine ok_seq ?_
        refine ok_seq ?_
        refine ok_regionD (oB := []) (oK := []) (by kernel_rfl) rfl rfl ?_
        refine d_take 0 rfl (by kernel_rfl) rfl rfl (pu_move (.inl rfl) (ev_tmp rfl)) rfl rfl rfl rfl ?_
        refine d_take 1 rfl (by kernel_rfl) rfl rfl (pu_move (.inl rfl) (ev_tmp rfl)) rfl rfl rfl rfl ?_
        refine d_take 2 rfl (by kernel_rfl) rfl rfl (pu_indexD hT rfl rfl rfl (ev_tmp rfl) (ev_tmp rfl) (fun _ => rfl) (by first | omega | (simp only [Bool.and_eq_true, Bool.or_eq_true, Bool.or_eq_false_iff, Bool.and_eq_false_iff, Bool.not_eq_true', Bool.not_eq_false', beq_iff_eq, decide_eq_true_eq, decide_eq_false_iff_not] at hg; omega) | (have hh := of_decide_eq_true (beq_tt hg); omega) | (have hh := of_decide_eq_true (beq_tt (and_r hg)); omega)) (by first | omega | (simp only [Bool.and_eq_true, Bool.or_eq_true, Bool.or_eq_false_iff, Bool.and_eq_false_iff, Bool.not_eq_true', Bool.not_eq_false', beq_iff_eq, decide_eq_true_eq, decide_eq_false_iff_not] at hg; omega) | (have hh := of_decide_eq_true (beq_tt hg); omega) | (have hh := of_decide_eq_true (beq_tt (and_r hg)); omega))) rfl rfl rfl rfl ?_
        refine d_take 3 rfl (by kernel_rfl) rfl rfl (pu_fieldRef hT rfl rfl rfl (ev_tmp rfl)) rfl rfl rfl rfl ?_
        refine d_take 4 rfl (by kernel_rfl) rfl rfl (pu_fieldRef hT rfl rfl rfl (ev_tmp rfl)) rfl rfl rfl rfl ?_
        refine d_take 5 rfl (by kernel_rfl) rfl rfl (pu_loadRef1 hT rfl rfl (ev_tmp rfl) rfl) rfl rfl rfl rfl ?_
        refine d_take 6 rfl (by kernel_rfl) rfl rfl (pu_move (.inl rfl) (ev_tmp rfl)) rfl rfl rfl rfl ?_
        refine d_call 7 rfl (by kernel_rfl) rfl rfl rfl Try.call71 (ok_laws_markText (by omega)) (as_cons (ev_tmp rfl) (ag_one ac_dv) as_nil) rfl rfl rfl rfl ?_
        refine d_take 8 rfl (by kernel_rfl) rfl rfl (pu_sne rfl (ev_tmp rfl) (ev_tmp rfl)) rfl rfl rfl rfl ?_
        refine d_done (by kernel_rfl) ?_
        refine then_n ?_
        refine ok_cond (ev_tmp rfl) (fun c4 => ?_) (fun c4 => ?_)
        · skip
          refine ok_seq ?_
          refine ok_region ?_
          refine o_pure rfl rfl (pu_move (.inr rfl) (ev_int (inR_lit rfl))) rfl rfl ?_
          refine ops_nil ?_
          refine then_n ?_
          refine ok_ret ?_
          refine then_r ?_
          refine blk_r ?_
          refine then_r ?_
          refine then_r ?_
          refine blk_r ?_
          refine then_r ?_
          refine fin1 (res_tmp rfl) (eqI ?_)
          exfalso; rw [he] at c4; simp [mkItem, sEq] at c4
        · skip
          refine ok_skip ?_
          refine then_n ?_
          refine ok_seq ?_
          refine ok_region ?_
          refine o_pure rfl rfl (pu_move (.inl rfl) (ev_tmp rfl)) rfl rfl ?_
          refine o_pure rfl rfl (pu_addR rfl (ev_tmp rfl) (ev_int (inR_lit rfl)) (inR64 (by omega) (by omega))) rfl rfl ?_
          refine o_pure rfl rfl (pu_move (.inr rfl) (ev_tmp rfl)) rfl rfl ?_
          refine ops_nil ?_
          refine then_n ?_
          refine ok_seq ?_
          refine ok_region ?_
          refine o_pure rfl rfl (pu_move (.inl rfl) (ev_tmp rfl)) rfl rfl ?_
          refine o_pure rfl rfl (pu_move (.inl rfl) (ev_tmp rfl)) rfl rfl ?_
          refine o_pure rfl rfl (pu_indexD hT rfl rfl rfl (ev_tmp rfl) (ev_tmp rfl) (fun _ => rfl) (by first | omega | (simp only [Bool.and_eq_true, Bool.or_eq_true, Bool.or_eq_false_iff, Bool.and_eq_false_iff, Bool.not_eq_true', Bool.not_eq_false', beq_iff_eq, decide_eq_true_eq, decide_eq_false_iff_not] at hg; omega) | (have hh := of_decide_eq_true (beq_tt hg); omega) | (have hh := of_decide_eq_true (beq_tt (and_r hg)); omega)) (by first | omega | (simp only [Bool.and_eq_true, Bool.or_eq_true, Bool.or_eq_false_iff, Bool.and_eq_false_iff, Bool.not_eq_true', Bool.not_eq_false', beq_iff_eq, decide_eq_true_eq, decide_eq_false_iff_not] at hg; omega) | (have hh := of_decide_eq_true (beq_tt hg); omega) | (have hh := of_decide_eq_true (beq_tt (and_r hg)); omega))) rfl rfl ?_
          refine o_pure rfl rfl (pu_fieldRef hT rfl rfl rfl (ev_tmp rfl)) rfl rfl ?_
          refine o_pure rfl rfl (pu_fieldRef hT rfl rfl rfl (ev_tmp rfl)) rfl rfl ?_
          refine o_pure rfl rfl (pu_loadRef1 hT rfl rfl (ev_tmp rfl) rfl) rfl rfl ?_
          refine o_pure rfl rfl (pu_move (.inl rfl) (ev_tmp rfl)) rfl rfl ?_
          refine o_call rfl rfl rfl Try.call81 (ok_laws_heldFieldS (x := (x.getD (j : Int).toNat default).2) (by rw [he]; rfl) (by omega) (by omega)) (as_cons (ev_tmp rfl) (ag_one ac_dv) (as_cons (ev_tmp rfl) (ag_one ac_dv) as_nil)) rfl rfl ?_
          refine o_pure rfl rfl (pu_move (.inr rfl) (ev_tmp rfl)) rfl rfl ?_
          refine ops_nil ?_
          refine then_n ?_
          refine ok_seq ?_
          refine ok_region ?_
          refine o_pure rfl rfl (pu_move (.inl rfl) (ev_tmp rfl)) rfl rfl ?_
          refine o_pure rfl rfl (pu_lss rfl (ev_tmp rfl) (ev_int (inR_lit rfl))) rfl rfl ?_
          refine ops_nil ?_
          refine then_n ?_
          refine ok_cond (ev_tmp rfl) (fun c5 => ?_) (fun c5 => ?_)
          · skip
            have d5 := of_decide_eq_true c5
            refine ok_seq ?_
            refine ok_region ?_
            refine o_pure rfl rfl (pu_move (.inr rfl) (ev_int (inR_lit rfl))) rfl rfl ?_
            refine ops_nil ?_
            refine then_n ?_
            refine ok_ret ?_
            refine blk_r ?_
            refine then_r ?_
            refine then_r ?_
            refine blk_r ?_
            refine then_r ?_
            refine fin1 (res_tmp rfl) (eqI ?_)
            exfalso; omega
          · skip
            have d5 := of_decide_eq_false c5
            refine ok_skip ?_
            refine blk_n ?_
            refine then_n ?_
            refine ok_region ?_
            refine o_pure rfl rfl (pu_move (.inl rfl) (ev_tmp rfl)) rfl rfl ?_
            refine o_pure rfl rfl (pu_addR rfl (ev_tmp rfl) (ev_int (inR_lit rfl)) (inR64 (by omega) (by omega))) rfl rfl ?_
            refine o_pure rfl rfl (pu_move (.inr rfl) (ev_tmp rfl)) rfl rfl ?_
            refine ops_nil ?_
            refine then_n ?_
            refine ⟨j + 1, ?_, ?_, weak_sub ⟨rfl, (eqSlotI (by omega)), rfl, trivial⟩ trivial trivial rfl⟩
            · omega
            · omega
  · skip
    have d1 := of_decide_eq_false c1
    refine ok_exit ?_
    refine then_e ?_
    refine then_e ?_
    refine blk_e rfl ?_
    refine then_n ?_
    refine ok_seq ?_
    refine ok_region ?_
    refine o_pure rfl rfl (pu_move (.inl rfl) (ev_tmp rfl)) rfl rfl ?_
    refine o_pure rfl rfl (pu_move (.inr rfl) (ev_tmp rfl)) rfl rfl ?_
    refine ops_nil ?_
    refine then_n ?_
    refine ok_ret ?_
    refine fin1 (res_tmp rfl) (eqI ?_)
    have hq := wSum_all cItem x j (by omega); omega
end Go.Proofs.Ytlogahkchenpdaa

namespace Go.Proofs.Ytlogahkchenpdaa
open Go.RowKit
open Go.Proofs
set_option linter.unusedVariables false
set_option linter.unusedSimpArgs false
def mkStore (x : StoreT) (k : Int) : StoreT := (mText (k), mkL mkItem cItem (x.2.1) ((k) + (1)), ((k) + (1)) + (wSum cItem (x.2.1) : Int))
def cStore (x : StoreT) : Nat := 2 + wSum cItem (x.2.1)
theorem cStore_le (x : StoreT) : cStore x ≤ 8 * (1 + wStore x) := by
  have h1 := wSum_bound cItem_le (x.2.1)
  simp only [cStore, wStore]
  omega
set_option maxRecDepth 100000 in
theorem ok_laws_markStoreS {x : List (StoreT)} {k : Int} (h0 : 0 ≤ k) (h1 : k + (wSum cStore x : Int) ≤ 4611686018427387904) : WFn Try.prog 138 [.one (.key 0), .one (.dv [] (.int .i64 (k)))] (.one (.dv [] (.int .i64 (k + (wSum cStore x : Int))))) [(0, kcOf true (.sl 82 3 (x.length) (x.flatMap eStore)))] [(0, kcOf true (storesD (mkL mkStore cStore x k)))] := by
  refine ⟨fn_intro Try.func138 rfl Try.ntmps138 Try.results138 rfl (fun C => ?_)⟩
  have hln : x.length ≤ wSum cStore x := wSum_ge (fun _ => by simp only [cStore]; omega) x
  refine ok_fact (x := .tmp 1) (ev_tmp rfl) (fun (f1 : -9223372036854775808 ≤ (k) ∧ (k) ≤ 9223372036854775807) => ?_)
  refine ok_seq ?_
  refine ok_region ?_
  refine o_pure rfl rfl (pu_move (.inr rfl) (ev_int (inR_lit rfl))) rfl rfl ?_
  refine ops_nil ?_
  refine then_n ?_
  refine ok_seq ?_
  refine ok_seq ?_
  refine ok_region ?_
  refine o_pure rfl rfl (pu_move (.inr rfl) (ev_int (inR_lit rfl))) rfl rfl ?_
  refine ops_nil ?_
  refine then_n ?_
  refine ok_block ?_
  refine ok_loop (ι := Nat) (fun zz => ⟨[(0, .one (.key 0)), (1, .one (.dv [] (.int .i64 (k + (wSum cStore (x.take zz) : Int))))), (4, .one (.dv [] (.int .i64 (0)))), (5, .one (.dv [] (.int .i64 ((zz : Int)))))], [], [(0, some ⟨true, 82, 3, x.length, (mkL mkStore cStore (x.take zz) k).flatMap eStore ++ (x.drop zz).flatMap eStore⟩)]⟩) (fun zz => zz ≤ x.length) (fun zz => x.length - zz) (0) ?_ (weak_sub ⟨rfl, (eqSlotI (by simp [wSum])), rfl, rfl, trivial⟩ trivial ⟨rfl, trivial⟩ rfl) (fun zz hx => ?_)
  · exact Nat.zero_le _
  obtain ⟨j, rfl⟩ : ∃ v, v = zz := ⟨_, rfl⟩
  replace hx : j ≤ x.length := hx
  have hw := fun h => wSum_succ cStore x j h
  show Ok _ _ _ _ _ (⟨[(0, .one (.key 0)), (1, .one (.dv [] (.int .i64 (k + (wSum cStore (x.take j) : Int))))), (4, .one (.dv [] (.int .i64 (0)))), (5, .one (.dv [] (.int .i64 ((j : Int)))))], [], [(0, some ⟨true, 82, 3, x.length, (mkL mkStore cStore (x.take j) k).flatMap eStore ++ (x.drop j).flatMap eStore⟩)]⟩ : St)
  refine ok_seq ?_
  refine ok_seq ?_
  refine ok_region ?_
  refine o_pure rfl rfl (pu_move (.inl rfl) (ev_tmp rfl)) rfl rfl ?_
  refine o_pure rfl rfl (pu_move (.inl rfl) (ev_tmp rfl)) rfl rfl ?_
  refine o_pure rfl rfl (pu_lenKn (n := (x.length)) hT rfl rfl (ev_tmp rfl) rfl rfl) rfl rfl ?_
  refine o_pure rfl rfl (pu_lss rfl (ev_tmp rfl) (ev_tmp rfl)) rfl rfl ?_
  refine ops_nil ?_
  refine then_n ?_
  refine ok_cond (ev_tmp rfl) (fun c1 => ?_) (fun c1 => ?_)
  · skip
    have d1 := of_decide_eq_true c1
    have hj : j < x.length := by omega
    obtain ⟨hw1, hw2⟩ := hw hj
    have hc : cStore (x.getD (j : Int).toNat default) = 2 + wSum cItem ((x.getD (j : Int).toNat default).2.1) := rfl
    refine ok_kcs (k := 0) (cs' := mid ((mkL mkStore cStore (x.take j) k).flatMap eStore) [.str ((x.getD (j : Int).toNat default).1), itemsD ((x.getD (j : Int).toNat default).2.1), .int .i64 ((x.getD (j : Int).toNat default).2.2)] ((x.drop (j + 1)).flatMap eStore)) rfl (mk_open hj) ?_
    refine ok_skip ?_
    refine then_n ?_
    refine ok_seq ?_
    refine ok_block ?_
    refine ok_seq ?_
    refine ok_region ?_
    refine o_pure rfl rfl (pu_move (.inl rfl) (ev_tmp rfl)) rfl rfl ?_
    refine o_pure rfl rfl (pu_move (.inl rfl) (ev_tmp rfl)) rfl rfl ?_
    refine o_pure rfl rfl (pu_move (.inl rfl) (ev_tmp rfl)) rfl rfl ?_
    refine o_call rfl rfl rfl Try.call71 (ok_laws_markText (by omega)) (as_cons (ev_tmp rfl) (ag_one ac_dv) as_nil) rfl rfl ?_
    refine o_pure rfl rfl (pu_indexK (i := j) hT rfl rfl rfl (ev_tmp rfl) rfl (ev_tmp rfl) rfl (by show _ < (x.length); omega)) rfl rfl ?_
    refine o_pure rfl rfl (pu_fieldE hT rfl rfl rfl (ev_tmp rfl)) rfl rfl ?_
    refine o_storeE (js := []) (cs := mid ((mkL mkStore cStore (x.take j) k).flatMap eStore) [.str (mText (k + (wSum cStore (x.take j) : Int))), itemsD ((x.getD (j : Int).toNat default).2.1), .int .i64 ((x.getD (j : Int).toNat default).2.2)] ((x.drop (j + 1)).flatMap eStore)) hT rfl rfl rfl rfl (ev_tmp rfl) (ev_tmp rfl) rfl rfl rfl rfl (ow_cons' (ow_dv rfl) ow_nil rfl) (by decide) (by decide) rfl (le_mid (off := (j * 3 + 0)) (n := 1) (j := 0) (mk_pre (sz := 3) (fun _ => rfl) (Nat.le_of_lt hj)) (by omega) (Nat.le_of_ble_eq_true rfl)) (setR_mid (off := (j * 3 + 0)) (j := 0) (mk_pre (sz := 3) (fun _ => rfl) (Nat.le_of_lt hj)) (by omega) rfl (Nat.le_of_ble_eq_true rfl)) ?_
    simp only [killT, killB, SV.kill, CV.kill, List.map_cons, List.map_nil, List.any_cons, List.any_nil, List.contains_cons, List.contains_nil, List.nil_append, List.cons_append, Nat.reduceBEq, Bool.or_false, Bool.false_or, Bool.or_true, Bool.true_or, cond_true, cond_false]
    refine ops_nil ?_
    refine then_n ?_
    refine ok_seq ?_
    refine ok_region ?_
    refine o_pure rfl rfl (pu_move (.inl rfl) (ev_tmp rfl)) rfl rfl ?_
    refine o_pure rfl rfl (pu_addR rfl (ev_tmp rfl) (ev_int (inR_lit rfl)) (inR64 (by omega) (by omega))) rfl rfl ?_
    refine o_pure rfl rfl (pu_move (.inr rfl) (ev_tmp rfl)) rfl rfl ?_
    refine ops_nil ?_
    refine then_n ?_
    refine ok_seq ?_
    refine ok_region ?_
    refine o_pure rfl rfl (pu_move (.inl rfl) (ev_tmp rfl)) rfl rfl ?_
    refine o_pure rfl rfl (pu_move (.inl rfl) (ev_tmp rfl)) rfl rfl ?_
    refine o_pure rfl rfl (pu_indexK (i := j) hT rfl rfl rfl (ev_tmp rfl) rfl (ev_tmp rfl) rfl (by show _ < (x.length); omega)) rfl rfl ?_
    refine o_pure rfl rfl (pu_fieldE hT rfl rfl rfl (ev_tmp rfl)) rfl rfl ?_
    refine o_pure rfl rfl (pu_loadE1 hT rfl rfl (ev_tmp rfl) rfl (get_mid (off := (j * 3 + 1)) (j := 1) (mk_pre (sz := 3) (fun _ => rfl) (Nat.le_of_lt hj)) (by omega) rfl)) rfl rfl ?_
    refine o_pure rfl rfl (pu_move (.inl rfl) (ev_tmp rfl)) rfl rfl ?_
    refine o_callN (t := 24) (ccs := mid ((mkL mkStore cStore (x.take j) k).flatMap eStore) [.str (mText (k + (wSum cStore (x.take j) : Int))), itemsD (mkL mkItem cItem ((x.getD (j : Int).toNat default).2.1) ((k + (wSum cStore (x.take j) : Int)) + (1))), .int .i64 ((x.getD (j : Int).toNat default).2.2)] ((x.drop (j + 1)).flatMap eStore)) 5026 rfl rfl rfl Try.call172 (ok_laws_markItemS (by omega) (by omega)) rfl rfl (get_mid (off := (j * 3 + 1)) (j := 1) (mk_pre (sz := 3) (fun _ => rfl) (Nat.le_of_lt hj)) (by omega) rfl) rfl (aw_cons (ev_tmp rfl) (aw_one (awc_key rfl)) (aw_cons (ev_tmp rfl) (aw_one (awc_dv rfl)) aw_nil)) rfl rfl (set_mid (off := (j * 3 + 1)) (j := 1) (mk_pre (sz := 3) (fun _ => rfl) (Nat.le_of_lt hj)) (by omega) rfl (Nat.lt_of_lt_of_le (Nat.lt_succ_self _) (Nat.le_of_ble_eq_true rfl))) ?_
    simp only [killT, killB, SV.kill, CV.kill, List.map_cons, List.map_nil, List.any_cons, List.any_nil, List.contains_cons, List.contains_nil, List.nil_append, List.cons_append, Nat.reduceBEq, Bool.or_false, Bool.false_or, Bool.or_true, Bool.true_or, cond_true, cond_false]
    refine o_pure rfl rfl (pu_move (.inr rfl) (ev_tmp rfl)) rfl rfl ?_
    refine ops_nil ?_
    refine then_n ?_
    refine ok_seq ?_
    refine ok_region ?_
    refine o_pure rfl rfl (pu_move (.inl rfl) (ev_tmp rfl)) rfl rfl ?_
    refine o_pure rfl rfl (pu_move (.inl rfl) (ev_tmp rfl)) rfl rfl ?_
    refine o_pure rfl rfl (pu_move (.inl rfl) (ev_tmp rfl)) rfl rfl ?_
    refine o_pure rfl rfl (pu_indexK (i := j) hT rfl rfl rfl (ev_tmp rfl) rfl (ev_tmp rfl) rfl (by show _ < (x.length); omega)) rfl rfl ?_
    refine o_pure rfl rfl (pu_fieldE hT rfl rfl rfl (ev_tmp rfl)) rfl rfl ?_
    refine o_storeE (js := []) (cs := mid ((mkL mkStore cStore (x.take j) k).flatMap eStore) [.str (mText (k + (wSum cStore (x.take j) : Int))), itemsD (mkL mkItem cItem ((x.getD (j : Int).toNat default).2.1) ((k + (wSum cStore (x.take j) : Int)) + (1))), .int .i64 (((k + (wSum cStore (x.take j) : Int)) + (1)) + (wSum cItem ((x.getD (j : Int).toNat default).2.1) : Int))] ((x.drop (j + 1)).flatMap eStore)) hT rfl rfl rfl rfl (ev_tmp rfl) (ev_tmp rfl) rfl rfl rfl rfl (ow_cons' (ow_dv rfl) ow_nil rfl) (by decide) (by decide) rfl (le_mid (off := (j * 3 + 2)) (n := 1) (j := 2) (mk_pre (sz := 3) (fun _ => rfl) (Nat.le_of_lt hj)) (by omega) (Nat.le_of_ble_eq_true rfl)) (setR_mid (off := (j * 3 + 2)) (j := 2) (mk_pre (sz := 3) (fun _ => rfl) (Nat.le_of_lt hj)) (by omega) rfl (Nat.le_of_ble_eq_true rfl)) ?_
    simp only [killT, killB, SV.kill, CV.kill, List.map_cons, List.map_nil, List.any_cons, List.any_nil, List.contains_cons, List.contains_nil, List.nil_append, List.cons_append, Nat.reduceBEq, Bool.or_false, Bool.false_or, Bool.or_true, Bool.true_or, cond_true, cond_false]
    refine ops_nil ?_
    refine then_n ?_
    refine ok_region ?_
    refine o_pure rfl rfl (pu_move (.inl rfl) (ev_tmp rfl)) rfl rfl ?_
    refine o_pure rfl rfl (pu_addR rfl (ev_tmp rfl) (ev_int (inR_lit rfl)) (inR64 (by omega) (by omega))) rfl rfl ?_
    refine o_pure rfl rfl (pu_move (.inr rfl) (ev_tmp rfl)) rfl rfl ?_
    refine ops_nil ?_
    refine blk_n ?_
    refine then_n ?_
    refine ok_region ?_
    refine o_pure rfl rfl (pu_move (.inl rfl) (ev_tmp rfl)) rfl rfl ?_
    refine o_pure rfl rfl (pu_addR rfl (ev_tmp rfl) (ev_int (inR_lit rfl)) (inR64 (by omega) (by omega))) rfl rfl ?_
    refine o_pure rfl rfl (pu_move (.inr rfl) (ev_tmp rfl)) rfl rfl ?_
    refine ops_nil ?_
    refine then_n ?_
    refine ⟨j + 1, ?_, ?_, weak_sub ⟨rfl, (eqSlotI (by omega)), rfl, rfl, trivial⟩ trivial ⟨(congrArg (fun cs => some (some (KC.mk true 82 3 x.length cs))) (mk_close (by omega) (by rfl))), trivial⟩ rfl⟩
    · omega
    · omega
  · skip
    have d1 := of_decide_eq_false c1
    refine ok_exit ?_
    refine then_e ?_
    refine then_e ?_
    refine blk_e rfl ?_
    refine then_n ?_
    refine ok_seq ?_
    refine ok_region ?_
    refine o_pure rfl rfl (pu_move (.inl rfl) (ev_tmp rfl)) rfl rfl ?_
    refine o_pure rfl rfl (pu_move (.inr rfl) (ev_tmp rfl)) rfl rfl ?_
    refine ops_nil ?_
    refine then_n ?_
    refine ok_weak (σ' := ⟨[(4, .one (.dv [] (.int .i64 (k + (wSum cStore (x.take j) : Int)))))], [], [(0, some (kcOf true (storesD (mkL mkStore cStore x k))))]⟩) (weak_sub ⟨rfl, trivial⟩ trivial ⟨(mk_fin (by omega)), trivial⟩ rfl) ?_
    refine ok_ret ?_
    refine fin1 (res_tmp rfl) ⟨eqI ?_, w1_ok rfl⟩
    have hq := wSum_all cStore x j (by omega); omega
set_option maxRecDepth 100000 in
theorem ok_laws_heldStoreS {x y : List (StoreT)} {k : Int} (hy : y = mkL mkStore cStore x k) (h0 : 0 ≤ k) (h1 : k + (wSum cStore x : Int) ≤ 4611686018427387904) : PFn Try.prog 140 [.one (.dv [] (storesD (y))), .one (.dv [] (.int .i64 (k)))] (.one (.dv [] (.int .i64 (k + (wSum cStore x : Int))))) := by
  refine ⟨fn_intro Try.func140 rfl Try.ntmps140 Try.results140 rfl (fun C => ?_)⟩
  refine ok_fact (x := .tmp 0) (ev_tmp rfl) (fun (f0 : ((y)).length ≤ 9223372036854775807) => ?_)
  refine ok_fact (x := .tmp 1) (ev_tmp rfl) (fun (f1 : -9223372036854775808 ≤ (k) ∧ (k) ≤ 9223372036854775807) => ?_)
  refine ok_seq ?_
  refine ok_region ?_
  refine o_pure rfl rfl (pu_move (.inr rfl) (ev_int (inR_lit rfl))) rfl rfl ?_
  refine ops_nil ?_
  refine then_n ?_
  refine ok_seq ?_
  refine ok_seq ?_
  refine ok_region ?_
  refine o_pure rfl rfl (pu_move (.inr rfl) (ev_int (inR_lit rfl))) rfl rfl ?_
  refine ops_nil ?_
  refine then_n ?_
  refine ok_block ?_
  refine ok_loop (ι := Nat) (fun zz => ⟨[(0, .one (.dv [] (storesD (y)))), (1, .one (.dv [] (.int .i64 (k + (wSum cStore (x.take zz) : Int))))), (5, .one (.dv [] (.int .i64 ((zz : Int)))))], [], []⟩) (fun zz => zz ≤ x.length) (fun zz => x.length - zz) (0) ?_ (weak_sub ⟨rfl, (eqSlotI (by simp [wSum])), rfl, trivial⟩ trivial trivial rfl) (fun zz hx => ?_)
  · exact Nat.zero_le _
  obtain ⟨j, rfl⟩ : ∃ v, v = zz := ⟨_, rfl⟩
  replace hx : j ≤ x.length := hx
  have hw := fun h => wSum_succ cStore x j h
  have hyl : y.length = x.length := by rw [hy, mkL_len]
  show Ok _ _ _ _ _ (⟨[(0, .one (.dv [] (storesD (y)))), (1, .one (.dv [] (.int .i64 (k + (wSum cStore (x.take j) : Int))))), (5, .one (.dv [] (.int .i64 ((j : Int)))))], [], []⟩ : St)
  refine ok_seq ?_
  refine ok_seq ?_
  refine ok_region ?_
  refine o_pure rfl rfl (pu_move (.inl rfl) (ev_tmp rfl)) rfl rfl ?_
  refine o_pure rfl rfl (pu_move (.inl rfl) (ev_tmp rfl)) rfl rfl ?_
  refine o_pure rfl rfl (pu_lenV hT rfl rfl (ev_tmp rfl)) rfl rfl ?_
  refine o_pure rfl rfl (pu_lss rfl (ev_tmp rfl) (ev_tmp rfl)) rfl rfl ?_
  refine ops_nil ?_
  refine then_n ?_
  refine ok_cond (ev_tmp rfl) (fun c1 => ?_) (fun c1 => ?_)
  · skip
    have d1 := of_decide_eq_true c1
    have hj : j < x.length := by omega
    obtain ⟨hw1, hw2⟩ := hw hj
    have hc : cStore (x.getD (j : Int).toNat default) = 2 + wSum cItem ((x.getD (j : Int).toNat default).2.1) := rfl
    have he : y.getD (j : Int).toNat default = mkStore (x.getD (j : Int).toNat default) (k + (wSum cStore (x.take j) : Int)) := by rw [hy]; exact mkL_getD hj
    refine ok_skip ?_
    refine then_n ?_
    refine ok_seq ?_
    refine ok_block ?_
    refine ok_seq ?_
    refine ok_seq ?_
    refine ok_regionD (oB := []) (oK := []) (by kernel_rfl) rfl rfl ?_
    refine d_take 0 rfl (by kernel_rfl) rfl rfl (pu_move (.inl rfl) (ev_tmp rfl)) rfl rfl rfl rfl ?_
    refine d_take 1 rfl (by kernel_rfl) rfl rfl (pu_move (.inl rfl) (ev_tmp rfl)) rfl rfl rfl rfl ?_
    refine d_take 2 rfl (by kernel_rfl) rfl rfl (pu_indexD hT rfl rfl rfl (ev_tmp rfl) (ev_tmp rfl) (fun _ => rfl) (by first | omega | (simp only [Bool.and_eq_true, Bool.or_eq_true, Bool.or_eq_false_iff, Bool.and_eq_false_iff, Bool.not_eq_true', Bool.not_eq_false', beq_iff_eq, decide_eq_true_eq, decide_eq_false_iff_not] at hg; omega) | (have hh := of_decide_eq_true (beq_tt hg); omega) | (have hh := of_decide_eq_true (beq_tt (and_r hg)); omega)) (by first | omega | (simp only [Bool.and_eq_true, Bool.or_eq_true, Bool.or_eq_false_iff, Bool.and_eq_false_iff, Bool.not_eq_true', Bool.not_eq_false', beq_iff_eq, decide_eq_true_eq, decide_eq_false_iff_not] at hg; omega) | (have hh := of_decide_eq_true (beq_tt hg); omega) | (have hh := of_decide_eq_true (beq_tt (and_r hg)); omega))) rfl rfl rfl rfl ?_
    refine d_take 3 rfl (by kernel_rfl) rfl rfl (pu_fieldRef hT rfl rfl rfl (ev_tmp rfl)) rfl rfl rfl rfl ?_
    refine d_take 4 rfl (by kernel_rfl) rfl rfl (pu_loadRef1 hT rfl rfl (ev_tmp rfl) rfl) rfl rfl rfl rfl ?_
    refine d_take 5 rfl (by kernel_rfl) rfl rfl (pu_move (.inl rfl) (ev_tmp rfl)) rfl rfl rfl rfl ?_
    refine d_call 6 rfl (by kernel_rfl) rfl rfl rfl Try.call71 (ok_laws_markText (by omega)) (as_cons (ev_tmp rfl) (ag_one ac_dv) as_nil) rfl rfl rfl rfl ?_
    refine d_take 7 rfl (by kernel_rfl) rfl rfl (pu_sne rfl (ev_tmp rfl) (ev_tmp rfl)) rfl rfl rfl rfl ?_
    refine d_done (by kernel_rfl) ?_
    refine then_n ?_
    refine ok_cond (ev_tmp rfl) (fun c2 => ?_) (fun c2 => ?_)
    · skip
      refine ok_seq ?_
      refine ok_region ?_
      refine o_pure rfl rfl (pu_move (.inr rfl) (ev_int (inR_lit rfl))) rfl rfl ?_
      refine ops_nil ?_
      refine then_n ?_
      refine ok_ret ?_
      refine then_r ?_
      refine blk_r ?_
      refine then_r ?_
      refine then_r ?_
      refine blk_r ?_
      refine then_r ?_
      refine fin1 (res_tmp rfl) (eqI ?_)
      exfalso; rw [he] at c2; simp [mkStore, sEq] at c2
    · skip
      refine ok_skip ?_
      refine then_n ?_
      refine ok_seq ?_
      refine ok_region ?_
      refine o_pure rfl rfl (pu_move (.inl rfl) (ev_tmp rfl)) rfl rfl ?_
      refine o_pure rfl rfl (pu_addR rfl (ev_tmp rfl) (ev_int (inR_lit rfl)) (inR64 (by omega) (by omega))) rfl rfl ?_
      refine o_pure rfl rfl (pu_move (.inr rfl) (ev_tmp rfl)) rfl rfl ?_
      refine ops_nil ?_
      refine then_n ?_
      refine ok_seq ?_
      refine ok_region ?_
      refine o_pure rfl rfl (pu_move (.inl rfl) (ev_tmp rfl)) rfl rfl ?_
      refine o_pure rfl rfl (pu_move (.inl rfl) (ev_tmp rfl)) rfl rfl ?_
      refine o_pure rfl rfl (pu_indexD hT rfl rfl rfl (ev_tmp rfl) (ev_tmp rfl) (fun _ => rfl) (by first | omega | (simp only [Bool.and_eq_true, Bool.or_eq_true, Bool.or_eq_false_iff, Bool.and_eq_false_iff, Bool.not_eq_true', Bool.not_eq_false', beq_iff_eq, decide_eq_true_eq, decide_eq_false_iff_not] at hg; omega) | (have hh := of_decide_eq_true (beq_tt hg); omega) | (have hh := of_decide_eq_true (beq_tt (and_r hg)); omega)) (by first | omega | (simp only [Bool.and_eq_true, Bool.or_eq_true, Bool.or_eq_false_iff, Bool.and_eq_false_iff, Bool.not_eq_true', Bool.not_eq_false', beq_iff_eq, decide_eq_true_eq, decide_eq_false_iff_not] at hg; omega) | (have hh := of_decide_eq_true (beq_tt hg); omega) | (have hh := of_decide_eq_true (beq_tt (and_r hg)); omega))) rfl rfl ?_
      refine o_pure rfl rfl (pu_fieldRef hT rfl rfl rfl (ev_tmp rfl)) rfl rfl ?_
      refine o_pure rfl rfl (pu_loadRef1 hT rfl rfl (ev_tmp rfl) rfl) rfl rfl ?_
      refine o_pure rfl rfl (pu_move (.inl rfl) (ev_tmp rfl)) rfl rfl ?_
      refine o_call rfl rfl rfl Try.call173 (ok_laws_heldItemS (x := (x.getD (j : Int).toNat default).2.1) (by rw [he]; rfl) (by omega) (by omega)) (as_cons (ev_tmp rfl) (ag_one ac_dv) (as_cons (ev_tmp rfl) (ag_one ac_dv) as_nil)) rfl rfl ?_
      refine o_pure rfl rfl (pu_move (.inr rfl) (ev_tmp rfl)) rfl rfl ?_
      refine ops_nil ?_
      refine then_n ?_
      refine ok_seq ?_
      refine ok_seq ?_
      refine ok_region ?_
      refine o_pure rfl rfl (pu_move (.inl rfl) (ev_tmp rfl)) rfl rfl ?_
      refine o_pure rfl rfl (pu_lss rfl (ev_tmp rfl) (ev_int (inR_lit rfl))) rfl rfl ?_
      refine ops_nil ?_
      refine then_n ?_
      refine ok_cond (ev_tmp rfl) (fun c3 => ?_) (fun c3 => ?_)
      · skip
        have d3 := of_decide_eq_true c3
        refine ok_seq ?_
        refine ok_region ?_
        refine o_pure rfl rfl (pu_move (.inr rfl) (ev_int (inR_lit rfl))) rfl rfl ?_
        refine ops_nil ?_
        refine then_n ?_
        refine ok_ret ?_
        refine then_r ?_
        refine blk_r ?_
        refine then_r ?_
        refine then_r ?_
        refine blk_r ?_
        refine then_r ?_
        refine fin1 (res_tmp rfl) (eqI ?_)
        exfalso; omega
      · skip
        have d3 := of_decide_eq_false c3
        refine ok_skip ?_
        refine then_n ?_
        refine ok_seq ?_
        refine ok_seq ?_
        refine ok_region ?_
        refine o_pure rfl rfl (pu_move (.inl rfl) (ev_tmp rfl)) rfl rfl ?_
        refine o_pure rfl rfl (pu_move (.inl rfl) (ev_tmp rfl)) rfl rfl ?_
        refine o_pure rfl rfl (pu_indexD hT rfl rfl rfl (ev_tmp rfl) (ev_tmp rfl) (fun _ => rfl) (by first | omega | (simp only [Bool.and_eq_true, Bool.or_eq_true, Bool.or_eq_false_iff, Bool.and_eq_false_iff, Bool.not_eq_true', Bool.not_eq_false', beq_iff_eq, decide_eq_true_eq, decide_eq_false_iff_not] at hg; omega) | (have hh := of_decide_eq_true (beq_tt hg); omega) | (have hh := of_decide_eq_true (beq_tt (and_r hg)); omega)) (by first | omega | (simp only [Bool.and_eq_true, Bool.or_eq_true, Bool.or_eq_false_iff, Bool.and_eq_false_iff, Bool.not_eq_true', Bool.not_eq_false', beq_iff_eq, decide_eq_true_eq, decide_eq_false_iff_not] at hg; omega) | (have hh := of_decide_eq_true (beq_tt hg); omega) | (have hh := of_decide_eq_true (beq_tt (and_r hg)); omega))) rfl rfl ?_
        refine o_pure rfl rfl (pu_fieldRef hT rfl rfl rfl (ev_tmp rfl)) rfl rfl ?_
        refine o_pure rfl rfl (pu_loadRef1 hT rfl rfl (ev_tmp rfl) rfl) rfl rfl ?_
        refine o_pure rfl rfl (pu_move (.inl rfl) (ev_tmp rfl)) rfl rfl ?_
        refine o_pure rfl rfl (pu_neq rfl (ev_tmp rfl) (ev_tmp rfl)) rfl rfl ?_
        refine ops_nil ?_
        refine then_n ?_
        refine ok_cond (ev_tmp rfl) (fun c4 => ?_) (fun c4 => ?_)
        · skip
          have d4 := nd_t c4
          refine ok_seq ?_
          refine ok_region ?_
          refine o_pure rfl rfl (pu_move (.inr rfl) (ev_int (inR_lit rfl))) rfl rfl ?_
          refine ops_nil ?_
          refine then_n ?_
          refine ok_ret ?_
          refine then_r ?_
          refine blk_r ?_
          refine then_r ?_
          refine then_r ?_
          refine blk_r ?_
          refine then_r ?_
          refine fin1 (res_tmp rfl) (eqI ?_)
          exfalso; rw [he] at c4; simp [mkStore, sEq] at c4
        · skip
          have d4 := nd_f c4
          refine ok_skip ?_
          refine then_n ?_
          refine ok_region ?_
          refine o_pure rfl rfl (pu_move (.inl rfl) (ev_tmp rfl)) rfl rfl ?_
          refine o_pure rfl rfl (pu_addR rfl (ev_tmp rfl) (ev_int (inR_lit rfl)) (inR64 (by omega) (by omega))) rfl rfl ?_
          refine o_pure rfl rfl (pu_move (.inr rfl) (ev_tmp rfl)) rfl rfl ?_
          refine ops_nil ?_
          refine blk_n ?_
          refine then_n ?_
          refine ok_region ?_
          refine o_pure rfl rfl (pu_move (.inl rfl) (ev_tmp rfl)) rfl rfl ?_
          refine o_pure rfl rfl (pu_addR rfl (ev_tmp rfl) (ev_int (inR_lit rfl)) (inR64 (by omega) (by omega))) rfl rfl ?_
          refine o_pure rfl rfl (pu_move (.inr rfl) (ev_tmp rfl)) rfl rfl ?_
          refine ops_nil ?_
          refine then_n ?_
          refine ⟨j + 1, ?_, ?_, weak_sub ⟨rfl, (eqSlotI (by omega)), rfl, trivial⟩ trivial trivial rfl⟩
          · omega
          · omega
  · skip
    have d1 := of_decide_eq_false c1
    refine ok_exit ?_
    refine then_e ?_
    refine then_e ?_
    refine blk_e rfl ?_
    refine then_n ?_
    refine ok_seq ?_
    refine ok_region ?_
    refine o_pure rfl rfl (pu_move (.inl rfl) (ev_tmp rfl)) rfl rfl ?_
    refine o_pure rfl rfl (pu_move (.inr rfl) (ev_tmp rfl)) rfl rfl ?_
    refine ops_nil ?_
    refine then_n ?_
    refine ok_ret ?_
    refine fin1 (res_tmp rfl) (eqI ?_)
    have hq := wSum_all cStore x j (by omega); omega
end Go.Proofs.Ytlogahkchenpdaa

namespace Go.Proofs.Ytlogahkchenpdaa
open Go.RowKit
open Go.Proofs
set_option linter.unusedVariables false
set_option linter.unusedSimpArgs false

theorem take_cs1 {xs : List ItemT} {k : Nat} (hk : k < xs.length) : (xs.take k).flatMap eItem ++ eItem (xs.getD (k : Int).toNat default) = (xs.take (k + 1)).flatMap eItem ∧ (xs.take k).length + 1 = (xs.take (k + 1)).length := by
  have e : xs.getD (k : Int).toNat default = xs[k] := by simp [List.getD, List.getElem?_eq_getElem hk]
  rw [List.take_add_one, List.getElem?_eq_getElem hk, e]
  simp only [Option.toList_some, List.flatMap_append, List.flatMap_cons, List.flatMap_nil, List.append_nil, List.length_append, List.length_singleton]
  exact ⟨trivial, trivial⟩

set_option maxRecDepth 100000 in
theorem ok_impl_copyStore {x : StoreT} (hb : wStore x ≤ 1099511627776) : KFn Try.prog 171 [.agg [(.dv [] (.str (x.1))), (.dv [] (itemsD (x.2.1))), (.dv [] (.int .i64 (x.2.2)))]] (.agg [(.dv [] (.str (x.1))), (.key 30), (.dv [] (.int .i64 (x.2.2)))]) [(30, some (kcOf false (itemsD (x.2.1))))] := by
  refine ⟨fn_intro Try.func171 rfl Try.ntmps171 Try.results171 rfl (fun C => ?_)⟩
  refine ok_factA (x := .tmp 0) 0 (ev_tmp rfl) rfl (fun (f0_0 : (x.1).size ≤ 9223372036854775807) => ?_)
  refine ok_factA (x := .tmp 0) 1 (ev_tmp rfl) rfl (fun (f0_1 : ((x.2.1)).length ≤ 9223372036854775807) => ?_)
  refine ok_factA (x := .tmp 0) 2 (ev_tmp rfl) rfl (fun (f0_2 : -9223372036854775808 ≤ (x.2.2) ∧ (x.2.2) ≤ 9223372036854775807) => ?_)
  refine ok_seq ?_
  refine ok_region ?_
  refine o_box rfl rfl rfl (ev_tmp rfl) rfl rfl rfl rfl ?_
  refine o_alloc hT rfl rfl rfl rfl rfl rfl ?_
  refine ops_nil ?_
  refine then_n ?_
  refine ok_seq ?_
  refine ok_region ?_
  refine o_pure rfl rfl (pu_fieldBox hT rfl rfl rfl (ev_tmp rfl)) rfl rfl ?_
  refine o_pure rfl rfl (pu_loadBox1 hT rfl rfl (ev_tmp rfl) rfl rfl) rfl rfl ?_
  refine o_pure rfl rfl (pu_fieldBox hT rfl rfl rfl (ev_tmp rfl)) rfl rfl ?_
  refine o_pure rfl rfl (pu_loadBox1 hT rfl rfl (ev_tmp rfl) rfl rfl) rfl rfl ?_
  refine o_pure rfl rfl (pu_build hT hB rfl rfl rfl (bp_cons (ev_tmp rfl) rfl rfl rfl rfl rfl (bp_cons (ev_tmp rfl) rfl rfl rfl rfl rfl bp_nil))) rfl rfl ?_
  refine o_alloc hT rfl rfl rfl rfl rfl rfl ?_
  refine o_store hT rfl rfl rfl rfl (ev_tmp rfl) (ev_tmp rfl) rfl rfl rfl rfl rfl rfl ?_
  refine ops_nil ?_
  refine then_n ?_
  refine ok_seq ?_
  refine ok_seq ?_
  refine ok_weak (weak_nilB 30 (b := 3) (i := 1) (e := 150) (sz := 4) rfl rfl rfl rfl rfl) ?_
  simp only [killT, killB, SV.kill, CV.kill, List.map_cons, List.map_nil, List.any_cons, List.any_nil, List.contains_cons, List.contains_nil, List.nil_append, List.cons_append, Nat.reduceBEq, Bool.or_false, Bool.false_or, Bool.or_true, Bool.true_or, cond_true, cond_false]
  refine ok_region ?_
  refine o_pure rfl rfl (pu_fieldBox hT rfl rfl rfl (ev_tmp rfl)) rfl rfl ?_
  refine o_pure rfl rfl (pu_loadBox1 hT rfl rfl (ev_tmp rfl) rfl rfl) rfl rfl ?_
  refine o_pure rfl rfl (pu_lenV hT rfl rfl (ev_tmp rfl)) rfl rfl ?_
  refine o_pure rfl rfl (pu_move (.inl rfl) (ev_int (inR_lit rfl))) rfl rfl ?_
  refine ops_nil ?_
  refine then_n ?_
  refine ok_block ?_
  refine ok_loop (ι := Nat) (fun zz => ⟨[(2, .box 2 0), (3, .box 3 0), (12, .one (.dv [] (itemsD (x.2.1)))), (13, .one (.dv [] (.int .i64 ((((x.2.1)).length : Int))))), (14, .one (.dv [] (.int .i64 ((zz : Int)))))], [(2, 82, [(.dv [] (.str (ByteArray.empty))), .nil, (.dv [] (.int .i64 (0)))]), (3, 82, [(.dv [] (.str (x.1))), (.key 30), (.dv [] (.int .i64 (x.2.2)))])], [(30, some (kcOf false (.sl 150 4 ((x.2.1.take zz).length) ((x.2.1.take zz).flatMap eItem))))]⟩) (fun zz => zz ≤ x.2.1.length) (fun zz => x.2.1.length - zz) (0) ?_ (weak_sub ⟨rfl, rfl, rfl, rfl, rfl, trivial⟩ ⟨rfl, rfl, trivial⟩ ⟨rfl, trivial⟩ rfl) (fun zz hx => ?_)
  · exact Nat.zero_le _
  obtain ⟨k, rfl⟩ : ∃ v, v = zz := ⟨_, rfl⟩
  replace hx : k ≤ x.2.1.length := hx
  have hw := fun h => wSum_succ wItem x.2.1 k h
  show Ok _ _ _ _ _ (⟨[(2, .box 2 0), (3, .box 3 0), (12, .one (.dv [] (itemsD (x.2.1)))), (13, .one (.dv [] (.int .i64 ((((x.2.1)).length : Int))))), (14, .one (.dv [] (.int .i64 ((k : Int)))))], [(2, 82, [(.dv [] (.str (ByteArray.empty))), .nil, (.dv [] (.int .i64 (0)))]), (3, 82, [(.dv [] (.str (x.1))), (.key 30), (.dv [] (.int .i64 (x.2.2)))])], [(30, some (kcOf false (.sl 150 4 ((x.2.1.take k).length) ((x.2.1.take k).flatMap eItem))))]⟩ : St)
  refine ok_seq ?_
  refine ok_region ?_
  refine o_pure rfl rfl (pu_lss rfl (ev_tmp rfl) (ev_tmp rfl)) rfl rfl ?_
  refine ops_nil ?_
  refine then_n ?_
  refine ok_seq ?_
  refine ok_cond (ev_tmp rfl) (fun c1 => ?_) (fun c1 => ?_)
  · skip
    have d1 := of_decide_eq_true c1
    have hk2 : k < x.2.1.length := by omega
    have hlen : x.2.1.length ≤ 1099511627776 := by have h3 : wStore x = x.1.size + (x.2.1.length + wSum wItem x.2.1) := rfl; omega
    have hrec : wItem (x.2.1.getD (k : Int).toNat default) ≤ 1099511627776 := by have := hw hk2; have h3 : wStore x = x.1.size + (x.2.1.length + wSum wItem x.2.1) := rfl; omega
    refine ok_skip ?_
    refine then_n ?_
    refine ok_seq ?_
    refine ok_block ?_
    refine ok_seq ?_
    refine ok_region ?_
    refine o_pure rfl rfl (pu_indexD hT rfl rfl rfl (ev_tmp rfl) (ev_tmp rfl) (fun _ => rfl) (by first | omega | (simp only [Bool.and_eq_true, Bool.or_eq_true, Bool.or_eq_false_iff, Bool.and_eq_false_iff, Bool.not_eq_true', Bool.not_eq_false', beq_iff_eq, decide_eq_true_eq, decide_eq_false_iff_not] at hg; omega) | (have hh := of_decide_eq_true (beq_tt hg); omega) | (have hh := of_decide_eq_true (beq_tt (and_r hg)); omega)) (by first | omega | (simp only [Bool.and_eq_true, Bool.or_eq_true, Bool.or_eq_false_iff, Bool.and_eq_false_iff, Bool.not_eq_true', Bool.not_eq_false', beq_iff_eq, decide_eq_true_eq, decide_eq_false_iff_not] at hg; omega) | (have hh := of_decide_eq_true (beq_tt hg); omega) | (have hh := of_decide_eq_true (beq_tt (and_r hg)); omega))) rfl rfl ?_
    refine o_pure rfl rfl (pu_loadRefA hT rfl rfl (ev_tmp rfl) rfl) rfl rfl ?_
    refine o_alloc hT rfl rfl rfl rfl rfl rfl ?_
    refine o_store hT rfl rfl rfl rfl (ev_tmp rfl) (ev_tmp rfl) rfl rfl rfl rfl rfl rfl ?_
    refine ops_nil ?_
    refine then_n ?_
    refine ok_regionH [0, 1, 2, 3, 4] (oB := [2, 3, 5]) (oK := [30]) (by kernel_rfl) rfl rfl ?_
    refine d_take 0 rfl (by kernel_rfl) rfl rfl (pu_fieldBox hT rfl rfl rfl (ev_tmp rfl)) rfl rfl rfl rfl ?_
    refine d_take 1 rfl (by kernel_rfl) rfl rfl (pu_loadBox1 hT rfl rfl (ev_tmp rfl) rfl rfl) rfl rfl rfl rfl ?_
    refine d_take 2 rfl (by kernel_rfl) rfl rfl (pu_loadBoxA hT rfl rfl (ev_tmp rfl) rfl rfl) rfl rfl rfl rfl ?_
    refine d_callK 21000 3 rfl (by kernel_rfl) rfl rfl rfl Try.call183 (ok_impl_copyItem (by first | omega | exact Nat.le_trans (item_len _) hrec)) (as_cons (ev_tmp rfl) (ag_agg (ag_cons ac_dv (ag_cons ac_dv (ag_cons ac_dv (ag_cons ac_dv ag_nil))))) as_nil) rfl rfl rfl rfl rfl ?_
    refine d_build1 (k := 22) (js := [28003]) 4 hT rfl (by kernel_rfl) rfl rfl rfl rfl rfl rfl rfl rfl rfl (ev_tmp rfl) rfl rfl (ow_cons' (ow_dv rfl) (ow_cons' (ow_dv rfl) (ow_cons' (ow_dv rfl) (ow_cons' (ow_key rfl) ow_nil rfl) rfl) rfl) rfl) (by decide) (by decide) rfl rfl (by decide) ?_
    simp only [killT, killB, SV.kill, CV.kill, List.map_cons, List.map_nil, List.any_cons, List.any_nil, List.contains_cons, List.contains_nil, List.nil_append, List.cons_append, Nat.reduceBEq, Bool.or_false, Bool.false_or, Bool.or_true, Bool.true_or, cond_true, cond_false]
    refine d_chain [5, 6, 7] rfl rfl (by kernel_rfl) ?_
    refine o_appK (k := 30) (j := 22) (cs := (x.2.1.take (k + 1)).flatMap eItem) (n := (x.2.1.take (k + 1)).length) hT rfl rfl rfl rfl rfl rfl rfl (ev_tmp rfl) rfl rfl rfl (ev_tmp rfl) rfl rfl (by decide) (by dsimp only [kcOf]; simp only [List.length_take]; omega) (by dsimp only [kcOf]; simp only [List.length_take]; omega) ((take_cs1 hk2).2) ((take_cs1 hk2).1) ?_
    simp only [killT, killB, SV.kill, CV.kill, List.map_cons, List.map_nil, List.any_cons, List.any_nil, List.contains_cons, List.contains_nil, List.nil_append, List.cons_append, Nat.reduceBEq, Bool.or_false, Bool.false_or, Bool.or_true, Bool.true_or, cond_true, cond_false]
    refine o_pure rfl rfl (pu_fieldBox hT rfl rfl rfl (ev_tmp rfl)) rfl rfl ?_
    refine o_store hT rfl rfl rfl rfl (ev_tmp rfl) (ev_tmp rfl) rfl rfl rfl rfl rfl rfl ?_
    refine ops_nil ?_
    refine blk_n ?_
    refine then_n ?_
    refine ok_region ?_
    refine o_pure rfl rfl (pu_addR rfl (ev_tmp rfl) (ev_int (inR_lit rfl)) (inR64 (by omega) (by omega))) rfl rfl ?_
    refine o_pure rfl rfl (pu_move (.inl rfl) (ev_tmp rfl)) rfl rfl ?_
    refine ops_nil ?_
    refine then_n ?_
    refine ⟨k + 1, ?_, ?_, weak_sub ⟨rfl, rfl, rfl, rfl, rfl, trivial⟩ ⟨rfl, rfl, trivial⟩ ⟨rfl, trivial⟩ rfl⟩
    · omega
    · omega
  · skip
    have d1 := of_decide_eq_false c1
    refine ok_exit ?_
    refine then_e ?_
    refine then_e ?_
    refine blk_e rfl ?_
    refine then_n ?_
    refine ok_seq ?_
    refine ok_region ?_
    refine o_pure rfl rfl (pu_loadBoxA hT rfl rfl (ev_tmp rfl) rfl rfl) rfl rfl ?_
    refine o_store hT rfl rfl rfl rfl (ev_tmp rfl) (ev_tmp rfl) rfl rfl rfl rfl rfl rfl ?_
    refine ops_nil ?_
    refine then_n ?_
    refine ok_weak (σ' := ⟨[(2, .box 2 0)], [(2, 82, [(.dv [] (.str (x.1))), (.key 30), (.dv [] (.int .i64 (x.2.2)))])], [(30, some (kcOf false (itemsD (x.2.1))))]⟩) (weak_sub ⟨rfl, trivial⟩ ⟨rfl, trivial⟩ ⟨(congrArg (fun l : List ItemT => some (some (KC.mk false 150 4 l.length (l.flatMap eItem)))) (List.take_of_length_le (by omega))), trivial⟩ rfl) ?_
    refine ok_ret ?_
    refine fin1 (res_cell hT rfl rfl rfl rfl) ?_
    exact ⟨rfl, rfl⟩
set_option maxRecDepth 100000 in
theorem ok_spec_l6Copy {x : StoreT} (hb : wStore x ≤ 1099511627776) : KFn Try.prog 170 [.agg [(.dv [] (.str (x.1))), (.dv [] (itemsD (x.2.1))), (.dv [] (.int .i64 (x.2.2)))]] (.agg [(.dv [] (.str (x.1))), (.key 30), (.dv [] (.int .i64 (x.2.2)))]) [(30, some (kcOf false (itemsD (x.2.1))))] := by
  refine ⟨fn_intro Try.func170 rfl Try.ntmps170 Try.results170 rfl (fun C => ?_)⟩
  refine ok_factA (x := .tmp 0) 0 (ev_tmp rfl) rfl (fun (f0_0 : (x.1).size ≤ 9223372036854775807) => ?_)
  refine ok_factA (x := .tmp 0) 1 (ev_tmp rfl) rfl (fun (f0_1 : ((x.2.1)).length ≤ 9223372036854775807) => ?_)
  refine ok_factA (x := .tmp 0) 2 (ev_tmp rfl) rfl (fun (f0_2 : -9223372036854775808 ≤ (x.2.2) ∧ (x.2.2) ≤ 9223372036854775807) => ?_)
  refine ok_seq ?_
  refine ok_region ?_
  refine o_box rfl rfl rfl (ev_tmp rfl) rfl rfl rfl rfl ?_
  refine o_alloc hT rfl rfl rfl rfl rfl rfl ?_
  refine ops_nil ?_
  refine then_n ?_
  refine ok_seq ?_
  refine ok_region ?_
  refine o_pure rfl rfl (pu_fieldBox hT rfl rfl rfl (ev_tmp rfl)) rfl rfl ?_
  refine o_pure rfl rfl (pu_loadBox1 hT rfl rfl (ev_tmp rfl) rfl rfl) rfl rfl ?_
  refine o_pure rfl rfl (pu_fieldBox hT rfl rfl rfl (ev_tmp rfl)) rfl rfl ?_
  refine o_pure rfl rfl (pu_loadBox1 hT rfl rfl (ev_tmp rfl) rfl rfl) rfl rfl ?_
  refine o_pure rfl rfl (pu_build hT hB rfl rfl rfl (bp_cons (ev_tmp rfl) rfl rfl rfl rfl rfl (bp_cons (ev_tmp rfl) rfl rfl rfl rfl rfl bp_nil))) rfl rfl ?_
  refine o_alloc hT rfl rfl rfl rfl rfl rfl ?_
  refine o_store hT rfl rfl rfl rfl (ev_tmp rfl) (ev_tmp rfl) rfl rfl rfl rfl rfl rfl ?_
  refine ops_nil ?_
  refine then_n ?_
  refine ok_seq ?_
  refine ok_seq ?_
  refine ok_weak (weak_nilB 30 (b := 3) (i := 1) (e := 150) (sz := 4) rfl rfl rfl rfl rfl) ?_
  simp only [killT, killB, SV.kill, CV.kill, List.map_cons, List.map_nil, List.any_cons, List.any_nil, List.contains_cons, List.contains_nil, List.nil_append, List.cons_append, Nat.reduceBEq, Bool.or_false, Bool.false_or, Bool.or_true, Bool.true_or, cond_true, cond_false]
  refine ok_region ?_
  refine o_pure rfl rfl (pu_move (.inr rfl) (ev_int (inR_lit rfl))) rfl rfl ?_
  refine ops_nil ?_
  refine then_n ?_
  refine ok_block ?_
  refine ok_loop (ι := Nat) (fun zz => ⟨[(1, .box 1 0), (2, .box 2 0), (3, .box 3 0), (4, .one (.dv [] (.int .i64 ((zz : Int)))))], [(1, 82, [(.dv [] (.str (x.1))), (.dv [] (itemsD (x.2.1))), (.dv [] (.int .i64 (x.2.2)))]), (2, 82, [(.dv [] (.str (ByteArray.empty))), .nil, (.dv [] (.int .i64 (0)))]), (3, 82, [(.dv [] (.str (x.1))), (.key 30), (.dv [] (.int .i64 (x.2.2)))])], [(30, some (kcOf false (.sl 150 4 ((x.2.1.take zz).length) ((x.2.1.take zz).flatMap eItem))))]⟩) (fun zz => zz ≤ x.2.1.length) (fun zz => x.2.1.length - zz) (0) ?_ (weak_sub ⟨rfl, rfl, rfl, rfl, trivial⟩ ⟨rfl, rfl, rfl, trivial⟩ ⟨rfl, trivial⟩ rfl) (fun zz hx => ?_)
  · exact Nat.zero_le _
  obtain ⟨k, rfl⟩ : ∃ v, v = zz := ⟨_, rfl⟩
  replace hx : k ≤ x.2.1.length := hx
  have hw := fun h => wSum_succ wItem x.2.1 k h
  show Ok _ _ _ _ _ (⟨[(1, .box 1 0), (2, .box 2 0), (3, .box 3 0), (4, .one (.dv [] (.int .i64 ((k : Int)))))], [(1, 82, [(.dv [] (.str (x.1))), (.dv [] (itemsD (x.2.1))), (.dv [] (.int .i64 (x.2.2)))]), (2, 82, [(.dv [] (.str (ByteArray.empty))), .nil, (.dv [] (.int .i64 (0)))]), (3, 82, [(.dv [] (.str (x.1))), (.key 30), (.dv [] (.int .i64 (x.2.2)))])], [(30, some (kcOf false (.sl 150 4 ((x.2.1.take k).length) ((x.2.1.take k).flatMap eItem))))]⟩ : St)
  refine ok_seq ?_
  refine ok_seq ?_
  refine ok_region ?_
  refine o_pure rfl rfl (pu_move (.inl rfl) (ev_tmp rfl)) rfl rfl ?_
  refine o_pure rfl rfl (pu_fieldBox hT rfl rfl rfl (ev_tmp rfl)) rfl rfl ?_
  refine o_pure rfl rfl (pu_loadBox1 hT rfl rfl (ev_tmp rfl) rfl rfl) rfl rfl ?_
  refine o_pure rfl rfl (pu_lenV hT rfl rfl (ev_tmp rfl)) rfl rfl ?_
  refine o_pure rfl rfl (pu_lss rfl (ev_tmp rfl) (ev_tmp rfl)) rfl rfl ?_
  refine ops_nil ?_
  refine then_n ?_
  refine ok_cond (ev_tmp rfl) (fun c1 => ?_) (fun c1 => ?_)
  · skip
    have d1 := of_decide_eq_true c1
    have hk2 : k < x.2.1.length := by omega
    have hlen : x.2.1.length ≤ 1099511627776 := by have h3 : wStore x = x.1.size + (x.2.1.length + wSum wItem x.2.1) := rfl; omega
    have hrec : wItem (x.2.1.getD (k : Int).toNat default) ≤ 1099511627776 := by have := hw hk2; have h3 : wStore x = x.1.size + (x.2.1.length + wSum wItem x.2.1) := rfl; omega
    refine ok_skip ?_
    refine then_n ?_
    refine ok_seq ?_
    refine ok_block ?_
    refine ok_regionH [0, 1, 2, 3, 4, 5, 6, 7, 8] (oB := [1, 2, 3]) (oK := [30]) (by kernel_rfl) rfl rfl ?_
    refine d_take 0 rfl (by kernel_rfl) rfl rfl (pu_fieldBox hT rfl rfl rfl (ev_tmp rfl)) rfl rfl rfl rfl ?_
    refine d_take 1 rfl (by kernel_rfl) rfl rfl (pu_loadBox1 hT rfl rfl (ev_tmp rfl) rfl rfl) rfl rfl rfl rfl ?_
    refine d_take 2 rfl (by kernel_rfl) rfl rfl (pu_fieldBox hT rfl rfl rfl (ev_tmp rfl)) rfl rfl rfl rfl ?_
    refine d_take 3 rfl (by kernel_rfl) rfl rfl (pu_loadBox1 hT rfl rfl (ev_tmp rfl) rfl rfl) rfl rfl rfl rfl ?_
    refine d_take 4 rfl (by kernel_rfl) rfl rfl (pu_move (.inl rfl) (ev_tmp rfl)) rfl rfl rfl rfl ?_
    refine d_take 5 rfl (by kernel_rfl) rfl rfl (pu_indexD hT rfl rfl rfl (ev_tmp rfl) (ev_tmp rfl) (fun _ => rfl) (by first | omega | (simp only [Bool.and_eq_true, Bool.or_eq_true, Bool.or_eq_false_iff, Bool.and_eq_false_iff, Bool.not_eq_true', Bool.not_eq_false', beq_iff_eq, decide_eq_true_eq, decide_eq_false_iff_not] at hg; omega) | (have hh := of_decide_eq_true (beq_tt hg); omega) | (have hh := of_decide_eq_true (beq_tt (and_r hg)); omega)) (by first | omega | (simp only [Bool.and_eq_true, Bool.or_eq_true, Bool.or_eq_false_iff, Bool.and_eq_false_iff, Bool.not_eq_true', Bool.not_eq_false', beq_iff_eq, decide_eq_true_eq, decide_eq_false_iff_not] at hg; omega) | (have hh := of_decide_eq_true (beq_tt hg); omega) | (have hh := of_decide_eq_true (beq_tt (and_r hg)); omega))) rfl rfl rfl rfl ?_
    refine d_take 6 rfl (by kernel_rfl) rfl rfl (pu_loadRefA hT rfl rfl (ev_tmp rfl) rfl) rfl rfl rfl rfl ?_
    refine d_callK 24000 7 rfl (by kernel_rfl) rfl rfl rfl Try.call178 (ok_spec_l6Item (by first | omega | exact Nat.le_trans (item_len _) hrec)) (as_cons (ev_tmp rfl) (ag_agg (ag_cons ac_dv (ag_cons ac_dv (ag_cons ac_dv (ag_cons ac_dv ag_nil))))) as_nil) rfl rfl rfl rfl rfl ?_
    refine d_build1 (k := 25) (js := [31003]) 8 hT rfl (by kernel_rfl) rfl rfl rfl rfl rfl rfl rfl rfl rfl (ev_tmp rfl) rfl rfl (ow_cons' (ow_dv rfl) (ow_cons' (ow_dv rfl) (ow_cons' (ow_dv rfl) (ow_cons' (ow_key rfl) ow_nil rfl) rfl) rfl) rfl) (by decide) (by decide) rfl rfl (by decide) ?_
    simp only [killT, killB, SV.kill, CV.kill, List.map_cons, List.map_nil, List.any_cons, List.any_nil, List.contains_cons, List.contains_nil, List.nil_append, List.cons_append, Nat.reduceBEq, Bool.or_false, Bool.false_or, Bool.or_true, Bool.true_or, cond_true, cond_false]
    refine d_chain [9, 10, 11] rfl rfl (by kernel_rfl) ?_
    refine o_appK (k := 30) (j := 25) (cs := (x.2.1.take (k + 1)).flatMap eItem) (n := (x.2.1.take (k + 1)).length) hT rfl rfl rfl rfl rfl rfl rfl (ev_tmp rfl) rfl rfl rfl (ev_tmp rfl) rfl rfl (by decide) (by dsimp only [kcOf]; simp only [List.length_take]; omega) (by dsimp only [kcOf]; simp only [List.length_take]; omega) ((take_cs1 hk2).2) ((take_cs1 hk2).1) ?_
    simp only [killT, killB, SV.kill, CV.kill, List.map_cons, List.map_nil, List.any_cons, List.any_nil, List.contains_cons, List.contains_nil, List.nil_append, List.cons_append, Nat.reduceBEq, Bool.or_false, Bool.false_or, Bool.or_true, Bool.true_or, cond_true, cond_false]
    refine o_pure rfl rfl (pu_fieldBox hT rfl rfl rfl (ev_tmp rfl)) rfl rfl ?_
    refine o_store hT rfl rfl rfl rfl (ev_tmp rfl) (ev_tmp rfl) rfl rfl rfl rfl rfl rfl ?_
    refine ops_nil ?_
    refine blk_n ?_
    refine then_n ?_
    refine ok_region ?_
    refine o_pure rfl rfl (pu_move (.inl rfl) (ev_tmp rfl)) rfl rfl ?_
    refine o_pure rfl rfl (pu_addR rfl (ev_tmp rfl) (ev_int (inR_lit rfl)) (inR64 (by omega) (by omega))) rfl rfl ?_
    refine o_pure rfl rfl (pu_move (.inr rfl) (ev_tmp rfl)) rfl rfl ?_
    refine ops_nil ?_
    refine then_n ?_
    refine ⟨k + 1, ?_, ?_, weak_sub ⟨rfl, rfl, rfl, rfl, trivial⟩ ⟨rfl, rfl, rfl, trivial⟩ ⟨rfl, trivial⟩ rfl⟩
    · omega
    · omega
  · skip
    have d1 := of_decide_eq_false c1
    refine ok_exit ?_
    refine then_e ?_
    refine then_e ?_
    refine blk_e rfl ?_
    refine then_n ?_
    refine ok_seq ?_
    refine ok_region ?_
    refine o_pure rfl rfl (pu_loadBoxA hT rfl rfl (ev_tmp rfl) rfl rfl) rfl rfl ?_
    refine o_store hT rfl rfl rfl rfl (ev_tmp rfl) (ev_tmp rfl) rfl rfl rfl rfl rfl rfl ?_
    refine ops_nil ?_
    refine then_n ?_
    refine ok_weak (σ' := ⟨[(2, .box 2 0)], [(2, 82, [(.dv [] (.str (x.1))), (.key 30), (.dv [] (.int .i64 (x.2.2)))])], [(30, some (kcOf false (itemsD (x.2.1))))]⟩) (weak_sub ⟨rfl, trivial⟩ ⟨rfl, trivial⟩ ⟨(congrArg (fun l : List ItemT => some (some (KC.mk false 150 4 l.length (l.flatMap eItem)))) (List.take_of_length_le (by omega))), trivial⟩ rfl) ?_
    refine ok_ret ?_
    refine fin1 (res_cell hT rfl rfl rfl rfl) ?_
    exact ⟨rfl, rfl⟩
end Go.Proofs.Ytlogahkchenpdaa

namespace Go.Proofs.Ytlogahkchenpdaa
open Go.RowKit
open Go.Proofs
set_option linter.unusedVariables false
set_option linter.unusedSimpArgs false
def mkOp (x : OpT) (k : Int) : OpT := (k, mText ((k) + (1)), (((k) + (1)) + (1), (((k) + (1)) + (1)) + (1), mText (((((k) + (1)) + (1)) + (1)) + (1))), mkL mkField cField (x.2.2.2.1) ((((((k) + (1)) + (1)) + (1)) + (1)) + (1)), mText (((((((k) + (1)) + (1)) + (1)) + (1)) + (1)) + (wSum cField (x.2.2.2.1) : Int)))
def cOp (x : OpT) : Nat := 6 + wSum cField (x.2.2.2.1)
theorem cOp_le (x : OpT) : cOp x ≤ 8 * (1 + wOp x) := by
  have h5 := wSum_bound cField_le (x.2.2.2.1)
  simp only [cOp, wOp, wKey, wRecord]
  omega
set_option maxRecDepth 100000 in
theorem ok_laws_markOpS {x : List (OpT)} {k : Int} (h0 : 0 ≤ k) (h1 : k + (wSum cOp x : Int) ≤ 4611686018427387904) : WFn Try.prog 27 [.one (.key 0), .one (.dv [] (.int .i64 (k)))] (.one (.dv [] (.int .i64 (k + (wSum cOp x : Int))))) [(0, kcOf true (.sl 102 7 (x.length) (x.flatMap eOp)))] [(0, kcOf true (opsD (mkL mkOp cOp x k)))] := by
  refine ⟨fn_intro Try.func27 rfl Try.ntmps27 Try.results27 rfl (fun C => ?_)⟩
  have hln : x.length ≤ wSum cOp x := wSum_ge (fun _ => by simp only [cOp]; omega) x
  refine ok_fact (x := .tmp 1) (ev_tmp rfl) (fun (f1 : -9223372036854775808 ≤ (k) ∧ (k) ≤ 9223372036854775807) => ?_)
  refine ok_seq ?_
  refine ok_region ?_
  refine o_pure rfl rfl (pu_move (.inr rfl) (ev_int (inR_lit rfl))) rfl rfl ?_
  refine ops_nil ?_
  refine then_n ?_
  refine ok_seq ?_
  refine ok_seq ?_
  refine ok_region ?_
  refine o_pure rfl rfl (pu_move (.inr rfl) (ev_int (inR_lit rfl))) rfl rfl ?_
  refine ops_nil ?_
  refine then_n ?_
  refine ok_block ?_
  refine ok_loop (ι := Nat) (fun zz => ⟨[(0, .one (.key 0)), (1, .one (.dv [] (.int .i64 (k + (wSum cOp (x.take zz) : Int))))), (4, .one (.dv [] (.int .i64 (0)))), (5, .one (.dv [] (.int .i64 ((zz : Int)))))], [], [(0, some ⟨true, 102, 7, x.length, (mkL mkOp cOp (x.take zz) k).flatMap eOp ++ (x.drop zz).flatMap eOp⟩)]⟩) (fun zz => zz ≤ x.length) (fun zz => x.length - zz) (0) ?_ (weak_sub ⟨rfl, (eqSlotI (by simp [wSum])), rfl, rfl, trivial⟩ trivial ⟨rfl, trivial⟩ rfl) (fun zz hx => ?_)
  · exact Nat.zero_le _
  obtain ⟨j, rfl⟩ : ∃ v, v = zz := ⟨_, rfl⟩
  replace hx : j ≤ x.length := hx
  have hw := fun h => wSum_succ cOp x j h
  show Ok _ _ _ _ _ (⟨[(0, .one (.key 0)), (1, .one (.dv [] (.int .i64 (k + (wSum cOp (x.take j) : Int))))), (4, .one (.dv [] (.int .i64 (0)))), (5, .one (.dv [] (.int .i64 ((j : Int)))))], [], [(0, some ⟨true, 102, 7, x.length, (mkL mkOp cOp (x.take j) k).flatMap eOp ++ (x.drop j).flatMap eOp⟩)]⟩ : St)
  refine ok_seq ?_
  refine ok_seq ?_
  refine ok_region ?_
  refine o_pure rfl rfl (pu_move (.inl rfl) (ev_tmp rfl)) rfl rfl ?_
  refine o_pure rfl rfl (pu_move (.inl rfl) (ev_tmp rfl)) rfl rfl ?_
  refine o_pure rfl rfl (pu_lenKn (n := (x.length)) hT rfl rfl (ev_tmp rfl) rfl rfl) rfl rfl ?_
  refine o_pure rfl rfl (pu_lss rfl (ev_tmp rfl) (ev_tmp rfl)) rfl rfl ?_
  refine ops_nil ?_
  refine then_n ?_
  refine ok_cond (ev_tmp rfl) (fun c1 => ?_) (fun c1 => ?_)
  · skip
    have d1 := of_decide_eq_true c1
    have hj : j < x.length := by omega
    obtain ⟨hw1, hw2⟩ := hw hj
    have hc : cOp (x.getD (j : Int).toNat default) = 6 + wSum cField ((x.getD (j : Int).toNat default).2.2.2.1) := rfl
    refine ok_kcs (k := 0) (cs' := mid ((mkL mkOp cOp (x.take j) k).flatMap eOp) [.int .i64 ((x.getD (j : Int).toNat default).1), .str ((x.getD (j : Int).toNat default).2.1), .int .i64 ((x.getD (j : Int).toNat default).2.2.1.1), .int .i64 ((x.getD (j : Int).toNat default).2.2.1.2.1), .str ((x.getD (j : Int).toNat default).2.2.1.2.2), fieldsD ((x.getD (j : Int).toNat default).2.2.2.1), .str ((x.getD (j : Int).toNat default).2.2.2.2)] ((x.drop (j + 1)).flatMap eOp)) rfl (mk_open hj) ?_
    refine ok_skip ?_
    refine then_n ?_
    refine ok_seq ?_
    refine ok_block ?_
    refine ok_seq ?_
    refine ok_region ?_
    refine o_pure rfl rfl (pu_move (.inl rfl) (ev_tmp rfl)) rfl rfl ?_
    refine o_pure rfl rfl (pu_move (.inl rfl) (ev_tmp rfl)) rfl rfl ?_
    refine o_pure rfl rfl (pu_move (.inl rfl) (ev_tmp rfl)) rfl rfl ?_
    refine o_pure rfl rfl (pu_indexK (i := j) hT rfl rfl rfl (ev_tmp rfl) rfl (ev_tmp rfl) rfl (by show _ < (x.length); omega)) rfl rfl ?_
    refine o_pure rfl rfl (pu_fieldE hT rfl rfl rfl (ev_tmp rfl)) rfl rfl ?_
    refine o_storeE (js := []) (cs := mid ((mkL mkOp cOp (x.take j) k).flatMap eOp) [.int .i64 (k + (wSum cOp (x.take j) : Int)), .str ((x.getD (j : Int).toNat default).2.1), .int .i64 ((x.getD (j : Int).toNat default).2.2.1.1), .int .i64 ((x.getD (j : Int).toNat default).2.2.1.2.1), .str ((x.getD (j : Int).toNat default).2.2.1.2.2), fieldsD ((x.getD (j : Int).toNat default).2.2.2.1), .str ((x.getD (j : Int).toNat default).2.2.2.2)] ((x.drop (j + 1)).flatMap eOp)) hT rfl rfl rfl rfl (ev_tmp rfl) (ev_tmp rfl) rfl rfl rfl rfl (ow_cons' (ow_dv rfl) ow_nil rfl) (by decide) (by decide) rfl (le_mid (off := (j * 7 + 0)) (n := 1) (j := 0) (mk_pre (sz := 7) (fun _ => rfl) (Nat.le_of_lt hj)) (by omega) (Nat.le_of_ble_eq_true rfl)) (setR_mid (off := (j * 7 + 0)) (j := 0) (mk_pre (sz := 7) (fun _ => rfl) (Nat.le_of_lt hj)) (by omega) rfl (Nat.le_of_ble_eq_true rfl)) ?_
    simp only [killT, killB, SV.kill, CV.kill, List.map_cons, List.map_nil, List.any_cons, List.any_nil, List.contains_cons, List.contains_nil, List.nil_append, List.cons_append, Nat.reduceBEq, Bool.or_false, Bool.false_or, Bool.or_true, Bool.true_or, cond_true, cond_false]
    refine ops_nil ?_
    refine then_n ?_
    refine ok_seq ?_
    refine ok_region ?_
    refine o_pure rfl rfl (pu_move (.inl rfl) (ev_tmp rfl)) rfl rfl ?_
    refine o_pure rfl rfl (pu_addR rfl (ev_tmp rfl) (ev_int (inR_lit rfl)) (inR64 (by omega) (by omega))) rfl rfl ?_
    refine o_pure rfl rfl (pu_move (.inr rfl) (ev_tmp rfl)) rfl rfl ?_
    refine ops_nil ?_
    refine then_n ?_
    refine ok_seq ?_
    refine ok_region ?_
    refine o_pure rfl rfl (pu_move (.inl rfl) (ev_tmp rfl)) rfl rfl ?_
    refine o_pure rfl rfl (pu_move (.inl rfl) (ev_tmp rfl)) rfl rfl ?_
    refine o_pure rfl rfl (pu_move (.inl rfl) (ev_tmp rfl)) rfl rfl ?_
    refine o_call rfl rfl rfl Try.call71 (ok_laws_markText (by omega)) (as_cons (ev_tmp rfl) (ag_one ac_dv) as_nil) rfl rfl ?_
    refine o_pure rfl rfl (pu_indexK (i := j) hT rfl rfl rfl (ev_tmp rfl) rfl (ev_tmp rfl) rfl (by show _ < (x.length); omega)) rfl rfl ?_
    refine o_pure rfl rfl (pu_fieldE hT rfl rfl rfl (ev_tmp rfl)) rfl rfl ?_
    refine o_storeE (js := []) (cs := mid ((mkL mkOp cOp (x.take j) k).flatMap eOp) [.int .i64 (k + (wSum cOp (x.take j) : Int)), .str (mText ((k + (wSum cOp (x.take j) : Int)) + (1))), .int .i64 ((x.getD (j : Int).toNat default).2.2.1.1), .int .i64 ((x.getD (j : Int).toNat default).2.2.1.2.1), .str ((x.getD (j : Int).toNat default).2.2.1.2.2), fieldsD ((x.getD (j : Int).toNat default).2.2.2.1), .str ((x.getD (j : Int).toNat default).2.2.2.2)] ((x.drop (j + 1)).flatMap eOp)) hT rfl rfl rfl rfl (ev_tmp rfl) (ev_tmp rfl) rfl rfl rfl rfl (ow_cons' (ow_dv rfl) ow_nil rfl) (by decide) (by decide) rfl (le_mid (off := (j * 7 + 1)) (n := 1) (j := 1) (mk_pre (sz := 7) (fun _ => rfl) (Nat.le_of_lt hj)) (by omega) (Nat.le_of_ble_eq_true rfl)) (setR_mid (off := (j * 7 + 1)) (j := 1) (mk_pre (sz := 7) (fun _ => rfl) (Nat.le_of_lt hj)) (by omega) rfl (Nat.le_of_ble_eq_true rfl)) ?_
    simp only [killT, killB, SV.kill, CV.kill, List.map_cons, List.map_nil, List.any_cons, List.any_nil, List.contains_cons, List.contains_nil, List.nil_append, List.cons_append, Nat.reduceBEq, Bool.or_false, Bool.false_or, Bool.or_true, Bool.true_or, cond_true, cond_false]
    refine ops_nil ?_
    refine then_n ?_
    refine ok_seq ?_
    refine ok_region ?_
    refine o_pure rfl rfl (pu_move (.inl rfl) (ev_tmp rfl)) rfl rfl ?_
    refine o_pure rfl rfl (pu_addR rfl (ev_tmp rfl) (ev_int (inR_lit rfl)) (inR64 (by omega) (by omega))) rfl rfl ?_
    refine o_pure rfl rfl (pu_move (.inr rfl) (ev_tmp rfl)) rfl rfl ?_
    refine ops_nil ?_
    refine then_n ?_
    refine ok_seq ?_
    refine ok_region ?_
    refine o_pure rfl rfl (pu_move (.inl rfl) (ev_tmp rfl)) rfl rfl ?_
    refine o_pure rfl rfl (pu_move (.inl rfl) (ev_tmp rfl)) rfl rfl ?_
    refine o_pure rfl rfl (pu_move (.inl rfl) (ev_tmp rfl)) rfl rfl ?_
    refine o_pure rfl rfl (pu_indexK (i := j) hT rfl rfl rfl (ev_tmp rfl) rfl (ev_tmp rfl) rfl (by show _ < (x.length); omega)) rfl rfl ?_
    refine o_pure rfl rfl (pu_fieldE hT rfl rfl rfl (ev_tmp rfl)) rfl rfl ?_
    refine o_pure rfl rfl (pu_fieldE hT rfl rfl rfl (ev_tmp rfl)) rfl rfl ?_
    refine o_storeE (js := []) (cs := mid ((mkL mkOp cOp (x.take j) k).flatMap eOp) [.int .i64 (k + (wSum cOp (x.take j) : Int)), .str (mText ((k + (wSum cOp (x.take j) : Int)) + (1))), .int .i64 (((k + (wSum cOp (x.take j) : Int)) + (1)) + (1)), .int .i64 ((x.getD (j : Int).toNat default).2.2.1.2.1), .str ((x.getD (j : Int).toNat default).2.2.1.2.2), fieldsD ((x.getD (j : Int).toNat default).2.2.2.1), .str ((x.getD (j : Int).toNat default).2.2.2.2)] ((x.drop (j + 1)).flatMap eOp)) hT rfl rfl rfl rfl (ev_tmp rfl) (ev_tmp rfl) rfl rfl rfl rfl (ow_cons' (ow_dv rfl) ow_nil rfl) (by decide) (by decide) rfl (le_mid (off := ((j * 7 + 2) + 0)) (n := 1) (j := 2) (mk_pre (sz := 7) (fun _ => rfl) (Nat.le_of_lt hj)) (by omega) (Nat.le_of_ble_eq_true rfl)) (setR_mid (off := ((j * 7 + 2) + 0)) (j := 2) (mk_pre (sz := 7) (fun _ => rfl) (Nat.le_of_lt hj)) (by omega) rfl (Nat.le_of_ble_eq_true rfl)) ?_
    simp only [killT, killB, SV.kill, CV.kill, List.map_cons, List.map_nil, List.any_cons, List.any_nil, List.contains_cons, List.contains_nil, List.nil_append, List.cons_append, Nat.reduceBEq, Bool.or_false, Bool.false_or, Bool.or_true, Bool.true_or, cond_true, cond_false]
    refine ops_nil ?_
    refine then_n ?_
    refine ok_seq ?_
    refine ok_region ?_
    refine o_pure rfl rfl (pu_move (.inl rfl) (ev_tmp rfl)) rfl rfl ?_
    refine o_pure rfl rfl (pu_addR rfl (ev_tmp rfl) (ev_int (inR_lit rfl)) (inR64 (by omega) (by omega))) rfl rfl ?_
    refine o_pure rfl rfl (pu_move (.inr rfl) (ev_tmp rfl)) rfl rfl ?_
    refine ops_nil ?_
    refine then_n ?_
    refine ok_seq ?_
    refine ok_region ?_
    refine o_pure rfl rfl (pu_move (.inl rfl) (ev_tmp rfl)) rfl rfl ?_
    refine o_pure rfl rfl (pu_move (.inl rfl) (ev_tmp rfl)) rfl rfl ?_
    refine o_pure rfl rfl (pu_move (.inl rfl) (ev_tmp rfl)) rfl rfl ?_
    refine o_pure rfl rfl (pu_indexK (i := j) hT rfl rfl rfl (ev_tmp rfl) rfl (ev_tmp rfl) rfl (by show _ < (x.length); omega)) rfl rfl ?_
    refine o_pure rfl rfl (pu_fieldE hT rfl rfl rfl (ev_tmp rfl)) rfl rfl ?_
    refine o_pure rfl rfl (pu_fieldE hT rfl rfl rfl (ev_tmp rfl)) rfl rfl ?_
    refine o_storeE (js := []) (cs := mid ((mkL mkOp cOp (x.take j) k).flatMap eOp) [.int .i64 (k + (wSum cOp (x.take j) : Int)), .str (mText ((k + (wSum cOp (x.take j) : Int)) + (1))), .int .i64 (((k + (wSum cOp (x.take j) : Int)) + (1)) + (1)), .int .i64 ((((k + (wSum cOp (x.take j) : Int)) + (1)) + (1)) + (1)), .str ((x.getD (j : Int).toNat default).2.2.1.2.2), fieldsD ((x.getD (j : Int).toNat default).2.2.2.1), .str ((x.getD (j : Int).toNat default).2.2.2.2)] ((x.drop (j + 1)).flatMap eOp)) hT rfl rfl rfl rfl (ev_tmp rfl) (ev_tmp rfl) rfl rfl rfl rfl (ow_cons' (ow_dv rfl) ow_nil rfl) (by decide) (by decide) rfl (le_mid (off := ((j * 7 + 2) + 1)) (n := 1) (j := 3) (mk_pre (sz := 7) (fun _ => rfl) (Nat.le_of_lt hj)) (by omega) (Nat.le_of_ble_eq_true rfl)) (setR_mid (off := ((j * 7 + 2) + 1)) (j := 3) (mk_pre (sz := 7) (fun _ => rfl) (Nat.le_of_lt hj)) (by omega) rfl (Nat.le_of_ble_eq_true rfl)) ?_
    simp only [killT, killB, SV.kill, CV.kill, List.map_cons, List.map_nil, List.any_cons, List.any_nil, List.contains_cons, List.contains_nil, List.nil_append, List.cons_append, Nat.reduceBEq, Bool.or_false, Bool.false_or, Bool.or_true, Bool.true_or, cond_true, cond_false]
    refine ops_nil ?_
    refine then_n ?_
    refine ok_seq ?_
    refine ok_region ?_
    refine o_pure rfl rfl (pu_move (.inl rfl) (ev_tmp rfl)) rfl rfl ?_
    refine o_pure rfl rfl (pu_addR rfl (ev_tmp rfl) (ev_int (inR_lit rfl)) (inR64 (by omega) (by omega))) rfl rfl ?_
    refine o_pure rfl rfl (pu_move (.inr rfl) (ev_tmp rfl)) rfl rfl ?_
    refine ops_nil ?_
    refine then_n ?_
    refine ok_seq ?_
    refine ok_region ?_
    refine o_pure rfl rfl (pu_move (.inl rfl) (ev_tmp rfl)) rfl rfl ?_
    refine o_pure rfl rfl (pu_move (.inl rfl) (ev_tmp rfl)) rfl rfl ?_
    refine o_pure rfl rfl (pu_move (.inl rfl) (ev_tmp rfl)) rfl rfl ?_
    refine o_call rfl rfl rfl Try.call71 (ok_laws_markText (by omega)) (as_cons (ev_tmp rfl) (ag_one ac_dv) as_nil) rfl rfl ?_
    refine o_pure rfl rfl (pu_indexK (i := j) hT rfl rfl rfl (ev_tmp rfl) rfl (ev_tmp rfl) rfl (by show _ < (x.length); omega)) rfl rfl ?_
    refine o_pure rfl rfl (pu_fieldE hT rfl rfl rfl (ev_tmp rfl)) rfl rfl ?_
    refine o_pure rfl rfl (pu_fieldE hT rfl rfl rfl (ev_tmp rfl)) rfl rfl ?_
    refine o_storeE (js := []) (cs := mid ((mkL mkOp cOp (x.take j) k).flatMap eOp) [.int .i64 (k + (wSum cOp (x.take j) : Int)), .str (mText ((k + (wSum cOp (x.take j) : Int)) + (1))), .int .i64 (((k + (wSum cOp (x.take j) : Int)) + (1)) + (1)), .int .i64 ((((k + (wSum cOp (x.take j) : Int)) + (1)) + (1)) + (1)), .str (mText (((((k + (wSum cOp (x.take j) : Int)) + (1)) + (1)) + (1)) + (1))), fieldsD ((x.getD (j : Int).toNat default).2.2.2.1), .str ((x.getD (j : Int).toNat default).2.2.2.2)] ((x.drop (j + 1)).flatMap eOp)) hT rfl rfl rfl rfl (ev_tmp rfl) (ev_tmp rfl) rfl rfl rfl rfl (ow_cons' (ow_dv rfl) ow_nil rfl) (by decide) (by decide) rfl (le_mid (off := ((j * 7 + 2) + 2)) (n := 1) (j := 4) (mk_pre (sz := 7) (fun _ => rfl) (Nat.le_of_lt hj)) (by omega) (Nat.le_of_ble_eq_true rfl)) (setR_mid (off := ((j * 7 + 2) + 2)) (j := 4) (mk_pre (sz := 7) (fun _ => rfl) (Nat.le_of_lt hj)) (by omega) rfl (Nat.le_of_ble_eq_true rfl)) ?_
    simp only [killT, killB, SV.kill, CV.kill, List.map_cons, List.map_nil, List.any_cons, List.any_nil, List.contains_cons, List.contains_nil, List.nil_append, List.cons_append, Nat.reduceBEq, Bool.or_false, Bool.false_or, Bool.or_true, Bool.true_or, cond_true, cond_false]
    refine ops_nil ?_
    refine then_n ?_
    refine ok_seq ?_
    refine ok_region ?_
    refine o_pure rfl rfl (pu_move (.inl rfl) (ev_tmp rfl)) rfl rfl ?_
    refine o_pure rfl rfl (pu_addR rfl (ev_tmp rfl) (ev_int (inR_lit rfl)) (inR64 (by omega) (by omega))) rfl rfl ?_
    refine o_pure rfl rfl (pu_move (.inr rfl) (ev_tmp rfl)) rfl rfl ?_
    refine ops_nil ?_
    refine then_n ?_
    refine ok_seq ?_
    refine ok_region ?_
    refine o_pure rfl rfl (pu_move (.inl rfl) (ev_tmp rfl)) rfl rfl ?_
    refine o_pure rfl rfl (pu_move (.inl rfl) (ev_tmp rfl)) rfl rfl ?_
    refine o_pure rfl rfl (pu_indexK (i := j) hT rfl rfl rfl (ev_tmp rfl) rfl (ev_tmp rfl) rfl (by show _ < (x.length); omega)) rfl rfl ?_
    refine o_pure rfl rfl (pu_fieldE hT rfl rfl rfl (ev_tmp rfl)) rfl rfl ?_
    refine o_pure rfl rfl (pu_fieldE hT rfl rfl rfl (ev_tmp rfl)) rfl rfl ?_
    refine o_pure rfl rfl (pu_loadE1 hT rfl rfl (ev_tmp rfl) rfl (get_mid (off := ((j * 7 + 5) + 0)) (j := 5) (mk_pre (sz := 7) (fun _ => rfl) (Nat.le_of_lt hj)) (by omega) rfl)) rfl rfl ?_
    refine o_pure rfl rfl (pu_move (.inl rfl) (ev_tmp rfl)) rfl rfl ?_
    refine o_callN (t := 57) (ccs := mid ((mkL mkOp cOp (x.take j) k).flatMap eOp) [.int .i64 (k + (wSum cOp (x.take j) : Int)), .str (mText ((k + (wSum cOp (x.take j) : Int)) + (1))), .int .i64 (((k + (wSum cOp (x.take j) : Int)) + (1)) + (1)), .int .i64 ((((k + (wSum cOp (x.take j) : Int)) + (1)) + (1)) + (1)), .str (mText (((((k + (wSum cOp (x.take j) : Int)) + (1)) + (1)) + (1)) + (1))), fieldsD (mkL mkField cField ((x.getD (j : Int).toNat default).2.2.2.1) ((((((k + (wSum cOp (x.take j) : Int)) + (1)) + (1)) + (1)) + (1)) + (1))), .str ((x.getD (j : Int).toNat default).2.2.2.2)] ((x.drop (j + 1)).flatMap eOp)) 5059 rfl rfl rfl Try.call72 (ok_laws_markFieldS (by omega) (by omega)) rfl rfl (get_mid (off := ((j * 7 + 5) + 0)) (j := 5) (mk_pre (sz := 7) (fun _ => rfl) (Nat.le_of_lt hj)) (by omega) rfl) rfl (aw_cons (ev_tmp rfl) (aw_one (awc_key rfl)) (aw_cons (ev_tmp rfl) (aw_one (awc_dv rfl)) aw_nil)) rfl rfl (set_mid (off := ((j * 7 + 5) + 0)) (j := 5) (mk_pre (sz := 7) (fun _ => rfl) (Nat.le_of_lt hj)) (by omega) rfl (Nat.lt_of_lt_of_le (Nat.lt_succ_self _) (Nat.le_of_ble_eq_true rfl))) ?_
    simp only [killT, killB, SV.kill, CV.kill, List.map_cons, List.map_nil, List.any_cons, List.any_nil, List.contains_cons, List.contains_nil, List.nil_append, List.cons_append, Nat.reduceBEq, Bool.or_false, Bool.false_or, Bool.or_true, Bool.true_or, cond_true, cond_false]
    refine o_pure rfl rfl (pu_move (.inr rfl) (ev_tmp rfl)) rfl rfl ?_
    refine ops_nil ?_
    refine then_n ?_
    refine ok_seq ?_
    refine ok_region ?_
    refine o_pure rfl rfl (pu_move (.inl rfl) (ev_tmp rfl)) rfl rfl ?_
    refine o_pure rfl rfl (pu_move (.inl rfl) (ev_tmp rfl)) rfl rfl ?_
    refine o_pure rfl rfl (pu_move (.inl rfl) (ev_tmp rfl)) rfl rfl ?_
    refine o_call rfl rfl rfl Try.call71 (ok_laws_markText (by omega)) (as_cons (ev_tmp rfl) (ag_one ac_dv) as_nil) rfl rfl ?_
    refine o_pure rfl rfl (pu_indexK (i := j) hT rfl rfl rfl (ev_tmp rfl) rfl (ev_tmp rfl) rfl (by show _ < (x.length); omega)) rfl rfl ?_
    refine o_pure rfl rfl (pu_fieldE hT rfl rfl rfl (ev_tmp rfl)) rfl rfl ?_
    refine o_storeE (js := []) (cs := mid ((mkL mkOp cOp (x.take j) k).flatMap eOp) [.int .i64 (k + (wSum cOp (x.take j) : Int)), .str (mText ((k + (wSum cOp (x.take j) : Int)) + (1))), .int .i64 (((k + (wSum cOp (x.take j) : Int)) + (1)) + (1)), .int .i64 ((((k + (wSum cOp (x.take j) : Int)) + (1)) + (1)) + (1)), .str (mText (((((k + (wSum cOp (x.take j) : Int)) + (1)) + (1)) + (1)) + (1))), fieldsD (mkL mkField cField ((x.getD (j : Int).toNat default).2.2.2.1) ((((((k + (wSum cOp (x.take j) : Int)) + (1)) + (1)) + (1)) + (1)) + (1))), .str (mText (((((((k + (wSum cOp (x.take j) : Int)) + (1)) + (1)) + (1)) + (1)) + (1)) + (wSum cField ((x.getD (j : Int).toNat default).2.2.2.1) : Int)))] ((x.drop (j + 1)).flatMap eOp)) hT rfl rfl rfl rfl (ev_tmp rfl) (ev_tmp rfl) rfl rfl rfl rfl (ow_cons' (ow_dv rfl) ow_nil rfl) (by decide) (by decide) rfl (le_mid (off := (j * 7 + 6)) (n := 1) (j := 6) (mk_pre (sz := 7) (fun _ => rfl) (Nat.le_of_lt hj)) (by omega) (Nat.le_of_ble_eq_true rfl)) (setR_mid (off := (j * 7 + 6)) (j := 6) (mk_pre (sz := 7) (fun _ => rfl) (Nat.le_of_lt hj)) (by omega) rfl (Nat.le_of_ble_eq_true rfl)) ?_
    simp only [killT, killB, SV.kill, CV.kill, List.map_cons, List.map_nil, List.any_cons, List.any_nil, List.contains_cons, List.contains_nil, List.nil_append, List.cons_append, Nat.reduceBEq, Bool.or_false, Bool.false_or, Bool.or_true, Bool.true_or, cond_true, cond_false]
    refine ops_nil ?_
    refine then_n ?_
    refine ok_region ?_
    refine o_pure rfl rfl (pu_move (.inl rfl) (ev_tmp rfl)) rfl rfl ?_
    refine o_pure rfl rfl (pu_addR rfl (ev_tmp rfl) (ev_int (inR_lit rfl)) (inR64 (by omega) (by omega))) rfl rfl ?_
    refine o_pure rfl rfl (pu_move (.inr rfl) (ev_tmp rfl)) rfl rfl ?_
    refine ops_nil ?_
    refine blk_n ?_
    refine then_n ?_
    refine ok_region ?_
    refine o_pure rfl rfl (pu_move (.inl rfl) (ev_tmp rfl)) rfl rfl ?_
    refine o_pure rfl rfl (pu_addR rfl (ev_tmp rfl) (ev_int (inR_lit rfl)) (inR64 (by omega) (by omega))) rfl rfl ?_
    refine o_pure rfl rfl (pu_move (.inr rfl) (ev_tmp rfl)) rfl rfl ?_
    refine ops_nil ?_
    refine then_n ?_
    refine ⟨j + 1, ?_, ?_, weak_sub ⟨rfl, (eqSlotI (by omega)), rfl, rfl, trivial⟩ trivial ⟨(congrArg (fun cs => some (some (KC.mk true 102 7 x.length cs))) (mk_close (by omega) (by rfl))), trivial⟩ rfl⟩
    · omega
    · omega
  · skip
    have d1 := of_decide_eq_false c1
    refine ok_exit ?_
    refine then_e ?_
    refine then_e ?_
    refine blk_e rfl ?_
    refine then_n ?_
    refine ok_seq ?_
    refine ok_region ?_
    refine o_pure rfl rfl (pu_move (.inl rfl) (ev_tmp rfl)) rfl rfl ?_
    refine o_pure rfl rfl (pu_move (.inr rfl) (ev_tmp rfl)) rfl rfl ?_
    refine ops_nil ?_
    refine then_n ?_
    refine ok_weak (σ' := ⟨[(4, .one (.dv [] (.int .i64 (k + (wSum cOp (x.take j) : Int)))))], [], [(0, some (kcOf true (opsD (mkL mkOp cOp x k))))]⟩) (weak_sub ⟨rfl, trivial⟩ trivial ⟨(mk_fin (by omega)), trivial⟩ rfl) ?_
    refine ok_ret ?_
    refine fin1 (res_tmp rfl) ⟨eqI ?_, w1_ok rfl⟩
    have hq := wSum_all cOp x j (by omega); omega
set_option maxRecDepth 100000 in
theorem ok_laws_heldOpS {x y : List (OpT)} {k : Int} (hy : y = mkL mkOp cOp x k) (h0 : 0 ≤ k) (h1 : k + (wSum cOp x : Int) ≤ 4611686018427387904) : PFn Try.prog 33 [.one (.dv [] (opsD (y))), .one (.dv [] (.int .i64 (k)))] (.one (.dv [] (.int .i64 (k + (wSum cOp x : Int))))) := by
  refine ⟨fn_intro Try.func33 rfl Try.ntmps33 Try.results33 rfl (fun C => ?_)⟩
  refine ok_fact (x := .tmp 0) (ev_tmp rfl) (fun (f0 : ((y)).length ≤ 9223372036854775807) => ?_)
  refine ok_fact (x := .tmp 1) (ev_tmp rfl) (fun (f1 : -9223372036854775808 ≤ (k) ∧ (k) ≤ 9223372036854775807) => ?_)
  refine ok_seq ?_
  refine ok_region ?_
  refine o_pure rfl rfl (pu_move (.inr rfl) (ev_int (inR_lit rfl))) rfl rfl ?_
  refine ops_nil ?_
  refine then_n ?_
  refine ok_seq ?_
  refine ok_seq ?_
  refine ok_region ?_
  refine o_pure rfl rfl (pu_move (.inr rfl) (ev_int (inR_lit rfl))) rfl rfl ?_
  refine ops_nil ?_
  refine then_n ?_
  refine ok_block ?_
  refine ok_loop (ι := Nat) (fun zz => ⟨[(0, .one (.dv [] (opsD (y)))), (1, .one (.dv [] (.int .i64 (k + (wSum cOp (x.take zz) : Int))))), (5, .one (.dv [] (.int .i64 ((zz : Int)))))], [], []⟩) (fun zz => zz ≤ x.length) (fun zz => x.length - zz) (0) ?_ (weak_sub ⟨rfl, (eqSlotI (by simp [wSum])), rfl, trivial⟩ trivial trivial rfl) (fun zz hx => ?_)
  · exact Nat.zero_le _
  obtain ⟨j, rfl⟩ : ∃ v, v = zz := ⟨_, rfl⟩
  replace hx : j ≤ x.length := hx
  have hw := fun h => wSum_succ cOp x j h
  have hyl : y.length = x.length := by rw [hy, mkL_len]
  show Ok _ _ _ _ _ (⟨[(0, .one (.dv [] (opsD (y)))), (1, .one (.dv [] (.int .i64 (k + (wSum cOp (x.take j) : Int))))), (5, .one (.dv [] (.int .i64 ((j : Int)))))], [], []⟩ : St)
  refine ok_seq ?_
  refine ok_seq ?_
  refine ok_region ?_
  refine o_pure rfl rfl (pu_move (.inl rfl) (ev_tmp rfl)) rfl rfl ?_
  refine o_pure rfl rfl (pu_move (.inl rfl) (ev_tmp rfl)) rfl rfl ?_
  refine o_pure rfl rfl (pu_lenV hT rfl rfl (ev_tmp rfl)) rfl rfl ?_
  refine o_pure rfl rfl (pu_lss rfl (ev_tmp rfl) (ev_tmp rfl)) rfl rfl ?_
  refine ops_nil ?_
  refine then_n ?_
  refine ok_cond (ev_tmp rfl) (fun c1 => ?_) (fun c1 => ?_)
  · skip
    have d1 := of_decide_eq_true c1
    have hj : j < x.length := by omega
    obtain ⟨hw1, hw2⟩ := hw hj
    have hc : cOp (x.getD (j : Int).toNat default) = 6 + wSum cField ((x.getD (j : Int).toNat default).2.2.2.1) := rfl
    have he : y.getD (j : Int).toNat default = mkOp (x.getD (j : Int).toNat default) (k + (wSum cOp (x.take j) : Int)) := by rw [hy]; exact mkL_getD hj
    refine ok_skip ?_
    refine then_n ?_
    refine ok_seq ?_
    refine ok_block ?_
    refine ok_seq ?_
    refine ok_seq ?_
    refine ok_region ?_
    refine o_pure rfl rfl (pu_move (.inl rfl) (ev_tmp rfl)) rfl rfl ?_
    refine o_pure rfl rfl (pu_move (.inl rfl) (ev_tmp rfl)) rfl rfl ?_
    refine o_pure rfl rfl (pu_indexD hT rfl rfl rfl (ev_tmp rfl) (ev_tmp rfl) (fun _ => rfl) (by first | omega | (simp only [Bool.and_eq_true, Bool.or_eq_true, Bool.or_eq_false_iff, Bool.and_eq_false_iff, Bool.not_eq_true', Bool.not_eq_false', beq_iff_eq, decide_eq_true_eq, decide_eq_false_iff_not] at hg; omega) | (have hh := of_decide_eq_true (beq_tt hg); omega) | (have hh := of_decide_eq_true (beq_tt (and_r hg)); omega)) (by first | omega | (simp only [Bool.and_eq_true, Bool.or_eq_true, Bool.or_eq_false_iff, Bool.and_eq_false_iff, Bool.not_eq_true', Bool.not_eq_false', beq_iff_eq, decide_eq_true_eq, decide_eq_false_iff_not] at hg; omega) | (have hh := of_decide_eq_true (beq_tt hg); omega) | (have hh := of_decide_eq_true (beq_tt (and_r hg)); omega))) rfl rfl ?_
    refine o_pure rfl rfl (pu_fieldRef hT rfl rfl rfl (ev_tmp rfl)) rfl rfl ?_
    refine o_pure rfl rfl (pu_loadRef1 hT rfl rfl (ev_tmp rfl) rfl) rfl rfl ?_
    refine o_pure rfl rfl (pu_move (.inl rfl) (ev_tmp rfl)) rfl rfl ?_
    refine o_pure rfl rfl (pu_neq rfl (ev_tmp rfl) (ev_tmp rfl)) rfl rfl ?_
    refine ops_nil ?_
    refine then_n ?_
    refine ok_cond (ev_tmp rfl) (fun c2 => ?_) (fun c2 => ?_)
    · skip
      have d2 := nd_t c2
      refine ok_seq ?_
      refine ok_region ?_
      refine o_pure rfl rfl (pu_move (.inr rfl) (ev_int (inR_lit rfl))) rfl rfl ?_
      refine ops_nil ?_
      refine then_n ?_
      refine ok_ret ?_
      refine then_r ?_
      refine blk_r ?_
      refine then_r ?_
      refine then_r ?_
      refine blk_r ?_
      refine then_r ?_
      refine fin1 (res_tmp rfl) (eqI ?_)
      exfalso; rw [he] at c2; simp [mkOp, sEq] at c2
    · skip
      have d2 := nd_f c2
      refine ok_skip ?_
      refine then_n ?_
      refine ok_seq ?_
      refine ok_region ?_
      refine o_pure rfl rfl (pu_move (.inl rfl) (ev_tmp rfl)) rfl rfl ?_
      refine o_pure rfl rfl (pu_addR rfl (ev_tmp rfl) (ev_int (inR_lit rfl)) (inR64 (by omega) (by omega))) rfl rfl ?_
      refine o_pure rfl rfl (pu_move (.inr rfl) (ev_tmp rfl)) rfl rfl ?_
      refine ops_nil ?_
      refine then_n ?_
      refine ok_seq ?_
      refine ok_seq ?_
      refine ok_regionD (oB := []) (oK := []) (by kernel_rfl) rfl rfl ?_
      refine d_take 0 rfl (by kernel_rfl) rfl rfl (pu_move (.inl rfl) (ev_tmp rfl)) rfl rfl rfl rfl ?_
      refine d_take 1 rfl (by kernel_rfl) rfl rfl (pu_move (.inl rfl) (ev_tmp rfl)) rfl rfl rfl rfl ?_
      refine d_take 2 rfl (by kernel_rfl) rfl rfl (pu_indexD hT rfl rfl rfl (ev_tmp rfl) (ev_tmp rfl) (fun _ => rfl) (by first | omega | (simp only [Bool.and_eq_true, Bool.or_eq_true, Bool.or_eq_false_iff, Bool.and_eq_false_iff, Bool.not_eq_true', Bool.not_eq_false', beq_iff_eq, decide_eq_true_eq, decide_eq_false_iff_not] at hg; omega) | (have hh := of_decide_eq_true (beq_tt hg); omega) | (have hh := of_decide_eq_true (beq_tt (and_r hg)); omega)) (by first | omega | (simp only [Bool.and_eq_true, Bool.or_eq_true, Bool.or_eq_false_iff, Bool.and_eq_false_iff, Bool.not_eq_true', Bool.not_eq_false', beq_iff_eq, decide_eq_true_eq, decide_eq_false_iff_not] at hg; omega) | (have hh := of_decide_eq_true (beq_tt hg); omega) | (have hh := of_decide_eq_true (beq_tt (and_r hg)); omega))) rfl rfl rfl rfl ?_
      refine d_take 3 rfl (by kernel_rfl) rfl rfl (pu_fieldRef hT rfl rfl rfl (ev_tmp rfl)) rfl rfl rfl rfl ?_
      refine d_take 4 rfl (by kernel_rfl) rfl rfl (pu_loadRef1 hT rfl rfl (ev_tmp rfl) rfl) rfl rfl rfl rfl ?_
      refine d_take 5 rfl (by kernel_rfl) rfl rfl (pu_move (.inl rfl) (ev_tmp rfl)) rfl rfl rfl rfl ?_
      refine d_call 6 rfl (by kernel_rfl) rfl rfl rfl Try.call71 (ok_laws_markText (by omega)) (as_cons (ev_tmp rfl) (ag_one ac_dv) as_nil) rfl rfl rfl rfl ?_
      refine d_take 7 rfl (by kernel_rfl) rfl rfl (pu_sne rfl (ev_tmp rfl) (ev_tmp rfl)) rfl rfl rfl rfl ?_
      refine d_done (by kernel_rfl) ?_
      refine then_n ?_
      refine ok_cond (ev_tmp rfl) (fun c3 => ?_) (fun c3 => ?_)
      · skip
        refine ok_seq ?_
        refine ok_region ?_
        refine o_pure rfl rfl (pu_move (.inr rfl) (ev_int (inR_lit rfl))) rfl rfl ?_
        refine ops_nil ?_
        refine then_n ?_
        refine ok_ret ?_
        refine then_r ?_
        refine blk_r ?_
        refine then_r ?_
        refine then_r ?_
        refine blk_r ?_
        refine then_r ?_
        refine fin1 (res_tmp rfl) (eqI ?_)
        exfalso; rw [he] at c3; simp [mkOp, sEq] at c3
      · skip
        refine ok_skip ?_
        refine then_n ?_
        refine ok_seq ?_
        refine ok_region ?_
        refine o_pure rfl rfl (pu_move (.inl rfl) (ev_tmp rfl)) rfl rfl ?_
        refine o_pure rfl rfl (pu_addR rfl (ev_tmp rfl) (ev_int (inR_lit rfl)) (inR64 (by omega) (by omega))) rfl rfl ?_
        refine o_pure rfl rfl (pu_move (.inr rfl) (ev_tmp rfl)) rfl rfl ?_
        refine ops_nil ?_
        refine then_n ?_
        refine ok_seq ?_
        refine ok_seq ?_
        refine ok_region ?_
        refine o_pure rfl rfl (pu_move (.inl rfl) (ev_tmp rfl)) rfl rfl ?_
        refine o_pure rfl rfl (pu_move (.inl rfl) (ev_tmp rfl)) rfl rfl ?_
        refine o_pure rfl rfl (pu_indexD hT rfl rfl rfl (ev_tmp rfl) (ev_tmp rfl) (fun _ => rfl) (by first | omega | (simp only [Bool.and_eq_true, Bool.or_eq_true, Bool.or_eq_false_iff, Bool.and_eq_false_iff, Bool.not_eq_true', Bool.not_eq_false', beq_iff_eq, decide_eq_true_eq, decide_eq_false_iff_not] at hg; omega) | (have hh := of_decide_eq_true (beq_tt hg); omega) | (have hh := of_decide_eq_true (beq_tt (and_r hg)); omega)) (by first | omega | (simp only [Bool.and_eq_true, Bool.or_eq_true, Bool.or_eq_false_iff, Bool.and_eq_false_iff, Bool.not_eq_true', Bool.not_eq_false', beq_iff_eq, decide_eq_true_eq, decide_eq_false_iff_not] at hg; omega) | (have hh := of_decide_eq_true (beq_tt hg); omega) | (have hh := of_decide_eq_true (beq_tt (and_r hg)); omega))) rfl rfl ?_
        refine o_pure rfl rfl (pu_fieldRef hT rfl rfl rfl (ev_tmp rfl)) rfl rfl ?_
        refine o_pure rfl rfl (pu_fieldRef hT rfl rfl rfl (ev_tmp rfl)) rfl rfl ?_
        refine o_pure rfl rfl (pu_loadRef1 hT rfl rfl (ev_tmp rfl) rfl) rfl rfl ?_
        refine o_pure rfl rfl (pu_move (.inl rfl) (ev_tmp rfl)) rfl rfl ?_
        refine o_pure rfl rfl (pu_neq rfl (ev_tmp rfl) (ev_tmp rfl)) rfl rfl ?_
        refine ops_nil ?_
        refine then_n ?_
        refine ok_cond (ev_tmp rfl) (fun c4 => ?_) (fun c4 => ?_)
        · skip
          have d4 := nd_t c4
          refine ok_seq ?_
          refine ok_region ?_
          refine o_pure rfl rfl (pu_move (.inr rfl) (ev_int (inR_lit rfl))) rfl rfl ?_
          refine ops_nil ?_
          refine then_n ?_
          refine ok_ret ?_
          refine then_r ?_
          refine blk_r ?_
          refine then_r ?_
          refine then_r ?_
          refine blk_r ?_
          refine then_r ?_
          refine fin1 (res_tmp rfl) (eqI ?_)
          exfalso; rw [he] at c4; simp [mkOp, sEq] at c4
        · skip
          have d4 := nd_f c4
          refine ok_skip ?_
          refine then_n ?_
          refine ok_seq ?_
          refine ok_region ?_
          refine o_pure rfl rfl (pu_move (.inl rfl) (ev_tmp rfl)) rfl rfl ?_
          refine o_pure rfl rfl (pu_addR rfl (ev_tmp rfl) (ev_int (inR_lit rfl)) (inR64 (by omega) (by omega))) rfl rfl ?_
          refine o_pure rfl rfl (pu_move (.inr rfl) (ev_tmp rfl)) rfl rfl ?_
          refine ops_nil ?_
          refine then_n ?_
          refine ok_seq ?_
          refine ok_seq ?_
          refine ok_region ?_
          refine o_pure rfl rfl (pu_move (.inl rfl) (ev_tmp rfl)) rfl rfl ?_
          refine o_pure rfl rfl (pu_move (.inl rfl) (ev_tmp rfl)) rfl rfl ?_
          refine o_pure rfl rfl (pu_indexD hT rfl rfl rfl (ev_tmp rfl) (ev_tmp rfl) (fun _ => rfl) (by first | omega | (simp only [Bool.and_eq_true, Bool.or_eq_true, Bool.or_eq_false_iff, Bool.and_eq_false_iff, Bool.not_eq_true', Bool.not_eq_false', beq_iff_eq, decide_eq_true_eq, decide_eq_false_iff_not] at hg; omega) | (have hh := of_decide_eq_true (beq_tt hg); omega) | (have hh := of_decide_eq_true (beq_tt (and_r hg)); omega)) (by first | omega | (simp only [Bool.and_eq_true, Bool.or_eq_true, Bool.or_eq_false_iff, Bool.and_eq_false_iff, Bool.not_eq_true', Bool.not_eq_false', beq_iff_eq, decide_eq_true_eq, decide_eq_false_iff_not] at hg; omega) | (have hh := of_decide_eq_true (beq_tt hg); omega) | (have hh := of_decide_eq_true (beq_tt (and_r hg)); omega))) rfl rfl ?_
          refine o_pure rfl rfl (pu_fieldRef hT rfl rfl rfl (ev_tmp rfl)) rfl rfl ?_
          refine o_pure rfl rfl (pu_fieldRef hT rfl rfl rfl (ev_tmp rfl)) rfl rfl ?_
          refine o_pure rfl rfl (pu_loadRef1 hT rfl rfl (ev_tmp rfl) rfl) rfl rfl ?_
          refine o_pure rfl rfl (pu_move (.inl rfl) (ev_tmp rfl)) rfl rfl ?_
          refine o_pure rfl rfl (pu_neq rfl (ev_tmp rfl) (ev_tmp rfl)) rfl rfl ?_
          refine ops_nil ?_
          refine then_n ?_
          refine ok_cond (ev_tmp rfl) (fun c5 => ?_) (fun c5 => ?_)
          · skip
            have d5 := nd_t c5
            refine ok_seq ?_
            refine ok_region ?_
            refine o_pure rfl rfl (pu_move (.inr rfl) (ev_int (inR_lit rfl))) rfl rfl ?_
            refine ops_nil ?_
            refine then_n ?_
            refine ok_ret ?_
            refine then_r ?_
            refine blk_r ?_
            refine then_r ?_
            refine then_r ?_
            refine blk_r ?_
            refine then_r ?_
            refine fin1 (res_tmp rfl) (eqI ?_)
            exfalso; rw [he] at c5; simp [mkOp, sEq] at c5
          · skip
            have d5 := nd_f c5
            refine ok_skip ?_
            refine then_n ?_
            refine ok_seq ?_
            refine ok_region ?_
            refine o_pure rfl rfl (pu_move (.inl rfl) (ev_tmp rfl)) rfl rfl ?_
            refine o_pure rfl rfl (pu_addR rfl (ev_tmp rfl) (ev_int (inR_lit rfl)) (inR64 (by omega) (by omega))) rfl rfl ?_
            refine o_pure rfl rfl (pu_move (.inr rfl) (ev_tmp rfl)) rfl rfl ?_
            refine ops_nil ?_
            refine then_n ?_
            refine ok_seq ?_
            refine ok_seq ?_
            refine ok_regionD (oB := []) (oK := []) (by kernel_rfl) rfl rfl ?_
            refine d_take 0 rfl (by kernel_rfl) rfl rfl (pu_move (.inl rfl) (ev_tmp rfl)) rfl rfl rfl rfl ?_
            refine d_take 1 rfl (by kernel_rfl) rfl rfl (pu_move (.inl rfl) (ev_tmp rfl)) rfl rfl rfl rfl ?_
            refine d_take 2 rfl (by kernel_rfl) rfl rfl (pu_indexD hT rfl rfl rfl (ev_tmp rfl) (ev_tmp rfl) (fun _ => rfl) (by first | omega | (simp only [Bool.and_eq_true, Bool.or_eq_true, Bool.or_eq_false_iff, Bool.and_eq_false_iff, Bool.not_eq_true', Bool.not_eq_false', beq_iff_eq, decide_eq_true_eq, decide_eq_false_iff_not] at hg; omega) | (have hh := of_decide_eq_true (beq_tt hg); omega) | (have hh := of_decide_eq_true (beq_tt (and_r hg)); omega)) (by first | omega | (simp only [Bool.and_eq_true, Bool.or_eq_true, Bool.or_eq_false_iff, Bool.and_eq_false_iff, Bool.not_eq_true', Bool.not_eq_false', beq_iff_eq, decide_eq_true_eq, decide_eq_false_iff_not] at hg; omega) | (have hh := of_decide_eq_true (beq_tt hg); omega) | (have hh := of_decide_eq_true (beq_tt (and_r hg)); omega))) rfl rfl rfl rfl ?_
            refine d_take 3 rfl (by kernel_rfl) rfl rfl (pu_fieldRef hT rfl rfl rfl (ev_tmp rfl)) rfl rfl rfl rfl ?_
            refine d_take 4 rfl (by kernel_rfl) rfl rfl (pu_fieldRef hT rfl rfl rfl (ev_tmp rfl)) rfl rfl rfl rfl ?_
            refine d_take 5 rfl (by kernel_rfl) rfl rfl (pu_loadRef1 hT rfl rfl (ev_tmp rfl) rfl) rfl rfl rfl rfl ?_
            refine d_take 6 rfl (by kernel_rfl) rfl rfl (pu_move (.inl rfl) (ev_tmp rfl)) rfl rfl rfl rfl ?_
            refine d_call 7 rfl (by kernel_rfl) rfl rfl rfl Try.call71 (ok_laws_markText (by omega)) (as_cons (ev_tmp rfl) (ag_one ac_dv) as_nil) rfl rfl rfl rfl ?_
            refine d_take 8 rfl (by kernel_rfl) rfl rfl (pu_sne rfl (ev_tmp rfl) (ev_tmp rfl)) rfl rfl rfl rfl ?_
            refine d_done (by kernel_rfl) ?_
            refine then_n ?_
            refine ok_cond (ev_tmp rfl) (fun c6 => ?_) (fun c6 => ?_)
            · skip
              refine ok_seq ?_
              refine ok_region ?_
              refine o_pure rfl rfl (pu_move (.inr rfl) (ev_int (inR_lit rfl))) rfl rfl ?_
              refine ops_nil ?_
              refine then_n ?_
              refine ok_ret ?_
              refine then_r ?_
              refine blk_r ?_
              refine then_r ?_
              refine then_r ?_
              refine blk_r ?_
              refine then_r ?_
              refine fin1 (res_tmp rfl) (eqI ?_)
              exfalso; rw [he] at c6; simp [mkOp, sEq] at c6
            · skip
              refine ok_skip ?_
              refine then_n ?_
              refine ok_seq ?_
              refine ok_region ?_
              refine o_pure rfl rfl (pu_move (.inl rfl) (ev_tmp rfl)) rfl rfl ?_
              refine o_pure rfl rfl (pu_addR rfl (ev_tmp rfl) (ev_int (inR_lit rfl)) (inR64 (by omega) (by omega))) rfl rfl ?_
              refine o_pure rfl rfl (pu_move (.inr rfl) (ev_tmp rfl)) rfl rfl ?_
              refine ops_nil ?_
              refine then_n ?_
              refine ok_seq ?_
              refine ok_region ?_
              refine o_pure rfl rfl (pu_move (.inl rfl) (ev_tmp rfl)) rfl rfl ?_
              refine o_pure rfl rfl (pu_move (.inl rfl) (ev_tmp rfl)) rfl rfl ?_
              refine o_pure rfl rfl (pu_indexD hT rfl rfl rfl (ev_tmp rfl) (ev_tmp rfl) (fun _ => rfl) (by first | omega | (simp only [Bool.and_eq_true, Bool.or_eq_true, Bool.or_eq_false_iff, Bool.and_eq_false_iff, Bool.not_eq_true', Bool.not_eq_false', beq_iff_eq, decide_eq_true_eq, decide_eq_false_iff_not] at hg; omega) | (have hh := of_decide_eq_true (beq_tt hg); omega) | (have hh := of_decide_eq_true (beq_tt (and_r hg)); omega)) (by first | omega | (simp only [Bool.and_eq_true, Bool.or_eq_true, Bool.or_eq_false_iff, Bool.and_eq_false_iff, Bool.not_eq_true', Bool.not_eq_false', beq_iff_eq, decide_eq_true_eq, decide_eq_false_iff_not] at hg; omega) | (have hh := of_decide_eq_true (beq_tt hg); omega) | (have hh := of_decide_eq_true (beq_tt (and_r hg)); omega))) rfl rfl ?_
              refine o_pure rfl rfl (pu_fieldRef hT rfl rfl rfl (ev_tmp rfl)) rfl rfl ?_
              refine o_pure rfl rfl (pu_fieldRef hT rfl rfl rfl (ev_tmp rfl)) rfl rfl ?_
              refine o_pure rfl rfl (pu_loadRef1 hT rfl rfl (ev_tmp rfl) rfl) rfl rfl ?_
              refine o_pure rfl rfl (pu_move (.inl rfl) (ev_tmp rfl)) rfl rfl ?_
              refine o_call rfl rfl rfl Try.call81 (ok_laws_heldFieldS (x := (x.getD (j : Int).toNat default).2.2.2.1) (by rw [he]; rfl) (by omega) (by omega)) (as_cons (ev_tmp rfl) (ag_one ac_dv) (as_cons (ev_tmp rfl) (ag_one ac_dv) as_nil)) rfl rfl ?_
              refine o_pure rfl rfl (pu_move (.inr rfl) (ev_tmp rfl)) rfl rfl ?_
              refine ops_nil ?_
              refine then_n ?_
              refine ok_seq ?_
              refine ok_seq ?_
              refine ok_region ?_
              refine o_pure rfl rfl (pu_move (.inl rfl) (ev_tmp rfl)) rfl rfl ?_
              refine o_pure rfl rfl (pu_lss rfl (ev_tmp rfl) (ev_int (inR_lit rfl))) rfl rfl ?_
              refine ops_nil ?_
              refine then_n ?_
              refine ok_cond (ev_tmp rfl) (fun c7 => ?_) (fun c7 => ?_)
              · skip
                have d7 := of_decide_eq_true c7
                refine ok_seq ?_
                refine ok_region ?_
                refine o_pure rfl rfl (pu_move (.inr rfl) (ev_int (inR_lit rfl))) rfl rfl ?_
                refine ops_nil ?_
                refine then_n ?_
                refine ok_ret ?_
                refine then_r ?_
                refine blk_r ?_
                refine then_r ?_
                refine then_r ?_
                refine blk_r ?_
                refine then_r ?_
                refine fin1 (res_tmp rfl) (eqI ?_)
                exfalso; omega
              · skip
                have d7 := of_decide_eq_false c7
                refine ok_skip ?_
                refine then_n ?_
                refine ok_seq ?_
                refine ok_seq ?_
                refine ok_regionD (oB := []) (oK := []) (by kernel_rfl) rfl rfl ?_
                refine d_take 0 rfl (by kernel_rfl) rfl rfl (pu_move (.inl rfl) (ev_tmp rfl)) rfl rfl rfl rfl ?_
                refine d_take 1 rfl (by kernel_rfl) rfl rfl (pu_move (.inl rfl) (ev_tmp rfl)) rfl rfl rfl rfl ?_
                refine d_take 2 rfl (by kernel_rfl) rfl rfl (pu_indexD hT rfl rfl rfl (ev_tmp rfl) (ev_tmp rfl) (fun _ => rfl) (by first | omega | (simp only [Bool.and_eq_true, Bool.or_eq_true, Bool.or_eq_false_iff, Bool.and_eq_false_iff, Bool.not_eq_true', Bool.not_eq_false', beq_iff_eq, decide_eq_true_eq, decide_eq_false_iff_not] at hg; omega) | (have hh := of_decide_eq_true (beq_tt hg); omega) | (have hh := of_decide_eq_true (beq_tt (and_r hg)); omega)) (by first | omega | (simp only [Bool.and_eq_true, Bool.or_eq_true, Bool.or_eq_false_iff, Bool.and_eq_false_iff, Bool.not_eq_true', Bool.not_eq_false', beq_iff_eq, decide_eq_true_eq, decide_eq_false_iff_not] at hg; omega) | (have hh := of_decide_eq_true (beq_tt hg); omega) | (have hh := of_decide_eq_true (beq_tt (and_r hg)); omega))) rfl rfl rfl rfl ?_
                refine d_take 3 rfl (by kernel_rfl) rfl rfl (pu_fieldRef hT rfl rfl rfl (ev_tmp rfl)) rfl rfl rfl rfl ?_
                refine d_take 4 rfl (by kernel_rfl) rfl rfl (pu_loadRef1 hT rfl rfl (ev_tmp rfl) rfl) rfl rfl rfl rfl ?_
                refine d_take 5 rfl (by kernel_rfl) rfl rfl (pu_move (.inl rfl) (ev_tmp rfl)) rfl rfl rfl rfl ?_
                refine d_call 6 rfl (by kernel_rfl) rfl rfl rfl Try.call71 (ok_laws_markText (by omega)) (as_cons (ev_tmp rfl) (ag_one ac_dv) as_nil) rfl rfl rfl rfl ?_
                refine d_take 7 rfl (by kernel_rfl) rfl rfl (pu_sne rfl (ev_tmp rfl) (ev_tmp rfl)) rfl rfl rfl rfl ?_
                refine d_done (by kernel_rfl) ?_
                refine then_n ?_
                refine ok_cond (ev_tmp rfl) (fun c8 => ?_) (fun c8 => ?_)
                · skip
                  refine ok_seq ?_
                  refine ok_region ?_
                  refine o_pure rfl rfl (pu_move (.inr rfl) (ev_int (inR_lit rfl))) rfl rfl ?_
                  refine ops_nil ?_
                  refine then_n ?_
                  refine ok_ret ?_
                  refine then_r ?_
                  refine blk_r ?_
                  refine then_r ?_
                  refine then_r ?_
                  refine blk_r ?_
                  refine then_r ?_
                  refine fin1 (res_tmp rfl) (eqI ?_)
                  exfalso; rw [he] at c8; simp [mkOp, sEq] at c8
                · skip
                  refine ok_skip ?_
                  refine then_n ?_
                  refine ok_region ?_
                  refine o_pure rfl rfl (pu_move (.inl rfl) (ev_tmp rfl)) rfl rfl ?_
                  refine o_pure rfl rfl (pu_addR rfl (ev_tmp rfl) (ev_int (inR_lit rfl)) (inR64 (by omega) (by omega))) rfl rfl ?_
                  refine o_pure rfl rfl (pu_move (.inr rfl) (ev_tmp rfl)) rfl rfl ?_
                  refine ops_nil ?_
                  refine blk_n ?_
                  refine then_n ?_
                  refine ok_region ?_
                  refine o_pure rfl rfl (pu_move (.inl rfl) (ev_tmp rfl)) rfl rfl ?_
                  refine o_pure rfl rfl (pu_addR rfl (ev_tmp rfl) (ev_int (inR_lit rfl)) (inR64 (by omega) (by omega))) rfl rfl ?_
                  refine o_pure rfl rfl (pu_move (.inr rfl) (ev_tmp rfl)) rfl rfl ?_
                  refine ops_nil ?_
                  refine then_n ?_
                  refine ⟨j + 1, ?_, ?_, weak_sub ⟨rfl, (eqSlotI (by omega)), rfl, trivial⟩ trivial trivial rfl⟩
                  · omega
                  · omega
  · skip
    have d1 := of_decide_eq_false c1
    refine ok_exit ?_
    refine then_e ?_
    refine then_e ?_
    refine blk_e rfl ?_
    refine then_n ?_
    refine ok_seq ?_
    refine ok_region ?_
    refine o_pure rfl rfl (pu_move (.inl rfl) (ev_tmp rfl)) rfl rfl ?_
    refine o_pure rfl rfl (pu_move (.inr rfl) (ev_tmp rfl)) rfl rfl ?_
    refine ops_nil ?_
    refine then_n ?_
    refine ok_ret ?_
    refine fin1 (res_tmp rfl) (eqI ?_)
    have hq := wSum_all cOp x j (by omega); omega
end Go.Proofs.Ytlogahkchenpdaa

namespace Go.Proofs.Ytlogahkchenpdaa
open Go.RowKit
open Go.Proofs
set_option linter.unusedVariables false
set_option linter.unusedSimpArgs false
def mkTx (x : TxT) (k : Int) : TxT := (k, mkL mkOp cOp (x.2.1) ((k) + (1)), ((k) + (1)) + (wSum cOp (x.2.1) : Int), (((k) + (1)) + (wSum cOp (x.2.1) : Int)) + (1), mkL mkStore cStore (x.2.2.2.2) (((((k) + (1)) + (wSum cOp (x.2.1) : Int)) + (1)) + (1)))
def cTx (x : TxT) : Nat := 3 + wSum cOp (x.2.1) + wSum cStore (x.2.2.2.2)
theorem cTx_le (x : TxT) : cTx x ≤ 8 * (1 + wTx x) := by
  have h1 := wSum_bound cOp_le (x.2.1)
  have h4 := wSum_bound cStore_le (x.2.2.2.2)
  simp only [cTx, wTx]
  omega
def mvTxQueue (x : List TxT) (k : Int) : List TxT := mkL mkTx cTx (x) (k)
set_option maxRecDepth 100000 in
theorem ok_laws_markTxS {x : List (TxT)} {k : Int} (h0 : 0 ≤ k) (h1 : k + (wSum cTx x : Int) ≤ 4611686018427387904) : WFn Try.prog 110 [.one (.key 0), .one (.dv [] (.int .i64 (k)))] (.one (.dv [] (.int .i64 (k + (wSum cTx x : Int))))) [(0, kcOf true (.sl 138 5 (x.length) (x.flatMap eTx)))] [(0, kcOf true (txsD (mkL mkTx cTx x k)))] := by
  refine ⟨fn_intro Try.func110 rfl Try.ntmps110 Try.results110 rfl (fun C => ?_)⟩
  have hln : x.length ≤ wSum cTx x := wSum_ge (fun _ => by simp only [cTx]; omega) x
  refine ok_fact (x := .tmp 1) (ev_tmp rfl) (fun (f1 : -9223372036854775808 ≤ (k) ∧ (k) ≤ 9223372036854775807) => ?_)
  refine ok_seq ?_
  refine ok_region ?_
  refine o_pure rfl rfl (pu_move (.inr rfl) (ev_int (inR_lit rfl))) rfl rfl ?_
  refine ops_nil ?_
  refine then_n ?_
  refine ok_seq ?_
  refine ok_seq ?_
  refine ok_region ?_
  refine o_pure rfl rfl (pu_move (.inr rfl) (ev_int (inR_lit rfl))) rfl rfl ?_
  refine ops_nil ?_
  refine then_n ?_
  refine ok_block ?_
  refine ok_loop (ι := Nat) (fun zz => ⟨[(0, .one (.key 0)), (1, .one (.dv [] (.int .i64 (k + (wSum cTx (x.take zz) : Int))))), (4, .one (.dv [] (.int .i64 (0)))), (5, .one (.dv [] (.int .i64 ((zz : Int)))))], [], [(0, some ⟨true, 138, 5, x.length, (mkL mkTx cTx (x.take zz) k).flatMap eTx ++ (x.drop zz).flatMap eTx⟩)]⟩) (fun zz => zz ≤ x.length) (fun zz => x.length - zz) (0) ?_ (weak_sub ⟨rfl, (eqSlotI (by simp [wSum])), rfl, rfl, trivial⟩ trivial ⟨rfl, trivial⟩ rfl) (fun zz hx => ?_)
  · exact Nat.zero_le _
  obtain ⟨j, rfl⟩ : ∃ v, v = zz := ⟨_, rfl⟩
  replace hx : j ≤ x.length := hx
  have hw := fun h => wSum_succ cTx x j h
  show Ok _ _ _ _ _ (⟨[(0, .one (.key 0)), (1, .one (.dv [] (.int .i64 (k + (wSum cTx (x.take j) : Int))))), (4, .one (.dv [] (.int .i64 (0)))), (5, .one (.dv [] (.int .i64 ((j : Int)))))], [], [(0, some ⟨true, 138, 5, x.length, (mkL mkTx cTx (x.take j) k).flatMap eTx ++ (x.drop j).flatMap eTx⟩)]⟩ : St)
  refine ok_seq ?_
  refine ok_seq ?_
  refine ok_region ?_
  refine o_pure rfl rfl (pu_move (.inl rfl) (ev_tmp rfl)) rfl rfl ?_
  refine o_pure rfl rfl (pu_move (.inl rfl) (ev_tmp rfl)) rfl rfl ?_
  refine o_pure rfl rfl (pu_lenKn (n := (x.length)) hT rfl rfl (ev_tmp rfl) rfl rfl) rfl rfl ?_
  refine o_pure rfl rfl (pu_lss rfl (ev_tmp rfl) (ev_tmp rfl)) rfl rfl ?_
  refine ops_nil ?_
  refine then_n ?_
  refine ok_cond (ev_tmp rfl) (fun c1 => ?_) (fun c1 => ?_)
  · skip
    have d1 := of_decide_eq_true c1
    have hj : j < x.length := by omega
    obtain ⟨hw1, hw2⟩ := hw hj
    have hc : cTx (x.getD (j : Int).toNat default) = 3 + wSum cOp ((x.getD (j : Int).toNat default).2.1) + wSum cStore ((x.getD (j : Int).toNat default).2.2.2.2) := rfl
    refine ok_kcs (k := 0) (cs' := mid ((mkL mkTx cTx (x.take j) k).flatMap eTx) [.int .i64 ((x.getD (j : Int).toNat default).1), opsD ((x.getD (j : Int).toNat default).2.1), .int .i64 ((x.getD (j : Int).toNat default).2.2.1), .int .i64 ((x.getD (j : Int).toNat default).2.2.2.1), storesD ((x.getD (j : Int).toNat default).2.2.2.2)] ((x.drop (j + 1)).flatMap eTx)) rfl (mk_open hj) ?_
    refine ok_skip ?_
    refine then_n ?_
    refine ok_seq ?_
    refine ok_block ?_
    refine ok_seq ?_
    refine ok_region ?_
    refine o_pure rfl rfl (pu_move (.inl rfl) (ev_tmp rfl)) rfl rfl ?_
    refine o_pure rfl rfl (pu_move (.inl rfl) (ev_tmp rfl)) rfl rfl ?_
    refine o_pure rfl rfl (pu_move (.inl rfl) (ev_tmp rfl)) rfl rfl ?_
    refine o_pure rfl rfl (pu_indexK (i := j) hT rfl rfl rfl (ev_tmp rfl) rfl (ev_tmp rfl) rfl (by show _ < (x.length); omega)) rfl rfl ?_
    refine o_pure rfl rfl (pu_fieldE hT rfl rfl rfl (ev_tmp rfl)) rfl rfl ?_
    refine o_storeE (js := []) (cs := mid ((mkL mkTx cTx (x.take j) k).flatMap eTx) [.int .i64 (k + (wSum cTx (x.take j) : Int)), opsD ((x.getD (j : Int).toNat default).2.1), .int .i64 ((x.getD (j : Int).toNat default).2.2.1), .int .i64 ((x.getD (j : Int).toNat default).2.2.2.1), storesD ((x.getD (j : Int).toNat default).2.2.2.2)] ((x.drop (j + 1)).flatMap eTx)) hT rfl rfl rfl rfl (ev_tmp rfl) (ev_tmp rfl) rfl rfl rfl rfl (ow_cons' (ow_dv rfl) ow_nil rfl) (by decide) (by decide) rfl (le_mid (off := (j * 5 + 0)) (n := 1) (j := 0) (mk_pre (sz := 5) (fun _ => rfl) (Nat.le_of_lt hj)) (by omega) (Nat.le_of_ble_eq_true rfl)) (setR_mid (off := (j * 5 + 0)) (j := 0) (mk_pre (sz := 5) (fun _ => rfl) (Nat.le_of_lt hj)) (by omega) rfl (Nat.le_of_ble_eq_true rfl)) ?_
    simp only [killT, killB, SV.kill, CV.kill, List.map_cons, List.map_nil, List.any_cons, List.any_nil, List.contains_cons, List.contains_nil, List.nil_append, List.cons_append, Nat.reduceBEq, Bool.or_false, Bool.false_or, Bool.or_true, Bool.true_or, cond_true, cond_false]
    refine ops_nil ?_
    refine then_n ?_
    refine ok_seq ?_
    refine ok_region ?_
    refine o_pure rfl rfl (pu_move (.inl rfl) (ev_tmp rfl)) rfl rfl ?_
    refine o_pure rfl rfl (pu_addR rfl (ev_tmp rfl) (ev_int (inR_lit rfl)) (inR64 (by omega) (by omega))) rfl rfl ?_
    refine o_pure rfl rfl (pu_move (.inr rfl) (ev_tmp rfl)) rfl rfl ?_
    refine ops_nil ?_
    refine then_n ?_
    refine ok_seq ?_
    refine ok_region ?_
    refine o_pure rfl rfl (pu_move (.inl rfl) (ev_tmp rfl)) rfl rfl ?_
    refine o_pure rfl rfl (pu_move (.inl rfl) (ev_tmp rfl)) rfl rfl ?_
    refine o_pure rfl rfl (pu_indexK (i := j) hT rfl rfl rfl (ev_tmp rfl) rfl (ev_tmp rfl) rfl (by show _ < (x.length); omega)) rfl rfl ?_
    refine o_pure rfl rfl (pu_fieldE hT rfl rfl rfl (ev_tmp rfl)) rfl rfl ?_
    refine o_pure rfl rfl (pu_loadE1 hT rfl rfl (ev_tmp rfl) rfl (get_mid (off := (j * 5 + 1)) (j := 1) (mk_pre (sz := 5) (fun _ => rfl) (Nat.le_of_lt hj)) (by omega) rfl)) rfl rfl ?_
    refine o_pure rfl rfl (pu_move (.inl rfl) (ev_tmp rfl)) rfl rfl ?_
    refine o_callN (t := 23) (ccs := mid ((mkL mkTx cTx (x.take j) k).flatMap eTx) [.int .i64 (k + (wSum cTx (x.take j) : Int)), opsD (mkL mkOp cOp ((x.getD (j : Int).toNat default).2.1) ((k + (wSum cTx (x.take j) : Int)) + (1))), .int .i64 ((x.getD (j : Int).toNat default).2.2.1), .int .i64 ((x.getD (j : Int).toNat default).2.2.2.1), storesD ((x.getD (j : Int).toNat default).2.2.2.2)] ((x.drop (j + 1)).flatMap eTx)) 5025 rfl rfl rfl Try.call27 (ok_laws_markOpS (by omega) (by omega)) rfl rfl (get_mid (off := (j * 5 + 1)) (j := 1) (mk_pre (sz := 5) (fun _ => rfl) (Nat.le_of_lt hj)) (by omega) rfl) rfl (aw_cons (ev_tmp rfl) (aw_one (awc_key rfl)) (aw_cons (ev_tmp rfl) (aw_one (awc_dv rfl)) aw_nil)) rfl rfl (set_mid (off := (j * 5 + 1)) (j := 1) (mk_pre (sz := 5) (fun _ => rfl) (Nat.le_of_lt hj)) (by omega) rfl (Nat.lt_of_lt_of_le (Nat.lt_succ_self _) (Nat.le_of_ble_eq_true rfl))) ?_
    simp only [killT, killB, SV.kill, CV.kill, List.map_cons, List.map_nil, List.any_cons, List.any_nil, List.contains_cons, List.contains_nil, List.nil_append, List.cons_append, Nat.reduceBEq, Bool.or_false, Bool.false_or, Bool.or_true, Bool.true_or, cond_true, cond_false]
    refine o_pure rfl rfl (pu_move (.inr rfl) (ev_tmp rfl)) rfl rfl ?_
    refine ops_nil ?_
    refine then_n ?_
    refine ok_seq ?_
    refine ok_region ?_
    refine o_pure rfl rfl (pu_move (.inl rfl) (ev_tmp rfl)) rfl rfl ?_
    refine o_pure rfl rfl (pu_move (.inl rfl) (ev_tmp rfl)) rfl rfl ?_
    refine o_pure rfl rfl (pu_move (.inl rfl) (ev_tmp rfl)) rfl rfl ?_
    refine o_pure rfl rfl (pu_indexK (i := j) hT rfl rfl rfl (ev_tmp rfl) rfl (ev_tmp rfl) rfl (by show _ < (x.length); omega)) rfl rfl ?_
    refine o_pure rfl rfl (pu_fieldE hT rfl rfl rfl (ev_tmp rfl)) rfl rfl ?_
    refine o_storeE (js := []) (cs := mid ((mkL mkTx cTx (x.take j) k).flatMap eTx) [.int .i64 (k + (wSum cTx (x.take j) : Int)), opsD (mkL mkOp cOp ((x.getD (j : Int).toNat default).2.1) ((k + (wSum cTx (x.take j) : Int)) + (1))), .int .i64 (((k + (wSum cTx (x.take j) : Int)) + (1)) + (wSum cOp ((x.getD (j : Int).toNat default).2.1) : Int)), .int .i64 ((x.getD (j : Int).toNat default).2.2.2.1), storesD ((x.getD (j : Int).toNat default).2.2.2.2)] ((x.drop (j + 1)).flatMap eTx)) hT rfl rfl rfl rfl (ev_tmp rfl) (ev_tmp rfl) rfl rfl rfl rfl (ow_cons' (ow_dv rfl) ow_nil rfl) (by decide) (by decide) rfl (le_mid (off := (j * 5 + 2)) (n := 1) (j := 2) (mk_pre (sz := 5) (fun _ => rfl) (Nat.le_of_lt hj)) (by omega) (Nat.le_of_ble_eq_true rfl)) (setR_mid (off := (j * 5 + 2)) (j := 2) (mk_pre (sz := 5) (fun _ => rfl) (Nat.le_of_lt hj)) (by omega) rfl (Nat.le_of_ble_eq_true rfl)) ?_
    simp only [killT, killB, SV.kill, CV.kill, List.map_cons, List.map_nil, List.any_cons, List.any_nil, List.contains_cons, List.contains_nil, List.nil_append, List.cons_append, Nat.reduceBEq, Bool.or_false, Bool.false_or, Bool.or_true, Bool.true_or, cond_true, cond_false]
    refine ops_nil ?_
    refine then_n ?_
    refine ok_seq ?_
    refine ok_region ?_
    refine o_pure rfl rfl (pu_move (.inl rfl) (ev_tmp rfl)) rfl rfl ?_
    refine o_pure rfl rfl (pu_addR rfl (ev_tmp rfl) (ev_int (inR_lit rfl)) (inR64 (by omega) (by omega))) rfl rfl ?_
    refine o_pure rfl rfl (pu_move (.inr rfl) (ev_tmp rfl)) rfl rfl ?_
    refine ops_nil ?_
    refine then_n ?_
    refine ok_seq ?_
    refine ok_region ?_
    refine o_pure rfl rfl (pu_move (.inl rfl) (ev_tmp rfl)) rfl rfl ?_
    refine o_pure rfl rfl (pu_move (.inl rfl) (ev_tmp rfl)) rfl rfl ?_
    refine o_pure rfl rfl (pu_move (.inl rfl) (ev_tmp rfl)) rfl rfl ?_
    refine o_pure rfl rfl (pu_indexK (i := j) hT rfl rfl rfl (ev_tmp rfl) rfl (ev_tmp rfl) rfl (by show _ < (x.length); omega)) rfl rfl ?_
    refine o_pure rfl rfl (pu_fieldE hT rfl rfl rfl (ev_tmp rfl)) rfl rfl ?_
    refine o_storeE (js := []) (cs := mid ((mkL mkTx cTx (x.take j) k).flatMap eTx) [.int .i64 (k + (wSum cTx (x.take j) : Int)), opsD (mkL mkOp cOp ((x.getD (j : Int).toNat default).2.1) ((k + (wSum cTx (x.take j) : Int)) + (1))), .int .i64 (((k + (wSum cTx (x.take j) : Int)) + (1)) + (wSum cOp ((x.getD (j : Int).toNat default).2.1) : Int)), .int .i64 ((((k + (wSum cTx (x.take j) : Int)) + (1)) + (wSum cOp ((x.getD (j : Int).toNat default).2.1) : Int)) + (1)), storesD ((x.getD (j : Int).toNat default).2.2.2.2)] ((x.drop (j + 1)).flatMap eTx)) hT rfl rfl rfl rfl (ev_tmp rfl) (ev_tmp rfl) rfl rfl rfl rfl (ow_cons' (ow_dv rfl) ow_nil rfl) (by decide) (by decide) rfl (le_mid (off := (j * 5 + 3)) (n := 1) (j := 3) (mk_pre (sz := 5) (fun _ => rfl) (Nat.le_of_lt hj)) (by omega) (Nat.le_of_ble_eq_true rfl)) (setR_mid (off := (j * 5 + 3)) (j := 3) (mk_pre (sz := 5) (fun _ => rfl) (Nat.le_of_lt hj)) (by omega) rfl (Nat.le_of_ble_eq_true rfl)) ?_
    simp only [killT, killB, SV.kill, CV.kill, List.map_cons, List.map_nil, List.any_cons, List.any_nil, List.contains_cons, List.contains_nil, List.nil_append, List.cons_append, Nat.reduceBEq, Bool.or_false, Bool.false_or, Bool.or_true, Bool.true_or, cond_true, cond_false]
    refine ops_nil ?_
    refine then_n ?_
    refine ok_seq ?_
    refine ok_region ?_
    refine o_pure rfl rfl (pu_move (.inl rfl) (ev_tmp rfl)) rfl rfl ?_
    refine o_pure rfl rfl (pu_addR rfl (ev_tmp rfl) (ev_int (inR_lit rfl)) (inR64 (by omega) (by omega))) rfl rfl ?_
    refine o_pure rfl rfl (pu_move (.inr rfl) (ev_tmp rfl)) rfl rfl ?_
    refine ops_nil ?_
    refine then_n ?_
    refine ok_region ?_
    refine o_pure rfl rfl (pu_move (.inl rfl) (ev_tmp rfl)) rfl rfl ?_
    refine o_pure rfl rfl (pu_move (.inl rfl) (ev_tmp rfl)) rfl rfl ?_
    refine o_pure rfl rfl (pu_indexK (i := j) hT rfl rfl rfl (ev_tmp rfl) rfl (ev_tmp rfl) rfl (by show _ < (x.length); omega)) rfl rfl ?_
    refine o_pure rfl rfl (pu_fieldE hT rfl rfl rfl (ev_tmp rfl)) rfl rfl ?_
    refine o_pure rfl rfl (pu_loadE1 hT rfl rfl (ev_tmp rfl) rfl (get_mid (off := (j * 5 + 4)) (j := 4) (mk_pre (sz := 5) (fun _ => rfl) (Nat.le_of_lt hj)) (by omega) rfl)) rfl rfl ?_
    refine o_pure rfl rfl (pu_move (.inl rfl) (ev_tmp rfl)) rfl rfl ?_
    refine o_callN (t := 44) (ccs := mid ((mkL mkTx cTx (x.take j) k).flatMap eTx) [.int .i64 (k + (wSum cTx (x.take j) : Int)), opsD (mkL mkOp cOp ((x.getD (j : Int).toNat default).2.1) ((k + (wSum cTx (x.take j) : Int)) + (1))), .int .i64 (((k + (wSum cTx (x.take j) : Int)) + (1)) + (wSum cOp ((x.getD (j : Int).toNat default).2.1) : Int)), .int .i64 ((((k + (wSum cTx (x.take j) : Int)) + (1)) + (wSum cOp ((x.getD (j : Int).toNat default).2.1) : Int)) + (1)), storesD (mkL mkStore cStore ((x.getD (j : Int).toNat default).2.2.2.2) (((((k + (wSum cTx (x.take j) : Int)) + (1)) + (wSum cOp ((x.getD (j : Int).toNat default).2.1) : Int)) + (1)) + (1)))] ((x.drop (j + 1)).flatMap eTx)) 5046 rfl rfl rfl Try.call138 (ok_laws_markStoreS (by omega) (by omega)) rfl rfl (get_mid (off := (j * 5 + 4)) (j := 4) (mk_pre (sz := 5) (fun _ => rfl) (Nat.le_of_lt hj)) (by omega) rfl) rfl (aw_cons (ev_tmp rfl) (aw_one (awc_key rfl)) (aw_cons (ev_tmp rfl) (aw_one (awc_dv rfl)) aw_nil)) rfl rfl (set_mid (off := (j * 5 + 4)) (j := 4) (mk_pre (sz := 5) (fun _ => rfl) (Nat.le_of_lt hj)) (by omega) rfl (Nat.lt_of_lt_of_le (Nat.lt_succ_self _) (Nat.le_of_ble_eq_true rfl))) ?_
    simp only [killT, killB, SV.kill, CV.kill, List.map_cons, List.map_nil, List.any_cons, List.any_nil, List.contains_cons, List.contains_nil, List.nil_append, List.cons_append, Nat.reduceBEq, Bool.or_false, Bool.false_or, Bool.or_true, Bool.true_or, cond_true, cond_false]
    refine o_pure rfl rfl (pu_move (.inr rfl) (ev_tmp rfl)) rfl rfl ?_
    refine ops_nil ?_
    refine blk_n ?_
    refine then_n ?_
    refine ok_region ?_
    refine o_pure rfl rfl (pu_move (.inl rfl) (ev_tmp rfl)) rfl rfl ?_
    refine o_pure rfl rfl (pu_addR rfl (ev_tmp rfl) (ev_int (inR_lit rfl)) (inR64 (by omega) (by omega))) rfl rfl ?_
    refine o_pure rfl rfl (pu_move (.inr rfl) (ev_tmp rfl)) rfl rfl ?_
    refine ops_nil ?_
    refine then_n ?_
    refine ⟨j + 1, ?_, ?_, weak_sub ⟨rfl, (eqSlotI (by omega)), rfl, rfl, trivial⟩ trivial ⟨(congrArg (fun cs => some (some (KC.mk true 138 5 x.length cs))) (mk_close (by omega) (by rfl))), trivial⟩ rfl⟩
    · omega
    · omega
  · skip
    have d1 := of_decide_eq_false c1
    refine ok_exit ?_
    refine then_e ?_
    refine then_e ?_
    refine blk_e rfl ?_
    refine then_n ?_
    refine ok_seq ?_
    refine ok_region ?_
    refine o_pure rfl rfl (pu_move (.inl rfl) (ev_tmp rfl)) rfl rfl ?_
    refine o_pure rfl rfl (pu_move (.inr rfl) (ev_tmp rfl)) rfl rfl ?_
    refine ops_nil ?_
    refine then_n ?_
    refine ok_weak (σ' := ⟨[(4, .one (.dv [] (.int .i64 (k + (wSum cTx (x.take j) : Int)))))], [], [(0, some (kcOf true (txsD (mkL mkTx cTx x k))))]⟩) (weak_sub ⟨rfl, trivial⟩ trivial ⟨(mk_fin (by omega)), trivial⟩ rfl) ?_
    refine ok_ret ?_
    refine fin1 (res_tmp rfl) ⟨eqI ?_, w1_ok rfl⟩
    have hq := wSum_all cTx x j (by omega); omega
set_option maxRecDepth 100000 in
theorem ok_laws_heldTxS {x y : List (TxT)} {k : Int} (hy : y = mkL mkTx cTx x k) (h0 : 0 ≤ k) (h1 : k + (wSum cTx x : Int) ≤ 4611686018427387904) : PFn Try.prog 111 [.one (.dv [] (txsD (y))), .one (.dv [] (.int .i64 (k)))] (.one (.dv [] (.int .i64 (k + (wSum cTx x : Int))))) := by
  refine ⟨fn_intro Try.func111 rfl Try.ntmps111 Try.results111 rfl (fun C => ?_)⟩
  refine ok_fact (x := .tmp 0) (ev_tmp rfl) (fun (f0 : ((y)).length ≤ 9223372036854775807) => ?_)
  refine ok_fact (x := .tmp 1) (ev_tmp rfl) (fun (f1 : -9223372036854775808 ≤ (k) ∧ (k) ≤ 9223372036854775807) => ?_)
  refine ok_seq ?_
  refine ok_region ?_
  refine o_pure rfl rfl (pu_move (.inr rfl) (ev_int (inR_lit rfl))) rfl rfl ?_
  refine ops_nil ?_
  refine then_n ?_
  refine ok_seq ?_
  refine ok_seq ?_
  refine ok_region ?_
  refine o_pure rfl rfl (pu_move (.inr rfl) (ev_int (inR_lit rfl))) rfl rfl ?_
  refine ops_nil ?_
  refine then_n ?_
  refine ok_block ?_
  refine ok_loop (ι := Nat) (fun zz => ⟨[(0, .one (.dv [] (txsD (y)))), (1, .one (.dv [] (.int .i64 (k + (wSum cTx (x.take zz) : Int))))), (5, .one (.dv [] (.int .i64 ((zz : Int)))))], [], []⟩) (fun zz => zz ≤ x.length) (fun zz => x.length - zz) (0) ?_ (weak_sub ⟨rfl, (eqSlotI (by simp [wSum])), rfl, trivial⟩ trivial trivial rfl) (fun zz hx => ?_)
  · exact Nat.zero_le _
  obtain ⟨j, rfl⟩ : ∃ v, v = zz := ⟨_, rfl⟩
  replace hx : j ≤ x.length := hx
  have hw := fun h => wSum_succ cTx x j h
  have hyl : y.length = x.length := by rw [hy, mkL_len]
  show Ok _ _ _ _ _ (⟨[(0, .one (.dv [] (txsD (y)))), (1, .one (.dv [] (.int .i64 (k + (wSum cTx (x.take j) : Int))))), (5, .one (.dv [] (.int .i64 ((j : Int)))))], [], []⟩ : St)
  refine ok_seq ?_
  refine ok_seq ?_
  refine ok_region ?_
  refine o_pure rfl rfl (pu_move (.inl rfl) (ev_tmp rfl)) rfl rfl ?_
  refine o_pure rfl rfl (pu_move (.inl rfl) (ev_tmp rfl)) rfl rfl ?_
  refine o_pure rfl rfl (pu_lenV hT rfl rfl (ev_tmp rfl)) rfl rfl ?_
  refine o_pure rfl rfl (pu_lss rfl (ev_tmp rfl) (ev_tmp rfl)) rfl rfl ?_
  refine ops_nil ?_
  refine then_n ?_
  refine ok_cond (ev_tmp rfl) (fun c1 => ?_) (fun c1 => ?_)
  · skip
    have d1 := of_decide_eq_true c1
    have hj : j < x.length := by omega
    obtain ⟨hw1, hw2⟩ := hw hj
    have hc : cTx (x.getD (j : Int).toNat default) = 3 + wSum cOp ((x.getD (j : Int).toNat default).2.1) + wSum cStore ((x.getD (j : Int).toNat default).2.2.2.2) := rfl
    have he : y.getD (j : Int).toNat default = mkTx (x.getD (j : Int).toNat default) (k + (wSum cTx (x.take j) : Int)) := by rw [hy]; exact mkL_getD hj
    refine ok_skip ?_
    refine then_n ?_
    refine ok_seq ?_
    refine ok_block ?_
    refine ok_seq ?_
    refine ok_seq ?_
    refine ok_region ?_
    refine o_pure rfl rfl (pu_move (.inl rfl) (ev_tmp rfl)) rfl rfl ?_
    refine o_pure rfl rfl (pu_move (.inl rfl) (ev_tmp rfl)) rfl rfl ?_
    refine o_pure rfl rfl (pu_indexD hT rfl rfl rfl (ev_tmp rfl) (ev_tmp rfl) (fun _ => rfl) (by first | omega | (simp only [Bool.and_eq_true, Bool.or_eq_true, Bool.or_eq_false_iff, Bool.and_eq_false_iff, Bool.not_eq_true', Bool.not_eq_false', beq_iff_eq, decide_eq_true_eq, decide_eq_false_iff_not] at hg; omega) | (have hh := of_decide_eq_true (beq_tt hg); omega) | (have hh := of_decide_eq_true (beq_tt (and_r hg)); omega)) (by first | omega | (simp only [Bool.and_eq_true, Bool.or_eq_true, Bool.or_eq_false_iff, Bool.and_eq_false_iff, Bool.not_eq_true', Bool.not_eq_false', beq_iff_eq, decide_eq_true_eq, decide_eq_false_iff_not] at hg; omega) | (have hh := of_decide_eq_true (beq_tt hg); omega) | (have hh := of_decide_eq_true (beq_tt (and_r hg)); omega))) rfl rfl ?_
    refine o_pure rfl rfl (pu_fieldRef hT rfl rfl rfl (ev_tmp rfl)) rfl rfl ?_
    refine o_pure rfl rfl (pu_loadRef1 hT rfl rfl (ev_tmp rfl) rfl) rfl rfl ?_
    refine o_pure rfl rfl (pu_move (.inl rfl) (ev_tmp rfl)) rfl rfl ?_
    refine o_pure rfl rfl (pu_neq rfl (ev_tmp rfl) (ev_tmp rfl)) rfl rfl ?_
    refine ops_nil ?_
    refine then_n ?_
    refine ok_cond (ev_tmp rfl) (fun c2 => ?_) (fun c2 => ?_)
    · skip
      have d2 := nd_t c2
      refine ok_seq ?_
      refine ok_region ?_
      refine o_pure rfl rfl (pu_move (.inr rfl) (ev_int (inR_lit rfl))) rfl rfl ?_
      refine ops_nil ?_
      refine then_n ?_
      refine ok_ret ?_
      refine then_r ?_
      refine blk_r ?_
      refine then_r ?_
      refine then_r ?_
      refine blk_r ?_
      refine then_r ?_
      refine fin1 (res_tmp rfl) (eqI ?_)
      exfalso; rw [he] at c2; simp [mkTx, sEq] at c2
    · skip
      have d2 := nd_f c2
      refine ok_skip ?_
      refine then_n ?_
      refine ok_seq ?_
      refine ok_region ?_
      refine o_pure rfl rfl (pu_move (.inl rfl) (ev_tmp rfl)) rfl rfl ?_
      refine o_pure rfl rfl (pu_addR rfl (ev_tmp rfl) (ev_int (inR_lit rfl)) (inR64 (by omega) (by omega))) rfl rfl ?_
      refine o_pure rfl rfl (pu_move (.inr rfl) (ev_tmp rfl)) rfl rfl ?_
      refine ops_nil ?_
      refine then_n ?_
      refine ok_seq ?_
      refine ok_region ?_
      refine o_pure rfl rfl (pu_move (.inl rfl) (ev_tmp rfl)) rfl rfl ?_
      refine o_pure rfl rfl (pu_move (.inl rfl) (ev_tmp rfl)) rfl rfl ?_
      refine o_pure rfl rfl (pu_indexD hT rfl rfl rfl (ev_tmp rfl) (ev_tmp rfl) (fun _ => rfl) (by first | omega | (simp only [Bool.and_eq_true, Bool.or_eq_true, Bool.or_eq_false_iff, Bool.and_eq_false_iff, Bool.not_eq_true', Bool.not_eq_false', beq_iff_eq, decide_eq_true_eq, decide_eq_false_iff_not] at hg; omega) | (have hh := of_decide_eq_true (beq_tt hg); omega) | (have hh := of_decide_eq_true (beq_tt (and_r hg)); omega)) (by first | omega | (simp only [Bool.and_eq_true, Bool.or_eq_true, Bool.or_eq_false_iff, Bool.and_eq_false_iff, Bool.not_eq_true', Bool.not_eq_false', beq_iff_eq, decide_eq_true_eq, decide_eq_false_iff_not] at hg; omega) | (have hh := of_decide_eq_true (beq_tt hg); omega) | (have hh := of_decide_eq_true (beq_tt (and_r hg)); omega))) rfl rfl ?_
      refine o_pure rfl rfl (pu_fieldRef hT rfl rfl rfl (ev_tmp rfl)) rfl rfl ?_
      refine o_pure rfl rfl (pu_loadRef1 hT rfl rfl (ev_tmp rfl) rfl) rfl rfl ?_
      refine o_pure rfl rfl (pu_move (.inl rfl) (ev_tmp rfl)) rfl rfl ?_
      refine o_call rfl rfl rfl Try.call33 (ok_laws_heldOpS (x := (x.getD (j : Int).toNat default).2.1) (by rw [he]; rfl) (by omega) (by omega)) (as_cons (ev_tmp rfl) (ag_one ac_dv) (as_cons (ev_tmp rfl) (ag_one ac_dv) as_nil)) rfl rfl ?_
      refine o_pure rfl rfl (pu_move (.inr rfl) (ev_tmp rfl)) rfl rfl ?_
      refine ops_nil ?_
      refine then_n ?_
      refine ok_seq ?_
      refine ok_seq ?_
      refine ok_region ?_
      refine o_pure rfl rfl (pu_move (.inl rfl) (ev_tmp rfl)) rfl rfl ?_
      refine o_pure rfl rfl (pu_lss rfl (ev_tmp rfl) (ev_int (inR_lit rfl))) rfl rfl ?_
      refine ops_nil ?_
      refine then_n ?_
      refine ok_cond (ev_tmp rfl) (fun c3 => ?_) (fun c3 => ?_)
      · skip
        have d3 := of_decide_eq_true c3
        refine ok_seq ?_
        refine ok_region ?_
        refine o_pure rfl rfl (pu_move (.inr rfl) (ev_int (inR_lit rfl))) rfl rfl ?_
        refine ops_nil ?_
        refine then_n ?_
        refine ok_ret ?_
        refine then_r ?_
        refine blk_r ?_
        refine then_r ?_
        refine then_r ?_
        refine blk_r ?_
        refine then_r ?_
        refine fin1 (res_tmp rfl) (eqI ?_)
        exfalso; omega
      · skip
        have d3 := of_decide_eq_false c3
        refine ok_skip ?_
        refine then_n ?_
        refine ok_seq ?_
        refine ok_seq ?_
        refine ok_region ?_
        refine o_pure rfl rfl (pu_move (.inl rfl) (ev_tmp rfl)) rfl rfl ?_
        refine o_pure rfl rfl (pu_move (.inl rfl) (ev_tmp rfl)) rfl rfl ?_
        refine o_pure rfl rfl (pu_indexD hT rfl rfl rfl (ev_tmp rfl) (ev_tmp rfl) (fun _ => rfl) (by first | omega | (simp only [Bool.and_eq_true, Bool.or_eq_true, Bool.or_eq_false_iff, Bool.and_eq_false_iff, Bool.not_eq_true', Bool.not_eq_false', beq_iff_eq, decide_eq_true_eq, decide_eq_false_iff_not] at hg; omega) | (have hh := of_decide_eq_true (beq_tt hg); omega) | (have hh := of_decide_eq_true (beq_tt (and_r hg)); omega)) (by first | omega | (simp only [Bool.and_eq_true, Bool.or_eq_true, Bool.or_eq_false_iff, Bool.and_eq_false_iff, Bool.not_eq_true', Bool.not_eq_false', beq_iff_eq, decide_eq_true_eq, decide_eq_false_iff_not] at hg; omega) | (have hh := of_decide_eq_true (beq_tt hg); omega) | (have hh := of_decide_eq_true (beq_tt (and_r hg)); omega))) rfl rfl ?_
        refine o_pure rfl rfl (pu_fieldRef hT rfl rfl rfl (ev_tmp rfl)) rfl rfl ?_
        refine o_pure rfl rfl (pu_loadRef1 hT rfl rfl (ev_tmp rfl) rfl) rfl rfl ?_
        refine o_pure rfl rfl (pu_move (.inl rfl) (ev_tmp rfl)) rfl rfl ?_
        refine o_pure rfl rfl (pu_neq rfl (ev_tmp rfl) (ev_tmp rfl)) rfl rfl ?_
        refine ops_nil ?_
        refine then_n ?_
        refine ok_cond (ev_tmp rfl) (fun c4 => ?_) (fun c4 => ?_)
        · skip
          have d4 := nd_t c4
          refine ok_seq ?_
          refine ok_region ?_
          refine o_pure rfl rfl (pu_move (.inr rfl) (ev_int (inR_lit rfl))) rfl rfl ?_
          refine ops_nil ?_
          refine then_n ?_
          refine ok_ret ?_
          refine then_r ?_
          refine blk_r ?_
          refine then_r ?_
          refine then_r ?_
          refine blk_r ?_
          refine then_r ?_
          refine fin1 (res_tmp rfl) (eqI ?_)
          exfalso; rw [he] at c4; simp [mkTx, sEq] at c4
        · skip
          have d4 := nd_f c4
          refine ok_skip ?_
          refine then_n ?_
          refine ok_seq ?_
          refine ok_region ?_
          refine o_pure rfl rfl (pu_move (.inl rfl) (ev_tmp rfl)) rfl rfl ?_
          refine o_pure rfl rfl (pu_addR rfl (ev_tmp rfl) (ev_int (inR_lit rfl)) (inR64 (by omega) (by omega))) rfl rfl ?_
          refine o_pure rfl rfl (pu_move (.inr rfl) (ev_tmp rfl)) rfl rfl ?_
          refine ops_nil ?_
          refine then_n ?_
          refine ok_seq ?_
          refine ok_seq ?_
          refine ok_region ?_
          refine o_pure rfl rfl (pu_move (.inl rfl) (ev_tmp rfl)) rfl rfl ?_
          refine o_pure rfl rfl (pu_move (.inl rfl) (ev_tmp rfl)) rfl rfl ?_
          refine o_pure rfl rfl (pu_indexD hT rfl rfl rfl (ev_tmp rfl) (ev_tmp rfl) (fun _ => rfl) (by first | omega | (simp only [Bool.and_eq_true, Bool.or_eq_true, Bool.or_eq_false_iff, Bool.and_eq_false_iff, Bool.not_eq_true', Bool.not_eq_false', beq_iff_eq, decide_eq_true_eq, decide_eq_false_iff_not] at hg; omega) | (have hh := of_decide_eq_true (beq_tt hg); omega) | (have hh := of_decide_eq_true (beq_tt (and_r hg)); omega)) (by first | omega | (simp only [Bool.and_eq_true, Bool.or_eq_true, Bool.or_eq_false_iff, Bool.and_eq_false_iff, Bool.not_eq_true', Bool.not_eq_false', beq_iff_eq, decide_eq_true_eq, decide_eq_false_iff_not] at hg; omega) | (have hh := of_decide_eq_true (beq_tt hg); omega) | (have hh := of_decide_eq_true (beq_tt (and_r hg)); omega))) rfl rfl ?_
          refine o_pure rfl rfl (pu_fieldRef hT rfl rfl rfl (ev_tmp rfl)) rfl rfl ?_
          refine o_pure rfl rfl (pu_loadRef1 hT rfl rfl (ev_tmp rfl) rfl) rfl rfl ?_
          refine o_pure rfl rfl (pu_move (.inl rfl) (ev_tmp rfl)) rfl rfl ?_
          refine o_pure rfl rfl (pu_neq rfl (ev_tmp rfl) (ev_tmp rfl)) rfl rfl ?_
          refine ops_nil ?_
          refine then_n ?_
          refine ok_cond (ev_tmp rfl) (fun c5 => ?_) (fun c5 => ?_)
          · skip
            have d5 := nd_t c5
            refine ok_seq ?_
            refine ok_region ?_
            refine o_pure rfl rfl (pu_move (.inr rfl) (ev_int (inR_lit rfl))) rfl rfl ?_
            refine ops_nil ?_
            refine then_n ?_
            refine ok_ret ?_
            refine then_r ?_
            refine blk_r ?_
            refine then_r ?_
            refine then_r ?_
            refine blk_r ?_
            refine then_r ?_
            refine fin1 (res_tmp rfl) (eqI ?_)
            exfalso; rw [he] at c5; simp [mkTx, sEq] at c5
          · skip
            have d5 := nd_f c5
            refine ok_skip ?_
            refine then_n ?_
            refine ok_seq ?_
            refine ok_region ?_
            refine o_pure rfl rfl (pu_move (.inl rfl) (ev_tmp rfl)) rfl rfl ?_
            refine o_pure rfl rfl (pu_addR rfl (ev_tmp rfl) (ev_int (inR_lit rfl)) (inR64 (by omega) (by omega))) rfl rfl ?_
            refine o_pure rfl rfl (pu_move (.inr rfl) (ev_tmp rfl)) rfl rfl ?_
            refine ops_nil ?_
            refine then_n ?_
            refine ok_seq ?_
            refine ok_region ?_
            refine o_pure rfl rfl (pu_move (.inl rfl) (ev_tmp rfl)) rfl rfl ?_
            refine o_pure rfl rfl (pu_move (.inl rfl) (ev_tmp rfl)) rfl rfl ?_
            refine o_pure rfl rfl (pu_indexD hT rfl rfl rfl (ev_tmp rfl) (ev_tmp rfl) (fun _ => rfl) (by first | omega | (simp only [Bool.and_eq_true, Bool.or_eq_true, Bool.or_eq_false_iff, Bool.and_eq_false_iff, Bool.not_eq_true', Bool.not_eq_false', beq_iff_eq, decide_eq_true_eq, decide_eq_false_iff_not] at hg; omega) | (have hh := of_decide_eq_true (beq_tt hg); omega) | (have hh := of_decide_eq_true (beq_tt (and_r hg)); omega)) (by first | omega | (simp only [Bool.and_eq_true, Bool.or_eq_true, Bool.or_eq_false_iff, Bool.and_eq_false_iff, Bool.not_eq_true', Bool.not_eq_false', beq_iff_eq, decide_eq_true_eq, decide_eq_false_iff_not] at hg; omega) | (have hh := of_decide_eq_true (beq_tt hg); omega) | (have hh := of_decide_eq_true (beq_tt (and_r hg)); omega))) rfl rfl ?_
            refine o_pure rfl rfl (pu_fieldRef hT rfl rfl rfl (ev_tmp rfl)) rfl rfl ?_
            refine o_pure rfl rfl (pu_loadRef1 hT rfl rfl (ev_tmp rfl) rfl) rfl rfl ?_
            refine o_pure rfl rfl (pu_move (.inl rfl) (ev_tmp rfl)) rfl rfl ?_
            refine o_call rfl rfl rfl Try.call140 (ok_laws_heldStoreS (x := (x.getD (j : Int).toNat default).2.2.2.2) (by rw [he]; rfl) (by omega) (by omega)) (as_cons (ev_tmp rfl) (ag_one ac_dv) (as_cons (ev_tmp rfl) (ag_one ac_dv) as_nil)) rfl rfl ?_
            refine o_pure rfl rfl (pu_move (.inr rfl) (ev_tmp rfl)) rfl rfl ?_
            refine ops_nil ?_
            refine then_n ?_
            refine ok_seq ?_
            refine ok_region ?_
            refine o_pure rfl rfl (pu_move (.inl rfl) (ev_tmp rfl)) rfl rfl ?_
            refine o_pure rfl rfl (pu_lss rfl (ev_tmp rfl) (ev_int (inR_lit rfl))) rfl rfl ?_
            refine ops_nil ?_
            refine then_n ?_
            refine ok_cond (ev_tmp rfl) (fun c6 => ?_) (fun c6 => ?_)
            · skip
              have d6 := of_decide_eq_true c6
              refine ok_seq ?_
              refine ok_region ?_
              refine o_pure rfl rfl (pu_move (.inr rfl) (ev_int (inR_lit rfl))) rfl rfl ?_
              refine ops_nil ?_
              refine then_n ?_
              refine ok_ret ?_
              refine blk_r ?_
              refine then_r ?_
              refine then_r ?_
              refine blk_r ?_
              refine then_r ?_
              refine fin1 (res_tmp rfl) (eqI ?_)
              exfalso; omega
            · skip
              have d6 := of_decide_eq_false c6
              refine ok_skip ?_
              refine blk_n ?_
              refine then_n ?_
              refine ok_region ?_
              refine o_pure rfl rfl (pu_move (.inl rfl) (ev_tmp rfl)) rfl rfl ?_
              refine o_pure rfl rfl (pu_addR rfl (ev_tmp rfl) (ev_int (inR_lit rfl)) (inR64 (by omega) (by omega))) rfl rfl ?_
              refine o_pure rfl rfl (pu_move (.inr rfl) (ev_tmp rfl)) rfl rfl ?_
              refine ops_nil ?_
              refine then_n ?_
              refine ⟨j + 1, ?_, ?_, weak_sub ⟨rfl, (eqSlotI (by omega)), rfl, trivial⟩ trivial trivial rfl⟩
              · omega
              · omega
  · skip
    have d1 := of_decide_eq_false c1
    refine ok_exit ?_
    refine then_e ?_
    refine then_e ?_
    refine blk_e rfl ?_
    refine then_n ?_
    refine ok_seq ?_
    refine ok_region ?_
    refine o_pure rfl rfl (pu_move (.inl rfl) (ev_tmp rfl)) rfl rfl ?_
    refine o_pure rfl rfl (pu_move (.inr rfl) (ev_tmp rfl)) rfl rfl ?_
    refine ops_nil ?_
    refine then_n ?_
    refine ok_ret ?_
    refine fin1 (res_tmp rfl) (eqI ?_)
    have hq := wSum_all cTx x j (by omega); omega
set_option maxRecDepth 100000 in
theorem ok_laws_markTxQueue {x : List TxT} {k : Int} (h0 : 0 ≤ k) (h1 : (k) + (wSum cTx (x) : Int) ≤ 4611686018427387904) : WFn Try.prog 47 [.agg [(.key 0)], .one (.dv [] (.int .i64 (k)))] (.one (.dv [] (.int .i64 ((k) + (wSum cTx (x) : Int))))) [(0, kcOf true (.sl 138 5 ((x).length) ((x).flatMap eTx)))] [(0, kcOf true (txsD (mkL mkTx cTx (x) (k))))] := by
  refine ⟨fn_intro Try.func47 rfl Try.ntmps47 Try.results47 rfl (fun C => ?_)⟩
  refine ok_fact (x := .tmp 1) (ev_tmp rfl) (fun (f1 : -9223372036854775808 ≤ (k) ∧ (k) ≤ 9223372036854775807) => ?_)
  refine ok_seq ?_
  refine ok_region ?_
  refine o_box rfl rfl rfl (ev_tmp rfl) rfl rfl rfl rfl ?_
  refine o_pure rfl rfl (pu_move (.inr rfl) (ev_int (inR_lit rfl))) rfl rfl ?_
  refine ops_nil ?_
  refine then_n ?_
  refine ok_seq ?_
  refine ok_region ?_
  refine o_pure rfl rfl (pu_fieldBox hT rfl rfl rfl (ev_tmp rfl)) rfl rfl ?_
  refine o_pure rfl rfl (pu_loadBox1 hT rfl rfl (ev_tmp rfl) rfl rfl) rfl rfl ?_
  refine o_pure rfl rfl (pu_move (.inl rfl) (ev_tmp rfl)) rfl rfl ?_
  refine o_callW [(0, 0, ⟨true, _, _, _, _⟩, ⟨true, _, _, _, _⟩)] rfl rfl rfl Try.call110 (ok_laws_markTxS (x := x) (by omega) (by omega)) ⟨rfl, trivial⟩ rfl (aw_cons (ev_tmp rfl) (aw_one (awc_key rfl)) (aw_cons (ev_tmp rfl) (aw_one (awc_dv rfl)) aw_nil)) rfl rfl ?_
  simp only [killT, killB, SV.kill, CV.kill, List.map_cons, List.map_nil, List.any_cons, List.any_nil, List.contains_cons, List.contains_nil, List.nil_append, List.cons_append, Nat.reduceBEq, Bool.or_false, Bool.false_or, Bool.or_true, Bool.true_or, cond_true, cond_false]
  refine o_pure rfl rfl (pu_move (.inr rfl) (ev_tmp rfl)) rfl rfl ?_
  refine ops_nil ?_
  refine then_n ?_
  refine ok_seq ?_
  refine ok_region ?_
  refine o_pure rfl rfl (pu_move (.inl rfl) (ev_tmp rfl)) rfl rfl ?_
  refine o_pure rfl rfl (pu_move (.inr rfl) (ev_tmp rfl)) rfl rfl ?_
  refine ops_nil ?_
  refine then_n ?_
  refine ok_weak (σ' := ⟨[(4, .one (.dv [] (.int .i64 ((k) + (wSum cTx (x) : Int)))))], [], [(0, some (kcOf true (txsD (mkL mkTx cTx (x) (k)))))]⟩) (weak_sub ⟨rfl, trivial⟩ trivial ⟨rfl, trivial⟩ rfl) ?_
  refine ok_ret ?_
  refine fin1 (res_tmp rfl) ⟨eqI ?_, w1_ok rfl⟩
  rfl
set_option maxRecDepth 100000 in
theorem ok_laws_heldTxQueue {x y : List TxT} {k : Int} (hy : y = mvTxQueue x k) (h0 : 0 ≤ k) (h1 : (k) + (wSum cTx (x) : Int) ≤ 4611686018427387904) : PFn Try.prog 48 [.agg [(.dv [] (txsD (y)))], .one (.dv [] (.int .i64 (k)))] (.one (.dv [] (.int .i64 ((k) + (wSum cTx (x) : Int))))) := by
  refine ⟨fn_intro Try.func48 rfl Try.ntmps48 Try.results48 rfl (fun C => ?_)⟩
  refine ok_factA (x := .tmp 0) 0 (ev_tmp rfl) rfl (fun (f0_0 : ((y)).length ≤ 9223372036854775807) => ?_)
  refine ok_fact (x := .tmp 1) (ev_tmp rfl) (fun (f1 : -9223372036854775808 ≤ (k) ∧ (k) ≤ 9223372036854775807) => ?_)
  refine ok_seq ?_
  refine ok_region ?_
  refine o_box rfl rfl rfl (ev_tmp rfl) rfl rfl rfl rfl ?_
  refine o_pure rfl rfl (pu_move (.inr rfl) (ev_int (inR_lit rfl))) rfl rfl ?_
  refine ops_nil ?_
  refine then_n ?_
  refine ok_seq ?_
  refine ok_region ?_
  refine o_pure rfl rfl (pu_fieldBox hT rfl rfl rfl (ev_tmp rfl)) rfl rfl ?_
  refine o_pure rfl rfl (pu_loadBox1 hT rfl rfl (ev_tmp rfl) rfl rfl) rfl rfl ?_
  refine o_pure rfl rfl (pu_move (.inl rfl) (ev_tmp rfl)) rfl rfl ?_
  refine o_call rfl rfl rfl Try.call111 (ok_laws_heldTxS (x := x) (by rw [hy]; rfl) (by omega) (by omega)) (as_cons (ev_tmp rfl) (ag_one ac_dv) (as_cons (ev_tmp rfl) (ag_one ac_dv) as_nil)) rfl rfl ?_
  refine o_pure rfl rfl (pu_move (.inr rfl) (ev_tmp rfl)) rfl rfl ?_
  refine ops_nil ?_
  refine then_n ?_
  refine ok_seq ?_
  refine ok_seq ?_
  refine ok_region ?_
  refine o_pure rfl rfl (pu_move (.inl rfl) (ev_tmp rfl)) rfl rfl ?_
  refine o_pure rfl rfl (pu_lss rfl (ev_tmp rfl) (ev_int (inR_lit rfl))) rfl rfl ?_
  refine ops_nil ?_
  refine then_n ?_
  refine ok_cond (ev_tmp rfl) (fun c1 => ?_) (fun c1 => ?_)
  · skip
    have d1 := of_decide_eq_true c1
    refine ok_seq ?_
    refine ok_region ?_
    refine o_pure rfl rfl (pu_move (.inr rfl) (ev_int (inR_lit rfl))) rfl rfl ?_
    refine ops_nil ?_
    refine then_n ?_
    refine ok_ret ?_
    refine then_r ?_
    refine fin1 (res_tmp rfl) (eqI ?_)
    exfalso; omega
  · skip
    have d1 := of_decide_eq_false c1
    refine ok_skip ?_
    refine then_n ?_
    refine ok_seq ?_
    refine ok_region ?_
    refine o_pure rfl rfl (pu_move (.inl rfl) (ev_tmp rfl)) rfl rfl ?_
    refine o_pure rfl rfl (pu_move (.inr rfl) (ev_tmp rfl)) rfl rfl ?_
    refine ops_nil ?_
    refine then_n ?_
    refine ok_ret ?_
    refine fin1 (res_tmp rfl) (eqI ?_)
    rfl
end Go.Proofs.Ytlogahkchenpdaa

namespace Go.Proofs.Ytlogahkchenpdaa
open Go.RowKit
open Go.Proofs
set_option linter.unusedVariables false
set_option linter.unusedSimpArgs false

def areB (l : List OpT) : Bool := l.all isOpB && decide ((l.length : Int) ≤ 6)
theorem are_no {l : List OpT} {k : Nat} (hk : k < l.length) (h : isOpB (l.getD (k : Int).toNat default) = false) : areB l = false := by
  unfold areB
  have : l.all isOpB = false := by
    rw [List.all_eq_false]
    refine ⟨l[k], List.getElem_mem hk, ?_⟩
    rw [getD_at hk] at h
    simpa using h
  rw [this]; rfl
theorem are_yes {l : List OpT} {k : Nat} (h : (l.take k).all isOpB = true) (hk : l.length ≤ k) : areB l = decide ((l.length : Int) ≤ 6) := by
  rw [List.take_of_length_le hk] at h
  unfold areB
  rw [h, Bool.true_and]
theorem are_step {l : List OpT} {k : Nat} (h : (l.take k).all isOpB = true) (hk : k < l.length) (h2 : isOpB (l.getD (k : Int).toNat default) = true) : (l.take (k + 1)).all isOpB = true := by
  rw [List.take_succ_eq_append_getElem hk, List.all_append, h]
  rw [getD_at hk] at h2
  simpa using h2
set_option maxRecDepth 100000 in
theorem ok_impl_areOps {l : List OpT}  : PFn Try.prog 65 [.one (.dv [] (opsD (l)))] (.one (.dv [] (.bool (areB l)))) := by
  refine ⟨fn_intro Try.func65 rfl Try.ntmps65 Try.results65 rfl (fun C => ?_)⟩
  refine ok_fact (x := .tmp 0) (ev_tmp rfl) (fun (f0 : ((l)).length ≤ 9223372036854775807) => ?_)
  refine ok_seq ?_
  refine ok_region ?_
  refine o_pure rfl rfl (pu_move (.inr rfl) ev_bool) rfl rfl ?_
  refine ops_nil ?_
  refine then_n ?_
  refine ok_seq ?_
  refine ok_seq ?_
  refine ok_region ?_
  refine o_pure rfl rfl (pu_move (.inl rfl) (ev_tmp rfl)) rfl rfl ?_
  refine o_pure rfl rfl (pu_lenV hT rfl rfl (ev_tmp rfl)) rfl rfl ?_
  refine o_pure rfl rfl (pu_move (.inl rfl) (ev_int (inR_lit rfl))) rfl rfl ?_
  refine ops_nil ?_
  refine then_n ?_
  refine ok_block ?_
  refine ok_loop (ι := Nat) (fun zz => ⟨[(0, .one (.dv [] (opsD (l)))), (5, .one (.dv [] (opsD (l)))), (6, .one (.dv [] (.int .i64 ((((l)).length : Int))))), (7, .one (.dv [] (.int .i64 ((zz : Int)))))], [], []⟩) (fun zz => zz ≤ l.length ∧ (l.take zz).all isOpB = true) (fun zz => l.length - zz) (0) ?_ (weak_sub ⟨rfl, rfl, rfl, rfl, trivial⟩ trivial trivial rfl) (fun zz hx => ?_)
  · exact ⟨Nat.zero_le _, rfl⟩
  obtain ⟨k, rfl⟩ : ∃ v, v = zz := ⟨_, rfl⟩
  replace hx : k ≤ l.length ∧ (l.take k).all isOpB = true := hx
  obtain ⟨hk, hall⟩ := hx
  show Ok _ _ _ _ _ (⟨[(0, .one (.dv [] (opsD (l)))), (5, .one (.dv [] (opsD (l)))), (6, .one (.dv [] (.int .i64 ((((l)).length : Int))))), (7, .one (.dv [] (.int .i64 ((k : Int)))))], [], []⟩ : St)
  refine ok_seq ?_
  refine ok_region ?_
  refine o_pure rfl rfl (pu_lss rfl (ev_tmp rfl) (ev_tmp rfl)) rfl rfl ?_
  refine ops_nil ?_
  refine then_n ?_
  refine ok_seq ?_
  refine ok_cond (ev_tmp rfl) (fun c1 => ?_) (fun c1 => ?_)
  · skip
    have d1 := of_decide_eq_true c1
    refine ok_skip ?_
    refine then_n ?_
    refine ok_seq ?_
    refine ok_block ?_
    refine ok_seq ?_
    refine ok_region ?_
    refine o_pure rfl rfl (pu_indexD hT rfl rfl rfl (ev_tmp rfl) (ev_tmp rfl) (fun _ => rfl) (by first | omega | (simp only [Bool.and_eq_true, Bool.or_eq_true, Bool.or_eq_false_iff, Bool.and_eq_false_iff, Bool.not_eq_true', Bool.not_eq_false', beq_iff_eq, decide_eq_true_eq, decide_eq_false_iff_not] at hg; omega) | (have hh := of_decide_eq_true (beq_tt hg); omega) | (have hh := of_decide_eq_true (beq_tt (and_r hg)); omega)) (by first | omega | (simp only [Bool.and_eq_true, Bool.or_eq_true, Bool.or_eq_false_iff, Bool.and_eq_false_iff, Bool.not_eq_true', Bool.not_eq_false', beq_iff_eq, decide_eq_true_eq, decide_eq_false_iff_not] at hg; omega) | (have hh := of_decide_eq_true (beq_tt hg); omega) | (have hh := of_decide_eq_true (beq_tt (and_r hg)); omega))) rfl rfl ?_
    refine o_pure rfl rfl (pu_loadRefA hT rfl rfl (ev_tmp rfl) rfl) rfl rfl ?_
    refine o_alloc hT rfl rfl rfl rfl rfl rfl ?_
    refine o_store hT rfl rfl rfl rfl (ev_tmp rfl) (ev_tmp rfl) rfl rfl rfl rfl rfl rfl ?_
    refine ops_nil ?_
    refine then_n ?_
    refine ok_seq ?_
    refine ok_region ?_
    refine o_pure rfl rfl (pu_loadBoxA hT rfl rfl (ev_tmp rfl) rfl rfl) rfl rfl ?_
    refine o_call rfl rfl rfl Try.call124 (ok_impl_IsOp (x := (((l)).getD ((k : Int)).toNat default)) ) (as_cons (ev_tmp rfl) (ag_agg (ag_cons ac_dv (ag_cons ac_dv (ag_cons ac_dv (ag_cons ac_dv (ag_cons ac_dv (ag_cons ac_dv (ag_cons ac_dv ag_nil)))))))) as_nil) rfl rfl ?_
    refine o_pure rfl rfl (pu_not rfl (ev_tmp rfl)) rfl rfl ?_
    refine ops_nil ?_
    refine then_n ?_
    refine ok_cond (ev_tmp rfl) (fun c2 => ?_) (fun c2 => ?_)
    · skip
      refine ok_seq ?_
      refine ok_region ?_
      refine o_pure rfl rfl (pu_move (.inr rfl) ev_bool) rfl rfl ?_
      refine ops_nil ?_
      refine then_n ?_
      refine ok_ret ?_
      refine blk_r ?_
      refine then_r ?_
      refine then_r ?_
      refine blk_r ?_
      refine then_r ?_
      refine fin1 (res_tmp rfl) (eqB ?_)
      exact (are_no (k := k) (by omega) (by simpa using c2)).symm
    · skip
      refine ok_skip ?_
      refine blk_n ?_
      refine then_n ?_
      refine ok_region ?_
      refine o_pure rfl rfl (pu_addR rfl (ev_tmp rfl) (ev_int (inR_lit rfl)) (inR64 (by omega) (by omega))) rfl rfl ?_
      refine o_pure rfl rfl (pu_move (.inl rfl) (ev_tmp rfl)) rfl rfl ?_
      refine ops_nil ?_
      refine then_n ?_
      refine ⟨k + 1, ?_, ?_, weak_sub ⟨rfl, rfl, rfl, rfl, trivial⟩ trivial trivial rfl⟩
      · exact ⟨by omega, are_step hall (by omega) (by simpa using c2)⟩
      · omega
  · skip
    have d1 := of_decide_eq_false c1
    refine ok_exit ?_
    refine then_e ?_
    refine then_e ?_
    refine blk_e rfl ?_
    refine then_n ?_
    refine ok_seq ?_
    refine ok_region ?_
    refine o_pure rfl rfl (pu_move (.inl rfl) (ev_tmp rfl)) rfl rfl ?_
    refine o_pure rfl rfl (pu_lenV hT rfl rfl (ev_tmp rfl)) rfl rfl ?_
    refine o_pure rfl rfl (pu_leq rfl (ev_tmp rfl) (ev_int (inR_lit rfl))) rfl rfl ?_
    refine o_pure rfl rfl (pu_move (.inr rfl) (ev_tmp rfl)) rfl rfl ?_
    refine ops_nil ?_
    refine then_n ?_
    refine ok_ret ?_
    refine fin1 (res_tmp rfl) (eqB ?_)
    exact (are_yes hall (by omega)).symm
end Go.Proofs.Ytlogahkchenpdaa

