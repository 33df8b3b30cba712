/-
  Items put into a store: the model's side.
-/
import Derived.Test.YtbmgommbmhmbgaaI2
namespace Go.Proofs.Ytbmgommbmhmbgaa
open Go.RowKit
open Go.Proofs
set_option linter.unusedVariables false
set_option linter.unusedSimpArgs false

theorem sto_auto {x : StoreT} {b c : Bool} (h : (!isSto x || b || c) = false) : 0 ≤ x.2.2 ∧ x.2.2 ≤ 1000000 := by
  have hs : isSto x = true := by cases hh : isSto x <;> simp_all
  rw [isSto_eq] at hs
  simp only [Bool.and_eq_true, decide_eq_true_eq] at hs
  omega
theorem put_f {x : StoreT} {k : KeyT} {r : RecT} (h : (!isSto x || !isKey k || !isRec r) = false) (hf : 0 ≤ fndK x k) : putN x k r = ((x.1, setI x.2.1 (fndK x k).toNat r, x.2.2), true) := by
  rw [putN, if_neg (by rw [h]; simp), if_pos hf]
theorem put_l {x : StoreT} {k : KeyT} {r : RecT} (h : (!isSto x || !isKey k || !isRec r) = false) (hf : ¬ 0 ≤ fndK x k) (hl : (16 : Int) ≤ (x.2.1.length : Int)) : putN x k r = (x, false) := by
  rw [putN, if_neg (by rw [h]; simp), if_neg hf, if_pos (by omega)]
theorem put_i {x : StoreT} {k : KeyT} {r : RecT} {j : Nat} {a : Int} (h : (!isSto x || !isKey k || !isRec r) = false) (hf : ¬ 0 ≤ fndK x k) (hl : ¬ (16 : Int) ≤ (x.2.1.length : Int)) (hj : posK k x.2.1 = j) (ha : a = autoP x k) : putN x k r = ((x.1, insI x.2.1 j (k, r), a), true) := by
  subst hj; subst ha
  rw [putN, if_neg (by rw [h]; simp), if_neg hf, if_neg (by omega)]
theorem auto_y {x : StoreT} {k : KeyT} (h : (decide (k.1 = 1) && (decide (x.2.2 + 1 ≤ k.2.1) && decide (k.2.1 ≤ 1000000))) = true) : k.2.1 = autoP x k := by rw [autoP, if_pos h]
theorem auto_n {x : StoreT} {k : KeyT} (h : (decide (k.1 = 1) && (decide (x.2.2 + 1 ≤ k.2.1) && decide (k.2.1 ≤ 1000000))) = false) : x.2.2 = autoP x k := by rw [autoP, if_neg (by rw [h]; simp)]

set_option maxRecDepth 100000 in
theorem ok_spec_PutItem {x : StoreT} {k : KeyT} {r : RecT} (hb : wStore x ≤ 1048576) (hb2 : r.length ≤ 1048576) : KFn Try.prog 37 [.agg [(.dv [] (.str (x.1))), (.dv [] (itemsD (x.2.1))), (.dv [] (.int .i64 (x.2.2)))], .agg [(.dv [] (.int .i64 (k.1))), (.dv [] (.int .i64 (k.2.1))), (.dv [] (.str (k.2.2)))], .agg [(.dv [] (fieldsD (r)))]] (.tup [(true, [(.dv [] (.str ((putN x k r).1.1))), (.key 9001), (.dv [] (.int .i64 ((putN x k r).1.2.2)))]), (false, [(.dv [] (.bool ((putN x k r).2)))])]) [(9001, some (kcOf false (itemsD ((putN x k r).1.2.1))))] := by
  refine ⟨fn_intro Try.func37 rfl Try.ntmps37 Try.results37 rfl (fun C => ?_)⟩
  have hlen : x.2.1.length ≤ 1048576 := by have h3 : wStore x = x.1.size + (x.2.1.length + wSum wItem x.2.1) := rfl; omega
  refine ok_factA (x := .tmp 0) 0 (ev_tmp rfl) rfl (fun (f0_0 : (x.1).size ≤ 9223372036854775807) => ?_)
  refine ok_factA (x := .tmp 0) 1 (ev_tmp rfl) rfl (fun (f0_1 : ((x.2.1)).length ≤ 9223372036854775807) => ?_)
  refine ok_factA (x := .tmp 0) 2 (ev_tmp rfl) rfl (fun (f0_2 : -9223372036854775808 ≤ (x.2.2) ∧ (x.2.2) ≤ 9223372036854775807) => ?_)
  refine ok_factA (x := .tmp 1) 0 (ev_tmp rfl) rfl (fun (f1_0 : -9223372036854775808 ≤ (k.1) ∧ (k.1) ≤ 9223372036854775807) => ?_)
  refine ok_factA (x := .tmp 1) 1 (ev_tmp rfl) rfl (fun (f1_1 : -9223372036854775808 ≤ (k.2.1) ∧ (k.2.1) ≤ 9223372036854775807) => ?_)
  refine ok_factA (x := .tmp 1) 2 (ev_tmp rfl) rfl (fun (f1_2 : (k.2.2).size ≤ 9223372036854775807) => ?_)
  refine ok_factA (x := .tmp 2) 0 (ev_tmp rfl) rfl (fun (f2_0 : ((r)).length ≤ 9223372036854775807) => ?_)
  refine ok_seq ?_
  refine ok_region ?_
  refine o_box rfl rfl rfl (ev_tmp rfl) rfl rfl rfl rfl ?_
  refine o_box rfl rfl rfl (ev_tmp rfl) rfl rfl rfl rfl ?_
  refine o_box rfl rfl rfl (ev_tmp rfl) rfl rfl rfl rfl ?_
  refine o_alloc hT rfl rfl rfl rfl rfl rfl ?_
  refine o_pure rfl rfl (pu_move (.inr rfl) ev_bool) rfl rfl ?_
  refine ops_nil ?_
  refine then_n ?_
  refine ok_seq ?_
  refine ok_seq ?_
  refine ok_region ?_
  refine o_pure rfl rfl (pu_loadBoxA hT rfl rfl (ev_tmp rfl) rfl rfl) rfl rfl ?_
  refine o_call rfl rfl rfl Try.call69 (ok_spec_IsStore (s := x)) (as_cons (ev_tmp rfl) (ag_agg (ag_cons ac_dv (ag_cons ac_dv (ag_cons ac_dv ag_nil)))) as_nil) rfl rfl ?_
  refine o_pure rfl rfl (pu_not rfl (ev_tmp rfl)) rfl rfl ?_
  refine o_pure rfl rfl (pu_move (.inl rfl) (ev_tmp rfl)) rfl rfl ?_
  refine o_pureG (gd_bool rfl rfl rfl rfl rfl) rfl (fun hg => pu_loadBoxA hT rfl rfl (ev_tmp rfl) rfl rfl) rfl rfl ?_
  refine o_callG (gd_bool rfl rfl rfl rfl rfl) rfl rfl Try.call70 ok_spec_IsKey (fun hg => (as_cons (ev_opt rfl hg) (ag_agg (ag_cons ac_dv (ag_cons ac_dv (ag_cons ac_dv ag_nil)))) as_nil)) rfl rfl ?_
  refine o_pureG (gd_bool rfl rfl rfl rfl rfl) rfl (fun hg => pu_not rfl (ev_opt rfl hg)) rfl rfl ?_
  refine o_pure rfl rfl (pu_or rfl (ev_tmp rfl) (fun hb => (ev_opt rfl (beq_f hb)))) rfl rfl ?_
  refine o_pure rfl rfl (pu_move (.inl rfl) (ev_tmp rfl)) rfl rfl ?_
  refine o_pureG (gd_bool rfl rfl rfl rfl rfl) rfl (fun hg => pu_loadBoxA hT rfl rfl (ev_tmp rfl) rfl rfl) rfl rfl ?_
  refine o_callG (gd_bool rfl rfl rfl rfl rfl) rfl rfl Try.call71 ok_spec_IsRecord (fun hg => (as_cons (ev_opt rfl hg) (ag_agg (ag_cons ac_dv ag_nil)) as_nil)) rfl rfl ?_
  refine o_pureG (gd_bool rfl rfl rfl rfl rfl) rfl (fun hg => pu_not rfl (ev_opt rfl hg)) rfl rfl ?_
  refine o_pure rfl rfl (pu_or rfl (ev_tmp rfl) (fun hb => (ev_opt rfl (beq_f hb)))) rfl rfl ?_
  refine ops_nil ?_
  refine then_n ?_
  refine ok_cond (ev_tmp rfl) (fun c1 => ?_) (fun c1 => ?_)
  · skip
    refine ok_seq ?_
    refine ok_region ?_
    refine o_pure rfl rfl (pu_loadBoxA hT rfl rfl (ev_tmp rfl) rfl rfl) rfl rfl ?_
    refine o_callK 8971 rfl rfl rfl Try.call72 (ok_spec_l6Copy (x := x) (by omega)) (as_cons (ev_tmp rfl) (ag_agg (ag_cons ac_dv (ag_cons ac_dv (ag_cons ac_dv ag_nil)))) as_nil) rfl rfl rfl ?_
    refine o_store hT rfl rfl rfl rfl (ev_tmp rfl) (ev_tmp rfl) rfl rfl rfl rfl rfl rfl ?_
    refine o_pure rfl rfl (pu_move (.inr rfl) ev_bool) rfl rfl ?_
    refine ops_nil ?_
    refine then_n ?_
    rw [putN, if_pos c1]
    refine ok_weak (σ' := ⟨[(6, .box 6 0), (7, .one (.dv [] (.bool (false))))], [(6, 29, [(.dv [] (.str ((x).1))), (.key 9001), (.dv [] (.int .i64 ((x).2.2)))])], [(9001, some (kcOf false (itemsD (x.2.1))))]⟩) (weak_sub ⟨rfl, rfl, trivial⟩ ⟨rfl, trivial⟩ ⟨rfl, trivial⟩ rfl) ?_
    refine ok_ret ?_
    refine then_r ?_
    refine fin2 (res_cell hT rfl rfl rfl rfl) (res_tmp rfl) rfl rfl ?_
    first | exact ⟨rfl, rfl⟩ | skip
  · skip
    have hau := sto_auto c1
    refine ok_skip ?_
    refine then_n ?_
    refine ok_seq ?_
    refine ok_region ?_
    refine o_pure rfl rfl (pu_loadBoxA hT rfl rfl (ev_tmp rfl) rfl rfl) rfl rfl ?_
    refine o_callK 8971 rfl rfl rfl Try.call72 (ok_spec_l6Copy (x := x) (by omega)) (as_cons (ev_tmp rfl) (ag_agg (ag_cons ac_dv (ag_cons ac_dv (ag_cons ac_dv ag_nil)))) as_nil) rfl rfl rfl ?_
    refine o_alloc hT rfl rfl rfl rfl rfl rfl ?_
    refine o_store hT rfl rfl rfl rfl (ev_tmp rfl) (ev_tmp rfl) rfl rfl rfl rfl rfl rfl ?_
    refine ops_nil ?_
    refine then_n ?_
    refine ok_seq ?_
    refine ok_seq ?_
    refine ok_region ?_
    refine o_pure rfl rfl (pu_loadBoxA hT rfl rfl (ev_tmp rfl) rfl rfl) rfl rfl ?_
    refine o_pure rfl rfl (pu_loadBoxA hT rfl rfl (ev_tmp rfl) rfl rfl) rfl rfl ?_
    refine o_call rfl rfl rfl Try.call73 ok_spec_FindItem (as_cons (ev_tmp rfl) (ag_agg (ag_cons ac_dv (ag_cons ac_dv (ag_cons ac_dv ag_nil)))) (as_cons (ev_tmp rfl) (ag_agg (ag_cons ac_dv (ag_cons ac_dv (ag_cons ac_dv ag_nil)))) as_nil)) rfl rfl ?_
    refine o_pure rfl rfl (pu_move (.inr rfl) (ev_tmp rfl)) rfl rfl ?_
    refine ops_nil ?_
    refine then_n ?_
    refine ok_seq ?_
    refine ok_region ?_
    refine o_pure rfl rfl (pu_move (.inl rfl) (ev_tmp rfl)) rfl rfl ?_
    refine o_pure rfl rfl (pu_geq rfl (ev_tmp rfl) (ev_int (inR_lit rfl))) rfl rfl ?_
    refine ops_nil ?_
    refine then_n ?_
    refine ok_cond (ev_tmp rfl) (fun c2 => ?_) (fun c2 => ?_)
    · skip
      have d2 := of_decide_eq_true c2
      have hlt := fndK_lt d2
      refine ok_seq ?_
      refine ok_regionD (oB := [3, 4, 5, 6, 8]) (oK := [9001]) (by kernel_rfl) rfl rfl ?_
      refine d_take 0 rfl (by kernel_rfl) rfl rfl (pu_fieldBox hT rfl rfl rfl (ev_tmp rfl)) rfl rfl rfl rfl ?_
      refine d_take 1 rfl (by kernel_rfl) rfl rfl (pu_loadBox1 hT rfl rfl (ev_tmp rfl) rfl rfl) rfl rfl rfl rfl ?_
      refine d_take 2 rfl (by kernel_rfl) rfl rfl (pu_move (.inl rfl) (ev_tmp rfl)) rfl rfl rfl rfl ?_
      refine d_take 3 rfl (by kernel_rfl) rfl rfl (pu_loadBoxA hT rfl rfl (ev_tmp rfl) rfl rfl) rfl rfl rfl rfl ?_
      refine d_callK 9000 4 rfl (by kernel_rfl) rfl rfl rfl Try.call74 (ok_spec_l5Copy (by omega)) (as_cons (ev_tmp rfl) (ag_agg (ag_cons ac_dv ag_nil)) as_nil) rfl rfl rfl rfl rfl ?_
      refine d_take 5 rfl (by kernel_rfl) rfl rfl (pu_indexK (i := (fndK (x) (k)).toNat) hT rfl rfl rfl (ev_tmp rfl) rfl (ev_tmp rfl) (by omega) (by show _ < ((x.2.1)).length; omega)) rfl rfl rfl rfl ?_
      refine d_take 6 rfl (by kernel_rfl) rfl rfl (pu_fieldE hT rfl rfl rfl (ev_tmp rfl)) rfl rfl rfl rfl ?_
      refine d_chain [7] rfl rfl (by kernel_rfl) ?_
      refine o_storeE (js := [9003]) (cs := (setI x.2.1 (fndK x k).toNat r).flatMap eItem) hT rfl rfl rfl rfl (ev_tmp rfl) (ev_tmp rfl) rfl rfl rfl rfl (ow_cons' (ow_key rfl) ow_nil rfl) (by decide) (by decide) rfl (by show _ ≤ List.length ((x.2.1).flatMap eItem); rw [len4]; omega) (setR_set (by omega)) ?_
      simp only [killT, killB, SV.kill, CV.kill, List.map_cons, List.map_nil, List.any_cons, List.any_nil, List.contains_cons, List.contains_nil, List.nil_append, List.cons_append, Nat.reduceBEq, Bool.or_false, Bool.false_or, Bool.or_true, Bool.true_or, cond_true, cond_false]
      refine ops_nil ?_
      refine then_n ?_
      refine ok_seq ?_
      refine ok_weak (weak_eq (k := 9001) (c' := kcOf false (itemsD (setI x.2.1 (fndK x k).toNat r))) rfl (congrArg (fun n => KC.mk false 52 4 n ((setI x.2.1 (fndK x k).toNat r).flatMap eItem)) setI_len.symm) rfl) ?_
      refine ok_region ?_
      refine o_pure rfl rfl (pu_loadBoxA hT rfl rfl (ev_tmp rfl) rfl rfl) rfl rfl ?_
      refine o_store hT rfl rfl rfl rfl (ev_tmp rfl) (ev_tmp rfl) rfl rfl rfl rfl rfl rfl ?_
      refine o_pure rfl rfl (pu_move (.inr rfl) ev_bool) rfl rfl ?_
      refine ops_nil ?_
      refine then_n ?_
      rw [put_f c1 d2]
      refine ok_weak (σ' := ⟨[(6, .box 6 0), (7, .one (.dv [] (.bool (true))))], [(6, 29, [(.dv [] (.str ((x).1))), (.key 9001), (.dv [] (.int .i64 ((x).2.2)))])], [(9001, some (kcOf false (itemsD (setI x.2.1 (fndK x k).toNat r))))]⟩) (weak_sub ⟨rfl, rfl, trivial⟩ ⟨rfl, trivial⟩ ⟨rfl, trivial⟩ rfl) ?_
      refine ok_ret ?_
      refine then_r ?_
      refine fin2 (res_cell hT rfl rfl rfl rfl) (res_tmp rfl) rfl rfl ?_
      first | exact ⟨rfl, rfl⟩ | skip
    · skip
      have d2 := of_decide_eq_false c2
      refine ok_skip ?_
      refine then_n ?_
      refine ok_seq ?_
      refine ok_seq ?_
      refine ok_region ?_
      refine o_pure rfl rfl (pu_fieldBox hT rfl rfl rfl (ev_tmp rfl)) rfl rfl ?_
      refine o_pure rfl rfl (pu_loadBox1 hT rfl rfl (ev_tmp rfl) rfl rfl) rfl rfl ?_
      refine o_pure rfl rfl (pu_lenV hT rfl rfl (ev_tmp rfl)) rfl rfl ?_
      refine o_pure rfl rfl (pu_geq rfl (ev_tmp rfl) (ev_int (inR_lit rfl))) rfl rfl ?_
      refine ops_nil ?_
      refine then_n ?_
      refine ok_cond (ev_tmp rfl) (fun c3 => ?_) (fun c3 => ?_)
      · skip
        have d3 := of_decide_eq_true c3
        refine ok_seq ?_
        refine ok_region ?_
        refine o_pure rfl rfl (pu_loadBoxA hT rfl rfl (ev_tmp rfl) rfl rfl) rfl rfl ?_
        refine o_store hT rfl rfl rfl rfl (ev_tmp rfl) (ev_tmp rfl) rfl rfl rfl rfl rfl rfl ?_
        refine o_pure rfl rfl (pu_move (.inr rfl) ev_bool) rfl rfl ?_
        refine ops_nil ?_
        refine then_n ?_
        rw [put_l c1 d2 d3]
        refine ok_weak (σ' := ⟨[(6, .box 6 0), (7, .one (.dv [] (.bool (false))))], [(6, 29, [(.dv [] (.str ((x).1))), (.key 9001), (.dv [] (.int .i64 ((x).2.2)))])], [(9001, some (kcOf false (itemsD (x.2.1))))]⟩) (weak_sub ⟨rfl, rfl, trivial⟩ ⟨rfl, trivial⟩ ⟨rfl, trivial⟩ rfl) ?_
        refine ok_ret ?_
        refine then_r ?_
        refine fin2 (res_cell hT rfl rfl rfl rfl) (res_tmp rfl) rfl rfl ?_
        first | exact ⟨rfl, rfl⟩ | skip
      · skip
        have d3 := of_decide_eq_false c3
        refine ok_skip ?_
        refine then_n ?_
        refine ok_seq ?_
        refine ok_region ?_
        refine o_pure rfl rfl (pu_move (.inr rfl) (ev_int (inR_lit rfl))) rfl rfl ?_
        refine ops_nil ?_
        refine then_n ?_
        refine ok_seq ?_
        refine ok_block ?_
        refine ok_loop (ι := Nat) (fun zz => ⟨[(3, .box 3 0), (4, .box 4 0), (5, .box 5 0), (6, .box 6 0), (7, .one (.dv [] (.bool (false)))), (8, .box 8 0), (10, .one (.dv [] (.int .i64 ((zz : Int)))))], [(3, 29, [(.dv [] (.str (x.1))), (.dv [] (itemsD (x.2.1))), (.dv [] (.int .i64 (x.2.2)))]), (4, 43, [(.dv [] (.int .i64 (k.1))), (.dv [] (.int .i64 (k.2.1))), (.dv [] (.str (k.2.2)))]), (5, 50, [(.dv [] (fieldsD (r)))]), (6, 29, [(.dv [] (.str (ByteArray.empty))), .nil, (.dv [] (.int .i64 (0)))]), (8, 29, [(.dv [] (.str ((x).1))), (.key 9001), (.dv [] (.int .i64 ((x).2.2)))])], [(9001, some (kcOf false (.sl 52 4 (x.2.1.length) (x.2.1.flatMap eItem))))]⟩) (fun zz => zz ≤ x.2.1.length ∧ posK k x.2.1 = zz + posK k (x.2.1.drop zz)) (fun zz => x.2.1.length - zz) (0) ?_ (weak_sub ⟨rfl, rfl, rfl, rfl, rfl, rfl, rfl, trivial⟩ ⟨rfl, rfl, rfl, rfl, rfl, trivial⟩ ⟨rfl, trivial⟩ rfl) (fun zz hx => ?_)
        · exact ⟨Nat.zero_le _, by simp⟩
        obtain ⟨j, rfl⟩ : ∃ v, v = zz := ⟨_, rfl⟩
        replace hx : j ≤ x.2.1.length ∧ posK k x.2.1 = j + posK k (x.2.1.drop j) := hx
        obtain ⟨hj, hp⟩ := hx
        show Ok _ _ _ _ _ (⟨[(3, .box 3 0), (4, .box 4 0), (5, .box 5 0), (6, .box 6 0), (7, .one (.dv [] (.bool (false)))), (8, .box 8 0), (10, .one (.dv [] (.int .i64 ((j : Int)))))], [(3, 29, [(.dv [] (.str (x.1))), (.dv [] (itemsD (x.2.1))), (.dv [] (.int .i64 (x.2.2)))]), (4, 43, [(.dv [] (.int .i64 (k.1))), (.dv [] (.int .i64 (k.2.1))), (.dv [] (.str (k.2.2)))]), (5, 50, [(.dv [] (fieldsD (r)))]), (6, 29, [(.dv [] (.str (ByteArray.empty))), .nil, (.dv [] (.int .i64 (0)))]), (8, 29, [(.dv [] (.str ((x).1))), (.key 9001), (.dv [] (.int .i64 ((x).2.2)))])], [(9001, some (kcOf false (.sl 52 4 (x.2.1.length) (x.2.1.flatMap eItem))))]⟩ : St)
        refine ok_seq ?_
        refine ok_seq ?_
        refine ok_regionD (oB := [3, 4, 5, 6, 8]) (oK := [9001]) (by kernel_rfl) rfl rfl ?_
        refine d_take 0 rfl (by kernel_rfl) rfl rfl (pu_move (.inl rfl) (ev_tmp rfl)) rfl rfl rfl rfl ?_
        refine d_take 1 rfl (by kernel_rfl) rfl rfl (pu_fieldBox hT rfl rfl rfl (ev_tmp rfl)) rfl rfl rfl rfl ?_
        refine d_take 2 rfl (by kernel_rfl) rfl rfl (pu_loadBox1 hT rfl rfl (ev_tmp rfl) rfl rfl) rfl rfl rfl rfl ?_
        refine d_take 3 rfl (by kernel_rfl) rfl rfl (pu_lenV hT rfl rfl (ev_tmp rfl)) rfl rfl rfl rfl ?_
        refine d_take 4 rfl (by kernel_rfl) rfl rfl (pu_lss rfl (ev_tmp rfl) (ev_tmp rfl)) rfl rfl rfl rfl ?_
        refine d_take 5 rfl (by kernel_rfl) rfl rfl (pu_move (.inl rfl) (ev_tmp rfl)) rfl rfl rfl rfl ?_
        refine d_takeG 6 rfl (by kernel_rfl) (gd_bool rfl rfl rfl rfl rfl) rfl (fun hg => pu_fieldBox hT rfl rfl rfl (ev_tmp rfl)) rfl rfl rfl rfl ?_
        refine d_takeG 7 rfl (by kernel_rfl) (gd_bool rfl rfl rfl rfl rfl) rfl (fun hg => pu_loadBox1 hT rfl rfl (ev_opt rfl hg) rfl rfl) rfl rfl rfl rfl ?_
        refine d_takeG 8 rfl (by kernel_rfl) (gd_bool rfl rfl rfl rfl rfl) rfl (fun hg => pu_move (.inl rfl) (ev_tmp rfl)) rfl rfl rfl rfl ?_
        refine d_takeG 9 rfl (by kernel_rfl) (gd_bool rfl rfl rfl rfl rfl) rfl (fun hg => pu_indexD hT rfl rfl rfl (ev_opt rfl hg) (ev_opt rfl hg) (fun _ => rfl) (by first | omega | (simp only [Bool.and_eq_true, Bool.or_eq_true, Bool.or_eq_false_iff, Bool.and_eq_false_iff, Bool.not_eq_true', Bool.not_eq_false', beq_iff_eq, decide_eq_true_eq, decide_eq_false_iff_not] at hg; omega) | (have hh := of_decide_eq_true (beq_tt hg); omega) | (have hh := of_decide_eq_true (beq_tt (and_r hg)); omega)) (by first | omega | (simp only [Bool.and_eq_true, Bool.or_eq_true, Bool.or_eq_false_iff, Bool.and_eq_false_iff, Bool.not_eq_true', Bool.not_eq_false', beq_iff_eq, decide_eq_true_eq, decide_eq_false_iff_not] at hg; omega) | (have hh := of_decide_eq_true (beq_tt hg); omega) | (have hh := of_decide_eq_true (beq_tt (and_r hg)); omega))) rfl rfl rfl rfl ?_
        refine d_takeG 10 rfl (by kernel_rfl) (gd_bool rfl rfl rfl rfl rfl) rfl (fun hg => pu_fieldRef hT rfl rfl rfl (ev_opt rfl hg)) rfl rfl rfl rfl ?_
        refine d_takeG 11 rfl (by kernel_rfl) (gd_bool rfl rfl rfl rfl rfl) rfl (fun hg => pu_loadRefA hT rfl rfl (ev_opt rfl hg) rfl) rfl rfl rfl rfl ?_
        refine d_takeG 12 rfl (by kernel_rfl) (gd_bool rfl rfl rfl rfl rfl) rfl (fun hg => pu_loadBoxA hT rfl rfl (ev_tmp rfl) rfl rfl) rfl rfl rfl rfl ?_
        refine d_callG 13 rfl (by kernel_rfl) (gd_bool rfl rfl rfl rfl rfl) rfl rfl Try.call58 ok_spec_CompareKeys (fun hg => (as_cons (ev_opt rfl hg) (ag_agg (ag_cons ac_dv (ag_cons ac_dv (ag_cons ac_dv ag_nil)))) (as_cons (ev_opt rfl hg) (ag_agg (ag_cons ac_dv (ag_cons ac_dv (ag_cons ac_dv ag_nil)))) as_nil))) rfl rfl ?_
        refine d_takeG 14 rfl (by kernel_rfl) (gd_bool rfl rfl rfl rfl rfl) rfl (fun hg => pu_lss rfl (ev_opt rfl hg) (ev_int (inR_lit rfl))) rfl rfl rfl rfl ?_
        refine d_take 15 rfl (by kernel_rfl) rfl rfl (pu_and rfl (ev_tmp rfl) (fun hb => (ev_opt rfl (beq_t hb)))) rfl rfl rfl rfl ?_
        refine d_done (by kernel_rfl) ?_
        refine then_n ?_
        refine ok_cond (ev_tmp rfl) (fun c4 => ?_) (fun c4 => ?_)
        · skip
          have hst := posK_step hp c4
          have hst1 := hst.1
          refine ok_skip ?_
          refine then_n ?_
          refine ok_block ?_
          refine ok_region ?_
          refine o_pure rfl rfl (pu_move (.inl rfl) (ev_tmp rfl)) rfl rfl ?_
          refine o_pure rfl rfl (pu_addR rfl (ev_tmp rfl) (ev_int (inR_lit rfl)) (inR64 (by omega) (by omega))) rfl rfl ?_
          refine o_pure rfl rfl (pu_move (.inr rfl) (ev_tmp rfl)) rfl rfl ?_
          refine ops_nil ?_
          refine blk_n ?_
          refine then_n ?_
          refine ⟨j + 1, ?_, ?_, weak_sub ⟨rfl, rfl, rfl, rfl, rfl, rfl, rfl, trivial⟩ ⟨rfl, rfl, rfl, rfl, rfl, trivial⟩ ⟨rfl, trivial⟩ rfl⟩
          · exact ⟨by omega, hst.2⟩
          · omega
        · skip
          have hpos := posK_stop hj hp c4
          refine ok_exit ?_
          refine then_e ?_
          refine then_e ?_
          refine blk_e rfl ?_
          refine then_n ?_
          refine ok_seq ?_
          refine ok_region ?_
          refine o_build0 (k := 65) hT rfl rfl rfl rfl rfl rfl rfl rfl ?_
          refine o_pure rfl rfl (pu_fieldBox hT rfl rfl rfl (ev_tmp rfl)) rfl rfl ?_
          refine o_pure rfl rfl (pu_loadBox1 hT rfl rfl (ev_tmp rfl) rfl rfl) rfl rfl ?_
          refine o_pure rfl rfl (pu_move (.inl rfl) (ev_tmp rfl)) rfl rfl ?_
          refine o_appSubB (b8 := 8) (i8 := 1) (k := 65) (j := 9001) (s := 67) (n := (x.2.1.take j).length) (cs := (x.2.1.take j).flatMap eItem) (c2s := List.replicate (j * 4) .hole ++ (x.2.1.drop j).flatMap eItem) hT rfl rfl rfl (sl_h hT rfl rfl rfl (ev_tmp rfl) rfl (ev_tmp rfl) (by omega) (by dsimp only [kcOf]; omega)) rfl rfl rfl rfl rfl rfl rfl (ev_tmp rfl) rfl rfl rfl rfl rfl rfl (by decide) rfl rfl ⟨rfl, rfl⟩ (by omega) (by dsimp only [kcOf]; omega) (by dsimp only [kcOf]; omega) (by dsimp only [kcOf]; omega) (by rw [List.length_take, Nat.min_eq_left (by omega)]; simp) (sub_lo) (holed_lo) rfl rfl rfl ?_
          simp only [killT, killB, SV.kill, CV.kill, List.map_cons, List.map_nil, List.any_cons, List.any_nil, List.contains_cons, List.contains_nil, List.nil_append, List.cons_append, Nat.reduceBEq, Bool.or_false, Bool.false_or, Bool.or_true, Bool.true_or, cond_true, cond_false]
          refine o_pure rfl rfl (pu_move (.inr rfl) (ev_tmp rfl)) rfl rfl ?_
          refine ops_nil ?_
          refine then_n ?_
          refine ok_seq ?_
          refine ok_regionH [0, 1, 2, 3, 4, 5] (oB := [3, 4, 5, 6, 8]) (oK := [65, 9001]) (by kernel_rfl) rfl rfl ?_
          refine d_take 0 rfl (by kernel_rfl) rfl rfl (pu_move (.inl rfl) (ev_tmp rfl)) rfl rfl rfl rfl ?_
          refine d_take 1 rfl (by kernel_rfl) rfl rfl (pu_loadBoxA hT rfl rfl (ev_tmp rfl) rfl rfl) rfl rfl rfl rfl ?_
          refine d_take 2 rfl (by kernel_rfl) rfl rfl (pu_loadBoxA hT rfl rfl (ev_tmp rfl) rfl rfl) rfl rfl rfl rfl ?_
          refine d_callK 9000 3 rfl (by kernel_rfl) rfl rfl rfl Try.call74 (ok_spec_l5Copy (by omega)) (as_cons (ev_tmp rfl) (ag_agg (ag_cons ac_dv ag_nil)) as_nil) rfl rfl rfl rfl rfl ?_
          refine d_take 4 rfl (by kernel_rfl) rfl rfl (pu_build hT hB rfl rfl rfl (bp_cons (ev_tmp rfl) rfl rfl rfl rfl rfl (bp_cons (ev_tmp rfl) rfl rfl rfl rfl rfl bp_nil))) rfl rfl rfl rfl ?_
          refine d_build1 (k := 76) (js := [9003]) 5 hT rfl (by kernel_rfl) rfl rfl rfl rfl rfl rfl rfl rfl rfl (ev_tmp rfl) rfl rfl (ow_cons' (ow_dv rfl) (ow_cons' (ow_dv rfl) (ow_cons' (ow_dv rfl) (ow_cons' (ow_key rfl) ow_nil rfl) rfl) rfl) rfl) (by decide) (by decide) rfl rfl (by decide) ?_
          simp only [killT, killB, SV.kill, CV.kill, List.map_cons, List.map_nil, List.any_cons, List.any_nil, List.contains_cons, List.contains_nil, List.nil_append, List.cons_append, Nat.reduceBEq, Bool.or_false, Bool.false_or, Bool.or_true, Bool.true_or, cond_true, cond_false]
          refine d_chain [6, 7] rfl rfl (by kernel_rfl) ?_
          refine o_appK (k := 65) (j := 76) (cs := (x.2.1.take j ++ [(k, r)]).flatMap eItem) (n := (x.2.1.take j ++ [(k, r)]).length) hT rfl rfl rfl rfl rfl rfl rfl (ev_tmp rfl) rfl rfl rfl (ev_tmp rfl) rfl rfl (by decide) (by dsimp only [kcOf]; simp only [List.length_take]; omega) (by dsimp only [kcOf]; simp only [List.length_take]; omega) (by simp) (by rw [List.flatMap_append]; rfl) ?_
          simp only [killT, killB, SV.kill, CV.kill, List.map_cons, List.map_nil, List.any_cons, List.any_nil, List.contains_cons, List.contains_nil, List.nil_append, List.cons_append, Nat.reduceBEq, Bool.or_false, Bool.false_or, Bool.or_true, Bool.true_or, cond_true, cond_false]
          refine o_pure rfl rfl (pu_move (.inr rfl) (ev_tmp rfl)) rfl rfl ?_
          refine ops_nil ?_
          refine then_n ?_
          refine ok_seq ?_
          refine ok_region ?_
          refine o_pure rfl rfl (pu_move (.inl rfl) (ev_tmp rfl)) rfl rfl ?_
          refine o_pure rfl rfl (pu_fieldBox hT rfl rfl rfl (ev_tmp rfl)) rfl rfl ?_
          refine o_pure rfl rfl (pu_loadBox1 hT rfl rfl (ev_tmp rfl) rfl rfl) rfl rfl ?_
          refine o_pure rfl rfl (pu_move (.inl rfl) (ev_tmp rfl)) rfl rfl ?_
          refine o_appSub (k := 65) (j := 9001) (s := 80) (n := (insI x.2.1 j (k, r)).length) (cs := (insI x.2.1 j (k, r)).flatMap eItem) (c2s := _) hT rfl rfl rfl (sl_l hT rfl rfl rfl (ev_tmp rfl) rfl (ev_tmp rfl) (by omega) (by dsimp only [kcOf]; omega)) rfl rfl rfl rfl rfl rfl rfl (ev_tmp rfl) rfl rfl rfl rfl rfl rfl (by decide) rfl rfl ⟨rfl, rfl⟩ (by dsimp only [kcOf]; omega) (by dsimp only [kcOf]; omega) (by dsimp only [kcOf]; simp only [List.length_append, List.length_take, List.length_singleton]; omega) (by dsimp only [kcOf]; simp only [List.length_append, List.length_take, List.length_singleton]; omega) (by rw [insI_len]; simp; omega) (sub_hi hj) (rfl) ?_
          simp only [killT, killB, SV.kill, CV.kill, List.map_cons, List.map_nil, List.any_cons, List.any_nil, List.contains_cons, List.contains_nil, List.nil_append, List.cons_append, Nat.reduceBEq, Bool.or_false, Bool.false_or, Bool.or_true, Bool.true_or, cond_true, cond_false]
          refine o_pure rfl rfl (pu_fieldBox hT rfl rfl rfl (ev_tmp rfl)) rfl rfl ?_
          refine o_store hT rfl rfl rfl rfl (ev_tmp rfl) (ev_tmp rfl) rfl rfl rfl rfl rfl rfl ?_
          refine ops_nil ?_
          refine then_n ?_
          refine ok_seq ?_
          refine ok_seq ?_
          refine ok_region ?_
          refine o_pure rfl rfl (pu_fieldBox hT rfl rfl rfl (ev_tmp rfl)) rfl rfl ?_
          refine o_pure rfl rfl (pu_loadBox1 hT rfl rfl (ev_tmp rfl) rfl rfl) rfl rfl ?_
          refine o_pure rfl rfl (pu_eql rfl (ev_tmp rfl) (ev_int (inR_lit rfl))) rfl rfl ?_
          refine o_pure rfl rfl (pu_move (.inl rfl) (ev_tmp rfl)) rfl rfl ?_
          refine o_pureG (gd_bool rfl rfl rfl rfl rfl) rfl (fun hg => pu_fieldBox hT rfl rfl rfl (ev_tmp rfl)) rfl rfl ?_
          refine o_pureG (gd_bool rfl rfl rfl rfl rfl) rfl (fun hg => pu_loadBox1 hT rfl rfl (ev_opt rfl hg) rfl rfl) rfl rfl ?_
          refine o_pureG (gd_bool rfl rfl rfl rfl rfl) rfl (fun hg => pu_fieldBox hT rfl rfl rfl (ev_tmp rfl)) rfl rfl ?_
          refine o_pureG (gd_bool rfl rfl rfl rfl rfl) rfl (fun hg => pu_loadBox1 hT rfl rfl (ev_opt rfl hg) rfl rfl) rfl rfl ?_
          refine o_pureG (gd_bool rfl rfl rfl rfl rfl) rfl (fun hg => pu_addR rfl (ev_opt rfl hg) (ev_int (inR_lit rfl)) (inR64 (by omega) (by omega))) rfl rfl ?_
          refine o_callG (gd_bool rfl rfl rfl rfl rfl) rfl rfl Try.call75 ok_spec_l1In (fun hg => (as_cons (ev_opt rfl hg) (ag_one ac_dv) (as_cons (ev_opt rfl hg) (ag_one ac_dv) (as_cons (ev_int (inR_lit rfl)) (ag_one ac_dv) as_nil)))) rfl rfl ?_
          refine o_pure rfl rfl (pu_and rfl (ev_tmp rfl) (fun hb => (ev_opt rfl (beq_t hb)))) rfl rfl ?_
          refine ops_nil ?_
          refine then_n ?_
          refine ok_cond (ev_tmp rfl) (fun c5 => ?_) (fun c5 => ?_)
          · skip
            refine ok_region ?_
            refine o_pure rfl rfl (pu_fieldBox hT rfl rfl rfl (ev_tmp rfl)) rfl rfl ?_
            refine o_pure rfl rfl (pu_loadBox1 hT rfl rfl (ev_tmp rfl) rfl rfl) rfl rfl ?_
            refine o_pure rfl rfl (pu_fieldBox hT rfl rfl rfl (ev_tmp rfl)) rfl rfl ?_
            refine o_store hT rfl rfl rfl rfl (ev_tmp rfl) (ev_tmp rfl) rfl rfl rfl rfl rfl rfl ?_
            refine ops_nil ?_
            refine then_n ?_
            refine ok_seq ?_
            refine ok_weak (weak_swapB (b := 8) (i := 1) (k := 65) (k' := 9001) rfl rfl rfl rfl (by decide) rfl rfl) ?_
            simp only [killT, killB, SV.kill, CV.kill, List.map_cons, List.map_nil, List.any_cons, List.any_nil, List.contains_cons, List.contains_nil, List.nil_append, List.cons_append, Nat.reduceBEq, Bool.or_false, Bool.false_or, Bool.or_true, Bool.true_or, cond_true, cond_false]
            refine ok_region ?_
            refine o_pure rfl rfl (pu_loadBoxA hT rfl rfl (ev_tmp rfl) rfl rfl) rfl rfl ?_
            refine o_store hT rfl rfl rfl rfl (ev_tmp rfl) (ev_tmp rfl) rfl rfl rfl rfl rfl rfl ?_
            refine o_pure rfl rfl (pu_move (.inr rfl) ev_bool) rfl rfl ?_
            refine ops_nil ?_
            refine then_n ?_
            rw [put_i c1 d2 d3 hpos (auto_y c5)]
            refine ok_weak (σ' := ⟨[(6, .box 6 0), (7, .one (.dv [] (.bool (true))))], [(6, 29, [(.dv [] (.str ((x).1))), (.key 9001), (.dv [] (.int .i64 (k.2.1)))])], [(9001, some (kcOf false (itemsD (insI x.2.1 j (k, r)))))]⟩) (weak_sub ⟨rfl, rfl, trivial⟩ ⟨rfl, trivial⟩ ⟨rfl, trivial⟩ rfl) ?_
            refine ok_ret ?_
            refine fin2 (res_cell hT rfl rfl rfl rfl) (res_tmp rfl) rfl rfl ?_
            first | exact ⟨rfl, rfl⟩ | skip
          · skip
            refine ok_skip ?_
            refine then_n ?_
            refine ok_seq ?_
            refine ok_weak (weak_swapB (b := 8) (i := 1) (k := 65) (k' := 9001) rfl rfl rfl rfl (by decide) rfl rfl) ?_
            simp only [killT, killB, SV.kill, CV.kill, List.map_cons, List.map_nil, List.any_cons, List.any_nil, List.contains_cons, List.contains_nil, List.nil_append, List.cons_append, Nat.reduceBEq, Bool.or_false, Bool.false_or, Bool.or_true, Bool.true_or, cond_true, cond_false]
            refine ok_region ?_
            refine o_pure rfl rfl (pu_loadBoxA hT rfl rfl (ev_tmp rfl) rfl rfl) rfl rfl ?_
            refine o_store hT rfl rfl rfl rfl (ev_tmp rfl) (ev_tmp rfl) rfl rfl rfl rfl rfl rfl ?_
            refine o_pure rfl rfl (pu_move (.inr rfl) ev_bool) rfl rfl ?_
            refine ops_nil ?_
            refine then_n ?_
            rw [put_i c1 d2 d3 hpos (auto_n c5)]
            refine ok_weak (σ' := ⟨[(6, .box 6 0), (7, .one (.dv [] (.bool (true))))], [(6, 29, [(.dv [] (.str ((x).1))), (.key 9001), (.dv [] (.int .i64 ((x).2.2)))])], [(9001, some (kcOf false (itemsD (insI x.2.1 j (k, r)))))]⟩) (weak_sub ⟨rfl, rfl, trivial⟩ ⟨rfl, trivial⟩ ⟨rfl, trivial⟩ rfl) ?_
            refine ok_ret ?_
            refine fin2 (res_cell hT rfl rfl rfl rfl) (res_tmp rfl) rfl rfl ?_
            first | exact ⟨rfl, rfl⟩ | skip
end Go.Proofs.Ytbmgommbmhmbgaa
