/-
  Contracts of the program's functions for the statements Transactions, by the rules of the logic. Conditions: none but those in the theorems.
-/
import Derived.Test.YtjkpoekgnmgofaaGreatQTX1
set_option maxHeartbeats 4000000
set_option maxRecDepth 100000
namespace Go.Proofs.YtjkpoekgnmgofaaGreat
open Go.RowKit
open Go.Proofs
set_option linter.unusedVariables false
set_option linter.unusedSimpArgs false

theorem take_csG {α : Type} [Inhabited α] {enc : α → List DV} {xs : List α} {k : Nat} (hk : k < xs.length) : (xs.take k).flatMap enc ++ enc (xs.getD (k : Int).toNat default) = (xs.take (k + 1)).flatMap enc ∧ (xs.take k).length + 1 = (xs.take (k + 1)).length := by
 have e : xs.getD (k : Int).toNat default = xs[k] := by simp [List.getD, List.getElem?_eq_getElem hk]
 rw [List.take_add_one, List.getElem?_eq_getElem hk, e]
 simp only [Option.toList_some, List.flatMap_append, List.flatMap_cons, List.flatMap_nil, List.append_nil, List.length_append, List.length_singleton]
 exact ⟨trivial, trivial⟩
theorem wOp_rec (o : OpT) : o.2.2.2.1.length ≤ wOp o := by unfold wOp wRecord wList; omega

theorem ok_impl_copyOps {x : List OpT} (hb : wList wOp x ≤ 1099511627776) : KFn Tryz.prog 71 [.one (.dv [] (opsD (x)))] (.one (.key 6)) [(6, some (kcOf false (opsD (x))))] := by
 refine ⟨fn_intro Tryz.func71 rfl Tryz.ntmps71 Tryz.results71 rfl (fun C => ?_)⟩
 have hwl : wList wOp x = x.length + wSum wOp x := rfl
 refine ok_fact (x := .tmp 0) (ev_tmp rfl) fun f0 => ?_
 iterate 4 refine z ?_
 refine o_build0 (k := 6) hT rfl rfl rfl rfl rfl rfl rfl rfl ?_
 iterate 9 refine z ?_
 refine ok_loop (ι := Nat) (fun zz => ⟨[(2, .one .nil), (3, .one (.key 6)), (7, .one (.dv [] (opsD (x)))), (8, .one (.dv [] (.int .i64 ((((x)).length : Int))))), (9, .one (.dv [] (.int .i64 ((zz : Int)))))], [], [(6, some (kcOf false (.sl 68 7 ((x.take zz).length) ((x.take zz).flatMap eOp))))]⟩) (fun zz => zz ≤ x.length) (fun zz => x.length - zz) (0) ?_ (weak_sub ⟨rfl, rfl, rfl, rfl, rfl, trivial⟩ trivial ⟨rfl, trivial⟩ rfl) (fun zz hx => ?_)
 ·exact Nat.zero_le _
 obtain ⟨k, rfl⟩ : ∃ v, v = zz := ⟨_, rfl⟩
 replace hx : k ≤ x.length := hx
 have hw := fun h => wSum_succ wOp x k h
 show Ok _ _ _ _ _ (⟨[(2, .one .nil), (3, .one (.key 6)), (7, .one (.dv [] (opsD (x)))), (8, .one (.dv [] (.int .i64 ((((x)).length : Int))))), (9, .one (.dv [] (.int .i64 ((k : Int)))))], [], [(6, some (kcOf false (.sl 68 7 ((x.take k).length) ((x.take k).flatMap eOp))))]⟩ : St)
 iterate 3 refine z ?_
 refine ok_seq ?_
 refine yQ rfl (fun c1 => ?_) fun c1 => ?_
 ·skip
  have d1 := of_decide_eq_true c1
  have hk2 : k < x.length := by omega
  obtain ⟨hw1, hw2⟩ := hw hk2
  have hrec := wOp_rec (x.getD (k : Int).toNat default)
  iterate 13 refine z ?_
  refine zK 697 Tryz.call74 ?_ (hf := ok_impl_copyRecord (x := (((x)).getD ((k : Int)).toNat default).2.2.2.1) (by omega))
  iterate 3 refine z ?_
  refine ok_region ?_
  iterate 2 refine z ?_
  refine o_build1 (k := 19) (js := [700]) hT rfl rfl rfl rfl rfl rfl rfl rfl rfl (ev_tmp rfl) rfl rfl (ow_cons' (ow_dv rfl) (ow_cons' (ow_dv rfl) (ow_cons' (ow_dv rfl) (ow_cons' (ow_dv rfl) (ow_cons' (ow_dv rfl) (ow_cons' (ow_key rfl) (ow_cons' (ow_dv rfl) ow_nil rfl) rfl) rfl) rfl) rfl) rfl) rfl) (by decide) (by decide) rfl rfl ?_
  simp only [killT, killB, SV.kill, CV.kill, kk, Nat.reduceBEq]
  refine o_appK (k := 6) (j := 19) (cs := (x.take (k + 1)).flatMap eOp) (n := (x.take (k + 1)).length) hT rfl rfl rfl rfl rfl rfl rfl (ev_tmp rfl) rfl rfl rfl (ev_tmp rfl) rfl rfl (by decide) (by dsimp only [kcOf]; simp only [List.length_take]; omega) (by dsimp only [kcOf]; simp only [List.length_take]; omega) ((take_csG (enc := eOp) hk2).2) ((take_csG (enc := eOp) hk2).1) ?_
  simp only [killT, killB, SV.kill, CV.kill, kk, Nat.reduceBEq]
  refine z ?_
  refine ops_nil ?_
  iterate 2 refine z ?_
  refine ok_region ?_
  iterate 3 refine z ?_
  refine ⟨k + 1, ?_, ?_, weak_sub ⟨rfl, rfl, rfl, rfl, rfl, trivial⟩ trivial ⟨rfl, trivial⟩ rfl⟩
  ·omega
  ·omega
 ·skip
  have d1 := of_decide_eq_false c1
  iterate 9 refine z ?_
  refine ok_weak (σ' := ⟨[(2, .one (.key 6))], [], [(6, some (kcOf false (opsD (x))))]⟩) (weak_sub ⟨rfl, trivial⟩ trivial ⟨(congrArg (fun l : List (OpT) => some (some (KC.mk false 68 7 l.length (l.flatMap eOp)))) (List.take_of_length_le (by omega))), trivial⟩ rfl) ?_
  refine z ?_
  refine fin1 (res_tmp rfl) ?_
  exact ⟨rfl, rfl⟩
theorem ok_spec_l9Copy {x : List OpT} (hb : wList wOp x ≤ 1099511627776) : KFn Tryz.prog 69 [.one (.dv [] (opsD (x)))] (.one (.key 6)) [(6, some (kcOf false (opsD (x))))] := by
 refine ⟨fn_intro Tryz.func69 rfl Tryz.ntmps69 Tryz.results69 rfl (fun C => ?_)⟩
 have hwl : wList wOp x = x.length + wSum wOp x := rfl
 refine ok_fact (x := .tmp 0) (ev_tmp rfl) fun f0 => ?_
 iterate 4 refine z ?_
 refine o_build0 (k := 6) hT rfl rfl rfl rfl rfl rfl rfl rfl ?_
 iterate 7 refine z ?_
 refine ok_loop (ι := Nat) (fun zz => ⟨[(0, .one (.dv [] (opsD (x)))), (2, .one .nil), (3, .one (.key 6)), (4, .one (.dv [] (.int .i64 ((zz : Int)))))], [], [(6, some (kcOf false (.sl 68 7 ((x.take zz).length) ((x.take zz).flatMap eOp))))]⟩) (fun zz => zz ≤ x.length) (fun zz => x.length - zz) (0) ?_ (weak_sub ⟨rfl, rfl, rfl, rfl, trivial⟩ trivial ⟨rfl, trivial⟩ rfl) (fun zz hx => ?_)
 ·exact Nat.zero_le _
 obtain ⟨k, rfl⟩ : ∃ v, v = zz := ⟨_, rfl⟩
 replace hx : k ≤ x.length := hx
 have hw := fun h => wSum_succ wOp x k h
 show Ok _ _ _ _ _ (⟨[(0, .one (.dv [] (opsD (x)))), (2, .one .nil), (3, .one (.key 6)), (4, .one (.dv [] (.int .i64 ((k : Int)))))], [], [(6, some (kcOf false (.sl 68 7 ((x.take k).length) ((x.take k).flatMap eOp))))]⟩ : St)
 iterate 7 refine z ?_
 refine yQ rfl (fun c1 => ?_) fun c1 => ?_
 ·skip
  have d1 := of_decide_eq_true c1
  have hk2 : k < x.length := by omega
  obtain ⟨hw1, hw2⟩ := hw hk2
  have hrec := wOp_rec (x.getD (k : Int).toNat default)
  iterate 18 refine z ?_
  refine zK 697 Tryz.call107 ?_ (hf := ok_spec_l5Copy (x := (((x)).getD ((k : Int)).toNat default).2.2.2.1) (by omega))
  iterate 3 refine z ?_
  refine ok_region ?_
  iterate 2 refine z ?_
  refine o_build1 (k := 26) (js := [700]) hT rfl rfl rfl rfl rfl rfl rfl rfl rfl (ev_tmp rfl) rfl rfl (ow_cons' (ow_dv rfl) (ow_cons' (ow_dv rfl) (ow_cons' (ow_dv rfl) (ow_cons' (ow_dv rfl) (ow_cons' (ow_dv rfl) (ow_cons' (ow_key rfl) (ow_cons' (ow_dv rfl) ow_nil rfl) rfl) rfl) rfl) rfl) rfl) rfl) (by decide) (by decide) rfl rfl ?_
  simp only [killT, killB, SV.kill, CV.kill, kk, Nat.reduceBEq]
  refine o_appK (k := 6) (j := 26) (cs := (x.take (k + 1)).flatMap eOp) (n := (x.take (k + 1)).length) hT rfl rfl rfl rfl rfl rfl rfl (ev_tmp rfl) rfl rfl rfl (ev_tmp rfl) rfl rfl (by decide) (by dsimp only [kcOf]; simp only [List.length_take]; omega) (by dsimp only [kcOf]; simp only [List.length_take]; omega) ((take_csG (enc := eOp) hk2).2) ((take_csG (enc := eOp) hk2).1) ?_
  simp only [killT, killB, SV.kill, CV.kill, kk, Nat.reduceBEq]
  refine z ?_
  refine ops_nil ?_
  iterate 2 refine z ?_
  refine ok_region ?_
  iterate 4 refine z ?_
  refine ⟨k + 1, ?_, ?_, weak_sub ⟨rfl, rfl, rfl, rfl, trivial⟩ trivial ⟨rfl, trivial⟩ rfl⟩
  ·omega
  ·omega
 ·skip
  have d1 := of_decide_eq_false c1
  iterate 9 refine z ?_
  refine ok_weak (σ' := ⟨[(2, .one (.key 6))], [], [(6, some (kcOf false (opsD (x))))]⟩) (weak_sub ⟨rfl, trivial⟩ trivial ⟨(congrArg (fun l : List (OpT) => some (some (KC.mk false 68 7 l.length (l.flatMap eOp)))) (List.take_of_length_le (by omega))), trivial⟩ rfl) ?_
  refine z ?_
  refine fin1 (res_tmp rfl) ?_
  exact ⟨rfl, rfl⟩
theorem ok_spec_l10Stores {x : List StoreT} (hb : wList wStore x ≤ 1099511627776) : KFn Tryz.prog 106 [.one (.dv [] (storesD (x)))] (.one (.key 5)) [(5, some (kcOf false (storesD (x))))] := by
 refine ⟨fn_intro Tryz.func106 rfl Tryz.ntmps106 Tryz.results106 rfl (fun C => ?_)⟩
 have hwl : wList wStore x = x.length + wSum wStore x := rfl
 refine ok_fact (x := .tmp 0) (ev_tmp rfl) fun f0 => ?_
 iterate 4 refine z ?_
 refine o_build0 (k := 5) hT rfl rfl rfl rfl rfl rfl rfl rfl ?_
 iterate 7 refine z ?_
 refine ok_loop (ι := Nat) (fun zz => ⟨[(0, .one (.dv [] (storesD (x)))), (2, .one .nil), (3, .one (.key 5)), (4, .one (.dv [] (.int .i64 ((zz : Int)))))], [], [(5, some (kcOf false (.sl 60 3 ((x.take zz).length) ((x.take zz).flatMap eStore))))]⟩) (fun zz => zz ≤ x.length) (fun zz => x.length - zz) (0) ?_ (weak_sub ⟨rfl, rfl, rfl, rfl, trivial⟩ trivial ⟨rfl, trivial⟩ rfl) (fun zz hx => ?_)
 ·exact Nat.zero_le _
 obtain ⟨k, rfl⟩ : ∃ v, v = zz := ⟨_, rfl⟩
 replace hx : k ≤ x.length := hx
 have hw := fun h => wSum_succ wStore x k h
 show Ok _ _ _ _ _ (⟨[(0, .one (.dv [] (storesD (x)))), (2, .one .nil), (3, .one (.key 5)), (4, .one (.dv [] (.int .i64 ((k : Int)))))], [], [(5, some (kcOf false (.sl 60 3 ((x.take k).length) ((x.take k).flatMap eStore))))]⟩ : St)
 iterate 7 refine z ?_
 refine yQ rfl (fun c1 => ?_) fun c1 => ?_
 ·skip
  have d1 := of_decide_eq_true c1
  have hk2 : k < x.length := by omega
  obtain ⟨hw1, hw2⟩ := hw hk2
  iterate 4 refine z ?_
  refine ok_region ?_
  iterate 5 refine z ?_
  refine zK 17000 Tryz.call54 ?_ (hf := ok_spec_l6Copy (x := (((x)).getD ((k : Int)).toNat default)) (by omega))
  refine o_build1 (k := 18) (js := [17030]) hT rfl rfl rfl rfl rfl rfl rfl rfl rfl (ev_tmp rfl) rfl rfl (ow_cons' (ow_dv rfl) (ow_cons' (ow_key rfl) (ow_cons' (ow_dv rfl) ow_nil rfl) rfl) rfl) (by decide) (by decide) rfl rfl ?_
  simp only [killT, killB, SV.kill, CV.kill, kk, Nat.reduceBEq]
  refine o_appK (k := 5) (j := 18) (cs := (x.take (k + 1)).flatMap eStore) (n := (x.take (k + 1)).length) hT rfl rfl rfl rfl rfl rfl rfl (ev_tmp rfl) rfl rfl rfl (ev_tmp rfl) rfl rfl (by decide) (by dsimp only [kcOf]; simp only [List.length_take]; omega) (by dsimp only [kcOf]; simp only [List.length_take]; omega) ((take_csG (enc := eStore) hk2).2) ((take_csG (enc := eStore) hk2).1) ?_
  simp only [killT, killB, SV.kill, CV.kill, kk, Nat.reduceBEq]
  refine z ?_
  refine ops_nil ?_
  iterate 2 refine z ?_
  refine ok_region ?_
  iterate 4 refine z ?_
  refine ⟨k + 1, ?_, ?_, weak_sub ⟨rfl, rfl, rfl, rfl, trivial⟩ trivial ⟨rfl, trivial⟩ rfl⟩
  ·omega
  ·omega
 ·skip
  have d1 := of_decide_eq_false c1
  iterate 9 refine z ?_
  refine ok_weak (σ' := ⟨[(2, .one (.key 5))], [], [(5, some (kcOf false (storesD (x))))]⟩) (weak_sub ⟨rfl, trivial⟩ trivial ⟨(congrArg (fun l : List (StoreT) => some (some (KC.mk false 60 3 l.length (l.flatMap eStore)))) (List.take_of_length_le (by omega))), trivial⟩ rfl) ?_
  refine z ?_
  refine fin1 (res_tmp rfl) ?_
  exact ⟨rfl, rfl⟩
theorem ok_impl_copyTx {x : TxT} (hb : wTx x ≤ 1099511627776) : KFn Tryz.prog 40 [.agg [(.dv [] (.int .i64 (x.1))), (.dv [] (opsD (x.2.1))), (.dv [] (.int .i64 (x.2.2.1))), (.dv [] (.int .i64 (x.2.2.2.1))), (.dv [] (storesD (x.2.2.2.2)))]] (.agg [(.dv [] (.int .i64 (x.1))), (.key 800), (.dv [] (.int .i64 (x.2.2.1))), (.dv [] (.int .i64 (x.2.2.2.1))), (.key 31)]) [(800, some (kcOf false (opsD (x.2.1)))), (31, some (kcOf false (storesD (x.2.2.2.2))))] := by
 refine ⟨fn_intro Tryz.func40 rfl Tryz.ntmps40 Tryz.results40 rfl (fun C => ?_)⟩
 have hwt : wTx x = wList wOp x.2.1 + wList wStore x.2.2.2.2 := rfl
 have hwl : wList wStore x.2.2.2.2 = x.2.2.2.2.length + wSum wStore x.2.2.2.2 := rfl
 refine yF 0 0 rfl rfl fun f0_0 => ?_
 refine yF 0 1 rfl rfl fun f0_1 => ?_
 refine yF 0 2 rfl rfl fun f0_2 => ?_
 refine yF 0 3 rfl rfl fun f0_3 => ?_
 refine yF 0 4 rfl rfl fun f0_4 => ?_
 iterate 4 refine z ?_
 refine ok_seq ?_
 refine ok_regionD (oB := [1, 2]) (oK := []) (by kernel_rfl) rfl rfl ?_
 refine zD 0 ?_
 refine zD 1 ?_
 refine zD 2 ?_
 refine zD 3 ?_
 refine zD 5 ?_
 refine zD 6 ?_
 refine zD 7 ?_
 refine zD 8 ?_
 refine d_vars (A := [(10, 3, 40, _)]) hT ⟨⟨_, _, rfl⟩, rfl, trivial⟩ ?_
 refine a_callK 794 4 rfl (by kernel_rfl) rfl rfl rfl (vok hT ⟨⟨_, _, rfl⟩, rfl, trivial⟩ (by kernel_rfl) (by kernel_rfl)) (vok hT ⟨⟨_, _, rfl⟩, rfl, trivial⟩ (by kernel_rfl) (by kernel_rfl)) rfl Tryz.call71 (ok_impl_copyOps (x := x.2.1) (by omega)) (as_cons (ev_tmp rfl) (ag_one ac_dv) as_nil) rfl rfl rfl rfl rfl ?_
 refine a_take 9 rfl (by kernel_rfl) rfl rfl rfl (vok hT ⟨⟨_, _, rfl⟩, rfl, trivial⟩ (by kernel_rfl) (by kernel_rfl)) (vok hT ⟨⟨_, _, rfl⟩, rfl, trivial⟩ (by kernel_rfl) (by kernel_rfl)) (pu_build hT hB rfl rfl rfl (bp_cons (ev_tmp rfl) rfl rfl rfl rfl rfl (bp_cons (ev_tmp rfl) rfl rfl rfl rfl rfl (bp_cons (ev_tmp rfl) rfl rfl rfl rfl rfl (bp_cons (ev_tmp rfl) rfl rfl rfl rfl rfl bp_nil))))) rfl rfl rfl rfl ?_
 refine a_exit1 (vok hT ⟨⟨_, _, rfl⟩, rfl, trivial⟩ (by kernel_rfl) (by kernel_rfl)) rfl rfl (by kernel_rfl) ?_
 dsimp only [addT, addB]
 refine d_last 11 rfl (by kernel_rfl) rfl (by kernel_rfl) (ef_storeBox hT rfl rfl rfl (ev_tmp rfl) (ev_tmp rfl) rfl rfl rfl rfl rfl rfl) (by kernel_rfl) ?_
 refine z ?_
 refine ok_seq ?_
 refine ok_seq ?_
 refine ok_weak (weak_nilB 31 (b := 3) (i := 4) (e := 60) (sz := 3) rfl rfl rfl rfl rfl) ?_
 simp only [killT, killB, SV.kill, CV.kill, kk, Nat.reduceBEq]
 refine ok_region ?_
 iterate 6 refine z ?_
 refine ok_loop (ι := Nat) (fun zz => ⟨[(2, .box 2 0), (3, .box 3 0), (17, .one (.dv [] (storesD (x.2.2.2.2)))), (18, .one (.dv [] (.int .i64 ((((x.2.2.2.2)).length : Int))))), (19, .one (.dv [] (.int .i64 ((zz : Int)))))], [(2, 40, [(.dv [] (.int .i64 (0))), .nil, (.dv [] (.int .i64 (0))), (.dv [] (.int .i64 (0))), .nil]), (3, 40, [(.dv [] (.int .i64 (x.1))), (.key 800), (.dv [] (.int .i64 (x.2.2.1))), (.dv [] (.int .i64 (x.2.2.2.1))), (.key 31)])], [(31, some (kcOf false (.sl 60 3 ((x.2.2.2.2.take zz).length) ((x.2.2.2.2.take zz).flatMap eStore)))), (800, some (kcOf false (opsD ((x.2.1)))))]⟩) (fun zz => zz ≤ x.2.2.2.2.length) (fun zz => x.2.2.2.2.length - zz) (0) ?_ (weak_sub ⟨rfl, rfl, rfl, rfl, rfl, trivial⟩ ⟨rfl, rfl, trivial⟩ ⟨rfl, rfl, trivial⟩ rfl) (fun zz hx => ?_)
 ·exact Nat.zero_le _
 obtain ⟨k, rfl⟩ : ∃ v, v = zz := ⟨_, rfl⟩
 replace hx : k ≤ x.2.2.2.2.length := hx
 have hw := fun h => wSum_succ wStore x.2.2.2.2 k h
 show Ok _ _ _ _ _ (⟨[(2, .box 2 0), (3, .box 3 0), (17, .one (.dv [] (storesD (x.2.2.2.2)))), (18, .one (.dv [] (.int .i64 ((((x.2.2.2.2)).length : Int))))), (19, .one (.dv [] (.int .i64 ((k : Int)))))], [(2, 40, [(.dv [] (.int .i64 (0))), .nil, (.dv [] (.int .i64 (0))), (.dv [] (.int .i64 (0))), .nil]), (3, 40, [(.dv [] (.int .i64 (x.1))), (.key 800), (.dv [] (.int .i64 (x.2.2.1))), (.dv [] (.int .i64 (x.2.2.2.1))), (.key 31)])], [(31, some (kcOf false (.sl 60 3 ((x.2.2.2.2.take k).length) ((x.2.2.2.2.take k).flatMap eStore)))), (800, some (kcOf false (opsD ((x.2.1)))))]⟩ : St)
 iterate 3 refine z ?_
 refine ok_seq ?_
 refine yQ rfl (fun c1 => ?_) fun c1 => ?_
 ·skip
  have d1 := of_decide_eq_true c1
  have hk2 : k < x.2.2.2.2.length := by omega
  obtain ⟨hw1, hw2⟩ := hw hk2
  iterate 10 refine z ?_
  refine ok_regionH [0, 1, 2, 3, 4] (oB := [2, 3, 5]) (oK := [31, 800]) (by kernel_rfl) rfl rfl ?_
  refine zD 0 ?_
  refine zD 1 ?_
  refine zD 2 ?_
  refine d_callK 26000 3 rfl (by kernel_rfl) rfl rfl rfl Tryz.call22 (ok_impl_copyStore (x := (((x.2.2.2.2)).getD ((k : Int)).toNat default)) (by omega)) (as_cons (ev_tmp rfl) (ag_agg (ag_cons ac_dv (ag_cons ac_dv (ag_cons ac_dv ag_nil)))) as_nil) rfl rfl rfl rfl rfl ?_
  refine d_build1 (k := 27) (js := [26030]) 4 hT rfl (by kernel_rfl) rfl rfl rfl rfl rfl rfl rfl rfl rfl (ev_tmp rfl) rfl rfl (ow_cons' (ow_dv rfl) (ow_cons' (ow_key rfl) (ow_cons' (ow_dv rfl) ow_nil rfl) rfl) rfl) (by decide) (by decide) rfl rfl (by decide) ?_
  simp only [killT, killB, SV.kill, CV.kill, kk, Nat.reduceBEq]
  refine d_chain [5, 6, 7] rfl rfl (by kernel_rfl) ?_
  refine o_appK (k := 31) (j := 27) (cs := (x.2.2.2.2.take (k + 1)).flatMap eStore) (n := (x.2.2.2.2.take (k + 1)).length) hT rfl rfl rfl rfl rfl rfl rfl (ev_tmp rfl) rfl rfl rfl (ev_tmp rfl) rfl rfl (by decide) (by dsimp only [kcOf]; simp only [List.length_take]; omega) (by dsimp only [kcOf]; simp only [List.length_take]; omega) ((take_csG (enc := eStore) hk2).2) ((take_csG (enc := eStore) hk2).1) ?_
  simp only [killT, killB, SV.kill, CV.kill, kk, Nat.reduceBEq]
  iterate 2 refine z ?_
  refine ops_nil ?_
  iterate 2 refine z ?_
  refine ok_region ?_
  iterate 3 refine z ?_
  refine ⟨k + 1, ?_, ?_, weak_sub ⟨rfl, rfl, rfl, rfl, rfl, trivial⟩ ⟨rfl, rfl, trivial⟩ ⟨rfl, rfl, trivial⟩ rfl⟩
  ·omega
  ·omega
 ·skip
  have d1 := of_decide_eq_false c1
  iterate 9 refine z ?_
  refine ok_weak (σ' := ⟨[(2, .box 2 0)], [(2, 40, [(.dv [] (.int .i64 (x.1))), (.key 800), (.dv [] (.int .i64 (x.2.2.1))), (.dv [] (.int .i64 (x.2.2.2.1))), (.key 31)])], [(800, some (kcOf false (opsD (x.2.1)))), (31, some (kcOf false (storesD (x.2.2.2.2))))]⟩) (weak_sub ⟨rfl, trivial⟩ ⟨rfl, trivial⟩ ⟨rfl, (congrArg (fun l : List (StoreT) => some (some (KC.mk false 60 3 l.length (l.flatMap eStore)))) (List.take_of_length_le (by omega))), trivial⟩ rfl) ?_
  refine z ?_
  refine fin1 (res_cell hT rfl rfl rfl rfl) ?_
  exact ⟨rfl, rfl⟩
theorem ok_impl_copyQueue {x : List TxT} (hb : wList wTx x ≤ 1099511627776) : KFn Tryz.prog 19 [.agg [(.dv [] (txsD (x)))]] (.agg [(.key 31)]) [(31, some (kcOf false (txsD (x))))] := by
 refine ⟨fn_intro Tryz.func19 rfl Tryz.ntmps19 Tryz.results19 rfl (fun C => ?_)⟩
 have hwl : wList wTx x = x.length + wSum wTx x := rfl
 refine yF 0 0 rfl rfl fun f0_0 => ?_
 iterate 5 refine z ?_
 refine yO rfl rfl (pu_build hT hB rfl rfl rfl bp_nil) rfl ?_
 iterate 3 refine z ?_
 refine ok_seq ?_
 refine ok_seq ?_
 refine ok_weak (weak_nilB 31 (b := 3) (i := 0) (e := 40) (sz := 5) rfl rfl rfl rfl rfl) ?_
 simp only [killT, killB, SV.kill, CV.kill, kk, Nat.reduceBEq]
 refine ok_region ?_
 iterate 6 refine z ?_
 refine ok_loop (ι := Nat) (fun zz => ⟨[(2, .box 2 0), (3, .box 3 0), (8, .one (.dv [] (txsD (x)))), (9, .one (.dv [] (.int .i64 ((((x)).length : Int))))), (10, .one (.dv [] (.int .i64 ((zz : Int)))))], [(2, 30, [.nil]), (3, 30, [(.key 31)])], [(31, some (kcOf false (.sl 40 5 ((x.take zz).length) ((x.take zz).flatMap eTx))))]⟩) (fun zz => zz ≤ x.length) (fun zz => x.length - zz) (0) ?_ (weak_sub ⟨rfl, rfl, rfl, rfl, rfl, trivial⟩ ⟨rfl, rfl, trivial⟩ ⟨rfl, trivial⟩ rfl) (fun zz hx => ?_)
 ·exact Nat.zero_le _
 obtain ⟨k, rfl⟩ : ∃ v, v = zz := ⟨_, rfl⟩
 replace hx : k ≤ x.length := hx
 have hw := fun h => wSum_succ wTx x k h
 show Ok _ _ _ _ _ (⟨[(2, .box 2 0), (3, .box 3 0), (8, .one (.dv [] (txsD (x)))), (9, .one (.dv [] (.int .i64 ((((x)).length : Int))))), (10, .one (.dv [] (.int .i64 ((k : Int)))))], [(2, 30, [.nil]), (3, 30, [(.key 31)])], [(31, some (kcOf false (.sl 40 5 ((x.take k).length) ((x.take k).flatMap eTx))))]⟩ : St)
 iterate 3 refine z ?_
 refine ok_seq ?_
 refine yQ rfl (fun c1 => ?_) fun c1 => ?_
 ·skip
  have d1 := of_decide_eq_true c1
  have hk2 : k < x.length := by omega
  obtain ⟨hw1, hw2⟩ := hw hk2
  iterate 10 refine z ?_
  refine ok_regionH [0, 1, 2, 3, 4] (oB := [2, 3, 5]) (oK := [31]) (by kernel_rfl) rfl rfl ?_
  refine zD 0 ?_
  refine zD 1 ?_
  refine zD 2 ?_
  refine d_callK 17000 3 rfl (by kernel_rfl) rfl rfl rfl Tryz.call40 (ok_impl_copyTx (x := (((x)).getD ((k : Int)).toNat default)) (by omega)) (as_cons (ev_tmp rfl) (ag_agg (ag_cons ac_dv (ag_cons ac_dv (ag_cons ac_dv (ag_cons ac_dv (ag_cons ac_dv ag_nil)))))) as_nil) rfl rfl rfl rfl rfl ?_
  refine d_build1 (k := 18) (js := [17800, 17031]) 4 hT rfl (by kernel_rfl) rfl rfl rfl rfl rfl rfl rfl rfl rfl (ev_tmp rfl) rfl rfl (ow_cons' (ow_dv rfl) (ow_cons' (ow_key rfl) (ow_cons' (ow_dv rfl) (ow_cons' (ow_dv rfl) (ow_cons' (ow_key rfl) ow_nil rfl) rfl) rfl) rfl) rfl) (by decide) (by decide) rfl rfl (by decide) ?_
  simp only [killT, killB, SV.kill, CV.kill, kk, Nat.reduceBEq]
  refine d_chain [5, 6, 7] rfl rfl (by kernel_rfl) ?_
  refine o_appK (k := 31) (j := 18) (cs := (x.take (k + 1)).flatMap eTx) (n := (x.take (k + 1)).length) hT rfl rfl rfl rfl rfl rfl rfl (ev_tmp rfl) rfl rfl rfl (ev_tmp rfl) rfl rfl (by decide) (by dsimp only [kcOf]; simp only [List.length_take]; omega) (by dsimp only [kcOf]; simp only [List.length_take]; omega) ((take_csG (enc := eTx) hk2).2) ((take_csG (enc := eTx) hk2).1) ?_
  simp only [killT, killB, SV.kill, CV.kill, kk, Nat.reduceBEq]
  iterate 2 refine z ?_
  refine ops_nil ?_
  iterate 2 refine z ?_
  refine ok_region ?_
  iterate 3 refine z ?_
  refine ⟨k + 1, ?_, ?_, weak_sub ⟨rfl, rfl, rfl, rfl, rfl, trivial⟩ ⟨rfl, rfl, trivial⟩ ⟨rfl, trivial⟩ rfl⟩
  ·omega
  ·omega
 ·skip
  have d1 := of_decide_eq_false c1
  iterate 9 refine z ?_
  refine ok_weak (σ' := ⟨[(2, .box 2 0)], [(2, 30, [(.key 31)])], [(31, some (kcOf false (txsD (x))))]⟩) (weak_sub ⟨rfl, trivial⟩ ⟨rfl, trivial⟩ ⟨(congrArg (fun l : List (TxT) => some (some (KC.mk false 40 5 l.length (l.flatMap eTx)))) (List.take_of_length_le (by omega))), trivial⟩ rfl) ?_
  refine z ?_
  refine fin1 (res_cell hT rfl rfl rfl rfl) ?_
  exact ⟨rfl, rfl⟩
theorem ok_spec_l10Copy {x : List TxT} (hb : wList wTx x ≤ 1099511627776) : KFn Tryz.prog 68 [.agg [(.dv [] (txsD (x)))]] (.agg [(.key 31)]) [(31, some (kcOf false (txsD (x))))] := by
 refine ⟨fn_intro Tryz.func68 rfl Tryz.ntmps68 Tryz.results68 rfl (fun C => ?_)⟩
 have hwl : wList wTx x = x.length + wSum wTx x := rfl
 refine yF 0 0 rfl rfl fun f0_0 => ?_
 iterate 5 refine z ?_
 refine yO rfl rfl (pu_build hT hB rfl rfl rfl bp_nil) rfl ?_
 iterate 3 refine z ?_
 refine ok_seq ?_
 refine ok_seq ?_
 refine ok_weak (weak_nilB 31 (b := 3) (i := 0) (e := 40) (sz := 5) rfl rfl rfl rfl rfl) ?_
 simp only [killT, killB, SV.kill, CV.kill, kk, Nat.reduceBEq]
 refine ok_region ?_
 iterate 3 refine z ?_
 refine ok_loop (ι := Nat) (fun zz => ⟨[(1, .box 1 0), (2, .box 2 0), (3, .box 3 0), (4, .one (.dv [] (.int .i64 ((zz : Int)))))], [(1, 30, [(.dv [] (txsD (x)))]), (2, 30, [.nil]), (3, 30, [(.key 31)])], [(31, some (kcOf false (.sl 40 5 ((x.take zz).length) ((x.take zz).flatMap eTx))))]⟩) (fun zz => zz ≤ x.length) (fun zz => x.length - zz) (0) ?_ (weak_sub ⟨rfl, rfl, rfl, rfl, trivial⟩ ⟨rfl, rfl, rfl, trivial⟩ ⟨rfl, trivial⟩ rfl) (fun zz hx => ?_)
 ·exact Nat.zero_le _
 obtain ⟨k, rfl⟩ : ∃ v, v = zz := ⟨_, rfl⟩
 replace hx : k ≤ x.length := hx
 have hw := fun h => wSum_succ wTx x k h
 show Ok _ _ _ _ _ (⟨[(1, .box 1 0), (2, .box 2 0), (3, .box 3 0), (4, .one (.dv [] (.int .i64 ((k : Int)))))], [(1, 30, [(.dv [] (txsD (x)))]), (2, 30, [.nil]), (3, 30, [(.key 31)])], [(31, some (kcOf false (.sl 40 5 ((x.take k).length) ((x.take k).flatMap eTx))))]⟩ : St)
 iterate 8 refine z ?_
 refine yQ rfl (fun c1 => ?_) fun c1 => ?_
 ·skip
  have d1 := of_decide_eq_true c1
  have hk2 : k < x.length := by omega
  obtain ⟨hw1, hw2⟩ := hw hk2
  have hwt : wTx (x.getD (k : Int).toNat default) = wList wOp (x.getD (k : Int).toNat default).2.1 + wList wStore (x.getD (k : Int).toNat default).2.2.2.2 := rfl
  iterate 20 refine z ?_
  refine zK 25000 Tryz.call69 ?_ (hf := ok_spec_l9Copy (x := (((x)).getD ((k : Int)).toNat default).2.1) (by omega))
  iterate 10 refine z ?_
  refine zK 33000 Tryz.call106 ?_ (hf := ok_spec_l10Stores (x := (((x)).getD ((k : Int)).toNat default).2.2.2.2) (by omega))
  iterate 3 refine z ?_
  refine ok_region ?_
  iterate 3 refine z ?_
  refine o_build1 (k := 38) (js := [25006, 33005]) hT rfl rfl rfl rfl rfl rfl rfl rfl rfl (ev_tmp rfl) rfl rfl (ow_cons' (ow_dv rfl) (ow_cons' (ow_key rfl) (ow_cons' (ow_dv rfl) (ow_cons' (ow_dv rfl) (ow_cons' (ow_key rfl) ow_nil rfl) rfl) rfl) rfl) rfl) (by decide) (by decide) rfl rfl ?_
  simp only [killT, killB, SV.kill, CV.kill, kk, Nat.reduceBEq]
  refine o_appK (k := 31) (j := 38) (cs := (x.take (k + 1)).flatMap eTx) (n := (x.take (k + 1)).length) hT rfl rfl rfl rfl rfl rfl rfl (ev_tmp rfl) rfl rfl rfl (ev_tmp rfl) rfl rfl (by decide) (by dsimp only [kcOf]; simp only [List.length_take]; omega) (by dsimp only [kcOf]; simp only [List.length_take]; omega) ((take_csG (enc := eTx) hk2).2) ((take_csG (enc := eTx) hk2).1) ?_
  simp only [killT, killB, SV.kill, CV.kill, kk, Nat.reduceBEq]
  iterate 2 refine z ?_
  refine ops_nil ?_
  iterate 2 refine z ?_
  refine ok_region ?_
  iterate 4 refine z ?_
  refine ⟨k + 1, ?_, ?_, weak_sub ⟨rfl, rfl, rfl, rfl, trivial⟩ ⟨rfl, rfl, rfl, trivial⟩ ⟨rfl, trivial⟩ rfl⟩
  ·omega
  ·omega
 ·skip
  have d1 := of_decide_eq_false c1
  iterate 9 refine z ?_
  refine ok_weak (σ' := ⟨[(2, .box 2 0)], [(2, 30, [(.key 31)])], [(31, some (kcOf false (txsD (x))))]⟩) (weak_sub ⟨rfl, trivial⟩ ⟨rfl, trivial⟩ ⟨(congrArg (fun l : List (TxT) => some (some (KC.mk false 40 5 l.length (l.flatMap eTx)))) (List.take_of_length_le (by omega))), trivial⟩ rfl) ?_
  refine z ?_
  refine fin1 (res_cell hT rfl rfl rfl rfl) ?_
  exact ⟨rfl, rfl⟩
theorem ok_impl_copyDatabase {x : DbT} (hb : wDatabase x ≤ 1099511627776) : KFn Tryz.prog 24 [.agg [(.dv [] (.str (x.1))), (.dv [] (.int .i64 (x.2.1))), (.dv [] (storesD (x.2.2.1))), (.dv [] (defsD (x.2.2.2)))]] (.agg [(.dv [] (.str (x.1))), (.dv [] (.int .i64 (x.2.1))), (.key 31), (.key 900)]) [(31, some (kcOf false (storesD (x.2.2.1)))), (900, some (kcOf false (defsD (x.2.2.2))))] := by
 refine ⟨fn_intro Tryz.func24 rfl Tryz.ntmps24 Tryz.results24 rfl (fun C => ?_)⟩
 have hwd : wDatabase x = x.1.size + wList wStore x.2.2.1 + wList wIndexDef x.2.2.2 := rfl
 have hwl : wList wStore x.2.2.1 = x.2.2.1.length + wSum wStore x.2.2.1 := rfl
 have hwi : wList wIndexDef x.2.2.2 = x.2.2.2.length + wSum wIndexDef x.2.2.2 := rfl
 refine yF 0 0 rfl rfl fun f0_0 => ?_
 refine yF 0 1 rfl rfl fun f0_1 => ?_
 refine yF 0 2 rfl rfl fun f0_2 => ?_
 refine yF 0 3 rfl rfl fun f0_3 => ?_
 iterate 4 refine z ?_
 refine ok_cutS (σ' := ⟨[(1, .box 1 0), (2, .box 2 0), (3, .box 3 0)], [(1, 27, [(.dv [] (.str (x.1))), (.dv [] (.int .i64 (x.2.1))), (.dv [] (storesD (x.2.2.1))), (.dv [] (defsD (x.2.2.2)))]), (2, 27, [(.dv [] (.str (ByteArray.empty))), (.dv [] (.int .i64 (0))), .nil, .nil]), (3, 27, [(.dv [] (.str (x.1))), (.dv [] (.int .i64 (x.2.1))), .nil, (.key 900)])], [(900, some (kcOf false (.sl 78 2 ((x.2.2.2).length) ((x.2.2.2).flatMap eDef))))]⟩) ?_ ?_
 ·skip
  refine ok_regionH [0, 1, 2, 3, 4, 5, 6, 7, 8, 9] (oB := [1, 2]) (oK := []) (by kernel_rfl) rfl rfl ?_
  refine n_start ?_
  refine zN 0 ?_
  refine zN 1 ?_
  refine zN 2 ?_
  refine zN 3 ?_
  refine zN 5 ?_
  refine zN 6 ?_
  refine n_split 4 [9] (by kernel_rfl) ⟨?_, ?_, trivial⟩
  ·skip
   refine nj_build0 (k := 900) 4 hT rfl rfl rfl rfl rfl rfl rfl rfl rfl rfl rfl rfl ?_
   refine n_split 7 [9] (by kernel_rfl) ⟨?_, ?_, trivial⟩
   ·skip
    refine nj_appV (k := 900) (cs := (x.2.2.2).flatMap eDef) (n := (x.2.2.2).length) 7 hT rfl rfl rfl rfl rfl rfl rfl rfl (ev_tmp rfl) rfl rfl rfl (ev_tmp rfl) (plain_flat (fun _ => rfl) _) (by first | (dsimp only [kcOf]; omega) | omega) (by first | (dsimp only [kcOf]; omega) | omega) (Nat.zero_add _) (rfl) rfl rfl ?_
    simp only [killT, killB, SV.kill, CV.kill, kk, Nat.reduceBEq]
    refine n_take 8 rfl (by kernel_rfl) rfl rfl (pu_build hT hB rfl rfl rfl (bp_cons (ev_tmp rfl) rfl rfl rfl rfl rfl (bp_cons (ev_tmp rfl) rfl rfl rfl rfl rfl (bp_cons (ev_tmp rfl) rfl rfl rfl rfl rfl bp_nil)))) rfl rfl rfl rfl ?_
    refine n_split 9 [] (by kernel_rfl) ⟨?_, trivial⟩
    ·skip
     refine nj_alloc 9 hT rfl rfl rfl rfl rfl rfl rfl rfl rfl rfl ?_
     refine n_split 10 [] (by kernel_rfl) ⟨?_, trivial⟩
     ·skip
      refine nj_last 10 rfl rfl (by kernel_rfl) (ef_storeBox hT rfl rfl rfl (ev_tmp rfl) (ev_tmp rfl) rfl rfl rfl rfl rfl rfl) (by kernel_rfl) ?_
      exact then_n (weak_sub ⟨rfl, rfl, rfl, trivial⟩ ⟨rfl, rfl, rfl, trivial⟩ ⟨rfl, trivial⟩ rfl)
   ·skip
    refine nj_alloc 9 hT rfl rfl rfl rfl rfl rfl rfl rfl rfl rfl ?_
    refine n_split 7 [] (by kernel_rfl) ⟨?_, trivial⟩
    ·skip
     refine nj_appV (k := 900) (cs := (x.2.2.2).flatMap eDef) (n := (x.2.2.2).length) 7 hT rfl rfl rfl rfl rfl rfl rfl rfl (ev_tmp rfl) rfl rfl rfl (ev_tmp rfl) (plain_flat (fun _ => rfl) _) (by first | (dsimp only [kcOf]; omega) | omega) (by first | (dsimp only [kcOf]; omega) | omega) (Nat.zero_add _) (rfl) rfl rfl ?_
     simp only [killT, killB, SV.kill, CV.kill, kk, Nat.reduceBEq]
     refine n_take 8 rfl (by kernel_rfl) rfl rfl (pu_build hT hB rfl rfl rfl (bp_cons (ev_tmp rfl) rfl rfl rfl rfl rfl (bp_cons (ev_tmp rfl) rfl rfl rfl rfl rfl (bp_cons (ev_tmp rfl) rfl rfl rfl rfl rfl bp_nil)))) rfl rfl rfl rfl ?_
     refine n_split 10 [] (by kernel_rfl) ⟨?_, trivial⟩
     ·skip
      refine nj_last 10 rfl rfl (by kernel_rfl) (ef_storeBox hT rfl rfl rfl (ev_tmp rfl) (ev_tmp rfl) rfl rfl rfl rfl rfl rfl) (by kernel_rfl) ?_
      exact then_n (weak_sub ⟨rfl, rfl, rfl, trivial⟩ ⟨rfl, rfl, rfl, trivial⟩ ⟨rfl, trivial⟩ rfl)
  ·skip
   refine nj_alloc 9 hT rfl rfl rfl rfl rfl rfl rfl rfl rfl rfl ?_
   refine n_split 4 [] (by kernel_rfl) ⟨?_, trivial⟩
   ·skip
    refine nj_build0 (k := 900) 4 hT rfl rfl rfl rfl rfl rfl rfl rfl rfl rfl rfl rfl ?_
    refine n_split 7 [] (by kernel_rfl) ⟨?_, trivial⟩
    ·skip
     refine nj_appV (k := 900) (cs := (x.2.2.2).flatMap eDef) (n := (x.2.2.2).length) 7 hT rfl rfl rfl rfl rfl rfl rfl rfl (ev_tmp rfl) rfl rfl rfl (ev_tmp rfl) (plain_flat (fun _ => rfl) _) (by first | (dsimp only [kcOf]; omega) | omega) (by first | (dsimp only [kcOf]; omega) | omega) (Nat.zero_add _) (rfl) rfl rfl ?_
     simp only [killT, killB, SV.kill, CV.kill, kk, Nat.reduceBEq]
     refine n_take 8 rfl (by kernel_rfl) rfl rfl (pu_build hT hB rfl rfl rfl (bp_cons (ev_tmp rfl) rfl rfl rfl rfl rfl (bp_cons (ev_tmp rfl) rfl rfl rfl rfl rfl (bp_cons (ev_tmp rfl) rfl rfl rfl rfl rfl bp_nil)))) rfl rfl rfl rfl ?_
     refine n_split 10 [] (by kernel_rfl) ⟨?_, trivial⟩
     ·skip
      refine nj_last 10 rfl rfl (by kernel_rfl) (ef_storeBox hT rfl rfl rfl (ev_tmp rfl) (ev_tmp rfl) rfl rfl rfl rfl rfl rfl) (by kernel_rfl) ?_
      exact then_n (weak_sub ⟨rfl, rfl, rfl, trivial⟩ ⟨rfl, rfl, rfl, trivial⟩ ⟨rfl, trivial⟩ rfl)
 refine ok_seq ?_
 refine ok_seq ?_
 refine ok_weak (weak_nilB 31 (b := 3) (i := 2) (e := 60) (sz := 3) rfl rfl rfl rfl rfl) ?_
 simp only [killT, killB, SV.kill, CV.kill, kk, Nat.reduceBEq]
 refine ok_region ?_
 iterate 6 refine z ?_
 refine ok_loop (ι := Nat) (fun zz => ⟨[(2, .box 2 0), (3, .box 3 0), (16, .one (.dv [] (storesD (x.2.2.1)))), (17, .one (.dv [] (.int .i64 ((((x.2.2.1)).length : Int))))), (18, .one (.dv [] (.int .i64 ((zz : Int)))))], [(1, 27, [(.dv [] (.str (x.1))), (.dv [] (.int .i64 (x.2.1))), (.dv [] (storesD (x.2.2.1))), (.dv [] (defsD (x.2.2.2)))]), (2, 27, [(.dv [] (.str (ByteArray.empty))), (.dv [] (.int .i64 (0))), .nil, .nil]), (3, 27, [(.dv [] (.str (x.1))), (.dv [] (.int .i64 (x.2.1))), (.key 31), (.key 900)])], [(31, some (kcOf false (.sl 60 3 ((x.2.2.1.take zz).length) ((x.2.2.1.take zz).flatMap eStore)))), (900, some (kcOf false (.sl 78 2 ((x.2.2.2).length) ((x.2.2.2).flatMap eDef))))]⟩) (fun zz => zz ≤ x.2.2.1.length) (fun zz => x.2.2.1.length - zz) (0) ?_ (weak_sub ⟨rfl, rfl, rfl, rfl, rfl, trivial⟩ ⟨rfl, rfl, rfl, trivial⟩ ⟨rfl, rfl, trivial⟩ rfl) (fun zz hx => ?_)
 ·exact Nat.zero_le _
 obtain ⟨k, rfl⟩ : ∃ v, v = zz := ⟨_, rfl⟩
 replace hx : k ≤ x.2.2.1.length := hx
 have hw := fun h => wSum_succ wStore x.2.2.1 k h
 show Ok _ _ _ _ _ (⟨[(2, .box 2 0), (3, .box 3 0), (16, .one (.dv [] (storesD (x.2.2.1)))), (17, .one (.dv [] (.int .i64 ((((x.2.2.1)).length : Int))))), (18, .one (.dv [] (.int .i64 ((k : Int)))))], [(1, 27, [(.dv [] (.str (x.1))), (.dv [] (.int .i64 (x.2.1))), (.dv [] (storesD (x.2.2.1))), (.dv [] (defsD (x.2.2.2)))]), (2, 27, [(.dv [] (.str (ByteArray.empty))), (.dv [] (.int .i64 (0))), .nil, .nil]), (3, 27, [(.dv [] (.str (x.1))), (.dv [] (.int .i64 (x.2.1))), (.key 31), (.key 900)])], [(31, some (kcOf false (.sl 60 3 ((x.2.2.1.take k).length) ((x.2.2.1.take k).flatMap eStore)))), (900, some (kcOf false (.sl 78 2 ((x.2.2.2).length) ((x.2.2.2).flatMap eDef))))]⟩ : St)
 iterate 3 refine z ?_
 refine ok_seq ?_
 refine yQ rfl (fun c1 => ?_) fun c1 => ?_
 ·skip
  have d1 := of_decide_eq_true c1
  have hk2 : k < x.2.2.1.length := by omega
  obtain ⟨hw1, hw2⟩ := hw hk2
  iterate 10 refine z ?_
  refine ok_regionH [0, 1, 2, 3, 4] (oB := [1, 2, 3, 5]) (oK := [31, 900]) (by kernel_rfl) rfl rfl ?_
  refine zD 0 ?_
  refine zD 1 ?_
  refine zD 2 ?_
  refine d_callK 25000 3 rfl (by kernel_rfl) rfl rfl rfl Tryz.call22 (ok_impl_copyStore (x := (((x.2.2.1)).getD ((k : Int)).toNat default)) (by omega)) (as_cons (ev_tmp rfl) (ag_agg (ag_cons ac_dv (ag_cons ac_dv (ag_cons ac_dv ag_nil)))) as_nil) rfl rfl rfl rfl rfl ?_
  refine d_build1 (k := 26) (js := [25030]) 4 hT rfl (by kernel_rfl) rfl rfl rfl rfl rfl rfl rfl rfl rfl (ev_tmp rfl) rfl rfl (ow_cons' (ow_dv rfl) (ow_cons' (ow_key rfl) (ow_cons' (ow_dv rfl) ow_nil rfl) rfl) rfl) (by decide) (by decide) rfl rfl (by decide) ?_
  simp only [killT, killB, SV.kill, CV.kill, kk, Nat.reduceBEq]
  refine d_chain [5, 6, 7] rfl rfl (by kernel_rfl) ?_
  refine o_appK (k := 31) (j := 26) (cs := (x.2.2.1.take (k + 1)).flatMap eStore) (n := (x.2.2.1.take (k + 1)).length) hT rfl rfl rfl rfl rfl rfl rfl (ev_tmp rfl) rfl rfl rfl (ev_tmp rfl) rfl rfl (by decide) (by dsimp only [kcOf]; simp only [List.length_take]; omega) (by dsimp only [kcOf]; simp only [List.length_take]; omega) ((take_csG (enc := eStore) hk2).2) ((take_csG (enc := eStore) hk2).1) ?_
  simp only [killT, killB, SV.kill, CV.kill, kk, Nat.reduceBEq]
  iterate 2 refine z ?_
  refine ops_nil ?_
  iterate 2 refine z ?_
  refine ok_region ?_
  iterate 3 refine z ?_
  refine ⟨k + 1, ?_, ?_, weak_sub ⟨rfl, rfl, rfl, rfl, rfl, trivial⟩ ⟨rfl, rfl, rfl, trivial⟩ ⟨rfl, rfl, trivial⟩ rfl⟩
  ·omega
  ·omega
 ·skip
  have d1 := of_decide_eq_false c1
  iterate 9 refine z ?_
  refine ok_weak (σ' := ⟨[(2, .box 2 0)], [(2, 27, [(.dv [] (.str (x.1))), (.dv [] (.int .i64 (x.2.1))), (.key 31), (.key 900)])], [(31, some (kcOf false (storesD (x.2.2.1)))), (900, some (kcOf false (defsD (x.2.2.2))))]⟩) (weak_sub ⟨rfl, trivial⟩ ⟨rfl, trivial⟩ ⟨(congrArg (fun l : List (StoreT) => some (some (KC.mk false 60 3 l.length (l.flatMap eStore)))) (List.take_of_length_le (by omega))), rfl, trivial⟩ rfl) ?_
  refine z ?_
  refine fin1 (res_cell hT rfl rfl rfl rfl) ?_
  exact ⟨rfl, rfl⟩
theorem ok_spec_l8Copy {x : DbT} (hb : wDatabase x ≤ 1099511627776) : KFn Tryz.prog 32 [.agg [(.dv [] (.str (x.1))), (.dv [] (.int .i64 (x.2.1))), (.dv [] (storesD (x.2.2.1))), (.dv [] (defsD (x.2.2.2)))]] (.agg [(.dv [] (.str (x.1))), (.dv [] (.int .i64 (x.2.1))), (.key 31), (.key 900)]) [(31, some (kcOf false (storesD (x.2.2.1)))), (900, some (kcOf false (defsD (x.2.2.2))))] := by
 refine ⟨fn_intro Tryz.func32 rfl Tryz.ntmps32 Tryz.results32 rfl (fun C => ?_)⟩
 have hwd : wDatabase x = x.1.size + wList wStore x.2.2.1 + wList wIndexDef x.2.2.2 := rfl
 have hwl : wList wStore x.2.2.1 = x.2.2.1.length + wSum wStore x.2.2.1 := rfl
 have hwi : wList wIndexDef x.2.2.2 = x.2.2.2.length + wSum wIndexDef x.2.2.2 := rfl
 refine yF 0 0 rfl rfl fun f0_0 => ?_
 refine yF 0 1 rfl rfl fun f0_1 => ?_
 refine yF 0 2 rfl rfl fun f0_2 => ?_
 refine yF 0 3 rfl rfl fun f0_3 => ?_
 iterate 4 refine z ?_
 refine ok_cutS (σ' := ⟨[(1, .box 1 0), (2, .box 2 0), (3, .box 3 0)], [(1, 27, [(.dv [] (.str (x.1))), (.dv [] (.int .i64 (x.2.1))), (.dv [] (storesD (x.2.2.1))), (.dv [] (defsD (x.2.2.2)))]), (2, 27, [(.dv [] (.str (ByteArray.empty))), (.dv [] (.int .i64 (0))), .nil, .nil]), (3, 27, [(.dv [] (.str (x.1))), (.dv [] (.int .i64 (x.2.1))), .nil, (.key 900)])], [(900, some (kcOf false (.sl 78 2 ((x.2.2.2).length) ((x.2.2.2).flatMap eDef))))]⟩) ?_ ?_
 ·skip
  refine ok_regionH [0, 1, 2, 3, 4, 5, 6, 7, 8, 9] (oB := [1, 2]) (oK := []) (by kernel_rfl) rfl rfl ?_
  refine n_start ?_
  refine zN 0 ?_
  refine zN 1 ?_
  refine zN 2 ?_
  refine zN 3 ?_
  refine zN 5 ?_
  refine zN 6 ?_
  refine n_split 4 [9] (by kernel_rfl) ⟨?_, ?_, trivial⟩
  ·skip
   refine nj_build0 (k := 900) 4 hT rfl rfl rfl rfl rfl rfl rfl rfl rfl rfl rfl rfl ?_
   refine n_split 7 [9] (by kernel_rfl) ⟨?_, ?_, trivial⟩
   ·skip
    refine nj_appV (k := 900) (cs := (x.2.2.2).flatMap eDef) (n := (x.2.2.2).length) 7 hT rfl rfl rfl rfl rfl rfl rfl rfl (ev_tmp rfl) rfl rfl rfl (ev_tmp rfl) (plain_flat (fun _ => rfl) _) (by first | (dsimp only [kcOf]; omega) | omega) (by first | (dsimp only [kcOf]; omega) | omega) (Nat.zero_add _) (rfl) rfl rfl ?_
    simp only [killT, killB, SV.kill, CV.kill, kk, Nat.reduceBEq]
    refine n_take 8 rfl (by kernel_rfl) rfl rfl (pu_build hT hB rfl rfl rfl (bp_cons (ev_tmp rfl) rfl rfl rfl rfl rfl (bp_cons (ev_tmp rfl) rfl rfl rfl rfl rfl (bp_cons (ev_tmp rfl) rfl rfl rfl rfl rfl bp_nil)))) rfl rfl rfl rfl ?_
    refine n_split 9 [] (by kernel_rfl) ⟨?_, trivial⟩
    ·skip
     refine nj_alloc 9 hT rfl rfl rfl rfl rfl rfl rfl rfl rfl rfl ?_
     refine n_split 10 [] (by kernel_rfl) ⟨?_, trivial⟩
     ·skip
      refine nj_last 10 rfl rfl (by kernel_rfl) (ef_storeBox hT rfl rfl rfl (ev_tmp rfl) (ev_tmp rfl) rfl rfl rfl rfl rfl rfl) (by kernel_rfl) ?_
      exact then_n (weak_sub ⟨rfl, rfl, rfl, trivial⟩ ⟨rfl, rfl, rfl, trivial⟩ ⟨rfl, trivial⟩ rfl)
   ·skip
    refine nj_alloc 9 hT rfl rfl rfl rfl rfl rfl rfl rfl rfl rfl ?_
    refine n_split 7 [] (by kernel_rfl) ⟨?_, trivial⟩
    ·skip
     refine nj_appV (k := 900) (cs := (x.2.2.2).flatMap eDef) (n := (x.2.2.2).length) 7 hT rfl rfl rfl rfl rfl rfl rfl rfl (ev_tmp rfl) rfl rfl rfl (ev_tmp rfl) (plain_flat (fun _ => rfl) _) (by first | (dsimp only [kcOf]; omega) | omega) (by first | (dsimp only [kcOf]; omega) | omega) (Nat.zero_add _) (rfl) rfl rfl ?_
     simp only [killT, killB, SV.kill, CV.kill, kk, Nat.reduceBEq]
     refine n_take 8 rfl (by kernel_rfl) rfl rfl (pu_build hT hB rfl rfl rfl (bp_cons (ev_tmp rfl) rfl rfl rfl rfl rfl (bp_cons (ev_tmp rfl) rfl rfl rfl rfl rfl (bp_cons (ev_tmp rfl) rfl rfl rfl rfl rfl bp_nil)))) rfl rfl rfl rfl ?_
     refine n_split 10 [] (by kernel_rfl) ⟨?_, trivial⟩
     ·skip
      refine nj_last 10 rfl rfl (by kernel_rfl) (ef_storeBox hT rfl rfl rfl (ev_tmp rfl) (ev_tmp rfl) rfl rfl rfl rfl rfl rfl) (by kernel_rfl) ?_
      exact then_n (weak_sub ⟨rfl, rfl, rfl, trivial⟩ ⟨rfl, rfl, rfl, trivial⟩ ⟨rfl, trivial⟩ rfl)
  ·skip
   refine nj_alloc 9 hT rfl rfl rfl rfl rfl rfl rfl rfl rfl rfl ?_
   refine n_split 4 [] (by kernel_rfl) ⟨?_, trivial⟩
   ·skip
    refine nj_build0 (k := 900) 4 hT rfl rfl rfl rfl rfl rfl rfl rfl rfl rfl rfl rfl ?_
    refine n_split 7 [] (by kernel_rfl) ⟨?_, trivial⟩
    ·skip
     refine nj_appV (k := 900) (cs := (x.2.2.2).flatMap eDef) (n := (x.2.2.2).length) 7 hT rfl rfl rfl rfl rfl rfl rfl rfl (ev_tmp rfl) rfl rfl rfl (ev_tmp rfl) (plain_flat (fun _ => rfl) _) (by first | (dsimp only [kcOf]; omega) | omega) (by first | (dsimp only [kcOf]; omega) | omega) (Nat.zero_add _) (rfl) rfl rfl ?_
     simp only [killT, killB, SV.kill, CV.kill, kk, Nat.reduceBEq]
     refine n_take 8 rfl (by kernel_rfl) rfl rfl (pu_build hT hB rfl rfl rfl (bp_cons (ev_tmp rfl) rfl rfl rfl rfl rfl (bp_cons (ev_tmp rfl) rfl rfl rfl rfl rfl (bp_cons (ev_tmp rfl) rfl rfl rfl rfl rfl bp_nil)))) rfl rfl rfl rfl ?_
     refine n_split 10 [] (by kernel_rfl) ⟨?_, trivial⟩
     ·skip
      refine nj_last 10 rfl rfl (by kernel_rfl) (ef_storeBox hT rfl rfl rfl (ev_tmp rfl) (ev_tmp rfl) rfl rfl rfl rfl rfl rfl) (by kernel_rfl) ?_
      exact then_n (weak_sub ⟨rfl, rfl, rfl, trivial⟩ ⟨rfl, rfl, rfl, trivial⟩ ⟨rfl, trivial⟩ rfl)
 refine ok_seq ?_
 refine ok_seq ?_
 refine ok_weak (weak_nilB 31 (b := 3) (i := 2) (e := 60) (sz := 3) rfl rfl rfl rfl rfl) ?_
 simp only [killT, killB, SV.kill, CV.kill, kk, Nat.reduceBEq]
 refine ok_region ?_
 iterate 3 refine z ?_
 refine ok_loop (ι := Nat) (fun zz => ⟨[(1, .box 1 0), (2, .box 2 0), (3, .box 3 0), (4, .one (.dv [] (.int .i64 ((zz : Int)))))], [(1, 27, [(.dv [] (.str (x.1))), (.dv [] (.int .i64 (x.2.1))), (.dv [] (storesD (x.2.2.1))), (.dv [] (defsD (x.2.2.2)))]), (2, 27, [(.dv [] (.str (ByteArray.empty))), (.dv [] (.int .i64 (0))), .nil, .nil]), (3, 27, [(.dv [] (.str (x.1))), (.dv [] (.int .i64 (x.2.1))), (.key 31), (.key 900)])], [(31, some (kcOf false (.sl 60 3 ((x.2.2.1.take zz).length) ((x.2.2.1.take zz).flatMap eStore)))), (900, some (kcOf false (.sl 78 2 ((x.2.2.2).length) ((x.2.2.2).flatMap eDef))))]⟩) (fun zz => zz ≤ x.2.2.1.length) (fun zz => x.2.2.1.length - zz) (0) ?_ (weak_sub ⟨rfl, rfl, rfl, rfl, trivial⟩ ⟨rfl, rfl, rfl, trivial⟩ ⟨rfl, rfl, trivial⟩ rfl) (fun zz hx => ?_)
 ·exact Nat.zero_le _
 obtain ⟨k, rfl⟩ : ∃ v, v = zz := ⟨_, rfl⟩
 replace hx : k ≤ x.2.2.1.length := hx
 have hw := fun h => wSum_succ wStore x.2.2.1 k h
 show Ok _ _ _ _ _ (⟨[(1, .box 1 0), (2, .box 2 0), (3, .box 3 0), (4, .one (.dv [] (.int .i64 ((k : Int)))))], [(1, 27, [(.dv [] (.str (x.1))), (.dv [] (.int .i64 (x.2.1))), (.dv [] (storesD (x.2.2.1))), (.dv [] (defsD (x.2.2.2)))]), (2, 27, [(.dv [] (.str (ByteArray.empty))), (.dv [] (.int .i64 (0))), .nil, .nil]), (3, 27, [(.dv [] (.str (x.1))), (.dv [] (.int .i64 (x.2.1))), (.key 31), (.key 900)])], [(31, some (kcOf false (.sl 60 3 ((x.2.2.1.take k).length) ((x.2.2.1.take k).flatMap eStore)))), (900, some (kcOf false (.sl 78 2 ((x.2.2.2).length) ((x.2.2.2).flatMap eDef))))]⟩ : St)
 iterate 8 refine z ?_
 refine yQ rfl (fun c1 => ?_) fun c1 => ?_
 ·skip
  have d1 := of_decide_eq_true c1
  have hk2 : k < x.2.2.1.length := by omega
  obtain ⟨hw1, hw2⟩ := hw hk2
  iterate 4 refine z ?_
  refine ok_regionH [0, 1, 2, 3, 4, 5, 6, 7, 8] (oB := [1, 2, 3]) (oK := [31, 900]) (by kernel_rfl) rfl rfl ?_
  refine zD 0 ?_
  refine zD 1 ?_
  refine zD 2 ?_
  refine zD 3 ?_
  refine zD 4 ?_
  refine zD 5 ?_
  refine zD 6 ?_
  refine d_callK 28000 7 rfl (by kernel_rfl) rfl rfl rfl Tryz.call54 (ok_spec_l6Copy (x := (((x.2.2.1)).getD ((k : Int)).toNat default)) (by omega)) (as_cons (ev_tmp rfl) (ag_agg (ag_cons ac_dv (ag_cons ac_dv (ag_cons ac_dv ag_nil)))) as_nil) rfl rfl rfl rfl rfl ?_
  refine d_build1 (k := 29) (js := [28030]) 8 hT rfl (by kernel_rfl) rfl rfl rfl rfl rfl rfl rfl rfl rfl (ev_tmp rfl) rfl rfl (ow_cons' (ow_dv rfl) (ow_cons' (ow_key rfl) (ow_cons' (ow_dv rfl) ow_nil rfl) rfl) rfl) (by decide) (by decide) rfl rfl (by decide) ?_
  simp only [killT, killB, SV.kill, CV.kill, kk, Nat.reduceBEq]
  refine d_chain [9, 10, 11] rfl rfl (by kernel_rfl) ?_
  refine o_appK (k := 31) (j := 29) (cs := (x.2.2.1.take (k + 1)).flatMap eStore) (n := (x.2.2.1.take (k + 1)).length) hT rfl rfl rfl rfl rfl rfl rfl (ev_tmp rfl) rfl rfl rfl (ev_tmp rfl) rfl rfl (by decide) (by dsimp only [kcOf]; simp only [List.length_take]; omega) (by dsimp only [kcOf]; simp only [List.length_take]; omega) ((take_csG (enc := eStore) hk2).2) ((take_csG (enc := eStore) hk2).1) ?_
  simp only [killT, killB, SV.kill, CV.kill, kk, Nat.reduceBEq]
  iterate 2 refine z ?_
  refine ops_nil ?_
  iterate 2 refine z ?_
  refine ok_region ?_
  iterate 4 refine z ?_
  refine ⟨k + 1, ?_, ?_, weak_sub ⟨rfl, rfl, rfl, rfl, trivial⟩ ⟨rfl, rfl, rfl, trivial⟩ ⟨rfl, rfl, trivial⟩ rfl⟩
  ·omega
  ·omega
 ·skip
  have d1 := of_decide_eq_false c1
  iterate 9 refine z ?_
  refine ok_weak (σ' := ⟨[(2, .box 2 0)], [(2, 27, [(.dv [] (.str (x.1))), (.dv [] (.int .i64 (x.2.1))), (.key 31), (.key 900)])], [(31, some (kcOf false (storesD (x.2.2.1)))), (900, some (kcOf false (defsD (x.2.2.2))))]⟩) (weak_sub ⟨rfl, trivial⟩ ⟨rfl, trivial⟩ ⟨(congrArg (fun l : List (StoreT) => some (some (KC.mk false 60 3 l.length (l.flatMap eStore)))) (List.take_of_length_le (by omega))), rfl, trivial⟩ rfl) ?_
  refine z ?_
  refine fin1 (res_cell hT rfl rfl rfl rfl) ?_
  exact ⟨rfl, rfl⟩
end Go.Proofs.YtjkpoekgnmgofaaGreat

namespace Go.Proofs.YtjkpoekgnmgofaaGreat
open Go.RowKit
open Go.Proofs
set_option linter.unusedVariables false
set_option linter.unusedSimpArgs false

def nidQ (q : List TxT) : Int := if 0 < q.length then IntKind.i64.wrap ((q.getD ((q.length : Int) - 1).toNat default).1 + 1) else 1
def newTx (q : List TxT) (o : List OpT) : List TxT × Int × Bool := if decide (6 ≤ q.length) || !areB o then (q, 0, false) else (q ++ [(nidQ q, o, 0, 0, [])], nidQ q, true)
theorem le_cast {a : Nat} : decide ((6 : Int) ≤ (a : Int)) = decide (6 ≤ a) := decide_eq_decide.2 (by omega)
theorem new_bad {q : List TxT} {o : List OpT} (h : (decide ((6 : Int) ≤ (q.length : Int)) || !areB o) = true) : newTx q o = (q, 0, false) := by
 rw [le_cast] at h
 rw [newTx, if_pos h]
theorem new_good {q : List TxT} {o : List OpT} {z : Int} (h : (decide ((6 : Int) ≤ (q.length : Int)) || !areB o) = false) (hz : z = nidQ q) : newTx q o = (q ++ [(z, o, 0, 0, [])], z, true) := by
 rw [le_cast] at h
 rw [newTx, if_neg (by rw [h]; simp), hz]
theorem nid_pos {q : List TxT} (h : (0 : Int) < (q.length : Int)) : IntKind.i64.wrap ((q.getD ((q.length : Int) - 1).toNat default).1 + 1) = nidQ q := by rw [nidQ, if_pos (by omega)]
theorem nid_zero {q : List TxT} (h : ¬ (0 : Int) < (q.length : Int)) : 1 = nidQ q := by rw [nidQ, if_neg (by omega)]
theorem are_big {l : List OpT} (h : (6 : Int) < (l.length : Int)) : areB l = false := by
 unfold areB; rw [decide_eq_false (by omega)]; simp
theorem ok_spec_NewTx {x : List TxT} {y : List OpT} (hb : wList wTx x ≤ 1099511627776) (hb2 : wList wOp y ≤ 1099511627776) : KFn Tryz.prog 38 [.agg [(.dv [] (txsD (x)))], .one (.dv [] (opsD (y)))] (.tup [(true, [(.key 90001)]), (false, [(.dv [] (.int .i64 ((newTx x y).2.1)))]), (false, [(.dv [] (.bool ((newTx x y).2.2)))])]) [(90001, some (kcOf false (txsD ((newTx x y).1))))] := by
 refine ⟨fn_intro Tryz.func38 rfl Tryz.ntmps38 Tryz.results38 rfl (fun C => ?_)⟩
 have hwl : wList wTx x = x.length + wSum wTx x := rfl
 refine yF 0 0 rfl rfl fun f0_0 => ?_
 refine ok_fact (x := .tmp 1) (ev_tmp rfl) fun f1 => ?_
 iterate 8 refine z ?_
 refine zK 89970 Tryz.call68 ?_ (hf := ok_spec_l10Copy (x := x) (by omega))
 iterate 15 refine z ?_
 refine yQ rfl (fun c1 => ?_) fun c1 => ?_
 ·skip
  have hbad : (decide ((6 : Int) ≤ (x.length : Int)) || !areB y) = true := by
   cases h : decide ((6 : Int) < (y.length : Int)) with
   | true => rw [are_big (of_decide_eq_true h)]; simp
   | false => rw [h, Bool.or_false] at c1; rw [c1]; rfl
  iterate 6 refine z ?_
  rw [new_bad hbad]
  refine ok_weak (σ' := ⟨[(4, .box 4 0), (5, .one (.dv [] (.int .i64 (0)))), (6, .one (.dv [] (.bool (false))))], [(4, 30, [(.key 90001)])], [(90001, some (kcOf false (txsD (x))))]⟩) (weak_sub ⟨rfl, rfl, rfl, trivial⟩ ⟨rfl, trivial⟩ ⟨rfl, trivial⟩ rfl) ?_
  iterate 2 refine z ?_
  refine fin3 (res_cell hT rfl rfl rfl rfl) (res_tmp rfl) (res_tmp rfl) rfl rfl rfl ?_
  first | exact ⟨rfl, rfl⟩ | skip
 ·skip
  iterate 7 refine z ?_
  refine ok_loop (ι := Nat) (fun zz => ⟨[(1, .one (.dv [] (opsD (y)))), (2, .box 2 0), (4, .box 4 0), (7, .box 7 0), (8, .one (.dv [] (.int .i64 ((zz : Int)))))], [(2, 30, [(.dv [] (txsD (x)))]), (4, 30, [.nil]), (7, 30, [(.key 90001)])], [(90001, some (kcOf false (txsD ((x)))))]⟩) (fun zz => zz ≤ y.length ∧ (y.take zz).all isOpB = true) (fun zz => y.length - zz) (0) ?_ (weak_sub ⟨rfl, rfl, rfl, rfl, rfl, trivial⟩ ⟨rfl, rfl, rfl, trivial⟩ ⟨rfl, trivial⟩ rfl) (fun zz hx => ?_)
  ·exact ⟨Nat.zero_le _, rfl⟩
  obtain ⟨k, rfl⟩ : ∃ v, v = zz := ⟨_, rfl⟩
  replace hx : k ≤ y.length ∧ (y.take k).all isOpB = true := hx
  obtain ⟨hk, hall⟩ := hx
  show Ok _ _ _ _ _ (⟨[(1, .one (.dv [] (opsD (y)))), (2, .box 2 0), (4, .box 4 0), (7, .box 7 0), (8, .one (.dv [] (.int .i64 ((k : Int)))))], [(2, 30, [(.dv [] (txsD (x)))]), (4, 30, [.nil]), (7, 30, [(.key 90001)])], [(90001, some (kcOf false (txsD ((x)))))]⟩ : St)
  iterate 7 refine z ?_
  refine yQ rfl (fun c2 => ?_) fun c2 => ?_
  ·skip
   have d2 := of_decide_eq_true c2
   iterate 9 refine z ?_
   refine zC Tryz.call60 ?_ (hf := ok_spec_IsOp (x := (((y)).getD ((k : Int)).toNat default)) )
   iterate 2 refine z ?_
   refine yQ rfl (fun c3 => ?_) fun c3 => ?_
   ·skip
    have hbad : (decide ((6 : Int) ≤ (x.length : Int)) || !areB y) = true := by
     rw [are_no (k := k) (by omega) (by simpa using c3)]; simp
    iterate 6 refine z ?_
    rw [new_bad hbad]
    refine ok_weak (σ' := ⟨[(4, .box 4 0), (5, .one (.dv [] (.int .i64 (0)))), (6, .one (.dv [] (.bool (false))))], [(4, 30, [(.key 90001)])], [(90001, some (kcOf false (txsD (x))))]⟩) (weak_sub ⟨rfl, rfl, rfl, trivial⟩ ⟨rfl, trivial⟩ ⟨rfl, trivial⟩ rfl) ?_
    iterate 6 refine z ?_
    refine fin3 (res_cell hT rfl rfl rfl rfl) (res_tmp rfl) (res_tmp rfl) rfl rfl rfl ?_
    first | exact ⟨rfl, rfl⟩ | skip
   ·skip
    iterate 3 refine z ?_
    refine ok_region ?_
    iterate 4 refine z ?_
    refine ⟨k + 1, ?_, ?_, weak_sub ⟨rfl, rfl, rfl, rfl, rfl, trivial⟩ ⟨rfl, rfl, rfl, trivial⟩ ⟨rfl, trivial⟩ rfl⟩
    ·exact ⟨by omega, are_step hall (by omega) (by simpa using c3)⟩
    ·omega
  ·skip
   have d2 := of_decide_eq_false c2
   have hgood : (decide ((6 : Int) ≤ (x.length : Int)) || !areB y) = false := by
    have h1 := c1
    simp only [Bool.or_eq_false_iff, decide_eq_false_iff_not] at h1
    rw [are_yes hall (by omega), decide_eq_true (by omega : (y.length : Int) ≤ 6), decide_eq_false (by omega : ¬ (6 : Int) ≤ (x.length : Int))]; rfl
   iterate 15 refine z ?_
   refine yQ rfl (fun c4 => ?_) fun c4 => ?_
   ·skip
    have d4 := of_decide_eq_true c4
    refine ok_region ?_
    iterate 9 refine z ?_
    refine yO rfl rfl (pu_add rfl (ev_tmp rfl) (ev_int (inR_lit rfl))) rfl ?_
    iterate 2 refine z ?_
    refine ok_seq ?_
    refine ok_regionH [0, 1, 2, 3, 4, 5, 6] (oB := [2, 4, 7]) (oK := [90001]) (by kernel_rfl) rfl rfl ?_
    refine zD 0 ?_
    refine zD 1 ?_
    refine zD 2 ?_
    refine zD 3 ?_
    refine d_callK 89999 4 rfl (by kernel_rfl) rfl rfl rfl Tryz.call69 (ok_spec_l9Copy (x := y) (by omega)) (as_cons (ev_tmp rfl) (ag_one ac_dv) as_nil) rfl rfl rfl rfl rfl ?_
    refine d_take 5 rfl (by kernel_rfl) rfl rfl (pu_build hT hB rfl rfl rfl (bp_cons (ev_tmp rfl) rfl rfl rfl rfl rfl (bp_cons (ev_tmp rfl) rfl rfl rfl rfl rfl bp_nil))) rfl rfl rfl rfl ?_
    refine d_build1 (k := 55) (js := [90005]) 6 hT rfl (by kernel_rfl) rfl rfl rfl rfl rfl rfl rfl rfl rfl (ev_tmp rfl) rfl rfl (ow_cons' (ow_dv rfl) (ow_cons' (ow_key rfl) (ow_cons' (ow_dv rfl) (ow_cons' (ow_dv rfl) (ow_cons' (ow_nilc (e := 60) (sz := 3) rfl) ow_nil rfl) rfl) rfl) rfl) rfl) (by decide) (by decide) rfl rfl (by decide) ?_
    simp only [killT, killB, SV.kill, CV.kill, kk, Nat.reduceBEq]
    refine d_chain [7, 8, 9] rfl rfl (by kernel_rfl) ?_
    refine o_appK (k := 90001) (j := 55) (cs := (x ++ [(IntKind.i64.wrap ((x.getD ((x.length : Int) - 1).toNat default).1 + 1), y, (0 : Int), (0 : Int), ([] : List StoreT))]).flatMap eTx) (n := (x ++ [(IntKind.i64.wrap ((x.getD ((x.length : Int) - 1).toNat default).1 + 1), y, (0 : Int), (0 : Int), ([] : List StoreT))]).length) hT rfl rfl rfl rfl rfl rfl rfl (ev_tmp rfl) rfl rfl rfl (ev_tmp rfl) rfl rfl (by decide) (by dsimp only [kcOf, KC.old]; omega) (by dsimp only [kcOf, KC.old]; omega) (by rw [List.length_append]; rfl) (by rw [List.flatMap_append]; rfl) ?_
    simp only [killT, killB, SV.kill, CV.kill, kk, Nat.reduceBEq]
    iterate 10 refine z ?_
    rw [new_good hgood (nid_pos d4)]
    refine ok_weak (σ' := ⟨[(4, .box 4 0), (5, .one (.dv [] (.int .i64 (IntKind.i64.wrap (((((x)).getD (((((x)).length : Int)) - (1)).toNat default).1) + (1)))))), (6, .one (.dv [] (.bool (true))))], [(4, 30, [(.key 90001)])], [(90001, some (kcOf false (txsD (x ++ [(IntKind.i64.wrap ((x.getD ((x.length : Int) - 1).toNat default).1 + 1), y, (0 : Int), (0 : Int), ([] : List StoreT))]))))]⟩) (weak_sub ⟨rfl, rfl, rfl, trivial⟩ ⟨rfl, trivial⟩ ⟨rfl, trivial⟩ rfl) ?_
    refine z ?_
    refine fin3 (res_cell hT rfl rfl rfl rfl) (res_tmp rfl) (res_tmp rfl) rfl rfl rfl ?_
    first | exact ⟨rfl, rfl⟩ | skip
   ·skip
    have d4 := of_decide_eq_false c4
    iterate 2 refine z ?_
    refine ok_seq ?_
    refine ok_regionH [0, 1, 2, 3, 4, 5, 6] (oB := [2, 4, 7]) (oK := [90001]) (by kernel_rfl) rfl rfl ?_
    refine zD 0 ?_
    refine zD 1 ?_
    refine zD 2 ?_
    refine zD 3 ?_
    refine d_callK 89999 4 rfl (by kernel_rfl) rfl rfl rfl Tryz.call69 (ok_spec_l9Copy (x := y) (by omega)) (as_cons (ev_tmp rfl) (ag_one ac_dv) as_nil) rfl rfl rfl rfl rfl ?_
    refine d_take 5 rfl (by kernel_rfl) rfl rfl (pu_build hT hB rfl rfl rfl (bp_cons (ev_tmp rfl) rfl rfl rfl rfl rfl (bp_cons (ev_tmp rfl) rfl rfl rfl rfl rfl bp_nil))) rfl rfl rfl rfl ?_
    refine d_build1 (k := 55) (js := [90005]) 6 hT rfl (by kernel_rfl) rfl rfl rfl rfl rfl rfl rfl rfl rfl (ev_tmp rfl) rfl rfl (ow_cons' (ow_dv rfl) (ow_cons' (ow_key rfl) (ow_cons' (ow_dv rfl) (ow_cons' (ow_dv rfl) (ow_cons' (ow_nilc (e := 60) (sz := 3) rfl) ow_nil rfl) rfl) rfl) rfl) rfl) (by decide) (by decide) rfl rfl (by decide) ?_
    simp only [killT, killB, SV.kill, CV.kill, kk, Nat.reduceBEq]
    refine d_chain [7, 8, 9] rfl rfl (by kernel_rfl) ?_
    refine o_appK (k := 90001) (j := 55) (cs := (x ++ [((1 : Int), y, (0 : Int), (0 : Int), ([] : List StoreT))]).flatMap eTx) (n := (x ++ [((1 : Int), y, (0 : Int), (0 : Int), ([] : List StoreT))]).length) hT rfl rfl rfl rfl rfl rfl rfl (ev_tmp rfl) rfl rfl rfl (ev_tmp rfl) rfl rfl (by decide) (by dsimp only [kcOf, KC.old]; omega) (by dsimp only [kcOf, KC.old]; omega) (by rw [List.length_append]; rfl) (by rw [List.flatMap_append]; rfl) ?_
    simp only [killT, killB, SV.kill, CV.kill, kk, Nat.reduceBEq]
    iterate 10 refine z ?_
    rw [new_good hgood (nid_zero d4)]
    refine ok_weak (σ' := ⟨[(4, .box 4 0), (5, .one (.dv [] (.int .i64 (1)))), (6, .one (.dv [] (.bool (true))))], [(4, 30, [(.key 90001)])], [(90001, some (kcOf false (txsD (x ++ [((1 : Int), y, (0 : Int), (0 : Int), ([] : List StoreT))]))))]⟩) (weak_sub ⟨rfl, rfl, rfl, trivial⟩ ⟨rfl, trivial⟩ ⟨rfl, trivial⟩ rfl) ?_
    refine z ?_
    refine fin3 (res_cell hT rfl rfl rfl rfl) (res_tmp rfl) (res_tmp rfl) rfl rfl rfl ?_
    first | exact ⟨rfl, rfl⟩ | skip
end Go.Proofs.YtjkpoekgnmgofaaGreat

namespace Go.Proofs.YtjkpoekgnmgofaaGreat
open Go.RowKit
open Go.Proofs
set_option linter.unusedVariables false
set_option linter.unusedSimpArgs false

section
variable {α : Type} {enc : α → List DV} {sz : Nat} {q : α → Bool} {x : List α}
theorem fl_len (hs : ∀ y, (enc y).length = sz) : ∀ xs : List α, (xs.flatMap enc).length = xs.length * sz
 | [] => by simp
 | y :: xs => by rw [List.flatMap_cons, List.length_append, fl_len hs xs, hs, List.length_cons, Nat.add_mul, Nat.one_mul, Nat.add_comm]
theorem findI_cases {p : α → Bool} {d : α} : ∀ (xs : List α) (i : Int), 0 ≤ i → (findI p xs i = -1 ∧ xs.any p = false) ∨ ∃ m, m < xs.length ∧ findI p xs i = i + (m : Int) ∧ (xs.take m).any p = false ∧ p (xs.getD m d) = true
 | [], i, h => .inl ⟨rfl, rfl⟩
 | y :: xs, i, h => by
  rw [findI]
  by_cases hp : p y = true
  ·rw [if_pos hp]
   exact .inr ⟨0, by simp, by simp, by simp, by simpa using hp⟩
  ·rw [if_neg hp]
   rcases findI_cases (p := p) (d := d) xs (i + 1) (by omega) with ⟨h1, h2⟩ | ⟨m, h1, h2, h3, h4⟩
   ·exact .inl ⟨h1, by simp [h2, hp]⟩
   ·exact .inr ⟨m + 1, by simpa using h1, by rw [h2]; omega, by simp [h3, hp], by simpa using h4⟩
def delC (enc : α → List DV) (q : α → Bool) (x : List α) (k : Nat) (G : List DV) : List DV := ((x.take k).filter q).flatMap enc ++ (G ++ (x.drop k).flatMap enc)
theorem delC_len (hs : ∀ y, (enc y).length = sz) {i k : Nat} {G : List DV} (hi : i = ((x.take k).filter q).length) (hG : G.length + i * sz = k * sz) (hk : k ≤ x.length) : (delC enc q x k G).length = x.length * sz := by
 have e : (x.length - k) * sz + k * sz = x.length * sz := by rw [← Nat.add_mul]; congr 1; omega
 rw [delC, List.length_append, List.length_append, fl_len hs, fl_len hs, ← hi, List.length_drop]
 omega
theorem delC_sub (hs : ∀ y, (enc y).length = sz) {i k : Nat} {G : List DV} [Inhabited α] (hi : i = ((x.take k).filter q).length) (hG : G.length + i * sz = k * sz) (hk : k < x.length) : sub (k * sz) sz (delC enc q x k G) = enc (x.getD k default) := by
 have e : x.drop k = x.getD k default :: x.drop (k + 1) := by rw [List.drop_eq_getElem_cons hk]; simp [List.getD, List.getElem?_eq_getElem hk]
 rw [delC, ← List.append_assoc, e, List.flatMap_cons, sub, List.drop_left' (by rw [List.length_append, fl_len hs, ← hi]; omega), List.take_left' (hs _)]
theorem delC_mv (hs : ∀ y, (enc y).length = sz) {i k : Nat} {G : List DV} [Inhabited α] (hi : i = ((x.take k).filter q).length) (hG : G.length + i * sz = k * sz) (hk : k < x.length) (hik : i < k) (hq : q (x.getD k default) = true) :
  setR (i * sz) (enc (x.getD k default)) (setR (k * sz) (List.replicate sz .hole) (delC enc q x k G)) = delC enc q x (k + 1) (G.drop sz ++ List.replicate sz .hole) := by
 have e : x.drop k = x.getD k default :: x.drop (k + 1) := by rw [List.drop_eq_getElem_cons hk]; simp [List.getD, List.getElem?_eq_getElem hk]
 have m1 : (i + 1) * sz ≤ k * sz := Nat.mul_le_mul_right _ hik
 rw [Nat.add_mul, Nat.one_mul] at m1
 have l1 : (((x.take k).filter q).flatMap enc).length = i * sz := by rw [fl_len hs, ← hi]
 have e1 : setR (k * sz) (List.replicate sz DV.hole) (delC enc q x k G) = ((x.take k).filter q).flatMap enc ++ (G.take sz ++ (G.drop sz ++ (List.replicate sz .hole ++ (x.drop (k + 1)).flatMap enc))) := by
  rw [delC, e, List.flatMap_cons, ← List.append_assoc, setR_mid3 (by rw [List.length_append, l1]; omega) (by simp [hs])]
  rw [List.append_assoc, ← List.append_assoc (G.take sz), List.take_append_drop]
 rw [e1, setR_mid3 l1.symm (by rw [hs, List.length_take]; omega), delC, List.take_add_one, List.getElem?_eq_getElem hk, List.filter_append, List.flatMap_append]
 have : x.getD k default = x[k] := by simp [List.getD, List.getElem?_eq_getElem hk]
 rw [this] at hq ⊢
 simp [hq]
theorem delC_no (hs : ∀ y, (enc y).length = sz) {k : Nat} {G : List DV} [Inhabited α] (hk : k < x.length) (hq : q (x.getD k default) = false) : delC enc q x k G = delC enc q x (k + 1) (G ++ enc (x.getD k default)) ∧ ((x.take (k + 1)).filter q).length = ((x.take k).filter q).length := by
 have e : x.drop k = x.getD k default :: x.drop (k + 1) := by rw [List.drop_eq_getElem_cons hk]; simp [List.getD, List.getElem?_eq_getElem hk]
 have : x.getD k default = x[k] := by simp [List.getD, List.getElem?_eq_getElem hk]
 have e2 : (x.take (k + 1)).filter q = (x.take k).filter q := by
  rw [List.take_add_one, List.getElem?_eq_getElem hk, List.filter_append]
  rw [this] at hq
  simp [hq]
 refine ⟨?_, by rw [e2]⟩
 rw [delC, delC, e2, e, List.flatMap_cons]
 simp
theorem delC_yes {k : Nat} [Inhabited α] (hk : k < x.length) (hq : q (x.getD k default) = true) : ((x.take (k + 1)).filter q).length = ((x.take k).filter q).length + 1 := by
 have : x.getD k default = x[k] := by simp [List.getD, List.getElem?_eq_getElem hk]
 rw [List.take_add_one, List.getElem?_eq_getElem hk, List.filter_append]
 rw [this] at hq
 simp [hq]
theorem delC_end (hs : ∀ y, (enc y).length = sz) {i k : Nat} {G : List DV} (hi : i = ((x.take k).filter q).length) (hG : G.length + i * sz = k * sz) (hk : k = x.length) : setR (i * sz) (List.replicate ((x.length - i) * sz) .hole) (delC enc q x k G) = (x.filter q).flatMap enc ++ List.replicate ((x.length - i) * sz) .hole := by
 subst hk
 rw [List.take_length] at hi
 have m : (x.length - i) * sz + i * sz = x.length * sz := by rw [← Nat.add_mul]; congr 1; have := List.length_filter_le q x; omega
 rw [delC, List.take_length, List.drop_length, List.flatMap_nil]
 have := setR_mid3 (A := (x.filter q).flatMap enc) (B := G) (us := List.replicate ((x.length - i) * sz) DV.hole) (D := []) (off := i * sz) (by rw [fl_len hs, hi]) (by simp; omega)
 simpa using this
theorem delC_cut (hs : ∀ y, (enc y).length = sz) {i : Nat} {H : List DV} (hi : i = (x.filter q).length) : ((x.filter q).flatMap enc ++ H).take (i * sz) = (x.filter q).flatMap enc := List.take_left' (by rw [fl_len hs, hi])
theorem delC_start {m : Nat} [Inhabited α] (hm : m < x.length) (h3 : (x.take m).any (fun y => !q y) = false) (h4 : q (x.getD m default) = false) : x.flatMap enc = delC enc q x (m + 1) (enc (x.getD m default)) ∧ m = ((x.take (m + 1)).filter q).length := by
 have e : x.drop m = x.getD m default :: x.drop (m + 1) := by rw [List.drop_eq_getElem_cons hm]; simp [List.getD, List.getElem?_eq_getElem hm]
 have this : x.getD m default = x[m] := by simp [List.getD, List.getElem?_eq_getElem hm]
 have e1 : (x.take m).filter q = x.take m := by
  rw [List.filter_eq_self]
  intro y hy
  rw [List.any_eq_false] at h3
  simpa using h3 y hy
 have e2 : (x.take (m + 1)).filter q = x.take m := by
  rw [List.take_add_one, List.getElem?_eq_getElem hm, List.filter_append, e1]
  rw [this] at h4
  simp [h4]
 refine ⟨?_, by rw [e2, List.length_take]; omega⟩
 rw [delC, e2, ← List.flatMap_cons, ← e, ← List.flatMap_append, List.take_append_drop]
theorem filt_none (h : x.any (fun y => !q y) = false) : x.filter q = x := by
 rw [List.filter_eq_self]
 intro y hy
 rw [List.any_eq_false] at h
 simpa using h y hy
end
def inIt (r : RangeT) (y : ItemT) : Bool := inRg y.1 r
def outIt (r : RangeT) (y : ItemT) : Bool := !inRg y.1 r
theorem inIt_out (r : RangeT) : (fun y => !outIt r y) = inIt r := by funext y; simp [outIt, inIt]
def delS (x : StoreT) (r : RangeT) : StoreT × Int := if isSto x then ((x.1, x.2.1.filter (outIt r), x.2.2), (x.2.1.length : Int) - ((x.2.1.filter (outIt r)).length : Int)) else (x, 0)
theorem delS_no {x : StoreT} {r : RangeT} (h : (!isSto x) = true) : delS x r = (x, 0) := by rw [delS, if_neg (by simpa using h)]
theorem delS_yes {x : StoreT} {r : RangeT} (h : (!isSto x) = false) : delS x r = ((x.1, x.2.1.filter (outIt r), x.2.2), (x.2.1.length : Int) - ((x.2.1.filter (outIt r)).length : Int)) := by rw [delS, if_pos (by simpa using h)]

theorem ok_impl_DeleteItems_1 {y : ItemT} {r : RangeT}  : PFn Tryz.prog 124 [.agg [(.dv [] (.int .i64 (y.1.1))), (.dv [] (.int .i64 (y.1.2.1))), (.dv [] (.str (y.1.2.2))), (.dv [] (fieldsD (y.2)))], .ref [] [.bool (r.1), .bool (r.2.1), .int .i64 (r.2.2.1.1), .int .i64 (r.2.2.1.2.1), .str (r.2.2.1.2.2), .int .i64 (r.2.2.2.1), .int .i64 (r.2.2.2.2.1), .str (r.2.2.2.2.2)]] (.one (.dv [] (.bool (inIt r y)))) := by
 refine ⟨fn_intro Tryz.func124 rfl Tryz.ntmps124 Tryz.results124 rfl (fun C => ?_)⟩
 refine yF 0 0 rfl rfl fun f0_0 => ?_
 refine yF 0 1 rfl rfl fun f0_1 => ?_
 refine yF 0 2 rfl rfl fun f0_2 => ?_
 refine yF 0 3 rfl rfl fun f0_3 => ?_
 iterate 8 refine z ?_
 refine zC Tryz.call125 ?_ (hf := ok_impl_InRangeOf)
 iterate 4 refine z ?_
 rfl
theorem ok_slices_IndexFunc_ItemDel {x : List ItemT} {r : RangeT}  : PFn Tryz.prog 120 [.one (.dv [] (itemsD (x))), .fn 124 [[.bool (r.1), .bool (r.2.1), .int .i64 (r.2.2.1.1), .int .i64 (r.2.2.1.2.1), .str (r.2.2.1.2.2), .int .i64 (r.2.2.2.1), .int .i64 (r.2.2.2.2.1), .str (r.2.2.2.2.2)]]] (.one (.dv [] (.int .i64 (findI (inIt r) x 0)))) := by
 refine ⟨fn_intro Tryz.func120 rfl Tryz.ntmps120 Tryz.results120 rfl (fun C => ?_)⟩
 refine ok_fact (x := .tmp 0) (ev_tmp rfl) fun f0 => ?_
 iterate 10 refine z ?_
 refine ok_loop (ι := Nat) (fun zz => ⟨[(0, .one (.dv [] (itemsD (x)))), (1, .fn 124 [[.bool (r.1), .bool (r.2.1), .int .i64 (r.2.2.1.1), .int .i64 (r.2.2.1.2.1), .str (r.2.2.1.2.2), .int .i64 (r.2.2.2.1), .int .i64 (r.2.2.2.2.1), .str (r.2.2.2.2.2)]]), (7, .one (.dv [] (.int .i64 ((((x)).length : Int))))), (8, .one (.dv [] (.int .i64 ((zz : Int)))))], [], []⟩) (fun zz => zz ≤ x.length ∧ (x.take zz).any (inIt r) = false) (fun zz => x.length - zz) (0) ?_ (weak_sub ⟨rfl, rfl, rfl, rfl, trivial⟩ trivial trivial rfl) (fun zz hx => ?_)
 ·exact ⟨Nat.zero_le _, rfl⟩
 obtain ⟨n, rfl⟩ : ∃ v, v = zz := ⟨_, rfl⟩
 replace hx : n ≤ x.length ∧ (x.take n).any (inIt r) = false := hx
 obtain ⟨hk, hall⟩ := hx
 show Ok _ _ _ _ _ (⟨[(0, .one (.dv [] (itemsD (x)))), (1, .fn 124 [[.bool (r.1), .bool (r.2.1), .int .i64 (r.2.2.1.1), .int .i64 (r.2.2.1.2.1), .str (r.2.2.1.2.2), .int .i64 (r.2.2.2.1), .int .i64 (r.2.2.2.2.1), .str (r.2.2.2.2.2)]]), (7, .one (.dv [] (.int .i64 ((((x)).length : Int))))), (8, .one (.dv [] (.int .i64 ((n : Int)))))], [], []⟩ : St)
 iterate 3 refine z ?_
 refine ok_seq ?_
 refine yQ rfl (fun c1 => ?_) fun c1 => ?_
 ·skip
  have d1 := of_decide_eq_true c1
  iterate 14 refine z ?_
  refine o_callV rfl rfl rfl (ev_tmp rfl) Tryz.call124 ok_impl_DeleteItems_1 (as_cons (ev_tmp rfl) (ag_agg (ag_cons ac_dv (ag_cons ac_dv (ag_cons ac_dv (ag_cons ac_dv ag_nil))))) as_nil) rfl rfl ?_
  refine z ?_
  refine yQ rfl (fun c2 => ?_) fun c2 => ?_
  ·skip
   iterate 11 refine z ?_
   exact (findI_at (p := inIt r) (d := default) hall (by omega) c2).symm
  ·skip
   iterate 3 refine z ?_
   refine ok_region ?_
   iterate 3 refine z ?_
   refine ⟨n + 1, ?_, ?_, weak_sub ⟨rfl, rfl, rfl, rfl, trivial⟩ trivial trivial rfl⟩
   ·exact ⟨by omega, any_stepI (d := default) hall (by omega) c2⟩
   ·omega
 ·skip
  have d1 := of_decide_eq_false c1
  iterate 10 refine z ?_
  exact (findI_none (p := inIt r) hall (by omega)).symm
theorem ok_slices_DeleteFunc_Item {x : List ItemT} {r : RangeT} (hb : x.length ≤ 1099511627776) : MFn Tryz.prog 123 [.fn 124 [[.bool (r.1), .bool (r.2.1), .int .i64 (r.2.2.1.1), .int .i64 (r.2.2.1.2.1), .str (r.2.2.1.2.2), .int .i64 (r.2.2.2.1), .int .i64 (r.2.2.2.2.1), .str (r.2.2.2.2.2)]]] (kcOf false (.sl 93 4 (x.length) (x.flatMap eItem))) (kcOf false (.sl 93 4 ((x.filter (outIt r)).length) ((x.filter (outIt r)).flatMap eItem))) := by
 refine ⟨fn_intro Tryz.func123 rfl Tryz.ntmps123 Tryz.results123 rfl (fun C => ?_)⟩
 iterate 6 refine z ?_
 refine o_call rfl rfl rfl Tryz.call120 ok_slices_IndexFunc_ItemDel (as_cons (ev_tmp rfl) (ag_one (ac_key' rfl rfl)) (as_cons (ev_tmp rfl) a_fn as_nil)) rfl rfl ?_
 iterate 7 refine z ?_
 refine yQ rfl (fun c1 => ?_) fun c1 => ?_
 ·skip
  have d1 := of_decide_eq_true c1
  have hn := (findI_cases (p := inIt r) (d := default) x 0 (by omega)).resolve_right (fun ⟨m, h1, h2, _⟩ => by omega)
  rw [← inIt_out r] at hn
  have hfe := filt_none hn.2
  iterate 4 refine z ?_
  refine ok_weak (σ' := ⟨[(4, .one (.key 0))], [], [(0, some (kcOf false (.sl 93 4 ((x.filter (outIt r)).length) ((x.filter (outIt r)).flatMap eItem))))]⟩) (weak_sub ⟨rfl, trivial⟩ trivial ⟨(congrArg (fun l : List ItemT => some (some (KC.mk false 93 4 l.length (l.flatMap eItem)))) hfe.symm), trivial⟩ rfl) ?_
  iterate 2 refine z ?_
  refine fin1 (res_tmp rfl) ?_
  exact ⟨rfl, rfl⟩
 ·skip
  have d1 := of_decide_eq_false c1
  obtain ⟨m, hm1, hm2, hm3, hm4⟩ := (findI_cases (p := inIt r) (d := default) x 0 (by omega)).resolve_left (fun h => d1 h.1)
  rw [← inIt_out r] at hm3
  have hm5 : outIt r (x.getD m default) = false := by unfold outIt; rw [show inRg (x.getD m default).1 r = true from hm4]; rfl
  have hst := delC_start (enc := eItem) hm1 hm3 hm5
  iterate 9 refine z ?_
  refine ok_loop (ι := Nat × Nat × List DV) (fun zz => ⟨[(0, .one (.key 0)), (1, .fn 124 [[.bool (r.1), .bool (r.2.1), .int .i64 (r.2.2.1.1), .int .i64 (r.2.2.1.2.1), .str (r.2.2.1.2.2), .int .i64 (r.2.2.2.1), .int .i64 (r.2.2.2.2.1), .str (r.2.2.2.2.2)]]), (4, .one .nil), (5, .one (.dv [] (.int .i64 ((zz.1 : Int))))), (6, .one (.dv [] (.int .i64 ((zz.2.1 : Int)))))], [], [(0, some (kcOf false (.sl 93 4 (x.length) (delC eItem (outIt r) x zz.2.1 zz.2.2))))]⟩) (fun zz => zz.1 = ((x.take zz.2.1).filter (outIt r)).length ∧ zz.1 < zz.2.1 ∧ zz.2.1 ≤ x.length ∧ zz.2.2.length + zz.1 * 4 = zz.2.1 * 4) (fun zz => x.length - zz.2.1) ((m, m + 1, eItem (x.getD m default))) ?_ (weak_sub ⟨rfl, rfl, rfl, (congrArg (fun z : Int => some (SV.one (CV.dv [] (DV.int .i64 z)))) (show findI (inIt r) x 0 = (m : Int) by omega)), (congrArg (fun z : Int => some (SV.one (CV.dv [] (DV.int .i64 z)))) (show findI (inIt r) x 0 + 1 = ((m + 1 : Nat) : Int) by omega)), trivial⟩ trivial ⟨(congrArg (fun cs => some (some (KC.mk false 93 4 x.length cs))) (hst.1)), trivial⟩ rfl) (fun zz hx => ?_)
  ·exact ⟨hst.2, by show m < m + 1; omega, by show m + 1 ≤ x.length; omega, by show 4 + m * 4 = (m + 1) * 4; omega⟩
  obtain ⟨i, k, G⟩ := zz
  replace hx : i = ((x.take k).filter (outIt r)).length ∧ i < k ∧ k ≤ x.length ∧ G.length + i * 4 = k * 4 := hx
  obtain ⟨hi, hik, hk, hG⟩ := hx
  show Ok _ _ _ _ _ (⟨[(0, .one (.key 0)), (1, .fn 124 [[.bool (r.1), .bool (r.2.1), .int .i64 (r.2.2.1.1), .int .i64 (r.2.2.1.2.1), .str (r.2.2.1.2.2), .int .i64 (r.2.2.2.1), .int .i64 (r.2.2.2.2.1), .str (r.2.2.2.2.2)]]), (4, .one .nil), (5, .one (.dv [] (.int .i64 ((i : Int))))), (6, .one (.dv [] (.int .i64 ((k : Int)))))], [], [(0, some (kcOf false (.sl 93 4 (x.length) (delC eItem (outIt r) x k G))))]⟩ : St)
  iterate 4 refine z ?_
  refine yO rfl rfl (pu_lenKn (n := (x.length)) hT rfl rfl (ev_tmp rfl) rfl rfl) rfl ?_
  iterate 2 refine z ?_
  refine yQ rfl (fun c2 => ?_) fun c2 => ?_
  ·skip
   have d2 := of_decide_eq_true c2
   have hk2 : k < x.length := by omega
   iterate 7 refine z ?_
   refine yO rfl rfl (pu_indexK (i := k) hT rfl rfl rfl (ev_tmp rfl) rfl (ev_tmp rfl) rfl (by show _ < (x.length); omega)) rfl ?_
   refine yO rfl rfl (pu_loadEA (ds := [.int .i64 ((x.getD (k : Int).toNat default).1.1), .int .i64 ((x.getD (k : Int).toNat default).1.2.1), .str ((x.getD (k : Int).toNat default).1.2.2), fieldsD ((x.getD (k : Int).toNat default).2)]) hT rfl rfl (ev_tmp rfl) rfl rfl (by decide) (delC_sub (enc := eItem) (q := outIt r) (sz := 4) (fun _ => rfl) hi hG hk2)) rfl ?_
   iterate 6 refine z ?_
   refine o_callV rfl rfl rfl (ev_tmp rfl) Tryz.call124 ok_impl_DeleteItems_1 (as_cons (ev_tmp rfl) (ag_agg (ag_cons ac_dv (ag_cons ac_dv (ag_cons ac_dv (ag_cons ac_nest ag_nil))))) as_nil) rfl rfl ?_
   iterate 2 refine z ?_
   refine yQ rfl (fun c3 => ?_) fun c3 => ?_
   ·skip
    have hq : outIt r (x.getD k default) = true := c3
    have hy := delC_yes (q := outIt r) hk2 hq
    iterate 4 refine z ?_
    refine yO rfl rfl (pu_indexK (i := i) hT rfl rfl rfl (ev_tmp rfl) rfl (ev_tmp rfl) rfl (by show _ < (x.length); omega)) rfl ?_
    refine o_move (src := k * 4) (ds := [.int .i64 ((x.getD (k : Int).toNat default).1.1), .int .i64 ((x.getD (k : Int).toNat default).1.2.1), .str ((x.getD (k : Int).toNat default).1.2.2), fieldsD ((x.getD (k : Int).toNat default).2)]) (cs := delC eItem (outIt r) x (k + 1) (G.drop 4 ++ List.replicate 4 .hole)) hT rfl rfl rfl rfl (ev_tmp rfl) (ev_tmp rfl) rfl rfl (delC_sub (enc := eItem) (q := outIt r) (sz := 4) (fun _ => rfl) hi hG hk2) (by omega) (by rw [delC_len (sz := 4) (fun _ => rfl) hi hG hk]; omega) (delC_mv (sz := 4) (fun _ => rfl) hi hG hk2 hik hq) ?_
    simp only [killT, killB, SV.kill, CV.kill, kk, Nat.reduceBEq]
    refine z ?_
    refine ok_region ?_
    iterate 3 refine z ?_
    refine ops_nil ?_
    iterate 2 refine z ?_
    refine ok_region ?_
    iterate 4 refine z ?_
    refine ⟨(i + 1, k + 1, (G.drop 4 ++ List.replicate 4 .hole)), ?_, ?_, weak_sub ⟨rfl, rfl, rfl, rfl, rfl, trivial⟩ trivial ⟨rfl, trivial⟩ rfl⟩
    ·exact ⟨by dsimp only; omega, by dsimp only; omega, by dsimp only; omega, by simp; omega⟩
    ·dsimp only; omega
   ·skip
    have hq : outIt r (x.getD k default) = false := c3
    have hno := delC_no (enc := eItem) (q := outIt r) (sz := 4) (G := G) (fun _ => rfl) hk2 hq
    iterate 3 refine z ?_
    refine ok_region ?_
    iterate 4 refine z ?_
    refine ⟨(i, k + 1, G ++ eItem (x.getD k default)), ?_, ?_, weak_sub ⟨rfl, rfl, rfl, rfl, rfl, trivial⟩ trivial ⟨(congrArg (fun cs => some (some (KC.mk false 93 4 x.length cs))) (hno.1)), trivial⟩ rfl⟩
    ·exact ⟨by dsimp only; omega, by dsimp only; omega, by dsimp only; omega, by show (G ++ eItem _).length + i * 4 = (k + 1) * 4; rw [List.length_append]; show G.length + 4 + i * 4 = _; omega⟩
    ·dsimp only; omega
  ·skip
   have d2 := of_decide_eq_false c2
   iterate 8 refine z ?_
   refine yO rfl rfl (pu_kslL (j := 0) (n := (x.length)) (lo := i) (sz := 4) (z := (i : Int)) hT rfl rfl rfl (ev_tmp rfl) rfl (ev_tmp rfl) rfl rfl (by omega) (by omega)) rfl ?_
   refine o_clear (k := 0) (lo := i) (hi := (x.length)) (sz := 4) (cs := (x.filter (outIt r)).flatMap eItem ++ List.replicate ((x.length - i) * 4) .hole) hT rfl rfl rfl rfl rfl rfl (ev_tmp rfl) rfl rfl rfl (by first | omega | (dsimp only [kcOf]; omega)) (by first | omega | (dsimp only [kcOf]; omega)) (delC_end (sz := 4) (fun _ => rfl) hi hG (by omega)) ?_
   simp only [killT, killB, SV.kill, CV.kill, kk, Nat.reduceBEq]
   iterate 4 refine z ?_
   refine yO rfl rfl (pu_kslH (j := 0) (n := (x.length)) (hi := i) (sz := 4) (z := (i : Int)) hT rfl rfl rfl (ev_tmp rfl) rfl (ev_tmp rfl) rfl rfl (by omega) (by omega)) rfl ?_
   iterate 2 refine z ?_
   have hke : k = x.length := by omega
   have hi2 : i = (x.filter (outIt r)).length := by rw [hi, hke, List.take_length]
   refine ok_weak (weak_cut (s := 4) (k := 0) (m := i) (sz := 4) (cs := (x.filter (outIt r)).flatMap eItem) rfl rfl rfl rfl (by first | omega | (dsimp only [kcOf]; omega)) (delC_cut (sz := 4) (fun _ => rfl) hi2)) ?_
   simp only [killT, killB, SV.kill, CV.kill, kk, Nat.reduceBEq]
   refine ok_weak (σ' := ⟨[(4, .one (.key 0))], [], [(0, some (kcOf false (.sl 93 4 ((x.filter (outIt r)).length) ((x.filter (outIt r)).flatMap eItem))))]⟩) (weak_sub ⟨rfl, trivial⟩ trivial ⟨(congrArg (fun n : Nat => some (some (KC.mk false 93 4 n ((x.filter (outIt r)).flatMap eItem)))) hi2), trivial⟩ rfl) ?_
   refine z ?_
   refine fin1 (res_tmp rfl) ?_
   exact ⟨rfl, rfl⟩
theorem ok_impl_DeleteItems {x : StoreT} {r : RangeT} (hb : wStore x ≤ 1099511627776) : KFn Tryz.prog 80 [.agg [(.dv [] (.str (x.1))), (.dv [] (itemsD (x.2.1))), (.dv [] (.int .i64 (x.2.2)))], .agg [(.dv [] (.bool (r.1))), (.dv [] (.bool (r.2.1))), (.dv [] (.int .i64 (r.2.2.1.1))), (.dv [] (.int .i64 (r.2.2.1.2.1))), (.dv [] (.str (r.2.2.1.2.2))), (.dv [] (.int .i64 (r.2.2.2.1))), (.dv [] (.int .i64 (r.2.2.2.2.1))), (.dv [] (.str (r.2.2.2.2.2)))]] (.tup [(true, [(.dv [] (.str ((delS x r).1.1))), (.key 9001), (.dv [] (.int .i64 ((delS x r).1.2.2)))]), (false, [(.dv [] (.int .i64 ((delS x r).2)))])]) [(9001, some (kcOf false (itemsD ((delS x r).1.2.1))))] := by
 refine ⟨fn_intro Tryz.func80 rfl Tryz.ntmps80 Tryz.results80 rfl (fun C => ?_)⟩
 have hlen : x.2.1.length ≤ 1099511627776 := by have h3 : wStore x = x.1.size + (x.2.1.length + wSum wItem x.2.1) := rfl; omega
 have hfl := List.length_filter_le (outIt r) x.2.1
 refine yF 0 0 rfl rfl fun f0_0 => ?_
 refine yF 0 1 rfl rfl fun f0_1 => ?_
 refine yF 0 2 rfl rfl fun f0_2 => ?_
 refine yF 1 2 rfl rfl fun f1_2 => ?_
 refine yF 1 3 rfl rfl fun f1_3 => ?_
 refine yF 1 4 rfl rfl fun f1_4 => ?_
 refine yF 1 5 rfl rfl fun f1_5 => ?_
 refine yF 1 6 rfl rfl fun f1_6 => ?_
 refine yF 1 7 rfl rfl fun f1_7 => ?_
 iterate 8 refine z ?_
 refine zK 8971 Tryz.call22 ?_ (hf := ok_impl_copyStore (x := x) (by omega))
 iterate 6 refine z ?_
 refine zC Tryz.call51 ?_ (hf := ok_impl_IsStore (s := x) )
 iterate 2 refine z ?_
 refine yQ rfl (fun c1 => ?_) fun c1 => ?_
 ·skip
  iterate 5 refine z ?_
  rw [delS_no c1]
  refine ok_weak (σ' := ⟨[(4, .box 4 0), (5, .one (.dv [] (.int .i64 (0))))], [(4, 60, [(.dv [] (.str ((x).1))), (.key 9001), (.dv [] (.int .i64 ((x).2.2)))])], [(9001, some (kcOf false (itemsD (x.2.1))))]⟩) (weak_sub ⟨rfl, rfl, trivial⟩ ⟨rfl, trivial⟩ ⟨rfl, trivial⟩ rfl) ?_
  iterate 2 refine z ?_
  refine fin2 (res_cell hT rfl rfl rfl rfl) (res_tmp rfl) rfl rfl ?_
  first | exact ⟨rfl, rfl⟩ | skip
 ·skip
  iterate 5 refine z ?_
  refine yO rfl rfl (pu_clo1 rfl (ev_tmp rfl)) rfl ?_
  refine o_callM (k := 9001) rfl rfl rfl rfl Tryz.call123 (ok_slices_DeleteFunc_Item (x := x.2.1) (r := r) (by omega)) (ev_tmp rfl) rfl (rfl) rfl (am_cons (ev_tmp rfl) (am_clo (clo_cons rfl rfl clo_nil)) am_nil) ?_
  simp only [killT, killB, SV.kill, CV.kill, kk, Nat.reduceBEq]
  iterate 3 refine z ?_
  refine ok_seq ?_
  refine ok_regionW 4 (oB := [2, 3, 6]) (oK := [9001]) (by kernel_rfl) rfl rfl ?_
  refine w_take 0 rfl (by kernel_rfl) rfl rfl (pu_loadBoxA hT rfl rfl (ev_tmp rfl) rfl rfl) rfl rfl rfl rfl rfl ?_
  refine w_take 1 rfl (by kernel_rfl) rfl rfl (pu_fieldBox hT rfl rfl rfl (ev_tmp rfl)) rfl rfl rfl rfl rfl ?_
  refine w_take 2 rfl (by kernel_rfl) rfl rfl (pu_loadBox1 hT rfl rfl (ev_tmp rfl) rfl rfl) rfl rfl rfl rfl rfl ?_
  refine w_take 3 rfl (by kernel_rfl) rfl rfl (pu_lenV hT rfl rfl (ev_tmp rfl)) rfl rfl rfl rfl rfl ?_
  refine w_take 4 rfl (by kernel_rfl) rfl rfl (pu_fieldBox hT rfl rfl rfl (ev_tmp rfl)) rfl rfl rfl rfl rfl ?_
  refine w_take 5 rfl (by kernel_rfl) rfl rfl (pu_loadBox1 hT rfl rfl (ev_tmp rfl) rfl rfl) rfl rfl rfl rfl rfl ?_
  refine w_take 6 rfl (by kernel_rfl) rfl rfl (pu_lenKn (n := ((x.2.1.filter (outIt r)).length)) hT rfl rfl (ev_tmp rfl) rfl rfl) rfl rfl rfl rfl rfl ?_
  refine w_take 7 rfl (by kernel_rfl) rfl rfl (pu_subR rfl (ev_tmp rfl) (ev_tmp rfl) (inR64 (by omega) (by omega))) rfl rfl rfl rfl rfl ?_
  refine w_store 8 rfl (by kernel_rfl) rfl hT rfl rfl rfl (ev_tmp rfl) (ev_tmp rfl) rfl rfl rfl rfl rfl rfl ?_
  refine w_chain [9] rfl rfl (by kernel_rfl) ?_
  iterate 2 refine z ?_
  rw [delS_yes c1]
  refine ok_weak (σ' := ⟨[(4, .box 4 0), (5, .one (.dv [] (.int .i64 (((((x.2.1)).length : Int)) - ((((x.2.1.filter (outIt r)).length) : Int))))))], [(4, 60, [(.dv [] (.str ((x).1))), (.key 9001), (.dv [] (.int .i64 ((x).2.2)))])], [(9001, some (kcOf false (itemsD (x.2.1.filter (outIt r)))))]⟩) (weak_sub ⟨rfl, rfl, trivial⟩ ⟨rfl, trivial⟩ ⟨rfl, trivial⟩ rfl) ?_
  refine z ?_
  refine fin2 (res_cell hT rfl rfl rfl rfl) (res_tmp rfl) rfl rfl ?_
  first | exact ⟨rfl, rfl⟩ | skip
end Go.Proofs.YtjkpoekgnmgofaaGreat

namespace Go.Proofs.YtjkpoekgnmgofaaGreat
open Go.RowKit
open Go.Proofs
set_option linter.unusedVariables false
set_option linter.unusedSimpArgs false

theorem bl_irr : ∀ x : List UInt8, Op.bytesLess x x = false
 | [] => rfl
 | a :: x => by simp [Op.bytesLess, bl_irr x]
theorem bl_trans : ∀ x y z : List UInt8, Op.bytesLess x y = true → Op.bytesLess y z = true → Op.bytesLess x z = true
 | x, [], z, h, _ => by cases x <;> simp [Op.bytesLess] at h
 | x, b :: y, [], _, h => by simp [Op.bytesLess] at h
 | [], b :: y, c :: z, _, _ => rfl
 | a :: x, b :: y, c :: z, h1, h2 => by
  simp only [Op.bytesLess, Bool.or_eq_true, decide_eq_true_eq, Bool.and_eq_true, beq_iff_eq] at h1 h2 ⊢
  rcases h1 with h1 | ⟨rfl, h1⟩
  ·rcases h2 with h2 | ⟨rfl, h2⟩
   ·exact .inl (UInt8.lt_trans h1 h2)
   ·exact .inl h1
  ·rcases h2 with h2 | ⟨rfl, h2⟩
   ·exact .inl h2
   ·exact .inr ⟨rfl, bl_trans x y z h1 h2⟩
def posF (n : Str) : RecT → Nat
 | [] => 0
 | y :: ys => if sLt y.1 n then posF n ys + 1 else 0
def setV (l : RecT) (i : Nat) (v : Int) : RecT := l.set i ((l.getD i default).1, v)
def insF (l : RecT) (j : Nat) (y : FieldT) : RecT := l.take j ++ y :: l.drop j
def hitF (n : Str) (r : RecT) : Bool := decide (posF n r < r.length) && sEq (r.getD (posF n r) default).1 n
def setF0 (r : RecT) (n : Str) (v : Int) : RecT := if hitF n r then setV r (posF n r) v else insF r (posF n r) (n, v)
def setF (r : RecT) (n : Str) (v : Int) : RecT × Bool := if !isRec r || !isRec (setF0 r n v) then (r, false) else (setF0 r n v, true)
theorem setF_no {r o : RecT} {n : Str} {v : Int} (ho : isRec r = true → o = setF0 r n v) (h : (!isRec r || !isRec o) = true) : setF r n v = (r, false) := by
 unfold setF
 by_cases hr : isRec r = true
 ·rw [← ho hr, if_pos h]
 ·rw [if_pos (by simp [hr])]
theorem setF_yes {r o : RecT} {n : Str} {v : Int} (ho : isRec r = true → o = setF0 r n v) (h : (!isRec r || !isRec o) = false) : setF r n v = (o, true) := by
 have hr : isRec r = true := by cases hh : isRec r <;> simp_all
 rw [setF, ← ho hr, if_neg (by rw [h]; simp)]
theorem dropF_cons {l : RecT} {j : Nat} (h : j < l.length) : l.drop j = l.getD j default :: l.drop (j + 1) := by
 rw [List.drop_eq_getElem_cons h]
 simp [List.getD, List.getElem?_eq_getElem h]
def srt : RecT → Prop
 | [] => True
 | y :: ys => (∀ z ∈ ys, sLt y.1 z.1 = true) ∧ srt ys
theorem rec_adj {r : RecT} (h : isRec r = true) (i : Nat) (hi : i + 1 < r.length) : sLt (r.getD i default).1 (r.getD (i + 1) default).1 = true := by
 rw [isRec, Bool.and_eq_true, List.all_eq_true] at h
 have := h.1 (i + 1) (List.mem_range.2 hi)
 simp only [recBad, Bool.not_eq_true', Bool.or_eq_false_iff, Int.toNat_natCast] at this
 have h2 := this.2
 rw [decide_eq_true (by omega : (0 : Int) < ((i + 1 : Nat) : Int)), Bool.true_and, sLe_eq, show (((i + 1 : Nat) : Int) - 1).toNat = i by omega] at h2
 simpa using h2
theorem srt_of : ∀ (l : RecT), (∀ i, i + 1 < l.length → sLt (l.getD i default).1 (l.getD (i + 1) default).1 = true) → srt l
 | [], _ => trivial
 | [y], _ => ⟨by simp, trivial⟩
 | y :: z :: l, h => by
  have ih := srt_of (z :: l) (fun i hi => by have := h (i + 1) (by simp only [List.length_cons] at hi ⊢; omega); simpa using this)
  have h0 : sLt y.1 z.1 = true := by simpa using h 0 (by simp)
  refine ⟨fun u hu => ?_, ih⟩
  rcases List.mem_cons.1 hu with rfl | hu
  ·exact h0
  ·exact bl_trans _ _ _ h0 (ih.1 u hu)
theorem sEq_lt {a b n : Str} (h : sEq a b = true) : sLt n a = sLt n b ∧ sLt a n = sLt b n := by
 have : a.toList = b.toList := by simpa [sEq] using h
 exact ⟨by unfold sLt; rw [this], by unfold sLt; rw [this]⟩
theorem srt_find {n : Str} : ∀ (r : RecT) (i : Int), 0 ≤ i → srt r → (∃ k : Nat, k < r.length ∧ findI (fName n) r i = i + (k : Int) ∧ posF n r = k ∧ sEq (r.getD k default).1 n = true) ∨ (findI (fName n) r i = -1 ∧ hitF n r = false)
 | [], i, _, _ => .inr ⟨rfl, rfl⟩
 | y :: ys, i, hi, hs => by
  by_cases he : sEq y.1 n = true
  ·refine .inl ⟨0, by simp, by rw [findI, if_pos (show fName n y = true from he)]; simp, ?_, by simpa using he⟩
   rw [posF, if_neg]
   rw [(sEq_lt (n := n) he).2]
   simp [sLt, bl_irr]
  ·have hf : findI (fName n) (y :: ys) i = findI (fName n) ys (i + 1) := by rw [findI, if_neg (show ¬ fName n y = true from he)]
   by_cases hl : sLt y.1 n = true
   ·rcases srt_find ys (i + 1) (by omega) hs.2 with ⟨k, h1, h2, h3, h4⟩ | ⟨h1, h2⟩
    ·exact .inl ⟨k + 1, by simpa using h1, by rw [hf, h2]; omega, by rw [posF, if_pos hl, h3], by simpa using h4⟩
    ·refine .inr ⟨by rw [hf, h1], ?_⟩
     unfold hitF at h2 ⊢
     rw [posF, if_pos hl]
     simpa using h2
   ·refine .inr ⟨?_, ?_⟩
    ·rw [hf]
     rcases findI_cases (p := fName n) (d := default) ys (i + 1) (by omega) with ⟨h1, _⟩ | ⟨m, h1, _, _, h4⟩
     ·exact h1
     ·exfalso
      have hm : ys.getD m default ∈ ys := by simp [List.getD, List.getElem?_eq_getElem h1]
      have := hs.1 _ hm
      rw [(sEq_lt (n := y.1) h4).1] at this
      exact hl this
    ·unfold hitF
     rw [posF, if_neg hl]
     simp [he]
theorem hit_impl {r : RecT} {n : Str} {v : Int} (hr : isRec r = true) (h : 0 ≤ findI (fName n) r 0) : setV r (findI (fName n) r 0).toNat v = setF0 r n v := by
 rcases srt_find (n := n) r 0 (by omega) (srt_of r (rec_adj hr)) with ⟨k, h1, h2, h3, h4⟩ | ⟨h1, _⟩
 ·have hh : hitF n r = true := by unfold hitF; rw [h3, h4, decide_eq_true h1]; rfl
  rw [setF0, if_pos hh, h3, h2]
  congr 1; omega
 ·omega
theorem miss_impl {r : RecT} {n : Str} {v : Int} {j : Nat} (hr : isRec r = true) (h : ¬ 0 ≤ findI (fName n) r 0) (hj : posF n r = j) : insF r j (n, v) = setF0 r n v := by
 rcases srt_find (n := n) r 0 (by omega) (srt_of r (rec_adj hr)) with ⟨k, h1, h2, h3, h4⟩ | ⟨_, h1⟩
 ·omega
 ·rw [setF0, if_neg (by rw [h1]; simp), hj]
theorem hit_spec {r : RecT} {n : Str} {v : Int} {j : Nat} (hj : posF n r = j) (h : (decide ((j : Int) < (r.length : Int)) && sEq (r.getD (j : Int).toNat default).1 n) = true) : setV r j v = setF0 r n v := by
 have hh : hitF n r = true := by
  rw [Bool.and_eq_true, decide_eq_true_eq, Int.toNat_natCast] at h
  unfold hitF; rw [hj, h.2, decide_eq_true (by omega)]; rfl
 rw [setF0, if_pos hh, hj]
theorem miss_spec {r : RecT} {n : Str} {v : Int} {j : Nat} (hj : posF n r = j) (h : (decide ((j : Int) < (r.length : Int)) && sEq (r.getD (j : Int).toNat default).1 n) = false) : insF r j (n, v) = setF0 r n v := by
 have hh : hitF n r = false := by
  rw [Int.toNat_natCast] at h
  unfold hitF; rw [hj]
  by_cases hl : j < r.length
  ·rw [decide_eq_true (by omega : (j : Int) < (r.length : Int))] at h; rw [decide_eq_true hl]; exact h
  ·rw [decide_eq_false hl]; rfl
 rw [setF0, if_neg (by rw [hh]; simp), hj]
theorem posF_step {n : Str} {l : RecT} {j : Nat} (hp : posF n l = j + posF n (l.drop j)) (h : (decide ((j : Int) < (l.length : Int)) && sLt (l.getD (j : Int).toNat default).1 n) = true) : j < l.length ∧ posF n l = (j + 1) + posF n (l.drop (j + 1)) := by
 obtain ⟨h1, h2⟩ := (Bool.and_eq_true _ _ ▸ h : _ ∧ _)
 have h1 := of_decide_eq_true h1
 rw [Int.toNat_natCast] at h2
 have h3 : j < l.length := by omega
 refine ⟨h3, ?_⟩
 rw [hp, dropF_cons h3, posF, if_pos h2]
 omega
theorem posF_stop {n : Str} {l : RecT} {j : Nat} (hj : j ≤ l.length) (hp : posF n l = j + posF n (l.drop j)) (h : (decide ((j : Int) < (l.length : Int)) && sLt (l.getD (j : Int).toNat default).1 n) = false) : posF n l = j := by
 rcases Nat.lt_or_ge j l.length with h3 | h3
 ·rw [decide_eq_true (by omega : (j : Int) < (l.length : Int)), Bool.true_and, Int.toNat_natCast] at h
  rw [hp, dropF_cons h3, posF, if_neg (by rw [h]; simp)]
  omega
 ·rw [hp, List.drop_eq_nil_of_le h3, posF]; omega
theorem len2 (l : RecT) : (l.flatMap eField).length = l.length * 2 := fl_len (enc := eField) (sz := 2) (fun _ => rfl) l
theorem setV_len {l : RecT} {i : Nat} {v : Int} : (setV l i v).length = l.length := by simp [setV]
theorem setR_setV {l : RecT} {i : Nat} {v : Int} (hi : i < l.length) : setR (i * 2 + 1) [DV.int .i64 v] (l.flatMap eField) = (setV l i v).flatMap eField := by
 have e : l.flatMap eField = (l.take i).flatMap eField ++ (eField (l.getD i default) ++ (l.drop (i + 1)).flatMap eField) := by
  rw [← List.flatMap_cons, ← dropF_cons hi, ← List.flatMap_append, List.take_append_drop]
 have e2 : (setV l i v).flatMap eField = (l.take i).flatMap eField ++ (eField ((l.getD i default).1, v) ++ (l.drop (i + 1)).flatMap eField) := by
  rw [setV, List.set_eq_take_append_cons_drop, if_pos hi, List.flatMap_append, List.flatMap_cons]
 have hl : ((l.take i).flatMap eField).length = i * 2 := by rw [len2, List.length_take]; omega
 rw [e, e2]
 exact setR_mid (pre := (l.take i).flatMap eField) (B := eField (l.getD i default)) (B' := eField ((l.getD i default).1, v)) (post := (l.drop (i + 1)).flatMap eField) (m := i * 2) (off := i * 2 + 1) (j := 1) hl rfl rfl (Nat.le_refl _)
theorem insF_len {l : RecT} {j : Nat} {y : FieldT} : (insF l j y).length = l.length + 1 := by simp [insF]; omega
theorem insL_fields {o : RecT} {j : Nat} {y : FieldT} : insL (o.flatMap eField) ((j : Int).toNat * 2) (eField y) = (insF o j y).flatMap eField := by
 obtain ⟨h1, h2⟩ := take_flat (enc := eField) (sz := 2) (fun _ => rfl) j o
 rw [Int.toNat_natCast, insL, insF, List.flatMap_append, List.flatMap_cons, h1, h2, List.append_assoc]
theorem setF_len (r : RecT) (n : Str) (v : Int) : (setF r n v).1.length ≤ r.length + 1 := by
 unfold setF setF0
 repeat' split
 all_goals first | (show r.length ≤ _; omega) | (simp only [setV_len, insF_len]; omega)

theorem ok_impl_SetField {r : RecT} {n : Str} {v : Int} (hb : r.length ≤ 1099511627776) : KFn Tryz.prog 82 [.agg [(.dv [] (fieldsD (r)))], .one (.dv [] (.str (n))), .one (.dv [] (.int .i64 (v)))] (.tup [(true, [(.key 9001)]), (false, [(.dv [] (.bool ((setF r n v).2)))])]) [(9001, some (kcOf false (fieldsD ((setF r n v).1))))] := by
 refine ⟨fn_intro Tryz.func82 rfl Tryz.ntmps82 Tryz.results82 rfl (fun C => ?_)⟩
 refine yF 0 0 rfl rfl fun f0_0 => ?_
 refine ok_fact (x := .tmp 1) (ev_tmp rfl) fun f1 => ?_
 refine ok_fact (x := .tmp 2) (ev_tmp rfl) fun f2 => ?_
 iterate 7 refine z ?_
 refine zK 8998 Tryz.call74 ?_ (hf := ok_impl_copyRecord (x := r) (by omega))
 iterate 7 refine z ?_
 refine zC Tryz.call126 ?_ (hf := ok_impl_fieldAt (x := r) (n := n) )
 iterate 6 refine z ?_
 refine yQ rfl (fun c1 => ?_) fun c1 => ?_
 ·skip
  have d1 := of_decide_eq_true c1
  have hlt : (findI (fName n) r 0).toNat < r.length := by have := findI_lt (p := fName n) r 0 (by omega); omega
  refine ok_region ?_
  iterate 4 refine z ?_
  refine yO rfl rfl (pu_indexK (i := (findI (fName (n)) (r) 0).toNat) hT rfl rfl rfl (ev_tmp rfl) rfl (ev_tmp rfl) (by omega) (by show _ < ((r)).length; omega)) rfl ?_
  refine z ?_
  refine o_storeE (js := []) (cs := (setV r (findI (fName n) r 0).toNat v).flatMap eField) hT rfl rfl rfl rfl (ev_tmp rfl) (ev_tmp rfl) rfl rfl rfl rfl (ow_cons' (ow_dv rfl) ow_nil rfl) (by decide) (by decide) rfl (by show _ ≤ List.length ((r).flatMap eField); rw [len2]; omega) (setR_setV (by omega)) ?_
  simp only [killT, killB, SV.kill, CV.kill, kk, Nat.reduceBEq]
  refine z ?_
  refine ok_seq ?_
  refine ok_seq ?_
  refine ok_weak (weak_eq (k := 9001) (c' := kcOf false (fieldsD (setV r (findI (fName n) r 0).toNat v))) rfl (congrArg (fun m => KC.mk false 137 2 m ((setV r (findI (fName n) r 0).toNat v).flatMap eField)) setV_len.symm) rfl) ?_
  refine ok_region ?_
  refine z ?_
  refine zC Tryz.call76 ?_ (hf := ok_impl_IsRecord (r := r) )
  iterate 3 refine z ?_
  refine o_callG (gd_bool rfl rfl rfl rfl rfl) rfl rfl Tryz.call76 (ok_impl_IsRecord (r := setV r (findI (fName n) r 0).toNat v) ) (fun hg => (as_cons (ev_opt rfl hg) (ag_agg (ag_cons (ac_key' rfl rfl) ag_nil)) as_nil)) rfl rfl ?_
  iterate 3 refine z ?_
  refine yQ rfl (fun c2 => ?_) fun c2 => ?_
  ·skip
   refine ok_seq ?_
   refine ok_weak (σ' := ⟨[(3, .box 3 0), (6, .box 6 0), (7, .one (.dv [] (.bool (false))))], [(3, 66, [(.dv [] (fieldsD (r)))]), (6, 66, [.nil])], []⟩) (weak_sub ⟨rfl, rfl, rfl, trivial⟩ ⟨rfl, rfl, trivial⟩ trivial rfl) ?_
   refine ok_region ?_
   refine z ?_
   refine zK 8998 Tryz.call74 ?_ (hf := ok_impl_copyRecord (x := r) (by omega))
   iterate 3 refine z ?_
   rw [setF_no (fun hr => hit_impl hr d1) c2]
   refine ok_weak (σ' := ⟨[(6, .box 6 0), (7, .one (.dv [] (.bool (false))))], [(6, 66, [(.key 9001)])], [(9001, some (kcOf false (fieldsD (r))))]⟩) (weak_sub ⟨rfl, rfl, trivial⟩ ⟨rfl, trivial⟩ ⟨rfl, trivial⟩ rfl) ?_
   iterate 2 refine z ?_
   refine fin2 (res_cell hT rfl rfl rfl rfl) (res_tmp rfl) rfl rfl ?_
   first | exact ⟨rfl, rfl⟩ | skip
  ·skip
   iterate 7 refine z ?_
   rw [setF_yes (fun hr => hit_impl hr d1) c2]
   refine ok_weak (σ' := ⟨[(6, .box 6 0), (7, .one (.dv [] (.bool (true))))], [(6, 66, [(.key 9001)])], [(9001, some (kcOf false (fieldsD (setV r (findI (fName n) r 0).toNat v))))]⟩) (weak_sub ⟨rfl, rfl, trivial⟩ ⟨rfl, trivial⟩ ⟨rfl, trivial⟩ rfl) ?_
   refine z ?_
   refine fin2 (res_cell hT rfl rfl rfl rfl) (res_tmp rfl) rfl rfl ?_
   first | exact ⟨rfl, rfl⟩ | skip
 ·skip
  have d1 := of_decide_eq_false c1
  iterate 5 refine z ?_
  refine ok_loop (ι := Nat) (fun zz => ⟨[(1, .one (.dv [] (.str (n)))), (2, .one (.dv [] (.int .i64 (v)))), (3, .box 3 0), (6, .box 6 0), (7, .one (.dv [] (.bool (false)))), (8, .box 8 0), (10, .one (.dv [] (.int .i64 ((zz : Int)))))], [(3, 66, [(.dv [] (fieldsD (r)))]), (6, 66, [.nil]), (8, 66, [(.key 9001)])], [(9001, some (kcOf false (.sl 137 2 (r.length) (r.flatMap eField))))]⟩) (fun zz => zz ≤ r.length ∧ posF n r = zz + posF n (r.drop zz)) (fun zz => r.length - zz) (0) ?_ (weak_sub ⟨rfl, rfl, rfl, rfl, rfl, rfl, rfl, trivial⟩ ⟨rfl, rfl, rfl, trivial⟩ ⟨rfl, trivial⟩ rfl) (fun zz hx => ?_)
  ·exact ⟨Nat.zero_le _, by simp⟩
  obtain ⟨j, rfl⟩ : ∃ v, v = zz := ⟨_, rfl⟩
  replace hx : j ≤ r.length ∧ posF n r = j + posF n (r.drop j) := hx
  obtain ⟨hj, hp⟩ := hx
  show Ok _ _ _ _ _ (⟨[(1, .one (.dv [] (.str (n)))), (2, .one (.dv [] (.int .i64 (v)))), (3, .box 3 0), (6, .box 6 0), (7, .one (.dv [] (.bool (false)))), (8, .box 8 0), (10, .one (.dv [] (.int .i64 ((j : Int)))))], [(3, 66, [(.dv [] (fieldsD (r)))]), (6, 66, [.nil]), (8, 66, [(.key 9001)])], [(9001, some (kcOf false (.sl 137 2 (r.length) (r.flatMap eField))))]⟩ : St)
  iterate 4 refine z ?_
  refine yO rfl rfl (pu_view (dd := fieldsD r) (pu_loadBox1 hT rfl rfl (ev_tmp rfl) rfl rfl) rfl rfl) rfl ?_
  iterate 4 refine z ?_
  refine o_pureG (gd_bool rfl rfl rfl rfl rfl) rfl (fun hg => pu_view (dd := fieldsD r) (pu_loadBox1 hT rfl rfl (ev_opt rfl hg) rfl rfl) rfl rfl) rfl rfl ?_
  iterate 8 refine z ?_
  refine yQ rfl (fun c3 => ?_) fun c3 => ?_
  ·skip
   have hst := posF_step hp c3
   have hst1 := hst.1
   iterate 3 refine z ?_
   refine ok_region ?_
   iterate 3 refine z ?_
   refine ops_nil ?_
   iterate 2 refine z ?_
   refine ⟨j + 1, ?_, ?_, weak_sub ⟨rfl, rfl, rfl, rfl, rfl, rfl, rfl, trivial⟩ ⟨rfl, rfl, rfl, trivial⟩ ⟨rfl, trivial⟩ rfl⟩
   ·exact ⟨by omega, hst.2⟩
   ·omega
  ·skip
   have hpos := posF_stop hj hp c3
   iterate 5 refine z ?_
   refine ok_region ?_
   iterate 5 refine z ?_
   refine yO rfl rfl (pu_build hT hB rfl rfl rfl (bp_cons (ev_tmp rfl) rfl rfl rfl rfl rfl (bp_cons (ev_tmp rfl) rfl rfl rfl rfl rfl bp_nil))) rfl ?_
   refine o_build1 (k := 47) (js := []) hT rfl rfl rfl rfl rfl rfl rfl rfl rfl (ev_tmp rfl) rfl rfl (ow_cons' (ow_dv rfl) (ow_cons' (ow_dv rfl) ow_nil rfl) rfl) (by decide) (by decide) rfl rfl ?_
   simp only [killT, killB, SV.kill, CV.kill, kk, Nat.reduceBEq]
   refine o_insert (k := 9001) (j := 47) (cs := (insF r j (n, v)).flatMap eField) (n := (insF r j (n, v)).length) (insOk_Field rfl rfl (by decide)) rfl rfl Tryz.call127 rfl rfl (ev_tmp rfl) rfl rfl rfl (ev_tmp rfl) (by omega) (by dsimp only [kcOf]; omega) (ev_tmp rfl) rfl rfl rfl rfl (by decide) (by dsimp only [kcOf]; omega) (by dsimp only [kcOf]; omega) (by rw [insF_len]) (insL_fields (o := r) (j := j) (y := (n, v))) ?_
   simp only [killT, killB, SV.kill, CV.kill, kk, Nat.reduceBEq]
   iterate 3 refine z ?_
   refine ok_seq ?_
   refine ok_seq ?_
   refine ok_weak (weak_eq (k := 9001) (c' := kcOf false (fieldsD (insF r j (n, v)))) rfl (rfl) rfl) ?_
   refine ok_region ?_
   refine z ?_
   refine zC Tryz.call76 ?_ (hf := ok_impl_IsRecord (r := r) )
   iterate 3 refine z ?_
   refine o_callG (gd_bool rfl rfl rfl rfl rfl) rfl rfl Tryz.call76 (ok_impl_IsRecord (r := insF r j (n, v)) ) (fun hg => (as_cons (ev_opt rfl hg) (ag_agg (ag_cons (ac_key' rfl rfl) ag_nil)) as_nil)) rfl rfl ?_
   iterate 3 refine z ?_
   refine yQ rfl (fun c4 => ?_) fun c4 => ?_
   ·skip
    refine ok_seq ?_
    refine ok_weak (σ' := ⟨[(3, .box 3 0), (6, .box 6 0), (7, .one (.dv [] (.bool (false))))], [(3, 66, [(.dv [] (fieldsD (r)))]), (6, 66, [.nil])], []⟩) (weak_sub ⟨rfl, rfl, rfl, trivial⟩ ⟨rfl, rfl, trivial⟩ trivial rfl) ?_
    refine ok_region ?_
    refine z ?_
    refine zK 8998 Tryz.call74 ?_ (hf := ok_impl_copyRecord (x := r) (by omega))
    iterate 3 refine z ?_
    rw [setF_no (fun hr => miss_impl hr d1 hpos) c4]
    refine ok_weak (σ' := ⟨[(6, .box 6 0), (7, .one (.dv [] (.bool (false))))], [(6, 66, [(.key 9001)])], [(9001, some (kcOf false (fieldsD (r))))]⟩) (weak_sub ⟨rfl, rfl, trivial⟩ ⟨rfl, trivial⟩ ⟨rfl, trivial⟩ rfl) ?_
    iterate 2 refine z ?_
    refine fin2 (res_cell hT rfl rfl rfl rfl) (res_tmp rfl) rfl rfl ?_
    first | exact ⟨rfl, rfl⟩ | skip
   ·skip
    iterate 7 refine z ?_
    rw [setF_yes (fun hr => miss_impl hr d1 hpos) c4]
    refine ok_weak (σ' := ⟨[(6, .box 6 0), (7, .one (.dv [] (.bool (true))))], [(6, 66, [(.key 9001)])], [(9001, some (kcOf false (fieldsD (insF r j (n, v)))))]⟩) (weak_sub ⟨rfl, rfl, trivial⟩ ⟨rfl, trivial⟩ ⟨rfl, trivial⟩ rfl) ?_
    refine z ?_
    refine fin2 (res_cell hT rfl rfl rfl rfl) (res_tmp rfl) rfl rfl ?_
    first | exact ⟨rfl, rfl⟩ | skip
theorem ok_spec_SetField {r : RecT} {n : Str} {v : Int} (hb : r.length ≤ 1099511627776) : KFn Tryz.prog 136 [.agg [(.dv [] (fieldsD (r)))], .one (.dv [] (.str (n))), .one (.dv [] (.int .i64 (v)))] (.tup [(true, [(.key 9001)]), (false, [(.dv [] (.bool ((setF r n v).2)))])]) [(9001, some (kcOf false (fieldsD ((setF r n v).1))))] := by
 refine ⟨fn_intro Tryz.func136 rfl Tryz.ntmps136 Tryz.results136 rfl (fun C => ?_)⟩
 refine yF 0 0 rfl rfl fun f0_0 => ?_
 refine ok_fact (x := .tmp 1) (ev_tmp rfl) fun f1 => ?_
 refine ok_fact (x := .tmp 2) (ev_tmp rfl) fun f2 => ?_
 iterate 7 refine z ?_
 refine zK 8998 Tryz.call107 ?_ (hf := ok_spec_l5Copy (x := r) (by omega))
 iterate 8 refine z ?_
 refine ok_loop (ι := Nat) (fun zz => ⟨[(1, .one (.dv [] (.str (n)))), (2, .one (.dv [] (.int .i64 (v)))), (3, .box 3 0), (6, .box 6 0), (7, .one (.dv [] (.bool (false)))), (8, .box 8 0), (9, .one (.dv [] (.int .i64 ((zz : Int)))))], [(3, 66, [(.dv [] (fieldsD (r)))]), (6, 66, [.nil]), (8, 66, [(.key 9001)])], [(9001, some (kcOf false (.sl 137 2 (r.length) (r.flatMap eField))))]⟩) (fun zz => zz ≤ r.length ∧ posF n r = zz + posF n (r.drop zz)) (fun zz => r.length - zz) (0) ?_ (weak_sub ⟨rfl, rfl, rfl, rfl, rfl, rfl, rfl, trivial⟩ ⟨rfl, rfl, rfl, trivial⟩ ⟨rfl, trivial⟩ rfl) (fun zz hx => ?_)
 ·exact ⟨Nat.zero_le _, by simp⟩
 obtain ⟨j, rfl⟩ : ∃ v, v = zz := ⟨_, rfl⟩
 replace hx : j ≤ r.length ∧ posF n r = j + posF n (r.drop j) := hx
 obtain ⟨hj, hp⟩ := hx
 show Ok _ _ _ _ _ (⟨[(1, .one (.dv [] (.str (n)))), (2, .one (.dv [] (.int .i64 (v)))), (3, .box 3 0), (6, .box 6 0), (7, .one (.dv [] (.bool (false)))), (8, .box 8 0), (9, .one (.dv [] (.int .i64 ((j : Int)))))], [(3, 66, [(.dv [] (fieldsD (r)))]), (6, 66, [.nil]), (8, 66, [(.key 9001)])], [(9001, some (kcOf false (.sl 137 2 (r.length) (r.flatMap eField))))]⟩ : St)
 iterate 18 refine z ?_
 refine yQ rfl (fun c1 => ?_) fun c1 => ?_
 ·skip
  have hst := posF_step hp c1
  have hst1 := hst.1
  iterate 3 refine z ?_
  refine ok_region ?_
  iterate 3 refine z ?_
  refine ops_nil ?_
  iterate 2 refine z ?_
  refine ⟨j + 1, ?_, ?_, weak_sub ⟨rfl, rfl, rfl, rfl, rfl, rfl, rfl, trivial⟩ ⟨rfl, rfl, rfl, trivial⟩ ⟨rfl, trivial⟩ rfl⟩
  ·exact ⟨by omega, hst.2⟩
  ·omega
 ·skip
  have hpos := posF_stop hj hp c1
  iterate 23 refine z ?_
  refine yQ rfl (fun c2 => ?_) fun c2 => ?_
  ·skip
   have hlt : j < r.length := by have h8 := c2; rw [Bool.and_eq_true, decide_eq_true_eq] at h8; omega
   refine ok_region ?_
   iterate 4 refine z ?_
   refine yO rfl rfl (pu_indexK (i := j) hT rfl rfl rfl (ev_tmp rfl) rfl (ev_tmp rfl) rfl (by show _ < (r.length); omega)) rfl ?_
   refine z ?_
   refine o_storeE (js := []) (cs := (setV r j v).flatMap eField) hT rfl rfl rfl rfl (ev_tmp rfl) (ev_tmp rfl) rfl rfl rfl rfl (ow_cons' (ow_dv rfl) ow_nil rfl) (by decide) (by decide) rfl (by show _ ≤ List.length (r.flatMap eField); rw [len2]; omega) (setR_setV (by omega)) ?_
   simp only [killT, killB, SV.kill, CV.kill, kk, Nat.reduceBEq]
   refine z ?_
   refine ok_seq ?_
   refine ok_seq ?_
   refine ok_weak (weak_eq (k := 9001) (c' := kcOf false (fieldsD (setV r j v))) rfl (congrArg (fun m => KC.mk false 137 2 m ((setV r j v).flatMap eField)) setV_len.symm) rfl) ?_
   refine ok_region ?_
   refine z ?_
   refine zC Tryz.call90 ?_ (hf := ok_spec_IsRecord (r := r) )
   iterate 3 refine z ?_
   refine o_callG (gd_bool rfl rfl rfl rfl rfl) rfl rfl Tryz.call90 (ok_spec_IsRecord (r := setV r j v) ) (fun hg => (as_cons (ev_opt rfl hg) (ag_agg (ag_cons (ac_key' rfl rfl) ag_nil)) as_nil)) rfl rfl ?_
   iterate 3 refine z ?_
   refine yQ rfl (fun c3 => ?_) fun c3 => ?_
   ·skip
    refine ok_seq ?_
    refine ok_weak (σ' := ⟨[(3, .box 3 0), (6, .box 6 0), (7, .one (.dv [] (.bool (false))))], [(3, 66, [(.dv [] (fieldsD (r)))]), (6, 66, [.nil])], []⟩) (weak_sub ⟨rfl, rfl, rfl, trivial⟩ ⟨rfl, rfl, trivial⟩ trivial rfl) ?_
    refine ok_region ?_
    refine z ?_
    refine zK 8998 Tryz.call107 ?_ (hf := ok_spec_l5Copy (x := r) (by omega))
    iterate 3 refine z ?_
    rw [setF_no (fun _ => hit_spec hpos c2) c3]
    refine ok_weak (σ' := ⟨[(6, .box 6 0), (7, .one (.dv [] (.bool (false))))], [(6, 66, [(.key 9001)])], [(9001, some (kcOf false (fieldsD (r))))]⟩) (weak_sub ⟨rfl, rfl, trivial⟩ ⟨rfl, trivial⟩ ⟨rfl, trivial⟩ rfl) ?_
    iterate 2 refine z ?_
    refine fin2 (res_cell hT rfl rfl rfl rfl) (res_tmp rfl) rfl rfl ?_
    first | exact ⟨rfl, rfl⟩ | skip
   ·skip
    iterate 7 refine z ?_
    rw [setF_yes (fun _ => hit_spec hpos c2) c3]
    refine ok_weak (σ' := ⟨[(6, .box 6 0), (7, .one (.dv [] (.bool (true))))], [(6, 66, [(.key 9001)])], [(9001, some (kcOf false (fieldsD (setV r j v))))]⟩) (weak_sub ⟨rfl, rfl, trivial⟩ ⟨rfl, trivial⟩ ⟨rfl, trivial⟩ rfl) ?_
    refine z ?_
    refine fin2 (res_cell hT rfl rfl rfl rfl) (res_tmp rfl) rfl rfl ?_
    first | exact ⟨rfl, rfl⟩ | skip
  ·skip
   refine ok_cutT (σ' := ⟨[(3, .box 3 0), (6, .box 6 0), (7, .one (.dv [] (.bool (false)))), (8, .box 8 0)], [(3, 66, [(.dv [] (fieldsD (r)))]), (6, 66, [.nil]), (8, 66, [(.key 9050)])], [(9001, some (kcOf false (.sl 137 2 (r.length) (r.flatMap eField)))), (9050, some (kcOf false (.sl 137 2 ((insF r j (n, v)).length) ((insF r j (n, v)).flatMap eField))))]⟩) ?_ ?_
   ·skip
    refine ok_regionH [0, 1, 2, 3, 4, 5, 6, 7, 8, 9, 10, 11, 12, 13, 14, 15, 16] (oB := [3, 6, 8]) (oK := [9001]) (by kernel_rfl) rfl rfl ?_
    refine n_start ?_
    refine zN 1 ?_
    refine zN 2 ?_
    refine zN 3 ?_
    refine n_take 4 rfl (by kernel_rfl) rfl rfl (pu_sliceH hT rfl rfl rfl (ev_tmp rfl) (ev_tmp rfl) (fun _ => rfl) (by omega) (by omega)) rfl rfl rfl rfl ?_
    refine zN 6 ?_
    refine zN 7 ?_
    refine n_take 8 rfl (by kernel_rfl) rfl rfl (pu_build hT hB rfl rfl rfl (bp_cons (ev_tmp rfl) rfl rfl rfl rfl rfl (bp_cons (ev_tmp rfl) rfl rfl rfl rfl rfl bp_nil))) rfl rfl rfl rfl ?_
    refine zN 11 ?_
    refine zN 12 ?_
    refine zN 13 ?_
    refine n_take 14 rfl (by kernel_rfl) rfl rfl (pu_sliceL hT rfl rfl rfl (ev_tmp rfl) (ev_tmp rfl) (fun _ => rfl) (by omega) (by omega)) rfl rfl rfl rfl ?_
    refine n_split 0 [9] (by kernel_rfl) ⟨?_, ?_, trivial⟩
    ·skip
     refine nj_build0 (k := 9050) 0 hT rfl rfl rfl rfl rfl rfl rfl rfl rfl rfl rfl rfl ?_
     refine n_split 5 [9] (by kernel_rfl) ⟨?_, ?_, trivial⟩
     ·skip
      refine nj_appV (k := 9050) (cs := (r.take j).flatMap eField) (n := (r.take j).length) 5 hT rfl rfl rfl rfl rfl rfl rfl rfl (ev_tmp rfl) rfl rfl rfl (ev_tmp rfl) (plain_flat (fun _ => rfl) _) (by dsimp only [kcOf]; simp only [List.length_take]; omega) (by dsimp only [kcOf]; simp only [List.length_take]; omega) (Nat.zero_add _) (rfl) rfl rfl ?_
      simp only [killT, killB, SV.kill, CV.kill, kk, Nat.reduceBEq]
      refine n_split 9 [] (by kernel_rfl) ⟨?_, trivial⟩
      ·skip
       refine nj_buildN (k := 9059) (js := []) 9 hT rfl rfl rfl rfl rfl rfl rfl rfl rfl rfl rfl rfl (ep_cons (ev_tmp rfl) rfl rfl rfl ep_nil) (ow_cons' (ow_dv rfl) (ow_cons' (ow_dv rfl) ow_nil rfl) rfl) (by decide) (by decide) rfl rfl rfl rfl rfl ?_
       simp only [killT, killB, SV.kill, CV.kill, kk, Nat.reduceBEq]
       refine n_split 10 [] (by kernel_rfl) ⟨?_, trivial⟩
       ·skip
        refine nj_appV (k := 9050) (cs := ((r.take j) ++ [(n, v)]).flatMap eField) (n := ((r.take j) ++ [(n, v)]).length) (m := 1) (ds := [.str (n), .int .i64 (v)]) 10 hT rfl rfl rfl rfl rfl rfl rfl rfl (ev_tmp rfl) rfl rfl rfl (ev_keyv' (ev_tmp rfl) rfl rfl) rfl (by dsimp only [kcOf]; simp only [List.length_take]; omega) (by dsimp only [kcOf]; simp only [List.length_take]; omega) (by simp) (by rw [List.flatMap_append]; rfl) rfl rfl ?_
        simp only [killT, killB, SV.kill, CV.kill, kk, Nat.reduceBEq]
        refine n_split 15 [] (by kernel_rfl) ⟨?_, trivial⟩
        ·skip
         refine nj_appV (k := 9050) (cs := (insF r j (n, v)).flatMap eField) (n := (insF r j (n, v)).length) 15 hT rfl rfl rfl rfl rfl rfl rfl rfl (ev_tmp rfl) rfl rfl rfl (ev_tmp rfl) (plain_flat (fun _ => rfl) _) (by dsimp only [kcOf]; simp only [List.length_append, List.length_take, List.length_drop, List.length_singleton]; omega) (by dsimp only [kcOf]; simp only [List.length_append, List.length_take, List.length_drop, List.length_singleton]; omega) (by simp [insF]; omega) (by rw [← List.flatMap_append, insF, List.append_assoc]; rfl) rfl rfl ?_
         simp only [killT, killB, SV.kill, CV.kill, kk, Nat.reduceBEq]
         refine zN 16 ?_
         refine n_split 17 [] (by kernel_rfl) ⟨?_, trivial⟩
         ·skip
          refine nj_last 17 rfl rfl (by kernel_rfl) (ef_storeBox hT rfl rfl rfl (ev_tmp rfl) (ev_tmp rfl) rfl rfl rfl rfl rfl rfl) (by kernel_rfl) ?_
          exact then_n (weak_sub ⟨rfl, rfl, rfl, rfl, trivial⟩ ⟨rfl, rfl, rfl, trivial⟩ ⟨rfl, rfl, trivial⟩ rfl)
     ·skip
      refine nj_buildN (k := 9059) (js := []) 9 hT rfl rfl rfl rfl rfl rfl rfl rfl rfl rfl rfl rfl (ep_cons (ev_tmp rfl) rfl rfl rfl ep_nil) (ow_cons' (ow_dv rfl) (ow_cons' (ow_dv rfl) ow_nil rfl) rfl) (by decide) (by decide) rfl rfl rfl rfl rfl ?_
      simp only [killT, killB, SV.kill, CV.kill, kk, Nat.reduceBEq]
      refine n_split 5 [] (by kernel_rfl) ⟨?_, trivial⟩
      ·skip
       refine nj_appV (k := 9050) (cs := (r.take j).flatMap eField) (n := (r.take j).length) 5 hT rfl rfl rfl rfl rfl rfl rfl rfl (ev_tmp rfl) rfl rfl rfl (ev_tmp rfl) (plain_flat (fun _ => rfl) _) (by dsimp only [kcOf]; simp only [List.length_take]; omega) (by dsimp only [kcOf]; simp only [List.length_take]; omega) (Nat.zero_add _) (rfl) rfl rfl ?_
       simp only [killT, killB, SV.kill, CV.kill, kk, Nat.reduceBEq]
       refine n_split 10 [] (by kernel_rfl) ⟨?_, trivial⟩
       ·skip
        refine nj_appV (k := 9050) (cs := ((r.take j) ++ [(n, v)]).flatMap eField) (n := ((r.take j) ++ [(n, v)]).length) (m := 1) (ds := [.str (n), .int .i64 (v)]) 10 hT rfl rfl rfl rfl rfl rfl rfl rfl (ev_tmp rfl) rfl rfl rfl (ev_keyv' (ev_tmp rfl) rfl rfl) rfl (by dsimp only [kcOf]; simp only [List.length_take]; omega) (by dsimp only [kcOf]; simp only [List.length_take]; omega) (by simp) (by rw [List.flatMap_append]; rfl) rfl rfl ?_
        simp only [killT, killB, SV.kill, CV.kill, kk, Nat.reduceBEq]
        refine n_split 15 [] (by kernel_rfl) ⟨?_, trivial⟩
        ·skip
         refine nj_appV (k := 9050) (cs := (insF r j (n, v)).flatMap eField) (n := (insF r j (n, v)).length) 15 hT rfl rfl rfl rfl rfl rfl rfl rfl (ev_tmp rfl) rfl rfl rfl (ev_tmp rfl) (plain_flat (fun _ => rfl) _) (by dsimp only [kcOf]; simp only [List.length_append, List.length_take, List.length_drop, List.length_singleton]; omega) (by dsimp only [kcOf]; simp only [List.length_append, List.length_take, List.length_drop, List.length_singleton]; omega) (by simp [insF]; omega) (by rw [← List.flatMap_append, insF, List.append_assoc]; rfl) rfl rfl ?_
         simp only [killT, killB, SV.kill, CV.kill, kk, Nat.reduceBEq]
         refine zN 16 ?_
         refine n_split 17 [] (by kernel_rfl) ⟨?_, trivial⟩
         ·skip
          refine nj_last 17 rfl rfl (by kernel_rfl) (ef_storeBox hT rfl rfl rfl (ev_tmp rfl) (ev_tmp rfl) rfl rfl rfl rfl rfl rfl) (by kernel_rfl) ?_
          exact then_n (weak_sub ⟨rfl, rfl, rfl, rfl, trivial⟩ ⟨rfl, rfl, rfl, trivial⟩ ⟨rfl, rfl, trivial⟩ rfl)
    ·skip
     refine nj_buildN (k := 9059) (js := []) 9 hT rfl rfl rfl rfl rfl rfl rfl rfl rfl rfl rfl rfl (ep_cons (ev_tmp rfl) rfl rfl rfl ep_nil) (ow_cons' (ow_dv rfl) (ow_cons' (ow_dv rfl) ow_nil rfl) rfl) (by decide) (by decide) rfl rfl rfl rfl rfl ?_
     simp only [killT, killB, SV.kill, CV.kill, kk, Nat.reduceBEq]
     refine n_split 0 [] (by kernel_rfl) ⟨?_, trivial⟩
     ·skip
      refine nj_build0 (k := 9050) 0 hT rfl rfl rfl rfl rfl rfl rfl rfl rfl rfl rfl rfl ?_
      refine n_split 5 [] (by kernel_rfl) ⟨?_, trivial⟩
      ·skip
       refine nj_appV (k := 9050) (cs := (r.take j).flatMap eField) (n := (r.take j).length) 5 hT rfl rfl rfl rfl rfl rfl rfl rfl (ev_tmp rfl) rfl rfl rfl (ev_tmp rfl) (plain_flat (fun _ => rfl) _) (by dsimp only [kcOf]; simp only [List.length_take]; omega) (by dsimp only [kcOf]; simp only [List.length_take]; omega) (Nat.zero_add _) (rfl) rfl rfl ?_
       simp only [killT, killB, SV.kill, CV.kill, kk, Nat.reduceBEq]
       refine n_split 10 [] (by kernel_rfl) ⟨?_, trivial⟩
       ·skip
        refine nj_appV (k := 9050) (cs := ((r.take j) ++ [(n, v)]).flatMap eField) (n := ((r.take j) ++ [(n, v)]).length) (m := 1) (ds := [.str (n), .int .i64 (v)]) 10 hT rfl rfl rfl rfl rfl rfl rfl rfl (ev_tmp rfl) rfl rfl rfl (ev_keyv' (ev_tmp rfl) rfl rfl) rfl (by dsimp only [kcOf]; simp only [List.length_take]; omega) (by dsimp only [kcOf]; simp only [List.length_take]; omega) (by simp) (by rw [List.flatMap_append]; rfl) rfl rfl ?_
        simp only [killT, killB, SV.kill, CV.kill, kk, Nat.reduceBEq]
        refine n_split 15 [] (by kernel_rfl) ⟨?_, trivial⟩
        ·skip
         refine nj_appV (k := 9050) (cs := (insF r j (n, v)).flatMap eField) (n := (insF r j (n, v)).length) 15 hT rfl rfl rfl rfl rfl rfl rfl rfl (ev_tmp rfl) rfl rfl rfl (ev_tmp rfl) (plain_flat (fun _ => rfl) _) (by dsimp only [kcOf]; simp only [List.length_append, List.length_take, List.length_drop, List.length_singleton]; omega) (by dsimp only [kcOf]; simp only [List.length_append, List.length_take, List.length_drop, List.length_singleton]; omega) (by simp [insF]; omega) (by rw [← List.flatMap_append, insF, List.append_assoc]; rfl) rfl rfl ?_
         simp only [killT, killB, SV.kill, CV.kill, kk, Nat.reduceBEq]
         refine zN 16 ?_
         refine n_split 17 [] (by kernel_rfl) ⟨?_, trivial⟩
         ·skip
          refine nj_last 17 rfl rfl (by kernel_rfl) (ef_storeBox hT rfl rfl rfl (ev_tmp rfl) (ev_tmp rfl) rfl rfl rfl rfl rfl rfl) (by kernel_rfl) ?_
          exact then_n (weak_sub ⟨rfl, rfl, rfl, rfl, trivial⟩ ⟨rfl, rfl, rfl, trivial⟩ ⟨rfl, rfl, trivial⟩ rfl)
   refine ok_seq ?_
   refine ok_seq ?_
   refine ok_weak (weak_swapB (b := 8) (i := 0) (k := 9050) (k' := 9001) rfl rfl rfl rfl (by decide) rfl rfl) ?_
   simp only [killT, killB, SV.kill, CV.kill, kk, Nat.reduceBEq]
   refine ok_weak (weak_eq (k := 9001) (c' := kcOf false (fieldsD (insF r j (n, v)))) rfl (rfl) rfl) ?_
   refine ok_region ?_
   refine z ?_
   refine zC Tryz.call90 ?_ (hf := ok_spec_IsRecord (r := r) )
   iterate 3 refine z ?_
   refine o_callG (gd_bool rfl rfl rfl rfl rfl) rfl rfl Tryz.call90 (ok_spec_IsRecord (r := insF r j (n, v)) ) (fun hg => (as_cons (ev_opt rfl hg) (ag_agg (ag_cons (ac_key' rfl rfl) ag_nil)) as_nil)) rfl rfl ?_
   iterate 3 refine z ?_
   refine yQ rfl (fun c4 => ?_) fun c4 => ?_
   ·skip
    refine ok_seq ?_
    refine ok_weak (σ' := ⟨[(3, .box 3 0), (6, .box 6 0), (7, .one (.dv [] (.bool (false))))], [(3, 66, [(.dv [] (fieldsD (r)))]), (6, 66, [.nil])], []⟩) (weak_sub ⟨rfl, rfl, rfl, trivial⟩ ⟨rfl, rfl, trivial⟩ trivial rfl) ?_
    refine ok_region ?_
    refine z ?_
    refine zK 8998 Tryz.call107 ?_ (hf := ok_spec_l5Copy (x := r) (by omega))
    iterate 3 refine z ?_
    rw [setF_no (fun _ => miss_spec hpos c2) c4]
    refine ok_weak (σ' := ⟨[(6, .box 6 0), (7, .one (.dv [] (.bool (false))))], [(6, 66, [(.key 9001)])], [(9001, some (kcOf false (fieldsD (r))))]⟩) (weak_sub ⟨rfl, rfl, trivial⟩ ⟨rfl, trivial⟩ ⟨rfl, trivial⟩ rfl) ?_
    iterate 2 refine z ?_
    refine fin2 (res_cell hT rfl rfl rfl rfl) (res_tmp rfl) rfl rfl ?_
    first | exact ⟨rfl, rfl⟩ | skip
   ·skip
    iterate 7 refine z ?_
    rw [setF_yes (fun _ => miss_spec hpos c2) c4]
    refine ok_weak (σ' := ⟨[(6, .box 6 0), (7, .one (.dv [] (.bool (true))))], [(6, 66, [(.key 9001)])], [(9001, some (kcOf false (fieldsD (insF r j (n, v)))))]⟩) (weak_sub ⟨rfl, rfl, trivial⟩ ⟨rfl, trivial⟩ ⟨rfl, trivial⟩ rfl) ?_
    refine z ?_
    refine fin2 (res_cell hT rfl rfl rfl rfl) (res_tmp rfl) rfl rfl ?_
    first | exact ⟨rfl, rfl⟩ | skip
end Go.Proofs.YtjkpoekgnmgofaaGreat

namespace Go.Proofs.YtjkpoekgnmgofaaGreat
open Go.RowKit
open Go.Proofs
set_option linter.unusedVariables false
set_option linter.unusedSimpArgs false

def recAt (x : StoreT) (k : KeyT) : RecT := if 0 ≤ fndK x k then (x.2.1.getD (fndK x k).toNat default).2 else []
def incRec (r : RecT) (f : Str) : RecT × Bool := setF r f ((getF r f).1 + 1)
def rgK (k : KeyT) : RangeT := (true, true, k, k)
def rg0 : RangeT := (false, false, (0, 0, ByteArray.empty), (0, 0, ByteArray.empty))
def getN (x : StoreT) (k : KeyT) : Int := if fndK x k < 0 then -1 else ((x.2.1.getD (fndK x k).toNat default).2.length : Int)
def opI (x : StoreT) (o : OpT) : StoreT × Int × Bool :=
 if o.1 = 1 then ((putN x o.2.2.1 o.2.2.2.1).1, 1, (putN x o.2.2.1 o.2.2.2.1).2)
 else if o.1 = 2 then ((addN x o.2.2.1 o.2.2.2.1).1, 1, (addN x o.2.2.1 o.2.2.2.1).2)
 else if o.1 = 3 then ((delS x (rgK o.2.2.1)).1, (delS x (rgK o.2.2.1)).2, true)
 else if o.1 = 5 then ((delS x rg0).1, (delS x rg0).2, true)
 else if o.1 = 4 then (x, getN x o.2.2.1, true)
 else if (incRec (recAt x o.2.2.1) o.2.2.2.2).2 = false then (x, 0, false)
 else ((putN x o.2.2.1 (incRec (recAt x o.2.2.1) o.2.2.2.2).1).1, (getF (recAt x o.2.2.1) o.2.2.2.2).1 + 1, (putN x o.2.2.1 (incRec (recAt x o.2.2.1) o.2.2.2.2).1).2)
def incM (x : StoreT) (k : KeyT) (f : Str) : StoreT × Int × Bool := ((putN x k (incRec (recAt x k) f).1).1, (getF (recAt x k) f).1 + 1, (incRec (recAt x k) f).2 && (putN x k (incRec (recAt x k) f).1).2)
def opM (x : StoreT) (o : OpT) : StoreT × Int × Bool :=
 if o.1 = 1 then ((putN x o.2.2.1 o.2.2.2.1).1, 1, (putN x o.2.2.1 o.2.2.2.1).2)
 else if o.1 = 2 then ((addN x o.2.2.1 o.2.2.2.1).1, 1, (addN x o.2.2.1 o.2.2.2.1).2)
 else if o.1 = 3 then ((delS x (rgK o.2.2.1)).1, (delS x (rgK o.2.2.1)).2, true)
 else if o.1 = 4 then (x, getN x o.2.2.1, true)
 else if o.1 = 5 then ((delS x rg0).1, (delS x rg0).2, true)
 else incM x o.2.2.1 o.2.2.2.2
theorem opI_opM (x : StoreT) (o : OpT) : opI x o = opM x o ∨ ((opI x o).2.2 = false ∧ (opM x o).2.2 = false) := by
 unfold opI opM
 by_cases h1 : o.1 = 1
 ·simp [h1]
 ·by_cases h2 : o.1 = 2
  ·simp [h2]
  ·by_cases h3 : o.1 = 3
   ·simp [h3]
   ·by_cases h5 : o.1 = 5
    ·simp [h5]
    ·by_cases h4 : o.1 = 4
     ·simp [h4]
     ·rw [if_neg h1, if_neg h2, if_neg h3, if_neg h5, if_neg h4, if_neg h1, if_neg h2, if_neg h3, if_neg h4, if_neg h5]
      by_cases h : (incRec (recAt x o.2.2.1) o.2.2.2.2).2 = false
      ·right; rw [if_pos h]; simp [incM, h]
      ·left; rw [if_neg h]
       have h' : (incRec (recAt x o.2.2.1) o.2.2.2.2).2 = true := by simpa using h
       simp [incM, h']
def same (x : StoreT) (o : OpT) : Bool := decide (o.1 = 4) || (!decide (o.1 = 1) && !decide (o.1 = 2) && !decide (o.1 = 3) && !decide (o.1 = 5) && !(incRec (recAt x o.2.2.1) o.2.2.2.2).2)
section
variable {x : StoreT} {o : OpT}
theorem opI_1 (h : o.1 = 1) : opI x o = ((putN x o.2.2.1 o.2.2.2.1).1, 1, (putN x o.2.2.1 o.2.2.2.1).2) := by rw [opI, if_pos h]
theorem opI_2 (h : o.1 = 2) : opI x o = ((addN x o.2.2.1 o.2.2.2.1).1, 1, (addN x o.2.2.1 o.2.2.2.1).2) := by rw [opI, if_neg (by omega), if_pos h]
theorem opI_3 (h : o.1 = 3) : opI x o = ((delS x (rgK o.2.2.1)).1, (delS x (rgK o.2.2.1)).2, true) := by rw [opI, if_neg (by omega), if_neg (by omega), if_pos h]
theorem opI_5 (h : o.1 = 5) : opI x o = ((delS x rg0).1, (delS x rg0).2, true) := by rw [opI, if_neg (by omega), if_neg (by omega), if_neg (by omega), if_pos h]
theorem opI_4a (h : o.1 = 4) (h2 : fndK x o.2.2.1 < 0) : opI x o = (x, -1, true) := by rw [opI, if_neg (by omega), if_neg (by omega), if_neg (by omega), if_neg (by omega), if_pos h, getN, if_pos h2]
theorem opI_4b (h : o.1 = 4) (h2 : ¬ fndK x o.2.2.1 < 0) : opI x o = (x, ((x.2.1.getD (fndK x o.2.2.1).toNat default).2.length : Int), true) := by rw [opI, if_neg (by omega), if_neg (by omega), if_neg (by omega), if_neg (by omega), if_pos h, getN, if_neg h2]
theorem rec_yes {k : KeyT} (h : 0 ≤ fndK x k) : recAt x k = (x.2.1.getD (fndK x k).toNat default).2 := if_pos h
theorem rec_no {k : KeyT} (h : ¬ 0 ≤ fndK x k) : recAt x k = [] := if_neg h
theorem opI_6a {r : RecT} (h1 : o.1 ≠ 1) (h2 : o.1 ≠ 2) (h3 : o.1 ≠ 3) (h5 : o.1 ≠ 5) (h4 : o.1 ≠ 4) (hr : recAt x o.2.2.1 = r) (hk : (!(setF r o.2.2.2.2 ((getF r o.2.2.2.2).1 + 1)).2) = true) : opI x o = (x, 0, false) := by
 rw [opI, if_neg h1, if_neg h2, if_neg h3, if_neg h5, if_neg h4, hr, if_pos (by simpa [incRec] using hk)]
theorem opI_6b {r : RecT} (h1 : o.1 ≠ 1) (h2 : o.1 ≠ 2) (h3 : o.1 ≠ 3) (h5 : o.1 ≠ 5) (h4 : o.1 ≠ 4) (hr : recAt x o.2.2.1 = r) (hk : (!(setF r o.2.2.2.2 ((getF r o.2.2.2.2).1 + 1)).2) = false) :
  opI x o = ((putN x o.2.2.1 (setF r o.2.2.2.2 ((getF r o.2.2.2.2).1 + 1)).1).1, (getF r o.2.2.2.2).1 + 1, (putN x o.2.2.1 (setF r o.2.2.2.2 ((getF r o.2.2.2.2).1 + 1)).1).2) := by
 rw [opI, if_neg h1, if_neg h2, if_neg h3, if_neg h5, if_neg h4, hr, if_neg (by simpa [incRec] using hk)]
 rfl
theorem same_no {r : RecT} (h : same x o = true) (h4 : o.1 ≠ 4) (hr : recAt x o.2.2.1 = r) : ¬ (!(setF r o.2.2.2.2 ((getF r o.2.2.2.2).1 + 1)).2) = false := by
 unfold same at h
 rw [hr] at h
 intro hk
 simp only [decide_eq_false h4, Bool.false_or, Bool.and_eq_true] at h
 have := h.2
 unfold incRec at this
 rw [hk] at this
 cases this
theorem same_123 (h : same x o = true) (h4 : o.1 = 1 ∨ o.1 = 2 ∨ o.1 = 3 ∨ o.1 = 5) : False := by
 unfold same at h
 rw [decide_eq_false (show ¬ o.1 = 4 by omega)] at h
 simp only [Bool.false_or, Bool.and_eq_true, Bool.not_eq_true', decide_eq_false_iff_not] at h
 omega
theorem diff_4 (h : same x o = false) : o.1 ≠ 4 := by
 intro h4
 simp [same, h4] at h
theorem diff_no {r : RecT} (h : same x o = false) (h1 : o.1 ≠ 1) (h2 : o.1 ≠ 2) (h3 : o.1 ≠ 3) (h5 : o.1 ≠ 5) (hr : recAt x o.2.2.1 = r) : ¬ (!(setF r o.2.2.2.2 ((getF r o.2.2.2.2).1 + 1)).2) = true := by
 unfold same at h
 rw [hr] at h
 intro hk
 simp only [decide_eq_false h1, decide_eq_false h2, decide_eq_false h3, decide_eq_false h5, Bool.not_false, Bool.true_and, Bool.or_eq_false_iff] at h
 have := h.2
 unfold incRec at this
 rw [hk] at this
 cases this
end
theorem getF_bd {r : RecT} {n : Str} (h : isRec r = true) : 0 ≤ (getF r n).1 ∧ (getF r n).1 ≤ 1000000000 := by
 unfold getF
 split
 ·exact ⟨by simp, by simp⟩
 ·rename_i h1
  have hlt := findI_lt (p := fName n) r 0 (by omega)
  rw [isRec, Bool.and_eq_true, List.all_eq_true] at h
  have := h.1 (findI (fName n) r 0).toNat (List.mem_range.2 (by omega))
  simp only [recBad, Bool.not_eq_true', Bool.or_eq_false_iff, Int.toNat_natCast] at this
  have h2 := this.1.2
  simp only [Bool.not_eq_false', Bool.and_eq_true, decide_eq_true_eq] at h2
  exact h2
theorem rec6 {r : RecT} (h : isRec r = true) : r.length ≤ 6 := by
 rw [isRec, Bool.and_eq_true, decide_eq_true_eq] at h
 omega
theorem sto_rec {x : StoreT} {i : Nat} (h : isSto x = true) (hi : i < x.2.1.length) : isRec (x.2.1.getD i default).2 = true := by
 rw [isSto, Bool.and_eq_true, List.all_eq_true] at h
 have := h.1 i (List.mem_range.2 hi)
 simp only [stoBad, Bool.not_eq_true', Bool.or_eq_false_iff, Int.toNat_natCast] at this
 simpa using this.1.2
theorem op_rec {o : OpT} (h : isOpB o = true) : o.2.2.2.1.length ≤ 6 := by
 unfold isOpB at h
 simp only [Bool.and_eq_true] at h
 exact rec6 h.1.2
theorem sto_recAt {x : StoreT} {k : KeyT} (h : isSto x = true) (h0 : 0 ≤ fndK x k) : isRec (x.2.1.getD (fndK x k).toNat default).2 = true := sto_rec h (by have := fndK_lt h0; omega)

theorem ok_impl_opOnId {x : StoreT} {o : OpT} (hs : isSto x = true) (ho : isOpB o = true) (hal : same x o = true) : PFn Tryz.prog 47 [.agg [(.dv [] (.str (x.1))), (.arg 0 (itemsD (x.2.1))), (.dv [] (.int .i64 (x.2.2)))], .agg [(.dv [] (.int .i64 (o.1))), (.dv [] (.str (o.2.1))), (.dv [] (.int .i64 (o.2.2.1.1))), (.dv [] (.int .i64 (o.2.2.1.2.1))), (.dv [] (.str (o.2.2.1.2.2))), (.dv [] (fieldsD (o.2.2.2.1))), (.dv [] (.str (o.2.2.2.2)))]] (.tup [(true, [(.dv [] (.str (x.1))), (.arg 0 (itemsD (x.2.1))), (.dv [] (.int .i64 (x.2.2)))]), (false, [(.dv [] (.int .i64 ((opI x o).2.1)))]), (false, [(.dv [] (.bool ((opI x o).2.2)))])]) := by
 refine ⟨fn_intro Tryz.func47 rfl Tryz.ntmps47 Tryz.results47 rfl (fun C => ?_)⟩
 have hsw := sto_w hs
 have hor := op_rec ho
 refine yF 0 0 rfl rfl fun f0_0 => ?_
 refine yF 0 2 rfl rfl fun f0_2 => ?_
 refine yF 1 0 rfl rfl fun f1_0 => ?_
 refine yF 1 1 rfl rfl fun f1_1 => ?_
 refine yF 1 2 rfl rfl fun f1_2 => ?_
 refine yF 1 3 rfl rfl fun f1_3 => ?_
 refine yF 1 4 rfl rfl fun f1_4 => ?_
 refine yF 1 5 rfl rfl fun f1_5 => ?_
 refine yF 1 6 rfl rfl fun f1_6 => ?_
 iterate 11 refine z ?_
 refine zC Tryz.call77 ?_ (hf := ok_impl_FindItem (x := x) (k := o.2.2.1) )
 iterate 12 refine z ?_
 refine yQ rfl (fun c1 => ?_) fun c1 => ?_
 ·skip
  have d1 := of_decide_eq_true c1
  exact absurd d1 (fun h => same_123 hal (by omega))
 ·skip
  have d1 := of_decide_eq_false c1
  iterate 4 refine z ?_
  refine yQ rfl (fun c2 => ?_) fun c2 => ?_
  ·skip
   have d2 := of_decide_eq_true c2
   exact absurd d2 (fun h => same_123 hal (by omega))
  ·skip
   have d2 := of_decide_eq_false c2
   iterate 4 refine z ?_
   refine yQ rfl (fun c3 => ?_) fun c3 => ?_
   ·skip
    have d3 := of_decide_eq_true c3
    exact absurd d3 (fun h => same_123 hal (by omega))
   ·skip
    have d3 := of_decide_eq_false c3
    iterate 4 refine z ?_
    refine yQ rfl (fun c4 => ?_) fun c4 => ?_
    ·skip
     have d4 := of_decide_eq_true c4
     exact absurd d4 (fun h => same_123 hal (by omega))
    ·skip
     have d4 := of_decide_eq_false c4
     iterate 4 refine z ?_
     refine yQ rfl (fun c5 => ?_) fun c5 => ?_
     ·skip
      have d5 := of_decide_eq_true c5
      iterate 5 refine z ?_
      refine yQ rfl (fun c6 => ?_) fun c6 => ?_
      ·skip
       have d6 := of_decide_eq_true c6
       iterate 10 refine z ?_
       refine fin3 (res_cell hT rfl rfl rfl rfl) (res_tmp rfl) (res_tmp rfl) rfl rfl rfl ?_
       rw [opI_4a d5 d6]
       rfl
      ·skip
       have d6 := of_decide_eq_false c6
       have hfx : fndK x o.2.2.1 < x.2.1.length := by have := fndK_lt (x := x) (k := o.2.2.1) (by omega); omega
       iterate 2 refine z ?_
       refine ok_seq ?_
       refine ok_regionW 4 (oB := [2, 3]) (oK := []) (by kernel_rfl) rfl rfl ?_
       refine w_take 0 rfl (by kernel_rfl) rfl rfl (pu_loadBoxA hT rfl rfl (ev_tmp rfl) rfl rfl) rfl rfl rfl rfl rfl ?_
       refine w_take 1 rfl (by kernel_rfl) rfl rfl (pu_fieldBox hT rfl rfl rfl (ev_tmp rfl)) rfl rfl rfl rfl rfl ?_
       refine w_take 2 rfl (by kernel_rfl) rfl rfl (pu_loadBox1 hT rfl rfl (ev_tmp rfl) rfl rfl) rfl rfl rfl rfl rfl ?_
       refine w_take 3 rfl (by kernel_rfl) rfl rfl (pu_move (.inl rfl) (ev_tmp rfl)) rfl rfl rfl rfl rfl ?_
       refine w_take 4 rfl (by kernel_rfl) rfl rfl (pu_indexD hT rfl rfl rfl (ev_argv (ev_tmp rfl)) (ev_tmp rfl) (fun _ => rfl) (by omega) (by omega)) rfl rfl rfl rfl rfl ?_
       refine w_take 5 rfl (by kernel_rfl) rfl rfl (pu_fieldRef hT rfl rfl rfl (ev_tmp rfl)) rfl rfl rfl rfl rfl ?_
       refine w_take 6 rfl (by kernel_rfl) rfl rfl (pu_fieldRef hT rfl rfl rfl (ev_tmp rfl)) rfl rfl rfl rfl rfl ?_
       refine w_take 7 rfl (by kernel_rfl) rfl rfl (pu_loadRef1 hT rfl rfl (ev_tmp rfl) rfl) rfl rfl rfl rfl rfl ?_
       refine w_take 8 rfl (by kernel_rfl) rfl rfl (pu_lenV hT rfl rfl (ev_tmp rfl)) rfl rfl rfl rfl rfl ?_
       refine w_store 9 rfl (by kernel_rfl) rfl hT rfl rfl rfl (ev_tmp rfl) (ev_tmp rfl) rfl rfl rfl rfl rfl rfl ?_
       refine w_chain [10, 11] rfl rfl (by kernel_rfl) ?_
       iterate 6 refine z ?_
       refine fin3 (res_cell hT rfl rfl rfl rfl) (res_tmp rfl) (res_tmp rfl) rfl rfl rfl ?_
       rw [opI_4b d5 d6]
       rfl
     ·skip
      have d5 := of_decide_eq_false c5
      iterate 4 refine z ?_
      refine yO rfl rfl (pu_build hT hB rfl rfl rfl bp_nil) rfl ?_
      iterate 8 refine z ?_
      refine yQ rfl (fun c7 => ?_) fun c7 => ?_
      ·skip
       have d7 := of_decide_eq_true c7
       have hb9 := sto_recAt hs d7
       have hgb := getF_bd (n := o.2.2.2.2) hb9
       have hrl := rec6 hb9
       have hrq := rec_yes d7
       have hlt9 := fndK_lt d7
       refine ok_region ?_
       iterate 3 refine z ?_
       refine yO rfl rfl (pu_indexD hT rfl rfl rfl (ev_argv (ev_tmp rfl)) (ev_tmp rfl) (fun _ => rfl) (by omega) (by omega)) rfl ?_
       iterate 8 refine z ?_
       refine zC Tryz.call81 ?_ (hf := ok_impl_GetField (x := ((x.2.1.getD (fndK x o.2.2.1).toNat default).2)) (n := o.2.2.2.2))
       iterate 12 refine z ?_
       refine zK 499 Tryz.call82 ?_ (hf := ok_impl_SetField (r := ((x.2.1.getD (fndK x o.2.2.1).toNat default).2)) (n := o.2.2.2.2) (v := (getF ((x.2.1.getD (fndK x o.2.2.1).toNat default).2) o.2.2.2.2).1 + 1) (by omega))
       iterate 11 refine z ?_
       refine yQ rfl (fun c8 => ?_) fun c8 => ?_
       ·skip
        iterate 8 refine z ?_
        refine fin3 (res_cell hT rfl rfl rfl rfl) (res_tmp rfl) (res_tmp rfl) rfl rfl rfl ?_
        rw [opI_6a d1 d2 d3 d4 d5 hrq c8]
        rfl
       ·skip
        exact absurd c8 (same_no hal d5 hrq)
      ·skip
       have d7 := of_decide_eq_false c7
       have hb9 : isRec [] = true := rfl
       have hgb := getF_bd (n := o.2.2.2.2) hb9
       have hrl := rec6 hb9
       have hrq := rec_no d7
       iterate 6 refine z ?_
       refine o_call rfl rfl rfl Tryz.call81 (ok_impl_GetField (x := ([] : RecT)) (n := o.2.2.2.2)) (as_cons (ev_tmp rfl) (ag_agg (ag_cons (ac_nil' rfl rfl) ag_nil)) (as_cons (ev_tmp rfl) (ag_one ac_dv) as_nil)) rfl rfl ?_
       iterate 12 refine z ?_
       refine o_callK 499 rfl rfl rfl Tryz.call82 (ok_impl_SetField (r := ([] : RecT)) (n := o.2.2.2.2) (v := (getF ([] : RecT) o.2.2.2.2).1 + 1) (by omega)) (as_cons (ev_tmp rfl) (ag_agg (ag_cons (ac_nil' rfl rfl) ag_nil)) (as_cons (ev_tmp rfl) (ag_one ac_dv) (as_cons (ev_tmp rfl) (ag_one ac_dv) as_nil))) rfl rfl rfl ?_
       iterate 11 refine z ?_
       refine yQ rfl (fun c9 => ?_) fun c9 => ?_
       ·skip
        iterate 8 refine z ?_
        refine fin3 (res_cell hT rfl rfl rfl rfl) (res_tmp rfl) (res_tmp rfl) rfl rfl rfl ?_
        rw [opI_6a d1 d2 d3 d4 d5 hrq c9]
        rfl
       ·skip
        exact absurd c9 (same_no hal d5 hrq)
theorem ok_impl_opOnFr {x : StoreT} {o : OpT} (hs : isSto x = true) (ho : isOpB o = true) (hal : same x o = false) : KFn Tryz.prog 47 [.agg [(.dv [] (.str (x.1))), (.dv [] (itemsD (x.2.1))), (.dv [] (.int .i64 (x.2.2)))], .agg [(.dv [] (.int .i64 (o.1))), (.dv [] (.str (o.2.1))), (.dv [] (.int .i64 (o.2.2.1.1))), (.dv [] (.int .i64 (o.2.2.1.2.1))), (.dv [] (.str (o.2.2.1.2.2))), (.dv [] (fieldsD (o.2.2.2.1))), (.dv [] (.str (o.2.2.2.2)))]] (.tup [(true, [(.dv [] (.str ((opI x o).1.1))), (.key 9001), (.dv [] (.int .i64 ((opI x o).1.2.2)))]), (false, [(.dv [] (.int .i64 ((opI x o).2.1)))]), (false, [(.dv [] (.bool ((opI x o).2.2)))])]) [(9001, some (kcOf false (itemsD ((opI x o).1.2.1))))] := by
 refine ⟨fn_intro Tryz.func47 rfl Tryz.ntmps47 Tryz.results47 rfl (fun C => ?_)⟩
 have hsw := sto_w hs
 have hor := op_rec ho
 refine yF 0 0 rfl rfl fun f0_0 => ?_
 refine yF 0 1 rfl rfl fun f0_1 => ?_
 refine yF 0 2 rfl rfl fun f0_2 => ?_
 refine yF 1 0 rfl rfl fun f1_0 => ?_
 refine yF 1 1 rfl rfl fun f1_1 => ?_
 refine yF 1 2 rfl rfl fun f1_2 => ?_
 refine yF 1 3 rfl rfl fun f1_3 => ?_
 refine yF 1 4 rfl rfl fun f1_4 => ?_
 refine yF 1 5 rfl rfl fun f1_5 => ?_
 refine yF 1 6 rfl rfl fun f1_6 => ?_
 iterate 11 refine z ?_
 refine zC Tryz.call77 ?_ (hf := ok_impl_FindItem (x := x) (k := o.2.2.1) )
 iterate 12 refine z ?_
 refine yQ rfl (fun c1 => ?_) fun c1 => ?_
 ·skip
  have d1 := of_decide_eq_true c1
  iterate 6 refine z ?_
  refine zK 0 Tryz.call78 ?_ (hf := ok_impl_PutItem (x := x) (k := o.2.2.1) (r := o.2.2.2.1) (by omega) (by omega))
  iterate 14 refine z ?_
  rw [opI_1 d1]
  refine ok_weak (σ' := ⟨[(4, .box 4 0), (5, .one (.dv [] (.int .i64 (1)))), (6, .one (.dv [] (.bool ((putN (x) (o.2.2.1) (o.2.2.2.1)).2))))], [(4, 60, [(.dv [] (.str ((putN (x) (o.2.2.1) (o.2.2.2.1)).1.1))), (.key 9001), (.dv [] (.int .i64 ((putN (x) (o.2.2.1) (o.2.2.2.1)).1.2.2)))])], [(9001, some (kcOf false (itemsD ((putN x o.2.2.1 o.2.2.2.1).1.2.1))))]⟩) (weak_sub ⟨rfl, rfl, rfl, trivial⟩ ⟨rfl, trivial⟩ ⟨rfl, trivial⟩ rfl) ?_
  iterate 3 refine z ?_
  refine fin3 (res_cell hT rfl rfl rfl rfl) (res_tmp rfl) (res_tmp rfl) rfl rfl rfl ?_
  first | exact ⟨rfl, rfl⟩ | skip
 ·skip
  have d1 := of_decide_eq_false c1
  iterate 4 refine z ?_
  refine yQ rfl (fun c2 => ?_) fun c2 => ?_
  ·skip
   have d2 := of_decide_eq_true c2
   iterate 6 refine z ?_
   refine zK 0 Tryz.call79 ?_ (hf := ok_impl_AddItem (x := x) (k := o.2.2.1) (r := o.2.2.2.1) (by omega) (by omega))
   iterate 14 refine z ?_
   rw [opI_2 d2]
   refine ok_weak (σ' := ⟨[(4, .box 4 0), (5, .one (.dv [] (.int .i64 (1)))), (6, .one (.dv [] (.bool ((addN (x) (o.2.2.1) (o.2.2.2.1)).2))))], [(4, 60, [(.dv [] (.str ((addN (x) (o.2.2.1) (o.2.2.2.1)).1.1))), (.key 9001), (.dv [] (.int .i64 ((addN (x) (o.2.2.1) (o.2.2.2.1)).1.2.2)))])], [(9001, some (kcOf false (itemsD ((addN x o.2.2.1 o.2.2.2.1).1.2.1))))]⟩) (weak_sub ⟨rfl, rfl, rfl, trivial⟩ ⟨rfl, trivial⟩ ⟨rfl, trivial⟩ rfl) ?_
   iterate 3 refine z ?_
   refine fin3 (res_cell hT rfl rfl rfl rfl) (res_tmp rfl) (res_tmp rfl) rfl rfl rfl ?_
   first | exact ⟨rfl, rfl⟩ | skip
  ·skip
   have d2 := of_decide_eq_false c2
   iterate 4 refine z ?_
   refine yQ rfl (fun c3 => ?_) fun c3 => ?_
   ·skip
    have d3 := of_decide_eq_true c3
    iterate 6 refine z ?_
    refine yO rfl rfl (pu_build hT hB rfl rfl rfl (bp_cons ev_bool rfl rfl rfl rfl rfl (bp_cons ev_bool rfl rfl rfl rfl rfl (bp_cons (ev_tmp rfl) rfl rfl rfl rfl rfl (bp_cons (ev_tmp rfl) rfl rfl rfl rfl rfl bp_nil))))) rfl ?_
    refine zK 0 Tryz.call80 ?_ (hf := ok_impl_DeleteItems (x := x) (r := rgK o.2.2.1) (by omega))
    iterate 14 refine z ?_
    rw [opI_3 d3]
    refine ok_weak (σ' := ⟨[(4, .box 4 0), (5, .one (.dv [] (.int .i64 ((delS (x) (rgK o.2.2.1)).2)))), (6, .one (.dv [] (.bool (true))))], [(4, 60, [(.dv [] (.str ((delS (x) (rgK o.2.2.1)).1.1))), (.key 9001), (.dv [] (.int .i64 ((delS (x) (rgK o.2.2.1)).1.2.2)))])], [(9001, some (kcOf false (itemsD ((delS x (rgK o.2.2.1)).1.2.1))))]⟩) (weak_sub ⟨rfl, rfl, rfl, trivial⟩ ⟨rfl, trivial⟩ ⟨rfl, trivial⟩ rfl) ?_
    iterate 3 refine z ?_
    refine fin3 (res_cell hT rfl rfl rfl rfl) (res_tmp rfl) (res_tmp rfl) rfl rfl rfl ?_
    first | exact ⟨rfl, rfl⟩ | skip
   ·skip
    have d3 := of_decide_eq_false c3
    iterate 4 refine z ?_
    refine yQ rfl (fun c4 => ?_) fun c4 => ?_
    ·skip
     have d4 := of_decide_eq_true c4
     iterate 2 refine z ?_
     refine yO rfl rfl (pu_build hT hB rfl rfl rfl bp_nil) rfl ?_
     refine zK 0 Tryz.call80 ?_ (hf := ok_impl_DeleteItems (x := x) (r := rg0) (by omega))
     iterate 14 refine z ?_
     rw [opI_5 d4]
     refine ok_weak (σ' := ⟨[(4, .box 4 0), (5, .one (.dv [] (.int .i64 ((delS (x) (rg0)).2)))), (6, .one (.dv [] (.bool (true))))], [(4, 60, [(.dv [] (.str ((delS (x) (rg0)).1.1))), (.key 9001), (.dv [] (.int .i64 ((delS (x) (rg0)).1.2.2)))])], [(9001, some (kcOf false (itemsD ((delS x rg0).1.2.1))))]⟩) (weak_sub ⟨rfl, rfl, rfl, trivial⟩ ⟨rfl, trivial⟩ ⟨rfl, trivial⟩ rfl) ?_
     iterate 3 refine z ?_
     refine fin3 (res_cell hT rfl rfl rfl rfl) (res_tmp rfl) (res_tmp rfl) rfl rfl rfl ?_
     first | exact ⟨rfl, rfl⟩ | skip
    ·skip
     have d4 := of_decide_eq_false c4
     iterate 4 refine z ?_
     refine yQ rfl (fun c5 => ?_) fun c5 => ?_
     ·skip
      have d5 := of_decide_eq_true c5
      exact absurd d5 (diff_4 hal)
     ·skip
      have d5 := of_decide_eq_false c5
      iterate 4 refine z ?_
      refine yO rfl rfl (pu_build hT hB rfl rfl rfl bp_nil) rfl ?_
      iterate 8 refine z ?_
      refine yQ rfl (fun c6 => ?_) fun c6 => ?_
      ·skip
       have d6 := of_decide_eq_true c6
       have hb9 := sto_recAt hs d6
       have hgb := getF_bd (n := o.2.2.2.2) hb9
       have hrl := rec6 hb9
       have hrq := rec_yes d6
       have hlt9 := fndK_lt d6
       have hsl := setF_len ((x.2.1.getD (fndK x o.2.2.1).toNat default).2) o.2.2.2.2 ((getF ((x.2.1.getD (fndK x o.2.2.1).toNat default).2) o.2.2.2.2).1 + 1)
       refine ok_region ?_
       iterate 12 refine z ?_
       refine zC Tryz.call81 ?_ (hf := ok_impl_GetField (x := ((x.2.1.getD (fndK x o.2.2.1).toNat default).2)) (n := o.2.2.2.2))
       iterate 12 refine z ?_
       refine zK 499 Tryz.call82 ?_ (hf := ok_impl_SetField (r := ((x.2.1.getD (fndK x o.2.2.1).toNat default).2)) (n := o.2.2.2.2) (v := (getF ((x.2.1.getD (fndK x o.2.2.1).toNat default).2) o.2.2.2.2).1 + 1) (by omega))
       iterate 11 refine z ?_
       refine yQ rfl (fun c7 => ?_) fun c7 => ?_
       ·skip
        exact absurd c7 (diff_no hal d1 d2 d3 d4 hrq)
       ·skip
        iterate 7 refine z ?_
        refine o_callK 0 rfl rfl rfl Tryz.call78 (ok_impl_PutItem (x := x) (k := o.2.2.1) (r := (setF ((x.2.1.getD (fndK x o.2.2.1).toNat default).2) o.2.2.2.2 ((getF ((x.2.1.getD (fndK x o.2.2.1).toNat default).2) o.2.2.2.2).1 + 1)).1) (by omega) (by omega)) (as_cons (ev_tmp rfl) (ag_agg (ag_cons ac_dv (ag_cons ac_dv (ag_cons ac_dv ag_nil)))) (as_cons (ev_tmp rfl) (ag_agg (ag_cons ac_dv (ag_cons ac_dv (ag_cons ac_dv ag_nil)))) (as_cons (ev_tmp rfl) (ag_agg (ag_cons (ac_key' rfl rfl) ag_nil)) as_nil))) rfl rfl rfl ?_
        iterate 16 refine z ?_
        rw [opI_6b d1 d2 d3 d4 d5 hrq c7]
        refine ok_weak (σ' := ⟨[(4, .box 4 0), (5, .one (.dv [] (.int .i64 (((getF ((((x.2.1)).getD (fndK (x) (o.2.2.1)).toNat default).2) (o.2.2.2.2)).1) + (1))))), (6, .one (.dv [] (.bool ((putN (x) (o.2.2.1) ((setF ((((x.2.1)).getD (fndK (x) (o.2.2.1)).toNat default).2) (o.2.2.2.2) (((getF ((((x.2.1)).getD (fndK (x) (o.2.2.1)).toNat default).2) (o.2.2.2.2)).1) + (1))).1)).2))))], [(4, 60, [(.dv [] (.str ((putN (x) (o.2.2.1) ((setF ((((x.2.1)).getD (fndK (x) (o.2.2.1)).toNat default).2) (o.2.2.2.2) (((getF ((((x.2.1)).getD (fndK (x) (o.2.2.1)).toNat default).2) (o.2.2.2.2)).1) + (1))).1)).1.1))), (.key 9001), (.dv [] (.int .i64 ((putN (x) (o.2.2.1) ((setF ((((x.2.1)).getD (fndK (x) (o.2.2.1)).toNat default).2) (o.2.2.2.2) (((getF ((((x.2.1)).getD (fndK (x) (o.2.2.1)).toNat default).2) (o.2.2.2.2)).1) + (1))).1)).1.2.2)))])], [(9001, some (kcOf false (itemsD ((putN x o.2.2.1 (setF ((x.2.1.getD (fndK x o.2.2.1).toNat default).2) o.2.2.2.2 ((getF ((x.2.1.getD (fndK x o.2.2.1).toNat default).2) o.2.2.2.2).1 + 1)).1).1.2.1))))]⟩) (weak_sub ⟨rfl, rfl, rfl, trivial⟩ ⟨rfl, trivial⟩ ⟨rfl, trivial⟩ rfl) ?_
        refine z ?_
        refine fin3 (res_cell hT rfl rfl rfl rfl) (res_tmp rfl) (res_tmp rfl) rfl rfl rfl ?_
        first | exact ⟨rfl, rfl⟩ | skip
      ·skip
       have d6 := of_decide_eq_false c6
       have hb9 : isRec [] = true := rfl
       have hgb := getF_bd (n := o.2.2.2.2) hb9
       have hrl := rec6 hb9
       have hrq := rec_no d6
       have hsl := setF_len ([] : RecT) o.2.2.2.2 ((getF ([] : RecT) o.2.2.2.2).1 + 1)
       iterate 6 refine z ?_
       refine o_call rfl rfl rfl Tryz.call81 (ok_impl_GetField (x := ([] : RecT)) (n := o.2.2.2.2)) (as_cons (ev_tmp rfl) (ag_agg (ag_cons (ac_nil' rfl rfl) ag_nil)) (as_cons (ev_tmp rfl) (ag_one ac_dv) as_nil)) rfl rfl ?_
       iterate 12 refine z ?_
       refine o_callK 499 rfl rfl rfl Tryz.call82 (ok_impl_SetField (r := ([] : RecT)) (n := o.2.2.2.2) (v := (getF ([] : RecT) o.2.2.2.2).1 + 1) (by omega)) (as_cons (ev_tmp rfl) (ag_agg (ag_cons (ac_nil' rfl rfl) ag_nil)) (as_cons (ev_tmp rfl) (ag_one ac_dv) (as_cons (ev_tmp rfl) (ag_one ac_dv) as_nil))) rfl rfl rfl ?_
       iterate 11 refine z ?_
       refine yQ rfl (fun c8 => ?_) fun c8 => ?_
       ·skip
        exact absurd c8 (diff_no hal d1 d2 d3 d4 hrq)
       ·skip
        iterate 7 refine z ?_
        refine o_callK 0 rfl rfl rfl Tryz.call78 (ok_impl_PutItem (x := x) (k := o.2.2.1) (r := (setF ([] : RecT) o.2.2.2.2 ((getF ([] : RecT) o.2.2.2.2).1 + 1)).1) (by omega) (by omega)) (as_cons (ev_tmp rfl) (ag_agg (ag_cons ac_dv (ag_cons ac_dv (ag_cons ac_dv ag_nil)))) (as_cons (ev_tmp rfl) (ag_agg (ag_cons ac_dv (ag_cons ac_dv (ag_cons ac_dv ag_nil)))) (as_cons (ev_tmp rfl) (ag_agg (ag_cons (ac_key' rfl rfl) ag_nil)) as_nil))) rfl rfl rfl ?_
        iterate 16 refine z ?_
        rw [opI_6b d1 d2 d3 d4 d5 hrq c8]
        refine ok_weak (σ' := ⟨[(4, .box 4 0), (5, .one (.dv [] (.int .i64 (((getF ([]) (o.2.2.2.2)).1) + (1))))), (6, .one (.dv [] (.bool ((putN (x) (o.2.2.1) ((setF ([]) (o.2.2.2.2) (((getF ([]) (o.2.2.2.2)).1) + (1))).1)).2))))], [(4, 60, [(.dv [] (.str ((putN (x) (o.2.2.1) ((setF ([]) (o.2.2.2.2) (((getF ([]) (o.2.2.2.2)).1) + (1))).1)).1.1))), (.key 9001), (.dv [] (.int .i64 ((putN (x) (o.2.2.1) ((setF ([]) (o.2.2.2.2) (((getF ([]) (o.2.2.2.2)).1) + (1))).1)).1.2.2)))])], [(9001, some (kcOf false (itemsD ((putN x o.2.2.1 (setF ([] : RecT) o.2.2.2.2 ((getF ([] : RecT) o.2.2.2.2).1 + 1)).1).1.2.1))))]⟩) (weak_sub ⟨rfl, rfl, rfl, trivial⟩ ⟨rfl, trivial⟩ ⟨rfl, trivial⟩ rfl) ?_
        refine z ?_
        refine fin3 (res_cell hT rfl rfl rfl rfl) (res_tmp rfl) (res_tmp rfl) rfl rfl rfl ?_
        first | exact ⟨rfl, rfl⟩ | skip
section
variable {x : StoreT} {o : OpT}
end

end Go.Proofs.YtjkpoekgnmgofaaGreat

namespace Go.Proofs.YtjkpoekgnmgofaaGreat
open Go.RowKit
open Go.Proofs
set_option linter.unusedVariables false
set_option linter.unusedSimpArgs false

theorem el_le {α : Type} {enc : α → List DV} {sz : Nat} {xs : List α} {i : Nat} (hs : ∀ y, (enc y).length = sz) (hi : i < xs.length) : i * sz + sz ≤ (xs.flatMap enc).length := by
 rw [fl_len hs]
 have : (i + 1) * sz ≤ xs.length * sz := Nat.mul_le_mul_right _ hi
 rw [Nat.add_mul, Nat.one_mul] at this
 exact this
section
variable {α : Type} {enc : α → List DV} {sz : Nat} {xs : List α} {i : Nat} [Inhabited α]
theorem el_sub (hs : ∀ y, (enc y).length = sz) (hi : i < xs.length) : sub (i * sz) sz (xs.flatMap enc) = enc (xs.getD i default) := by
 obtain ⟨_, h2⟩ := take_flat hs i xs
 have e : xs.drop i = xs.getD i default :: xs.drop (i + 1) := by rw [List.drop_eq_getElem_cons hi]; simp [List.getD, List.getElem?_eq_getElem hi]
 rw [sub, h2, e, List.flatMap_cons, List.take_left' (hs _)]
theorem el_set (hs : ∀ y, (enc y).length = sz) (hi : i < xs.length) (y : α) : setR (i * sz) (enc y) (xs.flatMap enc) = (xs.set i y).flatMap enc := by
 have e : xs.flatMap enc = (xs.take i).flatMap enc ++ (enc (xs.getD i default) ++ (xs.drop (i + 1)).flatMap enc) := by
  have e : xs.drop i = xs.getD i default :: xs.drop (i + 1) := by rw [List.drop_eq_getElem_cons hi]; simp [List.getD, List.getElem?_eq_getElem hi]
  rw [← List.flatMap_cons, ← e, ← List.flatMap_append, List.take_append_drop]
 rw [e, setR_mid3 (by rw [fl_len hs, List.length_take]; congr 1; omega) (by rw [hs, hs]), List.set_eq_take_append_cons_drop, if_pos hi, List.flatMap_append, List.flatMap_cons]
end
def putS (d : DbT) (i : Nat) (s : StoreT) : DbT := (d.1, d.2.1, d.2.2.1.set i s, d.2.2.2)
def stOf (d : DbT) (o : OpT) : StoreT := d.2.2.1.getD (fndS d o.2.1).toNat default
def runOp (d : DbT) (o : OpT) : DbT × Int × Bool :=
 if ((!isDb d || !isOpB o) || decide (fndS d o.2.1 < 0)) = true then (d, 0, false)
 else if (!(opM (stOf d o) o).2.2 || !isDb (putS d (fndS d o.2.1).toNat (opM (stOf d o) o).1)) = true then (d, 0, false)
 else (putS d (fndS d o.2.1).toNat (opM (stOf d o) o).1, (opM (stOf d o) o).2.1, true)
theorem runG {d : DbT} {o : OpT} (h : ((!isDb d || !isOpB o) || decide (fndS d o.2.1 < 0)) = false) : isDb d = true ∧ isOpB o = true ∧ 0 ≤ fndS d o.2.1 := by
 simp only [Bool.or_eq_false_iff, Bool.not_eq_false', decide_eq_false_iff_not] at h
 exact ⟨h.1.1, h.1.2, by omega⟩
theorem isDb_st1 {d : DbT} (h : isDb d = true) : dbSt d = true := by
 rw [isDb] at h
 simp only [Bool.and_eq_true] at h
 exact h.2.1
theorem runOp_bad {d : DbT} {o : OpT} (h : ((!isDb d || !isOpB o) || decide (fndS d o.2.1 < 0)) = true) : runOp d o = (d, 0, false) := by rw [runOp, if_pos h]
theorem runOp_no {d : DbT} {o : OpT} {r : StoreT × Int × Bool} (h : ((!isDb d || !isOpB o) || decide (fndS d o.2.1 < 0)) = false) (hr : r = opM (stOf d o) o ∨ (r.2.2 = false ∧ (opM (stOf d o) o).2.2 = false)) (h2 : (!r.2.2 || !isDb (putS d (fndS d o.2.1).toNat r.1)) = true) : runOp d o = (d, 0, false) := by
 rw [runOp, if_neg (by rw [h]; simp)]
 rcases hr with rfl | ⟨_, hr⟩
 ·rw [if_pos h2]
 ·rw [if_pos (by rw [hr]; rfl)]
theorem runOp_yes {d : DbT} {o : OpT} {r : StoreT × Int × Bool} (h : ((!isDb d || !isOpB o) || decide (fndS d o.2.1 < 0)) = false) (hr : r = opM (stOf d o) o ∨ (r.2.2 = false ∧ (opM (stOf d o) o).2.2 = false)) (h2 : (!r.2.2 || !isDb (putS d (fndS d o.2.1).toNat r.1)) = false) : runOp d o = (putS d (fndS d o.2.1).toNat r.1, r.2.1, true) := by
 rw [runOp, if_neg (by rw [h]; simp)]
 rcases hr with rfl | ⟨hr, _⟩
 ·rw [if_neg (by rw [h2]; simp)]
 ·rw [hr] at h2; cases h2
theorem same_1 {x : StoreT} {o : OpT} (h : same x o = true) : (opI x o).1 = x := by
 by_cases h4 : o.1 = 4
 ·unfold opI
  rw [if_neg (by omega), if_neg (by omega), if_neg (by omega), if_neg (by omega), if_pos h4]
 ·have h1 : ¬ o.1 = 1 := fun e => same_123 h (by omega)
  have h2 : ¬ o.1 = 2 := fun e => same_123 h (by omega)
  have h3 : ¬ o.1 = 3 := fun e => same_123 h (by omega)
  have h5 : ¬ o.1 = 5 := fun e => same_123 h (by omega)
  unfold opI
  rw [if_neg h1, if_neg h2, if_neg h3, if_neg h5, if_neg h4, if_pos]
  have := same_no h h4 rfl
  unfold incRec
  simpa using this
theorem putS_self {d : DbT} {i : Nat} (hi : i < d.2.2.1.length) : putS d i (d.2.2.1.getD i default) = d := by
 have : d.2.2.1.set i (d.2.2.1.getD i default) = d.2.2.1 := by
  apply List.ext_getElem?
  intro j
  rw [List.getElem?_set]
  by_cases h : i = j
  ·subst h; simp [hi, List.getD]
  ·simp [h]
 unfold putS
 rw [this]

theorem ok_impl_RunOpId {d : DbT} {o : OpT} (hb : wDatabase d ≤ 1099511627776) (hal : same (d.2.2.1.getD (findI (hasName o.2.1) d.2.2.1 0).toNat default) o = true) : KFn Tryz.prog 26 [.agg [(.dv [] (.str (d.1))), (.dv [] (.int .i64 (d.2.1))), (.dv [] (storesD (d.2.2.1))), (.dv [] (defsD (d.2.2.2)))], .agg [(.dv [] (.int .i64 (o.1))), (.dv [] (.str (o.2.1))), (.dv [] (.int .i64 (o.2.2.1.1))), (.dv [] (.int .i64 (o.2.2.1.2.1))), (.dv [] (.str (o.2.2.1.2.2))), (.dv [] (fieldsD (o.2.2.2.1))), (.dv [] (.str (o.2.2.2.2)))]] (.tup [(true, [(.dv [] (.str ((runOp d o).1.1))), (.dv [] (.int .i64 ((runOp d o).1.2.1))), (.key 90031), (.key 90900)]), (false, [(.dv [] (.int .i64 ((runOp d o).2.1)))]), (false, [(.dv [] (.bool ((runOp d o).2.2)))])]) [(90031, some (kcOf false (storesD ((runOp d o).1.2.2.1)))), (90900, some (kcOf false (defsD ((runOp d o).1.2.2.2))))] := by
 refine ⟨fn_intro Tryz.func26 rfl Tryz.ntmps26 Tryz.results26 rfl (fun C => ?_)⟩
 refine yF 0 0 rfl rfl fun f0_0 => ?_
 refine yF 0 1 rfl rfl fun f0_1 => ?_
 refine yF 0 2 rfl rfl fun f0_2 => ?_
 refine yF 0 3 rfl rfl fun f0_3 => ?_
 refine yF 1 0 rfl rfl fun f1_0 => ?_
 refine yF 1 1 rfl rfl fun f1_1 => ?_
 refine yF 1 2 rfl rfl fun f1_2 => ?_
 refine yF 1 3 rfl rfl fun f1_3 => ?_
 refine yF 1 4 rfl rfl fun f1_4 => ?_
 refine yF 1 5 rfl rfl fun f1_5 => ?_
 refine yF 1 6 rfl rfl fun f1_6 => ?_
 iterate 9 refine z ?_
 refine zK 90000 Tryz.call24 ?_ (hf := ok_impl_copyDatabase (x := d) (by omega))
 iterate 7 refine z ?_
 refine zC Tryz.call21 ?_ (hf := ok_impl_FindStore (x := d) (n := o.2.1) )
 iterate 5 refine z ?_
 refine zC Tryz.call30 ?_ (hf := ok_impl_IsDatabase (x := d) )
 iterate 3 refine z ?_
 refine o_callG (gd_bool rfl rfl rfl rfl rfl) rfl rfl Tryz.call46 (ok_impl_IsOp (x := o) ) (fun hg => (as_cons (ev_opt rfl hg) (ag_agg (ag_cons ac_dv (ag_cons ac_dv (ag_cons ac_dv (ag_cons ac_dv (ag_cons ac_dv (ag_cons ac_dv (ag_cons ac_dv ag_nil)))))))) as_nil)) rfl rfl ?_
 iterate 7 refine z ?_
 refine yQ rfl (fun c1 => ?_) fun c1 => ?_
 ·skip
  iterate 6 refine z ?_
  rw [runOp_bad c1]
  refine ok_weak (σ' := ⟨[(4, .box 4 0), (5, .one (.dv [] (.int .i64 (0)))), (6, .one (.dv [] (.bool (false))))], [(4, 27, [(.dv [] (.str ((d).1))), (.dv [] (.int .i64 ((d).2.1))), (.key 90031), (.key 90900)])], [(90031, some (kcOf false (storesD (d.2.2.1)))), (90900, some (kcOf false (defsD (d.2.2.2))))]⟩) (weak_sub ⟨rfl, rfl, rfl, trivial⟩ ⟨rfl, trivial⟩ ⟨rfl, rfl, trivial⟩ rfl) ?_
  iterate 2 refine z ?_
  refine fin3 (res_cell hT rfl rfl rfl rfl) (res_tmp rfl) (res_tmp rfl) rfl rfl rfl ?_
  first | exact ⟨rfl, rfl⟩ | skip
 ·skip
  have hg := runG c1
  have hlt : findI (hasName o.2.1) d.2.2.1 0 < d.2.2.1.length := fndS_lt d o.2.1
  have h0k : 0 ≤ findI (hasName o.2.1) d.2.2.1 0 := hg.2.2
  have hsx := db_sto (isDb_st1 hg.1) h0k hlt
  have hkn : (findI (hasName o.2.1) d.2.2.1 0).toNat < d.2.2.1.length := by omega
  have hps := putS_self hkn
  have hs1 := same_1 hal
  iterate 2 refine z ?_
  refine ok_cutS (σ' := ⟨[(2, .box 2 0), (3, .box 3 0), (4, .box 4 0), (5, .one (.dv [] (.int .i64 (0)))), (6, .one (.dv [] (.bool (false)))), (7, .box 7 0), (8, .one (.dv [] (.int .i64 (findI (hasName (o.2.1)) (d).2.2.1 0)))), (9, .box 9 0), (10, .one (.dv [] (.int .i64 ((opI ((d.2.2.1.getD (findI (hasName o.2.1) d.2.2.1 0).toNat default)) (o)).2.1)))), (11, .one (.dv [] (.bool ((opI ((d.2.2.1.getD (findI (hasName o.2.1) d.2.2.1 0).toNat default)) (o)).2.2))))], [(2, 27, [(.dv [] (.str (d.1))), (.dv [] (.int .i64 (d.2.1))), (.dv [] (storesD (d.2.2.1))), (.dv [] (defsD (d.2.2.2)))]), (3, 68, [(.dv [] (.int .i64 (o.1))), (.dv [] (.str (o.2.1))), (.dv [] (.int .i64 (o.2.2.1.1))), (.dv [] (.int .i64 (o.2.2.1.2.1))), (.dv [] (.str (o.2.2.1.2.2))), (.dv [] (fieldsD (o.2.2.2.1))), (.dv [] (.str (o.2.2.2.2)))]), (4, 27, [(.dv [] (.str (ByteArray.empty))), (.dv [] (.int .i64 (0))), .nil, .nil]), (7, 27, [(.dv [] (.str ((d).1))), (.dv [] (.int .i64 ((d).2.1))), (.key 90031), (.key 90900)]), (9, 60, [(.dv [] (.str (((d.2.2.1.getD (findI (hasName o.2.1) d.2.2.1 0).toNat default)).1))), (.nest 90031 (((findI (hasName (o.2.1)) (d).2.2.1 0).toNat * 3 + 1)) (itemsD ((d.2.2.1.getD (findI (hasName o.2.1) d.2.2.1 0).toNat default).2.1))), (.dv [] (.int .i64 (((d.2.2.1.getD (findI (hasName o.2.1) d.2.2.1 0).toNat default)).2.2)))])], [(90031, some (kcOf false (storesD ((d).2.2.1)))), (90900, some (kcOf false (defsD ((d).2.2.2))))]⟩) ?_ ?_
  ·skip
   refine ok_regionD (oB := [2, 3, 4, 7]) (oK := [90031, 90900]) (by kernel_rfl) rfl rfl ?_
   refine zD 0 ?_
   refine zD 1 ?_
   refine zD 2 ?_
   refine d_take 3 rfl (by kernel_rfl) rfl rfl (pu_indexK (i := (findI (hasName (o.2.1)) (d).2.2.1 0).toNat) hT rfl rfl rfl (ev_tmp rfl) rfl (ev_tmp rfl) (by omega) (by show _ < (((d).2.2.1)).length; omega)) rfl rfl rfl rfl ?_
   refine d_take 4 rfl (by kernel_rfl) rfl rfl (pu_loadEA (ds := [.str ((d.2.2.1.getD (findI (hasName o.2.1) d.2.2.1 0).toNat default).1), itemsD ((d.2.2.1.getD (findI (hasName o.2.1) d.2.2.1 0).toNat default).2.1), .int .i64 ((d.2.2.1.getD (findI (hasName o.2.1) d.2.2.1 0).toNat default).2.2)]) hT rfl rfl (ev_tmp rfl) rfl rfl (by decide) (el_sub (enc := eStore) (sz := 3) (fun _ => rfl) hkn)) rfl rfl rfl rfl ?_
   refine zD 5 ?_
   refine d_vars (A := [(11, 9, 60, _)]) hT ⟨⟨_, _, rfl⟩, rfl, trivial⟩ ?_
   refine a_callI 6 rfl (by kernel_rfl) rfl rfl rfl (vok hT ⟨⟨_, _, rfl⟩, rfl, trivial⟩ (by kernel_rfl) (by kernel_rfl)) (vok hT ⟨⟨_, _, rfl⟩, rfl, trivial⟩ (by kernel_rfl) (by kernel_rfl)) rfl rfl Tryz.call47 (ok_impl_opOnId (x := (d.2.2.1.getD (findI (hasName o.2.1) d.2.2.1 0).toNat default)) (o := o) hsx hg.2.1 hal) (ev_tmp rfl) ac_dv ac_nest ac_dv (as_cons (ev_tmp rfl) (ag_agg (ag_cons ac_dv (ag_cons ac_dv (ag_cons ac_dv (ag_cons ac_dv (ag_cons ac_dv (ag_cons ac_dv (ag_cons ac_dv ag_nil)))))))) as_nil) rfl rfl rfl rfl rfl rfl rfl ?_
   refine a_take 7 rfl (by kernel_rfl) rfl rfl rfl (vok hT ⟨⟨_, _, rfl⟩, rfl, trivial⟩ (by kernel_rfl) (by kernel_rfl)) (vok hT ⟨⟨_, _, rfl⟩, rfl, trivial⟩ (by kernel_rfl) (by kernel_rfl)) (pu_move (.inl rfl) (ev_tmp rfl)) rfl rfl rfl rfl ?_
   refine a_takeX 8 rfl (by kernel_rfl) rfl rfl rfl rfl (vok hT ⟨⟨_, _, rfl⟩, rfl, trivial⟩ (by kernel_rfl) (by kernel_rfl)) (vok hT ⟨⟨_, _, rfl⟩, rfl, trivial⟩ (by kernel_rfl) (by kernel_rfl)) (pu_extractA rfl (ev_tmp rfl) rfl) rfl rfl ?_
   refine a_takeX 9 rfl (by kernel_rfl) rfl rfl rfl rfl (vok hT ⟨⟨_, _, rfl⟩, rfl, trivial⟩ (by kernel_rfl) (by kernel_rfl)) (vok hT ⟨⟨_, _, rfl⟩, rfl, trivial⟩ (by kernel_rfl) (by kernel_rfl)) (pu_extract1 rfl (ev_tmp rfl) rfl) rfl rfl ?_
   refine a_takeX 10 rfl (by kernel_rfl) rfl rfl rfl rfl (vok hT ⟨⟨_, _, rfl⟩, rfl, trivial⟩ (by kernel_rfl) (by kernel_rfl)) (vok hT ⟨⟨_, _, rfl⟩, rfl, trivial⟩ (by kernel_rfl) (by kernel_rfl)) (pu_extract1 rfl (ev_tmp rfl) rfl) rfl rfl ?_
   refine a_exit1 (vok hT ⟨⟨_, _, rfl⟩, rfl, trivial⟩ (by kernel_rfl) (by kernel_rfl)) rfl rfl (by kernel_rfl) ?_
   dsimp only [addT, addB]
   refine d_chain [12, 13, 14] rfl rfl (by kernel_rfl) ?_
   iterate 3 refine z ?_
   refine ops_nil ?_
   exact then_n (weak_sub ⟨rfl, rfl, rfl, rfl, rfl, rfl, rfl, rfl, rfl, rfl, trivial⟩ ⟨rfl, rfl, rfl, rfl, rfl, trivial⟩ ⟨rfl, rfl, trivial⟩ rfl)
  iterate 5 refine z ?_
  refine yO rfl rfl (pu_indexK (i := (findI (hasName (o.2.1)) (d).2.2.1 0).toNat) hT rfl rfl rfl (ev_tmp rfl) rfl (ev_tmp rfl) (by omega) (by show _ < (((d).2.2.1)).length; omega)) rfl ?_
  refine o_stay (ds := [.str ((d.2.2.1.getD (findI (hasName o.2.1) d.2.2.1 0).toNat default).1), itemsD ((d.2.2.1.getD (findI (hasName o.2.1) d.2.2.1 0).toNat default).2.1), .int .i64 ((d.2.2.1.getD (findI (hasName o.2.1) d.2.2.1 0).toNat default).2.2)]) hT rfl rfl rfl rfl (ev_tmp rfl) (ev_tmp rfl) rfl rfl (el_sub (enc := eStore) (sz := 3) (fun _ => rfl) hkn) (el_le (enc := eStore) (sz := 3) (fun _ => rfl) hkn) ?_
  simp only [killT, killB, SV.kill, CV.kill, kk, Nat.reduceBEq]
  iterate 7 refine z ?_
  refine o_callG (gd_bool rfl rfl rfl rfl rfl) rfl rfl Tryz.call30 (ok_impl_IsDatabase (x := d)) (fun hg => (as_cons (ev_opt rfl hg) (ag_agg (ag_cons ac_dv (ag_cons ac_dv (ag_cons (ac_key' rfl rfl) (ag_cons (ac_key' rfl rfl) ag_nil))))) as_nil)) rfl rfl ?_
  iterate 3 refine z ?_
  refine yQ rfl (fun c2 => ?_) fun c2 => ?_
  ·skip
   refine ok_seq ?_
   refine ok_weak (σ' := ⟨[(2, .box 2 0), (4, .box 4 0), (5, .one (.dv [] (.int .i64 (0)))), (6, .one (.dv [] (.bool (false))))], [(2, 27, [(.dv [] (.str (d.1))), (.dv [] (.int .i64 (d.2.1))), (.dv [] (storesD (d.2.2.1))), (.dv [] (defsD (d.2.2.2)))]), (4, 27, [(.dv [] (.str (ByteArray.empty))), (.dv [] (.int .i64 (0))), .nil, .nil])], []⟩) (weak_sub ⟨rfl, rfl, rfl, rfl, trivial⟩ ⟨rfl, rfl, trivial⟩ trivial rfl) ?_
   refine ok_region ?_
   refine z ?_
   refine zK 90000 Tryz.call24 ?_ (hf := ok_impl_copyDatabase (x := d) (by omega))
   iterate 4 refine z ?_
   rw [runOp_no c1 (opI_opM (d.2.2.1.getD (findI (hasName o.2.1) d.2.2.1 0).toNat default) o) (by rw [hs1]; show (_ || !isDb (putS d (findI (hasName o.2.1) d.2.2.1 0).toNat (d.2.2.1.getD (findI (hasName o.2.1) d.2.2.1 0).toNat default))) = true; rw [hps]; exact c2)]
   refine ok_weak (σ' := ⟨[(4, .box 4 0), (5, .one (.dv [] (.int .i64 (0)))), (6, .one (.dv [] (.bool (false))))], [(4, 27, [(.dv [] (.str ((d).1))), (.dv [] (.int .i64 ((d).2.1))), (.key 90031), (.key 90900)])], [(90031, some (kcOf false (storesD (d.2.2.1)))), (90900, some (kcOf false (defsD (d.2.2.2))))]⟩) (weak_sub ⟨rfl, rfl, rfl, trivial⟩ ⟨rfl, trivial⟩ ⟨rfl, rfl, trivial⟩ rfl) ?_
   iterate 2 refine z ?_
   refine fin3 (res_cell hT rfl rfl rfl rfl) (res_tmp rfl) (res_tmp rfl) rfl rfl rfl ?_
   first | exact ⟨rfl, rfl⟩ | skip
  ·skip
   iterate 9 refine z ?_
   have hfin : runOp d o = (d, (opI (d.2.2.1.getD (findI (hasName o.2.1) d.2.2.1 0).toNat default) o).2.1, true) := by rw [runOp_yes c1 (opI_opM (d.2.2.1.getD (findI (hasName o.2.1) d.2.2.1 0).toNat default) o) (by rw [hs1]; show (_ || !isDb (putS d (findI (hasName o.2.1) d.2.2.1 0).toNat (d.2.2.1.getD (findI (hasName o.2.1) d.2.2.1 0).toNat default))) = false; rw [hps]; exact c2), hs1]; show (putS d (findI (hasName o.2.1) d.2.2.1 0).toNat (d.2.2.1.getD (findI (hasName o.2.1) d.2.2.1 0).toNat default), _, _) = _; rw [hps]
   rw [hfin]
   refine ok_weak (σ' := ⟨[(4, .box 4 0), (5, .one (.dv [] (.int .i64 ((opI ((d.2.2.1.getD (findI (hasName o.2.1) d.2.2.1 0).toNat default)) (o)).2.1)))), (6, .one (.dv [] (.bool (true))))], [(4, 27, [(.dv [] (.str ((d).1))), (.dv [] (.int .i64 ((d).2.1))), (.key 90031), (.key 90900)])], [(90031, some (kcOf false (storesD (d.2.2.1)))), (90900, some (kcOf false (defsD (d.2.2.2))))]⟩) (weak_sub ⟨rfl, rfl, rfl, trivial⟩ ⟨rfl, trivial⟩ ⟨rfl, rfl, trivial⟩ rfl) ?_
   refine z ?_
   refine fin3 (res_cell hT rfl rfl rfl rfl) (res_tmp rfl) (res_tmp rfl) rfl rfl rfl ?_
   first | exact ⟨rfl, rfl⟩ | skip
end Go.Proofs.YtjkpoekgnmgofaaGreat

namespace Go.Proofs.YtjkpoekgnmgofaaGreat
open Go.RowKit
open Go.Proofs
set_option linter.unusedVariables false
set_option linter.unusedSimpArgs false
theorem ok_impl_RunOpFr {d : DbT} {o : OpT} (hb : wDatabase d ≤ 1099511627776) (hal : same (d.2.2.1.getD (findI (hasName o.2.1) d.2.2.1 0).toNat default) o = false) : KFn Tryz.prog 26 [.agg [(.dv [] (.str (d.1))), (.dv [] (.int .i64 (d.2.1))), (.dv [] (storesD (d.2.2.1))), (.dv [] (defsD (d.2.2.2)))], .agg [(.dv [] (.int .i64 (o.1))), (.dv [] (.str (o.2.1))), (.dv [] (.int .i64 (o.2.2.1.1))), (.dv [] (.int .i64 (o.2.2.1.2.1))), (.dv [] (.str (o.2.2.1.2.2))), (.dv [] (fieldsD (o.2.2.2.1))), (.dv [] (.str (o.2.2.2.2)))]] (.tup [(true, [(.dv [] (.str ((runOp d o).1.1))), (.dv [] (.int .i64 ((runOp d o).1.2.1))), (.key 90031), (.key 90900)]), (false, [(.dv [] (.int .i64 ((runOp d o).2.1)))]), (false, [(.dv [] (.bool ((runOp d o).2.2)))])]) [(90031, some (kcOf false (storesD ((runOp d o).1.2.2.1)))), (90900, some (kcOf false (defsD ((runOp d o).1.2.2.2))))] := by
 refine ⟨fn_intro Tryz.func26 rfl Tryz.ntmps26 Tryz.results26 rfl (fun C => ?_)⟩
 refine yF 0 0 rfl rfl fun f0_0 => ?_
 refine yF 0 1 rfl rfl fun f0_1 => ?_
 refine yF 0 2 rfl rfl fun f0_2 => ?_
 refine yF 0 3 rfl rfl fun f0_3 => ?_
 refine yF 1 0 rfl rfl fun f1_0 => ?_
 refine yF 1 1 rfl rfl fun f1_1 => ?_
 refine yF 1 2 rfl rfl fun f1_2 => ?_
 refine yF 1 3 rfl rfl fun f1_3 => ?_
 refine yF 1 4 rfl rfl fun f1_4 => ?_
 refine yF 1 5 rfl rfl fun f1_5 => ?_
 refine yF 1 6 rfl rfl fun f1_6 => ?_
 iterate 9 refine z ?_
 refine zK 90000 Tryz.call24 ?_ (hf := ok_impl_copyDatabase (x := d) (by omega))
 iterate 7 refine z ?_
 refine zC Tryz.call21 ?_ (hf := ok_impl_FindStore (x := d) (n := o.2.1) )
 iterate 5 refine z ?_
 refine zC Tryz.call30 ?_ (hf := ok_impl_IsDatabase (x := d) )
 iterate 3 refine z ?_
 refine o_callG (gd_bool rfl rfl rfl rfl rfl) rfl rfl Tryz.call46 (ok_impl_IsOp (x := o) ) (fun hg => (as_cons (ev_opt rfl hg) (ag_agg (ag_cons ac_dv (ag_cons ac_dv (ag_cons ac_dv (ag_cons ac_dv (ag_cons ac_dv (ag_cons ac_dv (ag_cons ac_dv ag_nil)))))))) as_nil)) rfl rfl ?_
 iterate 7 refine z ?_
 refine yQ rfl (fun c1 => ?_) fun c1 => ?_
 ·skip
  iterate 6 refine z ?_
  rw [runOp_bad c1]
  refine ok_weak (σ' := ⟨[(4, .box 4 0), (5, .one (.dv [] (.int .i64 (0)))), (6, .one (.dv [] (.bool (false))))], [(4, 27, [(.dv [] (.str ((d).1))), (.dv [] (.int .i64 ((d).2.1))), (.key 90031), (.key 90900)])], [(90031, some (kcOf false (storesD (d.2.2.1)))), (90900, some (kcOf false (defsD (d.2.2.2))))]⟩) (weak_sub ⟨rfl, rfl, rfl, trivial⟩ ⟨rfl, trivial⟩ ⟨rfl, rfl, trivial⟩ rfl) ?_
  iterate 2 refine z ?_
  refine fin3 (res_cell hT rfl rfl rfl rfl) (res_tmp rfl) (res_tmp rfl) rfl rfl rfl ?_
  first | exact ⟨rfl, rfl⟩ | skip
 ·skip
  have hg := runG c1
  have hlt : findI (hasName o.2.1) d.2.2.1 0 < d.2.2.1.length := fndS_lt d o.2.1
  have h0k : 0 ≤ findI (hasName o.2.1) d.2.2.1 0 := hg.2.2
  have hsx := db_sto (isDb_st1 hg.1) h0k hlt
  have hkn : (findI (hasName o.2.1) d.2.2.1 0).toNat < d.2.2.1.length := by omega
  iterate 2 refine z ?_
  refine ok_cutS (σ' := ⟨[(2, .box 2 0), (3, .box 3 0), (4, .box 4 0), (5, .one (.dv [] (.int .i64 (0)))), (6, .one (.dv [] (.bool (false)))), (7, .box 7 0), (8, .one (.dv [] (.int .i64 (findI (hasName (o.2.1)) (d).2.2.1 0)))), (9, .box 9 0), (10, .one (.dv [] (.int .i64 ((opI ((d.2.2.1.getD (findI (hasName o.2.1) d.2.2.1 0).toNat default)) (o)).2.1)))), (11, .one (.dv [] (.bool ((opI ((d.2.2.1.getD (findI (hasName o.2.1) d.2.2.1 0).toNat default)) (o)).2.2))))], [(2, 27, [(.dv [] (.str (d.1))), (.dv [] (.int .i64 (d.2.1))), (.dv [] (storesD (d.2.2.1))), (.dv [] (defsD (d.2.2.2)))]), (3, 68, [(.dv [] (.int .i64 (o.1))), (.dv [] (.str (o.2.1))), (.dv [] (.int .i64 (o.2.2.1.1))), (.dv [] (.int .i64 (o.2.2.1.2.1))), (.dv [] (.str (o.2.2.1.2.2))), (.dv [] (fieldsD (o.2.2.2.1))), (.dv [] (.str (o.2.2.2.2)))]), (4, 27, [(.dv [] (.str (ByteArray.empty))), (.dv [] (.int .i64 (0))), .nil, .nil]), (7, 27, [(.dv [] (.str ((d).1))), (.dv [] (.int .i64 ((d).2.1))), (.key 90031), (.key 90900)]), (9, 60, [(.dv [] (.str ((opI ((d.2.2.1.getD (findI (hasName o.2.1) d.2.2.1 0).toNat default)) (o)).1.1))), (.key 90501), (.dv [] (.int .i64 ((opI ((d.2.2.1.getD (findI (hasName o.2.1) d.2.2.1 0).toNat default)) (o)).1.2.2)))])], [(90031, some (kcOf false (storesD ((d).2.2.1)))), (90501, some (kcOf false (itemsD ((opI (d.2.2.1.getD (findI (hasName o.2.1) d.2.2.1 0).toNat default) o).1.2.1)))), (90900, some (kcOf false (defsD ((d).2.2.2))))]⟩) ?_ ?_
  ·skip
   refine ok_regionD (oB := [2, 3, 4, 7]) (oK := [90031, 90900]) (by kernel_rfl) rfl rfl ?_
   refine zD 0 ?_
   refine zD 1 ?_
   refine zD 2 ?_
   refine d_take 3 rfl (by kernel_rfl) rfl rfl (pu_indexK (i := (findI (hasName (o.2.1)) (d).2.2.1 0).toNat) hT rfl rfl rfl (ev_tmp rfl) rfl (ev_tmp rfl) (by omega) (by show _ < (((d).2.2.1)).length; omega)) rfl rfl rfl rfl ?_
   refine d_take 4 rfl (by kernel_rfl) rfl rfl (pu_loadEA (ds := [.str ((d.2.2.1.getD (findI (hasName o.2.1) d.2.2.1 0).toNat default).1), itemsD ((d.2.2.1.getD (findI (hasName o.2.1) d.2.2.1 0).toNat default).2.1), .int .i64 ((d.2.2.1.getD (findI (hasName o.2.1) d.2.2.1 0).toNat default).2.2)]) hT rfl rfl (ev_tmp rfl) rfl rfl (by decide) (el_sub (enc := eStore) (sz := 3) (fun _ => rfl) hkn)) rfl rfl rfl rfl ?_
   refine zD 5 ?_
   refine d_vars (A := [(11, 9, 60, _)]) hT ⟨⟨_, _, rfl⟩, rfl, trivial⟩ ?_
   refine a_callK 81500 6 rfl (by kernel_rfl) rfl rfl rfl (vok hT ⟨⟨_, _, rfl⟩, rfl, trivial⟩ (by kernel_rfl) (by kernel_rfl)) (vok hT ⟨⟨_, _, rfl⟩, rfl, trivial⟩ (by kernel_rfl) (by kernel_rfl)) rfl Tryz.call47 (ok_impl_opOnFr (x := (d.2.2.1.getD (findI (hasName o.2.1) d.2.2.1 0).toNat default)) (o := o) hsx hg.2.1 hal) (as_cons (ev_tmp rfl) (ag_agg (ag_cons ac_dv (ag_cons ac_nest (ag_cons ac_dv ag_nil)))) (as_cons (ev_tmp rfl) (ag_agg (ag_cons ac_dv (ag_cons ac_dv (ag_cons ac_dv (ag_cons ac_dv (ag_cons ac_dv (ag_cons ac_dv (ag_cons ac_dv ag_nil)))))))) as_nil)) rfl rfl rfl rfl rfl ?_
   refine a_take 7 rfl (by kernel_rfl) rfl rfl rfl (vok hT ⟨⟨_, _, rfl⟩, rfl, trivial⟩ (by kernel_rfl) (by kernel_rfl)) (vok hT ⟨⟨_, _, rfl⟩, rfl, trivial⟩ (by kernel_rfl) (by kernel_rfl)) (pu_move (.inl rfl) (ev_tmp rfl)) rfl rfl rfl rfl ?_
   refine a_takeX 8 rfl (by kernel_rfl) rfl rfl rfl rfl (vok hT ⟨⟨_, _, rfl⟩, rfl, trivial⟩ (by kernel_rfl) (by kernel_rfl)) (vok hT ⟨⟨_, _, rfl⟩, rfl, trivial⟩ (by kernel_rfl) (by kernel_rfl)) (pu_extractA rfl (ev_tmp rfl) rfl) rfl rfl ?_
   refine a_takeX 9 rfl (by kernel_rfl) rfl rfl rfl rfl (vok hT ⟨⟨_, _, rfl⟩, rfl, trivial⟩ (by kernel_rfl) (by kernel_rfl)) (vok hT ⟨⟨_, _, rfl⟩, rfl, trivial⟩ (by kernel_rfl) (by kernel_rfl)) (pu_extract1 rfl (ev_tmp rfl) rfl) rfl rfl ?_
   refine a_takeX 10 rfl (by kernel_rfl) rfl rfl rfl rfl (vok hT ⟨⟨_, _, rfl⟩, rfl, trivial⟩ (by kernel_rfl) (by kernel_rfl)) (vok hT ⟨⟨_, _, rfl⟩, rfl, trivial⟩ (by kernel_rfl) (by kernel_rfl)) (pu_extract1 rfl (ev_tmp rfl) rfl) rfl rfl ?_
   refine a_exit1 (vok hT ⟨⟨_, _, rfl⟩, rfl, trivial⟩ (by kernel_rfl) (by kernel_rfl)) rfl rfl (by kernel_rfl) ?_
   dsimp only [addT, addB]
   refine d_chain [12, 13, 14] rfl rfl (by kernel_rfl) ?_
   iterate 3 refine z ?_
   refine ops_nil ?_
   exact then_n (weak_sub ⟨rfl, rfl, rfl, rfl, rfl, rfl, rfl, rfl, rfl, rfl, trivial⟩ ⟨rfl, rfl, rfl, rfl, rfl, trivial⟩ ⟨rfl, rfl, rfl, trivial⟩ rfl)
  iterate 5 refine z ?_
  refine yO rfl rfl (pu_indexK (i := (findI (hasName (o.2.1)) (d).2.2.1 0).toNat) hT rfl rfl rfl (ev_tmp rfl) rfl (ev_tmp rfl) (by omega) (by show _ < (((d).2.2.1)).length; omega)) rfl ?_
  refine o_storeE (js := [90501]) (cs := (d.2.2.1.set (findI (hasName o.2.1) d.2.2.1 0).toNat (opI (d.2.2.1.getD (findI (hasName o.2.1) d.2.2.1 0).toNat default) o).1).flatMap eStore) hT rfl rfl rfl rfl (ev_tmp rfl) (ev_tmp rfl) rfl rfl rfl rfl (ow_cons' (ow_dv rfl) (ow_cons' (ow_key rfl) (ow_cons' (ow_dv rfl) ow_nil rfl) rfl) rfl) (by decide) (by decide) rfl (by show _ ≤ List.length (((d).2.2.1).flatMap eStore); exact el_le (enc := eStore) (sz := 3) (fun _ => rfl) hkn) (el_set (enc := eStore) (sz := 3) (fun _ => rfl) hkn (opI (d.2.2.1.getD (findI (hasName o.2.1) d.2.2.1 0).toNat default) o).1) ?_
  simp only [killT, killB, SV.kill, CV.kill, kk, Nat.reduceBEq]
  refine z ?_
  refine ok_seq ?_
  refine ok_seq ?_
  refine ok_weak (weak_eq (k := 90031) (c' := kcOf false (storesD (d.2.2.1.set (findI (hasName o.2.1) d.2.2.1 0).toNat (opI (d.2.2.1.getD (findI (hasName o.2.1) d.2.2.1 0).toNat default) o).1))) rfl (congrArg (fun m => KC.mk false 60 3 m ((d.2.2.1.set (findI (hasName o.2.1) d.2.2.1 0).toNat (opI (d.2.2.1.getD (findI (hasName o.2.1) d.2.2.1 0).toNat default) o).1).flatMap eStore)) (List.length_set).symm) rfl) ?_
  refine ok_region ?_
  iterate 4 refine z ?_
  refine o_callG (gd_bool rfl rfl rfl rfl rfl) rfl rfl Tryz.call30 (ok_impl_IsDatabase (x := putS d (findI (hasName o.2.1) d.2.2.1 0).toNat (opI (d.2.2.1.getD (findI (hasName o.2.1) d.2.2.1 0).toNat default) o).1)) (fun hg => (as_cons (ev_opt rfl hg) (ag_agg (ag_cons ac_dv (ag_cons ac_dv (ag_cons (ac_key' rfl rfl) (ag_cons (ac_key' rfl rfl) ag_nil))))) as_nil)) rfl rfl ?_
  iterate 3 refine z ?_
  refine yQ rfl (fun c2 => ?_) fun c2 => ?_
  ·skip
   refine ok_seq ?_
   refine ok_weak (σ' := ⟨[(2, .box 2 0), (4, .box 4 0), (5, .one (.dv [] (.int .i64 (0)))), (6, .one (.dv [] (.bool (false))))], [(2, 27, [(.dv [] (.str (d.1))), (.dv [] (.int .i64 (d.2.1))), (.dv [] (storesD (d.2.2.1))), (.dv [] (defsD (d.2.2.2)))]), (4, 27, [(.dv [] (.str (ByteArray.empty))), (.dv [] (.int .i64 (0))), .nil, .nil])], []⟩) (weak_sub ⟨rfl, rfl, rfl, rfl, trivial⟩ ⟨rfl, rfl, trivial⟩ trivial rfl) ?_
   refine ok_region ?_
   refine z ?_
   refine zK 90000 Tryz.call24 ?_ (hf := ok_impl_copyDatabase (x := d) (by omega))
   iterate 4 refine z ?_
   rw [runOp_no c1 (opI_opM (d.2.2.1.getD (findI (hasName o.2.1) d.2.2.1 0).toNat default) o) c2]
   refine ok_weak (σ' := ⟨[(4, .box 4 0), (5, .one (.dv [] (.int .i64 (0)))), (6, .one (.dv [] (.bool (false))))], [(4, 27, [(.dv [] (.str ((d).1))), (.dv [] (.int .i64 ((d).2.1))), (.key 90031), (.key 90900)])], [(90031, some (kcOf false (storesD (d.2.2.1)))), (90900, some (kcOf false (defsD (d.2.2.2))))]⟩) (weak_sub ⟨rfl, rfl, rfl, trivial⟩ ⟨rfl, trivial⟩ ⟨rfl, rfl, trivial⟩ rfl) ?_
   iterate 2 refine z ?_
   refine fin3 (res_cell hT rfl rfl rfl rfl) (res_tmp rfl) (res_tmp rfl) rfl rfl rfl ?_
   first | exact ⟨rfl, rfl⟩ | skip
  ·skip
   iterate 9 refine z ?_
   rw [runOp_yes c1 (opI_opM (d.2.2.1.getD (findI (hasName o.2.1) d.2.2.1 0).toNat default) o) c2]
   refine ok_weak (σ' := ⟨[(4, .box 4 0), (5, .one (.dv [] (.int .i64 ((opI ((d.2.2.1.getD (findI (hasName o.2.1) d.2.2.1 0).toNat default)) (o)).2.1)))), (6, .one (.dv [] (.bool (true))))], [(4, 27, [(.dv [] (.str ((d).1))), (.dv [] (.int .i64 ((d).2.1))), (.key 90031), (.key 90900)])], [(90031, some (kcOf false (storesD (d.2.2.1.set (findI (hasName o.2.1) d.2.2.1 0).toNat (opI (d.2.2.1.getD (findI (hasName o.2.1) d.2.2.1 0).toNat default) o).1)))), (90900, some (kcOf false (defsD (d.2.2.2))))]⟩) (weak_sub ⟨rfl, rfl, rfl, trivial⟩ ⟨rfl, trivial⟩ ⟨rfl, rfl, trivial⟩ rfl) ?_
   refine z ?_
   refine fin3 (res_cell hT rfl rfl rfl rfl) (res_tmp rfl) (res_tmp rfl) rfl rfl rfl ?_
   first | exact ⟨rfl, rfl⟩ | skip

theorem ok_impl_RunOp {d : DbT} {o : OpT} (hb : wDatabase d ≤ 1099511627776) : KFn Tryz.prog 26 [.agg [(.dv [] (.str (d.1))), (.dv [] (.int .i64 (d.2.1))), (.dv [] (storesD (d.2.2.1))), (.dv [] (defsD (d.2.2.2)))], .agg [(.dv [] (.int .i64 (o.1))), (.dv [] (.str (o.2.1))), (.dv [] (.int .i64 (o.2.2.1.1))), (.dv [] (.int .i64 (o.2.2.1.2.1))), (.dv [] (.str (o.2.2.1.2.2))), (.dv [] (fieldsD (o.2.2.2.1))), (.dv [] (.str (o.2.2.2.2)))]] (.tup [(true, [.dv [] (.str ((runOp d o).1.1)), .dv [] (.int .i64 ((runOp d o).1.2.1)), .key 90031, .key 90900]), (false, [.dv [] (.int .i64 ((runOp d o).2.1))]), (false, [.dv [] (.bool ((runOp d o).2.2))])]) [(90031, some (kcOf false (storesD ((runOp d o).1.2.2.1)))), (90900, some (kcOf false (defsD ((runOp d o).1.2.2.2))))] := by
 by_cases h : same (d.2.2.1.getD (findI (hasName o.2.1) d.2.2.1 0).toNat default) o = true
 ·exact ok_impl_RunOpId hb h
 ·exact ok_impl_RunOpFr hb (by simpa using h)


theorem wset_le {α : Type} [Inhabited α] {w : α → Nat} {y : α} : ∀ (l : List α) (i : Nat), wSum w (l.set i y) ≤ wSum w l + w y
 | [], i => by simp [wSum]
 | x :: l, 0 => by simp [wSum]; omega
 | x :: l, i + 1 => by have := wset_le (w := w) (y := y) l i; simp [wSum] at this ⊢; omega
theorem runOp_w (d : DbT) (o : OpT) : wDatabase (runOp d o).1 ≤ wDatabase d + 1000000 := by
 unfold runOp
 split
 ·show wDatabase d ≤ _; omega
 ·rename_i h1
  split
  ·show wDatabase d ≤ _; omega
  ·rename_i h2
   have h1 : ((!isDb d || !isOpB o) || decide (fndS d o.2.1 < 0)) = false := by simpa using h1
   have hg := runG h1
   have hlt := fndS_lt d o.2.1
   have h2 : (!(opM (stOf d o) o).2.2 || !isDb (putS d (fndS d o.2.1).toNat (opM (stOf d o) o).1)) = false := by simpa using h2
   have hd : isDb (putS d (fndS d o.2.1).toNat (opM (stOf d o) o).1) = true := by
    simp only [Bool.or_eq_false_iff, Bool.not_eq_false'] at h2
    exact h2.2
   have hs := db_sto (i := fndS d o.2.1) (isDb_st1 hd) hg.2.2 (by show _ < (((d.2.2.1.set _ _).length : Nat) : Int); rw [List.length_set]; exact hlt)
   have e : (putS d (fndS d o.2.1).toNat (opM (stOf d o) o).1).2.2.1.getD (fndS d o.2.1).toNat default = (opM (stOf d o) o).1 := by
    have hl : (fndS d o.2.1).toNat < d.2.2.1.length := by omega
    simp [putS, List.getD, hl]
   rw [e] at hs
   have hw := sto_w hs
   have h3 := wset_le (w := wStore) (y := (opM (stOf d o) o).1) d.2.2.1 (fndS d o.2.1).toNat
   have h4 : wDatabase d = d.1.size + wList wStore d.2.2.1 + wList wIndexDef d.2.2.2 := rfl
   have h5 : wDatabase (putS d (fndS d o.2.1).toNat (opM (stOf d o) o).1) = d.1.size + wList wStore (d.2.2.1.set (fndS d o.2.1).toNat (opM (stOf d o) o).1) + wList wIndexDef d.2.2.2 := rfl
   have h6 : wList wStore d.2.2.1 = d.2.2.1.length + wSum wStore d.2.2.1 := rfl
   have h7 : wList wStore (d.2.2.1.set (fndS d o.2.1).toNat (opM (stOf d o) o).1) = (d.2.2.1.set (fndS d o.2.1).toNat (opM (stOf d o) o).1).length + wSum wStore (d.2.2.1.set (fndS d o.2.1).toNat (opM (stOf d o) o).1) := rfl
   rw [List.length_set] at h7
   show wDatabase (putS d (fndS d o.2.1).toNat (opM (stOf d o) o).1) ≤ _
   omega

end Go.Proofs.YtjkpoekgnmgofaaGreat

namespace Go.Proofs.YtjkpoekgnmgofaaGreat
open Go.RowKit
open Go.Proofs
set_option linter.unusedVariables false
set_option linter.unusedSimpArgs false

def goOps : DbT → List OpT → Option (DbT × List Int)
 | c, [] => some (c, [])
 | c, o :: os => if (runOp c o).2.2 = true then (goOps (runOp c o).1 os).map fun r => (r.1, (runOp c o).2.1 :: r.2) else none
def outOps (d : DbT) : Option (DbT × List Int) → DbT × List Int × Bool
 | none => (d, [], false)
 | some r => (r.1, r.2, true)
def runOps (d : DbT) (l : List OpT) : DbT × List Int × Bool := if (!isDb d || decide ((6 : Int) < (l.length : Int))) = true then (d, [], false) else outOps d (goOps d l)
theorem opsG {d : DbT} {l : List OpT} (h : (!isDb d || decide ((6 : Int) < (l.length : Int))) = false) : l.length ≤ 6 := by
 simp only [Bool.or_eq_false_iff, decide_eq_false_iff_not] at h
 omega
end Go.Proofs.YtjkpoekgnmgofaaGreat

namespace Go.Proofs.YtjkpoekgnmgofaaGreat
open Go.RowKit
open Go.Proofs
set_option linter.unusedVariables false
set_option linter.unusedSimpArgs false

theorem sto_name {s : StoreT} (h : isSto s = true) : s.1.size ≤ 8 := by
 simp only [isSto, Bool.and_eq_true] at h
 have := h.2.1.1
 simp only [isName, Bool.and_eq_true, decide_eq_true_eq] at this
 omega
def serial : DbT → List TxT → DbT
 | d, [] => d
 | d, t :: ts => serial (runOps d t.2.1).1 ts
end Go.Proofs.YtjkpoekgnmgofaaGreat

namespace Go.Proofs.YtjkpoekgnmgofaaGreat
open Go.RowKit
open Go.Proofs
set_option linter.unusedVariables false
set_option linter.unusedSimpArgs false

section
variable {α : Type} {enc : α → List DV} {sz : Nat} {xs : List α} {n : Nat}
theorem flat_pre (hs : ∀ y, (enc y).length = sz) (h : n ≤ xs.length) : ((xs.take n).flatMap enc).length = n * sz := by rw [fl_len hs, List.length_take, Nat.min_eq_left h]
theorem flat_set (h : n < xs.length) (y : α) : mid ((xs.take n).flatMap enc) (enc y) ((xs.drop (n + 1)).flatMap enc) = (xs.set n y).flatMap enc := by
 rw [List.set_eq_take_append_cons_drop, if_pos h, List.flatMap_append, List.flatMap_cons]; unfold mid; simp
theorem flat_open [Inhabited α] {t : α} (h : n < xs.length) (ht : t = xs.getD n default) : xs.flatMap enc = mid ((xs.take n).flatMap enc) (enc t) ((xs.drop (n + 1)).flatMap enc) := by
 rw [flat_set h]
 have e : xs.set n t = xs := by
  subst ht
  apply List.ext_getElem?
  intro j
  rw [List.getElem?_set]
  by_cases h' : n = j
  ·subst h'; simp [h, List.getD]
  ·simp [h']
 rw [e]
theorem fin_set {e : Nat} (h : n < xs.length) (y : α) : some (some (KC.mk false e sz xs.length (mid ((xs.take n).flatMap enc) (enc y) ((xs.drop (n + 1)).flatMap enc)))) = some (some (KC.mk false e sz (xs.set n y).length ((xs.set n y).flatMap enc))) := by rw [flat_set h, List.length_set]
end
def restL : DbT → List StoreT → DbT
 | d, [] => d
 | d, s :: l => restL (if 0 ≤ fndS d s.1 then putS d (fndS d s.1).toNat s else d) l
theorem rest_step {c : DbT} {l : List StoreT} {n : Nat} (h : n < l.length) : restL c (l.drop n) = restL (if 0 ≤ fndS c (l.getD (n : Int).toNat default).1 then putS c (fndS c (l.getD (n : Int).toNat default).1).toNat (l.getD (n : Int).toNat default) else c) (l.drop (n + 1)) := by
 have e : l.drop n = l.getD (n : Int).toNat default :: l.drop (n + 1) := by rw [List.drop_eq_getElem_cons h]; simp [List.getD, List.getElem?_eq_getElem h]
 rw [e, restL]
theorem putS_w (d : DbT) (i : Nat) (s : StoreT) : wDatabase (putS d i s) ≤ wDatabase d + wStore s := by
 have h3 := wset_le (w := wStore) (y := s) d.2.2.1 i
 have h4 : wDatabase d = d.1.size + wList wStore d.2.2.1 + wList wIndexDef d.2.2.2 := rfl
 have h5 : wDatabase (putS d i s) = d.1.size + wList wStore (d.2.2.1.set i s) + wList wIndexDef d.2.2.2 := rfl
 have h6 : wList wStore d.2.2.1 = d.2.2.1.length + wSum wStore d.2.2.1 := rfl
 have h7 : wList wStore (d.2.2.1.set i s) = (d.2.2.1.set i s).length + wSum wStore (d.2.2.1.set i s) := rfl
 rw [List.length_set] at h7
 omega
theorem restL_w : ∀ (l : List StoreT) (d : DbT), wDatabase (restL d l) ≤ wDatabase d + wSum wStore l
 | [], d => by simp [restL, wSum]
 | s :: l, d => by
  have e : wSum wStore (s :: l) = wStore s + wSum wStore l := by simp [wSum]
  rw [restL]
  split
  ·have h1 := restL_w l (putS d (fndS d s.1).toNat s)
   have h2 := putS_w d (fndS d s.1).toNat s
   omega
  ·have h1 := restL_w l d
   omega
theorem runOp_same {d : DbT} {o : OpT} (h : (runOp d o).2.2 = false) : (runOp d o).1 = d := by
 unfold runOp at h ⊢
 split
 ·rfl
 ·rename_i h1
  rw [if_neg h1] at h
  split
  ·rfl
  ·rename_i h2
   rw [if_neg h2] at h; cases h
def tin (t : TxT) (a : Int) : Bool := decide (0 ≤ a) && decide (a ≤ (t.2.1.length : Int) - 1)
def opOf (t : TxT) : OpT := t.2.1.getD (t.2.2.1).toNat default
def stpBad (q : List TxT) (i : Int) : Bool := (decide (i < 0) || decide ((q.length : Int) ≤ i)) || !decide ((q.getD i.toNat default).2.2.2.1 = 1)
def stepAt (d : DbT) (q : List TxT) (n : Nat) (t : TxT) : DbT × List TxT × Bool :=
 if tin t t.2.2.1 = true then
  if (runOp d (opOf t)).2.2 = true then ((runOp d (opOf t)).1, q.set n (if tin t (t.2.2.1 + 1) = true then (t.1, t.2.1, t.2.2.1 + 1, t.2.2.2.1, t.2.2.2.2) else (t.1, t.2.1, t.2.2.1 + 1, 2, [])), true)
  else (restL d t.2.2.2.2, q.set n (t.1, t.2.1, t.2.2.1 + 1, 3, []), true)
 else (d, q.set n (t.1, t.2.1, t.2.2.1, 2, []), true)
def stepTx (d : DbT) (q : List TxT) (i : Int) : DbT × List TxT × Bool := if stpBad q i = true then (d, q, false) else stepAt d q i.toNat (q.getD i.toNat default)
theorem st_good {q : List TxT} {i : Int} (h : stpBad q i = false) : 0 ≤ i ∧ i < (q.length : Int) ∧ (q.getD i.toNat default).2.2.2.1 = 1 := by
 unfold stpBad at h
 simp only [Bool.or_eq_false_iff, decide_eq_false_iff_not, Bool.not_eq_false', decide_eq_true_eq] at h
 omega
section
variable {d : DbT} {q : List TxT} {i : Int} {t : TxT}
theorem step_bad (h : stpBad q i = true) : stepTx d q i = (d, q, false) := by rw [stepTx, if_pos h]
theorem step_at (h : stpBad q i = false) (ht : t = q.getD i.toNat default) : stepTx d q i = stepAt d q i.toNat t := by rw [stepTx, if_neg (by rw [h]; simp), ht]
theorem step_no (h : stpBad q i = false) (ht : t = q.getD i.toNat default) (h1 : tin t t.2.2.1 = false) : stepTx d q i = (d, q.set i.toNat (t.1, t.2.1, t.2.2.1, 2, []), true) := by rw [step_at h ht, stepAt, if_neg (by rw [h1]; simp)]
theorem step_fail (h : stpBad q i = false) (ht : t = q.getD i.toNat default) (h1 : tin t t.2.2.1 = true) (h2 : (runOp d (opOf t)).2.2 = false) : stepTx d q i = (restL d t.2.2.2.2, q.set i.toNat (t.1, t.2.1, t.2.2.1 + 1, 3, []), true) := by rw [step_at h ht, stepAt, if_pos h1, if_neg (by rw [h2]; simp)]
theorem step_go (h : stpBad q i = false) (ht : t = q.getD i.toNat default) (h1 : tin t t.2.2.1 = true) (h2 : (runOp d (opOf t)).2.2 = true) (h3 : tin t (t.2.2.1 + 1) = true) : stepTx d q i = ((runOp d (opOf t)).1, q.set i.toNat (t.1, t.2.1, t.2.2.1 + 1, t.2.2.2.1, t.2.2.2.2), true) := by rw [step_at h ht, stepAt, if_pos h1, if_pos h2, if_pos h3]
theorem step_end (h : stpBad q i = false) (ht : t = q.getD i.toNat default) (h1 : tin t t.2.2.1 = true) (h2 : (runOp d (opOf t)).2.2 = true) (h3 : tin t (t.2.2.1 + 1) = false) : stepTx d q i = ((runOp d (opOf t)).1, q.set i.toNat (t.1, t.2.1, t.2.2.1 + 1, 2, []), true) := by rw [step_at h ht, stepAt, if_pos h1, if_pos h2, if_neg (by rw [h3]; simp)]
theorem tin_bd {a : Int} (h : tin t a = true) : 0 ≤ a ∧ a < (t.2.1.length : Int) := by
 unfold tin at h
 simp only [Bool.and_eq_true, decide_eq_true_eq] at h
 omega
theorem tx_w (h : i.toNat < q.length) (ht : t = q.getD i.toNat default) : wTx t ≤ wList wTx q := by
 have h1 := (wSum_succ wTx q i.toNat h).1
 have h2 := wSum_le wTx q (i.toNat + 1)
 have h3 : wList wTx q = q.length + wSum wTx q := rfl
 have e : q.getD ((i.toNat : Nat) : Int).toNat default = t := by rw [ht]; congr 1
 rw [e] at h1
 omega
end

theorem ok_impl_StepTx {d : DbT} {q : List TxT} {i : Int} (hb : wDatabase d ≤ 549755813888) (hq : wList wTx q ≤ 549755813888) : KFn Tryz.prog 10 [.agg [(.dv [] (.str (d.1))), (.dv [] (.int .i64 (d.2.1))), (.dv [] (storesD (d.2.2.1))), (.dv [] (defsD (d.2.2.2)))], .agg [(.dv [] (txsD (q)))], .one (.dv [] (.int .i64 (i)))] (.tup [(true, [(.dv [] (.str ((stepTx d q i).1.1))), (.dv [] (.int .i64 ((stepTx d q i).1.2.1))), (.key 90031), (.key 90900)]), (true, [(.key 95031)]), (false, [(.dv [] (.bool ((stepTx d q i).2.2)))])]) [(90031, some (kcOf false (storesD ((stepTx d q i).1.2.2.1)))), (90900, some (kcOf false (defsD ((stepTx d q i).1.2.2.2)))), (95031, some (kcOf false (txsD ((stepTx d q i).2.1))))] := by
 refine ⟨fn_intro Tryz.func10 rfl Tryz.ntmps10 Tryz.results10 rfl (fun C => ?_)⟩
 have hwq : wList wTx q = q.length + wSum wTx q := rfl
 obtain ⟨t, ht⟩ : ∃ t, t = q.getD i.toNat default := ⟨_, rfl⟩
 have hwt : wTx t = wList wOp t.2.1 + wList wStore t.2.2.2.2 := rfl
 have hwo : wList wOp t.2.1 = t.2.1.length + wSum wOp t.2.1 := rfl
 have hwb : wList wStore t.2.2.2.2 = t.2.2.2.2.length + wSum wStore t.2.2.2.2 := rfl
 refine yF 0 0 rfl rfl fun f0_0 => ?_
 refine yF 0 1 rfl rfl fun f0_1 => ?_
 refine yF 0 2 rfl rfl fun f0_2 => ?_
 refine yF 0 3 rfl rfl fun f0_3 => ?_
 refine yF 1 0 rfl rfl fun f1_0 => ?_
 refine ok_fact (x := .tmp 2) (ev_tmp rfl) fun f2 => ?_
 iterate 9 refine z ?_
 refine zK 90000 Tryz.call24 ?_ (hf := ok_impl_copyDatabase (x := d) (by omega))
 iterate 5 refine z ?_
 refine zK 95000 Tryz.call19 ?_ (hf := ok_impl_copyQueue (x := q) (by omega))
 iterate 24 refine z ?_
 refine yQ rfl (fun c1 => ?_) fun c1 => ?_
 ·skip
  have hb1 : stpBad q i = true := c1
  refine ok_seq ?_
  refine ok_regionW 6 (oB := [3, 4, 7, 9, 10]) (oK := [90031, 90900, 95031]) (by kernel_rfl) rfl rfl ?_
  refine w_take 0 rfl (by kernel_rfl) rfl rfl (pu_loadBoxA hT rfl rfl (ev_tmp rfl) rfl rfl) rfl rfl rfl rfl rfl ?_
  refine w_take 1 rfl (by kernel_rfl) rfl rfl (pu_loadBoxA hT rfl rfl (ev_tmp rfl) rfl rfl) rfl rfl rfl rfl rfl ?_
  refine w_store 2 rfl (by kernel_rfl) rfl hT rfl rfl rfl (ev_tmp rfl) (ev_tmp rfl) rfl rfl rfl rfl rfl rfl ?_
  refine w_chain [3, 4] rfl rfl (by kernel_rfl) ?_
  iterate 3 refine z ?_
  rw [step_bad hb1]
  refine ok_weak (σ' := ⟨[(6, .box 6 0), (7, .box 7 0), (8, .one (.dv [] (.bool (false))))], [(6, 27, [(.dv [] (.str ((d).1))), (.dv [] (.int .i64 ((d).2.1))), (.key 90031), (.key 90900)]), (7, 30, [(.key 95031)])], [(90031, some (kcOf false (storesD (d.2.2.1)))), (90900, some (kcOf false (defsD (d.2.2.2)))), (95031, some (kcOf false (txsD (q))))]⟩) (weak_sub ⟨rfl, rfl, rfl, trivial⟩ ⟨rfl, rfl, trivial⟩ ⟨rfl, rfl, rfl, trivial⟩ rfl) ?_
  iterate 2 refine z ?_
  refine fin3 (res_cell hT rfl rfl rfl rfl) (res_cell hT rfl rfl rfl rfl) (res_tmp rfl) rfl rfl rfl ?_
  first | exact ⟨rfl, rfl⟩ | skip
 ·skip
  have hb1 : stpBad q i = false := c1
  have hg := st_good hb1
  rw [← ht] at hg
  have hit : i.toNat < q.length := by omega
  have htw := tx_w hit ht
  refine ok_kcs (k := 95031) (cs' := mid ((q.take (i).toNat).flatMap eTx) [.int .i64 (t.1), opsD (t.2.1), .int .i64 (t.2.2.1), .int .i64 (t.2.2.2.1), storesD (t.2.2.2.2)] ((q.drop ((i).toNat + 1)).flatMap eTx)) rfl (flat_open hit ht) ?_
  iterate 6 refine z ?_
  refine yO rfl rfl (pu_indexK (i := (i).toNat) hT rfl rfl rfl (ev_tmp rfl) rfl (ev_tmp rfl) (by omega) (by show _ < (((q)).length); omega)) rfl ?_
  iterate 5 refine z ?_
  refine ok_seq ?_
  refine ok_seq ?_
  refine ok_regionD (oB := [3, 4, 6, 7, 9, 10]) (oK := [90031, 90900, 95031]) (by kernel_rfl) rfl rfl ?_
  refine zD 0 ?_
  refine d_take 1 rfl (by kernel_rfl) rfl rfl (pu_nilE rfl (ev_tmp rfl)) rfl rfl rfl rfl ?_
  refine zD 2 ?_
  refine d_take 3 rfl (by kernel_rfl) rfl rfl (pu_loadE1 hT rfl rfl (ev_tmp rfl) rfl (get_mid (off := ((i).toNat * 5 + 2)) (j := 2) (flat_pre (sz := 5) (fun _ => rfl) (Nat.le_of_lt hit)) (by omega) rfl)) rfl rfl rfl rfl ?_
  refine zD 4 ?_
  refine d_take 5 rfl (by kernel_rfl) rfl rfl (pu_nilE rfl (ev_tmp rfl)) rfl rfl rfl rfl ?_
  refine zD 6 ?_
  refine d_take 7 rfl (by kernel_rfl) rfl rfl (pu_loadE1 hT rfl rfl (ev_tmp rfl) rfl (get_mid (off := ((i).toNat * 5 + 1)) (j := 1) (flat_pre (sz := 5) (fun _ => rfl) (Nat.le_of_lt hit)) (by omega) rfl)) rfl rfl rfl rfl ?_
  refine d_take 8 rfl (by kernel_rfl) rfl rfl (pu_lenV hT rfl rfl (ev_nestv (ev_tmp rfl))) rfl rfl rfl rfl ?_
  refine zD 9 ?_
  refine d_call 10 rfl (by kernel_rfl) rfl rfl rfl Tryz.call25 (ok_impl_InRange (n := t.2.2.1) (lo := 0) (hi := ((((t.2.1)).length : Int)) - (1)) ) (as_cons (ev_tmp rfl) (ag_one ac_dv) (as_cons (ev_int (inR_lit rfl)) (ag_one ac_dv) (as_cons (ev_tmp rfl) (ag_one ac_dv) as_nil))) rfl rfl rfl rfl ?_
  refine d_done (by kernel_rfl) ?_
  refine z ?_
  refine yQ rfl (fun c2 => ?_) fun c2 => ?_
  ·skip
   have hin : tin t t.2.2.1 = true := c2
   have hop := tin_bd hin
   refine ok_cutS (σ' := ⟨[(2, .one (.dv [] (.int .i64 (i)))), (3, .box 3 0), (4, .box 4 0), (6, .box 6 0), (7, .box 7 0), (8, .one (.dv [] (.bool (false)))), (9, .box 9 0), (10, .box 10 0), (11, .eptr 95031 ((i).toNat * 5)), (12, .one (.dv [] (.bool (false)))), (13, .box 13 0), (14, .one (.dv [] (.int .i64 ((runOp (d) ((t.2.1.getD (t.2.2.1).toNat default))).2.1)))), (15, .one (.dv [] (.bool ((runOp (d) ((t.2.1.getD (t.2.2.1).toNat default))).2.2))))], [(3, 27, [(.dv [] (.str (d.1))), (.dv [] (.int .i64 (d.2.1))), (.dv [] (storesD (d.2.2.1))), (.dv [] (defsD (d.2.2.2)))]), (4, 30, [(.dv [] (txsD (q)))]), (6, 27, [(.dv [] (.str (ByteArray.empty))), (.dv [] (.int .i64 (0))), .nil, .nil]), (7, 30, [.nil]), (9, 27, [(.dv [] (.str ((d).1))), (.dv [] (.int .i64 ((d).2.1))), (.key 90031), (.key 90900)]), (10, 30, [(.key 95031)]), (13, 27, [(.dv [] (.str ((runOp (d) ((t.2.1.getD (t.2.2.1).toNat default))).1.1))), (.dv [] (.int .i64 ((runOp (d) ((t.2.1.getD (t.2.2.1).toNat default))).1.2.1))), (.key 91031), (.key 91900)])], [(90031, some (kcOf false (storesD ((d).2.2.1)))), (90900, some (kcOf false (defsD ((d).2.2.2)))), (91031, some (kcOf false (storesD ((runOp (d) ((t.2.1.getD (t.2.2.1).toNat default))).1.2.2.1)))), (91900, some (kcOf false (defsD ((runOp (d) ((t.2.1.getD (t.2.2.1).toNat default))).1.2.2.2)))), (95031, some (kcOf false (.sl 40 5 (((q)).length) (mid ((q.take (i).toNat).flatMap eTx) [.int .i64 (t.1), opsD (t.2.1), .int .i64 (t.2.2.1), .int .i64 (t.2.2.2.1), storesD (t.2.2.2.2)] ((q.drop ((i).toNat + 1)).flatMap eTx)))))]⟩) ?_ ?_
   ·skip
    refine ok_regionD (oB := [3, 4, 6, 7, 9, 10]) (oK := [90031, 90900, 95031]) (by kernel_rfl) rfl rfl ?_
    refine zD 0 ?_
    refine zD 1 ?_
    refine d_take 2 rfl (by kernel_rfl) rfl rfl (pu_nilE rfl (ev_tmp rfl)) rfl rfl rfl rfl ?_
    refine zD 3 ?_
    refine d_take 4 rfl (by kernel_rfl) rfl rfl (pu_loadE1 hT rfl rfl (ev_tmp rfl) rfl (get_mid (off := ((i).toNat * 5 + 1)) (j := 1) (flat_pre (sz := 5) (fun _ => rfl) (Nat.le_of_lt hit)) (by omega) rfl)) rfl rfl rfl rfl ?_
    refine zD 5 ?_
    refine d_take 6 rfl (by kernel_rfl) rfl rfl (pu_nilE rfl (ev_tmp rfl)) rfl rfl rfl rfl ?_
    refine zD 7 ?_
    refine d_take 8 rfl (by kernel_rfl) rfl rfl (pu_loadE1 hT rfl rfl (ev_tmp rfl) rfl (get_mid (off := ((i).toNat * 5 + 2)) (j := 2) (flat_pre (sz := 5) (fun _ => rfl) (Nat.le_of_lt hit)) (by omega) rfl)) rfl rfl rfl rfl ?_
    refine d_take 9 rfl (by kernel_rfl) rfl rfl (pu_indexD hT rfl rfl rfl (ev_nestv (ev_tmp rfl)) (ev_tmp rfl) (fun _ => rfl) (by omega) (by omega)) rfl rfl rfl rfl ?_
    refine zD 10 ?_
    refine d_vars (A := [(16, 13, 27, _)]) hT ⟨⟨_, _, rfl⟩, rfl, trivial⟩ ?_
    refine a_callK 1000 11 rfl (by kernel_rfl) rfl rfl rfl (vok hT ⟨⟨_, _, rfl⟩, rfl, trivial⟩ (by kernel_rfl) (by kernel_rfl)) (vok hT ⟨⟨_, _, rfl⟩, rfl, trivial⟩ (by kernel_rfl) (by kernel_rfl)) rfl Tryz.call26 (ok_impl_RunOp (d := d) (o := (t.2.1.getD (t.2.2.1).toNat default)) (by omega)) (as_cons (ev_tmp rfl) (ag_agg (ag_cons ac_dv (ag_cons ac_dv (ag_cons (ac_key' rfl rfl) (ag_cons (ac_key' rfl rfl) ag_nil))))) (as_cons (ev_tmp rfl) (ag_agg (ag_cons ac_dv (ag_cons ac_dv (ag_cons ac_dv (ag_cons ac_dv (ag_cons ac_dv (ag_cons ac_dv (ag_cons ac_dv ag_nil)))))))) as_nil)) rfl rfl rfl rfl rfl ?_
    refine a_take 12 rfl (by kernel_rfl) rfl rfl rfl (vok hT ⟨⟨_, _, rfl⟩, rfl, trivial⟩ (by kernel_rfl) (by kernel_rfl)) (vok hT ⟨⟨_, _, rfl⟩, rfl, trivial⟩ (by kernel_rfl) (by kernel_rfl)) (pu_move (.inl rfl) (ev_tmp rfl)) rfl rfl rfl rfl ?_
    refine a_takeX 13 rfl (by kernel_rfl) rfl rfl rfl rfl (vok hT ⟨⟨_, _, rfl⟩, rfl, trivial⟩ (by kernel_rfl) (by kernel_rfl)) (vok hT ⟨⟨_, _, rfl⟩, rfl, trivial⟩ (by kernel_rfl) (by kernel_rfl)) (pu_extractA rfl (ev_tmp rfl) rfl) rfl rfl ?_
    refine a_takeX 14 rfl (by kernel_rfl) rfl rfl rfl rfl (vok hT ⟨⟨_, _, rfl⟩, rfl, trivial⟩ (by kernel_rfl) (by kernel_rfl)) (vok hT ⟨⟨_, _, rfl⟩, rfl, trivial⟩ (by kernel_rfl) (by kernel_rfl)) (pu_extract1 rfl (ev_tmp rfl) rfl) rfl rfl ?_
    refine a_takeX 15 rfl (by kernel_rfl) rfl rfl rfl rfl (vok hT ⟨⟨_, _, rfl⟩, rfl, trivial⟩ (by kernel_rfl) (by kernel_rfl)) (vok hT ⟨⟨_, _, rfl⟩, rfl, trivial⟩ (by kernel_rfl) (by kernel_rfl)) (pu_extract1 rfl (ev_tmp rfl) rfl) rfl rfl ?_
    refine a_exit1 (vok hT ⟨⟨_, _, rfl⟩, rfl, trivial⟩ (by kernel_rfl) (by kernel_rfl)) rfl rfl (by kernel_rfl) ?_
    dsimp only [addT, addB]
    refine d_chain [17, 18, 19] rfl rfl (by kernel_rfl) ?_
    iterate 3 refine z ?_
    refine ops_nil ?_
    exact then_n (weak_sub ⟨rfl, rfl, rfl, rfl, rfl, rfl, rfl, rfl, rfl, rfl, rfl, rfl, rfl, trivial⟩ ⟨rfl, rfl, rfl, rfl, rfl, rfl, rfl, trivial⟩ ⟨rfl, rfl, rfl, rfl, rfl, trivial⟩ rfl)
   iterate 4 refine z ?_
   refine ok_seq ?_
   refine ok_weak (weak_swapB (b := 9) (i := 2) (k := 91031) (k' := 90031) rfl rfl rfl rfl (by simp) rfl rfl) ?_
   simp only [killT, killB, SV.kill, CV.kill, kk, Nat.reduceBEq]
   refine ok_weak (weak_swapB (b := 9) (i := 3) (k := 91900) (k' := 90900) rfl rfl rfl rfl (by simp) rfl rfl) ?_
   simp only [killT, killB, SV.kill, CV.kill, kk, Nat.reduceBEq]
   refine ok_region ?_
   iterate 4 refine z ?_
   refine ok_region ?_
   refine z ?_
   refine yO rfl rfl (pu_nilE rfl (ev_tmp rfl)) rfl ?_
   refine z ?_
   refine yO rfl rfl (pu_loadE1 hT rfl rfl (ev_tmp rfl) rfl (get_mid (off := ((i).toNat * 5 + 2)) (j := 2) (flat_pre (sz := 5) (fun _ => rfl) (Nat.le_of_lt hit)) (by omega) rfl)) rfl ?_
   refine z ?_
   refine yO rfl rfl (pu_nilE rfl (ev_tmp rfl)) rfl ?_
   refine z ?_
   refine o_storeE (js := []) (cs := mid ((q.take (i).toNat).flatMap eTx) [.int .i64 (t.1), opsD (t.2.1), .int .i64 ((t.2.2.1) + (1)), .int .i64 (t.2.2.2.1), storesD (t.2.2.2.2)] ((q.drop ((i).toNat + 1)).flatMap eTx)) hT rfl rfl rfl rfl (ev_tmp rfl) (ev_tmp rfl) rfl rfl rfl rfl (ow_cons' (ow_dv rfl) ow_nil rfl) (by decide) (by decide) rfl (le_mid (off := ((i).toNat * 5 + 2)) (n := 1) (j := 2) (flat_pre (sz := 5) (fun _ => rfl) (Nat.le_of_lt hit)) (by omega) (Nat.le_of_ble_eq_true rfl)) (setR_mid (off := ((i).toNat * 5 + 2)) (j := 2) (flat_pre (sz := 5) (fun _ => rfl) (Nat.le_of_lt hit)) (by omega) rfl (Nat.le_of_ble_eq_true rfl)) ?_
   simp only [killT, killB, SV.kill, CV.kill, kk, Nat.reduceBEq]
   iterate 5 refine z ?_
   refine yQ rfl (fun c3 => ?_) fun c3 => ?_
   ·skip
    have hok : (runOp d (t.2.1.getD (t.2.2.1).toNat default)).2.2 = false := by simpa using c3
    have hsm := runOp_same hok
    iterate 3 refine z ?_
    refine yO rfl rfl (pu_nilE rfl (ev_tmp rfl)) rfl ?_
    refine z ?_
    refine yO rfl rfl (pu_loadE1 hT rfl rfl (ev_tmp rfl) rfl (get_mid (off := ((i).toNat * 5 + 4)) (j := 4) (flat_pre (sz := 5) (fun _ => rfl) (Nat.le_of_lt hit)) (by omega) rfl)) rfl ?_
    refine yO rfl rfl (pu_lenV hT rfl rfl (ev_nestv (ev_tmp rfl))) rfl ?_
    iterate 3 refine z ?_
    refine ok_loop (ι := Nat × DbT) (fun zz => ⟨[(6, .box 6 0), (7, .box 7 0), (8, .one (.dv [] (.bool (false)))), (9, .box 9 0), (10, .box 10 0), (11, .eptr 95031 ((i).toNat * 5)), (88, .one (.nest 95031 (((i).toNat * 5 + 4)) (storesD (t.2.2.2.2)))), (89, .one (.dv [] (.int .i64 ((((t.2.2.2.2)).length : Int))))), (90, .one (.dv [] (.int .i64 ((zz.1 : Int)))))], [(3, 27, [(.dv [] (.str (d.1))), (.dv [] (.int .i64 (d.2.1))), (.dv [] (storesD (d.2.2.1))), (.dv [] (defsD (d.2.2.2)))]), (4, 30, [(.dv [] (txsD (q)))]), (6, 27, [(.dv [] (.str (ByteArray.empty))), (.dv [] (.int .i64 (0))), .nil, .nil]), (7, 30, [.nil]), (9, 27, [(.dv [] (.str (zz.2.1))), (.dv [] (.int .i64 (zz.2.2.1))), (.key 90031), (.key 90900)]), (10, 30, [(.key 95031)])], [(90031, some (kcOf false (.sl 60 3 (zz.2.2.2.1.length) (zz.2.2.2.1.flatMap eStore)))), (90900, some (kcOf false (.sl 78 2 (zz.2.2.2.2.length) (zz.2.2.2.2.flatMap eDef)))), (95031, some (kcOf false (.sl 40 5 (((q)).length) (mid ((q.take (i).toNat).flatMap eTx) [.int .i64 (t.1), opsD (t.2.1), .int .i64 ((t.2.2.1) + (1)), .int .i64 (t.2.2.2.1), storesD (t.2.2.2.2)] ((q.drop ((i).toNat + 1)).flatMap eTx)))))]⟩) (fun zz => zz.1 ≤ t.2.2.2.2.length ∧ restL d t.2.2.2.2 = restL zz.2 (t.2.2.2.2.drop zz.1)) (fun zz => t.2.2.2.2.length - zz.1) ((0, (runOp d (t.2.1.getD (t.2.2.1).toNat default)).1)) ?_ (weak_sub ⟨rfl, rfl, rfl, rfl, rfl, rfl, rfl, rfl, rfl, trivial⟩ ⟨rfl, rfl, rfl, rfl, rfl, rfl, trivial⟩ ⟨rfl, rfl, rfl, trivial⟩ rfl) (fun zz hx => ?_)
    ·exact ⟨Nat.zero_le _, by dsimp only; rw [hsm]; simp⟩
    obtain ⟨n, c⟩ := zz
    replace hx : n ≤ t.2.2.2.2.length ∧ restL d t.2.2.2.2 = restL c (t.2.2.2.2.drop n) := hx
    obtain ⟨hn, hi⟩ := hx
    have hw := fun h => wSum_succ wStore t.2.2.2.2 n h
    have hwle := wSum_le wStore t.2.2.2.2 (n + 1)
    show Ok _ _ _ _ _ (⟨[(6, .box 6 0), (7, .box 7 0), (8, .one (.dv [] (.bool (false)))), (9, .box 9 0), (10, .box 10 0), (11, .eptr 95031 ((i).toNat * 5)), (88, .one (.nest 95031 (((i).toNat * 5 + 4)) (storesD (t.2.2.2.2)))), (89, .one (.dv [] (.int .i64 ((((t.2.2.2.2)).length : Int))))), (90, .one (.dv [] (.int .i64 ((n : Int)))))], [(3, 27, [(.dv [] (.str (d.1))), (.dv [] (.int .i64 (d.2.1))), (.dv [] (storesD (d.2.2.1))), (.dv [] (defsD (d.2.2.2)))]), (4, 30, [(.dv [] (txsD (q)))]), (6, 27, [(.dv [] (.str (ByteArray.empty))), (.dv [] (.int .i64 (0))), .nil, .nil]), (7, 30, [.nil]), (9, 27, [(.dv [] (.str (c.1))), (.dv [] (.int .i64 (c.2.1))), (.key 90031), (.key 90900)]), (10, 30, [(.key 95031)])], [(90031, some (kcOf false (.sl 60 3 (c.2.2.1.length) (c.2.2.1.flatMap eStore)))), (90900, some (kcOf false (.sl 78 2 (c.2.2.2.length) (c.2.2.2.flatMap eDef)))), (95031, some (kcOf false (.sl 40 5 (((q)).length) (mid ((q.take (i).toNat).flatMap eTx) [.int .i64 (t.1), opsD (t.2.1), .int .i64 ((t.2.2.1) + (1)), .int .i64 (t.2.2.2.1), storesD (t.2.2.2.2)] ((q.drop ((i).toNat + 1)).flatMap eTx)))))]⟩ : St)
    iterate 3 refine z ?_
    refine ok_seq ?_
    refine yQ rfl (fun c4 => ?_) fun c4 => ?_
    ·skip
     have d4 := of_decide_eq_true c4
     have hn2 : n < t.2.2.2.2.length := by omega
     obtain ⟨hw1, hw2⟩ := hw hn2
     have hrs := rest_step (c := c) hn2
     iterate 5 refine z ?_
     refine yO rfl rfl (pu_indexD hT rfl rfl rfl (ev_nestv (ev_tmp rfl)) (ev_tmp rfl) (fun _ => rfl) (by omega) (by omega)) rfl ?_
     iterate 8 refine z ?_
     refine o_call rfl rfl rfl Tryz.call21 (ok_impl_FindStore (x := c) (n := (t.2.2.2.2.getD (n : Int).toNat default).1)) (as_cons (ev_tmp rfl) (ag_agg (ag_cons ac_dv (ag_cons ac_dv (ag_cons (ac_key' rfl rfl) (ag_cons (ac_key' rfl rfl) ag_nil))))) (as_cons (ev_tmp rfl) (ag_one ac_dv) as_nil)) rfl rfl ?_
     iterate 6 refine z ?_
     refine yQ rfl (fun c5 => ?_) fun c5 => ?_
     ·skip
      have d5 := of_decide_eq_true c5
      have hlt : (findI (hasName (t.2.2.2.2.getD (n : Int).toNat default).1) c.2.2.1 0) < c.2.2.1.length := fndS_lt c (t.2.2.2.2.getD (n : Int).toNat default).1
      have hkn : (findI (hasName (t.2.2.2.2.getD (n : Int).toNat default).1) c.2.2.1 0).toNat < c.2.2.1.length := by omega
      rw [if_pos (show 0 ≤ fndS c (t.2.2.2.2.getD (n : Int).toNat default).1 from d5)] at hrs
      refine ok_regionD (oB := [3, 4, 6, 7, 9, 10, 17]) (oK := [90031, 90900, 95031]) (by kernel_rfl) rfl rfl ?_
      refine zD 0 ?_
      refine zD 1 ?_
      refine zD 2 ?_
      refine zD 3 ?_
      refine d_callK 96970 4 rfl (by kernel_rfl) rfl rfl rfl Tryz.call22 (ok_impl_copyStore (x := (t.2.2.2.2.getD (n : Int).toNat default)) (by omega)) (as_cons (ev_tmp rfl) (ag_agg (ag_cons ac_dv (ag_cons ac_dv (ag_cons ac_dv ag_nil)))) as_nil) rfl rfl rfl rfl rfl ?_
      refine d_take 5 rfl (by kernel_rfl) rfl rfl (pu_indexK (i := (findI (hasName ((t.2.2.2.2.getD (n : Int).toNat default).1)) (c).2.2.1 0).toNat) hT rfl rfl rfl (ev_tmp rfl) rfl (ev_tmp rfl) (by omega) (by show _ < (c.2.2.1.length); omega)) rfl rfl rfl rfl ?_
      refine d_chain [6] rfl rfl (by kernel_rfl) ?_
      refine o_storeE (js := [97000]) (cs := (c.2.2.1.set (findI (hasName (t.2.2.2.2.getD (n : Int).toNat default).1) c.2.2.1 0).toNat (t.2.2.2.2.getD (n : Int).toNat default)).flatMap eStore) hT rfl rfl rfl rfl (ev_tmp rfl) (ev_tmp rfl) rfl rfl rfl rfl (ow_cons' (ow_dv rfl) (ow_cons' (ow_key rfl) (ow_cons' (ow_dv rfl) ow_nil rfl) rfl) rfl) (by decide) (by decide) rfl (by show _ ≤ List.length (c.2.2.1.flatMap eStore); exact el_le (enc := eStore) (sz := 3) (fun _ => rfl) hkn) (el_set (enc := eStore) (sz := 3) (fun _ => rfl) hkn (t.2.2.2.2.getD (n : Int).toNat default)) ?_
      simp only [killT, killB, SV.kill, CV.kill, kk, Nat.reduceBEq]
      refine ops_nil ?_
      iterate 2 refine z ?_
      refine ok_region ?_
      iterate 3 refine z ?_
      refine ⟨(n + 1, putS c (findI (hasName (t.2.2.2.2.getD (n : Int).toNat default).1) c.2.2.1 0).toNat (t.2.2.2.2.getD (n : Int).toNat default)), ?_, ?_, weak_sub ⟨rfl, rfl, rfl, rfl, rfl, rfl, rfl, rfl, rfl, trivial⟩ ⟨rfl, rfl, rfl, rfl, rfl, rfl, trivial⟩ ⟨(congrArg (fun m => some (some (KC.mk false 60 3 m ((c.2.2.1.set (findI (hasName (t.2.2.2.2.getD (n : Int).toNat default).1) c.2.2.1 0).toNat (t.2.2.2.2.getD (n : Int).toNat default)).flatMap eStore)))) (List.length_set).symm), rfl, rfl, trivial⟩ rfl⟩
      ·exact ⟨hn2, by rw [hi]; exact hrs⟩
      ·dsimp only; omega
     ·skip
      have d5 := of_decide_eq_false c5
      rw [if_neg (show ¬ 0 ≤ fndS c (t.2.2.2.2.getD (n : Int).toNat default).1 from d5)] at hrs
      iterate 3 refine z ?_
      refine ok_region ?_
      iterate 3 refine z ?_
      refine ⟨(n + 1, c), ?_, ?_, weak_sub ⟨rfl, rfl, rfl, rfl, rfl, rfl, rfl, rfl, rfl, trivial⟩ ⟨rfl, rfl, rfl, rfl, rfl, rfl, trivial⟩ ⟨rfl, rfl, rfl, trivial⟩ rfl⟩
      ·exact ⟨hn2, by rw [hi]; exact hrs⟩
      ·dsimp only; omega
    ·skip
     have d4 := of_decide_eq_false c4
     iterate 7 refine z ?_
     refine yO rfl rfl (pu_nilE rfl (ev_tmp rfl)) rfl ?_
     refine z ?_
     refine o_storeE (js := []) (cs := mid ((q.take (i).toNat).flatMap eTx) [.int .i64 (t.1), opsD (t.2.1), .int .i64 ((t.2.2.1) + (1)), .int .i64 (3), storesD (t.2.2.2.2)] ((q.drop ((i).toNat + 1)).flatMap eTx)) hT rfl rfl rfl rfl (ev_tmp rfl) (ev_int (inR_lit rfl)) rfl rfl rfl rfl (ow_cons' (ow_dv rfl) ow_nil rfl) (by decide) (by decide) rfl (le_mid (off := ((i).toNat * 5 + 3)) (n := 1) (j := 3) (flat_pre (sz := 5) (fun _ => rfl) (Nat.le_of_lt hit)) (by omega) (Nat.le_of_ble_eq_true rfl)) (setR_mid (off := ((i).toNat * 5 + 3)) (j := 3) (flat_pre (sz := 5) (fun _ => rfl) (Nat.le_of_lt hit)) (by omega) rfl (Nat.le_of_ble_eq_true rfl)) ?_
     simp only [killT, killB, SV.kill, CV.kill, kk, Nat.reduceBEq]
     refine z ?_
     refine ok_region ?_
     refine z ?_
     refine yO rfl rfl (pu_nilE rfl (ev_tmp rfl)) rfl ?_
     refine z ?_
     refine o_storeE (js := []) (cs := mid ((q.take (i).toNat).flatMap eTx) [.int .i64 (t.1), opsD (t.2.1), .int .i64 ((t.2.2.1) + (1)), .int .i64 (3), .sl 60 3 0 []] ((q.drop ((i).toNat + 1)).flatMap eTx)) hT rfl rfl rfl rfl (ev_tmp rfl) ev_nil rfl rfl rfl rfl (ow_cons' (ow_nilc (e := 60) (sz := 3) rfl) ow_nil rfl) (by decide) (by decide) rfl (le_mid (off := ((i).toNat * 5 + 4)) (n := 1) (j := 4) (flat_pre (sz := 5) (fun _ => rfl) (Nat.le_of_lt hit)) (by omega) (Nat.le_of_ble_eq_true rfl)) (setR_mid (off := ((i).toNat * 5 + 4)) (j := 4) (flat_pre (sz := 5) (fun _ => rfl) (Nat.le_of_lt hit)) (by omega) rfl (Nat.le_of_ble_eq_true rfl)) ?_
     simp only [killT, killB, SV.kill, CV.kill, kk, Nat.reduceBEq]
     refine z ?_
     refine ok_seq ?_
     refine ok_regionW 6 (oB := [3, 4, 7, 9, 10]) (oK := [90031, 90900, 95031]) (by kernel_rfl) rfl rfl ?_
     refine w_take 0 rfl (by kernel_rfl) rfl rfl (pu_loadBoxA hT rfl rfl (ev_tmp rfl) rfl rfl) rfl rfl rfl rfl rfl ?_
     refine w_take 1 rfl (by kernel_rfl) rfl rfl (pu_loadBoxA hT rfl rfl (ev_tmp rfl) rfl rfl) rfl rfl rfl rfl rfl ?_
     refine w_store 2 rfl (by kernel_rfl) rfl hT rfl rfl rfl (ev_tmp rfl) (ev_tmp rfl) rfl rfl rfl rfl rfl rfl ?_
     refine w_chain [3, 4] rfl rfl (by kernel_rfl) ?_
     iterate 3 refine z ?_
     have hfin : restL d t.2.2.2.2 = c := by rw [hi, List.drop_of_length_le (by omega)]; rfl
     rw [step_fail hb1 ht hin hok, hfin]
     refine ok_weak (σ' := ⟨[(6, .box 6 0), (7, .box 7 0), (8, .one (.dv [] (.bool (true))))], [(6, 27, [(.dv [] (.str (c.1))), (.dv [] (.int .i64 (c.2.1))), (.key 90031), (.key 90900)]), (7, 30, [(.key 95031)])], [(90031, some (kcOf false (storesD (c.2.2.1)))), (90900, some (kcOf false (defsD (c.2.2.2)))), (95031, some (kcOf false (txsD (q.set (i).toNat (t.1, t.2.1, t.2.2.1 + 1, (3 : Int), ([] : List StoreT))))))]⟩) (weak_sub ⟨rfl, rfl, rfl, trivial⟩ ⟨rfl, rfl, trivial⟩ ⟨rfl, rfl, (fin_set hit (t.1, t.2.1, t.2.2.1 + 1, (3 : Int), ([] : List StoreT))), trivial⟩ rfl) ?_
     refine z ?_
     refine fin3 (res_cell hT rfl rfl rfl rfl) (res_cell hT rfl rfl rfl rfl) (res_tmp rfl) rfl rfl rfl ?_
     first | exact ⟨rfl, rfl⟩ | skip
   ·skip
    have hok : (runOp d (t.2.1.getD (t.2.2.1).toNat default)).2.2 = true := by simpa using c3
    refine ok_seq ?_
    refine ok_regionD (oB := [3, 4, 6, 7, 9, 10, 13]) (oK := [90031, 90900, 95031]) (by kernel_rfl) rfl rfl ?_
    refine zD 0 ?_
    refine d_take 1 rfl (by kernel_rfl) rfl rfl (pu_nilE rfl (ev_tmp rfl)) rfl rfl rfl rfl ?_
    refine zD 2 ?_
    refine d_take 3 rfl (by kernel_rfl) rfl rfl (pu_loadE1 hT rfl rfl (ev_tmp rfl) rfl (get_mid (off := ((i).toNat * 5 + 2)) (j := 2) (flat_pre (sz := 5) (fun _ => rfl) (Nat.le_of_lt hit)) (by omega) rfl)) rfl rfl rfl rfl ?_
    refine zD 4 ?_
    refine d_take 5 rfl (by kernel_rfl) rfl rfl (pu_nilE rfl (ev_tmp rfl)) rfl rfl rfl rfl ?_
    refine zD 6 ?_
    refine d_take 7 rfl (by kernel_rfl) rfl rfl (pu_loadE1 hT rfl rfl (ev_tmp rfl) rfl (get_mid (off := ((i).toNat * 5 + 1)) (j := 1) (flat_pre (sz := 5) (fun _ => rfl) (Nat.le_of_lt hit)) (by omega) rfl)) rfl rfl rfl rfl ?_
    refine d_take 8 rfl (by kernel_rfl) rfl rfl (pu_lenV hT rfl rfl (ev_nestv (ev_tmp rfl))) rfl rfl rfl rfl ?_
    refine zD 9 ?_
    refine d_call 10 rfl (by kernel_rfl) rfl rfl rfl Tryz.call25 (ok_impl_InRange (n := (t.2.2.1) + (1)) (lo := 0) (hi := ((((t.2.1)).length : Int)) - (1)) ) (as_cons (ev_tmp rfl) (ag_one ac_dv) (as_cons (ev_int (inR_lit rfl)) (ag_one ac_dv) (as_cons (ev_tmp rfl) (ag_one ac_dv) as_nil))) rfl rfl rfl rfl ?_
    refine zD 11 ?_
    refine d_done (by kernel_rfl) ?_
    refine z ?_
    refine yQ rfl (fun c6 => ?_) fun c6 => ?_
    ·skip
     iterate 2 refine z ?_
     refine yO rfl rfl (pu_nilE rfl (ev_tmp rfl)) rfl ?_
     refine z ?_
     refine o_storeE (js := []) (cs := mid ((q.take (i).toNat).flatMap eTx) [.int .i64 (t.1), opsD (t.2.1), .int .i64 ((t.2.2.1) + (1)), .int .i64 (2), storesD (t.2.2.2.2)] ((q.drop ((i).toNat + 1)).flatMap eTx)) hT rfl rfl rfl rfl (ev_tmp rfl) (ev_int (inR_lit rfl)) rfl rfl rfl rfl (ow_cons' (ow_dv rfl) ow_nil rfl) (by decide) (by decide) rfl (le_mid (off := ((i).toNat * 5 + 3)) (n := 1) (j := 3) (flat_pre (sz := 5) (fun _ => rfl) (Nat.le_of_lt hit)) (by omega) (Nat.le_of_ble_eq_true rfl)) (setR_mid (off := ((i).toNat * 5 + 3)) (j := 3) (flat_pre (sz := 5) (fun _ => rfl) (Nat.le_of_lt hit)) (by omega) rfl (Nat.le_of_ble_eq_true rfl)) ?_
     simp only [killT, killB, SV.kill, CV.kill, kk, Nat.reduceBEq]
     refine z ?_
     refine ok_region ?_
     refine z ?_
     refine yO rfl rfl (pu_nilE rfl (ev_tmp rfl)) rfl ?_
     refine z ?_
     refine o_storeE (js := []) (cs := mid ((q.take (i).toNat).flatMap eTx) [.int .i64 (t.1), opsD (t.2.1), .int .i64 ((t.2.2.1) + (1)), .int .i64 (2), .sl 60 3 0 []] ((q.drop ((i).toNat + 1)).flatMap eTx)) hT rfl rfl rfl rfl (ev_tmp rfl) ev_nil rfl rfl rfl rfl (ow_cons' (ow_nilc (e := 60) (sz := 3) rfl) ow_nil rfl) (by decide) (by decide) rfl (le_mid (off := ((i).toNat * 5 + 4)) (n := 1) (j := 4) (flat_pre (sz := 5) (fun _ => rfl) (Nat.le_of_lt hit)) (by omega) (Nat.le_of_ble_eq_true rfl)) (setR_mid (off := ((i).toNat * 5 + 4)) (j := 4) (flat_pre (sz := 5) (fun _ => rfl) (Nat.le_of_lt hit)) (by omega) rfl (Nat.le_of_ble_eq_true rfl)) ?_
     simp only [killT, killB, SV.kill, CV.kill, kk, Nat.reduceBEq]
     refine z ?_
     refine ok_seq ?_
     refine ok_regionW 6 (oB := [3, 4, 7, 9, 10, 13]) (oK := [90031, 90900, 95031]) (by kernel_rfl) rfl rfl ?_
     refine w_take 0 rfl (by kernel_rfl) rfl rfl (pu_loadBoxA hT rfl rfl (ev_tmp rfl) rfl rfl) rfl rfl rfl rfl rfl ?_
     refine w_take 1 rfl (by kernel_rfl) rfl rfl (pu_loadBoxA hT rfl rfl (ev_tmp rfl) rfl rfl) rfl rfl rfl rfl rfl ?_
     refine w_store 2 rfl (by kernel_rfl) rfl hT rfl rfl rfl (ev_tmp rfl) (ev_tmp rfl) rfl rfl rfl rfl rfl rfl ?_
     refine w_chain [3, 4] rfl rfl (by kernel_rfl) ?_
     iterate 3 refine z ?_
     rw [step_end hb1 ht hin hok (by simpa only [tin, Bool.not_eq_true'] using c6)]
     refine ok_weak (σ' := ⟨[(6, .box 6 0), (7, .box 7 0), (8, .one (.dv [] (.bool (true))))], [(6, 27, [(.dv [] (.str ((runOp (d) ((t.2.1.getD (t.2.2.1).toNat default))).1.1))), (.dv [] (.int .i64 ((runOp (d) ((t.2.1.getD (t.2.2.1).toNat default))).1.2.1))), (.key 90031), (.key 90900)]), (7, 30, [(.key 95031)])], [(90031, some (kcOf false (storesD ((runOp d (t.2.1.getD (t.2.2.1).toNat default)).1.2.2.1)))), (90900, some (kcOf false (defsD ((runOp d (t.2.1.getD (t.2.2.1).toNat default)).1.2.2.2)))), (95031, some (kcOf false (txsD (q.set (i).toNat (t.1, t.2.1, t.2.2.1 + 1, (2 : Int), ([] : List StoreT))))))]⟩) (weak_sub ⟨rfl, rfl, rfl, trivial⟩ ⟨rfl, rfl, trivial⟩ ⟨rfl, rfl, (fin_set hit (t.1, t.2.1, t.2.2.1 + 1, (2 : Int), ([] : List StoreT))), trivial⟩ rfl) ?_
     refine z ?_
     refine fin3 (res_cell hT rfl rfl rfl rfl) (res_cell hT rfl rfl rfl rfl) (res_tmp rfl) rfl rfl rfl ?_
     first | exact ⟨rfl, rfl⟩ | skip
    ·skip
     iterate 2 refine z ?_
     refine ok_seq ?_
     refine ok_regionW 6 (oB := [3, 4, 7, 9, 10, 13]) (oK := [90031, 90900, 95031]) (by kernel_rfl) rfl rfl ?_
     refine w_take 0 rfl (by kernel_rfl) rfl rfl (pu_loadBoxA hT rfl rfl (ev_tmp rfl) rfl rfl) rfl rfl rfl rfl rfl ?_
     refine w_take 1 rfl (by kernel_rfl) rfl rfl (pu_loadBoxA hT rfl rfl (ev_tmp rfl) rfl rfl) rfl rfl rfl rfl rfl ?_
     refine w_store 2 rfl (by kernel_rfl) rfl hT rfl rfl rfl (ev_tmp rfl) (ev_tmp rfl) rfl rfl rfl rfl rfl rfl ?_
     refine w_chain [3, 4] rfl rfl (by kernel_rfl) ?_
     iterate 3 refine z ?_
     rw [step_go hb1 ht hin hok (by simpa only [tin, Bool.not_eq_false'] using c6)]
     refine ok_weak (σ' := ⟨[(6, .box 6 0), (7, .box 7 0), (8, .one (.dv [] (.bool (true))))], [(6, 27, [(.dv [] (.str ((runOp (d) ((t.2.1.getD (t.2.2.1).toNat default))).1.1))), (.dv [] (.int .i64 ((runOp (d) ((t.2.1.getD (t.2.2.1).toNat default))).1.2.1))), (.key 90031), (.key 90900)]), (7, 30, [(.key 95031)])], [(90031, some (kcOf false (storesD ((runOp d (t.2.1.getD (t.2.2.1).toNat default)).1.2.2.1)))), (90900, some (kcOf false (defsD ((runOp d (t.2.1.getD (t.2.2.1).toNat default)).1.2.2.2)))), (95031, some (kcOf false (txsD (q.set (i).toNat (t.1, t.2.1, t.2.2.1 + 1, t.2.2.2.1, t.2.2.2.2)))))]⟩) (weak_sub ⟨rfl, rfl, rfl, trivial⟩ ⟨rfl, rfl, trivial⟩ ⟨rfl, rfl, (fin_set hit (t.1, t.2.1, t.2.2.1 + 1, t.2.2.2.1, t.2.2.2.2)), trivial⟩ rfl) ?_
     refine z ?_
     refine fin3 (res_cell hT rfl rfl rfl rfl) (res_cell hT rfl rfl rfl rfl) (res_tmp rfl) rfl rfl rfl ?_
     first | exact ⟨rfl, rfl⟩ | skip
  ·skip
   have hin : tin t t.2.2.1 = false := c2
   iterate 6 refine z ?_
   refine yQ rfl (fun c7 => ?_) fun c7 => ?_
   ·skip
    exact absurd c7 (by simp)
   ·skip
    refine ok_seq ?_
    refine ok_regionD (oB := [3, 4, 6, 7, 9, 10]) (oK := [90031, 90900, 95031]) (by kernel_rfl) rfl rfl ?_
    refine zD 0 ?_
    refine d_take 1 rfl (by kernel_rfl) rfl rfl (pu_nilE rfl (ev_tmp rfl)) rfl rfl rfl rfl ?_
    refine zD 2 ?_
    refine d_take 3 rfl (by kernel_rfl) rfl rfl (pu_loadE1 hT rfl rfl (ev_tmp rfl) rfl (get_mid (off := ((i).toNat * 5 + 2)) (j := 2) (flat_pre (sz := 5) (fun _ => rfl) (Nat.le_of_lt hit)) (by omega) rfl)) rfl rfl rfl rfl ?_
    refine zD 4 ?_
    refine d_take 5 rfl (by kernel_rfl) rfl rfl (pu_nilE rfl (ev_tmp rfl)) rfl rfl rfl rfl ?_
    refine zD 6 ?_
    refine d_take 7 rfl (by kernel_rfl) rfl rfl (pu_loadE1 hT rfl rfl (ev_tmp rfl) rfl (get_mid (off := ((i).toNat * 5 + 1)) (j := 1) (flat_pre (sz := 5) (fun _ => rfl) (Nat.le_of_lt hit)) (by omega) rfl)) rfl rfl rfl rfl ?_
    refine d_take 8 rfl (by kernel_rfl) rfl rfl (pu_lenV hT rfl rfl (ev_nestv (ev_tmp rfl))) rfl rfl rfl rfl ?_
    refine zD 9 ?_
    refine d_call 10 rfl (by kernel_rfl) rfl rfl rfl Tryz.call25 (ok_impl_InRange (n := t.2.2.1) (lo := 0) (hi := ((((t.2.1)).length : Int)) - (1)) ) (as_cons (ev_tmp rfl) (ag_one ac_dv) (as_cons (ev_int (inR_lit rfl)) (ag_one ac_dv) (as_cons (ev_tmp rfl) (ag_one ac_dv) as_nil))) rfl rfl rfl rfl ?_
    refine zD 11 ?_
    refine d_done (by kernel_rfl) ?_
    refine z ?_
    refine yQ rfl (fun c8 => ?_) fun c8 => ?_
    ·skip
     iterate 2 refine z ?_
     refine yO rfl rfl (pu_nilE rfl (ev_tmp rfl)) rfl ?_
     refine z ?_
     refine o_storeE (js := []) (cs := mid ((q.take (i).toNat).flatMap eTx) [.int .i64 (t.1), opsD (t.2.1), .int .i64 (t.2.2.1), .int .i64 (2), storesD (t.2.2.2.2)] ((q.drop ((i).toNat + 1)).flatMap eTx)) hT rfl rfl rfl rfl (ev_tmp rfl) (ev_int (inR_lit rfl)) rfl rfl rfl rfl (ow_cons' (ow_dv rfl) ow_nil rfl) (by decide) (by decide) rfl (le_mid (off := ((i).toNat * 5 + 3)) (n := 1) (j := 3) (flat_pre (sz := 5) (fun _ => rfl) (Nat.le_of_lt hit)) (by omega) (Nat.le_of_ble_eq_true rfl)) (setR_mid (off := ((i).toNat * 5 + 3)) (j := 3) (flat_pre (sz := 5) (fun _ => rfl) (Nat.le_of_lt hit)) (by omega) rfl (Nat.le_of_ble_eq_true rfl)) ?_
     simp only [killT, killB, SV.kill, CV.kill, kk, Nat.reduceBEq]
     refine z ?_
     refine ok_region ?_
     refine z ?_
     refine yO rfl rfl (pu_nilE rfl (ev_tmp rfl)) rfl ?_
     refine z ?_
     refine o_storeE (js := []) (cs := mid ((q.take (i).toNat).flatMap eTx) [.int .i64 (t.1), opsD (t.2.1), .int .i64 (t.2.2.1), .int .i64 (2), .sl 60 3 0 []] ((q.drop ((i).toNat + 1)).flatMap eTx)) hT rfl rfl rfl rfl (ev_tmp rfl) ev_nil rfl rfl rfl rfl (ow_cons' (ow_nilc (e := 60) (sz := 3) rfl) ow_nil rfl) (by decide) (by decide) rfl (le_mid (off := ((i).toNat * 5 + 4)) (n := 1) (j := 4) (flat_pre (sz := 5) (fun _ => rfl) (Nat.le_of_lt hit)) (by omega) (Nat.le_of_ble_eq_true rfl)) (setR_mid (off := ((i).toNat * 5 + 4)) (j := 4) (flat_pre (sz := 5) (fun _ => rfl) (Nat.le_of_lt hit)) (by omega) rfl (Nat.le_of_ble_eq_true rfl)) ?_
     simp only [killT, killB, SV.kill, CV.kill, kk, Nat.reduceBEq]
     refine z ?_
     refine ok_seq ?_
     refine ok_regionW 6 (oB := [3, 4, 7, 9, 10]) (oK := [90031, 90900, 95031]) (by kernel_rfl) rfl rfl ?_
     refine w_take 0 rfl (by kernel_rfl) rfl rfl (pu_loadBoxA hT rfl rfl (ev_tmp rfl) rfl rfl) rfl rfl rfl rfl rfl ?_
     refine w_take 1 rfl (by kernel_rfl) rfl rfl (pu_loadBoxA hT rfl rfl (ev_tmp rfl) rfl rfl) rfl rfl rfl rfl rfl ?_
     refine w_store 2 rfl (by kernel_rfl) rfl hT rfl rfl rfl (ev_tmp rfl) (ev_tmp rfl) rfl rfl rfl rfl rfl rfl ?_
     refine w_chain [3, 4] rfl rfl (by kernel_rfl) ?_
     iterate 3 refine z ?_
     rw [step_no hb1 ht hin]
     refine ok_weak (σ' := ⟨[(6, .box 6 0), (7, .box 7 0), (8, .one (.dv [] (.bool (true))))], [(6, 27, [(.dv [] (.str ((d).1))), (.dv [] (.int .i64 ((d).2.1))), (.key 90031), (.key 90900)]), (7, 30, [(.key 95031)])], [(90031, some (kcOf false (storesD (d.2.2.1)))), (90900, some (kcOf false (defsD (d.2.2.2)))), (95031, some (kcOf false (txsD (q.set (i).toNat (t.1, t.2.1, t.2.2.1, (2 : Int), ([] : List StoreT))))))]⟩) (weak_sub ⟨rfl, rfl, rfl, trivial⟩ ⟨rfl, rfl, trivial⟩ ⟨rfl, rfl, (fin_set hit (t.1, t.2.1, t.2.2.1, (2 : Int), ([] : List StoreT))), trivial⟩ rfl) ?_
     refine z ?_
     refine fin3 (res_cell hT rfl rfl rfl rfl) (res_cell hT rfl rfl rfl rfl) (res_tmp rfl) rfl rfl rfl ?_
     first | exact ⟨rfl, rfl⟩ | skip
    ·skip
     exact absurd c8 (by rw [c2]; simp)

theorem stepTx_w (d : DbT) (q : List TxT) (i : Int) : wDatabase (stepTx d q i).1 ≤ wDatabase d + 1000000 + wList wTx q ∧ wTxQueue (stepTx d q i).2.1 ≤ wTxQueue q + wTxQueue q := by
 unfold stepTx
 split
 ·exact ⟨by dsimp only; omega, by dsimp only; omega⟩
 ·rename_i h
  have hg := st_good (q := q) (i := i) (by simpa using h)
  obtain ⟨t, ht⟩ : ∃ t, t = q.getD i.toNat default := ⟨_, rfl⟩
  rw [← ht]
  have hit : i.toNat < q.length := by omega
  have htw := tx_w hit ht
  have hwt : wTx t = wList wOp t.2.1 + wList wStore t.2.2.2.2 := rfl
  have hwb : wList wStore t.2.2.2.2 = t.2.2.2.2.length + wSum wStore t.2.2.2.2 := rfl
  have hq : wTxQueue q = wList wTx q := rfl
  have hset : ∀ t', wTx t' ≤ wTx t → wTxQueue (q.set i.toNat t') ≤ wTxQueue q + wTxQueue q := fun t' h' => by
   have h1 := wset_le (w := wTx) (y := t') q i.toNat
   have h2 : wTxQueue (q.set i.toNat t') = (q.set i.toNat t').length + wSum wTx (q.set i.toNat t') := rfl
   have h3 : wTxQueue q = q.length + wSum wTx q := rfl
   rw [List.length_set] at h2
   omega
  have e0 : wList wStore [] = 0 := rfl
  have hnil : ∀ a b s : Int, wTx (a, t.2.1, b, s, []) ≤ wTx t := fun a b s => by
   have : wTx (a, t.2.1, b, s, []) = wList wOp t.2.1 + wList wStore [] := rfl
   omega
  unfold stepAt
  split
  ·split
   ·refine ⟨Nat.le_trans (runOp_w d (opOf t)) (by omega), hset _ ?_⟩
    split
    ·exact Nat.le_refl _
    ·exact hnil _ _ _
   ·have := restL_w t.2.2.2.2 d
    exact ⟨by dsimp only; omega, hset _ (hnil _ _ _)⟩
  ·exact ⟨by dsimp only; omega, hset _ (hnil _ _ _)⟩

end Go.Proofs.YtjkpoekgnmgofaaGreat

namespace Go.Proofs.YtjkpoekgnmgofaaGreat
open Go.RowKit
open Go.Proofs
set_option linter.unusedVariables false
set_option linter.unusedSimpArgs false
def posN (n : Str) : List StoreT → Nat
 | [] => 0
 | s :: l => if sLt s.1 n then posN n l + 1 else 0
def insS (l : List StoreT) (j : Nat) (s : StoreT) : List StoreT := l.take j ++ s :: l.drop j
@[reducible] def idxU (d : DbT) (x : DefT) : Int := findI (eqDefB x) d.2.2.2 0
def notN (n : Str) (y : DefT) : Bool := !sEq y.1 n
def notS (n : Str) (s : StoreT) : Bool := !sEq s.1 n
def upI (d : DbT) (u : UpgT) : DbT × Bool :=
 if u.1 = 1 then ((d.1, d.2.1, insS d.2.2.1 (posN u.2.1 d.2.2.1) (u.2.1, [], 0), d.2.2.2), decide (fndS d u.2.1 < 0))
 else if u.1 = 2 then ((d.1, d.2.1, (if 0 ≤ fndS d u.2.1 then d.2.2.1.eraseIdx (fndS d u.2.1).toNat else d.2.2.1), d.2.2.2.filter (notN u.2.1)), decide (0 ≤ fndS d u.2.1))
 else if u.1 = 3 then ((d.1, d.2.1, d.2.2.1, d.2.2.2 ++ [u.2]), decide (idxU d u.2 < 0))
 else if u.1 = 4 then ((d.1, d.2.1, d.2.2.1, (if 0 ≤ idxU d u.2 then d.2.2.2.eraseIdx (idxU d u.2).toNat else d.2.2.2)), decide (0 ≤ idxU d u.2))
 else (d, false)
def upA (d : DbT) (u : UpgT) : DbT × Bool := if (!isDb d || !(upI d u).2 || !isDb (upI d u).1) = true then (d, false) else ((upI d u).1, true)
def dropD (d : DbT) (n : Str) : DbT := (d.1, d.2.1, d.2.2.1.filter (notS n), d.2.2.2.filter (notN n))
theorem posN_step {n : Str} {l : List StoreT} {j : Nat} (hp : posN n l = j + posN n (l.drop j)) (h3 : j < l.length) (h2 : sLt (l.getD (j : Int).toNat default).1 n = true) : posN n l = (j + 1) + posN n (l.drop (j + 1)) := by
 have e : l.drop j = l.getD (j : Int).toNat default :: l.drop (j + 1) := by rw [List.drop_eq_getElem_cons h3]; simp [List.getD, List.getElem?_eq_getElem h3]
 rw [hp, e, posN, if_pos h2]
 omega
theorem posN_stop {n : Str} {l : List StoreT} {j : Nat} (hp : posN n l = j + posN n (l.drop j)) (hj : j ≤ l.length) (h2 : (decide ((j : Int) < (l.length : Int)) && sLt (l.getD (j : Int).toNat default).1 n) = false) : posN n l = j := by
 rcases Nat.lt_or_ge j l.length with h3 | h3
 ·rw [decide_eq_true (by omega : (j : Int) < (l.length : Int)), Bool.true_and] at h2
  have e : l.drop j = l.getD (j : Int).toNat default :: l.drop (j + 1) := by rw [List.drop_eq_getElem_cons h3]; simp [List.getD, List.getElem?_eq_getElem h3]
  rw [hp, e, posN, if_neg (by rw [h2]; simp)]; omega
 ·rw [hp, List.drop_eq_nil_of_le h3, posN]; omega
theorem insS_len {l : List StoreT} {j : Nat} {s : StoreT} (h : j ≤ l.length) : (insS l j s).length = l.length + 1 := by
 rw [insS, List.length_append, List.length_cons, List.length_take, List.length_drop]; omega
def srtN : List StoreT → Prop
 | [] => True
 | y :: ys => (∀ z ∈ ys, sLt y.1 z.1 = true) ∧ srtN ys
theorem srtN_of : ∀ (l : List StoreT), (∀ i, i + 1 < l.length → sLt (l.getD i default).1 (l.getD (i + 1) default).1 = true) → srtN l
 | [], _ => trivial
 | [y], _ => ⟨by simp, trivial⟩
 | y :: z :: l, h => by
  have ih := srtN_of (z :: l) (fun i hi => by have := h (i + 1) (by simp only [List.length_cons] at hi ⊢; omega); simpa using this)
  have h0 : sLt y.1 z.1 = true := by simpa using h 0 (by simp)
  refine ⟨fun u hu => ?_, ih⟩
  rcases List.mem_cons.1 hu with rfl | hu
  ·exact h0
  ·exact bl_trans _ _ _ h0 (ih.1 u hu)
theorem db_srt {d : DbT} (h : isDb d = true) : srtN d.2.2.1 := by
 refine srtN_of _ (fun i hi => ?_)
 rw [isDb, Bool.and_eq_true, Bool.and_eq_true] at h
 have h1 := h.2.1
 rw [dbSt, List.all_eq_true] at h1
 have h2 := h1 (i + 1) (List.mem_range.2 hi)
 rw [← stBadS_eq] at h2
 simp only [stBadS, Bool.not_eq_true', Bool.or_eq_false_iff] at h2
 have h3 := h2.2
 rw [decide_eq_true (by omega : (0 : Int) < ((i + 1 : Nat) : Int)), Bool.true_and, show (((i + 1 : Nat) : Int) - 1).toNat = i by omega, Int.toNat_natCast] at h3
 simpa using h3
theorem sLt_ne {a b : Str} (h : sLt a b = true) : sEq a b = false ∧ sEq b a = false := by
 have e : sEq a b = false := by
  cases h2 : sEq a b with
  | false => rfl
  | true =>
   have : a.toList = b.toList := by simpa [sEq] using h2
   rw [sLt, this, bl_irr] at h; cases h
 exact ⟨e, by rw [sEq_comm]; exact e⟩
theorem notS_has (n : Str) (s : StoreT) : notS n s = !hasName n s := rfl
theorem filtS_all {n : Str} {l : List StoreT} (h : ∀ z ∈ l, sEq z.1 n = false) : l.filter (notS n) = l := by
 rw [List.filter_eq_self]
 intro y hy
 rw [notS, h y hy]; rfl
theorem srt_filt {n : Str} : ∀ (l : List StoreT) (i : Int), 0 ≤ i → srtN l → i ≤ findI (hasName n) l i → l.filter (notS n) = l.eraseIdx (findI (hasName n) l i - i).toNat
 | [], i, hi, _, h => by rw [findI] at h; omega
 | y :: ys, i, hi, hs, h => by
  by_cases hp : hasName n y = true
  ·rw [findI, if_pos hp, show (i - i).toNat = 0 by omega, List.eraseIdx_cons_zero, List.filter_cons_of_neg (by rw [notS_has, hp]; simp)]
   refine filtS_all (fun z hz => ?_)
   have h1 := hs.1 z hz
   cases h2 : sEq z.1 n with
   | false => rfl
   | true =>
    have e1 : z.1.toList = n.toList := by simpa [sEq] using h2
    have e2 : y.1.toList = n.toList := by simpa [hasName, sEq] using hp
    rw [sLt, e1, e2, bl_irr] at h1; cases h1
  ·rw [findI, if_neg hp] at h ⊢
   have h1 : i + 1 ≤ findI (hasName n) ys (i + 1) := by
    rcases findI_cases (p := hasName n) (d := default) ys (i + 1) (by omega) with ⟨h2, _⟩ | ⟨m, _, h2, _, _⟩ <;> omega
   have ih := srt_filt ys (i + 1) (by omega) hs.2 h1
   rw [show (findI (hasName n) ys (i + 1) - i).toNat = (findI (hasName n) ys (i + 1) - (i + 1)).toNat + 1 by omega, List.eraseIdx_cons_succ, List.filter_cons_of_pos (by rw [notS_has]; simpa using hp), ih]
theorem drop_eq {d : DbT} {n : Str} (h : isDb d = true) (hk : 0 ≤ fndS d n) : d.2.2.1.filter (notS n) = d.2.2.1.eraseIdx (fndS d n).toNat := by
 have := srt_filt (n := n) d.2.2.1 0 (by omega) (db_srt h) hk
 rw [this, Int.sub_zero]
section
variable {d : DbT} {u : UpgT}
theorem upA_bad (h : isDb d = false) : upA d u = (d, false) := by rw [upA, if_pos (by rw [h]; rfl)]
theorem upA_no (h : (upI d u).2 = false) : upA d u = (d, false) := by rw [upA, if_pos (by rw [h]; simp)]
theorem upA_out {o : DbT} (e : isDb d = true → (upI d u).1 = o) (h : (!isDb d || !isDb o) = true) : upA d u = (d, false) := by
 cases hd : isDb d with
 | false => exact upA_bad hd
 | true =>
  rw [hd] at h
  rw [upA, if_pos (by rw [e hd]; simp only [Bool.not_true, Bool.false_or] at h; rw [h]; simp)]
theorem upA_yes {o : DbT} (e : isDb d = true → (upI d u).1 = o) (e2 : (upI d u).2 = true) (h : (!isDb d || !isDb o) = false) : upA d u = (o, true) := by
 simp only [Bool.or_eq_false_iff, Bool.not_eq_false'] at h
 rw [upA, if_neg (by rw [e h.1, h.1, e2, h.2]; simp), e h.1]
theorem isDb_un0 {x : DefT} (h : fndS d x.1 < 0) : isDb (d.1, d.2.1, d.2.2.1, d.2.2.2 ++ [x]) = false := by
 refine isDb_un (k := d.2.2.2.length) (by simp) ?_
 have e : (d.2.2.2 ++ [x]).getD ((d.2.2.2.length : Nat) : Int).toNat default = x := by simp [List.getD]
 unfold unBad
 simp only [e]
 rw [decide_eq_true (show fndS (d.1, d.2.1, d.2.2.1, d.2.2.2 ++ [x]) x.1 < 0 from h)]
 rfl
theorem upA_un0 (h1 : u.1 = 3) (h : fndS d u.2.1 < 0) : upA d u = (d, false) := by
 have e : (upI d u).1 = (d.1, d.2.1, d.2.2.1, d.2.2.2 ++ [u.2]) := by unfold upI; rw [if_neg (by omega), if_neg (by omega), if_pos h1]
 rw [upA, if_pos (by rw [e, isDb_un0 h]; simp)]
theorem upI_1 (h1 : u.1 = 1) : upI d u = ((d.1, d.2.1, insS d.2.2.1 (posN u.2.1 d.2.2.1) (u.2.1, [], 0), d.2.2.2), decide (fndS d u.2.1 < 0)) := by unfold upI; rw [if_pos h1]
theorem upI_2 (h1 : u.1 = 2) (h : 0 ≤ fndS d u.2.1) : upI d u = ((d.1, d.2.1, d.2.2.1.eraseIdx (fndS d u.2.1).toNat, d.2.2.2.filter (notN u.2.1)), decide (0 ≤ fndS d u.2.1)) := by unfold upI; rw [if_neg (by omega), if_pos h1, if_pos h]
theorem upI_2n (h1 : u.1 = 2) (h : ¬ 0 ≤ fndS d u.2.1) : upI d u = ((d.1, d.2.1, d.2.2.1, d.2.2.2.filter (notN u.2.1)), decide (0 ≤ fndS d u.2.1)) := by unfold upI; rw [if_neg (by omega), if_pos h1, if_neg h]
theorem upI_3 (h1 : u.1 = 3) : upI d u = ((d.1, d.2.1, d.2.2.1, d.2.2.2 ++ [u.2]), decide (idxU d u.2 < 0)) := by unfold upI; rw [if_neg (by omega), if_neg (by omega), if_pos h1]
theorem upI_4 (h1 : u.1 = 4) (h : 0 ≤ idxU d u.2) : upI d u = ((d.1, d.2.1, d.2.2.1, d.2.2.2.eraseIdx (idxU d u.2).toNat), decide (0 ≤ idxU d u.2)) := by unfold upI; rw [if_neg (by omega), if_neg (by omega), if_neg (by omega), if_pos h1, if_pos h]
theorem upI_4n (h1 : u.1 = 4) (h : ¬ 0 ≤ idxU d u.2) : upI d u = (d, decide (0 ≤ idxU d u.2)) := by unfold upI; rw [if_neg (by omega), if_neg (by omega), if_neg (by omega), if_pos h1, if_neg h]
theorem upI_0 (h1 : u.1 ≠ 1) (h2 : u.1 ≠ 2) (h3 : u.1 ≠ 3) (h4 : u.1 ≠ 4) : upI d u = (d, false) := by unfold upI; rw [if_neg h1, if_neg h2, if_neg h3, if_neg h4]
theorem upA_def (h1 : ¬ (u.1 = 1 ∧ fndS d u.2.1 < 0)) (h2 : ¬ (u.1 = 2 ∧ 0 ≤ fndS d u.2.1)) (h3 : ¬ (u.1 = 3 ∧ 0 ≤ fndS d u.2.1 ∧ idxU d u.2 < 0)) (h4 : ¬ (u.1 = 4 ∧ 0 ≤ idxU d u.2)) : upA d u = (d, false) := by
 by_cases e1 : u.1 = 1
 ·exact upA_no (by rw [upI_1 e1]; exact decide_eq_false (fun h => h1 ⟨e1, h⟩))
 by_cases e2 : u.1 = 2
 ·have h : ¬ 0 ≤ fndS d u.2.1 := fun h => h2 ⟨e2, h⟩
  exact upA_no (by rw [upI_2n e2 h]; exact decide_eq_false h)
 by_cases e3 : u.1 = 3
 ·by_cases h : fndS d u.2.1 < 0
  ·exact upA_un0 e3 h
  ·exact upA_no (by rw [upI_3 e3]; exact decide_eq_false (fun h' => h3 ⟨e3, by omega, h'⟩))
 by_cases e4 : u.1 = 4
 ·have h : ¬ 0 ≤ idxU d u.2 := fun h => h4 ⟨e4, h⟩
  exact upA_no (by rw [upI_4n e4 h]; exact decide_eq_false h)
 exact upA_no (by rw [upI_0 e1 e2 e3 e4])
theorem dropD_eq (h1 : u.1 = 2) (h : 0 ≤ fndS d u.2.1) (hd : isDb d = true) : (upI d u).1 = dropD d u.2.1 := by rw [upI_2 h1 h, dropD, drop_eq hd h]
end

end Go.Proofs.YtjkpoekgnmgofaaGreat

namespace Go.Proofs.YtjkpoekgnmgofaaGreat
open Go.RowKit
open Go.Proofs
set_option linter.unusedVariables false
set_option linter.unusedSimpArgs false

section
variable {α : Type} {enc : α → List DV} {sz : Nat} {x : List α} {i j : Int}
theorem er_len (h0 : 0 ≤ i) (hlt : i < (x.length : Int)) : x.length - 1 = (x.eraseIdx i.toNat).length := by rw [List.length_eraseIdx_of_lt (by omega)]
theorem er_fl (hs : ∀ y, (enc y).length = sz) (h0 : 0 ≤ i) (hlt : i < (x.length : Int)) : ((x.eraseIdx i.toNat).flatMap enc).length = (x.length - 1) * sz := by rw [fl_len hs, ← er_len h0 hlt]
theorem er_app (hs : ∀ y, (enc y).length = sz) (h0 : 0 ≤ i) (hj : j = i + 1) (hlt : i < (x.length : Int)) : (x.flatMap enc).take (i.toNat * sz) ++ ((x.flatMap enc).drop (j.toNat * sz) ++ List.replicate ((j.toNat - i.toNat) * sz) .hole) = (x.eraseIdx i.toNat).flatMap enc ++ List.replicate sz .hole := by
 have e1 : j.toNat = i.toNat + 1 := by omega
 rw [e1, (take_flat hs i.toNat x).1, (take_flat hs (i.toNat + 1) x).2, show (i.toNat + 1 - i.toNat) * sz = sz by rw [show i.toNat + 1 - i.toNat = 1 by omega, Nat.one_mul], List.eraseIdx_eq_take_drop_succ, List.flatMap_append, List.append_assoc]
theorem er_cut {m : Nat} (hm : m = x.length - 1) (hs : ∀ y, (enc y).length = sz) (h0 : 0 ≤ i) (hlt : i < (x.length : Int)) : ((x.eraseIdx i.toNat).flatMap enc ++ List.replicate sz DV.hole).take (m * sz) = (x.eraseIdx i.toNat).flatMap enc := by
 subst hm
 exact List.take_left' (er_fl hs h0 hlt)
variable [Inhabited α] {q : α → Bool}
end
end Go.Proofs.YtjkpoekgnmgofaaGreat

namespace Go.Proofs.YtjkpoekgnmgofaaGreat
open Go.RowKit
open Go.Proofs
set_option linter.unusedVariables false
set_option linter.unusedSimpArgs false

theorem sub_loS {o : List StoreT} {j : Nat} : ([] : List DV) ++ sub (0 * 3) ((((j : Nat) : Int).toNat - 0) * 3) (o.flatMap eStore) = (o.take j).flatMap eStore := by
 obtain ⟨h1, h2⟩ := take_flat (enc := eStore) (sz := 3) (fun _ => rfl) j o
 rw [Int.toNat_natCast, Nat.sub_zero, Nat.zero_mul, sub, List.drop_zero, List.nil_append, h1]
theorem holed_loS {o : List StoreT} {j : Nat} : holed (o.flatMap eStore) (0 * 3) ((((j : Nat) : Int).toNat - 0) * 3) = List.replicate (j * 3) .hole ++ (o.drop j).flatMap eStore := by
 obtain ⟨h1, h2⟩ := take_flat (enc := eStore) (sz := 3) (fun _ => rfl) j o
 rw [Int.toNat_natCast, Nat.sub_zero, Nat.zero_mul, holed, List.drop_zero, h2]; rfl
theorem sub_hiS {o : List StoreT} {j : Nat} {el : StoreT} (hj : j ≤ o.length) : (o.take j ++ [el]).flatMap eStore ++ sub (((j : Nat) : Int).toNat * 3) ((o.length - ((j : Nat) : Int).toNat) * 3) (List.replicate (j * 3) .hole ++ (o.drop j).flatMap eStore) = (insS o j el).flatMap eStore := by
 have hl : ((o.drop j).flatMap eStore).length = (o.length - j) * 3 := by rw [fl_len (sz := 3) (fun _ => rfl), List.length_drop]
 have e : (List.replicate (j * 3) DV.hole ++ (o.drop j).flatMap eStore).drop (j * 3) = (o.drop j).flatMap eStore := by
  have h := List.drop_left (l₁ := List.replicate (j * 3) DV.hole) (l₂ := (o.drop j).flatMap eStore)
  rwa [List.length_replicate] at h
 rw [Int.toNat_natCast, sub, e, List.take_of_length_le (l := (o.drop j).flatMap eStore) (by rw [hl]; exact Nat.le_refl _), insS, List.flatMap_append, List.flatMap_append, List.flatMap_cons, List.flatMap_cons, List.flatMap_nil, List.append_nil, List.append_assoc]
section
variable {α : Type} [Inhabited α] {enc : α → List DV} {p : α → Bool} {xs : List α} {k : Nat}
theorem fltG (hk : k < xs.length) : (xs.take (k + 1)).filter p = (xs.take k).filter p ++ (if p (xs.getD (k : Int).toNat default) then [xs.getD (k : Int).toNat default] else []) := by
 rw [List.take_add_one, List.getElem?_eq_getElem hk, List.filter_append, getD_at hk]
 congr 1
 simp [List.filter]
 split <;> rename_i h <;> simp [h]
theorem fltG_yes (hk : k < xs.length) (h : p (xs.getD (k : Int).toNat default) = true) : ((xs.take k).filter p).flatMap enc ++ enc (xs.getD (k : Int).toNat default) = ((xs.take (k + 1)).filter p).flatMap enc ∧ ((xs.take k).filter p).length + 1 = ((xs.take (k + 1)).filter p).length := by
 rw [fltG hk, if_pos h, List.flatMap_append, List.flatMap_cons, List.flatMap_nil, List.append_nil, List.length_append]
 exact ⟨rfl, rfl⟩
theorem fltG_no (hk : k < xs.length) (h : p (xs.getD (k : Int).toNat default) = false) : (xs.take k).filter p = (xs.take (k + 1)).filter p := by
 rw [fltG hk, if_neg (by rw [h]; simp), List.append_nil]
end
theorem ok_spec_l8Index {d : DbT} {u : UpgT}  : PFn Tryz.prog 103 [.agg [(.dv [] (.str (d.1))), (.dv [] (.int .i64 (d.2.1))), (.dv [] (storesD (d.2.2.1))), (.dv [] (defsD (d.2.2.2)))], .agg [(.dv [] (.int .i64 (u.1))), (.dv [] (.str (u.2.1))), (.dv [] (.str (u.2.2)))]] (.one (.dv [] (.int .i64 (findI (eqDefB u.2) d.2.2.2 0)))) := by
 refine ⟨fn_intro Tryz.func103 rfl Tryz.ntmps103 Tryz.results103 rfl (fun C => ?_)⟩
 refine yF 0 0 rfl rfl fun f0_0 => ?_
 refine yF 0 1 rfl rfl fun f0_1 => ?_
 refine yF 0 2 rfl rfl fun f0_2 => ?_
 refine yF 0 3 rfl rfl fun f0_3 => ?_
 refine yF 1 0 rfl rfl fun f1_0 => ?_
 refine yF 1 1 rfl rfl fun f1_1 => ?_
 refine yF 1 2 rfl rfl fun f1_2 => ?_
 iterate 10 refine z ?_
 refine ok_loop (ι := Nat) (fun zz => ⟨[(2, .box 2 0), (3, .box 3 0), (5, .one (.dv [] (.int .i64 ((zz : Int)))))], [(2, 27, [(.dv [] (.str (d.1))), (.dv [] (.int .i64 (d.2.1))), (.dv [] (storesD (d.2.2.1))), (.dv [] (defsD (d.2.2.2)))]), (3, 110, [(.dv [] (.int .i64 (u.1))), (.dv [] (.str (u.2.1))), (.dv [] (.str (u.2.2)))])], []⟩) (fun zz => zz ≤ d.2.2.2.length ∧ (d.2.2.2.take zz).any (eqDefB u.2) = false) (fun zz => d.2.2.2.length - zz) (0) ?_ (weak_sub ⟨rfl, rfl, rfl, trivial⟩ ⟨rfl, rfl, trivial⟩ trivial rfl) (fun zz hx => ?_)
 ·exact ⟨Nat.zero_le _, rfl⟩
 obtain ⟨k, rfl⟩ : ∃ v, v = zz := ⟨_, rfl⟩
 replace hx : k ≤ d.2.2.2.length ∧ (d.2.2.2.take k).any (eqDefB u.2) = false := hx
 obtain ⟨hk, hall⟩ := hx
 show Ok _ _ _ _ _ (⟨[(2, .box 2 0), (3, .box 3 0), (5, .one (.dv [] (.int .i64 ((k : Int)))))], [(2, 27, [(.dv [] (.str (d.1))), (.dv [] (.int .i64 (d.2.1))), (.dv [] (storesD (d.2.2.1))), (.dv [] (defsD (d.2.2.2)))]), (3, 110, [(.dv [] (.int .i64 (u.1))), (.dv [] (.str (u.2.1))), (.dv [] (.str (u.2.2)))])], []⟩ : St)
 iterate 8 refine z ?_
 refine yQ rfl (fun c1 => ?_) fun c1 => ?_
 ·skip
  have d1 := of_decide_eq_true c1
  iterate 4 refine z ?_
  refine ok_seq ?_
  refine ok_regionD (oB := [2, 3]) (oK := []) (by kernel_rfl) rfl rfl ?_
  refine zD 0 ?_
  refine zD 1 ?_
  refine zD 2 ?_
  refine zD 3 ?_
  refine zD 4 ?_
  refine zD 5 ?_
  refine zD 6 ?_
  refine zD 7 ?_
  refine zD 8 ?_
  refine zD 9 ?_
  refine zDG 10 ?_
  refine zDG 11 ?_
  refine zDG 12 ?_
  refine zDG 13 ?_
  refine zDG 14 ?_
  refine zDG 15 ?_
  refine zDG 16 ?_
  refine zDG 17 ?_
  refine zDG 18 ?_
  refine zD 19 ?_
  refine d_done (by kernel_rfl) ?_
  refine z ?_
  refine yQ rfl (fun c2 => ?_) fun c2 => ?_
  ·skip
   iterate 11 refine z ?_
   exact (findI_at (p := eqDefB u.2) (d := default) hall (by omega) (by rw [eqDef_comm]; exact c2)).symm
  ·skip
   iterate 3 refine z ?_
   refine ok_region ?_
   iterate 4 refine z ?_
   refine ⟨k + 1, ?_, ?_, weak_sub ⟨rfl, rfl, rfl, trivial⟩ ⟨rfl, rfl, trivial⟩ trivial rfl⟩
   ·exact ⟨by omega, any_stepI (d := default) hall (by omega) (by rw [eqDef_comm]; exact c2)⟩
   ·omega
 ·skip
  have d1 := of_decide_eq_false c1
  iterate 10 refine z ?_
  exact (findI_none (p := eqDefB u.2) hall (by omega)).symm
theorem ok_spec_l8Drop {d : DbT} {n : Str} (hb : wDatabase d ≤ 549755813888) : KFn Tryz.prog 104 [.agg [(.dv [] (.str (d.1))), (.dv [] (.int .i64 (d.2.1))), (.dv [] (storesD (d.2.2.1))), (.dv [] (defsD (d.2.2.2)))], .one (.dv [] (.str (n)))] (.agg [(.dv [] (.str ((dropD d n).1))), (.dv [] (.int .i64 ((dropD d n).2.1))), (.key 31), (.key 900)]) [(31, some (kcOf false (storesD ((dropD d n).2.2.1)))), (900, some (kcOf false (defsD ((dropD d n).2.2.2))))] := by
 refine ⟨fn_intro Tryz.func104 rfl Tryz.ntmps104 Tryz.results104 rfl (fun C => ?_)⟩
 have hw4 : wDatabase d = d.1.size + wList wStore d.2.2.1 + wList wIndexDef d.2.2.2 := rfl
 have hw5 : wList wStore d.2.2.1 = d.2.2.1.length + wSum wStore d.2.2.1 := rfl
 have hw6 : wList wIndexDef d.2.2.2 = d.2.2.2.length + wSum wIndexDef d.2.2.2 := rfl
 refine yF 0 0 rfl rfl fun f0_0 => ?_
 refine yF 0 1 rfl rfl fun f0_1 => ?_
 refine yF 0 2 rfl rfl fun f0_2 => ?_
 refine yF 0 3 rfl rfl fun f0_3 => ?_
 refine ok_fact (x := .tmp 1) (ev_tmp rfl) fun f1 => ?_
 iterate 9 refine z ?_
 refine yO rfl rfl (pu_build hT hB rfl rfl rfl (bp_cons (ev_tmp rfl) rfl rfl rfl rfl rfl (bp_cons (ev_tmp rfl) rfl rfl rfl rfl rfl bp_nil))) rfl ?_
 iterate 3 refine z ?_
 refine ok_seq ?_
 refine ok_seq ?_
 refine ok_weak (weak_nilB 31 (b := 5) (i := 2) (e := 60) (sz := 3) rfl rfl rfl rfl rfl) ?_
 simp only [killT, killB, SV.kill, CV.kill, kk, Nat.reduceBEq]
 refine ok_weak (weak_nilB 900 (b := 5) (i := 3) (e := 78) (sz := 2) rfl rfl rfl rfl rfl) ?_
 simp only [killT, killB, SV.kill, CV.kill, kk, Nat.reduceBEq]
 refine ok_region ?_
 iterate 3 refine z ?_
 refine ok_loop (ι := Nat) (fun zz => ⟨[(1, .one (.dv [] (.str (n)))), (2, .box 2 0), (4, .box 4 0), (5, .box 5 0), (6, .one (.dv [] (.int .i64 ((zz : Int)))))], [(2, 27, [(.dv [] (.str (d.1))), (.dv [] (.int .i64 (d.2.1))), (.dv [] (storesD (d.2.2.1))), (.dv [] (defsD (d.2.2.2)))]), (4, 27, [(.dv [] (.str (ByteArray.empty))), (.dv [] (.int .i64 (0))), .nil, .nil]), (5, 27, [(.dv [] (.str (d.1))), (.dv [] (.int .i64 (d.2.1))), (.key 31), (.key 900)])], [(31, some (kcOf false (.sl 60 3 (((d.2.2.1.take zz).filter (notS n)).length) (((d.2.2.1.take zz).filter (notS n)).flatMap eStore)))), (900, some (kcOf false (.sl 78 2 (0) ([]))))]⟩) (fun zz => zz ≤ d.2.2.1.length) (fun zz => d.2.2.1.length - zz) (0) ?_ (weak_sub ⟨rfl, rfl, rfl, rfl, rfl, trivial⟩ ⟨rfl, rfl, rfl, trivial⟩ ⟨rfl, rfl, trivial⟩ rfl) (fun zz hx => ?_)
 ·exact Nat.zero_le _
 obtain ⟨k, rfl⟩ : ∃ v, v = zz := ⟨_, rfl⟩
 replace hx : k ≤ d.2.2.1.length := hx
 have hw := fun h => wSum_succ wStore d.2.2.1 k h
 show Ok _ _ _ _ _ (⟨[(1, .one (.dv [] (.str (n)))), (2, .box 2 0), (4, .box 4 0), (5, .box 5 0), (6, .one (.dv [] (.int .i64 ((k : Int)))))], [(2, 27, [(.dv [] (.str (d.1))), (.dv [] (.int .i64 (d.2.1))), (.dv [] (storesD (d.2.2.1))), (.dv [] (defsD (d.2.2.2)))]), (4, 27, [(.dv [] (.str (ByteArray.empty))), (.dv [] (.int .i64 (0))), .nil, .nil]), (5, 27, [(.dv [] (.str (d.1))), (.dv [] (.int .i64 (d.2.1))), (.key 31), (.key 900)])], [(31, some (kcOf false (.sl 60 3 (((d.2.2.1.take k).filter (notS n)).length) (((d.2.2.1.take k).filter (notS n)).flatMap eStore)))), (900, some (kcOf false (.sl 78 2 (0) ([]))))]⟩ : St)
 iterate 8 refine z ?_
 refine yQ rfl (fun c1 => ?_) fun c1 => ?_
 ·skip
  have d1 := of_decide_eq_true c1
  have hk2 : k < d.2.2.1.length := by omega
  obtain ⟨hw1, hw2⟩ := hw hk2
  iterate 14 refine z ?_
  refine yQ rfl (fun c2 => ?_) fun c2 => ?_
  ·skip
   refine ok_regionH [0, 1, 2, 3, 4, 5, 6, 7, 8] (oB := [2, 4, 5]) (oK := [31, 900]) (by kernel_rfl) rfl rfl ?_
   refine zD 0 ?_
   refine zD 1 ?_
   refine zD 2 ?_
   refine zD 3 ?_
   refine zD 4 ?_
   refine zD 5 ?_
   refine zD 6 ?_
   refine d_callK 35000 7 rfl (by kernel_rfl) rfl rfl rfl Tryz.call54 (ok_spec_l6Copy (x := (d.2.2.1.getD (k : Int).toNat default)) (by omega)) (as_cons (ev_tmp rfl) (ag_agg (ag_cons ac_dv (ag_cons ac_dv (ag_cons ac_dv ag_nil)))) as_nil) rfl rfl rfl rfl rfl ?_
   refine d_build1 (k := 36) (js := [35030]) 8 hT rfl (by kernel_rfl) rfl rfl rfl rfl rfl rfl rfl rfl rfl (ev_tmp rfl) rfl rfl (ow_cons' (ow_dv rfl) (ow_cons' (ow_key rfl) (ow_cons' (ow_dv rfl) ow_nil rfl) rfl) rfl) (by decide) (by decide) rfl rfl (by decide) ?_
   simp only [killT, killB, SV.kill, CV.kill, kk, Nat.reduceBEq]
   refine d_chain [9, 10, 11] rfl rfl (by kernel_rfl) ?_
   refine o_appK (k := 31) (j := 36) (cs := ((d.2.2.1.take (k + 1)).filter (notS n)).flatMap eStore) (n := ((d.2.2.1.take (k + 1)).filter (notS n)).length) hT rfl rfl rfl rfl rfl rfl rfl (ev_tmp rfl) rfl rfl rfl (ev_tmp rfl) rfl rfl (by decide) (by have := List.length_filter_le (notS n) (d.2.2.1.take k); rw [List.length_take] at this; dsimp only [kcOf, KC.old]; omega) (by have := List.length_filter_le (notS n) (d.2.2.1.take k); rw [List.length_take] at this; dsimp only [kcOf, KC.old]; omega) ((fltG_yes (enc := eStore) hk2 c2).2) ((fltG_yes (enc := eStore) hk2 c2).1) ?_
   simp only [killT, killB, SV.kill, CV.kill, kk, Nat.reduceBEq]
   iterate 2 refine z ?_
   refine ops_nil ?_
   iterate 2 refine z ?_
   refine ok_region ?_
   iterate 4 refine z ?_
   refine ⟨k + 1, ?_, ?_, weak_sub ⟨rfl, rfl, rfl, rfl, rfl, trivial⟩ ⟨rfl, rfl, rfl, trivial⟩ ⟨rfl, rfl, trivial⟩ rfl⟩
   ·omega
   ·omega
  ·skip
   iterate 3 refine z ?_
   refine ok_region ?_
   iterate 4 refine z ?_
   refine ⟨k + 1, ?_, ?_, weak_sub ⟨rfl, rfl, rfl, rfl, rfl, trivial⟩ ⟨rfl, rfl, rfl, trivial⟩ ⟨(congrArg (fun l : List (StoreT) => some (some (KC.mk false 60 3 l.length (l.flatMap eStore)))) (fltG_no (p := notS n) hk2 c2)), rfl, trivial⟩ rfl⟩
   ·omega
   ·omega
 ·skip
  have d1 := of_decide_eq_false c1
  have hfin : d.2.2.1.take k = d.2.2.1 := List.take_of_length_le (by omega)
  iterate 10 refine z ?_
  refine ok_loop (ι := Nat) (fun zz => ⟨[(1, .one (.dv [] (.str (n)))), (2, .box 2 0), (4, .box 4 0), (5, .box 5 0), (7, .one (.dv [] (.int .i64 ((zz : Int)))))], [(2, 27, [(.dv [] (.str (d.1))), (.dv [] (.int .i64 (d.2.1))), (.dv [] (storesD (d.2.2.1))), (.dv [] (defsD (d.2.2.2)))]), (4, 27, [(.dv [] (.str (ByteArray.empty))), (.dv [] (.int .i64 (0))), .nil, .nil]), (5, 27, [(.dv [] (.str (d.1))), (.dv [] (.int .i64 (d.2.1))), (.key 31), (.key 900)])], [(900, some (kcOf false (.sl 78 2 (((d.2.2.2.take zz).filter (notN n)).length) (((d.2.2.2.take zz).filter (notN n)).flatMap eDef)))), (31, some (kcOf false (.sl 60 3 (((d.2.2.1.take k).filter (notS n)).length) (((d.2.2.1.take k).filter (notS n)).flatMap eStore))))]⟩) (fun zz => zz ≤ d.2.2.2.length) (fun zz => d.2.2.2.length - zz) (0) ?_ (weak_sub ⟨rfl, rfl, rfl, rfl, rfl, trivial⟩ ⟨rfl, rfl, rfl, trivial⟩ ⟨rfl, rfl, trivial⟩ rfl) (fun zz hx => ?_)
  ·exact Nat.zero_le _
  obtain ⟨k2, rfl⟩ : ∃ v, v = zz := ⟨_, rfl⟩
  replace hx : k2 ≤ d.2.2.2.length := hx
  have hw := fun h => wSum_succ wIndexDef d.2.2.2 k2 h
  show Ok _ _ _ _ _ (⟨[(1, .one (.dv [] (.str (n)))), (2, .box 2 0), (4, .box 4 0), (5, .box 5 0), (7, .one (.dv [] (.int .i64 ((k2 : Int)))))], [(2, 27, [(.dv [] (.str (d.1))), (.dv [] (.int .i64 (d.2.1))), (.dv [] (storesD (d.2.2.1))), (.dv [] (defsD (d.2.2.2)))]), (4, 27, [(.dv [] (.str (ByteArray.empty))), (.dv [] (.int .i64 (0))), .nil, .nil]), (5, 27, [(.dv [] (.str (d.1))), (.dv [] (.int .i64 (d.2.1))), (.key 31), (.key 900)])], [(900, some (kcOf false (.sl 78 2 (((d.2.2.2.take k2).filter (notN n)).length) (((d.2.2.2.take k2).filter (notN n)).flatMap eDef)))), (31, some (kcOf false (.sl 60 3 (((d.2.2.1.take k).filter (notS n)).length) (((d.2.2.1.take k).filter (notS n)).flatMap eStore))))]⟩ : St)
  iterate 8 refine z ?_
  refine yQ rfl (fun c3 => ?_) fun c3 => ?_
  ·skip
   have d3 := of_decide_eq_true c3
   have hk2 : k2 < d.2.2.2.length := by omega
   iterate 14 refine z ?_
   refine yQ rfl (fun c4 => ?_) fun c4 => ?_
   ·skip
    refine ok_regionH [0, 1, 2, 3, 4, 5, 6, 7] (oB := [2, 4, 5]) (oK := [31, 900]) (by kernel_rfl) rfl rfl ?_
    refine zD 0 ?_
    refine zD 1 ?_
    refine zD 2 ?_
    refine zD 3 ?_
    refine zD 4 ?_
    refine zD 5 ?_
    refine zD 6 ?_
    refine d_build1 (k := 61) (js := []) 7 hT rfl (by kernel_rfl) rfl rfl rfl rfl rfl rfl rfl rfl rfl (ev_tmp rfl) rfl rfl (ow_cons' (ow_dv rfl) (ow_cons' (ow_dv rfl) ow_nil rfl) rfl) (by decide) (by decide) rfl rfl (by decide) ?_
    simp only [killT, killB, SV.kill, CV.kill, kk, Nat.reduceBEq]
    refine d_chain [8, 9, 10] rfl rfl (by kernel_rfl) ?_
    refine o_appK (k := 900) (j := 61) (cs := ((d.2.2.2.take (k2 + 1)).filter (notN n)).flatMap eDef) (n := ((d.2.2.2.take (k2 + 1)).filter (notN n)).length) hT rfl rfl rfl rfl rfl rfl rfl (ev_tmp rfl) rfl rfl rfl (ev_tmp rfl) rfl rfl (by decide) (by have := List.length_filter_le (notN n) (d.2.2.2.take k2); rw [List.length_take] at this; dsimp only [kcOf, KC.old]; omega) (by have := List.length_filter_le (notN n) (d.2.2.2.take k2); rw [List.length_take] at this; dsimp only [kcOf, KC.old]; omega) ((fltG_yes (enc := eDef) hk2 c4).2) ((fltG_yes (enc := eDef) hk2 c4).1) ?_
    simp only [killT, killB, SV.kill, CV.kill, kk, Nat.reduceBEq]
    iterate 2 refine z ?_
    refine ops_nil ?_
    iterate 2 refine z ?_
    refine ok_region ?_
    iterate 4 refine z ?_
    refine ⟨k2 + 1, ?_, ?_, weak_sub ⟨rfl, rfl, rfl, rfl, rfl, trivial⟩ ⟨rfl, rfl, rfl, trivial⟩ ⟨rfl, rfl, trivial⟩ rfl⟩
    ·omega
    ·omega
   ·skip
    iterate 3 refine z ?_
    refine ok_region ?_
    iterate 4 refine z ?_
    refine ⟨k2 + 1, ?_, ?_, weak_sub ⟨rfl, rfl, rfl, rfl, rfl, trivial⟩ ⟨rfl, rfl, rfl, trivial⟩ ⟨(congrArg (fun l : List (DefT) => some (some (KC.mk false 78 2 l.length (l.flatMap eDef)))) (fltG_no (p := notN n) hk2 c4)), rfl, trivial⟩ rfl⟩
    ·omega
    ·omega
  ·skip
   have d3 := of_decide_eq_false c3
   iterate 9 refine z ?_
   refine ok_weak (σ' := ⟨[(4, .box 4 0)], [(4, 27, [(.dv [] (.str ((dropD d n).1))), (.dv [] (.int .i64 ((dropD d n).2.1))), (.key 31), (.key 900)])], [(31, some (kcOf false (storesD ((dropD d n).2.2.1)))), (900, some (kcOf false (defsD ((dropD d n).2.2.2))))]⟩) (weak_sub ⟨rfl, trivial⟩ ⟨rfl, trivial⟩ ⟨(congrArg (fun l : List (StoreT) => some (some (KC.mk false 60 3 (l.filter (notS n)).length ((l.filter (notS n)).flatMap eStore)))) hfin), (congrArg (fun l : List (DefT) => some (some (KC.mk false 78 2 (l.filter (notN n)).length ((l.filter (notN n)).flatMap eDef)))) (List.take_of_length_le (by omega))), trivial⟩ rfl) ?_
   refine z ?_
   refine fin1 (res_cell hT rfl rfl rfl rfl) ?_
   exact ⟨rfl, rfl⟩
theorem ok_spec_ApplyUpgrade {d : DbT} {u : UpgT} (hb : wDatabase d ≤ 549755813888) : KFn Tryz.prog 65 [.agg [(.dv [] (.str (d.1))), (.dv [] (.int .i64 (d.2.1))), (.dv [] (storesD (d.2.2.1))), (.dv [] (defsD (d.2.2.2)))], .agg [(.dv [] (.int .i64 (u.1))), (.dv [] (.str (u.2.1))), (.dv [] (.str (u.2.2)))]] (.tup [(true, [(.dv [] (.str ((upA d u).1.1))), (.dv [] (.int .i64 ((upA d u).1.2.1))), (.key 90031), (.key 90900)]), (false, [(.dv [] (.bool ((upA d u).2)))])]) [(90031, some (kcOf false (storesD ((upA d u).1.2.2.1)))), (90900, some (kcOf false (defsD ((upA d u).1.2.2.2))))] := by
 refine ⟨fn_intro Tryz.func65 rfl Tryz.ntmps65 Tryz.results65 rfl (fun C => ?_)⟩
 have hw4 : wDatabase d = d.1.size + wList wStore d.2.2.1 + wList wIndexDef d.2.2.2 := rfl
 have hw5 : wList wStore d.2.2.1 = d.2.2.1.length + wSum wStore d.2.2.1 := rfl
 have hw6 : wList wIndexDef d.2.2.2 = d.2.2.2.length + wSum wIndexDef d.2.2.2 := rfl
 obtain ⟨m, hm⟩ : ∃ m, m = d.2.2.2.length - 1 := ⟨_, rfl⟩
 refine yF 0 0 rfl rfl fun f0_0 => ?_
 refine yF 0 1 rfl rfl fun f0_1 => ?_
 refine yF 0 2 rfl rfl fun f0_2 => ?_
 refine yF 0 3 rfl rfl fun f0_3 => ?_
 refine yF 1 0 rfl rfl fun f1_0 => ?_
 refine yF 1 1 rfl rfl fun f1_1 => ?_
 refine yF 1 2 rfl rfl fun f1_2 => ?_
 iterate 8 refine z ?_
 refine zK 90000 Tryz.call32 ?_ (hf := ok_spec_l8Copy (x := d) (by omega))
 iterate 7 refine z ?_
 refine zC Tryz.call56 ?_ (hf := ok_spec_FindStore (x := d) (n := u.2.1))
 iterate 5 refine z ?_
 refine zC Tryz.call103 ?_ (hf := ok_spec_l8Index (d := d) (u := u))
 iterate 14 refine z ?_
 refine yQ rfl (fun c1 => ?_) fun c1 => ?_
 ·skip
  have hk1 : u.1 = 1 ∧ (findI (hasName u.2.1) d.2.2.1 0) < 0 := by simpa only [Bool.and_eq_true, decide_eq_true_eq, and_assoc] using c1
  iterate 5 refine z ?_
  refine ok_loop (ι := Nat) (fun zz => ⟨[(2, .box 2 0), (3, .box 3 0), (4, .box 4 0), (5, .one (.dv [] (.bool (false)))), (6, .box 6 0), (9, .one (.dv [] (.int .i64 ((zz : Int)))))], [(2, 27, [(.dv [] (.str (d.1))), (.dv [] (.int .i64 (d.2.1))), (.dv [] (storesD (d.2.2.1))), (.dv [] (defsD (d.2.2.2)))]), (3, 110, [(.dv [] (.int .i64 (u.1))), (.dv [] (.str (u.2.1))), (.dv [] (.str (u.2.2)))]), (4, 27, [(.dv [] (.str (ByteArray.empty))), (.dv [] (.int .i64 (0))), .nil, .nil]), (6, 27, [(.dv [] (.str ((d).1))), (.dv [] (.int .i64 ((d).2.1))), (.key 90031), (.key 90900)])], [(90031, some (kcOf false (.sl 60 3 (d.2.2.1.length) (d.2.2.1.flatMap eStore)))), (90900, some (kcOf false (.sl 78 2 (d.2.2.2.length) (d.2.2.2.flatMap eDef))))]⟩) (fun zz => zz ≤ d.2.2.1.length ∧ posN u.2.1 d.2.2.1 = zz + posN u.2.1 (d.2.2.1.drop zz)) (fun zz => d.2.2.1.length - zz) (0) ?_ (weak_sub ⟨rfl, rfl, rfl, rfl, rfl, rfl, trivial⟩ ⟨rfl, rfl, rfl, rfl, trivial⟩ ⟨rfl, rfl, trivial⟩ rfl) (fun zz hx => ?_)
  ·exact ⟨Nat.zero_le _, by simp⟩
  obtain ⟨j, rfl⟩ : ∃ v, v = zz := ⟨_, rfl⟩
  replace hx : j ≤ d.2.2.1.length ∧ posN u.2.1 d.2.2.1 = j + posN u.2.1 (d.2.2.1.drop j) := hx
  obtain ⟨hj, hp⟩ := hx
  show Ok _ _ _ _ _ (⟨[(2, .box 2 0), (3, .box 3 0), (4, .box 4 0), (5, .one (.dv [] (.bool (false)))), (6, .box 6 0), (9, .one (.dv [] (.int .i64 ((j : Int)))))], [(2, 27, [(.dv [] (.str (d.1))), (.dv [] (.int .i64 (d.2.1))), (.dv [] (storesD (d.2.2.1))), (.dv [] (defsD (d.2.2.2)))]), (3, 110, [(.dv [] (.int .i64 (u.1))), (.dv [] (.str (u.2.1))), (.dv [] (.str (u.2.2)))]), (4, 27, [(.dv [] (.str (ByteArray.empty))), (.dv [] (.int .i64 (0))), .nil, .nil]), (6, 27, [(.dv [] (.str ((d).1))), (.dv [] (.int .i64 ((d).2.1))), (.key 90031), (.key 90900)])], [(90031, some (kcOf false (.sl 60 3 (d.2.2.1.length) (d.2.2.1.flatMap eStore)))), (90900, some (kcOf false (.sl 78 2 (d.2.2.2.length) (d.2.2.2.flatMap eDef))))]⟩ : St)
  refine ok_seq ?_
  refine ok_seq ?_
  refine ok_regionD (oB := [2, 3, 4, 6]) (oK := [90031, 90900]) (by kernel_rfl) rfl rfl ?_
  refine zD 0 ?_
  refine zD 1 ?_
  refine zD 2 ?_
  refine zD 3 ?_
  refine zD 4 ?_
  refine zD 5 ?_
  refine zDG 6 ?_
  refine zDG 7 ?_
  refine zDG 8 ?_
  refine zDG 9 ?_
  refine zDG 10 ?_
  refine zDG 11 ?_
  refine zDG 12 ?_
  refine zDG 13 ?_
  refine zDG 14 ?_
  refine zD 15 ?_
  refine d_done (by kernel_rfl) ?_
  refine z ?_
  refine yQ rfl (fun c2 => ?_) fun c2 => ?_
  ·skip
   have hj2 : j < d.2.2.1.length := by have h8 := c2; rw [Bool.and_eq_true, decide_eq_true_eq] at h8; omega
   have hst := posN_step hp hj2 (by have h8 := c2; rw [Bool.and_eq_true] at h8; exact h8.2)
   iterate 3 refine z ?_
   refine ok_region ?_
   iterate 3 refine z ?_
   refine ops_nil ?_
   iterate 2 refine z ?_
   refine ⟨j + 1, ?_, ?_, weak_sub ⟨rfl, rfl, rfl, rfl, rfl, rfl, trivial⟩ ⟨rfl, rfl, rfl, rfl, trivial⟩ ⟨rfl, rfl, trivial⟩ rfl⟩
   ·exact ⟨by omega, hst⟩
   ·omega
  ·skip
   have hpos := posN_stop hp hj c2
   iterate 6 refine z ?_
   refine o_build0 (k := 47) hT rfl rfl rfl rfl rfl rfl rfl rfl ?_
   iterate 3 refine z ?_
   refine o_appSubB (b8 := 6) (i8 := 2) (k := 47) (j := 90031) (s := 49) (n := (d.2.2.1.take j).length) (cs := (d.2.2.1.take j).flatMap eStore) (c2s := List.replicate (j * 3) .hole ++ (d.2.2.1.drop j).flatMap eStore) hT rfl rfl rfl (sl_h hT rfl rfl rfl (ev_tmp rfl) rfl (ev_tmp rfl) (by omega) (by dsimp only [kcOf]; omega)) rfl rfl rfl rfl rfl rfl rfl (ev_tmp rfl) rfl rfl rfl rfl rfl rfl (by decide) rfl rfl ⟨rfl, rfl⟩ (by omega) (by dsimp only [kcOf]; omega) (by dsimp only [kcOf]; omega) (by dsimp only [kcOf]; omega) (by rw [List.length_take, Nat.min_eq_left (by omega)]; simp) (sub_loS) (holed_loS) rfl rfl rfl ?_
   simp only [killT, killB, SV.kill, CV.kill, kk, Nat.reduceBEq]
   iterate 6 refine z ?_
   refine yO rfl rfl (pu_build hT hB rfl rfl rfl (bp_cons (ev_tmp rfl) rfl rfl rfl rfl rfl bp_nil)) rfl ?_
   refine o_build1 (k := 57) (js := []) hT rfl rfl rfl rfl rfl rfl rfl rfl rfl (ev_tmp rfl) rfl rfl (ow_cons' (ow_dv rfl) (ow_cons' (ow_nilc (e := 93) (sz := 4) rfl) (ow_cons' (ow_dv rfl) ow_nil rfl) rfl) rfl) (by decide) (by decide) rfl rfl ?_
   simp only [killT, killB, SV.kill, CV.kill, kk, Nat.reduceBEq]
   refine o_appK (k := 47) (j := 57) (cs := (d.2.2.1.take j ++ [(u.2.1, ([] : List ItemT), (0 : Int))]).flatMap eStore) (n := (d.2.2.1.take j ++ [(u.2.1, ([] : List ItemT), (0 : Int))]).length) hT rfl rfl rfl rfl rfl rfl rfl (ev_tmp rfl) rfl rfl rfl (ev_tmp rfl) rfl rfl (by decide) (by dsimp only [kcOf]; simp only [List.length_take]; omega) (by dsimp only [kcOf]; simp only [List.length_take]; omega) (by simp) (by rw [List.flatMap_append]; rfl) ?_
   simp only [killT, killB, SV.kill, CV.kill, kk, Nat.reduceBEq]
   iterate 2 refine z ?_
   refine ok_region ?_
   iterate 4 refine z ?_
   refine o_appSub (k := 47) (j := 90031) (s := 61) (n := (insS d.2.2.1 j (u.2.1, ([] : List ItemT), (0 : Int))).length) (cs := (insS d.2.2.1 j (u.2.1, ([] : List ItemT), (0 : Int))).flatMap eStore) (c2s := _) hT rfl rfl rfl (sl_l hT rfl rfl rfl (ev_tmp rfl) rfl (ev_tmp rfl) (by omega) (by dsimp only [kcOf]; omega)) rfl rfl rfl rfl rfl rfl rfl (ev_tmp rfl) rfl rfl rfl rfl rfl rfl (by decide) rfl rfl ⟨rfl, rfl⟩ (by dsimp only [kcOf]; omega) (by dsimp only [kcOf]; omega) (by dsimp only [kcOf]; simp only [List.length_append, List.length_take, List.length_singleton]; omega) (by dsimp only [kcOf]; simp only [List.length_append, List.length_take, List.length_singleton]; omega) (by rw [insS_len hj]; simp; omega) (sub_hiS hj) (rfl) ?_
   simp only [killT, killB, SV.kill, CV.kill, kk, Nat.reduceBEq]
   iterate 2 refine z ?_
   refine ops_nil ?_
   iterate 2 refine z ?_
   refine ok_seq ?_
   refine ok_seq ?_
   refine ok_weak (weak_swapB (b := 6) (i := 2) (k := 47) (k' := 90031) rfl rfl rfl rfl (by decide) rfl rfl) ?_
   simp only [killT, killB, SV.kill, CV.kill, kk, Nat.reduceBEq]
   refine ok_weak (weak_eq (k := 90900) (c' := kcOf false (defsD (d.2.2.2))) rfl (rfl) rfl) ?_
   refine ok_region ?_
   refine z ?_
   refine zC Tryz.call33 ?_ (hf := ok_spec_IsDatabase (x := d))
   iterate 3 refine z ?_
   refine o_callG (gd_bool rfl rfl rfl rfl rfl) rfl rfl Tryz.call33 (ok_spec_IsDatabase (x := (d.1, d.2.1, (insS d.2.2.1 j (u.2.1, ([] : List ItemT), (0 : Int))), d.2.2.2))) (fun hg => (as_cons (ev_opt rfl hg) (ag_agg (ag_cons ac_dv (ag_cons ac_dv (ag_cons (ac_key' rfl rfl) (ag_cons (ac_key' rfl rfl) ag_nil))))) as_nil)) rfl rfl ?_
   iterate 3 refine z ?_
   refine yQ rfl (fun c3 => ?_) fun c3 => ?_
   ·skip
    refine ok_seq ?_
    refine ok_weak (σ' := ⟨[(2, .box 2 0), (3, .box 3 0), (4, .box 4 0), (5, .one (.dv [] (.bool (false))))], [(2, 27, [(.dv [] (.str (d.1))), (.dv [] (.int .i64 (d.2.1))), (.dv [] (storesD (d.2.2.1))), (.dv [] (defsD (d.2.2.2)))]), (3, 110, [(.dv [] (.int .i64 (u.1))), (.dv [] (.str (u.2.1))), (.dv [] (.str (u.2.2)))]), (4, 27, [(.dv [] (.str (ByteArray.empty))), (.dv [] (.int .i64 (0))), .nil, .nil])], []⟩) (weak_sub ⟨rfl, rfl, rfl, rfl, trivial⟩ ⟨rfl, rfl, rfl, trivial⟩ trivial rfl) ?_
    refine ok_region ?_
    refine z ?_
    refine zK 90000 Tryz.call32 ?_ (hf := ok_spec_l8Copy (x := d) (by omega))
    iterate 3 refine z ?_
    rw [upA_out (o := (d.1, d.2.1, (insS d.2.2.1 j (u.2.1, ([] : List ItemT), (0 : Int))), d.2.2.2)) (fun _ => by rw [upI_1 hk1.1, hpos]) c3]
    refine ok_weak (σ' := ⟨[(4, .box 4 0), (5, .one (.dv [] (.bool (false))))], [(4, 27, [(.dv [] (.str ((d).1))), (.dv [] (.int .i64 ((d).2.1))), (.key 90031), (.key 90900)])], [(90031, some (kcOf false (storesD (d.2.2.1)))), (90900, some (kcOf false (defsD (d.2.2.2))))]⟩) (weak_sub ⟨rfl, rfl, trivial⟩ ⟨rfl, trivial⟩ ⟨rfl, rfl, trivial⟩ rfl) ?_
    iterate 2 refine z ?_
    refine fin2 (res_cell hT rfl rfl rfl rfl) (res_tmp rfl) rfl rfl ?_
    first | exact ⟨rfl, rfl⟩ | skip
   ·skip
    iterate 7 refine z ?_
    rw [upA_yes (o := (d.1, d.2.1, (insS d.2.2.1 j (u.2.1, ([] : List ItemT), (0 : Int))), d.2.2.2)) (fun _ => by rw [upI_1 hk1.1, hpos]) (by rw [upI_1 hk1.1]; exact decide_eq_true hk1.2) c3]
    refine ok_weak (σ' := ⟨[(4, .box 4 0), (5, .one (.dv [] (.bool (true))))], [(4, 27, [(.dv [] (.str ((d).1))), (.dv [] (.int .i64 ((d).2.1))), (.key 90031), (.key 90900)])], [(90031, some (kcOf false (storesD ((insS d.2.2.1 j (u.2.1, ([] : List ItemT), (0 : Int))))))), (90900, some (kcOf false (defsD (d.2.2.2))))]⟩) (weak_sub ⟨rfl, rfl, trivial⟩ ⟨rfl, trivial⟩ ⟨rfl, rfl, trivial⟩ rfl) ?_
    refine z ?_
    refine fin2 (res_cell hT rfl rfl rfl rfl) (res_tmp rfl) rfl rfl ?_
    first | exact ⟨rfl, rfl⟩ | skip
 ·skip
  have hn1 : ¬ (u.1 = 1 ∧ (findI (hasName u.2.1) d.2.2.1 0) < 0) := fun h => by
   have h8 := c1
   rw [show (decide (u.1 = 1) && decide ((findI (hasName u.2.1) d.2.2.1 0) < 0)) = true by simp only [Bool.and_eq_true, decide_eq_true_eq, and_assoc]; exact h] at h8
   cases h8
  iterate 10 refine z ?_
  refine yQ rfl (fun c4 => ?_) fun c4 => ?_
  ·skip
   have hk1 : u.1 = 2 ∧ 0 ≤ (findI (hasName u.2.1) d.2.2.1 0) := by simpa only [Bool.and_eq_true, decide_eq_true_eq, and_assoc] using c4
   have hlt : (findI (hasName u.2.1) d.2.2.1 0) < (d.2.2.1.length : Int) := fndS_lt d u.2.1
   refine ok_region ?_
   iterate 3 refine z ?_
   refine zK 91000 Tryz.call104 ?_ (hf := ok_spec_l8Drop (d := d) (n := u.2.1) (by omega))
   refine z ?_
   refine ops_nil ?_
   iterate 2 refine z ?_
   refine ok_seq ?_
   refine ok_seq ?_
   refine ok_weak (weak_swapB (b := 6) (i := 2) (k := 91031) (k' := 90031) rfl rfl rfl rfl (by simp) rfl rfl) ?_
   simp only [killT, killB, SV.kill, CV.kill, kk, Nat.reduceBEq]
   refine ok_weak (weak_swapB (b := 6) (i := 3) (k := 91900) (k' := 90900) rfl rfl rfl rfl (by simp) rfl rfl) ?_
   simp only [killT, killB, SV.kill, CV.kill, kk, Nat.reduceBEq]
   refine ok_region ?_
   refine z ?_
   refine zC Tryz.call33 ?_ (hf := ok_spec_IsDatabase (x := d))
   iterate 3 refine z ?_
   refine o_callG (gd_bool rfl rfl rfl rfl rfl) rfl rfl Tryz.call33 (ok_spec_IsDatabase (x := (dropD d u.2.1))) (fun hg => (as_cons (ev_opt rfl hg) (ag_agg (ag_cons ac_dv (ag_cons ac_dv (ag_cons (ac_key' rfl rfl) (ag_cons (ac_key' rfl rfl) ag_nil))))) as_nil)) rfl rfl ?_
   iterate 3 refine z ?_
   refine yQ rfl (fun c5 => ?_) fun c5 => ?_
   ·skip
    refine ok_seq ?_
    refine ok_weak (σ' := ⟨[(2, .box 2 0), (3, .box 3 0), (4, .box 4 0), (5, .one (.dv [] (.bool (false))))], [(2, 27, [(.dv [] (.str (d.1))), (.dv [] (.int .i64 (d.2.1))), (.dv [] (storesD (d.2.2.1))), (.dv [] (defsD (d.2.2.2)))]), (3, 110, [(.dv [] (.int .i64 (u.1))), (.dv [] (.str (u.2.1))), (.dv [] (.str (u.2.2)))]), (4, 27, [(.dv [] (.str (ByteArray.empty))), (.dv [] (.int .i64 (0))), .nil, .nil])], []⟩) (weak_sub ⟨rfl, rfl, rfl, rfl, trivial⟩ ⟨rfl, rfl, rfl, trivial⟩ trivial rfl) ?_
    refine ok_region ?_
    refine z ?_
    refine zK 90000 Tryz.call32 ?_ (hf := ok_spec_l8Copy (x := d) (by omega))
    iterate 3 refine z ?_
    rw [upA_out (o := (dropD d u.2.1)) (fun hd => dropD_eq hk1.1 hk1.2 hd) c5]
    refine ok_weak (σ' := ⟨[(4, .box 4 0), (5, .one (.dv [] (.bool (false))))], [(4, 27, [(.dv [] (.str ((d).1))), (.dv [] (.int .i64 ((d).2.1))), (.key 90031), (.key 90900)])], [(90031, some (kcOf false (storesD (d.2.2.1)))), (90900, some (kcOf false (defsD (d.2.2.2))))]⟩) (weak_sub ⟨rfl, rfl, trivial⟩ ⟨rfl, trivial⟩ ⟨rfl, rfl, trivial⟩ rfl) ?_
    iterate 2 refine z ?_
    refine fin2 (res_cell hT rfl rfl rfl rfl) (res_tmp rfl) rfl rfl ?_
    first | exact ⟨rfl, rfl⟩ | skip
   ·skip
    iterate 7 refine z ?_
    rw [upA_yes (o := (dropD d u.2.1)) (fun hd => dropD_eq hk1.1 hk1.2 hd) (by rw [upI_2 hk1.1 hk1.2]; exact decide_eq_true hk1.2) c5]
    refine ok_weak (σ' := ⟨[(4, .box 4 0), (5, .one (.dv [] (.bool (true))))], [(4, 27, [(.dv [] (.str ((dropD (d) (u.2.1)).1))), (.dv [] (.int .i64 ((dropD (d) (u.2.1)).2.1))), (.key 90031), (.key 90900)])], [(90031, some (kcOf false (storesD (d.2.2.1.filter (notS u.2.1))))), (90900, some (kcOf false (defsD (d.2.2.2.filter (notN u.2.1)))))]⟩) (weak_sub ⟨rfl, rfl, trivial⟩ ⟨rfl, trivial⟩ ⟨rfl, rfl, trivial⟩ rfl) ?_
    refine z ?_
    refine fin2 (res_cell hT rfl rfl rfl rfl) (res_tmp rfl) rfl rfl ?_
    first | exact ⟨rfl, rfl⟩ | skip
  ·skip
   have hn4 : ¬ (u.1 = 2 ∧ 0 ≤ (findI (hasName u.2.1) d.2.2.1 0)) := fun h => by
    have h8 := c4
    rw [show (decide (u.1 = 2) && decide (0 ≤ (findI (hasName u.2.1) d.2.2.1 0))) = true by simp only [Bool.and_eq_true, decide_eq_true_eq, and_assoc]; exact h] at h8
    cases h8
   iterate 14 refine z ?_
   refine yQ rfl (fun c6 => ?_) fun c6 => ?_
   ·skip
    have hk1 : u.1 = 3 ∧ 0 ≤ (findI (hasName u.2.1) d.2.2.1 0) ∧ (findI (eqDefB u.2) d.2.2.2 0) < 0 := by simpa only [Bool.and_eq_true, decide_eq_true_eq, and_assoc] using c6
    refine ok_region ?_
    iterate 6 refine z ?_
    refine yO rfl rfl (pu_build hT hB rfl rfl rfl (bp_cons (ev_tmp rfl) rfl rfl rfl rfl rfl (bp_cons (ev_tmp rfl) rfl rfl rfl rfl rfl bp_nil))) rfl ?_
    refine o_build1 (k := 97) (js := []) hT rfl rfl rfl rfl rfl rfl rfl rfl rfl (ev_tmp rfl) rfl rfl (ow_cons' (ow_dv rfl) (ow_cons' (ow_dv rfl) ow_nil rfl) rfl) (by decide) (by decide) rfl rfl ?_
    simp only [killT, killB, SV.kill, CV.kill, kk, Nat.reduceBEq]
    refine o_appK (k := 90900) (j := 97) (cs := (d.2.2.2 ++ [u.2]).flatMap eDef) (n := (d.2.2.2 ++ [u.2]).length) hT rfl rfl rfl rfl rfl rfl rfl (ev_tmp rfl) rfl rfl rfl (ev_tmp rfl) rfl rfl (by decide) (by dsimp only [kcOf, KC.old]; omega) (by dsimp only [kcOf, KC.old]; omega) (by rw [List.length_append]; rfl) (by rw [List.flatMap_append]; rfl) ?_
    simp only [killT, killB, SV.kill, CV.kill, kk, Nat.reduceBEq]
    iterate 2 refine z ?_
    refine ops_nil ?_
    iterate 2 refine z ?_
    refine ok_seq ?_
    refine ok_seq ?_
    refine ok_weak (weak_eq (k := 90900) (c' := kcOf false (defsD (d.2.2.2 ++ [u.2]))) rfl (rfl) rfl) ?_
    refine ok_region ?_
    refine z ?_
    refine zC Tryz.call33 ?_ (hf := ok_spec_IsDatabase (x := d))
    iterate 3 refine z ?_
    refine o_callG (gd_bool rfl rfl rfl rfl rfl) rfl rfl Tryz.call33 (ok_spec_IsDatabase (x := (d.1, d.2.1, d.2.2.1, (d.2.2.2 ++ [u.2])))) (fun hg => (as_cons (ev_opt rfl hg) (ag_agg (ag_cons ac_dv (ag_cons ac_dv (ag_cons (ac_key' rfl rfl) (ag_cons (ac_key' rfl rfl) ag_nil))))) as_nil)) rfl rfl ?_
    iterate 3 refine z ?_
    refine yQ rfl (fun c7 => ?_) fun c7 => ?_
    ·skip
     refine ok_seq ?_
     refine ok_weak (σ' := ⟨[(2, .box 2 0), (3, .box 3 0), (4, .box 4 0), (5, .one (.dv [] (.bool (false))))], [(2, 27, [(.dv [] (.str (d.1))), (.dv [] (.int .i64 (d.2.1))), (.dv [] (storesD (d.2.2.1))), (.dv [] (defsD (d.2.2.2)))]), (3, 110, [(.dv [] (.int .i64 (u.1))), (.dv [] (.str (u.2.1))), (.dv [] (.str (u.2.2)))]), (4, 27, [(.dv [] (.str (ByteArray.empty))), (.dv [] (.int .i64 (0))), .nil, .nil])], []⟩) (weak_sub ⟨rfl, rfl, rfl, rfl, trivial⟩ ⟨rfl, rfl, rfl, trivial⟩ trivial rfl) ?_
     refine ok_region ?_
     refine z ?_
     refine zK 90000 Tryz.call32 ?_ (hf := ok_spec_l8Copy (x := d) (by omega))
     iterate 3 refine z ?_
     rw [upA_out (o := (d.1, d.2.1, d.2.2.1, (d.2.2.2 ++ [u.2]))) (fun _ => by rw [upI_3 hk1.1]) c7]
     refine ok_weak (σ' := ⟨[(4, .box 4 0), (5, .one (.dv [] (.bool (false))))], [(4, 27, [(.dv [] (.str ((d).1))), (.dv [] (.int .i64 ((d).2.1))), (.key 90031), (.key 90900)])], [(90031, some (kcOf false (storesD (d.2.2.1)))), (90900, some (kcOf false (defsD (d.2.2.2))))]⟩) (weak_sub ⟨rfl, rfl, trivial⟩ ⟨rfl, trivial⟩ ⟨rfl, rfl, trivial⟩ rfl) ?_
     iterate 2 refine z ?_
     refine fin2 (res_cell hT rfl rfl rfl rfl) (res_tmp rfl) rfl rfl ?_
     first | exact ⟨rfl, rfl⟩ | skip
    ·skip
     iterate 7 refine z ?_
     rw [upA_yes (o := (d.1, d.2.1, d.2.2.1, (d.2.2.2 ++ [u.2]))) (fun _ => by rw [upI_3 hk1.1]) (by rw [upI_3 hk1.1]; exact decide_eq_true hk1.2.2) c7]
     refine ok_weak (σ' := ⟨[(4, .box 4 0), (5, .one (.dv [] (.bool (true))))], [(4, 27, [(.dv [] (.str ((d).1))), (.dv [] (.int .i64 ((d).2.1))), (.key 90031), (.key 90900)])], [(90031, some (kcOf false (storesD (d.2.2.1)))), (90900, some (kcOf false (defsD ((d.2.2.2 ++ [u.2])))))]⟩) (weak_sub ⟨rfl, rfl, trivial⟩ ⟨rfl, trivial⟩ ⟨rfl, rfl, trivial⟩ rfl) ?_
     refine z ?_
     refine fin2 (res_cell hT rfl rfl rfl rfl) (res_tmp rfl) rfl rfl ?_
     first | exact ⟨rfl, rfl⟩ | skip
   ·skip
    have hn6 : ¬ (u.1 = 3 ∧ 0 ≤ (findI (hasName u.2.1) d.2.2.1 0) ∧ (findI (eqDefB u.2) d.2.2.2 0) < 0) := fun h => by
     have h8 := c6
     rw [show (decide (u.1 = 3) && decide (0 ≤ (findI (hasName u.2.1) d.2.2.1 0)) && decide ((findI (eqDefB u.2) d.2.2.2 0) < 0)) = true by simp only [Bool.and_eq_true, decide_eq_true_eq, and_assoc]; exact h] at h8
     cases h8
    iterate 10 refine z ?_
    refine yQ rfl (fun c8 => ?_) fun c8 => ?_
    ·skip
     have hk1 : u.1 = 4 ∧ 0 ≤ (findI (eqDefB u.2) d.2.2.2 0) := by simpa only [Bool.and_eq_true, decide_eq_true_eq, and_assoc] using c8
     have hlt2 : (findI (eqDefB u.2) d.2.2.2 0) < (d.2.2.2.length : Int) := by rcases findI_lt (p := eqDefB u.2) d.2.2.2 0 (by omega) with h | h <;> omega
     refine ok_regionD (oB := [2, 3, 4, 6]) (oK := [90031, 90900]) (by kernel_rfl) rfl rfl ?_
     refine zD 0 ?_
     refine zD 1 ?_
     refine zD 2 ?_
     refine d_take 3 rfl (by kernel_rfl) rfl rfl (pu_kslH (j := 90900) (n := (((d).2.2.2)).length) (hi := (findI (eqDefB (u).2) (d).2.2.2 0).toNat) (sz := 2) (z := findI (eqDefB (u).2) (d).2.2.2 0) hT rfl rfl rfl (ev_tmp rfl) rfl (ev_tmp rfl) rfl rfl (by omega) (by omega)) rfl rfl rfl rfl ?_
     refine zD 4 ?_
     refine zD 5 ?_
     refine zD 6 ?_
     refine zD 7 ?_
     refine d_take 8 rfl (by kernel_rfl) rfl rfl (pu_kslL (j := 90900) (n := (((d).2.2.2)).length) (lo := ((findI (eqDefB (u).2) (d).2.2.2 0) + (1)).toNat) (sz := 2) (z := (findI (eqDefB (u).2) (d).2.2.2 0) + (1)) hT rfl rfl rfl (ev_tmp rfl) rfl (ev_tmp rfl) rfl rfl (by omega) (by omega)) rfl rfl rfl rfl ?_
     refine d_chain [9, 10, 11] rfl rfl (by kernel_rfl) ?_
     refine o_appKK (k := 90900) (m := m) (cs := (d.2.2.2.eraseIdx (findI (eqDefB u.2) d.2.2.2 0).toNat).flatMap eDef ++ List.replicate 2 DV.hole) hT rfl rfl rfl rfl rfl rfl (ev_tmp rfl) (ev_tmp rfl) rfl rfl rfl rfl (by omega) (by first | omega | (dsimp only [kcOf, KC.old]; omega)) (by first | omega | (dsimp only [kcOf, KC.old]; omega)) (er_app (sz := 2) (fun _ => rfl) hk1.2 rfl hlt2) ?_
     simp only [killT, killB, SV.kill, CV.kill, kk, Nat.reduceBEq]
     refine ops_weak (weak_cut (s := 117) (k := 90900) (m := m) (sz := 2) (cs := (d.2.2.2.eraseIdx (findI (eqDefB u.2) d.2.2.2 0).toNat).flatMap eDef) rfl rfl rfl rfl (by first | omega | (dsimp only [kcOf, KC.old]; omega) | (show m ≤ d.2.2.2.length; omega)) (er_cut hm (sz := 2) (fun _ => rfl) hk1.2 hlt2)) ?_
     simp only [killT, killB, SV.kill, CV.kill, kk, Nat.reduceBEq]
     iterate 2 refine z ?_
     refine ops_nil ?_
     iterate 2 refine z ?_
     refine ok_seq ?_
     refine ok_seq ?_
     refine ok_weak (weak_eq (k := 90900) (c' := kcOf false (defsD (d.2.2.2.eraseIdx (findI (eqDefB u.2) d.2.2.2 0).toNat))) rfl (congrArg (fun n => KC.mk false 78 2 n ((d.2.2.2.eraseIdx (findI (eqDefB u.2) d.2.2.2 0).toNat).flatMap eDef)) (hm.trans (er_len hk1.2 hlt2))) rfl) ?_
     refine ok_region ?_
     refine z ?_
     refine zC Tryz.call33 ?_ (hf := ok_spec_IsDatabase (x := d))
     iterate 3 refine z ?_
     refine o_callG (gd_bool rfl rfl rfl rfl rfl) rfl rfl Tryz.call33 (ok_spec_IsDatabase (x := (d.1, d.2.1, d.2.2.1, (d.2.2.2.eraseIdx (findI (eqDefB u.2) d.2.2.2 0).toNat)))) (fun hg => (as_cons (ev_opt rfl hg) (ag_agg (ag_cons ac_dv (ag_cons ac_dv (ag_cons (ac_key' rfl rfl) (ag_cons (ac_key' rfl rfl) ag_nil))))) as_nil)) rfl rfl ?_
     iterate 3 refine z ?_
     refine yQ rfl (fun c9 => ?_) fun c9 => ?_
     ·skip
      refine ok_seq ?_
      refine ok_weak (σ' := ⟨[(2, .box 2 0), (3, .box 3 0), (4, .box 4 0), (5, .one (.dv [] (.bool (false))))], [(2, 27, [(.dv [] (.str (d.1))), (.dv [] (.int .i64 (d.2.1))), (.dv [] (storesD (d.2.2.1))), (.dv [] (defsD (d.2.2.2)))]), (3, 110, [(.dv [] (.int .i64 (u.1))), (.dv [] (.str (u.2.1))), (.dv [] (.str (u.2.2)))]), (4, 27, [(.dv [] (.str (ByteArray.empty))), (.dv [] (.int .i64 (0))), .nil, .nil])], []⟩) (weak_sub ⟨rfl, rfl, rfl, rfl, trivial⟩ ⟨rfl, rfl, rfl, trivial⟩ trivial rfl) ?_
      refine ok_region ?_
      refine z ?_
      refine zK 90000 Tryz.call32 ?_ (hf := ok_spec_l8Copy (x := d) (by omega))
      iterate 3 refine z ?_
      rw [upA_out (o := (d.1, d.2.1, d.2.2.1, (d.2.2.2.eraseIdx (findI (eqDefB u.2) d.2.2.2 0).toNat))) (fun _ => by rw [upI_4 hk1.1 hk1.2]) c9]
      refine ok_weak (σ' := ⟨[(4, .box 4 0), (5, .one (.dv [] (.bool (false))))], [(4, 27, [(.dv [] (.str ((d).1))), (.dv [] (.int .i64 ((d).2.1))), (.key 90031), (.key 90900)])], [(90031, some (kcOf false (storesD (d.2.2.1)))), (90900, some (kcOf false (defsD (d.2.2.2))))]⟩) (weak_sub ⟨rfl, rfl, trivial⟩ ⟨rfl, trivial⟩ ⟨rfl, rfl, trivial⟩ rfl) ?_
      iterate 2 refine z ?_
      refine fin2 (res_cell hT rfl rfl rfl rfl) (res_tmp rfl) rfl rfl ?_
      first | exact ⟨rfl, rfl⟩ | skip
     ·skip
      iterate 7 refine z ?_
      rw [upA_yes (o := (d.1, d.2.1, d.2.2.1, (d.2.2.2.eraseIdx (findI (eqDefB u.2) d.2.2.2 0).toNat))) (fun _ => by rw [upI_4 hk1.1 hk1.2]) (by rw [upI_4 hk1.1 hk1.2]; exact decide_eq_true hk1.2) c9]
      refine ok_weak (σ' := ⟨[(4, .box 4 0), (5, .one (.dv [] (.bool (true))))], [(4, 27, [(.dv [] (.str ((d).1))), (.dv [] (.int .i64 ((d).2.1))), (.key 90031), (.key 90900)])], [(90031, some (kcOf false (storesD (d.2.2.1)))), (90900, some (kcOf false (defsD ((d.2.2.2.eraseIdx (findI (eqDefB u.2) d.2.2.2 0).toNat)))))]⟩) (weak_sub ⟨rfl, rfl, trivial⟩ ⟨rfl, trivial⟩ ⟨rfl, rfl, trivial⟩ rfl) ?_
      refine z ?_
      refine fin2 (res_cell hT rfl rfl rfl rfl) (res_tmp rfl) rfl rfl ?_
      first | exact ⟨rfl, rfl⟩ | skip
    ·skip
     have hn8 : ¬ (u.1 = 4 ∧ 0 ≤ (findI (eqDefB u.2) d.2.2.2 0)) := fun h => by
      have h8 := c8
      rw [show (decide (u.1 = 4) && decide (0 ≤ (findI (eqDefB u.2) d.2.2.2 0))) = true by simp only [Bool.and_eq_true, decide_eq_true_eq, and_assoc]; exact h] at h8
      cases h8
     iterate 5 refine z ?_
     rw [upA_def hn1 hn4 hn6 hn8]
     refine ok_weak (σ' := ⟨[(4, .box 4 0), (5, .one (.dv [] (.bool (false))))], [(4, 27, [(.dv [] (.str ((d).1))), (.dv [] (.int .i64 ((d).2.1))), (.key 90031), (.key 90900)])], [(90031, some (kcOf false (storesD (d.2.2.1)))), (90900, some (kcOf false (defsD (d.2.2.2))))]⟩) (weak_sub ⟨rfl, rfl, trivial⟩ ⟨rfl, trivial⟩ ⟨rfl, rfl, trivial⟩ rfl) ?_
     iterate 3 refine z ?_
     refine fin2 (res_cell hT rfl rfl rfl rfl) (res_tmp rfl) rfl rfl ?_
     first | exact ⟨rfl, rfl⟩ | skip
end Go.Proofs.YtjkpoekgnmgofaaGreat

namespace Go.Proofs.YtjkpoekgnmgofaaGreat
open Go.RowKit
open Go.Proofs
set_option linter.unusedVariables false
set_option linter.unusedSimpArgs false

theorem setI_keys {l : List ItemT} {i : Nat} {r : RecT} : (setI l i r).map Prod.fst = l.map Prod.fst := by
 apply List.ext_getElem?
 intro j
 rw [setI, List.getElem?_map, List.getElem?_set, List.getElem?_map]
 by_cases h : i = j
 ·subst h
  by_cases h2 : i < l.length
  ·simp [h2, List.getD]
  ·simp [h2]
 ·simp [h]
theorem put_cases {x : StoreT} {k : KeyT} {r : RecT} (h : (putN x k r).2 = true) : isSto x = true ∧ isKey k = true ∧ isRec r = true ∧
  ((0 ≤ fndK x k ∧ putN x k r = ((x.1, setI x.2.1 (fndK x k).toNat r, x.2.2), true)) ∨ (fndK x k < 0 ∧ x.2.1.length < 16 ∧ putN x k r = ((x.1, insI x.2.1 (posK k x.2.1) (k, r), autoP x k), true))) := by
 unfold putN at h ⊢
 split at h
 ·cases h
 ·rename_i h1
  have h1' : isSto x = true ∧ isKey k = true ∧ isRec r = true := by
   revert h1; cases isSto x <;> cases isKey k <;> cases isRec r <;> simp
  refine ⟨h1'.1, h1'.2.1, h1'.2.2, ?_⟩
  rw [if_neg h1]
  split at h
  ·rename_i h2
   exact .inl ⟨h2, by rw [if_pos h2]⟩
  ·rename_i h2
   split at h
   ·cases h
   ·rename_i h3
    exact .inr ⟨by omega, by omega, by rw [if_neg h2, if_neg h3]⟩
theorem put_sto {x : StoreT} {k : KeyT} {r : RecT} (h : (putN x k r).2 = true) : isSto (putN x k r).1 = true := by
 obtain ⟨hs, hk, hr, ⟨h1, h2⟩ | ⟨h1, h3, h2⟩⟩ := put_cases h
 ·rw [h2]; dsimp only
  have h4 := fndK_lt h1
  rw [sto_set hs (by omega), hr]
 ·rw [h2]; dsimp only
  rw [sto_ins hs hk h1 (auto_ok hs), hr]; simpa using h3
theorem putN_sto {x : StoreT} {k : KeyT} {r : RecT} (h : isSto x = true) : isSto (putN x k r).1 = true := by
 cases h2 : (putN x k r).2 with
 | true => exact put_sto h2
 | false => rw [putN_f h2]; exact h
theorem putN_name (x : StoreT) (k : KeyT) (r : RecT) : (putN x k r).1.1 = x.1 := by
 cases h2 : (putN x k r).2 with
 | true => obtain ⟨_, _, _, ⟨_, h⟩ | ⟨_, _, h⟩⟩ := put_cases h2 <;> rw [h]
 | false => rw [putN_f h2]
theorem put_auto {x : StoreT} {k : KeyT} {r : RecT} : x.2.2 ≤ (putN x k r).1.2.2 := by
 cases h2 : (putN x k r).2 with
 | true =>
  obtain ⟨_, _, _, ⟨_, h⟩ | ⟨_, _, h⟩⟩ := put_cases h2 <;> rw [h]
  ·exact Int.le_refl _
  ·dsimp only
   unfold autoP
   split
   ·rename_i h3
    simp only [Bool.and_eq_true, decide_eq_true_eq] at h3
    omega
   ·omega
 | false => rw [putN_f h2]; exact Int.le_refl _
end Go.Proofs.YtjkpoekgnmgofaaGreat

namespace Go.Proofs.YtjkpoekgnmgofaaGreat
open Go.RowKit
open Go.Proofs
set_option linter.unusedVariables false
set_option linter.unusedSimpArgs false

theorem runOps_out {d : DbT} {l : List OpT} (h : (runOps d l).2.2 = false) : (runOps d l).1 = d ∧ (runOps d l).2.1 = [] := by
 unfold runOps at h ⊢
 split
 ·exact ⟨rfl, rfl⟩
 ·rename_i h1
  rw [if_neg h1] at h
  cases hg : goOps d l with
  | none => exact ⟨rfl, rfl⟩
  | some r => rw [hg] at h; cases h
theorem runOps_ok {d : DbT} {l : List OpT} (h : (runOps d l).2.2 = true) : isDb d = true ∧ l.length ≤ 6 ∧ ∃ c ns, goOps d l = some (c, ns) ∧ runOps d l = (c, ns, true) := by
 unfold runOps at h ⊢
 split at h
 ·cases h
 ·rename_i h1
  rw [if_neg h1]
  cases hg : goOps d l with
  | none => rw [hg] at h; cases h
  | some r =>
   have h2 : (!isDb d || decide ((6 : Int) < (l.length : Int))) = false := by simpa using h1
   refine ⟨?_, opsG h2, r.1, r.2, rfl, rfl⟩
   cases hd : isDb d with
   | true => rfl
   | false => rw [hd] at h2; cases h2
theorem op_rd0 {c : DbT} {o : OpT} (h : (runOp c o).2.2 = true) (hw : isWr o = false) : (runOp c o).1 = c := by
 unfold runOp at h ⊢
 split
 ·rfl
 ·rename_i h1
  rw [if_neg h1] at h
  split
  ·rfl
  ·obtain ⟨_, ho, hf⟩ := runG (by simpa using h1)
   have h4 : o.1 = 4 := by
    unfold isWr at hw
    simp only [isOpB, Bool.and_eq_true, decide_eq_true_eq] at ho
    have := ho.1.1.1.1
    simp only [Bool.and_eq_false_iff, decide_eq_false_iff_not, Bool.not_eq_false', decide_eq_true_eq] at hw
    omega
   have e : opM (stOf c o) o = (stOf c o, getN (stOf c o) o.2.2.1, true) := by unfold opM; rw [if_neg (by omega), if_neg (by omega), if_neg (by omega), if_pos h4]
   rw [e]
   dsimp only
   have hl : fndS c o.2.1 < c.2.2.1.length := by
    rcases findI_lt (p := hasName o.2.1) c.2.2.1 0 (by omega) with h5 | h5
    ·unfold fndS; omega
    ·unfold fndS at hf; omega
   unfold stOf
   exact putS_self (by omega)
end Go.Proofs.YtjkpoekgnmgofaaGreat

