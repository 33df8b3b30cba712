/-
  Contracts of the program's functions for the statements UpgradeTo, by the rules of the logic. Conditions: none but those in the theorems.
-/
import Derived.Below
import Derived.Deep.Slices
import Derived.OpenShut
import Derived.ProofKit
import Derived.Test.YtdjlikknmbjjgaaGreatQUpgradeTo1
set_option maxHeartbeats 4000000
set_option maxRecDepth 100000
namespace Go.Proofs.YtdjlikknmbjjgaaGreat
open Go.RowKit
open Go.Proofs
set_option linter.unusedVariables false
set_option linter.unusedSimpArgs false

theorem take_csG {α : Type} [Inhabited α] {enc : α → List DV} {xs : List α} {k : Nat} (hk : k < xs.length) : (xs.take k).flatMap enc ++ enc (xs.getD (k : Int).toNat default) = (xs.take (k + 1)).flatMap enc ∧ (xs.take k).length + 1 = (xs.take (k + 1)).length := by
 have e : xs.getD (k : Int).toNat default = xs[k] := by simp [List.getD, List.getElem?_eq_getElem hk]
 rw [List.take_add_one, List.getElem?_eq_getElem hk, e]
 simp only [Option.toList_some, List.flatMap_append, List.flatMap_cons, List.flatMap_nil, List.append_nil, List.length_append, List.length_singleton]
 exact ⟨trivial, trivial⟩
theorem ok_impl_copyDatabase {x : DbT} (hb : wDatabase x ≤ 1099511627776) : KFn Tryz.prog 31 [.agg [(.dv [] (.str (x.1))), (.dv [] (.int .i64 (x.2.1))), (.dv [] (storesD (x.2.2.1))), (.dv [] (defsD (x.2.2.2)))]] (.agg [(.dv [] (.str (x.1))), (.dv [] (.int .i64 (x.2.1))), (.key 31), (.key 900)]) [(31, some (kcOf false (storesD (x.2.2.1)))), (900, some (kcOf false (defsD (x.2.2.2))))] := by
 refine ⟨fn_intro Tryz.func31 rfl Tryz.ntmps31 Tryz.results31 rfl (fun C => ?_)⟩
 have hwd : wDatabase x = x.1.size + wList wStore x.2.2.1 + wList wIndexDef x.2.2.2 := rfl
 have hwl : wList wStore x.2.2.1 = x.2.2.1.length + wSum wStore x.2.2.1 := rfl
 have hwi : wList wIndexDef x.2.2.2 = x.2.2.2.length + wSum wIndexDef x.2.2.2 := rfl
 refine yF 0 0 rfl rfl fun f0_0 => ?_
 refine yF 0 1 rfl rfl fun f0_1 => ?_
 refine yF 0 2 rfl rfl fun f0_2 => ?_
 refine yF 0 3 rfl rfl fun f0_3 => ?_
 iterate 4 refine z ?_
 refine ok_cutS (σ' := ⟨[(1, .box 1 0), (2, .box 2 0), (3, .box 3 0)], [(1, 33, [(.dv [] (.str (x.1))), (.dv [] (.int .i64 (x.2.1))), (.dv [] (storesD (x.2.2.1))), (.dv [] (defsD (x.2.2.2)))]), (2, 33, [(.dv [] (.str (ByteArray.empty))), (.dv [] (.int .i64 (0))), .nil, .nil]), (3, 33, [(.dv [] (.str (x.1))), (.dv [] (.int .i64 (x.2.1))), .nil, (.key 900)])], [(900, some (kcOf false (.sl 60 2 ((x.2.2.2).length) ((x.2.2.2).flatMap eDef))))]⟩) ?_ ?_
 ·skip
  refine ok_regionH [0, 1, 2, 3, 4, 5, 6, 7, 8, 9] (oB := [1, 2]) (oK := []) (by kernel_rfl) rfl rfl ?_
  refine n_start ?_
  refine zN 0 ?_
  refine zN 1 ?_
  refine zN 2 ?_
  refine zN 3 ?_
  refine zN 5 ?_
  refine zN 6 ?_
  refine n_split 4 [9] (by kernel_rfl) ⟨?_, ?_, trivial⟩
  ·skip
   refine nj_build0 (k := 900) 4 hT rfl rfl rfl rfl rfl rfl rfl rfl rfl rfl rfl rfl ?_
   refine n_split 7 [9] (by kernel_rfl) ⟨?_, ?_, trivial⟩
   ·skip
    refine nj_appV (k := 900) (cs := (x.2.2.2).flatMap eDef) (n := (x.2.2.2).length) 7 hT rfl rfl rfl rfl rfl rfl rfl rfl (ev_tmp rfl) rfl rfl rfl (ev_tmp rfl) (plain_flat (fun _ => rfl) _) (by first | (dsimp only [kcOf]; omega) | omega) (by first | (dsimp only [kcOf]; omega) | omega) (Nat.zero_add _) (rfl) rfl rfl ?_
    simp only [killT, killB, SV.kill, CV.kill, kk, Nat.reduceBEq]
    refine n_take 8 rfl (by kernel_rfl) rfl rfl (pu_build hT hB rfl rfl rfl (bp_cons (ev_tmp rfl) rfl rfl rfl rfl rfl (bp_cons (ev_tmp rfl) rfl rfl rfl rfl rfl (bp_cons (ev_tmp rfl) rfl rfl rfl rfl rfl bp_nil)))) rfl rfl rfl rfl ?_
    refine n_split 9 [] (by kernel_rfl) ⟨?_, trivial⟩
    ·skip
     refine nj_alloc 9 hT rfl rfl rfl rfl rfl rfl rfl rfl rfl rfl ?_
     refine n_split 10 [] (by kernel_rfl) ⟨?_, trivial⟩
     ·skip
      refine nj_last 10 rfl rfl (by kernel_rfl) (ef_storeBox hT rfl rfl rfl (ev_tmp rfl) (ev_tmp rfl) rfl rfl rfl rfl rfl rfl) (by kernel_rfl) ?_
      exact then_n (weak_sub ⟨rfl, rfl, rfl, trivial⟩ ⟨rfl, rfl, rfl, trivial⟩ ⟨rfl, trivial⟩ rfl)
   ·skip
    refine nj_alloc 9 hT rfl rfl rfl rfl rfl rfl rfl rfl rfl rfl ?_
    refine n_split 7 [] (by kernel_rfl) ⟨?_, trivial⟩
    ·skip
     refine nj_appV (k := 900) (cs := (x.2.2.2).flatMap eDef) (n := (x.2.2.2).length) 7 hT rfl rfl rfl rfl rfl rfl rfl rfl (ev_tmp rfl) rfl rfl rfl (ev_tmp rfl) (plain_flat (fun _ => rfl) _) (by first | (dsimp only [kcOf]; omega) | omega) (by first | (dsimp only [kcOf]; omega) | omega) (Nat.zero_add _) (rfl) rfl rfl ?_
     simp only [killT, killB, SV.kill, CV.kill, kk, Nat.reduceBEq]
     refine n_take 8 rfl (by kernel_rfl) rfl rfl (pu_build hT hB rfl rfl rfl (bp_cons (ev_tmp rfl) rfl rfl rfl rfl rfl (bp_cons (ev_tmp rfl) rfl rfl rfl rfl rfl (bp_cons (ev_tmp rfl) rfl rfl rfl rfl rfl bp_nil)))) rfl rfl rfl rfl ?_
     refine n_split 10 [] (by kernel_rfl) ⟨?_, trivial⟩
     ·skip
      refine nj_last 10 rfl rfl (by kernel_rfl) (ef_storeBox hT rfl rfl rfl (ev_tmp rfl) (ev_tmp rfl) rfl rfl rfl rfl rfl rfl) (by kernel_rfl) ?_
      exact then_n (weak_sub ⟨rfl, rfl, rfl, trivial⟩ ⟨rfl, rfl, rfl, trivial⟩ ⟨rfl, trivial⟩ rfl)
  ·skip
   refine nj_alloc 9 hT rfl rfl rfl rfl rfl rfl rfl rfl rfl rfl ?_
   refine n_split 4 [] (by kernel_rfl) ⟨?_, trivial⟩
   ·skip
    refine nj_build0 (k := 900) 4 hT rfl rfl rfl rfl rfl rfl rfl rfl rfl rfl rfl rfl ?_
    refine n_split 7 [] (by kernel_rfl) ⟨?_, trivial⟩
    ·skip
     refine nj_appV (k := 900) (cs := (x.2.2.2).flatMap eDef) (n := (x.2.2.2).length) 7 hT rfl rfl rfl rfl rfl rfl rfl rfl (ev_tmp rfl) rfl rfl rfl (ev_tmp rfl) (plain_flat (fun _ => rfl) _) (by first | (dsimp only [kcOf]; omega) | omega) (by first | (dsimp only [kcOf]; omega) | omega) (Nat.zero_add _) (rfl) rfl rfl ?_
     simp only [killT, killB, SV.kill, CV.kill, kk, Nat.reduceBEq]
     refine n_take 8 rfl (by kernel_rfl) rfl rfl (pu_build hT hB rfl rfl rfl (bp_cons (ev_tmp rfl) rfl rfl rfl rfl rfl (bp_cons (ev_tmp rfl) rfl rfl rfl rfl rfl (bp_cons (ev_tmp rfl) rfl rfl rfl rfl rfl bp_nil)))) rfl rfl rfl rfl ?_
     refine n_split 10 [] (by kernel_rfl) ⟨?_, trivial⟩
     ·skip
      refine nj_last 10 rfl rfl (by kernel_rfl) (ef_storeBox hT rfl rfl rfl (ev_tmp rfl) (ev_tmp rfl) rfl rfl rfl rfl rfl rfl) (by kernel_rfl) ?_
      exact then_n (weak_sub ⟨rfl, rfl, rfl, trivial⟩ ⟨rfl, rfl, rfl, trivial⟩ ⟨rfl, trivial⟩ rfl)
 refine ok_seq ?_
 refine ok_seq ?_
 refine ok_weak (weak_nilB 31 (b := 3) (i := 2) (e := 57) (sz := 3) rfl rfl rfl rfl rfl) ?_
 simp only [killT, killB, SV.kill, CV.kill, kk, Nat.reduceBEq]
 refine ok_region ?_
 iterate 6 refine z ?_
 refine ok_loop (ι := Nat) (fun zz => ⟨[(2, .box 2 0), (3, .box 3 0), (16, .one (.dv [] (storesD (x.2.2.1)))), (17, .one (.dv [] (.int .i64 ((((x.2.2.1)).length : Int))))), (18, .one (.dv [] (.int .i64 ((zz : Int)))))], [(1, 33, [(.dv [] (.str (x.1))), (.dv [] (.int .i64 (x.2.1))), (.dv [] (storesD (x.2.2.1))), (.dv [] (defsD (x.2.2.2)))]), (2, 33, [(.dv [] (.str (ByteArray.empty))), (.dv [] (.int .i64 (0))), .nil, .nil]), (3, 33, [(.dv [] (.str (x.1))), (.dv [] (.int .i64 (x.2.1))), (.key 31), (.key 900)])], [(31, some (kcOf false (.sl 57 3 ((x.2.2.1.take zz).length) ((x.2.2.1.take zz).flatMap eStore)))), (900, some (kcOf false (.sl 60 2 ((x.2.2.2).length) ((x.2.2.2).flatMap eDef))))]⟩) (fun zz => zz ≤ x.2.2.1.length) (fun zz => x.2.2.1.length - zz) (0) ?_ (weak_sub ⟨rfl, rfl, rfl, rfl, rfl, trivial⟩ ⟨rfl, rfl, rfl, trivial⟩ ⟨rfl, rfl, trivial⟩ rfl) (fun zz hx => ?_)
 ·exact Nat.zero_le _
 obtain ⟨k, rfl⟩ : ∃ v, v = zz := ⟨_, rfl⟩
 replace hx : k ≤ x.2.2.1.length := hx
 have hw := fun h => wSum_succ wStore x.2.2.1 k h
 show Ok _ _ _ _ _ (⟨[(2, .box 2 0), (3, .box 3 0), (16, .one (.dv [] (storesD (x.2.2.1)))), (17, .one (.dv [] (.int .i64 ((((x.2.2.1)).length : Int))))), (18, .one (.dv [] (.int .i64 ((k : Int)))))], [(1, 33, [(.dv [] (.str (x.1))), (.dv [] (.int .i64 (x.2.1))), (.dv [] (storesD (x.2.2.1))), (.dv [] (defsD (x.2.2.2)))]), (2, 33, [(.dv [] (.str (ByteArray.empty))), (.dv [] (.int .i64 (0))), .nil, .nil]), (3, 33, [(.dv [] (.str (x.1))), (.dv [] (.int .i64 (x.2.1))), (.key 31), (.key 900)])], [(31, some (kcOf false (.sl 57 3 ((x.2.2.1.take k).length) ((x.2.2.1.take k).flatMap eStore)))), (900, some (kcOf false (.sl 60 2 ((x.2.2.2).length) ((x.2.2.2).flatMap eDef))))]⟩ : St)
 iterate 3 refine z ?_
 refine ok_seq ?_
 refine yQ rfl (fun c1 => ?_) fun c1 => ?_
 ·skip
  have d1 := of_decide_eq_true c1
  have hk2 : k < x.2.2.1.length := by omega
  obtain ⟨hw1, hw2⟩ := hw hk2
  iterate 10 refine z ?_
  refine ok_regionH [0, 1, 2, 3, 4] (oB := [1, 2, 3, 5]) (oK := [31, 900]) (by kernel_rfl) rfl rfl ?_
  refine zD 0 ?_
  refine zD 1 ?_
  refine zD 2 ?_
  refine d_callK 25000 3 rfl (by kernel_rfl) rfl rfl rfl Tryz.call61 (ok_impl_copyStore (x := (((x.2.2.1)).getD ((k : Int)).toNat default)) (by omega)) (as_cons (ev_tmp rfl) (ag_agg (ag_cons ac_dv (ag_cons ac_dv (ag_cons ac_dv ag_nil)))) as_nil) rfl rfl rfl rfl rfl ?_
  refine d_build1 (k := 26) (js := [25030]) 4 hT rfl (by kernel_rfl) rfl rfl rfl rfl rfl rfl rfl rfl rfl (ev_tmp rfl) rfl rfl (ow_cons' (ow_dv rfl) (ow_cons' (ow_key rfl) (ow_cons' (ow_dv rfl) ow_nil rfl) rfl) rfl) (by decide) (by decide) rfl rfl (by decide) ?_
  simp only [killT, killB, SV.kill, CV.kill, kk, Nat.reduceBEq]
  refine d_chain [5, 6, 7] rfl rfl (by kernel_rfl) ?_
  refine o_appK (k := 31) (j := 26) (cs := (x.2.2.1.take (k + 1)).flatMap eStore) (n := (x.2.2.1.take (k + 1)).length) hT rfl rfl rfl rfl rfl rfl rfl (ev_tmp rfl) rfl rfl rfl (ev_tmp rfl) rfl rfl (by decide) (by dsimp only [kcOf]; simp only [List.length_take]; omega) (by dsimp only [kcOf]; simp only [List.length_take]; omega) ((take_csG (enc := eStore) hk2).2) ((take_csG (enc := eStore) hk2).1) ?_
  simp only [killT, killB, SV.kill, CV.kill, kk, Nat.reduceBEq]
  iterate 2 refine z ?_
  refine ops_nil ?_
  iterate 2 refine z ?_
  refine ok_region ?_
  iterate 3 refine z ?_
  refine ⟨k + 1, ?_, ?_, weak_sub ⟨rfl, rfl, rfl, rfl, rfl, trivial⟩ ⟨rfl, rfl, rfl, trivial⟩ ⟨rfl, rfl, trivial⟩ rfl⟩
  ·omega
  ·omega
 ·skip
  have d1 := of_decide_eq_false c1
  iterate 9 refine z ?_
  refine ok_weak (σ' := ⟨[(2, .box 2 0)], [(2, 33, [(.dv [] (.str (x.1))), (.dv [] (.int .i64 (x.2.1))), (.key 31), (.key 900)])], [(31, some (kcOf false (storesD (x.2.2.1)))), (900, some (kcOf false (defsD (x.2.2.2))))]⟩) (weak_sub ⟨rfl, trivial⟩ ⟨rfl, trivial⟩ ⟨(congrArg (fun l : List (StoreT) => some (some (KC.mk false 57 3 l.length (l.flatMap eStore)))) (List.take_of_length_le (by omega))), rfl, trivial⟩ rfl) ?_
  refine z ?_
  refine fin1 (res_cell hT rfl rfl rfl rfl) ?_
  exact ⟨rfl, rfl⟩
theorem ok_spec_l8Copy {x : DbT} (hb : wDatabase x ≤ 1099511627776) : KFn Tryz.prog 22 [.agg [(.dv [] (.str (x.1))), (.dv [] (.int .i64 (x.2.1))), (.dv [] (storesD (x.2.2.1))), (.dv [] (defsD (x.2.2.2)))]] (.agg [(.dv [] (.str (x.1))), (.dv [] (.int .i64 (x.2.1))), (.key 31), (.key 900)]) [(31, some (kcOf false (storesD (x.2.2.1)))), (900, some (kcOf false (defsD (x.2.2.2))))] := by
 refine ⟨fn_intro Tryz.func22 rfl Tryz.ntmps22 Tryz.results22 rfl (fun C => ?_)⟩
 have hwd : wDatabase x = x.1.size + wList wStore x.2.2.1 + wList wIndexDef x.2.2.2 := rfl
 have hwl : wList wStore x.2.2.1 = x.2.2.1.length + wSum wStore x.2.2.1 := rfl
 have hwi : wList wIndexDef x.2.2.2 = x.2.2.2.length + wSum wIndexDef x.2.2.2 := rfl
 refine yF 0 0 rfl rfl fun f0_0 => ?_
 refine yF 0 1 rfl rfl fun f0_1 => ?_
 refine yF 0 2 rfl rfl fun f0_2 => ?_
 refine yF 0 3 rfl rfl fun f0_3 => ?_
 iterate 4 refine z ?_
 refine ok_cutS (σ' := ⟨[(1, .box 1 0), (2, .box 2 0), (3, .box 3 0)], [(1, 33, [(.dv [] (.str (x.1))), (.dv [] (.int .i64 (x.2.1))), (.dv [] (storesD (x.2.2.1))), (.dv [] (defsD (x.2.2.2)))]), (2, 33, [(.dv [] (.str (ByteArray.empty))), (.dv [] (.int .i64 (0))), .nil, .nil]), (3, 33, [(.dv [] (.str (x.1))), (.dv [] (.int .i64 (x.2.1))), .nil, (.key 900)])], [(900, some (kcOf false (.sl 60 2 ((x.2.2.2).length) ((x.2.2.2).flatMap eDef))))]⟩) ?_ ?_
 ·skip
  refine ok_regionH [0, 1, 2, 3, 4, 5, 6, 7, 8, 9] (oB := [1, 2]) (oK := []) (by kernel_rfl) rfl rfl ?_
  refine n_start ?_
  refine zN 0 ?_
  refine zN 1 ?_
  refine zN 2 ?_
  refine zN 3 ?_
  refine zN 5 ?_
  refine zN 6 ?_
  refine n_split 4 [9] (by kernel_rfl) ⟨?_, ?_, trivial⟩
  ·skip
   refine nj_build0 (k := 900) 4 hT rfl rfl rfl rfl rfl rfl rfl rfl rfl rfl rfl rfl ?_
   refine n_split 7 [9] (by kernel_rfl) ⟨?_, ?_, trivial⟩
   ·skip
    refine nj_appV (k := 900) (cs := (x.2.2.2).flatMap eDef) (n := (x.2.2.2).length) 7 hT rfl rfl rfl rfl rfl rfl rfl rfl (ev_tmp rfl) rfl rfl rfl (ev_tmp rfl) (plain_flat (fun _ => rfl) _) (by first | (dsimp only [kcOf]; omega) | omega) (by first | (dsimp only [kcOf]; omega) | omega) (Nat.zero_add _) (rfl) rfl rfl ?_
    simp only [killT, killB, SV.kill, CV.kill, kk, Nat.reduceBEq]
    refine n_take 8 rfl (by kernel_rfl) rfl rfl (pu_build hT hB rfl rfl rfl (bp_cons (ev_tmp rfl) rfl rfl rfl rfl rfl (bp_cons (ev_tmp rfl) rfl rfl rfl rfl rfl (bp_cons (ev_tmp rfl) rfl rfl rfl rfl rfl bp_nil)))) rfl rfl rfl rfl ?_
    refine n_split 9 [] (by kernel_rfl) ⟨?_, trivial⟩
    ·skip
     refine nj_alloc 9 hT rfl rfl rfl rfl rfl rfl rfl rfl rfl rfl ?_
     refine n_split 10 [] (by kernel_rfl) ⟨?_, trivial⟩
     ·skip
      refine nj_last 10 rfl rfl (by kernel_rfl) (ef_storeBox hT rfl rfl rfl (ev_tmp rfl) (ev_tmp rfl) rfl rfl rfl rfl rfl rfl) (by kernel_rfl) ?_
      exact then_n (weak_sub ⟨rfl, rfl, rfl, trivial⟩ ⟨rfl, rfl, rfl, trivial⟩ ⟨rfl, trivial⟩ rfl)
   ·skip
    refine nj_alloc 9 hT rfl rfl rfl rfl rfl rfl rfl rfl rfl rfl ?_
    refine n_split 7 [] (by kernel_rfl) ⟨?_, trivial⟩
    ·skip
     refine nj_appV (k := 900) (cs := (x.2.2.2).flatMap eDef) (n := (x.2.2.2).length) 7 hT rfl rfl rfl rfl rfl rfl rfl rfl (ev_tmp rfl) rfl rfl rfl (ev_tmp rfl) (plain_flat (fun _ => rfl) _) (by first | (dsimp only [kcOf]; omega) | omega) (by first | (dsimp only [kcOf]; omega) | omega) (Nat.zero_add _) (rfl) rfl rfl ?_
     simp only [killT, killB, SV.kill, CV.kill, kk, Nat.reduceBEq]
     refine n_take 8 rfl (by kernel_rfl) rfl rfl (pu_build hT hB rfl rfl rfl (bp_cons (ev_tmp rfl) rfl rfl rfl rfl rfl (bp_cons (ev_tmp rfl) rfl rfl rfl rfl rfl (bp_cons (ev_tmp rfl) rfl rfl rfl rfl rfl bp_nil)))) rfl rfl rfl rfl ?_
     refine n_split 10 [] (by kernel_rfl) ⟨?_, trivial⟩
     ·skip
      refine nj_last 10 rfl rfl (by kernel_rfl) (ef_storeBox hT rfl rfl rfl (ev_tmp rfl) (ev_tmp rfl) rfl rfl rfl rfl rfl rfl) (by kernel_rfl) ?_
      exact then_n (weak_sub ⟨rfl, rfl, rfl, trivial⟩ ⟨rfl, rfl, rfl, trivial⟩ ⟨rfl, trivial⟩ rfl)
  ·skip
   refine nj_alloc 9 hT rfl rfl rfl rfl rfl rfl rfl rfl rfl rfl ?_
   refine n_split 4 [] (by kernel_rfl) ⟨?_, trivial⟩
   ·skip
    refine nj_build0 (k := 900) 4 hT rfl rfl rfl rfl rfl rfl rfl rfl rfl rfl rfl rfl ?_
    refine n_split 7 [] (by kernel_rfl) ⟨?_, trivial⟩
    ·skip
     refine nj_appV (k := 900) (cs := (x.2.2.2).flatMap eDef) (n := (x.2.2.2).length) 7 hT rfl rfl rfl rfl rfl rfl rfl rfl (ev_tmp rfl) rfl rfl rfl (ev_tmp rfl) (plain_flat (fun _ => rfl) _) (by first | (dsimp only [kcOf]; omega) | omega) (by first | (dsimp only [kcOf]; omega) | omega) (Nat.zero_add _) (rfl) rfl rfl ?_
     simp only [killT, killB, SV.kill, CV.kill, kk, Nat.reduceBEq]
     refine n_take 8 rfl (by kernel_rfl) rfl rfl (pu_build hT hB rfl rfl rfl (bp_cons (ev_tmp rfl) rfl rfl rfl rfl rfl (bp_cons (ev_tmp rfl) rfl rfl rfl rfl rfl (bp_cons (ev_tmp rfl) rfl rfl rfl rfl rfl bp_nil)))) rfl rfl rfl rfl ?_
     refine n_split 10 [] (by kernel_rfl) ⟨?_, trivial⟩
     ·skip
      refine nj_last 10 rfl rfl (by kernel_rfl) (ef_storeBox hT rfl rfl rfl (ev_tmp rfl) (ev_tmp rfl) rfl rfl rfl rfl rfl rfl) (by kernel_rfl) ?_
      exact then_n (weak_sub ⟨rfl, rfl, rfl, trivial⟩ ⟨rfl, rfl, rfl, trivial⟩ ⟨rfl, trivial⟩ rfl)
 refine ok_seq ?_
 refine ok_seq ?_
 refine ok_weak (weak_nilB 31 (b := 3) (i := 2) (e := 57) (sz := 3) rfl rfl rfl rfl rfl) ?_
 simp only [killT, killB, SV.kill, CV.kill, kk, Nat.reduceBEq]
 refine ok_region ?_
 iterate 3 refine z ?_
 refine ok_loop (ι := Nat) (fun zz => ⟨[(1, .box 1 0), (2, .box 2 0), (3, .box 3 0), (4, .one (.dv [] (.int .i64 ((zz : Int)))))], [(1, 33, [(.dv [] (.str (x.1))), (.dv [] (.int .i64 (x.2.1))), (.dv [] (storesD (x.2.2.1))), (.dv [] (defsD (x.2.2.2)))]), (2, 33, [(.dv [] (.str (ByteArray.empty))), (.dv [] (.int .i64 (0))), .nil, .nil]), (3, 33, [(.dv [] (.str (x.1))), (.dv [] (.int .i64 (x.2.1))), (.key 31), (.key 900)])], [(31, some (kcOf false (.sl 57 3 ((x.2.2.1.take zz).length) ((x.2.2.1.take zz).flatMap eStore)))), (900, some (kcOf false (.sl 60 2 ((x.2.2.2).length) ((x.2.2.2).flatMap eDef))))]⟩) (fun zz => zz ≤ x.2.2.1.length) (fun zz => x.2.2.1.length - zz) (0) ?_ (weak_sub ⟨rfl, rfl, rfl, rfl, trivial⟩ ⟨rfl, rfl, rfl, trivial⟩ ⟨rfl, rfl, trivial⟩ rfl) (fun zz hx => ?_)
 ·exact Nat.zero_le _
 obtain ⟨k, rfl⟩ : ∃ v, v = zz := ⟨_, rfl⟩
 replace hx : k ≤ x.2.2.1.length := hx
 have hw := fun h => wSum_succ wStore x.2.2.1 k h
 show Ok _ _ _ _ _ (⟨[(1, .box 1 0), (2, .box 2 0), (3, .box 3 0), (4, .one (.dv [] (.int .i64 ((k : Int)))))], [(1, 33, [(.dv [] (.str (x.1))), (.dv [] (.int .i64 (x.2.1))), (.dv [] (storesD (x.2.2.1))), (.dv [] (defsD (x.2.2.2)))]), (2, 33, [(.dv [] (.str (ByteArray.empty))), (.dv [] (.int .i64 (0))), .nil, .nil]), (3, 33, [(.dv [] (.str (x.1))), (.dv [] (.int .i64 (x.2.1))), (.key 31), (.key 900)])], [(31, some (kcOf false (.sl 57 3 ((x.2.2.1.take k).length) ((x.2.2.1.take k).flatMap eStore)))), (900, some (kcOf false (.sl 60 2 ((x.2.2.2).length) ((x.2.2.2).flatMap eDef))))]⟩ : St)
 iterate 8 refine z ?_
 refine yQ rfl (fun c1 => ?_) fun c1 => ?_
 ·skip
  have d1 := of_decide_eq_true c1
  have hk2 : k < x.2.2.1.length := by omega
  obtain ⟨hw1, hw2⟩ := hw hk2
  iterate 4 refine z ?_
  refine ok_regionH [0, 1, 2, 3, 4, 5, 6, 7, 8] (oB := [1, 2, 3]) (oK := [31, 900]) (by kernel_rfl) rfl rfl ?_
  refine zD 0 ?_
  refine zD 1 ?_
  refine zD 2 ?_
  refine zD 3 ?_
  refine zD 4 ?_
  refine zD 5 ?_
  refine zD 6 ?_
  refine d_callK 28000 7 rfl (by kernel_rfl) rfl rfl rfl Tryz.call42 (ok_spec_l6Copy (x := (((x.2.2.1)).getD ((k : Int)).toNat default)) (by omega)) (as_cons (ev_tmp rfl) (ag_agg (ag_cons ac_dv (ag_cons ac_dv (ag_cons ac_dv ag_nil)))) as_nil) rfl rfl rfl rfl rfl ?_
  refine d_build1 (k := 29) (js := [28030]) 8 hT rfl (by kernel_rfl) rfl rfl rfl rfl rfl rfl rfl rfl rfl (ev_tmp rfl) rfl rfl (ow_cons' (ow_dv rfl) (ow_cons' (ow_key rfl) (ow_cons' (ow_dv rfl) ow_nil rfl) rfl) rfl) (by decide) (by decide) rfl rfl (by decide) ?_
  simp only [killT, killB, SV.kill, CV.kill, kk, Nat.reduceBEq]
  refine d_chain [9, 10, 11] rfl rfl (by kernel_rfl) ?_
  refine o_appK (k := 31) (j := 29) (cs := (x.2.2.1.take (k + 1)).flatMap eStore) (n := (x.2.2.1.take (k + 1)).length) hT rfl rfl rfl rfl rfl rfl rfl (ev_tmp rfl) rfl rfl rfl (ev_tmp rfl) rfl rfl (by decide) (by dsimp only [kcOf]; simp only [List.length_take]; omega) (by dsimp only [kcOf]; simp only [List.length_take]; omega) ((take_csG (enc := eStore) hk2).2) ((take_csG (enc := eStore) hk2).1) ?_
  simp only [killT, killB, SV.kill, CV.kill, kk, Nat.reduceBEq]
  iterate 2 refine z ?_
  refine ops_nil ?_
  iterate 2 refine z ?_
  refine ok_region ?_
  iterate 4 refine z ?_
  refine ⟨k + 1, ?_, ?_, weak_sub ⟨rfl, rfl, rfl, rfl, trivial⟩ ⟨rfl, rfl, rfl, trivial⟩ ⟨rfl, rfl, trivial⟩ rfl⟩
  ·omega
  ·omega
 ·skip
  have d1 := of_decide_eq_false c1
  iterate 9 refine z ?_
  refine ok_weak (σ' := ⟨[(2, .box 2 0)], [(2, 33, [(.dv [] (.str (x.1))), (.dv [] (.int .i64 (x.2.1))), (.key 31), (.key 900)])], [(31, some (kcOf false (storesD (x.2.2.1)))), (900, some (kcOf false (defsD (x.2.2.2))))]⟩) (weak_sub ⟨rfl, trivial⟩ ⟨rfl, trivial⟩ ⟨(congrArg (fun l : List (StoreT) => some (some (KC.mk false 57 3 l.length (l.flatMap eStore)))) (List.take_of_length_le (by omega))), rfl, trivial⟩ rfl) ?_
  refine z ?_
  refine fin1 (res_cell hT rfl rfl rfl rfl) ?_
  exact ⟨rfl, rfl⟩
end Go.Proofs.YtdjlikknmbjjgaaGreat

namespace Go.Proofs.YtdjlikknmbjjgaaGreat
open Go.RowKit
open Go.Proofs
set_option linter.unusedVariables false
set_option linter.unusedSimpArgs false

section
variable {α : Type} {enc : α → List DV} {sz : Nat} {q : α → Bool} {x : List α}
theorem fl_len (hs : ∀ y, (enc y).length = sz) : ∀ xs : List α, (xs.flatMap enc).length = xs.length * sz
 | [] => by simp
 | y :: xs => by rw [List.flatMap_cons, List.length_append, fl_len hs xs, hs, List.length_cons, Nat.add_mul, Nat.one_mul, Nat.add_comm]
theorem findI_cases {p : α → Bool} {d : α} : ∀ (xs : List α) (i : Int), 0 ≤ i → (findI p xs i = -1 ∧ xs.any p = false) ∨ ∃ m, m < xs.length ∧ findI p xs i = i + (m : Int) ∧ (xs.take m).any p = false ∧ p (xs.getD m d) = true
 | [], i, h => .inl ⟨rfl, rfl⟩
 | y :: xs, i, h => by
  rw [findI]
  by_cases hp : p y = true
  ·rw [if_pos hp]
   exact .inr ⟨0, by simp, by simp, by simp, by simpa using hp⟩
  ·rw [if_neg hp]
   rcases findI_cases (p := p) (d := d) xs (i + 1) (by omega) with ⟨h1, h2⟩ | ⟨m, h1, h2, h3, h4⟩
   ·exact .inl ⟨h1, by simp [h2, hp]⟩
   ·exact .inr ⟨m + 1, by simpa using h1, by rw [h2]; omega, by simp [h3, hp], by simpa using h4⟩
def delC (enc : α → List DV) (q : α → Bool) (x : List α) (k : Nat) (G : List DV) : List DV := ((x.take k).filter q).flatMap enc ++ (G ++ (x.drop k).flatMap enc)
theorem delC_len (hs : ∀ y, (enc y).length = sz) {i k : Nat} {G : List DV} (hi : i = ((x.take k).filter q).length) (hG : G.length + i * sz = k * sz) (hk : k ≤ x.length) : (delC enc q x k G).length = x.length * sz := by
 have e : (x.length - k) * sz + k * sz = x.length * sz := by rw [← Nat.add_mul]; congr 1; omega
 rw [delC, List.length_append, List.length_append, fl_len hs, fl_len hs, ← hi, List.length_drop]
 omega
theorem delC_sub (hs : ∀ y, (enc y).length = sz) {i k : Nat} {G : List DV} [Inhabited α] (hi : i = ((x.take k).filter q).length) (hG : G.length + i * sz = k * sz) (hk : k < x.length) : sub (k * sz) sz (delC enc q x k G) = enc (x.getD k default) := by
 have e : x.drop k = x.getD k default :: x.drop (k + 1) := by rw [List.drop_eq_getElem_cons hk]; simp [List.getD, List.getElem?_eq_getElem hk]
 rw [delC, ← List.append_assoc, e, List.flatMap_cons, sub, List.drop_left' (by rw [List.length_append, fl_len hs, ← hi]; omega), List.take_left' (hs _)]
theorem delC_no (hs : ∀ y, (enc y).length = sz) {k : Nat} {G : List DV} [Inhabited α] (hk : k < x.length) (hq : q (x.getD k default) = false) : delC enc q x k G = delC enc q x (k + 1) (G ++ enc (x.getD k default)) ∧ ((x.take (k + 1)).filter q).length = ((x.take k).filter q).length := by
 have e : x.drop k = x.getD k default :: x.drop (k + 1) := by rw [List.drop_eq_getElem_cons hk]; simp [List.getD, List.getElem?_eq_getElem hk]
 have : x.getD k default = x[k] := by simp [List.getD, List.getElem?_eq_getElem hk]
 have e2 : (x.take (k + 1)).filter q = (x.take k).filter q := by
  rw [List.take_add_one, List.getElem?_eq_getElem hk, List.filter_append]
  rw [this] at hq
  simp [hq]
 refine ⟨?_, by rw [e2]⟩
 rw [delC, delC, e2, e, List.flatMap_cons]
 simp
theorem delC_yes {k : Nat} [Inhabited α] (hk : k < x.length) (hq : q (x.getD k default) = true) : ((x.take (k + 1)).filter q).length = ((x.take k).filter q).length + 1 := by
 have : x.getD k default = x[k] := by simp [List.getD, List.getElem?_eq_getElem hk]
 rw [List.take_add_one, List.getElem?_eq_getElem hk, List.filter_append]
 rw [this] at hq
 simp [hq]
theorem delC_end (hs : ∀ y, (enc y).length = sz) {i k : Nat} {G : List DV} (hi : i = ((x.take k).filter q).length) (hG : G.length + i * sz = k * sz) (hk : k = x.length) : setR (i * sz) (List.replicate ((x.length - i) * sz) .hole) (delC enc q x k G) = (x.filter q).flatMap enc ++ List.replicate ((x.length - i) * sz) .hole := by
 subst hk
 rw [List.take_length] at hi
 have m : (x.length - i) * sz + i * sz = x.length * sz := by rw [← Nat.add_mul]; congr 1; have := List.length_filter_le q x; omega
 rw [delC, List.take_length, List.drop_length, List.flatMap_nil]
 have := setR_mid3 (A := (x.filter q).flatMap enc) (B := G) (us := List.replicate ((x.length - i) * sz) DV.hole) (D := []) (off := i * sz) (by rw [fl_len hs, hi]) (by simp; omega)
 simpa using this
theorem delC_cut (hs : ∀ y, (enc y).length = sz) {i : Nat} {H : List DV} (hi : i = (x.filter q).length) : ((x.filter q).flatMap enc ++ H).take (i * sz) = (x.filter q).flatMap enc := List.take_left' (by rw [fl_len hs, hi])
theorem delC_start {m : Nat} [Inhabited α] (hm : m < x.length) (h3 : (x.take m).any (fun y => !q y) = false) (h4 : q (x.getD m default) = false) : x.flatMap enc = delC enc q x (m + 1) (enc (x.getD m default)) ∧ m = ((x.take (m + 1)).filter q).length := by
 have e : x.drop m = x.getD m default :: x.drop (m + 1) := by rw [List.drop_eq_getElem_cons hm]; simp [List.getD, List.getElem?_eq_getElem hm]
 have this : x.getD m default = x[m] := by simp [List.getD, List.getElem?_eq_getElem hm]
 have e1 : (x.take m).filter q = x.take m := by
  rw [List.filter_eq_self]
  intro y hy
  rw [List.any_eq_false] at h3
  simpa using h3 y hy
 have e2 : (x.take (m + 1)).filter q = x.take m := by
  rw [List.take_add_one, List.getElem?_eq_getElem hm, List.filter_append, e1]
  rw [this] at h4
  simp [h4]
 refine ⟨?_, by rw [e2, List.length_take]; omega⟩
 rw [delC, e2, ← List.flatMap_cons, ← e, ← List.flatMap_append, List.take_append_drop]
theorem filt_none (h : x.any (fun y => !q y) = false) : x.filter q = x := by
 rw [List.filter_eq_self]
 intro y hy
 rw [List.any_eq_false] at h
 simpa using h y hy
end
end Go.Proofs.YtdjlikknmbjjgaaGreat

namespace Go.Proofs.YtdjlikknmbjjgaaGreat
open Go.RowKit
open Go.Proofs
set_option linter.unusedVariables false
set_option linter.unusedSimpArgs false

theorem bl_irr : ∀ x : List UInt8, Op.bytesLess x x = false
 | [] => rfl
 | a :: x => by simp [Op.bytesLess, bl_irr x]
theorem bl_trans : ∀ x y z : List UInt8, Op.bytesLess x y = true → Op.bytesLess y z = true → Op.bytesLess x z = true
 | x, [], z, h, _ => by cases x <;> simp [Op.bytesLess] at h
 | x, b :: y, [], _, h => by simp [Op.bytesLess] at h
 | [], b :: y, c :: z, _, _ => rfl
 | a :: x, b :: y, c :: z, h1, h2 => by
  simp only [Op.bytesLess, Bool.or_eq_true, decide_eq_true_eq, Bool.and_eq_true, beq_iff_eq] at h1 h2 ⊢
  rcases h1 with h1 | ⟨rfl, h1⟩
  ·rcases h2 with h2 | ⟨rfl, h2⟩
   ·exact .inl (UInt8.lt_trans h1 h2)
   ·exact .inl h1
  ·rcases h2 with h2 | ⟨rfl, h2⟩
   ·exact .inl h2
   ·exact .inr ⟨rfl, bl_trans x y z h1 h2⟩
end Go.Proofs.YtdjlikknmbjjgaaGreat

namespace Go.Proofs.YtdjlikknmbjjgaaGreat
open Go.RowKit
open Go.Proofs
set_option linter.unusedVariables false
set_option linter.unusedSimpArgs false

section
variable {α : Type} {enc : α → List DV} {sz : Nat} {xs : List α} {i : Nat} [Inhabited α]
end
theorem isDb_st1 {d : DbT} (h : isDb d = true) : dbSt d = true := by
 rw [isDb] at h
 simp only [Bool.and_eq_true] at h
 exact h.2.1
end Go.Proofs.YtdjlikknmbjjgaaGreat

namespace Go.Proofs.YtdjlikknmbjjgaaGreat
open Go.RowKit
open Go.Proofs
set_option linter.unusedVariables false
set_option linter.unusedSimpArgs false

theorem wSumB {α : Type} {w : α → Nat} {B : Nat} : ∀ (l : List α), (∀ x ∈ l, w x ≤ B) → wSum w l ≤ l.length * B
 | [], _ => by simp [wSum]
 | x :: l, h => by
  have h1 := wSumB l (fun y hy => h y (by simp [hy]))
  have h2 := h x (by simp)
  have e : wSum w (x :: l) = w x + wSum w l := by simp [wSum]
  rw [e, List.length_cons, Nat.add_mul, Nat.one_mul]; omega
theorem sto_name {s : StoreT} (h : isSto s = true) : s.1.size ≤ 8 := by
 simp only [isSto, Bool.and_eq_true] at h
 have := h.2.1.1
 simp only [isName, Bool.and_eq_true, decide_eq_true_eq] at this
 omega
theorem size_list (s : Str) : s.size = s.toList.length := by rw [toList_data]; rfl
theorem isDb_w {d : DbT} (h : isDb d = true) : wDatabase d ≤ 5000000 := by
 have hst := isDb_st1 h
 rw [isDb] at h
 simp only [Bool.and_eq_true] at h
 obtain ⟨hh, _, hu⟩ := h
 simp only [dbHead, Bool.and_eq_true, decide_eq_true_eq] at hh
 obtain ⟨⟨⟨hn, _⟩, hl1⟩, hl2⟩ := hh
 simp only [isName, Bool.and_eq_true, decide_eq_true_eq] at hn
 have hs : ∀ s ∈ d.2.2.1, isSto s = true := fun s hs => by
  obtain ⟨i, hi, rfl⟩ := List.mem_iff_getElem.1 hs
  have := db_sto (d := d) (i := (i : Int)) hst (by omega) (by omega)
  simpa [List.getD, List.getElem?_eq_getElem hi] using this
 have h1 := wSumB (w := wStore) (B := 1000 * 1000) d.2.2.1 (fun s hm => sto_w (hs s hm))
 have h2 := wSumB (w := wIndexDef) (B := 16) d.2.2.2 (fun x hm => by
  obtain ⟨i, hi, rfl⟩ := List.mem_iff_getElem.1 hm
  simp only [dbUn, List.all_eq_true] at hu
  have h3 := hu i (List.mem_range.2 hi)
  have ex : d.2.2.2.getD i default = d.2.2.2[i] := by simp [List.getD, List.getElem?_eq_getElem hi]
  simp only [unBad, Int.toNat_natCast, ex, Bool.not_eq_true', Bool.or_eq_false_iff, decide_eq_false_iff_not, Bool.not_eq_false'] at h3
  obtain ⟨⟨⟨h4, h5⟩, _⟩, _⟩ := h3
  simp only [isName, Bool.and_eq_true, decide_eq_true_eq] at h5
  rcases findI_cases (p := hasName d.2.2.2[i].1) (d := default) d.2.2.1 0 (by omega) with ⟨h6, _⟩ | ⟨m, h6, _, _, h7⟩
  ·exact absurd (show fndS d d.2.2.2[i].1 < 0 by show findI _ _ _ < 0; omega) h4
  ·have hm' : d.2.2.1.getD m default ∈ d.2.2.1 := by simp [List.getD, List.getElem?_eq_getElem h6]
   have h8 := sto_name (hs _ hm')
   have h9 : (d.2.2.1.getD m default).1.toList = d.2.2.2[i].1.toList := by simpa [hasName, sEq] using h7
   have h10 : d.2.2.2[i].1.size ≤ 8 := by rw [size_list, ← h9, ← size_list]; exact h8
   have h11 : wIndexDef d.2.2.2[i] = d.2.2.2[i].1.size + d.2.2.2[i].2.size := rfl
   rw [h11]; omega)
 have h3 : wDatabase d = d.1.size + wList wStore d.2.2.1 + wList wIndexDef d.2.2.2 := rfl
 have h4 : wList wStore d.2.2.1 = d.2.2.1.length + wSum wStore d.2.2.1 := rfl
 have h5 : wList wIndexDef d.2.2.2 = d.2.2.2.length + wSum wIndexDef d.2.2.2 := rfl
 have h6 : d.2.2.1.length ≤ 4 := by omega
 have h7 : d.2.2.2.length ≤ 4 := by omega
 have h8 : d.2.2.1.length * (1000 * 1000) ≤ 4 * (1000 * 1000) := Nat.mul_le_mul_right _ h6
 omega
end Go.Proofs.YtdjlikknmbjjgaaGreat

namespace Go.Proofs.YtdjlikknmbjjgaaGreat
open Go.RowKit
open Go.Proofs
set_option linter.unusedVariables false
set_option linter.unusedSimpArgs false
def wUpgrade (x : UpgT) : Nat := (x.2.1).size + (x.2.2).size
theorem ok_laws_szUpgrade {x : UpgT} {left : Int} (h0 : 0 ≤ left) (h1 : left ≤ 1048576) : PFn Tryz.prog 6 [.agg [(.dv [] (.int .i64 (x.1))), (.dv [] (.str (x.2.1))), (.dv [] (.str (x.2.2)))], .one (.dv [] (.int .i64 (left)))] (.one (.dv [] (.int .i64 (szR (left) (wUpgrade x))))) := by
 refine ⟨fn_intro Tryz.func6 rfl Tryz.ntmps6 Tryz.results6 rfl (fun C => ?_)⟩
 refine yF 0 0 rfl rfl fun f0_0 => ?_
 refine yF 0 1 rfl rfl fun f0_1 => ?_
 refine yF 0 2 rfl rfl fun f0_2 => ?_
 refine ok_fact (x := .tmp 1) (ev_tmp rfl) fun f1 => ?_
 iterate 17 refine z ?_
 refine yQ rfl (fun c1 => ?_) fun c1 => ?_
 ·skip
  have d1 := of_decide_eq_true c1
  first | have q1 := szR_n d1 | skip
  iterate 6 refine z ?_
  have hh := szR_cases left (wUpgrade x); simp only [wUpgrade] at hh ⊢ <;> omega
 ·skip
  have d1 := of_decide_eq_false c1
  first | have q1 := szR_nn d1 | skip
  iterate 15 refine z ?_
  refine yQ rfl (fun c2 => ?_) fun c2 => ?_
  ·skip
   have d2 := of_decide_eq_true c2
   first | have q2 := szR_n d2 | skip
   iterate 6 refine z ?_
   have hh := szR_cases left (wUpgrade x); simp only [wUpgrade] at hh ⊢ <;> omega
  ·skip
   have d2 := of_decide_eq_false c2
   first | have q2 := szR_nn d2 | skip
   iterate 8 refine z ?_
   have hh := szR_cases left (wUpgrade x); simp only [wUpgrade] at hh ⊢ <;> omega
theorem ok_laws_szUpgradeS {x : List (UpgT)} {left : Int} (h0 : 0 ≤ left) (h1 : left ≤ 1048576) : PFn Tryz.prog 14 [.one (.dv [] (upsD (x))), .one (.dv [] (.int .i64 (left)))] (.one (.dv [] (.int .i64 (szR (left) (wList wUpgrade x))))) := by
 refine ⟨fn_intro Tryz.func14 rfl Tryz.ntmps14 Tryz.results14 rfl (fun C => ?_)⟩
 refine ok_fact (x := .tmp 0) (ev_tmp rfl) fun f0 => ?_
 refine ok_fact (x := .tmp 1) (ev_tmp rfl) fun f1 => ?_
 iterate 15 refine z ?_
 refine yQ rfl (fun c1 => ?_) fun c1 => ?_
 ·skip
  have d1 := of_decide_eq_true c1
  first | have q1 := szR_n d1 | skip
  iterate 6 refine z ?_
  have hh := szR_cases left (wList wUpgrade x); simp only [wList] at hh ⊢ <;> omega
 ·skip
  have d1 := of_decide_eq_false c1
  first | have q1 := szR_nn d1 | skip
  iterate 7 refine z ?_
  refine ok_loop (ι := Nat × Int) (fun zz => ⟨[(0, .one (.dv [] (upsD (x)))), (1, .one (.dv [] (.int .i64 (zz.2)))), (5, .one (.dv [] (.int .i64 ((zz.1 : Int)))))], [], []⟩) (fun zz => zz.1 ≤ x.length ∧ 0 ≤ zz.2 ∧ zz.2 + (wSum wUpgrade (x.take zz.1) : Int) = left - (x.length : Int)) (fun zz => x.length - zz.1) ((0, left - (x.length : Int))) ?_ (weak_sub ⟨rfl, rfl, rfl, trivial⟩ trivial trivial rfl) (fun zz hx => ?_)
  ·exact ⟨Nat.zero_le _, by omega, by simp [wSum]⟩
  obtain ⟨k, l⟩ := zz
  replace hx : k ≤ x.length ∧ 0 ≤ l ∧ l + (wSum wUpgrade (x.take k) : Int) = left - (x.length : Int) := hx
  obtain ⟨hk, hl, he⟩ := hx
  have hw := fun h => wSum_succ wUpgrade x k h
  show Ok _ _ _ _ _ (⟨[(0, .one (.dv [] (upsD (x)))), (1, .one (.dv [] (.int .i64 (l)))), (5, .one (.dv [] (.int .i64 ((k : Int)))))], [], []⟩ : St)
  iterate 7 refine z ?_
  refine yQ rfl (fun c2 => ?_) fun c2 => ?_
  ·skip
   have d2 := of_decide_eq_true c2
   first | have q2 := szR_n d2 | skip
   iterate 10 refine z ?_
   refine zC Tryz.call6 ?_ (hf := ok_laws_szUpgrade (by omega) (by omega))
   iterate 6 refine z ?_
   refine yQ rfl (fun c3 => ?_) fun c3 => ?_
   ·skip
    have d3 := of_decide_eq_true c3
    first | have q3 := szR_n d3 | skip
    iterate 10 refine z ?_
    have hw' := hw (by omega); have hh := szR_cases left (wList wUpgrade x); simp only [wList] at hh ⊢ <;> omega
   ·skip
    have d3 := of_decide_eq_false c3
    first | have q3 := szR_nn d3 | skip
    iterate 3 refine z ?_
    refine ok_region ?_
    iterate 4 refine z ?_
    refine ⟨(k + 1, szR l (wUpgrade (x.getD (k : Int).toNat default))), ?_, ?_, weak_sub ⟨rfl, rfl, rfl, trivial⟩ trivial trivial rfl⟩
    ·have hw' := hw (by omega)
     dsimp only
     exact ⟨by omega, by omega, by omega⟩
    ·omega
  ·skip
   have d2 := of_decide_eq_false c2
   first | have q2 := szR_nn d2 | skip
   iterate 11 refine z ?_
   have hw' := wSum_all wUpgrade x k (by omega); have hh := szR_cases left (wList wUpgrade x); simp only [wList] at hh ⊢ <;> omega
theorem ok_laws_toUpgrade {x : UpgT}  : PFn Tryz.prog 9 [.agg [(.dv [] (.int .i64 (x.1))), (.dv [] (.str (x.2.1))), (.dv [] (.str (x.2.2)))]] (.agg [(.dv [] (.int .i64 (x.1))), (.dv [] (.str (x.2.1))), (.dv [] (.str (x.2.2)))]) := by
 refine ⟨fn_intro Tryz.func9 rfl Tryz.ntmps9 Tryz.results9 rfl (fun C => ?_)⟩
 refine yF 0 0 rfl rfl fun f0_0 => ?_
 refine yF 0 1 rfl rfl fun f0_1 => ?_
 refine yF 0 2 rfl rfl fun f0_2 => ?_
 iterate 30 refine z ?_
 refine fin1 (res_cell hT rfl rfl rfl rfl) ?_
 rfl
theorem ok_laws_toUpgradeS {x : List (UpgT)} (hb : wList wUpgrade x ≤ 1048576) : KFn Tryz.prog 16 [.one (.dv [] (upsD (x)))] (.one (.key 7)) [(7, some (kcOf false (upsD (x))))] := by
 refine ⟨fn_intro Tryz.func16 rfl Tryz.ntmps16 Tryz.results16 rfl (fun C => ?_)⟩
 refine ok_fact (x := .tmp 0) (ev_tmp rfl) fun f0 => ?_
 iterate 6 refine z ?_
 refine o_make (k := 7) (n := ((x)).length) (zd := [.int .i64 (0), .str (ByteArray.empty), .str (ByteArray.empty)]) (cs := fillD eUp [.int .i64 (0), .str (ByteArray.empty), .str (ByteArray.empty)] x 0) hT rfl rfl rfl rfl rfl rfl (ev_tmp rfl) (ev_tmp rfl) rfl rfl rfl (by have := wList_len wUpgrade x; omega) rfl rfl fillD_zero ?_
 iterate 7 refine z ?_
 refine ok_loop (ι := Nat) (fun zz => ⟨[(0, .one (.dv [] (upsD (x)))), (3, .one (.key 7)), (4, .one (.dv [] (.int .i64 ((zz : Int)))))], [], [(7, some (kcOf false (.sl 37 3 ((x).length) (fillD eUp [.int .i64 (0), .str (ByteArray.empty), .str (ByteArray.empty)] x zz))))]⟩) (fun zz => zz ≤ x.length) (fun zz => x.length - zz) (0) ?_ (weak_sub ⟨rfl, rfl, rfl, trivial⟩ trivial ⟨rfl, trivial⟩ rfl) (fun zz hx => ?_)
 ·exact Nat.zero_le _
 obtain ⟨k, rfl⟩ : ∃ v, v = zz := ⟨_, rfl⟩
 replace hx : k ≤ x.length := hx
 have hw := fun h => wSum_succ wUpgrade x k h
 have hw2 := wSum_le wUpgrade x (k + 1)
 have hw3 : wList wUpgrade x = x.length + wSum wUpgrade x := rfl
 show Ok _ _ _ _ _ (⟨[(0, .one (.dv [] (upsD (x)))), (3, .one (.key 7)), (4, .one (.dv [] (.int .i64 ((k : Int)))))], [], [(7, some (kcOf false (.sl 37 3 ((x).length) (fillD eUp [.int .i64 (0), .str (ByteArray.empty), .str (ByteArray.empty)] x k))))]⟩ : St)
 iterate 7 refine z ?_
 refine yQ rfl (fun c1 => ?_) fun c1 => ?_
 ·skip
  have d1 := of_decide_eq_true c1
  iterate 4 refine z ?_
  refine ok_region ?_
  iterate 6 refine z ?_
  refine zC Tryz.call9 ?_ (hf := ok_laws_toUpgrade)
  refine yO rfl rfl (pu_indexK (i := k) hT rfl rfl rfl (ev_tmp rfl) rfl (ev_tmp rfl) rfl (by show _ < ((x).length); omega)) rfl ?_
  refine o_storeE (js := []) (cs := fillD eUp [.int .i64 (0), .str (ByteArray.empty), .str (ByteArray.empty)] x (k + 1)) hT rfl rfl rfl rfl (ev_tmp rfl) (ev_tmp rfl) rfl rfl rfl rfl (ow_cons' (ow_dv rfl) (ow_cons' (ow_dv rfl) (ow_cons' (ow_dv rfl) ow_nil rfl) rfl) rfl) (by decide) (by decide) rfl (by show _ ≤ List.length (fillD eUp [.int .i64 (0), .str (ByteArray.empty), .str (ByteArray.empty)] x k); rw [fillD_len (sz := 3) (fun _ => rfl) rfl]; omega) (fillD_succ (sz := 3) (fun _ => rfl) rfl (by omega) rfl) ?_
  simp only [killT, killB, SV.kill, CV.kill, kk, Nat.reduceBEq]
  refine ops_nil ?_
  iterate 2 refine z ?_
  refine ok_region ?_
  iterate 4 refine z ?_
  refine ⟨k + 1, ?_, ?_, weak_sub ⟨rfl, rfl, rfl, trivial⟩ trivial ⟨rfl, trivial⟩ rfl⟩
  ·omega
  ·omega
 ·skip
  have d1 := of_decide_eq_false c1
  iterate 9 refine z ?_
  refine ok_weak (σ' := ⟨[(2, .one (.key 7))], [], [(7, some (kcOf false (upsD (x))))]⟩) (weak_sub ⟨rfl, trivial⟩ trivial ⟨(congrArg (fun cs => some (some (KC.mk false 37 3 x.length cs))) (fillD_all (by omega))), trivial⟩ rfl) ?_
  refine z ?_
  refine fin1 (res_tmp rfl) ?_
  exact ⟨rfl, rfl⟩
theorem ok_laws_eqUpgrade {x : UpgT}  : PFn Tryz.prog 38 [.agg [(.dv [] (.int .i64 (x.1))), (.dv [] (.str (x.2.1))), (.dv [] (.str (x.2.2)))], .agg [(.dv [] (.int .i64 (x.1))), (.dv [] (.str (x.2.1))), (.dv [] (.str (x.2.2)))]] (.one (.dv [] (.bool (true)))) := by
 refine ⟨fn_intro Tryz.func38 rfl Tryz.ntmps38 Tryz.results38 rfl (fun C => ?_)⟩
 refine yF 0 0 rfl rfl fun f0_0 => ?_
 refine yF 0 1 rfl rfl fun f0_1 => ?_
 refine yF 0 2 rfl rfl fun f0_2 => ?_
 refine yF 1 0 rfl rfl fun f1_0 => ?_
 refine yF 1 1 rfl rfl fun f1_1 => ?_
 refine yF 1 2 rfl rfl fun f1_2 => ?_
 iterate 13 refine z ?_
 refine yQ rfl (fun c1 => ?_) fun c1 => ?_
 ·skip
  have d1 := nd_t c1
  iterate 6 refine z ?_
  first | rfl | (exfalso; simp_all [sEq])
 ·skip
  have d1 := nd_f c1
  iterate 10 refine z ?_
  refine yQ rfl (fun c2 => ?_) fun c2 => ?_
  ·skip
   iterate 6 refine z ?_
   first | rfl | (exfalso; simp_all [sEq])
  ·skip
   iterate 10 refine z ?_
   refine yQ rfl (fun c3 => ?_) fun c3 => ?_
   ·skip
    iterate 6 refine z ?_
    first | rfl | (exfalso; simp_all [sEq])
   ·skip
    iterate 7 refine z ?_
    first | rfl | (exfalso; simp_all [sEq])
theorem ok_laws_eqUpgradeS {x : List (UpgT)}  : PFn Tryz.prog 18 [.one (.dv [] (upsD (x))), .one (.dv [] (upsD (x)))] (.one (.dv [] (.bool (true)))) := by
 refine ⟨fn_intro Tryz.func18 rfl Tryz.ntmps18 Tryz.results18 rfl (fun C => ?_)⟩
 refine ok_fact (x := .tmp 0) (ev_tmp rfl) fun f0 => ?_
 refine ok_fact (x := .tmp 1) (ev_tmp rfl) fun f1 => ?_
 iterate 11 refine z ?_
 refine yQ rfl (fun c1 => ?_) fun c1 => ?_
 ·skip
  have d1 := nd_t c1
  iterate 6 refine z ?_
  first | rfl | (exfalso; simp_all [sEq])
 ·skip
  have d1 := nd_f c1
  iterate 7 refine z ?_
  refine ok_loop (ι := Nat) (fun zz => ⟨[(0, .one (.dv [] (upsD (x)))), (1, .one (.dv [] (upsD (x)))), (5, .one (.dv [] (.int .i64 ((zz : Int)))))], [], []⟩) (fun zz => zz ≤ x.length) (fun zz => x.length - zz) (0) ?_ (weak_sub ⟨rfl, rfl, rfl, trivial⟩ trivial trivial rfl) (fun zz hx => ?_)
  ·exact Nat.zero_le _
  obtain ⟨k, rfl⟩ : ∃ v, v = zz := ⟨_, rfl⟩
  replace hx : k ≤ x.length := hx
  show Ok _ _ _ _ _ (⟨[(0, .one (.dv [] (upsD (x)))), (1, .one (.dv [] (upsD (x)))), (5, .one (.dv [] (.int .i64 ((k : Int)))))], [], []⟩ : St)
  iterate 7 refine z ?_
  refine yQ rfl (fun c2 => ?_) fun c2 => ?_
  ·skip
   have d2 := of_decide_eq_true c2
   iterate 4 refine z ?_
   refine ok_seq ?_
   refine ok_regionD (oB := []) (oK := []) (by kernel_rfl) rfl rfl ?_
   refine zD 0 ?_
   refine zD 1 ?_
   refine zD 2 ?_
   refine zD 3 ?_
   refine zD 4 ?_
   refine zD 5 ?_
   refine zD 6 ?_
   refine zD 7 ?_
   refine d_call 8 rfl (by kernel_rfl) rfl rfl rfl Tryz.call38 ok_laws_eqUpgrade (as_cons (ev_tmp rfl) (ag_agg (ag_cons ac_dv (ag_cons ac_dv (ag_cons ac_dv ag_nil)))) (as_cons (ev_tmp rfl) (ag_agg (ag_cons ac_dv (ag_cons ac_dv (ag_cons ac_dv ag_nil)))) as_nil)) rfl rfl rfl rfl ?_
   refine zD 9 ?_
   refine d_done (by kernel_rfl) ?_
   refine z ?_
   refine yQ rfl (fun c3 => ?_) fun c3 => ?_
   ·skip
    iterate 10 refine z ?_
    first | rfl | (exfalso; simp_all [sEq])
   ·skip
    iterate 3 refine z ?_
    refine ok_region ?_
    iterate 4 refine z ?_
    refine ⟨k + 1, ?_, ?_, weak_sub ⟨rfl, rfl, rfl, trivial⟩ trivial trivial rfl⟩
    ·omega
    ·omega
  ·skip
   have d2 := of_decide_eq_false c2
   iterate 10 refine z ?_
   first | rfl | (exfalso; simp_all [sEq])
def mkUpgrade (x : UpgT) (k : Int) : UpgT := (k, mText ((k) + (1)), mText (((k) + (1)) + (1)))
def cUpgrade (x : UpgT) : Nat := 3
theorem cUpgrade_le (x : UpgT) : cUpgrade x ≤ 8 * (1 + wUpgrade x) := by
 simp only [cUpgrade]
 omega
theorem ok_laws_markUpgradeS {x : List (UpgT)} {k : Int} (h0 : 0 ≤ k) (h1 : k + (wSum cUpgrade x : Int) ≤ 4611686018427387904) : WFn Tryz.prog 19 [.one (.key 0), .one (.dv [] (.int .i64 (k)))] (.one (.dv [] (.int .i64 (k + (wSum cUpgrade x : Int))))) [(0, kcOf true (.sl 37 3 (x.length) (x.flatMap eUp)))] [(0, kcOf true (upsD (mkL mkUpgrade cUpgrade x k)))] := by
 refine ⟨fn_intro Tryz.func19 rfl Tryz.ntmps19 Tryz.results19 rfl (fun C => ?_)⟩
 have hln : x.length ≤ wSum cUpgrade x := wSum_ge (fun _ => by simp only [cUpgrade]; omega) x
 refine ok_fact (x := .tmp 1) (ev_tmp rfl) fun f1 => ?_
 iterate 8 refine z ?_
 refine ok_loop (ι := Nat) (fun zz => ⟨[(0, .one (.key 0)), (1, .one (.dv [] (.int .i64 (k + (wSum cUpgrade (x.take zz) : Int))))), (4, .one (.dv [] (.int .i64 (0)))), (5, .one (.dv [] (.int .i64 ((zz : Int)))))], [], [(0, some ⟨true, 37, 3, x.length, (mkL mkUpgrade cUpgrade (x.take zz) k).flatMap eUp ++ (x.drop zz).flatMap eUp⟩)]⟩) (fun zz => zz ≤ x.length) (fun zz => x.length - zz) (0) ?_ (weak_sub ⟨rfl, (eqSlotI (by simp [wSum])), rfl, rfl, trivial⟩ trivial ⟨rfl, trivial⟩ rfl) (fun zz hx => ?_)
 ·exact Nat.zero_le _
 obtain ⟨j, rfl⟩ : ∃ v, v = zz := ⟨_, rfl⟩
 replace hx : j ≤ x.length := hx
 have hw := fun h => wSum_succ cUpgrade x j h
 show Ok _ _ _ _ _ (⟨[(0, .one (.key 0)), (1, .one (.dv [] (.int .i64 (k + (wSum cUpgrade (x.take j) : Int))))), (4, .one (.dv [] (.int .i64 (0)))), (5, .one (.dv [] (.int .i64 ((j : Int)))))], [], [(0, some ⟨true, 37, 3, x.length, (mkL mkUpgrade cUpgrade (x.take j) k).flatMap eUp ++ (x.drop j).flatMap eUp⟩)]⟩ : St)
 iterate 4 refine z ?_
 refine yO rfl rfl (pu_lenKn (n := (x.length)) hT rfl rfl (ev_tmp rfl) rfl rfl) rfl ?_
 iterate 2 refine z ?_
 refine yQ rfl (fun c1 => ?_) fun c1 => ?_
 ·skip
  have d1 := of_decide_eq_true c1
  have hj : j < x.length := by omega
  obtain ⟨hw1, hw2⟩ := hw hj
  have hc : cUpgrade (x.getD (j : Int).toNat default) = 3 := rfl
  refine ok_kcs (k := 0) (cs' := mid ((mkL mkUpgrade cUpgrade (x.take j) k).flatMap eUp) [.int .i64 ((x.getD (j : Int).toNat default).1), .str ((x.getD (j : Int).toNat default).2.1), .str ((x.getD (j : Int).toNat default).2.2)] ((x.drop (j + 1)).flatMap eUp)) rfl (mk_open hj) ?_
  iterate 8 refine z ?_
  refine yO rfl rfl (pu_indexK (i := j) hT rfl rfl rfl (ev_tmp rfl) rfl (ev_tmp rfl) rfl (by show _ < (x.length); omega)) rfl ?_
  refine z ?_
  refine o_storeE (js := []) (cs := mid ((mkL mkUpgrade cUpgrade (x.take j) k).flatMap eUp) [.int .i64 (k + (wSum cUpgrade (x.take j) : Int)), .str ((x.getD (j : Int).toNat default).2.1), .str ((x.getD (j : Int).toNat default).2.2)] ((x.drop (j + 1)).flatMap eUp)) hT rfl rfl rfl rfl (ev_tmp rfl) (ev_tmp rfl) rfl rfl rfl rfl (ow_cons' (ow_dv rfl) ow_nil rfl) (by decide) (by decide) rfl (le_mid (off := (j * 3 + 0)) (n := 1) (j := 0) (mk_pre (sz := 3) (fun _ => rfl) (Nat.le_of_lt hj)) (by omega) (Nat.le_of_ble_eq_true rfl)) (setR_mid (off := (j * 3 + 0)) (j := 0) (mk_pre (sz := 3) (fun _ => rfl) (Nat.le_of_lt hj)) (by omega) rfl (Nat.le_of_ble_eq_true rfl)) ?_
  simp only [killT, killB, SV.kill, CV.kill, kk, Nat.reduceBEq]
  iterate 10 refine z ?_
  refine zC Tryz.call39 ?_ (hf := ok_laws_markText (by omega))
  refine yO rfl rfl (pu_indexK (i := j) hT rfl rfl rfl (ev_tmp rfl) rfl (ev_tmp rfl) rfl (by show _ < (x.length); omega)) rfl ?_
  refine z ?_
  refine o_storeE (js := []) (cs := mid ((mkL mkUpgrade cUpgrade (x.take j) k).flatMap eUp) [.int .i64 (k + (wSum cUpgrade (x.take j) : Int)), .str (mText ((k + (wSum cUpgrade (x.take j) : Int)) + (1))), .str ((x.getD (j : Int).toNat default).2.2)] ((x.drop (j + 1)).flatMap eUp)) hT rfl rfl rfl rfl (ev_tmp rfl) (ev_tmp rfl) rfl rfl rfl rfl (ow_cons' (ow_dv rfl) ow_nil rfl) (by decide) (by decide) rfl (le_mid (off := (j * 3 + 1)) (n := 1) (j := 1) (mk_pre (sz := 3) (fun _ => rfl) (Nat.le_of_lt hj)) (by omega) (Nat.le_of_ble_eq_true rfl)) (setR_mid (off := (j * 3 + 1)) (j := 1) (mk_pre (sz := 3) (fun _ => rfl) (Nat.le_of_lt hj)) (by omega) rfl (Nat.le_of_ble_eq_true rfl)) ?_
  simp only [killT, killB, SV.kill, CV.kill, kk, Nat.reduceBEq]
  iterate 10 refine z ?_
  refine zC Tryz.call39 ?_ (hf := ok_laws_markText (by omega))
  refine yO rfl rfl (pu_indexK (i := j) hT rfl rfl rfl (ev_tmp rfl) rfl (ev_tmp rfl) rfl (by show _ < (x.length); omega)) rfl ?_
  refine z ?_
  refine o_storeE (js := []) (cs := mid ((mkL mkUpgrade cUpgrade (x.take j) k).flatMap eUp) [.int .i64 (k + (wSum cUpgrade (x.take j) : Int)), .str (mText ((k + (wSum cUpgrade (x.take j) : Int)) + (1))), .str (mText (((k + (wSum cUpgrade (x.take j) : Int)) + (1)) + (1)))] ((x.drop (j + 1)).flatMap eUp)) hT rfl rfl rfl rfl (ev_tmp rfl) (ev_tmp rfl) rfl rfl rfl rfl (ow_cons' (ow_dv rfl) ow_nil rfl) (by decide) (by decide) rfl (le_mid (off := (j * 3 + 2)) (n := 1) (j := 2) (mk_pre (sz := 3) (fun _ => rfl) (Nat.le_of_lt hj)) (by omega) (Nat.le_of_ble_eq_true rfl)) (setR_mid (off := (j * 3 + 2)) (j := 2) (mk_pre (sz := 3) (fun _ => rfl) (Nat.le_of_lt hj)) (by omega) rfl (Nat.le_of_ble_eq_true rfl)) ?_
  simp only [killT, killB, SV.kill, CV.kill, kk, Nat.reduceBEq]
  refine z ?_
  refine ok_region ?_
  iterate 3 refine z ?_
  refine ops_nil ?_
  iterate 2 refine z ?_
  refine ok_region ?_
  iterate 4 refine z ?_
  refine ⟨j + 1, ?_, ?_, weak_sub ⟨rfl, (eqSlotI (by omega)), rfl, rfl, trivial⟩ trivial ⟨(congrArg (fun cs => some (some (KC.mk true 37 3 x.length cs))) (mk_close (by omega) (by rfl))), trivial⟩ rfl⟩
  ·omega
  ·omega
 ·skip
  have d1 := of_decide_eq_false c1
  iterate 9 refine z ?_
  refine ok_weak (σ' := ⟨[(4, .one (.dv [] (.int .i64 (k + (wSum cUpgrade (x.take j) : Int)))))], [], [(0, some (kcOf true (upsD (mkL mkUpgrade cUpgrade x k))))]⟩) (weak_sub ⟨rfl, trivial⟩ trivial ⟨(mk_fin (by omega)), trivial⟩ rfl) ?_
  refine z ?_
  refine fin1 (res_tmp rfl) ⟨eqI ?_, w1_ok rfl⟩
  have hq := wSum_all cUpgrade x j (by omega); omega

def posN (n : Str) : List StoreT → Nat
 | [] => 0
 | s :: l => if sLt s.1 n then posN n l + 1 else 0
def insS (l : List StoreT) (j : Nat) (s : StoreT) : List StoreT := l.take j ++ s :: l.drop j
@[reducible] def idxU (d : DbT) (x : DefT) : Int := findI (eqDefB x) d.2.2.2 0
def notN (n : Str) (y : DefT) : Bool := !sEq y.1 n
def notS (n : Str) (s : StoreT) : Bool := !sEq s.1 n
def upI (d : DbT) (u : UpgT) : DbT × Bool :=
 if u.1 = 1 then ((d.1, d.2.1, insS d.2.2.1 (posN u.2.1 d.2.2.1) (u.2.1, [], 0), d.2.2.2), decide (fndS d u.2.1 < 0))
 else if u.1 = 2 then ((d.1, d.2.1, (if 0 ≤ fndS d u.2.1 then d.2.2.1.eraseIdx (fndS d u.2.1).toNat else d.2.2.1), d.2.2.2.filter (notN u.2.1)), decide (0 ≤ fndS d u.2.1))
 else if u.1 = 3 then ((d.1, d.2.1, d.2.2.1, d.2.2.2 ++ [u.2]), decide (idxU d u.2 < 0))
 else if u.1 = 4 then ((d.1, d.2.1, d.2.2.1, (if 0 ≤ idxU d u.2 then d.2.2.2.eraseIdx (idxU d u.2).toNat else d.2.2.2)), decide (0 ≤ idxU d u.2))
 else (d, false)
def upA (d : DbT) (u : UpgT) : DbT × Bool := if (!isDb d || !(upI d u).2 || !isDb (upI d u).1) = true then (d, false) else ((upI d u).1, true)
def dropD (d : DbT) (n : Str) : DbT := (d.1, d.2.1, d.2.2.1.filter (notS n), d.2.2.2.filter (notN n))
theorem posN_step {n : Str} {l : List StoreT} {j : Nat} (hp : posN n l = j + posN n (l.drop j)) (h3 : j < l.length) (h2 : sLt (l.getD (j : Int).toNat default).1 n = true) : posN n l = (j + 1) + posN n (l.drop (j + 1)) := by
 have e : l.drop j = l.getD (j : Int).toNat default :: l.drop (j + 1) := by rw [List.drop_eq_getElem_cons h3]; simp [List.getD, List.getElem?_eq_getElem h3]
 rw [hp, e, posN, if_pos h2]
 omega
theorem posN_stop {n : Str} {l : List StoreT} {j : Nat} (hp : posN n l = j + posN n (l.drop j)) (hj : j ≤ l.length) (h2 : (decide ((j : Int) < (l.length : Int)) && sLt (l.getD (j : Int).toNat default).1 n) = false) : posN n l = j := by
 rcases Nat.lt_or_ge j l.length with h3 | h3
 ·rw [decide_eq_true (by omega : (j : Int) < (l.length : Int)), Bool.true_and] at h2
  have e : l.drop j = l.getD (j : Int).toNat default :: l.drop (j + 1) := by rw [List.drop_eq_getElem_cons h3]; simp [List.getD, List.getElem?_eq_getElem h3]
  rw [hp, e, posN, if_neg (by rw [h2]; simp)]; omega
 ·rw [hp, List.drop_eq_nil_of_le h3, posN]; omega
theorem insS_len {l : List StoreT} {j : Nat} {s : StoreT} (h : j ≤ l.length) : (insS l j s).length = l.length + 1 := by
 rw [insS, List.length_append, List.length_cons, List.length_take, List.length_drop]; omega
theorem insL_sto {o : List StoreT} {j : Nat} {y : StoreT} : insL (o.flatMap eStore) (((j : Nat) : Int).toNat * 3) (eStore y) = (insS o j y).flatMap eStore := by
 obtain ⟨h1, h2⟩ := take_flat (enc := eStore) (sz := 3) (fun _ => rfl) j o
 rw [insL, Int.toNat_natCast, h1, h2, insS, List.flatMap_append, List.flatMap_cons, ← List.append_assoc]
def srtN : List StoreT → Prop
 | [] => True
 | y :: ys => (∀ z ∈ ys, sLt y.1 z.1 = true) ∧ srtN ys
theorem srtN_of : ∀ (l : List StoreT), (∀ i, i + 1 < l.length → sLt (l.getD i default).1 (l.getD (i + 1) default).1 = true) → srtN l
 | [], _ => trivial
 | [y], _ => ⟨by simp, trivial⟩
 | y :: z :: l, h => by
  have ih := srtN_of (z :: l) (fun i hi => by have := h (i + 1) (by simp only [List.length_cons] at hi ⊢; omega); simpa using this)
  have h0 : sLt y.1 z.1 = true := by simpa using h 0 (by simp)
  refine ⟨fun u hu => ?_, ih⟩
  rcases List.mem_cons.1 hu with rfl | hu
  ·exact h0
  ·exact bl_trans _ _ _ h0 (ih.1 u hu)
theorem db_srt {d : DbT} (h : isDb d = true) : srtN d.2.2.1 := by
 refine srtN_of _ (fun i hi => ?_)
 rw [isDb, Bool.and_eq_true, Bool.and_eq_true] at h
 have h1 := h.2.1
 rw [dbSt, List.all_eq_true] at h1
 have h2 := h1 (i + 1) (List.mem_range.2 hi)
 rw [← stBadS_eq] at h2
 simp only [stBadS, Bool.not_eq_true', Bool.or_eq_false_iff] at h2
 have h3 := h2.2
 rw [decide_eq_true (by omega : (0 : Int) < ((i + 1 : Nat) : Int)), Bool.true_and, show (((i + 1 : Nat) : Int) - 1).toNat = i by omega, Int.toNat_natCast] at h3
 simpa using h3
theorem notS_has (n : Str) (s : StoreT) : notS n s = !hasName n s := rfl
theorem filtS_all {n : Str} {l : List StoreT} (h : ∀ z ∈ l, sEq z.1 n = false) : l.filter (notS n) = l := by
 rw [List.filter_eq_self]
 intro y hy
 rw [notS, h y hy]; rfl
theorem srt_filt {n : Str} : ∀ (l : List StoreT) (i : Int), 0 ≤ i → srtN l → i ≤ findI (hasName n) l i → l.filter (notS n) = l.eraseIdx (findI (hasName n) l i - i).toNat
 | [], i, hi, _, h => by rw [findI] at h; omega
 | y :: ys, i, hi, hs, h => by
  by_cases hp : hasName n y = true
  ·rw [findI, if_pos hp, show (i - i).toNat = 0 by omega, List.eraseIdx_cons_zero, List.filter_cons_of_neg (by rw [notS_has, hp]; simp)]
   refine filtS_all (fun z hz => ?_)
   have h1 := hs.1 z hz
   cases h2 : sEq z.1 n with
   | false => rfl
   | true =>
    have e1 : z.1.toList = n.toList := by simpa [sEq] using h2
    have e2 : y.1.toList = n.toList := by simpa [hasName, sEq] using hp
    rw [sLt, e1, e2, bl_irr] at h1; cases h1
  ·rw [findI, if_neg hp] at h ⊢
   have h1 : i + 1 ≤ findI (hasName n) ys (i + 1) := by
    rcases findI_cases (p := hasName n) (d := default) ys (i + 1) (by omega) with ⟨h2, _⟩ | ⟨m, _, h2, _, _⟩ <;> omega
   have ih := srt_filt ys (i + 1) (by omega) hs.2 h1
   rw [show (findI (hasName n) ys (i + 1) - i).toNat = (findI (hasName n) ys (i + 1) - (i + 1)).toNat + 1 by omega, List.eraseIdx_cons_succ, List.filter_cons_of_pos (by rw [notS_has]; simpa using hp), ih]
theorem drop_eq {d : DbT} {n : Str} (h : isDb d = true) (hk : 0 ≤ fndS d n) : d.2.2.1.filter (notS n) = d.2.2.1.eraseIdx (fndS d n).toNat := by
 have := srt_filt (n := n) d.2.2.1 0 (by omega) (db_srt h) hk
 rw [this, Int.sub_zero]
section
variable {d : DbT} {u : UpgT}
theorem upA_bad (h : isDb d = false) : upA d u = (d, false) := by rw [upA, if_pos (by rw [h]; rfl)]
theorem upA_no (h : (upI d u).2 = false) : upA d u = (d, false) := by rw [upA, if_pos (by rw [h]; simp)]
theorem upA_out {o : DbT} (e : isDb d = true → (upI d u).1 = o) (h : (!isDb d || !isDb o) = true) : upA d u = (d, false) := by
 cases hd : isDb d with
 | false => exact upA_bad hd
 | true =>
  rw [hd] at h
  rw [upA, if_pos (by rw [e hd]; simp only [Bool.not_true, Bool.false_or] at h; rw [h]; simp)]
theorem upA_yes {o : DbT} (e : isDb d = true → (upI d u).1 = o) (e2 : (upI d u).2 = true) (h : (!isDb d || !isDb o) = false) : upA d u = (o, true) := by
 simp only [Bool.or_eq_false_iff, Bool.not_eq_false'] at h
 rw [upA, if_neg (by rw [e h.1, h.1, e2, h.2]; simp), e h.1]
theorem isDb_un0 {x : DefT} (h : fndS d x.1 < 0) : isDb (d.1, d.2.1, d.2.2.1, d.2.2.2 ++ [x]) = false := by
 refine isDb_un (k := d.2.2.2.length) (by simp) ?_
 have e : (d.2.2.2 ++ [x]).getD ((d.2.2.2.length : Nat) : Int).toNat default = x := by simp [List.getD]
 unfold unBad
 simp only [e]
 rw [decide_eq_true (show fndS (d.1, d.2.1, d.2.2.1, d.2.2.2 ++ [x]) x.1 < 0 from h)]
 rfl
theorem upA_un0 (h1 : u.1 = 3) (h : fndS d u.2.1 < 0) : upA d u = (d, false) := by
 have e : (upI d u).1 = (d.1, d.2.1, d.2.2.1, d.2.2.2 ++ [u.2]) := by unfold upI; rw [if_neg (by omega), if_neg (by omega), if_pos h1]
 rw [upA, if_pos (by rw [e, isDb_un0 h]; simp)]
theorem upI_1 (h1 : u.1 = 1) : upI d u = ((d.1, d.2.1, insS d.2.2.1 (posN u.2.1 d.2.2.1) (u.2.1, [], 0), d.2.2.2), decide (fndS d u.2.1 < 0)) := by unfold upI; rw [if_pos h1]
theorem upI_2 (h1 : u.1 = 2) (h : 0 ≤ fndS d u.2.1) : upI d u = ((d.1, d.2.1, d.2.2.1.eraseIdx (fndS d u.2.1).toNat, d.2.2.2.filter (notN u.2.1)), decide (0 ≤ fndS d u.2.1)) := by unfold upI; rw [if_neg (by omega), if_pos h1, if_pos h]
theorem upI_2n (h1 : u.1 = 2) (h : ¬ 0 ≤ fndS d u.2.1) : upI d u = ((d.1, d.2.1, d.2.2.1, d.2.2.2.filter (notN u.2.1)), decide (0 ≤ fndS d u.2.1)) := by unfold upI; rw [if_neg (by omega), if_pos h1, if_neg h]
theorem upI_3 (h1 : u.1 = 3) : upI d u = ((d.1, d.2.1, d.2.2.1, d.2.2.2 ++ [u.2]), decide (idxU d u.2 < 0)) := by unfold upI; rw [if_neg (by omega), if_neg (by omega), if_pos h1]
theorem upI_4 (h1 : u.1 = 4) (h : 0 ≤ idxU d u.2) : upI d u = ((d.1, d.2.1, d.2.2.1, d.2.2.2.eraseIdx (idxU d u.2).toNat), decide (0 ≤ idxU d u.2)) := by unfold upI; rw [if_neg (by omega), if_neg (by omega), if_neg (by omega), if_pos h1, if_pos h]
theorem upI_4n (h1 : u.1 = 4) (h : ¬ 0 ≤ idxU d u.2) : upI d u = (d, decide (0 ≤ idxU d u.2)) := by unfold upI; rw [if_neg (by omega), if_neg (by omega), if_neg (by omega), if_pos h1, if_neg h]
theorem upI_0 (h1 : u.1 ≠ 1) (h2 : u.1 ≠ 2) (h3 : u.1 ≠ 3) (h4 : u.1 ≠ 4) : upI d u = (d, false) := by unfold upI; rw [if_neg h1, if_neg h2, if_neg h3, if_neg h4]
theorem upA_def (h1 : ¬ (u.1 = 1 ∧ fndS d u.2.1 < 0)) (h2 : ¬ (u.1 = 2 ∧ 0 ≤ fndS d u.2.1)) (h3 : ¬ (u.1 = 3 ∧ 0 ≤ fndS d u.2.1 ∧ idxU d u.2 < 0)) (h4 : ¬ (u.1 = 4 ∧ 0 ≤ idxU d u.2)) : upA d u = (d, false) := by
 by_cases e1 : u.1 = 1
 ·exact upA_no (by rw [upI_1 e1]; exact decide_eq_false (fun h => h1 ⟨e1, h⟩))
 by_cases e2 : u.1 = 2
 ·have h : ¬ 0 ≤ fndS d u.2.1 := fun h => h2 ⟨e2, h⟩
  exact upA_no (by rw [upI_2n e2 h]; exact decide_eq_false h)
 by_cases e3 : u.1 = 3
 ·by_cases h : fndS d u.2.1 < 0
  ·exact upA_un0 e3 h
  ·exact upA_no (by rw [upI_3 e3]; exact decide_eq_false (fun h' => h3 ⟨e3, by omega, h'⟩))
 by_cases e4 : u.1 = 4
 ·have h : ¬ 0 ≤ idxU d u.2 := fun h => h4 ⟨e4, h⟩
  exact upA_no (by rw [upI_4n e4 h]; exact decide_eq_false h)
 exact upA_no (by rw [upI_0 e1 e2 e3 e4])
theorem dropD_eq (h1 : u.1 = 2) (h : 0 ≤ fndS d u.2.1) (hd : isDb d = true) : (upI d u).1 = dropD d u.2.1 := by rw [upI_2 h1 h, dropD, drop_eq hd h]
end

end Go.Proofs.YtdjlikknmbjjgaaGreat

namespace Go.Proofs.YtdjlikknmbjjgaaGreat
open Go.RowKit
open Go.Proofs
set_option linter.unusedVariables false
set_option linter.unusedSimpArgs false

section
variable {α : Type} {enc : α → List DV} {sz : Nat} {x : List α} {i j : Int}
theorem er_len (h0 : 0 ≤ i) (hlt : i < (x.length : Int)) : x.length - 1 = (x.eraseIdx i.toNat).length := by rw [List.length_eraseIdx_of_lt (by omega)]
theorem er_fl (hs : ∀ y, (enc y).length = sz) (h0 : 0 ≤ i) (hlt : i < (x.length : Int)) : ((x.eraseIdx i.toNat).flatMap enc).length = (x.length - 1) * sz := by rw [fl_len hs, ← er_len h0 hlt]
theorem er_app (hs : ∀ y, (enc y).length = sz) (h0 : 0 ≤ i) (hj : j = i + 1) (hlt : i < (x.length : Int)) : (x.flatMap enc).take (i.toNat * sz) ++ ((x.flatMap enc).drop (j.toNat * sz) ++ List.replicate ((j.toNat - i.toNat) * sz) .hole) = (x.eraseIdx i.toNat).flatMap enc ++ List.replicate sz .hole := by
 have e1 : j.toNat = i.toNat + 1 := by omega
 rw [e1, (take_flat hs i.toNat x).1, (take_flat hs (i.toNat + 1) x).2, show (i.toNat + 1 - i.toNat) * sz = sz by rw [show i.toNat + 1 - i.toNat = 1 by omega, Nat.one_mul], List.eraseIdx_eq_take_drop_succ, List.flatMap_append, List.append_assoc]
theorem er_clr {m : Nat} (hm : m = x.length - 1) (hs : ∀ y, (enc y).length = sz) (h0 : 0 ≤ i) (hlt : i < (x.length : Int)) : setR (m * sz) (List.replicate ((x.length - m) * sz) .hole) ((x.eraseIdx i.toNat).flatMap enc ++ List.replicate sz .hole) = (x.eraseIdx i.toNat).flatMap enc ++ List.replicate sz .hole := by
 subst hm
 have e1 : (x.length - (x.length - 1)) * sz = sz := by rw [show x.length - (x.length - 1) = 1 by omega, Nat.one_mul]
 have := setR_mid3 (A := (x.eraseIdx i.toNat).flatMap enc) (B := List.replicate sz DV.hole) (us := List.replicate sz DV.hole) (D := []) (off := (x.length - 1) * sz) (er_fl hs h0 hlt).symm rfl
 rw [e1]
 simpa using this
theorem er_cut {m : Nat} (hm : m = x.length - 1) (hs : ∀ y, (enc y).length = sz) (h0 : 0 ≤ i) (hlt : i < (x.length : Int)) : ((x.eraseIdx i.toNat).flatMap enc ++ List.replicate sz DV.hole).take (m * sz) = (x.eraseIdx i.toNat).flatMap enc := by
 subst hm
 exact List.take_left' (er_fl hs h0 hlt)
variable [Inhabited α] {q : α → Bool}
theorem delC_cp (hs : ∀ y, (enc y).length = sz) {i k : Nat} {G : List DV} (hi : i = ((x.take k).filter q).length) (hG : G.length + i * sz = k * sz) (hk : k < x.length) (hik : i < k) (hq : q (x.getD k default) = true) :
  setR (i * sz) (enc (x.getD k default)) (delC enc q x k G) = delC enc q x (k + 1) (G.drop sz ++ enc (x.getD k default)) := by
 have e : x.drop k = x.getD k default :: x.drop (k + 1) := by rw [List.drop_eq_getElem_cons hk]; simp [List.getD, List.getElem?_eq_getElem hk]
 have m1 : (i + 1) * sz ≤ k * sz := Nat.mul_le_mul_right _ hik
 rw [Nat.add_mul, Nat.one_mul] at m1
 have l1 : (((x.take k).filter q).flatMap enc).length = i * sz := by rw [fl_len hs, ← hi]
 have e1 : delC enc q x k G = ((x.take k).filter q).flatMap enc ++ (G.take sz ++ (G.drop sz ++ (enc (x.getD k default) ++ (x.drop (k + 1)).flatMap enc))) := by
  rw [delC, e, List.flatMap_cons, ← List.append_assoc (G.take sz), List.take_append_drop]
 rw [e1, setR_mid3 l1.symm (by rw [hs, List.length_take]; omega), delC, List.take_add_one, List.getElem?_eq_getElem hk, List.filter_append, List.flatMap_append]
 have : x.getD k default = x[k] := by simp [List.getD, List.getElem?_eq_getElem hk]
 rw [this] at hq ⊢
 simp [hq]
end
theorem isN_out (n : Str) : (fun y => !notN n y) = fun y : DefT => sEq y.1 n := by funext y; simp [notN]

theorem ok_slices_Delete_Store {x : List (StoreT)} {i j : Int} (hb : x.length ≤ 1099511627776) (h0 : 0 ≤ i) (hj : j = i + 1) (hlt : i < (x.length : Int)) : MFn Tryz.prog 52 [.one (.dv [] (.int .i64 (i))), .one (.dv [] (.int .i64 (j)))] (kcOf false (.sl 57 3 (x.length) (x.flatMap eStore))) (kcOf false (.sl 57 3 ((x.eraseIdx (i).toNat).length) ((x.eraseIdx (i).toNat).flatMap eStore))) := by
 refine ⟨fn_intro Tryz.func52 rfl Tryz.ntmps52 Tryz.results52 rfl (fun C => ?_)⟩
 obtain ⟨m, hm⟩ : ∃ m, m = x.length - 1 := ⟨_, rfl⟩
 refine ok_fact (x := .tmp 1) (ev_tmp rfl) fun f1 => ?_
 refine ok_fact (x := .tmp 2) (ev_tmp rfl) fun f2 => ?_
 iterate 8 refine z ?_
 refine yO rfl rfl (pu_lenKn (n := (x.length)) hT rfl rfl (ev_tmp rfl) rfl rfl) rfl ?_
 refine yO rfl rfl (pu_kslM (j := 0) (n := (x.length)) (z := i) (q := j) (m := ((x.length) : Int)) hT rfl rfl rfl (ev_tmp rfl) rfl (ev_tmp rfl) (ev_tmp rfl) (ev_tmp rfl) rfl (by omega) (by omega) (by omega) (by omega)) rfl ?_
 iterate 7 refine z ?_
 refine yQ rfl (fun c1 => ?_) fun c1 => ?_
 ·skip
  have d1 := of_decide_eq_true c1
  exact absurd d1 (by omega)
 ·skip
  have d1 := of_decide_eq_false c1
  iterate 4 refine z ?_
  refine yO rfl rfl (pu_lenKn (n := (x.length)) hT rfl rfl (ev_tmp rfl) rfl rfl) rfl ?_
  iterate 2 refine z ?_
  refine ok_seq ?_
  refine ok_regionD (oB := []) (oK := [0]) (by kernel_rfl) rfl rfl ?_
  refine zD 0 ?_
  refine zD 1 ?_
  refine d_take 2 rfl (by kernel_rfl) rfl rfl (pu_kslH (j := 0) (n := (x.length)) (hi := (i).toNat) (sz := 3) (z := i) hT rfl rfl rfl (ev_tmp rfl) rfl (ev_tmp rfl) rfl rfl (by omega) (by omega)) rfl rfl rfl rfl ?_
  refine zD 3 ?_
  refine zD 4 ?_
  refine d_take 5 rfl (by kernel_rfl) rfl rfl (pu_kslL (j := 0) (n := (x.length)) (lo := (j).toNat) (sz := 3) (z := j) hT rfl rfl rfl (ev_tmp rfl) rfl (ev_tmp rfl) rfl rfl (by omega) (by omega)) rfl rfl rfl rfl ?_
  refine d_chain [6, 7] rfl rfl (by kernel_rfl) ?_
  refine o_appKK (k := 0) (m := m) (cs := (x.eraseIdx (i).toNat).flatMap eStore ++ List.replicate 3 DV.hole) hT rfl rfl rfl rfl rfl rfl (ev_tmp rfl) (ev_tmp rfl) rfl rfl rfl rfl (by omega) (by omega) (by first | omega | (dsimp only [kcOf]; omega)) (er_app (sz := 3) (fun _ => rfl) h0 hj hlt) ?_
  simp only [killT, killB, SV.kill, CV.kill, kk, Nat.reduceBEq]
  iterate 5 refine z ?_
  refine yO rfl rfl (pu_lenKm (hi := m) (n := (x.length)) hT rfl rfl (ev_tmp rfl) rfl rfl (by omega)) rfl ?_
  refine z ?_
  refine yO rfl rfl (pu_kslN (j := 0) (n := (x.length)) (lo := m) (hi := (((x.length) : Int)).toNat) (sz := 3) (z := (m : Int)) (q := ((x.length) : Int)) hT rfl rfl rfl (ev_tmp rfl) rfl (ev_tmp rfl) (ev_tmp rfl) rfl rfl rfl (by omega) (by omega) (by omega)) rfl ?_
  refine o_clear (k := 0) (lo := m) (hi := (((x.length) : Int)).toNat) (sz := 3) (cs := (x.eraseIdx (i).toNat).flatMap eStore ++ List.replicate 3 DV.hole) hT rfl rfl rfl rfl rfl rfl (ev_tmp rfl) rfl rfl rfl (by first | omega | (dsimp only [kcOf]; omega)) (by first | omega | (dsimp only [kcOf]; omega)) (er_clr (enc := eStore) (sz := 3) hm (fun _ => rfl) h0 hlt) ?_
  simp only [killT, killB, SV.kill, CV.kill, kk, Nat.reduceBEq]
  iterate 5 refine z ?_
  refine ok_weak (weak_cut (s := 6) (k := 0) (m := m) (sz := 3) (cs := (x.eraseIdx (i).toNat).flatMap eStore) rfl rfl rfl rfl (by first | omega | (dsimp only [kcOf]; omega)) (er_cut hm (sz := 3) (fun _ => rfl) h0 hlt)) ?_
  simp only [killT, killB, SV.kill, CV.kill, kk, Nat.reduceBEq]
  refine ok_weak (σ' := ⟨[(6, .one (.key 0))], [], [(0, some (kcOf false (.sl 57 3 ((x.eraseIdx (i).toNat).length) ((x.eraseIdx (i).toNat).flatMap eStore))))]⟩) (weak_sub ⟨rfl, trivial⟩ trivial ⟨(congrArg (fun n : Nat => some (some (KC.mk false 57 3 n ((x.eraseIdx (i).toNat).flatMap eStore)))) (hm.trans (er_len h0 hlt))), trivial⟩ rfl) ?_
  refine z ?_
  refine fin1 (res_tmp rfl) ?_
  exact ⟨rfl, rfl⟩
theorem ok_slices_Delete_IndexDef {x : List (DefT)} {i j : Int} (hb : x.length ≤ 1099511627776) (h0 : 0 ≤ i) (hj : j = i + 1) (hlt : i < (x.length : Int)) : MFn Tryz.prog 55 [.one (.dv [] (.int .i64 (i))), .one (.dv [] (.int .i64 (j)))] (kcOf false (.sl 60 2 (x.length) (x.flatMap eDef))) (kcOf false (.sl 60 2 ((x.eraseIdx (i).toNat).length) ((x.eraseIdx (i).toNat).flatMap eDef))) := by
 refine ⟨fn_intro Tryz.func55 rfl Tryz.ntmps55 Tryz.results55 rfl (fun C => ?_)⟩
 obtain ⟨m, hm⟩ : ∃ m, m = x.length - 1 := ⟨_, rfl⟩
 refine ok_fact (x := .tmp 1) (ev_tmp rfl) fun f1 => ?_
 refine ok_fact (x := .tmp 2) (ev_tmp rfl) fun f2 => ?_
 iterate 8 refine z ?_
 refine yO rfl rfl (pu_lenKn (n := (x.length)) hT rfl rfl (ev_tmp rfl) rfl rfl) rfl ?_
 refine yO rfl rfl (pu_kslM (j := 0) (n := (x.length)) (z := i) (q := j) (m := ((x.length) : Int)) hT rfl rfl rfl (ev_tmp rfl) rfl (ev_tmp rfl) (ev_tmp rfl) (ev_tmp rfl) rfl (by omega) (by omega) (by omega) (by omega)) rfl ?_
 iterate 7 refine z ?_
 refine yQ rfl (fun c1 => ?_) fun c1 => ?_
 ·skip
  have d1 := of_decide_eq_true c1
  exact absurd d1 (by omega)
 ·skip
  have d1 := of_decide_eq_false c1
  iterate 4 refine z ?_
  refine yO rfl rfl (pu_lenKn (n := (x.length)) hT rfl rfl (ev_tmp rfl) rfl rfl) rfl ?_
  iterate 2 refine z ?_
  refine ok_seq ?_
  refine ok_regionD (oB := []) (oK := [0]) (by kernel_rfl) rfl rfl ?_
  refine zD 0 ?_
  refine zD 1 ?_
  refine d_take 2 rfl (by kernel_rfl) rfl rfl (pu_kslH (j := 0) (n := (x.length)) (hi := (i).toNat) (sz := 2) (z := i) hT rfl rfl rfl (ev_tmp rfl) rfl (ev_tmp rfl) rfl rfl (by omega) (by omega)) rfl rfl rfl rfl ?_
  refine zD 3 ?_
  refine zD 4 ?_
  refine d_take 5 rfl (by kernel_rfl) rfl rfl (pu_kslL (j := 0) (n := (x.length)) (lo := (j).toNat) (sz := 2) (z := j) hT rfl rfl rfl (ev_tmp rfl) rfl (ev_tmp rfl) rfl rfl (by omega) (by omega)) rfl rfl rfl rfl ?_
  refine d_chain [6, 7] rfl rfl (by kernel_rfl) ?_
  refine o_appKK (k := 0) (m := m) (cs := (x.eraseIdx (i).toNat).flatMap eDef ++ List.replicate 2 DV.hole) hT rfl rfl rfl rfl rfl rfl (ev_tmp rfl) (ev_tmp rfl) rfl rfl rfl rfl (by omega) (by omega) (by first | omega | (dsimp only [kcOf]; omega)) (er_app (sz := 2) (fun _ => rfl) h0 hj hlt) ?_
  simp only [killT, killB, SV.kill, CV.kill, kk, Nat.reduceBEq]
  iterate 5 refine z ?_
  refine yO rfl rfl (pu_lenKm (hi := m) (n := (x.length)) hT rfl rfl (ev_tmp rfl) rfl rfl (by omega)) rfl ?_
  refine z ?_
  refine yO rfl rfl (pu_kslN (j := 0) (n := (x.length)) (lo := m) (hi := (((x.length) : Int)).toNat) (sz := 2) (z := (m : Int)) (q := ((x.length) : Int)) hT rfl rfl rfl (ev_tmp rfl) rfl (ev_tmp rfl) (ev_tmp rfl) rfl rfl rfl (by omega) (by omega) (by omega)) rfl ?_
  refine o_clear (k := 0) (lo := m) (hi := (((x.length) : Int)).toNat) (sz := 2) (cs := (x.eraseIdx (i).toNat).flatMap eDef ++ List.replicate 2 DV.hole) hT rfl rfl rfl rfl rfl rfl (ev_tmp rfl) rfl rfl rfl (by first | omega | (dsimp only [kcOf]; omega)) (by first | omega | (dsimp only [kcOf]; omega)) (er_clr (enc := eDef) (sz := 2) hm (fun _ => rfl) h0 hlt) ?_
  simp only [killT, killB, SV.kill, CV.kill, kk, Nat.reduceBEq]
  iterate 5 refine z ?_
  refine ok_weak (weak_cut (s := 6) (k := 0) (m := m) (sz := 2) (cs := (x.eraseIdx (i).toNat).flatMap eDef) rfl rfl rfl rfl (by first | omega | (dsimp only [kcOf]; omega)) (er_cut hm (sz := 2) (fun _ => rfl) h0 hlt)) ?_
  simp only [killT, killB, SV.kill, CV.kill, kk, Nat.reduceBEq]
  refine ok_weak (σ' := ⟨[(6, .one (.key 0))], [], [(0, some (kcOf false (.sl 60 2 ((x.eraseIdx (i).toNat).length) ((x.eraseIdx (i).toNat).flatMap eDef))))]⟩) (weak_sub ⟨rfl, trivial⟩ trivial ⟨(congrArg (fun n : Nat => some (some (KC.mk false 60 2 n ((x.eraseIdx (i).toNat).flatMap eDef)))) (hm.trans (er_len h0 hlt))), trivial⟩ rfl) ?_
  refine z ?_
  refine fin1 (res_tmp rfl) ?_
  exact ⟨rfl, rfl⟩
theorem ok_impl_upgraded_1 {y : DefT} {u : UpgT}  : PFn Tryz.prog 54 [.agg [(.dv [] (.str (y.1))), (.dv [] (.str (y.2)))], .ref [] [.int .i64 (u.1), .str (u.2.1), .str (u.2.2)]] (.one (.dv [] (.bool (sEq y.1 u.2.1)))) := by
 refine ⟨fn_intro Tryz.func54 rfl Tryz.ntmps54 Tryz.results54 rfl (fun C => ?_)⟩
 refine yF 0 0 rfl rfl fun f0_0 => ?_
 refine yF 0 1 rfl rfl fun f0_1 => ?_
 iterate 14 refine z ?_
 rfl
theorem ok_slices_IndexFunc_IndexDef {x : List DefT} {u : UpgT}  : PFn Tryz.prog 78 [.one (.dv [] (defsD (x))), .fn 54 [[.int .i64 (u.1), .str (u.2.1), .str (u.2.2)]]] (.one (.dv [] (.int .i64 (findI (fun y : DefT => sEq y.1 u.2.1) x 0)))) := by
 refine ⟨fn_intro Tryz.func78 rfl Tryz.ntmps78 Tryz.results78 rfl (fun C => ?_)⟩
 refine ok_fact (x := .tmp 0) (ev_tmp rfl) fun f0 => ?_
 iterate 10 refine z ?_
 refine ok_loop (ι := Nat) (fun zz => ⟨[(0, .one (.dv [] (defsD (x)))), (1, .fn 54 [[.int .i64 (u.1), .str (u.2.1), .str (u.2.2)]]), (7, .one (.dv [] (.int .i64 ((((x)).length : Int))))), (8, .one (.dv [] (.int .i64 ((zz : Int)))))], [], []⟩) (fun zz => zz ≤ x.length ∧ (x.take zz).any (fun y : DefT => sEq y.1 u.2.1) = false) (fun zz => x.length - zz) (0) ?_ (weak_sub ⟨rfl, rfl, rfl, rfl, trivial⟩ trivial trivial rfl) (fun zz hx => ?_)
 ·exact ⟨Nat.zero_le _, rfl⟩
 obtain ⟨n, rfl⟩ : ∃ v, v = zz := ⟨_, rfl⟩
 replace hx : n ≤ x.length ∧ (x.take n).any (fun y : DefT => sEq y.1 u.2.1) = false := hx
 obtain ⟨hk, hall⟩ := hx
 show Ok _ _ _ _ _ (⟨[(0, .one (.dv [] (defsD (x)))), (1, .fn 54 [[.int .i64 (u.1), .str (u.2.1), .str (u.2.2)]]), (7, .one (.dv [] (.int .i64 ((((x)).length : Int))))), (8, .one (.dv [] (.int .i64 ((n : Int)))))], [], []⟩ : St)
 iterate 3 refine z ?_
 refine ok_seq ?_
 refine yQ rfl (fun c1 => ?_) fun c1 => ?_
 ·skip
  have d1 := of_decide_eq_true c1
  iterate 14 refine z ?_
  refine o_callV rfl rfl rfl (ev_tmp rfl) Tryz.call54 ok_impl_upgraded_1 (as_cons (ev_tmp rfl) (ag_agg (ag_cons ac_dv (ag_cons ac_dv ag_nil))) as_nil) rfl rfl ?_
  refine z ?_
  refine yQ rfl (fun c2 => ?_) fun c2 => ?_
  ·skip
   iterate 11 refine z ?_
   exact (findI_at (p := (fun y : DefT => sEq y.1 u.2.1)) (d := default) hall (by omega) c2).symm
  ·skip
   iterate 3 refine z ?_
   refine ok_region ?_
   iterate 3 refine z ?_
   refine ⟨n + 1, ?_, ?_, weak_sub ⟨rfl, rfl, rfl, rfl, trivial⟩ trivial trivial rfl⟩
   ·exact ⟨by omega, any_stepI (d := default) hall (by omega) c2⟩
   ·omega
 ·skip
  have d1 := of_decide_eq_false c1
  iterate 10 refine z ?_
  exact (findI_none (p := (fun y : DefT => sEq y.1 u.2.1)) hall (by omega)).symm
theorem ok_slices_DeleteFunc_IndexDef {x : List DefT} {u : UpgT} (hb : x.length ≤ 1099511627776) : MFn Tryz.prog 53 [.fn 54 [[.int .i64 (u.1), .str (u.2.1), .str (u.2.2)]]] (kcOf false (.sl 60 2 (x.length) (x.flatMap eDef))) (kcOf false (.sl 60 2 ((x.filter (notN u.2.1)).length) ((x.filter (notN u.2.1)).flatMap eDef))) := by
 refine ⟨fn_intro Tryz.func53 rfl Tryz.ntmps53 Tryz.results53 rfl (fun C => ?_)⟩
 iterate 6 refine z ?_
 refine o_call rfl rfl rfl Tryz.call78 ok_slices_IndexFunc_IndexDef (as_cons (ev_tmp rfl) (ag_one (ac_key' rfl rfl)) (as_cons (ev_tmp rfl) a_fn as_nil)) rfl rfl ?_
 iterate 7 refine z ?_
 refine yQ rfl (fun c1 => ?_) fun c1 => ?_
 ·skip
  have d1 := of_decide_eq_true c1
  have hn := (findI_cases (p := (fun y : DefT => sEq y.1 u.2.1)) (d := default) x 0 (by omega)).resolve_right (fun ⟨m, h1, h2, _⟩ => by omega)
  rw [← isN_out u.2.1] at hn
  have hfe := filt_none hn.2
  iterate 4 refine z ?_
  refine ok_weak (σ' := ⟨[(4, .one (.key 0))], [], [(0, some (kcOf false (.sl 60 2 ((x.filter (notN u.2.1)).length) ((x.filter (notN u.2.1)).flatMap eDef))))]⟩) (weak_sub ⟨rfl, trivial⟩ trivial ⟨(congrArg (fun l : List DefT => some (some (KC.mk false 60 2 l.length (l.flatMap eDef)))) hfe.symm), trivial⟩ rfl) ?_
  iterate 2 refine z ?_
  refine fin1 (res_tmp rfl) ?_
  exact ⟨rfl, rfl⟩
 ·skip
  have d1 := of_decide_eq_false c1
  obtain ⟨m, hm1, hm2, hm3, hm4⟩ := (findI_cases (p := (fun y : DefT => sEq y.1 u.2.1)) (d := default) x 0 (by omega)).resolve_left (fun h => d1 h.1)
  rw [← isN_out u.2.1] at hm3
  have hm5 : notN u.2.1 (x.getD m default) = false := by unfold notN; rw [show sEq (x.getD m default).1 u.2.1 = true from hm4]; rfl
  have hst := delC_start (enc := eDef) hm1 hm3 hm5
  iterate 9 refine z ?_
  refine ok_loop (ι := Nat × Nat × List DV) (fun zz => ⟨[(0, .one (.key 0)), (1, .fn 54 [[.int .i64 (u.1), .str (u.2.1), .str (u.2.2)]]), (4, .one .nil), (5, .one (.dv [] (.int .i64 ((zz.1 : Int))))), (6, .one (.dv [] (.int .i64 ((zz.2.1 : Int)))))], [], [(0, some (kcOf false (.sl 60 2 (x.length) (delC eDef (notN u.2.1) x zz.2.1 zz.2.2))))]⟩) (fun zz => zz.1 = ((x.take zz.2.1).filter (notN u.2.1)).length ∧ zz.1 < zz.2.1 ∧ zz.2.1 ≤ x.length ∧ zz.2.2.length + zz.1 * 2 = zz.2.1 * 2) (fun zz => x.length - zz.2.1) ((m, m + 1, eDef (x.getD m default))) ?_ (weak_sub ⟨rfl, rfl, rfl, (congrArg (fun z : Int => some (SV.one (CV.dv [] (DV.int .i64 z)))) (show findI (fun y : DefT => sEq y.1 u.2.1) x 0 = (m : Int) by omega)), (congrArg (fun z : Int => some (SV.one (CV.dv [] (DV.int .i64 z)))) (show findI (fun y : DefT => sEq y.1 u.2.1) x 0 + 1 = ((m + 1 : Nat) : Int) by omega)), trivial⟩ trivial ⟨(congrArg (fun cs => some (some (KC.mk false 60 2 x.length cs))) (hst.1)), trivial⟩ rfl) (fun zz hx => ?_)
  ·exact ⟨hst.2, by show m < m + 1; omega, by show m + 1 ≤ x.length; omega, by show 2 + m * 2 = (m + 1) * 2; omega⟩
  obtain ⟨i, k, G⟩ := zz
  replace hx : i = ((x.take k).filter (notN u.2.1)).length ∧ i < k ∧ k ≤ x.length ∧ G.length + i * 2 = k * 2 := hx
  obtain ⟨hi, hik, hk, hG⟩ := hx
  show Ok _ _ _ _ _ (⟨[(0, .one (.key 0)), (1, .fn 54 [[.int .i64 (u.1), .str (u.2.1), .str (u.2.2)]]), (4, .one .nil), (5, .one (.dv [] (.int .i64 ((i : Int))))), (6, .one (.dv [] (.int .i64 ((k : Int)))))], [], [(0, some (kcOf false (.sl 60 2 (x.length) (delC eDef (notN u.2.1) x k G))))]⟩ : St)
  iterate 4 refine z ?_
  refine yO rfl rfl (pu_lenKn (n := (x.length)) hT rfl rfl (ev_tmp rfl) rfl rfl) rfl ?_
  iterate 2 refine z ?_
  refine yQ rfl (fun c2 => ?_) fun c2 => ?_
  ·skip
   have d2 := of_decide_eq_true c2
   have hk2 : k < x.length := by omega
   iterate 7 refine z ?_
   refine yO rfl rfl (pu_indexK (i := k) hT rfl rfl rfl (ev_tmp rfl) rfl (ev_tmp rfl) rfl (by show _ < (x.length); omega)) rfl ?_
   refine yO rfl rfl (pu_loadEA (ds := [.str ((x.getD (k : Int).toNat default).1), .str ((x.getD (k : Int).toNat default).2)]) hT rfl rfl (ev_tmp rfl) rfl rfl (by decide) (delC_sub (enc := eDef) (q := (notN u.2.1)) (sz := 2) (fun _ => rfl) hi hG hk2)) rfl ?_
   iterate 6 refine z ?_
   refine o_callV rfl rfl rfl (ev_tmp rfl) Tryz.call54 ok_impl_upgraded_1 (as_cons (ev_tmp rfl) (ag_agg (ag_cons ac_dv (ag_cons ac_dv ag_nil))) as_nil) rfl rfl ?_
   iterate 2 refine z ?_
   refine yQ rfl (fun c3 => ?_) fun c3 => ?_
   ·skip
    have hq : notN u.2.1 (x.getD k default) = true := c3
    have hy := delC_yes (q := (notN u.2.1)) hk2 hq
    iterate 4 refine z ?_
    refine yO rfl rfl (pu_indexK (i := i) hT rfl rfl rfl (ev_tmp rfl) rfl (ev_tmp rfl) rfl (by show _ < (x.length); omega)) rfl ?_
    refine o_storeE (js := []) (cs := delC eDef (notN u.2.1) x (k + 1) (G.drop 2 ++ eDef (x.getD k default))) hT rfl rfl rfl rfl (ev_tmp rfl) (ev_tmp rfl) rfl rfl rfl rfl (ow_cons' (ow_dv rfl) (ow_cons' (ow_dv rfl) ow_nil rfl) rfl) (by decide) (by decide) rfl (by show _ ≤ List.length (delC eDef (notN u.2.1) x k G); rw [delC_len (sz := 2) (fun _ => rfl) hi hG hk]; omega) (delC_cp (sz := 2) (fun _ => rfl) hi hG hk2 hik hq) ?_
    simp only [killT, killB, SV.kill, CV.kill, kk, Nat.reduceBEq]
    refine z ?_
    refine ok_region ?_
    iterate 3 refine z ?_
    refine ops_nil ?_
    iterate 2 refine z ?_
    refine ok_region ?_
    iterate 4 refine z ?_
    refine ⟨(i + 1, k + 1, (G.drop 2 ++ eDef (x.getD k default))), ?_, ?_, weak_sub ⟨rfl, rfl, rfl, rfl, rfl, trivial⟩ trivial ⟨rfl, trivial⟩ rfl⟩
    ·exact ⟨by dsimp only; omega, by dsimp only; omega, by dsimp only; omega, by show (G.drop 2 ++ eDef _).length + (i + 1) * 2 = (k + 1) * 2; rw [List.length_append, List.length_drop]; show G.length - 2 + 2 + _ = _; omega⟩
    ·dsimp only; omega
   ·skip
    have hq : notN u.2.1 (x.getD k default) = false := c3
    have hno := delC_no (enc := eDef) (q := (notN u.2.1)) (sz := 2) (G := G) (fun _ => rfl) hk2 hq
    iterate 3 refine z ?_
    refine ok_region ?_
    iterate 4 refine z ?_
    refine ⟨(i, k + 1, G ++ eDef (x.getD k default)), ?_, ?_, weak_sub ⟨rfl, rfl, rfl, rfl, rfl, trivial⟩ trivial ⟨(congrArg (fun cs => some (some (KC.mk false 60 2 x.length cs))) (hno.1)), trivial⟩ rfl⟩
    ·exact ⟨by dsimp only; omega, by dsimp only; omega, by dsimp only; omega, by show (G ++ eDef _).length + i * 2 = (k + 1) * 2; rw [List.length_append]; show G.length + 2 + i * 2 = _; omega⟩
    ·dsimp only; omega
  ·skip
   have d2 := of_decide_eq_false c2
   iterate 8 refine z ?_
   refine yO rfl rfl (pu_kslL (j := 0) (n := (x.length)) (lo := i) (sz := 2) (z := (i : Int)) hT rfl rfl rfl (ev_tmp rfl) rfl (ev_tmp rfl) rfl rfl (by omega) (by omega)) rfl ?_
   refine o_clear (k := 0) (lo := i) (hi := (x.length)) (sz := 2) (cs := (x.filter (notN u.2.1)).flatMap eDef ++ List.replicate ((x.length - i) * 2) .hole) hT rfl rfl rfl rfl rfl rfl (ev_tmp rfl) rfl rfl rfl (by first | omega | (dsimp only [kcOf]; omega)) (by first | omega | (dsimp only [kcOf]; omega)) (delC_end (sz := 2) (fun _ => rfl) hi hG (by omega)) ?_
   simp only [killT, killB, SV.kill, CV.kill, kk, Nat.reduceBEq]
   iterate 4 refine z ?_
   refine yO rfl rfl (pu_kslH (j := 0) (n := (x.length)) (hi := i) (sz := 2) (z := (i : Int)) hT rfl rfl rfl (ev_tmp rfl) rfl (ev_tmp rfl) rfl rfl (by omega) (by omega)) rfl ?_
   iterate 2 refine z ?_
   have hke : k = x.length := by omega
   have hi2 : i = (x.filter (notN u.2.1)).length := by rw [hi, hke, List.take_length]
   refine ok_weak (weak_cut (s := 4) (k := 0) (m := i) (sz := 2) (cs := (x.filter (notN u.2.1)).flatMap eDef) rfl rfl rfl rfl (by first | omega | (dsimp only [kcOf]; omega)) (delC_cut (sz := 2) (fun _ => rfl) hi2)) ?_
   simp only [killT, killB, SV.kill, CV.kill, kk, Nat.reduceBEq]
   refine ok_weak (σ' := ⟨[(4, .one (.key 0))], [], [(0, some (kcOf false (.sl 60 2 ((x.filter (notN u.2.1)).length) ((x.filter (notN u.2.1)).flatMap eDef))))]⟩) (weak_sub ⟨rfl, trivial⟩ trivial ⟨(congrArg (fun n : Nat => some (some (KC.mk false 60 2 n ((x.filter (notN u.2.1)).flatMap eDef)))) hi2), trivial⟩ rfl) ?_
   refine z ?_
   refine fin1 (res_tmp rfl) ?_
   exact ⟨rfl, rfl⟩
end Go.Proofs.YtdjlikknmbjjgaaGreat

namespace Go.Proofs.YtdjlikknmbjjgaaGreat
open Go.RowKit
open Go.Proofs
set_option linter.unusedVariables false
set_option linter.unusedSimpArgs false
theorem ok_impl_upgraded {d : DbT} {u : UpgT} (hb : wDatabase d ≤ 549755813888) : KFn Tryz.prog 29 [.agg [(.dv [] (.str (d.1))), (.dv [] (.int .i64 (d.2.1))), (.dv [] (storesD (d.2.2.1))), (.dv [] (defsD (d.2.2.2)))], .agg [(.dv [] (.int .i64 (u.1))), (.dv [] (.str (u.2.1))), (.dv [] (.str (u.2.2)))]] (.tup [(true, [(.dv [] (.str ((upI d u).1.1))), (.dv [] (.int .i64 ((upI d u).1.2.1))), (.key 90031), (.key 90900)]), (false, [(.dv [] (.bool ((upI d u).2)))])]) [(90031, some (kcOf false (storesD ((upI d u).1.2.2.1)))), (90900, some (kcOf false (defsD ((upI d u).1.2.2.2))))] := by
 refine ⟨fn_intro Tryz.func29 rfl Tryz.ntmps29 Tryz.results29 rfl (fun C => ?_)⟩
 have hw4 : wDatabase d = d.1.size + wList wStore d.2.2.1 + wList wIndexDef d.2.2.2 := rfl
 have hw5 : wList wStore d.2.2.1 = d.2.2.1.length + wSum wStore d.2.2.1 := rfl
 have hw6 : wList wIndexDef d.2.2.2 = d.2.2.2.length + wSum wIndexDef d.2.2.2 := rfl
 refine yF 0 0 rfl rfl fun f0_0 => ?_
 refine yF 0 1 rfl rfl fun f0_1 => ?_
 refine yF 0 2 rfl rfl fun f0_2 => ?_
 refine yF 0 3 rfl rfl fun f0_3 => ?_
 refine yF 1 0 rfl rfl fun f1_0 => ?_
 refine yF 1 1 rfl rfl fun f1_1 => ?_
 refine yF 1 2 rfl rfl fun f1_2 => ?_
 iterate 8 refine z ?_
 refine zK 90000 Tryz.call31 ?_ (hf := ok_impl_copyDatabase (x := d) (by omega))
 iterate 7 refine z ?_
 refine zC Tryz.call49 ?_ (hf := ok_impl_FindStore (x := d) (n := u.2.1))
 iterate 7 refine z ?_
 refine yO rfl rfl (pu_build hT hB rfl rfl rfl (bp_cons (ev_tmp rfl) rfl rfl rfl rfl rfl (bp_cons (ev_tmp rfl) rfl rfl rfl rfl rfl bp_nil))) rfl ?_
 iterate 7 refine z ?_
 refine zC Tryz.call50 ?_ (hf := ok_slices_Index_IndexDef (l := d.2.2.2) (v := u.2))
 iterate 12 refine z ?_
 refine yQ rfl (fun c1 => ?_) fun c1 => ?_
 ·skip
  have d1 := of_decide_eq_true c1
  iterate 5 refine z ?_
  refine ok_loop (ι := Nat) (fun zz => ⟨[(3, .box 3 0), (4, .box 4 0), (5, .one (.dv [] (.bool (false)))), (6, .box 6 0), (7, .one (.dv [] (.int .i64 (findI (hasName (u.2.1)) (d).2.2.1 0)))), (10, .one (.dv [] (.int .i64 ((zz : Int)))))], [(2, 33, [(.dv [] (.str (d.1))), (.dv [] (.int .i64 (d.2.1))), (.dv [] (storesD (d.2.2.1))), (.dv [] (defsD (d.2.2.2)))]), (3, 37, [(.dv [] (.int .i64 (u.1))), (.dv [] (.str (u.2.1))), (.dv [] (.str (u.2.2)))]), (4, 33, [(.dv [] (.str (ByteArray.empty))), (.dv [] (.int .i64 (0))), .nil, .nil]), (6, 33, [(.dv [] (.str ((d).1))), (.dv [] (.int .i64 ((d).2.1))), (.key 90031), (.key 90900)]), (8, 60, [(.dv [] (.str (u.2.1))), (.dv [] (.str (u.2.2)))])], [(90031, some (kcOf false (.sl 57 3 (d.2.2.1.length) (d.2.2.1.flatMap eStore)))), (90900, some (kcOf false (.sl 60 2 (d.2.2.2.length) (d.2.2.2.flatMap eDef))))]⟩) (fun zz => zz ≤ d.2.2.1.length ∧ posN u.2.1 d.2.2.1 = zz + posN u.2.1 (d.2.2.1.drop zz)) (fun zz => d.2.2.1.length - zz) (0) ?_ (weak_sub ⟨rfl, rfl, rfl, rfl, rfl, rfl, trivial⟩ ⟨rfl, rfl, rfl, rfl, rfl, trivial⟩ ⟨rfl, rfl, trivial⟩ rfl) (fun zz hx => ?_)
  ·exact ⟨Nat.zero_le _, by simp⟩
  obtain ⟨j, rfl⟩ : ∃ v, v = zz := ⟨_, rfl⟩
  replace hx : j ≤ d.2.2.1.length ∧ posN u.2.1 d.2.2.1 = j + posN u.2.1 (d.2.2.1.drop j) := hx
  obtain ⟨hj, hp⟩ := hx
  show Ok _ _ _ _ _ (⟨[(3, .box 3 0), (4, .box 4 0), (5, .one (.dv [] (.bool (false)))), (6, .box 6 0), (7, .one (.dv [] (.int .i64 (findI (hasName (u.2.1)) (d).2.2.1 0)))), (10, .one (.dv [] (.int .i64 ((j : Int)))))], [(2, 33, [(.dv [] (.str (d.1))), (.dv [] (.int .i64 (d.2.1))), (.dv [] (storesD (d.2.2.1))), (.dv [] (defsD (d.2.2.2)))]), (3, 37, [(.dv [] (.int .i64 (u.1))), (.dv [] (.str (u.2.1))), (.dv [] (.str (u.2.2)))]), (4, 33, [(.dv [] (.str (ByteArray.empty))), (.dv [] (.int .i64 (0))), .nil, .nil]), (6, 33, [(.dv [] (.str ((d).1))), (.dv [] (.int .i64 ((d).2.1))), (.key 90031), (.key 90900)]), (8, 60, [(.dv [] (.str (u.2.1))), (.dv [] (.str (u.2.2)))])], [(90031, some (kcOf false (.sl 57 3 (d.2.2.1.length) (d.2.2.1.flatMap eStore)))), (90900, some (kcOf false (.sl 60 2 (d.2.2.2.length) (d.2.2.2.flatMap eDef))))]⟩ : St)
  refine ok_seq ?_
  refine ok_seq ?_
  refine ok_regionD (oB := [2, 3, 4, 6, 8]) (oK := [90031, 90900]) (by kernel_rfl) rfl rfl ?_
  refine zD 0 ?_
  refine zD 1 ?_
  refine d_take 2 rfl (by kernel_rfl) rfl rfl (pu_view (dd := storesD d.2.2.1) (pu_loadBox1 hT rfl rfl (ev_tmp rfl) rfl rfl) rfl rfl) rfl rfl rfl rfl ?_
  refine zD 3 ?_
  refine zD 4 ?_
  refine zD 5 ?_
  refine zDG 6 ?_
  refine d_takeG 7 rfl (by kernel_rfl) (gd_bool rfl rfl rfl rfl rfl) rfl (fun hg => pu_view (dd := storesD d.2.2.1) (pu_loadBox1 hT rfl rfl (ev_opt rfl hg) rfl rfl) rfl rfl) rfl rfl rfl rfl ?_
  refine zDG 8 ?_
  refine zDG 9 ?_
  refine zDG 10 ?_
  refine zDG 11 ?_
  refine zDG 12 ?_
  refine zDG 13 ?_
  refine zDG 14 ?_
  refine zD 15 ?_
  refine d_done (by kernel_rfl) ?_
  refine z ?_
  refine yQ rfl (fun c2 => ?_) fun c2 => ?_
  ·skip
   have hj2 : j < d.2.2.1.length := by have h8 := c2; rw [Bool.and_eq_true, decide_eq_true_eq] at h8; omega
   have hst := posN_step hp hj2 (by have h8 := c2; rw [Bool.and_eq_true] at h8; exact h8.2)
   iterate 3 refine z ?_
   refine ok_region ?_
   iterate 3 refine z ?_
   refine ops_nil ?_
   iterate 2 refine z ?_
   refine ⟨j + 1, ?_, ?_, weak_sub ⟨rfl, rfl, rfl, rfl, rfl, rfl, trivial⟩ ⟨rfl, rfl, rfl, rfl, rfl, trivial⟩ ⟨rfl, rfl, trivial⟩ rfl⟩
   ·exact ⟨by omega, hst⟩
   ·omega
  ·skip
   have hpos := posN_stop hp hj c2
   iterate 11 refine z ?_
   refine yO rfl rfl (pu_build hT hB rfl rfl rfl (bp_cons (ev_tmp rfl) rfl rfl rfl rfl rfl bp_nil)) rfl ?_
   refine o_build1 (k := 54) (js := []) hT rfl rfl rfl rfl rfl rfl rfl rfl rfl (ev_tmp rfl) rfl rfl (ow_cons' (ow_dv rfl) (ow_cons' (ow_nilc (e := 102) (sz := 4) rfl) (ow_cons' (ow_dv rfl) ow_nil rfl) rfl) rfl) (by decide) (by decide) rfl rfl ?_
   simp only [killT, killB, SV.kill, CV.kill, kk, Nat.reduceBEq]
   refine o_insert (k := 90031) (j := 54) (cs := (insS d.2.2.1 j (u.2.1, ([] : List ItemT), (0 : Int))).flatMap eStore) (n := (insS d.2.2.1 j (u.2.1, ([] : List ItemT), (0 : Int))).length) (insOk_Store rfl rfl (by decide)) rfl rfl Tryz.call51 rfl rfl (ev_tmp rfl) rfl rfl rfl (ev_tmp rfl) (by omega) (by dsimp only [kcOf]; omega) (ev_tmp rfl) rfl rfl rfl rfl (by decide) (by dsimp only [kcOf]; omega) (by dsimp only [kcOf]; omega) (by rw [insS_len hj]) (insL_sto (o := d.2.2.1) (j := j) (y := (u.2.1, ([] : List ItemT), (0 : Int)))) ?_
   simp only [killT, killB, SV.kill, CV.kill, kk, Nat.reduceBEq]
   iterate 10 refine z ?_
   rw [upI_1 d1, hpos]
   refine ok_weak (σ' := ⟨[(4, .box 4 0), (5, .one (.dv [] (.bool (decide ((findI (hasName (u.2.1)) (d).2.2.1 0) < (0))))))], [(4, 33, [(.dv [] (.str ((d).1))), (.dv [] (.int .i64 ((d).2.1))), (.key 90031), (.key 90900)])], [(90031, some (kcOf false (storesD ((insS d.2.2.1 j (u.2.1, ([] : List ItemT), (0 : Int))))))), (90900, some (kcOf false (defsD (d.2.2.2))))]⟩) (weak_sub ⟨rfl, rfl, trivial⟩ ⟨rfl, trivial⟩ ⟨rfl, rfl, trivial⟩ rfl) ?_
   iterate 3 refine z ?_
   refine fin2 (res_cell hT rfl rfl rfl rfl) (res_tmp rfl) rfl rfl ?_
   first | exact ⟨rfl, rfl⟩ | skip
 ·skip
  have d1 := of_decide_eq_false c1
  iterate 4 refine z ?_
  refine yQ rfl (fun c3 => ?_) fun c3 => ?_
  ·skip
   have d3 := of_decide_eq_true c3
   iterate 5 refine z ?_
   refine yQ rfl (fun c4 => ?_) fun c4 => ?_
   ·skip
    have d4 := of_decide_eq_true c4
    have hlt : (findI (hasName u.2.1) d.2.2.1 0) < (d.2.2.1.length : Int) := fndS_lt d u.2.1
    refine ok_region ?_
    iterate 5 refine z ?_
    refine o_callM (k := 90031) rfl rfl rfl rfl Tryz.call52 (ok_slices_Delete_Store (x := d.2.2.1) (i := (findI (hasName u.2.1) d.2.2.1 0)) (j := (findI (hasName u.2.1) d.2.2.1 0) + 1) (by omega) (by omega) (by omega) (by omega)) (ev_tmp rfl) rfl (rfl) rfl (am_cons (ev_tmp rfl) (am_dv rfl) (am_cons (ev_tmp rfl) (am_dv rfl) am_nil)) ?_
    simp only [killT, killB, SV.kill, CV.kill, kk, Nat.reduceBEq]
    iterate 6 refine z ?_
    refine yO rfl rfl (pu_clo1 rfl (ev_tmp rfl)) rfl ?_
    refine o_callM (k := 90900) rfl rfl rfl rfl Tryz.call53 (ok_slices_DeleteFunc_IndexDef (x := d.2.2.2) (u := u) (by omega)) (ev_tmp rfl) rfl (rfl) rfl (am_cons (ev_tmp rfl) (am_clo (clo_cons rfl rfl clo_nil)) am_nil) ?_
    simp only [killT, killB, SV.kill, CV.kill, kk, Nat.reduceBEq]
    iterate 10 refine z ?_
    rw [upI_2 d3 d4]
    refine ok_weak (σ' := ⟨[(4, .box 4 0), (5, .one (.dv [] (.bool (decide ((0) ≤ (findI (hasName (u.2.1)) (d).2.2.1 0))))))], [(4, 33, [(.dv [] (.str ((d).1))), (.dv [] (.int .i64 ((d).2.1))), (.key 90031), (.key 90900)])], [(90031, some (kcOf false (storesD ((d.2.2.1.eraseIdx (findI (hasName u.2.1) d.2.2.1 0).toNat))))), (90900, some (kcOf false (defsD ((d.2.2.2.filter (notN u.2.1))))))]⟩) (weak_sub ⟨rfl, rfl, trivial⟩ ⟨rfl, trivial⟩ ⟨rfl, rfl, trivial⟩ rfl) ?_
    iterate 3 refine z ?_
    refine fin2 (res_cell hT rfl rfl rfl rfl) (res_tmp rfl) rfl rfl ?_
    first | exact ⟨rfl, rfl⟩ | skip
   ·skip
    have d4 := of_decide_eq_false c4
    iterate 5 refine z ?_
    refine yO rfl rfl (pu_clo1 rfl (ev_tmp rfl)) rfl ?_
    refine o_callM (k := 90900) rfl rfl rfl rfl Tryz.call53 (ok_slices_DeleteFunc_IndexDef (x := d.2.2.2) (u := u) (by omega)) (ev_tmp rfl) rfl (rfl) rfl (am_cons (ev_tmp rfl) (am_clo (clo_cons rfl rfl clo_nil)) am_nil) ?_
    simp only [killT, killB, SV.kill, CV.kill, kk, Nat.reduceBEq]
    iterate 10 refine z ?_
    rw [upI_2n d3 d4]
    refine ok_weak (σ' := ⟨[(4, .box 4 0), (5, .one (.dv [] (.bool (decide ((0) ≤ (findI (hasName (u.2.1)) (d).2.2.1 0))))))], [(4, 33, [(.dv [] (.str ((d).1))), (.dv [] (.int .i64 ((d).2.1))), (.key 90031), (.key 90900)])], [(90031, some (kcOf false (storesD (d.2.2.1)))), (90900, some (kcOf false (defsD ((d.2.2.2.filter (notN u.2.1))))))]⟩) (weak_sub ⟨rfl, rfl, trivial⟩ ⟨rfl, trivial⟩ ⟨rfl, rfl, trivial⟩ rfl) ?_
    iterate 3 refine z ?_
    refine fin2 (res_cell hT rfl rfl rfl rfl) (res_tmp rfl) rfl rfl ?_
    first | exact ⟨rfl, rfl⟩ | skip
  ·skip
   have d3 := of_decide_eq_false c3
   iterate 4 refine z ?_
   refine yQ rfl (fun c5 => ?_) fun c5 => ?_
   ·skip
    have d5 := of_decide_eq_true c5
    iterate 4 refine z ?_
    refine o_build1 (k := 84) (js := []) hT rfl rfl rfl rfl rfl rfl rfl rfl rfl (ev_tmp rfl) rfl rfl (ow_cons' (ow_dv rfl) (ow_cons' (ow_dv rfl) ow_nil rfl) rfl) (by decide) (by decide) rfl rfl ?_
    simp only [killT, killB, SV.kill, CV.kill, kk, Nat.reduceBEq]
    refine o_appK (k := 90900) (j := 84) (cs := (d.2.2.2 ++ [u.2]).flatMap eDef) (n := (d.2.2.2 ++ [u.2]).length) hT rfl rfl rfl rfl rfl rfl rfl (ev_tmp rfl) rfl rfl rfl (ev_tmp rfl) rfl rfl (by decide) (by dsimp only [kcOf, KC.old]; omega) (by dsimp only [kcOf, KC.old]; omega) (by rw [List.length_append]; rfl) (by rw [List.flatMap_append]; rfl) ?_
    simp only [killT, killB, SV.kill, CV.kill, kk, Nat.reduceBEq]
    iterate 10 refine z ?_
    rw [upI_3 d5]
    refine ok_weak (σ' := ⟨[(4, .box 4 0), (5, .one (.dv [] (.bool (decide ((findI (eqDefB (u.2)) (d.2.2.2) 0) < (0))))))], [(4, 33, [(.dv [] (.str ((d).1))), (.dv [] (.int .i64 ((d).2.1))), (.key 90031), (.key 90900)])], [(90031, some (kcOf false (storesD (d.2.2.1)))), (90900, some (kcOf false (defsD ((d.2.2.2 ++ [u.2])))))]⟩) (weak_sub ⟨rfl, rfl, trivial⟩ ⟨rfl, trivial⟩ ⟨rfl, rfl, trivial⟩ rfl) ?_
    iterate 3 refine z ?_
    refine fin2 (res_cell hT rfl rfl rfl rfl) (res_tmp rfl) rfl rfl ?_
    first | exact ⟨rfl, rfl⟩ | skip
   ·skip
    have d5 := of_decide_eq_false c5
    iterate 4 refine z ?_
    refine yQ rfl (fun c6 => ?_) fun c6 => ?_
    ·skip
     have d6 := of_decide_eq_true c6
     iterate 5 refine z ?_
     refine yQ rfl (fun c7 => ?_) fun c7 => ?_
     ·skip
      have d7 := of_decide_eq_true c7
      have hlt2 : (findI (eqDefB u.2) d.2.2.2 0) < (d.2.2.2.length : Int) := by rcases findI_lt (p := eqDefB u.2) d.2.2.2 0 (by omega) with h | h <;> omega
      refine ok_region ?_
      iterate 5 refine z ?_
      refine o_callM (k := 90900) rfl rfl rfl rfl Tryz.call55 (ok_slices_Delete_IndexDef (x := d.2.2.2) (i := (findI (eqDefB u.2) d.2.2.2 0)) (j := (findI (eqDefB u.2) d.2.2.2 0) + 1) (by omega) (by omega) (by omega) (by omega)) (ev_tmp rfl) rfl (rfl) rfl (am_cons (ev_tmp rfl) (am_dv rfl) (am_cons (ev_tmp rfl) (am_dv rfl) am_nil)) ?_
      simp only [killT, killB, SV.kill, CV.kill, kk, Nat.reduceBEq]
      iterate 10 refine z ?_
      rw [upI_4 d6 d7]
      refine ok_weak (σ' := ⟨[(4, .box 4 0), (5, .one (.dv [] (.bool (decide ((0) ≤ (findI (eqDefB (u.2)) (d.2.2.2) 0))))))], [(4, 33, [(.dv [] (.str ((d).1))), (.dv [] (.int .i64 ((d).2.1))), (.key 90031), (.key 90900)])], [(90031, some (kcOf false (storesD (d.2.2.1)))), (90900, some (kcOf false (defsD ((d.2.2.2.eraseIdx (findI (eqDefB u.2) d.2.2.2 0).toNat)))))]⟩) (weak_sub ⟨rfl, rfl, trivial⟩ ⟨rfl, trivial⟩ ⟨rfl, rfl, trivial⟩ rfl) ?_
      iterate 3 refine z ?_
      refine fin2 (res_cell hT rfl rfl rfl rfl) (res_tmp rfl) rfl rfl ?_
      first | exact ⟨rfl, rfl⟩ | skip
     ·skip
      have d7 := of_decide_eq_false c7
      iterate 9 refine z ?_
      rw [upI_4n d6 d7]
      refine ok_weak (σ' := ⟨[(4, .box 4 0), (5, .one (.dv [] (.bool (decide ((0) ≤ (findI (eqDefB (u.2)) (d.2.2.2) 0))))))], [(4, 33, [(.dv [] (.str ((d).1))), (.dv [] (.int .i64 ((d).2.1))), (.key 90031), (.key 90900)])], [(90031, some (kcOf false (storesD (d.2.2.1)))), (90900, some (kcOf false (defsD (d.2.2.2))))]⟩) (weak_sub ⟨rfl, rfl, trivial⟩ ⟨rfl, trivial⟩ ⟨rfl, rfl, trivial⟩ rfl) ?_
      iterate 3 refine z ?_
      refine fin2 (res_cell hT rfl rfl rfl rfl) (res_tmp rfl) rfl rfl ?_
      first | exact ⟨rfl, rfl⟩ | skip
    ·skip
     have d6 := of_decide_eq_false c6
     iterate 8 refine z ?_
     rw [upI_0 d1 d3 d5 d6]
     refine ok_weak (σ' := ⟨[(4, .box 4 0), (5, .one (.dv [] (.bool (false))))], [(4, 33, [(.dv [] (.str ((d).1))), (.dv [] (.int .i64 ((d).2.1))), (.key 90031), (.key 90900)])], [(90031, some (kcOf false (storesD (d.2.2.1)))), (90900, some (kcOf false (defsD (d.2.2.2))))]⟩) (weak_sub ⟨rfl, rfl, trivial⟩ ⟨rfl, trivial⟩ ⟨rfl, rfl, trivial⟩ rfl) ?_
     refine z ?_
     refine fin2 (res_cell hT rfl rfl rfl rfl) (res_tmp rfl) rfl rfl ?_
     first | exact ⟨rfl, rfl⟩ | skip
theorem ok_impl_ApplyUpgrade {d : DbT} {u : UpgT} (hb : wDatabase d ≤ 549755813888) : KFn Tryz.prog 10 [.agg [(.dv [] (.str (d.1))), (.dv [] (.int .i64 (d.2.1))), (.dv [] (storesD (d.2.2.1))), (.dv [] (defsD (d.2.2.2)))], .agg [(.dv [] (.int .i64 (u.1))), (.dv [] (.str (u.2.1))), (.dv [] (.str (u.2.2)))]] (.tup [(true, [(.dv [] (.str ((upA d u).1.1))), (.dv [] (.int .i64 ((upA d u).1.2.1))), (.key 90031), (.key 90900)]), (false, [(.dv [] (.bool ((upA d u).2)))])]) [(90031, some (kcOf false (storesD ((upA d u).1.2.2.1)))), (90900, some (kcOf false (defsD ((upA d u).1.2.2.2))))] := by
 refine ⟨fn_intro Tryz.func10 rfl Tryz.ntmps10 Tryz.results10 rfl (fun C => ?_)⟩
 have hw4 : wDatabase d = d.1.size + wList wStore d.2.2.1 + wList wIndexDef d.2.2.2 := rfl
 have hw5 : wList wStore d.2.2.1 = d.2.2.1.length + wSum wStore d.2.2.1 := rfl
 have hw6 : wList wIndexDef d.2.2.2 = d.2.2.2.length + wSum wIndexDef d.2.2.2 := rfl
 refine yF 0 0 rfl rfl fun f0_0 => ?_
 refine yF 0 1 rfl rfl fun f0_1 => ?_
 refine yF 0 2 rfl rfl fun f0_2 => ?_
 refine yF 0 3 rfl rfl fun f0_3 => ?_
 refine yF 1 0 rfl rfl fun f1_0 => ?_
 refine yF 1 1 rfl rfl fun f1_1 => ?_
 refine yF 1 2 rfl rfl fun f1_2 => ?_
 iterate 9 refine z ?_
 refine zK 0 Tryz.call29 ?_ (hf := ok_impl_upgraded (d := d) (u := u) (by omega))
 iterate 10 refine z ?_
 refine zC Tryz.call30 ?_ (hf := ok_impl_IsDatabase (x := d) )
 iterate 7 refine z ?_
 refine o_callG (gd_bool rfl rfl rfl rfl rfl) rfl rfl Tryz.call30 (ok_impl_IsDatabase (x := (upI (d) (u)).1) ) (fun hg => (as_cons (ev_opt rfl hg) (ag_agg (ag_cons ac_dv (ag_cons ac_dv (ag_cons (ac_key' rfl rfl) (ag_cons (ac_key' rfl rfl) ag_nil))))) as_nil)) rfl rfl ?_
 iterate 3 refine z ?_
 refine yQ rfl (fun c1 => ?_) fun c1 => ?_
 ·skip
  refine ok_seq ?_
  refine ok_weak (σ' := ⟨[(2, .box 2 0), (3, .box 3 0), (4, .box 4 0), (5, .one (.dv [] (.bool (false))))], [(2, 33, [(.dv [] (.str (d.1))), (.dv [] (.int .i64 (d.2.1))), (.dv [] (storesD (d.2.2.1))), (.dv [] (defsD (d.2.2.2)))]), (3, 37, [(.dv [] (.int .i64 (u.1))), (.dv [] (.str (u.2.1))), (.dv [] (.str (u.2.2)))]), (4, 33, [(.dv [] (.str (ByteArray.empty))), (.dv [] (.int .i64 (0))), .nil, .nil])], []⟩) (weak_sub ⟨rfl, rfl, rfl, rfl, trivial⟩ ⟨rfl, rfl, rfl, trivial⟩ trivial rfl) ?_
  refine ok_region ?_
  refine z ?_
  refine zK 90000 Tryz.call31 ?_ (hf := ok_impl_copyDatabase (x := d) (by omega))
  iterate 3 refine z ?_
  rw [upA, if_pos (by simpa only [Bool.or_assoc] using c1)]
  refine ok_weak (σ' := ⟨[(4, .box 4 0), (5, .one (.dv [] (.bool (false))))], [(4, 33, [(.dv [] (.str ((d).1))), (.dv [] (.int .i64 ((d).2.1))), (.key 90031), (.key 90900)])], [(90031, some (kcOf false (storesD (d.2.2.1)))), (90900, some (kcOf false (defsD (d.2.2.2))))]⟩) (weak_sub ⟨rfl, rfl, trivial⟩ ⟨rfl, trivial⟩ ⟨rfl, rfl, trivial⟩ rfl) ?_
  iterate 2 refine z ?_
  refine fin2 (res_cell hT rfl rfl rfl rfl) (res_tmp rfl) rfl rfl ?_
  first | exact ⟨rfl, rfl⟩ | skip
 ·skip
  iterate 7 refine z ?_
  rw [upA, if_neg (by have h8 := c1; simp only [Bool.or_assoc] at h8 ⊢; rw [h8]; simp)]
  refine ok_weak (σ' := ⟨[(4, .box 4 0), (5, .one (.dv [] (.bool (true))))], [(4, 33, [(.dv [] (.str ((upI (d) (u)).1.1))), (.dv [] (.int .i64 ((upI (d) (u)).1.2.1))), (.key 90031), (.key 90900)])], [(90031, some (kcOf false (storesD ((upI d u).1.2.2.1)))), (90900, some (kcOf false (defsD ((upI d u).1.2.2.2))))]⟩) (weak_sub ⟨rfl, rfl, trivial⟩ ⟨rfl, trivial⟩ ⟨rfl, rfl, trivial⟩ rfl) ?_
  refine z ?_
  refine fin2 (res_cell hT rfl rfl rfl rfl) (res_tmp rfl) rfl rfl ?_
  first | exact ⟨rfl, rfl⟩ | skip
end Go.Proofs.YtdjlikknmbjjgaaGreat

namespace Go.Proofs.YtdjlikknmbjjgaaGreat
open Go.RowKit
open Go.Proofs
set_option linter.unusedVariables false
set_option linter.unusedSimpArgs false

theorem sub_loS {o : List StoreT} {j : Nat} : ([] : List DV) ++ sub (0 * 3) ((((j : Nat) : Int).toNat - 0) * 3) (o.flatMap eStore) = (o.take j).flatMap eStore := by
 obtain ⟨h1, h2⟩ := take_flat (enc := eStore) (sz := 3) (fun _ => rfl) j o
 rw [Int.toNat_natCast, Nat.sub_zero, Nat.zero_mul, sub, List.drop_zero, List.nil_append, h1]
theorem holed_loS {o : List StoreT} {j : Nat} : holed (o.flatMap eStore) (0 * 3) ((((j : Nat) : Int).toNat - 0) * 3) = List.replicate (j * 3) .hole ++ (o.drop j).flatMap eStore := by
 obtain ⟨h1, h2⟩ := take_flat (enc := eStore) (sz := 3) (fun _ => rfl) j o
 rw [Int.toNat_natCast, Nat.sub_zero, Nat.zero_mul, holed, List.drop_zero, h2]; rfl
theorem sub_hiS {o : List StoreT} {j : Nat} {el : StoreT} (hj : j ≤ o.length) : (o.take j ++ [el]).flatMap eStore ++ sub (((j : Nat) : Int).toNat * 3) ((o.length - ((j : Nat) : Int).toNat) * 3) (List.replicate (j * 3) .hole ++ (o.drop j).flatMap eStore) = (insS o j el).flatMap eStore := by
 have hl : ((o.drop j).flatMap eStore).length = (o.length - j) * 3 := by rw [fl_len (sz := 3) (fun _ => rfl), List.length_drop]
 have e : (List.replicate (j * 3) DV.hole ++ (o.drop j).flatMap eStore).drop (j * 3) = (o.drop j).flatMap eStore := by
  have h := List.drop_left (l₁ := List.replicate (j * 3) DV.hole) (l₂ := (o.drop j).flatMap eStore)
  rwa [List.length_replicate] at h
 rw [Int.toNat_natCast, sub, e, List.take_of_length_le (l := (o.drop j).flatMap eStore) (by rw [hl]; exact Nat.le_refl _), insS, List.flatMap_append, List.flatMap_append, List.flatMap_cons, List.flatMap_cons, List.flatMap_nil, List.append_nil, List.append_assoc]
section
variable {α : Type} [Inhabited α] {enc : α → List DV} {p : α → Bool} {xs : List α} {k : Nat}
theorem fltG (hk : k < xs.length) : (xs.take (k + 1)).filter p = (xs.take k).filter p ++ (if p (xs.getD (k : Int).toNat default) then [xs.getD (k : Int).toNat default] else []) := by
 rw [List.take_add_one, List.getElem?_eq_getElem hk, List.filter_append, getD_at hk]
 congr 1
 simp [List.filter]
 split <;> rename_i h <;> simp [h]
theorem fltG_yes (hk : k < xs.length) (h : p (xs.getD (k : Int).toNat default) = true) : ((xs.take k).filter p).flatMap enc ++ enc (xs.getD (k : Int).toNat default) = ((xs.take (k + 1)).filter p).flatMap enc ∧ ((xs.take k).filter p).length + 1 = ((xs.take (k + 1)).filter p).length := by
 rw [fltG hk, if_pos h, List.flatMap_append, List.flatMap_cons, List.flatMap_nil, List.append_nil, List.length_append]
 exact ⟨rfl, rfl⟩
theorem fltG_no (hk : k < xs.length) (h : p (xs.getD (k : Int).toNat default) = false) : (xs.take k).filter p = (xs.take (k + 1)).filter p := by
 rw [fltG hk, if_neg (by rw [h]; simp), List.append_nil]
end
theorem ok_spec_l8Index {d : DbT} {u : UpgT}  : PFn Tryz.prog 24 [.agg [(.dv [] (.str (d.1))), (.dv [] (.int .i64 (d.2.1))), (.dv [] (storesD (d.2.2.1))), (.dv [] (defsD (d.2.2.2)))], .agg [(.dv [] (.int .i64 (u.1))), (.dv [] (.str (u.2.1))), (.dv [] (.str (u.2.2)))]] (.one (.dv [] (.int .i64 (findI (eqDefB u.2) d.2.2.2 0)))) := by
 refine ⟨fn_intro Tryz.func24 rfl Tryz.ntmps24 Tryz.results24 rfl (fun C => ?_)⟩
 refine yF 0 0 rfl rfl fun f0_0 => ?_
 refine yF 0 1 rfl rfl fun f0_1 => ?_
 refine yF 0 2 rfl rfl fun f0_2 => ?_
 refine yF 0 3 rfl rfl fun f0_3 => ?_
 refine yF 1 0 rfl rfl fun f1_0 => ?_
 refine yF 1 1 rfl rfl fun f1_1 => ?_
 refine yF 1 2 rfl rfl fun f1_2 => ?_
 iterate 10 refine z ?_
 refine ok_loop (ι := Nat) (fun zz => ⟨[(2, .box 2 0), (3, .box 3 0), (5, .one (.dv [] (.int .i64 ((zz : Int)))))], [(2, 33, [(.dv [] (.str (d.1))), (.dv [] (.int .i64 (d.2.1))), (.dv [] (storesD (d.2.2.1))), (.dv [] (defsD (d.2.2.2)))]), (3, 37, [(.dv [] (.int .i64 (u.1))), (.dv [] (.str (u.2.1))), (.dv [] (.str (u.2.2)))])], []⟩) (fun zz => zz ≤ d.2.2.2.length ∧ (d.2.2.2.take zz).any (eqDefB u.2) = false) (fun zz => d.2.2.2.length - zz) (0) ?_ (weak_sub ⟨rfl, rfl, rfl, trivial⟩ ⟨rfl, rfl, trivial⟩ trivial rfl) (fun zz hx => ?_)
 ·exact ⟨Nat.zero_le _, rfl⟩
 obtain ⟨k, rfl⟩ : ∃ v, v = zz := ⟨_, rfl⟩
 replace hx : k ≤ d.2.2.2.length ∧ (d.2.2.2.take k).any (eqDefB u.2) = false := hx
 obtain ⟨hk, hall⟩ := hx
 show Ok _ _ _ _ _ (⟨[(2, .box 2 0), (3, .box 3 0), (5, .one (.dv [] (.int .i64 ((k : Int)))))], [(2, 33, [(.dv [] (.str (d.1))), (.dv [] (.int .i64 (d.2.1))), (.dv [] (storesD (d.2.2.1))), (.dv [] (defsD (d.2.2.2)))]), (3, 37, [(.dv [] (.int .i64 (u.1))), (.dv [] (.str (u.2.1))), (.dv [] (.str (u.2.2)))])], []⟩ : St)
 iterate 8 refine z ?_
 refine yQ rfl (fun c1 => ?_) fun c1 => ?_
 ·skip
  have d1 := of_decide_eq_true c1
  iterate 4 refine z ?_
  refine ok_seq ?_
  refine ok_regionD (oB := [2, 3]) (oK := []) (by kernel_rfl) rfl rfl ?_
  refine zD 0 ?_
  refine zD 1 ?_
  refine zD 2 ?_
  refine zD 3 ?_
  refine zD 4 ?_
  refine zD 5 ?_
  refine zD 6 ?_
  refine zD 7 ?_
  refine zD 8 ?_
  refine zD 9 ?_
  refine zDG 10 ?_
  refine zDG 11 ?_
  refine zDG 12 ?_
  refine zDG 13 ?_
  refine zDG 14 ?_
  refine zDG 15 ?_
  refine zDG 16 ?_
  refine zDG 17 ?_
  refine zDG 18 ?_
  refine zD 19 ?_
  refine d_done (by kernel_rfl) ?_
  refine z ?_
  refine yQ rfl (fun c2 => ?_) fun c2 => ?_
  ·skip
   iterate 11 refine z ?_
   exact (findI_at (p := eqDefB u.2) (d := default) hall (by omega) (by rw [eqDef_comm]; exact c2)).symm
  ·skip
   iterate 3 refine z ?_
   refine ok_region ?_
   iterate 4 refine z ?_
   refine ⟨k + 1, ?_, ?_, weak_sub ⟨rfl, rfl, rfl, trivial⟩ ⟨rfl, rfl, trivial⟩ trivial rfl⟩
   ·exact ⟨by omega, any_stepI (d := default) hall (by omega) (by rw [eqDef_comm]; exact c2)⟩
   ·omega
 ·skip
  have d1 := of_decide_eq_false c1
  iterate 10 refine z ?_
  exact (findI_none (p := eqDefB u.2) hall (by omega)).symm
theorem ok_spec_l8Drop {d : DbT} {n : Str} (hb : wDatabase d ≤ 549755813888) : KFn Tryz.prog 25 [.agg [(.dv [] (.str (d.1))), (.dv [] (.int .i64 (d.2.1))), (.dv [] (storesD (d.2.2.1))), (.dv [] (defsD (d.2.2.2)))], .one (.dv [] (.str (n)))] (.agg [(.dv [] (.str ((dropD d n).1))), (.dv [] (.int .i64 ((dropD d n).2.1))), (.key 31), (.key 900)]) [(31, some (kcOf false (storesD ((dropD d n).2.2.1)))), (900, some (kcOf false (defsD ((dropD d n).2.2.2))))] := by
 refine ⟨fn_intro Tryz.func25 rfl Tryz.ntmps25 Tryz.results25 rfl (fun C => ?_)⟩
 have hw4 : wDatabase d = d.1.size + wList wStore d.2.2.1 + wList wIndexDef d.2.2.2 := rfl
 have hw5 : wList wStore d.2.2.1 = d.2.2.1.length + wSum wStore d.2.2.1 := rfl
 have hw6 : wList wIndexDef d.2.2.2 = d.2.2.2.length + wSum wIndexDef d.2.2.2 := rfl
 refine yF 0 0 rfl rfl fun f0_0 => ?_
 refine yF 0 1 rfl rfl fun f0_1 => ?_
 refine yF 0 2 rfl rfl fun f0_2 => ?_
 refine yF 0 3 rfl rfl fun f0_3 => ?_
 refine ok_fact (x := .tmp 1) (ev_tmp rfl) fun f1 => ?_
 iterate 9 refine z ?_
 refine yO rfl rfl (pu_build hT hB rfl rfl rfl (bp_cons (ev_tmp rfl) rfl rfl rfl rfl rfl (bp_cons (ev_tmp rfl) rfl rfl rfl rfl rfl bp_nil))) rfl ?_
 iterate 3 refine z ?_
 refine ok_seq ?_
 refine ok_seq ?_
 refine ok_weak (weak_nilB 31 (b := 5) (i := 2) (e := 57) (sz := 3) rfl rfl rfl rfl rfl) ?_
 simp only [killT, killB, SV.kill, CV.kill, kk, Nat.reduceBEq]
 refine ok_weak (weak_nilB 900 (b := 5) (i := 3) (e := 60) (sz := 2) rfl rfl rfl rfl rfl) ?_
 simp only [killT, killB, SV.kill, CV.kill, kk, Nat.reduceBEq]
 refine ok_region ?_
 iterate 3 refine z ?_
 refine ok_loop (ι := Nat) (fun zz => ⟨[(1, .one (.dv [] (.str (n)))), (2, .box 2 0), (4, .box 4 0), (5, .box 5 0), (6, .one (.dv [] (.int .i64 ((zz : Int)))))], [(2, 33, [(.dv [] (.str (d.1))), (.dv [] (.int .i64 (d.2.1))), (.dv [] (storesD (d.2.2.1))), (.dv [] (defsD (d.2.2.2)))]), (4, 33, [(.dv [] (.str (ByteArray.empty))), (.dv [] (.int .i64 (0))), .nil, .nil]), (5, 33, [(.dv [] (.str (d.1))), (.dv [] (.int .i64 (d.2.1))), (.key 31), (.key 900)])], [(31, some (kcOf false (.sl 57 3 (((d.2.2.1.take zz).filter (notS n)).length) (((d.2.2.1.take zz).filter (notS n)).flatMap eStore)))), (900, some (kcOf false (.sl 60 2 (0) ([]))))]⟩) (fun zz => zz ≤ d.2.2.1.length) (fun zz => d.2.2.1.length - zz) (0) ?_ (weak_sub ⟨rfl, rfl, rfl, rfl, rfl, trivial⟩ ⟨rfl, rfl, rfl, trivial⟩ ⟨rfl, rfl, trivial⟩ rfl) (fun zz hx => ?_)
 ·exact Nat.zero_le _
 obtain ⟨k, rfl⟩ : ∃ v, v = zz := ⟨_, rfl⟩
 replace hx : k ≤ d.2.2.1.length := hx
 have hw := fun h => wSum_succ wStore d.2.2.1 k h
 show Ok _ _ _ _ _ (⟨[(1, .one (.dv [] (.str (n)))), (2, .box 2 0), (4, .box 4 0), (5, .box 5 0), (6, .one (.dv [] (.int .i64 ((k : Int)))))], [(2, 33, [(.dv [] (.str (d.1))), (.dv [] (.int .i64 (d.2.1))), (.dv [] (storesD (d.2.2.1))), (.dv [] (defsD (d.2.2.2)))]), (4, 33, [(.dv [] (.str (ByteArray.empty))), (.dv [] (.int .i64 (0))), .nil, .nil]), (5, 33, [(.dv [] (.str (d.1))), (.dv [] (.int .i64 (d.2.1))), (.key 31), (.key 900)])], [(31, some (kcOf false (.sl 57 3 (((d.2.2.1.take k).filter (notS n)).length) (((d.2.2.1.take k).filter (notS n)).flatMap eStore)))), (900, some (kcOf false (.sl 60 2 (0) ([]))))]⟩ : St)
 iterate 8 refine z ?_
 refine yQ rfl (fun c1 => ?_) fun c1 => ?_
 ·skip
  have d1 := of_decide_eq_true c1
  have hk2 : k < d.2.2.1.length := by omega
  obtain ⟨hw1, hw2⟩ := hw hk2
  iterate 14 refine z ?_
  refine yQ rfl (fun c2 => ?_) fun c2 => ?_
  ·skip
   refine ok_regionH [0, 1, 2, 3, 4, 5, 6, 7, 8] (oB := [2, 4, 5]) (oK := [31, 900]) (by kernel_rfl) rfl rfl ?_
   refine zD 0 ?_
   refine zD 1 ?_
   refine zD 2 ?_
   refine zD 3 ?_
   refine zD 4 ?_
   refine zD 5 ?_
   refine zD 6 ?_
   refine d_callK 35000 7 rfl (by kernel_rfl) rfl rfl rfl Tryz.call42 (ok_spec_l6Copy (x := (d.2.2.1.getD (k : Int).toNat default)) (by omega)) (as_cons (ev_tmp rfl) (ag_agg (ag_cons ac_dv (ag_cons ac_dv (ag_cons ac_dv ag_nil)))) as_nil) rfl rfl rfl rfl rfl ?_
   refine d_build1 (k := 36) (js := [35030]) 8 hT rfl (by kernel_rfl) rfl rfl rfl rfl rfl rfl rfl rfl rfl (ev_tmp rfl) rfl rfl (ow_cons' (ow_dv rfl) (ow_cons' (ow_key rfl) (ow_cons' (ow_dv rfl) ow_nil rfl) rfl) rfl) (by decide) (by decide) rfl rfl (by decide) ?_
   simp only [killT, killB, SV.kill, CV.kill, kk, Nat.reduceBEq]
   refine d_chain [9, 10, 11] rfl rfl (by kernel_rfl) ?_
   refine o_appK (k := 31) (j := 36) (cs := ((d.2.2.1.take (k + 1)).filter (notS n)).flatMap eStore) (n := ((d.2.2.1.take (k + 1)).filter (notS n)).length) hT rfl rfl rfl rfl rfl rfl rfl (ev_tmp rfl) rfl rfl rfl (ev_tmp rfl) rfl rfl (by decide) (by have := List.length_filter_le (notS n) (d.2.2.1.take k); rw [List.length_take] at this; dsimp only [kcOf, KC.old]; omega) (by have := List.length_filter_le (notS n) (d.2.2.1.take k); rw [List.length_take] at this; dsimp only [kcOf, KC.old]; omega) ((fltG_yes (enc := eStore) hk2 c2).2) ((fltG_yes (enc := eStore) hk2 c2).1) ?_
   simp only [killT, killB, SV.kill, CV.kill, kk, Nat.reduceBEq]
   iterate 2 refine z ?_
   refine ops_nil ?_
   iterate 2 refine z ?_
   refine ok_region ?_
   iterate 4 refine z ?_
   refine ⟨k + 1, ?_, ?_, weak_sub ⟨rfl, rfl, rfl, rfl, rfl, trivial⟩ ⟨rfl, rfl, rfl, trivial⟩ ⟨rfl, rfl, trivial⟩ rfl⟩
   ·omega
   ·omega
  ·skip
   iterate 3 refine z ?_
   refine ok_region ?_
   iterate 4 refine z ?_
   refine ⟨k + 1, ?_, ?_, weak_sub ⟨rfl, rfl, rfl, rfl, rfl, trivial⟩ ⟨rfl, rfl, rfl, trivial⟩ ⟨(congrArg (fun l : List (StoreT) => some (some (KC.mk false 57 3 l.length (l.flatMap eStore)))) (fltG_no (p := notS n) hk2 c2)), rfl, trivial⟩ rfl⟩
   ·omega
   ·omega
 ·skip
  have d1 := of_decide_eq_false c1
  have hfin : d.2.2.1.take k = d.2.2.1 := List.take_of_length_le (by omega)
  iterate 10 refine z ?_
  refine ok_loop (ι := Nat) (fun zz => ⟨[(1, .one (.dv [] (.str (n)))), (2, .box 2 0), (4, .box 4 0), (5, .box 5 0), (7, .one (.dv [] (.int .i64 ((zz : Int)))))], [(2, 33, [(.dv [] (.str (d.1))), (.dv [] (.int .i64 (d.2.1))), (.dv [] (storesD (d.2.2.1))), (.dv [] (defsD (d.2.2.2)))]), (4, 33, [(.dv [] (.str (ByteArray.empty))), (.dv [] (.int .i64 (0))), .nil, .nil]), (5, 33, [(.dv [] (.str (d.1))), (.dv [] (.int .i64 (d.2.1))), (.key 31), (.key 900)])], [(900, some (kcOf false (.sl 60 2 (((d.2.2.2.take zz).filter (notN n)).length) (((d.2.2.2.take zz).filter (notN n)).flatMap eDef)))), (31, some (kcOf false (.sl 57 3 (((d.2.2.1.take k).filter (notS n)).length) (((d.2.2.1.take k).filter (notS n)).flatMap eStore))))]⟩) (fun zz => zz ≤ d.2.2.2.length) (fun zz => d.2.2.2.length - zz) (0) ?_ (weak_sub ⟨rfl, rfl, rfl, rfl, rfl, trivial⟩ ⟨rfl, rfl, rfl, trivial⟩ ⟨rfl, rfl, trivial⟩ rfl) (fun zz hx => ?_)
  ·exact Nat.zero_le _
  obtain ⟨k2, rfl⟩ : ∃ v, v = zz := ⟨_, rfl⟩
  replace hx : k2 ≤ d.2.2.2.length := hx
  have hw := fun h => wSum_succ wIndexDef d.2.2.2 k2 h
  show Ok _ _ _ _ _ (⟨[(1, .one (.dv [] (.str (n)))), (2, .box 2 0), (4, .box 4 0), (5, .box 5 0), (7, .one (.dv [] (.int .i64 ((k2 : Int)))))], [(2, 33, [(.dv [] (.str (d.1))), (.dv [] (.int .i64 (d.2.1))), (.dv [] (storesD (d.2.2.1))), (.dv [] (defsD (d.2.2.2)))]), (4, 33, [(.dv [] (.str (ByteArray.empty))), (.dv [] (.int .i64 (0))), .nil, .nil]), (5, 33, [(.dv [] (.str (d.1))), (.dv [] (.int .i64 (d.2.1))), (.key 31), (.key 900)])], [(900, some (kcOf false (.sl 60 2 (((d.2.2.2.take k2).filter (notN n)).length) (((d.2.2.2.take k2).filter (notN n)).flatMap eDef)))), (31, some (kcOf false (.sl 57 3 (((d.2.2.1.take k).filter (notS n)).length) (((d.2.2.1.take k).filter (notS n)).flatMap eStore))))]⟩ : St)
  iterate 8 refine z ?_
  refine yQ rfl (fun c3 => ?_) fun c3 => ?_
  ·skip
   have d3 := of_decide_eq_true c3
   have hk2 : k2 < d.2.2.2.length := by omega
   iterate 14 refine z ?_
   refine yQ rfl (fun c4 => ?_) fun c4 => ?_
   ·skip
    refine ok_regionH [0, 1, 2, 3, 4, 5, 6, 7] (oB := [2, 4, 5]) (oK := [31, 900]) (by kernel_rfl) rfl rfl ?_
    refine zD 0 ?_
    refine zD 1 ?_
    refine zD 2 ?_
    refine zD 3 ?_
    refine zD 4 ?_
    refine zD 5 ?_
    refine zD 6 ?_
    refine d_build1 (k := 61) (js := []) 7 hT rfl (by kernel_rfl) rfl rfl rfl rfl rfl rfl rfl rfl rfl (ev_tmp rfl) rfl rfl (ow_cons' (ow_dv rfl) (ow_cons' (ow_dv rfl) ow_nil rfl) rfl) (by decide) (by decide) rfl rfl (by decide) ?_
    simp only [killT, killB, SV.kill, CV.kill, kk, Nat.reduceBEq]
    refine d_chain [8, 9, 10] rfl rfl (by kernel_rfl) ?_
    refine o_appK (k := 900) (j := 61) (cs := ((d.2.2.2.take (k2 + 1)).filter (notN n)).flatMap eDef) (n := ((d.2.2.2.take (k2 + 1)).filter (notN n)).length) hT rfl rfl rfl rfl rfl rfl rfl (ev_tmp rfl) rfl rfl rfl (ev_tmp rfl) rfl rfl (by decide) (by have := List.length_filter_le (notN n) (d.2.2.2.take k2); rw [List.length_take] at this; dsimp only [kcOf, KC.old]; omega) (by have := List.length_filter_le (notN n) (d.2.2.2.take k2); rw [List.length_take] at this; dsimp only [kcOf, KC.old]; omega) ((fltG_yes (enc := eDef) hk2 c4).2) ((fltG_yes (enc := eDef) hk2 c4).1) ?_
    simp only [killT, killB, SV.kill, CV.kill, kk, Nat.reduceBEq]
    iterate 2 refine z ?_
    refine ops_nil ?_
    iterate 2 refine z ?_
    refine ok_region ?_
    iterate 4 refine z ?_
    refine ⟨k2 + 1, ?_, ?_, weak_sub ⟨rfl, rfl, rfl, rfl, rfl, trivial⟩ ⟨rfl, rfl, rfl, trivial⟩ ⟨rfl, rfl, trivial⟩ rfl⟩
    ·omega
    ·omega
   ·skip
    iterate 3 refine z ?_
    refine ok_region ?_
    iterate 4 refine z ?_
    refine ⟨k2 + 1, ?_, ?_, weak_sub ⟨rfl, rfl, rfl, rfl, rfl, trivial⟩ ⟨rfl, rfl, rfl, trivial⟩ ⟨(congrArg (fun l : List (DefT) => some (some (KC.mk false 60 2 l.length (l.flatMap eDef)))) (fltG_no (p := notN n) hk2 c4)), rfl, trivial⟩ rfl⟩
    ·omega
    ·omega
  ·skip
   have d3 := of_decide_eq_false c3
   iterate 9 refine z ?_
   refine ok_weak (σ' := ⟨[(4, .box 4 0)], [(4, 33, [(.dv [] (.str ((dropD d n).1))), (.dv [] (.int .i64 ((dropD d n).2.1))), (.key 31), (.key 900)])], [(31, some (kcOf false (storesD ((dropD d n).2.2.1)))), (900, some (kcOf false (defsD ((dropD d n).2.2.2))))]⟩) (weak_sub ⟨rfl, trivial⟩ ⟨rfl, trivial⟩ ⟨(congrArg (fun l : List (StoreT) => some (some (KC.mk false 57 3 (l.filter (notS n)).length ((l.filter (notS n)).flatMap eStore)))) hfin), (congrArg (fun l : List (DefT) => some (some (KC.mk false 60 2 (l.filter (notN n)).length ((l.filter (notN n)).flatMap eDef)))) (List.take_of_length_le (by omega))), trivial⟩ rfl) ?_
   refine z ?_
   refine fin1 (res_cell hT rfl rfl rfl rfl) ?_
   exact ⟨rfl, rfl⟩
theorem ok_spec_ApplyUpgrade {d : DbT} {u : UpgT} (hb : wDatabase d ≤ 549755813888) : KFn Tryz.prog 7 [.agg [(.dv [] (.str (d.1))), (.dv [] (.int .i64 (d.2.1))), (.dv [] (storesD (d.2.2.1))), (.dv [] (defsD (d.2.2.2)))], .agg [(.dv [] (.int .i64 (u.1))), (.dv [] (.str (u.2.1))), (.dv [] (.str (u.2.2)))]] (.tup [(true, [(.dv [] (.str ((upA d u).1.1))), (.dv [] (.int .i64 ((upA d u).1.2.1))), (.key 90031), (.key 90900)]), (false, [(.dv [] (.bool ((upA d u).2)))])]) [(90031, some (kcOf false (storesD ((upA d u).1.2.2.1)))), (90900, some (kcOf false (defsD ((upA d u).1.2.2.2))))] := by
 refine ⟨fn_intro Tryz.func7 rfl Tryz.ntmps7 Tryz.results7 rfl (fun C => ?_)⟩
 have hw4 : wDatabase d = d.1.size + wList wStore d.2.2.1 + wList wIndexDef d.2.2.2 := rfl
 have hw5 : wList wStore d.2.2.1 = d.2.2.1.length + wSum wStore d.2.2.1 := rfl
 have hw6 : wList wIndexDef d.2.2.2 = d.2.2.2.length + wSum wIndexDef d.2.2.2 := rfl
 obtain ⟨m, hm⟩ : ∃ m, m = d.2.2.2.length - 1 := ⟨_, rfl⟩
 refine yF 0 0 rfl rfl fun f0_0 => ?_
 refine yF 0 1 rfl rfl fun f0_1 => ?_
 refine yF 0 2 rfl rfl fun f0_2 => ?_
 refine yF 0 3 rfl rfl fun f0_3 => ?_
 refine yF 1 0 rfl rfl fun f1_0 => ?_
 refine yF 1 1 rfl rfl fun f1_1 => ?_
 refine yF 1 2 rfl rfl fun f1_2 => ?_
 iterate 8 refine z ?_
 refine zK 90000 Tryz.call22 ?_ (hf := ok_spec_l8Copy (x := d) (by omega))
 iterate 7 refine z ?_
 refine zC Tryz.call23 ?_ (hf := ok_spec_FindStore (x := d) (n := u.2.1))
 iterate 5 refine z ?_
 refine zC Tryz.call24 ?_ (hf := ok_spec_l8Index (d := d) (u := u))
 iterate 14 refine z ?_
 refine yQ rfl (fun c1 => ?_) fun c1 => ?_
 ·skip
  have hk1 : u.1 = 1 ∧ (findI (hasName u.2.1) d.2.2.1 0) < 0 := by simpa only [Bool.and_eq_true, decide_eq_true_eq, and_assoc] using c1
  iterate 5 refine z ?_
  refine ok_loop (ι := Nat) (fun zz => ⟨[(2, .box 2 0), (3, .box 3 0), (4, .box 4 0), (5, .one (.dv [] (.bool (false)))), (6, .box 6 0), (9, .one (.dv [] (.int .i64 ((zz : Int)))))], [(2, 33, [(.dv [] (.str (d.1))), (.dv [] (.int .i64 (d.2.1))), (.dv [] (storesD (d.2.2.1))), (.dv [] (defsD (d.2.2.2)))]), (3, 37, [(.dv [] (.int .i64 (u.1))), (.dv [] (.str (u.2.1))), (.dv [] (.str (u.2.2)))]), (4, 33, [(.dv [] (.str (ByteArray.empty))), (.dv [] (.int .i64 (0))), .nil, .nil]), (6, 33, [(.dv [] (.str ((d).1))), (.dv [] (.int .i64 ((d).2.1))), (.key 90031), (.key 90900)])], [(90031, some (kcOf false (.sl 57 3 (d.2.2.1.length) (d.2.2.1.flatMap eStore)))), (90900, some (kcOf false (.sl 60 2 (d.2.2.2.length) (d.2.2.2.flatMap eDef))))]⟩) (fun zz => zz ≤ d.2.2.1.length ∧ posN u.2.1 d.2.2.1 = zz + posN u.2.1 (d.2.2.1.drop zz)) (fun zz => d.2.2.1.length - zz) (0) ?_ (weak_sub ⟨rfl, rfl, rfl, rfl, rfl, rfl, trivial⟩ ⟨rfl, rfl, rfl, rfl, trivial⟩ ⟨rfl, rfl, trivial⟩ rfl) (fun zz hx => ?_)
  ·exact ⟨Nat.zero_le _, by simp⟩
  obtain ⟨j, rfl⟩ : ∃ v, v = zz := ⟨_, rfl⟩
  replace hx : j ≤ d.2.2.1.length ∧ posN u.2.1 d.2.2.1 = j + posN u.2.1 (d.2.2.1.drop j) := hx
  obtain ⟨hj, hp⟩ := hx
  show Ok _ _ _ _ _ (⟨[(2, .box 2 0), (3, .box 3 0), (4, .box 4 0), (5, .one (.dv [] (.bool (false)))), (6, .box 6 0), (9, .one (.dv [] (.int .i64 ((j : Int)))))], [(2, 33, [(.dv [] (.str (d.1))), (.dv [] (.int .i64 (d.2.1))), (.dv [] (storesD (d.2.2.1))), (.dv [] (defsD (d.2.2.2)))]), (3, 37, [(.dv [] (.int .i64 (u.1))), (.dv [] (.str (u.2.1))), (.dv [] (.str (u.2.2)))]), (4, 33, [(.dv [] (.str (ByteArray.empty))), (.dv [] (.int .i64 (0))), .nil, .nil]), (6, 33, [(.dv [] (.str ((d).1))), (.dv [] (.int .i64 ((d).2.1))), (.key 90031), (.key 90900)])], [(90031, some (kcOf false (.sl 57 3 (d.2.2.1.length) (d.2.2.1.flatMap eStore)))), (90900, some (kcOf false (.sl 60 2 (d.2.2.2.length) (d.2.2.2.flatMap eDef))))]⟩ : St)
  refine ok_seq ?_
  refine ok_seq ?_
  refine ok_regionD (oB := [2, 3, 4, 6]) (oK := [90031, 90900]) (by kernel_rfl) rfl rfl ?_
  refine zD 0 ?_
  refine zD 1 ?_
  refine zD 2 ?_
  refine zD 3 ?_
  refine zD 4 ?_
  refine zD 5 ?_
  refine zDG 6 ?_
  refine zDG 7 ?_
  refine zDG 8 ?_
  refine zDG 9 ?_
  refine zDG 10 ?_
  refine zDG 11 ?_
  refine zDG 12 ?_
  refine zDG 13 ?_
  refine zDG 14 ?_
  refine zD 15 ?_
  refine d_done (by kernel_rfl) ?_
  refine z ?_
  refine yQ rfl (fun c2 => ?_) fun c2 => ?_
  ·skip
   have hj2 : j < d.2.2.1.length := by have h8 := c2; rw [Bool.and_eq_true, decide_eq_true_eq] at h8; omega
   have hst := posN_step hp hj2 (by have h8 := c2; rw [Bool.and_eq_true] at h8; exact h8.2)
   iterate 3 refine z ?_
   refine ok_region ?_
   iterate 3 refine z ?_
   refine ops_nil ?_
   iterate 2 refine z ?_
   refine ⟨j + 1, ?_, ?_, weak_sub ⟨rfl, rfl, rfl, rfl, rfl, rfl, trivial⟩ ⟨rfl, rfl, rfl, rfl, trivial⟩ ⟨rfl, rfl, trivial⟩ rfl⟩
   ·exact ⟨by omega, hst⟩
   ·omega
  ·skip
   have hpos := posN_stop hp hj c2
   iterate 6 refine z ?_
   refine o_build0 (k := 47) hT rfl rfl rfl rfl rfl rfl rfl rfl ?_
   iterate 3 refine z ?_
   refine o_appSubB (b8 := 6) (i8 := 2) (k := 47) (j := 90031) (s := 49) (n := (d.2.2.1.take j).length) (cs := (d.2.2.1.take j).flatMap eStore) (c2s := List.replicate (j * 3) .hole ++ (d.2.2.1.drop j).flatMap eStore) hT rfl rfl rfl (sl_h hT rfl rfl rfl (ev_tmp rfl) rfl (ev_tmp rfl) (by omega) (by dsimp only [kcOf]; omega)) rfl rfl rfl rfl rfl rfl rfl (ev_tmp rfl) rfl rfl rfl rfl rfl rfl (by decide) rfl rfl ⟨rfl, rfl⟩ (by omega) (by dsimp only [kcOf]; omega) (by dsimp only [kcOf]; omega) (by dsimp only [kcOf]; omega) (by rw [List.length_take, Nat.min_eq_left (by omega)]; simp) (sub_loS) (holed_loS) rfl rfl rfl ?_
   simp only [killT, killB, SV.kill, CV.kill, kk, Nat.reduceBEq]
   iterate 6 refine z ?_
   refine yO rfl rfl (pu_build hT hB rfl rfl rfl (bp_cons (ev_tmp rfl) rfl rfl rfl rfl rfl bp_nil)) rfl ?_
   refine o_build1 (k := 57) (js := []) hT rfl rfl rfl rfl rfl rfl rfl rfl rfl (ev_tmp rfl) rfl rfl (ow_cons' (ow_dv rfl) (ow_cons' (ow_nilc (e := 102) (sz := 4) rfl) (ow_cons' (ow_dv rfl) ow_nil rfl) rfl) rfl) (by decide) (by decide) rfl rfl ?_
   simp only [killT, killB, SV.kill, CV.kill, kk, Nat.reduceBEq]
   refine o_appK (k := 47) (j := 57) (cs := (d.2.2.1.take j ++ [(u.2.1, ([] : List ItemT), (0 : Int))]).flatMap eStore) (n := (d.2.2.1.take j ++ [(u.2.1, ([] : List ItemT), (0 : Int))]).length) hT rfl rfl rfl rfl rfl rfl rfl (ev_tmp rfl) rfl rfl rfl (ev_tmp rfl) rfl rfl (by decide) (by dsimp only [kcOf]; simp only [List.length_take]; omega) (by dsimp only [kcOf]; simp only [List.length_take]; omega) (by simp) (by rw [List.flatMap_append]; rfl) ?_
   simp only [killT, killB, SV.kill, CV.kill, kk, Nat.reduceBEq]
   iterate 2 refine z ?_
   refine ok_region ?_
   iterate 4 refine z ?_
   refine o_appSub (k := 47) (j := 90031) (s := 61) (n := (insS d.2.2.1 j (u.2.1, ([] : List ItemT), (0 : Int))).length) (cs := (insS d.2.2.1 j (u.2.1, ([] : List ItemT), (0 : Int))).flatMap eStore) (c2s := _) hT rfl rfl rfl (sl_l hT rfl rfl rfl (ev_tmp rfl) rfl (ev_tmp rfl) (by omega) (by dsimp only [kcOf]; omega)) rfl rfl rfl rfl rfl rfl rfl (ev_tmp rfl) rfl rfl rfl rfl rfl rfl (by decide) rfl rfl ⟨rfl, rfl⟩ (by dsimp only [kcOf]; omega) (by dsimp only [kcOf]; omega) (by dsimp only [kcOf]; simp only [List.length_append, List.length_take, List.length_singleton]; omega) (by dsimp only [kcOf]; simp only [List.length_append, List.length_take, List.length_singleton]; omega) (by rw [insS_len hj]; simp; omega) (sub_hiS hj) (rfl) ?_
   simp only [killT, killB, SV.kill, CV.kill, kk, Nat.reduceBEq]
   iterate 2 refine z ?_
   refine ops_nil ?_
   iterate 2 refine z ?_
   refine ok_seq ?_
   refine ok_seq ?_
   refine ok_weak (weak_swapB (b := 6) (i := 2) (k := 47) (k' := 90031) rfl rfl rfl rfl (by decide) rfl rfl) ?_
   simp only [killT, killB, SV.kill, CV.kill, kk, Nat.reduceBEq]
   refine ok_weak (weak_eq (k := 90900) (c' := kcOf false (defsD (d.2.2.2))) rfl (rfl) rfl) ?_
   refine ok_region ?_
   refine z ?_
   refine zC Tryz.call26 ?_ (hf := ok_spec_IsDatabase (x := d))
   iterate 3 refine z ?_
   refine o_callG (gd_bool rfl rfl rfl rfl rfl) rfl rfl Tryz.call26 (ok_spec_IsDatabase (x := (d.1, d.2.1, (insS d.2.2.1 j (u.2.1, ([] : List ItemT), (0 : Int))), d.2.2.2))) (fun hg => (as_cons (ev_opt rfl hg) (ag_agg (ag_cons ac_dv (ag_cons ac_dv (ag_cons (ac_key' rfl rfl) (ag_cons (ac_key' rfl rfl) ag_nil))))) as_nil)) rfl rfl ?_
   iterate 3 refine z ?_
   refine yQ rfl (fun c3 => ?_) fun c3 => ?_
   ·skip
    refine ok_seq ?_
    refine ok_weak (σ' := ⟨[(2, .box 2 0), (3, .box 3 0), (4, .box 4 0), (5, .one (.dv [] (.bool (false))))], [(2, 33, [(.dv [] (.str (d.1))), (.dv [] (.int .i64 (d.2.1))), (.dv [] (storesD (d.2.2.1))), (.dv [] (defsD (d.2.2.2)))]), (3, 37, [(.dv [] (.int .i64 (u.1))), (.dv [] (.str (u.2.1))), (.dv [] (.str (u.2.2)))]), (4, 33, [(.dv [] (.str (ByteArray.empty))), (.dv [] (.int .i64 (0))), .nil, .nil])], []⟩) (weak_sub ⟨rfl, rfl, rfl, rfl, trivial⟩ ⟨rfl, rfl, rfl, trivial⟩ trivial rfl) ?_
    refine ok_region ?_
    refine z ?_
    refine zK 90000 Tryz.call22 ?_ (hf := ok_spec_l8Copy (x := d) (by omega))
    iterate 3 refine z ?_
    rw [upA_out (o := (d.1, d.2.1, (insS d.2.2.1 j (u.2.1, ([] : List ItemT), (0 : Int))), d.2.2.2)) (fun _ => by rw [upI_1 hk1.1, hpos]) c3]
    refine ok_weak (σ' := ⟨[(4, .box 4 0), (5, .one (.dv [] (.bool (false))))], [(4, 33, [(.dv [] (.str ((d).1))), (.dv [] (.int .i64 ((d).2.1))), (.key 90031), (.key 90900)])], [(90031, some (kcOf false (storesD (d.2.2.1)))), (90900, some (kcOf false (defsD (d.2.2.2))))]⟩) (weak_sub ⟨rfl, rfl, trivial⟩ ⟨rfl, trivial⟩ ⟨rfl, rfl, trivial⟩ rfl) ?_
    iterate 2 refine z ?_
    refine fin2 (res_cell hT rfl rfl rfl rfl) (res_tmp rfl) rfl rfl ?_
    first | exact ⟨rfl, rfl⟩ | skip
   ·skip
    iterate 7 refine z ?_
    rw [upA_yes (o := (d.1, d.2.1, (insS d.2.2.1 j (u.2.1, ([] : List ItemT), (0 : Int))), d.2.2.2)) (fun _ => by rw [upI_1 hk1.1, hpos]) (by rw [upI_1 hk1.1]; exact decide_eq_true hk1.2) c3]
    refine ok_weak (σ' := ⟨[(4, .box 4 0), (5, .one (.dv [] (.bool (true))))], [(4, 33, [(.dv [] (.str ((d).1))), (.dv [] (.int .i64 ((d).2.1))), (.key 90031), (.key 90900)])], [(90031, some (kcOf false (storesD ((insS d.2.2.1 j (u.2.1, ([] : List ItemT), (0 : Int))))))), (90900, some (kcOf false (defsD (d.2.2.2))))]⟩) (weak_sub ⟨rfl, rfl, trivial⟩ ⟨rfl, trivial⟩ ⟨rfl, rfl, trivial⟩ rfl) ?_
    refine z ?_
    refine fin2 (res_cell hT rfl rfl rfl rfl) (res_tmp rfl) rfl rfl ?_
    first | exact ⟨rfl, rfl⟩ | skip
 ·skip
  have hn1 : ¬ (u.1 = 1 ∧ (findI (hasName u.2.1) d.2.2.1 0) < 0) := fun h => by
   have h8 := c1
   rw [show (decide (u.1 = 1) && decide ((findI (hasName u.2.1) d.2.2.1 0) < 0)) = true by simp only [Bool.and_eq_true, decide_eq_true_eq, and_assoc]; exact h] at h8
   cases h8
  iterate 10 refine z ?_
  refine yQ rfl (fun c4 => ?_) fun c4 => ?_
  ·skip
   have hk1 : u.1 = 2 ∧ 0 ≤ (findI (hasName u.2.1) d.2.2.1 0) := by simpa only [Bool.and_eq_true, decide_eq_true_eq, and_assoc] using c4
   have hlt : (findI (hasName u.2.1) d.2.2.1 0) < (d.2.2.1.length : Int) := fndS_lt d u.2.1
   refine ok_region ?_
   iterate 3 refine z ?_
   refine zK 91000 Tryz.call25 ?_ (hf := ok_spec_l8Drop (d := d) (n := u.2.1) (by omega))
   refine z ?_
   refine ops_nil ?_
   iterate 2 refine z ?_
   refine ok_seq ?_
   refine ok_seq ?_
   refine ok_weak (weak_swapB (b := 6) (i := 2) (k := 91031) (k' := 90031) rfl rfl rfl rfl (by simp) rfl rfl) ?_
   simp only [killT, killB, SV.kill, CV.kill, kk, Nat.reduceBEq]
   refine ok_weak (weak_swapB (b := 6) (i := 3) (k := 91900) (k' := 90900) rfl rfl rfl rfl (by simp) rfl rfl) ?_
   simp only [killT, killB, SV.kill, CV.kill, kk, Nat.reduceBEq]
   refine ok_region ?_
   refine z ?_
   refine zC Tryz.call26 ?_ (hf := ok_spec_IsDatabase (x := d))
   iterate 3 refine z ?_
   refine o_callG (gd_bool rfl rfl rfl rfl rfl) rfl rfl Tryz.call26 (ok_spec_IsDatabase (x := (dropD d u.2.1))) (fun hg => (as_cons (ev_opt rfl hg) (ag_agg (ag_cons ac_dv (ag_cons ac_dv (ag_cons (ac_key' rfl rfl) (ag_cons (ac_key' rfl rfl) ag_nil))))) as_nil)) rfl rfl ?_
   iterate 3 refine z ?_
   refine yQ rfl (fun c5 => ?_) fun c5 => ?_
   ·skip
    refine ok_seq ?_
    refine ok_weak (σ' := ⟨[(2, .box 2 0), (3, .box 3 0), (4, .box 4 0), (5, .one (.dv [] (.bool (false))))], [(2, 33, [(.dv [] (.str (d.1))), (.dv [] (.int .i64 (d.2.1))), (.dv [] (storesD (d.2.2.1))), (.dv [] (defsD (d.2.2.2)))]), (3, 37, [(.dv [] (.int .i64 (u.1))), (.dv [] (.str (u.2.1))), (.dv [] (.str (u.2.2)))]), (4, 33, [(.dv [] (.str (ByteArray.empty))), (.dv [] (.int .i64 (0))), .nil, .nil])], []⟩) (weak_sub ⟨rfl, rfl, rfl, rfl, trivial⟩ ⟨rfl, rfl, rfl, trivial⟩ trivial rfl) ?_
    refine ok_region ?_
    refine z ?_
    refine zK 90000 Tryz.call22 ?_ (hf := ok_spec_l8Copy (x := d) (by omega))
    iterate 3 refine z ?_
    rw [upA_out (o := (dropD d u.2.1)) (fun hd => dropD_eq hk1.1 hk1.2 hd) c5]
    refine ok_weak (σ' := ⟨[(4, .box 4 0), (5, .one (.dv [] (.bool (false))))], [(4, 33, [(.dv [] (.str ((d).1))), (.dv [] (.int .i64 ((d).2.1))), (.key 90031), (.key 90900)])], [(90031, some (kcOf false (storesD (d.2.2.1)))), (90900, some (kcOf false (defsD (d.2.2.2))))]⟩) (weak_sub ⟨rfl, rfl, trivial⟩ ⟨rfl, trivial⟩ ⟨rfl, rfl, trivial⟩ rfl) ?_
    iterate 2 refine z ?_
    refine fin2 (res_cell hT rfl rfl rfl rfl) (res_tmp rfl) rfl rfl ?_
    first | exact ⟨rfl, rfl⟩ | skip
   ·skip
    iterate 7 refine z ?_
    rw [upA_yes (o := (dropD d u.2.1)) (fun hd => dropD_eq hk1.1 hk1.2 hd) (by rw [upI_2 hk1.1 hk1.2]; exact decide_eq_true hk1.2) c5]
    refine ok_weak (σ' := ⟨[(4, .box 4 0), (5, .one (.dv [] (.bool (true))))], [(4, 33, [(.dv [] (.str ((dropD (d) (u.2.1)).1))), (.dv [] (.int .i64 ((dropD (d) (u.2.1)).2.1))), (.key 90031), (.key 90900)])], [(90031, some (kcOf false (storesD (d.2.2.1.filter (notS u.2.1))))), (90900, some (kcOf false (defsD (d.2.2.2.filter (notN u.2.1)))))]⟩) (weak_sub ⟨rfl, rfl, trivial⟩ ⟨rfl, trivial⟩ ⟨rfl, rfl, trivial⟩ rfl) ?_
    refine z ?_
    refine fin2 (res_cell hT rfl rfl rfl rfl) (res_tmp rfl) rfl rfl ?_
    first | exact ⟨rfl, rfl⟩ | skip
  ·skip
   have hn4 : ¬ (u.1 = 2 ∧ 0 ≤ (findI (hasName u.2.1) d.2.2.1 0)) := fun h => by
    have h8 := c4
    rw [show (decide (u.1 = 2) && decide (0 ≤ (findI (hasName u.2.1) d.2.2.1 0))) = true by simp only [Bool.and_eq_true, decide_eq_true_eq, and_assoc]; exact h] at h8
    cases h8
   iterate 14 refine z ?_
   refine yQ rfl (fun c6 => ?_) fun c6 => ?_
   ·skip
    have hk1 : u.1 = 3 ∧ 0 ≤ (findI (hasName u.2.1) d.2.2.1 0) ∧ (findI (eqDefB u.2) d.2.2.2 0) < 0 := by simpa only [Bool.and_eq_true, decide_eq_true_eq, and_assoc] using c6
    refine ok_region ?_
    iterate 6 refine z ?_
    refine yO rfl rfl (pu_build hT hB rfl rfl rfl (bp_cons (ev_tmp rfl) rfl rfl rfl rfl rfl (bp_cons (ev_tmp rfl) rfl rfl rfl rfl rfl bp_nil))) rfl ?_
    refine o_build1 (k := 97) (js := []) hT rfl rfl rfl rfl rfl rfl rfl rfl rfl (ev_tmp rfl) rfl rfl (ow_cons' (ow_dv rfl) (ow_cons' (ow_dv rfl) ow_nil rfl) rfl) (by decide) (by decide) rfl rfl ?_
    simp only [killT, killB, SV.kill, CV.kill, kk, Nat.reduceBEq]
    refine o_appK (k := 90900) (j := 97) (cs := (d.2.2.2 ++ [u.2]).flatMap eDef) (n := (d.2.2.2 ++ [u.2]).length) hT rfl rfl rfl rfl rfl rfl rfl (ev_tmp rfl) rfl rfl rfl (ev_tmp rfl) rfl rfl (by decide) (by dsimp only [kcOf, KC.old]; omega) (by dsimp only [kcOf, KC.old]; omega) (by rw [List.length_append]; rfl) (by rw [List.flatMap_append]; rfl) ?_
    simp only [killT, killB, SV.kill, CV.kill, kk, Nat.reduceBEq]
    iterate 2 refine z ?_
    refine ops_nil ?_
    iterate 2 refine z ?_
    refine ok_seq ?_
    refine ok_seq ?_
    refine ok_weak (weak_eq (k := 90900) (c' := kcOf false (defsD (d.2.2.2 ++ [u.2]))) rfl (rfl) rfl) ?_
    refine ok_region ?_
    refine z ?_
    refine zC Tryz.call26 ?_ (hf := ok_spec_IsDatabase (x := d))
    iterate 3 refine z ?_
    refine o_callG (gd_bool rfl rfl rfl rfl rfl) rfl rfl Tryz.call26 (ok_spec_IsDatabase (x := (d.1, d.2.1, d.2.2.1, (d.2.2.2 ++ [u.2])))) (fun hg => (as_cons (ev_opt rfl hg) (ag_agg (ag_cons ac_dv (ag_cons ac_dv (ag_cons (ac_key' rfl rfl) (ag_cons (ac_key' rfl rfl) ag_nil))))) as_nil)) rfl rfl ?_
    iterate 3 refine z ?_
    refine yQ rfl (fun c7 => ?_) fun c7 => ?_
    ·skip
     refine ok_seq ?_
     refine ok_weak (σ' := ⟨[(2, .box 2 0), (3, .box 3 0), (4, .box 4 0), (5, .one (.dv [] (.bool (false))))], [(2, 33, [(.dv [] (.str (d.1))), (.dv [] (.int .i64 (d.2.1))), (.dv [] (storesD (d.2.2.1))), (.dv [] (defsD (d.2.2.2)))]), (3, 37, [(.dv [] (.int .i64 (u.1))), (.dv [] (.str (u.2.1))), (.dv [] (.str (u.2.2)))]), (4, 33, [(.dv [] (.str (ByteArray.empty))), (.dv [] (.int .i64 (0))), .nil, .nil])], []⟩) (weak_sub ⟨rfl, rfl, rfl, rfl, trivial⟩ ⟨rfl, rfl, rfl, trivial⟩ trivial rfl) ?_
     refine ok_region ?_
     refine z ?_
     refine zK 90000 Tryz.call22 ?_ (hf := ok_spec_l8Copy (x := d) (by omega))
     iterate 3 refine z ?_
     rw [upA_out (o := (d.1, d.2.1, d.2.2.1, (d.2.2.2 ++ [u.2]))) (fun _ => by rw [upI_3 hk1.1]) c7]
     refine ok_weak (σ' := ⟨[(4, .box 4 0), (5, .one (.dv [] (.bool (false))))], [(4, 33, [(.dv [] (.str ((d).1))), (.dv [] (.int .i64 ((d).2.1))), (.key 90031), (.key 90900)])], [(90031, some (kcOf false (storesD (d.2.2.1)))), (90900, some (kcOf false (defsD (d.2.2.2))))]⟩) (weak_sub ⟨rfl, rfl, trivial⟩ ⟨rfl, trivial⟩ ⟨rfl, rfl, trivial⟩ rfl) ?_
     iterate 2 refine z ?_
     refine fin2 (res_cell hT rfl rfl rfl rfl) (res_tmp rfl) rfl rfl ?_
     first | exact ⟨rfl, rfl⟩ | skip
    ·skip
     iterate 7 refine z ?_
     rw [upA_yes (o := (d.1, d.2.1, d.2.2.1, (d.2.2.2 ++ [u.2]))) (fun _ => by rw [upI_3 hk1.1]) (by rw [upI_3 hk1.1]; exact decide_eq_true hk1.2.2) c7]
     refine ok_weak (σ' := ⟨[(4, .box 4 0), (5, .one (.dv [] (.bool (true))))], [(4, 33, [(.dv [] (.str ((d).1))), (.dv [] (.int .i64 ((d).2.1))), (.key 90031), (.key 90900)])], [(90031, some (kcOf false (storesD (d.2.2.1)))), (90900, some (kcOf false (defsD ((d.2.2.2 ++ [u.2])))))]⟩) (weak_sub ⟨rfl, rfl, trivial⟩ ⟨rfl, trivial⟩ ⟨rfl, rfl, trivial⟩ rfl) ?_
     refine z ?_
     refine fin2 (res_cell hT rfl rfl rfl rfl) (res_tmp rfl) rfl rfl ?_
     first | exact ⟨rfl, rfl⟩ | skip
   ·skip
    have hn6 : ¬ (u.1 = 3 ∧ 0 ≤ (findI (hasName u.2.1) d.2.2.1 0) ∧ (findI (eqDefB u.2) d.2.2.2 0) < 0) := fun h => by
     have h8 := c6
     rw [show (decide (u.1 = 3) && decide (0 ≤ (findI (hasName u.2.1) d.2.2.1 0)) && decide ((findI (eqDefB u.2) d.2.2.2 0) < 0)) = true by simp only [Bool.and_eq_true, decide_eq_true_eq, and_assoc]; exact h] at h8
     cases h8
    iterate 10 refine z ?_
    refine yQ rfl (fun c8 => ?_) fun c8 => ?_
    ·skip
     have hk1 : u.1 = 4 ∧ 0 ≤ (findI (eqDefB u.2) d.2.2.2 0) := by simpa only [Bool.and_eq_true, decide_eq_true_eq, and_assoc] using c8
     have hlt2 : (findI (eqDefB u.2) d.2.2.2 0) < (d.2.2.2.length : Int) := by rcases findI_lt (p := eqDefB u.2) d.2.2.2 0 (by omega) with h | h <;> omega
     refine ok_regionD (oB := [2, 3, 4, 6]) (oK := [90031, 90900]) (by kernel_rfl) rfl rfl ?_
     refine zD 0 ?_
     refine zD 1 ?_
     refine zD 2 ?_
     refine d_take 3 rfl (by kernel_rfl) rfl rfl (pu_kslH (j := 90900) (n := (((d).2.2.2)).length) (hi := (findI (eqDefB (u).2) (d).2.2.2 0).toNat) (sz := 2) (z := findI (eqDefB (u).2) (d).2.2.2 0) hT rfl rfl rfl (ev_tmp rfl) rfl (ev_tmp rfl) rfl rfl (by omega) (by omega)) rfl rfl rfl rfl ?_
     refine zD 4 ?_
     refine zD 5 ?_
     refine zD 6 ?_
     refine zD 7 ?_
     refine d_take 8 rfl (by kernel_rfl) rfl rfl (pu_kslL (j := 90900) (n := (((d).2.2.2)).length) (lo := ((findI (eqDefB (u).2) (d).2.2.2 0) + (1)).toNat) (sz := 2) (z := (findI (eqDefB (u).2) (d).2.2.2 0) + (1)) hT rfl rfl rfl (ev_tmp rfl) rfl (ev_tmp rfl) rfl rfl (by omega) (by omega)) rfl rfl rfl rfl ?_
     refine d_chain [9, 10, 11] rfl rfl (by kernel_rfl) ?_
     refine o_appKK (k := 90900) (m := m) (cs := (d.2.2.2.eraseIdx (findI (eqDefB u.2) d.2.2.2 0).toNat).flatMap eDef ++ List.replicate 2 DV.hole) hT rfl rfl rfl rfl rfl rfl (ev_tmp rfl) (ev_tmp rfl) rfl rfl rfl rfl (by omega) (by first | omega | (dsimp only [kcOf, KC.old]; omega)) (by first | omega | (dsimp only [kcOf, KC.old]; omega)) (er_app (sz := 2) (fun _ => rfl) hk1.2 rfl hlt2) ?_
     simp only [killT, killB, SV.kill, CV.kill, kk, Nat.reduceBEq]
     refine ops_weak (weak_cut (s := 117) (k := 90900) (m := m) (sz := 2) (cs := (d.2.2.2.eraseIdx (findI (eqDefB u.2) d.2.2.2 0).toNat).flatMap eDef) rfl rfl rfl rfl (by first | omega | (dsimp only [kcOf, KC.old]; omega) | (show m ≤ d.2.2.2.length; omega)) (er_cut hm (sz := 2) (fun _ => rfl) hk1.2 hlt2)) ?_
     simp only [killT, killB, SV.kill, CV.kill, kk, Nat.reduceBEq]
     iterate 2 refine z ?_
     refine ops_nil ?_
     iterate 2 refine z ?_
     refine ok_seq ?_
     refine ok_seq ?_
     refine ok_weak (weak_eq (k := 90900) (c' := kcOf false (defsD (d.2.2.2.eraseIdx (findI (eqDefB u.2) d.2.2.2 0).toNat))) rfl (congrArg (fun n => KC.mk false 60 2 n ((d.2.2.2.eraseIdx (findI (eqDefB u.2) d.2.2.2 0).toNat).flatMap eDef)) (hm.trans (er_len hk1.2 hlt2))) rfl) ?_
     refine ok_region ?_
     refine z ?_
     refine zC Tryz.call26 ?_ (hf := ok_spec_IsDatabase (x := d))
     iterate 3 refine z ?_
     refine o_callG (gd_bool rfl rfl rfl rfl rfl) rfl rfl Tryz.call26 (ok_spec_IsDatabase (x := (d.1, d.2.1, d.2.2.1, (d.2.2.2.eraseIdx (findI (eqDefB u.2) d.2.2.2 0).toNat)))) (fun hg => (as_cons (ev_opt rfl hg) (ag_agg (ag_cons ac_dv (ag_cons ac_dv (ag_cons (ac_key' rfl rfl) (ag_cons (ac_key' rfl rfl) ag_nil))))) as_nil)) rfl rfl ?_
     iterate 3 refine z ?_
     refine yQ rfl (fun c9 => ?_) fun c9 => ?_
     ·skip
      refine ok_seq ?_
      refine ok_weak (σ' := ⟨[(2, .box 2 0), (3, .box 3 0), (4, .box 4 0), (5, .one (.dv [] (.bool (false))))], [(2, 33, [(.dv [] (.str (d.1))), (.dv [] (.int .i64 (d.2.1))), (.dv [] (storesD (d.2.2.1))), (.dv [] (defsD (d.2.2.2)))]), (3, 37, [(.dv [] (.int .i64 (u.1))), (.dv [] (.str (u.2.1))), (.dv [] (.str (u.2.2)))]), (4, 33, [(.dv [] (.str (ByteArray.empty))), (.dv [] (.int .i64 (0))), .nil, .nil])], []⟩) (weak_sub ⟨rfl, rfl, rfl, rfl, trivial⟩ ⟨rfl, rfl, rfl, trivial⟩ trivial rfl) ?_
      refine ok_region ?_
      refine z ?_
      refine zK 90000 Tryz.call22 ?_ (hf := ok_spec_l8Copy (x := d) (by omega))
      iterate 3 refine z ?_
      rw [upA_out (o := (d.1, d.2.1, d.2.2.1, (d.2.2.2.eraseIdx (findI (eqDefB u.2) d.2.2.2 0).toNat))) (fun _ => by rw [upI_4 hk1.1 hk1.2]) c9]
      refine ok_weak (σ' := ⟨[(4, .box 4 0), (5, .one (.dv [] (.bool (false))))], [(4, 33, [(.dv [] (.str ((d).1))), (.dv [] (.int .i64 ((d).2.1))), (.key 90031), (.key 90900)])], [(90031, some (kcOf false (storesD (d.2.2.1)))), (90900, some (kcOf false (defsD (d.2.2.2))))]⟩) (weak_sub ⟨rfl, rfl, trivial⟩ ⟨rfl, trivial⟩ ⟨rfl, rfl, trivial⟩ rfl) ?_
      iterate 2 refine z ?_
      refine fin2 (res_cell hT rfl rfl rfl rfl) (res_tmp rfl) rfl rfl ?_
      first | exact ⟨rfl, rfl⟩ | skip
     ·skip
      iterate 7 refine z ?_
      rw [upA_yes (o := (d.1, d.2.1, d.2.2.1, (d.2.2.2.eraseIdx (findI (eqDefB u.2) d.2.2.2 0).toNat))) (fun _ => by rw [upI_4 hk1.1 hk1.2]) (by rw [upI_4 hk1.1 hk1.2]; exact decide_eq_true hk1.2) c9]
      refine ok_weak (σ' := ⟨[(4, .box 4 0), (5, .one (.dv [] (.bool (true))))], [(4, 33, [(.dv [] (.str ((d).1))), (.dv [] (.int .i64 ((d).2.1))), (.key 90031), (.key 90900)])], [(90031, some (kcOf false (storesD (d.2.2.1)))), (90900, some (kcOf false (defsD ((d.2.2.2.eraseIdx (findI (eqDefB u.2) d.2.2.2 0).toNat)))))]⟩) (weak_sub ⟨rfl, rfl, trivial⟩ ⟨rfl, trivial⟩ ⟨rfl, rfl, trivial⟩ rfl) ?_
      refine z ?_
      refine fin2 (res_cell hT rfl rfl rfl rfl) (res_tmp rfl) rfl rfl ?_
      first | exact ⟨rfl, rfl⟩ | skip
    ·skip
     have hn8 : ¬ (u.1 = 4 ∧ 0 ≤ (findI (eqDefB u.2) d.2.2.2 0)) := fun h => by
      have h8 := c8
      rw [show (decide (u.1 = 4) && decide (0 ≤ (findI (eqDefB u.2) d.2.2.2 0))) = true by simp only [Bool.and_eq_true, decide_eq_true_eq, and_assoc]; exact h] at h8
      cases h8
     iterate 5 refine z ?_
     rw [upA_def hn1 hn4 hn6 hn8]
     refine ok_weak (σ' := ⟨[(4, .box 4 0), (5, .one (.dv [] (.bool (false))))], [(4, 33, [(.dv [] (.str ((d).1))), (.dv [] (.int .i64 ((d).2.1))), (.key 90031), (.key 90900)])], [(90031, some (kcOf false (storesD (d.2.2.1)))), (90900, some (kcOf false (defsD (d.2.2.2))))]⟩) (weak_sub ⟨rfl, rfl, trivial⟩ ⟨rfl, trivial⟩ ⟨rfl, rfl, trivial⟩ rfl) ?_
     iterate 3 refine z ?_
     refine fin2 (res_cell hT rfl rfl rfl rfl) (res_tmp rfl) rfl rfl ?_
     first | exact ⟨rfl, rfl⟩ | skip
end Go.Proofs.YtdjlikknmbjjgaaGreat

namespace Go.Proofs.YtdjlikknmbjjgaaGreat
open Go.RowKit
open Go.Proofs
set_option linter.unusedVariables false
set_option linter.unusedSimpArgs false

theorem upA_w (d : DbT) (u : UpgT) : wDatabase (upA d u).1 ≤ wDatabase d ∨ wDatabase (upA d u).1 ≤ 5000000 := by
 unfold upA
 split
 ·exact .inl (Nat.le_refl _)
 ·rename_i h
  simp only [Bool.or_eq_true, Bool.not_eq_true', not_or, Bool.not_eq_false] at h
  exact .inr (isDb_w h.2)

end Go.Proofs.YtdjlikknmbjjgaaGreat

namespace Go.Proofs.YtdjlikknmbjjgaaGreat
open Go.RowKit
open Go.Proofs
set_option linter.unusedVariables false
set_option linter.unusedSimpArgs false

def goUp : DbT → List UpgT → Option DbT
 | c, [] => some c
 | c, u :: us => if (upA c u).2 = true then goUp (upA c u).1 us else none
def upTo (d : DbT) (v : Int) (l : List UpgT) : DbT × Bool := match goUp d l with
 | none => (d, false)
 | some c => if (decide (v ≤ d.2.1) || (!isDb d || !isDb (c.1, v, c.2.2.1, c.2.2.2))) = true then (d, false) else ((c.1, v, c.2.2.1, c.2.2.2), true)
section
variable {d c : DbT} {v : Int} {l : List UpgT} {n : Nat}
theorem goUp_step (h : n < l.length) : goUp c (l.drop n) = if (upA c (l.getD (n : Int).toNat default)).2 = true then goUp (upA c (l.getD (n : Int).toNat default)).1 (l.drop (n + 1)) else none := by
 have e : l.drop n = l.getD (n : Int).toNat default :: l.drop (n + 1) := by rw [List.drop_eq_getElem_cons h]; simp [List.getD, List.getElem?_eq_getElem h]
 rw [e, goUp]
theorem goUp_go (h : n < l.length) (h2 : (!(upA c (l.getD (n : Int).toNat default)).2) = false) : goUp c (l.drop n) = goUp (upA c (l.getD (n : Int).toNat default)).1 (l.drop (n + 1)) := by
 rw [goUp_step h, if_pos (by simpa using h2)]
theorem upTo_no (hi : goUp d l = goUp c (l.drop n)) (h : n < l.length) (h2 : (!(upA c (l.getD (n : Int).toNat default)).2) = true) : upTo d v l = (d, false) := by
 have e : goUp d l = none := by rw [hi, goUp_step h, if_neg (by simpa using h2)]
 rw [upTo, e]
theorem upTo_end (hi : goUp d l = goUp c (l.drop n)) (h : l.length ≤ n) : upTo d v l = if (decide (v ≤ d.2.1) || (!isDb d || !isDb (c.1, v, c.2.2.1, c.2.2.2))) = true then (d, false) else ((c.1, v, c.2.2.1, c.2.2.2), true) := by
 have e : goUp d l = some c := by rw [hi, List.drop_of_length_le h]; rfl
 rw [upTo, e]
end
theorem upTo_w (d : DbT) (v : Int) (l : List UpgT) : wDatabase (upTo d v l).1 ≤ wDatabase d ∨ wDatabase (upTo d v l).1 ≤ 5000000 := by
 unfold upTo
 split
 ·exact .inl (Nat.le_refl _)
 ·split
  ·exact .inl (Nat.le_refl _)
  ·rename_i h
   simp only [Bool.or_eq_true, Bool.not_eq_true', not_or, Bool.not_eq_false] at h
   exact .inr (isDb_w h.2.2)

theorem ok_impl_UpgradeTo {d : DbT} {v : Int} {l : List UpgT} (hb : wDatabase d ≤ 549755813888) : KFn Tryz.prog 17 [.agg [(.dv [] (.str (d.1))), (.dv [] (.int .i64 (d.2.1))), (.dv [] (storesD (d.2.2.1))), (.dv [] (defsD (d.2.2.2)))], .one (.dv [] (.int .i64 (v))), .one (.dv [] (upsD (l)))] (.tup [(true, [(.dv [] (.str ((upTo d v l).1.1))), (.dv [] (.int .i64 ((upTo d v l).1.2.1))), (.key 90031), (.key 90900)]), (false, [(.dv [] (.bool ((upTo d v l).2)))])]) [(90031, some (kcOf false (storesD ((upTo d v l).1.2.2.1)))), (90900, some (kcOf false (defsD ((upTo d v l).1.2.2.2))))] := by
 refine ⟨fn_intro Tryz.func17 rfl Tryz.ntmps17 Tryz.results17 rfl (fun C => ?_)⟩
 refine yF 0 0 rfl rfl fun f0_0 => ?_
 refine yF 0 1 rfl rfl fun f0_1 => ?_
 refine yF 0 2 rfl rfl fun f0_2 => ?_
 refine yF 0 3 rfl rfl fun f0_3 => ?_
 refine ok_fact (x := .tmp 1) (ev_tmp rfl) fun f1 => ?_
 refine ok_fact (x := .tmp 2) (ev_tmp rfl) fun f2 => ?_
 iterate 7 refine z ?_
 refine zK 90000 Tryz.call31 ?_ (hf := ok_impl_copyDatabase (x := d) (by omega))
 iterate 10 refine z ?_
 refine ok_loop (ι := Nat × DbT) (fun zz => ⟨[(1, .one (.dv [] (.int .i64 (v)))), (3, .box 3 0), (6, .box 6 0), (8, .box 8 0), (15, .one (.dv [] (upsD (l)))), (16, .one (.dv [] (.int .i64 ((((l)).length : Int))))), (17, .one (.dv [] (.int .i64 ((zz.1 : Int)))))], [(3, 33, [(.dv [] (.str (d.1))), (.dv [] (.int .i64 (d.2.1))), (.dv [] (storesD (d.2.2.1))), (.dv [] (defsD (d.2.2.2)))]), (6, 33, [(.dv [] (.str (ByteArray.empty))), (.dv [] (.int .i64 (0))), .nil, .nil]), (8, 33, [(.dv [] (.str (zz.2.1))), (.dv [] (.int .i64 (zz.2.2.1))), (.key 90031), (.key 90900)])], [(90031, some (kcOf false (.sl 57 3 (zz.2.2.2.1.length) (zz.2.2.2.1.flatMap eStore)))), (90900, some (kcOf false (.sl 60 2 (zz.2.2.2.2.length) (zz.2.2.2.2.flatMap eDef))))]⟩) (fun zz => zz.1 ≤ l.length ∧ goUp d l = goUp zz.2 (l.drop zz.1) ∧ (wDatabase zz.2 ≤ wDatabase d ∨ wDatabase zz.2 ≤ 5000000)) (fun zz => l.length - zz.1) ((0, d)) ?_ (weak_sub ⟨rfl, rfl, rfl, rfl, rfl, rfl, rfl, trivial⟩ ⟨rfl, rfl, rfl, trivial⟩ ⟨rfl, rfl, trivial⟩ rfl) (fun zz hx => ?_)
 ·exact ⟨Nat.zero_le _, by simp, .inl (Nat.le_refl _)⟩
 obtain ⟨n, c⟩ := zz
 replace hx : n ≤ l.length ∧ goUp d l = goUp c (l.drop n) ∧ (wDatabase c ≤ wDatabase d ∨ wDatabase c ≤ 5000000) := hx
 obtain ⟨hn, hi, hw⟩ := hx
 show Ok _ _ _ _ _ (⟨[(1, .one (.dv [] (.int .i64 (v)))), (3, .box 3 0), (6, .box 6 0), (8, .box 8 0), (15, .one (.dv [] (upsD (l)))), (16, .one (.dv [] (.int .i64 ((((l)).length : Int))))), (17, .one (.dv [] (.int .i64 ((n : Int)))))], [(3, 33, [(.dv [] (.str (d.1))), (.dv [] (.int .i64 (d.2.1))), (.dv [] (storesD (d.2.2.1))), (.dv [] (defsD (d.2.2.2)))]), (6, 33, [(.dv [] (.str (ByteArray.empty))), (.dv [] (.int .i64 (0))), .nil, .nil]), (8, 33, [(.dv [] (.str (c.1))), (.dv [] (.int .i64 (c.2.1))), (.key 90031), (.key 90900)])], [(90031, some (kcOf false (.sl 57 3 (c.2.2.1.length) (c.2.2.1.flatMap eStore)))), (90900, some (kcOf false (.sl 60 2 (c.2.2.2.length) (c.2.2.2.flatMap eDef))))]⟩ : St)
 iterate 3 refine z ?_
 refine ok_seq ?_
 refine yQ rfl (fun c1 => ?_) fun c1 => ?_
 ·skip
  have d1 := of_decide_eq_true c1
  have hn2 : n < l.length := by omega
  have haw := upA_w c (l.getD (n : Int).toNat default)
  iterate 13 refine z ?_
  refine o_callK 1000 rfl rfl rfl Tryz.call10 (ok_impl_ApplyUpgrade (d := c) (u := (l.getD (n : Int).toNat default)) (by omega)) (as_cons (ev_tmp rfl) (ag_agg (ag_cons ac_dv (ag_cons ac_dv (ag_cons (ac_key' rfl rfl) (ag_cons (ac_key' rfl rfl) ag_nil))))) (as_cons (ev_tmp rfl) (ag_agg (ag_cons ac_dv (ag_cons ac_dv (ag_cons ac_dv ag_nil)))) as_nil)) rfl rfl rfl ?_
  iterate 12 refine z ?_
  refine yQ rfl (fun c2 => ?_) fun c2 => ?_
  ·skip
   refine ok_seq ?_
   refine ok_weak (σ' := ⟨[(3, .box 3 0), (6, .box 6 0)], [(3, 33, [(.dv [] (.str (d.1))), (.dv [] (.int .i64 (d.2.1))), (.dv [] (storesD (d.2.2.1))), (.dv [] (defsD (d.2.2.2)))]), (6, 33, [(.dv [] (.str (ByteArray.empty))), (.dv [] (.int .i64 (0))), .nil, .nil])], []⟩) (weak_sub ⟨rfl, rfl, trivial⟩ ⟨rfl, rfl, trivial⟩ trivial rfl) ?_
   refine ok_region ?_
   refine z ?_
   refine zK 90000 Tryz.call31 ?_ (hf := ok_impl_copyDatabase (x := d) (by omega))
   iterate 3 refine z ?_
   rw [upTo_no hi hn2 c2]
   refine ok_weak (σ' := ⟨[(6, .box 6 0), (7, .one (.dv [] (.bool (false))))], [(6, 33, [(.dv [] (.str ((d).1))), (.dv [] (.int .i64 ((d).2.1))), (.key 90031), (.key 90900)])], [(90031, some (kcOf false (storesD (d.2.2.1)))), (90900, some (kcOf false (defsD (d.2.2.2))))]⟩) (weak_sub ⟨rfl, rfl, trivial⟩ ⟨rfl, trivial⟩ ⟨rfl, rfl, trivial⟩ rfl) ?_
   iterate 7 refine z ?_
   refine fin2 (res_cell hT rfl rfl rfl rfl) (res_tmp rfl) rfl rfl ?_
   first | exact ⟨rfl, rfl⟩ | skip
  ·skip
   iterate 2 refine z ?_
   refine ok_region ?_
   iterate 2 refine z ?_
   refine ops_nil ?_
   iterate 2 refine z ?_
   refine ok_weak (weak_swapB (b := 8) (i := 2) (k := 91031) (k' := 90031) rfl rfl rfl rfl (by simp) rfl rfl) ?_
   simp only [killT, killB, SV.kill, CV.kill, kk, Nat.reduceBEq]
   refine ok_weak (weak_swapB (b := 8) (i := 3) (k := 91900) (k' := 90900) rfl rfl rfl rfl (by simp) rfl rfl) ?_
   simp only [killT, killB, SV.kill, CV.kill, kk, Nat.reduceBEq]
   refine ok_region ?_
   iterate 3 refine z ?_
   refine ⟨(n + 1, (upA c (l.getD (n : Int).toNat default)).1), ?_, ?_, weak_sub ⟨rfl, rfl, rfl, rfl, rfl, rfl, rfl, trivial⟩ ⟨rfl, rfl, rfl, trivial⟩ ⟨rfl, rfl, trivial⟩ rfl⟩
   ·exact ⟨hn2, by show goUp d l = _; rw [hi]; exact goUp_go hn2 c2, by dsimp only; omega⟩
   ·dsimp only; omega
 ·skip
  have d1 := of_decide_eq_false c1
  iterate 18 refine z ?_
  refine o_callG (gd_bool rfl rfl rfl rfl rfl) rfl rfl Tryz.call30 (ok_impl_IsDatabase (x := d)) (fun hg => (as_cons (ev_opt rfl hg) (ag_agg (ag_cons ac_dv (ag_cons ac_dv (ag_cons ac_dv (ag_cons ac_dv ag_nil))))) as_nil)) rfl rfl ?_
  iterate 4 refine z ?_
  refine o_callG (gd_bool rfl rfl rfl rfl rfl) rfl rfl Tryz.call30 (ok_impl_IsDatabase (x := (c.1, v, c.2.2.1, c.2.2.2))) (fun hg => (as_cons (ev_opt rfl hg) (ag_agg (ag_cons ac_dv (ag_cons ac_dv (ag_cons (ac_key' rfl rfl) (ag_cons (ac_key' rfl rfl) ag_nil))))) as_nil)) rfl rfl ?_
  iterate 3 refine z ?_
  refine yQ rfl (fun c3 => ?_) fun c3 => ?_
  ·skip
   refine ok_seq ?_
   refine ok_weak (σ' := ⟨[(3, .box 3 0), (6, .box 6 0)], [(3, 33, [(.dv [] (.str (d.1))), (.dv [] (.int .i64 (d.2.1))), (.dv [] (storesD (d.2.2.1))), (.dv [] (defsD (d.2.2.2)))]), (6, 33, [(.dv [] (.str (ByteArray.empty))), (.dv [] (.int .i64 (0))), .nil, .nil])], []⟩) (weak_sub ⟨rfl, rfl, trivial⟩ ⟨rfl, rfl, trivial⟩ trivial rfl) ?_
   refine ok_region ?_
   refine z ?_
   refine zK 90000 Tryz.call31 ?_ (hf := ok_impl_copyDatabase (x := d) (by omega))
   iterate 3 refine z ?_
   rw [upTo_end hi (by omega), if_pos (by simpa only [Bool.or_assoc] using c3)]
   refine ok_weak (σ' := ⟨[(6, .box 6 0), (7, .one (.dv [] (.bool (false))))], [(6, 33, [(.dv [] (.str ((d).1))), (.dv [] (.int .i64 ((d).2.1))), (.key 90031), (.key 90900)])], [(90031, some (kcOf false (storesD (d.2.2.1)))), (90900, some (kcOf false (defsD (d.2.2.2))))]⟩) (weak_sub ⟨rfl, rfl, trivial⟩ ⟨rfl, trivial⟩ ⟨rfl, rfl, trivial⟩ rfl) ?_
   iterate 2 refine z ?_
   refine fin2 (res_cell hT rfl rfl rfl rfl) (res_tmp rfl) rfl rfl ?_
   first | exact ⟨rfl, rfl⟩ | skip
  ·skip
   iterate 7 refine z ?_
   rw [upTo_end hi (by omega), if_neg (by have h8 := c3; simp only [Bool.or_assoc] at h8 ⊢; rw [h8]; simp)]
   refine ok_weak (σ' := ⟨[(6, .box 6 0), (7, .one (.dv [] (.bool (true))))], [(6, 33, [(.dv [] (.str (c.1))), (.dv [] (.int .i64 (v))), (.key 90031), (.key 90900)])], [(90031, some (kcOf false (storesD (c.2.2.1)))), (90900, some (kcOf false (defsD (c.2.2.2))))]⟩) (weak_sub ⟨rfl, rfl, trivial⟩ ⟨rfl, trivial⟩ ⟨rfl, rfl, trivial⟩ rfl) ?_
   refine z ?_
   refine fin2 (res_cell hT rfl rfl rfl rfl) (res_tmp rfl) rfl rfl ?_
   first | exact ⟨rfl, rfl⟩ | skip
theorem ok_spec_UpgradeTo {d : DbT} {v : Int} {l : List UpgT} (hb : wDatabase d ≤ 549755813888) : KFn Tryz.prog 15 [.agg [(.dv [] (.str (d.1))), (.dv [] (.int .i64 (d.2.1))), (.dv [] (storesD (d.2.2.1))), (.dv [] (defsD (d.2.2.2)))], .one (.dv [] (.int .i64 (v))), .one (.dv [] (upsD (l)))] (.tup [(true, [(.dv [] (.str ((upTo d v l).1.1))), (.dv [] (.int .i64 ((upTo d v l).1.2.1))), (.key 90031), (.key 90900)]), (false, [(.dv [] (.bool ((upTo d v l).2)))])]) [(90031, some (kcOf false (storesD ((upTo d v l).1.2.2.1)))), (90900, some (kcOf false (defsD ((upTo d v l).1.2.2.2))))] := by
 refine ⟨fn_intro Tryz.func15 rfl Tryz.ntmps15 Tryz.results15 rfl (fun C => ?_)⟩
 refine yF 0 0 rfl rfl fun f0_0 => ?_
 refine yF 0 1 rfl rfl fun f0_1 => ?_
 refine yF 0 2 rfl rfl fun f0_2 => ?_
 refine yF 0 3 rfl rfl fun f0_3 => ?_
 refine ok_fact (x := .tmp 1) (ev_tmp rfl) fun f1 => ?_
 refine ok_fact (x := .tmp 2) (ev_tmp rfl) fun f2 => ?_
 iterate 7 refine z ?_
 refine zK 90000 Tryz.call22 ?_ (hf := ok_spec_l8Copy (x := d) (by omega))
 iterate 8 refine z ?_
 refine ok_loop (ι := Nat × DbT) (fun zz => ⟨[(1, .one (.dv [] (.int .i64 (v)))), (2, .one (.dv [] (upsD (l)))), (3, .box 3 0), (6, .box 6 0), (8, .box 8 0), (9, .one (.dv [] (.int .i64 ((zz.1 : Int)))))], [(3, 33, [(.dv [] (.str (d.1))), (.dv [] (.int .i64 (d.2.1))), (.dv [] (storesD (d.2.2.1))), (.dv [] (defsD (d.2.2.2)))]), (6, 33, [(.dv [] (.str (ByteArray.empty))), (.dv [] (.int .i64 (0))), .nil, .nil]), (8, 33, [(.dv [] (.str (zz.2.1))), (.dv [] (.int .i64 (zz.2.2.1))), (.key 90031), (.key 90900)])], [(90031, some (kcOf false (.sl 57 3 (zz.2.2.2.1.length) (zz.2.2.2.1.flatMap eStore)))), (90900, some (kcOf false (.sl 60 2 (zz.2.2.2.2.length) (zz.2.2.2.2.flatMap eDef))))]⟩) (fun zz => zz.1 ≤ l.length ∧ goUp d l = goUp zz.2 (l.drop zz.1) ∧ (wDatabase zz.2 ≤ wDatabase d ∨ wDatabase zz.2 ≤ 5000000)) (fun zz => l.length - zz.1) ((0, d)) ?_ (weak_sub ⟨rfl, rfl, rfl, rfl, rfl, rfl, trivial⟩ ⟨rfl, rfl, rfl, trivial⟩ ⟨rfl, rfl, trivial⟩ rfl) (fun zz hx => ?_)
 ·exact ⟨Nat.zero_le _, by simp, .inl (Nat.le_refl _)⟩
 obtain ⟨n, c⟩ := zz
 replace hx : n ≤ l.length ∧ goUp d l = goUp c (l.drop n) ∧ (wDatabase c ≤ wDatabase d ∨ wDatabase c ≤ 5000000) := hx
 obtain ⟨hn, hi, hw⟩ := hx
 show Ok _ _ _ _ _ (⟨[(1, .one (.dv [] (.int .i64 (v)))), (2, .one (.dv [] (upsD (l)))), (3, .box 3 0), (6, .box 6 0), (8, .box 8 0), (9, .one (.dv [] (.int .i64 ((n : Int)))))], [(3, 33, [(.dv [] (.str (d.1))), (.dv [] (.int .i64 (d.2.1))), (.dv [] (storesD (d.2.2.1))), (.dv [] (defsD (d.2.2.2)))]), (6, 33, [(.dv [] (.str (ByteArray.empty))), (.dv [] (.int .i64 (0))), .nil, .nil]), (8, 33, [(.dv [] (.str (c.1))), (.dv [] (.int .i64 (c.2.1))), (.key 90031), (.key 90900)])], [(90031, some (kcOf false (.sl 57 3 (c.2.2.1.length) (c.2.2.1.flatMap eStore)))), (90900, some (kcOf false (.sl 60 2 (c.2.2.2.length) (c.2.2.2.flatMap eDef))))]⟩ : St)
 iterate 7 refine z ?_
 refine yQ rfl (fun c1 => ?_) fun c1 => ?_
 ·skip
  have d1 := of_decide_eq_true c1
  have hn2 : n < l.length := by omega
  have haw := upA_w c (l.getD (n : Int).toNat default)
  iterate 4 refine z ?_
  refine ok_cutS (σ' := ⟨[(1, .one (.dv [] (.int .i64 (v)))), (2, .one (.dv [] (upsD (l)))), (3, .box 3 0), (6, .box 6 0), (8, .box 8 0), (9, .one (.dv [] (.int .i64 ((n : Int))))), (10, .box 10 0), (11, .one (.dv [] (.bool ((upA (c) ((l.getD (n : Int).toNat default))).2))))], [(3, 33, [(.dv [] (.str (d.1))), (.dv [] (.int .i64 (d.2.1))), (.dv [] (storesD (d.2.2.1))), (.dv [] (defsD (d.2.2.2)))]), (6, 33, [(.dv [] (.str (ByteArray.empty))), (.dv [] (.int .i64 (0))), .nil, .nil]), (8, 33, [(.dv [] (.str (c.1))), (.dv [] (.int .i64 (c.2.1))), (.key 90031), (.key 90900)]), (10, 33, [(.dv [] (.str ((upA (c) ((l.getD (n : Int).toNat default))).1.1))), (.dv [] (.int .i64 ((upA (c) ((l.getD (n : Int).toNat default))).1.2.1))), (.key 91031), (.key 91900)])], [(90031, some (kcOf false (.sl 57 3 (c.2.2.1.length) (c.2.2.1.flatMap eStore)))), (90900, some (kcOf false (.sl 60 2 (c.2.2.2.length) (c.2.2.2.flatMap eDef)))), (91031, some (kcOf false (storesD ((upA (c) ((l.getD (n : Int).toNat default))).1.2.2.1)))), (91900, some (kcOf false (defsD ((upA (c) ((l.getD (n : Int).toNat default))).1.2.2.2))))]⟩) ?_ ?_
  ·skip
   refine ok_regionD (oB := [3, 6, 8]) (oK := [90031, 90900]) (by kernel_rfl) rfl rfl ?_
   refine zD 0 ?_
   refine zD 1 ?_
   refine zD 2 ?_
   refine zD 3 ?_
   refine zD 4 ?_
   refine d_vars (A := [(9, 10, 33, _)]) hT ⟨⟨_, _, rfl⟩, rfl, trivial⟩ ?_
   refine a_callK 1000 5 rfl (by kernel_rfl) rfl rfl rfl (vok hT ⟨⟨_, _, rfl⟩, rfl, trivial⟩ (by kernel_rfl) (by kernel_rfl)) (vok hT ⟨⟨_, _, rfl⟩, rfl, trivial⟩ (by kernel_rfl) (by kernel_rfl)) rfl Tryz.call7 (ok_spec_ApplyUpgrade (d := c) (u := (l.getD (n : Int).toNat default)) (by omega)) (as_cons (ev_tmp rfl) (ag_agg (ag_cons ac_dv (ag_cons ac_dv (ag_cons (ac_key' rfl rfl) (ag_cons (ac_key' rfl rfl) ag_nil))))) (as_cons (ev_tmp rfl) (ag_agg (ag_cons ac_dv (ag_cons ac_dv (ag_cons ac_dv ag_nil)))) as_nil)) rfl rfl rfl rfl rfl ?_
   refine a_take 6 rfl (by kernel_rfl) rfl rfl rfl (vok hT ⟨⟨_, _, rfl⟩, rfl, trivial⟩ (by kernel_rfl) (by kernel_rfl)) (vok hT ⟨⟨_, _, rfl⟩, rfl, trivial⟩ (by kernel_rfl) (by kernel_rfl)) (pu_move (.inl rfl) (ev_tmp rfl)) rfl rfl rfl rfl ?_
   refine a_takeX 7 rfl (by kernel_rfl) rfl rfl rfl rfl (vok hT ⟨⟨_, _, rfl⟩, rfl, trivial⟩ (by kernel_rfl) (by kernel_rfl)) (vok hT ⟨⟨_, _, rfl⟩, rfl, trivial⟩ (by kernel_rfl) (by kernel_rfl)) (pu_extractA rfl (ev_tmp rfl) rfl) rfl rfl ?_
   refine a_takeX 8 rfl (by kernel_rfl) rfl rfl rfl rfl (vok hT ⟨⟨_, _, rfl⟩, rfl, trivial⟩ (by kernel_rfl) (by kernel_rfl)) (vok hT ⟨⟨_, _, rfl⟩, rfl, trivial⟩ (by kernel_rfl) (by kernel_rfl)) (pu_extract1 rfl (ev_tmp rfl) rfl) rfl rfl ?_
   refine a_exit1 (vok hT ⟨⟨_, _, rfl⟩, rfl, trivial⟩ (by kernel_rfl) (by kernel_rfl)) rfl rfl (by kernel_rfl) ?_
   dsimp only [addT, addB]
   refine d_chain [10, 11] rfl rfl (by kernel_rfl) ?_
   iterate 2 refine z ?_
   refine ops_nil ?_
   exact then_n (weak_sub ⟨rfl, rfl, rfl, rfl, rfl, rfl, rfl, rfl, trivial⟩ ⟨rfl, rfl, rfl, rfl, trivial⟩ ⟨rfl, rfl, rfl, rfl, trivial⟩ rfl)
  iterate 5 refine z ?_
  refine yQ rfl (fun c2 => ?_) fun c2 => ?_
  ·skip
   refine ok_seq ?_
   refine ok_weak (σ' := ⟨[(3, .box 3 0), (6, .box 6 0)], [(3, 33, [(.dv [] (.str (d.1))), (.dv [] (.int .i64 (d.2.1))), (.dv [] (storesD (d.2.2.1))), (.dv [] (defsD (d.2.2.2)))]), (6, 33, [(.dv [] (.str (ByteArray.empty))), (.dv [] (.int .i64 (0))), .nil, .nil])], []⟩) (weak_sub ⟨rfl, rfl, trivial⟩ ⟨rfl, rfl, trivial⟩ trivial rfl) ?_
   refine ok_region ?_
   refine z ?_
   refine zK 90000 Tryz.call22 ?_ (hf := ok_spec_l8Copy (x := d) (by omega))
   iterate 3 refine z ?_
   rw [upTo_no hi hn2 c2]
   refine ok_weak (σ' := ⟨[(6, .box 6 0), (7, .one (.dv [] (.bool (false))))], [(6, 33, [(.dv [] (.str ((d).1))), (.dv [] (.int .i64 ((d).2.1))), (.key 90031), (.key 90900)])], [(90031, some (kcOf false (storesD (d.2.2.1)))), (90900, some (kcOf false (defsD (d.2.2.2))))]⟩) (weak_sub ⟨rfl, rfl, trivial⟩ ⟨rfl, trivial⟩ ⟨rfl, rfl, trivial⟩ rfl) ?_
   iterate 7 refine z ?_
   refine fin2 (res_cell hT rfl rfl rfl rfl) (res_tmp rfl) rfl rfl ?_
   first | exact ⟨rfl, rfl⟩ | skip
  ·skip
   iterate 2 refine z ?_
   refine ok_region ?_
   iterate 2 refine z ?_
   refine ops_nil ?_
   iterate 2 refine z ?_
   refine ok_weak (weak_swapB (b := 8) (i := 2) (k := 91031) (k' := 90031) rfl rfl rfl rfl (by simp) rfl rfl) ?_
   simp only [killT, killB, SV.kill, CV.kill, kk, Nat.reduceBEq]
   refine ok_weak (weak_swapB (b := 8) (i := 3) (k := 91900) (k' := 90900) rfl rfl rfl rfl (by simp) rfl rfl) ?_
   simp only [killT, killB, SV.kill, CV.kill, kk, Nat.reduceBEq]
   refine ok_region ?_
   iterate 4 refine z ?_
   refine ⟨(n + 1, (upA c (l.getD (n : Int).toNat default)).1), ?_, ?_, weak_sub ⟨rfl, rfl, rfl, rfl, rfl, rfl, trivial⟩ ⟨rfl, rfl, rfl, trivial⟩ ⟨rfl, rfl, trivial⟩ rfl⟩
   ·exact ⟨hn2, by show goUp d l = _; rw [hi]; exact goUp_go hn2 c2, by dsimp only; omega⟩
   ·dsimp only; omega
 ·skip
  have d1 := of_decide_eq_false c1
  iterate 18 refine z ?_
  refine o_callG (gd_bool rfl rfl rfl rfl rfl) rfl rfl Tryz.call26 (ok_spec_IsDatabase (x := d)) (fun hg => (as_cons (ev_opt rfl hg) (ag_agg (ag_cons ac_dv (ag_cons ac_dv (ag_cons ac_dv (ag_cons ac_dv ag_nil))))) as_nil)) rfl rfl ?_
  iterate 4 refine z ?_
  refine o_callG (gd_bool rfl rfl rfl rfl rfl) rfl rfl Tryz.call26 (ok_spec_IsDatabase (x := (c.1, v, c.2.2.1, c.2.2.2))) (fun hg => (as_cons (ev_opt rfl hg) (ag_agg (ag_cons ac_dv (ag_cons ac_dv (ag_cons (ac_key' rfl rfl) (ag_cons (ac_key' rfl rfl) ag_nil))))) as_nil)) rfl rfl ?_
  iterate 3 refine z ?_
  refine yQ rfl (fun c3 => ?_) fun c3 => ?_
  ·skip
   refine ok_seq ?_
   refine ok_weak (σ' := ⟨[(3, .box 3 0), (6, .box 6 0)], [(3, 33, [(.dv [] (.str (d.1))), (.dv [] (.int .i64 (d.2.1))), (.dv [] (storesD (d.2.2.1))), (.dv [] (defsD (d.2.2.2)))]), (6, 33, [(.dv [] (.str (ByteArray.empty))), (.dv [] (.int .i64 (0))), .nil, .nil])], []⟩) (weak_sub ⟨rfl, rfl, trivial⟩ ⟨rfl, rfl, trivial⟩ trivial rfl) ?_
   refine ok_region ?_
   refine z ?_
   refine zK 90000 Tryz.call22 ?_ (hf := ok_spec_l8Copy (x := d) (by omega))
   iterate 3 refine z ?_
   rw [upTo_end hi (by omega), if_pos (by simpa only [Bool.or_assoc] using c3)]
   refine ok_weak (σ' := ⟨[(6, .box 6 0), (7, .one (.dv [] (.bool (false))))], [(6, 33, [(.dv [] (.str ((d).1))), (.dv [] (.int .i64 ((d).2.1))), (.key 90031), (.key 90900)])], [(90031, some (kcOf false (storesD (d.2.2.1)))), (90900, some (kcOf false (defsD (d.2.2.2))))]⟩) (weak_sub ⟨rfl, rfl, trivial⟩ ⟨rfl, trivial⟩ ⟨rfl, rfl, trivial⟩ rfl) ?_
   iterate 2 refine z ?_
   refine fin2 (res_cell hT rfl rfl rfl rfl) (res_tmp rfl) rfl rfl ?_
   first | exact ⟨rfl, rfl⟩ | skip
  ·skip
   iterate 7 refine z ?_
   rw [upTo_end hi (by omega), if_neg (by have h8 := c3; simp only [Bool.or_assoc] at h8 ⊢; rw [h8]; simp)]
   refine ok_weak (σ' := ⟨[(6, .box 6 0), (7, .one (.dv [] (.bool (true))))], [(6, 33, [(.dv [] (.str (c.1))), (.dv [] (.int .i64 (v))), (.key 90031), (.key 90900)])], [(90031, some (kcOf false (storesD (c.2.2.1)))), (90900, some (kcOf false (defsD (c.2.2.2))))]⟩) (weak_sub ⟨rfl, rfl, trivial⟩ ⟨rfl, trivial⟩ ⟨rfl, rfl, trivial⟩ rfl) ?_
   refine z ?_
   refine fin2 (res_cell hT rfl rfl rfl rfl) (res_tmp rfl) rfl rfl ?_
   first | exact ⟨rfl, rfl⟩ | skip
theorem ok_laws_FnExactUpgradeTo {x0 : DbT} {x1 : Int} {x2 : List (UpgT)}  : PFn Tryz.prog 4 [.agg [(.dv [] (.str (x0.1))), (.dv [] (.int .i64 (x0.2.1))), (.dv [] (storesD (x0.2.2.1))), (.dv [] (defsD (x0.2.2.2)))], .one (.dv [] (.int .i64 (x1))), .one (.dv [] (upsD (x2)))] (.one (.dv [] (.bool (true)))) := by
 refine ⟨fn_intro Tryz.func4 rfl Tryz.ntmps4 Tryz.results4 rfl (fun C => ?_)⟩
 have hrw := upTo_w x0 x1 x2
 have : wDatabase x0 = (x0.1).size + wList wStore (x0.2.2.1) + wList wIndexDef (x0.2.2.2) := rfl
 have : wList wStore (x0.2.2.1) = (x0.2.2.1).length + wSum wStore (x0.2.2.1) := rfl
 have : wList wIndexDef (x0.2.2.2) = (x0.2.2.2).length + wSum wIndexDef (x0.2.2.2) := rfl
 have : wList wUpgrade x2 = x2.length + wSum wUpgrade x2 := rfl
 have := wSum_bound cStore_le (x0.2.2.1)
 have := wSum_bound cIndexDef_le (x0.2.2.2)
 have := wSum_bound cUpgrade_le (x2)
 have : wDatabase (upTo x0 x1 x2).1 = ((upTo x0 x1 x2).1.1).size + wList wStore ((upTo x0 x1 x2).1.2.2.1) + wList wIndexDef ((upTo x0 x1 x2).1.2.2.2) := rfl
 have : wList wStore ((upTo x0 x1 x2).1.2.2.1) = ((upTo x0 x1 x2).1.2.2.1).length + wSum wStore ((upTo x0 x1 x2).1.2.2.1) := rfl
 have : wList wIndexDef ((upTo x0 x1 x2).1.2.2.2) = ((upTo x0 x1 x2).1.2.2.2).length + wSum wIndexDef ((upTo x0 x1 x2).1.2.2.2) := rfl
 have := wSum_bound cStore_le ((upTo x0 x1 x2).1.2.2.1)
 have := wSum_bound cIndexDef_le ((upTo x0 x1 x2).1.2.2.2)
 refine yF 0 0 rfl rfl fun f0_0 => ?_
 refine yF 0 1 rfl rfl fun f0_1 => ?_
 refine yF 0 2 rfl rfl fun f0_2 => ?_
 refine yF 0 3 rfl rfl fun f0_3 => ?_
 refine ok_fact (x := .tmp 1) (ev_tmp rfl) fun f1 => ?_
 refine ok_fact (x := .tmp 2) (ev_tmp rfl) fun f2 => ?_
 iterate 10 refine z ?_
 refine zC Tryz.call5 ?_ (hf := ok_laws_szDatabase (by omega) (by omega))
 iterate 7 refine z ?_
 refine yQ rfl (fun c1 => ?_) fun c1 => ?_
 ·skip
  have d1 := of_decide_eq_true c1
  first | have q1 := szR_n d1 | skip
  iterate 6 refine z ?_
  first | rfl | (exfalso; omega) | (exfalso; simp_all; done) | (exfalso; simp_all; omega)
 ·skip
  have d1 := of_decide_eq_false c1
  first | have q1 := szR_nn d1 | skip
  iterate 5 refine z ?_
  refine zC Tryz.call14 ?_ (hf := ok_laws_szUpgradeS (by omega) (by omega))
  iterate 7 refine z ?_
  refine yQ rfl (fun c2 => ?_) fun c2 => ?_
  ·skip
   have d2 := of_decide_eq_true c2
   first | have q2 := szR_n d2 | skip
   iterate 6 refine z ?_
   first | rfl | (exfalso; omega) | (exfalso; simp_all; done) | (exfalso; simp_all; omega)
  ·skip
   have d2 := of_decide_eq_false c2
   first | have q2 := szR_nn d2 | skip
   iterate 4 refine z ?_
   refine zK 31000 Tryz.call8 ?_ (hf := ok_laws_toDatabase (by first | omega | (simp only [wKey, wField, wRecord, wItem, wStore, wIndexDef, wDatabase, wOp, wTx, wTxQueue] at hb ⊢; omega) | (have hq := hw (by omega); omega)))
   iterate 2 refine z ?_
   refine zK 34000 Tryz.call16 ?_ (hf := ok_laws_toUpgradeS (by first | omega | (simp only [wKey, wField, wRecord, wItem, wStore, wIndexDef, wDatabase, wOp, wTx, wTxQueue] at hb ⊢; omega) | (have hq := hw (by omega); omega)))
   refine o_callK 35000 rfl rfl rfl Tryz.call15 (ok_spec_UpgradeTo (by omega)) (as_cons (ev_tmp rfl) (ag_agg (ag_cons ac_dv (ag_cons ac_dv (ag_cons (ac_key' rfl rfl) (ag_cons (ac_key' rfl rfl) ag_nil))))) (as_cons (ev_tmp rfl) (ag_one ac_dv) (as_cons (ev_tmp rfl) (ag_one (ac_key' rfl rfl)) as_nil))) rfl rfl rfl ?_
   iterate 9 refine z ?_
   refine zK 39000 Tryz.call8 ?_ (hf := ok_laws_toDatabase (by first | omega | (simp only [wKey, wField, wRecord, wItem, wStore, wIndexDef, wDatabase, wOp, wTx, wTxQueue] at hb ⊢; omega) | (have hq := hw (by omega); omega)))
   iterate 5 refine z ?_
   refine zK 41000 Tryz.call16 ?_ (hf := ok_laws_toUpgradeS (by first | omega | (simp only [wKey, wField, wRecord, wItem, wStore, wIndexDef, wDatabase, wOp, wTx, wTxQueue] at hb ⊢; omega) | (have hq := hw (by omega); omega)))
   iterate 6 refine z ?_
   refine o_callK 46000 rfl rfl rfl Tryz.call17 (ok_impl_UpgradeTo (by omega)) (as_cons (ev_tmp rfl) (ag_agg (ag_cons ac_dv (ag_cons ac_dv (ag_cons (ac_key' rfl rfl) (ag_cons (ac_key' rfl rfl) ag_nil))))) (as_cons (ev_tmp rfl) (ag_one ac_dv) (as_cons (ev_tmp rfl) (ag_one (ac_key' rfl rfl)) as_nil))) rfl rfl rfl ?_
   iterate 11 refine z ?_
   refine o_call rfl rfl rfl Tryz.call11 ok_laws_eqDatabase (as_cons (ev_tmp rfl) (ag_agg (ag_cons ac_dv (ag_cons ac_dv (ag_cons (ac_key' rfl rfl) (ag_cons (ac_key' rfl rfl) ag_nil))))) (as_cons (ev_tmp rfl) (ag_agg (ag_cons ac_dv (ag_cons ac_dv (ag_cons (ac_key' rfl rfl) (ag_cons (ac_key' rfl rfl) ag_nil))))) as_nil)) rfl rfl ?_
   iterate 4 refine z ?_
   refine o_pureG (gd_bool rfl rfl rfl rfl rfl) rfl (fun hg => pu_bneq hT rfl rfl (ev_opt rfl hg) (ev_opt rfl hg)) rfl rfl ?_
   iterate 2 refine z ?_
   refine yQ rfl (fun c3 => ?_) fun c3 => ?_
   ·skip
    iterate 6 refine z ?_
    first | rfl | (exfalso; omega) | (exfalso; simp_all; done) | (exfalso; simp_all; omega)
   ·skip
    iterate 2 refine z ?_
    refine ok_seq ?_
    refine ok_seq ?_
    refine ok_regionD (oB := [3, 8, 10, 12]) (oK := [34007, 41007, 43007, 47007, 51007, 55007, 125031, 125900, 136031, 136900]) (by kernel_rfl) rfl rfl ?_
    refine zD 0 ?_
    refine zD 1 ?_
    refine d_callK 60000 2 rfl (by kernel_rfl) rfl rfl rfl Tryz.call8 (ok_laws_toDatabase (by first | omega | (simp only [wKey, wField, wRecord, wItem, wStore, wIndexDef, wDatabase, wOp, wTx, wTxQueue] at hb ⊢; omega) | (have hq := hw (by omega); omega))) (as_cons (ev_tmp rfl) (ag_agg (ag_cons ac_dv (ag_cons ac_dv (ag_cons ac_dv (ag_cons ac_dv ag_nil))))) as_nil) rfl rfl rfl rfl rfl ?_
    refine d_call 3 rfl (by kernel_rfl) rfl rfl rfl Tryz.call11 ok_laws_eqDatabase (as_cons (ev_tmp rfl) (ag_agg (ag_cons ac_dv (ag_cons ac_dv (ag_cons (ac_key' rfl rfl) (ag_cons (ac_key' rfl rfl) ag_nil))))) (as_cons (ev_tmp rfl) (ag_agg (ag_cons ac_dv (ag_cons ac_dv (ag_cons (ac_key' rfl rfl) (ag_cons (ac_key' rfl rfl) ag_nil))))) as_nil)) rfl rfl rfl rfl ?_
    refine zD 4 ?_
    refine d_done (by kernel_rfl) ?_
    refine z ?_
    refine yQ rfl (fun c4 => ?_) fun c4 => ?_
    ·skip
     iterate 6 refine z ?_
     first | rfl | (exfalso; omega) | (exfalso; simp_all; done) | (exfalso; simp_all; omega)
    ·skip
     iterate 6 refine z ?_
     refine zK 65000 Tryz.call16 ?_ (hf := ok_laws_toUpgradeS (by first | omega | (simp only [wKey, wField, wRecord, wItem, wStore, wIndexDef, wDatabase, wOp, wTx, wTxQueue] at hb ⊢; omega) | (have hq := hw (by omega); omega)))
     refine o_call rfl rfl rfl Tryz.call18 ok_laws_eqUpgradeS (as_cons (ev_tmp rfl) (ag_one (ac_key' rfl rfl)) (as_cons (ev_tmp rfl) (ag_one (ac_key' rfl rfl)) as_nil)) rfl rfl ?_
     iterate 2 refine z ?_
     refine yQ rfl (fun c5 => ?_) fun c5 => ?_
     ·skip
      iterate 6 refine z ?_
      first | rfl | (exfalso; omega) | (exfalso; simp_all; done) | (exfalso; simp_all; omega)
     ·skip
      iterate 8 refine z ?_
      refine o_callW [(0, 51007, ⟨false, _, _, _, _⟩, ⟨false, _, _, _, _⟩), (1, 55007, ⟨false, _, _, _, _⟩, ⟨false, _, _, _, _⟩)] rfl rfl rfl Tryz.call12 (ok_laws_markDatabase (x := x0) (by omega) (by omega)) ⟨rfl, rfl, trivial⟩ rfl (aw_cons (ev_tmp rfl) (aw_agg (awc_cons (awc_dv rfl) (awc_cons (awc_dv rfl) (awc_cons (awc_key rfl) (awc_cons (awc_key rfl) awc_nil))))) (aw_cons (ev_tmp rfl) (aw_one (awc_dv rfl)) aw_nil)) rfl rfl ?_
      simp only [killT, killB, SV.kill, CV.kill, kk, Nat.reduceBEq]
      iterate 5 refine z ?_
      refine o_callW [(0, 41007, ⟨false, _, _, _, _⟩, ⟨false, _, _, _, _⟩)] rfl rfl rfl Tryz.call19 (ok_laws_markUpgradeS (x := x2) (by omega) (by omega)) ⟨rfl, trivial⟩ rfl (aw_cons (ev_tmp rfl) (aw_one (awc_key rfl)) (aw_cons (ev_tmp rfl) (aw_one (awc_dv rfl)) aw_nil)) rfl rfl ?_
      simp only [killT, killB, SV.kill, CV.kill, kk, Nat.reduceBEq]
      iterate 9 refine z ?_
      refine o_callG (gd_bool rfl rfl rfl rfl rfl) rfl rfl Tryz.call11 ok_laws_eqDatabase (fun hg => (as_cons (ev_opt rfl hg) (ag_agg (ag_cons ac_dv (ag_cons ac_dv (ag_cons (ac_key' rfl rfl) (ag_cons (ac_key' rfl rfl) ag_nil))))) (as_cons (ev_opt rfl hg) (ag_agg (ag_cons ac_dv (ag_cons ac_dv (ag_cons (ac_key' rfl rfl) (ag_cons (ac_key' rfl rfl) ag_nil))))) as_nil))) rfl rfl ?_
      iterate 5 refine z ?_
      refine o_pureG (gd_bool rfl rfl rfl rfl rfl) rfl (fun hg => pu_bneq hT rfl rfl (ev_opt rfl hg) (ev_opt rfl hg)) rfl rfl ?_
      iterate 2 refine z ?_
      refine yQ rfl (fun c6 => ?_) fun c6 => ?_
      ·skip
       iterate 6 refine z ?_
       first | rfl | (exfalso; omega) | (exfalso; simp_all; done) | (exfalso; simp_all; omega)
      ·skip
       iterate 8 refine z ?_
       refine o_callW [(0, 136031, ⟨false, _, _, _, _⟩, ⟨false, _, _, _, _⟩), (1, 136900, ⟨false, _, _, _, _⟩, ⟨false, _, _, _, _⟩)] rfl rfl rfl Tryz.call12 (ok_laws_markDatabase (x := (upTo x0 x1 x2).1) (by omega) (by omega)) ⟨rfl, rfl, trivial⟩ rfl (aw_cons (ev_tmp rfl) (aw_agg (awc_cons (awc_dv rfl) (awc_cons (awc_dv rfl) (awc_cons (awc_key rfl) (awc_cons (awc_key rfl) awc_nil))))) (aw_cons (ev_tmp rfl) (aw_one (awc_dv rfl)) aw_nil)) rfl rfl ?_
       simp only [killT, killB, SV.kill, CV.kill, kk, Nat.reduceBEq]
       iterate 8 refine z ?_
       refine o_call rfl rfl rfl Tryz.call13 (ok_laws_heldDatabase (x := (upTo x0 x1 x2).1) rfl (by omega) (by omega)) (as_cons (ev_tmp rfl) (ag_agg (ag_cons ac_dv (ag_cons ac_dv (ag_cons (ac_key' rfl rfl) (ag_cons (ac_key' rfl rfl) ag_nil))))) (as_cons (ev_tmp rfl) (ag_one ac_dv) as_nil)) rfl rfl ?_
       iterate 7 refine z ?_
       refine yQ rfl (fun c7 => ?_) fun c7 => ?_
       ·skip
        have d7 := of_decide_eq_true c7
        first | have q7 := szR_n d7 | skip
        iterate 6 refine z ?_
        first | rfl | (exfalso; omega) | (exfalso; simp_all; done) | (exfalso; simp_all; omega)
       ·skip
        have d7 := of_decide_eq_false c7
        first | have q7 := szR_nn d7 | skip
        iterate 8 refine z ?_
        refine yQ rfl (fun c8 => ?_) fun c8 => ?_
        ·skip
         have d8 := nd_t c8
         iterate 6 refine z ?_
         first | rfl | (exfalso; omega) | (exfalso; simp_all; done) | (exfalso; simp_all; omega)
        ·skip
         have d8 := nd_f c8
         iterate 4 refine z ?_
         refine zK 100000 Tryz.call8 ?_ (hf := ok_laws_toDatabase (by first | omega | (simp only [wKey, wField, wRecord, wItem, wStore, wIndexDef, wDatabase, wOp, wTx, wTxQueue] at hb ⊢; omega) | (have hq := hw (by omega); omega)))
         iterate 2 refine z ?_
         refine zK 103000 Tryz.call16 ?_ (hf := ok_laws_toUpgradeS (by first | omega | (simp only [wKey, wField, wRecord, wItem, wStore, wIndexDef, wDatabase, wOp, wTx, wTxQueue] at hb ⊢; omega) | (have hq := hw (by omega); omega)))
         refine o_callK 104000 rfl rfl rfl Tryz.call17 (ok_impl_UpgradeTo (by omega)) (as_cons (ev_tmp rfl) (ag_agg (ag_cons ac_dv (ag_cons ac_dv (ag_cons (ac_key' rfl rfl) (ag_cons (ac_key' rfl rfl) ag_nil))))) (as_cons (ev_tmp rfl) (ag_one ac_dv) (as_cons (ev_tmp rfl) (ag_one (ac_key' rfl rfl)) as_nil))) rfl rfl rfl ?_
         iterate 11 refine z ?_
         refine o_call rfl rfl rfl Tryz.call11 ok_laws_eqDatabase (as_cons (ev_tmp rfl) (ag_agg (ag_cons ac_dv (ag_cons ac_dv (ag_cons (ac_key' rfl rfl) (ag_cons (ac_key' rfl rfl) ag_nil))))) (as_cons (ev_tmp rfl) (ag_agg (ag_cons ac_dv (ag_cons ac_dv (ag_cons (ac_key' rfl rfl) (ag_cons (ac_key' rfl rfl) ag_nil))))) as_nil)) rfl rfl ?_
         iterate 4 refine z ?_
         refine o_pureG (gd_bool rfl rfl rfl rfl rfl) rfl (fun hg => pu_bneq hT rfl rfl (ev_opt rfl hg) (ev_opt rfl hg)) rfl rfl ?_
         iterate 2 refine z ?_
         refine yQ rfl (fun c9 => ?_) fun c9 => ?_
         ·skip
          iterate 6 refine z ?_
          first | rfl | (exfalso; omega) | (exfalso; simp_all; done) | (exfalso; simp_all; omega)
         ·skip
          iterate 8 refine z ?_
          refine o_call rfl rfl rfl Tryz.call13 (ok_laws_heldDatabase (x := (upTo x0 x1 x2).1) rfl (by omega) (by omega)) (as_cons (ev_tmp rfl) (ag_agg (ag_cons ac_dv (ag_cons ac_dv (ag_cons (ac_key' rfl rfl) (ag_cons (ac_key' rfl rfl) ag_nil))))) (as_cons (ev_tmp rfl) (ag_one ac_dv) as_nil)) rfl rfl ?_
          iterate 7 refine z ?_
          refine yQ rfl (fun c10 => ?_) fun c10 => ?_
          ·skip
           have d10 := of_decide_eq_true c10
           first | have q10 := szR_n d10 | skip
           iterate 6 refine z ?_
           first | rfl | (exfalso; omega) | (exfalso; simp_all; done) | (exfalso; simp_all; omega)
          ·skip
           have d10 := of_decide_eq_false c10
           first | have q10 := szR_nn d10 | skip
           iterate 8 refine z ?_
           refine yQ rfl (fun c11 => ?_) fun c11 => ?_
           ·skip
            have d11 := nd_t c11
            iterate 6 refine z ?_
            first | rfl | (exfalso; omega) | (exfalso; simp_all; done) | (exfalso; simp_all; omega)
           ·skip
            have d11 := nd_f c11
            iterate 7 refine z ?_
            first | rfl | (exfalso; omega) | (exfalso; simp_all; done) | (exfalso; simp_all; omega)
end Go.Proofs.YtdjlikknmbjjgaaGreat

namespace Go.Proofs.YtdjlikknmbjjgaaGreat
open Go.RowKit Go.ChangeShapes Go.WideShapes Go.Deep

def LayW (W : World) : List DV → List Value → Prop := LayL (fun b => b < W.heap.size) W
structure OpensD (P : Program) (Q : List DV → Prop) (t : TypeId) : Prop where
 run : ∀ {H : Type} (enc : TypeId × Value → H) (W : World) (base : Nat) (spare : Nat → Bool) (held : Bool) (fuel : Nat) (cs : List Value) (y : DataW H × List MemPlace),
  DataW.trod enc P W base spare held fuel t cs = some y → ∃ ds, Q ds ∧ LayW W ds cs
def Is {α : Type} (enc : α → List DV) (ds : List DV) : Prop := ∃ x, ds = enc x
theorem opensD_int {P : Program} {t : TypeId} (ht : P.underlying t = some (.int .i64)) : OpensD P (Is eInt) t := by
 refine ⟨fun {H} enc W base spare held fuel cs y h => ?_⟩
 obtain ⟨n, rfl, _, hw⟩ := DataW.trod_int ht h
 have hb : -9223372036854775808 ≤ n ∧ n ≤ 9223372036854775807 := by simpa [Lit.wf, IntKind.min, IntKind.max, IntKind.signed, IntKind.bits] using hw
 exact ⟨_, ⟨n, rfl⟩, by unfold LayW LayL LayL Lay; exact ⟨_, _, rfl, ⟨rfl, inR64 hb.1 hb.2⟩, rfl⟩⟩
theorem opensD_str {P : Program} {t : TypeId} (ht : P.underlying t = some .string) : OpensD P (Is eStr) t := by
 refine ⟨fun {H} enc W base spare held fuel cs y h => ?_⟩
 obtain ⟨s, rfl, _, hs⟩ := DataW.trod_string ht h
 exact ⟨_, ⟨s, rfl⟩, by simp only [LayW, LayL, Lay]; exact ⟨_, _, rfl, ⟨rfl, by simpa [maxLen] using hs⟩, rfl⟩⟩
theorem points {α : Type} {enc : α → List DV} {W : World} {sz : Nat} {f : Nat → Option Value} (hs : ∀ x, (enc x).length = sz) : ∀ n : Nat,
  (∀ i, i < n → ∃ x ci, LayW W (enc x) ci ∧ ∀ j, j < sz → f (i * sz + j) = ci[j]?) → ∃ (xs : List α) (cells : List Value), xs.length = n ∧ LayW W (xs.flatMap enc) cells ∧ ∀ j u, cells[j]? = some u → f j = some u
 | 0, _ => ⟨[], [], rfl, by simp [LayW, LayL], by simp⟩
 | n + 1, h => by
  obtain ⟨xs, cells, h1, h2, h3⟩ := points hs n (fun i hi => h i (by omega))
  obtain ⟨x, ci, g1, g2⟩ := h n (by omega)
  have hl : cells.length = n * sz := by rw [layL_len _ _ h2, flat_len hs, h1]
  have hci : ci.length = sz := by rw [layL_len _ _ g1, hs]
  refine ⟨xs ++ [x], cells ++ ci, by simp [h1], by have := layL_append _ _ _ _ h2 g1; simp only [List.flatMap_append, List.flatMap_cons, List.flatMap_nil, List.append_nil]; exact this, fun j u hu => ?_⟩
  rcases Nat.lt_or_ge j cells.length with hj | hj
  ·rw [List.getElem?_append_left hj] at hu; exact h3 j u hu
  ·rw [List.getElem?_append_right hj] at hu
   have hjs : j - cells.length < sz := by rw [← hci]; exact (List.getElem?_eq_some_iff.1 hu).1
   have := g2 (j - cells.length) hjs
   rw [show n * sz + (j - cells.length) = j by omega] at this
   rw [this, hu]
theorem opensD_slice {α : Type} {P : Program} {enc : α → List DV} {t e : TypeId} {sz : Nat} (e' : Nat) (hs : ∀ x, (enc x).length = sz) (hsz : Nat.blt 0 sz = true) (ht : P.underlying t = some (.slice e)) (hc : P.cellsOf e = sz) (he : OpensD P (Is enc) e) : OpensD P (Is fun xs : List α => [listD e' sz enc xs]) t := by
 refine ⟨fun {H} ench W base spare held fuel cs y h => ?_⟩
 have hpos : 0 < sz := by simpa [Nat.blt_eq] using hsz
 rcases open_slice ht h with ⟨rfl, _⟩ | ⟨a, len, cap, m, n, D, Pl, rfl, _, hl, hm, hmm, _, hi⟩
 ·refine ⟨_, ⟨[], rfl⟩, ?_⟩
  simp only [LayW, LayL, Lay]
  exact ⟨_, _, rfl, ⟨none, 0, [], rfl, Nat.le_refl _, by simp [maxLen], hpos, by simp, by simp [LayL], fun h => by simp at h⟩, rfl⟩
 ·have hlm : len ≤ m := by rw [hmm]; split <;> omega
  obtain ⟨xs, cells, h1, h2, h3⟩ := points (W := W) (f := fun j => W.cell? (a.add j)) hs len (fun i hil => by
   obtain ⟨cs', hc1, hc2⟩ := hi i (by omega)
   obtain ⟨ds, ⟨x, rfl⟩, hx⟩ := he.run ench W base spare held n cs' _ hc2
   obtain ⟨_, hcl, hat⟩ := World.cells?_some hc1
   refine ⟨x, cs', hx, fun j hj => ?_⟩
   have := hat j (by rw [hc]; exact hj)
   rw [← Go.Deep.add_add, hc] at *
   exact this)
  refine ⟨_, ⟨xs, rfl⟩, ?_⟩
  simp only [LayW, LayL]
  refine ⟨_, _, rfl, ?_, rfl⟩
  simp only [Lay]
  refine ⟨some a, cap, cells, by rw [h1], by omega, hm, hpos, flat_len hs xs, h2, fun hp => ?_⟩
  have hcl : 0 < cells.length := by
   rw [layL_len _ _ h2, flat_len hs]
   exact Nat.mul_pos hp hpos
  have h0 := h3 0 _ (List.getElem?_eq_getElem hcl)
  have ha0 : a.add 0 = a := by simp [Addr.add]
  simp only [ha0] at h0
  have hsp : a.spot = none := by
   cases hs : a.spot with
   | none => rfl
   | some s =>
    unfold World.cell? at h0
    split at h0
    ·simp [hs] at h0
    ·cases h0
  obtain ⟨b, off, sp⟩ := a
  simp only at hsp
  subst hsp
  refine ⟨b, off, rfl, World.block_lt_of_cell? W _ h0, fun j u hu => ?_⟩
  have := h3 j u hu
  simp only [add_row] at this
  exact this
/-! ### structs -/
def Qcat : List (List DV → Prop) → List DV → Prop
 | [], ds => ds = []
 | Q :: Qs, ds => ∃ a b, ds = a ++ b ∧ Q a ∧ Qcat Qs b
def contig (P : Program) : List Field → Nat → Nat → Bool
 | [], off, n => off == n
 | f :: fs, off, n => f.offset == off && contig P fs (off + P.cellsOf f.type) n
def OpensAll (P : Program) : List Field → List (List DV → Prop) → Prop
 | [], [] => True
 | f :: fs, Q :: Qs => OpensD P Q f.type ∧ OpensAll P fs Qs
 | _, _ => False
theorem opens_fields {P : Program} {W : World} {H : Type} (enc : TypeId × Value → H) (base : Nat) (spare : Nat → Bool) (held : Bool) (n : Nat) {cs : List Value} : ∀ (fs : List Field) (Qs : List (List DV → Prop)) (off : Nat), contig P fs off cs.length = true → OpensAll P fs Qs →
  (∀ f ∈ fs, ∃ y, DataW.trod enc P W base spare held n f.type ((cs.drop f.offset).take (P.cellsOf f.type)) = some y) → ∃ ds, Qcat Qs ds ∧ LayW W ds (cs.drop off)
 | [], [], off, h1, _, _ => by
  simp only [contig, beq_iff_eq] at h1
  subst h1
  exact ⟨[], rfl, by simp [LayW, LayL]⟩
 | [], _ :: _, _, _, h2, _ => h2.elim
 | _ :: _, [], _, _, h2, _ => h2.elim
 | f :: fs, Q :: Qs, off, h1, h2, h3 => by
  simp only [contig, Bool.and_eq_true, beq_iff_eq] at h1
  obtain ⟨e1, h1⟩ := h1
  obtain ⟨y, hy⟩ := h3 f (by simp)
  rw [e1] at hy
  obtain ⟨a, ha, la⟩ := h2.1.run enc W base spare held n _ _ hy
  obtain ⟨b, hb, lb⟩ := opens_fields enc base spare held n fs Qs _ h1 h2.2 (fun g hg => h3 g (by simp [hg]))
  refine ⟨a ++ b, ⟨a, b, rfl, ha, hb⟩, ?_⟩
  have := layL_append _ _ _ _ la lb
  rw [← List.drop_drop, List.take_append_drop] at this
  exact this
theorem opensD_struct {P : Program} {t : TypeId} {fs : Array Field} {Qs : List (List DV → Prop)} (ht : P.underlying t = some (.struct fs)) (hc : contig P fs.toList 0 (P.cellsOf t) = true) (h : OpensAll P fs.toList Qs) : OpensD P (Qcat Qs) t := by
 refine ⟨fun {H} enc W base spare held fuel cs y h' => ?_⟩
 obtain ⟨xs, n, _, _, hl, hlen, hf⟩ := DataW.trod_struct ht h'
 have := opens_fields (cs := cs) enc base spare held n fs.toList Qs 0 (by rw [hl]; exact hc) h (fun f hf' => by
  obtain ⟨i, hi⟩ := List.mem_iff_getElem?.1 hf'
  have hi' : fs[i]? = some f := by simpa using hi
  have h2 := hf i f hi'
  have hlt : i < xs.length := by
   rw [hlen]
   rw [Array.getElem?_eq_some_iff] at hi'
   exact hi'.1
  rw [List.getElem?_eq_getElem hlt] at h2
  exact ⟨_, h2⟩)
 simpa using this
theorem OpensD.mono {P : Program} {Q R : List DV → Prop} {t : TypeId} (h : OpensD P Q t) (hq : ∀ ds, Q ds → R ds) : OpensD P R t := by
 refine ⟨fun {H} enc W base spare held fuel cs y h' => ?_⟩
 obtain ⟨ds, h1, h2⟩ := h.run enc W base spare held fuel cs y h'
 exact ⟨ds, hq ds h1, h2⟩
/-! ### a call from the outside -/
def TopL (w : World) : List SV → List Value → Prop
 | [], vs => vs = []
 | .one c :: us, vs => ∃ d v vs', c = .dv [] d ∧ vs = v :: vs' ∧ LayW w [d] [v] ∧ TopL w us vs'
 | .agg cs :: us, vs => ∃ ds xs vs', cs = ds.map (CV.dv []) ∧ vs = .agg xs.toArray :: vs' ∧ LayW w ds xs ∧ TopL w us vs'
 | _ :: _, _ => False
theorem lay_top {w : World} {L : Lyt} {d : DV} {v : Value} (h : LayW w [d] [v]) : CVr ⟨w, [], L.rv⟩ L w (.dv [] d) v := by
 simp only [LayW, LayL] at h
 obtain ⟨v', _, e, h1, rfl⟩ := h
 simp only [List.cons.injEq, and_true] at e
 subst e
 simp only [CVr]
 exact lay_conv (fun b hb _ => ⟨.inl ⟨hb, by simp⟩, rfl⟩) d _ h1
theorem lays_top {w : World} {L : Lyt} : ∀ {ds : List DV} {vs : List Value}, LayW w ds vs → CVL ⟨w, [], L.rv⟩ L w (ds.map (CV.dv [])) vs
 | [], _, h => by simp only [LayW, LayL] at h; subst h; rfl
 | d :: ds, _, h => by
  simp only [LayW, LayL] at h
  obtain ⟨v, vs', rfl, h1, h2⟩ := h
  exact ⟨v, vs', rfl, lay_top (by simp only [LayW, LayL]; exact ⟨v, [], rfl, h1, rfl⟩), lays_top h2⟩
theorem topL_sv {P : Program} {w : World} {L : Lyt} : ∀ {us : List SV} {vs : List Value}, TopL w us vs → vs.length = us.length ∧ (∀ u ∈ us, u.keys = [] ∧ u.boxes = []) ∧ ∀ (i : Nat) (v : SV), us[i]? = some v → ∃ x, vs[i]? = some x ∧ SVr P ⟨w, [], L.rv⟩ L w v x
 | [], _, h => by simp only [TopL] at h; subst h; simp
 | .one c :: us, _, h => by
  simp only [TopL] at h
  obtain ⟨d, v, vs', rfl, rfl, h1, h2⟩ := h
  obtain ⟨g1, g2, g3⟩ := topL_sv (P := P) (L := L) h2
  refine ⟨by simp [g1], fun u hu => ?_, fun i x hx => ?_⟩
  ·rcases List.mem_cons.1 hu with rfl | hu
   ·exact ⟨rfl, rfl⟩
   ·exact g2 u hu
  ·cases i with
   | zero => simp only [List.getElem?_cons_zero, Option.some.injEq] at hx; subst hx; exact ⟨v, rfl, by simp only [SVr]; exact lay_top h1⟩
   | succ i => simpa using g3 i x (by simpa using hx)
 | .agg cs :: us, _, h => by
  simp only [TopL] at h
  obtain ⟨ds, xs, vs', rfl, rfl, h1, h2⟩ := h
  obtain ⟨g1, g2, g3⟩ := topL_sv (P := P) (L := L) h2
  refine ⟨by simp [g1], fun u hu => ?_, fun i x hx => ?_⟩
  ·rcases List.mem_cons.1 hu with rfl | hu
   ·refine ⟨?_, rfl⟩
    simp only [SV.keys]
    rw [List.flatMap_eq_nil_iff]
    intro c hc
    obtain ⟨d, _, rfl⟩ := List.mem_map.1 hc
    rfl
   ·exact g2 u hu
  ·cases i with
   | zero => simp only [List.getElem?_cons_zero, Option.some.injEq] at hx; subst hx; exact ⟨_, rfl, by simp only [SVr]; exact ⟨xs, rfl, lays_top h1⟩⟩
   | succ i => simpa using g3 i x (by simpa using hx)
 | .tup _ :: _, _, h => by simp [TopL] at h
 | .box _ _ :: _, _, h => by simp [TopL] at h
 | .ref _ _ :: _, _, h => by simp [TopL] at h
 | .eptr _ _ :: _, _, h => by simp [TopL] at h
 | .ksl _ _ _ _ :: _, _, h => by simp [TopL] at h
 | .fn _ _ :: _, _, h => by simp [TopL] at h
 | .clo _ _ :: _, _, h => by simp [TopL] at h
 | .opt _ _ :: _, _, h => by simp [TopL] at h
 | .any :: _, _, h => by simp [TopL] at h
theorem pfn_run {P : Program} {f : FuncId} {us : List SV} {b : Bool} (hf : PFn P f us (.one (.dv [] (.bool b)))) {w : World} {vs : List Value} (h : TopL w us vs) :
  Calls P f vs.toArray w fun e w' => e = .returned (.bool b) ∧ Below w.heap.size w w' := by
 let L : Lyt := ⟨fun _ => 0, fun _ => [], fun _ => .bool false⟩
 obtain ⟨h1, h2, h3⟩ := topL_sv (P := P) (L := L) h
 obtain ⟨t1, t2⟩ := enum_tk us 0 h2
 have hr : Rel P ⟨w, [], L.rv⟩ us.length L ⟨enumS 0 us, [], []⟩ ⟨vs.toArray, []⟩ w := {
  df := rfl
  sz := by simp [h1]
  tm := fun i v hv => by
   obtain ⟨_, h4⟩ := enumS_look us 0 i v hv
   obtain ⟨x, h5, h6⟩ := h3 i v (by simpa using h4)
   have : vs.toArray.getD i undef = x := by simp [Array.getD_eq_getD_getElem?, h5]
   rw [this]; exact h6
  bx := fun i t cs h => by cases h
  ks := fun k c h => by cases h
  b1 := fun i x h => by cases h
  k1 := fun k c h => by cases h
  kn := fun k c h => by cases h
  bb := fun i j x y h => by cases h
  bk := fun i k x c h => by cases h
  kk := fun k j c d h => by cases h
  lk := fun k hk => by simp only [St.tk, t1, List.flatMap_nil, List.append_nil] at hk; cases hk
  lb := fun b hb => by simp only [St.tb, t2] at hb; cases hb
  s0 := fun b hb => by cases hb
  chg := Chg.refl _ _ }
 refine (hf.ok w [] L vs h1 hr).mono ?_
 rintro e w' ⟨r, res, σ', L', rfl, rfl, hr'⟩
 have hv := hr'.tm 0 _ rfl
 simp only [SVr, CVr, Lay] at hv
 refine ⟨?_, hr'.chg.below⟩
 have : (#[r] : Array Value).getD 0 undef = r := rfl
 rw [this] at hv
 rw [hv]
end Go.Proofs.YtdjlikknmbjjgaaGreat

namespace Go.Proofs.YtdjlikknmbjjgaaGreat
open Go.RowKit
open Go.Proofs
theorem opensKey : OpensD Tryz.prog (Is eKey) 118 :=
 (opensD_struct (Qs := [Is eInt, Is eInt, Is eStr]) Tryz.underlying118 (by kernel_rfl) ⟨(opensD_int Tryz.underlying3), (opensD_int Tryz.underlying3), (opensD_str Tryz.underlying9), trivial⟩).mono fun ds h => by
  obtain ⟨_, _, rfl, ⟨a, rfl⟩, ⟨_, _, rfl, ⟨b, rfl⟩, ⟨_, _, rfl, ⟨c, rfl⟩, rfl⟩⟩⟩ := h
  exact ⟨(a, b, c), rfl⟩
theorem opensField : OpensD Tryz.prog (Is eField) 149 :=
 (opensD_struct (Qs := [Is eStr, Is eInt]) Tryz.underlying149 (by kernel_rfl) ⟨(opensD_str Tryz.underlying9), (opensD_int Tryz.underlying3), trivial⟩).mono fun ds h => by
  obtain ⟨_, _, rfl, ⟨a, rfl⟩, ⟨_, _, rfl, ⟨b, rfl⟩, rfl⟩⟩ := h
  exact ⟨(a, b), rfl⟩
theorem opensFields : OpensD Tryz.prog (Is fun xs => [listD 126 2 eField xs]) 119 := opensD_slice (sz := 2) 126 (fun _ => rfl) rfl Tryz.underlying119 (by kernel_rfl) opensField
theorem opensRecord : OpensD Tryz.prog (Is (fun r : RecT => [fieldsD r])) 121 :=
 (opensD_struct (Qs := [Is (fun r : RecT => [fieldsD r])]) Tryz.underlying121 (by kernel_rfl) ⟨opensFields, trivial⟩).mono fun ds h => by
  obtain ⟨_, _, rfl, ⟨a, rfl⟩, rfl⟩ := h
  exact ⟨a, rfl⟩
theorem opensItem : OpensD Tryz.prog (Is eItem) 123 :=
 (opensD_struct (Qs := [Is eKey, Is (fun r : RecT => [fieldsD r])]) Tryz.underlying123 (by kernel_rfl) ⟨opensKey, opensRecord, trivial⟩).mono fun ds h => by
  obtain ⟨_, _, rfl, ⟨a, rfl⟩, ⟨_, _, rfl, ⟨b, rfl⟩, rfl⟩⟩ := h
  exact ⟨(a, b), rfl⟩
theorem opensItems : OpensD Tryz.prog (Is fun xs => [listD 102 4 eItem xs]) 71 := opensD_slice (sz := 4) 102 (fun _ => rfl) rfl Tryz.underlying71 (by kernel_rfl) opensItem
theorem opensStore : OpensD Tryz.prog (Is eStore) 73 :=
 (opensD_struct (Qs := [Is eStr, Is (fun r : List ItemT => [itemsD r]), Is eInt]) Tryz.underlying73 (by kernel_rfl) ⟨(opensD_str Tryz.underlying9), opensItems, (opensD_int Tryz.underlying3), trivial⟩).mono fun ds h => by
  obtain ⟨_, _, rfl, ⟨a, rfl⟩, ⟨_, _, rfl, ⟨b, rfl⟩, ⟨_, _, rfl, ⟨c, rfl⟩, rfl⟩⟩⟩ := h
  exact ⟨(a, b, c), rfl⟩
theorem opensStores : OpensD Tryz.prog (Is fun xs => [listD 57 3 eStore xs]) 22 := opensD_slice (sz := 3) 57 (fun _ => rfl) rfl Tryz.underlying22 (by kernel_rfl) opensStore
theorem opensDef : OpensD Tryz.prog (Is eDef) 75 :=
 (opensD_struct (Qs := [Is eStr, Is eStr]) Tryz.underlying75 (by kernel_rfl) ⟨(opensD_str Tryz.underlying9), (opensD_str Tryz.underlying9), trivial⟩).mono fun ds h => by
  obtain ⟨_, _, rfl, ⟨a, rfl⟩, ⟨_, _, rfl, ⟨b, rfl⟩, rfl⟩⟩ := h
  exact ⟨(a, b), rfl⟩
theorem opensDefs : OpensD Tryz.prog (Is fun xs => [listD 60 2 eDef xs]) 23 := opensD_slice (sz := 2) 60 (fun _ => rfl) rfl Tryz.underlying23 (by kernel_rfl) opensDef
theorem opensUp : OpensD Tryz.prog (Is eUp) 27 :=
 (opensD_struct (Qs := [Is eInt, Is eStr, Is eStr]) Tryz.underlying27 (by kernel_rfl) ⟨(opensD_int Tryz.underlying3), (opensD_str Tryz.underlying9), (opensD_str Tryz.underlying9), trivial⟩).mono fun ds h => by
  obtain ⟨_, _, rfl, ⟨a, rfl⟩, ⟨_, _, rfl, ⟨b, rfl⟩, ⟨_, _, rfl, ⟨c, rfl⟩, rfl⟩⟩⟩ := h
  exact ⟨(a, b, c), rfl⟩
theorem opensUps : OpensD Tryz.prog (Is fun xs => [listD 37 3 eUp xs]) 42 := opensD_slice (sz := 3) 37 (fun _ => rfl) rfl Tryz.underlying42 (by kernel_rfl) opensUp
theorem opensDb : OpensD Tryz.prog (Is eDb) 25 :=
 (opensD_struct (Qs := [Is eStr, Is eInt, Is (fun r : List StoreT => [storesD r]), Is (fun r : List DefT => [defsD r])]) Tryz.underlying25 (by kernel_rfl) ⟨(opensD_str Tryz.underlying9), (opensD_int Tryz.underlying3), opensStores, opensDefs, trivial⟩).mono fun ds h => by
  obtain ⟨_, _, rfl, ⟨a, rfl⟩, ⟨_, _, rfl, ⟨b, rfl⟩, ⟨_, _, rfl, ⟨c, rfl⟩, ⟨_, _, rfl, ⟨d, rfl⟩, rfl⟩⟩⟩⟩ := h
  exact ⟨(a, b, c, d), rfl⟩
end Go.Proofs.YtdjlikknmbjjgaaGreat

