/-
  Contracts of the program's functions for the statements StartTx, by the rules of the logic. Conditions: none but those in the theorems.
-/
import Derived.Below
import Derived.Deep.Slices
import Derived.OpenShut
import Derived.ProofKit
import Derived.Test.YtcgmpjedhbhplaaGreatQST1
set_option maxHeartbeats 4000000
set_option maxRecDepth 100000
namespace Go.Proofs.YtcgmpjedhbhplaaGreat
open Go.RowKit
open Go.Proofs
set_option linter.unusedVariables false
set_option linter.unusedSimpArgs false

theorem nm_take {l : List OpT} {k : Nat} (h : k < l.length) : ((l.take (k + 1)).map fun o => o.2.1) = ((l.take k).map fun o => o.2.1) ++ [(l.getD (k : Int).toNat default).2.1] := by
 rw [List.take_add_one, List.getElem?_eq_getElem h, List.map_append, getD_at h]; rfl

theorem ok_impl_ScopeOf {l : List OpT} (hl : l.length ≤ 1099511627776) : KFn Tryz.prog 28 [.one (.dv [] (opsD (l)))] (.one (.key 95000)) [(95000, some (kcOf false (strsD (scopeL l))))] := by
 refine ⟨fn_intro Tryz.func28 rfl Tryz.ntmps28 Tryz.results28 rfl (fun C => ?_)⟩
 refine ok_fact (x := .tmp 0) (ev_tmp rfl) fun f0 => ?_
 iterate 4 refine z ?_
 refine o_build0 (k := 95000) hT rfl rfl rfl rfl rfl rfl rfl rfl ?_
 iterate 9 refine z ?_
 refine ok_loop (ι := Nat) (fun zz => ⟨[(2, .one .nil), (3, .one (.key 95000)), (7, .one (.dv [] (opsD (l)))), (8, .one (.dv [] (.int .i64 ((((l)).length : Int))))), (9, .one (.dv [] (.int .i64 ((zz : Int)))))], [], [(95000, some (kcOf false (.sl 9 1 (((l.take zz).map fun o => o.2.1).length) (((l.take zz).map fun o => o.2.1).flatMap eStr))))]⟩) (fun zz => zz ≤ l.length) (fun zz => l.length - zz) (0) ?_ (weak_sub ⟨rfl, rfl, rfl, rfl, rfl, trivial⟩ trivial ⟨rfl, trivial⟩ rfl) (fun zz hx => ?_)
 ·exact Nat.zero_le _
 obtain ⟨k, rfl⟩ : ∃ v, v = zz := ⟨_, rfl⟩
 replace hx : k ≤ l.length := hx
 show Ok _ _ _ _ _ (⟨[(2, .one .nil), (3, .one (.key 95000)), (7, .one (.dv [] (opsD (l)))), (8, .one (.dv [] (.int .i64 ((((l)).length : Int))))), (9, .one (.dv [] (.int .i64 ((k : Int)))))], [], [(95000, some (kcOf false (.sl 9 1 (((l.take k).map fun o => o.2.1).length) (((l.take k).map fun o => o.2.1).flatMap eStr))))]⟩ : St)
 iterate 3 refine z ?_
 refine ok_seq ?_
 refine yQ rfl (fun c1 => ?_) fun c1 => ?_
 ·skip
  have d1 := of_decide_eq_true c1
  have hk2 : k < l.length := by omega
  iterate 10 refine z ?_
  refine ok_region ?_
  iterate 3 refine z ?_
  refine o_build1 (k := 16) (js := []) hT rfl rfl rfl rfl rfl rfl rfl rfl rfl (ev_tmp rfl) rfl rfl (ow_cons' (ow_dv rfl) ow_nil rfl) (by decide) (by decide) rfl rfl ?_
  simp only [killT, killB, SV.kill, CV.kill, kk, Nat.reduceBEq]
  refine o_appK (k := 95000) (j := 16) (cs := ((l.take (k + 1)).map fun o => o.2.1).flatMap eStr) (n := ((l.take (k + 1)).map fun o => o.2.1).length) hT rfl rfl rfl rfl rfl rfl rfl (ev_tmp rfl) rfl rfl rfl (ev_tmp rfl) rfl rfl (by decide) (by dsimp only [kcOf]; rw [List.length_map, List.length_take]; omega) (by dsimp only [kcOf]; rw [List.length_map, List.length_take]; omega) (by rw [nm_take hk2, List.length_append]; rfl) (by rw [nm_take hk2, List.flatMap_append]; rfl) ?_
  simp only [killT, killB, SV.kill, CV.kill, kk, Nat.reduceBEq]
  refine z ?_
  refine ops_nil ?_
  iterate 2 refine z ?_
  refine ok_region ?_
  iterate 3 refine z ?_
  refine ⟨k + 1, ?_, ?_, weak_sub ⟨rfl, rfl, rfl, rfl, rfl, trivial⟩ trivial ⟨rfl, trivial⟩ rfl⟩
  ·omega
  ·omega
 ·skip
  have d1 := of_decide_eq_false c1
  have hk2 : l.take k = l := List.take_of_length_le (by omega)
  rw [hk2]
  iterate 7 refine z ?_
  refine o_sort (k := 95000) (l := (l.map fun o => o.2.1)) (n := (srtS (l.map fun o => o.2.1)).length) (cs := strD (srtS (l.map fun o => o.2.1))) rfl rfl rfl rfl Tryz.call51 sortOk (ev_tmp rfl) rfl rfl rfl (rfl) (rfl) (by rw [List.length_map]; omega) ((srtS_len _).symm) (rfl) ?_
  simp only [killT, killB, SV.kill, CV.kill, kk, Nat.reduceBEq]
  iterate 3 refine z ?_
  refine o_compact (k := 95000) (l := (srtS (l.map fun o => o.2.1))) (n := (scopeL l).length) (cs := (scopeL l).flatMap eStr) rfl rfl rfl rfl Tryz.call52 compOk (ev_tmp rfl) rfl rfl rfl (rfl) (rfl) (by rw [srtS_len, List.length_map]; omega) (by rw [scope_cs]) (by rw [scope_cs]; rfl) ?_
  simp only [killT, killB, SV.kill, CV.kill, kk, Nat.reduceBEq]
  iterate 2 refine z ?_
  refine ok_weak (σ' := ⟨[(2, .one (.key 95000))], [], [(95000, some (kcOf false (strsD (scopeL l))))]⟩) (weak_sub ⟨rfl, trivial⟩ trivial ⟨rfl, trivial⟩ rfl) ?_
  refine z ?_
  refine fin1 (res_tmp rfl) ?_
  exact ⟨rfl, rfl⟩

theorem getD_o {o : List Str} {j : Nat} (h : j < o.length) : o.getD (j : Int).toNat default = o[j] := getD_at h
theorem sc_step {o : List Str} {x : Str} {j : Nat} (hj : j < o.length) (h : sLt (o.getD (j : Int).toNat default) x = true) (hp : scIns o x = o.take j ++ scIns (o.drop j) x) : scIns o x = o.take (j + 1) ++ scIns (o.drop (j + 1)) x := by
 rw [getD_o hj] at h
 rw [hp, List.drop_eq_getElem_cons hj, scIns, if_pos h, List.take_add_one, List.getElem?_eq_getElem hj, List.append_assoc]
 rfl
theorem sc_hit {o : List Str} {x : Str} {j : Nat} (hp : scIns o x = o.take j ++ scIns (o.drop j) x) (h1 : (decide ((j : Int) < (o.length : Int)) && sLt (o.getD (j : Int).toNat default) x) = false) (h2 : (decide ((j : Int) < (o.length : Int)) && sEq (o.getD (j : Int).toNat default) x) = true) : scIns o x = o := by
 rw [Bool.and_eq_true, decide_eq_true_eq] at h2
 have hj : j < o.length := by omega
 rw [decide_eq_true (by omega : (j : Int) < (o.length : Int)), Bool.true_and, getD_o hj] at h1
 rw [getD_o hj] at h2
 rw [hp, List.drop_eq_getElem_cons hj, scIns, if_neg (by rw [h1]; decide), if_pos h2.2, ← List.drop_eq_getElem_cons hj, List.take_append_drop]
theorem sc_miss {o : List Str} {x : Str} {j : Nat} (hjl : j ≤ o.length) (hp : scIns o x = o.take j ++ scIns (o.drop j) x) (h1 : (decide ((j : Int) < (o.length : Int)) && sLt (o.getD (j : Int).toNat default) x) = false) (h2 : (decide ((j : Int) < (o.length : Int)) && sEq (o.getD (j : Int).toNat default) x) = false) : scIns o x = o.take j ++ x :: o.drop j := by
 rw [hp]
 by_cases hj : j < o.length
 ·rw [decide_eq_true (by omega : (j : Int) < (o.length : Int)), Bool.true_and, getD_o hj] at h1 h2
  rw [List.drop_eq_getElem_cons hj, scIns, if_neg (by rw [h1]; decide), if_neg (by rw [h2]; decide)]
 ·rw [List.drop_of_length_le (by omega)]; rfl
theorem sf_step {l : List OpT} {o : List Str} {i : Nat} (h : i < l.length) : (l.drop i).foldl (fun out o => scIns out o.2.1) o = (l.drop (i + 1)).foldl (fun out o => scIns out o.2.1) (scIns o (l.getD (i : Int).toNat default).2.1) := by
 rw [List.drop_eq_getElem_cons h, List.foldl_cons, getD_at h]

theorem ok_spec_ScopeOf {l : List OpT} (hl : l.length ≤ 1099511627776) : KFn Tryz.prog 20 [.one (.dv [] (opsD (l)))] (.one (.key 95000)) [(95000, some (kcOf false (strsD (scopeL l))))] := by
 refine ⟨fn_intro Tryz.func20 rfl Tryz.ntmps20 Tryz.results20 rfl (fun C => ?_)⟩
 refine ok_fact (x := .tmp 0) (ev_tmp rfl) fun f0 => ?_
 iterate 4 refine z ?_
 refine o_build0 (k := 95000) hT rfl rfl rfl rfl rfl rfl rfl rfl ?_
 iterate 7 refine z ?_
 refine ok_loop (ι := Nat × List Str) (fun zz => ⟨[(0, .one (.dv [] (opsD (l)))), (2, .one .nil), (3, .one (.key 95000)), (4, .one (.dv [] (.int .i64 ((zz.1 : Int)))))], [], [(95000, some (kcOf false (.sl 9 1 (zz.2.length) (zz.2.flatMap eStr))))]⟩) (fun zz => zz.1 ≤ l.length ∧ scopeL l = (l.drop zz.1).foldl (fun (out : List Str) (z : OpT) => scIns out z.2.1) zz.2 ∧ zz.2.length ≤ zz.1) (fun zz => l.length - zz.1) ((0, [])) ?_ (weak_sub ⟨rfl, rfl, rfl, rfl, trivial⟩ trivial ⟨rfl, trivial⟩ rfl) (fun zz hx => ?_)
 ·exact ⟨Nat.zero_le _, rfl, Nat.le_refl _⟩
 obtain ⟨i, o⟩ := zz
 replace hx : i ≤ l.length ∧ scopeL l = (l.drop i).foldl (fun (out : List Str) (z : OpT) => scIns out z.2.1) o ∧ o.length ≤ i := hx
 obtain ⟨hi, hs, hol⟩ := hx
 show Ok _ _ _ _ _ (⟨[(0, .one (.dv [] (opsD (l)))), (2, .one .nil), (3, .one (.key 95000)), (4, .one (.dv [] (.int .i64 ((i : Int)))))], [], [(95000, some (kcOf false (.sl 9 1 (o.length) (o.flatMap eStr))))]⟩ : St)
 iterate 7 refine z ?_
 refine yQ rfl (fun c1 => ?_) fun c1 => ?_
 ·skip
  have d1 := of_decide_eq_true c1
  have hi2 : i < l.length := by omega
  iterate 9 refine z ?_
  refine ok_loop (ι := Nat) (fun zz => ⟨[(0, .one (.dv [] (opsD (l)))), (2, .one .nil), (3, .one (.key 95000)), (4, .one (.dv [] (.int .i64 ((i : Int))))), (5, .one (.dv [] (.int .i64 ((zz : Int)))))], [], [(95000, some (kcOf false (.sl 9 1 (o.length) (o.flatMap eStr))))]⟩) (fun zz => zz ≤ o.length ∧ scIns o (l.getD (i : Int).toNat default).2.1 = o.take zz ++ scIns (o.drop zz) (l.getD (i : Int).toNat default).2.1) (fun zz => o.length - zz) (0) ?_ (weak_sub ⟨rfl, rfl, rfl, rfl, rfl, trivial⟩ trivial ⟨rfl, trivial⟩ rfl) (fun zz hx => ?_)
  ·exact ⟨Nat.zero_le _, rfl⟩
  obtain ⟨j, rfl⟩ : ∃ v, v = zz := ⟨_, rfl⟩
  replace hx : j ≤ o.length ∧ scIns o (l.getD (i : Int).toNat default).2.1 = o.take j ++ scIns (o.drop j) (l.getD (i : Int).toNat default).2.1 := hx
  obtain ⟨hj, hp⟩ := hx
  show Ok _ _ _ _ _ (⟨[(0, .one (.dv [] (opsD (l)))), (2, .one .nil), (3, .one (.key 95000)), (4, .one (.dv [] (.int .i64 ((i : Int))))), (5, .one (.dv [] (.int .i64 ((j : Int)))))], [], [(95000, some (kcOf false (.sl 9 1 (o.length) (o.flatMap eStr))))]⟩ : St)
  refine ok_seq ?_
  refine ok_seq ?_
  refine ok_regionD (oB := []) (oK := [95000]) (by kernel_rfl) rfl rfl ?_
  refine zD 0 ?_
  refine zD 1 ?_
  refine d_take 2 rfl (by kernel_rfl) rfl rfl (pu_lenKn (n := (o.length)) hT rfl rfl (ev_tmp rfl) rfl rfl) rfl rfl rfl rfl ?_
  refine zD 3 ?_
  refine zD 4 ?_
  refine d_takeG 5 rfl (by kernel_rfl) (gd_bool rfl rfl rfl rfl rfl) rfl (fun hg => pu_move (v := .one (.dv [95000] (strsD (o)))) (.inl rfl) (ev_keyv' (ev_tmp rfl) rfl rfl)) rfl rfl rfl rfl ?_
  refine zDG 6 ?_
  refine zDG 7 ?_
  refine zDG 8 ?_
  refine zDG 9 ?_
  refine zDG 10 ?_
  refine zDG 11 ?_
  refine zDG 12 ?_
  refine zDG 13 ?_
  refine zDG 14 ?_
  refine zD 15 ?_
  refine d_done (by kernel_rfl) ?_
  refine z ?_
  refine yQ rfl (fun c2 => ?_) fun c2 => ?_
  ·skip
   have h8 := c2
   rw [Bool.and_eq_true, decide_eq_true_eq] at h8
   have hj2 : j < o.length := by omega
   have hst := sc_step hj2 h8.2 hp
   iterate 3 refine z ?_
   refine ok_region ?_
   iterate 3 refine z ?_
   refine ops_nil ?_
   iterate 2 refine z ?_
   refine ⟨j + 1, ?_, ?_, weak_sub ⟨rfl, rfl, rfl, rfl, rfl, trivial⟩ trivial ⟨rfl, trivial⟩ rfl⟩
   ·exact ⟨by omega, hst⟩
   ·omega
  ·skip
   iterate 5 refine z ?_
   refine ok_seq ?_
   refine ok_seq ?_
   refine ok_regionD (oB := []) (oK := [95000]) (by kernel_rfl) rfl rfl ?_
   refine zD 0 ?_
   refine zD 1 ?_
   refine d_take 2 rfl (by kernel_rfl) rfl rfl (pu_lenKn (n := (o.length)) hT rfl rfl (ev_tmp rfl) rfl rfl) rfl rfl rfl rfl ?_
   refine zD 3 ?_
   refine zD 4 ?_
   refine d_takeG 5 rfl (by kernel_rfl) (gd_bool rfl rfl rfl rfl rfl) rfl (fun hg => pu_move (v := .one (.dv [95000] (strsD (o)))) (.inl rfl) (ev_keyv' (ev_tmp rfl) rfl rfl)) rfl rfl rfl rfl ?_
   refine zDG 6 ?_
   refine zDG 7 ?_
   refine zDG 8 ?_
   refine zDG 9 ?_
   refine zDG 10 ?_
   refine zDG 11 ?_
   refine zDG 12 ?_
   refine zDG 13 ?_
   refine zDG 14 ?_
   refine zD 15 ?_
   refine d_done (by kernel_rfl) ?_
   refine z ?_
   refine yQ rfl (fun c3 => ?_) fun c3 => ?_
   ·skip
    iterate 4 refine z ?_
    refine ok_region ?_
    iterate 4 refine z ?_
    refine ⟨(i + 1, o), ?_, ?_, weak_sub ⟨rfl, rfl, rfl, rfl, trivial⟩ trivial ⟨rfl, trivial⟩ rfl⟩
    ·exact ⟨by dsimp only; omega, by rw [hs, sf_step hi2, sc_hit hp c2 c3], by dsimp only; omega⟩
    ·dsimp only; omega
   ·skip
    iterate 2 refine z ?_
    refine ok_regionH [0, 1, 2, 3, 4, 5, 6, 7, 8, 9, 10, 11, 12, 13, 14, 15, 16] (oB := []) (oK := [95000]) (by kernel_rfl) rfl rfl ?_
    refine n_start ?_
    refine n_take 1 rfl (by kernel_rfl) rfl rfl (pu_move (v := .one (.dv [95000] (strsD (o)))) (.inl rfl) (ev_keyv' (ev_tmp rfl) rfl rfl)) rfl rfl rfl rfl ?_
    refine zN 2 ?_
    refine n_take 3 rfl (by kernel_rfl) rfl rfl (pu_sliceH hT rfl rfl rfl (ev_tmp rfl) (ev_tmp rfl) (fun _ => rfl) (by omega) (by omega)) rfl rfl rfl rfl ?_
    refine zN 5 ?_
    refine zN 6 ?_
    refine zN 7 ?_
    refine zN 8 ?_
    refine zN 9 ?_
    refine n_take 12 rfl (by kernel_rfl) rfl rfl (pu_move (v := .one (.dv [95000] (strsD (o)))) (.inl rfl) (ev_keyv' (ev_tmp rfl) rfl rfl)) rfl rfl rfl rfl ?_
    refine zN 13 ?_
    refine n_take 14 rfl (by kernel_rfl) rfl rfl (pu_sliceL hT rfl rfl rfl (ev_tmp rfl) (ev_tmp rfl) (fun _ => rfl) (by omega) (by omega)) rfl rfl rfl rfl ?_
    refine n_split 0 [10] (by kernel_rfl) ⟨?_, ?_, trivial⟩
    ·skip
     refine nj_build0 (k := 9050) 0 hT rfl rfl rfl rfl rfl rfl rfl rfl rfl rfl rfl rfl ?_
     refine n_split 4 [10] (by kernel_rfl) ⟨?_, ?_, trivial⟩
     ·skip
      refine nj_appV (k := 9050) (cs := (o.take j).flatMap eStr) (n := (o.take j).length) 4 hT rfl rfl rfl rfl rfl rfl rfl rfl (ev_tmp rfl) rfl rfl rfl (ev_tmp rfl) (plain_flat (fun _ => rfl) _) (by dsimp only [kcOf]; simp only [List.length_take]; omega) (by dsimp only [kcOf]; simp only [List.length_take]; omega) (Nat.zero_add _) (rfl) rfl rfl ?_
      simp only [killT, killB, SV.kill, CV.kill, kk, Nat.reduceBEq]
      refine n_split 10 [] (by kernel_rfl) ⟨?_, trivial⟩
      ·skip
       refine nj_buildN (k := 9059) (js := []) 10 hT rfl rfl rfl rfl rfl rfl rfl rfl rfl rfl rfl rfl (ep_cons (ev_tmp rfl) rfl rfl rfl ep_nil) (ow_cons' (ow_dv rfl) ow_nil rfl) (by decide) (by decide) rfl rfl rfl rfl rfl ?_
       simp only [killT, killB, SV.kill, CV.kill, kk, Nat.reduceBEq]
       refine n_split 11 [] (by kernel_rfl) ⟨?_, trivial⟩
       ·skip
        refine nj_appV (k := 9050) (cs := ((o.take j) ++ [(l.getD (i : Int).toNat default).2.1]).flatMap eStr) (n := ((o.take j) ++ [(l.getD (i : Int).toNat default).2.1]).length) (m := 1) (ds := [.str ((((l)).getD ((i : Int)).toNat default).2.1)]) 11 hT rfl rfl rfl rfl rfl rfl rfl rfl (ev_tmp rfl) rfl rfl rfl (ev_keyv' (ev_tmp rfl) rfl rfl) rfl (by dsimp only [kcOf]; simp only [List.length_take]; omega) (by dsimp only [kcOf]; simp only [List.length_take]; omega) (by simp) (by rw [List.flatMap_append]; rfl) rfl rfl ?_
        simp only [killT, killB, SV.kill, CV.kill, kk, Nat.reduceBEq]
        refine n_split 15 [] (by kernel_rfl) ⟨?_, trivial⟩
        ·skip
         refine nj_appV (k := 9050) (cs := ((o.take j) ++ (l.getD (i : Int).toNat default).2.1 :: o.drop j).flatMap eStr) (n := ((o.take j) ++ (l.getD (i : Int).toNat default).2.1 :: o.drop j).length) 15 hT rfl rfl rfl rfl rfl rfl rfl rfl (ev_tmp rfl) rfl rfl rfl (ev_tmp rfl) (plain_flat (fun _ => rfl) _) (by dsimp only [kcOf]; simp only [List.length_append, List.length_take, List.length_drop, List.length_singleton]; omega) (by dsimp only [kcOf]; simp only [List.length_append, List.length_take, List.length_drop, List.length_singleton]; omega) (by simp; omega) (by rw [← List.flatMap_append, List.append_assoc]; rfl) rfl rfl ?_
         simp only [killT, killB, SV.kill, CV.kill, kk, Nat.reduceBEq]
         refine zN 16 ?_
         refine n_done (by kernel_rfl) ?_
         iterate 2 refine z ?_
         refine ok_region ?_
         iterate 4 refine z ?_
         refine ⟨(i + 1, (o.take j) ++ (l.getD (i : Int).toNat default).2.1 :: o.drop j), ?_, ?_, weak_then (weak_swap (s := 3) (k := 9050) (k' := 95000) rfl rfl rfl (by simp) rfl) (weak_sub ⟨rfl, rfl, rfl, rfl, trivial⟩ trivial ⟨rfl, trivial⟩ rfl)⟩
         ·exact ⟨by dsimp only; omega, by rw [hs, sf_step hi2, sc_miss hj hp c2 c3], by dsimp only; rw [List.length_append, List.length_cons, List.length_take, List.length_drop]; omega⟩
         ·dsimp only; omega
     ·skip
      refine nj_buildN (k := 9059) (js := []) 10 hT rfl rfl rfl rfl rfl rfl rfl rfl rfl rfl rfl rfl (ep_cons (ev_tmp rfl) rfl rfl rfl ep_nil) (ow_cons' (ow_dv rfl) ow_nil rfl) (by decide) (by decide) rfl rfl rfl rfl rfl ?_
      simp only [killT, killB, SV.kill, CV.kill, kk, Nat.reduceBEq]
      refine n_split 4 [] (by kernel_rfl) ⟨?_, trivial⟩
      ·skip
       refine nj_appV (k := 9050) (cs := (o.take j).flatMap eStr) (n := (o.take j).length) 4 hT rfl rfl rfl rfl rfl rfl rfl rfl (ev_tmp rfl) rfl rfl rfl (ev_tmp rfl) (plain_flat (fun _ => rfl) _) (by dsimp only [kcOf]; simp only [List.length_take]; omega) (by dsimp only [kcOf]; simp only [List.length_take]; omega) (Nat.zero_add _) (rfl) rfl rfl ?_
       simp only [killT, killB, SV.kill, CV.kill, kk, Nat.reduceBEq]
       refine n_split 11 [] (by kernel_rfl) ⟨?_, trivial⟩
       ·skip
        refine nj_appV (k := 9050) (cs := ((o.take j) ++ [(l.getD (i : Int).toNat default).2.1]).flatMap eStr) (n := ((o.take j) ++ [(l.getD (i : Int).toNat default).2.1]).length) (m := 1) (ds := [.str ((((l)).getD ((i : Int)).toNat default).2.1)]) 11 hT rfl rfl rfl rfl rfl rfl rfl rfl (ev_tmp rfl) rfl rfl rfl (ev_keyv' (ev_tmp rfl) rfl rfl) rfl (by dsimp only [kcOf]; simp only [List.length_take]; omega) (by dsimp only [kcOf]; simp only [List.length_take]; omega) (by simp) (by rw [List.flatMap_append]; rfl) rfl rfl ?_
        simp only [killT, killB, SV.kill, CV.kill, kk, Nat.reduceBEq]
        refine n_split 15 [] (by kernel_rfl) ⟨?_, trivial⟩
        ·skip
         refine nj_appV (k := 9050) (cs := ((o.take j) ++ (l.getD (i : Int).toNat default).2.1 :: o.drop j).flatMap eStr) (n := ((o.take j) ++ (l.getD (i : Int).toNat default).2.1 :: o.drop j).length) 15 hT rfl rfl rfl rfl rfl rfl rfl rfl (ev_tmp rfl) rfl rfl rfl (ev_tmp rfl) (plain_flat (fun _ => rfl) _) (by dsimp only [kcOf]; simp only [List.length_append, List.length_take, List.length_drop, List.length_singleton]; omega) (by dsimp only [kcOf]; simp only [List.length_append, List.length_take, List.length_drop, List.length_singleton]; omega) (by simp; omega) (by rw [← List.flatMap_append, List.append_assoc]; rfl) rfl rfl ?_
         simp only [killT, killB, SV.kill, CV.kill, kk, Nat.reduceBEq]
         refine zN 16 ?_
         refine n_done (by kernel_rfl) ?_
         iterate 2 refine z ?_
         refine ok_region ?_
         iterate 4 refine z ?_
         refine ⟨(i + 1, (o.take j) ++ (l.getD (i : Int).toNat default).2.1 :: o.drop j), ?_, ?_, weak_then (weak_swap (s := 3) (k := 9050) (k' := 95000) rfl rfl rfl (by simp) rfl) (weak_sub ⟨rfl, rfl, rfl, rfl, trivial⟩ trivial ⟨rfl, trivial⟩ rfl)⟩
         ·exact ⟨by dsimp only; omega, by rw [hs, sf_step hi2, sc_miss hj hp c2 c3], by dsimp only; rw [List.length_append, List.length_cons, List.length_take, List.length_drop]; omega⟩
         ·dsimp only; omega
    ·skip
     refine nj_buildN (k := 9059) (js := []) 10 hT rfl rfl rfl rfl rfl rfl rfl rfl rfl rfl rfl rfl (ep_cons (ev_tmp rfl) rfl rfl rfl ep_nil) (ow_cons' (ow_dv rfl) ow_nil rfl) (by decide) (by decide) rfl rfl rfl rfl rfl ?_
     simp only [killT, killB, SV.kill, CV.kill, kk, Nat.reduceBEq]
     refine n_split 0 [] (by kernel_rfl) ⟨?_, trivial⟩
     ·skip
      refine nj_build0 (k := 9050) 0 hT rfl rfl rfl rfl rfl rfl rfl rfl rfl rfl rfl rfl ?_
      refine n_split 4 [] (by kernel_rfl) ⟨?_, trivial⟩
      ·skip
       refine nj_appV (k := 9050) (cs := (o.take j).flatMap eStr) (n := (o.take j).length) 4 hT rfl rfl rfl rfl rfl rfl rfl rfl (ev_tmp rfl) rfl rfl rfl (ev_tmp rfl) (plain_flat (fun _ => rfl) _) (by dsimp only [kcOf]; simp only [List.length_take]; omega) (by dsimp only [kcOf]; simp only [List.length_take]; omega) (Nat.zero_add _) (rfl) rfl rfl ?_
       simp only [killT, killB, SV.kill, CV.kill, kk, Nat.reduceBEq]
       refine n_split 11 [] (by kernel_rfl) ⟨?_, trivial⟩
       ·skip
        refine nj_appV (k := 9050) (cs := ((o.take j) ++ [(l.getD (i : Int).toNat default).2.1]).flatMap eStr) (n := ((o.take j) ++ [(l.getD (i : Int).toNat default).2.1]).length) (m := 1) (ds := [.str ((((l)).getD ((i : Int)).toNat default).2.1)]) 11 hT rfl rfl rfl rfl rfl rfl rfl rfl (ev_tmp rfl) rfl rfl rfl (ev_keyv' (ev_tmp rfl) rfl rfl) rfl (by dsimp only [kcOf]; simp only [List.length_take]; omega) (by dsimp only [kcOf]; simp only [List.length_take]; omega) (by simp) (by rw [List.flatMap_append]; rfl) rfl rfl ?_
        simp only [killT, killB, SV.kill, CV.kill, kk, Nat.reduceBEq]
        refine n_split 15 [] (by kernel_rfl) ⟨?_, trivial⟩
        ·skip
         refine nj_appV (k := 9050) (cs := ((o.take j) ++ (l.getD (i : Int).toNat default).2.1 :: o.drop j).flatMap eStr) (n := ((o.take j) ++ (l.getD (i : Int).toNat default).2.1 :: o.drop j).length) 15 hT rfl rfl rfl rfl rfl rfl rfl rfl (ev_tmp rfl) rfl rfl rfl (ev_tmp rfl) (plain_flat (fun _ => rfl) _) (by dsimp only [kcOf]; simp only [List.length_append, List.length_take, List.length_drop, List.length_singleton]; omega) (by dsimp only [kcOf]; simp only [List.length_append, List.length_take, List.length_drop, List.length_singleton]; omega) (by simp; omega) (by rw [← List.flatMap_append, List.append_assoc]; rfl) rfl rfl ?_
         simp only [killT, killB, SV.kill, CV.kill, kk, Nat.reduceBEq]
         refine zN 16 ?_
         refine n_done (by kernel_rfl) ?_
         iterate 2 refine z ?_
         refine ok_region ?_
         iterate 4 refine z ?_
         refine ⟨(i + 1, (o.take j) ++ (l.getD (i : Int).toNat default).2.1 :: o.drop j), ?_, ?_, weak_then (weak_swap (s := 3) (k := 9050) (k' := 95000) rfl rfl rfl (by simp) rfl) (weak_sub ⟨rfl, rfl, rfl, rfl, trivial⟩ trivial ⟨rfl, trivial⟩ rfl)⟩
         ·exact ⟨by dsimp only; omega, by rw [hs, sf_step hi2, sc_miss hj hp c2 c3], by dsimp only; rw [List.length_append, List.length_cons, List.length_take, List.length_drop]; omega⟩
         ·dsimp only; omega
 ·skip
  have d1 := of_decide_eq_false c1
  iterate 9 refine z ?_
  have hfin : scopeL l = o := by rw [hs, List.drop_of_length_le (by omega)]; rfl
  rw [hfin]
  refine ok_weak (σ' := ⟨[(2, .one (.key 95000))], [], [(95000, some (kcOf false (strsD (o))))]⟩) (weak_sub ⟨rfl, trivial⟩ trivial ⟨rfl, trivial⟩ rfl) ?_
  refine z ?_
  refine fin1 (res_tmp rfl) ?_
  exact ⟨rfl, rfl⟩
end Go.Proofs.YtcgmpjedhbhplaaGreat

namespace Go.Proofs.YtcgmpjedhbhplaaGreat
open Go.RowKit
open Go.Proofs
set_option linter.unusedVariables false
set_option linter.unusedSimpArgs false

def bkOf (d : DbT) (ns : List Str) : List StoreT := ns.flatMap fun n => if 0 ≤ fndS d n then [d.2.2.1.getD (fndS d n).toNat default] else []
def startTx (d : DbT) (q : List TxT) (i : Int) : List TxT × Bool := if canS q i = true then (q.set i.toNat ((q.getD i.toNat default).1, (q.getD i.toNat default).2.1, (q.getD i.toNat default).2.2.1, 1, bkOf d (scopeL (q.getD i.toNat default).2.1)), true) else (q, false)
theorem scIns_len {n : Str} : ∀ {l : List Str}, (scIns l n).length ≤ l.length + 1
 | [] => Nat.le_refl _
 | x :: xs => by
  have ih := scIns_len (n := n) (l := xs)
  rw [scIns]
  split
  ·rw [List.length_cons, List.length_cons]; omega
  ·split
   ·omega
   ·exact Nat.le_refl _
theorem scope_len (l : List OpT) : (scopeL l).length ≤ l.length := by
 have key : ∀ (l : List OpT) (out : List Str), (l.foldl (fun out o => scIns out o.2.1) out).length ≤ out.length + l.length := by
  intro l
  induction l with
  | nil => exact fun out => Nat.le_refl _
  | cons o l ih =>
   intro out
   have h1 := ih (scIns out o.2.1)
   have h2 := scIns_len (n := o.2.1) (l := out)
   rw [List.foldl_cons, List.length_cons]; omega
 have := key l []
 rw [List.length_nil, Nat.zero_add] at this
 exact this
theorem bk_len (d : DbT) : ∀ ns : List Str, (bkOf d ns).length ≤ ns.length
 | [] => Nat.le_refl _
 | n :: ns => by
  have ih := bk_len d ns
  show (List.flatMap _ (n :: ns)).length ≤ _
  rw [List.flatMap_cons, List.length_append, List.length_cons]
  have : (List.flatMap (fun n => if 0 ≤ fndS d n then [d.2.2.1.getD (fndS d n).toNat default] else []) ns).length ≤ ns.length := ih
  split
  ·rw [List.length_singleton]; omega
  ·rw [List.length_nil]; omega
theorem bk_step {d : DbT} {ns : List Str} {k : Nat} (h : k < ns.length) : bkOf d (ns.take (k + 1)) = bkOf d (ns.take k) ++ (if 0 ≤ fndS d (ns.getD (k : Int).toNat default) then [d.2.2.1.getD (fndS d (ns.getD (k : Int).toNat default)).toNat default] else []) := by
 unfold bkOf
 rw [List.take_add_one, List.getElem?_eq_getElem h, List.flatMap_append, getD_at h]
 simp
theorem wS_get {l : List StoreT} {j : Nat} (h : j < l.length) : wStore (l.getD j default) ≤ wSum wStore l := by
 have h1 := wSum_succ wStore l j h
 rw [Int.toNat_natCast] at h1
 omega
theorem bk_w (d : DbT) : ∀ ns : List Str, wSum wStore (bkOf d ns) ≤ ns.length * wSum wStore d.2.2.1
 | [] => Nat.zero_le _
 | n :: ns => by
  have ih := bk_w d ns
  have e : bkOf d (n :: ns) = (if 0 ≤ fndS d n then [d.2.2.1.getD (fndS d n).toNat default] else []) ++ bkOf d ns := by unfold bkOf; rw [List.flatMap_cons]
  rw [e, List.length_cons, Nat.succ_mul]
  have hs : ∀ a b : List StoreT, wSum wStore (a ++ b) = wSum wStore a + wSum wStore b := fun a b => by simp [wSum]
  rw [hs]
  split
  ·rename_i h0
   have hlt := fndS_lt d n
   have h1 := wS_get (l := d.2.2.1) (j := (fndS d n).toNat) (by omega)
   have e1 : wSum wStore [d.2.2.1.getD (fndS d n).toNat default] = wStore (d.2.2.1.getD (fndS d n).toNat default) := by simp [wSum]
   rw [e1]; omega
  ·have e1 : wSum wStore [] = 0 := rfl
   rw [e1]; omega
theorem wset_eq {α : Type} {w : α → Nat} {y : α} : ∀ (l : List α) (i : Nat) (h : i < l.length), wSum w (l.set i y) + w l[i] = wSum w l + w y
 | [], _, h => by simp at h
 | a :: l, 0, _ => by
  have e1 : wSum w (y :: l) = w y + wSum w l := by simp [wSum]
  have e2 : wSum w (a :: l) = w a + wSum w l := by simp [wSum]
  show wSum w (y :: l) + w a = _
  omega
 | a :: l, i + 1, h => by
  have h' : i < l.length := by simpa using h
  have ih := wset_eq (w := w) (y := y) l i h'
  have e1 : wSum w (a :: l.set i y) = w a + wSum w (l.set i y) := by simp [wSum]
  have e2 : wSum w (a :: l) = w a + wSum w l := by simp [wSum]
  show wSum w (a :: l.set i y) + w l[i] = _
  omega
theorem qset_w {q : List TxT} {j : Nat} {t' : TxT} {B : Nat} (hj : j < q.length) (h : wTx t' ≤ wTx (q.getD j default) + B) : wTxQueue (q.set j t') ≤ wTxQueue q + B := by
 have h1 := wset_eq (w := wTx) (y := t') q j hj
 rw [List.getD_eq_getElem?_getD, List.getElem?_eq_getElem hj, Option.getD_some] at h
 have e1 : wTxQueue (q.set j t') = (q.set j t').length + wSum wTx (q.set j t') := rfl
 have e2 : wTxQueue q = q.length + wSum wTx q := rfl
 rw [List.length_set] at e1
 omega
theorem start_no {d : DbT} {q : List TxT} {i : Int} (h : canS q i = false) : startTx d q i = (q, false) := by unfold startTx; rw [if_neg (by rw [h]; decide)]
theorem start_yes {d : DbT} {q : List TxT} {i : Int} {t : TxT} (ht : t = q.getD i.toNat default) (h : canS q i = true) : startTx d q i = (q.set i.toNat (t.1, t.2.1, t.2.2.1, 1, bkOf d (scopeL t.2.1)), true) := by unfold startTx; rw [if_pos h, ht]
theorem can_in {q : List TxT} {i : Int} (h : canS q i = true) : 0 ≤ i ∧ i < (q.length : Int) := by
 unfold canS at h
 simp only [Bool.and_eq_true, decide_eq_true_eq] at h
 exact h.1.1
theorem start_wg (d : DbT) (q : List TxT) (i : Int) : wTxQueue q ≤ 1048576 → wDatabase d ≤ 1048576 → wTxQueue (startTx d q i).1 ≤ 1100000000000 := fun hq hd => by
 cases hc : canS q i with
 | false => rw [start_no hc]; dsimp only; omega
 | true =>
  rw [start_yes rfl hc]
  obtain ⟨h1, h2⟩ := can_in hc
  have hit : i.toNat < q.length := by omega
  refine Nat.le_trans (qset_w (B := 1099514000000) hit ?_) (by omega)
  have hw9 : wTx (q.getD i.toNat default) ≤ wTxQueue q := by
   have h3 := wset_eq (w := wTx) (y := q.getD i.toNat default) q i.toNat hit
   have e2 : wTxQueue q = q.length + wSum wTx q := rfl
   have h4 := (wSum_succ wTx q i.toNat hit).1
   have h5 := wSum_le wTx q (i.toNat + 1)
   rw [Int.toNat_natCast] at h4
   omega
  generalize q.getD i.toNat default = t at hw9
  have hw2 := bk_w d (scopeL t.2.1)
  have hw3 := bk_len d (scopeL t.2.1)
  have hw4 := scope_len t.2.1
  have hw6 : wDatabase d = d.1.size + (d.2.2.1.length + wSum wStore d.2.2.1) + wList wIndexDef d.2.2.2 := rfl
  have e1 : wTx (t.1, t.2.1, t.2.2.1, (1 : Int), bkOf d (scopeL t.2.1)) = wList wOp t.2.1 + ((bkOf d (scopeL t.2.1)).length + wSum wStore (bkOf d (scopeL t.2.1))) := rfl
  have e2 : wTx t = wList wOp t.2.1 + wList wStore t.2.2.2.2 := rfl
  have e3 : wList wOp t.2.1 = t.2.1.length + wSum wOp t.2.1 := rfl
  have hw7 : (scopeL t.2.1).length * wSum wStore d.2.2.1 ≤ 1048576 * 1048576 := Nat.mul_le_mul (by omega) (by omega)
  omega

end Go.Proofs.YtcgmpjedhbhplaaGreat

namespace Go.Proofs.YtcgmpjedhbhplaaGreat
open Go.RowKit
open Go.Proofs
set_option linter.unusedVariables false
set_option linter.unusedSimpArgs false
theorem ok_impl_StartTx {d : DbT} {q : List TxT} {i : Int} (hb : wDatabase d ≤ 549755813888) (hq : wList wTx q ≤ 549755813888) : KFn Tryz.prog 9 [.agg [(.dv [] (.str (d.1))), (.dv [] (.int .i64 (d.2.1))), (.dv [] (storesD (d.2.2.1))), (.dv [] (defsD (d.2.2.2)))], .agg [(.dv [] (txsD (q)))], .one (.dv [] (.int .i64 (i)))] (.tup [(true, [(.key 95031)]), (false, [(.dv [] (.bool ((startTx d q i).2)))])]) [(95031, some (kcOf false (txsD ((startTx d q i).1))))] := by
 refine ⟨fn_intro Tryz.func9 rfl Tryz.ntmps9 Tryz.results9 rfl (fun C => ?_)⟩
 have hwq : wList wTx q = q.length + wSum wTx q := rfl
 obtain ⟨t, ht⟩ : ∃ t, t = q.getD i.toNat default := ⟨_, rfl⟩
 have hwt : wTx t = wList wOp t.2.1 + wList wStore t.2.2.2.2 := rfl
 have hwo : wList wOp t.2.1 = t.2.1.length + wSum wOp t.2.1 := rfl
 have hwd : wDatabase d = d.1.size + wList wStore d.2.2.1 + wList wIndexDef d.2.2.2 := rfl
 have hws0 : wList wStore d.2.2.1 = d.2.2.1.length + wSum wStore d.2.2.1 := rfl
 refine yF 0 0 rfl rfl fun f0_0 => ?_
 refine yF 0 1 rfl rfl fun f0_1 => ?_
 refine yF 0 2 rfl rfl fun f0_2 => ?_
 refine yF 0 3 rfl rfl fun f0_3 => ?_
 refine yF 1 0 rfl rfl fun f1_0 => ?_
 refine ok_fact (x := .tmp 2) (ev_tmp rfl) fun f2 => ?_
 iterate 8 refine z ?_
 refine zK 95000 Tryz.call26 ?_ (hf := ok_impl_copyQueue (x := q) (by omega))
 iterate 7 refine z ?_
 refine zC Tryz.call27 ?_ (hf := ok_impl_CanStart (q := q) (i := i) )
 iterate 2 refine z ?_
 refine yQ rfl (fun c1 => ?_) fun c1 => ?_
 ·skip
  have hcan : canS q i = false := by simpa using c1
  iterate 5 refine z ?_
  rw [start_no hcan]
  refine ok_weak (σ' := ⟨[(6, .box 6 0), (7, .one (.dv [] (.bool (false))))], [(6, 33, [(.key 95031)])], [(95031, some (kcOf false (txsD (q))))]⟩) (weak_sub ⟨rfl, rfl, trivial⟩ ⟨rfl, trivial⟩ ⟨rfl, trivial⟩ rfl) ?_
  iterate 2 refine z ?_
  refine fin2 (res_cell hT rfl rfl rfl rfl) (res_tmp rfl) rfl rfl ?_
  first | exact ⟨rfl, rfl⟩ | skip
 ·skip
  have hcan : canS q i = true := by simpa using c1
  have hcb := can_in hcan
  have hit : i.toNat < q.length := by omega
  have htw := tx_w hit ht
  have hsl := scope_len t.2.1
  refine ok_kcs (k := 95031) (cs' := mid ((q.take (i).toNat).flatMap eTx) [.int .i64 (t.1), opsD (t.2.1), .int .i64 (t.2.2.1), .int .i64 (t.2.2.2.1), storesD (t.2.2.2.2)] ((q.drop ((i).toNat + 1)).flatMap eTx)) rfl (flat_open hit ht) ?_
  iterate 6 refine z ?_
  refine yO rfl rfl (pu_indexK (i := (i).toNat) hT rfl rfl rfl (ev_tmp rfl) rfl (ev_tmp rfl) (by omega) (by show _ < (((q)).length); omega)) rfl ?_
  iterate 4 refine z ?_
  refine yO rfl rfl (pu_nilE rfl (ev_tmp rfl)) rfl ?_
  refine z ?_
  refine o_storeE (js := []) (cs := mid ((q.take (i).toNat).flatMap eTx) [.int .i64 (t.1), opsD (t.2.1), .int .i64 (t.2.2.1), .int .i64 (1), storesD (t.2.2.2.2)] ((q.drop ((i).toNat + 1)).flatMap eTx)) hT rfl rfl rfl rfl (ev_tmp rfl) (ev_int (inR_lit rfl)) rfl rfl rfl rfl (ow_cons' (ow_dv rfl) ow_nil rfl) (by decide) (by decide) rfl (le_mid (off := ((i).toNat * 5 + 3)) (n := 1) (j := 3) (flat_pre (sz := 5) (fun _ => rfl) (Nat.le_of_lt hit)) (by omega) (Nat.le_of_ble_eq_true rfl)) (setR_mid (off := ((i).toNat * 5 + 3)) (j := 3) (flat_pre (sz := 5) (fun _ => rfl) (Nat.le_of_lt hit)) (by omega) rfl (Nat.le_of_ble_eq_true rfl)) ?_
  simp only [killT, killB, SV.kill, CV.kill, kk, Nat.reduceBEq]
  iterate 3 refine z ?_
  refine yO rfl rfl (pu_nilE rfl (ev_tmp rfl)) rfl ?_
  refine z ?_
  refine o_storeE (js := []) (cs := mid ((q.take (i).toNat).flatMap eTx) [.int .i64 (t.1), opsD (t.2.1), .int .i64 (t.2.2.1), .int .i64 (1), .sl 60 3 0 []] ((q.drop ((i).toNat + 1)).flatMap eTx)) hT rfl rfl rfl rfl (ev_tmp rfl) ev_nil rfl rfl rfl rfl (ow_cons' (ow_nilc (e := 60) (sz := 3) rfl) ow_nil rfl) (by decide) (by decide) rfl (le_mid (off := ((i).toNat * 5 + 4)) (n := 1) (j := 4) (flat_pre (sz := 5) (fun _ => rfl) (Nat.le_of_lt hit)) (by omega) (Nat.le_of_ble_eq_true rfl)) (setR_mid (off := ((i).toNat * 5 + 4)) (j := 4) (flat_pre (sz := 5) (fun _ => rfl) (Nat.le_of_lt hit)) (by omega) rfl (Nat.le_of_ble_eq_true rfl)) ?_
  simp only [killT, killB, SV.kill, CV.kill, kk, Nat.reduceBEq]
  iterate 4 refine z ?_
  refine yO rfl rfl (pu_nilE rfl (ev_tmp rfl)) rfl ?_
  refine z ?_
  refine yO rfl rfl (pu_loadE1 hT rfl rfl (ev_tmp rfl) rfl (get_mid (off := ((i).toNat * 5 + 1)) (j := 1) (flat_pre (sz := 5) (fun _ => rfl) (Nat.le_of_lt hit)) (by omega) rfl)) rfl ?_
  refine zK 0 Tryz.call28 ?_ (hf := ok_impl_ScopeOf (l := t.2.1) (by omega))
  refine yO rfl rfl (pu_lenKn (n := ((scopeL (t.2.1))).length) hT rfl rfl (ev_tmp rfl) rfl rfl) rfl ?_
  iterate 3 refine z ?_
  refine ok_weak (weak_view (d := 34) (dd := strsD (scopeL t.2.1)) rfl rfl (.refl _)) ?_
  refine ok_loop (ι := Nat) (fun zz => ⟨[(3, .box 3 0), (6, .box 6 0), (7, .one (.dv [] (.bool (false)))), (8, .box 8 0), (9, .eptr 95031 ((i).toNat * 5)), (34, .one (.dv [95000] (strsD (scopeL t.2.1)))), (35, .one (.dv [] (.int .i64 ((((scopeL (t.2.1))).length : Int))))), (36, .one (.dv [] (.int .i64 ((zz : Int)))))], [(3, 39, [(.dv [] (.str (d.1))), (.dv [] (.int .i64 (d.2.1))), (.dv [] (storesD (d.2.2.1))), (.dv [] (defsD (d.2.2.2)))]), (6, 33, [.nil]), (8, 33, [(.key 95031)])], [(95031, some (kcOf false (.sl 54 5 (q.length) (mid ((q.take (i).toNat).flatMap eTx) [.int .i64 (t.1), opsD (t.2.1), .int .i64 (t.2.2.1), .int .i64 (1), storesD ((bkOf d ((scopeL t.2.1).take zz)))] ((q.drop ((i).toNat + 1)).flatMap eTx))))), (95000, some (kcOf false (strsD (scopeL (t.2.1)))))]⟩) (fun zz => zz ≤ (scopeL t.2.1).length) (fun zz => (scopeL t.2.1).length - zz) (0) ?_ (weak_sub ⟨rfl, rfl, rfl, rfl, rfl, rfl, rfl, rfl, trivial⟩ ⟨rfl, rfl, rfl, trivial⟩ ⟨rfl, rfl, trivial⟩ rfl) (fun zz hx => ?_)
  ·exact Nat.zero_le _
  obtain ⟨k, rfl⟩ : ∃ v, v = zz := ⟨_, rfl⟩
  replace hx : k ≤ (scopeL t.2.1).length := hx
  show Ok _ _ _ _ _ (⟨[(3, .box 3 0), (6, .box 6 0), (7, .one (.dv [] (.bool (false)))), (8, .box 8 0), (9, .eptr 95031 ((i).toNat * 5)), (34, .one (.dv [95000] (strsD (scopeL t.2.1)))), (35, .one (.dv [] (.int .i64 ((((scopeL (t.2.1))).length : Int))))), (36, .one (.dv [] (.int .i64 ((k : Int)))))], [(3, 39, [(.dv [] (.str (d.1))), (.dv [] (.int .i64 (d.2.1))), (.dv [] (storesD (d.2.2.1))), (.dv [] (defsD (d.2.2.2)))]), (6, 33, [.nil]), (8, 33, [(.key 95031)])], [(95031, some (kcOf false (.sl 54 5 (q.length) (mid ((q.take (i).toNat).flatMap eTx) [.int .i64 (t.1), opsD (t.2.1), .int .i64 (t.2.2.1), .int .i64 (1), storesD ((bkOf d ((scopeL t.2.1).take k)))] ((q.drop ((i).toNat + 1)).flatMap eTx))))), (95000, some (kcOf false (strsD (scopeL (t.2.1)))))]⟩ : St)
  iterate 3 refine z ?_
  refine ok_seq ?_
  refine yQ rfl (fun c2 => ?_) fun c2 => ?_
  ·skip
   have d2 := of_decide_eq_true c2
   have hn2 : k < (scopeL t.2.1).length := by omega
   have hbl := bk_len d ((scopeL t.2.1).take k)
   rw [List.length_take] at hbl
   iterate 12 refine z ?_
   refine zC Tryz.call29 ?_ (hf := ok_impl_FindStore (x := d) (n := ((scopeL t.2.1).getD (k : Int).toNat default)))
   iterate 6 refine z ?_
   refine yQ rfl (fun c3 => ?_) fun c3 => ?_
   ·skip
    have d3 := of_decide_eq_true c3
    have hlt : (findI (hasName ((scopeL t.2.1).getD (k : Int).toNat default)) d.2.2.1 0) < d.2.2.1.length := fndS_lt d ((scopeL t.2.1).getD (k : Int).toNat default)
    have hkn : (findI (hasName ((scopeL t.2.1).getD (k : Int).toNat default)) d.2.2.1 0).toNat < d.2.2.1.length := by omega
    have hws := wS_get hkn
    have hbs := bk_step (d := d) hn2
    rw [if_pos (show 0 ≤ fndS d ((scopeL t.2.1).getD (k : Int).toNat default) from d3)] at hbs
    refine ok_regionK 95031 [0, 1, 2, 3, 4, 5, 6, 7, 8, 9, 10, 11, 12, 13, 14] (oB := [3, 6, 8]) (oK := [95000]) (by kernel_rfl) rfl rfl rfl ?_
    refine k_take 0 rfl (by kernel_rfl) rfl rfl (pu_move (.inl rfl) (ev_tmp rfl)) rfl rfl rfl rfl ?_
    refine k_take 1 rfl (by kernel_rfl) rfl rfl (pu_move (.inl rfl) (ev_tmp rfl)) rfl rfl rfl rfl ?_
    refine k_take 2 rfl (by kernel_rfl) rfl rfl (pu_nilE rfl (ev_tmp rfl)) rfl rfl rfl rfl ?_
    refine k_take 3 rfl (by kernel_rfl) rfl rfl (pu_fieldE hT rfl rfl rfl (ev_tmp rfl)) rfl rfl rfl rfl ?_
    refine k_take 5 rfl (by kernel_rfl) rfl rfl (pu_fieldBox hT rfl rfl rfl (ev_tmp rfl)) rfl rfl rfl rfl ?_
    refine k_take 6 rfl (by kernel_rfl) rfl rfl (pu_loadBox1 hT rfl rfl (ev_tmp rfl) rfl rfl) rfl rfl rfl rfl ?_
    refine k_take 7 rfl (by kernel_rfl) rfl rfl (pu_move (.inl rfl) (ev_tmp rfl)) rfl rfl rfl rfl ?_
    refine k_take 8 rfl (by kernel_rfl) rfl rfl (pu_indexD hT rfl rfl rfl (ev_tmp rfl) (ev_tmp rfl) (fun _ => rfl) (by omega) (by omega)) rfl rfl rfl rfl ?_
    refine k_take 9 rfl (by kernel_rfl) rfl rfl (pu_loadRefA hT rfl rfl (ev_tmp rfl) rfl) rfl rfl rfl rfl ?_
    refine k_split 4 [10] (by kernel_rfl) ⟨?_, ?_, trivial⟩
    ·skip
     refine kj_pure 4 rfl rfl rfl (pu_loadE1 hT rfl rfl (ev_tmp rfl) rfl (get_mid (off := ((i).toNat * 5 + 4)) (j := 4) (flat_pre (sz := 5) (fun _ => rfl) (Nat.le_of_lt hit)) (by omega) rfl)) rfl rfl rfl rfl rfl ?_
     refine k_split 10 [] (by kernel_rfl) ⟨?_, trivial⟩
     ·skip
      refine kj_callK 96970 10 rfl rfl rfl rfl Tryz.call30 (ok_impl_copyStore (x := (d.2.2.1.getD (findI (hasName ((scopeL t.2.1).getD (k : Int).toNat default)) d.2.2.1 0).toNat default)) (by omega)) (as_cons (ev_tmp rfl) (ag_agg (ag_cons ac_dv (ag_cons ac_dv (ag_cons ac_dv ag_nil)))) as_nil) rfl rfl rfl rfl rfl rfl ?_
      refine k_split 11 [] (by kernel_rfl) ⟨?_, trivial⟩
      ·skip
       refine kj_buildN (k := 56) (js := [97000]) 11 hT rfl rfl rfl rfl rfl rfl rfl rfl rfl rfl rfl rfl (ep_cons (ev_tmp rfl) rfl rfl rfl ep_nil) (ow_cons' (ow_dv rfl) (ow_cons' (ow_key rfl) (ow_cons' (ow_dv rfl) ow_nil rfl) rfl) rfl) (by decide) (by decide) rfl rfl rfl rfl rfl ?_
       simp only [killT, killB, SV.kill, CV.kill, kk, Nat.reduceBEq]
       refine k_split 12 [] (by kernel_rfl) ⟨?_, trivial⟩
       ·skip
        refine kj_appN (t := 49) (j := 56) (ccs := mid ((q.take (i).toNat).flatMap eTx) [.int .i64 (t.1), opsD (t.2.1), .int .i64 (t.2.2.1), .int .i64 (1), .hole] ((q.drop ((i).toNat + 1)).flatMap eTx)) (n2 := (bkOf d ((scopeL t.2.1).take (k + 1))).length) (cs2 := (bkOf d ((scopeL t.2.1).take (k + 1))).flatMap eStore) 98000 12 hT rfl rfl rfl rfl rfl rfl rfl rfl rfl rfl (get_mid (off := ((i).toNat * 5 + 4)) (j := 4) (flat_pre (sz := 5) (fun _ => rfl) (Nat.le_of_lt hit)) (by omega) rfl) rfl (set_mid (off := ((i).toNat * 5 + 4)) (j := 4) (flat_pre (sz := 5) (fun _ => rfl) (Nat.le_of_lt hit)) (by omega) rfl (Nat.lt_of_lt_of_le (Nat.lt_succ_self _) (Nat.le_of_ble_eq_true rfl))) (ev_tmp rfl) rfl rfl rfl (by dsimp only [kcOf]; omega) (by dsimp only [kcOf]; omega) (by rw [hbs, List.length_append]; rfl) (by rw [hbs, List.flatMap_append]; rfl) rfl rfl ?_
        simp only [killT, killB, SV.kill, CV.kill, kk, Nat.reduceBEq]
        refine k_take 13 rfl (by kernel_rfl) rfl rfl (pu_nilE rfl (ev_tmp rfl)) rfl rfl rfl rfl ?_
        refine k_take 14 rfl (by kernel_rfl) rfl rfl (pu_fieldE hT rfl rfl rfl (ev_tmp rfl)) rfl rfl rfl rfl ?_
        refine k_chain [15] rfl rfl (by kernel_rfl) ?_
        refine o_storeE (js := [98000]) (cs := mid ((q.take (i).toNat).flatMap eTx) [.int .i64 (t.1), opsD (t.2.1), .int .i64 (t.2.2.1), .int .i64 (1), .sl 60 3 ((bkOf d ((scopeL t.2.1).take (k + 1))).length) ((bkOf d ((scopeL t.2.1).take (k + 1))).flatMap eStore)] ((q.drop ((i).toNat + 1)).flatMap eTx)) hT rfl rfl rfl rfl (ev_tmp rfl) (ev_tmp rfl) rfl rfl rfl rfl (ow_cons' (ow_key rfl) ow_nil rfl) (by decide) (by decide) rfl (le_mid (off := ((i).toNat * 5 + 4)) (n := 1) (j := 4) (flat_pre (sz := 5) (fun _ => rfl) (Nat.le_of_lt hit)) (by omega) (Nat.le_of_ble_eq_true rfl)) (setR_mid (off := ((i).toNat * 5 + 4)) (j := 4) (flat_pre (sz := 5) (fun _ => rfl) (Nat.le_of_lt hit)) (by omega) rfl (Nat.le_of_ble_eq_true rfl)) ?_
        simp only [killT, killB, SV.kill, CV.kill, kk, Nat.reduceBEq]
        refine ops_nil ?_
        iterate 2 refine z ?_
        refine ok_region ?_
        iterate 3 refine z ?_
        refine ⟨k + 1, ?_, ?_, weak_sub ⟨rfl, rfl, rfl, rfl, rfl, rfl, rfl, rfl, trivial⟩ ⟨rfl, rfl, rfl, trivial⟩ ⟨rfl, rfl, trivial⟩ rfl⟩
        ·omega
        ·omega
    ·skip
     refine kj_callK 96970 10 rfl rfl rfl rfl Tryz.call30 (ok_impl_copyStore (x := (d.2.2.1.getD (findI (hasName ((scopeL t.2.1).getD (k : Int).toNat default)) d.2.2.1 0).toNat default)) (by omega)) (as_cons (ev_tmp rfl) (ag_agg (ag_cons ac_dv (ag_cons ac_dv (ag_cons ac_dv ag_nil)))) as_nil) rfl rfl rfl rfl rfl rfl ?_
     refine k_split 4 [11] (by kernel_rfl) ⟨?_, ?_, trivial⟩
     ·skip
      refine kj_pure 4 rfl rfl rfl (pu_loadE1 hT rfl rfl (ev_tmp rfl) rfl (get_mid (off := ((i).toNat * 5 + 4)) (j := 4) (flat_pre (sz := 5) (fun _ => rfl) (Nat.le_of_lt hit)) (by omega) rfl)) rfl rfl rfl rfl rfl ?_
      refine k_split 11 [] (by kernel_rfl) ⟨?_, trivial⟩
      ·skip
       refine kj_buildN (k := 56) (js := [97000]) 11 hT rfl rfl rfl rfl rfl rfl rfl rfl rfl rfl rfl rfl (ep_cons (ev_tmp rfl) rfl rfl rfl ep_nil) (ow_cons' (ow_dv rfl) (ow_cons' (ow_key rfl) (ow_cons' (ow_dv rfl) ow_nil rfl) rfl) rfl) (by decide) (by decide) rfl rfl rfl rfl rfl ?_
       simp only [killT, killB, SV.kill, CV.kill, kk, Nat.reduceBEq]
       refine k_split 12 [] (by kernel_rfl) ⟨?_, trivial⟩
       ·skip
        refine kj_appN (t := 49) (j := 56) (ccs := mid ((q.take (i).toNat).flatMap eTx) [.int .i64 (t.1), opsD (t.2.1), .int .i64 (t.2.2.1), .int .i64 (1), .hole] ((q.drop ((i).toNat + 1)).flatMap eTx)) (n2 := (bkOf d ((scopeL t.2.1).take (k + 1))).length) (cs2 := (bkOf d ((scopeL t.2.1).take (k + 1))).flatMap eStore) 98000 12 hT rfl rfl rfl rfl rfl rfl rfl rfl rfl rfl (get_mid (off := ((i).toNat * 5 + 4)) (j := 4) (flat_pre (sz := 5) (fun _ => rfl) (Nat.le_of_lt hit)) (by omega) rfl) rfl (set_mid (off := ((i).toNat * 5 + 4)) (j := 4) (flat_pre (sz := 5) (fun _ => rfl) (Nat.le_of_lt hit)) (by omega) rfl (Nat.lt_of_lt_of_le (Nat.lt_succ_self _) (Nat.le_of_ble_eq_true rfl))) (ev_tmp rfl) rfl rfl rfl (by dsimp only [kcOf]; omega) (by dsimp only [kcOf]; omega) (by rw [hbs, List.length_append]; rfl) (by rw [hbs, List.flatMap_append]; rfl) rfl rfl ?_
        simp only [killT, killB, SV.kill, CV.kill, kk, Nat.reduceBEq]
        refine k_take 13 rfl (by kernel_rfl) rfl rfl (pu_nilE rfl (ev_tmp rfl)) rfl rfl rfl rfl ?_
        refine k_take 14 rfl (by kernel_rfl) rfl rfl (pu_fieldE hT rfl rfl rfl (ev_tmp rfl)) rfl rfl rfl rfl ?_
        refine k_chain [15] rfl rfl (by kernel_rfl) ?_
        refine o_storeE (js := [98000]) (cs := mid ((q.take (i).toNat).flatMap eTx) [.int .i64 (t.1), opsD (t.2.1), .int .i64 (t.2.2.1), .int .i64 (1), .sl 60 3 ((bkOf d ((scopeL t.2.1).take (k + 1))).length) ((bkOf d ((scopeL t.2.1).take (k + 1))).flatMap eStore)] ((q.drop ((i).toNat + 1)).flatMap eTx)) hT rfl rfl rfl rfl (ev_tmp rfl) (ev_tmp rfl) rfl rfl rfl rfl (ow_cons' (ow_key rfl) ow_nil rfl) (by decide) (by decide) rfl (le_mid (off := ((i).toNat * 5 + 4)) (n := 1) (j := 4) (flat_pre (sz := 5) (fun _ => rfl) (Nat.le_of_lt hit)) (by omega) (Nat.le_of_ble_eq_true rfl)) (setR_mid (off := ((i).toNat * 5 + 4)) (j := 4) (flat_pre (sz := 5) (fun _ => rfl) (Nat.le_of_lt hit)) (by omega) rfl (Nat.le_of_ble_eq_true rfl)) ?_
        simp only [killT, killB, SV.kill, CV.kill, kk, Nat.reduceBEq]
        refine ops_nil ?_
        iterate 2 refine z ?_
        refine ok_region ?_
        iterate 3 refine z ?_
        refine ⟨k + 1, ?_, ?_, weak_sub ⟨rfl, rfl, rfl, rfl, rfl, rfl, rfl, rfl, trivial⟩ ⟨rfl, rfl, rfl, trivial⟩ ⟨rfl, rfl, trivial⟩ rfl⟩
        ·omega
        ·omega
     ·skip
      refine kj_buildN (k := 56) (js := [97000]) 11 hT rfl rfl rfl rfl rfl rfl rfl rfl rfl rfl rfl rfl (ep_cons (ev_tmp rfl) rfl rfl rfl ep_nil) (ow_cons' (ow_dv rfl) (ow_cons' (ow_key rfl) (ow_cons' (ow_dv rfl) ow_nil rfl) rfl) rfl) (by decide) (by decide) rfl rfl rfl rfl rfl ?_
      simp only [killT, killB, SV.kill, CV.kill, kk, Nat.reduceBEq]
      refine k_split 4 [] (by kernel_rfl) ⟨?_, trivial⟩
      ·skip
       refine kj_pure 4 rfl rfl rfl (pu_loadE1 hT rfl rfl (ev_tmp rfl) rfl (get_mid (off := ((i).toNat * 5 + 4)) (j := 4) (flat_pre (sz := 5) (fun _ => rfl) (Nat.le_of_lt hit)) (by omega) rfl)) rfl rfl rfl rfl rfl ?_
       refine k_split 12 [] (by kernel_rfl) ⟨?_, trivial⟩
       ·skip
        refine kj_appN (t := 49) (j := 56) (ccs := mid ((q.take (i).toNat).flatMap eTx) [.int .i64 (t.1), opsD (t.2.1), .int .i64 (t.2.2.1), .int .i64 (1), .hole] ((q.drop ((i).toNat + 1)).flatMap eTx)) (n2 := (bkOf d ((scopeL t.2.1).take (k + 1))).length) (cs2 := (bkOf d ((scopeL t.2.1).take (k + 1))).flatMap eStore) 98000 12 hT rfl rfl rfl rfl rfl rfl rfl rfl rfl rfl (get_mid (off := ((i).toNat * 5 + 4)) (j := 4) (flat_pre (sz := 5) (fun _ => rfl) (Nat.le_of_lt hit)) (by omega) rfl) rfl (set_mid (off := ((i).toNat * 5 + 4)) (j := 4) (flat_pre (sz := 5) (fun _ => rfl) (Nat.le_of_lt hit)) (by omega) rfl (Nat.lt_of_lt_of_le (Nat.lt_succ_self _) (Nat.le_of_ble_eq_true rfl))) (ev_tmp rfl) rfl rfl rfl (by dsimp only [kcOf]; omega) (by dsimp only [kcOf]; omega) (by rw [hbs, List.length_append]; rfl) (by rw [hbs, List.flatMap_append]; rfl) rfl rfl ?_
        simp only [killT, killB, SV.kill, CV.kill, kk, Nat.reduceBEq]
        refine k_take 13 rfl (by kernel_rfl) rfl rfl (pu_nilE rfl (ev_tmp rfl)) rfl rfl rfl rfl ?_
        refine k_take 14 rfl (by kernel_rfl) rfl rfl (pu_fieldE hT rfl rfl rfl (ev_tmp rfl)) rfl rfl rfl rfl ?_
        refine k_chain [15] rfl rfl (by kernel_rfl) ?_
        refine o_storeE (js := [98000]) (cs := mid ((q.take (i).toNat).flatMap eTx) [.int .i64 (t.1), opsD (t.2.1), .int .i64 (t.2.2.1), .int .i64 (1), .sl 60 3 ((bkOf d ((scopeL t.2.1).take (k + 1))).length) ((bkOf d ((scopeL t.2.1).take (k + 1))).flatMap eStore)] ((q.drop ((i).toNat + 1)).flatMap eTx)) hT rfl rfl rfl rfl (ev_tmp rfl) (ev_tmp rfl) rfl rfl rfl rfl (ow_cons' (ow_key rfl) ow_nil rfl) (by decide) (by decide) rfl (le_mid (off := ((i).toNat * 5 + 4)) (n := 1) (j := 4) (flat_pre (sz := 5) (fun _ => rfl) (Nat.le_of_lt hit)) (by omega) (Nat.le_of_ble_eq_true rfl)) (setR_mid (off := ((i).toNat * 5 + 4)) (j := 4) (flat_pre (sz := 5) (fun _ => rfl) (Nat.le_of_lt hit)) (by omega) rfl (Nat.le_of_ble_eq_true rfl)) ?_
        simp only [killT, killB, SV.kill, CV.kill, kk, Nat.reduceBEq]
        refine ops_nil ?_
        iterate 2 refine z ?_
        refine ok_region ?_
        iterate 3 refine z ?_
        refine ⟨k + 1, ?_, ?_, weak_sub ⟨rfl, rfl, rfl, rfl, rfl, rfl, rfl, rfl, trivial⟩ ⟨rfl, rfl, rfl, trivial⟩ ⟨rfl, rfl, trivial⟩ rfl⟩
        ·omega
        ·omega
   ·skip
    have d3 := of_decide_eq_false c3
    have hbs := bk_step (d := d) hn2
    rw [if_neg (show ¬ 0 ≤ fndS d ((scopeL t.2.1).getD (k : Int).toNat default) from d3), List.append_nil] at hbs
    iterate 3 refine z ?_
    refine ok_region ?_
    iterate 3 refine z ?_
    refine ⟨k + 1, ?_, ?_, weak_sub ⟨rfl, rfl, rfl, rfl, rfl, rfl, rfl, rfl, trivial⟩ ⟨rfl, rfl, rfl, trivial⟩ ⟨(congrArg (fun z => some (some (KC.mk false 54 5 q.length (mid ((q.take (i).toNat).flatMap eTx) [.int .i64 (t.1), opsD (t.2.1), .int .i64 (t.2.2.1), .int .i64 (1), storesD (z)] ((q.drop ((i).toNat + 1)).flatMap eTx))))) hbs.symm), rfl, trivial⟩ rfl⟩
    ·omega
    ·omega
  ·skip
   have d2 := of_decide_eq_false c2
   iterate 10 refine z ?_
   have hall : (scopeL t.2.1).take k = (scopeL t.2.1) := List.take_of_length_le (by omega)
   rw [start_yes ht hcan]
   refine ok_weak (σ' := ⟨[(6, .box 6 0), (7, .one (.dv [] (.bool (true))))], [(6, 33, [(.key 95031)])], [(95031, some (kcOf false (txsD (q.set (i).toNat (t.1, t.2.1, t.2.2.1, (1 : Int), bkOf d (scopeL t.2.1))))))]⟩) (weak_sub ⟨rfl, rfl, trivial⟩ ⟨rfl, trivial⟩ ⟨(by rw [hall]; exact (fin_set hit (t.1, t.2.1, t.2.2.1, (1 : Int), bkOf d (scopeL t.2.1)))), trivial⟩ rfl) ?_
   refine z ?_
   refine fin2 (res_cell hT rfl rfl rfl rfl) (res_tmp rfl) rfl rfl ?_
   first | exact ⟨rfl, rfl⟩ | skip
theorem ok_spec_StartTx {d : DbT} {q : List TxT} {i : Int} (hb : wDatabase d ≤ 549755813888) (hq : wList wTx q ≤ 549755813888) : KFn Tryz.prog 6 [.agg [(.dv [] (.str (d.1))), (.dv [] (.int .i64 (d.2.1))), (.dv [] (storesD (d.2.2.1))), (.dv [] (defsD (d.2.2.2)))], .agg [(.dv [] (txsD (q)))], .one (.dv [] (.int .i64 (i)))] (.tup [(true, [(.key 95031)]), (false, [(.dv [] (.bool ((startTx d q i).2)))])]) [(95031, some (kcOf false (txsD ((startTx d q i).1))))] := by
 refine ⟨fn_intro Tryz.func6 rfl Tryz.ntmps6 Tryz.results6 rfl (fun C => ?_)⟩
 have hwq : wList wTx q = q.length + wSum wTx q := rfl
 obtain ⟨t, ht⟩ : ∃ t, t = q.getD i.toNat default := ⟨_, rfl⟩
 have hwt : wTx t = wList wOp t.2.1 + wList wStore t.2.2.2.2 := rfl
 have hwo : wList wOp t.2.1 = t.2.1.length + wSum wOp t.2.1 := rfl
 have hwd : wDatabase d = d.1.size + wList wStore d.2.2.1 + wList wIndexDef d.2.2.2 := rfl
 have hws0 : wList wStore d.2.2.1 = d.2.2.1.length + wSum wStore d.2.2.1 := rfl
 refine yF 0 0 rfl rfl fun f0_0 => ?_
 refine yF 0 1 rfl rfl fun f0_1 => ?_
 refine yF 0 2 rfl rfl fun f0_2 => ?_
 refine yF 0 3 rfl rfl fun f0_3 => ?_
 refine yF 1 0 rfl rfl fun f1_0 => ?_
 refine ok_fact (x := .tmp 2) (ev_tmp rfl) fun f2 => ?_
 iterate 8 refine z ?_
 refine zK 95000 Tryz.call18 ?_ (hf := ok_spec_l10Copy (x := q) (by omega))
 iterate 7 refine z ?_
 refine zC Tryz.call19 ?_ (hf := ok_spec_CanStart (q := q) (i := i) )
 iterate 2 refine z ?_
 refine yQ rfl (fun c1 => ?_) fun c1 => ?_
 ·skip
  have hcan : canS q i = false := by simpa using c1
  iterate 5 refine z ?_
  rw [start_no hcan]
  refine ok_weak (σ' := ⟨[(6, .box 6 0), (7, .one (.dv [] (.bool (false))))], [(6, 33, [(.key 95031)])], [(95031, some (kcOf false (txsD (q))))]⟩) (weak_sub ⟨rfl, rfl, trivial⟩ ⟨rfl, trivial⟩ ⟨rfl, trivial⟩ rfl) ?_
  iterate 2 refine z ?_
  refine fin2 (res_cell hT rfl rfl rfl rfl) (res_tmp rfl) rfl rfl ?_
  first | exact ⟨rfl, rfl⟩ | skip
 ·skip
  have hcan : canS q i = true := by simpa using c1
  have hcb := can_in hcan
  have hit : i.toNat < q.length := by omega
  have htw := tx_w hit ht
  have hsl := scope_len t.2.1
  have hSQ : (scopeL (q.getD (i).toNat default).2.1) = (scopeL t.2.1) := by rw [ht]
  rw [← hSQ] at hsl
  refine ok_kcs (k := 95031) (cs' := mid ((q.take (i).toNat).flatMap eTx) [.int .i64 (t.1), opsD (t.2.1), .int .i64 (t.2.2.1), .int .i64 (t.2.2.2.1), storesD (t.2.2.2.2)] ((q.drop ((i).toNat + 1)).flatMap eTx)) rfl (flat_open hit ht) ?_
  iterate 6 refine z ?_
  refine yO rfl rfl (pu_indexK (i := (i).toNat) hT rfl rfl rfl (ev_tmp rfl) rfl (ev_tmp rfl) (by omega) (by show _ < (((q)).length); omega)) rfl ?_
  refine z ?_
  refine o_storeE (js := []) (cs := mid ((q.take (i).toNat).flatMap eTx) [.int .i64 (t.1), opsD (t.2.1), .int .i64 (t.2.2.1), .int .i64 (1), storesD (t.2.2.2.2)] ((q.drop ((i).toNat + 1)).flatMap eTx)) hT rfl rfl rfl rfl (ev_tmp rfl) (ev_int (inR_lit rfl)) rfl rfl rfl rfl (ow_cons' (ow_dv rfl) ow_nil rfl) (by decide) (by decide) rfl (le_mid (off := ((i).toNat * 5 + 3)) (n := 1) (j := 3) (flat_pre (sz := 5) (fun _ => rfl) (Nat.le_of_lt hit)) (by omega) (Nat.le_of_ble_eq_true rfl)) (setR_mid (off := ((i).toNat * 5 + 3)) (j := 3) (flat_pre (sz := 5) (fun _ => rfl) (Nat.le_of_lt hit)) (by omega) rfl (Nat.le_of_ble_eq_true rfl)) ?_
  simp only [killT, killB, SV.kill, CV.kill, kk, Nat.reduceBEq]
  iterate 5 refine z ?_
  refine o_build0 (k := 96000) hT rfl rfl rfl rfl rfl rfl rfl rfl ?_
  refine yO rfl rfl (pu_indexK (i := (i).toNat) hT rfl rfl rfl (ev_tmp rfl) rfl (ev_tmp rfl) (by omega) (by show _ < (((q)).length); omega)) rfl ?_
  refine z ?_
  refine o_storeE (js := [96000]) (cs := mid ((q.take (i).toNat).flatMap eTx) [.int .i64 (t.1), opsD (t.2.1), .int .i64 (t.2.2.1), .int .i64 (1), .sl 60 3 (0) ([])] ((q.drop ((i).toNat + 1)).flatMap eTx)) hT rfl rfl rfl rfl (ev_tmp rfl) (ev_tmp rfl) rfl rfl rfl rfl (ow_cons' (ow_key rfl) ow_nil rfl) (by decide) (by decide) rfl (le_mid (off := ((i).toNat * 5 + 4)) (n := 1) (j := 4) (flat_pre (sz := 5) (fun _ => rfl) (Nat.le_of_lt hit)) (by omega) (Nat.le_of_ble_eq_true rfl)) (setR_mid (off := ((i).toNat * 5 + 4)) (j := 4) (flat_pre (sz := 5) (fun _ => rfl) (Nat.le_of_lt hit)) (by omega) rfl (Nat.le_of_ble_eq_true rfl)) ?_
  simp only [killT, killB, SV.kill, CV.kill, kk, Nat.reduceBEq]
  iterate 8 refine z ?_
  refine zK 0 Tryz.call20 ?_ (hf := ok_spec_ScopeOf (l := (q.getD (i).toNat default).2.1) (by rw [← ht]; omega))
  iterate 7 refine z ?_
  refine ok_loop (ι := Nat) (fun zz => ⟨[(2, .one (.dv [] (.int .i64 (i)))), (3, .box 3 0), (6, .box 6 0), (7, .one (.dv [] (.bool (false)))), (8, .box 8 0), (9, .one (.key 95000)), (10, .one (.dv [] (.int .i64 ((zz : Int)))))], [(3, 39, [(.dv [] (.str (d.1))), (.dv [] (.int .i64 (d.2.1))), (.dv [] (storesD (d.2.2.1))), (.dv [] (defsD (d.2.2.2)))]), (6, 33, [.nil]), (8, 33, [(.key 95031)])], [(95031, some (kcOf false (.sl 54 5 (q.length) (mid ((q.take (i).toNat).flatMap eTx) [.int .i64 (t.1), opsD (t.2.1), .int .i64 (t.2.2.1), .int .i64 (1), storesD ((bkOf d ((scopeL (q.getD (i).toNat default).2.1).take zz)))] ((q.drop ((i).toNat + 1)).flatMap eTx))))), (95000, some (kcOf false (strsD (scopeL ((q.getD (i).toNat default).2.1)))))]⟩) (fun zz => zz ≤ (scopeL (q.getD (i).toNat default).2.1).length) (fun zz => (scopeL (q.getD (i).toNat default).2.1).length - zz) (0) ?_ (weak_sub ⟨rfl, rfl, rfl, rfl, rfl, rfl, rfl, trivial⟩ ⟨rfl, rfl, rfl, trivial⟩ ⟨rfl, rfl, trivial⟩ rfl) (fun zz hx => ?_)
  ·exact Nat.zero_le _
  obtain ⟨k, rfl⟩ : ∃ v, v = zz := ⟨_, rfl⟩
  replace hx : k ≤ (scopeL (q.getD (i).toNat default).2.1).length := hx
  show Ok _ _ _ _ _ (⟨[(2, .one (.dv [] (.int .i64 (i)))), (3, .box 3 0), (6, .box 6 0), (7, .one (.dv [] (.bool (false)))), (8, .box 8 0), (9, .one (.key 95000)), (10, .one (.dv [] (.int .i64 ((k : Int)))))], [(3, 39, [(.dv [] (.str (d.1))), (.dv [] (.int .i64 (d.2.1))), (.dv [] (storesD (d.2.2.1))), (.dv [] (defsD (d.2.2.2)))]), (6, 33, [.nil]), (8, 33, [(.key 95031)])], [(95031, some (kcOf false (.sl 54 5 (q.length) (mid ((q.take (i).toNat).flatMap eTx) [.int .i64 (t.1), opsD (t.2.1), .int .i64 (t.2.2.1), .int .i64 (1), storesD ((bkOf d ((scopeL (q.getD (i).toNat default).2.1).take k)))] ((q.drop ((i).toNat + 1)).flatMap eTx))))), (95000, some (kcOf false (strsD (scopeL ((q.getD (i).toNat default).2.1)))))]⟩ : St)
  iterate 4 refine z ?_
  refine yO rfl rfl (pu_lenKn (n := ((scopeL ((q.getD (i).toNat default).2.1))).length) hT rfl rfl (ev_tmp rfl) rfl rfl) rfl ?_
  iterate 2 refine z ?_
  refine yQ rfl (fun c2 => ?_) fun c2 => ?_
  ·skip
   have d2 := of_decide_eq_true c2
   have hn2 : k < (scopeL (q.getD (i).toNat default).2.1).length := by omega
   have hbl := bk_len d ((scopeL (q.getD (i).toNat default).2.1).take k)
   rw [List.length_take] at hbl
   iterate 4 refine z ?_
   refine ok_seq ?_
   refine ok_regionD (oB := [3, 6, 8]) (oK := [95000, 95031]) (by kernel_rfl) rfl rfl ?_
   refine zD 0 ?_
   refine d_take 1 rfl (by kernel_rfl) rfl rfl (pu_move (v := .one (.dv [95000] (strsD (scopeL (q.getD (i).toNat default).2.1)))) (.inl rfl) (ev_keyv' (ev_tmp rfl) rfl rfl)) rfl rfl rfl rfl ?_
   refine zD 2 ?_
   refine zD 3 ?_
   refine zD 4 ?_
   refine d_call 5 rfl (by kernel_rfl) rfl rfl rfl Tryz.call21 (ok_spec_FindStore (x := d) (n := ((scopeL (q.getD (i).toNat default).2.1).getD (k : Int).toNat default))) (as_cons (ev_tmp rfl) (ag_agg (ag_cons ac_dv (ag_cons ac_dv (ag_cons ac_dv (ag_cons ac_dv ag_nil))))) (as_cons (ev_tmp rfl) (ag_one ac_dv) as_nil)) rfl rfl rfl rfl ?_
   refine zD 6 ?_
   refine d_done (by kernel_rfl) ?_
   iterate 5 refine z ?_
   refine yQ rfl (fun c3 => ?_) fun c3 => ?_
   ·skip
    have d3 := of_decide_eq_true c3
    have hlt : (findI (hasName ((scopeL (q.getD (i).toNat default).2.1).getD (k : Int).toNat default)) d.2.2.1 0) < d.2.2.1.length := fndS_lt d ((scopeL (q.getD (i).toNat default).2.1).getD (k : Int).toNat default)
    have hkn : (findI (hasName ((scopeL (q.getD (i).toNat default).2.1).getD (k : Int).toNat default)) d.2.2.1 0).toNat < d.2.2.1.length := by omega
    have hws := wS_get hkn
    have hbs := bk_step (d := d) hn2
    rw [if_pos (show 0 ≤ fndS d ((scopeL (q.getD (i).toNat default).2.1).getD (k : Int).toNat default) from d3)] at hbs
    refine ok_regionK 95031 [0, 1, 2, 3, 4, 5, 6, 7, 8, 9, 10, 11, 12, 13, 14, 15, 16, 17, 18] (oB := [3, 6, 8]) (oK := [95000]) (by kernel_rfl) rfl rfl rfl ?_
    refine k_take 0 rfl (by kernel_rfl) rfl rfl (pu_fieldBox hT rfl rfl rfl (ev_tmp rfl)) rfl rfl rfl rfl ?_
    refine k_take 1 rfl (by kernel_rfl) rfl rfl (pu_loadBox1 hT rfl rfl (ev_tmp rfl) rfl rfl) rfl rfl rfl rfl ?_
    refine k_take 2 rfl (by kernel_rfl) rfl rfl (pu_move (.inl rfl) (ev_tmp rfl)) rfl rfl rfl rfl ?_
    refine k_take 3 rfl (by kernel_rfl) rfl rfl (pu_fieldBox hT rfl rfl rfl (ev_tmp rfl)) rfl rfl rfl rfl ?_
    refine k_take 4 rfl (by kernel_rfl) rfl rfl (pu_loadBox1 hT rfl rfl (ev_tmp rfl) rfl rfl) rfl rfl rfl rfl ?_
    refine k_take 5 rfl (by kernel_rfl) rfl rfl (pu_move (.inl rfl) (ev_tmp rfl)) rfl rfl rfl rfl ?_
    refine k_take 6 rfl (by kernel_rfl) rfl rfl (pu_indexK (i := (i).toNat) hT rfl rfl rfl (ev_tmp rfl) rfl (ev_tmp rfl) (by omega) (by show _ < (q.length); omega)) rfl rfl rfl rfl ?_
    refine k_take 7 rfl (by kernel_rfl) rfl rfl (pu_fieldE hT rfl rfl rfl (ev_tmp rfl)) rfl rfl rfl rfl ?_
    refine k_take 9 rfl (by kernel_rfl) rfl rfl (pu_fieldBox hT rfl rfl rfl (ev_tmp rfl)) rfl rfl rfl rfl ?_
    refine k_take 10 rfl (by kernel_rfl) rfl rfl (pu_loadBox1 hT rfl rfl (ev_tmp rfl) rfl rfl) rfl rfl rfl rfl ?_
    refine k_take 11 rfl (by kernel_rfl) rfl rfl (pu_move (.inl rfl) (ev_tmp rfl)) rfl rfl rfl rfl ?_
    refine k_take 12 rfl (by kernel_rfl) rfl rfl (pu_indexD hT rfl rfl rfl (ev_tmp rfl) (ev_tmp rfl) (fun _ => rfl) (by omega) (by omega)) rfl rfl rfl rfl ?_
    refine k_take 13 rfl (by kernel_rfl) rfl rfl (pu_loadRefA hT rfl rfl (ev_tmp rfl) rfl) rfl rfl rfl rfl ?_
    refine k_split 8 [14] (by kernel_rfl) ⟨?_, ?_, trivial⟩
    ·skip
     refine kj_pure 8 rfl rfl rfl (pu_loadE1 hT rfl rfl (ev_tmp rfl) rfl (get_mid (off := ((i).toNat * 5 + 4)) (j := 4) (flat_pre (sz := 5) (fun _ => rfl) (Nat.le_of_lt hit)) (by omega) rfl)) rfl rfl rfl rfl rfl ?_
     refine k_split 14 [] (by kernel_rfl) ⟨?_, trivial⟩
     ·skip
      refine kj_callK 96970 14 rfl rfl rfl rfl Tryz.call22 (ok_spec_l6Copy (x := (d.2.2.1.getD (findI (hasName ((scopeL (q.getD (i).toNat default).2.1).getD (k : Int).toNat default)) d.2.2.1 0).toNat default)) (by omega)) (as_cons (ev_tmp rfl) (ag_agg (ag_cons ac_dv (ag_cons ac_dv (ag_cons ac_dv ag_nil)))) as_nil) rfl rfl rfl rfl rfl rfl ?_
      refine k_split 15 [] (by kernel_rfl) ⟨?_, trivial⟩
      ·skip
       refine kj_buildN (k := 66) (js := [97000]) 15 hT rfl rfl rfl rfl rfl rfl rfl rfl rfl rfl rfl rfl (ep_cons (ev_tmp rfl) rfl rfl rfl ep_nil) (ow_cons' (ow_dv rfl) (ow_cons' (ow_key rfl) (ow_cons' (ow_dv rfl) ow_nil rfl) rfl) rfl) (by decide) (by decide) rfl rfl rfl rfl rfl ?_
       simp only [killT, killB, SV.kill, CV.kill, kk, Nat.reduceBEq]
       refine k_split 16 [] (by kernel_rfl) ⟨?_, trivial⟩
       ·skip
        refine kj_appN (t := 59) (j := 66) (ccs := mid ((q.take (i).toNat).flatMap eTx) [.int .i64 (t.1), opsD (t.2.1), .int .i64 (t.2.2.1), .int .i64 (1), .hole] ((q.drop ((i).toNat + 1)).flatMap eTx)) (n2 := (bkOf d ((scopeL (q.getD (i).toNat default).2.1).take (k + 1))).length) (cs2 := (bkOf d ((scopeL (q.getD (i).toNat default).2.1).take (k + 1))).flatMap eStore) 98000 16 hT rfl rfl rfl rfl rfl rfl rfl rfl rfl rfl (get_mid (off := ((i).toNat * 5 + 4)) (j := 4) (flat_pre (sz := 5) (fun _ => rfl) (Nat.le_of_lt hit)) (by omega) rfl) rfl (set_mid (off := ((i).toNat * 5 + 4)) (j := 4) (flat_pre (sz := 5) (fun _ => rfl) (Nat.le_of_lt hit)) (by omega) rfl (Nat.lt_of_lt_of_le (Nat.lt_succ_self _) (Nat.le_of_ble_eq_true rfl))) (ev_tmp rfl) rfl rfl rfl (by dsimp only [kcOf]; omega) (by dsimp only [kcOf]; omega) (by rw [hbs, List.length_append]; rfl) (by rw [hbs, List.flatMap_append]; rfl) rfl rfl ?_
        simp only [killT, killB, SV.kill, CV.kill, kk, Nat.reduceBEq]
        refine k_take 17 rfl (by kernel_rfl) rfl rfl (pu_indexK (i := (i).toNat) hT rfl rfl rfl (ev_tmp rfl) rfl (ev_tmp rfl) (by omega) (by show _ < (q.length); omega)) rfl rfl rfl rfl ?_
        refine k_take 18 rfl (by kernel_rfl) rfl rfl (pu_fieldE hT rfl rfl rfl (ev_tmp rfl)) rfl rfl rfl rfl ?_
        refine k_chain [19] rfl rfl (by kernel_rfl) ?_
        refine o_storeE (js := [98000]) (cs := mid ((q.take (i).toNat).flatMap eTx) [.int .i64 (t.1), opsD (t.2.1), .int .i64 (t.2.2.1), .int .i64 (1), .sl 60 3 ((bkOf d ((scopeL (q.getD (i).toNat default).2.1).take (k + 1))).length) ((bkOf d ((scopeL (q.getD (i).toNat default).2.1).take (k + 1))).flatMap eStore)] ((q.drop ((i).toNat + 1)).flatMap eTx)) hT rfl rfl rfl rfl (ev_tmp rfl) (ev_tmp rfl) rfl rfl rfl rfl (ow_cons' (ow_key rfl) ow_nil rfl) (by decide) (by decide) rfl (le_mid (off := ((i).toNat * 5 + 4)) (n := 1) (j := 4) (flat_pre (sz := 5) (fun _ => rfl) (Nat.le_of_lt hit)) (by omega) (Nat.le_of_ble_eq_true rfl)) (setR_mid (off := ((i).toNat * 5 + 4)) (j := 4) (flat_pre (sz := 5) (fun _ => rfl) (Nat.le_of_lt hit)) (by omega) rfl (Nat.le_of_ble_eq_true rfl)) ?_
        simp only [killT, killB, SV.kill, CV.kill, kk, Nat.reduceBEq]
        refine ops_nil ?_
        iterate 2 refine z ?_
        refine ok_region ?_
        iterate 4 refine z ?_
        refine ⟨k + 1, ?_, ?_, weak_sub ⟨rfl, rfl, rfl, rfl, rfl, rfl, rfl, trivial⟩ ⟨rfl, rfl, rfl, trivial⟩ ⟨rfl, rfl, trivial⟩ rfl⟩
        ·omega
        ·omega
    ·skip
     refine kj_callK 96970 14 rfl rfl rfl rfl Tryz.call22 (ok_spec_l6Copy (x := (d.2.2.1.getD (findI (hasName ((scopeL (q.getD (i).toNat default).2.1).getD (k : Int).toNat default)) d.2.2.1 0).toNat default)) (by omega)) (as_cons (ev_tmp rfl) (ag_agg (ag_cons ac_dv (ag_cons ac_dv (ag_cons ac_dv ag_nil)))) as_nil) rfl rfl rfl rfl rfl rfl ?_
     refine k_split 8 [15] (by kernel_rfl) ⟨?_, ?_, trivial⟩
     ·skip
      refine kj_pure 8 rfl rfl rfl (pu_loadE1 hT rfl rfl (ev_tmp rfl) rfl (get_mid (off := ((i).toNat * 5 + 4)) (j := 4) (flat_pre (sz := 5) (fun _ => rfl) (Nat.le_of_lt hit)) (by omega) rfl)) rfl rfl rfl rfl rfl ?_
      refine k_split 15 [] (by kernel_rfl) ⟨?_, trivial⟩
      ·skip
       refine kj_buildN (k := 66) (js := [97000]) 15 hT rfl rfl rfl rfl rfl rfl rfl rfl rfl rfl rfl rfl (ep_cons (ev_tmp rfl) rfl rfl rfl ep_nil) (ow_cons' (ow_dv rfl) (ow_cons' (ow_key rfl) (ow_cons' (ow_dv rfl) ow_nil rfl) rfl) rfl) (by decide) (by decide) rfl rfl rfl rfl rfl ?_
       simp only [killT, killB, SV.kill, CV.kill, kk, Nat.reduceBEq]
       refine k_split 16 [] (by kernel_rfl) ⟨?_, trivial⟩
       ·skip
        refine kj_appN (t := 59) (j := 66) (ccs := mid ((q.take (i).toNat).flatMap eTx) [.int .i64 (t.1), opsD (t.2.1), .int .i64 (t.2.2.1), .int .i64 (1), .hole] ((q.drop ((i).toNat + 1)).flatMap eTx)) (n2 := (bkOf d ((scopeL (q.getD (i).toNat default).2.1).take (k + 1))).length) (cs2 := (bkOf d ((scopeL (q.getD (i).toNat default).2.1).take (k + 1))).flatMap eStore) 98000 16 hT rfl rfl rfl rfl rfl rfl rfl rfl rfl rfl (get_mid (off := ((i).toNat * 5 + 4)) (j := 4) (flat_pre (sz := 5) (fun _ => rfl) (Nat.le_of_lt hit)) (by omega) rfl) rfl (set_mid (off := ((i).toNat * 5 + 4)) (j := 4) (flat_pre (sz := 5) (fun _ => rfl) (Nat.le_of_lt hit)) (by omega) rfl (Nat.lt_of_lt_of_le (Nat.lt_succ_self _) (Nat.le_of_ble_eq_true rfl))) (ev_tmp rfl) rfl rfl rfl (by dsimp only [kcOf]; omega) (by dsimp only [kcOf]; omega) (by rw [hbs, List.length_append]; rfl) (by rw [hbs, List.flatMap_append]; rfl) rfl rfl ?_
        simp only [killT, killB, SV.kill, CV.kill, kk, Nat.reduceBEq]
        refine k_take 17 rfl (by kernel_rfl) rfl rfl (pu_indexK (i := (i).toNat) hT rfl rfl rfl (ev_tmp rfl) rfl (ev_tmp rfl) (by omega) (by show _ < (q.length); omega)) rfl rfl rfl rfl ?_
        refine k_take 18 rfl (by kernel_rfl) rfl rfl (pu_fieldE hT rfl rfl rfl (ev_tmp rfl)) rfl rfl rfl rfl ?_
        refine k_chain [19] rfl rfl (by kernel_rfl) ?_
        refine o_storeE (js := [98000]) (cs := mid ((q.take (i).toNat).flatMap eTx) [.int .i64 (t.1), opsD (t.2.1), .int .i64 (t.2.2.1), .int .i64 (1), .sl 60 3 ((bkOf d ((scopeL (q.getD (i).toNat default).2.1).take (k + 1))).length) ((bkOf d ((scopeL (q.getD (i).toNat default).2.1).take (k + 1))).flatMap eStore)] ((q.drop ((i).toNat + 1)).flatMap eTx)) hT rfl rfl rfl rfl (ev_tmp rfl) (ev_tmp rfl) rfl rfl rfl rfl (ow_cons' (ow_key rfl) ow_nil rfl) (by decide) (by decide) rfl (le_mid (off := ((i).toNat * 5 + 4)) (n := 1) (j := 4) (flat_pre (sz := 5) (fun _ => rfl) (Nat.le_of_lt hit)) (by omega) (Nat.le_of_ble_eq_true rfl)) (setR_mid (off := ((i).toNat * 5 + 4)) (j := 4) (flat_pre (sz := 5) (fun _ => rfl) (Nat.le_of_lt hit)) (by omega) rfl (Nat.le_of_ble_eq_true rfl)) ?_
        simp only [killT, killB, SV.kill, CV.kill, kk, Nat.reduceBEq]
        refine ops_nil ?_
        iterate 2 refine z ?_
        refine ok_region ?_
        iterate 4 refine z ?_
        refine ⟨k + 1, ?_, ?_, weak_sub ⟨rfl, rfl, rfl, rfl, rfl, rfl, rfl, trivial⟩ ⟨rfl, rfl, rfl, trivial⟩ ⟨rfl, rfl, trivial⟩ rfl⟩
        ·omega
        ·omega
     ·skip
      refine kj_buildN (k := 66) (js := [97000]) 15 hT rfl rfl rfl rfl rfl rfl rfl rfl rfl rfl rfl rfl (ep_cons (ev_tmp rfl) rfl rfl rfl ep_nil) (ow_cons' (ow_dv rfl) (ow_cons' (ow_key rfl) (ow_cons' (ow_dv rfl) ow_nil rfl) rfl) rfl) (by decide) (by decide) rfl rfl rfl rfl rfl ?_
      simp only [killT, killB, SV.kill, CV.kill, kk, Nat.reduceBEq]
      refine k_split 8 [] (by kernel_rfl) ⟨?_, trivial⟩
      ·skip
       refine kj_pure 8 rfl rfl rfl (pu_loadE1 hT rfl rfl (ev_tmp rfl) rfl (get_mid (off := ((i).toNat * 5 + 4)) (j := 4) (flat_pre (sz := 5) (fun _ => rfl) (Nat.le_of_lt hit)) (by omega) rfl)) rfl rfl rfl rfl rfl ?_
       refine k_split 16 [] (by kernel_rfl) ⟨?_, trivial⟩
       ·skip
        refine kj_appN (t := 59) (j := 66) (ccs := mid ((q.take (i).toNat).flatMap eTx) [.int .i64 (t.1), opsD (t.2.1), .int .i64 (t.2.2.1), .int .i64 (1), .hole] ((q.drop ((i).toNat + 1)).flatMap eTx)) (n2 := (bkOf d ((scopeL (q.getD (i).toNat default).2.1).take (k + 1))).length) (cs2 := (bkOf d ((scopeL (q.getD (i).toNat default).2.1).take (k + 1))).flatMap eStore) 98000 16 hT rfl rfl rfl rfl rfl rfl rfl rfl rfl rfl (get_mid (off := ((i).toNat * 5 + 4)) (j := 4) (flat_pre (sz := 5) (fun _ => rfl) (Nat.le_of_lt hit)) (by omega) rfl) rfl (set_mid (off := ((i).toNat * 5 + 4)) (j := 4) (flat_pre (sz := 5) (fun _ => rfl) (Nat.le_of_lt hit)) (by omega) rfl (Nat.lt_of_lt_of_le (Nat.lt_succ_self _) (Nat.le_of_ble_eq_true rfl))) (ev_tmp rfl) rfl rfl rfl (by dsimp only [kcOf]; omega) (by dsimp only [kcOf]; omega) (by rw [hbs, List.length_append]; rfl) (by rw [hbs, List.flatMap_append]; rfl) rfl rfl ?_
        simp only [killT, killB, SV.kill, CV.kill, kk, Nat.reduceBEq]
        refine k_take 17 rfl (by kernel_rfl) rfl rfl (pu_indexK (i := (i).toNat) hT rfl rfl rfl (ev_tmp rfl) rfl (ev_tmp rfl) (by omega) (by show _ < (q.length); omega)) rfl rfl rfl rfl ?_
        refine k_take 18 rfl (by kernel_rfl) rfl rfl (pu_fieldE hT rfl rfl rfl (ev_tmp rfl)) rfl rfl rfl rfl ?_
        refine k_chain [19] rfl rfl (by kernel_rfl) ?_
        refine o_storeE (js := [98000]) (cs := mid ((q.take (i).toNat).flatMap eTx) [.int .i64 (t.1), opsD (t.2.1), .int .i64 (t.2.2.1), .int .i64 (1), .sl 60 3 ((bkOf d ((scopeL (q.getD (i).toNat default).2.1).take (k + 1))).length) ((bkOf d ((scopeL (q.getD (i).toNat default).2.1).take (k + 1))).flatMap eStore)] ((q.drop ((i).toNat + 1)).flatMap eTx)) hT rfl rfl rfl rfl (ev_tmp rfl) (ev_tmp rfl) rfl rfl rfl rfl (ow_cons' (ow_key rfl) ow_nil rfl) (by decide) (by decide) rfl (le_mid (off := ((i).toNat * 5 + 4)) (n := 1) (j := 4) (flat_pre (sz := 5) (fun _ => rfl) (Nat.le_of_lt hit)) (by omega) (Nat.le_of_ble_eq_true rfl)) (setR_mid (off := ((i).toNat * 5 + 4)) (j := 4) (flat_pre (sz := 5) (fun _ => rfl) (Nat.le_of_lt hit)) (by omega) rfl (Nat.le_of_ble_eq_true rfl)) ?_
        simp only [killT, killB, SV.kill, CV.kill, kk, Nat.reduceBEq]
        refine ops_nil ?_
        iterate 2 refine z ?_
        refine ok_region ?_
        iterate 4 refine z ?_
        refine ⟨k + 1, ?_, ?_, weak_sub ⟨rfl, rfl, rfl, rfl, rfl, rfl, rfl, trivial⟩ ⟨rfl, rfl, rfl, trivial⟩ ⟨rfl, rfl, trivial⟩ rfl⟩
        ·omega
        ·omega
   ·skip
    have d3 := of_decide_eq_false c3
    have hbs := bk_step (d := d) hn2
    rw [if_neg (show ¬ 0 ≤ fndS d ((scopeL (q.getD (i).toNat default).2.1).getD (k : Int).toNat default) from d3), List.append_nil] at hbs
    iterate 3 refine z ?_
    refine ok_region ?_
    iterate 4 refine z ?_
    refine ⟨k + 1, ?_, ?_, weak_sub ⟨rfl, rfl, rfl, rfl, rfl, rfl, rfl, trivial⟩ ⟨rfl, rfl, rfl, trivial⟩ ⟨(congrArg (fun z => some (some (KC.mk false 54 5 q.length (mid ((q.take (i).toNat).flatMap eTx) [.int .i64 (t.1), opsD (t.2.1), .int .i64 (t.2.2.1), .int .i64 (1), storesD (z)] ((q.drop ((i).toNat + 1)).flatMap eTx))))) hbs.symm), rfl, trivial⟩ rfl⟩
    ·omega
    ·omega
  ·skip
   have d2 := of_decide_eq_false c2
   iterate 10 refine z ?_
   have hall : (scopeL (q.getD (i).toNat default).2.1).take k = (scopeL (q.getD (i).toNat default).2.1) := List.take_of_length_le (by omega)
   rw [start_yes ht hcan]
   refine ok_weak (σ' := ⟨[(6, .box 6 0), (7, .one (.dv [] (.bool (true))))], [(6, 33, [(.key 95031)])], [(95031, some (kcOf false (txsD (q.set (i).toNat (t.1, t.2.1, t.2.2.1, (1 : Int), bkOf d (scopeL t.2.1))))))]⟩) (weak_sub ⟨rfl, rfl, trivial⟩ ⟨rfl, trivial⟩ ⟨(by rw [← hSQ, hall]; exact (fin_set hit (t.1, t.2.1, t.2.2.1, (1 : Int), bkOf d (scopeL (q.getD (i).toNat default).2.1)))), trivial⟩ rfl) ?_
   refine z ?_
   refine fin2 (res_cell hT rfl rfl rfl rfl) (res_tmp rfl) rfl rfl ?_
   first | exact ⟨rfl, rfl⟩ | skip
end Go.Proofs.YtcgmpjedhbhplaaGreat

namespace Go.Proofs.YtcgmpjedhbhplaaGreat
open Go.RowKit
open Go.Proofs
set_option linter.unusedVariables false
set_option linter.unusedSimpArgs false
theorem ok_laws_FnExactStartTx {x0 : DbT} {x1 : List TxT} {x2 : Int}  : PFn Tryz.prog 3 [.agg [(.dv [] (.str (x0.1))), (.dv [] (.int .i64 (x0.2.1))), (.dv [] (storesD (x0.2.2.1))), (.dv [] (defsD (x0.2.2.2)))], .agg [(.dv [] (txsD (x1)))], .one (.dv [] (.int .i64 (x2)))] (.one (.dv [] (.bool (true)))) := by
 refine ⟨fn_intro Tryz.func3 rfl Tryz.ntmps3 Tryz.results3 rfl (fun C => ?_)⟩
 have hsw := start_wg x0 x1 x2
 have hwq0 : wTxQueue x1 = wList wTx x1 := rfl
 have hwq1 : wTxQueue (startTx x0 x1 x2).1 = wList wTx (startTx x0 x1 x2).1 := rfl
 have : wDatabase x0 = (x0.1).size + wList wStore (x0.2.2.1) + wList wIndexDef (x0.2.2.2) := rfl
 have : wList wStore (x0.2.2.1) = (x0.2.2.1).length + wSum wStore (x0.2.2.1) := rfl
 have : wList wIndexDef (x0.2.2.2) = (x0.2.2.2).length + wSum wIndexDef (x0.2.2.2) := rfl
 have : wTxQueue x1 = wList wTx (x1) := rfl
 have : wList wTx (x1) = (x1).length + wSum wTx (x1) := rfl
 have := wSum_bound cStore_le (x0.2.2.1)
 have := wSum_bound cIndexDef_le (x0.2.2.2)
 have := wSum_bound cTx_le (x1)
 have : wTxQueue (startTx x0 x1 x2).1 = wList wTx ((startTx x0 x1 x2).1) := rfl
 have : wList wTx ((startTx x0 x1 x2).1) = ((startTx x0 x1 x2).1).length + wSum wTx ((startTx x0 x1 x2).1) := rfl
 have := wSum_bound cTx_le ((startTx x0 x1 x2).1)
 refine yF 0 0 rfl rfl fun f0_0 => ?_
 refine yF 0 1 rfl rfl fun f0_1 => ?_
 refine yF 0 2 rfl rfl fun f0_2 => ?_
 refine yF 0 3 rfl rfl fun f0_3 => ?_
 refine yF 1 0 rfl rfl fun f1_0 => ?_
 refine ok_fact (x := .tmp 2) (ev_tmp rfl) fun f2 => ?_
 iterate 11 refine z ?_
 refine zC Tryz.call4 ?_ (hf := ok_laws_szDatabase (by omega) (by omega))
 iterate 7 refine z ?_
 refine yQ rfl (fun c1 => ?_) fun c1 => ?_
 ·skip
  have d1 := of_decide_eq_true c1
  first | have q1 := szR_n d1 | skip
  iterate 6 refine z ?_
  first | rfl | (exfalso; omega) | (exfalso; simp_all; done) | (exfalso; simp_all; omega)
 ·skip
  have d1 := of_decide_eq_false c1
  first | have q1 := szR_nn d1 | skip
  iterate 5 refine z ?_
  refine zC Tryz.call5 ?_ (hf := ok_laws_szTxQueue (by omega) (by omega))
  iterate 7 refine z ?_
  refine yQ rfl (fun c2 => ?_) fun c2 => ?_
  ·skip
   have d2 := of_decide_eq_true c2
   first | have q2 := szR_n d2 | skip
   iterate 6 refine z ?_
   first | rfl | (exfalso; omega) | (exfalso; simp_all; done) | (exfalso; simp_all; omega)
  ·skip
   have d2 := of_decide_eq_false c2
   first | have q2 := szR_nn d2 | skip
   iterate 2 refine z ?_
   refine ok_seq ?_
   refine ok_regionD (oB := [3, 4]) (oK := []) (by kernel_rfl) rfl rfl ?_
   refine zD 0 ?_
   refine zD 2 ?_
   refine zD 4 ?_
   refine d_vars (A := [(9, 8, 33, _)]) hT ⟨⟨_, _, rfl⟩, rfl, trivial⟩ ?_
   refine a_callK 31000 1 rfl (by kernel_rfl) rfl rfl rfl (vok hT ⟨⟨_, _, rfl⟩, rfl, trivial⟩ (by kernel_rfl) (by kernel_rfl)) (vok hT ⟨⟨_, _, rfl⟩, rfl, trivial⟩ (by kernel_rfl) (by kernel_rfl)) rfl Tryz.call7 (ok_laws_toDatabase (by first | omega | (simp only [wKey, wField, wRecord, wItem, wStore, wIndexDef, wDatabase, wOp, wTx, wTxQueue] at hb ⊢; omega) | (have hq := hw (by omega); omega))) (as_cons (ev_tmp rfl) (ag_agg (ag_cons ac_dv (ag_cons ac_dv (ag_cons ac_dv (ag_cons ac_dv ag_nil))))) as_nil) rfl rfl rfl rfl rfl ?_
   refine a_callK 33000 3 rfl (by kernel_rfl) rfl rfl rfl (vok hT ⟨⟨_, _, rfl⟩, rfl, trivial⟩ (by kernel_rfl) (by kernel_rfl)) (vok hT ⟨⟨_, _, rfl⟩, rfl, trivial⟩ (by kernel_rfl) (by kernel_rfl)) rfl Tryz.call8 (ok_laws_toTxQueue (by first | omega | (simp only [wKey, wField, wRecord, wItem, wStore, wIndexDef, wDatabase, wOp, wTx, wTxQueue] at hb ⊢; omega) | (have hq := hw (by omega); omega))) (as_cons (ev_tmp rfl) (ag_agg (ag_cons ac_dv ag_nil)) as_nil) rfl rfl rfl rfl rfl ?_
   refine a_callK 35000 5 rfl (by kernel_rfl) rfl rfl rfl (vok hT ⟨⟨_, _, rfl⟩, rfl, trivial⟩ (by kernel_rfl) (by kernel_rfl)) (vok hT ⟨⟨_, _, rfl⟩, rfl, trivial⟩ (by kernel_rfl) (by kernel_rfl)) rfl Tryz.call6 (ok_spec_StartTx (by omega) (by omega)) (as_cons (ev_tmp rfl) (ag_agg (ag_cons ac_dv (ag_cons ac_dv (ag_cons (ac_key' rfl rfl) (ag_cons (ac_key' rfl rfl) ag_nil))))) (as_cons (ev_tmp rfl) (ag_agg (ag_cons (ac_key' rfl rfl) ag_nil)) (as_cons (ev_tmp rfl) (ag_one ac_dv) as_nil))) rfl rfl rfl rfl rfl ?_
   refine a_take 6 rfl (by kernel_rfl) rfl rfl rfl (vok hT ⟨⟨_, _, rfl⟩, rfl, trivial⟩ (by kernel_rfl) (by kernel_rfl)) (vok hT ⟨⟨_, _, rfl⟩, rfl, trivial⟩ (by kernel_rfl) (by kernel_rfl)) (pu_move (.inl rfl) (ev_tmp rfl)) rfl rfl rfl rfl ?_
   refine a_takeX 7 rfl (by kernel_rfl) rfl rfl rfl rfl (vok hT ⟨⟨_, _, rfl⟩, rfl, trivial⟩ (by kernel_rfl) (by kernel_rfl)) (vok hT ⟨⟨_, _, rfl⟩, rfl, trivial⟩ (by kernel_rfl) (by kernel_rfl)) (pu_extractA rfl (ev_tmp rfl) rfl) rfl rfl ?_
   refine a_takeX 8 rfl (by kernel_rfl) rfl rfl rfl rfl (vok hT ⟨⟨_, _, rfl⟩, rfl, trivial⟩ (by kernel_rfl) (by kernel_rfl)) (vok hT ⟨⟨_, _, rfl⟩, rfl, trivial⟩ (by kernel_rfl) (by kernel_rfl)) (pu_extract1 rfl (ev_tmp rfl) rfl) rfl rfl ?_
   refine a_exit1 (vok hT ⟨⟨_, _, rfl⟩, rfl, trivial⟩ (by kernel_rfl) (by kernel_rfl)) rfl rfl (by kernel_rfl) ?_
   dsimp only [addT, addB]
   refine d_chain [10, 11] rfl rfl (by kernel_rfl) ?_
   iterate 5 refine z ?_
   refine zK 39000 Tryz.call7 ?_ (hf := ok_laws_toDatabase (by first | omega | (simp only [wKey, wField, wRecord, wItem, wStore, wIndexDef, wDatabase, wOp, wTx, wTxQueue] at hb ⊢; omega) | (have hq := hw (by omega); omega)))
   iterate 5 refine z ?_
   refine zK 42000 Tryz.call8 ?_ (hf := ok_laws_toTxQueue (by first | omega | (simp only [wKey, wField, wRecord, wItem, wStore, wIndexDef, wDatabase, wOp, wTx, wTxQueue] at hb ⊢; omega) | (have hq := hw (by omega); omega)))
   iterate 7 refine z ?_
   refine o_callK 46000 rfl rfl rfl Tryz.call9 (ok_impl_StartTx (by omega) (by omega)) (as_cons (ev_tmp rfl) (ag_agg (ag_cons ac_dv (ag_cons ac_dv (ag_cons (ac_key' rfl rfl) (ag_cons (ac_key' rfl rfl) ag_nil))))) (as_cons (ev_tmp rfl) (ag_agg (ag_cons (ac_key' rfl rfl) ag_nil)) (as_cons (ev_tmp rfl) (ag_one ac_dv) as_nil))) rfl rfl rfl ?_
   iterate 11 refine z ?_
   refine o_call rfl rfl rfl Tryz.call10 ok_laws_eqTxQueue (as_cons (ev_tmp rfl) (ag_agg (ag_cons (ac_key' rfl rfl) ag_nil)) (as_cons (ev_tmp rfl) (ag_agg (ag_cons (ac_key' rfl rfl) ag_nil)) as_nil)) rfl rfl ?_
   iterate 4 refine z ?_
   refine o_pureG (gd_bool rfl rfl rfl rfl rfl) rfl (fun hg => pu_bneq hT rfl rfl (ev_opt rfl hg) (ev_opt rfl hg)) rfl rfl ?_
   iterate 2 refine z ?_
   refine yQ rfl (fun c3 => ?_) fun c3 => ?_
   ·skip
    iterate 6 refine z ?_
    first | rfl | (exfalso; omega) | (exfalso; simp_all; done) | (exfalso; simp_all; omega)
   ·skip
    iterate 2 refine z ?_
    refine ok_seq ?_
    refine ok_seq ?_
    refine ok_regionD (oB := [3, 4, 8, 10, 11, 12]) (oK := [39007, 43007, 47007, 48007, 51007, 55007, 130031, 141031]) (by kernel_rfl) rfl rfl ?_
    refine zD 0 ?_
    refine zD 1 ?_
    refine d_callK 60000 2 rfl (by kernel_rfl) rfl rfl rfl Tryz.call7 (ok_laws_toDatabase (by first | omega | (simp only [wKey, wField, wRecord, wItem, wStore, wIndexDef, wDatabase, wOp, wTx, wTxQueue] at hb ⊢; omega) | (have hq := hw (by omega); omega))) (as_cons (ev_tmp rfl) (ag_agg (ag_cons ac_dv (ag_cons ac_dv (ag_cons ac_dv (ag_cons ac_dv ag_nil))))) as_nil) rfl rfl rfl rfl rfl ?_
    refine d_call 3 rfl (by kernel_rfl) rfl rfl rfl Tryz.call11 ok_laws_eqDatabase (as_cons (ev_tmp rfl) (ag_agg (ag_cons ac_dv (ag_cons ac_dv (ag_cons (ac_key' rfl rfl) (ag_cons (ac_key' rfl rfl) ag_nil))))) (as_cons (ev_tmp rfl) (ag_agg (ag_cons ac_dv (ag_cons ac_dv (ag_cons (ac_key' rfl rfl) (ag_cons (ac_key' rfl rfl) ag_nil))))) as_nil)) rfl rfl rfl rfl ?_
    refine zD 4 ?_
    refine d_done (by kernel_rfl) ?_
    refine z ?_
    refine yQ rfl (fun c4 => ?_) fun c4 => ?_
    ·skip
     iterate 6 refine z ?_
     first | rfl | (exfalso; omega) | (exfalso; simp_all; done) | (exfalso; simp_all; omega)
    ·skip
     iterate 2 refine z ?_
     refine ok_seq ?_
     refine ok_seq ?_
     refine ok_regionD (oB := [3, 4, 8, 10, 11, 12]) (oK := [39007, 43007, 47007, 48007, 51007, 55007, 72007, 76007, 130031, 141031]) (by kernel_rfl) rfl rfl ?_
     refine zD 0 ?_
     refine zD 1 ?_
     refine d_callK 65000 2 rfl (by kernel_rfl) rfl rfl rfl Tryz.call8 (ok_laws_toTxQueue (by first | omega | (simp only [wKey, wField, wRecord, wItem, wStore, wIndexDef, wDatabase, wOp, wTx, wTxQueue] at hb ⊢; omega) | (have hq := hw (by omega); omega))) (as_cons (ev_tmp rfl) (ag_agg (ag_cons ac_dv ag_nil)) as_nil) rfl rfl rfl rfl rfl ?_
     refine d_call 3 rfl (by kernel_rfl) rfl rfl rfl Tryz.call10 ok_laws_eqTxQueue (as_cons (ev_tmp rfl) (ag_agg (ag_cons (ac_key' rfl rfl) ag_nil)) (as_cons (ev_tmp rfl) (ag_agg (ag_cons (ac_key' rfl rfl) ag_nil)) as_nil)) rfl rfl rfl rfl ?_
     refine zD 4 ?_
     refine d_done (by kernel_rfl) ?_
     refine z ?_
     refine yQ rfl (fun c5 => ?_) fun c5 => ?_
     ·skip
      iterate 6 refine z ?_
      first | rfl | (exfalso; omega) | (exfalso; simp_all; done) | (exfalso; simp_all; omega)
     ·skip
      iterate 8 refine z ?_
      refine o_callW [(0, 51007, ⟨false, _, _, _, _⟩, ⟨false, _, _, _, _⟩), (1, 55007, ⟨false, _, _, _, _⟩, ⟨false, _, _, _, _⟩)] rfl rfl rfl Tryz.call12 (ok_laws_markDatabase (x := x0) (by omega) (by omega)) ⟨rfl, rfl, trivial⟩ rfl (aw_cons (ev_tmp rfl) (aw_agg (awc_cons (awc_dv rfl) (awc_cons (awc_dv rfl) (awc_cons (awc_key rfl) (awc_cons (awc_key rfl) awc_nil))))) (aw_cons (ev_tmp rfl) (aw_one (awc_dv rfl)) aw_nil)) rfl rfl ?_
      simp only [killT, killB, SV.kill, CV.kill, kk, Nat.reduceBEq]
      iterate 5 refine z ?_
      refine o_callW [(0, 48007, ⟨false, _, _, _, _⟩, ⟨false, _, _, _, _⟩)] rfl rfl rfl Tryz.call13 (ok_laws_markTxQueue (x := x1) (by omega) (by omega)) ⟨rfl, trivial⟩ rfl (aw_cons (ev_tmp rfl) (aw_agg (awc_cons (awc_key rfl) awc_nil)) (aw_cons (ev_tmp rfl) (aw_one (awc_dv rfl)) aw_nil)) rfl rfl ?_
      simp only [killT, killB, SV.kill, CV.kill, kk, Nat.reduceBEq]
      iterate 9 refine z ?_
      refine o_callG (gd_bool rfl rfl rfl rfl rfl) rfl rfl Tryz.call10 ok_laws_eqTxQueue (fun hg => (as_cons (ev_opt rfl hg) (ag_agg (ag_cons (ac_key' rfl rfl) ag_nil)) (as_cons (ev_opt rfl hg) (ag_agg (ag_cons (ac_key' rfl rfl) ag_nil)) as_nil))) rfl rfl ?_
      iterate 5 refine z ?_
      refine o_pureG (gd_bool rfl rfl rfl rfl rfl) rfl (fun hg => pu_bneq hT rfl rfl (ev_opt rfl hg) (ev_opt rfl hg)) rfl rfl ?_
      iterate 2 refine z ?_
      refine yQ rfl (fun c6 => ?_) fun c6 => ?_
      ·skip
       iterate 6 refine z ?_
       first | rfl | (exfalso; omega) | (exfalso; simp_all; done) | (exfalso; simp_all; omega)
      ·skip
       iterate 8 refine z ?_
       refine o_callW [(0, 141031, ⟨false, _, _, _, _⟩, ⟨false, _, _, _, _⟩)] rfl rfl rfl Tryz.call13 (ok_laws_markTxQueue (x := (startTx x0 x1 x2).1) (by omega) (by omega)) ⟨rfl, trivial⟩ rfl (aw_cons (ev_tmp rfl) (aw_agg (awc_cons (awc_key rfl) awc_nil)) (aw_cons (ev_tmp rfl) (aw_one (awc_dv rfl)) aw_nil)) rfl rfl ?_
       simp only [killT, killB, SV.kill, CV.kill, kk, Nat.reduceBEq]
       iterate 8 refine z ?_
       refine o_call rfl rfl rfl Tryz.call14 (ok_laws_heldTxQueue (x := (startTx x0 x1 x2).1) rfl (by omega) (by omega)) (as_cons (ev_tmp rfl) (ag_agg (ag_cons (ac_key' rfl rfl) ag_nil)) (as_cons (ev_tmp rfl) (ag_one ac_dv) as_nil)) rfl rfl ?_
       iterate 7 refine z ?_
       refine yQ rfl (fun c7 => ?_) fun c7 => ?_
       ·skip
        have d7 := of_decide_eq_true c7
        first | have q7 := szR_n d7 | skip
        iterate 6 refine z ?_
        first | rfl | (exfalso; omega) | (exfalso; simp_all; done) | (exfalso; simp_all; omega)
       ·skip
        have d7 := of_decide_eq_false c7
        first | have q7 := szR_nn d7 | skip
        iterate 8 refine z ?_
        refine yQ rfl (fun c8 => ?_) fun c8 => ?_
        ·skip
         have d8 := nd_t c8
         iterate 6 refine z ?_
         first | rfl | (exfalso; omega) | (exfalso; simp_all; done) | (exfalso; simp_all; omega)
        ·skip
         have d8 := nd_f c8
         iterate 2 refine z ?_
         refine ok_seq ?_
         refine ok_regionD (oB := [3, 4, 8, 10, 11, 12]) (oK := [39007, 43007, 47007, 48007, 51007, 55007, 71007, 72007, 76007, 130031, 141031]) (by kernel_rfl) rfl rfl ?_
         refine zD 0 ?_
         refine zD 2 ?_
         refine zD 4 ?_
         refine d_vars (A := [(9, 17, 33, _)]) hT ⟨⟨_, _, rfl⟩, rfl, trivial⟩ ?_
         refine a_callK 100000 1 rfl (by kernel_rfl) rfl rfl rfl (vok hT ⟨⟨_, _, rfl⟩, rfl, trivial⟩ (by kernel_rfl) (by kernel_rfl)) (vok hT ⟨⟨_, _, rfl⟩, rfl, trivial⟩ (by kernel_rfl) (by kernel_rfl)) rfl Tryz.call7 (ok_laws_toDatabase (by first | omega | (simp only [wKey, wField, wRecord, wItem, wStore, wIndexDef, wDatabase, wOp, wTx, wTxQueue] at hb ⊢; omega) | (have hq := hw (by omega); omega))) (as_cons (ev_tmp rfl) (ag_agg (ag_cons ac_dv (ag_cons ac_dv (ag_cons ac_dv (ag_cons ac_dv ag_nil))))) as_nil) rfl rfl rfl rfl rfl ?_
         refine a_callK 102000 3 rfl (by kernel_rfl) rfl rfl rfl (vok hT ⟨⟨_, _, rfl⟩, rfl, trivial⟩ (by kernel_rfl) (by kernel_rfl)) (vok hT ⟨⟨_, _, rfl⟩, rfl, trivial⟩ (by kernel_rfl) (by kernel_rfl)) rfl Tryz.call8 (ok_laws_toTxQueue (by first | omega | (simp only [wKey, wField, wRecord, wItem, wStore, wIndexDef, wDatabase, wOp, wTx, wTxQueue] at hb ⊢; omega) | (have hq := hw (by omega); omega))) (as_cons (ev_tmp rfl) (ag_agg (ag_cons ac_dv ag_nil)) as_nil) rfl rfl rfl rfl rfl ?_
         refine a_callK 104000 5 rfl (by kernel_rfl) rfl rfl rfl (vok hT ⟨⟨_, _, rfl⟩, rfl, trivial⟩ (by kernel_rfl) (by kernel_rfl)) (vok hT ⟨⟨_, _, rfl⟩, rfl, trivial⟩ (by kernel_rfl) (by kernel_rfl)) rfl Tryz.call9 (ok_impl_StartTx (by omega) (by omega)) (as_cons (ev_tmp rfl) (ag_agg (ag_cons ac_dv (ag_cons ac_dv (ag_cons (ac_key' rfl rfl) (ag_cons (ac_key' rfl rfl) ag_nil))))) (as_cons (ev_tmp rfl) (ag_agg (ag_cons (ac_key' rfl rfl) ag_nil)) (as_cons (ev_tmp rfl) (ag_one ac_dv) as_nil))) rfl rfl rfl rfl rfl ?_
         refine a_take 6 rfl (by kernel_rfl) rfl rfl rfl (vok hT ⟨⟨_, _, rfl⟩, rfl, trivial⟩ (by kernel_rfl) (by kernel_rfl)) (vok hT ⟨⟨_, _, rfl⟩, rfl, trivial⟩ (by kernel_rfl) (by kernel_rfl)) (pu_move (.inl rfl) (ev_tmp rfl)) rfl rfl rfl rfl ?_
         refine a_takeX 7 rfl (by kernel_rfl) rfl rfl rfl rfl (vok hT ⟨⟨_, _, rfl⟩, rfl, trivial⟩ (by kernel_rfl) (by kernel_rfl)) (vok hT ⟨⟨_, _, rfl⟩, rfl, trivial⟩ (by kernel_rfl) (by kernel_rfl)) (pu_extractA rfl (ev_tmp rfl) rfl) rfl rfl ?_
         refine a_takeX 8 rfl (by kernel_rfl) rfl rfl rfl rfl (vok hT ⟨⟨_, _, rfl⟩, rfl, trivial⟩ (by kernel_rfl) (by kernel_rfl)) (vok hT ⟨⟨_, _, rfl⟩, rfl, trivial⟩ (by kernel_rfl) (by kernel_rfl)) (pu_extract1 rfl (ev_tmp rfl) rfl) rfl rfl ?_
         refine a_exit1 (vok hT ⟨⟨_, _, rfl⟩, rfl, trivial⟩ (by kernel_rfl) (by kernel_rfl)) rfl rfl (by kernel_rfl) ?_
         dsimp only [addT, addB]
         refine d_chain [10, 11] rfl rfl (by kernel_rfl) ?_
         iterate 7 refine z ?_
         refine o_call rfl rfl rfl Tryz.call10 ok_laws_eqTxQueue (as_cons (ev_tmp rfl) (ag_agg (ag_cons (ac_key' rfl rfl) ag_nil)) (as_cons (ev_tmp rfl) (ag_agg (ag_cons (ac_key' rfl rfl) ag_nil)) as_nil)) rfl rfl ?_
         iterate 4 refine z ?_
         refine o_pureG (gd_bool rfl rfl rfl rfl rfl) rfl (fun hg => pu_bneq hT rfl rfl (ev_opt rfl hg) (ev_opt rfl hg)) rfl rfl ?_
         iterate 2 refine z ?_
         refine yQ rfl (fun c9 => ?_) fun c9 => ?_
         ·skip
          iterate 6 refine z ?_
          first | rfl | (exfalso; omega) | (exfalso; simp_all; done) | (exfalso; simp_all; omega)
         ·skip
          iterate 8 refine z ?_
          refine o_call rfl rfl rfl Tryz.call14 (ok_laws_heldTxQueue (x := (startTx x0 x1 x2).1) rfl (by omega) (by omega)) (as_cons (ev_tmp rfl) (ag_agg (ag_cons (ac_key' rfl rfl) ag_nil)) (as_cons (ev_tmp rfl) (ag_one ac_dv) as_nil)) rfl rfl ?_
          iterate 7 refine z ?_
          refine yQ rfl (fun c10 => ?_) fun c10 => ?_
          ·skip
           have d10 := of_decide_eq_true c10
           first | have q10 := szR_n d10 | skip
           iterate 6 refine z ?_
           first | rfl | (exfalso; omega) | (exfalso; simp_all; done) | (exfalso; simp_all; omega)
          ·skip
           have d10 := of_decide_eq_false c10
           first | have q10 := szR_nn d10 | skip
           iterate 8 refine z ?_
           refine yQ rfl (fun c11 => ?_) fun c11 => ?_
           ·skip
            have d11 := nd_t c11
            iterate 6 refine z ?_
            first | rfl | (exfalso; omega) | (exfalso; simp_all; done) | (exfalso; simp_all; omega)
           ·skip
            have d11 := nd_f c11
            iterate 7 refine z ?_
            first | rfl | (exfalso; omega) | (exfalso; simp_all; done) | (exfalso; simp_all; omega)
end Go.Proofs.YtcgmpjedhbhplaaGreat

namespace Go.Proofs.YtcgmpjedhbhplaaGreat
open Go.RowKit Go.ChangeShapes Go.WideShapes Go.Deep

def LayW (W : World) : List DV → List Value → Prop := LayL (fun b => b < W.heap.size) W
structure OpensD (P : Program) (Q : List DV → Prop) (t : TypeId) : Prop where
 run : ∀ {H : Type} (enc : TypeId × Value → H) (W : World) (base : Nat) (spare : Nat → Bool) (held : Bool) (fuel : Nat) (cs : List Value) (y : DataW H × List MemPlace),
  DataW.trod enc P W base spare held fuel t cs = some y → ∃ ds, Q ds ∧ LayW W ds cs
def Is {α : Type} (enc : α → List DV) (ds : List DV) : Prop := ∃ x, ds = enc x
theorem opensD_int {P : Program} {t : TypeId} (ht : P.underlying t = some (.int .i64)) : OpensD P (Is eInt) t := by
 refine ⟨fun {H} enc W base spare held fuel cs y h => ?_⟩
 obtain ⟨n, rfl, _, hw⟩ := DataW.trod_int ht h
 have hb : -9223372036854775808 ≤ n ∧ n ≤ 9223372036854775807 := by simpa [Lit.wf, IntKind.min, IntKind.max, IntKind.signed, IntKind.bits] using hw
 exact ⟨_, ⟨n, rfl⟩, by unfold LayW LayL LayL Lay; exact ⟨_, _, rfl, ⟨rfl, inR64 hb.1 hb.2⟩, rfl⟩⟩
theorem opensD_str {P : Program} {t : TypeId} (ht : P.underlying t = some .string) : OpensD P (Is eStr) t := by
 refine ⟨fun {H} enc W base spare held fuel cs y h => ?_⟩
 obtain ⟨s, rfl, _, hs⟩ := DataW.trod_string ht h
 exact ⟨_, ⟨s, rfl⟩, by simp only [LayW, LayL, Lay]; exact ⟨_, _, rfl, ⟨rfl, by simpa [maxLen] using hs⟩, rfl⟩⟩
theorem points {α : Type} {enc : α → List DV} {W : World} {sz : Nat} {f : Nat → Option Value} (hs : ∀ x, (enc x).length = sz) : ∀ n : Nat,
  (∀ i, i < n → ∃ x ci, LayW W (enc x) ci ∧ ∀ j, j < sz → f (i * sz + j) = ci[j]?) → ∃ (xs : List α) (cells : List Value), xs.length = n ∧ LayW W (xs.flatMap enc) cells ∧ ∀ j u, cells[j]? = some u → f j = some u
 | 0, _ => ⟨[], [], rfl, by simp [LayW, LayL], by simp⟩
 | n + 1, h => by
  obtain ⟨xs, cells, h1, h2, h3⟩ := points hs n (fun i hi => h i (by omega))
  obtain ⟨x, ci, g1, g2⟩ := h n (by omega)
  have hl : cells.length = n * sz := by rw [layL_len _ _ h2, flat_len hs, h1]
  have hci : ci.length = sz := by rw [layL_len _ _ g1, hs]
  refine ⟨xs ++ [x], cells ++ ci, by simp [h1], by have := layL_append _ _ _ _ h2 g1; simp only [List.flatMap_append, List.flatMap_cons, List.flatMap_nil, List.append_nil]; exact this, fun j u hu => ?_⟩
  rcases Nat.lt_or_ge j cells.length with hj | hj
  ·rw [List.getElem?_append_left hj] at hu; exact h3 j u hu
  ·rw [List.getElem?_append_right hj] at hu
   have hjs : j - cells.length < sz := by rw [← hci]; exact (List.getElem?_eq_some_iff.1 hu).1
   have := g2 (j - cells.length) hjs
   rw [show n * sz + (j - cells.length) = j by omega] at this
   rw [this, hu]
theorem opensD_slice {α : Type} {P : Program} {enc : α → List DV} {t e : TypeId} {sz : Nat} (e' : Nat) (hs : ∀ x, (enc x).length = sz) (hsz : Nat.blt 0 sz = true) (ht : P.underlying t = some (.slice e)) (hc : P.cellsOf e = sz) (he : OpensD P (Is enc) e) : OpensD P (Is fun xs : List α => [listD e' sz enc xs]) t := by
 refine ⟨fun {H} ench W base spare held fuel cs y h => ?_⟩
 have hpos : 0 < sz := by simpa [Nat.blt_eq] using hsz
 rcases open_slice ht h with ⟨rfl, _⟩ | ⟨a, len, cap, m, n, D, Pl, rfl, _, hl, hm, hmm, _, hi⟩
 ·refine ⟨_, ⟨[], rfl⟩, ?_⟩
  simp only [LayW, LayL, Lay]
  exact ⟨_, _, rfl, ⟨none, 0, [], rfl, Nat.le_refl _, by simp [maxLen], hpos, by simp, by simp [LayL], fun h => by simp at h⟩, rfl⟩
 ·have hlm : len ≤ m := by rw [hmm]; split <;> omega
  obtain ⟨xs, cells, h1, h2, h3⟩ := points (W := W) (f := fun j => W.cell? (a.add j)) hs len (fun i hil => by
   obtain ⟨cs', hc1, hc2⟩ := hi i (by omega)
   obtain ⟨ds, ⟨x, rfl⟩, hx⟩ := he.run ench W base spare held n cs' _ hc2
   obtain ⟨_, hcl, hat⟩ := World.cells?_some hc1
   refine ⟨x, cs', hx, fun j hj => ?_⟩
   have := hat j (by rw [hc]; exact hj)
   rw [← Go.Deep.add_add, hc] at *
   exact this)
  refine ⟨_, ⟨xs, rfl⟩, ?_⟩
  simp only [LayW, LayL]
  refine ⟨_, _, rfl, ?_, rfl⟩
  simp only [Lay]
  refine ⟨some a, cap, cells, by rw [h1], by omega, hm, hpos, flat_len hs xs, h2, fun hp => ?_⟩
  have hcl : 0 < cells.length := by
   rw [layL_len _ _ h2, flat_len hs]
   exact Nat.mul_pos hp hpos
  have h0 := h3 0 _ (List.getElem?_eq_getElem hcl)
  have ha0 : a.add 0 = a := by simp [Addr.add]
  simp only [ha0] at h0
  have hsp : a.spot = none := by
   cases hs : a.spot with
   | none => rfl
   | some s =>
    unfold World.cell? at h0
    split at h0
    ·simp [hs] at h0
    ·cases h0
  obtain ⟨b, off, sp⟩ := a
  simp only at hsp
  subst hsp
  refine ⟨b, off, rfl, World.block_lt_of_cell? W _ h0, fun j u hu => ?_⟩
  have := h3 j u hu
  simp only [add_row] at this
  exact this
/-! ### structs -/
def Qcat : List (List DV → Prop) → List DV → Prop
 | [], ds => ds = []
 | Q :: Qs, ds => ∃ a b, ds = a ++ b ∧ Q a ∧ Qcat Qs b
def contig (P : Program) : List Field → Nat → Nat → Bool
 | [], off, n => off == n
 | f :: fs, off, n => f.offset == off && contig P fs (off + P.cellsOf f.type) n
def OpensAll (P : Program) : List Field → List (List DV → Prop) → Prop
 | [], [] => True
 | f :: fs, Q :: Qs => OpensD P Q f.type ∧ OpensAll P fs Qs
 | _, _ => False
theorem opens_fields {P : Program} {W : World} {H : Type} (enc : TypeId × Value → H) (base : Nat) (spare : Nat → Bool) (held : Bool) (n : Nat) {cs : List Value} : ∀ (fs : List Field) (Qs : List (List DV → Prop)) (off : Nat), contig P fs off cs.length = true → OpensAll P fs Qs →
  (∀ f ∈ fs, ∃ y, DataW.trod enc P W base spare held n f.type ((cs.drop f.offset).take (P.cellsOf f.type)) = some y) → ∃ ds, Qcat Qs ds ∧ LayW W ds (cs.drop off)
 | [], [], off, h1, _, _ => by
  simp only [contig, beq_iff_eq] at h1
  subst h1
  exact ⟨[], rfl, by simp [LayW, LayL]⟩
 | [], _ :: _, _, _, h2, _ => h2.elim
 | _ :: _, [], _, _, h2, _ => h2.elim
 | f :: fs, Q :: Qs, off, h1, h2, h3 => by
  simp only [contig, Bool.and_eq_true, beq_iff_eq] at h1
  obtain ⟨e1, h1⟩ := h1
  obtain ⟨y, hy⟩ := h3 f (by simp)
  rw [e1] at hy
  obtain ⟨a, ha, la⟩ := h2.1.run enc W base spare held n _ _ hy
  obtain ⟨b, hb, lb⟩ := opens_fields enc base spare held n fs Qs _ h1 h2.2 (fun g hg => h3 g (by simp [hg]))
  refine ⟨a ++ b, ⟨a, b, rfl, ha, hb⟩, ?_⟩
  have := layL_append _ _ _ _ la lb
  rw [← List.drop_drop, List.take_append_drop] at this
  exact this
theorem opensD_struct {P : Program} {t : TypeId} {fs : Array Field} {Qs : List (List DV → Prop)} (ht : P.underlying t = some (.struct fs)) (hc : contig P fs.toList 0 (P.cellsOf t) = true) (h : OpensAll P fs.toList Qs) : OpensD P (Qcat Qs) t := by
 refine ⟨fun {H} enc W base spare held fuel cs y h' => ?_⟩
 obtain ⟨xs, n, _, _, hl, hlen, hf⟩ := DataW.trod_struct ht h'
 have := opens_fields (cs := cs) enc base spare held n fs.toList Qs 0 (by rw [hl]; exact hc) h (fun f hf' => by
  obtain ⟨i, hi⟩ := List.mem_iff_getElem?.1 hf'
  have hi' : fs[i]? = some f := by simpa using hi
  have h2 := hf i f hi'
  have hlt : i < xs.length := by
   rw [hlen]
   rw [Array.getElem?_eq_some_iff] at hi'
   exact hi'.1
  rw [List.getElem?_eq_getElem hlt] at h2
  exact ⟨_, h2⟩)
 simpa using this
theorem OpensD.mono {P : Program} {Q R : List DV → Prop} {t : TypeId} (h : OpensD P Q t) (hq : ∀ ds, Q ds → R ds) : OpensD P R t := by
 refine ⟨fun {H} enc W base spare held fuel cs y h' => ?_⟩
 obtain ⟨ds, h1, h2⟩ := h.run enc W base spare held fuel cs y h'
 exact ⟨ds, hq ds h1, h2⟩
/-! ### a call from the outside -/
def TopL (w : World) : List SV → List Value → Prop
 | [], vs => vs = []
 | .one c :: us, vs => ∃ d v vs', c = .dv [] d ∧ vs = v :: vs' ∧ LayW w [d] [v] ∧ TopL w us vs'
 | .agg cs :: us, vs => ∃ ds xs vs', cs = ds.map (CV.dv []) ∧ vs = .agg xs.toArray :: vs' ∧ LayW w ds xs ∧ TopL w us vs'
 | _ :: _, _ => False
theorem lay_top {w : World} {L : Lyt} {d : DV} {v : Value} (h : LayW w [d] [v]) : CVr ⟨w, [], L.rv⟩ L w (.dv [] d) v := by
 simp only [LayW, LayL] at h
 obtain ⟨v', _, e, h1, rfl⟩ := h
 simp only [List.cons.injEq, and_true] at e
 subst e
 simp only [CVr]
 exact lay_conv (fun b hb _ => ⟨.inl ⟨hb, by simp⟩, rfl⟩) d _ h1
theorem lays_top {w : World} {L : Lyt} : ∀ {ds : List DV} {vs : List Value}, LayW w ds vs → CVL ⟨w, [], L.rv⟩ L w (ds.map (CV.dv [])) vs
 | [], _, h => by simp only [LayW, LayL] at h; subst h; rfl
 | d :: ds, _, h => by
  simp only [LayW, LayL] at h
  obtain ⟨v, vs', rfl, h1, h2⟩ := h
  exact ⟨v, vs', rfl, lay_top (by simp only [LayW, LayL]; exact ⟨v, [], rfl, h1, rfl⟩), lays_top h2⟩
theorem topL_sv {P : Program} {w : World} {L : Lyt} : ∀ {us : List SV} {vs : List Value}, TopL w us vs → vs.length = us.length ∧ (∀ u ∈ us, u.keys = [] ∧ u.boxes = []) ∧ ∀ (i : Nat) (v : SV), us[i]? = some v → ∃ x, vs[i]? = some x ∧ SVr P ⟨w, [], L.rv⟩ L w v x
 | [], _, h => by simp only [TopL] at h; subst h; simp
 | .one c :: us, _, h => by
  simp only [TopL] at h
  obtain ⟨d, v, vs', rfl, rfl, h1, h2⟩ := h
  obtain ⟨g1, g2, g3⟩ := topL_sv (P := P) (L := L) h2
  refine ⟨by simp [g1], fun u hu => ?_, fun i x hx => ?_⟩
  ·rcases List.mem_cons.1 hu with rfl | hu
   ·exact ⟨rfl, rfl⟩
   ·exact g2 u hu
  ·cases i with
   | zero => simp only [List.getElem?_cons_zero, Option.some.injEq] at hx; subst hx; exact ⟨v, rfl, by simp only [SVr]; exact lay_top h1⟩
   | succ i => simpa using g3 i x (by simpa using hx)
 | .agg cs :: us, _, h => by
  simp only [TopL] at h
  obtain ⟨ds, xs, vs', rfl, rfl, h1, h2⟩ := h
  obtain ⟨g1, g2, g3⟩ := topL_sv (P := P) (L := L) h2
  refine ⟨by simp [g1], fun u hu => ?_, fun i x hx => ?_⟩
  ·rcases List.mem_cons.1 hu with rfl | hu
   ·refine ⟨?_, rfl⟩
    simp only [SV.keys]
    rw [List.flatMap_eq_nil_iff]
    intro c hc
    obtain ⟨d, _, rfl⟩ := List.mem_map.1 hc
    rfl
   ·exact g2 u hu
  ·cases i with
   | zero => simp only [List.getElem?_cons_zero, Option.some.injEq] at hx; subst hx; exact ⟨_, rfl, by simp only [SVr]; exact ⟨xs, rfl, lays_top h1⟩⟩
   | succ i => simpa using g3 i x (by simpa using hx)
 | .tup _ :: _, _, h => by simp [TopL] at h
 | .box _ _ :: _, _, h => by simp [TopL] at h
 | .ref _ _ :: _, _, h => by simp [TopL] at h
 | .eptr _ _ :: _, _, h => by simp [TopL] at h
 | .ksl _ _ _ _ :: _, _, h => by simp [TopL] at h
 | .fn _ _ :: _, _, h => by simp [TopL] at h
 | .clo _ _ :: _, _, h => by simp [TopL] at h
 | .opt _ _ :: _, _, h => by simp [TopL] at h
 | .any :: _, _, h => by simp [TopL] at h
theorem pfn_run {P : Program} {f : FuncId} {us : List SV} {b : Bool} (hf : PFn P f us (.one (.dv [] (.bool b)))) {w : World} {vs : List Value} (h : TopL w us vs) :
  Calls P f vs.toArray w fun e w' => e = .returned (.bool b) ∧ Below w.heap.size w w' := by
 let L : Lyt := ⟨fun _ => 0, fun _ => [], fun _ => .bool false⟩
 obtain ⟨h1, h2, h3⟩ := topL_sv (P := P) (L := L) h
 obtain ⟨t1, t2⟩ := enum_tk us 0 h2
 have hr : Rel P ⟨w, [], L.rv⟩ us.length L ⟨enumS 0 us, [], []⟩ ⟨vs.toArray, []⟩ w := {
  df := rfl
  sz := by simp [h1]
  tm := fun i v hv => by
   obtain ⟨_, h4⟩ := enumS_look us 0 i v hv
   obtain ⟨x, h5, h6⟩ := h3 i v (by simpa using h4)
   have : vs.toArray.getD i undef = x := by simp [Array.getD_eq_getD_getElem?, h5]
   rw [this]; exact h6
  bx := fun i t cs h => by cases h
  ks := fun k c h => by cases h
  b1 := fun i x h => by cases h
  k1 := fun k c h => by cases h
  kn := fun k c h => by cases h
  bb := fun i j x y h => by cases h
  bk := fun i k x c h => by cases h
  kk := fun k j c d h => by cases h
  lk := fun k hk => by simp only [St.tk, t1, List.flatMap_nil, List.append_nil] at hk; cases hk
  lb := fun b hb => by simp only [St.tb, t2] at hb; cases hb
  s0 := fun b hb => by cases hb
  chg := Chg.refl _ _ }
 refine (hf.ok w [] L vs h1 hr).mono ?_
 rintro e w' ⟨r, res, σ', L', rfl, rfl, hr'⟩
 have hv := hr'.tm 0 _ rfl
 simp only [SVr, CVr, Lay] at hv
 refine ⟨?_, hr'.chg.below⟩
 have : (#[r] : Array Value).getD 0 undef = r := rfl
 rw [this] at hv
 rw [hv]
end Go.Proofs.YtcgmpjedhbhplaaGreat

namespace Go.Proofs.YtcgmpjedhbhplaaGreat
open Go.RowKit
open Go.Proofs
theorem opensKey : OpensD Tryz.prog (Is eKey) 125 :=
 (opensD_struct (Qs := [Is eInt, Is eInt, Is eStr]) Tryz.underlying125 (by kernel_rfl) ⟨(opensD_int Tryz.underlying3), (opensD_int Tryz.underlying3), (opensD_str Tryz.underlying9), trivial⟩).mono fun ds h => by
  obtain ⟨_, _, rfl, ⟨a, rfl⟩, ⟨_, _, rfl, ⟨b, rfl⟩, ⟨_, _, rfl, ⟨c, rfl⟩, rfl⟩⟩⟩ := h
  exact ⟨(a, b, c), rfl⟩
theorem opensField : OpensD Tryz.prog (Is eField) 173 :=
 (opensD_struct (Qs := [Is eStr, Is eInt]) Tryz.underlying173 (by kernel_rfl) ⟨(opensD_str Tryz.underlying9), (opensD_int Tryz.underlying3), trivial⟩).mono fun ds h => by
  obtain ⟨_, _, rfl, ⟨a, rfl⟩, ⟨_, _, rfl, ⟨b, rfl⟩, rfl⟩⟩ := h
  exact ⟨(a, b), rfl⟩
theorem opensFields : OpensD Tryz.prog (Is fun xs => [listD 152 2 eField xs]) 126 := opensD_slice (sz := 2) 152 (fun _ => rfl) rfl Tryz.underlying126 (by kernel_rfl) opensField
theorem opensRecord : OpensD Tryz.prog (Is (fun r : RecT => [fieldsD r])) 128 :=
 (opensD_struct (Qs := [Is (fun r : RecT => [fieldsD r])]) Tryz.underlying128 (by kernel_rfl) ⟨opensFields, trivial⟩).mono fun ds h => by
  obtain ⟨_, _, rfl, ⟨a, rfl⟩, rfl⟩ := h
  exact ⟨a, rfl⟩
theorem opensItem : OpensD Tryz.prog (Is eItem) 130 :=
 (opensD_struct (Qs := [Is eKey, Is (fun r : RecT => [fieldsD r])]) Tryz.underlying130 (by kernel_rfl) ⟨opensKey, opensRecord, trivial⟩).mono fun ds h => by
  obtain ⟨_, _, rfl, ⟨a, rfl⟩, ⟨_, _, rfl, ⟨b, rfl⟩, rfl⟩⟩ := h
  exact ⟨(a, b), rfl⟩
theorem opensItems : OpensD Tryz.prog (Is fun xs => [listD 95 4 eItem xs]) 73 := opensD_slice (sz := 4) 95 (fun _ => rfl) rfl Tryz.underlying73 (by kernel_rfl) opensItem
theorem opensStore : OpensD Tryz.prog (Is eStore) 75 :=
 (opensD_struct (Qs := [Is eStr, Is (fun r : List ItemT => [itemsD r]), Is eInt]) Tryz.underlying75 (by kernel_rfl) ⟨(opensD_str Tryz.underlying9), opensItems, (opensD_int Tryz.underlying3), trivial⟩).mono fun ds h => by
  obtain ⟨_, _, rfl, ⟨a, rfl⟩, ⟨_, _, rfl, ⟨b, rfl⟩, ⟨_, _, rfl, ⟨c, rfl⟩, rfl⟩⟩⟩ := h
  exact ⟨(a, b, c), rfl⟩
theorem opensStores : OpensD Tryz.prog (Is fun xs => [listD 60 3 eStore xs]) 22 := opensD_slice (sz := 3) 60 (fun _ => rfl) rfl Tryz.underlying22 (by kernel_rfl) opensStore
theorem opensDef : OpensD Tryz.prog (Is eDef) 78 :=
 (opensD_struct (Qs := [Is eStr, Is eStr]) Tryz.underlying78 (by kernel_rfl) ⟨(opensD_str Tryz.underlying9), (opensD_str Tryz.underlying9), trivial⟩).mono fun ds h => by
  obtain ⟨_, _, rfl, ⟨a, rfl⟩, ⟨_, _, rfl, ⟨b, rfl⟩, rfl⟩⟩ := h
  exact ⟨(a, b), rfl⟩
theorem opensDefs : OpensD Tryz.prog (Is fun xs => [listD 98 2 eDef xs]) 23 := opensD_slice (sz := 2) 98 (fun _ => rfl) rfl Tryz.underlying23 (by kernel_rfl) opensDef
theorem opensDb : OpensD Tryz.prog (Is eDb) 25 :=
 (opensD_struct (Qs := [Is eStr, Is eInt, Is (fun r : List StoreT => [storesD r]), Is (fun r : List DefT => [defsD r])]) Tryz.underlying25 (by kernel_rfl) ⟨(opensD_str Tryz.underlying9), (opensD_int Tryz.underlying3), opensStores, opensDefs, trivial⟩).mono fun ds h => by
  obtain ⟨_, _, rfl, ⟨a, rfl⟩, ⟨_, _, rfl, ⟨b, rfl⟩, ⟨_, _, rfl, ⟨c, rfl⟩, ⟨_, _, rfl, ⟨d, rfl⟩, rfl⟩⟩⟩⟩ := h
  exact ⟨(a, b, c, d), rfl⟩
theorem opensOp : OpensD Tryz.prog (Is eOp) 133 :=
 (opensD_struct (Qs := [Is eInt, Is eStr, Is eKey, Is (fun r : RecT => [fieldsD r]), Is eStr]) Tryz.underlying133 (by kernel_rfl) ⟨(opensD_int Tryz.underlying3), (opensD_str Tryz.underlying9), opensKey, opensRecord, (opensD_str Tryz.underlying9), trivial⟩).mono fun ds h => by
  obtain ⟨_, _, rfl, ⟨a, rfl⟩, ⟨_, _, rfl, ⟨b, rfl⟩, ⟨_, _, rfl, ⟨c, rfl⟩, ⟨_, _, rfl, ⟨d, rfl⟩, ⟨_, _, rfl, ⟨e, rfl⟩, rfl⟩⟩⟩⟩⟩ := h
  exact ⟨(a, b, c, d, e), rfl⟩
theorem opensOps : OpensD Tryz.prog (Is fun xs => [listD 93 7 eOp xs]) 80 := opensD_slice (sz := 7) 93 (fun _ => rfl) rfl Tryz.underlying80 (by kernel_rfl) opensOp
theorem opensTx : OpensD Tryz.prog (Is eTx) 82 :=
 (opensD_struct (Qs := [Is eInt, Is (fun r : List OpT => [opsD r]), Is eInt, Is eInt, Is (fun r : List StoreT => [storesD r])]) Tryz.underlying82 (by kernel_rfl) ⟨(opensD_int Tryz.underlying3), opensOps, (opensD_int Tryz.underlying3), (opensD_int Tryz.underlying3), opensStores, trivial⟩).mono fun ds h => by
  obtain ⟨_, _, rfl, ⟨a, rfl⟩, ⟨_, _, rfl, ⟨b, rfl⟩, ⟨_, _, rfl, ⟨c, rfl⟩, ⟨_, _, rfl, ⟨d, rfl⟩, ⟨_, _, rfl, ⟨e, rfl⟩, rfl⟩⟩⟩⟩⟩ := h
  exact ⟨(a, b, c, d, e), rfl⟩
theorem opensTxs : OpensD Tryz.prog (Is fun xs => [listD 54 5 eTx xs]) 26 := opensD_slice (sz := 5) 54 (fun _ => rfl) rfl Tryz.underlying26 (by kernel_rfl) opensTx
theorem opensQueue : OpensD Tryz.prog (Is (fun r : List TxT => [txsD r])) 28 :=
 (opensD_struct (Qs := [Is (fun r : List TxT => [txsD r])]) Tryz.underlying28 (by kernel_rfl) ⟨opensTxs, trivial⟩).mono fun ds h => by
  obtain ⟨_, _, rfl, ⟨a, rfl⟩, rfl⟩ := h
  exact ⟨a, rfl⟩
end Go.Proofs.YtcgmpjedhbhplaaGreat

