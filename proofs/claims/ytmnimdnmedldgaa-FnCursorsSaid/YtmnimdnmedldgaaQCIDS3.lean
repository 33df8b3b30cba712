/-
  Contracts of the program's functions for the statements Stores, Deletions, Indexes, Cursors, by the rules of the logic. Conditions: none but those in the theorems.
-/
import Derived.Below
import Derived.Deep.Slices
import Derived.OpenShut
import Derived.ProofKit
import Derived.Test.YtmnimdnmedldgaaQCIDS2
set_option maxHeartbeats 4000000
set_option maxRecDepth 100000
namespace Go.Proofs.Ytmnimdnmedldgaa
open Go.RowKit
open Go.Proofs
set_option linter.unusedVariables false
set_option linter.unusedSimpArgs false

theorem delS_w (x : StoreT) (r : RangeT) : wStore (delS x r).1 ≤ wStore x := by
 unfold delS
 split
 ·have h1 := wSum_split wItem (inIt r) x.2.1
  have h2 := del_len x r
  have h3 : wStore (x.1, x.2.1.filter (outIt r), x.2.2) = x.1.size + ((x.2.1.filter (outIt r)).length + wSum wItem (x.2.1.filter (outIt r))) := rfl
  have h4 : wStore x = x.1.size + (x.2.1.length + wSum wItem x.2.1) := rfl
  have h5 : x.2.1.filter (fun y => !inIt r y) = x.2.1.filter (outIt r) := rfl
  rw [h5] at h1
  dsimp only
  omega
 ·exact Nat.le_refl _

theorem ok_laws_FnDeletions {x0 : List UInt8}  : PFn Try.prog 4 [.one (.dv [] (bytesD (x0)))] (.one (.dv [] (.bool (true)))) := by
 refine ⟨fn_intro Try.func4 rfl Try.ntmps4 Try.results4 rfl (fun C => ?_)⟩
 refine ok_fact (x := .tmp 0) (ev_tmp rfl) fun f0 => ?_
 iterate 6 refine z ?_
 refine zC Try.call7 ?_ (hf := ok_laws_big (code := x0) )
 refine z ?_
 refine yQ rfl (fun c1 => ?_) fun c1 => ?_
 ·skip
  have d1 := of_decide_eq_true c1
  iterate 6 refine z ?_
  rfl
 ·skip
  have d1 := of_decide_eq_false c1
  iterate 4 refine z ?_
  refine o_callE 0 rfl rfl rfl Try.call15 (ok_spec_DrawDeleteItems (code := x0) (by omega)) (as_cons (ev_tmp rfl) (ag_one ac_dv) as_nil) rfl (fun _ => rfl) (fun _ => rfl) (fun zz hz14 => ?_)
  obtain ⟨e14_0, e14_1⟩ := zz
  replace hz14 : wStore e14_0 ≤ 1500 := hz14
  have hls : wStore e14_0 = e14_0.1.size + (e14_0.2.1.length + wSum wItem e14_0.2.1) := rfl
  have hdw : wStore (delS e14_0 e14_1).1 ≤ 1500 := Nat.le_trans (delS_w _ _) hz14
  have hll : (e14_0.2.1.filter (inIt e14_1)).length ≤ e14_0.2.1.length := List.length_filter_le _ _
  iterate 11 refine z ?_
  refine o_callK 100 rfl rfl rfl Try.call16 (ok_impl_DeleteItems (x := e14_0) (r := e14_1) (by omega)) (as_cons (ev_tmp rfl) (ag_agg (ag_cons ac_dv (ag_cons (ac_key' rfl rfl) (ag_cons ac_dv ag_nil)))) (as_cons (ev_tmp rfl) (ag_agg (ag_cons ac_dv (ag_cons ac_dv (ag_cons ac_dv (ag_cons ac_dv (ag_cons ac_dv (ag_cons ac_dv (ag_cons ac_dv (ag_cons ac_dv ag_nil))))))))) as_nil)) rfl rfl rfl ?_
  iterate 10 refine z ?_
  refine o_callK 9193 rfl rfl rfl Try.call17 (ok_impl_ItemsIn (x := e14_0) (r := e14_1) (by omega)) (as_cons (ev_tmp rfl) (ag_agg (ag_cons ac_dv (ag_cons (ac_key' rfl rfl) (ag_cons ac_dv ag_nil)))) (as_cons (ev_tmp rfl) (ag_agg (ag_cons ac_dv (ag_cons ac_dv (ag_cons ac_dv (ag_cons ac_dv (ag_cons ac_dv (ag_cons ac_dv (ag_cons ac_dv (ag_cons ac_dv ag_nil))))))))) as_nil)) rfl rfl rfl ?_
  iterate 2 refine z ?_
  refine ok_seq ?_
  refine ok_seq ?_
  refine ok_weak (weak_view (d := 7) (dd := itemsD (e14_0.2.1.filter (inIt e14_1))) rfl rfl (.refl _)) ?_
  refine ok_region ?_
  refine z ?_
  refine o_call rfl rfl rfl Try.call9 (ok_spec_IsStore (s := e14_0) ) (as_cons (ev_tmp rfl) (ag_agg (ag_cons ac_dv (ag_cons (ac_key' rfl rfl) (ag_cons ac_dv ag_nil)))) as_nil) rfl rfl ?_
  iterate 2 refine z ?_
  refine yQ rfl (fun c2 => ?_) fun c2 => ?_
  ·skip
   have hd := delS_no c2 (r := e14_1)
   iterate 6 refine z ?_
   refine o_callG (gd_bool rfl rfl rfl rfl rfl) rfl rfl Try.call18 (ok_impl_EqualStores (x := (delS (e14_0) (e14_1)).1) (y := e14_0) ) (fun hg => (as_cons (ev_opt rfl hg) (ag_agg (ag_cons ac_dv (ag_cons (ac_key' rfl rfl) (ag_cons ac_dv ag_nil)))) (as_cons (ev_opt rfl hg) (ag_agg (ag_cons ac_dv (ag_cons (ac_key' rfl rfl) (ag_cons ac_dv ag_nil)))) as_nil))) rfl rfl ?_
   iterate 6 refine z ?_
   show (decide ((delS e14_0 e14_1).2 = 0) && eqStoreB (delS e14_0 e14_1).1 e14_0) = true
   rw [hd]
   show (decide ((0 : Int) = 0) && eqStoreB e14_0 e14_0) = true
   rw [eqStore_self]; rfl
  ·skip
   have hd := delS_yes c2 (r := e14_1)
   have hd1 : (delS e14_0 e14_1).1 = _ := congrArg Prod.fst hd
   have hd2 : (delS e14_0 e14_1).2 = _ := congrArg Prod.snd hd
   have hdl := del_len e14_0 e14_1
   have hdz := del_size e14_0 e14_1
   have hn : (delS e14_0 e14_1).2 = ((e14_0.2.1.filter (inIt e14_1)).length : Int) := by rw [hd2]; dsimp only; omega
   have hzb := sizeS_le (delS e14_0 e14_1).1
   have hxl : ((delS e14_0 e14_1).1.2.1.length : Int) + (delS e14_0 e14_1).2 = (e14_0.2.1.length : Int) := by rw [hd]; dsimp only; omega
   iterate 10 refine z ?_
   refine ok_loop (ι := Nat) (fun zz => ⟨[(3, .box 3 0), (4, .box 4 0), (5, .box 5 0), (6, .one (.dv [] (.int .i64 ((delS (e14_0) (e14_1)).2)))), (7, .one (.dv [9201] (itemsD (e14_0.2.1.filter (inIt e14_1))))), (8, .one (.dv [] (.int .i64 ((wSum sizeI ((e14_0.2.1.filter (inIt e14_1)).take zz) : Int))))), (9, .one (.dv [] (.int .i64 ((zz : Int)))))], [(3, 26, [(.dv [] (.str (e14_0.1))), (.key 9001), (.dv [] (.int .i64 (e14_0.2.2)))]), (4, 30, [(.dv [] (.bool (e14_1.1))), (.dv [] (.bool (e14_1.2.1))), (.dv [] (.int .i64 (e14_1.2.2.1.1))), (.dv [] (.int .i64 (e14_1.2.2.1.2.1))), (.dv [] (.str (e14_1.2.2.1.2.2))), (.dv [] (.int .i64 (e14_1.2.2.2.1))), (.dv [] (.int .i64 (e14_1.2.2.2.2.1))), (.dv [] (.str (e14_1.2.2.2.2.2)))]), (5, 26, [(.dv [] (.str ((delS (e14_0) (e14_1)).1.1))), (.key 9101), (.dv [] (.int .i64 ((delS (e14_0) (e14_1)).1.2.2)))])], [(9001, some (kcOf false (itemsD (e14_0.2.1)))), (9101, some (kcOf false (itemsD ((delS (e14_0) (e14_1)).1.2.1)))), (9201, some (kcOf false (itemsD ((e14_0).2.1.filter (inIt (e14_1))))))]⟩) (fun zz => zz ≤ (e14_0.2.1.filter (inIt e14_1)).length) (fun zz => (e14_0.2.1.filter (inIt e14_1)).length - zz) (0) ?_ (weak_sub ⟨rfl, rfl, rfl, rfl, rfl, (eqSlotI (by simp [wSum])), rfl, trivial⟩ ⟨rfl, rfl, rfl, trivial⟩ ⟨rfl, rfl, rfl, trivial⟩ rfl) (fun zz hx => ?_)
   ·exact Nat.zero_le _
   obtain ⟨k, rfl⟩ : ∃ v, v = zz := ⟨_, rfl⟩
   replace hx : k ≤ (e14_0.2.1.filter (inIt e14_1)).length := hx
   have hsz := wSum_cap sizeI_le ((e14_0.2.1.filter (inIt e14_1)).take k)
   rw [List.length_take] at hsz
   have hmin : min k (e14_0.2.1.filter (inIt e14_1)).length ≤ 1500 := by omega
   show Ok _ _ _ _ _ (⟨[(3, .box 3 0), (4, .box 4 0), (5, .box 5 0), (6, .one (.dv [] (.int .i64 ((delS (e14_0) (e14_1)).2)))), (7, .one (.dv [9201] (itemsD (e14_0.2.1.filter (inIt e14_1))))), (8, .one (.dv [] (.int .i64 ((wSum sizeI ((e14_0.2.1.filter (inIt e14_1)).take k) : Int))))), (9, .one (.dv [] (.int .i64 ((k : Int)))))], [(3, 26, [(.dv [] (.str (e14_0.1))), (.key 9001), (.dv [] (.int .i64 (e14_0.2.2)))]), (4, 30, [(.dv [] (.bool (e14_1.1))), (.dv [] (.bool (e14_1.2.1))), (.dv [] (.int .i64 (e14_1.2.2.1.1))), (.dv [] (.int .i64 (e14_1.2.2.1.2.1))), (.dv [] (.str (e14_1.2.2.1.2.2))), (.dv [] (.int .i64 (e14_1.2.2.2.1))), (.dv [] (.int .i64 (e14_1.2.2.2.2.1))), (.dv [] (.str (e14_1.2.2.2.2.2)))]), (5, 26, [(.dv [] (.str ((delS (e14_0) (e14_1)).1.1))), (.key 9101), (.dv [] (.int .i64 ((delS (e14_0) (e14_1)).1.2.2)))])], [(9001, some (kcOf false (itemsD (e14_0.2.1)))), (9101, some (kcOf false (itemsD ((delS (e14_0) (e14_1)).1.2.1)))), (9201, some (kcOf false (itemsD ((e14_0).2.1.filter (inIt (e14_1))))))]⟩ : St)
   iterate 7 refine z ?_
   refine yQ rfl (fun c3 => ?_) fun c3 => ?_
   ·skip
    have d3 := of_decide_eq_true c3
    have hk2 : k < (e14_0.2.1.filter (inIt e14_1)).length := by omega
    obtain ⟨hw1, hw2⟩ := wSum_succ sizeI (e14_0.2.1.filter (inIt e14_1)) k hk2
    have hel : ((e14_0.2.1.filter (inIt e14_1)).getD (k : Int).toNat default) ∈ (e14_0.2.1.filter (inIt e14_1)) := by rw [Int.toNat_natCast, List.getD_eq_getElem?_getD, List.getElem?_eq_getElem hk2]; exact List.getElem_mem hk2
    have her := encR_len ((e14_0.2.1.filter (inIt e14_1)).getD (k : Int).toNat default).2
    have hek := encK_len ((e14_0.2.1.filter (inIt e14_1)).getD (k : Int).toNat default).1
    have hsi : sizeI ((e14_0.2.1.filter (inIt e14_1)).getD (k : Int).toNat default) = (encK ((e14_0.2.1.filter (inIt e14_1)).getD (k : Int).toNat default).1).length + (encR ((e14_0.2.1.filter (inIt e14_1)).getD (k : Int).toNat default).2).length := rfl
    iterate 4 refine z ?_
    refine ok_seq ?_
    refine ok_seq ?_
    refine ok_regionD (oB := [3, 4, 5]) (oK := [9001, 9101, 9201]) (by kernel_rfl) rfl rfl ?_
    refine zD 0 ?_
    refine zD 1 ?_
    refine zD 2 ?_
    refine zD 3 ?_
    refine zD 4 ?_
    refine zD 5 ?_
    refine d_call 6 rfl (by kernel_rfl) rfl rfl rfl Try.call19 (ok_spec_InRangeOf (x := (((e14_0.2.1.filter (inIt e14_1))).getD ((k : Int)).toNat default).1) (y := e14_1) ) (as_cons (ev_tmp rfl) (ag_agg (ag_cons ac_dv (ag_cons ac_dv (ag_cons ac_dv ag_nil)))) (as_cons (ev_tmp rfl) (ag_agg (ag_cons ac_dv (ag_cons ac_dv (ag_cons ac_dv (ag_cons ac_dv (ag_cons ac_dv (ag_cons ac_dv (ag_cons ac_dv (ag_cons ac_dv ag_nil))))))))) as_nil)) rfl rfl rfl rfl ?_
    refine zD 7 ?_
    refine zD 8 ?_
    refine zDG 9 ?_
    refine zDG 10 ?_
    refine zDG 11 ?_
    refine zDG 12 ?_
    refine zDG 13 ?_
    refine zDG 14 ?_
    refine d_callG 15 rfl (by kernel_rfl) (gd_bool rfl rfl rfl rfl rfl) rfl rfl Try.call20 (ok_impl_FindItem (x := (delS (e14_0) (e14_1)).1) (k := (((e14_0.2.1.filter (inIt e14_1))).getD ((k : Int)).toNat default).1) ) (fun hg => (as_cons (ev_opt rfl hg) (ag_agg (ag_cons ac_dv (ag_cons (ac_key' rfl rfl) (ag_cons ac_dv ag_nil)))) (as_cons (ev_opt rfl hg) (ag_agg (ag_cons ac_dv (ag_cons ac_dv (ag_cons ac_dv ag_nil)))) as_nil))) rfl rfl ?_
    refine zDG 16 ?_
    refine zD 17 ?_
    refine d_done (by kernel_rfl) ?_
    refine z ?_
    refine yQ rfl (fun c4 => ?_) fun c4 => ?_
    ·skip
     iterate 11 refine z ?_
     exfalso
     have q1 : inRg ((e14_0.2.1.filter (inIt e14_1)).getD (k : Int).toNat default).1 e14_1 = true := (List.mem_filter.1 hel).2
     have q2 : ¬ 0 ≤ fndK (delS e14_0 e14_1).1 ((e14_0.2.1.filter (inIt e14_1)).getD (k : Int).toNat default).1 := by rw [hd1]; have := del_none (x := e14_0) q1; dsimp only; omega
     revert c4
     rw [q1, decide_eq_false q2]; simp
    ·skip
     iterate 2 refine z ?_
     refine ok_regionD (oB := [3, 4, 5]) (oK := [9001, 9101, 9201]) (by kernel_rfl) rfl rfl ?_
     refine zD 0 ?_
     refine zD 1 ?_
     refine zD 2 ?_
     refine zD 3 ?_
     refine zD 4 ?_
     refine zD 5 ?_
     refine zD 9 ?_
     refine zD 10 ?_
     refine zD 11 ?_
     refine zD 12 ?_
     refine zD 13 ?_
     refine d_callK 9389 6 rfl (by kernel_rfl) rfl rfl rfl Try.call21 (ok_spec_EncodeKey (k := (((e14_0.2.1.filter (inIt e14_1))).getD ((k : Int)).toNat default).1) ) (as_cons (ev_tmp rfl) (ag_agg (ag_cons ac_dv (ag_cons ac_dv (ag_cons ac_dv ag_nil)))) as_nil) rfl rfl rfl rfl rfl ?_
     refine d_take 7 rfl (by kernel_rfl) rfl rfl (pu_lenKn (n := ((encK ((((e14_0.2.1.filter (inIt e14_1))).getD ((k : Int)).toNat default).1))).length) hT rfl rfl (ev_tmp rfl) rfl rfl) rfl rfl rfl rfl ?_
     refine zD 8 ?_
     refine d_callK 9001 14 rfl (by kernel_rfl) rfl rfl rfl Try.call22 (ok_spec_EncodeRecord (r := (((e14_0.2.1.filter (inIt e14_1))).getD ((k : Int)).toNat default).2) ) (as_cons (ev_tmp rfl) (ag_agg (ag_cons ac_dv ag_nil)) as_nil) rfl rfl rfl rfl rfl ?_
     refine d_take 15 rfl (by kernel_rfl) rfl rfl (pu_lenKn (n := ((encR ((((e14_0.2.1.filter (inIt e14_1))).getD ((k : Int)).toNat default).2))).length) hT rfl rfl (ev_tmp rfl) rfl rfl) rfl rfl rfl rfl ?_
     refine zD 16 ?_
     refine zD 17 ?_
     refine d_done (by kernel_rfl) ?_
     iterate 2 refine z ?_
     refine ok_region ?_
     iterate 4 refine z ?_
     refine ⟨k + 1, ?_, ?_, weak_sub ⟨rfl, rfl, rfl, rfl, rfl, (eqSlotI (by omega)), rfl, trivial⟩ ⟨rfl, rfl, rfl, trivial⟩ ⟨rfl, rfl, rfl, trivial⟩ rfl⟩
     ·omega
     ·omega
   ·skip
    have d3 := of_decide_eq_false c3
    iterate 5 refine z ?_
    refine ok_seq ?_
    refine ok_regionD (oB := [3, 4, 5]) (oK := [9001, 9101, 9201]) (by kernel_rfl) rfl rfl ?_
    refine zD 0 ?_
    refine zD 1 ?_
    refine zD 2 ?_
    refine zD 3 ?_
    refine zD 4 ?_
    refine zDG 5 ?_
    refine zDG 6 ?_
    refine d_takeG 7 rfl (by kernel_rfl) (gd_bool rfl rfl rfl rfl rfl) rfl (fun hg => pu_lenKn (n := (((delS (e14_0) (e14_1)).1.2.1)).length) hT rfl rfl (ev_opt rfl hg) rfl rfl) rfl rfl rfl rfl ?_
    refine zDG 8 ?_
    refine zDG 9 ?_
    refine zDG 10 ?_
    refine zDG 11 ?_
    refine d_takeG 12 rfl (by kernel_rfl) (gd_bool rfl rfl rfl rfl rfl) rfl (fun hg => pu_lenKn (n := ((e14_0.2.1)).length) hT rfl rfl (ev_opt rfl hg) rfl rfl) rfl rfl rfl rfl ?_
    refine zDG 13 ?_
    refine zD 14 ?_
    refine zD 15 ?_
    refine zDG 16 ?_
    refine zDG 17 ?_
    refine d_callKT 9293 18 rfl (by kernel_rfl) (gd_bool rfl rfl rfl rfl rfl) (by rw [decide_eq_true hn, decide_eq_true hxl]; rfl) rfl rfl Try.call17 (ok_impl_ItemsIn (x := (delS (e14_0) (e14_1)).1) (r := e14_1) (by omega)) (as_cons (ev_opt rfl (by rw [decide_eq_true hn, decide_eq_true hxl]; rfl)) (ag_agg (ag_cons ac_dv (ag_cons (ac_key' rfl rfl) (ag_cons ac_dv ag_nil)))) (as_cons (ev_opt rfl (by rw [decide_eq_true hn, decide_eq_true hxl]; rfl)) (ag_agg (ag_cons ac_dv (ag_cons ac_dv (ag_cons ac_dv (ag_cons ac_dv (ag_cons ac_dv (ag_cons ac_dv (ag_cons ac_dv (ag_cons ac_dv ag_nil))))))))) as_nil)) rfl rfl rfl rfl rfl ?_
    refine d_takeG 19 rfl (by kernel_rfl) (gd_bool rfl rfl rfl rfl rfl) rfl (fun hg => pu_lenKn (n := ((((delS (e14_0) (e14_1)).1).2.1.filter (inIt (e14_1)))).length) hT rfl rfl (ev_tmp rfl) rfl rfl) rfl rfl rfl rfl ?_
    refine zDG 20 ?_
    refine zD 21 ?_
    refine zD 22 ?_
    refine zDG 23 ?_
    refine zDG 25 ?_
    refine zDG 27 ?_
    refine d_callG 24 rfl (by kernel_rfl) (gd_bool rfl rfl rfl rfl rfl) rfl rfl Try.call23 (ok_impl_SizeStore (x := (delS (e14_0) (e14_1)).1) (by omega)) (fun hg => (as_cons (ev_opt rfl hg) (ag_agg (ag_cons ac_dv (ag_cons (ac_key' rfl rfl) (ag_cons ac_dv ag_nil)))) as_nil)) rfl rfl ?_
    refine zDG 26 ?_
    refine d_callG 28 rfl (by kernel_rfl) (gd_bool rfl rfl rfl rfl rfl) rfl rfl Try.call23 (ok_impl_SizeStore (x := e14_0) (by omega)) (fun hg => (as_cons (ev_opt rfl hg) (ag_agg (ag_cons ac_dv (ag_cons (ac_key' rfl rfl) (ag_cons ac_dv ag_nil)))) as_nil)) rfl rfl ?_
    refine zDG 29 ?_
    refine zD 30 ?_
    refine zD 31 ?_
    refine d_done (by kernel_rfl) ?_
    iterate 3 refine z ?_
    have e1 : (delS e14_0 e14_1).1.2.1.filter (inIt e14_1) = [] := by rw [hd1]; exact del_rest _ _
    have e2 : wSum sizeI ((e14_0.2.1.filter (inIt e14_1)).take k) = wSum sizeI (e14_0.2.1.filter (inIt e14_1)) := wSum_all _ _ _ (by omega)
    have e3 : sizeS (delS e14_0 e14_1).1 + wSum sizeI (e14_0.2.1.filter (inIt e14_1)) = sizeS e14_0 := by rw [hd1]; exact hdz
    rw [decide_eq_true hn, decide_eq_true hxl, e1, e2, decide_eq_true (show (sizeS (delS e14_0 e14_1).1 : Int) + (wSum sizeI (e14_0.2.1.filter (inIt e14_1)) : Int) = (sizeS e14_0 : Int) by omega)]; rfl
end Go.Proofs.Ytmnimdnmedldgaa

namespace Go.Proofs.Ytmnimdnmedldgaa
open Go.RowKit
open Go.Proofs
set_option linter.unusedVariables false
set_option linter.unusedSimpArgs false

theorem eqSlotB {x y : Bool} (h : x = y) : some (SV.one (CV.dv [] (DV.bool x))) = some (SV.one (CV.dv [] (DV.bool y))) := by rw [h]
theorem uf_two (f : Str) (l : List ItemT) : (ufRes f l).2.2 = (ufN f l l.length).isSome := by
 unfold ufRes
 cases ufN f l l.length <;> rfl
theorem ix_no {a b c : Int} {S : Bool} (h : a < b ∨ (a = b ∧ (S = true → c < 0))) : (decide (b < a) || decide (a = b) && S && decide (0 ≤ c)) = true → False := by
 intro h3
 simp only [Bool.or_eq_true, Bool.and_eq_true, decide_eq_true_eq] at h3
 rcases h3 with h3 | ⟨⟨h4, h5⟩, h6⟩
 ·rcases h with h | h <;> omega
 ·rcases h with h | h
  ·omega
  ·have := h.2 h5; omega
theorem ct_no {n : Nat} (h : 1 ≤ n) : (decide ((n : Int) < 1) || !decide ((n : Int) = (n : Int))) = true → False := by
 rw [decide_eq_false (show ¬ (n : Int) < 1 by omega), decide_eq_true (rfl : (n : Int) = (n : Int))]; simp
theorem uf_next {f : Str} {l : List ItemT} {k : Nat} (h : 1 ≤ k) : ((ufN f l k).isSome || decide ((getF (l.getD (k : Int).toNat default).2 f).1 = (getF (l.getD ((k : Int) - 1).toNat default).2 f).1)) = (ufN f l (k + 1)).isSome := by
 rw [ufN]
 cases hu : ufN f l k with
 | some m => rfl
 | none =>
  have hs := same_of (f := f) (l := l) h
  by_cases e : (getF (l.getD ((k : Int) - 1).toNat default).2 f).1 = (getF (l.getD (k : Int).toNat default).2 f).1
  ·rw [if_pos ⟨h, hs.1 e⟩, decide_eq_true e.symm]; rfl
  ·rw [if_neg (fun hh => e (hs.2 hh.2)), decide_eq_false (fun e' => e e'.symm)]; rfl

theorem ok_laws_FnIndexes {x0 : List UInt8}  : PFn Try.prog 5 [.one (.dv [] (bytesD (x0)))] (.one (.dv [] (.bool (true)))) := by
 refine ⟨fn_intro Try.func5 rfl Try.ntmps5 Try.results5 rfl (fun C => ?_)⟩
 refine ok_fact (x := .tmp 0) (ev_tmp rfl) fun f0 => ?_
 iterate 6 refine z ?_
 refine zC Try.call7 ?_ (hf := ok_laws_big (code := x0) )
 refine z ?_
 refine yQ rfl (fun c1 => ?_) fun c1 => ?_
 ·skip
  have d1 := of_decide_eq_true c1
  iterate 6 refine z ?_
  rfl
 ·skip
  have d1 := of_decide_eq_false c1
  iterate 4 refine z ?_
  refine o_callE 0 rfl rfl rfl Try.call24 (ok_spec_DrawIndexOn (code := x0) (by omega)) (as_cons (ev_tmp rfl) (ag_one ac_dv) as_nil) rfl (fun _ => rfl) (fun _ => rfl) (fun zz hz23 => ?_)
  obtain ⟨e23_0, e23_1⟩ := zz
  replace hz23 : wStore e23_0 ≤ 1500 ∧ isName e23_1 = true := hz23
  have hls : wStore e23_0 = e23_0.1.size + (e23_0.2.1.length + wSum wItem e23_0.2.1) := rfl
  have hll := idxN_len e23_1 e23_0.2.1 e23_0.2.1.length
  iterate 10 refine z ?_
  refine o_callK 9090 rfl rfl rfl Try.call25 (ok_impl_IndexOn (x := e23_0) (f := e23_1) (by omega)) (as_cons (ev_tmp rfl) (ag_agg (ag_cons ac_dv (ag_cons (ac_key' rfl rfl) (ag_cons ac_dv ag_nil)))) (as_cons (ev_tmp rfl) (ag_one ac_dv) as_nil)) rfl rfl rfl ?_
  iterate 2 refine z ?_
  refine ok_seq ?_
  refine ok_weak (weak_view (d := 5) (dd := itemsD (idxN e23_1 e23_0.2.1 e23_0.2.1.length)) rfl rfl (.refl _)) ?_
  refine ok_region ?_
  iterate 7 refine z ?_
  refine ok_loop (ι := Nat) (fun zz => ⟨[(3, .box 3 0), (4, .one (.dv [] (.str (e23_1)))), (5, .one (.dv [9101] (itemsD (idxN e23_1 e23_0.2.1 e23_0.2.1.length)))), (6, .one (.dv [] (.bool ((ufN e23_1 (idxN e23_1 e23_0.2.1 e23_0.2.1.length) zz).isSome)))), (7, .one (.dv [] (.int .i64 ((zz : Int)))))], [(3, 26, [(.dv [] (.str (e23_0.1))), (.key 9001), (.dv [] (.int .i64 (e23_0.2.2)))])], [(9001, some (kcOf false (itemsD (e23_0.2.1)))), (9101, some (kcOf false (itemsD (idxN (e23_1) (e23_0).2.1 (e23_0).2.1.length))))]⟩) (fun zz => zz ≤ (idxN e23_1 e23_0.2.1 e23_0.2.1.length).length) (fun zz => (idxN e23_1 e23_0.2.1 e23_0.2.1.length).length - zz) (0) ?_ (weak_sub ⟨rfl, rfl, rfl, rfl, rfl, trivial⟩ ⟨rfl, trivial⟩ ⟨rfl, rfl, trivial⟩ rfl) (fun zz hx => ?_)
  ·exact Nat.zero_le _
  obtain ⟨k, rfl⟩ : ∃ v, v = zz := ⟨_, rfl⟩
  replace hx : k ≤ (idxN e23_1 e23_0.2.1 e23_0.2.1.length).length := hx
  show Ok _ _ _ _ _ (⟨[(3, .box 3 0), (4, .one (.dv [] (.str (e23_1)))), (5, .one (.dv [9101] (itemsD (idxN e23_1 e23_0.2.1 e23_0.2.1.length)))), (6, .one (.dv [] (.bool ((ufN e23_1 (idxN e23_1 e23_0.2.1 e23_0.2.1.length) k).isSome)))), (7, .one (.dv [] (.int .i64 ((k : Int)))))], [(3, 26, [(.dv [] (.str (e23_0.1))), (.key 9001), (.dv [] (.int .i64 (e23_0.2.2)))])], [(9001, some (kcOf false (itemsD (e23_0.2.1)))), (9101, some (kcOf false (itemsD (idxN (e23_1) (e23_0).2.1 (e23_0).2.1.length))))]⟩ : St)
  iterate 7 refine z ?_
  refine yQ rfl (fun c2 => ?_) fun c2 => ?_
  ·skip
   have d2 := of_decide_eq_true c2
   have hk2 : k < (idxN e23_1 e23_0.2.1 e23_0.2.1.length).length := by omega
   have hel : ((idxN e23_1 e23_0.2.1 e23_0.2.1.length).getD (k : Int).toNat default) ∈ (idxN e23_1 e23_0.2.1 e23_0.2.1.length) := by rw [Int.toNat_natCast, List.getD_eq_getElem?_getD, List.getElem?_eq_getElem hk2]; exact List.getElem_mem hk2
   have hm := (idx_mem e23_0.2.1.length (Nat.le_refl _) ((idxN e23_1 e23_0.2.1 e23_0.2.1.length).getD (k : Int).toNat default) hel).2
   have hhit := idx_hit hel
   iterate 11 refine z ?_
   refine zC Try.call26 ?_ (hf := ok_spec_GetField (x := (((idxN e23_1 e23_0.2.1 e23_0.2.1.length)).getD ((k : Int)).toNat default).2) (n := e23_1) )
   iterate 11 refine z ?_
   refine yQ rfl (fun c3 => ?_) fun c3 => ?_
   ·skip
    iterate 11 refine z ?_
    exfalso; revert c3; rw [hm]; simp
   ·skip
    iterate 7 refine z ?_
    refine yQ rfl (fun c4 => ?_) fun c4 => ?_
    ·skip
     have d4 := of_decide_eq_true c4
     have hk1 : 1 ≤ k := by omega
     have hj := adj_at (d := default) (idx_adj (f := e23_1) (its := e23_0.2.1) (S := isSto e23_0) (fun h => (sto_srt h).1) e23_0.2.1.length (Nat.le_refl _)) (k - 1) (by omega)
     rw [show k - 1 + 1 = (k : Int).toNat by omega, show k - 1 = ((k : Int) - 1).toNat by omega] at hj
     unfold idxR at hj
     iterate 8 refine z ?_
     refine zC Try.call26 ?_ (hf := ok_spec_GetField (x := (((idxN e23_1 e23_0.2.1 e23_0.2.1.length)).getD (((k : Int)) - (1)).toNat default).2) (n := e23_1) )
     iterate 6 refine z ?_
     refine ok_seq ?_
     refine ok_seq ?_
     refine ok_regionD (oB := [3]) (oK := [9001, 9101]) (by kernel_rfl) rfl rfl ?_
     refine zD 0 ?_
     refine zD 1 ?_
     refine zD 2 ?_
     refine zD 3 ?_
     refine zDG 4 ?_
     refine zDG 5 ?_
     refine zDG 6 ?_
     refine zDG 7 ?_
     refine zDG 8 ?_
     refine d_callG 9 rfl (by kernel_rfl) (gd_opt rfl rfl rfl rfl rfl) rfl rfl Try.call9 (ok_spec_IsStore (s := e23_0) ) (fun hg => (as_cons (ev_opt rfl hg) (ag_agg (ag_cons ac_dv (ag_cons (ac_key' rfl rfl) (ag_cons ac_dv ag_nil)))) as_nil)) rfl rfl ?_
     refine zDG 10 ?_
     refine zDG 11 ?_
     refine zDG 12 ?_
     refine zDG 13 ?_
     refine zDG 14 ?_
     refine zDG 15 ?_
     refine zDG 16 ?_
     refine zDG 17 ?_
     refine zDG 18 ?_
     refine zDG 19 ?_
     refine zDG 20 ?_
     refine zDG 21 ?_
     refine zDG 22 ?_
     refine d_callG 23 rfl (by kernel_rfl) (gd_opt rfl rfl rfl rfl rfl) rfl rfl Try.call27 (ok_spec_CompareKeys (x := (((idxN e23_1 e23_0.2.1 e23_0.2.1.length)).getD (((k : Int)) - (1)).toNat default).1) (y := (((idxN e23_1 e23_0.2.1 e23_0.2.1.length)).getD ((k : Int)).toNat default).1) ) (fun hg => (as_cons (ev_opt rfl hg) (ag_agg (ag_cons ac_dv (ag_cons ac_dv (ag_cons ac_dv ag_nil)))) (as_cons (ev_opt rfl hg) (ag_agg (ag_cons ac_dv (ag_cons ac_dv (ag_cons ac_dv ag_nil)))) as_nil))) rfl rfl ?_
     refine zDG 24 ?_
     refine zDG 25 ?_
     refine zD 26 ?_
     refine d_done (by kernel_rfl) ?_
     refine z ?_
     refine yQ rfl (fun c5 => ?_) fun c5 => ?_
     ·skip
      iterate 12 refine z ?_
      exfalso; exact ix_no hj c5
     ·skip
      iterate 2 refine z ?_
      refine ok_region ?_
      iterate 12 refine z ?_
      refine o_call rfl rfl rfl Try.call28 (ok_impl_CountWith (x := e23_0) (f := e23_1) (n := (getF ((((idxN e23_1 e23_0.2.1 e23_0.2.1.length)).getD ((k : Int)).toNat default).2) (e23_1)).1) (by omega)) (as_cons (ev_tmp rfl) (ag_agg (ag_cons ac_dv (ag_cons (ac_key' rfl rfl) (ag_cons ac_dv ag_nil)))) (as_cons (ev_tmp rfl) (ag_one ac_dv) (as_cons (ev_tmp rfl) (ag_one ac_dv) as_nil))) rfl rfl ?_
      iterate 10 refine z ?_
      refine o_ung (gd_bool rfl rfl rfl rfl rfl) (by rw [decide_eq_false (show ¬ (((e23_0.2.1.filter (hasF e23_1 (getF ((idxN e23_1 e23_0.2.1 e23_0.2.1.length).getD (k : Int).toNat default).2 e23_1).1)).length : Int) < 1) by omega)]; rfl) ?_
      refine o_callK 9189 rfl rfl rfl Try.call29 (ok_impl_ItemsWith (x := e23_0) (f := e23_1) (n := (getF ((((idxN e23_1 e23_0.2.1 e23_0.2.1.length)).getD ((k : Int)).toNat default).2) (e23_1)).1) (by omega)) (as_cons (ev_opt rfl (by rw [decide_eq_false (show ¬ (((e23_0.2.1.filter (hasF e23_1 (getF ((idxN e23_1 e23_0.2.1 e23_0.2.1.length).getD (k : Int).toNat default).2 e23_1).1)).length : Int) < 1) by omega)]; rfl)) (ag_agg (ag_cons ac_dv (ag_cons (ac_key' rfl rfl) (ag_cons ac_dv ag_nil)))) (as_cons (ev_opt rfl (by rw [decide_eq_false (show ¬ (((e23_0.2.1.filter (hasF e23_1 (getF ((idxN e23_1 e23_0.2.1 e23_0.2.1.length).getD (k : Int).toNat default).2 e23_1).1)).length : Int) < 1) by omega)]; rfl)) (ag_one ac_dv) (as_cons (ev_opt rfl (by rw [decide_eq_false (show ¬ (((e23_0.2.1.filter (hasF e23_1 (getF ((idxN e23_1 e23_0.2.1 e23_0.2.1.length).getD (k : Int).toNat default).2 e23_1).1)).length : Int) < 1) by omega)]; rfl)) (ag_one ac_dv) as_nil))) rfl rfl rfl ?_
      refine o_pureG (gd_bool rfl rfl rfl rfl rfl) rfl (fun hg => pu_lenKn (n := (((e23_0).2.1.filter (hasF (e23_1) ((getF ((((idxN e23_1 e23_0.2.1 e23_0.2.1.length)).getD ((k : Int)).toNat default).2) (e23_1)).1)))).length) hT rfl rfl (ev_tmp rfl) rfl rfl) rfl rfl ?_
      iterate 3 refine z ?_
      refine yQ rfl (fun c6 => ?_) fun c6 => ?_
      ·skip
       iterate 10 refine z ?_
       exfalso; exact ct_no hhit c6
      ·skip
       iterate 3 refine z ?_
       refine ok_region ?_
       iterate 4 refine z ?_
       refine ⟨k + 1, ?_, ?_, weak_sub ⟨rfl, rfl, rfl, (eqSlotB (uf_next hk1)), rfl, trivial⟩ ⟨rfl, trivial⟩ ⟨rfl, rfl, trivial⟩ rfl⟩
       ·omega
       ·omega
    ·skip
     have d4 := of_decide_eq_false c4
     iterate 6 refine z ?_
     refine o_call rfl rfl rfl Try.call28 (ok_impl_CountWith (x := e23_0) (f := e23_1) (n := (getF ((((idxN e23_1 e23_0.2.1 e23_0.2.1.length)).getD ((k : Int)).toNat default).2) (e23_1)).1) (by omega)) (as_cons (ev_tmp rfl) (ag_agg (ag_cons ac_dv (ag_cons (ac_key' rfl rfl) (ag_cons ac_dv ag_nil)))) (as_cons (ev_tmp rfl) (ag_one ac_dv) (as_cons (ev_tmp rfl) (ag_one ac_dv) as_nil))) rfl rfl ?_
     iterate 10 refine z ?_
     refine o_ung (gd_bool rfl rfl rfl rfl rfl) (by rw [decide_eq_false (show ¬ (((e23_0.2.1.filter (hasF e23_1 (getF ((idxN e23_1 e23_0.2.1 e23_0.2.1.length).getD (k : Int).toNat default).2 e23_1).1)).length : Int) < 1) by omega)]; rfl) ?_
     refine o_callK 9189 rfl rfl rfl Try.call29 (ok_impl_ItemsWith (x := e23_0) (f := e23_1) (n := (getF ((((idxN e23_1 e23_0.2.1 e23_0.2.1.length)).getD ((k : Int)).toNat default).2) (e23_1)).1) (by omega)) (as_cons (ev_opt rfl (by rw [decide_eq_false (show ¬ (((e23_0.2.1.filter (hasF e23_1 (getF ((idxN e23_1 e23_0.2.1 e23_0.2.1.length).getD (k : Int).toNat default).2 e23_1).1)).length : Int) < 1) by omega)]; rfl)) (ag_agg (ag_cons ac_dv (ag_cons (ac_key' rfl rfl) (ag_cons ac_dv ag_nil)))) (as_cons (ev_opt rfl (by rw [decide_eq_false (show ¬ (((e23_0.2.1.filter (hasF e23_1 (getF ((idxN e23_1 e23_0.2.1 e23_0.2.1.length).getD (k : Int).toNat default).2 e23_1).1)).length : Int) < 1) by omega)]; rfl)) (ag_one ac_dv) (as_cons (ev_opt rfl (by rw [decide_eq_false (show ¬ (((e23_0.2.1.filter (hasF e23_1 (getF ((idxN e23_1 e23_0.2.1 e23_0.2.1.length).getD (k : Int).toNat default).2 e23_1).1)).length : Int) < 1) by omega)]; rfl)) (ag_one ac_dv) as_nil))) rfl rfl rfl ?_
     refine o_pureG (gd_bool rfl rfl rfl rfl rfl) rfl (fun hg => pu_lenKn (n := (((e23_0).2.1.filter (hasF (e23_1) ((getF ((((idxN e23_1 e23_0.2.1 e23_0.2.1.length)).getD ((k : Int)).toNat default).2) (e23_1)).1)))).length) hT rfl rfl (ev_tmp rfl) rfl rfl) rfl rfl ?_
     iterate 3 refine z ?_
     refine yQ rfl (fun c7 => ?_) fun c7 => ?_
     ·skip
      iterate 10 refine z ?_
      exfalso; exact ct_no hhit c7
     ·skip
      iterate 3 refine z ?_
      refine ok_region ?_
      iterate 4 refine z ?_
      refine ⟨k + 1, ?_, ?_, weak_sub ⟨rfl, rfl, rfl, (eqSlotB (by have hk0 : k = 0 := (by omega); rw [hk0]; rfl)), rfl, trivial⟩ ⟨rfl, trivial⟩ ⟨rfl, rfl, trivial⟩ rfl⟩
      ·omega
      ·omega
  ·skip
   have d2 := of_decide_eq_false c2
   iterate 8 refine z ?_
   refine o_call rfl rfl rfl Try.call30 (ok_impl_UniqueFault (x := e23_0) (f := e23_1) (by omega)) (as_cons (ev_tmp rfl) (ag_agg (ag_cons ac_dv (ag_cons (ac_key' rfl rfl) (ag_cons ac_dv ag_nil)))) (as_cons (ev_tmp rfl) (ag_one ac_dv) as_nil)) rfl rfl ?_
   iterate 13 refine z ?_
   refine o_call rfl rfl rfl Try.call31 (ok_spec_UniqueFault (x := e23_0) (f := e23_1) (by omega)) (as_cons (ev_tmp rfl) (ag_agg (ag_cons ac_dv (ag_cons (ac_key' rfl rfl) (ag_cons ac_dv ag_nil)))) (as_cons (ev_tmp rfl) (ag_one ac_dv) as_nil)) rfl rfl ?_
   iterate 13 refine z ?_
   refine yO rfl rfl (pu_beql hT rfl rfl (ev_tmp rfl) (ev_tmp rfl)) rfl ?_
   iterate 3 refine z ?_
   refine o_pureG (gd_bool rfl rfl rfl rfl rfl) rfl (fun hg => pu_beql hT rfl rfl (ev_opt rfl hg) (ev_opt rfl hg)) rfl rfl ?_
   iterate 4 refine z ?_
   refine o_pureG (gd_bool rfl rfl rfl rfl rfl) rfl (fun hg => pu_cmpA rfl (ev_opt rfl hg) (ev_opt rfl hg) rfl rfl Try.eqGuardType28 (eql_Key _ _ _ _ _ _)) rfl rfl ?_
   iterate 4 refine z ?_
   refine o_pureG (gd_bool rfl rfl rfl rfl rfl) rfl (fun hg => pu_cmpA rfl (ev_opt rfl hg) (ev_opt rfl hg) rfl rfl Try.eqGuardType28 (eql_Key _ _ _ _ _ _)) rfl rfl ?_
   iterate 5 refine z ?_
   rw [uf_two, show k = (idxN e23_1 e23_0.2.1 e23_0.2.1.length).length by omega]; simp [sEq_self]
end Go.Proofs.Ytmnimdnmedldgaa

namespace Go.Proofs.Ytmnimdnmedldgaa
open Go.RowKit
open Go.Proofs
set_option linter.unusedVariables false
set_option linter.unusedSimpArgs false

theorem eql_CursorSelf (a0 : Bool) (a1 : Bool) (a2 : Int) (a3 : Int) (a4 : ByteArray) (a5 : Int) (a6 : Int) (a7 : ByteArray) (a8 : Bool) (a9 : Bool) (b0 : Int) (b1 : Int) (b2 : ByteArray) (w : World) : (binOp .eql 36 (.agg [Value.bool a0, .bool a1, .int .i64 a2, .int .i64 a3, .string a4, .int .i64 a5, .int .i64 a6, .string a7, .bool a8, .bool a9, .int .i64 b0, .int .i64 b1, .string b2].toArray) (.agg [Value.bool a0, .bool a1, .int .i64 a2, .int .i64 a3, .string a4, .int .i64 a5, .int .i64 a6, .string a7, .bool a8, .bool a9, .int .i64 b0, .int .i64 b1, .string b2].toArray)).run Try.prog w = .ok (.bool true) w := by
 rw [run_eql_struct]; simp [go_sem]
theorem rev_at {l : List ItemT} {k : Nat} (h : k < l.length) : l.reverse.getD (((l.length : Int) - 1 - (k : Int)).toNat) default = l.getD (k : Int).toNat default := by
 rw [show ((l.length : Int) - 1 - (k : Int)).toNat = l.length - 1 - k by omega, Int.toNat_natCast, List.getD_eq_getElem?_getD, List.getElem?_reverse (by omega), show l.length - 1 - (l.length - 1 - k) = k by omega, List.getD_eq_getElem?_getD]

theorem ok_laws_FnCursors {x0 : List UInt8}  : PFn Try.prog 3 [.one (.dv [] (bytesD (x0)))] (.one (.dv [] (.bool (true)))) := by
 refine ⟨fn_intro Try.func3 rfl Try.ntmps3 Try.results3 rfl (fun C => ?_)⟩
 refine ok_fact (x := .tmp 0) (ev_tmp rfl) fun f0 => ?_
 iterate 6 refine z ?_
 refine zC Try.call7 ?_ (hf := ok_laws_big (code := x0) )
 refine z ?_
 refine yQ rfl (fun c1 => ?_) fun c1 => ?_
 ·skip
  have d1 := of_decide_eq_true c1
  iterate 6 refine z ?_
  rfl
 ·skip
  have d1 := of_decide_eq_false c1
  iterate 4 refine z ?_
  refine o_callE 0 rfl rfl rfl Try.call8 (ok_spec_DrawItemsIn (code := x0) (by omega)) (as_cons (ev_tmp rfl) (ag_one ac_dv) as_nil) rfl (fun _ => rfl) (fun _ => rfl) (fun zz hz21 => ?_)
  obtain ⟨e21_0, e21_1⟩ := zz
  replace hz21 : wStore e21_0 ≤ 1500 := hz21
  have hls : wStore e21_0 = e21_0.1.size + (e21_0.2.1.length + wSum wItem e21_0.2.1) := rfl
  have hll : (e21_0.2.1.filter (inIt e21_1)).length ≤ e21_0.2.1.length := List.length_filter_le _ _
  iterate 11 refine z ?_
  refine o_call rfl rfl rfl Try.call9 (ok_spec_IsStore (s := e21_0) ) (as_cons (ev_tmp rfl) (ag_agg (ag_cons ac_dv (ag_cons (ac_key' rfl rfl) (ag_cons ac_dv ag_nil)))) as_nil) rfl rfl ?_
  iterate 2 refine z ?_
  refine yQ rfl (fun c2 => ?_) fun c2 => ?_
  ·skip
   iterate 2 refine z ?_
   refine yO rfl rfl (pu_build hT hB rfl rfl rfl bp_nil) rfl ?_
   refine o_callK 9092 rfl rfl rfl Try.call10 (ok_impl_WalkStore (x := e21_0) (y := ((false, false, (0, 0, ByteArray.empty), (0, 0, ByteArray.empty)), false, false, (0, 0, ByteArray.empty))) (by omega)) (as_cons (ev_tmp rfl) (ag_agg (ag_cons ac_dv (ag_cons (ac_key' rfl rfl) (ag_cons ac_dv ag_nil)))) (as_cons (ev_tmp rfl) (ag_agg (ag_cons ac_dv (ag_cons ac_dv (ag_cons ac_dv (ag_cons ac_dv (ag_cons ac_dv (ag_cons ac_dv (ag_cons ac_dv (ag_cons ac_dv (ag_cons ac_dv (ag_cons ac_dv (ag_cons ac_dv (ag_cons ac_dv (ag_cons ac_dv ag_nil)))))))))))))) as_nil)) rfl rfl rfl ?_
   refine yO rfl rfl (pu_lenKn (n := ((walkN (e21_0) 16 (((false, false, (0, 0, ByteArray.empty), (0, 0, ByteArray.empty)), false, false, (0, 0, ByteArray.empty))))).length) hT rfl rfl (ev_tmp rfl) rfl rfl) rfl ?_
   iterate 6 refine z ?_
   exact decide_eq_true (by have := walkN_len e21_0 16 ((false, false, (0, 0, ByteArray.empty), (0, 0, ByteArray.empty)), false, false, (0, 0, ByteArray.empty)); omega)
  ·skip
   have hw := wkRng (s := e21_0) (by simpa using c2) e21_1
   iterate 5 refine z ?_
   refine o_callK 9194 rfl rfl rfl Try.call11 (ok_spec_ItemsIn (x := e21_0) (r := e21_1) (by omega)) (as_cons (ev_tmp rfl) (ag_agg (ag_cons ac_dv (ag_cons (ac_key' rfl rfl) (ag_cons ac_dv ag_nil)))) (as_cons (ev_tmp rfl) (ag_agg (ag_cons ac_dv (ag_cons ac_dv (ag_cons ac_dv (ag_cons ac_dv (ag_cons ac_dv (ag_cons ac_dv (ag_cons ac_dv (ag_cons ac_dv ag_nil))))))))) as_nil)) rfl rfl rfl ?_
   iterate 2 refine z ?_
   refine ok_seq ?_
   refine ok_weak (weak_view (d := 5) (dd := itemsD (e21_0.2.1.filter (inIt e21_1))) rfl rfl (.refl _)) ?_
   refine ok_region ?_
   iterate 2 refine z ?_
   refine yO rfl rfl (pu_build hT hB rfl rfl rfl (bp_cons (ev_tmp rfl) rfl rfl rfl rfl rfl bp_nil)) rfl ?_
   refine o_callK 9292 rfl rfl rfl Try.call10 (ok_impl_WalkStore (x := e21_0) (y := (cur0 e21_1 false)) (by omega)) (as_cons (ev_tmp rfl) (ag_agg (ag_cons ac_dv (ag_cons (ac_key' rfl rfl) (ag_cons ac_dv ag_nil)))) (as_cons (ev_tmp rfl) (ag_agg (ag_cons ac_dv (ag_cons ac_dv (ag_cons ac_dv (ag_cons ac_dv (ag_cons ac_dv (ag_cons ac_dv (ag_cons ac_dv (ag_cons ac_dv (ag_cons ac_dv (ag_cons ac_dv (ag_cons ac_dv (ag_cons ac_dv (ag_cons ac_dv ag_nil)))))))))))))) as_nil)) rfl rfl rfl ?_
   iterate 2 refine z ?_
   refine ok_seq ?_
   refine ok_weak (weak_view (d := 6) (dd := itemsD (e21_0.2.1.filter (inIt e21_1))) rfl rfl (by rw [hw.1]; exact .refl _)) ?_
   refine ok_region ?_
   iterate 2 refine z ?_
   refine yO rfl rfl (pu_build hT hB rfl rfl rfl (bp_cons (ev_tmp rfl) rfl rfl rfl rfl rfl (bp_cons ev_bool rfl rfl rfl rfl rfl bp_nil))) rfl ?_
   refine o_callK 9392 rfl rfl rfl Try.call10 (ok_impl_WalkStore (x := e21_0) (y := (cur0 e21_1 true)) (by omega)) (as_cons (ev_tmp rfl) (ag_agg (ag_cons ac_dv (ag_cons (ac_key' rfl rfl) (ag_cons ac_dv ag_nil)))) (as_cons (ev_tmp rfl) (ag_agg (ag_cons ac_dv (ag_cons ac_dv (ag_cons ac_dv (ag_cons ac_dv (ag_cons ac_dv (ag_cons ac_dv (ag_cons ac_dv (ag_cons ac_dv (ag_cons ac_dv (ag_cons ac_dv (ag_cons ac_dv (ag_cons ac_dv (ag_cons ac_dv ag_nil)))))))))))))) as_nil)) rfl rfl rfl ?_
   iterate 2 refine z ?_
   refine ok_seq ?_
   refine ok_seq ?_
   refine ok_weak (weak_view (d := 7) (dd := itemsD (e21_0.2.1.filter (inIt e21_1)).reverse) rfl rfl (by rw [hw.2]; exact .refl _)) ?_
   refine ok_region ?_
   iterate 13 refine z ?_
   refine yQ rfl (fun c3 => ?_) fun c3 => ?_
   ·skip
    iterate 6 refine z ?_
    exfalso; revert c3; rw [List.length_reverse]; simp
   ·skip
    have hrl : (e21_0.2.1.filter (inIt e21_1)).reverse.length = (e21_0.2.1.filter (inIt e21_1)).length := List.length_reverse
    iterate 7 refine z ?_
    refine ok_loop (ι := Nat) (fun zz => ⟨[(0, .one (.dv [] (bytesD (x0)))), (5, .one (.dv [9201] (itemsD (e21_0.2.1.filter (inIt e21_1))))), (6, .one (.dv [9301] (itemsD (e21_0.2.1.filter (inIt e21_1))))), (7, .one (.dv [9401] (itemsD (e21_0.2.1.filter (inIt e21_1)).reverse))), (8, .one (.dv [] (.int .i64 ((zz : Int)))))], [], [(9201, some (kcOf false (itemsD ((e21_0).2.1.filter (inIt (e21_1)))))), (9301, some (kcOf false (itemsD (walkN (e21_0) 16 ((cur0 e21_1 false)))))), (9401, some (kcOf false (itemsD (walkN (e21_0) 16 ((cur0 e21_1 true))))))]⟩) (fun zz => zz ≤ (e21_0.2.1.filter (inIt e21_1)).length) (fun zz => (e21_0.2.1.filter (inIt e21_1)).length - zz) (0) ?_ (weak_sub ⟨rfl, rfl, rfl, rfl, rfl, trivial⟩ trivial ⟨rfl, rfl, rfl, trivial⟩ rfl) (fun zz hx => ?_)
    ·exact Nat.zero_le _
    obtain ⟨k, rfl⟩ : ∃ v, v = zz := ⟨_, rfl⟩
    replace hx : k ≤ (e21_0.2.1.filter (inIt e21_1)).length := hx
    show Ok _ _ _ _ _ (⟨[(0, .one (.dv [] (bytesD (x0)))), (5, .one (.dv [9201] (itemsD (e21_0.2.1.filter (inIt e21_1))))), (6, .one (.dv [9301] (itemsD (e21_0.2.1.filter (inIt e21_1))))), (7, .one (.dv [9401] (itemsD (e21_0.2.1.filter (inIt e21_1)).reverse))), (8, .one (.dv [] (.int .i64 ((k : Int)))))], [], [(9201, some (kcOf false (itemsD ((e21_0).2.1.filter (inIt (e21_1)))))), (9301, some (kcOf false (itemsD (walkN (e21_0) 16 ((cur0 e21_1 false)))))), (9401, some (kcOf false (itemsD (walkN (e21_0) 16 ((cur0 e21_1 true))))))]⟩ : St)
    iterate 7 refine z ?_
    refine yQ rfl (fun c4 => ?_) fun c4 => ?_
    ·skip
     have d4 := of_decide_eq_true c4
     have hk2 : k < (e21_0.2.1.filter (inIt e21_1)).length := by omega
     iterate 4 refine z ?_
     refine ok_seq ?_
     refine ok_regionD (oB := []) (oK := [9201, 9301, 9401]) (by kernel_rfl) rfl rfl ?_
     refine zD 0 ?_
     refine zD 1 ?_
     refine zD 2 ?_
     refine zD 3 ?_
     refine zD 4 ?_
     refine zD 5 ?_
     refine zD 6 ?_
     refine zD 7 ?_
     refine zD 8 ?_
     refine zD 9 ?_
     refine d_take 10 rfl (by kernel_rfl) rfl rfl (pu_cmpA rfl (ev_tmp rfl) (ev_tmp rfl) rfl rfl Try.eqGuardType28 (neq_Key _ _ _ _ _ _)) rfl rfl rfl rfl ?_
     refine zD 11 ?_
     refine zDG 12 ?_
     refine zDG 13 ?_
     refine zDG 14 ?_
     refine zDG 15 ?_
     refine zDG 16 ?_
     refine zDG 17 ?_
     refine zDG 18 ?_
     refine zDG 19 ?_
     refine zDG 20 ?_
     refine zDG 21 ?_
     refine zDG 22 ?_
     refine zDG 23 ?_
     refine zDG 24 ?_
     refine zDG 25 ?_
     refine d_takeG 26 rfl (by kernel_rfl) (gd_bool rfl rfl rfl rfl rfl) rfl (fun hg => pu_cmpA rfl (ev_opt rfl hg) (ev_opt rfl hg) rfl rfl Try.eqGuardType28 (neq_Key _ _ _ _ _ _)) rfl rfl rfl rfl ?_
     refine zD 27 ?_
     refine d_done (by kernel_rfl) ?_
     refine z ?_
     refine yQ rfl (fun c5 => ?_) fun c5 => ?_
     ·skip
      iterate 10 refine z ?_
      exfalso; revert c5; rw [rev_at hk2]; simp [sEq_self]
     ·skip
      iterate 3 refine z ?_
      refine ok_region ?_
      iterate 4 refine z ?_
      refine ⟨k + 1, ?_, ?_, weak_sub ⟨rfl, rfl, rfl, rfl, rfl, trivial⟩ trivial ⟨rfl, rfl, rfl, trivial⟩ rfl⟩
      ·omega
      ·omega
    ·skip
     have d4 := of_decide_eq_false c4
     iterate 7 refine z ?_
     refine o_callE 500 rfl rfl rfl Try.call12 (ok_spec_DrawCursorNext (code := x0) (by omega)) (as_cons (ev_tmp rfl) (ag_one ac_dv) as_nil) rfl (fun _ => rfl) (fun _ => rfl) (fun zz hz91 => ?_)
     obtain ⟨e91_0, e91_1⟩ := zz
     replace hz91 : wStore e91_0 ≤ 1500 := hz91
     have hlt : wStore e91_0 = e91_0.1.size + (e91_0.2.1.length + wSum wItem e91_0.2.1) := rfl
     iterate 11 refine z ?_
     refine o_callK 600 rfl rfl rfl Try.call13 (ok_impl_CursorNext (x := e91_0) (y := e91_1) (by first | omega | assumption)) (as_cons (ev_tmp rfl) (ag_agg (ag_cons ac_dv (ag_cons (ac_key' rfl rfl) (ag_cons ac_dv ag_nil)))) (as_cons (ev_tmp rfl) (ag_agg (ag_cons ac_dv (ag_cons ac_dv (ag_cons ac_dv (ag_cons ac_dv (ag_cons ac_dv (ag_cons ac_dv (ag_cons ac_dv (ag_cons ac_dv (ag_cons ac_dv (ag_cons ac_dv (ag_cons ac_dv (ag_cons ac_dv (ag_cons ac_dv ag_nil)))))))))))))) as_nil)) rfl rfl rfl ?_
     iterate 13 refine z ?_
     refine o_callK 700 rfl rfl rfl Try.call14 (ok_spec_CursorNext (x := e91_0) (y := e91_1) (by first | omega | assumption)) (as_cons (ev_tmp rfl) (ag_agg (ag_cons ac_dv (ag_cons (ac_key' rfl rfl) (ag_cons ac_dv ag_nil)))) (as_cons (ev_tmp rfl) (ag_agg (ag_cons ac_dv (ag_cons ac_dv (ag_cons ac_dv (ag_cons ac_dv (ag_cons ac_dv (ag_cons ac_dv (ag_cons ac_dv (ag_cons ac_dv (ag_cons ac_dv (ag_cons ac_dv (ag_cons ac_dv (ag_cons ac_dv (ag_cons ac_dv ag_nil)))))))))))))) as_nil)) rfl rfl rfl ?_
     iterate 13 refine z ?_
     refine yO rfl rfl (pu_beql hT rfl rfl (ev_tmp rfl) (ev_tmp rfl)) rfl ?_
     iterate 3 refine z ?_
     refine o_pureG (gd_bool rfl rfl rfl rfl rfl) rfl (fun hg => pu_cmpA rfl (ev_opt rfl hg) (ev_opt rfl hg) rfl rfl Try.eqGuardType36 (eql_CursorSelf _ _ _ _ _ _ _ _ _ _ _ _ _)) rfl rfl ?_
     iterate 6 refine z ?_
     refine o_pureG (gd_bool rfl rfl rfl rfl rfl) rfl (fun hg => pu_cmpA rfl (ev_opt rfl hg) (ev_opt rfl hg) rfl rfl Try.eqGuardType28 (eql_Key _ _ _ _ _ _)) rfl rfl ?_
     iterate 5 refine z ?_
     simp [sEq_self]
end Go.Proofs.Ytmnimdnmedldgaa

namespace Go.Proofs.Ytmnimdnmedldgaa
open Go.RowKit Go.ChangeShapes Go.WideShapes Go.Deep

def LayW (W : World) : List DV → List Value → Prop := LayL (fun b => b < W.heap.size) W
structure OpensD (P : Program) (Q : List DV → Prop) (t : TypeId) : Prop where
 run : ∀ {H : Type} (enc : TypeId × Value → H) (W : World) (base : Nat) (spare : Nat → Bool) (held : Bool) (fuel : Nat) (cs : List Value) (y : DataW H × List MemPlace),
  DataW.trod enc P W base spare held fuel t cs = some y → ∃ ds, Q ds ∧ LayW W ds cs
def Is {α : Type} (enc : α → List DV) (ds : List DV) : Prop := ∃ x, ds = enc x
theorem opensD_byte {P : Program} {t : TypeId} (ht : P.underlying t = some (.int .u8)) : OpensD P (Is eByte) t := by
 refine ⟨fun {H} enc W base spare held fuel cs y h => ?_⟩
 obtain ⟨n, rfl, _, hw⟩ := DataW.trod_int ht h
 have hb : 0 ≤ n ∧ n ≤ 255 := by simpa [Lit.wf, IntKind.min, IntKind.max, IntKind.signed, IntKind.bits] using hw
 have e : ((UInt8.ofNat n.toNat).toNat : Int) = n := by
  rw [UInt8.toNat_ofNat']
  have : n.toNat % 2 ^ 8 = n.toNat := Nat.mod_eq_of_lt (by omega)
  rw [this]; omega
 refine ⟨_, ⟨UInt8.ofNat n.toNat, rfl⟩, ?_⟩
 simp only [LayW, LayL, Lay]
 rw [e]
 exact ⟨_, _, rfl, ⟨rfl, by simpa [InR, IntKind.min, IntKind.max, IntKind.signed, IntKind.bits] using hb⟩, rfl⟩
theorem points {α : Type} {enc : α → List DV} {W : World} {sz : Nat} {f : Nat → Option Value} (hs : ∀ x, (enc x).length = sz) : ∀ n : Nat,
  (∀ i, i < n → ∃ x ci, LayW W (enc x) ci ∧ ∀ j, j < sz → f (i * sz + j) = ci[j]?) → ∃ (xs : List α) (cells : List Value), xs.length = n ∧ LayW W (xs.flatMap enc) cells ∧ ∀ j u, cells[j]? = some u → f j = some u
 | 0, _ => ⟨[], [], rfl, by simp [LayW, LayL], by simp⟩
 | n + 1, h => by
  obtain ⟨xs, cells, h1, h2, h3⟩ := points hs n (fun i hi => h i (by omega))
  obtain ⟨x, ci, g1, g2⟩ := h n (by omega)
  have hl : cells.length = n * sz := by rw [layL_len _ _ h2, flat_len hs, h1]
  have hci : ci.length = sz := by rw [layL_len _ _ g1, hs]
  refine ⟨xs ++ [x], cells ++ ci, by simp [h1], by have := layL_append _ _ _ _ h2 g1; simp only [List.flatMap_append, List.flatMap_cons, List.flatMap_nil, List.append_nil]; exact this, fun j u hu => ?_⟩
  rcases Nat.lt_or_ge j cells.length with hj | hj
  ·rw [List.getElem?_append_left hj] at hu; exact h3 j u hu
  ·rw [List.getElem?_append_right hj] at hu
   have hjs : j - cells.length < sz := by rw [← hci]; exact (List.getElem?_eq_some_iff.1 hu).1
   have := g2 (j - cells.length) hjs
   rw [show n * sz + (j - cells.length) = j by omega] at this
   rw [this, hu]
theorem opensD_slice {α : Type} {P : Program} {enc : α → List DV} {t e : TypeId} {sz : Nat} (e' : Nat) (hs : ∀ x, (enc x).length = sz) (hsz : Nat.blt 0 sz = true) (ht : P.underlying t = some (.slice e)) (hc : P.cellsOf e = sz) (he : OpensD P (Is enc) e) : OpensD P (Is fun xs : List α => [listD e' sz enc xs]) t := by
 refine ⟨fun {H} ench W base spare held fuel cs y h => ?_⟩
 have hpos : 0 < sz := by simpa [Nat.blt_eq] using hsz
 rcases open_slice ht h with ⟨rfl, _⟩ | ⟨a, len, cap, m, n, D, Pl, rfl, _, hl, hm, hmm, _, hi⟩
 ·refine ⟨_, ⟨[], rfl⟩, ?_⟩
  simp only [LayW, LayL, Lay]
  exact ⟨_, _, rfl, ⟨none, 0, [], rfl, Nat.le_refl _, by simp [maxLen], hpos, by simp, by simp [LayL], fun h => by simp at h⟩, rfl⟩
 ·have hlm : len ≤ m := by rw [hmm]; split <;> omega
  obtain ⟨xs, cells, h1, h2, h3⟩ := points (W := W) (f := fun j => W.cell? (a.add j)) hs len (fun i hil => by
   obtain ⟨cs', hc1, hc2⟩ := hi i (by omega)
   obtain ⟨ds, ⟨x, rfl⟩, hx⟩ := he.run ench W base spare held n cs' _ hc2
   obtain ⟨_, hcl, hat⟩ := World.cells?_some hc1
   refine ⟨x, cs', hx, fun j hj => ?_⟩
   have := hat j (by rw [hc]; exact hj)
   rw [← Go.Deep.add_add, hc] at *
   exact this)
  refine ⟨_, ⟨xs, rfl⟩, ?_⟩
  simp only [LayW, LayL]
  refine ⟨_, _, rfl, ?_, rfl⟩
  simp only [Lay]
  refine ⟨some a, cap, cells, by rw [h1], by omega, hm, hpos, flat_len hs xs, h2, fun hp => ?_⟩
  have hcl : 0 < cells.length := by
   rw [layL_len _ _ h2, flat_len hs]
   exact Nat.mul_pos hp hpos
  have h0 := h3 0 _ (List.getElem?_eq_getElem hcl)
  have ha0 : a.add 0 = a := by simp [Addr.add]
  simp only [ha0] at h0
  have hsp : a.spot = none := by
   cases hs : a.spot with
   | none => rfl
   | some s =>
    unfold World.cell? at h0
    split at h0
    ·simp [hs] at h0
    ·cases h0
  obtain ⟨b, off, sp⟩ := a
  simp only at hsp
  subst hsp
  refine ⟨b, off, rfl, World.block_lt_of_cell? W _ h0, fun j u hu => ?_⟩
  have := h3 j u hu
  simp only [add_row] at this
  exact this
/-! ### structs -/
theorem OpensD.mono {P : Program} {Q R : List DV → Prop} {t : TypeId} (h : OpensD P Q t) (hq : ∀ ds, Q ds → R ds) : OpensD P R t := by
 refine ⟨fun {H} enc W base spare held fuel cs y h' => ?_⟩
 obtain ⟨ds, h1, h2⟩ := h.run enc W base spare held fuel cs y h'
 exact ⟨ds, hq ds h1, h2⟩
/-! ### a call from the outside -/
def TopL (w : World) : List SV → List Value → Prop
 | [], vs => vs = []
 | .one c :: us, vs => ∃ d v vs', c = .dv [] d ∧ vs = v :: vs' ∧ LayW w [d] [v] ∧ TopL w us vs'
 | .agg cs :: us, vs => ∃ ds xs vs', cs = ds.map (CV.dv []) ∧ vs = .agg xs.toArray :: vs' ∧ LayW w ds xs ∧ TopL w us vs'
 | _ :: _, _ => False
theorem lay_top {w : World} {L : Lyt} {d : DV} {v : Value} (h : LayW w [d] [v]) : CVr ⟨w, [], L.rv⟩ L w (.dv [] d) v := by
 simp only [LayW, LayL] at h
 obtain ⟨v', _, e, h1, rfl⟩ := h
 simp only [List.cons.injEq, and_true] at e
 subst e
 simp only [CVr]
 exact lay_conv (fun b hb _ => ⟨.inl ⟨hb, by simp⟩, rfl⟩) d _ h1
theorem lays_top {w : World} {L : Lyt} : ∀ {ds : List DV} {vs : List Value}, LayW w ds vs → CVL ⟨w, [], L.rv⟩ L w (ds.map (CV.dv [])) vs
 | [], _, h => by simp only [LayW, LayL] at h; subst h; rfl
 | d :: ds, _, h => by
  simp only [LayW, LayL] at h
  obtain ⟨v, vs', rfl, h1, h2⟩ := h
  exact ⟨v, vs', rfl, lay_top (by simp only [LayW, LayL]; exact ⟨v, [], rfl, h1, rfl⟩), lays_top h2⟩
theorem topL_sv {P : Program} {w : World} {L : Lyt} : ∀ {us : List SV} {vs : List Value}, TopL w us vs → vs.length = us.length ∧ (∀ u ∈ us, u.keys = [] ∧ u.boxes = []) ∧ ∀ (i : Nat) (v : SV), us[i]? = some v → ∃ x, vs[i]? = some x ∧ SVr P ⟨w, [], L.rv⟩ L w v x
 | [], _, h => by simp only [TopL] at h; subst h; simp
 | .one c :: us, _, h => by
  simp only [TopL] at h
  obtain ⟨d, v, vs', rfl, rfl, h1, h2⟩ := h
  obtain ⟨g1, g2, g3⟩ := topL_sv (P := P) (L := L) h2
  refine ⟨by simp [g1], fun u hu => ?_, fun i x hx => ?_⟩
  ·rcases List.mem_cons.1 hu with rfl | hu
   ·exact ⟨rfl, rfl⟩
   ·exact g2 u hu
  ·cases i with
   | zero => simp only [List.getElem?_cons_zero, Option.some.injEq] at hx; subst hx; exact ⟨v, rfl, by simp only [SVr]; exact lay_top h1⟩
   | succ i => simpa using g3 i x (by simpa using hx)
 | .agg cs :: us, _, h => by
  simp only [TopL] at h
  obtain ⟨ds, xs, vs', rfl, rfl, h1, h2⟩ := h
  obtain ⟨g1, g2, g3⟩ := topL_sv (P := P) (L := L) h2
  refine ⟨by simp [g1], fun u hu => ?_, fun i x hx => ?_⟩
  ·rcases List.mem_cons.1 hu with rfl | hu
   ·refine ⟨?_, rfl⟩
    simp only [SV.keys]
    rw [List.flatMap_eq_nil_iff]
    intro c hc
    obtain ⟨d, _, rfl⟩ := List.mem_map.1 hc
    rfl
   ·exact g2 u hu
  ·cases i with
   | zero => simp only [List.getElem?_cons_zero, Option.some.injEq] at hx; subst hx; exact ⟨_, rfl, by simp only [SVr]; exact ⟨xs, rfl, lays_top h1⟩⟩
   | succ i => simpa using g3 i x (by simpa using hx)
 | .tup _ :: _, _, h => by simp [TopL] at h
 | .box _ _ :: _, _, h => by simp [TopL] at h
 | .ref _ _ :: _, _, h => by simp [TopL] at h
 | .eptr _ _ :: _, _, h => by simp [TopL] at h
 | .ksl _ _ _ _ :: _, _, h => by simp [TopL] at h
 | .fn _ _ :: _, _, h => by simp [TopL] at h
 | .clo _ _ :: _, _, h => by simp [TopL] at h
 | .opt _ _ :: _, _, h => by simp [TopL] at h
 | .any :: _, _, h => by simp [TopL] at h
theorem pfn_run {P : Program} {f : FuncId} {us : List SV} {b : Bool} (hf : PFn P f us (.one (.dv [] (.bool b)))) {w : World} {vs : List Value} (h : TopL w us vs) :
  Calls P f vs.toArray w fun e w' => e = .returned (.bool b) ∧ Below w.heap.size w w' := by
 let L : Lyt := ⟨fun _ => 0, fun _ => [], fun _ => .bool false⟩
 obtain ⟨h1, h2, h3⟩ := topL_sv (P := P) (L := L) h
 obtain ⟨t1, t2⟩ := enum_tk us 0 h2
 have hr : Rel P ⟨w, [], L.rv⟩ us.length L ⟨enumS 0 us, [], []⟩ ⟨vs.toArray, []⟩ w := {
  df := rfl
  sz := by simp [h1]
  tm := fun i v hv => by
   obtain ⟨_, h4⟩ := enumS_look us 0 i v hv
   obtain ⟨x, h5, h6⟩ := h3 i v (by simpa using h4)
   have : vs.toArray.getD i undef = x := by simp [Array.getD_eq_getD_getElem?, h5]
   rw [this]; exact h6
  bx := fun i t cs h => by cases h
  ks := fun k c h => by cases h
  b1 := fun i x h => by cases h
  k1 := fun k c h => by cases h
  kn := fun k c h => by cases h
  bb := fun i j x y h => by cases h
  bk := fun i k x c h => by cases h
  kk := fun k j c d h => by cases h
  lk := fun k hk => by simp only [St.tk, t1, List.flatMap_nil, List.append_nil] at hk; cases hk
  lb := fun b hb => by simp only [St.tb, t2] at hb; cases hb
  s0 := fun b hb => by cases hb
  chg := Chg.refl _ _ }
 refine (hf.ok w [] L vs h1 hr).mono ?_
 rintro e w' ⟨r, res, σ', L', rfl, rfl, hr'⟩
 have hv := hr'.tm 0 _ rfl
 simp only [SVr, CVr, Lay] at hv
 refine ⟨?_, hr'.chg.below⟩
 have : (#[r] : Array Value).getD 0 undef = r := rfl
 rw [this] at hv
 rw [hv]
end Go.Proofs.Ytmnimdnmedldgaa

namespace Go.Proofs.Ytmnimdnmedldgaa
open Go.RowKit
open Go.Proofs
theorem opensBytes : OpensD Try.prog (Is fun xs => [listD 5 1 eByte xs]) 22 := opensD_slice (sz := 1) 5 (fun _ => rfl) rfl Try.underlying22 (by kernel_rfl) (opensD_byte Try.underlying5)
end Go.Proofs.Ytmnimdnmedldgaa

