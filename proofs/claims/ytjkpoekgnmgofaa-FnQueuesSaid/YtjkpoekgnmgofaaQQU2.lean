/-
  Contracts of the program's functions for the statements Queues, by the rules of the logic. Conditions: none but those in the theorems.
-/
import Derived.Test.YtjkpoekgnmgofaaQQU1
set_option maxHeartbeats 4000000
set_option maxRecDepth 100000
namespace Go.Proofs.Ytjkpoekgnmgofaa
open Go.RowKit
open Go.Proofs
set_option linter.unusedVariables false
set_option linter.unusedSimpArgs false

def recAt (x : StoreT) (k : KeyT) : RecT := if 0 ≤ fndK x k then (x.2.1.getD (fndK x k).toNat default).2 else []
def incRec (r : RecT) (f : Str) : RecT × Bool := setF r f ((getF r f).1 + 1)
def rgK (k : KeyT) : RangeT := (true, true, k, k)
def rg0 : RangeT := (false, false, (0, 0, ByteArray.empty), (0, 0, ByteArray.empty))
def getN (x : StoreT) (k : KeyT) : Int := if fndK x k < 0 then -1 else ((x.2.1.getD (fndK x k).toNat default).2.length : Int)
def incM (x : StoreT) (k : KeyT) (f : Str) : StoreT × Int × Bool := ((putN x k (incRec (recAt x k) f).1).1, (getF (recAt x k) f).1 + 1, (incRec (recAt x k) f).2 && (putN x k (incRec (recAt x k) f).1).2)
def opM (x : StoreT) (o : OpT) : StoreT × Int × Bool :=
 if o.1 = 1 then ((putN x o.2.2.1 o.2.2.2.1).1, 1, (putN x o.2.2.1 o.2.2.2.1).2)
 else if o.1 = 2 then ((addN x o.2.2.1 o.2.2.2.1).1, 1, (addN x o.2.2.1 o.2.2.2.1).2)
 else if o.1 = 3 then ((delS x (rgK o.2.2.1)).1, (delS x (rgK o.2.2.1)).2, true)
 else if o.1 = 4 then (x, getN x o.2.2.1, true)
 else if o.1 = 5 then ((delS x rg0).1, (delS x rg0).2, true)
 else incM x o.2.2.1 o.2.2.2.2
def same (x : StoreT) (o : OpT) : Bool := decide (o.1 = 4) || (!decide (o.1 = 1) && !decide (o.1 = 2) && !decide (o.1 = 3) && !decide (o.1 = 5) && !(incRec (recAt x o.2.2.1) o.2.2.2.2).2)
section
variable {x : StoreT} {o : OpT}
theorem rec_yes {k : KeyT} (h : 0 ≤ fndK x k) : recAt x k = (x.2.1.getD (fndK x k).toNat default).2 := if_pos h
theorem rec_no {k : KeyT} (h : ¬ 0 ≤ fndK x k) : recAt x k = [] := if_neg h
end
theorem getF_bd {r : RecT} {n : Str} (h : isRec r = true) : 0 ≤ (getF r n).1 ∧ (getF r n).1 ≤ 1000000000 := by
 unfold getF
 split
 ·exact ⟨by simp, by simp⟩
 ·rename_i h1
  have hlt := findI_lt (p := fName n) r 0 (by omega)
  rw [isRec, Bool.and_eq_true, List.all_eq_true] at h
  have := h.1 (findI (fName n) r 0).toNat (List.mem_range.2 (by omega))
  simp only [recBad, Bool.not_eq_true', Bool.or_eq_false_iff, Int.toNat_natCast] at this
  have h2 := this.1.2
  simp only [Bool.not_eq_false', Bool.and_eq_true, decide_eq_true_eq] at h2
  exact h2
theorem rec6 {r : RecT} (h : isRec r = true) : r.length ≤ 6 := by
 rw [isRec, Bool.and_eq_true, decide_eq_true_eq] at h
 omega
theorem sto_rec {x : StoreT} {i : Nat} (h : isSto x = true) (hi : i < x.2.1.length) : isRec (x.2.1.getD i default).2 = true := by
 rw [isSto, Bool.and_eq_true, List.all_eq_true] at h
 have := h.1 i (List.mem_range.2 hi)
 simp only [stoBad, Bool.not_eq_true', Bool.or_eq_false_iff, Int.toNat_natCast] at this
 simpa using this.1.2
theorem op_rec {o : OpT} (h : isOpB o = true) : o.2.2.2.1.length ≤ 6 := by
 unfold isOpB at h
 simp only [Bool.and_eq_true] at h
 exact rec6 h.1.2
theorem sto_recAt {x : StoreT} {k : KeyT} (h : isSto x = true) (h0 : 0 ≤ fndK x k) : isRec (x.2.1.getD (fndK x k).toNat default).2 = true := sto_rec h (by have := fndK_lt h0; omega)

theorem ok_spec_l9Inc {x : StoreT} {k : KeyT} {f : Str} (hs : isSto x = true) : KFn Try.prog 91 [.agg [(.dv [] (.str (x.1))), (.dv [] (itemsD (x.2.1))), (.dv [] (.int .i64 (x.2.2)))], .agg [(.dv [] (.int .i64 (k.1))), (.dv [] (.int .i64 (k.2.1))), (.dv [] (.str (k.2.2)))], .one (.dv [] (.str (f)))] (.tup [(true, [(.dv [] (.str ((incM x k f).1.1))), (.key 9001), (.dv [] (.int .i64 ((incM x k f).1.2.2)))]), (false, [(.dv [] (.int .i64 ((incM x k f).2.1)))]), (false, [(.dv [] (.bool ((incM x k f).2.2)))])]) [(9001, some (kcOf false (itemsD ((incM x k f).1.2.1))))] := by
 refine ⟨fn_intro Try.func91 rfl Try.ntmps91 Try.results91 rfl (fun C => ?_)⟩
 have hsw := sto_w hs
 refine yF 0 0 rfl rfl fun f0_0 => ?_
 refine yF 0 1 rfl rfl fun f0_1 => ?_
 refine yF 0 2 rfl rfl fun f0_2 => ?_
 refine yF 1 0 rfl rfl fun f1_0 => ?_
 refine yF 1 1 rfl rfl fun f1_1 => ?_
 refine yF 1 2 rfl rfl fun f1_2 => ?_
 refine ok_fact (x := .tmp 2) (ev_tmp rfl) fun f2 => ?_
 iterate 8 refine z ?_
 refine yO rfl rfl (pu_build hT hB rfl rfl rfl bp_nil) rfl ?_
 iterate 7 refine z ?_
 refine zC Try.call90 ?_ (hf := ok_spec_FindItem (x := x) (k := k) )
 iterate 6 refine z ?_
 refine yQ rfl (fun c1 => ?_) fun c1 => ?_
 ·skip
  have d1 := of_decide_eq_true c1
  have hb9 := sto_recAt hs d1
  have hgb := getF_bd (n := f) hb9
  have hrl := rec6 hb9
  have hrq := rec_yes d1
  have hlt9 := fndK_lt d1
  have hsl := setF_len ((x.2.1.getD (fndK x k).toNat default).2) f ((getF ((x.2.1.getD (fndK x k).toNat default).2) f).1 + 1)
  refine ok_region ?_
  iterate 11 refine z ?_
  refine zC Try.call95 ?_ (hf := ok_spec_GetField (x := ((x.2.1.getD (fndK x k).toNat default).2)) (n := f))
  iterate 11 refine z ?_
  refine zK 499 Try.call79 ?_ (hf := ok_spec_SetField (r := ((x.2.1.getD (fndK x k).toNat default).2)) (n := f) (v := (getF ((x.2.1.getD (fndK x k).toNat default).2) f).1 + 1) (by omega))
  iterate 11 refine z ?_
  refine o_callK 0 rfl rfl rfl Try.call83 (ok_spec_PutItem (x := x) (k := k) (r := (setF ((x.2.1.getD (fndK x k).toNat default).2) f ((getF ((x.2.1.getD (fndK x k).toNat default).2) f).1 + 1)).1) (by omega) (by omega)) (as_cons (ev_tmp rfl) (ag_agg (ag_cons ac_dv (ag_cons ac_dv (ag_cons ac_dv ag_nil)))) (as_cons (ev_tmp rfl) (ag_agg (ag_cons ac_dv (ag_cons ac_dv (ag_cons ac_dv ag_nil)))) (as_cons (ev_tmp rfl) (ag_agg (ag_cons (ac_key' rfl rfl) ag_nil)) as_nil))) rfl rfl rfl ?_
  iterate 19 refine z ?_
  have hfin : incM x k f = ((putN x k (setF ((x.2.1.getD (fndK x k).toNat default).2) f ((getF ((x.2.1.getD (fndK x k).toNat default).2) f).1 + 1)).1).1, (getF ((x.2.1.getD (fndK x k).toNat default).2) f).1 + 1, (setF ((x.2.1.getD (fndK x k).toNat default).2) f ((getF ((x.2.1.getD (fndK x k).toNat default).2) f).1 + 1)).2 && (putN x k (setF ((x.2.1.getD (fndK x k).toNat default).2) f ((getF ((x.2.1.getD (fndK x k).toNat default).2) f).1 + 1)).1).2) := by rw [incM, hrq]; rfl
  rw [hfin]
  refine ok_weak (σ' := ⟨[(6, .box 6 0), (7, .one (.dv [] (.int .i64 (((getF ((((x.2.1)).getD (fndK (x) (k)).toNat default).2) (f)).1) + (1))))), (8, .one (.dv [] (.bool (((setF ((((x.2.1)).getD (fndK (x) (k)).toNat default).2) (f) (((getF ((((x.2.1)).getD (fndK (x) (k)).toNat default).2) (f)).1) + (1))).2) && ((putN (x) (k) ((setF ((((x.2.1)).getD (fndK (x) (k)).toNat default).2) (f) (((getF ((((x.2.1)).getD (fndK (x) (k)).toNat default).2) (f)).1) + (1))).1)).2)))))], [(6, 83, [(.dv [] (.str ((putN (x) (k) ((setF ((((x.2.1)).getD (fndK (x) (k)).toNat default).2) (f) (((getF ((((x.2.1)).getD (fndK (x) (k)).toNat default).2) (f)).1) + (1))).1)).1.1))), (.key 9001), (.dv [] (.int .i64 ((putN (x) (k) ((setF ((((x.2.1)).getD (fndK (x) (k)).toNat default).2) (f) (((getF ((((x.2.1)).getD (fndK (x) (k)).toNat default).2) (f)).1) + (1))).1)).1.2.2)))])], [(9001, some (kcOf false (itemsD ((putN x k (setF ((x.2.1.getD (fndK x k).toNat default).2) f ((getF ((x.2.1.getD (fndK x k).toNat default).2) f).1 + 1)).1).1.2.1))))]⟩) (weak_sub ⟨rfl, rfl, rfl, trivial⟩ ⟨rfl, trivial⟩ ⟨rfl, trivial⟩ rfl) ?_
  refine z ?_
  refine fin3 (res_cell hT rfl rfl rfl rfl) (res_tmp rfl) (res_tmp rfl) rfl rfl rfl ?_
  first | exact ⟨rfl, rfl⟩ | skip
 ·skip
  have d1 := of_decide_eq_false c1
  have hb9 : isRec [] = true := rfl
  have hgb := getF_bd (n := f) hb9
  have hrl := rec6 hb9
  have hrq := rec_no d1
  have hsl := setF_len ([] : RecT) f ((getF ([] : RecT) f).1 + 1)
  iterate 5 refine z ?_
  refine o_call rfl rfl rfl Try.call95 (ok_spec_GetField (x := ([] : RecT)) (n := f)) (as_cons (ev_tmp rfl) (ag_agg (ag_cons (ac_nil' rfl rfl) ag_nil)) (as_cons (ev_tmp rfl) (ag_one ac_dv) as_nil)) rfl rfl ?_
  iterate 11 refine z ?_
  refine o_callK 499 rfl rfl rfl Try.call79 (ok_spec_SetField (r := ([] : RecT)) (n := f) (v := (getF ([] : RecT) f).1 + 1) (by omega)) (as_cons (ev_tmp rfl) (ag_agg (ag_cons (ac_nil' rfl rfl) ag_nil)) (as_cons (ev_tmp rfl) (ag_one ac_dv) (as_cons (ev_tmp rfl) (ag_one ac_dv) as_nil))) rfl rfl rfl ?_
  iterate 11 refine z ?_
  refine o_callK 0 rfl rfl rfl Try.call83 (ok_spec_PutItem (x := x) (k := k) (r := (setF ([] : RecT) f ((getF ([] : RecT) f).1 + 1)).1) (by omega) (by omega)) (as_cons (ev_tmp rfl) (ag_agg (ag_cons ac_dv (ag_cons ac_dv (ag_cons ac_dv ag_nil)))) (as_cons (ev_tmp rfl) (ag_agg (ag_cons ac_dv (ag_cons ac_dv (ag_cons ac_dv ag_nil)))) (as_cons (ev_tmp rfl) (ag_agg (ag_cons (ac_key' rfl rfl) ag_nil)) as_nil))) rfl rfl rfl ?_
  iterate 19 refine z ?_
  have hfin : incM x k f = ((putN x k (setF ([] : RecT) f ((getF ([] : RecT) f).1 + 1)).1).1, (getF ([] : RecT) f).1 + 1, (setF ([] : RecT) f ((getF ([] : RecT) f).1 + 1)).2 && (putN x k (setF ([] : RecT) f ((getF ([] : RecT) f).1 + 1)).1).2) := by rw [incM, hrq]; rfl
  rw [hfin]
  refine ok_weak (σ' := ⟨[(6, .box 6 0), (7, .one (.dv [] (.int .i64 (((getF ([]) (f)).1) + (1))))), (8, .one (.dv [] (.bool (((setF ([]) (f) (((getF ([]) (f)).1) + (1))).2) && ((putN (x) (k) ((setF ([]) (f) (((getF ([]) (f)).1) + (1))).1)).2)))))], [(6, 83, [(.dv [] (.str ((putN (x) (k) ((setF ([]) (f) (((getF ([]) (f)).1) + (1))).1)).1.1))), (.key 9001), (.dv [] (.int .i64 ((putN (x) (k) ((setF ([]) (f) (((getF ([]) (f)).1) + (1))).1)).1.2.2)))])], [(9001, some (kcOf false (itemsD ((putN x k (setF ([] : RecT) f ((getF ([] : RecT) f).1 + 1)).1).1.2.1))))]⟩) (weak_sub ⟨rfl, rfl, rfl, trivial⟩ ⟨rfl, trivial⟩ ⟨rfl, trivial⟩ rfl) ?_
  refine z ?_
  refine fin3 (res_cell hT rfl rfl rfl rfl) (res_tmp rfl) (res_tmp rfl) rfl rfl rfl ?_
  first | exact ⟨rfl, rfl⟩ | skip

section
variable {x : StoreT} {o : OpT}
theorem opM_1 (h : o.1 = 1) : opM x o = ((putN x o.2.2.1 o.2.2.2.1).1, 1, (putN x o.2.2.1 o.2.2.2.1).2) := by rw [opM, if_pos h]
theorem opM_2 (h : o.1 = 2) : opM x o = ((addN x o.2.2.1 o.2.2.2.1).1, 1, (addN x o.2.2.1 o.2.2.2.1).2) := by rw [opM, if_neg (by omega), if_pos h]
theorem opM_3 (h : o.1 = 3) : opM x o = ((delS x (rgK o.2.2.1)).1, (delS x (rgK o.2.2.1)).2, true) := by rw [opM, if_neg (by omega), if_neg (by omega), if_pos h]
theorem opM_5 (h : o.1 = 5) : opM x o = ((delS x rg0).1, (delS x rg0).2, true) := by rw [opM, if_neg (by omega), if_neg (by omega), if_neg (by omega), if_neg (by omega), if_pos h]
theorem opM_4a (h : o.1 = 4) (h2 : fndK x o.2.2.1 < 0) : opM x o = (x, -1, true) := by rw [opM, if_neg (by omega), if_neg (by omega), if_neg (by omega), if_pos h, getN, if_pos h2]
theorem opM_4b (h : o.1 = 4) (h2 : ¬ fndK x o.2.2.1 < 0) : opM x o = (x, ((x.2.1.getD (fndK x o.2.2.1).toNat default).2.length : Int), true) := by rw [opM, if_neg (by omega), if_neg (by omega), if_neg (by omega), if_pos h, getN, if_neg h2]
theorem opM_6 (h1 : o.1 ≠ 1) (h2 : o.1 ≠ 2) (h3 : o.1 ≠ 3) (h4 : o.1 ≠ 4) (h5 : o.1 ≠ 5) : opM x o = incM x o.2.2.1 o.2.2.2.2 := by rw [opM, if_neg h1, if_neg h2, if_neg h3, if_neg h4, if_neg h5]
end

theorem ok_spec_l9Store {x : StoreT} {o : OpT} (hs : isSto x = true) (ho : isOpB o = true) : KFn Try.prog 75 [.agg [(.dv [] (.str (x.1))), (.dv [] (itemsD (x.2.1))), (.dv [] (.int .i64 (x.2.2)))], .agg [(.dv [] (.int .i64 (o.1))), (.dv [] (.str (o.2.1))), (.dv [] (.int .i64 (o.2.2.1.1))), (.dv [] (.int .i64 (o.2.2.1.2.1))), (.dv [] (.str (o.2.2.1.2.2))), (.dv [] (fieldsD (o.2.2.2.1))), (.dv [] (.str (o.2.2.2.2)))]] (.tup [(true, [(.dv [] (.str ((opM x o).1.1))), (.key 9001), (.dv [] (.int .i64 ((opM x o).1.2.2)))]), (false, [(.dv [] (.int .i64 ((opM x o).2.1)))]), (false, [(.dv [] (.bool ((opM x o).2.2)))])]) [(9001, some (kcOf false (itemsD ((opM x o).1.2.1))))] := by
 refine ⟨fn_intro Try.func75 rfl Try.ntmps75 Try.results75 rfl (fun C => ?_)⟩
 have hsw := sto_w hs
 have hor := op_rec ho
 refine yF 0 0 rfl rfl fun f0_0 => ?_
 refine yF 0 1 rfl rfl fun f0_1 => ?_
 refine yF 0 2 rfl rfl fun f0_2 => ?_
 refine yF 1 0 rfl rfl fun f1_0 => ?_
 refine yF 1 1 rfl rfl fun f1_1 => ?_
 refine yF 1 2 rfl rfl fun f1_2 => ?_
 refine yF 1 3 rfl rfl fun f1_3 => ?_
 refine yF 1 4 rfl rfl fun f1_4 => ?_
 refine yF 1 5 rfl rfl fun f1_5 => ?_
 refine yF 1 6 rfl rfl fun f1_6 => ?_
 iterate 17 refine z ?_
 refine yQ rfl (fun c1 => ?_) fun c1 => ?_
 ·skip
  have d1 := of_decide_eq_true c1
  iterate 6 refine z ?_
  refine zK 0 Try.call83 ?_ (hf := ok_spec_PutItem (x := x) (k := o.2.2.1) (r := o.2.2.2.1) (by omega) (by omega))
  iterate 14 refine z ?_
  rw [opM_1 d1]
  refine ok_weak (σ' := ⟨[(4, .box 4 0), (5, .one (.dv [] (.int .i64 (1)))), (6, .one (.dv [] (.bool ((putN (x) (o.2.2.1) (o.2.2.2.1)).2))))], [(4, 83, [(.dv [] (.str ((putN (x) (o.2.2.1) (o.2.2.2.1)).1.1))), (.key 9001), (.dv [] (.int .i64 ((putN (x) (o.2.2.1) (o.2.2.2.1)).1.2.2)))])], [(9001, some (kcOf false (itemsD ((putN x o.2.2.1 o.2.2.2.1).1.2.1))))]⟩) (weak_sub ⟨rfl, rfl, rfl, trivial⟩ ⟨rfl, trivial⟩ ⟨rfl, trivial⟩ rfl) ?_
  iterate 3 refine z ?_
  refine fin3 (res_cell hT rfl rfl rfl rfl) (res_tmp rfl) (res_tmp rfl) rfl rfl rfl ?_
  first | exact ⟨rfl, rfl⟩ | skip
 ·skip
  have d1 := of_decide_eq_false c1
  iterate 4 refine z ?_
  refine yQ rfl (fun c2 => ?_) fun c2 => ?_
  ·skip
   have d2 := of_decide_eq_true c2
   iterate 6 refine z ?_
   refine zK 0 Try.call88 ?_ (hf := ok_spec_AddItem (x := x) (k := o.2.2.1) (r := o.2.2.2.1) (by omega) (by omega))
   iterate 14 refine z ?_
   rw [opM_2 d2]
   refine ok_weak (σ' := ⟨[(4, .box 4 0), (5, .one (.dv [] (.int .i64 (1)))), (6, .one (.dv [] (.bool ((addN (x) (o.2.2.1) (o.2.2.2.1)).2))))], [(4, 83, [(.dv [] (.str ((addN (x) (o.2.2.1) (o.2.2.2.1)).1.1))), (.key 9001), (.dv [] (.int .i64 ((addN (x) (o.2.2.1) (o.2.2.2.1)).1.2.2)))])], [(9001, some (kcOf false (itemsD ((addN x o.2.2.1 o.2.2.2.1).1.2.1))))]⟩) (weak_sub ⟨rfl, rfl, rfl, trivial⟩ ⟨rfl, trivial⟩ ⟨rfl, trivial⟩ rfl) ?_
   iterate 3 refine z ?_
   refine fin3 (res_cell hT rfl rfl rfl rfl) (res_tmp rfl) (res_tmp rfl) rfl rfl rfl ?_
   first | exact ⟨rfl, rfl⟩ | skip
  ·skip
   have d2 := of_decide_eq_false c2
   iterate 4 refine z ?_
   refine yQ rfl (fun c3 => ?_) fun c3 => ?_
   ·skip
    have d3 := of_decide_eq_true c3
    iterate 6 refine z ?_
    refine yO rfl rfl (pu_build hT hB rfl rfl rfl (bp_cons ev_bool rfl rfl rfl rfl rfl (bp_cons ev_bool rfl rfl rfl rfl rfl (bp_cons (ev_tmp rfl) rfl rfl rfl rfl rfl (bp_cons (ev_tmp rfl) rfl rfl rfl rfl rfl bp_nil))))) rfl ?_
    refine zK 0 Try.call89 ?_ (hf := ok_spec_DeleteItems (x := x) (r := rgK o.2.2.1) (by omega))
    iterate 14 refine z ?_
    rw [opM_3 d3]
    refine ok_weak (σ' := ⟨[(4, .box 4 0), (5, .one (.dv [] (.int .i64 ((delS (x) (rgK o.2.2.1)).2)))), (6, .one (.dv [] (.bool (true))))], [(4, 83, [(.dv [] (.str ((delS (x) (rgK o.2.2.1)).1.1))), (.key 9001), (.dv [] (.int .i64 ((delS (x) (rgK o.2.2.1)).1.2.2)))])], [(9001, some (kcOf false (itemsD ((delS x (rgK o.2.2.1)).1.2.1))))]⟩) (weak_sub ⟨rfl, rfl, rfl, trivial⟩ ⟨rfl, trivial⟩ ⟨rfl, trivial⟩ rfl) ?_
    iterate 3 refine z ?_
    refine fin3 (res_cell hT rfl rfl rfl rfl) (res_tmp rfl) (res_tmp rfl) rfl rfl rfl ?_
    first | exact ⟨rfl, rfl⟩ | skip
   ·skip
    have d3 := of_decide_eq_false c3
    iterate 4 refine z ?_
    refine yQ rfl (fun c4 => ?_) fun c4 => ?_
    ·skip
     have d4 := of_decide_eq_true c4
     iterate 4 refine z ?_
     refine zC Try.call90 ?_ (hf := ok_spec_FindItem (x := x) (k := o.2.2.1) )
     iterate 7 refine z ?_
     refine yQ rfl (fun c5 => ?_) fun c5 => ?_
     ·skip
      have d5 := of_decide_eq_true c5
      iterate 2 refine z ?_
      refine zK 8971 Try.call49 ?_ (hf := ok_spec_l6Copy (x := x) (by omega))
      iterate 4 refine z ?_
      rw [opM_4a d4 d5]
      refine ok_weak (σ' := ⟨[(4, .box 4 0), (5, .one (.dv [] (.int .i64 (-1)))), (6, .one (.dv [] (.bool (true))))], [(4, 83, [(.dv [] (.str ((x).1))), (.key 9001), (.dv [] (.int .i64 ((x).2.2)))])], [(9001, some (kcOf false (itemsD (x.2.1))))]⟩) (weak_sub ⟨rfl, rfl, rfl, trivial⟩ ⟨rfl, trivial⟩ ⟨rfl, trivial⟩ rfl) ?_
      iterate 4 refine z ?_
      refine fin3 (res_cell hT rfl rfl rfl rfl) (res_tmp rfl) (res_tmp rfl) rfl rfl rfl ?_
      first | exact ⟨rfl, rfl⟩ | skip
     ·skip
      have d5 := of_decide_eq_false c5
      have hfx : fndK x o.2.2.1 < x.2.1.length := by have := fndK_lt (x := x) (k := o.2.2.1) (by omega); omega
      iterate 2 refine z ?_
      refine ok_seq ?_
      refine ok_regionX 4 [0, 1, 2, 3, 4, 5, 6, 7, 8, 9, 10] (oB := [2, 3]) (oK := []) (by kernel_rfl) rfl rfl ?_
      refine x_take 0 rfl (by kernel_rfl) rfl rfl (pu_loadBoxA hT rfl rfl (ev_tmp rfl) rfl rfl) rfl rfl rfl rfl rfl ?_
      refine x_take 2 rfl (by kernel_rfl) rfl rfl (pu_fieldBox hT rfl rfl rfl (ev_tmp rfl)) rfl rfl rfl rfl rfl ?_
      refine x_take 3 rfl (by kernel_rfl) rfl rfl (pu_loadBox1 hT rfl rfl (ev_tmp rfl) rfl rfl) rfl rfl rfl rfl rfl ?_
      refine x_take 4 rfl (by kernel_rfl) rfl rfl (pu_move (.inl rfl) (ev_tmp rfl)) rfl rfl rfl rfl rfl ?_
      refine x_take 5 rfl (by kernel_rfl) rfl rfl (pu_indexD hT rfl rfl rfl (ev_tmp rfl) (ev_tmp rfl) (fun _ => rfl) (by omega) (by omega)) rfl rfl rfl rfl rfl ?_
      refine x_take 6 rfl (by kernel_rfl) rfl rfl (pu_fieldRef hT rfl rfl rfl (ev_tmp rfl)) rfl rfl rfl rfl rfl ?_
      refine x_take 7 rfl (by kernel_rfl) rfl rfl (pu_fieldRef hT rfl rfl rfl (ev_tmp rfl)) rfl rfl rfl rfl rfl ?_
      refine x_take 8 rfl (by kernel_rfl) rfl rfl (pu_loadRef1 hT rfl rfl (ev_tmp rfl) rfl) rfl rfl rfl rfl rfl ?_
      refine x_take 9 rfl (by kernel_rfl) rfl rfl (pu_lenV hT rfl rfl (ev_tmp rfl)) rfl rfl rfl rfl rfl ?_
      refine x_callK 8971 1 rfl (by kernel_rfl) rfl rfl rfl Try.call49 (ok_spec_l6Copy (x := x) (by omega)) (as_cons (ev_tmp rfl) (ag_agg (ag_cons ac_dv (ag_cons ac_dv (ag_cons ac_dv ag_nil)))) as_nil) rfl rfl rfl rfl rfl rfl ?_
      refine x_store 10 rfl (by kernel_rfl) rfl hT rfl rfl rfl (ev_tmp rfl) (ev_tmp rfl) rfl rfl rfl rfl rfl rfl ?_
      refine x_chain [11, 12] rfl rfl (by kernel_rfl) ?_
      iterate 3 refine z ?_
      rw [opM_4b d4 d5]
      refine ok_weak (σ' := ⟨[(4, .box 4 0), (5, .one (.dv [] (.int .i64 (((((((x.2.1)).getD (fndK (x) (o.2.2.1)).toNat default).2)).length : Int))))), (6, .one (.dv [] (.bool (true))))], [(4, 83, [(.dv [] (.str ((x).1))), (.key 9001), (.dv [] (.int .i64 ((x).2.2)))])], [(9001, some (kcOf false (itemsD (x.2.1))))]⟩) (weak_sub ⟨rfl, rfl, rfl, trivial⟩ ⟨rfl, trivial⟩ ⟨rfl, trivial⟩ rfl) ?_
      iterate 3 refine z ?_
      refine fin3 (res_cell hT rfl rfl rfl rfl) (res_tmp rfl) (res_tmp rfl) rfl rfl rfl ?_
      first | exact ⟨rfl, rfl⟩ | skip
    ·skip
     have d4 := of_decide_eq_false c4
     iterate 4 refine z ?_
     refine yQ rfl (fun c6 => ?_) fun c6 => ?_
     ·skip
      have d6 := of_decide_eq_true c6
      iterate 2 refine z ?_
      refine yO rfl rfl (pu_build hT hB rfl rfl rfl bp_nil) rfl ?_
      refine zK 0 Try.call89 ?_ (hf := ok_spec_DeleteItems (x := x) (r := rg0) (by omega))
      iterate 14 refine z ?_
      rw [opM_5 d6]
      refine ok_weak (σ' := ⟨[(4, .box 4 0), (5, .one (.dv [] (.int .i64 ((delS (x) (rg0)).2)))), (6, .one (.dv [] (.bool (true))))], [(4, 83, [(.dv [] (.str ((delS (x) (rg0)).1.1))), (.key 9001), (.dv [] (.int .i64 ((delS (x) (rg0)).1.2.2)))])], [(9001, some (kcOf false (itemsD ((delS x rg0).1.2.1))))]⟩) (weak_sub ⟨rfl, rfl, rfl, trivial⟩ ⟨rfl, trivial⟩ ⟨rfl, trivial⟩ rfl) ?_
      iterate 3 refine z ?_
      refine fin3 (res_cell hT rfl rfl rfl rfl) (res_tmp rfl) (res_tmp rfl) rfl rfl rfl ?_
      first | exact ⟨rfl, rfl⟩ | skip
     ·skip
      have d6 := of_decide_eq_false c6
      iterate 9 refine z ?_
      refine zK 0 Try.call91 ?_ (hf := ok_spec_l9Inc (x := x) (k := o.2.2.1) (f := o.2.2.2.2) hs)
      iterate 7 refine z ?_
      rw [opM_6 d1 d2 d3 d4 d6]
      refine ok_weak (σ' := ⟨[(4, .box 4 0), (5, .one (.dv [] (.int .i64 ((incM (x) (o.2.2.1) (o.2.2.2.2)).2.1)))), (6, .one (.dv [] (.bool ((incM (x) (o.2.2.1) (o.2.2.2.2)).2.2))))], [(4, 83, [(.dv [] (.str ((incM (x) (o.2.2.1) (o.2.2.2.2)).1.1))), (.key 9001), (.dv [] (.int .i64 ((incM (x) (o.2.2.1) (o.2.2.2.2)).1.2.2)))])], [(9001, some (kcOf false (itemsD ((incM x o.2.2.1 o.2.2.2.2).1.2.1))))]⟩) (weak_sub ⟨rfl, rfl, rfl, trivial⟩ ⟨rfl, trivial⟩ ⟨rfl, trivial⟩ rfl) ?_
      refine z ?_
      refine fin3 (res_cell hT rfl rfl rfl rfl) (res_tmp rfl) (res_tmp rfl) rfl rfl rfl ?_
      first | exact ⟨rfl, rfl⟩ | skip
end Go.Proofs.Ytjkpoekgnmgofaa

namespace Go.Proofs.Ytjkpoekgnmgofaa
open Go.RowKit
open Go.Proofs
set_option linter.unusedVariables false
set_option linter.unusedSimpArgs false

theorem el_le {α : Type} {enc : α → List DV} {sz : Nat} {xs : List α} {i : Nat} (hs : ∀ y, (enc y).length = sz) (hi : i < xs.length) : i * sz + sz ≤ (xs.flatMap enc).length := by
 rw [fl_len hs]
 have : (i + 1) * sz ≤ xs.length * sz := Nat.mul_le_mul_right _ hi
 rw [Nat.add_mul, Nat.one_mul] at this
 exact this
section
variable {α : Type} {enc : α → List DV} {sz : Nat} {xs : List α} {i : Nat} [Inhabited α]
theorem el_set (hs : ∀ y, (enc y).length = sz) (hi : i < xs.length) (y : α) : setR (i * sz) (enc y) (xs.flatMap enc) = (xs.set i y).flatMap enc := by
 have e : xs.flatMap enc = (xs.take i).flatMap enc ++ (enc (xs.getD i default) ++ (xs.drop (i + 1)).flatMap enc) := by
  have e : xs.drop i = xs.getD i default :: xs.drop (i + 1) := by rw [List.drop_eq_getElem_cons hi]; simp [List.getD, List.getElem?_eq_getElem hi]
  rw [← List.flatMap_cons, ← e, ← List.flatMap_append, List.take_append_drop]
 rw [e, setR_mid3 (by rw [fl_len hs, List.length_take]; congr 1; omega) (by rw [hs, hs]), List.set_eq_take_append_cons_drop, if_pos hi, List.flatMap_append, List.flatMap_cons]
end
def putS (d : DbT) (i : Nat) (s : StoreT) : DbT := (d.1, d.2.1, d.2.2.1.set i s, d.2.2.2)
def stOf (d : DbT) (o : OpT) : StoreT := d.2.2.1.getD (fndS d o.2.1).toNat default
def runOp (d : DbT) (o : OpT) : DbT × Int × Bool :=
 if ((!isDb d || !isOpB o) || decide (fndS d o.2.1 < 0)) = true then (d, 0, false)
 else if (!(opM (stOf d o) o).2.2 || !isDb (putS d (fndS d o.2.1).toNat (opM (stOf d o) o).1)) = true then (d, 0, false)
 else (putS d (fndS d o.2.1).toNat (opM (stOf d o) o).1, (opM (stOf d o) o).2.1, true)
theorem runG {d : DbT} {o : OpT} (h : ((!isDb d || !isOpB o) || decide (fndS d o.2.1 < 0)) = false) : isDb d = true ∧ isOpB o = true ∧ 0 ≤ fndS d o.2.1 := by
 simp only [Bool.or_eq_false_iff, Bool.not_eq_false', decide_eq_false_iff_not] at h
 exact ⟨h.1.1, h.1.2, by omega⟩
theorem isDb_st1 {d : DbT} (h : isDb d = true) : dbSt d = true := by
 rw [isDb] at h
 simp only [Bool.and_eq_true] at h
 exact h.2.1
theorem runOp_bad {d : DbT} {o : OpT} (h : ((!isDb d || !isOpB o) || decide (fndS d o.2.1 < 0)) = true) : runOp d o = (d, 0, false) := by rw [runOp, if_pos h]
theorem runOp_no {d : DbT} {o : OpT} {r : StoreT × Int × Bool} (h : ((!isDb d || !isOpB o) || decide (fndS d o.2.1 < 0)) = false) (hr : r = opM (stOf d o) o ∨ (r.2.2 = false ∧ (opM (stOf d o) o).2.2 = false)) (h2 : (!r.2.2 || !isDb (putS d (fndS d o.2.1).toNat r.1)) = true) : runOp d o = (d, 0, false) := by
 rw [runOp, if_neg (by rw [h]; simp)]
 rcases hr with rfl | ⟨_, hr⟩
 ·rw [if_pos h2]
 ·rw [if_pos (by rw [hr]; rfl)]
theorem runOp_yes {d : DbT} {o : OpT} {r : StoreT × Int × Bool} (h : ((!isDb d || !isOpB o) || decide (fndS d o.2.1 < 0)) = false) (hr : r = opM (stOf d o) o ∨ (r.2.2 = false ∧ (opM (stOf d o) o).2.2 = false)) (h2 : (!r.2.2 || !isDb (putS d (fndS d o.2.1).toNat r.1)) = false) : runOp d o = (putS d (fndS d o.2.1).toNat r.1, r.2.1, true) := by
 rw [runOp, if_neg (by rw [h]; simp)]
 rcases hr with rfl | ⟨hr, _⟩
 ·rw [if_neg (by rw [h2]; simp)]
 ·rw [hr] at h2; cases h2
theorem putS_self {d : DbT} {i : Nat} (hi : i < d.2.2.1.length) : putS d i (d.2.2.1.getD i default) = d := by
 have : d.2.2.1.set i (d.2.2.1.getD i default) = d.2.2.1 := by
  apply List.ext_getElem?
  intro j
  rw [List.getElem?_set]
  by_cases h : i = j
  ·subst h; simp [hi, List.getD]
  ·simp [h]
 unfold putS
 rw [this]

theorem ok_spec_RunOp {d : DbT} {o : OpT} (hb : wDatabase d ≤ 1099511627776) : KFn Try.prog 51 [.agg [(.dv [] (.str (d.1))), (.dv [] (.int .i64 (d.2.1))), (.dv [] (storesD (d.2.2.1))), (.dv [] (defsD (d.2.2.2)))], .agg [(.dv [] (.int .i64 (o.1))), (.dv [] (.str (o.2.1))), (.dv [] (.int .i64 (o.2.2.1.1))), (.dv [] (.int .i64 (o.2.2.1.2.1))), (.dv [] (.str (o.2.2.1.2.2))), (.dv [] (fieldsD (o.2.2.2.1))), (.dv [] (.str (o.2.2.2.2)))]] (.tup [(true, [(.dv [] (.str ((runOp d o).1.1))), (.dv [] (.int .i64 ((runOp d o).1.2.1))), (.key 90031), (.key 90900)]), (false, [(.dv [] (.int .i64 ((runOp d o).2.1)))]), (false, [(.dv [] (.bool ((runOp d o).2.2)))])]) [(90031, some (kcOf false (storesD ((runOp d o).1.2.2.1)))), (90900, some (kcOf false (defsD ((runOp d o).1.2.2.2))))] := by
 refine ⟨fn_intro Try.func51 rfl Try.ntmps51 Try.results51 rfl (fun C => ?_)⟩
 refine yF 0 0 rfl rfl fun f0_0 => ?_
 refine yF 0 1 rfl rfl fun f0_1 => ?_
 refine yF 0 2 rfl rfl fun f0_2 => ?_
 refine yF 0 3 rfl rfl fun f0_3 => ?_
 refine yF 1 0 rfl rfl fun f1_0 => ?_
 refine yF 1 1 rfl rfl fun f1_1 => ?_
 refine yF 1 2 rfl rfl fun f1_2 => ?_
 refine yF 1 3 rfl rfl fun f1_3 => ?_
 refine yF 1 4 rfl rfl fun f1_4 => ?_
 refine yF 1 5 rfl rfl fun f1_5 => ?_
 refine yF 1 6 rfl rfl fun f1_6 => ?_
 iterate 9 refine z ?_
 refine zK 90000 Try.call50 ?_ (hf := ok_spec_l8Copy (x := d) (by omega))
 iterate 7 refine z ?_
 refine zC Try.call48 ?_ (hf := ok_spec_FindStore (x := d) (n := o.2.1) )
 iterate 5 refine z ?_
 refine zC Try.call74 ?_ (hf := ok_spec_IsDatabase (x := d) )
 iterate 3 refine z ?_
 refine o_callG (gd_bool rfl rfl rfl rfl rfl) rfl rfl Try.call18 (ok_spec_IsOp (x := o) ) (fun hg => (as_cons (ev_opt rfl hg) (ag_agg (ag_cons ac_dv (ag_cons ac_dv (ag_cons ac_dv (ag_cons ac_dv (ag_cons ac_dv (ag_cons ac_dv (ag_cons ac_dv ag_nil)))))))) as_nil)) rfl rfl ?_
 iterate 7 refine z ?_
 refine yQ rfl (fun c1 => ?_) fun c1 => ?_
 ·skip
  iterate 6 refine z ?_
  rw [runOp_bad c1]
  refine ok_weak (σ' := ⟨[(4, .box 4 0), (5, .one (.dv [] (.int .i64 (0)))), (6, .one (.dv [] (.bool (false))))], [(4, 41, [(.dv [] (.str ((d).1))), (.dv [] (.int .i64 ((d).2.1))), (.key 90031), (.key 90900)])], [(90031, some (kcOf false (storesD (d.2.2.1)))), (90900, some (kcOf false (defsD (d.2.2.2))))]⟩) (weak_sub ⟨rfl, rfl, rfl, trivial⟩ ⟨rfl, trivial⟩ ⟨rfl, rfl, trivial⟩ rfl) ?_
  iterate 2 refine z ?_
  refine fin3 (res_cell hT rfl rfl rfl rfl) (res_tmp rfl) (res_tmp rfl) rfl rfl rfl ?_
  first | exact ⟨rfl, rfl⟩ | skip
 ·skip
  have hg := runG c1
  have hlt : findI (hasName o.2.1) d.2.2.1 0 < d.2.2.1.length := fndS_lt d o.2.1
  have h0k : 0 ≤ findI (hasName o.2.1) d.2.2.1 0 := hg.2.2
  have hsx := db_sto (isDb_st1 hg.1) h0k hlt
  have hkn : (findI (hasName o.2.1) d.2.2.1 0).toNat < d.2.2.1.length := by omega
  iterate 2 refine z ?_
  refine ok_cutS (σ' := ⟨[(2, .box 2 0), (3, .box 3 0), (4, .box 4 0), (5, .one (.dv [] (.int .i64 (0)))), (6, .one (.dv [] (.bool (false)))), (7, .box 7 0), (8, .one (.dv [] (.int .i64 (findI (hasName (o.2.1)) (d).2.2.1 0)))), (9, .box 9 0), (10, .one (.dv [] (.int .i64 ((opM ((d.2.2.1.getD (findI (hasName o.2.1) d.2.2.1 0).toNat default)) (o)).2.1)))), (11, .one (.dv [] (.bool ((opM ((d.2.2.1.getD (findI (hasName o.2.1) d.2.2.1 0).toNat default)) (o)).2.2))))], [(2, 41, [(.dv [] (.str (d.1))), (.dv [] (.int .i64 (d.2.1))), (.dv [] (storesD (d.2.2.1))), (.dv [] (defsD (d.2.2.2)))]), (3, 57, [(.dv [] (.int .i64 (o.1))), (.dv [] (.str (o.2.1))), (.dv [] (.int .i64 (o.2.2.1.1))), (.dv [] (.int .i64 (o.2.2.1.2.1))), (.dv [] (.str (o.2.2.1.2.2))), (.dv [] (fieldsD (o.2.2.2.1))), (.dv [] (.str (o.2.2.2.2)))]), (4, 41, [(.dv [] (.str (ByteArray.empty))), (.dv [] (.int .i64 (0))), .nil, .nil]), (7, 41, [(.dv [] (.str ((d).1))), (.dv [] (.int .i64 ((d).2.1))), (.key 90031), (.key 90900)]), (9, 83, [(.dv [] (.str ((opM ((d.2.2.1.getD (findI (hasName o.2.1) d.2.2.1 0).toNat default)) (o)).1.1))), (.key 90501), (.dv [] (.int .i64 ((opM ((d.2.2.1.getD (findI (hasName o.2.1) d.2.2.1 0).toNat default)) (o)).1.2.2)))])], [(90031, some (kcOf false (storesD ((d).2.2.1)))), (90501, some (kcOf false (itemsD ((opM (d.2.2.1.getD (findI (hasName o.2.1) d.2.2.1 0).toNat default) o).1.2.1)))), (90900, some (kcOf false (defsD ((d).2.2.2))))]⟩) ?_ ?_
  ·skip
   refine ok_regionD (oB := [2, 3, 4, 7]) (oK := [90031, 90900]) (by kernel_rfl) rfl rfl ?_
   refine zD 0 ?_
   refine zD 1 ?_
   refine zD 2 ?_
   refine zD 3 ?_
   refine zD 4 ?_
   refine zD 5 ?_
   refine d_vars (A := [(11, 9, 83, _)]) hT ⟨⟨_, _, rfl⟩, rfl, trivial⟩ ?_
   refine a_callK 81500 6 rfl (by kernel_rfl) rfl rfl rfl (vok hT ⟨⟨_, _, rfl⟩, rfl, trivial⟩ (by kernel_rfl) (by kernel_rfl)) (vok hT ⟨⟨_, _, rfl⟩, rfl, trivial⟩ (by kernel_rfl) (by kernel_rfl)) rfl Try.call75 (ok_spec_l9Store (x := (d.2.2.1.getD (findI (hasName o.2.1) d.2.2.1 0).toNat default)) (o := o) hsx hg.2.1) (as_cons (ev_tmp rfl) (ag_agg (ag_cons ac_dv (ag_cons ac_dv (ag_cons ac_dv ag_nil)))) (as_cons (ev_tmp rfl) (ag_agg (ag_cons ac_dv (ag_cons ac_dv (ag_cons ac_dv (ag_cons ac_dv (ag_cons ac_dv (ag_cons ac_dv (ag_cons ac_dv ag_nil)))))))) as_nil)) rfl rfl rfl rfl rfl ?_
   refine a_take 7 rfl (by kernel_rfl) rfl rfl rfl (vok hT ⟨⟨_, _, rfl⟩, rfl, trivial⟩ (by kernel_rfl) (by kernel_rfl)) (vok hT ⟨⟨_, _, rfl⟩, rfl, trivial⟩ (by kernel_rfl) (by kernel_rfl)) (pu_move (.inl rfl) (ev_tmp rfl)) rfl rfl rfl rfl ?_
   refine a_takeX 8 rfl (by kernel_rfl) rfl rfl rfl rfl (vok hT ⟨⟨_, _, rfl⟩, rfl, trivial⟩ (by kernel_rfl) (by kernel_rfl)) (vok hT ⟨⟨_, _, rfl⟩, rfl, trivial⟩ (by kernel_rfl) (by kernel_rfl)) (pu_extractA rfl (ev_tmp rfl) rfl) rfl rfl ?_
   refine a_takeX 9 rfl (by kernel_rfl) rfl rfl rfl rfl (vok hT ⟨⟨_, _, rfl⟩, rfl, trivial⟩ (by kernel_rfl) (by kernel_rfl)) (vok hT ⟨⟨_, _, rfl⟩, rfl, trivial⟩ (by kernel_rfl) (by kernel_rfl)) (pu_extract1 rfl (ev_tmp rfl) rfl) rfl rfl ?_
   refine a_takeX 10 rfl (by kernel_rfl) rfl rfl rfl rfl (vok hT ⟨⟨_, _, rfl⟩, rfl, trivial⟩ (by kernel_rfl) (by kernel_rfl)) (vok hT ⟨⟨_, _, rfl⟩, rfl, trivial⟩ (by kernel_rfl) (by kernel_rfl)) (pu_extract1 rfl (ev_tmp rfl) rfl) rfl rfl ?_
   refine a_exit1 (vok hT ⟨⟨_, _, rfl⟩, rfl, trivial⟩ (by kernel_rfl) (by kernel_rfl)) rfl rfl (by kernel_rfl) ?_
   dsimp only [addT, addB]
   refine d_chain [12, 13, 14] rfl rfl (by kernel_rfl) ?_
   iterate 3 refine z ?_
   refine ops_nil ?_
   exact then_n (weak_sub ⟨rfl, rfl, rfl, rfl, rfl, rfl, rfl, rfl, rfl, rfl, trivial⟩ ⟨rfl, rfl, rfl, rfl, rfl, trivial⟩ ⟨rfl, rfl, rfl, trivial⟩ rfl)
  iterate 5 refine z ?_
  refine yO rfl rfl (pu_indexK (i := (findI (hasName (o.2.1)) (d).2.2.1 0).toNat) hT rfl rfl rfl (ev_tmp rfl) rfl (ev_tmp rfl) (by omega) (by show _ < (((d).2.2.1)).length; omega)) rfl ?_
  refine o_storeE (js := [90501]) (cs := (d.2.2.1.set (findI (hasName o.2.1) d.2.2.1 0).toNat (opM (d.2.2.1.getD (findI (hasName o.2.1) d.2.2.1 0).toNat default) o).1).flatMap eStore) hT rfl rfl rfl rfl (ev_tmp rfl) (ev_tmp rfl) rfl rfl rfl rfl (ow_cons' (ow_dv rfl) (ow_cons' (ow_key rfl) (ow_cons' (ow_dv rfl) ow_nil rfl) rfl) rfl) (by decide) (by decide) rfl (by show _ ≤ List.length (((d).2.2.1).flatMap eStore); show (findI (hasName o.2.1) d.2.2.1 0).toNat * 3 + 3 ≤ _; rw [fl_len (enc := eStore) (sz := 3) (fun _ => rfl)]; omega) (el_set (enc := eStore) (sz := 3) (fun _ => rfl) hkn (opM (d.2.2.1.getD (findI (hasName o.2.1) d.2.2.1 0).toNat default) o).1) ?_
  simp only [killT, killB, SV.kill, CV.kill, kk, Nat.reduceBEq]
  refine z ?_
  refine ok_seq ?_
  refine ok_seq ?_
  refine ok_weak (weak_eq (k := 90031) (c' := kcOf false (storesD (d.2.2.1.set (findI (hasName o.2.1) d.2.2.1 0).toNat (opM (d.2.2.1.getD (findI (hasName o.2.1) d.2.2.1 0).toNat default) o).1))) rfl (congrArg (fun m => KC.mk false 83 3 m ((d.2.2.1.set (findI (hasName o.2.1) d.2.2.1 0).toNat (opM (d.2.2.1.getD (findI (hasName o.2.1) d.2.2.1 0).toNat default) o).1).flatMap eStore)) (List.length_set).symm) rfl) ?_
  refine ok_region ?_
  iterate 4 refine z ?_
  refine o_callG (gd_bool rfl rfl rfl rfl rfl) rfl rfl Try.call74 (ok_spec_IsDatabase (x := putS d (findI (hasName o.2.1) d.2.2.1 0).toNat (opM (d.2.2.1.getD (findI (hasName o.2.1) d.2.2.1 0).toNat default) o).1)) (fun hg => (as_cons (ev_opt rfl hg) (ag_agg (ag_cons ac_dv (ag_cons ac_dv (ag_cons (ac_key' rfl rfl) (ag_cons (ac_key' rfl rfl) ag_nil))))) as_nil)) rfl rfl ?_
  iterate 3 refine z ?_
  refine yQ rfl (fun c2 => ?_) fun c2 => ?_
  ·skip
   refine ok_seq ?_
   refine ok_weak (σ' := ⟨[(2, .box 2 0), (4, .box 4 0), (5, .one (.dv [] (.int .i64 (0)))), (6, .one (.dv [] (.bool (false))))], [(2, 41, [(.dv [] (.str (d.1))), (.dv [] (.int .i64 (d.2.1))), (.dv [] (storesD (d.2.2.1))), (.dv [] (defsD (d.2.2.2)))]), (4, 41, [(.dv [] (.str (ByteArray.empty))), (.dv [] (.int .i64 (0))), .nil, .nil])], []⟩) (weak_sub ⟨rfl, rfl, rfl, rfl, trivial⟩ ⟨rfl, rfl, trivial⟩ trivial rfl) ?_
   refine ok_region ?_
   refine z ?_
   refine zK 90000 Try.call50 ?_ (hf := ok_spec_l8Copy (x := d) (by omega))
   iterate 4 refine z ?_
   rw [runOp_no c1 (r := (opM (d.2.2.1.getD (findI (hasName o.2.1) d.2.2.1 0).toNat default) o)) (.inl rfl) c2]
   refine ok_weak (σ' := ⟨[(4, .box 4 0), (5, .one (.dv [] (.int .i64 (0)))), (6, .one (.dv [] (.bool (false))))], [(4, 41, [(.dv [] (.str ((d).1))), (.dv [] (.int .i64 ((d).2.1))), (.key 90031), (.key 90900)])], [(90031, some (kcOf false (storesD (d.2.2.1)))), (90900, some (kcOf false (defsD (d.2.2.2))))]⟩) (weak_sub ⟨rfl, rfl, rfl, trivial⟩ ⟨rfl, trivial⟩ ⟨rfl, rfl, trivial⟩ rfl) ?_
   iterate 2 refine z ?_
   refine fin3 (res_cell hT rfl rfl rfl rfl) (res_tmp rfl) (res_tmp rfl) rfl rfl rfl ?_
   first | exact ⟨rfl, rfl⟩ | skip
  ·skip
   iterate 9 refine z ?_
   rw [runOp_yes c1 (r := (opM (d.2.2.1.getD (findI (hasName o.2.1) d.2.2.1 0).toNat default) o)) (.inl rfl) c2]
   refine ok_weak (σ' := ⟨[(4, .box 4 0), (5, .one (.dv [] (.int .i64 ((opM ((d.2.2.1.getD (findI (hasName o.2.1) d.2.2.1 0).toNat default)) (o)).2.1)))), (6, .one (.dv [] (.bool (true))))], [(4, 41, [(.dv [] (.str ((d).1))), (.dv [] (.int .i64 ((d).2.1))), (.key 90031), (.key 90900)])], [(90031, some (kcOf false (storesD (d.2.2.1.set (findI (hasName o.2.1) d.2.2.1 0).toNat (opM (d.2.2.1.getD (findI (hasName o.2.1) d.2.2.1 0).toNat default) o).1)))), (90900, some (kcOf false (defsD (d.2.2.2))))]⟩) (weak_sub ⟨rfl, rfl, rfl, trivial⟩ ⟨rfl, trivial⟩ ⟨rfl, rfl, trivial⟩ rfl) ?_
   refine z ?_
   refine fin3 (res_cell hT rfl rfl rfl rfl) (res_tmp rfl) (res_tmp rfl) rfl rfl rfl ?_
   first | exact ⟨rfl, rfl⟩ | skip
end Go.Proofs.Ytjkpoekgnmgofaa

namespace Go.Proofs.Ytjkpoekgnmgofaa
open Go.RowKit
open Go.Proofs
set_option linter.unusedVariables false
set_option linter.unusedSimpArgs false

def goOps : DbT → List OpT → Option (DbT × List Int)
 | c, [] => some (c, [])
 | c, o :: os => if (runOp c o).2.2 = true then (goOps (runOp c o).1 os).map fun r => (r.1, (runOp c o).2.1 :: r.2) else none
def outOps (d : DbT) : Option (DbT × List Int) → DbT × List Int × Bool
 | none => (d, [], false)
 | some r => (r.1, r.2, true)
def runOps (d : DbT) (l : List OpT) : DbT × List Int × Bool := if (!isDb d || decide ((6 : Int) < (l.length : Int))) = true then (d, [], false) else outOps d (goOps d l)
theorem opsG {d : DbT} {l : List OpT} (h : (!isDb d || decide ((6 : Int) < (l.length : Int))) = false) : l.length ≤ 6 := by
 simp only [Bool.or_eq_false_iff, decide_eq_false_iff_not] at h
 omega
end Go.Proofs.Ytjkpoekgnmgofaa

namespace Go.Proofs.Ytjkpoekgnmgofaa
open Go.RowKit
open Go.Proofs
set_option linter.unusedVariables false
set_option linter.unusedSimpArgs false

theorem sto_name {s : StoreT} (h : isSto s = true) : s.1.size ≤ 8 := by
 simp only [isSto, Bool.and_eq_true] at h
 have := h.2.1.1
 simp only [isName, Bool.and_eq_true, decide_eq_true_eq] at this
 omega
def serial : DbT → List TxT → DbT
 | d, [] => d
 | d, t :: ts => serial (runOps d t.2.1).1 ts
end Go.Proofs.Ytjkpoekgnmgofaa

namespace Go.Proofs.Ytjkpoekgnmgofaa
open Go.RowKit
open Go.Proofs
set_option linter.unusedVariables false
set_option linter.unusedSimpArgs false

section
variable {α : Type} {enc : α → List DV} {sz : Nat} {xs : List α} {n : Nat}
theorem flat_pre (hs : ∀ y, (enc y).length = sz) (h : n ≤ xs.length) : ((xs.take n).flatMap enc).length = n * sz := by rw [fl_len hs, List.length_take, Nat.min_eq_left h]
theorem flat_set (h : n < xs.length) (y : α) : mid ((xs.take n).flatMap enc) (enc y) ((xs.drop (n + 1)).flatMap enc) = (xs.set n y).flatMap enc := by
 rw [List.set_eq_take_append_cons_drop, if_pos h, List.flatMap_append, List.flatMap_cons]; unfold mid; simp
theorem flat_open [Inhabited α] {t : α} (h : n < xs.length) (ht : t = xs.getD n default) : xs.flatMap enc = mid ((xs.take n).flatMap enc) (enc t) ((xs.drop (n + 1)).flatMap enc) := by
 rw [flat_set h]
 have e : xs.set n t = xs := by
  subst ht
  apply List.ext_getElem?
  intro j
  rw [List.getElem?_set]
  by_cases h' : n = j
  ·subst h'; simp [h, List.getD]
  ·simp [h']
 rw [e]
theorem fin_set {e : Nat} (h : n < xs.length) (y : α) : some (some (KC.mk false e sz xs.length (mid ((xs.take n).flatMap enc) (enc y) ((xs.drop (n + 1)).flatMap enc)))) = some (some (KC.mk false e sz (xs.set n y).length ((xs.set n y).flatMap enc))) := by rw [flat_set h, List.length_set]
end
def restL : DbT → List StoreT → DbT
 | d, [] => d
 | d, s :: l => restL (if 0 ≤ fndS d s.1 then putS d (fndS d s.1).toNat s else d) l
theorem rest_step {c : DbT} {l : List StoreT} {n : Nat} (h : n < l.length) : restL c (l.drop n) = restL (if 0 ≤ fndS c (l.getD (n : Int).toNat default).1 then putS c (fndS c (l.getD (n : Int).toNat default).1).toNat (l.getD (n : Int).toNat default) else c) (l.drop (n + 1)) := by
 have e : l.drop n = l.getD (n : Int).toNat default :: l.drop (n + 1) := by rw [List.drop_eq_getElem_cons h]; simp [List.getD, List.getElem?_eq_getElem h]
 rw [e, restL]
theorem runOp_same {d : DbT} {o : OpT} (h : (runOp d o).2.2 = false) : (runOp d o).1 = d := by
 unfold runOp at h ⊢
 split
 ·rfl
 ·rename_i h1
  rw [if_neg h1] at h
  split
  ·rfl
  ·rename_i h2
   rw [if_neg h2] at h; cases h
def tin (t : TxT) (a : Int) : Bool := decide (0 ≤ a) && decide (a ≤ (t.2.1.length : Int) - 1)
def opOf (t : TxT) : OpT := t.2.1.getD (t.2.2.1).toNat default
def stpBad (q : List TxT) (i : Int) : Bool := (decide (i < 0) || decide ((q.length : Int) ≤ i)) || !decide ((q.getD i.toNat default).2.2.2.1 = 1)
def stepAt (d : DbT) (q : List TxT) (n : Nat) (t : TxT) : DbT × List TxT × Bool :=
 if tin t t.2.2.1 = true then
  if (runOp d (opOf t)).2.2 = true then ((runOp d (opOf t)).1, q.set n (if tin t (t.2.2.1 + 1) = true then (t.1, t.2.1, t.2.2.1 + 1, t.2.2.2.1, t.2.2.2.2) else (t.1, t.2.1, t.2.2.1 + 1, 2, [])), true)
  else (restL d t.2.2.2.2, q.set n (t.1, t.2.1, t.2.2.1 + 1, 3, []), true)
 else (d, q.set n (t.1, t.2.1, t.2.2.1, 2, []), true)
def stepTx (d : DbT) (q : List TxT) (i : Int) : DbT × List TxT × Bool := if stpBad q i = true then (d, q, false) else stepAt d q i.toNat (q.getD i.toNat default)
theorem st_bad2 (q : List TxT) (i : Int) : (!(decide (0 ≤ i) && decide (i ≤ (q.length : Int) - 1)) || !decide ((q.getD i.toNat default).2.2.2.1 = 1)) = stpBad q i := by
 unfold stpBad
 congr 1
 by_cases h1 : 0 ≤ i <;> by_cases h2 : i ≤ (q.length : Int) - 1
 ·simp [h1, h2, show ¬ i < 0 by omega, show ¬ (q.length : Int) ≤ i by omega]
 ·simp [h1, h2, show (q.length : Int) ≤ i by omega]
 ·simp [h1, show i < 0 by omega]
 ·simp [h1, show i < 0 by omega]
theorem st_good {q : List TxT} {i : Int} (h : stpBad q i = false) : 0 ≤ i ∧ i < (q.length : Int) ∧ (q.getD i.toNat default).2.2.2.1 = 1 := by
 unfold stpBad at h
 simp only [Bool.or_eq_false_iff, decide_eq_false_iff_not, Bool.not_eq_false', decide_eq_true_eq] at h
 omega
section
variable {d : DbT} {q : List TxT} {i : Int} {t : TxT}
theorem step_bad (h : stpBad q i = true) : stepTx d q i = (d, q, false) := by rw [stepTx, if_pos h]
theorem step_at (h : stpBad q i = false) (ht : t = q.getD i.toNat default) : stepTx d q i = stepAt d q i.toNat t := by rw [stepTx, if_neg (by rw [h]; simp), ht]
theorem step_no (h : stpBad q i = false) (ht : t = q.getD i.toNat default) (h1 : tin t t.2.2.1 = false) : stepTx d q i = (d, q.set i.toNat (t.1, t.2.1, t.2.2.1, 2, []), true) := by rw [step_at h ht, stepAt, if_neg (by rw [h1]; simp)]
theorem step_fail (h : stpBad q i = false) (ht : t = q.getD i.toNat default) (h1 : tin t t.2.2.1 = true) (h2 : (runOp d (opOf t)).2.2 = false) : stepTx d q i = (restL d t.2.2.2.2, q.set i.toNat (t.1, t.2.1, t.2.2.1 + 1, 3, []), true) := by rw [step_at h ht, stepAt, if_pos h1, if_neg (by rw [h2]; simp)]
theorem step_go (h : stpBad q i = false) (ht : t = q.getD i.toNat default) (h1 : tin t t.2.2.1 = true) (h2 : (runOp d (opOf t)).2.2 = true) (h3 : tin t (t.2.2.1 + 1) = true) : stepTx d q i = ((runOp d (opOf t)).1, q.set i.toNat (t.1, t.2.1, t.2.2.1 + 1, t.2.2.2.1, t.2.2.2.2), true) := by rw [step_at h ht, stepAt, if_pos h1, if_pos h2, if_pos h3]
theorem step_end (h : stpBad q i = false) (ht : t = q.getD i.toNat default) (h1 : tin t t.2.2.1 = true) (h2 : (runOp d (opOf t)).2.2 = true) (h3 : tin t (t.2.2.1 + 1) = false) : stepTx d q i = ((runOp d (opOf t)).1, q.set i.toNat (t.1, t.2.1, t.2.2.1 + 1, 2, []), true) := by rw [step_at h ht, stepAt, if_pos h1, if_pos h2, if_neg (by rw [h3]; simp)]
theorem tin_bd {a : Int} (h : tin t a = true) : 0 ≤ a ∧ a < (t.2.1.length : Int) := by
 unfold tin at h
 simp only [Bool.and_eq_true, decide_eq_true_eq] at h
 omega
theorem tin_y {a : Int} (h1 : t.2.2.2.1 = 1) (h : (decide (t.2.2.2.1 = 1) && !(decide (0 ≤ a) && decide (a ≤ (t.2.1.length : Int) - 1))) = true) : tin t a = false := by
 rw [h1] at h
 unfold tin
 simpa only [decide_true, Bool.true_and, Bool.not_eq_true'] using h
theorem tin_n {a : Int} (h1 : t.2.2.2.1 = 1) (h : (decide (t.2.2.2.1 = 1) && !(decide (0 ≤ a) && decide (a ≤ (t.2.1.length : Int) - 1))) = false) : tin t a = true := by
 rw [h1] at h
 unfold tin
 simpa only [decide_true, Bool.true_and, Bool.not_eq_false'] using h
theorem tx_w (h : i.toNat < q.length) (ht : t = q.getD i.toNat default) : wTx t ≤ wList wTx q := by
 have h1 := (wSum_succ wTx q i.toNat h).1
 have h2 := wSum_le wTx q (i.toNat + 1)
 have h3 : wList wTx q = q.length + wSum wTx q := rfl
 have e : q.getD ((i.toNat : Nat) : Int).toNat default = t := by rw [ht]; congr 1
 rw [e] at h1
 omega
end

theorem ok_spec_l10Restore {d : DbT} {l : List StoreT} (hb : wDatabase d ≤ 549755813888) (hl : wList wStore l ≤ 549755813888) : KFn Try.prog 52 [.agg [(.dv [] (.str (d.1))), (.dv [] (.int .i64 (d.2.1))), (.dv [] (storesD (d.2.2.1))), (.dv [] (defsD (d.2.2.2)))], .one (.dv [] (storesD (l)))] (.agg [(.dv [] (.str ((restL d l).1))), (.dv [] (.int .i64 ((restL d l).2.1))), (.key 90031), (.key 90900)]) [(90031, some (kcOf false (storesD ((restL d l).2.2.1)))), (90900, some (kcOf false (defsD ((restL d l).2.2.2))))] := by
 refine ⟨fn_intro Try.func52 rfl Try.ntmps52 Try.results52 rfl (fun C => ?_)⟩
 have hwl : wList wStore l = l.length + wSum wStore l := rfl
 refine yF 0 0 rfl rfl fun f0_0 => ?_
 refine yF 0 1 rfl rfl fun f0_1 => ?_
 refine yF 0 2 rfl rfl fun f0_2 => ?_
 refine yF 0 3 rfl rfl fun f0_3 => ?_
 refine ok_fact (x := .tmp 1) (ev_tmp rfl) fun f1 => ?_
 iterate 6 refine z ?_
 refine zK 90000 Try.call50 ?_ (hf := ok_spec_l8Copy (x := d) (by omega))
 iterate 8 refine z ?_
 refine ok_loop (ι := Nat × DbT) (fun zz => ⟨[(1, .one (.dv [] (storesD (l)))), (4, .box 4 0), (5, .box 5 0), (6, .one (.dv [] (.int .i64 ((zz.1 : Int)))))], [(2, 41, [(.dv [] (.str (d.1))), (.dv [] (.int .i64 (d.2.1))), (.dv [] (storesD (d.2.2.1))), (.dv [] (defsD (d.2.2.2)))]), (4, 41, [(.dv [] (.str (ByteArray.empty))), (.dv [] (.int .i64 (0))), .nil, .nil]), (5, 41, [(.dv [] (.str (zz.2.1))), (.dv [] (.int .i64 (zz.2.2.1))), (.key 90031), (.key 90900)])], [(90031, some (kcOf false (.sl 83 3 (zz.2.2.2.1.length) (zz.2.2.2.1.flatMap eStore)))), (90900, some (kcOf false (.sl 101 2 (zz.2.2.2.2.length) (zz.2.2.2.2.flatMap eDef))))]⟩) (fun zz => zz.1 ≤ l.length ∧ restL d l = restL zz.2 (l.drop zz.1)) (fun zz => l.length - zz.1) ((0, d)) ?_ (weak_sub ⟨rfl, rfl, rfl, rfl, trivial⟩ ⟨rfl, rfl, rfl, trivial⟩ ⟨rfl, rfl, trivial⟩ rfl) (fun zz hx => ?_)
 ·exact ⟨Nat.zero_le _, by simp⟩
 obtain ⟨n, c⟩ := zz
 replace hx : n ≤ l.length ∧ restL d l = restL c (l.drop n) := hx
 obtain ⟨hn, hi⟩ := hx
 have hw := fun h => wSum_succ wStore l n h
 have hwle := wSum_le wStore l (n + 1)
 show Ok _ _ _ _ _ (⟨[(1, .one (.dv [] (storesD (l)))), (4, .box 4 0), (5, .box 5 0), (6, .one (.dv [] (.int .i64 ((n : Int)))))], [(2, 41, [(.dv [] (.str (d.1))), (.dv [] (.int .i64 (d.2.1))), (.dv [] (storesD (d.2.2.1))), (.dv [] (defsD (d.2.2.2)))]), (4, 41, [(.dv [] (.str (ByteArray.empty))), (.dv [] (.int .i64 (0))), .nil, .nil]), (5, 41, [(.dv [] (.str (c.1))), (.dv [] (.int .i64 (c.2.1))), (.key 90031), (.key 90900)])], [(90031, some (kcOf false (.sl 83 3 (c.2.2.1.length) (c.2.2.1.flatMap eStore)))), (90900, some (kcOf false (.sl 101 2 (c.2.2.2.length) (c.2.2.2.flatMap eDef))))]⟩ : St)
 iterate 7 refine z ?_
 refine yQ rfl (fun c1 => ?_) fun c1 => ?_
 ·skip
  have d1 := of_decide_eq_true c1
  have hn2 : n < l.length := by omega
  obtain ⟨hw1, hw2⟩ := hw hn2
  have hrs := rest_step (c := c) hn2
  iterate 4 refine z ?_
  refine ok_seq ?_
  refine ok_regionD (oB := [2, 4, 5]) (oK := [90031, 90900]) (by kernel_rfl) rfl rfl ?_
  refine zD 0 ?_
  refine zD 1 ?_
  refine zD 2 ?_
  refine zD 3 ?_
  refine zD 4 ?_
  refine zD 5 ?_
  refine d_call 6 rfl (by kernel_rfl) rfl rfl rfl Try.call48 (ok_spec_FindStore (x := c) (n := (l.getD (n : Int).toNat default).1)) (as_cons (ev_tmp rfl) (ag_agg (ag_cons ac_dv (ag_cons ac_dv (ag_cons (ac_key' rfl rfl) (ag_cons (ac_key' rfl rfl) ag_nil))))) (as_cons (ev_tmp rfl) (ag_one ac_dv) as_nil)) rfl rfl rfl rfl ?_
  refine zD 7 ?_
  refine d_done (by kernel_rfl) ?_
  iterate 5 refine z ?_
  refine yQ rfl (fun c2 => ?_) fun c2 => ?_
  ·skip
   have d2 := of_decide_eq_true c2
   have hlt : (findI (hasName (l.getD (n : Int).toNat default).1) c.2.2.1 0) < c.2.2.1.length := fndS_lt c (l.getD (n : Int).toNat default).1
   have hkn : (findI (hasName (l.getD (n : Int).toNat default).1) c.2.2.1 0).toNat < c.2.2.1.length := by omega
   rw [if_pos (show 0 ≤ fndS c (l.getD (n : Int).toNat default).1 from d2)] at hrs
   refine ok_regionD (oB := [2, 4, 5]) (oK := [90031, 90900]) (by kernel_rfl) rfl rfl ?_
   refine zD 0 ?_
   refine zD 1 ?_
   refine zD 2 ?_
   refine zD 3 ?_
   refine zD 4 ?_
   refine zD 5 ?_
   refine zD 6 ?_
   refine d_callK 96970 7 rfl (by kernel_rfl) rfl rfl rfl Try.call49 (ok_spec_l6Copy (x := (l.getD (n : Int).toNat default)) (by omega)) (as_cons (ev_tmp rfl) (ag_agg (ag_cons ac_dv (ag_cons ac_dv (ag_cons ac_dv ag_nil)))) as_nil) rfl rfl rfl rfl rfl ?_
   refine d_take 8 rfl (by kernel_rfl) rfl rfl (pu_indexK (i := (findI (hasName ((l.getD (n : Int).toNat default).1)) (c).2.2.1 0).toNat) hT rfl rfl rfl (ev_tmp rfl) rfl (ev_tmp rfl) (by omega) (by show _ < (c.2.2.1.length); omega)) rfl rfl rfl rfl ?_
   refine d_chain [9] rfl rfl (by kernel_rfl) ?_
   refine o_storeE (js := [97000]) (cs := (c.2.2.1.set (findI (hasName (l.getD (n : Int).toNat default).1) c.2.2.1 0).toNat (l.getD (n : Int).toNat default)).flatMap eStore) hT rfl rfl rfl rfl (ev_tmp rfl) (ev_tmp rfl) rfl rfl rfl rfl (ow_cons' (ow_dv rfl) (ow_cons' (ow_key rfl) (ow_cons' (ow_dv rfl) ow_nil rfl) rfl) rfl) (by decide) (by decide) rfl (by show _ ≤ List.length (c.2.2.1.flatMap eStore); exact el_le (enc := eStore) (sz := 3) (fun _ => rfl) hkn) (el_set (enc := eStore) (sz := 3) (fun _ => rfl) hkn (l.getD (n : Int).toNat default)) ?_
   simp only [killT, killB, SV.kill, CV.kill, kk, Nat.reduceBEq]
   refine ops_nil ?_
   iterate 2 refine z ?_
   refine ok_region ?_
   iterate 4 refine z ?_
   refine ⟨(n + 1, putS c (findI (hasName (l.getD (n : Int).toNat default).1) c.2.2.1 0).toNat (l.getD (n : Int).toNat default)), ?_, ?_, weak_sub ⟨rfl, rfl, rfl, rfl, trivial⟩ ⟨rfl, rfl, rfl, trivial⟩ ⟨(congrArg (fun m => some (some (KC.mk false 83 3 m ((c.2.2.1.set (findI (hasName (l.getD (n : Int).toNat default).1) c.2.2.1 0).toNat (l.getD (n : Int).toNat default)).flatMap eStore)))) (List.length_set).symm), rfl, trivial⟩ rfl⟩
   ·exact ⟨hn2, by rw [hi]; exact hrs⟩
   ·dsimp only; omega
  ·skip
   have d2 := of_decide_eq_false c2
   rw [if_neg (show ¬ 0 ≤ fndS c (l.getD (n : Int).toNat default).1 from d2)] at hrs
   iterate 3 refine z ?_
   refine ok_region ?_
   iterate 4 refine z ?_
   refine ⟨(n + 1, c), ?_, ?_, weak_sub ⟨rfl, rfl, rfl, rfl, trivial⟩ ⟨rfl, rfl, rfl, trivial⟩ ⟨rfl, rfl, trivial⟩ rfl⟩
   ·exact ⟨hn2, by rw [hi]; exact hrs⟩
   ·dsimp only; omega
 ·skip
  have d1 := of_decide_eq_false c1
  iterate 9 refine z ?_
  have hfin : restL d l = c := by rw [hi, List.drop_of_length_le (by omega)]; rfl
  rw [hfin]
  refine ok_weak (σ' := ⟨[(4, .box 4 0)], [(4, 41, [(.dv [] (.str (c.1))), (.dv [] (.int .i64 (c.2.1))), (.key 90031), (.key 90900)])], [(90031, some (kcOf false (storesD (c.2.2.1)))), (90900, some (kcOf false (defsD (c.2.2.2))))]⟩) (weak_sub ⟨rfl, trivial⟩ ⟨rfl, trivial⟩ ⟨rfl, rfl, trivial⟩ rfl) ?_
  refine z ?_
  refine fin1 (res_cell hT rfl rfl rfl rfl) ?_
  first | exact ⟨rfl, rfl⟩ | skip
theorem ok_spec_StepTx {d : DbT} {q : List TxT} {i : Int} (hb : wDatabase d ≤ 549755813888) (hq : wList wTx q ≤ 549755813888) : KFn Try.prog 27 [.agg [(.dv [] (.str (d.1))), (.dv [] (.int .i64 (d.2.1))), (.dv [] (storesD (d.2.2.1))), (.dv [] (defsD (d.2.2.2)))], .agg [(.dv [] (txsD (q)))], .one (.dv [] (.int .i64 (i)))] (.tup [(true, [(.dv [] (.str ((stepTx d q i).1.1))), (.dv [] (.int .i64 ((stepTx d q i).1.2.1))), (.key 90031), (.key 90900)]), (true, [(.key 95031)]), (false, [(.dv [] (.bool ((stepTx d q i).2.2)))])]) [(90031, some (kcOf false (storesD ((stepTx d q i).1.2.2.1)))), (90900, some (kcOf false (defsD ((stepTx d q i).1.2.2.2)))), (95031, some (kcOf false (txsD ((stepTx d q i).2.1))))] := by
 refine ⟨fn_intro Try.func27 rfl Try.ntmps27 Try.results27 rfl (fun C => ?_)⟩
 have hwq : wList wTx q = q.length + wSum wTx q := rfl
 obtain ⟨t, ht⟩ : ∃ t, t = q.getD i.toNat default := ⟨_, rfl⟩
 have hwt : wTx t = wList wOp t.2.1 + wList wStore t.2.2.2.2 := rfl
 have hwo : wList wOp t.2.1 = t.2.1.length + wSum wOp t.2.1 := rfl
 have hwb : wList wStore t.2.2.2.2 = t.2.2.2.2.length + wSum wStore t.2.2.2.2 := rfl
 refine yF 0 0 rfl rfl fun f0_0 => ?_
 refine yF 0 1 rfl rfl fun f0_1 => ?_
 refine yF 0 2 rfl rfl fun f0_2 => ?_
 refine yF 0 3 rfl rfl fun f0_3 => ?_
 refine yF 1 0 rfl rfl fun f1_0 => ?_
 refine ok_fact (x := .tmp 2) (ev_tmp rfl) fun f2 => ?_
 iterate 9 refine z ?_
 refine zK 95000 Try.call17 ?_ (hf := ok_spec_l10Copy (x := q) (by omega))
 iterate 10 refine z ?_
 refine zC Try.call36 ?_ (hf := ok_spec_l1In (n := i) (lo := 0) (hi := ((((q)).length : Int)) - (1)) )
 iterate 11 refine z ?_
 refine yQ rfl (fun c1 => ?_) fun c1 => ?_
 ·skip
  have hb1 : stpBad q i = true := by rw [← st_bad2]; exact c1
  refine ok_seq ?_
  refine ok_regionX 6 [0, 1, 2, 3] (oB := [3, 4, 7, 9]) (oK := [95031]) (by kernel_rfl) rfl rfl ?_
  refine x_take 0 rfl (by kernel_rfl) rfl rfl (pu_loadBoxA hT rfl rfl (ev_tmp rfl) rfl rfl) rfl rfl rfl rfl rfl ?_
  refine x_take 2 rfl (by kernel_rfl) rfl rfl (pu_loadBoxA hT rfl rfl (ev_tmp rfl) rfl rfl) rfl rfl rfl rfl rfl ?_
  refine x_callK 90000 1 rfl (by kernel_rfl) rfl rfl rfl Try.call50 (ok_spec_l8Copy (x := d) (by omega)) (as_cons (ev_tmp rfl) (ag_agg (ag_cons ac_dv (ag_cons ac_dv (ag_cons ac_dv (ag_cons ac_dv ag_nil))))) as_nil) rfl rfl rfl rfl rfl rfl ?_
  refine x_store 3 rfl (by kernel_rfl) rfl hT rfl rfl rfl (ev_tmp rfl) (ev_tmp rfl) rfl rfl rfl rfl rfl rfl ?_
  refine x_chain [4, 5] rfl rfl (by kernel_rfl) ?_
  iterate 3 refine z ?_
  rw [step_bad hb1]
  refine ok_weak (σ' := ⟨[(6, .box 6 0), (7, .box 7 0), (8, .one (.dv [] (.bool (false))))], [(6, 41, [(.dv [] (.str ((d).1))), (.dv [] (.int .i64 ((d).2.1))), (.key 90031), (.key 90900)]), (7, 26, [(.key 95031)])], [(90031, some (kcOf false (storesD (d.2.2.1)))), (90900, some (kcOf false (defsD (d.2.2.2)))), (95031, some (kcOf false (txsD (q))))]⟩) (weak_sub ⟨rfl, rfl, rfl, trivial⟩ ⟨rfl, rfl, trivial⟩ ⟨rfl, rfl, rfl, trivial⟩ rfl) ?_
  iterate 2 refine z ?_
  refine fin3 (res_cell hT rfl rfl rfl rfl) (res_cell hT rfl rfl rfl rfl) (res_tmp rfl) rfl rfl rfl ?_
  first | exact ⟨rfl, rfl⟩ | skip
 ·skip
  have hb1 : stpBad q i = false := by rw [← st_bad2]; exact c1
  have hg := st_good hb1
  rw [← ht] at hg
  have hit : i.toNat < q.length := by omega
  have htw := tx_w hit ht
  refine ok_kcs (k := 95031) (cs' := mid ((q.take (i).toNat).flatMap eTx) [.int .i64 (t.1), opsD (t.2.1), .int .i64 (t.2.2.1), .int .i64 (t.2.2.2.1), storesD (t.2.2.2.2)] ((q.drop ((i).toNat + 1)).flatMap eTx)) rfl (flat_open hit ht) ?_
  iterate 4 refine z ?_
  refine zK 90000 Try.call50 ?_ (hf := ok_spec_l8Copy (x := d) (by omega))
  iterate 7 refine z ?_
  refine yO rfl rfl (pu_indexK (i := (i).toNat) hT rfl rfl rfl (ev_tmp rfl) rfl (ev_tmp rfl) (by omega) (by show _ < (((q)).length); omega)) rfl ?_
  refine yO rfl rfl (pu_loadEA (ds := [.int .i64 (t.1), opsD (t.2.1), .int .i64 (t.2.2.1), .int .i64 (t.2.2.2.1), storesD (t.2.2.2.2)]) hT rfl rfl (ev_tmp rfl) rfl rfl (by decide) (sub_mid (off := (i).toNat * 5) (j := 0) (flat_pre (sz := 5) (fun _ => rfl) (Nat.le_of_lt hit)) (by omega) rfl (Nat.le_of_ble_eq_true rfl))) rfl ?_
  iterate 9 refine z ?_
  refine yO rfl rfl (pu_lenV hT rfl rfl (ev_nestv (ev_tmp rfl))) rfl ?_
  refine z ?_
  refine zC Try.call36 ?_ (hf := ok_spec_l1In (n := t.2.2.1) (lo := 0) (hi := ((((t.2.1)).length : Int)) - (1)) )
  refine z ?_
  refine yQ rfl (fun c2 => ?_) fun c2 => ?_
  ·skip
   have hin : tin t t.2.2.1 = true := c2
   have hop := tin_bd hin
   refine ok_cutS (σ' := ⟨[(2, .one (.dv [] (.int .i64 (i)))), (3, .box 3 0), (4, .box 4 0), (6, .box 6 0), (7, .box 7 0), (8, .one (.dv [] (.bool (false)))), (9, .box 9 0), (10, .box 10 0), (11, .box 11 0), (12, .box 12 0), (13, .one (.dv [] (.int .i64 ((runOp (d) ((t.2.1.getD (t.2.2.1).toNat default))).2.1)))), (14, .one (.dv [] (.bool ((runOp (d) ((t.2.1.getD (t.2.2.1).toNat default))).2.2))))], [(3, 41, [(.dv [] (.str (d.1))), (.dv [] (.int .i64 (d.2.1))), (.dv [] (storesD (d.2.2.1))), (.dv [] (defsD (d.2.2.2)))]), (4, 26, [(.dv [] (txsD (q)))]), (6, 41, [(.dv [] (.str (ByteArray.empty))), (.dv [] (.int .i64 (0))), .nil, .nil]), (7, 26, [.nil]), (9, 26, [(.key 95031)]), (10, 41, [(.dv [] (.str ((d).1))), (.dv [] (.int .i64 ((d).2.1))), (.key 90031), (.key 90900)]), (11, 35, [(.dv [] (.int .i64 (t.1))), (.nest 95031 (((i).toNat * 5 + 1)) (opsD (t.2.1))), (.dv [] (.int .i64 (t.2.2.1))), (.dv [] (.int .i64 (t.2.2.2.1))), (.nest 95031 (((i).toNat * 5 + 4)) (storesD (t.2.2.2.2)))]), (12, 41, [(.dv [] (.str ((runOp (d) ((t.2.1.getD (t.2.2.1).toNat default))).1.1))), (.dv [] (.int .i64 ((runOp (d) ((t.2.1.getD (t.2.2.1).toNat default))).1.2.1))), (.key 91031), (.key 91900)])], [(90031, some (kcOf false (storesD ((d).2.2.1)))), (90900, some (kcOf false (defsD ((d).2.2.2)))), (91031, some (kcOf false (storesD ((runOp (d) ((t.2.1.getD (t.2.2.1).toNat default))).1.2.2.1)))), (91900, some (kcOf false (defsD ((runOp (d) ((t.2.1.getD (t.2.2.1).toNat default))).1.2.2.2)))), (95031, some (kcOf false (.sl 35 5 (((q)).length) (mid ((q.take (i).toNat).flatMap eTx) [.int .i64 (t.1), opsD (t.2.1), .int .i64 (t.2.2.1), .int .i64 (t.2.2.2.1), storesD (t.2.2.2.2)] ((q.drop ((i).toNat + 1)).flatMap eTx)))))]⟩) ?_ ?_
   ·skip
    refine ok_regionD (oB := [3, 4, 6, 7, 9, 10, 11]) (oK := [90031, 90900, 95031]) (by kernel_rfl) rfl rfl ?_
    refine zD 0 ?_
    refine zD 1 ?_
    refine zD 2 ?_
    refine zD 3 ?_
    refine zD 4 ?_
    refine d_take 5 rfl (by kernel_rfl) rfl rfl (pu_indexD hT rfl rfl rfl (ev_nestv (ev_tmp rfl)) (ev_tmp rfl) (fun _ => rfl) (by omega) (by omega)) rfl rfl rfl rfl ?_
    refine zD 6 ?_
    refine d_vars (A := [(12, 12, 41, _)]) hT ⟨⟨_, _, rfl⟩, rfl, trivial⟩ ?_
    refine a_callK 1000 7 rfl (by kernel_rfl) rfl rfl rfl (vok hT ⟨⟨_, _, rfl⟩, rfl, trivial⟩ (by kernel_rfl) (by kernel_rfl)) (vok hT ⟨⟨_, _, rfl⟩, rfl, trivial⟩ (by kernel_rfl) (by kernel_rfl)) rfl Try.call51 (ok_spec_RunOp (d := d) (o := (t.2.1.getD (t.2.2.1).toNat default)) (by omega)) (as_cons (ev_tmp rfl) (ag_agg (ag_cons ac_dv (ag_cons ac_dv (ag_cons ac_dv (ag_cons ac_dv ag_nil))))) (as_cons (ev_tmp rfl) (ag_agg (ag_cons ac_dv (ag_cons ac_dv (ag_cons ac_dv (ag_cons ac_dv (ag_cons ac_dv (ag_cons ac_dv (ag_cons ac_dv ag_nil)))))))) as_nil)) rfl rfl rfl rfl rfl ?_
    refine a_take 8 rfl (by kernel_rfl) rfl rfl rfl (vok hT ⟨⟨_, _, rfl⟩, rfl, trivial⟩ (by kernel_rfl) (by kernel_rfl)) (vok hT ⟨⟨_, _, rfl⟩, rfl, trivial⟩ (by kernel_rfl) (by kernel_rfl)) (pu_move (.inl rfl) (ev_tmp rfl)) rfl rfl rfl rfl ?_
    refine a_takeX 9 rfl (by kernel_rfl) rfl rfl rfl rfl (vok hT ⟨⟨_, _, rfl⟩, rfl, trivial⟩ (by kernel_rfl) (by kernel_rfl)) (vok hT ⟨⟨_, _, rfl⟩, rfl, trivial⟩ (by kernel_rfl) (by kernel_rfl)) (pu_extractA rfl (ev_tmp rfl) rfl) rfl rfl ?_
    refine a_takeX 10 rfl (by kernel_rfl) rfl rfl rfl rfl (vok hT ⟨⟨_, _, rfl⟩, rfl, trivial⟩ (by kernel_rfl) (by kernel_rfl)) (vok hT ⟨⟨_, _, rfl⟩, rfl, trivial⟩ (by kernel_rfl) (by kernel_rfl)) (pu_extract1 rfl (ev_tmp rfl) rfl) rfl rfl ?_
    refine a_takeX 11 rfl (by kernel_rfl) rfl rfl rfl rfl (vok hT ⟨⟨_, _, rfl⟩, rfl, trivial⟩ (by kernel_rfl) (by kernel_rfl)) (vok hT ⟨⟨_, _, rfl⟩, rfl, trivial⟩ (by kernel_rfl) (by kernel_rfl)) (pu_extract1 rfl (ev_tmp rfl) rfl) rfl rfl ?_
    refine a_exit1 (vok hT ⟨⟨_, _, rfl⟩, rfl, trivial⟩ (by kernel_rfl) (by kernel_rfl)) rfl rfl (by kernel_rfl) ?_
    dsimp only [addT, addB]
    refine d_chain [13, 14, 15] rfl rfl (by kernel_rfl) ?_
    iterate 3 refine z ?_
    refine ops_nil ?_
    exact then_n (weak_sub ⟨rfl, rfl, rfl, rfl, rfl, rfl, rfl, rfl, rfl, rfl, rfl, rfl, trivial⟩ ⟨rfl, rfl, rfl, rfl, rfl, rfl, rfl, rfl, trivial⟩ ⟨rfl, rfl, rfl, rfl, rfl, trivial⟩ rfl)
   iterate 4 refine z ?_
   refine ok_seq ?_
   refine ok_weak (weak_swapB (b := 10) (i := 2) (k := 91031) (k' := 90031) rfl rfl rfl rfl (by simp) rfl rfl) ?_
   simp only [killT, killB, SV.kill, CV.kill, kk, Nat.reduceBEq]
   refine ok_weak (weak_swapB (b := 10) (i := 3) (k := 91900) (k' := 90900) rfl rfl rfl rfl (by simp) rfl rfl) ?_
   simp only [killT, killB, SV.kill, CV.kill, kk, Nat.reduceBEq]
   refine ok_region ?_
   iterate 10 refine z ?_
   refine yQ rfl (fun c3 => ?_) fun c3 => ?_
   ·skip
    have hok : (runOp d (t.2.1.getD (t.2.2.1).toNat default)).2.2 = false := by simpa using c3
    iterate 4 refine z ?_
    refine zK 2000 Try.call52 ?_ (hf := ok_spec_l10Restore (d := d) (l := t.2.2.2.2) (by omega) (by omega))
    iterate 2 refine z ?_
    refine ok_weak (weak_swapB (b := 10) (i := 2) (k := 92031) (k' := 90031) rfl rfl rfl rfl (by simp) rfl rfl) ?_
    simp only [killT, killB, SV.kill, CV.kill, kk, Nat.reduceBEq]
    refine ok_region ?_
    refine z ?_
    refine o_store hT rfl rfl rfl rfl (ev_tmp rfl) (ev_int (inR_lit rfl)) rfl rfl rfl rfl rfl rfl ?_
    refine z ?_
    refine ok_seq ?_
    refine ok_seq ?_
    refine ok_weak (weak_swapB (b := 10) (i := 3) (k := 92900) (k' := 90900) rfl rfl rfl rfl (by simp) rfl rfl) ?_
    simp only [killT, killB, SV.kill, CV.kill, kk, Nat.reduceBEq]
    refine ok_region ?_
    iterate 8 refine z ?_
    refine o_pureG (gd_bool rfl rfl rfl rfl rfl) rfl (fun hg => pu_lenV hT rfl rfl (ev_nestv (ev_opt rfl hg))) rfl rfl ?_
    refine z ?_
    refine o_callG (gd_bool rfl rfl rfl rfl rfl) rfl rfl Try.call36 (ok_spec_l1In (n := (t.2.2.1) + (1)) (lo := 0) (hi := ((((t.2.1)).length : Int)) - (1)) ) (fun hg => (as_cons (ev_opt rfl hg) (ag_one ac_dv) (as_cons (ev_int (inR_lit rfl)) (ag_one ac_dv) (as_cons (ev_opt rfl hg) (ag_one ac_dv) as_nil)))) rfl rfl ?_
    iterate 3 refine z ?_
    refine yQ rfl (fun c4 => ?_) fun c4 => ?_
    ·skip
     exact absurd c4 (by simp)
    ·skip
     iterate 8 refine z ?_
     refine yQ rfl (fun c5 => ?_) fun c5 => ?_
     ·skip
      have d5 := nd_t c5
      refine ok_region ?_
      refine z ?_
      refine o_store hT rfl rfl rfl rfl (ev_tmp rfl) ev_nil rfl rfl rfl rfl rfl rfl ?_
      iterate 6 refine z ?_
      refine yO rfl rfl (pu_indexK (i := (i).toNat) hT rfl rfl rfl (ev_tmp rfl) rfl (ev_tmp rfl) (by omega) (by show _ < (((q)).length); omega)) rfl ?_
      refine o_put (d0s := [.int .i64 (t.1), opsD (t.2.1), .int .i64 (t.2.2.1), .int .i64 (t.2.2.2.1), storesD (t.2.2.2.2)]) (ds := [.int .i64 (t.1), opsD (t.2.1), .int .i64 ((t.2.2.1) + (1)), .int .i64 (3), .sl 83 3 0 []]) (cs := mid ((q.take (i).toNat).flatMap eTx) [.int .i64 (t.1), opsD (t.2.1), .int .i64 ((t.2.2.1) + (1)), .int .i64 (3), .sl 83 3 0 []] ((q.drop ((i).toNat + 1)).flatMap eTx)) hT rfl rfl rfl rfl (ev_tmp rfl) (ev_tmp rfl) rfl rfl rfl rfl (put_own (ow_dv rfl) (put_nest (put_own (ow_dv rfl) (put_own (ow_dv rfl) (put_own (ow_nilc (e := 83) (sz := 3) rfl) put_nil))) rfl)) rfl (sub_mid (off := (i).toNat * 5) (j := 0) (flat_pre (sz := 5) (fun _ => rfl) (Nat.le_of_lt hit)) (by omega) rfl (Nat.le_of_ble_eq_true rfl)) (le_mid (off := (i).toNat * 5) (n := 5) (j := 0) (flat_pre (sz := 5) (fun _ => rfl) (Nat.le_of_lt hit)) (by omega) (Nat.le_of_ble_eq_true rfl)) (setR_mid (off := (i).toNat * 5) (j := 0) (flat_pre (sz := 5) (fun _ => rfl) (Nat.le_of_lt hit)) (by omega) rfl (Nat.le_of_ble_eq_true rfl)) ?_
      simp only [killT, killB, SV.kill, CV.kill, kk, Nat.reduceBEq]
      refine z ?_
      refine ok_seq ?_
      refine ok_regionW 6 (oB := [3, 4, 7, 9, 10, 11, 12]) (oK := [90031, 90900, 95031]) (by kernel_rfl) rfl rfl ?_
      refine w_take 0 rfl (by kernel_rfl) rfl rfl (pu_loadBoxA hT rfl rfl (ev_tmp rfl) rfl rfl) rfl rfl rfl rfl rfl ?_
      refine w_take 1 rfl (by kernel_rfl) rfl rfl (pu_loadBoxA hT rfl rfl (ev_tmp rfl) rfl rfl) rfl rfl rfl rfl rfl ?_
      refine w_store 2 rfl (by kernel_rfl) rfl hT rfl rfl rfl (ev_tmp rfl) (ev_tmp rfl) rfl rfl rfl rfl rfl rfl ?_
      refine w_chain [3, 4] rfl rfl (by kernel_rfl) ?_
      iterate 3 refine z ?_
      rw [step_fail hb1 ht hin hok]
      refine ok_weak (σ' := ⟨[(6, .box 6 0), (7, .box 7 0), (8, .one (.dv [] (.bool (true))))], [(6, 41, [(.dv [] (.str ((restL (d) (t.2.2.2.2)).1))), (.dv [] (.int .i64 ((restL (d) (t.2.2.2.2)).2.1))), (.key 90031), (.key 90900)]), (7, 26, [(.key 95031)])], [(90031, some (kcOf false (storesD ((restL d t.2.2.2.2).2.2.1)))), (90900, some (kcOf false (defsD ((restL d t.2.2.2.2).2.2.2)))), (95031, some (kcOf false (txsD (q.set (i).toNat (t.1, t.2.1, t.2.2.1 + 1, (3 : Int), ([] : List StoreT))))))]⟩) (weak_sub ⟨rfl, rfl, rfl, trivial⟩ ⟨rfl, rfl, trivial⟩ ⟨rfl, rfl, (fin_set hit (t.1, t.2.1, t.2.2.1 + 1, (3 : Int), ([] : List StoreT))), trivial⟩ rfl) ?_
      refine z ?_
      refine fin3 (res_cell hT rfl rfl rfl rfl) (res_cell hT rfl rfl rfl rfl) (res_tmp rfl) rfl rfl rfl ?_
      first | exact ⟨rfl, rfl⟩ | skip
     ·skip
      exact absurd c5 (by simp)
   ·skip
    have hok : (runOp d (t.2.1.getD (t.2.2.1).toNat default)).2.2 = true := by simpa using c3
    iterate 12 refine z ?_
    refine o_pureG (gd_bool rfl rfl rfl rfl rfl) rfl (fun hg => pu_lenV hT rfl rfl (ev_nestv (ev_opt rfl hg))) rfl rfl ?_
    refine z ?_
    refine o_callG (gd_bool rfl rfl rfl rfl rfl) rfl rfl Try.call36 (ok_spec_l1In (n := (t.2.2.1) + (1)) (lo := 0) (hi := ((((t.2.1)).length : Int)) - (1)) ) (fun hg => (as_cons (ev_opt rfl hg) (ag_one ac_dv) (as_cons (ev_int (inR_lit rfl)) (ag_one ac_dv) (as_cons (ev_opt rfl hg) (ag_one ac_dv) as_nil)))) rfl rfl ?_
    iterate 3 refine z ?_
    refine yQ rfl (fun c6 => ?_) fun c6 => ?_
    ·skip
     refine ok_region ?_
     refine z ?_
     refine o_store hT rfl rfl rfl rfl (ev_tmp rfl) (ev_int (inR_lit rfl)) rfl rfl rfl rfl rfl rfl ?_
     iterate 7 refine z ?_
     refine yQ rfl (fun c7 => ?_) fun c7 => ?_
     ·skip
      have d7 := nd_t c7
      refine ok_region ?_
      refine z ?_
      refine o_store hT rfl rfl rfl rfl (ev_tmp rfl) ev_nil rfl rfl rfl rfl rfl rfl ?_
      iterate 6 refine z ?_
      refine yO rfl rfl (pu_indexK (i := (i).toNat) hT rfl rfl rfl (ev_tmp rfl) rfl (ev_tmp rfl) (by omega) (by show _ < (((q)).length); omega)) rfl ?_
      refine o_put (d0s := [.int .i64 (t.1), opsD (t.2.1), .int .i64 (t.2.2.1), .int .i64 (t.2.2.2.1), storesD (t.2.2.2.2)]) (ds := [.int .i64 (t.1), opsD (t.2.1), .int .i64 ((t.2.2.1) + (1)), .int .i64 (2), .sl 83 3 0 []]) (cs := mid ((q.take (i).toNat).flatMap eTx) [.int .i64 (t.1), opsD (t.2.1), .int .i64 ((t.2.2.1) + (1)), .int .i64 (2), .sl 83 3 0 []] ((q.drop ((i).toNat + 1)).flatMap eTx)) hT rfl rfl rfl rfl (ev_tmp rfl) (ev_tmp rfl) rfl rfl rfl rfl (put_own (ow_dv rfl) (put_nest (put_own (ow_dv rfl) (put_own (ow_dv rfl) (put_own (ow_nilc (e := 83) (sz := 3) rfl) put_nil))) rfl)) rfl (sub_mid (off := (i).toNat * 5) (j := 0) (flat_pre (sz := 5) (fun _ => rfl) (Nat.le_of_lt hit)) (by omega) rfl (Nat.le_of_ble_eq_true rfl)) (le_mid (off := (i).toNat * 5) (n := 5) (j := 0) (flat_pre (sz := 5) (fun _ => rfl) (Nat.le_of_lt hit)) (by omega) (Nat.le_of_ble_eq_true rfl)) (setR_mid (off := (i).toNat * 5) (j := 0) (flat_pre (sz := 5) (fun _ => rfl) (Nat.le_of_lt hit)) (by omega) rfl (Nat.le_of_ble_eq_true rfl)) ?_
      simp only [killT, killB, SV.kill, CV.kill, kk, Nat.reduceBEq]
      refine z ?_
      refine ok_seq ?_
      refine ok_regionW 6 (oB := [3, 4, 7, 9, 10, 11, 12]) (oK := [90031, 90900, 95031]) (by kernel_rfl) rfl rfl ?_
      refine w_take 0 rfl (by kernel_rfl) rfl rfl (pu_loadBoxA hT rfl rfl (ev_tmp rfl) rfl rfl) rfl rfl rfl rfl rfl ?_
      refine w_take 1 rfl (by kernel_rfl) rfl rfl (pu_loadBoxA hT rfl rfl (ev_tmp rfl) rfl rfl) rfl rfl rfl rfl rfl ?_
      refine w_store 2 rfl (by kernel_rfl) rfl hT rfl rfl rfl (ev_tmp rfl) (ev_tmp rfl) rfl rfl rfl rfl rfl rfl ?_
      refine w_chain [3, 4] rfl rfl (by kernel_rfl) ?_
      iterate 3 refine z ?_
      rw [step_end hb1 ht hin hok (tin_y hg.2.2 c6)]
      refine ok_weak (σ' := ⟨[(6, .box 6 0), (7, .box 7 0), (8, .one (.dv [] (.bool (true))))], [(6, 41, [(.dv [] (.str ((runOp (d) ((t.2.1.getD (t.2.2.1).toNat default))).1.1))), (.dv [] (.int .i64 ((runOp (d) ((t.2.1.getD (t.2.2.1).toNat default))).1.2.1))), (.key 90031), (.key 90900)]), (7, 26, [(.key 95031)])], [(90031, some (kcOf false (storesD ((runOp d (t.2.1.getD (t.2.2.1).toNat default)).1.2.2.1)))), (90900, some (kcOf false (defsD ((runOp d (t.2.1.getD (t.2.2.1).toNat default)).1.2.2.2)))), (95031, some (kcOf false (txsD (q.set (i).toNat (t.1, t.2.1, t.2.2.1 + 1, (2 : Int), ([] : List StoreT))))))]⟩) (weak_sub ⟨rfl, rfl, rfl, trivial⟩ ⟨rfl, rfl, trivial⟩ ⟨rfl, rfl, (fin_set hit (t.1, t.2.1, t.2.2.1 + 1, (2 : Int), ([] : List StoreT))), trivial⟩ rfl) ?_
      refine z ?_
      refine fin3 (res_cell hT rfl rfl rfl rfl) (res_cell hT rfl rfl rfl rfl) (res_tmp rfl) rfl rfl rfl ?_
      first | exact ⟨rfl, rfl⟩ | skip
     ·skip
      exact absurd c7 (by simp)
    ·skip
     iterate 8 refine z ?_
     refine yQ rfl (fun c8 => ?_) fun c8 => ?_
     ·skip
      exact absurd c8 (by rw [hg.2.2]; simp)
     ·skip
      have d8 := nd_f c8
      iterate 7 refine z ?_
      refine yO rfl rfl (pu_indexK (i := (i).toNat) hT rfl rfl rfl (ev_tmp rfl) rfl (ev_tmp rfl) (by omega) (by show _ < (((q)).length); omega)) rfl ?_
      refine o_put (d0s := [.int .i64 (t.1), opsD (t.2.1), .int .i64 (t.2.2.1), .int .i64 (t.2.2.2.1), storesD (t.2.2.2.2)]) (ds := [.int .i64 (t.1), opsD (t.2.1), .int .i64 ((t.2.2.1) + (1)), .int .i64 (t.2.2.2.1), storesD (t.2.2.2.2)]) (cs := mid ((q.take (i).toNat).flatMap eTx) [.int .i64 (t.1), opsD (t.2.1), .int .i64 ((t.2.2.1) + (1)), .int .i64 (t.2.2.2.1), storesD (t.2.2.2.2)] ((q.drop ((i).toNat + 1)).flatMap eTx)) hT rfl rfl rfl rfl (ev_tmp rfl) (ev_tmp rfl) rfl rfl rfl rfl (put_own (ow_dv rfl) (put_nest (put_own (ow_dv rfl) (put_own (ow_dv rfl) (put_nest put_nil rfl))) rfl)) rfl (sub_mid (off := (i).toNat * 5) (j := 0) (flat_pre (sz := 5) (fun _ => rfl) (Nat.le_of_lt hit)) (by omega) rfl (Nat.le_of_ble_eq_true rfl)) (le_mid (off := (i).toNat * 5) (n := 5) (j := 0) (flat_pre (sz := 5) (fun _ => rfl) (Nat.le_of_lt hit)) (by omega) (Nat.le_of_ble_eq_true rfl)) (setR_mid (off := (i).toNat * 5) (j := 0) (flat_pre (sz := 5) (fun _ => rfl) (Nat.le_of_lt hit)) (by omega) rfl (Nat.le_of_ble_eq_true rfl)) ?_
      simp only [killT, killB, SV.kill, CV.kill, kk, Nat.reduceBEq]
      refine z ?_
      refine ok_seq ?_
      refine ok_regionW 6 (oB := [3, 4, 7, 9, 10, 11, 12]) (oK := [90031, 90900, 95031]) (by kernel_rfl) rfl rfl ?_
      refine w_take 0 rfl (by kernel_rfl) rfl rfl (pu_loadBoxA hT rfl rfl (ev_tmp rfl) rfl rfl) rfl rfl rfl rfl rfl ?_
      refine w_take 1 rfl (by kernel_rfl) rfl rfl (pu_loadBoxA hT rfl rfl (ev_tmp rfl) rfl rfl) rfl rfl rfl rfl rfl ?_
      refine w_store 2 rfl (by kernel_rfl) rfl hT rfl rfl rfl (ev_tmp rfl) (ev_tmp rfl) rfl rfl rfl rfl rfl rfl ?_
      refine w_chain [3, 4] rfl rfl (by kernel_rfl) ?_
      iterate 3 refine z ?_
      rw [step_go hb1 ht hin hok (tin_n hg.2.2 c6)]
      refine ok_weak (σ' := ⟨[(6, .box 6 0), (7, .box 7 0), (8, .one (.dv [] (.bool (true))))], [(6, 41, [(.dv [] (.str ((runOp (d) ((t.2.1.getD (t.2.2.1).toNat default))).1.1))), (.dv [] (.int .i64 ((runOp (d) ((t.2.1.getD (t.2.2.1).toNat default))).1.2.1))), (.key 90031), (.key 90900)]), (7, 26, [(.key 95031)])], [(90031, some (kcOf false (storesD ((runOp d (t.2.1.getD (t.2.2.1).toNat default)).1.2.2.1)))), (90900, some (kcOf false (defsD ((runOp d (t.2.1.getD (t.2.2.1).toNat default)).1.2.2.2)))), (95031, some (kcOf false (txsD (q.set (i).toNat (t.1, t.2.1, t.2.2.1 + 1, t.2.2.2.1, t.2.2.2.2)))))]⟩) (weak_sub ⟨rfl, rfl, rfl, trivial⟩ ⟨rfl, rfl, trivial⟩ ⟨rfl, rfl, (fin_set hit (t.1, t.2.1, t.2.2.1 + 1, t.2.2.2.1, t.2.2.2.2)), trivial⟩ rfl) ?_
      refine z ?_
      refine fin3 (res_cell hT rfl rfl rfl rfl) (res_cell hT rfl rfl rfl rfl) (res_tmp rfl) rfl rfl rfl ?_
      first | exact ⟨rfl, rfl⟩ | skip
  ·skip
   have hin : tin t t.2.2.1 = false := c2
   iterate 12 refine z ?_
   refine o_pureG (gd_bool rfl rfl rfl rfl rfl) rfl (fun hg => pu_lenV hT rfl rfl (ev_nestv (ev_opt rfl hg))) rfl rfl ?_
   refine z ?_
   refine o_callG (gd_bool rfl rfl rfl rfl rfl) rfl rfl Try.call36 (ok_spec_l1In (n := t.2.2.1) (lo := 0) (hi := ((((t.2.1)).length : Int)) - (1)) ) (fun hg => (as_cons (ev_opt rfl hg) (ag_one ac_dv) (as_cons (ev_int (inR_lit rfl)) (ag_one ac_dv) (as_cons (ev_opt rfl hg) (ag_one ac_dv) as_nil)))) rfl rfl ?_
   iterate 3 refine z ?_
   refine yQ rfl (fun c9 => ?_) fun c9 => ?_
   ·skip
    refine ok_region ?_
    refine z ?_
    refine o_store hT rfl rfl rfl rfl (ev_tmp rfl) (ev_int (inR_lit rfl)) rfl rfl rfl rfl rfl rfl ?_
    iterate 7 refine z ?_
    refine yQ rfl (fun c10 => ?_) fun c10 => ?_
    ·skip
     have d10 := nd_t c10
     refine ok_region ?_
     refine z ?_
     refine o_store hT rfl rfl rfl rfl (ev_tmp rfl) ev_nil rfl rfl rfl rfl rfl rfl ?_
     iterate 6 refine z ?_
     refine yO rfl rfl (pu_indexK (i := (i).toNat) hT rfl rfl rfl (ev_tmp rfl) rfl (ev_tmp rfl) (by omega) (by show _ < (((q)).length); omega)) rfl ?_
     refine o_put (d0s := [.int .i64 (t.1), opsD (t.2.1), .int .i64 (t.2.2.1), .int .i64 (t.2.2.2.1), storesD (t.2.2.2.2)]) (ds := [.int .i64 (t.1), opsD (t.2.1), .int .i64 (t.2.2.1), .int .i64 (2), .sl 83 3 0 []]) (cs := mid ((q.take (i).toNat).flatMap eTx) [.int .i64 (t.1), opsD (t.2.1), .int .i64 (t.2.2.1), .int .i64 (2), .sl 83 3 0 []] ((q.drop ((i).toNat + 1)).flatMap eTx)) hT rfl rfl rfl rfl (ev_tmp rfl) (ev_tmp rfl) rfl rfl rfl rfl (put_own (ow_dv rfl) (put_nest (put_own (ow_dv rfl) (put_own (ow_dv rfl) (put_own (ow_nilc (e := 83) (sz := 3) rfl) put_nil))) rfl)) rfl (sub_mid (off := (i).toNat * 5) (j := 0) (flat_pre (sz := 5) (fun _ => rfl) (Nat.le_of_lt hit)) (by omega) rfl (Nat.le_of_ble_eq_true rfl)) (le_mid (off := (i).toNat * 5) (n := 5) (j := 0) (flat_pre (sz := 5) (fun _ => rfl) (Nat.le_of_lt hit)) (by omega) (Nat.le_of_ble_eq_true rfl)) (setR_mid (off := (i).toNat * 5) (j := 0) (flat_pre (sz := 5) (fun _ => rfl) (Nat.le_of_lt hit)) (by omega) rfl (Nat.le_of_ble_eq_true rfl)) ?_
     simp only [killT, killB, SV.kill, CV.kill, kk, Nat.reduceBEq]
     refine z ?_
     refine ok_seq ?_
     refine ok_regionW 6 (oB := [3, 4, 7, 9, 10, 11]) (oK := [90031, 90900, 95031]) (by kernel_rfl) rfl rfl ?_
     refine w_take 0 rfl (by kernel_rfl) rfl rfl (pu_loadBoxA hT rfl rfl (ev_tmp rfl) rfl rfl) rfl rfl rfl rfl rfl ?_
     refine w_take 1 rfl (by kernel_rfl) rfl rfl (pu_loadBoxA hT rfl rfl (ev_tmp rfl) rfl rfl) rfl rfl rfl rfl rfl ?_
     refine w_store 2 rfl (by kernel_rfl) rfl hT rfl rfl rfl (ev_tmp rfl) (ev_tmp rfl) rfl rfl rfl rfl rfl rfl ?_
     refine w_chain [3, 4] rfl rfl (by kernel_rfl) ?_
     iterate 3 refine z ?_
     rw [step_no hb1 ht hin]
     refine ok_weak (σ' := ⟨[(6, .box 6 0), (7, .box 7 0), (8, .one (.dv [] (.bool (true))))], [(6, 41, [(.dv [] (.str ((d).1))), (.dv [] (.int .i64 ((d).2.1))), (.key 90031), (.key 90900)]), (7, 26, [(.key 95031)])], [(90031, some (kcOf false (storesD (d.2.2.1)))), (90900, some (kcOf false (defsD (d.2.2.2)))), (95031, some (kcOf false (txsD (q.set (i).toNat (t.1, t.2.1, t.2.2.1, (2 : Int), ([] : List StoreT))))))]⟩) (weak_sub ⟨rfl, rfl, rfl, trivial⟩ ⟨rfl, rfl, trivial⟩ ⟨rfl, rfl, (fin_set hit (t.1, t.2.1, t.2.2.1, (2 : Int), ([] : List StoreT))), trivial⟩ rfl) ?_
     refine z ?_
     refine fin3 (res_cell hT rfl rfl rfl rfl) (res_cell hT rfl rfl rfl rfl) (res_tmp rfl) rfl rfl rfl ?_
     first | exact ⟨rfl, rfl⟩ | skip
    ·skip
     exact absurd c10 (by simp)
   ·skip
    exact absurd c9 (by rw [hg.2.2, c2]; simp)

end Go.Proofs.Ytjkpoekgnmgofaa

namespace Go.Proofs.Ytjkpoekgnmgofaa
open Go.RowKit
open Go.Proofs
set_option linter.unusedVariables false
set_option linter.unusedSimpArgs false
def posN (n : Str) : List StoreT → Nat
 | [] => 0
 | s :: l => if sLt s.1 n then posN n l + 1 else 0
def insS (l : List StoreT) (j : Nat) (s : StoreT) : List StoreT := l.take j ++ s :: l.drop j
@[reducible] def idxU (d : DbT) (x : DefT) : Int := findI (eqDefB x) d.2.2.2 0
def notN (n : Str) (y : DefT) : Bool := !sEq y.1 n
def notS (n : Str) (s : StoreT) : Bool := !sEq s.1 n
def upI (d : DbT) (u : UpgT) : DbT × Bool :=
 if u.1 = 1 then ((d.1, d.2.1, insS d.2.2.1 (posN u.2.1 d.2.2.1) (u.2.1, [], 0), d.2.2.2), decide (fndS d u.2.1 < 0))
 else if u.1 = 2 then ((d.1, d.2.1, (if 0 ≤ fndS d u.2.1 then d.2.2.1.eraseIdx (fndS d u.2.1).toNat else d.2.2.1), d.2.2.2.filter (notN u.2.1)), decide (0 ≤ fndS d u.2.1))
 else if u.1 = 3 then ((d.1, d.2.1, d.2.2.1, d.2.2.2 ++ [u.2]), decide (idxU d u.2 < 0))
 else if u.1 = 4 then ((d.1, d.2.1, d.2.2.1, (if 0 ≤ idxU d u.2 then d.2.2.2.eraseIdx (idxU d u.2).toNat else d.2.2.2)), decide (0 ≤ idxU d u.2))
 else (d, false)
def upA (d : DbT) (u : UpgT) : DbT × Bool := if (!isDb d || !(upI d u).2 || !isDb (upI d u).1) = true then (d, false) else ((upI d u).1, true)
def dropD (d : DbT) (n : Str) : DbT := (d.1, d.2.1, d.2.2.1.filter (notS n), d.2.2.2.filter (notN n))
theorem posN_step {n : Str} {l : List StoreT} {j : Nat} (hp : posN n l = j + posN n (l.drop j)) (h3 : j < l.length) (h2 : sLt (l.getD (j : Int).toNat default).1 n = true) : posN n l = (j + 1) + posN n (l.drop (j + 1)) := by
 have e : l.drop j = l.getD (j : Int).toNat default :: l.drop (j + 1) := by rw [List.drop_eq_getElem_cons h3]; simp [List.getD, List.getElem?_eq_getElem h3]
 rw [hp, e, posN, if_pos h2]
 omega
theorem posN_stop {n : Str} {l : List StoreT} {j : Nat} (hp : posN n l = j + posN n (l.drop j)) (hj : j ≤ l.length) (h2 : (decide ((j : Int) < (l.length : Int)) && sLt (l.getD (j : Int).toNat default).1 n) = false) : posN n l = j := by
 rcases Nat.lt_or_ge j l.length with h3 | h3
 ·rw [decide_eq_true (by omega : (j : Int) < (l.length : Int)), Bool.true_and] at h2
  have e : l.drop j = l.getD (j : Int).toNat default :: l.drop (j + 1) := by rw [List.drop_eq_getElem_cons h3]; simp [List.getD, List.getElem?_eq_getElem h3]
  rw [hp, e, posN, if_neg (by rw [h2]; simp)]; omega
 ·rw [hp, List.drop_eq_nil_of_le h3, posN]; omega
theorem insS_len {l : List StoreT} {j : Nat} {s : StoreT} (h : j ≤ l.length) : (insS l j s).length = l.length + 1 := by
 rw [insS, List.length_append, List.length_cons, List.length_take, List.length_drop]; omega
def srtN : List StoreT → Prop
 | [] => True
 | y :: ys => (∀ z ∈ ys, sLt y.1 z.1 = true) ∧ srtN ys
theorem srtN_of : ∀ (l : List StoreT), (∀ i, i + 1 < l.length → sLt (l.getD i default).1 (l.getD (i + 1) default).1 = true) → srtN l
 | [], _ => trivial
 | [y], _ => ⟨by simp, trivial⟩
 | y :: z :: l, h => by
  have ih := srtN_of (z :: l) (fun i hi => by have := h (i + 1) (by simp only [List.length_cons] at hi ⊢; omega); simpa using this)
  have h0 : sLt y.1 z.1 = true := by simpa using h 0 (by simp)
  refine ⟨fun u hu => ?_, ih⟩
  rcases List.mem_cons.1 hu with rfl | hu
  ·exact h0
  ·exact bl_trans _ _ _ h0 (ih.1 u hu)
theorem db_srt {d : DbT} (h : isDb d = true) : srtN d.2.2.1 := by
 refine srtN_of _ (fun i hi => ?_)
 rw [isDb, Bool.and_eq_true, Bool.and_eq_true] at h
 have h1 := h.2.1
 rw [dbSt, List.all_eq_true] at h1
 have h2 := h1 (i + 1) (List.mem_range.2 hi)
 rw [← stBadS_eq] at h2
 simp only [stBadS, Bool.not_eq_true', Bool.or_eq_false_iff] at h2
 have h3 := h2.2
 rw [decide_eq_true (by omega : (0 : Int) < ((i + 1 : Nat) : Int)), Bool.true_and, show (((i + 1 : Nat) : Int) - 1).toNat = i by omega, Int.toNat_natCast] at h3
 simpa using h3
theorem sLt_ne {a b : Str} (h : sLt a b = true) : sEq a b = false ∧ sEq b a = false := by
 have e : sEq a b = false := by
  cases h2 : sEq a b with
  | false => rfl
  | true =>
   have : a.toList = b.toList := by simpa [sEq] using h2
   rw [sLt, this, bl_irr] at h; cases h
 exact ⟨e, by rw [sEq_comm]; exact e⟩
theorem notS_has (n : Str) (s : StoreT) : notS n s = !hasName n s := rfl
theorem filtS_all {n : Str} {l : List StoreT} (h : ∀ z ∈ l, sEq z.1 n = false) : l.filter (notS n) = l := by
 rw [List.filter_eq_self]
 intro y hy
 rw [notS, h y hy]; rfl
theorem srt_filt {n : Str} : ∀ (l : List StoreT) (i : Int), 0 ≤ i → srtN l → i ≤ findI (hasName n) l i → l.filter (notS n) = l.eraseIdx (findI (hasName n) l i - i).toNat
 | [], i, hi, _, h => by rw [findI] at h; omega
 | y :: ys, i, hi, hs, h => by
  by_cases hp : hasName n y = true
  ·rw [findI, if_pos hp, show (i - i).toNat = 0 by omega, List.eraseIdx_cons_zero, List.filter_cons_of_neg (by rw [notS_has, hp]; simp)]
   refine filtS_all (fun z hz => ?_)
   have h1 := hs.1 z hz
   cases h2 : sEq z.1 n with
   | false => rfl
   | true =>
    have e1 : z.1.toList = n.toList := by simpa [sEq] using h2
    have e2 : y.1.toList = n.toList := by simpa [hasName, sEq] using hp
    rw [sLt, e1, e2, bl_irr] at h1; cases h1
  ·rw [findI, if_neg hp] at h ⊢
   have h1 : i + 1 ≤ findI (hasName n) ys (i + 1) := by
    rcases findI_cases (p := hasName n) (d := default) ys (i + 1) (by omega) with ⟨h2, _⟩ | ⟨m, _, h2, _, _⟩ <;> omega
   have ih := srt_filt ys (i + 1) (by omega) hs.2 h1
   rw [show (findI (hasName n) ys (i + 1) - i).toNat = (findI (hasName n) ys (i + 1) - (i + 1)).toNat + 1 by omega, List.eraseIdx_cons_succ, List.filter_cons_of_pos (by rw [notS_has]; simpa using hp), ih]
theorem drop_eq {d : DbT} {n : Str} (h : isDb d = true) (hk : 0 ≤ fndS d n) : d.2.2.1.filter (notS n) = d.2.2.1.eraseIdx (fndS d n).toNat := by
 have := srt_filt (n := n) d.2.2.1 0 (by omega) (db_srt h) hk
 rw [this, Int.sub_zero]
section
variable {d : DbT} {u : UpgT}
theorem upA_bad (h : isDb d = false) : upA d u = (d, false) := by rw [upA, if_pos (by rw [h]; rfl)]
theorem upA_no (h : (upI d u).2 = false) : upA d u = (d, false) := by rw [upA, if_pos (by rw [h]; simp)]
theorem upA_out {o : DbT} (e : isDb d = true → (upI d u).1 = o) (h : (!isDb d || !isDb o) = true) : upA d u = (d, false) := by
 cases hd : isDb d with
 | false => exact upA_bad hd
 | true =>
  rw [hd] at h
  rw [upA, if_pos (by rw [e hd]; simp only [Bool.not_true, Bool.false_or] at h; rw [h]; simp)]
theorem upA_yes {o : DbT} (e : isDb d = true → (upI d u).1 = o) (e2 : (upI d u).2 = true) (h : (!isDb d || !isDb o) = false) : upA d u = (o, true) := by
 simp only [Bool.or_eq_false_iff, Bool.not_eq_false'] at h
 rw [upA, if_neg (by rw [e h.1, h.1, e2, h.2]; simp), e h.1]
theorem isDb_un0 {x : DefT} (h : fndS d x.1 < 0) : isDb (d.1, d.2.1, d.2.2.1, d.2.2.2 ++ [x]) = false := by
 refine isDb_un (k := d.2.2.2.length) (by simp) ?_
 have e : (d.2.2.2 ++ [x]).getD ((d.2.2.2.length : Nat) : Int).toNat default = x := by simp [List.getD]
 unfold unBad
 simp only [e]
 rw [decide_eq_true (show fndS (d.1, d.2.1, d.2.2.1, d.2.2.2 ++ [x]) x.1 < 0 from h)]
 rfl
theorem upA_un0 (h1 : u.1 = 3) (h : fndS d u.2.1 < 0) : upA d u = (d, false) := by
 have e : (upI d u).1 = (d.1, d.2.1, d.2.2.1, d.2.2.2 ++ [u.2]) := by unfold upI; rw [if_neg (by omega), if_neg (by omega), if_pos h1]
 rw [upA, if_pos (by rw [e, isDb_un0 h]; simp)]
theorem upI_1 (h1 : u.1 = 1) : upI d u = ((d.1, d.2.1, insS d.2.2.1 (posN u.2.1 d.2.2.1) (u.2.1, [], 0), d.2.2.2), decide (fndS d u.2.1 < 0)) := by unfold upI; rw [if_pos h1]
theorem upI_2 (h1 : u.1 = 2) (h : 0 ≤ fndS d u.2.1) : upI d u = ((d.1, d.2.1, d.2.2.1.eraseIdx (fndS d u.2.1).toNat, d.2.2.2.filter (notN u.2.1)), decide (0 ≤ fndS d u.2.1)) := by unfold upI; rw [if_neg (by omega), if_pos h1, if_pos h]
theorem upI_2n (h1 : u.1 = 2) (h : ¬ 0 ≤ fndS d u.2.1) : upI d u = ((d.1, d.2.1, d.2.2.1, d.2.2.2.filter (notN u.2.1)), decide (0 ≤ fndS d u.2.1)) := by unfold upI; rw [if_neg (by omega), if_pos h1, if_neg h]
theorem upI_3 (h1 : u.1 = 3) : upI d u = ((d.1, d.2.1, d.2.2.1, d.2.2.2 ++ [u.2]), decide (idxU d u.2 < 0)) := by unfold upI; rw [if_neg (by omega), if_neg (by omega), if_pos h1]
theorem upI_4 (h1 : u.1 = 4) (h : 0 ≤ idxU d u.2) : upI d u = ((d.1, d.2.1, d.2.2.1, d.2.2.2.eraseIdx (idxU d u.2).toNat), decide (0 ≤ idxU d u.2)) := by unfold upI; rw [if_neg (by omega), if_neg (by omega), if_neg (by omega), if_pos h1, if_pos h]
theorem upI_4n (h1 : u.1 = 4) (h : ¬ 0 ≤ idxU d u.2) : upI d u = (d, decide (0 ≤ idxU d u.2)) := by unfold upI; rw [if_neg (by omega), if_neg (by omega), if_neg (by omega), if_pos h1, if_neg h]
theorem upI_0 (h1 : u.1 ≠ 1) (h2 : u.1 ≠ 2) (h3 : u.1 ≠ 3) (h4 : u.1 ≠ 4) : upI d u = (d, false) := by unfold upI; rw [if_neg h1, if_neg h2, if_neg h3, if_neg h4]
theorem upA_def (h1 : ¬ (u.1 = 1 ∧ fndS d u.2.1 < 0)) (h2 : ¬ (u.1 = 2 ∧ 0 ≤ fndS d u.2.1)) (h3 : ¬ (u.1 = 3 ∧ 0 ≤ fndS d u.2.1 ∧ idxU d u.2 < 0)) (h4 : ¬ (u.1 = 4 ∧ 0 ≤ idxU d u.2)) : upA d u = (d, false) := by
 by_cases e1 : u.1 = 1
 ·exact upA_no (by rw [upI_1 e1]; exact decide_eq_false (fun h => h1 ⟨e1, h⟩))
 by_cases e2 : u.1 = 2
 ·have h : ¬ 0 ≤ fndS d u.2.1 := fun h => h2 ⟨e2, h⟩
  exact upA_no (by rw [upI_2n e2 h]; exact decide_eq_false h)
 by_cases e3 : u.1 = 3
 ·by_cases h : fndS d u.2.1 < 0
  ·exact upA_un0 e3 h
  ·exact upA_no (by rw [upI_3 e3]; exact decide_eq_false (fun h' => h3 ⟨e3, by omega, h'⟩))
 by_cases e4 : u.1 = 4
 ·have h : ¬ 0 ≤ idxU d u.2 := fun h => h4 ⟨e4, h⟩
  exact upA_no (by rw [upI_4n e4 h]; exact decide_eq_false h)
 exact upA_no (by rw [upI_0 e1 e2 e3 e4])
theorem dropD_eq (h1 : u.1 = 2) (h : 0 ≤ fndS d u.2.1) (hd : isDb d = true) : (upI d u).1 = dropD d u.2.1 := by rw [upI_2 h1 h, dropD, drop_eq hd h]
end

end Go.Proofs.Ytjkpoekgnmgofaa

namespace Go.Proofs.Ytjkpoekgnmgofaa
open Go.RowKit
open Go.Proofs
set_option linter.unusedVariables false
set_option linter.unusedSimpArgs false

section
variable {α : Type} {enc : α → List DV} {sz : Nat} {x : List α} {i j : Int}
theorem er_len (h0 : 0 ≤ i) (hlt : i < (x.length : Int)) : x.length - 1 = (x.eraseIdx i.toNat).length := by rw [List.length_eraseIdx_of_lt (by omega)]
theorem er_fl (hs : ∀ y, (enc y).length = sz) (h0 : 0 ≤ i) (hlt : i < (x.length : Int)) : ((x.eraseIdx i.toNat).flatMap enc).length = (x.length - 1) * sz := by rw [fl_len hs, ← er_len h0 hlt]
theorem er_app (hs : ∀ y, (enc y).length = sz) (h0 : 0 ≤ i) (hj : j = i + 1) (hlt : i < (x.length : Int)) : (x.flatMap enc).take (i.toNat * sz) ++ ((x.flatMap enc).drop (j.toNat * sz) ++ List.replicate ((j.toNat - i.toNat) * sz) .hole) = (x.eraseIdx i.toNat).flatMap enc ++ List.replicate sz .hole := by
 have e1 : j.toNat = i.toNat + 1 := by omega
 rw [e1, (take_flat hs i.toNat x).1, (take_flat hs (i.toNat + 1) x).2, show (i.toNat + 1 - i.toNat) * sz = sz by rw [show i.toNat + 1 - i.toNat = 1 by omega, Nat.one_mul], List.eraseIdx_eq_take_drop_succ, List.flatMap_append, List.append_assoc]
theorem er_cut {m : Nat} (hm : m = x.length - 1) (hs : ∀ y, (enc y).length = sz) (h0 : 0 ≤ i) (hlt : i < (x.length : Int)) : ((x.eraseIdx i.toNat).flatMap enc ++ List.replicate sz DV.hole).take (m * sz) = (x.eraseIdx i.toNat).flatMap enc := by
 subst hm
 exact List.take_left' (er_fl hs h0 hlt)
variable [Inhabited α] {q : α → Bool}
end
end Go.Proofs.Ytjkpoekgnmgofaa

namespace Go.Proofs.Ytjkpoekgnmgofaa
open Go.RowKit
open Go.Proofs
set_option linter.unusedVariables false
set_option linter.unusedSimpArgs false

theorem sub_loS {o : List StoreT} {j : Nat} : ([] : List DV) ++ sub (0 * 3) ((((j : Nat) : Int).toNat - 0) * 3) (o.flatMap eStore) = (o.take j).flatMap eStore := by
 obtain ⟨h1, h2⟩ := take_flat (enc := eStore) (sz := 3) (fun _ => rfl) j o
 rw [Int.toNat_natCast, Nat.sub_zero, Nat.zero_mul, sub, List.drop_zero, List.nil_append, h1]
theorem holed_loS {o : List StoreT} {j : Nat} : holed (o.flatMap eStore) (0 * 3) ((((j : Nat) : Int).toNat - 0) * 3) = List.replicate (j * 3) .hole ++ (o.drop j).flatMap eStore := by
 obtain ⟨h1, h2⟩ := take_flat (enc := eStore) (sz := 3) (fun _ => rfl) j o
 rw [Int.toNat_natCast, Nat.sub_zero, Nat.zero_mul, holed, List.drop_zero, h2]; rfl
theorem sub_hiS {o : List StoreT} {j : Nat} {el : StoreT} (hj : j ≤ o.length) : (o.take j ++ [el]).flatMap eStore ++ sub (((j : Nat) : Int).toNat * 3) ((o.length - ((j : Nat) : Int).toNat) * 3) (List.replicate (j * 3) .hole ++ (o.drop j).flatMap eStore) = (insS o j el).flatMap eStore := by
 have hl : ((o.drop j).flatMap eStore).length = (o.length - j) * 3 := by rw [fl_len (sz := 3) (fun _ => rfl), List.length_drop]
 have e : (List.replicate (j * 3) DV.hole ++ (o.drop j).flatMap eStore).drop (j * 3) = (o.drop j).flatMap eStore := by
  have h := List.drop_left (l₁ := List.replicate (j * 3) DV.hole) (l₂ := (o.drop j).flatMap eStore)
  rwa [List.length_replicate] at h
 rw [Int.toNat_natCast, sub, e, List.take_of_length_le (l := (o.drop j).flatMap eStore) (by rw [hl]; exact Nat.le_refl _), insS, List.flatMap_append, List.flatMap_append, List.flatMap_cons, List.flatMap_cons, List.flatMap_nil, List.append_nil, List.append_assoc]
section
variable {α : Type} [Inhabited α] {enc : α → List DV} {p : α → Bool} {xs : List α} {k : Nat}
theorem fltG (hk : k < xs.length) : (xs.take (k + 1)).filter p = (xs.take k).filter p ++ (if p (xs.getD (k : Int).toNat default) then [xs.getD (k : Int).toNat default] else []) := by
 rw [List.take_add_one, List.getElem?_eq_getElem hk, List.filter_append, getD_at hk]
 congr 1
 simp [List.filter]
 split <;> rename_i h <;> simp [h]
theorem fltG_yes (hk : k < xs.length) (h : p (xs.getD (k : Int).toNat default) = true) : ((xs.take k).filter p).flatMap enc ++ enc (xs.getD (k : Int).toNat default) = ((xs.take (k + 1)).filter p).flatMap enc ∧ ((xs.take k).filter p).length + 1 = ((xs.take (k + 1)).filter p).length := by
 rw [fltG hk, if_pos h, List.flatMap_append, List.flatMap_cons, List.flatMap_nil, List.append_nil, List.length_append]
 exact ⟨rfl, rfl⟩
theorem fltG_no (hk : k < xs.length) (h : p (xs.getD (k : Int).toNat default) = false) : (xs.take k).filter p = (xs.take (k + 1)).filter p := by
 rw [fltG hk, if_neg (by rw [h]; simp), List.append_nil]
end
theorem ok_spec_l8Index {d : DbT} {u : UpgT}  : PFn Try.prog 84 [.agg [(.dv [] (.str (d.1))), (.dv [] (.int .i64 (d.2.1))), (.dv [] (storesD (d.2.2.1))), (.dv [] (defsD (d.2.2.2)))], .agg [(.dv [] (.int .i64 (u.1))), (.dv [] (.str (u.2.1))), (.dv [] (.str (u.2.2)))]] (.one (.dv [] (.int .i64 (findI (eqDefB u.2) d.2.2.2 0)))) := by
 refine ⟨fn_intro Try.func84 rfl Try.ntmps84 Try.results84 rfl (fun C => ?_)⟩
 refine yF 0 0 rfl rfl fun f0_0 => ?_
 refine yF 0 1 rfl rfl fun f0_1 => ?_
 refine yF 0 2 rfl rfl fun f0_2 => ?_
 refine yF 0 3 rfl rfl fun f0_3 => ?_
 refine yF 1 0 rfl rfl fun f1_0 => ?_
 refine yF 1 1 rfl rfl fun f1_1 => ?_
 refine yF 1 2 rfl rfl fun f1_2 => ?_
 iterate 10 refine z ?_
 refine ok_loop (ι := Nat) (fun zz => ⟨[(2, .box 2 0), (3, .box 3 0), (5, .one (.dv [] (.int .i64 ((zz : Int)))))], [(2, 41, [(.dv [] (.str (d.1))), (.dv [] (.int .i64 (d.2.1))), (.dv [] (storesD (d.2.2.1))), (.dv [] (defsD (d.2.2.2)))]), (3, 116, [(.dv [] (.int .i64 (u.1))), (.dv [] (.str (u.2.1))), (.dv [] (.str (u.2.2)))])], []⟩) (fun zz => zz ≤ d.2.2.2.length ∧ (d.2.2.2.take zz).any (eqDefB u.2) = false) (fun zz => d.2.2.2.length - zz) (0) ?_ (weak_sub ⟨rfl, rfl, rfl, trivial⟩ ⟨rfl, rfl, trivial⟩ trivial rfl) (fun zz hx => ?_)
 ·exact ⟨Nat.zero_le _, rfl⟩
 obtain ⟨k, rfl⟩ : ∃ v, v = zz := ⟨_, rfl⟩
 replace hx : k ≤ d.2.2.2.length ∧ (d.2.2.2.take k).any (eqDefB u.2) = false := hx
 obtain ⟨hk, hall⟩ := hx
 show Ok _ _ _ _ _ (⟨[(2, .box 2 0), (3, .box 3 0), (5, .one (.dv [] (.int .i64 ((k : Int)))))], [(2, 41, [(.dv [] (.str (d.1))), (.dv [] (.int .i64 (d.2.1))), (.dv [] (storesD (d.2.2.1))), (.dv [] (defsD (d.2.2.2)))]), (3, 116, [(.dv [] (.int .i64 (u.1))), (.dv [] (.str (u.2.1))), (.dv [] (.str (u.2.2)))])], []⟩ : St)
 iterate 8 refine z ?_
 refine yQ rfl (fun c1 => ?_) fun c1 => ?_
 ·skip
  have d1 := of_decide_eq_true c1
  iterate 4 refine z ?_
  refine ok_seq ?_
  refine ok_regionD (oB := [2, 3]) (oK := []) (by kernel_rfl) rfl rfl ?_
  refine zD 0 ?_
  refine zD 1 ?_
  refine zD 2 ?_
  refine zD 3 ?_
  refine zD 4 ?_
  refine zD 5 ?_
  refine zD 6 ?_
  refine zD 7 ?_
  refine zD 8 ?_
  refine zD 9 ?_
  refine zDG 10 ?_
  refine zDG 11 ?_
  refine zDG 12 ?_
  refine zDG 13 ?_
  refine zDG 14 ?_
  refine zDG 15 ?_
  refine zDG 16 ?_
  refine zDG 17 ?_
  refine zDG 18 ?_
  refine zD 19 ?_
  refine d_done (by kernel_rfl) ?_
  refine z ?_
  refine yQ rfl (fun c2 => ?_) fun c2 => ?_
  ·skip
   iterate 11 refine z ?_
   exact (findI_at (p := eqDefB u.2) (d := default) hall (by omega) (by rw [eqDef_comm]; exact c2)).symm
  ·skip
   iterate 3 refine z ?_
   refine ok_region ?_
   iterate 4 refine z ?_
   refine ⟨k + 1, ?_, ?_, weak_sub ⟨rfl, rfl, rfl, trivial⟩ ⟨rfl, rfl, trivial⟩ trivial rfl⟩
   ·exact ⟨by omega, any_stepI (d := default) hall (by omega) (by rw [eqDef_comm]; exact c2)⟩
   ·omega
 ·skip
  have d1 := of_decide_eq_false c1
  iterate 10 refine z ?_
  exact (findI_none (p := eqDefB u.2) hall (by omega)).symm
theorem ok_spec_l8Drop {d : DbT} {n : Str} (hb : wDatabase d ≤ 549755813888) : KFn Try.prog 85 [.agg [(.dv [] (.str (d.1))), (.dv [] (.int .i64 (d.2.1))), (.dv [] (storesD (d.2.2.1))), (.dv [] (defsD (d.2.2.2)))], .one (.dv [] (.str (n)))] (.agg [(.dv [] (.str ((dropD d n).1))), (.dv [] (.int .i64 ((dropD d n).2.1))), (.key 31), (.key 900)]) [(31, some (kcOf false (storesD ((dropD d n).2.2.1)))), (900, some (kcOf false (defsD ((dropD d n).2.2.2))))] := by
 refine ⟨fn_intro Try.func85 rfl Try.ntmps85 Try.results85 rfl (fun C => ?_)⟩
 have hw4 : wDatabase d = d.1.size + wList wStore d.2.2.1 + wList wIndexDef d.2.2.2 := rfl
 have hw5 : wList wStore d.2.2.1 = d.2.2.1.length + wSum wStore d.2.2.1 := rfl
 have hw6 : wList wIndexDef d.2.2.2 = d.2.2.2.length + wSum wIndexDef d.2.2.2 := rfl
 refine yF 0 0 rfl rfl fun f0_0 => ?_
 refine yF 0 1 rfl rfl fun f0_1 => ?_
 refine yF 0 2 rfl rfl fun f0_2 => ?_
 refine yF 0 3 rfl rfl fun f0_3 => ?_
 refine ok_fact (x := .tmp 1) (ev_tmp rfl) fun f1 => ?_
 iterate 9 refine z ?_
 refine yO rfl rfl (pu_build hT hB rfl rfl rfl (bp_cons (ev_tmp rfl) rfl rfl rfl rfl rfl (bp_cons (ev_tmp rfl) rfl rfl rfl rfl rfl bp_nil))) rfl ?_
 iterate 3 refine z ?_
 refine ok_seq ?_
 refine ok_seq ?_
 refine ok_weak (weak_nilB 31 (b := 5) (i := 2) (e := 83) (sz := 3) rfl rfl rfl rfl rfl) ?_
 simp only [killT, killB, SV.kill, CV.kill, kk, Nat.reduceBEq]
 refine ok_weak (weak_nilB 900 (b := 5) (i := 3) (e := 101) (sz := 2) rfl rfl rfl rfl rfl) ?_
 simp only [killT, killB, SV.kill, CV.kill, kk, Nat.reduceBEq]
 refine ok_region ?_
 iterate 3 refine z ?_
 refine ok_loop (ι := Nat) (fun zz => ⟨[(1, .one (.dv [] (.str (n)))), (2, .box 2 0), (4, .box 4 0), (5, .box 5 0), (6, .one (.dv [] (.int .i64 ((zz : Int)))))], [(2, 41, [(.dv [] (.str (d.1))), (.dv [] (.int .i64 (d.2.1))), (.dv [] (storesD (d.2.2.1))), (.dv [] (defsD (d.2.2.2)))]), (4, 41, [(.dv [] (.str (ByteArray.empty))), (.dv [] (.int .i64 (0))), .nil, .nil]), (5, 41, [(.dv [] (.str (d.1))), (.dv [] (.int .i64 (d.2.1))), (.key 31), (.key 900)])], [(31, some (kcOf false (.sl 83 3 (((d.2.2.1.take zz).filter (notS n)).length) (((d.2.2.1.take zz).filter (notS n)).flatMap eStore)))), (900, some (kcOf false (.sl 101 2 (0) ([]))))]⟩) (fun zz => zz ≤ d.2.2.1.length) (fun zz => d.2.2.1.length - zz) (0) ?_ (weak_sub ⟨rfl, rfl, rfl, rfl, rfl, trivial⟩ ⟨rfl, rfl, rfl, trivial⟩ ⟨rfl, rfl, trivial⟩ rfl) (fun zz hx => ?_)
 ·exact Nat.zero_le _
 obtain ⟨k, rfl⟩ : ∃ v, v = zz := ⟨_, rfl⟩
 replace hx : k ≤ d.2.2.1.length := hx
 have hw := fun h => wSum_succ wStore d.2.2.1 k h
 show Ok _ _ _ _ _ (⟨[(1, .one (.dv [] (.str (n)))), (2, .box 2 0), (4, .box 4 0), (5, .box 5 0), (6, .one (.dv [] (.int .i64 ((k : Int)))))], [(2, 41, [(.dv [] (.str (d.1))), (.dv [] (.int .i64 (d.2.1))), (.dv [] (storesD (d.2.2.1))), (.dv [] (defsD (d.2.2.2)))]), (4, 41, [(.dv [] (.str (ByteArray.empty))), (.dv [] (.int .i64 (0))), .nil, .nil]), (5, 41, [(.dv [] (.str (d.1))), (.dv [] (.int .i64 (d.2.1))), (.key 31), (.key 900)])], [(31, some (kcOf false (.sl 83 3 (((d.2.2.1.take k).filter (notS n)).length) (((d.2.2.1.take k).filter (notS n)).flatMap eStore)))), (900, some (kcOf false (.sl 101 2 (0) ([]))))]⟩ : St)
 iterate 8 refine z ?_
 refine yQ rfl (fun c1 => ?_) fun c1 => ?_
 ·skip
  have d1 := of_decide_eq_true c1
  have hk2 : k < d.2.2.1.length := by omega
  obtain ⟨hw1, hw2⟩ := hw hk2
  iterate 14 refine z ?_
  refine yQ rfl (fun c2 => ?_) fun c2 => ?_
  ·skip
   refine ok_regionH [0, 1, 2, 3, 4, 5, 6, 7, 8] (oB := [2, 4, 5]) (oK := [31, 900]) (by kernel_rfl) rfl rfl ?_
   refine zD 0 ?_
   refine zD 1 ?_
   refine zD 2 ?_
   refine zD 3 ?_
   refine zD 4 ?_
   refine zD 5 ?_
   refine zD 6 ?_
   refine d_callK 35000 7 rfl (by kernel_rfl) rfl rfl rfl Try.call49 (ok_spec_l6Copy (x := (d.2.2.1.getD (k : Int).toNat default)) (by omega)) (as_cons (ev_tmp rfl) (ag_agg (ag_cons ac_dv (ag_cons ac_dv (ag_cons ac_dv ag_nil)))) as_nil) rfl rfl rfl rfl rfl ?_
   refine d_build1 (k := 36) (js := [35030]) 8 hT rfl (by kernel_rfl) rfl rfl rfl rfl rfl rfl rfl rfl rfl (ev_tmp rfl) rfl rfl (ow_cons' (ow_dv rfl) (ow_cons' (ow_key rfl) (ow_cons' (ow_dv rfl) ow_nil rfl) rfl) rfl) (by decide) (by decide) rfl rfl (by decide) ?_
   simp only [killT, killB, SV.kill, CV.kill, kk, Nat.reduceBEq]
   refine d_chain [9, 10, 11] rfl rfl (by kernel_rfl) ?_
   refine o_appK (k := 31) (j := 36) (cs := ((d.2.2.1.take (k + 1)).filter (notS n)).flatMap eStore) (n := ((d.2.2.1.take (k + 1)).filter (notS n)).length) hT rfl rfl rfl rfl rfl rfl rfl (ev_tmp rfl) rfl rfl rfl (ev_tmp rfl) rfl rfl (by decide) (by have := List.length_filter_le (notS n) (d.2.2.1.take k); rw [List.length_take] at this; dsimp only [kcOf, KC.old]; omega) (by have := List.length_filter_le (notS n) (d.2.2.1.take k); rw [List.length_take] at this; dsimp only [kcOf, KC.old]; omega) ((fltG_yes (enc := eStore) hk2 c2).2) ((fltG_yes (enc := eStore) hk2 c2).1) ?_
   simp only [killT, killB, SV.kill, CV.kill, kk, Nat.reduceBEq]
   iterate 2 refine z ?_
   refine ops_nil ?_
   iterate 2 refine z ?_
   refine ok_region ?_
   iterate 4 refine z ?_
   refine ⟨k + 1, ?_, ?_, weak_sub ⟨rfl, rfl, rfl, rfl, rfl, trivial⟩ ⟨rfl, rfl, rfl, trivial⟩ ⟨rfl, rfl, trivial⟩ rfl⟩
   ·omega
   ·omega
  ·skip
   iterate 3 refine z ?_
   refine ok_region ?_
   iterate 4 refine z ?_
   refine ⟨k + 1, ?_, ?_, weak_sub ⟨rfl, rfl, rfl, rfl, rfl, trivial⟩ ⟨rfl, rfl, rfl, trivial⟩ ⟨(congrArg (fun l : List (StoreT) => some (some (KC.mk false 83 3 l.length (l.flatMap eStore)))) (fltG_no (p := notS n) hk2 c2)), rfl, trivial⟩ rfl⟩
   ·omega
   ·omega
 ·skip
  have d1 := of_decide_eq_false c1
  have hfin : d.2.2.1.take k = d.2.2.1 := List.take_of_length_le (by omega)
  iterate 10 refine z ?_
  refine ok_loop (ι := Nat) (fun zz => ⟨[(1, .one (.dv [] (.str (n)))), (2, .box 2 0), (4, .box 4 0), (5, .box 5 0), (7, .one (.dv [] (.int .i64 ((zz : Int)))))], [(2, 41, [(.dv [] (.str (d.1))), (.dv [] (.int .i64 (d.2.1))), (.dv [] (storesD (d.2.2.1))), (.dv [] (defsD (d.2.2.2)))]), (4, 41, [(.dv [] (.str (ByteArray.empty))), (.dv [] (.int .i64 (0))), .nil, .nil]), (5, 41, [(.dv [] (.str (d.1))), (.dv [] (.int .i64 (d.2.1))), (.key 31), (.key 900)])], [(900, some (kcOf false (.sl 101 2 (((d.2.2.2.take zz).filter (notN n)).length) (((d.2.2.2.take zz).filter (notN n)).flatMap eDef)))), (31, some (kcOf false (.sl 83 3 (((d.2.2.1.take k).filter (notS n)).length) (((d.2.2.1.take k).filter (notS n)).flatMap eStore))))]⟩) (fun zz => zz ≤ d.2.2.2.length) (fun zz => d.2.2.2.length - zz) (0) ?_ (weak_sub ⟨rfl, rfl, rfl, rfl, rfl, trivial⟩ ⟨rfl, rfl, rfl, trivial⟩ ⟨rfl, rfl, trivial⟩ rfl) (fun zz hx => ?_)
  ·exact Nat.zero_le _
  obtain ⟨k2, rfl⟩ : ∃ v, v = zz := ⟨_, rfl⟩
  replace hx : k2 ≤ d.2.2.2.length := hx
  have hw := fun h => wSum_succ wIndexDef d.2.2.2 k2 h
  show Ok _ _ _ _ _ (⟨[(1, .one (.dv [] (.str (n)))), (2, .box 2 0), (4, .box 4 0), (5, .box 5 0), (7, .one (.dv [] (.int .i64 ((k2 : Int)))))], [(2, 41, [(.dv [] (.str (d.1))), (.dv [] (.int .i64 (d.2.1))), (.dv [] (storesD (d.2.2.1))), (.dv [] (defsD (d.2.2.2)))]), (4, 41, [(.dv [] (.str (ByteArray.empty))), (.dv [] (.int .i64 (0))), .nil, .nil]), (5, 41, [(.dv [] (.str (d.1))), (.dv [] (.int .i64 (d.2.1))), (.key 31), (.key 900)])], [(900, some (kcOf false (.sl 101 2 (((d.2.2.2.take k2).filter (notN n)).length) (((d.2.2.2.take k2).filter (notN n)).flatMap eDef)))), (31, some (kcOf false (.sl 83 3 (((d.2.2.1.take k).filter (notS n)).length) (((d.2.2.1.take k).filter (notS n)).flatMap eStore))))]⟩ : St)
  iterate 8 refine z ?_
  refine yQ rfl (fun c3 => ?_) fun c3 => ?_
  ·skip
   have d3 := of_decide_eq_true c3
   have hk2 : k2 < d.2.2.2.length := by omega
   iterate 14 refine z ?_
   refine yQ rfl (fun c4 => ?_) fun c4 => ?_
   ·skip
    refine ok_regionH [0, 1, 2, 3, 4, 5, 6, 7] (oB := [2, 4, 5]) (oK := [31, 900]) (by kernel_rfl) rfl rfl ?_
    refine zD 0 ?_
    refine zD 1 ?_
    refine zD 2 ?_
    refine zD 3 ?_
    refine zD 4 ?_
    refine zD 5 ?_
    refine zD 6 ?_
    refine d_build1 (k := 61) (js := []) 7 hT rfl (by kernel_rfl) rfl rfl rfl rfl rfl rfl rfl rfl rfl (ev_tmp rfl) rfl rfl (ow_cons' (ow_dv rfl) (ow_cons' (ow_dv rfl) ow_nil rfl) rfl) (by decide) (by decide) rfl rfl (by decide) ?_
    simp only [killT, killB, SV.kill, CV.kill, kk, Nat.reduceBEq]
    refine d_chain [8, 9, 10] rfl rfl (by kernel_rfl) ?_
    refine o_appK (k := 900) (j := 61) (cs := ((d.2.2.2.take (k2 + 1)).filter (notN n)).flatMap eDef) (n := ((d.2.2.2.take (k2 + 1)).filter (notN n)).length) hT rfl rfl rfl rfl rfl rfl rfl (ev_tmp rfl) rfl rfl rfl (ev_tmp rfl) rfl rfl (by decide) (by have := List.length_filter_le (notN n) (d.2.2.2.take k2); rw [List.length_take] at this; dsimp only [kcOf, KC.old]; omega) (by have := List.length_filter_le (notN n) (d.2.2.2.take k2); rw [List.length_take] at this; dsimp only [kcOf, KC.old]; omega) ((fltG_yes (enc := eDef) hk2 c4).2) ((fltG_yes (enc := eDef) hk2 c4).1) ?_
    simp only [killT, killB, SV.kill, CV.kill, kk, Nat.reduceBEq]
    iterate 2 refine z ?_
    refine ops_nil ?_
    iterate 2 refine z ?_
    refine ok_region ?_
    iterate 4 refine z ?_
    refine ⟨k2 + 1, ?_, ?_, weak_sub ⟨rfl, rfl, rfl, rfl, rfl, trivial⟩ ⟨rfl, rfl, rfl, trivial⟩ ⟨rfl, rfl, trivial⟩ rfl⟩
    ·omega
    ·omega
   ·skip
    iterate 3 refine z ?_
    refine ok_region ?_
    iterate 4 refine z ?_
    refine ⟨k2 + 1, ?_, ?_, weak_sub ⟨rfl, rfl, rfl, rfl, rfl, trivial⟩ ⟨rfl, rfl, rfl, trivial⟩ ⟨(congrArg (fun l : List (DefT) => some (some (KC.mk false 101 2 l.length (l.flatMap eDef)))) (fltG_no (p := notN n) hk2 c4)), rfl, trivial⟩ rfl⟩
    ·omega
    ·omega
  ·skip
   have d3 := of_decide_eq_false c3
   iterate 9 refine z ?_
   refine ok_weak (σ' := ⟨[(4, .box 4 0)], [(4, 41, [(.dv [] (.str ((dropD d n).1))), (.dv [] (.int .i64 ((dropD d n).2.1))), (.key 31), (.key 900)])], [(31, some (kcOf false (storesD ((dropD d n).2.2.1)))), (900, some (kcOf false (defsD ((dropD d n).2.2.2))))]⟩) (weak_sub ⟨rfl, trivial⟩ ⟨rfl, trivial⟩ ⟨(congrArg (fun l : List (StoreT) => some (some (KC.mk false 83 3 (l.filter (notS n)).length ((l.filter (notS n)).flatMap eStore)))) hfin), (congrArg (fun l : List (DefT) => some (some (KC.mk false 101 2 (l.filter (notN n)).length ((l.filter (notN n)).flatMap eDef)))) (List.take_of_length_le (by omega))), trivial⟩ rfl) ?_
   refine z ?_
   refine fin1 (res_cell hT rfl rfl rfl rfl) ?_
   exact ⟨rfl, rfl⟩
theorem ok_spec_ApplyUpgrade {d : DbT} {u : UpgT} (hb : wDatabase d ≤ 549755813888) : KFn Try.prog 71 [.agg [(.dv [] (.str (d.1))), (.dv [] (.int .i64 (d.2.1))), (.dv [] (storesD (d.2.2.1))), (.dv [] (defsD (d.2.2.2)))], .agg [(.dv [] (.int .i64 (u.1))), (.dv [] (.str (u.2.1))), (.dv [] (.str (u.2.2)))]] (.tup [(true, [(.dv [] (.str ((upA d u).1.1))), (.dv [] (.int .i64 ((upA d u).1.2.1))), (.key 90031), (.key 90900)]), (false, [(.dv [] (.bool ((upA d u).2)))])]) [(90031, some (kcOf false (storesD ((upA d u).1.2.2.1)))), (90900, some (kcOf false (defsD ((upA d u).1.2.2.2))))] := by
 refine ⟨fn_intro Try.func71 rfl Try.ntmps71 Try.results71 rfl (fun C => ?_)⟩
 have hw4 : wDatabase d = d.1.size + wList wStore d.2.2.1 + wList wIndexDef d.2.2.2 := rfl
 have hw5 : wList wStore d.2.2.1 = d.2.2.1.length + wSum wStore d.2.2.1 := rfl
 have hw6 : wList wIndexDef d.2.2.2 = d.2.2.2.length + wSum wIndexDef d.2.2.2 := rfl
 obtain ⟨m, hm⟩ : ∃ m, m = d.2.2.2.length - 1 := ⟨_, rfl⟩
 refine yF 0 0 rfl rfl fun f0_0 => ?_
 refine yF 0 1 rfl rfl fun f0_1 => ?_
 refine yF 0 2 rfl rfl fun f0_2 => ?_
 refine yF 0 3 rfl rfl fun f0_3 => ?_
 refine yF 1 0 rfl rfl fun f1_0 => ?_
 refine yF 1 1 rfl rfl fun f1_1 => ?_
 refine yF 1 2 rfl rfl fun f1_2 => ?_
 iterate 8 refine z ?_
 refine zK 90000 Try.call50 ?_ (hf := ok_spec_l8Copy (x := d) (by omega))
 iterate 7 refine z ?_
 refine zC Try.call48 ?_ (hf := ok_spec_FindStore (x := d) (n := u.2.1))
 iterate 5 refine z ?_
 refine zC Try.call84 ?_ (hf := ok_spec_l8Index (d := d) (u := u))
 iterate 14 refine z ?_
 refine yQ rfl (fun c1 => ?_) fun c1 => ?_
 ·skip
  have hk1 : u.1 = 1 ∧ (findI (hasName u.2.1) d.2.2.1 0) < 0 := by simpa only [Bool.and_eq_true, decide_eq_true_eq, and_assoc] using c1
  iterate 5 refine z ?_
  refine ok_loop (ι := Nat) (fun zz => ⟨[(2, .box 2 0), (3, .box 3 0), (4, .box 4 0), (5, .one (.dv [] (.bool (false)))), (6, .box 6 0), (9, .one (.dv [] (.int .i64 ((zz : Int)))))], [(2, 41, [(.dv [] (.str (d.1))), (.dv [] (.int .i64 (d.2.1))), (.dv [] (storesD (d.2.2.1))), (.dv [] (defsD (d.2.2.2)))]), (3, 116, [(.dv [] (.int .i64 (u.1))), (.dv [] (.str (u.2.1))), (.dv [] (.str (u.2.2)))]), (4, 41, [(.dv [] (.str (ByteArray.empty))), (.dv [] (.int .i64 (0))), .nil, .nil]), (6, 41, [(.dv [] (.str ((d).1))), (.dv [] (.int .i64 ((d).2.1))), (.key 90031), (.key 90900)])], [(90031, some (kcOf false (.sl 83 3 (d.2.2.1.length) (d.2.2.1.flatMap eStore)))), (90900, some (kcOf false (.sl 101 2 (d.2.2.2.length) (d.2.2.2.flatMap eDef))))]⟩) (fun zz => zz ≤ d.2.2.1.length ∧ posN u.2.1 d.2.2.1 = zz + posN u.2.1 (d.2.2.1.drop zz)) (fun zz => d.2.2.1.length - zz) (0) ?_ (weak_sub ⟨rfl, rfl, rfl, rfl, rfl, rfl, trivial⟩ ⟨rfl, rfl, rfl, rfl, trivial⟩ ⟨rfl, rfl, trivial⟩ rfl) (fun zz hx => ?_)
  ·exact ⟨Nat.zero_le _, by simp⟩
  obtain ⟨j, rfl⟩ : ∃ v, v = zz := ⟨_, rfl⟩
  replace hx : j ≤ d.2.2.1.length ∧ posN u.2.1 d.2.2.1 = j + posN u.2.1 (d.2.2.1.drop j) := hx
  obtain ⟨hj, hp⟩ := hx
  show Ok _ _ _ _ _ (⟨[(2, .box 2 0), (3, .box 3 0), (4, .box 4 0), (5, .one (.dv [] (.bool (false)))), (6, .box 6 0), (9, .one (.dv [] (.int .i64 ((j : Int)))))], [(2, 41, [(.dv [] (.str (d.1))), (.dv [] (.int .i64 (d.2.1))), (.dv [] (storesD (d.2.2.1))), (.dv [] (defsD (d.2.2.2)))]), (3, 116, [(.dv [] (.int .i64 (u.1))), (.dv [] (.str (u.2.1))), (.dv [] (.str (u.2.2)))]), (4, 41, [(.dv [] (.str (ByteArray.empty))), (.dv [] (.int .i64 (0))), .nil, .nil]), (6, 41, [(.dv [] (.str ((d).1))), (.dv [] (.int .i64 ((d).2.1))), (.key 90031), (.key 90900)])], [(90031, some (kcOf false (.sl 83 3 (d.2.2.1.length) (d.2.2.1.flatMap eStore)))), (90900, some (kcOf false (.sl 101 2 (d.2.2.2.length) (d.2.2.2.flatMap eDef))))]⟩ : St)
  refine ok_seq ?_
  refine ok_seq ?_
  refine ok_regionD (oB := [2, 3, 4, 6]) (oK := [90031, 90900]) (by kernel_rfl) rfl rfl ?_
  refine zD 0 ?_
  refine zD 1 ?_
  refine zD 2 ?_
  refine zD 3 ?_
  refine zD 4 ?_
  refine zD 5 ?_
  refine zDG 6 ?_
  refine zDG 7 ?_
  refine zDG 8 ?_
  refine zDG 9 ?_
  refine zDG 10 ?_
  refine zDG 11 ?_
  refine zDG 12 ?_
  refine zDG 13 ?_
  refine zDG 14 ?_
  refine zD 15 ?_
  refine d_done (by kernel_rfl) ?_
  refine z ?_
  refine yQ rfl (fun c2 => ?_) fun c2 => ?_
  ·skip
   have hj2 : j < d.2.2.1.length := by have h8 := c2; rw [Bool.and_eq_true, decide_eq_true_eq] at h8; omega
   have hst := posN_step hp hj2 (by have h8 := c2; rw [Bool.and_eq_true] at h8; exact h8.2)
   iterate 3 refine z ?_
   refine ok_region ?_
   iterate 3 refine z ?_
   refine ops_nil ?_
   iterate 2 refine z ?_
   refine ⟨j + 1, ?_, ?_, weak_sub ⟨rfl, rfl, rfl, rfl, rfl, rfl, trivial⟩ ⟨rfl, rfl, rfl, rfl, trivial⟩ ⟨rfl, rfl, trivial⟩ rfl⟩
   ·exact ⟨by omega, hst⟩
   ·omega
  ·skip
   have hpos := posN_stop hp hj c2
   iterate 6 refine z ?_
   refine o_build0 (k := 47) hT rfl rfl rfl rfl rfl rfl rfl rfl ?_
   iterate 3 refine z ?_
   refine o_appSubB (b8 := 6) (i8 := 2) (k := 47) (j := 90031) (s := 49) (n := (d.2.2.1.take j).length) (cs := (d.2.2.1.take j).flatMap eStore) (c2s := List.replicate (j * 3) .hole ++ (d.2.2.1.drop j).flatMap eStore) hT rfl rfl rfl (sl_h hT rfl rfl rfl (ev_tmp rfl) rfl (ev_tmp rfl) (by omega) (by dsimp only [kcOf]; omega)) rfl rfl rfl rfl rfl rfl rfl (ev_tmp rfl) rfl rfl rfl rfl rfl rfl (by decide) rfl rfl ⟨rfl, rfl⟩ (by omega) (by dsimp only [kcOf]; omega) (by dsimp only [kcOf]; omega) (by dsimp only [kcOf]; omega) (by rw [List.length_take, Nat.min_eq_left (by omega)]; simp) (sub_loS) (holed_loS) rfl rfl rfl ?_
   simp only [killT, killB, SV.kill, CV.kill, kk, Nat.reduceBEq]
   iterate 6 refine z ?_
   refine yO rfl rfl (pu_build hT hB rfl rfl rfl (bp_cons (ev_tmp rfl) rfl rfl rfl rfl rfl bp_nil)) rfl ?_
   refine o_build1 (k := 57) (js := []) hT rfl rfl rfl rfl rfl rfl rfl rfl rfl (ev_tmp rfl) rfl rfl (ow_cons' (ow_dv rfl) (ow_cons' (ow_nilc (e := 109) (sz := 4) rfl) (ow_cons' (ow_dv rfl) ow_nil rfl) rfl) rfl) (by decide) (by decide) rfl rfl ?_
   simp only [killT, killB, SV.kill, CV.kill, kk, Nat.reduceBEq]
   refine o_appK (k := 47) (j := 57) (cs := (d.2.2.1.take j ++ [(u.2.1, ([] : List ItemT), (0 : Int))]).flatMap eStore) (n := (d.2.2.1.take j ++ [(u.2.1, ([] : List ItemT), (0 : Int))]).length) hT rfl rfl rfl rfl rfl rfl rfl (ev_tmp rfl) rfl rfl rfl (ev_tmp rfl) rfl rfl (by decide) (by dsimp only [kcOf]; simp only [List.length_take]; omega) (by dsimp only [kcOf]; simp only [List.length_take]; omega) (by simp) (by rw [List.flatMap_append]; rfl) ?_
   simp only [killT, killB, SV.kill, CV.kill, kk, Nat.reduceBEq]
   iterate 2 refine z ?_
   refine ok_region ?_
   iterate 4 refine z ?_
   refine o_appSub (k := 47) (j := 90031) (s := 61) (n := (insS d.2.2.1 j (u.2.1, ([] : List ItemT), (0 : Int))).length) (cs := (insS d.2.2.1 j (u.2.1, ([] : List ItemT), (0 : Int))).flatMap eStore) (c2s := _) hT rfl rfl rfl (sl_l hT rfl rfl rfl (ev_tmp rfl) rfl (ev_tmp rfl) (by omega) (by dsimp only [kcOf]; omega)) rfl rfl rfl rfl rfl rfl rfl (ev_tmp rfl) rfl rfl rfl rfl rfl rfl (by decide) rfl rfl ⟨rfl, rfl⟩ (by dsimp only [kcOf]; omega) (by dsimp only [kcOf]; omega) (by dsimp only [kcOf]; simp only [List.length_append, List.length_take, List.length_singleton]; omega) (by dsimp only [kcOf]; simp only [List.length_append, List.length_take, List.length_singleton]; omega) (by rw [insS_len hj]; simp; omega) (sub_hiS hj) (rfl) ?_
   simp only [killT, killB, SV.kill, CV.kill, kk, Nat.reduceBEq]
   iterate 2 refine z ?_
   refine ops_nil ?_
   iterate 2 refine z ?_
   refine ok_seq ?_
   refine ok_seq ?_
   refine ok_weak (weak_swapB (b := 6) (i := 2) (k := 47) (k' := 90031) rfl rfl rfl rfl (by decide) rfl rfl) ?_
   simp only [killT, killB, SV.kill, CV.kill, kk, Nat.reduceBEq]
   refine ok_weak (weak_eq (k := 90900) (c' := kcOf false (defsD (d.2.2.2))) rfl (rfl) rfl) ?_
   refine ok_region ?_
   refine z ?_
   refine zC Try.call74 ?_ (hf := ok_spec_IsDatabase (x := d))
   iterate 3 refine z ?_
   refine o_callG (gd_bool rfl rfl rfl rfl rfl) rfl rfl Try.call74 (ok_spec_IsDatabase (x := (d.1, d.2.1, (insS d.2.2.1 j (u.2.1, ([] : List ItemT), (0 : Int))), d.2.2.2))) (fun hg => (as_cons (ev_opt rfl hg) (ag_agg (ag_cons ac_dv (ag_cons ac_dv (ag_cons (ac_key' rfl rfl) (ag_cons (ac_key' rfl rfl) ag_nil))))) as_nil)) rfl rfl ?_
   iterate 3 refine z ?_
   refine yQ rfl (fun c3 => ?_) fun c3 => ?_
   ·skip
    refine ok_seq ?_
    refine ok_weak (σ' := ⟨[(2, .box 2 0), (3, .box 3 0), (4, .box 4 0), (5, .one (.dv [] (.bool (false))))], [(2, 41, [(.dv [] (.str (d.1))), (.dv [] (.int .i64 (d.2.1))), (.dv [] (storesD (d.2.2.1))), (.dv [] (defsD (d.2.2.2)))]), (3, 116, [(.dv [] (.int .i64 (u.1))), (.dv [] (.str (u.2.1))), (.dv [] (.str (u.2.2)))]), (4, 41, [(.dv [] (.str (ByteArray.empty))), (.dv [] (.int .i64 (0))), .nil, .nil])], []⟩) (weak_sub ⟨rfl, rfl, rfl, rfl, trivial⟩ ⟨rfl, rfl, rfl, trivial⟩ trivial rfl) ?_
    refine ok_region ?_
    refine z ?_
    refine zK 90000 Try.call50 ?_ (hf := ok_spec_l8Copy (x := d) (by omega))
    iterate 3 refine z ?_
    rw [upA_out (o := (d.1, d.2.1, (insS d.2.2.1 j (u.2.1, ([] : List ItemT), (0 : Int))), d.2.2.2)) (fun _ => by rw [upI_1 hk1.1, hpos]) c3]
    refine ok_weak (σ' := ⟨[(4, .box 4 0), (5, .one (.dv [] (.bool (false))))], [(4, 41, [(.dv [] (.str ((d).1))), (.dv [] (.int .i64 ((d).2.1))), (.key 90031), (.key 90900)])], [(90031, some (kcOf false (storesD (d.2.2.1)))), (90900, some (kcOf false (defsD (d.2.2.2))))]⟩) (weak_sub ⟨rfl, rfl, trivial⟩ ⟨rfl, trivial⟩ ⟨rfl, rfl, trivial⟩ rfl) ?_
    iterate 2 refine z ?_
    refine fin2 (res_cell hT rfl rfl rfl rfl) (res_tmp rfl) rfl rfl ?_
    first | exact ⟨rfl, rfl⟩ | skip
   ·skip
    iterate 7 refine z ?_
    rw [upA_yes (o := (d.1, d.2.1, (insS d.2.2.1 j (u.2.1, ([] : List ItemT), (0 : Int))), d.2.2.2)) (fun _ => by rw [upI_1 hk1.1, hpos]) (by rw [upI_1 hk1.1]; exact decide_eq_true hk1.2) c3]
    refine ok_weak (σ' := ⟨[(4, .box 4 0), (5, .one (.dv [] (.bool (true))))], [(4, 41, [(.dv [] (.str ((d).1))), (.dv [] (.int .i64 ((d).2.1))), (.key 90031), (.key 90900)])], [(90031, some (kcOf false (storesD ((insS d.2.2.1 j (u.2.1, ([] : List ItemT), (0 : Int))))))), (90900, some (kcOf false (defsD (d.2.2.2))))]⟩) (weak_sub ⟨rfl, rfl, trivial⟩ ⟨rfl, trivial⟩ ⟨rfl, rfl, trivial⟩ rfl) ?_
    refine z ?_
    refine fin2 (res_cell hT rfl rfl rfl rfl) (res_tmp rfl) rfl rfl ?_
    first | exact ⟨rfl, rfl⟩ | skip
 ·skip
  have hn1 : ¬ (u.1 = 1 ∧ (findI (hasName u.2.1) d.2.2.1 0) < 0) := fun h => by
   have h8 := c1
   rw [show (decide (u.1 = 1) && decide ((findI (hasName u.2.1) d.2.2.1 0) < 0)) = true by simp only [Bool.and_eq_true, decide_eq_true_eq, and_assoc]; exact h] at h8
   cases h8
  iterate 10 refine z ?_
  refine yQ rfl (fun c4 => ?_) fun c4 => ?_
  ·skip
   have hk1 : u.1 = 2 ∧ 0 ≤ (findI (hasName u.2.1) d.2.2.1 0) := by simpa only [Bool.and_eq_true, decide_eq_true_eq, and_assoc] using c4
   have hlt : (findI (hasName u.2.1) d.2.2.1 0) < (d.2.2.1.length : Int) := fndS_lt d u.2.1
   refine ok_region ?_
   iterate 3 refine z ?_
   refine zK 91000 Try.call85 ?_ (hf := ok_spec_l8Drop (d := d) (n := u.2.1) (by omega))
   refine z ?_
   refine ops_nil ?_
   iterate 2 refine z ?_
   refine ok_seq ?_
   refine ok_seq ?_
   refine ok_weak (weak_swapB (b := 6) (i := 2) (k := 91031) (k' := 90031) rfl rfl rfl rfl (by simp) rfl rfl) ?_
   simp only [killT, killB, SV.kill, CV.kill, kk, Nat.reduceBEq]
   refine ok_weak (weak_swapB (b := 6) (i := 3) (k := 91900) (k' := 90900) rfl rfl rfl rfl (by simp) rfl rfl) ?_
   simp only [killT, killB, SV.kill, CV.kill, kk, Nat.reduceBEq]
   refine ok_region ?_
   refine z ?_
   refine zC Try.call74 ?_ (hf := ok_spec_IsDatabase (x := d))
   iterate 3 refine z ?_
   refine o_callG (gd_bool rfl rfl rfl rfl rfl) rfl rfl Try.call74 (ok_spec_IsDatabase (x := (dropD d u.2.1))) (fun hg => (as_cons (ev_opt rfl hg) (ag_agg (ag_cons ac_dv (ag_cons ac_dv (ag_cons (ac_key' rfl rfl) (ag_cons (ac_key' rfl rfl) ag_nil))))) as_nil)) rfl rfl ?_
   iterate 3 refine z ?_
   refine yQ rfl (fun c5 => ?_) fun c5 => ?_
   ·skip
    refine ok_seq ?_
    refine ok_weak (σ' := ⟨[(2, .box 2 0), (3, .box 3 0), (4, .box 4 0), (5, .one (.dv [] (.bool (false))))], [(2, 41, [(.dv [] (.str (d.1))), (.dv [] (.int .i64 (d.2.1))), (.dv [] (storesD (d.2.2.1))), (.dv [] (defsD (d.2.2.2)))]), (3, 116, [(.dv [] (.int .i64 (u.1))), (.dv [] (.str (u.2.1))), (.dv [] (.str (u.2.2)))]), (4, 41, [(.dv [] (.str (ByteArray.empty))), (.dv [] (.int .i64 (0))), .nil, .nil])], []⟩) (weak_sub ⟨rfl, rfl, rfl, rfl, trivial⟩ ⟨rfl, rfl, rfl, trivial⟩ trivial rfl) ?_
    refine ok_region ?_
    refine z ?_
    refine zK 90000 Try.call50 ?_ (hf := ok_spec_l8Copy (x := d) (by omega))
    iterate 3 refine z ?_
    rw [upA_out (o := (dropD d u.2.1)) (fun hd => dropD_eq hk1.1 hk1.2 hd) c5]
    refine ok_weak (σ' := ⟨[(4, .box 4 0), (5, .one (.dv [] (.bool (false))))], [(4, 41, [(.dv [] (.str ((d).1))), (.dv [] (.int .i64 ((d).2.1))), (.key 90031), (.key 90900)])], [(90031, some (kcOf false (storesD (d.2.2.1)))), (90900, some (kcOf false (defsD (d.2.2.2))))]⟩) (weak_sub ⟨rfl, rfl, trivial⟩ ⟨rfl, trivial⟩ ⟨rfl, rfl, trivial⟩ rfl) ?_
    iterate 2 refine z ?_
    refine fin2 (res_cell hT rfl rfl rfl rfl) (res_tmp rfl) rfl rfl ?_
    first | exact ⟨rfl, rfl⟩ | skip
   ·skip
    iterate 7 refine z ?_
    rw [upA_yes (o := (dropD d u.2.1)) (fun hd => dropD_eq hk1.1 hk1.2 hd) (by rw [upI_2 hk1.1 hk1.2]; exact decide_eq_true hk1.2) c5]
    refine ok_weak (σ' := ⟨[(4, .box 4 0), (5, .one (.dv [] (.bool (true))))], [(4, 41, [(.dv [] (.str ((dropD (d) (u.2.1)).1))), (.dv [] (.int .i64 ((dropD (d) (u.2.1)).2.1))), (.key 90031), (.key 90900)])], [(90031, some (kcOf false (storesD (d.2.2.1.filter (notS u.2.1))))), (90900, some (kcOf false (defsD (d.2.2.2.filter (notN u.2.1)))))]⟩) (weak_sub ⟨rfl, rfl, trivial⟩ ⟨rfl, trivial⟩ ⟨rfl, rfl, trivial⟩ rfl) ?_
    refine z ?_
    refine fin2 (res_cell hT rfl rfl rfl rfl) (res_tmp rfl) rfl rfl ?_
    first | exact ⟨rfl, rfl⟩ | skip
  ·skip
   have hn4 : ¬ (u.1 = 2 ∧ 0 ≤ (findI (hasName u.2.1) d.2.2.1 0)) := fun h => by
    have h8 := c4
    rw [show (decide (u.1 = 2) && decide (0 ≤ (findI (hasName u.2.1) d.2.2.1 0))) = true by simp only [Bool.and_eq_true, decide_eq_true_eq, and_assoc]; exact h] at h8
    cases h8
   iterate 14 refine z ?_
   refine yQ rfl (fun c6 => ?_) fun c6 => ?_
   ·skip
    have hk1 : u.1 = 3 ∧ 0 ≤ (findI (hasName u.2.1) d.2.2.1 0) ∧ (findI (eqDefB u.2) d.2.2.2 0) < 0 := by simpa only [Bool.and_eq_true, decide_eq_true_eq, and_assoc] using c6
    refine ok_region ?_
    iterate 6 refine z ?_
    refine yO rfl rfl (pu_build hT hB rfl rfl rfl (bp_cons (ev_tmp rfl) rfl rfl rfl rfl rfl (bp_cons (ev_tmp rfl) rfl rfl rfl rfl rfl bp_nil))) rfl ?_
    refine o_build1 (k := 97) (js := []) hT rfl rfl rfl rfl rfl rfl rfl rfl rfl (ev_tmp rfl) rfl rfl (ow_cons' (ow_dv rfl) (ow_cons' (ow_dv rfl) ow_nil rfl) rfl) (by decide) (by decide) rfl rfl ?_
    simp only [killT, killB, SV.kill, CV.kill, kk, Nat.reduceBEq]
    refine o_appK (k := 90900) (j := 97) (cs := (d.2.2.2 ++ [u.2]).flatMap eDef) (n := (d.2.2.2 ++ [u.2]).length) hT rfl rfl rfl rfl rfl rfl rfl (ev_tmp rfl) rfl rfl rfl (ev_tmp rfl) rfl rfl (by decide) (by dsimp only [kcOf, KC.old]; omega) (by dsimp only [kcOf, KC.old]; omega) (by rw [List.length_append]; rfl) (by rw [List.flatMap_append]; rfl) ?_
    simp only [killT, killB, SV.kill, CV.kill, kk, Nat.reduceBEq]
    iterate 2 refine z ?_
    refine ops_nil ?_
    iterate 2 refine z ?_
    refine ok_seq ?_
    refine ok_seq ?_
    refine ok_weak (weak_eq (k := 90900) (c' := kcOf false (defsD (d.2.2.2 ++ [u.2]))) rfl (rfl) rfl) ?_
    refine ok_region ?_
    refine z ?_
    refine zC Try.call74 ?_ (hf := ok_spec_IsDatabase (x := d))
    iterate 3 refine z ?_
    refine o_callG (gd_bool rfl rfl rfl rfl rfl) rfl rfl Try.call74 (ok_spec_IsDatabase (x := (d.1, d.2.1, d.2.2.1, (d.2.2.2 ++ [u.2])))) (fun hg => (as_cons (ev_opt rfl hg) (ag_agg (ag_cons ac_dv (ag_cons ac_dv (ag_cons (ac_key' rfl rfl) (ag_cons (ac_key' rfl rfl) ag_nil))))) as_nil)) rfl rfl ?_
    iterate 3 refine z ?_
    refine yQ rfl (fun c7 => ?_) fun c7 => ?_
    ·skip
     refine ok_seq ?_
     refine ok_weak (σ' := ⟨[(2, .box 2 0), (3, .box 3 0), (4, .box 4 0), (5, .one (.dv [] (.bool (false))))], [(2, 41, [(.dv [] (.str (d.1))), (.dv [] (.int .i64 (d.2.1))), (.dv [] (storesD (d.2.2.1))), (.dv [] (defsD (d.2.2.2)))]), (3, 116, [(.dv [] (.int .i64 (u.1))), (.dv [] (.str (u.2.1))), (.dv [] (.str (u.2.2)))]), (4, 41, [(.dv [] (.str (ByteArray.empty))), (.dv [] (.int .i64 (0))), .nil, .nil])], []⟩) (weak_sub ⟨rfl, rfl, rfl, rfl, trivial⟩ ⟨rfl, rfl, rfl, trivial⟩ trivial rfl) ?_
     refine ok_region ?_
     refine z ?_
     refine zK 90000 Try.call50 ?_ (hf := ok_spec_l8Copy (x := d) (by omega))
     iterate 3 refine z ?_
     rw [upA_out (o := (d.1, d.2.1, d.2.2.1, (d.2.2.2 ++ [u.2]))) (fun _ => by rw [upI_3 hk1.1]) c7]
     refine ok_weak (σ' := ⟨[(4, .box 4 0), (5, .one (.dv [] (.bool (false))))], [(4, 41, [(.dv [] (.str ((d).1))), (.dv [] (.int .i64 ((d).2.1))), (.key 90031), (.key 90900)])], [(90031, some (kcOf false (storesD (d.2.2.1)))), (90900, some (kcOf false (defsD (d.2.2.2))))]⟩) (weak_sub ⟨rfl, rfl, trivial⟩ ⟨rfl, trivial⟩ ⟨rfl, rfl, trivial⟩ rfl) ?_
     iterate 2 refine z ?_
     refine fin2 (res_cell hT rfl rfl rfl rfl) (res_tmp rfl) rfl rfl ?_
     first | exact ⟨rfl, rfl⟩ | skip
    ·skip
     iterate 7 refine z ?_
     rw [upA_yes (o := (d.1, d.2.1, d.2.2.1, (d.2.2.2 ++ [u.2]))) (fun _ => by rw [upI_3 hk1.1]) (by rw [upI_3 hk1.1]; exact decide_eq_true hk1.2.2) c7]
     refine ok_weak (σ' := ⟨[(4, .box 4 0), (5, .one (.dv [] (.bool (true))))], [(4, 41, [(.dv [] (.str ((d).1))), (.dv [] (.int .i64 ((d).2.1))), (.key 90031), (.key 90900)])], [(90031, some (kcOf false (storesD (d.2.2.1)))), (90900, some (kcOf false (defsD ((d.2.2.2 ++ [u.2])))))]⟩) (weak_sub ⟨rfl, rfl, trivial⟩ ⟨rfl, trivial⟩ ⟨rfl, rfl, trivial⟩ rfl) ?_
     refine z ?_
     refine fin2 (res_cell hT rfl rfl rfl rfl) (res_tmp rfl) rfl rfl ?_
     first | exact ⟨rfl, rfl⟩ | skip
   ·skip
    have hn6 : ¬ (u.1 = 3 ∧ 0 ≤ (findI (hasName u.2.1) d.2.2.1 0) ∧ (findI (eqDefB u.2) d.2.2.2 0) < 0) := fun h => by
     have h8 := c6
     rw [show (decide (u.1 = 3) && decide (0 ≤ (findI (hasName u.2.1) d.2.2.1 0)) && decide ((findI (eqDefB u.2) d.2.2.2 0) < 0)) = true by simp only [Bool.and_eq_true, decide_eq_true_eq, and_assoc]; exact h] at h8
     cases h8
    iterate 10 refine z ?_
    refine yQ rfl (fun c8 => ?_) fun c8 => ?_
    ·skip
     have hk1 : u.1 = 4 ∧ 0 ≤ (findI (eqDefB u.2) d.2.2.2 0) := by simpa only [Bool.and_eq_true, decide_eq_true_eq, and_assoc] using c8
     have hlt2 : (findI (eqDefB u.2) d.2.2.2 0) < (d.2.2.2.length : Int) := by rcases findI_lt (p := eqDefB u.2) d.2.2.2 0 (by omega) with h | h <;> omega
     refine ok_regionD (oB := [2, 3, 4, 6]) (oK := [90031, 90900]) (by kernel_rfl) rfl rfl ?_
     refine zD 0 ?_
     refine zD 1 ?_
     refine zD 2 ?_
     refine d_take 3 rfl (by kernel_rfl) rfl rfl (pu_kslH (j := 90900) (n := (((d).2.2.2)).length) (hi := (findI (eqDefB (u).2) (d).2.2.2 0).toNat) (sz := 2) (z := findI (eqDefB (u).2) (d).2.2.2 0) hT rfl rfl rfl (ev_tmp rfl) rfl (ev_tmp rfl) rfl rfl (by omega) (by omega)) rfl rfl rfl rfl ?_
     refine zD 4 ?_
     refine zD 5 ?_
     refine zD 6 ?_
     refine zD 7 ?_
     refine d_take 8 rfl (by kernel_rfl) rfl rfl (pu_kslL (j := 90900) (n := (((d).2.2.2)).length) (lo := ((findI (eqDefB (u).2) (d).2.2.2 0) + (1)).toNat) (sz := 2) (z := (findI (eqDefB (u).2) (d).2.2.2 0) + (1)) hT rfl rfl rfl (ev_tmp rfl) rfl (ev_tmp rfl) rfl rfl (by omega) (by omega)) rfl rfl rfl rfl ?_
     refine d_chain [9, 10, 11] rfl rfl (by kernel_rfl) ?_
     refine o_appKK (k := 90900) (m := m) (cs := (d.2.2.2.eraseIdx (findI (eqDefB u.2) d.2.2.2 0).toNat).flatMap eDef ++ List.replicate 2 DV.hole) hT rfl rfl rfl rfl rfl rfl (ev_tmp rfl) (ev_tmp rfl) rfl rfl rfl rfl (by omega) (by first | omega | (dsimp only [kcOf, KC.old]; omega)) (by first | omega | (dsimp only [kcOf, KC.old]; omega)) (er_app (sz := 2) (fun _ => rfl) hk1.2 rfl hlt2) ?_
     simp only [killT, killB, SV.kill, CV.kill, kk, Nat.reduceBEq]
     refine ops_weak (weak_cut (s := 117) (k := 90900) (m := m) (sz := 2) (cs := (d.2.2.2.eraseIdx (findI (eqDefB u.2) d.2.2.2 0).toNat).flatMap eDef) rfl rfl rfl rfl (by first | omega | (dsimp only [kcOf, KC.old]; omega) | (show m ≤ d.2.2.2.length; omega)) (er_cut hm (sz := 2) (fun _ => rfl) hk1.2 hlt2)) ?_
     simp only [killT, killB, SV.kill, CV.kill, kk, Nat.reduceBEq]
     iterate 2 refine z ?_
     refine ops_nil ?_
     iterate 2 refine z ?_
     refine ok_seq ?_
     refine ok_seq ?_
     refine ok_weak (weak_eq (k := 90900) (c' := kcOf false (defsD (d.2.2.2.eraseIdx (findI (eqDefB u.2) d.2.2.2 0).toNat))) rfl (congrArg (fun n => KC.mk false 101 2 n ((d.2.2.2.eraseIdx (findI (eqDefB u.2) d.2.2.2 0).toNat).flatMap eDef)) (hm.trans (er_len hk1.2 hlt2))) rfl) ?_
     refine ok_region ?_
     refine z ?_
     refine zC Try.call74 ?_ (hf := ok_spec_IsDatabase (x := d))
     iterate 3 refine z ?_
     refine o_callG (gd_bool rfl rfl rfl rfl rfl) rfl rfl Try.call74 (ok_spec_IsDatabase (x := (d.1, d.2.1, d.2.2.1, (d.2.2.2.eraseIdx (findI (eqDefB u.2) d.2.2.2 0).toNat)))) (fun hg => (as_cons (ev_opt rfl hg) (ag_agg (ag_cons ac_dv (ag_cons ac_dv (ag_cons (ac_key' rfl rfl) (ag_cons (ac_key' rfl rfl) ag_nil))))) as_nil)) rfl rfl ?_
     iterate 3 refine z ?_
     refine yQ rfl (fun c9 => ?_) fun c9 => ?_
     ·skip
      refine ok_seq ?_
      refine ok_weak (σ' := ⟨[(2, .box 2 0), (3, .box 3 0), (4, .box 4 0), (5, .one (.dv [] (.bool (false))))], [(2, 41, [(.dv [] (.str (d.1))), (.dv [] (.int .i64 (d.2.1))), (.dv [] (storesD (d.2.2.1))), (.dv [] (defsD (d.2.2.2)))]), (3, 116, [(.dv [] (.int .i64 (u.1))), (.dv [] (.str (u.2.1))), (.dv [] (.str (u.2.2)))]), (4, 41, [(.dv [] (.str (ByteArray.empty))), (.dv [] (.int .i64 (0))), .nil, .nil])], []⟩) (weak_sub ⟨rfl, rfl, rfl, rfl, trivial⟩ ⟨rfl, rfl, rfl, trivial⟩ trivial rfl) ?_
      refine ok_region ?_
      refine z ?_
      refine zK 90000 Try.call50 ?_ (hf := ok_spec_l8Copy (x := d) (by omega))
      iterate 3 refine z ?_
      rw [upA_out (o := (d.1, d.2.1, d.2.2.1, (d.2.2.2.eraseIdx (findI (eqDefB u.2) d.2.2.2 0).toNat))) (fun _ => by rw [upI_4 hk1.1 hk1.2]) c9]
      refine ok_weak (σ' := ⟨[(4, .box 4 0), (5, .one (.dv [] (.bool (false))))], [(4, 41, [(.dv [] (.str ((d).1))), (.dv [] (.int .i64 ((d).2.1))), (.key 90031), (.key 90900)])], [(90031, some (kcOf false (storesD (d.2.2.1)))), (90900, some (kcOf false (defsD (d.2.2.2))))]⟩) (weak_sub ⟨rfl, rfl, trivial⟩ ⟨rfl, trivial⟩ ⟨rfl, rfl, trivial⟩ rfl) ?_
      iterate 2 refine z ?_
      refine fin2 (res_cell hT rfl rfl rfl rfl) (res_tmp rfl) rfl rfl ?_
      first | exact ⟨rfl, rfl⟩ | skip
     ·skip
      iterate 7 refine z ?_
      rw [upA_yes (o := (d.1, d.2.1, d.2.2.1, (d.2.2.2.eraseIdx (findI (eqDefB u.2) d.2.2.2 0).toNat))) (fun _ => by rw [upI_4 hk1.1 hk1.2]) (by rw [upI_4 hk1.1 hk1.2]; exact decide_eq_true hk1.2) c9]
      refine ok_weak (σ' := ⟨[(4, .box 4 0), (5, .one (.dv [] (.bool (true))))], [(4, 41, [(.dv [] (.str ((d).1))), (.dv [] (.int .i64 ((d).2.1))), (.key 90031), (.key 90900)])], [(90031, some (kcOf false (storesD (d.2.2.1)))), (90900, some (kcOf false (defsD ((d.2.2.2.eraseIdx (findI (eqDefB u.2) d.2.2.2 0).toNat)))))]⟩) (weak_sub ⟨rfl, rfl, trivial⟩ ⟨rfl, trivial⟩ ⟨rfl, rfl, trivial⟩ rfl) ?_
      refine z ?_
      refine fin2 (res_cell hT rfl rfl rfl rfl) (res_tmp rfl) rfl rfl ?_
      first | exact ⟨rfl, rfl⟩ | skip
    ·skip
     have hn8 : ¬ (u.1 = 4 ∧ 0 ≤ (findI (eqDefB u.2) d.2.2.2 0)) := fun h => by
      have h8 := c8
      rw [show (decide (u.1 = 4) && decide (0 ≤ (findI (eqDefB u.2) d.2.2.2 0))) = true by simp only [Bool.and_eq_true, decide_eq_true_eq, and_assoc]; exact h] at h8
      cases h8
     iterate 5 refine z ?_
     rw [upA_def hn1 hn4 hn6 hn8]
     refine ok_weak (σ' := ⟨[(4, .box 4 0), (5, .one (.dv [] (.bool (false))))], [(4, 41, [(.dv [] (.str ((d).1))), (.dv [] (.int .i64 ((d).2.1))), (.key 90031), (.key 90900)])], [(90031, some (kcOf false (storesD (d.2.2.1)))), (90900, some (kcOf false (defsD (d.2.2.2))))]⟩) (weak_sub ⟨rfl, rfl, trivial⟩ ⟨rfl, trivial⟩ ⟨rfl, rfl, trivial⟩ rfl) ?_
     iterate 3 refine z ?_
     refine fin2 (res_cell hT rfl rfl rfl rfl) (res_tmp rfl) rfl rfl ?_
     first | exact ⟨rfl, rfl⟩ | skip
end Go.Proofs.Ytjkpoekgnmgofaa

namespace Go.Proofs.Ytjkpoekgnmgofaa
open Go.RowKit
open Go.Proofs
set_option linter.unusedVariables false
set_option linter.unusedSimpArgs false

theorem kEq_eq {a b : KeyT} (h : kEq a b = true) : a = b := by
 simp only [kEq, sEq, Bool.and_eq_true, decide_eq_true_eq, beq_iff_eq] at h
 exact Prod.ext h.1 (Prod.ext h.2.1 (by
  have := h.2.2
  rw [toList_data, toList_data] at this
  exact ByteArray.ext (Array.toList_inj.1 this)))
theorem setI_keys {l : List ItemT} {i : Nat} {r : RecT} : (setI l i r).map Prod.fst = l.map Prod.fst := by
 apply List.ext_getElem?
 intro j
 rw [setI, List.getElem?_map, List.getElem?_set, List.getElem?_map]
 by_cases h : i = j
 ·subst h
  by_cases h2 : i < l.length
  ·simp [h2, List.getD]
  ·simp [h2]
 ·simp [h]
theorem put_cases {x : StoreT} {k : KeyT} {r : RecT} (h : (putN x k r).2 = true) : isSto x = true ∧ isKey k = true ∧ isRec r = true ∧
  ((0 ≤ fndK x k ∧ putN x k r = ((x.1, setI x.2.1 (fndK x k).toNat r, x.2.2), true)) ∨ (fndK x k < 0 ∧ x.2.1.length < 16 ∧ putN x k r = ((x.1, insI x.2.1 (posK k x.2.1) (k, r), autoP x k), true))) := by
 unfold putN at h ⊢
 split at h
 ·cases h
 ·rename_i h1
  have h1' : isSto x = true ∧ isKey k = true ∧ isRec r = true := by
   revert h1; cases isSto x <;> cases isKey k <;> cases isRec r <;> simp
  refine ⟨h1'.1, h1'.2.1, h1'.2.2, ?_⟩
  rw [if_neg h1]
  split at h
  ·rename_i h2
   exact .inl ⟨h2, by rw [if_pos h2]⟩
  ·rename_i h2
   split at h
   ·cases h
   ·rename_i h3
    exact .inr ⟨by omega, by omega, by rw [if_neg h2, if_neg h3]⟩
theorem put_sto {x : StoreT} {k : KeyT} {r : RecT} (h : (putN x k r).2 = true) : isSto (putN x k r).1 = true := by
 obtain ⟨hs, hk, hr, ⟨h1, h2⟩ | ⟨h1, h3, h2⟩⟩ := put_cases h
 ·rw [h2]; dsimp only
  have h4 := fndK_lt h1
  rw [sto_set hs (by omega), hr]
 ·rw [h2]; dsimp only
  rw [sto_ins hs hk h1 (auto_ok hs), hr]; simpa using h3
theorem putN_sto {x : StoreT} {k : KeyT} {r : RecT} (h : isSto x = true) : isSto (putN x k r).1 = true := by
 cases h2 : (putN x k r).2 with
 | true => exact put_sto h2
 | false => rw [putN_f h2]; exact h
theorem putN_name (x : StoreT) (k : KeyT) (r : RecT) : (putN x k r).1.1 = x.1 := by
 cases h2 : (putN x k r).2 with
 | true => obtain ⟨_, _, _, ⟨_, h⟩ | ⟨_, _, h⟩⟩ := put_cases h2 <;> rw [h]
 | false => rw [putN_f h2]
theorem put_auto {x : StoreT} {k : KeyT} {r : RecT} : x.2.2 ≤ (putN x k r).1.2.2 := by
 cases h2 : (putN x k r).2 with
 | true =>
  obtain ⟨_, _, _, ⟨_, h⟩ | ⟨_, _, h⟩⟩ := put_cases h2 <;> rw [h]
  ·exact Int.le_refl _
  ·dsimp only
   unfold autoP
   split
   ·rename_i h3
    simp only [Bool.and_eq_true, decide_eq_true_eq] at h3
    omega
   ·omega
 | false => rw [putN_f h2]; exact Int.le_refl _
end Go.Proofs.Ytjkpoekgnmgofaa

namespace Go.Proofs.Ytjkpoekgnmgofaa
open Go.RowKit
open Go.Proofs
set_option linter.unusedVariables false
set_option linter.unusedSimpArgs false

theorem sgnI_neg {a b : Int} : sgnI a b < 0 ↔ a < b := by unfold sgnI; split <;> (try split) <;> omega
theorem sgnS_neg {a b : Str} : sgnS a b < 0 ↔ sLt a b = true := by
 unfold sgnS
 split
 ·rename_i h; simp [h]
 ·rename_i h; split <;> simp [h]
theorem cmp_lt {a b : KeyT} (h : cmpK a b < 0) : isKey a = true ∧ isKey b = true ∧ (a.1 < b.1 ∨ (a.1 = b.1 ∧ (a.2.1 < b.2.1 ∨ (a.2.1 = b.2.1 ∧ sLt a.2.2 b.2.2 = true)))) := by
 by_cases hk : (!isKey a || !isKey b) = true
 ·rw [cmpK_bad hk] at h; omega
 ·have hk : (!isKey a || !isKey b) = false := by simpa using hk
  obtain ⟨ha, hb⟩ := not_or_f hk
  refine ⟨ha, hb, ?_⟩
  by_cases h1 : a.1 = b.1
  ·by_cases h2 : a.2.1 = b.2.1
   ·rw [cmpK_text hk h1 h2, sgnS_neg] at h; exact .inr ⟨h1, .inr ⟨h2, h⟩⟩
   ·rw [cmpK_num hk h1 h2, sgnI_neg] at h; exact .inr ⟨h1, .inl h⟩
  ·rw [cmpK_kind hk h1, sgnI_neg] at h; exact .inl h
theorem lt_cmp {a b : KeyT} (ha : isKey a = true) (hb : isKey b = true) (h : a.1 < b.1 ∨ (a.1 = b.1 ∧ (a.2.1 < b.2.1 ∨ (a.2.1 = b.2.1 ∧ sLt a.2.2 b.2.2 = true)))) : cmpK a b < 0 := by
 have hk : (!isKey a || !isKey b) = false := by rw [ha, hb]; rfl
 rcases h with h | ⟨h1, h | ⟨h2, h⟩⟩
 ·rw [cmpK_kind hk (by omega), sgnI_neg]; exact h
 ·rw [cmpK_num hk h1 (by omega), sgnI_neg]; exact h
 ·rw [cmpK_text hk h1 h2, sgnS_neg]; exact h
theorem cmp_trans {a b c : KeyT} (h1 : cmpK a b < 0) (h2 : cmpK b c < 0) : cmpK a c < 0 := by
 obtain ⟨ha, hb, k1⟩ := cmp_lt h1
 obtain ⟨_, hc, k2⟩ := cmp_lt h2
 refine lt_cmp ha hc ?_
 rcases k1 with k1 | ⟨e1, k1 | ⟨e2, k1⟩⟩ <;> rcases k2 with k2 | ⟨f1, k2 | ⟨f2, k2⟩⟩
 ·exact .inl (by omega)
 ·exact .inl (by omega)
 ·exact .inl (by omega)
 ·exact .inl (by omega)
 ·exact .inr ⟨by omega, .inl (by omega)⟩
 ·exact .inr ⟨by omega, .inl (by omega)⟩
 ·exact .inl (by omega)
 ·exact .inr ⟨by omega, .inl (by omega)⟩
 ·exact .inr ⟨by omega, .inr ⟨by omega, (bl_trans _ _ _ k1 k2)⟩⟩
abbrev Srt (l : List ItemT) : Prop := l.Pairwise fun a b => cmpK a.1 b.1 < 0
theorem okL_srt : ∀ (l : List ItemT) (p : Option KeyT), okL p l = true → Srt l ∧ (∀ q, p = some q → ∀ y ∈ l, cmpK q y.1 < 0) ∧ ∀ y ∈ l, isKey y.1 = true
 | [], _, _ => ⟨List.Pairwise.nil, by simp, by simp⟩
 | x :: l, p, h => by
  simp only [okL, Bool.and_eq_true] at h
  obtain ⟨i1, i2, i3⟩ := okL_srt l (some x.1) (by first | exact h.2 | exact h.1.2)
  have hx : relP p x.1 = true := by first | exact h.1.2 | exact h.1.1.2 | exact h.2.1 | grind
  have hkx : isKey x.1 = true := by first | exact h.1.1.1 | exact h.1.1 | grind
  refine ⟨List.pairwise_cons.2 ⟨i2 _ rfl, i1⟩, ?_, ?_⟩
  ·rintro q rfl y hy
   have hq : cmpK q x.1 < 0 := by simpa [relP] using hx
   rcases List.mem_cons.1 hy with rfl | hy
   ·exact hq
   ·exact cmp_trans hq (i2 _ rfl y hy)
  ·intro y hy
   rcases List.mem_cons.1 hy with rfl | hy
   ·exact hkx
   ·exact i3 y hy
theorem sto_srt {s : StoreT} (h : isSto s = true) : Srt s.2.1 ∧ (∀ y ∈ s.2.1, isKey y.1 = true) ∧ s.2.1.length ≤ 16 := by
 rw [isSto_eq] at h
 simp only [Bool.and_eq_true, decide_eq_true_eq] at h
 obtain ⟨h1, _, h3⟩ := okL_srt _ _ h.1
 exact ⟨h1, h3, by omega⟩
/-! ### walks of a cursor -/
end Go.Proofs.Ytjkpoekgnmgofaa

namespace Go.Proofs.Ytjkpoekgnmgofaa
open Go.RowKit
open Go.Proofs
set_option linter.unusedVariables false
set_option linter.unusedSimpArgs false

theorem runOps_out {d : DbT} {l : List OpT} (h : (runOps d l).2.2 = false) : (runOps d l).1 = d ∧ (runOps d l).2.1 = [] := by
 unfold runOps at h ⊢
 split
 ·exact ⟨rfl, rfl⟩
 ·rename_i h1
  rw [if_neg h1] at h
  cases hg : goOps d l with
  | none => exact ⟨rfl, rfl⟩
  | some r => rw [hg] at h; cases h
theorem runOps_ok {d : DbT} {l : List OpT} (h : (runOps d l).2.2 = true) : isDb d = true ∧ l.length ≤ 6 ∧ ∃ c ns, goOps d l = some (c, ns) ∧ runOps d l = (c, ns, true) := by
 unfold runOps at h ⊢
 split at h
 ·cases h
 ·rename_i h1
  rw [if_neg h1]
  cases hg : goOps d l with
  | none => rw [hg] at h; cases h
  | some r =>
   have h2 : (!isDb d || decide ((6 : Int) < (l.length : Int))) = false := by simpa using h1
   refine ⟨?_, opsG h2, r.1, r.2, rfl, rfl⟩
   cases hd : isDb d with
   | true => rfl
   | false => rw [hd] at h2; cases h2
theorem op_rd0 {c : DbT} {o : OpT} (h : (runOp c o).2.2 = true) (hw : isWr o = false) : (runOp c o).1 = c := by
 unfold runOp at h ⊢
 split
 ·rfl
 ·rename_i h1
  rw [if_neg h1] at h
  split
  ·rfl
  ·obtain ⟨_, ho, hf⟩ := runG (by simpa using h1)
   have h4 : o.1 = 4 := by
    unfold isWr at hw
    simp only [isOpB, Bool.and_eq_true, decide_eq_true_eq] at ho
    have := ho.1.1.1.1
    simp only [Bool.and_eq_false_iff, decide_eq_false_iff_not, Bool.not_eq_false', decide_eq_true_eq] at hw
    omega
   have e : opM (stOf c o) o = (stOf c o, getN (stOf c o) o.2.2.1, true) := by unfold opM; rw [if_neg (by omega), if_neg (by omega), if_neg (by omega), if_pos h4]
   rw [e]
   dsimp only
   have hl : fndS c o.2.1 < c.2.2.1.length := by
    rcases findI_lt (p := hasName o.2.1) c.2.2.1 0 (by omega) with h5 | h5
    ·unfold fndS; omega
    ·unfold fndS at hf; omega
   unfold stOf
   exact putS_self (by omega)
end Go.Proofs.Ytjkpoekgnmgofaa

namespace Go.Proofs.Ytjkpoekgnmgofaa
open Go.RowKit
open Go.Proofs
set_option linter.unusedVariables false
set_option linter.unusedSimpArgs false

theorem sEq_iff {a b : Str} : sEq a b = true ↔ a = b := by
 unfold sEq
 rw [beq_iff_eq]
 constructor
 ·intro h
  rw [toList_data, toList_data] at h
  exact ByteArray.ext (Array.toList_inj.1 h)
 ·intro h; rw [h]
theorem fnd_any (d : DbT) (n : Str) : decide (0 ≤ fndS d n) = d.2.2.1.any (hasName n) := findI_any _
theorem fnd_pos {d : DbT} {n : Str} (h : d.2.2.1.any (hasName n) = true) : 0 ≤ fndS d n := by rw [← fnd_any] at h; exact of_decide_eq_true h
theorem upA_ok {d : DbT} {u : UpgT} (h : (upA d u).2 = true) : isDb d = true ∧ (upI d u).2 = true ∧ isDb (upI d u).1 = true ∧ upA d u = ((upI d u).1, true) := by
 unfold upA at h ⊢
 split at h
 ·cases h
 ·rename_i h1
  rw [if_neg h1]
  simp only [Bool.or_eq_true, Bool.not_eq_true', not_or, Bool.not_eq_false] at h1
  exact ⟨h1.1.1, h1.1.2, h1.2, rfl⟩
theorem upA_f {d : DbT} {u : UpgT} (h : (upA d u).2 = false) : (upA d u).1 = d := by
 unfold upA at h ⊢
 split
 ·rfl
 ·rename_i h1; rw [if_neg h1] at h; cases h
theorem db_un {d : DbT} (h : isDb d = true) {x : DefT} (hx : x ∈ d.2.2.2) : 0 ≤ fndS d x.1 := by
 obtain ⟨i, hi, rfl⟩ := List.mem_iff_getElem.1 hx
 rw [isDb, Bool.and_eq_true, Bool.and_eq_true] at h
 have h1 := h.2.2
 rw [dbUn, List.all_eq_true] at h1
 have h2 := h1 i (List.mem_range.2 hi)
 unfold unBad at h2
 rw [Int.toNat_natCast, List.getD_eq_getElem?_getD, List.getElem?_eq_getElem hi] at h2
 simp only [Option.getD_some, Bool.not_eq_true', Bool.or_eq_false_iff, decide_eq_false_iff_not] at h2
 have := h2.1.1.1
 omega
theorem upA_db {d : DbT} {u : UpgT} (h : (upA d u).2 = true) : isDb (upA d u).1 = true := by
 obtain ⟨_, _, h2, h3⟩ := upA_ok h
 rw [h3]; exact h2
/-! ### upgrades -/
theorem srtN_names : ∀ {l : List StoreT}, srtN l → ∀ {s t : StoreT}, s ∈ l → t ∈ l → s.1 = t.1 → s = t
 | [], _, _, _, hs, _, _ => by cases hs
 | y :: ys, h, s, t, hs, ht, he => by
  rcases List.mem_cons.1 hs with e1 | hs' <;> rcases List.mem_cons.1 ht with e2 | ht'
  ·rw [e1, e2]
  ·have := (sLt_ne (h.1 t ht')).1
   rw [← e1, he, sEq_iff.2 rfl] at this; cases this
  ·have := (sLt_ne (h.1 s hs')).1
   rw [← e2, he, sEq_iff.2 rfl] at this; cases this
  ·exact srtN_names h.2 hs' ht' he
theorem fnd_mem {d : DbT} (h : isDb d = true) {s : StoreT} (hs : s ∈ d.2.2.1) : 0 ≤ fndS d s.1 ∧ fndS d s.1 < (d.2.2.1.length : Int) ∧ d.2.2.1.getD (fndS d s.1).toNat default = s := by
 have h0 : 0 ≤ fndS d s.1 := fnd_pos (List.any_eq_true.2 ⟨s, hs, by rw [hasName]; exact sEq_iff.2 rfl⟩)
 rcases findI_cases (p := hasName s.1) (d := default) d.2.2.1 0 (by omega) with ⟨h1, _⟩ | ⟨m, h1, h2, _, h4⟩
 ·unfold fndS at h0; omega
 ·have e : fndS d s.1 = (m : Int) := by unfold fndS; omega
  rw [e]
  refine ⟨by omega, by omega, ?_⟩
  rw [Int.toNat_natCast]
  have hm : d.2.2.1.getD m default ∈ d.2.2.1 := by
   rw [List.getD_eq_getElem?_getD, List.getElem?_eq_getElem h1]; exact List.getElem_mem h1
  exact srtN_names (db_srt h) hm hs (sEq_iff.1 h4)
end Go.Proofs.Ytjkpoekgnmgofaa

namespace Go.Proofs.Ytjkpoekgnmgofaa
open Go.RowKit
open Go.Proofs
set_option linter.unusedVariables false
set_option linter.unusedSimpArgs false

theorem rem_rng {a n : Int} (ha : 0 ≤ a) (hn : 0 < n) : 0 ≤ a % n ∧ a % n < n := ⟨Int.emod_nonneg a (by omega), Int.emod_lt_of_pos a hn⟩
theorem getD_memI {l : List Int} {x : Int} (h0 : 0 ≤ x) (h1 : x < (l.length : Int)) : l.getD x.toNat default ∈ l := by
 rw [List.getD_eq_getElem?_getD, List.getElem?_eq_getElem (by omega)]; exact List.getElem_mem _
theorem getD_memS {l : List Str} {x : Int} (h0 : 0 ≤ x) (h1 : x < (l.length : Int)) : l.getD x.toNat default ∈ l := by
 rw [List.getD_eq_getElem?_getD, List.getElem?_eq_getElem (by omega)]; exact List.getElem_mem _

theorem ok_spec_l1New {code : List UInt8} (hc : code.length ≤ 1048576) : NFn Try.prog 10 63 (bytesD (code)) (fun zz : Int × Int => 0 ≤ zz.1) (fun zz : Int × Int => [.dv [] (.int .i64 (zz.1)), .dv [] (.int .i64 (zz.2))]) := by
 refine ⟨fn_intro Try.func10 rfl Try.ntmps10 Try.results10 rfl (fun C => ?_)⟩
 refine z ?_
 refine yO rfl rfl (pu_move (.inr rfl) ev_any) rfl ?_
 iterate 3 refine z ?_
 refine yO rfl rfl (pu_lenV hT rfl rfl (ev_argv (ev_tmp rfl))) rfl ?_
 iterate 8 refine z ?_
 refine ok_loop (ι := Int × Int) (fun zz => ⟨[(0, .one (.arg 0 (bytesD (code)))), (2, .one .any), (3, .one (.dv [] (.int .i64 (zz.1)))), (4, .one (.dv [] (.int .i64 (zz.2))))], [], []⟩) (fun zz => 0 ≤ zz.2) (fun zz => (code.length - zz.2).toNat) ((193017 + (code.length : Int), 0)) ?_ (weak_sub ⟨rfl, rfl, rfl, rfl, trivial⟩ trivial trivial rfl) (fun zz hx => ?_)
 ·exact Int.le_refl _
 obtain ⟨h, i⟩ := zz
 replace hx : 0 ≤ i := hx
 show Ok _ _ _ _ _ (⟨[(0, .one (.arg 0 (bytesD (code)))), (2, .one .any), (3, .one (.dv [] (.int .i64 (h)))), (4, .one (.dv [] (.int .i64 (i))))], [], []⟩ : St)
 iterate 4 refine z ?_
 refine yO rfl rfl (pu_lenV hT rfl rfl (ev_argv (ev_tmp rfl))) rfl ?_
 iterate 6 refine z ?_
 refine yQ rfl (fun c1 => ?_) fun c1 => ?_
 ·skip
  simp only [Bool.and_eq_true, decide_eq_true_eq] at c1
  iterate 4 refine z ?_
  refine ok_region ?_
  refine z ?_
  refine yO rfl rfl (pu_mul rfl (ev_tmp rfl) (ev_int (inR_lit rfl))) rfl ?_
  iterate 2 refine z ?_
  refine yO rfl rfl (pu_indexD hT rfl rfl rfl (ev_argv (ev_tmp rfl)) (ev_tmp rfl) (fun _ => rfl) (by omega) (by omega)) rfl ?_
  refine z ?_
  refine yO rfl rfl (pu_convI hT rfl rfl rfl (ev_tmp rfl)) rfl ?_
  refine yO rfl rfl (pu_add rfl (ev_tmp rfl) (ev_tmp rfl)) rfl ?_
  refine yO rfl rfl (pu_add rfl (ev_tmp rfl) (ev_int (inR_lit rfl))) rfl ?_
  refine yO rfl rfl (pu_andZ rfl (ev_tmp rfl) (ev_int (inR_lit rfl))) rfl ?_
  refine z ?_
  refine ops_nil ?_
  generalize bits .and .i64 (IntKind.i64.wrap ((IntKind.i64.wrap ((IntKind.i64.wrap ((h) * (137))) + (IntKind.i64.wrap ((((((code)).getD (i).toNat default)).toNat : Int))))) + (11))) (1073741823) = z27
  iterate 2 refine z ?_
  refine ok_region ?_
  iterate 4 refine z ?_
  refine ⟨(z27, i + 1), ?_, ?_, weak_sub ⟨rfl, rfl, rfl, rfl, trivial⟩ trivial trivial rfl⟩
  ·show 0 ≤ i + 1; omega
  ·dsimp only; omega
 ·skip
  iterate 8 refine z ?_
  refine yO rfl rfl (pu_build hT hB rfl rfl rfl (bp_cons (ev_tmp rfl) rfl rfl rfl rfl rfl (bp_cons (ev_tmp rfl) rfl rfl rfl rfl rfl bp_nil))) rfl ?_
  iterate 4 refine z ?_
  refine fin1 (res_tmp rfl) ⟨(0, h), 31, ?_, rfl, rfl⟩
  exact Int.le_refl _
theorem ok_spec_l1Byte {code : List UInt8} {i h : Int} (hc : code.length ≤ 1048576) (hi : 0 ≤ i) : BFn Try.prog 45 [] 63 (bytesD (code)) [.dv [] (.int .i64 (i)), .dv [] (.int .i64 (h))] (fun zz : Int × Int × Int => 0 ≤ zz.1 ∧ zz.1 ≤ 255 ∧ 0 ≤ zz.2.1) (fun zz : Int × Int × Int => .one (.dv [] (.int .i64 (zz.1)))) (fun zz : Int × Int × Int => []) (fun zz : Int × Int × Int => [.dv [] (.int .i64 (zz.2.1)), .dv [] (.int .i64 (zz.2.2))]) := by
 refine ⟨fn_introS Try.func45 rfl Try.ntmps45 Try.results45 rfl (fun C => ?_)⟩
 iterate 4 refine z ?_
 refine yO rfl rfl (pu_move (.inl rfl) (ev_abox (ev_tmp rfl))) rfl ?_
 refine yO rfl rfl (pu_move (.inl rfl) (ev_abox (ev_tmp rfl))) rfl ?_
 refine yO rfl rfl (pu_nilB rfl (ev_tmp rfl)) rfl ?_
 iterate 2 refine z ?_
 refine yO rfl rfl (pu_mul rfl (ev_tmp rfl) (ev_int (inR_lit rfl))) rfl ?_
 refine yO rfl rfl (pu_add rfl (ev_tmp rfl) (ev_int (inR_lit rfl))) rfl ?_
 refine yO rfl rfl (pu_nilB rfl (ev_tmp rfl)) rfl ?_
 iterate 2 refine z ?_
 refine ops_nil ?_
 generalize IntKind.i64.wrap ((IntKind.i64.wrap ((h) * (6364136223846793005))) + (1442695040888963407)) = z10
 refine z ?_
 refine ok_seq ?_
 refine ok_regionD (oB := [0]) (oK := []) (by kernel_rfl) rfl rfl ?_
 refine d_take 0 rfl (by kernel_rfl) rfl rfl (pu_move (.inl rfl) (ev_abox (ev_tmp rfl))) rfl rfl rfl rfl ?_
 refine d_take 1 rfl (by kernel_rfl) rfl rfl (pu_nilB rfl (ev_tmp rfl)) rfl rfl rfl rfl ?_
 refine zD 2 ?_
 refine zD 3 ?_
 refine d_take 4 rfl (by kernel_rfl) rfl rfl (pu_shrZ rfl (ev_tmp rfl) (ev_int (inR_lit rfl)) (by omega) (by decide)) rfl rfl rfl rfl ?_
 refine d_take 5 rfl (by kernel_rfl) rfl rfl (pu_move (.inl rfl) (ev_abox (ev_tmp rfl))) rfl rfl rfl rfl ?_
 refine d_take 6 rfl (by kernel_rfl) rfl rfl (pu_nilB rfl (ev_tmp rfl)) rfl rfl rfl rfl ?_
 refine zD 7 ?_
 refine zD 8 ?_
 refine d_take 9 rfl (by kernel_rfl) rfl rfl (pu_shrZ rfl (ev_tmp rfl) (ev_int (inR_lit rfl)) (by omega) (by decide)) rfl rfl rfl rfl ?_
 refine d_take 10 rfl (by kernel_rfl) rfl rfl (pu_xorZ rfl (ev_tmp rfl) (ev_tmp rfl)) rfl rfl rfl rfl ?_
 refine d_take 11 rfl (by kernel_rfl) rfl rfl (pu_andZ rfl (ev_tmp rfl) (ev_int (inR_lit rfl))) rfl rfl rfl rfl ?_
 refine zD 12 ?_
 refine d_done (by kernel_rfl) ?_
 have q24 := and255_rng (bits .xor .i64 ((z10) / (2 ^ (33 : Int).toNat : Nat)) ((z10) / (2 ^ (47 : Int).toNat : Nat)))
 generalize bits .and .i64 (bits .xor .i64 ((z10) / (2 ^ (33 : Int).toNat : Nat)) ((z10) / (2 ^ (47 : Int).toNat : Nat))) (255) = z24 at *
 refine z ?_
 refine ok_seq ?_
 refine ok_seq ?_
 refine ok_regionD (oB := [0]) (oK := []) (by kernel_rfl) rfl rfl ?_
 refine d_take 0 rfl (by kernel_rfl) rfl rfl (pu_move (.inl rfl) (ev_abox (ev_tmp rfl))) rfl rfl rfl rfl ?_
 refine d_take 1 rfl (by kernel_rfl) rfl rfl (pu_nilB rfl (ev_tmp rfl)) rfl rfl rfl rfl ?_
 refine zD 2 ?_
 refine zD 3 ?_
 refine d_take 4 rfl (by kernel_rfl) rfl rfl (pu_move (.inl rfl) (ev_abox (ev_tmp rfl))) rfl rfl rfl rfl ?_
 refine d_take 5 rfl (by kernel_rfl) rfl rfl (pu_nilB rfl (ev_tmp rfl)) rfl rfl rfl rfl ?_
 refine zD 6 ?_
 refine zD 7 ?_
 refine d_take 8 rfl (by kernel_rfl) rfl rfl (pu_lenV hT rfl rfl (ev_argv (ev_tmp rfl))) rfl rfl rfl rfl ?_
 refine zD 9 ?_
 refine d_done (by kernel_rfl) ?_
 refine z ?_
 refine yQ rfl (fun c1 => ?_) fun c1 => ?_
 ·skip
  have d1 := of_decide_eq_true c1
  refine ok_seq ?_
  refine ok_regionD (oB := [0]) (oK := []) (by kernel_rfl) rfl rfl ?_
  refine zD 0 ?_
  refine d_take 1 rfl (by kernel_rfl) rfl rfl (pu_move (.inl rfl) (ev_abox (ev_tmp rfl))) rfl rfl rfl rfl ?_
  refine d_take 2 rfl (by kernel_rfl) rfl rfl (pu_nilB rfl (ev_tmp rfl)) rfl rfl rfl rfl ?_
  refine zD 3 ?_
  refine zD 4 ?_
  refine d_take 5 rfl (by kernel_rfl) rfl rfl (pu_move (.inl rfl) (ev_abox (ev_tmp rfl))) rfl rfl rfl rfl ?_
  refine d_take 6 rfl (by kernel_rfl) rfl rfl (pu_nilB rfl (ev_tmp rfl)) rfl rfl rfl rfl ?_
  refine zD 7 ?_
  refine zD 8 ?_
  refine d_take 9 rfl (by kernel_rfl) rfl rfl (pu_indexD hT rfl rfl rfl (ev_argv (ev_tmp rfl)) (ev_tmp rfl) (fun _ => rfl) (by omega) (by omega)) rfl rfl rfl rfl ?_
  refine zD 10 ?_
  refine d_take 11 rfl (by kernel_rfl) rfl rfl (pu_convI hT rfl rfl rfl (ev_tmp rfl)) rfl rfl rfl rfl ?_
  refine d_take 12 rfl (by kernel_rfl) rfl rfl (pu_add rfl (ev_tmp rfl) (ev_tmp rfl)) rfl rfl rfl rfl ?_
  refine d_take 13 rfl (by kernel_rfl) rfl rfl (pu_andZ rfl (ev_tmp rfl) (ev_int (inR_lit rfl))) rfl rfl rfl rfl ?_
  refine zD 14 ?_
  refine d_done (by kernel_rfl) ?_
  have q48 : 0 ≤ bits .and .i64 (IntKind.i64.wrap ((z24) + (IntKind.i64.wrap ((((((code)).getD (i).toNat default)).toNat : Int))))) (255) ∧ _ := and255_rng _
  generalize bits .and .i64 (IntKind.i64.wrap ((z24) + (IntKind.i64.wrap ((((((code)).getD (i).toNat default)).toNat : Int))))) (255) = z48 at *
  refine z ?_
  refine ok_region ?_
  refine yO rfl rfl (pu_move (.inl rfl) (ev_abox (ev_tmp rfl))) rfl ?_
  refine yO rfl rfl (pu_move (.inl rfl) (ev_abox (ev_tmp rfl))) rfl ?_
  refine yO rfl rfl (pu_nilB rfl (ev_tmp rfl)) rfl ?_
  iterate 3 refine z ?_
  refine yO rfl rfl (pu_nilB rfl (ev_tmp rfl)) rfl ?_
  iterate 7 refine z ?_
  refine ok_weak (σ' := ⟨[(2, .one (.dv [] (.int .i64 (z48)))), (0, .abox 0)], [(0, 63, [(.arg 900001 (bytesD (code))), (.dv [] (.int .i64 ((i) + (1)))), (.dv [] (.int .i64 (z10)))])], []⟩) (weak_sub ⟨rfl, rfl, trivial⟩ ⟨rfl, trivial⟩ trivial rfl) ?_
  refine z ?_
  refine fin1 (res_tmp rfl) ⟨((z48), (i) + (1), z10), ?_, rfl, rfl, rfl, rfl⟩
  try dsimp only
  omega
 ·skip
  have d1 := of_decide_eq_false c1
  iterate 6 refine z ?_
  refine ok_weak (σ' := ⟨[(2, .one (.dv [] (.int .i64 (z24)))), (0, .abox 0)], [(0, 63, [(.arg 900001 (bytesD (code))), (.dv [] (.int .i64 (i))), (.dv [] (.int .i64 (z10)))])], []⟩) (weak_sub ⟨rfl, rfl, trivial⟩ ⟨rfl, trivial⟩ trivial rfl) ?_
  refine z ?_
  refine fin1 (res_tmp rfl) ⟨((z24), i, z10), ?_, rfl, rfl, rfl, rfl⟩
  try dsimp only
  omega
theorem ok_spec_l1Below {code : List UInt8} {i h : Int} {n : Int} (hc : code.length ≤ 1048576) (hi : 0 ≤ i)  : BFn Try.prog 25 [.one (.dv [] (.int .i64 (n)))] 63 (bytesD (code)) [.dv [] (.int .i64 (i)), .dv [] (.int .i64 (h))] (fun zz : Int × Int × Int => 0 ≤ zz.1 ∧ (0 < n → zz.1 < n) ∧ 0 ≤ zz.2.1) (fun zz : Int × Int × Int => .one (.dv [] (.int .i64 (zz.1)))) (fun zz : Int × Int × Int => []) (fun zz : Int × Int × Int => [.dv [] (.int .i64 (zz.2.1)), .dv [] (.int .i64 (zz.2.2))]) := by
 refine ⟨fn_introS Try.func25 rfl Try.ntmps25 Try.results25 rfl (fun C => ?_)⟩
 refine ok_fact (x := .tmp 1) (ev_tmp rfl) fun f1 => ?_
 iterate 8 refine z ?_
 refine yQ rfl (fun c1 => ?_) fun c1 => ?_
 ·skip
  have d1 := of_decide_eq_true c1
  iterate 3 refine z ?_
  refine ok_weak (σ' := ⟨[(4, .one (.dv [] (.int .i64 (0)))), (0, .abox 0)], [(0, 63, [(.arg 900001 (bytesD (code))), (.dv [] (.int .i64 (i))), (.dv [] (.int .i64 (h)))])], []⟩) (weak_sub ⟨rfl, rfl, trivial⟩ ⟨rfl, trivial⟩ trivial rfl) ?_
  iterate 2 refine z ?_
  refine fin1 (res_tmp rfl) ⟨((0), i, h), ?_, rfl, rfl, rfl, rfl⟩
  try dsimp only
  exact ⟨by omega, by omega, hi⟩
 ·skip
  have d1 := of_decide_eq_false c1
  iterate 7 refine z ?_
  refine yQ rfl (fun c2 => ?_) fun c2 => ?_
  ·skip
   have d2 := of_decide_eq_true c2
   refine z ?_
   refine yO rfl rfl (pu_move (.inl rfl) (ev_abox (ev_tmp rfl))) rfl ?_
   refine o_callB 13000 rfl rfl rfl Try.call45 (ok_spec_l1Byte (code := code) (i := i) (h := h) (by omega) (by omega)) (ev_tmp rfl) rfl ac_arg rfl (fun _ => rfl) ad_nil rfl (fun _ => rfl) (fun _ => rfl) (fun zz hz13 => ?_)
   obtain ⟨e13, i13, h13⟩ := zz
   replace hz13 : 0 ≤ e13 ∧ e13 ≤ 255 ∧ 0 ≤ i13 := hz13
   refine z ?_
   refine yO rfl rfl (pu_remN rfl (ev_tmp rfl) (ev_tmp rfl) (by omega) (by omega)) rfl ?_
   iterate 2 refine z ?_
   refine ok_weak (σ' := ⟨[(4, .one (.dv [] (.int .i64 ((e13) % (n))))), (0, .abox 0)], [(0, 63, [(.arg 900001 (bytesD (code))), (.dv [] (.int .i64 (i13))), (.dv [] (.int .i64 (h13)))])], []⟩) (weak_sub ⟨rfl, rfl, trivial⟩ ⟨rfl, trivial⟩ trivial rfl) ?_
   iterate 2 refine z ?_
   refine fin1 (res_tmp rfl) ⟨(((e13) % (n)), i13, h13), ?_, rfl, rfl, rfl, rfl⟩
   try dsimp only
   have := rem_rng (a := e13) (n := n) (by omega) (by omega)
   exact ⟨this.1, fun _ => this.2, by omega⟩
  ·skip
   have d2 := of_decide_eq_false c2
   iterate 3 refine z ?_
   refine yO rfl rfl (pu_move (.inl rfl) (ev_abox (ev_tmp rfl))) rfl ?_
   refine o_callB 17000 rfl rfl rfl Try.call45 (ok_spec_l1Byte (code := code) (i := i) (h := h) (by omega) (by omega)) (ev_tmp rfl) rfl ac_arg rfl (fun _ => rfl) ad_nil rfl (fun _ => rfl) (fun _ => rfl) (fun zz hz17 => ?_)
   obtain ⟨e17, i17, h17⟩ := zz
   replace hz17 : 0 ≤ e17 ∧ e17 ≤ 255 ∧ 0 ≤ i17 := hz17
   iterate 3 refine z ?_
   refine yO rfl rfl (pu_move (.inl rfl) (ev_abox (ev_tmp rfl))) rfl ?_
   refine o_callB 19000 rfl rfl rfl Try.call45 (ok_spec_l1Byte (code := code) (i := i17) (h := h17) (by omega) (by omega)) (ev_tmp rfl) rfl ac_arg rfl (fun _ => rfl) ad_nil rfl (fun _ => rfl) (fun _ => rfl) (fun zz hz19 => ?_)
   obtain ⟨e19, i19, h19⟩ := zz
   replace hz19 : 0 ≤ e19 ∧ e19 ≤ 255 ∧ 0 ≤ i19 := hz19
   iterate 3 refine z ?_
   refine yO rfl rfl (pu_move (.inl rfl) (ev_abox (ev_tmp rfl))) rfl ?_
   refine o_callB 21000 rfl rfl rfl Try.call45 (ok_spec_l1Byte (code := code) (i := i19) (h := h19) (by omega) (by omega)) (ev_tmp rfl) rfl ac_arg rfl (fun _ => rfl) ad_nil rfl (fun _ => rfl) (fun _ => rfl) (fun zz hz21 => ?_)
   obtain ⟨e21, i21, h21⟩ := zz
   replace hz21 : 0 ≤ e21 ∧ e21 ≤ 255 ∧ 0 ≤ i21 := hz21
   iterate 4 refine z ?_
   refine yO rfl rfl (pu_mulR rfl (ev_tmp rfl) (ev_int (inR_lit rfl)) (inR64 (by omega) (by omega))) rfl ?_
   refine z ?_
   refine yO rfl rfl (pu_mulR rfl (ev_tmp rfl) (ev_int (inR_lit rfl)) (inR64 (by omega) (by omega))) rfl ?_
   iterate 4 refine z ?_
   refine yO rfl rfl (pu_remN rfl (ev_tmp rfl) (ev_tmp rfl) (by omega) (by omega)) rfl ?_
   iterate 2 refine z ?_
   refine ok_weak (σ' := ⟨[(4, .one (.dv [] (.int .i64 (((((e17) * (65536)) + ((e19) * (256))) + (e21)) % (n))))), (0, .abox 0)], [(0, 63, [(.arg 900001 (bytesD (code))), (.dv [] (.int .i64 (i21))), (.dv [] (.int .i64 (h21)))])], []⟩) (weak_sub ⟨rfl, rfl, trivial⟩ ⟨rfl, trivial⟩ trivial rfl) ?_
   refine z ?_
   refine fin1 (res_tmp rfl) ⟨((((((e17) * (65536)) + ((e19) * (256))) + (e21)) % (n)), i21, h21), ?_, rfl, rfl, rfl, rfl⟩
   try dsimp only
   have := rem_rng (a := e17 * 65536 + e19 * 256 + e21) (n := n) (by omega) (by omega)
   exact ⟨this.1, fun _ => this.2, by omega⟩
theorem ok_spec_l1Once {code : List UInt8} {i h : Int} {n : Int} (hc : code.length ≤ 1048576) (hi : 0 ≤ i)  : BFn Try.prog 12 [.one (.dv [] (.int .i64 (n)))] 63 (bytesD (code)) [.dv [] (.int .i64 (i)), .dv [] (.int .i64 (h))] (fun zz : Bool × Int × Int => 0 ≤ zz.2.1) (fun zz : Bool × Int × Int => .one (.dv [] (.bool (zz.1)))) (fun zz : Bool × Int × Int => []) (fun zz : Bool × Int × Int => [.dv [] (.int .i64 (zz.2.1)), .dv [] (.int .i64 (zz.2.2))]) := by
 refine ⟨fn_introS Try.func12 rfl Try.ntmps12 Try.results12 rfl (fun C => ?_)⟩
 refine ok_fact (x := .tmp 1) (ev_tmp rfl) fun f1 => ?_
 iterate 4 refine z ?_
 refine yO rfl rfl (pu_move (.inl rfl) (ev_abox (ev_tmp rfl))) rfl ?_
 refine z ?_
 refine o_callB 7000 rfl rfl rfl Try.call25 (ok_spec_l1Below (code := code) (i := i) (h := h) (n := n) (by omega) (by omega) ) (ev_tmp rfl) rfl ac_arg rfl (fun _ => rfl) (ad_cons (ev_tmp rfl) (ag_one ac_dv) rfl ad_nil) rfl (fun _ => rfl) (fun _ => rfl) (fun zz hz7 => ?_)
 obtain ⟨e7, i7, h7⟩ := zz
 replace hz7 : 0 ≤ e7 ∧ (0 < (n) → e7 < (n)) ∧ 0 ≤ i7 := hz7
 iterate 3 refine z ?_
 refine ok_weak (σ' := ⟨[(4, .one (.dv [] (.bool (decide ((e7) = (0)))))), (0, .abox 0)], [(0, 63, [(.arg 900001 (bytesD (code))), (.dv [] (.int .i64 (i7))), (.dv [] (.int .i64 (h7)))])], []⟩) (weak_sub ⟨rfl, rfl, trivial⟩ ⟨rfl, trivial⟩ trivial rfl) ?_
 refine z ?_
 refine fin1 (res_tmp rfl) ⟨((decide ((e7) = (0))), i7, h7), ?_, rfl, rfl, rfl, rfl⟩
 try dsimp only
 omega
theorem ok_spec_l1Int {code : List UInt8} {i h : Int} {l : List Int} (hc : code.length ≤ 1048576) (hi : 0 ≤ i) (hl : 0 < l.length) : BFn Try.prog 53 [.one (.dv [] (intsD (l)))] 63 (bytesD (code)) [.dv [] (.int .i64 (i)), .dv [] (.int .i64 (h))] (fun zz : Int × Int × Int => zz.1 ∈ l ∧ 0 ≤ zz.2.1) (fun zz : Int × Int × Int => .one (.dv [] (.int .i64 (zz.1)))) (fun zz : Int × Int × Int => []) (fun zz : Int × Int × Int => [.dv [] (.int .i64 (zz.2.1)), .dv [] (.int .i64 (zz.2.2))]) := by
 refine ⟨fn_introS Try.func53 rfl Try.ntmps53 Try.results53 rfl (fun C => ?_)⟩
 refine ok_fact (x := .tmp 1) (ev_tmp rfl) fun f1 => ?_
 iterate 5 refine z ?_
 refine yO rfl rfl (pu_move (.inl rfl) (ev_abox (ev_tmp rfl))) rfl ?_
 iterate 2 refine z ?_
 refine o_callB 9000 rfl rfl rfl Try.call25 (ok_spec_l1Below (code := code) (i := i) (h := h) (n := (((l)).length : Int)) (by omega) (by omega) ) (ev_tmp rfl) rfl ac_arg rfl (fun _ => rfl) (ad_cons (ev_tmp rfl) (ag_one ac_dv) rfl ad_nil) rfl (fun _ => rfl) (fun _ => rfl) (fun zz hz9 => ?_)
 obtain ⟨e9, i9, h9⟩ := zz
 replace hz9 : 0 ≤ e9 ∧ (0 < ((((l)).length : Int)) → e9 < ((((l)).length : Int))) ∧ 0 ≤ i9 := hz9
 have hl := hz9.2.1 (by omega)
 iterate 4 refine z ?_
 refine ok_weak (σ' := ⟨[(4, .one (.dv [] (.int .i64 ((((l)).getD (e9).toNat default))))), (0, .abox 0)], [(0, 63, [(.arg 900001 (bytesD (code))), (.dv [] (.int .i64 (i9))), (.dv [] (.int .i64 (h9)))])], []⟩) (weak_sub ⟨rfl, rfl, trivial⟩ ⟨rfl, trivial⟩ trivial rfl) ?_
 refine z ?_
 refine fin1 (res_tmp rfl) ⟨(((((l)).getD (e9).toNat default)), i9, h9), ?_, rfl, rfl, rfl, rfl⟩
 try dsimp only
 exact ⟨getD_memI (by omega) (by omega), by omega⟩
theorem ok_spec_l1Str {code : List UInt8} {i h : Int} {l : List Str} (hc : code.length ≤ 1048576) (hi : 0 ≤ i) (hl : 0 < l.length) : BFn Try.prog 55 [.one (.dv [] (strsD (l)))] 63 (bytesD (code)) [.dv [] (.int .i64 (i)), .dv [] (.int .i64 (h))] (fun zz : Str × Int × Int => zz.1 ∈ l ∧ 0 ≤ zz.2.1) (fun zz : Str × Int × Int => .one (.dv [] (.str (zz.1)))) (fun zz : Str × Int × Int => []) (fun zz : Str × Int × Int => [.dv [] (.int .i64 (zz.2.1)), .dv [] (.int .i64 (zz.2.2))]) := by
 refine ⟨fn_introS Try.func55 rfl Try.ntmps55 Try.results55 rfl (fun C => ?_)⟩
 refine ok_fact (x := .tmp 1) (ev_tmp rfl) fun f1 => ?_
 iterate 5 refine z ?_
 refine yO rfl rfl (pu_move (.inl rfl) (ev_abox (ev_tmp rfl))) rfl ?_
 iterate 2 refine z ?_
 refine o_callB 9000 rfl rfl rfl Try.call25 (ok_spec_l1Below (code := code) (i := i) (h := h) (n := (((l)).length : Int)) (by omega) (by omega) ) (ev_tmp rfl) rfl ac_arg rfl (fun _ => rfl) (ad_cons (ev_tmp rfl) (ag_one ac_dv) rfl ad_nil) rfl (fun _ => rfl) (fun _ => rfl) (fun zz hz9 => ?_)
 obtain ⟨e9, i9, h9⟩ := zz
 replace hz9 : 0 ≤ e9 ∧ (0 < ((((l)).length : Int)) → e9 < ((((l)).length : Int))) ∧ 0 ≤ i9 := hz9
 have hl := hz9.2.1 (by omega)
 iterate 4 refine z ?_
 refine ok_weak (σ' := ⟨[(4, .one (.dv [] (.str ((((l)).getD (e9).toNat default))))), (0, .abox 0)], [(0, 63, [(.arg 900001 (bytesD (code))), (.dv [] (.int .i64 (i9))), (.dv [] (.int .i64 (h9)))])], []⟩) (weak_sub ⟨rfl, rfl, trivial⟩ ⟨rfl, trivial⟩ trivial rfl) ?_
 refine z ?_
 refine fin1 (res_tmp rfl) ⟨(((((l)).getD (e9).toNat default)), i9, h9), ?_, rfl, rfl, rfl, rfl⟩
 try dsimp only
 exact ⟨getD_memS (by omega) (by omega), by omega⟩
end Go.Proofs.Ytjkpoekgnmgofaa

namespace Go.Proofs.Ytjkpoekgnmgofaa
open Go.RowKit
open Go.Proofs
set_option linter.unusedVariables false
set_option linter.unusedSimpArgs false

def smallK (k : KeyT) : Prop := k.2.1 ≤ 256 ∨ 1000000 < k.2.1
theorem kText_of {l : List Str} (h : l.all kText = true) {s : Str} (hs : s ∈ l) : kText s = true := List.all_eq_true.1 h s hs
theorem name_of {l : List Str} (h : l.all isName = true) {s : Str} (hs : s ∈ l) : isName s = true := List.all_eq_true.1 h s hs
theorem size_of {l : List Str} (n : Nat) (h : l.all (fun s => decide (s.size ≤ n)) = true) {s : Str} (hs : s ∈ l) : s.size ≤ n := by simpa using List.all_eq_true.1 h s hs
theorem rng_of {l : List Int} (a b : Int) (h : l.all (fun x => decide (a ≤ x) && decide (x ≤ b)) = true) {x : Int} (hx : x ∈ l) : a ≤ x ∧ x ≤ b := by simpa using List.all_eq_true.1 h x hx
theorem key_num {n : Int} (h : -1000000000000 ≤ n ∧ n ≤ 1000000000000) : isKey (1, n, ByteArray.empty) = true := by
 have ht : kText ByteArray.empty = true := by decide +kernel
 have he : sEq ByteArray.empty ByteArray.empty = true := by decide +kernel
 have he2 : (ByteArray.mk #[] : ByteArray) = ByteArray.empty := rfl
 simp [isKey, ht, h.1, h.2, he, he2]
theorem key_txt {s : Str} (h : kText s = true) : isKey (2, 0, s) = true := by simp [isKey, h]
theorem key_pair {n : Int} {s : Str} (h : -1000000000000 ≤ n ∧ n ≤ 1000000000000) (hs : kText s = true) : isKey (3, n, s) = true := by simp [isKey, hs, h.1, h.2]
theorem key_size {k : KeyT} (h : isKey k = true) : k.2.2.size ≤ 12 := (key_rng h).2.2
theorem setF_rec {r : RecT} {n : Str} {v : Int} (h : isRec r = true) : isRec (setF r n v).1 = true := by
 unfold setF
 split
 ·exact h
 ·rename_i h1
  simp only [Bool.or_eq_true, Bool.not_eq_true', not_or, Bool.not_eq_false] at h1
  exact h1.2
theorem rec_wt {r : RecT} (h : isRec r = true) : wRecord r ≤ 54 := by
 have h10 := rec_len h
 have h11 : wSum wField r ≤ 8 * r.length := by
  have key : ∀ r : RecT, (∀ f ∈ r, f.1.size ≤ 8) → wSum wField r ≤ 8 * r.length := by
   intro r
   induction r with
   | nil => intro _; simp [wSum]
   | cons f r ih =>
    intro hf
    have k1 := ih (fun g hg => hf g (by simp [hg]))
    have k2 := hf f (by simp)
    have k3 : wField f = f.1.size := rfl
    simp only [wSum, List.map_cons, List.sum_cons, List.length_cons] at *
    omega
  refine key _ (fun f hf => ?_)
  obtain ⟨j, hj, rfl⟩ := List.mem_iff_getElem.1 hf
  have := (name_size (rec_fld h hj).1).2
  rwa [getD_at hj] at this
 have h13 : wRecord r = r.length + wSum wField r := rfl
 omega

theorem ok_spec_l4Number {code : List UInt8} {i h : Int} (hc : code.length ≤ 1048576) (hi : 0 ≤ i) : BFn Try.prog 93 [] 63 (bytesD (code)) [.dv [] (.int .i64 (i)), .dv [] (.int .i64 (h))] (fun zz : Int × Int × Int => (-1000000000000 ≤ zz.1 ∧ zz.1 ≤ 1000000000000) ∧ (zz.1 ≤ 256 ∨ 1000000 < zz.1) ∧ 0 ≤ zz.2.1) (fun zz : Int × Int × Int => .one (.dv [] (.int .i64 (zz.1)))) (fun zz : Int × Int × Int => []) (fun zz : Int × Int × Int => [.dv [] (.int .i64 (zz.2.1)), .dv [] (.int .i64 (zz.2.2))]) := by
 refine ⟨fn_introS Try.func93 rfl Try.ntmps93 Try.results93 rfl (fun C => ?_)⟩
 iterate 4 refine z ?_
 refine yO rfl rfl (pu_move (.inl rfl) (ev_abox (ev_tmp rfl))) rfl ?_
 refine yO rfl rfl (pu_move (.inl rfl) (ev_abox (ev_tmp rfl))) rfl ?_
 refine o_callB 5000 rfl rfl rfl Try.call25 (ok_spec_l1Below (code := code) (i := i) (h := h) (n := 9) (by omega) (by omega) ) (ev_tmp rfl) rfl ac_arg rfl (fun _ => rfl) (ad_cons (ev_int (inR_lit rfl)) (ag_one ac_dv) rfl ad_nil) rfl (fun _ => rfl) (fun _ => rfl) (fun zz hz5 => ?_)
 obtain ⟨e5, i5, h5⟩ := zz
 replace hz5 : 0 ≤ e5 ∧ (0 < (9 : Int) → e5 < (9 : Int)) ∧ 0 ≤ i5 := hz5
 refine o_buildN (k := 6) (js := []) hT rfl rfl rfl rfl rfl rfl rfl rfl rfl rfl rfl (ep_cons (ev_int (inR_lit rfl)) rfl rfl rfl (ep_cons (ev_int (inR_lit rfl)) rfl rfl rfl (ep_cons (ev_int (inR_lit rfl)) rfl rfl rfl (ep_cons (ev_int (inR_lit rfl)) rfl rfl rfl (ep_cons (ev_int (inR_lit rfl)) rfl rfl rfl (ep_cons (ev_int (inR_lit rfl)) rfl rfl rfl (ep_cons (ev_int (inR_lit rfl)) rfl rfl rfl (ep_cons (ev_int (inR_lit rfl)) rfl rfl rfl (ep_cons (ev_tmp rfl) rfl rfl rfl ep_nil))))))))) (ow_cons' (ow_dv rfl) (ow_cons' (ow_dv rfl) (ow_cons' (ow_dv rfl) (ow_cons' (ow_dv rfl) (ow_cons' (ow_dv rfl) (ow_cons' (ow_dv rfl) (ow_cons' (ow_dv rfl) (ow_cons' (ow_dv rfl) (ow_cons' (ow_dv rfl) ow_nil rfl) rfl) rfl) rfl) rfl) rfl) rfl) rfl) rfl) (by decide) (by decide) rfl rfl ?_
 simp only [killT, killB, SV.kill, CV.kill, kk, Nat.reduceBEq]
 refine o_callB 7000 rfl rfl rfl Try.call53 (ok_spec_l1Int (code := code) (i := i5) (h := h5) (l := [0, 1, 2, -1, 255, 256, -1000000000000, 1000000000000, e5]) (by omega) (by omega) (by exact Nat.succ_pos _)) (ev_tmp rfl) rfl ac_arg rfl (fun _ => rfl) (ad_cons (ev_tmp rfl) (ag_one (ac_key' rfl rfl)) rfl ad_nil) rfl (fun _ => rfl) (fun _ => rfl) (fun zz hz7 => ?_)
 obtain ⟨e7, i7, h7⟩ := zz
 replace hz7 : e7 ∈ ([0, 1, 2, -1, 255, 256, -1000000000000, 1000000000000, e5]) ∧ 0 ≤ i7 := hz7
 iterate 2 refine z ?_
 refine ok_weak (σ' := ⟨[(2, .one (.dv [] (.int .i64 (e7)))), (0, .abox 0)], [(0, 63, [(.arg 900001 (bytesD (code))), (.dv [] (.int .i64 (i7))), (.dv [] (.int .i64 (h7)))])], []⟩) (weak_sub ⟨rfl, rfl, trivial⟩ ⟨rfl, trivial⟩ trivial rfl) ?_
 refine z ?_
 refine fin1 (res_tmp rfl) ⟨((e7), i7, h7), ?_, rfl, rfl, rfl, rfl⟩
 try dsimp only
 refine ⟨?_, ?_, by omega⟩
 all_goals have h9 := hz5.2.1 (by omega)
 all_goals have h8 := hz7.1
 all_goals simp only [List.mem_cons, List.not_mem_nil, or_false] at h8
 all_goals omega
theorem ok_spec_l4Key {code : List UInt8} {i h : Int} (hc : code.length ≤ 1048576) (hi : 0 ≤ i) : BFn Try.prog 78 [] 63 (bytesD (code)) [.dv [] (.int .i64 (i)), .dv [] (.int .i64 (h))] (fun zz : KeyT × Int × Int => isKey zz.1 = true ∧ smallK zz.1 ∧ 0 ≤ zz.2.1) (fun zz : KeyT × Int × Int => .agg [(.dv [] (.int .i64 (zz.1.1))), (.dv [] (.int .i64 (zz.1.2.1))), (.dv [] (.str (zz.1.2.2)))]) (fun zz : KeyT × Int × Int => []) (fun zz : KeyT × Int × Int => [.dv [] (.int .i64 (zz.2.1)), .dv [] (.int .i64 (zz.2.2))]) := by
 refine ⟨fn_introS Try.func78 rfl Try.ntmps78 Try.results78 rfl (fun C => ?_)⟩
 iterate 4 refine z ?_
 refine yO rfl rfl (pu_move (.inl rfl) (ev_abox (ev_tmp rfl))) rfl ?_
 refine o_buildN (k := 5) (js := []) hT rfl rfl rfl rfl rfl rfl rfl rfl rfl rfl rfl (ep_cons (ev_str (str_lit rfl)) rfl rfl rfl (ep_cons (ev_str (str_lit rfl)) rfl rfl rfl (ep_cons (ev_str (str_lit rfl)) rfl rfl rfl (ep_cons (ev_str (str_lit rfl)) rfl rfl rfl (ep_cons (ev_str (str_lit rfl)) rfl rfl rfl (ep_cons (ev_str (str_lit rfl)) rfl rfl rfl ep_nil)))))) (ow_cons' (ow_dv rfl) (ow_cons' (ow_dv rfl) (ow_cons' (ow_dv rfl) (ow_cons' (ow_dv rfl) (ow_cons' (ow_dv rfl) (ow_cons' (ow_dv rfl) ow_nil rfl) rfl) rfl) rfl) rfl) rfl) (by decide) (by decide) rfl rfl ?_
 simp only [killT, killB, SV.kill, CV.kill, kk, Nat.reduceBEq]
 refine o_callB 6000 rfl rfl rfl Try.call55 (ok_spec_l1Str (code := code) (i := i) (h := h) (l := [ByteArray.mk #[], ByteArray.mk #[97], ByteArray.mk #[97, 98], ByteArray.mk #[98], ByteArray.mk #[122, 57], ByteArray.mk #[97, 98, 99, 100, 101, 102, 103, 104, 105, 106, 107, 108]]) (by omega) (by omega) (by exact Nat.succ_pos _)) (ev_tmp rfl) rfl ac_arg rfl (fun _ => rfl) (ad_cons (ev_tmp rfl) (ag_one (ac_key' rfl rfl)) rfl ad_nil) rfl (fun _ => rfl) (fun _ => rfl) (fun zz hz6 => ?_)
 obtain ⟨e6, i6, h6⟩ := zz
 replace hz6 : e6 ∈ ([ByteArray.mk #[], ByteArray.mk #[97], ByteArray.mk #[97, 98], ByteArray.mk #[98], ByteArray.mk #[122, 57], ByteArray.mk #[97, 98, 99, 100, 101, 102, 103, 104, 105, 106, 107, 108]]) ∧ 0 ≤ i6 := hz6
 iterate 4 refine z ?_
 refine yO rfl rfl (pu_move (.inl rfl) (ev_abox (ev_tmp rfl))) rfl ?_
 refine o_callB 8000 rfl rfl rfl Try.call25 (ok_spec_l1Below (code := code) (i := i6) (h := h6) (n := 3) (by omega) (by omega) ) (ev_tmp rfl) rfl ac_arg rfl (fun _ => rfl) (ad_cons (ev_int (inR_lit rfl)) (ag_one ac_dv) rfl ad_nil) rfl (fun _ => rfl) (fun _ => rfl) (fun zz hz8 => ?_)
 obtain ⟨e8, i8, h8⟩ := zz
 replace hz8 : 0 ≤ e8 ∧ (0 < (3 : Int) → e8 < (3 : Int)) ∧ 0 ≤ i8 := hz8
 iterate 6 refine z ?_
 refine yQ rfl (fun c1 => ?_) fun c1 => ?_
 ·skip
  have d1 := of_decide_eq_true c1
  iterate 2 refine z ?_
  refine yO rfl rfl (pu_build hT hB rfl rfl rfl (bp_cons (ev_int (inR_lit rfl)) rfl rfl rfl rfl rfl (bp_cons (ev_tmp rfl) rfl rfl rfl rfl rfl bp_nil))) rfl ?_
  iterate 2 refine z ?_
  refine ok_weak (σ' := ⟨[(2, .box 2 0), (0, .abox 0)], [(2, 52, [(.dv [] (.int .i64 (2))), (.dv [] (.int .i64 (0))), (.dv [] (.str (e6)))]), (0, 63, [(.arg 900001 (bytesD (code))), (.dv [] (.int .i64 (i8))), (.dv [] (.int .i64 (h8)))])], []⟩) (weak_sub ⟨rfl, rfl, trivial⟩ ⟨rfl, rfl, trivial⟩ trivial rfl) ?_
  iterate 3 refine z ?_
  refine fin1 (res_cell hT rfl rfl rfl rfl) ⟨(((2), ((0), (e6))), i8, h8), ?_, rfl, rfl, rfl, rfl⟩
  try dsimp only
  exact ⟨key_txt (kText_of (l := [ByteArray.mk #[], ByteArray.mk #[97], ByteArray.mk #[97, 98], ByteArray.mk #[98], ByteArray.mk #[122, 57], ByteArray.mk #[97, 98, 99, 100, 101, 102, 103, 104, 105, 106, 107, 108]]) (by decide +kernel) hz6.1), .inl (by dsimp only; omega), by omega⟩
 ·skip
  have d1 := of_decide_eq_false c1
  iterate 4 refine z ?_
  refine yQ rfl (fun c2 => ?_) fun c2 => ?_
  ·skip
   have d2 := of_decide_eq_true c2
   refine z ?_
   refine yO rfl rfl (pu_move (.inl rfl) (ev_abox (ev_tmp rfl))) rfl ?_
   refine o_callB 16000 rfl rfl rfl Try.call93 (ok_spec_l4Number (code := code) (i := i8) (h := h8) (by omega) (by omega)) (ev_tmp rfl) rfl ac_arg rfl (fun _ => rfl) ad_nil rfl (fun _ => rfl) (fun _ => rfl) (fun zz hz16 => ?_)
   obtain ⟨e16, i16, h16⟩ := zz
   replace hz16 : (-1000000000000 ≤ e16 ∧ e16 ≤ 1000000000000) ∧ (e16 ≤ 256 ∨ 1000000 < e16) ∧ 0 ≤ i16 := hz16
   refine z ?_
   refine yO rfl rfl (pu_build hT hB rfl rfl rfl (bp_cons (ev_int (inR_lit rfl)) rfl rfl rfl rfl rfl (bp_cons (ev_tmp rfl) rfl rfl rfl rfl rfl (bp_cons (ev_tmp rfl) rfl rfl rfl rfl rfl bp_nil)))) rfl ?_
   iterate 2 refine z ?_
   refine ok_weak (σ' := ⟨[(2, .box 2 0), (0, .abox 0)], [(2, 52, [(.dv [] (.int .i64 (3))), (.dv [] (.int .i64 (e16))), (.dv [] (.str (e6)))]), (0, 63, [(.arg 900001 (bytesD (code))), (.dv [] (.int .i64 (i16))), (.dv [] (.int .i64 (h16)))])], []⟩) (weak_sub ⟨rfl, rfl, trivial⟩ ⟨rfl, rfl, trivial⟩ trivial rfl) ?_
   iterate 3 refine z ?_
   refine fin1 (res_cell hT rfl rfl rfl rfl) ⟨(((3), ((e16), (e6))), i16, h16), ?_, rfl, rfl, rfl, rfl⟩
   try dsimp only
   exact ⟨key_pair hz16.1 (kText_of (l := [ByteArray.mk #[], ByteArray.mk #[97], ByteArray.mk #[97, 98], ByteArray.mk #[98], ByteArray.mk #[122, 57], ByteArray.mk #[97, 98, 99, 100, 101, 102, 103, 104, 105, 106, 107, 108]]) (by decide +kernel) hz6.1), hz16.2.1, by omega⟩
  ·skip
   have d2 := of_decide_eq_false c2
   iterate 4 refine z ?_
   refine yO rfl rfl (pu_move (.inl rfl) (ev_abox (ev_tmp rfl))) rfl ?_
   refine o_callB 20000 rfl rfl rfl Try.call93 (ok_spec_l4Number (code := code) (i := i8) (h := h8) (by omega) (by omega)) (ev_tmp rfl) rfl ac_arg rfl (fun _ => rfl) ad_nil rfl (fun _ => rfl) (fun _ => rfl) (fun zz hz20 => ?_)
   obtain ⟨e20, i20, h20⟩ := zz
   replace hz20 : (-1000000000000 ≤ e20 ∧ e20 ≤ 1000000000000) ∧ (e20 ≤ 256 ∨ 1000000 < e20) ∧ 0 ≤ i20 := hz20
   refine yO rfl rfl (pu_build hT hB rfl rfl rfl (bp_cons (ev_int (inR_lit rfl)) rfl rfl rfl rfl rfl (bp_cons (ev_tmp rfl) rfl rfl rfl rfl rfl bp_nil))) rfl ?_
   iterate 2 refine z ?_
   refine ok_weak (σ' := ⟨[(2, .box 2 0), (0, .abox 0)], [(2, 52, [(.dv [] (.int .i64 (1))), (.dv [] (.int .i64 (e20))), (.dv [] (.str (ByteArray.empty)))]), (0, 63, [(.arg 900001 (bytesD (code))), (.dv [] (.int .i64 (i20))), (.dv [] (.int .i64 (h20)))])], []⟩) (weak_sub ⟨rfl, rfl, trivial⟩ ⟨rfl, rfl, trivial⟩ trivial rfl) ?_
   refine z ?_
   refine fin1 (res_cell hT rfl rfl rfl rfl) ⟨(((1), ((e20), (ByteArray.empty))), i20, h20), ?_, rfl, rfl, rfl, rfl⟩
   try dsimp only
   exact ⟨key_num hz20.1, hz20.2.1, by omega⟩
theorem ok_spec_l4Small {code : List UInt8} {i h : Int} (hc : code.length ≤ 1048576) (hi : 0 ≤ i) : BFn Try.prog 58 [] 63 (bytesD (code)) [.dv [] (.int .i64 (i)), .dv [] (.int .i64 (h))] (fun zz : KeyT × Int × Int => isKey zz.1 = true ∧ smallK zz.1 ∧ 0 ≤ zz.2.1) (fun zz : KeyT × Int × Int => .agg [(.dv [] (.int .i64 (zz.1.1))), (.dv [] (.int .i64 (zz.1.2.1))), (.dv [] (.str (zz.1.2.2)))]) (fun zz : KeyT × Int × Int => []) (fun zz : KeyT × Int × Int => [.dv [] (.int .i64 (zz.2.1)), .dv [] (.int .i64 (zz.2.2))]) := by
 refine ⟨fn_introS Try.func58 rfl Try.ntmps58 Try.results58 rfl (fun C => ?_)⟩
 iterate 4 refine z ?_
 refine yO rfl rfl (pu_move (.inl rfl) (ev_abox (ev_tmp rfl))) rfl ?_
 refine o_callB 4000 rfl rfl rfl Try.call25 (ok_spec_l1Below (code := code) (i := i) (h := h) (n := 6) (by omega) (by omega) ) (ev_tmp rfl) rfl ac_arg rfl (fun _ => rfl) (ad_cons (ev_int (inR_lit rfl)) (ag_one ac_dv) rfl ad_nil) rfl (fun _ => rfl) (fun _ => rfl) (fun zz hz4 => ?_)
 obtain ⟨e4, i4, h4⟩ := zz
 replace hz4 : 0 ≤ e4 ∧ (0 < (6 : Int) → e4 < (6 : Int)) ∧ 0 ≤ i4 := hz4
 refine yO rfl rfl (pu_build hT hB rfl rfl rfl (bp_cons (ev_int (inR_lit rfl)) rfl rfl rfl rfl rfl (bp_cons (ev_tmp rfl) rfl rfl rfl rfl rfl bp_nil))) rfl ?_
 iterate 2 refine z ?_
 refine ok_weak (σ' := ⟨[(2, .box 2 0), (0, .abox 0)], [(2, 52, [(.dv [] (.int .i64 (1))), (.dv [] (.int .i64 (e4))), (.dv [] (.str (ByteArray.empty)))]), (0, 63, [(.arg 900001 (bytesD (code))), (.dv [] (.int .i64 (i4))), (.dv [] (.int .i64 (h4)))])], []⟩) (weak_sub ⟨rfl, rfl, trivial⟩ ⟨rfl, rfl, trivial⟩ trivial rfl) ?_
 refine z ?_
 refine fin1 (res_cell hT rfl rfl rfl rfl) ⟨(((1), ((e4), (ByteArray.empty))), i4, h4), ?_, rfl, rfl, rfl, rfl⟩
 try dsimp only
 have h9 := hz4.2.1 (by omega)
 exact ⟨key_num (by omega), .inl (by dsimp only; omega), by omega⟩
theorem ok_spec_l4Any {code : List UInt8} {i h : Int} (hc : code.length ≤ 1048576) (hi : 0 ≤ i) : BFn Try.prog 56 [] 63 (bytesD (code)) [.dv [] (.int .i64 (i)), .dv [] (.int .i64 (h))] (fun zz : KeyT × Int × Int => zz.1.2.2.size ≤ 13 ∧ 0 ≤ zz.2.1) (fun zz : KeyT × Int × Int => .agg [(.dv [] (.int .i64 (zz.1.1))), (.dv [] (.int .i64 (zz.1.2.1))), (.dv [] (.str (zz.1.2.2)))]) (fun zz : KeyT × Int × Int => []) (fun zz : KeyT × Int × Int => [.dv [] (.int .i64 (zz.2.1)), .dv [] (.int .i64 (zz.2.2))]) := by
 refine ⟨fn_introS Try.func56 rfl Try.ntmps56 Try.results56 rfl (fun C => ?_)⟩
 iterate 4 refine z ?_
 refine yO rfl rfl (pu_move (.inl rfl) (ev_abox (ev_tmp rfl))) rfl ?_
 refine o_callB 5000 rfl rfl rfl Try.call78 (ok_spec_l4Key (code := code) (i := i) (h := h) (by omega) (by omega)) (ev_tmp rfl) rfl ac_arg rfl (fun _ => rfl) ad_nil rfl (fun _ => rfl) (fun _ => rfl) (fun zz hz5 => ?_)
 obtain ⟨e5, i5, h5⟩ := zz
 replace hz5 : isKey e5 = true ∧ smallK e5 ∧ 0 ≤ i5 := hz5
 have hks := key_size hz5.1
 iterate 5 refine z ?_
 refine yO rfl rfl (pu_move (.inl rfl) (ev_abox (ev_tmp rfl))) rfl ?_
 refine o_callB 7000 rfl rfl rfl Try.call25 (ok_spec_l1Below (code := code) (i := i5) (h := h5) (n := 10) (by omega) (by omega) ) (ev_tmp rfl) rfl ac_arg rfl (fun _ => rfl) (ad_cons (ev_int (inR_lit rfl)) (ag_one ac_dv) rfl ad_nil) rfl (fun _ => rfl) (fun _ => rfl) (fun zz hz7 => ?_)
 obtain ⟨e7, i7, h7⟩ := zz
 replace hz7 : 0 ≤ e7 ∧ (0 < (10 : Int) → e7 < (10 : Int)) ∧ 0 ≤ i7 := hz7
 iterate 6 refine z ?_
 refine yQ rfl (fun c1 => ?_) fun c1 => ?_
 ·skip
  have d1 := of_decide_eq_true c1
  refine ok_region ?_
  refine yO rfl rfl (pu_move (.inl rfl) (ev_abox (ev_tmp rfl))) rfl ?_
  refine o_callB 11000 rfl rfl rfl Try.call25 (ok_spec_l1Below (code := code) (i := i7) (h := h7) (n := 5) (by omega) (by omega) ) (ev_tmp rfl) rfl ac_arg rfl (fun _ => rfl) (ad_cons (ev_int (inR_lit rfl)) (ag_one ac_dv) rfl ad_nil) rfl (fun _ => rfl) (fun _ => rfl) (fun zz hz11 => ?_)
  obtain ⟨e11, i11, h11⟩ := zz
  replace hz11 : 0 ≤ e11 ∧ (0 < (5 : Int) → e11 < (5 : Int)) ∧ 0 ≤ i11 := hz11
  iterate 2 refine z ?_
  refine ops_nil ?_
  iterate 6 refine z ?_
  refine ok_weak (σ' := ⟨[(2, .box 2 0), (0, .abox 0)], [(2, 52, [(.dv [] (.int .i64 (e11))), (.dv [] (.int .i64 (e5.2.1))), (.dv [] (.str (e5.2.2)))]), (0, 63, [(.arg 900001 (bytesD (code))), (.dv [] (.int .i64 (i11))), (.dv [] (.int .i64 (h11)))])], []⟩) (weak_sub ⟨rfl, rfl, trivial⟩ ⟨rfl, rfl, trivial⟩ trivial rfl) ?_
  refine z ?_
  refine fin1 (res_cell hT rfl rfl rfl rfl) ⟨(((e11), ((e5.2.1), (e5.2.2))), i11, h11), ?_, rfl, rfl, rfl, rfl⟩
  try dsimp only
  exact ⟨by omega, by omega⟩
 ·skip
  have d1 := of_decide_eq_false c1
  iterate 4 refine z ?_
  refine yQ rfl (fun c2 => ?_) fun c2 => ?_
  ·skip
   have d2 := of_decide_eq_true c2
   refine ok_region ?_
   refine yO rfl rfl (pu_move (.inl rfl) (ev_abox (ev_tmp rfl))) rfl ?_
   refine o_buildN (k := 16) (js := []) hT rfl rfl rfl rfl rfl rfl rfl rfl rfl rfl rfl (ep_cons (ev_int (inR_lit rfl)) rfl rfl rfl (ep_cons (ev_int (inR_lit rfl)) rfl rfl rfl (ep_cons (ev_int (inR_lit rfl)) rfl rfl rfl ep_nil))) (ow_cons' (ow_dv rfl) (ow_cons' (ow_dv rfl) (ow_cons' (ow_dv rfl) ow_nil rfl) rfl) rfl) (by decide) (by decide) rfl rfl ?_
   simp only [killT, killB, SV.kill, CV.kill, kk, Nat.reduceBEq]
   refine o_callB 17000 rfl rfl rfl Try.call53 (ok_spec_l1Int (code := code) (i := i7) (h := h7) (l := [-1000000000001, 1000000000001, 5]) (by omega) (by omega) (by exact Nat.succ_pos _)) (ev_tmp rfl) rfl ac_arg rfl (fun _ => rfl) (ad_cons (ev_tmp rfl) (ag_one (ac_key' rfl rfl)) rfl ad_nil) rfl (fun _ => rfl) (fun _ => rfl) (fun zz hz17 => ?_)
   obtain ⟨e17, i17, h17⟩ := zz
   replace hz17 : e17 ∈ ([-1000000000001, 1000000000001, 5]) ∧ 0 ≤ i17 := hz17
   iterate 2 refine z ?_
   refine ops_nil ?_
   iterate 6 refine z ?_
   refine ok_weak (σ' := ⟨[(2, .box 2 0), (0, .abox 0)], [(2, 52, [(.dv [] (.int .i64 (e5.1))), (.dv [] (.int .i64 (e17))), (.dv [] (.str (e5.2.2)))]), (0, 63, [(.arg 900001 (bytesD (code))), (.dv [] (.int .i64 (i17))), (.dv [] (.int .i64 (h17)))])], []⟩) (weak_sub ⟨rfl, rfl, trivial⟩ ⟨rfl, rfl, trivial⟩ trivial rfl) ?_
   refine z ?_
   refine fin1 (res_cell hT rfl rfl rfl rfl) ⟨(((e5.1), ((e17), (e5.2.2))), i17, h17), ?_, rfl, rfl, rfl, rfl⟩
   try dsimp only
   exact ⟨by omega, by omega⟩
  ·skip
   have d2 := of_decide_eq_false c2
   iterate 4 refine z ?_
   refine yQ rfl (fun c3 => ?_) fun c3 => ?_
   ·skip
    have d3 := of_decide_eq_true c3
    refine ok_region ?_
    refine yO rfl rfl (pu_move (.inl rfl) (ev_abox (ev_tmp rfl))) rfl ?_
    refine o_buildN (k := 22) (js := []) hT rfl rfl rfl rfl rfl rfl rfl rfl rfl rfl rfl (ep_cons (ev_str (str_lit rfl)) rfl rfl rfl (ep_cons (ev_str (str_lit rfl)) rfl rfl rfl (ep_cons (ev_str (str_lit rfl)) rfl rfl rfl (ep_cons (ev_str (str_lit rfl)) rfl rfl rfl ep_nil)))) (ow_cons' (ow_dv rfl) (ow_cons' (ow_dv rfl) (ow_cons' (ow_dv rfl) (ow_cons' (ow_dv rfl) ow_nil rfl) rfl) rfl) rfl) (by decide) (by decide) rfl rfl ?_
    simp only [killT, killB, SV.kill, CV.kill, kk, Nat.reduceBEq]
    refine o_callB 23000 rfl rfl rfl Try.call55 (ok_spec_l1Str (code := code) (i := i7) (h := h7) (l := [ByteArray.mk #[65], ByteArray.mk #[97, 32, 98], ByteArray.mk #[97, 98, 99, 100, 101, 102, 103, 104, 105, 106, 107, 108, 109], ByteArray.mk #[120, 39]]) (by omega) (by omega) (by exact Nat.succ_pos _)) (ev_tmp rfl) rfl ac_arg rfl (fun _ => rfl) (ad_cons (ev_tmp rfl) (ag_one (ac_key' rfl rfl)) rfl ad_nil) rfl (fun _ => rfl) (fun _ => rfl) (fun zz hz23 => ?_)
    obtain ⟨e23, i23, h23⟩ := zz
    replace hz23 : e23 ∈ ([ByteArray.mk #[65], ByteArray.mk #[97, 32, 98], ByteArray.mk #[97, 98, 99, 100, 101, 102, 103, 104, 105, 106, 107, 108, 109], ByteArray.mk #[120, 39]]) ∧ 0 ≤ i23 := hz23
    iterate 2 refine z ?_
    refine ops_nil ?_
    iterate 6 refine z ?_
    refine ok_weak (σ' := ⟨[(2, .box 2 0), (0, .abox 0)], [(2, 52, [(.dv [] (.int .i64 (e5.1))), (.dv [] (.int .i64 (e5.2.1))), (.dv [] (.str (e23)))]), (0, 63, [(.arg 900001 (bytesD (code))), (.dv [] (.int .i64 (i23))), (.dv [] (.int .i64 (h23)))])], []⟩) (weak_sub ⟨rfl, rfl, trivial⟩ ⟨rfl, rfl, trivial⟩ trivial rfl) ?_
    refine z ?_
    refine fin1 (res_cell hT rfl rfl rfl rfl) ⟨(((e5.1), ((e5.2.1), (e23))), i23, h23), ?_, rfl, rfl, rfl, rfl⟩
    try dsimp only
    exact ⟨size_of 13 (by decide +kernel) hz23.1, by omega⟩
   ·skip
    have d3 := of_decide_eq_false c3
    iterate 7 refine z ?_
    refine ok_weak (σ' := ⟨[(2, .box 2 0), (0, .abox 0)], [(2, 52, [(.dv [] (.int .i64 (e5.1))), (.dv [] (.int .i64 (e5.2.1))), (.dv [] (.str (e5.2.2)))]), (0, 63, [(.arg 900001 (bytesD (code))), (.dv [] (.int .i64 (i7))), (.dv [] (.int .i64 (h7)))])], []⟩) (weak_sub ⟨rfl, rfl, trivial⟩ ⟨rfl, rfl, trivial⟩ trivial rfl) ?_
    refine z ?_
    refine fin1 (res_cell hT rfl rfl rfl rfl) ⟨(((e5.1), ((e5.2.1), (e5.2.2))), i7, h7), ?_, rfl, rfl, rfl, rfl⟩
    try dsimp only
    exact ⟨by omega, by omega⟩
theorem ok_spec_l5Name {code : List UInt8} {i h : Int} (hc : code.length ≤ 1048576) (hi : 0 ≤ i) : BFn Try.prog 60 [] 63 (bytesD (code)) [.dv [] (.int .i64 (i)), .dv [] (.int .i64 (h))] (fun zz : Str × Int × Int => isName zz.1 = true ∧ 0 ≤ zz.2.1) (fun zz : Str × Int × Int => .one (.dv [] (.str (zz.1)))) (fun zz : Str × Int × Int => []) (fun zz : Str × Int × Int => [.dv [] (.int .i64 (zz.2.1)), .dv [] (.int .i64 (zz.2.2))]) := by
 refine ⟨fn_introS Try.func60 rfl Try.ntmps60 Try.results60 rfl (fun C => ?_)⟩
 iterate 4 refine z ?_
 refine yO rfl rfl (pu_move (.inl rfl) (ev_abox (ev_tmp rfl))) rfl ?_
 refine o_buildN (k := 4) (js := []) hT rfl rfl rfl rfl rfl rfl rfl rfl rfl rfl rfl (ep_cons (ev_str (str_lit rfl)) rfl rfl rfl (ep_cons (ev_str (str_lit rfl)) rfl rfl rfl (ep_cons (ev_str (str_lit rfl)) rfl rfl rfl (ep_cons (ev_str (str_lit rfl)) rfl rfl rfl (ep_cons (ev_str (str_lit rfl)) rfl rfl rfl ep_nil))))) (ow_cons' (ow_dv rfl) (ow_cons' (ow_dv rfl) (ow_cons' (ow_dv rfl) (ow_cons' (ow_dv rfl) (ow_cons' (ow_dv rfl) ow_nil rfl) rfl) rfl) rfl) rfl) (by decide) (by decide) rfl rfl ?_
 simp only [killT, killB, SV.kill, CV.kill, kk, Nat.reduceBEq]
 refine o_callB 5000 rfl rfl rfl Try.call55 (ok_spec_l1Str (code := code) (i := i) (h := h) (l := [ByteArray.mk #[97], ByteArray.mk #[98], ByteArray.mk #[99], ByteArray.mk #[100, 111, 110, 101], ByteArray.mk #[116, 105, 116, 108, 101]]) (by omega) (by omega) (by exact Nat.succ_pos _)) (ev_tmp rfl) rfl ac_arg rfl (fun _ => rfl) (ad_cons (ev_tmp rfl) (ag_one (ac_key' rfl rfl)) rfl ad_nil) rfl (fun _ => rfl) (fun _ => rfl) (fun zz hz5 => ?_)
 obtain ⟨e5, i5, h5⟩ := zz
 replace hz5 : e5 ∈ ([ByteArray.mk #[97], ByteArray.mk #[98], ByteArray.mk #[99], ByteArray.mk #[100, 111, 110, 101], ByteArray.mk #[116, 105, 116, 108, 101]]) ∧ 0 ≤ i5 := hz5
 iterate 2 refine z ?_
 refine ok_weak (σ' := ⟨[(2, .one (.dv [] (.str (e5)))), (0, .abox 0)], [(0, 63, [(.arg 900001 (bytesD (code))), (.dv [] (.int .i64 (i5))), (.dv [] (.int .i64 (h5)))])], []⟩) (weak_sub ⟨rfl, rfl, trivial⟩ ⟨rfl, trivial⟩ trivial rfl) ?_
 refine z ?_
 refine fin1 (res_tmp rfl) ⟨((e5), i5, h5), ?_, rfl, rfl, rfl, rfl⟩
 try dsimp only
 exact ⟨name_of (l := [ByteArray.mk #[97], ByteArray.mk #[98], ByteArray.mk #[99], ByteArray.mk #[100, 111, 110, 101], ByteArray.mk #[116, 105, 116, 108, 101]]) (by decide +kernel) hz5.1, by omega⟩
theorem ok_spec_l5Record {code : List UInt8} {i h : Int} (hc : code.length ≤ 1048576) (hi : 0 ≤ i) : BFn Try.prog 59 [] 63 (bytesD (code)) [.dv [] (.int .i64 (i)), .dv [] (.int .i64 (h))] (fun zz : RecT × Int × Int => isRec zz.1 = true ∧ 0 ≤ zz.2.1) (fun zz : RecT × Int × Int => .agg [(.key 9001)]) (fun zz : RecT × Int × Int => [(9001, some (kcOf false (fieldsD (zz.1))))]) (fun zz : RecT × Int × Int => [.dv [] (.int .i64 (zz.2.1)), .dv [] (.int .i64 (zz.2.2))]) := by
 refine ⟨fn_introS Try.func59 rfl Try.ntmps59 Try.results59 rfl (fun C => ?_)⟩
 iterate 4 refine z ?_
 refine yO rfl rfl (pu_build hT hB rfl rfl rfl bp_nil) rfl ?_
 iterate 3 refine z ?_
 refine ok_seq ?_
 refine ok_seq ?_
 refine ok_weak (weak_nilB 9001 (b := 3) (i := 0) (e := 106) (sz := 2) rfl rfl rfl rfl rfl) ?_
 simp only [killT, killB, SV.kill, CV.kill, kk, Nat.reduceBEq]
 refine ok_region ?_
 refine yO rfl rfl (pu_move (.inl rfl) (ev_abox (ev_tmp rfl))) rfl ?_
 refine o_callB 7000 rfl rfl rfl Try.call25 (ok_spec_l1Below (code := code) (i := i) (h := h) (n := 4) (by omega) (by omega) ) (ev_tmp rfl) rfl ac_arg rfl (fun _ => rfl) (ad_cons (ev_int (inR_lit rfl)) (ag_one ac_dv) rfl ad_nil) rfl (fun _ => rfl) (fun _ => rfl) (fun zz hz7 => ?_)
 obtain ⟨e7, i7, h7⟩ := zz
 replace hz7 : 0 ≤ e7 ∧ (0 < (4 : Int) → e7 < (4 : Int)) ∧ 0 ≤ i7 := hz7
 iterate 3 refine z ?_
 refine ok_loop (ι := Int × RecT × Int × Int) (fun zz => ⟨[(0, .abox 0), (2, .box 2 0), (3, .box 3 0), (4, .one (.dv [] (.int .i64 (zz.1))))], [(0, 63, [(.arg 900001 (bytesD (code))), (.dv [] (.int .i64 (zz.2.2.1))), (.dv [] (.int .i64 (zz.2.2.2)))]), (2, 55, [.nil]), (3, 55, [(.key 9001)])], [(9001, some (kcOf false (.sl 106 2 (zz.2.1.length) (zz.2.1.flatMap eField))))]⟩) (fun zz => isRec zz.2.1 = true ∧ 0 ≤ zz.2.2.1 ∧ zz.1 ≤ 9) (fun zz => zz.1.toNat) ((e7, [], i7, h7)) ?_ (weak_sub ⟨rfl, rfl, rfl, rfl, trivial⟩ ⟨rfl, rfl, rfl, trivial⟩ ⟨rfl, trivial⟩ rfl) (fun zz hx => ?_)
 ·exact ⟨rfl, by dsimp only; omega, by dsimp only; omega⟩
 obtain ⟨n, r, ci, ch⟩ := zz
 replace hx : isRec r = true ∧ 0 ≤ ci ∧ n ≤ 9 := hx
 obtain ⟨hr, hci, hn9⟩ := hx
 show Ok _ _ _ _ _ (⟨[(0, .abox 0), (2, .box 2 0), (3, .box 3 0), (4, .one (.dv [] (.int .i64 (n))))], [(0, 63, [(.arg 900001 (bytesD (code))), (.dv [] (.int .i64 (ci))), (.dv [] (.int .i64 (ch)))]), (2, 55, [.nil]), (3, 55, [(.key 9001)])], [(9001, some (kcOf false (.sl 106 2 (r.length) (r.flatMap eField))))]⟩ : St)
 iterate 5 refine z ?_
 refine yQ rfl (fun c1 => ?_) fun c1 => ?_
 ·skip
  have d1 := of_decide_eq_true c1
  iterate 4 refine z ?_
  refine ok_regionL [0] [0, 1, 2, 3, 4, 5, 6] (oB := [2, 3]) (oK := [9001]) (by kernel_rfl) rfl rfl ?_
  refine l_take 0 rfl (by kernel_rfl) rfl rfl (pu_loadBoxA hT rfl rfl (ev_tmp rfl) rfl rfl) rfl rfl rfl rfl rfl ?_
  refine l_take 1 rfl (by kernel_rfl) rfl rfl (pu_move (.inl rfl) (ev_abox (ev_tmp rfl))) rfl rfl rfl rfl rfl ?_
  refine l_take 3 rfl (by kernel_rfl) rfl rfl (pu_move (.inl rfl) (ev_abox (ev_tmp rfl))) rfl rfl rfl rfl rfl ?_
  refine l_split 2 [] (by kernel_rfl) ⟨?_, trivial⟩
  refine y_callB 15000 2 rfl rfl rfl rfl rfl Try.call60 (ok_spec_l5Name (code := code) (i := ci) (h := ch) (by omega) (by omega)) (ev_tmp rfl) rfl ac_arg rfl (fun _ => rfl) ad_nil rfl (fun _ => rfl) (fun _ => rfl) rfl (fun zz hz15 => ?_)
  obtain ⟨e15, i15, h15⟩ := zz
  replace hz15 : isName e15 = true ∧ 0 ≤ i15 := hz15
  refine l_split 4 [] (by kernel_rfl) ⟨?_, trivial⟩
  refine y_callB 17000 4 rfl rfl rfl rfl rfl Try.call25 (ok_spec_l1Below (code := code) (i := i15) (h := h15) (n := 5) (by omega) (by omega) ) (ev_tmp rfl) rfl ac_arg rfl (fun _ => rfl) (ad_cons (ev_int (inR_lit rfl)) (ag_one ac_dv) rfl ad_nil) rfl (fun _ => rfl) (fun _ => rfl) rfl (fun zz hz17 => ?_)
  obtain ⟨e17, i17, h17⟩ := zz
  replace hz17 : 0 ≤ e17 ∧ (0 < (5 : Int) → e17 < (5 : Int)) ∧ 0 ≤ i17 := hz17
  refine l_split 5 [] (by kernel_rfl) ⟨?_, trivial⟩
  refine y_callK 500 5 rfl rfl rfl rfl Try.call79 (ok_spec_SetField (r := r) (n := e15) (v := e17) (by have := rec_len hr; omega)) (as_cons (ev_tmp rfl) (ag_agg (ag_cons (ac_key' rfl rfl) ag_nil)) (as_cons (ev_tmp rfl) (ag_one ac_dv) (as_cons (ev_tmp rfl) (ag_one ac_dv) as_nil))) rfl rfl rfl rfl rfl rfl ?_
  refine l_take 6 rfl (by kernel_rfl) rfl rfl (pu_move (.inl rfl) (ev_tmp rfl)) rfl rfl rfl rfl rfl ?_
  refine l_takeX 7 rfl (by kernel_rfl) rfl rfl rfl (pu_extractA rfl (ev_tmp rfl) rfl) rfl rfl ?_
  refine l_takeX 8 rfl (by kernel_rfl) rfl rfl rfl (pu_extract1 rfl (ev_tmp rfl) rfl) rfl rfl ?_
  refine l_chain [9] rfl rfl (by kernel_rfl) ?_
  refine z ?_
  refine ops_nil ?_
  iterate 2 refine z ?_
  refine ok_region ?_
  iterate 4 refine z ?_
  refine ⟨(n - 1, (setF r e15 e17).1, i17, h17), ?_, ?_, weak_then (weak_swapB (b := 3) (i := 0) (k := 9501) (k' := 9001) rfl rfl rfl rfl (by simp) rfl rfl) (weak_sub ⟨rfl, rfl, rfl, rfl, trivial⟩ ⟨rfl, rfl, rfl, trivial⟩ ⟨rfl, trivial⟩ rfl)⟩
  ·exact ⟨setF_rec hr, by dsimp only; omega, by dsimp only; omega⟩
  ·dsimp only; omega
 ·skip
  have d1 := of_decide_eq_false c1
  iterate 9 refine z ?_
  refine ok_weak (σ' := ⟨[(2, .box 2 0), (0, .abox 0)], [(2, 55, [(.key 9001)]), (0, 63, [(.arg 900001 (bytesD (code))), (.dv [] (.int .i64 (ci))), (.dv [] (.int .i64 (ch)))])], [(9001, some (kcOf false (.sl 106 2 (r.length) (r.flatMap eField))))]⟩) (weak_sub ⟨rfl, rfl, trivial⟩ ⟨rfl, rfl, trivial⟩ ⟨rfl, trivial⟩ rfl) ?_
  refine z ?_
  refine fin1 (res_cell hT rfl rfl rfl rfl) ⟨((r), ci, ch), ?_, rfl, rfl, rfl, rfl⟩
  try dsimp only
  exact ⟨hr, by omega⟩
end Go.Proofs.Ytjkpoekgnmgofaa

namespace Go.Proofs.Ytjkpoekgnmgofaa
open Go.RowKit
open Go.Proofs
set_option linter.unusedVariables false
set_option linter.unusedSimpArgs false

def autoI (s : StoreT) : Prop := ∀ y ∈ s.2.1, y.1.1 = 1 → y.1.2.1 ≤ 1000000 → y.1.2.1 ≤ s.2.2
theorem mem_insI {l : List ItemT} {j : Nat} {y z : ItemT} (h : z ∈ insI l j y) : z = y ∨ z ∈ l := by
 unfold insI at h
 simp only [List.mem_append, List.mem_singleton] at h
 rcases h with (h | h) | h
 ·exact .inr (List.mem_of_mem_take h)
 ·exact .inl h
 ·exact .inr (List.mem_of_mem_drop h)
theorem autoI_put {s : StoreT} {k : KeyT} {r : RecT} (h : autoI s) : autoI (putN s k r).1 := by
 cases h2 : (putN s k r).2 with
 | false => rw [putN_f h2]; exact h
 | true =>
  obtain ⟨_, _, _, ⟨h3, e⟩ | ⟨h3, _, e⟩⟩ := put_cases h2
  ·rw [e]
   intro y hy h4 h5
   dsimp only at hy ⊢
   have hm : y.1 ∈ (setI s.2.1 (fndK s k).toNat r).map Prod.fst := List.mem_map_of_mem hy
   rw [setI_keys] at hm
   obtain ⟨z, hz, hzy⟩ := List.mem_map.1 hm
   have := h z hz (by rw [hzy]; exact h4) (by rw [hzy]; exact h5)
   rw [hzy] at this; exact this
  ·rw [e]
   intro y hy h4 h5
   dsimp only at hy ⊢
   have ha : s.2.2 ≤ autoP s k := by
    have := put_auto (x := s) (k := k) (r := r)
    rw [e] at this; exact this
   rcases mem_insI hy with rfl | hy
   ·unfold autoP
    dsimp only at h4 h5 ⊢
    split
    ·exact Int.le_refl _
    ·rename_i hh
     simp only [Bool.and_eq_true, decide_eq_true_eq] at hh
     omega
   ·have := h y hy h4 h5
    omega
theorem auto_small {s : StoreT} {k : KeyT} {r : RecT} (h : s.2.2 ≤ 256) (hk : smallK k) : (putN s k r).1.2.2 ≤ 256 := by
 cases h2 : (putN s k r).2 with
 | false => rw [putN_f h2]; exact h
 | true =>
  obtain ⟨_, _, _, ⟨h3, e⟩ | ⟨h3, _, e⟩⟩ := put_cases h2
  ·rw [e]; exact h
  ·rw [e]
   dsimp only
   unfold autoP
   split
   ·rename_i hh
    simp only [Bool.and_eq_true, decide_eq_true_eq] at hh
    unfold smallK at hk
    omega
   ·exact h
theorem auto_step {s : StoreT} (hs : isSto s = true) (ha : autoI s) (hl : s.2.1.length < 16) (h : s.2.2 ≤ 284 + (s.2.1.length : Int)) :
  (autoN s []).2.2 = true ∧ isSto (autoN s []).1 = true ∧ autoI (autoN s []).1 ∧ (autoN s []).1.2.1.length = s.2.1.length + 1 ∧ (autoN s []).1.2.2 = s.2.2 + 1 := by
 have h0 := hs
 rw [isSto_eq] at h0
 simp only [Bool.and_eq_true, decide_eq_true_eq] at h0
 have hlo := h0.2.2.1
 have hk : isKey (keyA s) = true := key_num (by omega)
 have hf : fndK s (keyA s) < 0 := by
  rcases Int.lt_or_le (fndK s (keyA s)) 0 with hq | hq
  ·exact hq
  ·have h1 := fndK_lt hq
   rcases findI_cases (p := fun y : ItemT => kEq y.1 (keyA s)) (d := default) s.2.1 0 (by omega) with ⟨h2, _⟩ | ⟨m, h2, h3, _, h5⟩
   ·unfold fndK at hq; omega
   ·have hm : s.2.1.getD m default ∈ s.2.1 := by rw [List.getD_eq_getElem?_getD, List.getElem?_eq_getElem h2]; exact List.getElem_mem h2
    have e := kEq_eq h5
    have e1 : (s.2.1.getD m default).1.1 = 1 := by rw [e]; rfl
    have e2 : (s.2.1.getD m default).1.2.1 = s.2.2 + 1 := by rw [e]; rfl
    have := ha _ hm e1 (by omega)
    omega
 have hput : putN s (keyA s) [] = ((s.1, insI s.2.1 (posK (keyA s) s.2.1) (keyA s, []), autoP s (keyA s)), true) := by
  unfold putN
  have hr : isRec [] = true := rfl
  rw [if_neg (by rw [hs, hk, hr]; simp), if_neg (by omega), if_neg (by omega)]
 have hadd : addN s (keyA s) [] = putN s (keyA s) [] := if_neg (by omega)
 have hauto : autoN s [] = ((putN s (keyA s) []).1, keyA s, true) := by
  unfold autoN
  rw [if_neg (by omega), hadd, if_pos (by rw [hput])]
 rw [hauto]
 refine ⟨rfl, putN_sto hs, autoI_put ha, ?_, ?_⟩
 ·rw [hput]; exact insI_len
 ·rw [hput]
  show autoP s (keyA s) = _
  unfold autoP
  rw [if_pos (by
   simp only [Bool.and_eq_true, decide_eq_true_eq]
   exact ⟨rfl, Int.le_refl _, by show s.2.2 + 1 ≤ 1000000; omega⟩)]
  rfl
theorem sto_w2 {s : StoreT} (h : isSto s = true) : wStore s ≤ 1200 := by
 have h0 := h
 simp only [isSto, Bool.and_eq_true, List.all_eq_true, decide_eq_true_eq] at h
 obtain ⟨h1, ⟨h2, h3⟩, h4⟩ := h
 have h5 := name_size h2
 have h6 : ∀ x ∈ s.2.1, wItem x ≤ 70 := fun x hx => by
  obtain ⟨i, hi, rfl⟩ := List.mem_iff_getElem.1 hx
  have h7 := h1 i (List.mem_range.2 hi)
  unfold stoBad at h7
  rw [getD_at hi] at h7
  simp only [Bool.not_or, Bool.not_not, Bool.and_eq_true] at h7
  have h8 := (key_rng h7.1.1).2.2
  have h9 := rec_wt h7.1.2
  have h12 : wItem s.2.1[i] = s.2.1[i].1.2.2.size + wRecord s.2.1[i].2 := rfl
  omega
 have h7 : wSum wItem s.2.1 ≤ 70 * s.2.1.length := by
  have key : ∀ l : List ItemT, (∀ x ∈ l, wItem x ≤ 70) → wSum wItem l ≤ 70 * l.length := by
   intro l
   induction l with
   | nil => intro _; simp [wSum]
   | cons x l ih =>
    intro hx
    have k1 := ih (fun g hg => hx g (by simp [hg]))
    have k2 := hx x (by simp)
    simp only [wSum, List.map_cons, List.sum_cons, List.length_cons] at *
    omega
  exact key _ h6
 have h8 : wStore s = s.1.size + (s.2.1.length + wSum wItem s.2.1) := rfl
 omega
theorem rec_app_w (r : RecT) (f : FieldT) : wRecord (r ++ [f]) = wRecord r + 1 + f.1.size := by
 have h1 : wRecord (r ++ [f]) = (r ++ [f]).length + wSum wField (r ++ [f]) := rfl
 have h2 : wRecord r = r.length + wSum wField r := rfl
 have h3 : wSum wField [f] = f.1.size := by simp [wSum, wField]
 rw [h1, h2, wSum_app, List.length_append, h3, List.length_singleton]; omega
theorem sto_app_w (s : StoreT) (x : ItemT) : wStore (s.1, s.2.1 ++ [x], s.2.2) = wStore s + 1 + x.1.2.2.size + wRecord x.2 := by
 have h1 : wStore (s.1, s.2.1 ++ [x], s.2.2) = s.1.size + ((s.2.1 ++ [x]).length + wSum wItem (s.2.1 ++ [x])) := rfl
 have h2 : wStore s = s.1.size + (s.2.1.length + wSum wItem s.2.1) := rfl
 have h3 : wSum wItem [x] = x.1.2.2.size + wRecord x.2 := by simp [wSum, wItem, wKey]
 rw [h1, h2, wSum_app, List.length_append, h3, List.length_singleton]; omega

theorem ok_spec_l5Any {code : List UInt8} {i h : Int} (hc : code.length ≤ 1048576) (hi : 0 ≤ i) : BFn Try.prog 57 [] 63 (bytesD (code)) [.dv [] (.int .i64 (i)), .dv [] (.int .i64 (h))] (fun zz : RecT × Int × Int => wRecord zz.1 ≤ 200 ∧ 0 ≤ zz.2.1) (fun zz : RecT × Int × Int => .agg [(.key 9001)]) (fun zz : RecT × Int × Int => [(9001, some (kcOf false (fieldsD (zz.1))))]) (fun zz : RecT × Int × Int => [.dv [] (.int .i64 (zz.2.1)), .dv [] (.int .i64 (zz.2.2))]) := by
 refine ⟨fn_introS Try.func57 rfl Try.ntmps57 Try.results57 rfl (fun C => ?_)⟩
 iterate 4 refine z ?_
 refine yO rfl rfl (pu_move (.inl rfl) (ev_abox (ev_tmp rfl))) rfl ?_
 refine o_callB 0 rfl rfl rfl Try.call59 (ok_spec_l5Record (code := code) (i := i) (h := h) (by omega) (by omega)) (ev_tmp rfl) rfl ac_arg rfl (fun _ => rfl) ad_nil rfl (fun _ => rfl) (fun _ => rfl) (fun zz hz7 => ?_)
 obtain ⟨e7, i7, h7⟩ := zz
 replace hz7 : isRec e7 = true ∧ 0 ≤ i7 := hz7
 have hrw := rec_wt hz7.1
 iterate 5 refine z ?_
 refine yO rfl rfl (pu_move (.inl rfl) (ev_abox (ev_tmp rfl))) rfl ?_
 refine o_callB 9000 rfl rfl rfl Try.call25 (ok_spec_l1Below (code := code) (i := i7) (h := h7) (n := 12) (by omega) (by omega) ) (ev_tmp rfl) rfl ac_arg rfl (fun _ => rfl) (ad_cons (ev_int (inR_lit rfl)) (ag_one ac_dv) rfl ad_nil) rfl (fun _ => rfl) (fun _ => rfl) (fun zz hz9 => ?_)
 obtain ⟨e9, i9, h9⟩ := zz
 replace hz9 : 0 ≤ e9 ∧ (0 < (12 : Int) → e9 < (12 : Int)) ∧ 0 ≤ i9 := hz9
 iterate 6 refine z ?_
 refine yQ rfl (fun c1 => ?_) fun c1 => ?_
 ·skip
  have d1 := of_decide_eq_true c1
  refine ok_regionL [0] [0, 1, 2, 3, 4, 5, 6, 7, 8, 9] (oB := [2, 3]) (oK := [9001]) (by kernel_rfl) rfl rfl ?_
  refine l_take 0 rfl (by kernel_rfl) rfl rfl (pu_fieldBox hT rfl rfl rfl (ev_tmp rfl)) rfl rfl rfl rfl rfl ?_
  refine l_take 1 rfl (by kernel_rfl) rfl rfl (pu_loadBox1 hT rfl rfl (ev_tmp rfl) rfl rfl) rfl rfl rfl rfl rfl ?_
  refine l_take 2 rfl (by kernel_rfl) rfl rfl (pu_move (.inl rfl) (ev_abox (ev_tmp rfl))) rfl rfl rfl rfl rfl ?_
  refine l_take 5 rfl (by kernel_rfl) rfl rfl (pu_move (.inl rfl) (ev_abox (ev_tmp rfl))) rfl rfl rfl rfl rfl ?_
  refine l_split 3 [6] (by kernel_rfl) ⟨?_, ?_, trivial⟩
  ·skip
   refine y_buildN (k := 15) (js := []) 3 hT rfl rfl rfl rfl rfl rfl rfl rfl rfl rfl rfl rfl (ep_cons (ev_str (str_lit rfl)) rfl rfl rfl (ep_cons (ev_str (str_lit rfl)) rfl rfl rfl (ep_cons (ev_str (str_lit rfl)) rfl rfl rfl (ep_cons (ev_str (str_lit rfl)) rfl rfl rfl (ep_cons (ev_str (str_lit rfl)) rfl rfl rfl ep_nil))))) (ow_cons' (ow_dv rfl) (ow_cons' (ow_dv rfl) (ow_cons' (ow_dv rfl) (ow_cons' (ow_dv rfl) (ow_cons' (ow_dv rfl) ow_nil rfl) rfl) rfl) rfl) rfl) (by decide) (by decide) rfl rfl rfl rfl rfl ?_
   simp only [killT, killB, SV.kill, CV.kill, kk, Nat.reduceBEq]
   refine l_split 4 [6] (by kernel_rfl) ⟨?_, ?_, trivial⟩
   ·skip
    refine y_callB 16000 4 rfl rfl rfl rfl rfl Try.call55 (ok_spec_l1Str (code := code) (i := i9) (h := h9) (l := [ByteArray.mk #[], ByteArray.mk #[65], ByteArray.mk #[122, 122, 122, 122, 122, 122, 122, 122, 122], ByteArray.mk #[122], ByteArray.mk #[97]]) (by omega) (by omega) (by exact Nat.succ_pos _)) (ev_tmp rfl) rfl ac_arg rfl (fun _ => rfl) (ad_cons (ev_tmp rfl) (ag_one (ac_key' rfl rfl)) rfl ad_nil) rfl (fun _ => rfl) (fun _ => rfl) rfl (fun zz hz16 => ?_)
    obtain ⟨e16, i16, h16⟩ := zz
    replace hz16 : e16 ∈ ([ByteArray.mk #[], ByteArray.mk #[65], ByteArray.mk #[122, 122, 122, 122, 122, 122, 122, 122, 122], ByteArray.mk #[122], ByteArray.mk #[97]]) ∧ 0 ≤ i16 := hz16
    have hsz := size_of 9 (by decide +kernel) hz16.1
    refine l_split 6 [] (by kernel_rfl) ⟨?_, trivial⟩
    refine y_buildN (k := 18) (js := []) 6 hT rfl rfl rfl rfl rfl rfl rfl rfl rfl rfl rfl rfl (ep_cons (ev_int (inR_lit rfl)) rfl rfl rfl (ep_cons (ev_int (inR_lit rfl)) rfl rfl rfl (ep_cons (ev_int (inR_lit rfl)) rfl rfl rfl (ep_cons (ev_int (inR_lit rfl)) rfl rfl rfl ep_nil)))) (ow_cons' (ow_dv rfl) (ow_cons' (ow_dv rfl) (ow_cons' (ow_dv rfl) (ow_cons' (ow_dv rfl) ow_nil rfl) rfl) rfl) rfl) (by decide) (by decide) rfl rfl rfl rfl rfl ?_
    simp only [killT, killB, SV.kill, CV.kill, kk, Nat.reduceBEq]
    refine l_split 7 [] (by kernel_rfl) ⟨?_, trivial⟩
    refine y_callB 19000 7 rfl rfl rfl rfl rfl Try.call53 (ok_spec_l1Int (code := code) (i := i16) (h := h16) (l := [0, -1, 1000000000, 1000000001]) (by omega) (by omega) (by exact Nat.succ_pos _)) (ev_tmp rfl) rfl ac_arg rfl (fun _ => rfl) (ad_cons (ev_tmp rfl) (ag_one (ac_key' rfl rfl)) rfl ad_nil) rfl (fun _ => rfl) (fun _ => rfl) rfl (fun zz hz19 => ?_)
    obtain ⟨e19, i19, h19⟩ := zz
    replace hz19 : e19 ∈ ([0, -1, 1000000000, 1000000001]) ∧ 0 ≤ i19 := hz19
    refine l_take 8 rfl (by kernel_rfl) rfl rfl (pu_build hT hB rfl rfl rfl (bp_cons (ev_tmp rfl) rfl rfl rfl rfl rfl (bp_cons (ev_tmp rfl) rfl rfl rfl rfl rfl bp_nil))) rfl rfl rfl rfl rfl ?_
    refine l_split 9 [] (by kernel_rfl) ⟨?_, trivial⟩
    refine y_buildN (k := 21) (js := []) 9 hT rfl rfl rfl rfl rfl rfl rfl rfl rfl rfl rfl rfl (ep_cons (ev_tmp rfl) rfl rfl rfl ep_nil) (ow_cons' (ow_dv rfl) (ow_cons' (ow_dv rfl) ow_nil rfl) rfl) (by decide) (by decide) rfl rfl rfl rfl rfl ?_
    simp only [killT, killB, SV.kill, CV.kill, kk, Nat.reduceBEq]
    refine l_chain [10, 11, 12] rfl rfl (by kernel_rfl) ?_
    refine o_appK (k := 9001) (j := 21) (cs := (e7 ++ [(e16, e19)]).flatMap eField) (n := (e7 ++ [(e16, e19)]).length) hT rfl rfl rfl rfl rfl rfl rfl (ev_tmp rfl) rfl rfl rfl (ev_tmp rfl) rfl rfl (by decide) (by have := rec_len hz7.1; dsimp only [kcOf, KC.old, fieldsD, listD]; omega) (by have := rec_len hz7.1; dsimp only [kcOf, KC.old, fieldsD, listD]; omega) (by rw [List.length_append]; rfl) (by rw [List.flatMap_append]; rfl) ?_
    simp only [killT, killB, SV.kill, CV.kill, kk, Nat.reduceBEq]
    iterate 2 refine z ?_
    refine ops_nil ?_
    iterate 6 refine z ?_
    refine ok_weak (σ' := ⟨[(2, .box 2 0), (0, .abox 0)], [(2, 55, [(.key 9001)]), (0, 63, [(.arg 900001 (bytesD (code))), (.dv [] (.int .i64 (i19))), (.dv [] (.int .i64 (h19)))])], [(9001, some (kcOf false (.sl 106 2 ((e7 ++ [(e16, e19)]).length) ((e7 ++ [(e16, e19)]).flatMap eField))))]⟩) (weak_sub ⟨rfl, rfl, trivial⟩ ⟨rfl, rfl, trivial⟩ ⟨rfl, trivial⟩ rfl) ?_
    refine z ?_
    refine fin1 (res_cell hT rfl rfl rfl rfl) ⟨(((e7 ++ [(e16, e19)])), i19, h19), ?_, rfl, rfl, rfl, rfl⟩
    try dsimp only
    exact ⟨by have := rec_app_w e7 (e16, e19); dsimp only at this; omega, by omega⟩
   ·skip
    refine y_buildN (k := 18) (js := []) 6 hT rfl rfl rfl rfl rfl rfl rfl rfl rfl rfl rfl rfl (ep_cons (ev_int (inR_lit rfl)) rfl rfl rfl (ep_cons (ev_int (inR_lit rfl)) rfl rfl rfl (ep_cons (ev_int (inR_lit rfl)) rfl rfl rfl (ep_cons (ev_int (inR_lit rfl)) rfl rfl rfl ep_nil)))) (ow_cons' (ow_dv rfl) (ow_cons' (ow_dv rfl) (ow_cons' (ow_dv rfl) (ow_cons' (ow_dv rfl) ow_nil rfl) rfl) rfl) rfl) (by decide) (by decide) rfl rfl rfl rfl rfl ?_
    simp only [killT, killB, SV.kill, CV.kill, kk, Nat.reduceBEq]
    refine l_split 4 [] (by kernel_rfl) ⟨?_, trivial⟩
    refine y_callB 16000 4 rfl rfl rfl rfl rfl Try.call55 (ok_spec_l1Str (code := code) (i := i9) (h := h9) (l := [ByteArray.mk #[], ByteArray.mk #[65], ByteArray.mk #[122, 122, 122, 122, 122, 122, 122, 122, 122], ByteArray.mk #[122], ByteArray.mk #[97]]) (by omega) (by omega) (by exact Nat.succ_pos _)) (ev_tmp rfl) rfl ac_arg rfl (fun _ => rfl) (ad_cons (ev_tmp rfl) (ag_one (ac_key' rfl rfl)) rfl ad_nil) rfl (fun _ => rfl) (fun _ => rfl) rfl (fun zz hz16 => ?_)
    obtain ⟨e16, i16, h16⟩ := zz
    replace hz16 : e16 ∈ ([ByteArray.mk #[], ByteArray.mk #[65], ByteArray.mk #[122, 122, 122, 122, 122, 122, 122, 122, 122], ByteArray.mk #[122], ByteArray.mk #[97]]) ∧ 0 ≤ i16 := hz16
    have hsz := size_of 9 (by decide +kernel) hz16.1
    refine l_split 7 [] (by kernel_rfl) ⟨?_, trivial⟩
    refine y_callB 19000 7 rfl rfl rfl rfl rfl Try.call53 (ok_spec_l1Int (code := code) (i := i16) (h := h16) (l := [0, -1, 1000000000, 1000000001]) (by omega) (by omega) (by exact Nat.succ_pos _)) (ev_tmp rfl) rfl ac_arg rfl (fun _ => rfl) (ad_cons (ev_tmp rfl) (ag_one (ac_key' rfl rfl)) rfl ad_nil) rfl (fun _ => rfl) (fun _ => rfl) rfl (fun zz hz19 => ?_)
    obtain ⟨e19, i19, h19⟩ := zz
    replace hz19 : e19 ∈ ([0, -1, 1000000000, 1000000001]) ∧ 0 ≤ i19 := hz19
    refine l_take 8 rfl (by kernel_rfl) rfl rfl (pu_build hT hB rfl rfl rfl (bp_cons (ev_tmp rfl) rfl rfl rfl rfl rfl (bp_cons (ev_tmp rfl) rfl rfl rfl rfl rfl bp_nil))) rfl rfl rfl rfl rfl ?_
    refine l_split 9 [] (by kernel_rfl) ⟨?_, trivial⟩
    refine y_buildN (k := 21) (js := []) 9 hT rfl rfl rfl rfl rfl rfl rfl rfl rfl rfl rfl rfl (ep_cons (ev_tmp rfl) rfl rfl rfl ep_nil) (ow_cons' (ow_dv rfl) (ow_cons' (ow_dv rfl) ow_nil rfl) rfl) (by decide) (by decide) rfl rfl rfl rfl rfl ?_
    simp only [killT, killB, SV.kill, CV.kill, kk, Nat.reduceBEq]
    refine l_chain [10, 11, 12] rfl rfl (by kernel_rfl) ?_
    refine o_appK (k := 9001) (j := 21) (cs := (e7 ++ [(e16, e19)]).flatMap eField) (n := (e7 ++ [(e16, e19)]).length) hT rfl rfl rfl rfl rfl rfl rfl (ev_tmp rfl) rfl rfl rfl (ev_tmp rfl) rfl rfl (by decide) (by have := rec_len hz7.1; dsimp only [kcOf, KC.old, fieldsD, listD]; omega) (by have := rec_len hz7.1; dsimp only [kcOf, KC.old, fieldsD, listD]; omega) (by rw [List.length_append]; rfl) (by rw [List.flatMap_append]; rfl) ?_
    simp only [killT, killB, SV.kill, CV.kill, kk, Nat.reduceBEq]
    iterate 2 refine z ?_
    refine ops_nil ?_
    iterate 6 refine z ?_
    refine ok_weak (σ' := ⟨[(2, .box 2 0), (0, .abox 0)], [(2, 55, [(.key 9001)]), (0, 63, [(.arg 900001 (bytesD (code))), (.dv [] (.int .i64 (i19))), (.dv [] (.int .i64 (h19)))])], [(9001, some (kcOf false (.sl 106 2 ((e7 ++ [(e16, e19)]).length) ((e7 ++ [(e16, e19)]).flatMap eField))))]⟩) (weak_sub ⟨rfl, rfl, trivial⟩ ⟨rfl, rfl, trivial⟩ ⟨rfl, trivial⟩ rfl) ?_
    refine z ?_
    refine fin1 (res_cell hT rfl rfl rfl rfl) ⟨(((e7 ++ [(e16, e19)])), i19, h19), ?_, rfl, rfl, rfl, rfl⟩
    try dsimp only
    exact ⟨by have := rec_app_w e7 (e16, e19); dsimp only at this; omega, by omega⟩
  ·skip
   refine y_buildN (k := 18) (js := []) 6 hT rfl rfl rfl rfl rfl rfl rfl rfl rfl rfl rfl rfl (ep_cons (ev_int (inR_lit rfl)) rfl rfl rfl (ep_cons (ev_int (inR_lit rfl)) rfl rfl rfl (ep_cons (ev_int (inR_lit rfl)) rfl rfl rfl (ep_cons (ev_int (inR_lit rfl)) rfl rfl rfl ep_nil)))) (ow_cons' (ow_dv rfl) (ow_cons' (ow_dv rfl) (ow_cons' (ow_dv rfl) (ow_cons' (ow_dv rfl) ow_nil rfl) rfl) rfl) rfl) (by decide) (by decide) rfl rfl rfl rfl rfl ?_
   simp only [killT, killB, SV.kill, CV.kill, kk, Nat.reduceBEq]
   refine l_split 3 [] (by kernel_rfl) ⟨?_, trivial⟩
   refine y_buildN (k := 15) (js := []) 3 hT rfl rfl rfl rfl rfl rfl rfl rfl rfl rfl rfl rfl (ep_cons (ev_str (str_lit rfl)) rfl rfl rfl (ep_cons (ev_str (str_lit rfl)) rfl rfl rfl (ep_cons (ev_str (str_lit rfl)) rfl rfl rfl (ep_cons (ev_str (str_lit rfl)) rfl rfl rfl (ep_cons (ev_str (str_lit rfl)) rfl rfl rfl ep_nil))))) (ow_cons' (ow_dv rfl) (ow_cons' (ow_dv rfl) (ow_cons' (ow_dv rfl) (ow_cons' (ow_dv rfl) (ow_cons' (ow_dv rfl) ow_nil rfl) rfl) rfl) rfl) rfl) (by decide) (by decide) rfl rfl rfl rfl rfl ?_
   simp only [killT, killB, SV.kill, CV.kill, kk, Nat.reduceBEq]
   refine l_split 4 [] (by kernel_rfl) ⟨?_, trivial⟩
   refine y_callB 16000 4 rfl rfl rfl rfl rfl Try.call55 (ok_spec_l1Str (code := code) (i := i9) (h := h9) (l := [ByteArray.mk #[], ByteArray.mk #[65], ByteArray.mk #[122, 122, 122, 122, 122, 122, 122, 122, 122], ByteArray.mk #[122], ByteArray.mk #[97]]) (by omega) (by omega) (by exact Nat.succ_pos _)) (ev_tmp rfl) rfl ac_arg rfl (fun _ => rfl) (ad_cons (ev_tmp rfl) (ag_one (ac_key' rfl rfl)) rfl ad_nil) rfl (fun _ => rfl) (fun _ => rfl) rfl (fun zz hz16 => ?_)
   obtain ⟨e16, i16, h16⟩ := zz
   replace hz16 : e16 ∈ ([ByteArray.mk #[], ByteArray.mk #[65], ByteArray.mk #[122, 122, 122, 122, 122, 122, 122, 122, 122], ByteArray.mk #[122], ByteArray.mk #[97]]) ∧ 0 ≤ i16 := hz16
   have hsz := size_of 9 (by decide +kernel) hz16.1
   refine l_split 7 [] (by kernel_rfl) ⟨?_, trivial⟩
   refine y_callB 19000 7 rfl rfl rfl rfl rfl Try.call53 (ok_spec_l1Int (code := code) (i := i16) (h := h16) (l := [0, -1, 1000000000, 1000000001]) (by omega) (by omega) (by exact Nat.succ_pos _)) (ev_tmp rfl) rfl ac_arg rfl (fun _ => rfl) (ad_cons (ev_tmp rfl) (ag_one (ac_key' rfl rfl)) rfl ad_nil) rfl (fun _ => rfl) (fun _ => rfl) rfl (fun zz hz19 => ?_)
   obtain ⟨e19, i19, h19⟩ := zz
   replace hz19 : e19 ∈ ([0, -1, 1000000000, 1000000001]) ∧ 0 ≤ i19 := hz19
   refine l_take 8 rfl (by kernel_rfl) rfl rfl (pu_build hT hB rfl rfl rfl (bp_cons (ev_tmp rfl) rfl rfl rfl rfl rfl (bp_cons (ev_tmp rfl) rfl rfl rfl rfl rfl bp_nil))) rfl rfl rfl rfl rfl ?_
   refine l_split 9 [] (by kernel_rfl) ⟨?_, trivial⟩
   refine y_buildN (k := 21) (js := []) 9 hT rfl rfl rfl rfl rfl rfl rfl rfl rfl rfl rfl rfl (ep_cons (ev_tmp rfl) rfl rfl rfl ep_nil) (ow_cons' (ow_dv rfl) (ow_cons' (ow_dv rfl) ow_nil rfl) rfl) (by decide) (by decide) rfl rfl rfl rfl rfl ?_
   simp only [killT, killB, SV.kill, CV.kill, kk, Nat.reduceBEq]
   refine l_chain [10, 11, 12] rfl rfl (by kernel_rfl) ?_
   refine o_appK (k := 9001) (j := 21) (cs := (e7 ++ [(e16, e19)]).flatMap eField) (n := (e7 ++ [(e16, e19)]).length) hT rfl rfl rfl rfl rfl rfl rfl (ev_tmp rfl) rfl rfl rfl (ev_tmp rfl) rfl rfl (by decide) (by have := rec_len hz7.1; dsimp only [kcOf, KC.old, fieldsD, listD]; omega) (by have := rec_len hz7.1; dsimp only [kcOf, KC.old, fieldsD, listD]; omega) (by rw [List.length_append]; rfl) (by rw [List.flatMap_append]; rfl) ?_
   simp only [killT, killB, SV.kill, CV.kill, kk, Nat.reduceBEq]
   iterate 2 refine z ?_
   refine ops_nil ?_
   iterate 6 refine z ?_
   refine ok_weak (σ' := ⟨[(2, .box 2 0), (0, .abox 0)], [(2, 55, [(.key 9001)]), (0, 63, [(.arg 900001 (bytesD (code))), (.dv [] (.int .i64 (i19))), (.dv [] (.int .i64 (h19)))])], [(9001, some (kcOf false (.sl 106 2 ((e7 ++ [(e16, e19)]).length) ((e7 ++ [(e16, e19)]).flatMap eField))))]⟩) (weak_sub ⟨rfl, rfl, trivial⟩ ⟨rfl, rfl, trivial⟩ ⟨rfl, trivial⟩ rfl) ?_
   refine z ?_
   refine fin1 (res_cell hT rfl rfl rfl rfl) ⟨(((e7 ++ [(e16, e19)])), i19, h19), ?_, rfl, rfl, rfl, rfl⟩
   try dsimp only
   exact ⟨by have := rec_app_w e7 (e16, e19); dsimp only at this; omega, by omega⟩
 ·skip
  have d1 := of_decide_eq_false c1
  iterate 4 refine z ?_
  refine yQ rfl (fun c2 => ?_) fun c2 => ?_
  ·skip
   have d2 := of_decide_eq_true c2
   refine z ?_
   refine o_buildN (k := 26) (js := []) hT rfl rfl rfl rfl rfl rfl rfl rfl rfl rfl rfl (ep_cons (ev_str (str_lit rfl)) rfl rfl rfl (ep_cons (ev_str (str_lit rfl)) rfl rfl rfl (ep_cons (ev_str (str_lit rfl)) rfl rfl rfl (ep_cons (ev_str (str_lit rfl)) rfl rfl rfl (ep_cons (ev_str (str_lit rfl)) rfl rfl rfl (ep_cons (ev_str (str_lit rfl)) rfl rfl rfl ep_nil)))))) (ow_cons' (ow_dv rfl) (ow_cons' (ow_dv rfl) (ow_cons' (ow_dv rfl) (ow_cons' (ow_dv rfl) (ow_cons' (ow_dv rfl) (ow_cons' (ow_dv rfl) ow_nil rfl) rfl) rfl) rfl) rfl) rfl) (by decide) (by decide) rfl rfl ?_
   simp only [killT, killB, SV.kill, CV.kill, kk, Nat.reduceBEq]
   refine yO rfl rfl (pu_lenKn (n := (6)) hT rfl rfl (ev_tmp rfl) rfl rfl) rfl ?_
   iterate 3 refine z ?_
   refine ok_weak (weak_view (d := 26) (dd := strsD ([ByteArray.mk #[100], ByteArray.mk #[101], ByteArray.mk #[102], ByteArray.mk #[103], ByteArray.mk #[104], ByteArray.mk #[105]])) rfl rfl (.refl _)) ?_
   refine ok_loop (ι := Nat × RecT × Int × Int) (fun zz => ⟨[(0, .abox 0), (2, .box 2 0), (3, .box 3 0), (26, .one (.dv [26] (strsD ([ByteArray.mk #[100], ByteArray.mk #[101], ByteArray.mk #[102], ByteArray.mk #[103], ByteArray.mk #[104], ByteArray.mk #[105]])))), (27, .one (.dv [] (.int .i64 (((6) : Int))))), (28, .one (.dv [] (.int .i64 ((zz.1 : Int)))))], [(0, 63, [(.arg 900001 (bytesD (code))), (.dv [] (.int .i64 (zz.2.2.1))), (.dv [] (.int .i64 (zz.2.2.2)))]), (2, 55, [.nil]), (3, 55, [(.key 9001)])], [(9001, some (kcOf false (.sl 106 2 (zz.2.1.length) (zz.2.1.flatMap eField)))), (26, some (kcOf false (.sl 9 1 (6) ([.str (ByteArray.mk #[100]), .str (ByteArray.mk #[101]), .str (ByteArray.mk #[102]), .str (ByteArray.mk #[103]), .str (ByteArray.mk #[104]), .str (ByteArray.mk #[105])]))))]⟩) (fun zz => isRec zz.2.1 = true ∧ 0 ≤ zz.2.2.1 ∧ zz.1 ≤ 6) (fun zz => 6 - zz.1) ((0, e7, i9, h9)) ?_ (weak_sub ⟨rfl, rfl, rfl, rfl, rfl, rfl, trivial⟩ ⟨rfl, rfl, rfl, trivial⟩ ⟨rfl, rfl, trivial⟩ rfl) (fun zz hx => ?_)
   ·exact ⟨hz7.1, by dsimp only; omega, Nat.zero_le _⟩
   obtain ⟨k, r, ci, ch⟩ := zz
   replace hx : isRec r = true ∧ 0 ≤ ci ∧ k ≤ 6 := hx
   obtain ⟨hr, hci, hk6⟩ := hx
   show Ok _ _ _ _ _ (⟨[(0, .abox 0), (2, .box 2 0), (3, .box 3 0), (26, .one (.dv [26] (strsD ([ByteArray.mk #[100], ByteArray.mk #[101], ByteArray.mk #[102], ByteArray.mk #[103], ByteArray.mk #[104], ByteArray.mk #[105]])))), (27, .one (.dv [] (.int .i64 (((6) : Int))))), (28, .one (.dv [] (.int .i64 ((k : Int)))))], [(0, 63, [(.arg 900001 (bytesD (code))), (.dv [] (.int .i64 (ci))), (.dv [] (.int .i64 (ch)))]), (2, 55, [.nil]), (3, 55, [(.key 9001)])], [(9001, some (kcOf false (.sl 106 2 (r.length) (r.flatMap eField)))), (26, some (kcOf false (.sl 9 1 (6) ([.str (ByteArray.mk #[100]), .str (ByteArray.mk #[101]), .str (ByteArray.mk #[102]), .str (ByteArray.mk #[103]), .str (ByteArray.mk #[104]), .str (ByteArray.mk #[105])]))))]⟩ : St)
   iterate 3 refine z ?_
   refine ok_seq ?_
   refine yQ rfl (fun c3 => ?_) fun c3 => ?_
   ·skip
    have d3 := of_decide_eq_true c3
    iterate 9 refine z ?_
    refine ok_region ?_
    iterate 2 refine z ?_
    refine o_callK 500 rfl rfl rfl Try.call79 (ok_spec_SetField (r := r) (n := (([ByteArray.mk #[100], ByteArray.mk #[101], ByteArray.mk #[102], ByteArray.mk #[103], ByteArray.mk #[104], ByteArray.mk #[105]]).getD (k : Int).toNat default)) (v := 1) (by have := rec_len hr; omega)) (as_cons (ev_tmp rfl) (ag_agg (ag_cons (ac_key' rfl rfl) ag_nil)) (as_cons (ev_tmp rfl) (ag_one ac_dv) (as_cons (ev_int (inR_lit rfl)) (ag_one ac_dv) as_nil))) rfl rfl rfl ?_
    iterate 4 refine z ?_
    refine ops_nil ?_
    iterate 2 refine z ?_
    refine ok_region ?_
    iterate 3 refine z ?_
    refine ⟨(k + 1, (setF r (([ByteArray.mk #[100], ByteArray.mk #[101], ByteArray.mk #[102], ByteArray.mk #[103], ByteArray.mk #[104], ByteArray.mk #[105]]).getD (k : Int).toNat default) 1).1, ci, ch), ?_, ?_, weak_then (weak_swapB (b := 3) (i := 0) (k := 9501) (k' := 9001) rfl rfl rfl rfl (by simp) rfl rfl) (weak_sub ⟨rfl, rfl, rfl, rfl, rfl, rfl, trivial⟩ ⟨rfl, rfl, rfl, trivial⟩ ⟨rfl, rfl, trivial⟩ rfl)⟩
    ·exact ⟨setF_rec hr, hci, by dsimp only; omega⟩
    ·dsimp only; omega
   ·skip
    have d3 := of_decide_eq_false c3
    iterate 10 refine z ?_
    refine ok_weak (σ' := ⟨[(2, .box 2 0), (0, .abox 0)], [(2, 55, [(.key 9001)]), (0, 63, [(.arg 900001 (bytesD (code))), (.dv [] (.int .i64 (ci))), (.dv [] (.int .i64 (ch)))])], [(9001, some (kcOf false (.sl 106 2 (r.length) (r.flatMap eField))))]⟩) (weak_sub ⟨rfl, rfl, trivial⟩ ⟨rfl, rfl, trivial⟩ ⟨rfl, trivial⟩ rfl) ?_
    refine z ?_
    refine fin1 (res_cell hT rfl rfl rfl rfl) ⟨((r), ci, ch), ?_, rfl, rfl, rfl, rfl⟩
    try dsimp only
    exact ⟨by have := rec_wt hr; omega, by omega⟩
  ·skip
   have d2 := of_decide_eq_false c2
   iterate 7 refine z ?_
   refine ok_weak (σ' := ⟨[(2, .box 2 0), (0, .abox 0)], [(2, 55, [(.key 9001)]), (0, 63, [(.arg 900001 (bytesD (code))), (.dv [] (.int .i64 (i9))), (.dv [] (.int .i64 (h9)))])], [(9001, some (kcOf false (fieldsD (e7))))]⟩) (weak_sub ⟨rfl, rfl, trivial⟩ ⟨rfl, rfl, trivial⟩ ⟨rfl, trivial⟩ rfl) ?_
   refine z ?_
   refine fin1 (res_cell hT rfl rfl rfl rfl) ⟨((e7), i9, h9), ?_, rfl, rfl, rfl, rfl⟩
   try dsimp only
   exact ⟨by omega, by omega⟩
theorem ok_spec_l6Store {code : List UInt8} {i h : Int} {nm : Str} (hc : code.length ≤ 1048576) (hi : 0 ≤ i) (hn : isName nm = true) : BFn Try.prog 70 [.one (.dv [] (.str (nm)))] 63 (bytesD (code)) [.dv [] (.int .i64 (i)), .dv [] (.int .i64 (h))] (fun zz : StoreT × Int × Int => isSto zz.1 = true ∧ zz.1.1 = nm ∧ autoI zz.1 ∧ zz.1.2.2 ≤ 256 ∧ 0 ≤ zz.2.1) (fun zz : StoreT × Int × Int => .agg [(.dv [] (.str (zz.1.1))), (.key 9001), (.dv [] (.int .i64 (zz.1.2.2)))]) (fun zz : StoreT × Int × Int => [(9001, some (kcOf false (itemsD (zz.1.2.1))))]) (fun zz : StoreT × Int × Int => [.dv [] (.int .i64 (zz.2.1)), .dv [] (.int .i64 (zz.2.2))]) := by
 refine ⟨fn_introS Try.func70 rfl Try.ntmps70 Try.results70 rfl (fun C => ?_)⟩
 refine ok_fact (x := .tmp 1) (ev_tmp rfl) fun f1 => ?_
 iterate 5 refine z ?_
 refine yO rfl rfl (pu_build hT hB rfl rfl rfl (bp_cons (ev_tmp rfl) rfl rfl rfl rfl rfl bp_nil)) rfl ?_
 iterate 3 refine z ?_
 refine ok_seq ?_
 refine ok_seq ?_
 refine ok_weak (weak_nilB 9001 (b := 5) (i := 1) (e := 109) (sz := 4) rfl rfl rfl rfl rfl) ?_
 simp only [killT, killB, SV.kill, CV.kill, kk, Nat.reduceBEq]
 refine ok_region ?_
 refine yO rfl rfl (pu_move (.inl rfl) (ev_abox (ev_tmp rfl))) rfl ?_
 refine o_buildN (k := 10) (js := []) hT rfl rfl rfl rfl rfl rfl rfl rfl rfl rfl rfl (ep_cons (ev_int (inR_lit rfl)) rfl rfl rfl (ep_cons (ev_int (inR_lit rfl)) rfl rfl rfl (ep_cons (ev_int (inR_lit rfl)) rfl rfl rfl (ep_cons (ev_int (inR_lit rfl)) rfl rfl rfl ep_nil)))) (ow_cons' (ow_dv rfl) (ow_cons' (ow_dv rfl) (ow_cons' (ow_dv rfl) (ow_cons' (ow_dv rfl) ow_nil rfl) rfl) rfl) rfl) (by decide) (by decide) rfl rfl ?_
 simp only [killT, killB, SV.kill, CV.kill, kk, Nat.reduceBEq]
 refine o_callB 11000 rfl rfl rfl Try.call53 (ok_spec_l1Int (code := code) (i := i) (h := h) (l := [0, 2, 4, 6]) (by omega) (by omega) (by exact Nat.succ_pos _)) (ev_tmp rfl) rfl ac_arg rfl (fun _ => rfl) (ad_cons (ev_tmp rfl) (ag_one (ac_key' rfl rfl)) rfl ad_nil) rfl (fun _ => rfl) (fun _ => rfl) (fun zz hz11 => ?_)
 obtain ⟨e11, i11, h11⟩ := zz
 replace hz11 : e11 ∈ ([0, 2, 4, 6]) ∧ 0 ≤ i11 := hz11
 have hnr := rng_of 0 6 (by decide +kernel) hz11.1
 iterate 3 refine z ?_
 refine ok_loop (ι := Int × StoreT × Int × Int) (fun zz => ⟨[(0, .abox 0), (4, .box 4 0), (5, .box 5 0), (6, .one (.dv [] (.int .i64 (zz.1))))], [(0, 63, [(.arg 900001 (bytesD (code))), (.dv [] (.int .i64 (zz.2.2.1))), (.dv [] (.int .i64 (zz.2.2.2)))]), (4, 83, [(.dv [] (.str (ByteArray.empty))), .nil, (.dv [] (.int .i64 (0)))]), (5, 83, [(.dv [] (.str (zz.2.1.1))), (.key 9001), (.dv [] (.int .i64 (zz.2.1.2.2)))])], [(9001, some (kcOf false (.sl 109 4 (zz.2.1.2.1.length) (zz.2.1.2.1.flatMap eItem))))]⟩) (fun zz => isSto zz.2.1 = true ∧ zz.2.1.1 = nm ∧ autoI zz.2.1 ∧ zz.2.1.2.2 ≤ 256 ∧ 0 ≤ zz.2.2.1 ∧ zz.1 ≤ 6) (fun zz => zz.1.toNat) ((e11, (nm, [], 0), i11, h11)) ?_ (weak_sub ⟨rfl, rfl, rfl, rfl, trivial⟩ ⟨rfl, rfl, rfl, trivial⟩ ⟨rfl, trivial⟩ rfl) (fun zz hx => ?_)
 ·refine ⟨?_, rfl, fun y hy => (by cases hy), by dsimp only; omega, by dsimp only; omega, by dsimp only; omega⟩
  unfold isSto; simp [hn]
 obtain ⟨n, s, ci, ch⟩ := zz
 replace hx : isSto s = true ∧ s.1 = nm ∧ autoI s ∧ s.2.2 ≤ 256 ∧ 0 ≤ ci ∧ n ≤ 6 := hx
 obtain ⟨hs, hnm, ha, ha2, hci, hn6⟩ := hx
 show Ok _ _ _ _ _ (⟨[(0, .abox 0), (4, .box 4 0), (5, .box 5 0), (6, .one (.dv [] (.int .i64 (n))))], [(0, 63, [(.arg 900001 (bytesD (code))), (.dv [] (.int .i64 (ci))), (.dv [] (.int .i64 (ch)))]), (4, 83, [(.dv [] (.str (ByteArray.empty))), .nil, (.dv [] (.int .i64 (0)))]), (5, 83, [(.dv [] (.str (s.1))), (.key 9001), (.dv [] (.int .i64 (s.2.2)))])], [(9001, some (kcOf false (.sl 109 4 (s.2.1.length) (s.2.1.flatMap eItem))))]⟩ : St)
 iterate 5 refine z ?_
 refine yQ rfl (fun c1 => ?_) fun c1 => ?_
 ·skip
  have d1 := of_decide_eq_true c1
  iterate 4 refine z ?_
  refine ok_regionL [0] [0, 1, 2, 3, 4, 5, 6] (oB := [4, 5]) (oK := [9001]) (by kernel_rfl) rfl rfl ?_
  refine l_take 0 rfl (by kernel_rfl) rfl rfl (pu_loadBoxA hT rfl rfl (ev_tmp rfl) rfl rfl) rfl rfl rfl rfl rfl ?_
  refine l_take 1 rfl (by kernel_rfl) rfl rfl (pu_move (.inl rfl) (ev_abox (ev_tmp rfl))) rfl rfl rfl rfl rfl ?_
  refine l_take 3 rfl (by kernel_rfl) rfl rfl (pu_move (.inl rfl) (ev_abox (ev_tmp rfl))) rfl rfl rfl rfl rfl ?_
  refine l_split 2 [] (by kernel_rfl) ⟨?_, trivial⟩
  refine y_callB 19000 2 rfl rfl rfl rfl rfl Try.call58 (ok_spec_l4Small (code := code) (i := ci) (h := ch) (by omega) (by omega)) (ev_tmp rfl) rfl ac_arg rfl (fun _ => rfl) ad_nil rfl (fun _ => rfl) (fun _ => rfl) rfl (fun zz hz19 => ?_)
  obtain ⟨e19, i19, h19⟩ := zz
  replace hz19 : isKey e19 = true ∧ smallK e19 ∧ 0 ≤ i19 := hz19
  refine l_split 4 [] (by kernel_rfl) ⟨?_, trivial⟩
  refine y_callB 21000 4 rfl rfl rfl rfl rfl Try.call59 (ok_spec_l5Record (code := code) (i := i19) (h := h19) (by omega) (by omega)) (ev_tmp rfl) rfl ac_arg rfl (fun _ => rfl) ad_nil rfl (fun _ => rfl) (fun _ => rfl) rfl (fun zz hz21 => ?_)
  obtain ⟨e21, i21, h21⟩ := zz
  replace hz21 : isRec e21 = true ∧ 0 ≤ i21 := hz21
  have hrl := rec_len hz21.1
  refine l_split 5 [] (by kernel_rfl) ⟨?_, trivial⟩
  refine y_callK 500 5 rfl rfl rfl rfl Try.call83 (ok_spec_PutItem (x := s) (k := e19) (r := e21) (by have := sto_w2 hs; omega) (by omega)) (as_cons (ev_tmp rfl) (ag_agg (ag_cons ac_dv (ag_cons (ac_key' rfl rfl) (ag_cons ac_dv ag_nil)))) (as_cons (ev_tmp rfl) (ag_agg (ag_cons ac_dv (ag_cons ac_dv (ag_cons ac_dv ag_nil)))) (as_cons (ev_tmp rfl) (ag_agg (ag_cons (ac_key' rfl rfl) ag_nil)) as_nil))) rfl rfl rfl rfl rfl rfl ?_
  refine l_take 6 rfl (by kernel_rfl) rfl rfl (pu_move (.inl rfl) (ev_tmp rfl)) rfl rfl rfl rfl rfl ?_
  refine l_takeX 7 rfl (by kernel_rfl) rfl rfl rfl (pu_extractA rfl (ev_tmp rfl) rfl) rfl rfl ?_
  refine l_takeX 8 rfl (by kernel_rfl) rfl rfl rfl (pu_extract1 rfl (ev_tmp rfl) rfl) rfl rfl ?_
  refine l_chain [9] rfl rfl (by kernel_rfl) ?_
  refine z ?_
  refine ops_nil ?_
  iterate 2 refine z ?_
  refine ok_region ?_
  iterate 4 refine z ?_
  refine ⟨(n - 1, (putN s e19 e21).1, i21, h21), ?_, ?_, weak_then (weak_swapB (b := 5) (i := 1) (k := 9501) (k' := 9001) rfl rfl rfl rfl (by simp) rfl rfl) (weak_sub ⟨rfl, rfl, rfl, rfl, trivial⟩ ⟨rfl, rfl, rfl, trivial⟩ ⟨rfl, trivial⟩ rfl)⟩
  ·exact ⟨putN_sto hs, (putN_name _ _ _).trans hnm, autoI_put ha, auto_small ha2 hz19.2.1, by dsimp only; omega, by dsimp only; omega⟩
  ·dsimp only; omega
 ·skip
  have d1 := of_decide_eq_false c1
  iterate 7 refine z ?_
  refine yO rfl rfl (pu_move (.inl rfl) (ev_abox (ev_tmp rfl))) rfl ?_
  refine o_callB 26000 rfl rfl rfl Try.call12 (ok_spec_l1Once (code := code) (i := ci) (h := ch) (n := 8) (by omega) (by omega) ) (ev_tmp rfl) rfl ac_arg rfl (fun _ => rfl) (ad_cons (ev_int (inR_lit rfl)) (ag_one ac_dv) rfl ad_nil) rfl (fun _ => rfl) (fun _ => rfl) (fun zz hz26 => ?_)
  obtain ⟨e26, i26, h26⟩ := zz
  replace hz26 : 0 ≤ i26 := hz26
  refine z ?_
  refine yQ rfl (fun c2 => ?_) fun c2 => ?_
  ·skip
   refine ok_regionL [0] [0, 1, 2, 3, 4, 5, 6] (oB := [4, 5]) (oK := [9001]) (by kernel_rfl) rfl rfl ?_
   refine l_take 0 rfl (by kernel_rfl) rfl rfl (pu_loadBoxA hT rfl rfl (ev_tmp rfl) rfl rfl) rfl rfl rfl rfl rfl ?_
   refine l_take 1 rfl (by kernel_rfl) rfl rfl (pu_move (.inl rfl) (ev_abox (ev_tmp rfl))) rfl rfl rfl rfl rfl ?_
   refine l_take 3 rfl (by kernel_rfl) rfl rfl (pu_move (.inl rfl) (ev_abox (ev_tmp rfl))) rfl rfl rfl rfl rfl ?_
   refine l_split 2 [] (by kernel_rfl) ⟨?_, trivial⟩
   refine y_callB 30000 2 rfl rfl rfl rfl rfl Try.call78 (ok_spec_l4Key (code := code) (i := i26) (h := h26) (by omega) (by omega)) (ev_tmp rfl) rfl ac_arg rfl (fun _ => rfl) ad_nil rfl (fun _ => rfl) (fun _ => rfl) rfl (fun zz hz30 => ?_)
   obtain ⟨e30, i30, h30⟩ := zz
   replace hz30 : isKey e30 = true ∧ smallK e30 ∧ 0 ≤ i30 := hz30
   refine l_split 4 [] (by kernel_rfl) ⟨?_, trivial⟩
   refine y_callB 32000 4 rfl rfl rfl rfl rfl Try.call59 (ok_spec_l5Record (code := code) (i := i30) (h := h30) (by omega) (by omega)) (ev_tmp rfl) rfl ac_arg rfl (fun _ => rfl) ad_nil rfl (fun _ => rfl) (fun _ => rfl) rfl (fun zz hz32 => ?_)
   obtain ⟨e32, i32, h32⟩ := zz
   replace hz32 : isRec e32 = true ∧ 0 ≤ i32 := hz32
   have hrl := rec_len hz32.1
   refine l_split 5 [] (by kernel_rfl) ⟨?_, trivial⟩
   refine y_callK 600 5 rfl rfl rfl rfl Try.call83 (ok_spec_PutItem (x := s) (k := e30) (r := e32) (by have := sto_w2 hs; omega) (by omega)) (as_cons (ev_tmp rfl) (ag_agg (ag_cons ac_dv (ag_cons (ac_key' rfl rfl) (ag_cons ac_dv ag_nil)))) (as_cons (ev_tmp rfl) (ag_agg (ag_cons ac_dv (ag_cons ac_dv (ag_cons ac_dv ag_nil)))) (as_cons (ev_tmp rfl) (ag_agg (ag_cons (ac_key' rfl rfl) ag_nil)) as_nil))) rfl rfl rfl rfl rfl rfl ?_
   refine l_take 6 rfl (by kernel_rfl) rfl rfl (pu_move (.inl rfl) (ev_tmp rfl)) rfl rfl rfl rfl rfl ?_
   refine l_takeX 7 rfl (by kernel_rfl) rfl rfl rfl (pu_extractA rfl (ev_tmp rfl) rfl) rfl rfl ?_
   refine l_takeX 8 rfl (by kernel_rfl) rfl rfl rfl (pu_extract1 rfl (ev_tmp rfl) rfl) rfl rfl ?_
   refine l_chain [9] rfl rfl (by kernel_rfl) ?_
   iterate 6 refine z ?_
   refine ok_weak (weak_swapB (b := 4) (i := 1) (k := 9601) (k' := 9001) rfl rfl rfl rfl (by simp) rfl rfl) ?_
   try simp only [killT, killB, SV.kill, CV.kill, kk, Nat.reduceBEq]
   refine ok_weak (σ' := ⟨[(4, .box 4 0), (0, .abox 0)], [(4, 83, [(.dv [] (.str ((putN (s) (e30) (e32)).1.1))), (.key 9001), (.dv [] (.int .i64 ((putN (s) (e30) (e32)).1.2.2)))]), (0, 63, [(.arg 900001 (bytesD (code))), (.dv [] (.int .i64 (i32))), (.dv [] (.int .i64 (h32)))])], [(9001, some (kcOf false (itemsD ((putN (s) (e30) (e32)).1.2.1))))]⟩) (weak_sub ⟨rfl, rfl, trivial⟩ ⟨rfl, rfl, trivial⟩ ⟨rfl, trivial⟩ rfl) ?_
   refine z ?_
   refine fin1 (res_cell hT rfl rfl rfl rfl) ⟨((((putN (s) (e30) (e32)).1.1), (((putN (s) (e30) (e32)).1.2.1), ((putN (s) (e30) (e32)).1.2.2))), i32, h32), ?_, rfl, rfl, rfl, rfl⟩
   try dsimp only
   exact ⟨putN_sto hs, (putN_name _ _ _).trans hnm, autoI_put ha, auto_small ha2 hz30.2.1, by omega⟩
  ·skip
   iterate 6 refine z ?_
   refine ok_weak (σ' := ⟨[(4, .box 4 0), (0, .abox 0)], [(4, 83, [(.dv [] (.str (s.1))), (.key 9001), (.dv [] (.int .i64 (s.2.2)))]), (0, 63, [(.arg 900001 (bytesD (code))), (.dv [] (.int .i64 (i26))), (.dv [] (.int .i64 (h26)))])], [(9001, some (kcOf false (.sl 109 4 (s.2.1.length) (s.2.1.flatMap eItem))))]⟩) (weak_sub ⟨rfl, rfl, trivial⟩ ⟨rfl, rfl, trivial⟩ ⟨rfl, trivial⟩ rfl) ?_
   refine z ?_
   refine fin1 (res_cell hT rfl rfl rfl rfl) ⟨(((s.1), ((s.2.1), (s.2.2))), i26, h26), ?_, rfl, rfl, rfl, rfl⟩
   try dsimp only
   exact ⟨hs, hnm, ha, ha2, by omega⟩
theorem ok_spec_l6Any {code : List UInt8} {i h : Int} (hc : code.length ≤ 1048576) (hi : 0 ≤ i) : BFn Try.prog 54 [] 63 (bytesD (code)) [.dv [] (.int .i64 (i)), .dv [] (.int .i64 (h))] (fun zz : StoreT × Int × Int => wStore zz.1 ≤ 1500 ∧ 0 ≤ zz.2.1) (fun zz : StoreT × Int × Int => .agg [(.dv [] (.str (zz.1.1))), (.key 9001), (.dv [] (.int .i64 (zz.1.2.2)))]) (fun zz : StoreT × Int × Int => [(9001, some (kcOf false (itemsD (zz.1.2.1))))]) (fun zz : StoreT × Int × Int => [.dv [] (.int .i64 (zz.2.1)), .dv [] (.int .i64 (zz.2.2))]) := by
 refine ⟨fn_introS Try.func54 rfl Try.ntmps54 Try.results54 rfl (fun C => ?_)⟩
 iterate 4 refine z ?_
 refine yO rfl rfl (pu_move (.inl rfl) (ev_abox (ev_tmp rfl))) rfl ?_
 refine o_callB 0 rfl rfl rfl Try.call70 (ok_spec_l6Store (code := code) (i := i) (h := h) (nm := ByteArray.mk #[110, 111, 116, 101, 115]) (by omega) (by omega) (by decide +kernel)) (ev_tmp rfl) rfl ac_arg rfl (fun _ => rfl) (ad_cons (ev_str (str_lit rfl)) (ag_one ac_dv) rfl ad_nil) rfl (fun _ => rfl) (fun _ => rfl) (fun zz hz5 => ?_)
 obtain ⟨e5, i5, h5⟩ := zz
 replace hz5 : isSto e5 = true ∧ e5.1 = (ByteArray.mk #[110, 111, 116, 101, 115]) ∧ autoI e5 ∧ e5.2.2 ≤ 256 ∧ 0 ≤ i5 := hz5
 have hw5 := sto_w2 hz5.1
 have hls := (sto_srt hz5.1).2.2
 iterate 5 refine z ?_
 refine yO rfl rfl (pu_move (.inl rfl) (ev_abox (ev_tmp rfl))) rfl ?_
 refine o_callB 7000 rfl rfl rfl Try.call25 (ok_spec_l1Below (code := code) (i := i5) (h := h5) (n := 12) (by omega) (by omega) ) (ev_tmp rfl) rfl ac_arg rfl (fun _ => rfl) (ad_cons (ev_int (inR_lit rfl)) (ag_one ac_dv) rfl ad_nil) rfl (fun _ => rfl) (fun _ => rfl) (fun zz hz7 => ?_)
 obtain ⟨e7, i7, h7⟩ := zz
 replace hz7 : 0 ≤ e7 ∧ (0 < (12 : Int) → e7 < (12 : Int)) ∧ 0 ≤ i7 := hz7
 iterate 6 refine z ?_
 refine yQ rfl (fun c1 => ?_) fun c1 => ?_
 ·skip
  have d1 := of_decide_eq_true c1
  refine ok_region ?_
  refine yO rfl rfl (pu_move (.inl rfl) (ev_abox (ev_tmp rfl))) rfl ?_
  refine o_buildN (k := 11) (js := []) hT rfl rfl rfl rfl rfl rfl rfl rfl rfl rfl rfl (ep_cons (ev_str (str_lit rfl)) rfl rfl rfl (ep_cons (ev_str (str_lit rfl)) rfl rfl rfl (ep_cons (ev_str (str_lit rfl)) rfl rfl rfl ep_nil))) (ow_cons' (ow_dv rfl) (ow_cons' (ow_dv rfl) (ow_cons' (ow_dv rfl) ow_nil rfl) rfl) rfl) (by decide) (by decide) rfl rfl ?_
  simp only [killT, killB, SV.kill, CV.kill, kk, Nat.reduceBEq]
  refine o_callB 12000 rfl rfl rfl Try.call55 (ok_spec_l1Str (code := code) (i := i7) (h := h7) (l := [ByteArray.mk #[], ByteArray.mk #[81], ByteArray.mk #[97, 98, 99, 100, 101, 102, 103, 104, 105]]) (by omega) (by omega) (by exact Nat.succ_pos _)) (ev_tmp rfl) rfl ac_arg rfl (fun _ => rfl) (ad_cons (ev_tmp rfl) (ag_one (ac_key' rfl rfl)) rfl ad_nil) rfl (fun _ => rfl) (fun _ => rfl) (fun zz hz12 => ?_)
  obtain ⟨e12, i12, h12⟩ := zz
  replace hz12 : e12 ∈ ([ByteArray.mk #[], ByteArray.mk #[81], ByteArray.mk #[97, 98, 99, 100, 101, 102, 103, 104, 105]]) ∧ 0 ≤ i12 := hz12
  have hsz := size_of 9 (by decide +kernel) hz12.1
  iterate 2 refine z ?_
  refine ops_nil ?_
  iterate 6 refine z ?_
  refine ok_weak (σ' := ⟨[(2, .box 2 0), (0, .abox 0)], [(2, 83, [(.dv [] (.str (e12))), (.key 9001), (.dv [] (.int .i64 (e5.2.2)))]), (0, 63, [(.arg 900001 (bytesD (code))), (.dv [] (.int .i64 (i12))), (.dv [] (.int .i64 (h12)))])], [(9001, some (kcOf false (itemsD (e5.2.1))))]⟩) (weak_sub ⟨rfl, rfl, trivial⟩ ⟨rfl, rfl, trivial⟩ ⟨rfl, trivial⟩ rfl) ?_
  refine z ?_
  refine fin1 (res_cell hT rfl rfl rfl rfl) ⟨(((e12), ((e5.2.1), (e5.2.2))), i12, h12), ?_, rfl, rfl, rfl, rfl⟩
  try dsimp only
  exact ⟨by have h1 : wStore e5 = e5.1.size + (e5.2.1.length + wSum wItem e5.2.1) := rfl; have h2 : wStore (e12, e5.2.1, e5.2.2) = e12.size + (e5.2.1.length + wSum wItem e5.2.1) := rfl; omega, by omega⟩
 ·skip
  have d1 := of_decide_eq_false c1
  iterate 4 refine z ?_
  refine yQ rfl (fun c2 => ?_) fun c2 => ?_
  ·skip
   have d2 := of_decide_eq_true c2
   refine ok_region ?_
   refine yO rfl rfl (pu_move (.inl rfl) (ev_abox (ev_tmp rfl))) rfl ?_
   refine o_buildN (k := 17) (js := []) hT rfl rfl rfl rfl rfl rfl rfl rfl rfl rfl rfl (ep_cons (ev_int (inR_lit rfl)) rfl rfl rfl (ep_cons (ev_int (inR_lit rfl)) rfl rfl rfl (ep_cons (ev_int (inR_lit rfl)) rfl rfl rfl (ep_cons (ev_int (inR_lit rfl)) rfl rfl rfl ep_nil)))) (ow_cons' (ow_dv rfl) (ow_cons' (ow_dv rfl) (ow_cons' (ow_dv rfl) (ow_cons' (ow_dv rfl) ow_nil rfl) rfl) rfl) rfl) (by decide) (by decide) rfl rfl ?_
   simp only [killT, killB, SV.kill, CV.kill, kk, Nat.reduceBEq]
   refine o_callB 18000 rfl rfl rfl Try.call53 (ok_spec_l1Int (code := code) (i := i7) (h := h7) (l := [-1, 999999, 1000000, 1000001]) (by omega) (by omega) (by exact Nat.succ_pos _)) (ev_tmp rfl) rfl ac_arg rfl (fun _ => rfl) (ad_cons (ev_tmp rfl) (ag_one (ac_key' rfl rfl)) rfl ad_nil) rfl (fun _ => rfl) (fun _ => rfl) (fun zz hz18 => ?_)
   obtain ⟨e18, i18, h18⟩ := zz
   replace hz18 : e18 ∈ ([-1, 999999, 1000000, 1000001]) ∧ 0 ≤ i18 := hz18
   iterate 2 refine z ?_
   refine ops_nil ?_
   iterate 6 refine z ?_
   refine ok_weak (σ' := ⟨[(2, .box 2 0), (0, .abox 0)], [(2, 83, [(.dv [] (.str (e5.1))), (.key 9001), (.dv [] (.int .i64 (e18)))]), (0, 63, [(.arg 900001 (bytesD (code))), (.dv [] (.int .i64 (i18))), (.dv [] (.int .i64 (h18)))])], [(9001, some (kcOf false (itemsD (e5.2.1))))]⟩) (weak_sub ⟨rfl, rfl, trivial⟩ ⟨rfl, rfl, trivial⟩ ⟨rfl, trivial⟩ rfl) ?_
   refine z ?_
   refine fin1 (res_cell hT rfl rfl rfl rfl) ⟨(((e5.1), ((e5.2.1), (e18))), i18, h18), ?_, rfl, rfl, rfl, rfl⟩
   try dsimp only
   exact ⟨by have h2 : wStore (e5.1, e5.2.1, e18) = wStore e5 := rfl; omega, by omega⟩
  ·skip
   have d2 := of_decide_eq_false c2
   iterate 4 refine z ?_
   refine yQ rfl (fun c3 => ?_) fun c3 => ?_
   ·skip
    have d3 := of_decide_eq_true c3
    refine ok_regionL [0] [0, 1, 2, 3, 4, 5, 6, 7] (oB := [2, 3]) (oK := [9001]) (by kernel_rfl) rfl rfl ?_
    refine l_take 0 rfl (by kernel_rfl) rfl rfl (pu_fieldBox hT rfl rfl rfl (ev_tmp rfl)) rfl rfl rfl rfl rfl ?_
    refine l_take 1 rfl (by kernel_rfl) rfl rfl (pu_loadBox1 hT rfl rfl (ev_tmp rfl) rfl rfl) rfl rfl rfl rfl rfl ?_
    refine l_take 2 rfl (by kernel_rfl) rfl rfl (pu_move (.inl rfl) (ev_abox (ev_tmp rfl))) rfl rfl rfl rfl rfl ?_
    refine l_take 4 rfl (by kernel_rfl) rfl rfl (pu_move (.inl rfl) (ev_abox (ev_tmp rfl))) rfl rfl rfl rfl rfl ?_
    refine l_split 3 [] (by kernel_rfl) ⟨?_, trivial⟩
    refine y_callB 25000 3 rfl rfl rfl rfl rfl Try.call56 (ok_spec_l4Any (code := code) (i := i7) (h := h7) (by omega) (by omega)) (ev_tmp rfl) rfl ac_arg rfl (fun _ => rfl) ad_nil rfl (fun _ => rfl) (fun _ => rfl) rfl (fun zz hz25 => ?_)
    obtain ⟨e25, i25, h25⟩ := zz
    replace hz25 : e25.2.2.size ≤ 13 ∧ 0 ≤ i25 := hz25
    refine l_split 5 [] (by kernel_rfl) ⟨?_, trivial⟩
    refine y_callB 27000 5 rfl rfl rfl rfl rfl Try.call57 (ok_spec_l5Any (code := code) (i := i25) (h := h25) (by omega) (by omega)) (ev_tmp rfl) rfl ac_arg rfl (fun _ => rfl) ad_nil rfl (fun _ => rfl) (fun _ => rfl) rfl (fun zz hz27 => ?_)
    obtain ⟨e27, i27, h27⟩ := zz
    replace hz27 : wRecord e27 ≤ 200 ∧ 0 ≤ i27 := hz27
    refine l_take 6 rfl (by kernel_rfl) rfl rfl (pu_build hT hB rfl rfl rfl (bp_cons (ev_tmp rfl) rfl rfl rfl rfl rfl (bp_cons (ev_tmp rfl) rfl rfl rfl rfl rfl bp_nil))) rfl rfl rfl rfl rfl ?_
    refine l_split 7 [] (by kernel_rfl) ⟨?_, trivial⟩
    refine y_buildN (k := 29) (js := [36001]) 7 hT rfl rfl rfl rfl rfl rfl rfl rfl rfl rfl rfl rfl (ep_cons (ev_tmp rfl) rfl rfl rfl ep_nil) (ow_cons' (ow_dv rfl) (ow_cons' (ow_dv rfl) (ow_cons' (ow_dv rfl) (ow_cons' (ow_key rfl) ow_nil rfl) rfl) rfl) rfl) (by decide) (by decide) rfl rfl rfl rfl rfl ?_
    simp only [killT, killB, SV.kill, CV.kill, kk, Nat.reduceBEq]
    refine l_chain [8, 9, 10] rfl rfl (by kernel_rfl) ?_
    refine o_appK (k := 9001) (j := 29) (cs := (e5.2.1 ++ [(e25, e27)]).flatMap eItem) (n := (e5.2.1 ++ [(e25, e27)]).length) hT rfl rfl rfl rfl rfl rfl rfl (ev_tmp rfl) rfl rfl rfl (ev_tmp rfl) rfl rfl (by decide) (by dsimp only [kcOf, KC.old, itemsD, listD]; omega) (by dsimp only [kcOf, KC.old, itemsD, listD]; omega) (by rw [List.length_append]; rfl) (by rw [List.flatMap_append]; rfl) ?_
    simp only [killT, killB, SV.kill, CV.kill, kk, Nat.reduceBEq]
    iterate 2 refine z ?_
    refine ops_nil ?_
    iterate 6 refine z ?_
    refine ok_weak (σ' := ⟨[(2, .box 2 0), (0, .abox 0)], [(2, 83, [(.dv [] (.str (e5.1))), (.key 9001), (.dv [] (.int .i64 (e5.2.2)))]), (0, 63, [(.arg 900001 (bytesD (code))), (.dv [] (.int .i64 (i27))), (.dv [] (.int .i64 (h27)))])], [(9001, some (kcOf false (.sl 109 4 ((e5.2.1 ++ [(e25, e27)]).length) ((e5.2.1 ++ [(e25, e27)]).flatMap eItem))))]⟩) (weak_sub ⟨rfl, rfl, trivial⟩ ⟨rfl, rfl, trivial⟩ ⟨rfl, trivial⟩ rfl) ?_
    refine z ?_
    refine fin1 (res_cell hT rfl rfl rfl rfl) ⟨(((e5.1), (((e5.2.1 ++ [(e25, e27)])), (e5.2.2))), i27, h27), ?_, rfl, rfl, rfl, rfl⟩
    try dsimp only
    exact ⟨by have h2 := sto_app_w e5 (e25, e27); dsimp only at h2; omega, by omega⟩
   ·skip
    have d3 := of_decide_eq_false c3
    iterate 4 refine z ?_
    refine yQ rfl (fun c4 => ?_) fun c4 => ?_
    ·skip
     have d4 := of_decide_eq_true c4
     refine z ?_
     refine ok_loop (ι := StoreT × Int × Int) (fun zz => ⟨[(0, .abox 0), (2, .box 2 0), (3, .box 3 0)], [(0, 63, [(.arg 900001 (bytesD (code))), (.dv [] (.int .i64 (zz.2.1))), (.dv [] (.int .i64 (zz.2.2)))]), (2, 83, [(.dv [] (.str (ByteArray.empty))), .nil, (.dv [] (.int .i64 (0)))]), (3, 83, [(.dv [] (.str (zz.1.1))), (.key 9001), (.dv [] (.int .i64 (zz.1.2.2)))])], [(9001, some (kcOf false (.sl 109 4 (zz.1.2.1.length) (zz.1.2.1.flatMap eItem))))]⟩) (fun zz => isSto zz.1 = true ∧ autoI zz.1 ∧ zz.1.2.2 ≤ 284 + (zz.1.2.1.length : Int) ∧ 0 ≤ zz.2.1) (fun zz => 16 - zz.1.2.1.length) ((e5, i7, h7)) ?_ (weak_sub ⟨rfl, rfl, rfl, trivial⟩ ⟨rfl, rfl, rfl, trivial⟩ ⟨rfl, trivial⟩ rfl) (fun zz hx => ?_)
     ·exact ⟨hz5.1, hz5.2.2.1, by dsimp only; omega, by dsimp only; omega⟩
     obtain ⟨s, ci, ch⟩ := zz
     replace hx : isSto s = true ∧ autoI s ∧ s.2.2 ≤ 284 + (s.2.1.length : Int) ∧ 0 ≤ ci := hx
     obtain ⟨hs, ha, ha2, hci⟩ := hx
     show Ok _ _ _ _ _ (⟨[(0, .abox 0), (2, .box 2 0), (3, .box 3 0)], [(0, 63, [(.arg 900001 (bytesD (code))), (.dv [] (.int .i64 (ci))), (.dv [] (.int .i64 (ch)))]), (2, 83, [(.dv [] (.str (ByteArray.empty))), .nil, (.dv [] (.int .i64 (0)))]), (3, 83, [(.dv [] (.str (s.1))), (.key 9001), (.dv [] (.int .i64 (s.2.2)))])], [(9001, some (kcOf false (.sl 109 4 (s.2.1.length) (s.2.1.flatMap eItem))))]⟩ : St)
     iterate 4 refine z ?_
     refine yO rfl rfl (pu_lenKn (n := (s.2.1.length)) hT rfl rfl (ev_tmp rfl) rfl rfl) rfl ?_
     iterate 3 refine z ?_
     refine o_callG (gd_bool rfl rfl rfl rfl rfl) rfl rfl Try.call76 (ok_spec_IsStore (s := s)) (fun hg => (as_cons (ev_opt rfl hg) (ag_agg (ag_cons ac_dv (ag_cons (ac_key' rfl rfl) (ag_cons ac_dv ag_nil)))) as_nil)) rfl rfl ?_
     iterate 2 refine z ?_
     refine yQ rfl (fun c5 => ?_) fun c5 => ?_
     ·skip
      obtain ⟨q1, q2⟩ := (Bool.and_eq_true _ _ ▸ c5 : _ ∧ _)
      have q3 := of_decide_eq_true q1
      obtain ⟨r1, r2, r3, r4, r5⟩ := auto_step hs ha (by omega) ha2
      iterate 3 refine z ?_
      refine ok_region ?_
      refine z ?_
      refine yO rfl rfl (pu_build hT hB rfl rfl rfl bp_nil) rfl ?_
      refine o_callK 500 rfl rfl rfl Try.call77 (ok_spec_AutoItem (x := s) (r := []) (by have := sto_w2 hs; omega) (by decide)) (as_cons (ev_tmp rfl) (ag_agg (ag_cons ac_dv (ag_cons (ac_key' rfl rfl) (ag_cons ac_dv ag_nil)))) (as_cons (ev_tmp rfl) (ag_agg (ag_cons (ac_nil' rfl rfl) ag_nil)) as_nil)) rfl rfl rfl ?_
      iterate 5 refine z ?_
      refine ops_nil ?_
      iterate 2 refine z ?_
      refine ⟨((autoN s []).1, ci, ch), ?_, ?_, weak_then (weak_swapB (b := 3) (i := 1) (k := 9501) (k' := 9001) rfl rfl rfl rfl (by simp) rfl rfl) (weak_sub ⟨rfl, rfl, rfl, trivial⟩ ⟨rfl, rfl, rfl, trivial⟩ ⟨rfl, trivial⟩ rfl)⟩
      ·exact ⟨r2, r3, by dsimp only; omega, hci⟩
      ·dsimp only; omega
     ·skip
      iterate 10 refine z ?_
      refine ok_weak (σ' := ⟨[(2, .box 2 0), (0, .abox 0)], [(2, 83, [(.dv [] (.str (s.1))), (.key 9001), (.dv [] (.int .i64 (s.2.2)))]), (0, 63, [(.arg 900001 (bytesD (code))), (.dv [] (.int .i64 (ci))), (.dv [] (.int .i64 (ch)))])], [(9001, some (kcOf false (.sl 109 4 (s.2.1.length) (s.2.1.flatMap eItem))))]⟩) (weak_sub ⟨rfl, rfl, trivial⟩ ⟨rfl, rfl, trivial⟩ ⟨rfl, trivial⟩ rfl) ?_
      refine z ?_
      refine fin1 (res_cell hT rfl rfl rfl rfl) ⟨(((s.1), ((s.2.1), (s.2.2))), ci, ch), ?_, rfl, rfl, rfl, rfl⟩
      try dsimp only
      exact ⟨by have h1 := sto_w2 hs; have h2 : wStore (s.1, s.2.1, s.2.2) = wStore s := rfl; omega, by omega⟩
    ·skip
     have d4 := of_decide_eq_false c4
     iterate 7 refine z ?_
     refine ok_weak (σ' := ⟨[(2, .box 2 0), (0, .abox 0)], [(2, 83, [(.dv [] (.str (e5.1))), (.key 9001), (.dv [] (.int .i64 (e5.2.2)))]), (0, 63, [(.arg 900001 (bytesD (code))), (.dv [] (.int .i64 (i7))), (.dv [] (.int .i64 (h7)))])], [(9001, some (kcOf false (itemsD (e5.2.1))))]⟩) (weak_sub ⟨rfl, rfl, trivial⟩ ⟨rfl, rfl, trivial⟩ ⟨rfl, trivial⟩ rfl) ?_
     refine z ?_
     refine fin1 (res_cell hT rfl rfl rfl rfl) ⟨(((e5.1), ((e5.2.1), (e5.2.2))), i7, h7), ?_, rfl, rfl, rfl, rfl⟩
     try dsimp only
     exact ⟨by have h2 : wStore (e5.1, e5.2.1, e5.2.2) = wStore e5 := rfl; omega, by omega⟩
end Go.Proofs.Ytjkpoekgnmgofaa

namespace Go.Proofs.Ytjkpoekgnmgofaa
open Go.RowKit
open Go.Proofs
set_option linter.unusedVariables false
set_option linter.unusedSimpArgs false
theorem ok_laws_big {code : List UInt8}  : PFn Try.prog 4 [.one (.dv [] (bytesD (code)))] (.one (.dv [] (.bool (decide ((1048576 : Int) < (code.length : Int)))))) := by
 refine ⟨fn_intro Try.func4 rfl Try.ntmps4 Try.results4 rfl (fun C => ?_)⟩
 refine ok_fact (x := .tmp 0) (ev_tmp rfl) fun f0 => ?_
 iterate 11 refine z ?_
 rfl
end Go.Proofs.Ytjkpoekgnmgofaa

namespace Go.Proofs.Ytjkpoekgnmgofaa
open Go.RowKit
open Go.Proofs
set_option linter.unusedVariables false
set_option linter.unusedSimpArgs false

theorem sEq_self (s : Str) : sEq s s = true := by simp [sEq]
theorem eqL_self {α : Type} [Inhabited α] {p : α → α → Bool} (h : ∀ x, p x x = true) (xs : List α) : eqL p xs xs = true := by
 unfold eqL
 simp [h]
theorem eqRec_self (r : RecT) : eqRec r r = true := eqL_self (fun f => by simp [eqFld, sEq_self]) r
theorem eqKey_self (k : KeyT) : eqKeyB k k = true := by simp [eqKeyB, sEq_self]
theorem eqItem_self (x : ItemT) : eqItemB x x = true := by simp [eqItemB, eqKey_self, eqRec_self]
theorem eqStore_self (s : StoreT) : eqStoreB s s = true := by simp [eqStoreB, sEq_self, eqL_self eqItem_self]
end Go.Proofs.Ytjkpoekgnmgofaa

