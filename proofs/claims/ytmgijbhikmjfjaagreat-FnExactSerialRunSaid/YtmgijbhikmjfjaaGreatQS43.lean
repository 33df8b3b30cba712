/-
  Contracts of the program's functions for the statements RunOps, SerialRun, StepTx, by the rules of the logic. Conditions: none but those in the theorems.
-/
import Derived.Test.YtmgijbhikmjfjaaGreatQS42
set_option maxHeartbeats 4000000
set_option maxRecDepth 100000
namespace Go.Proofs.YtmgijbhikmjfjaaGreat
open Go.RowKit
open Go.Proofs
set_option linter.unusedVariables false
set_option linter.unusedSimpArgs false

def recAt (x : StoreT) (k : KeyT) : RecT := if 0 ≤ fndK x k then (x.2.1.getD (fndK x k).toNat default).2 else []
def incRec (r : RecT) (f : Str) : RecT × Bool := setF r f ((getF r f).1 + 1)
def rgK (k : KeyT) : RangeT := (true, true, k, k)
def rg0 : RangeT := (false, false, (0, 0, ByteArray.empty), (0, 0, ByteArray.empty))
def getN (x : StoreT) (k : KeyT) : Int := if fndK x k < 0 then -1 else ((x.2.1.getD (fndK x k).toNat default).2.length : Int)
def opI (x : StoreT) (o : OpT) : StoreT × Int × Bool :=
 if o.1 = 1 then ((putN x o.2.2.1 o.2.2.2.1).1, 1, (putN x o.2.2.1 o.2.2.2.1).2)
 else if o.1 = 2 then ((addN x o.2.2.1 o.2.2.2.1).1, 1, (addN x o.2.2.1 o.2.2.2.1).2)
 else if o.1 = 3 then ((delS x (rgK o.2.2.1)).1, (delS x (rgK o.2.2.1)).2, true)
 else if o.1 = 5 then ((delS x rg0).1, (delS x rg0).2, true)
 else if o.1 = 4 then (x, getN x o.2.2.1, true)
 else if (incRec (recAt x o.2.2.1) o.2.2.2.2).2 = false then (x, 0, false)
 else ((putN x o.2.2.1 (incRec (recAt x o.2.2.1) o.2.2.2.2).1).1, (getF (recAt x o.2.2.1) o.2.2.2.2).1 + 1, (putN x o.2.2.1 (incRec (recAt x o.2.2.1) o.2.2.2.2).1).2)
def incM (x : StoreT) (k : KeyT) (f : Str) : StoreT × Int × Bool := ((putN x k (incRec (recAt x k) f).1).1, (getF (recAt x k) f).1 + 1, (incRec (recAt x k) f).2 && (putN x k (incRec (recAt x k) f).1).2)
def opM (x : StoreT) (o : OpT) : StoreT × Int × Bool :=
 if o.1 = 1 then ((putN x o.2.2.1 o.2.2.2.1).1, 1, (putN x o.2.2.1 o.2.2.2.1).2)
 else if o.1 = 2 then ((addN x o.2.2.1 o.2.2.2.1).1, 1, (addN x o.2.2.1 o.2.2.2.1).2)
 else if o.1 = 3 then ((delS x (rgK o.2.2.1)).1, (delS x (rgK o.2.2.1)).2, true)
 else if o.1 = 4 then (x, getN x o.2.2.1, true)
 else if o.1 = 5 then ((delS x rg0).1, (delS x rg0).2, true)
 else incM x o.2.2.1 o.2.2.2.2
theorem opI_opM (x : StoreT) (o : OpT) : opI x o = opM x o ∨ ((opI x o).2.2 = false ∧ (opM x o).2.2 = false) := by
 unfold opI opM
 by_cases h1 : o.1 = 1
 ·simp [h1]
 ·by_cases h2 : o.1 = 2
  ·simp [h2]
  ·by_cases h3 : o.1 = 3
   ·simp [h3]
   ·by_cases h5 : o.1 = 5
    ·simp [h5]
    ·by_cases h4 : o.1 = 4
     ·simp [h4]
     ·rw [if_neg h1, if_neg h2, if_neg h3, if_neg h5, if_neg h4, if_neg h1, if_neg h2, if_neg h3, if_neg h4, if_neg h5]
      by_cases h : (incRec (recAt x o.2.2.1) o.2.2.2.2).2 = false
      ·right; rw [if_pos h]; simp [incM, h]
      ·left; rw [if_neg h]
       have h' : (incRec (recAt x o.2.2.1) o.2.2.2.2).2 = true := by simpa using h
       simp [incM, h']
def same (x : StoreT) (o : OpT) : Bool := decide (o.1 = 4) || (!decide (o.1 = 1) && !decide (o.1 = 2) && !decide (o.1 = 3) && !decide (o.1 = 5) && !(incRec (recAt x o.2.2.1) o.2.2.2.2).2)
section
variable {x : StoreT} {o : OpT}
theorem opI_1 (h : o.1 = 1) : opI x o = ((putN x o.2.2.1 o.2.2.2.1).1, 1, (putN x o.2.2.1 o.2.2.2.1).2) := by rw [opI, if_pos h]
theorem opI_2 (h : o.1 = 2) : opI x o = ((addN x o.2.2.1 o.2.2.2.1).1, 1, (addN x o.2.2.1 o.2.2.2.1).2) := by rw [opI, if_neg (by omega), if_pos h]
theorem opI_3 (h : o.1 = 3) : opI x o = ((delS x (rgK o.2.2.1)).1, (delS x (rgK o.2.2.1)).2, true) := by rw [opI, if_neg (by omega), if_neg (by omega), if_pos h]
theorem opI_5 (h : o.1 = 5) : opI x o = ((delS x rg0).1, (delS x rg0).2, true) := by rw [opI, if_neg (by omega), if_neg (by omega), if_neg (by omega), if_pos h]
theorem opI_4a (h : o.1 = 4) (h2 : fndK x o.2.2.1 < 0) : opI x o = (x, -1, true) := by rw [opI, if_neg (by omega), if_neg (by omega), if_neg (by omega), if_neg (by omega), if_pos h, getN, if_pos h2]
theorem opI_4b (h : o.1 = 4) (h2 : ¬ fndK x o.2.2.1 < 0) : opI x o = (x, ((x.2.1.getD (fndK x o.2.2.1).toNat default).2.length : Int), true) := by rw [opI, if_neg (by omega), if_neg (by omega), if_neg (by omega), if_neg (by omega), if_pos h, getN, if_neg h2]
theorem rec_yes {k : KeyT} (h : 0 ≤ fndK x k) : recAt x k = (x.2.1.getD (fndK x k).toNat default).2 := if_pos h
theorem rec_no {k : KeyT} (h : ¬ 0 ≤ fndK x k) : recAt x k = [] := if_neg h
theorem opI_6a {r : RecT} (h1 : o.1 ≠ 1) (h2 : o.1 ≠ 2) (h3 : o.1 ≠ 3) (h5 : o.1 ≠ 5) (h4 : o.1 ≠ 4) (hr : recAt x o.2.2.1 = r) (hk : (!(setF r o.2.2.2.2 ((getF r o.2.2.2.2).1 + 1)).2) = true) : opI x o = (x, 0, false) := by
 rw [opI, if_neg h1, if_neg h2, if_neg h3, if_neg h5, if_neg h4, hr, if_pos (by simpa [incRec] using hk)]
theorem opI_6b {r : RecT} (h1 : o.1 ≠ 1) (h2 : o.1 ≠ 2) (h3 : o.1 ≠ 3) (h5 : o.1 ≠ 5) (h4 : o.1 ≠ 4) (hr : recAt x o.2.2.1 = r) (hk : (!(setF r o.2.2.2.2 ((getF r o.2.2.2.2).1 + 1)).2) = false) :
  opI x o = ((putN x o.2.2.1 (setF r o.2.2.2.2 ((getF r o.2.2.2.2).1 + 1)).1).1, (getF r o.2.2.2.2).1 + 1, (putN x o.2.2.1 (setF r o.2.2.2.2 ((getF r o.2.2.2.2).1 + 1)).1).2) := by
 rw [opI, if_neg h1, if_neg h2, if_neg h3, if_neg h5, if_neg h4, hr, if_neg (by simpa [incRec] using hk)]
 rfl
theorem same_no {r : RecT} (h : same x o = true) (h4 : o.1 ≠ 4) (hr : recAt x o.2.2.1 = r) : ¬ (!(setF r o.2.2.2.2 ((getF r o.2.2.2.2).1 + 1)).2) = false := by
 unfold same at h
 rw [hr] at h
 intro hk
 simp only [decide_eq_false h4, Bool.false_or, Bool.and_eq_true] at h
 have := h.2
 unfold incRec at this
 rw [hk] at this
 cases this
theorem same_123 (h : same x o = true) (h4 : o.1 = 1 ∨ o.1 = 2 ∨ o.1 = 3 ∨ o.1 = 5) : False := by
 unfold same at h
 rw [decide_eq_false (show ¬ o.1 = 4 by omega)] at h
 simp only [Bool.false_or, Bool.and_eq_true, Bool.not_eq_true', decide_eq_false_iff_not] at h
 omega
theorem diff_4 (h : same x o = false) : o.1 ≠ 4 := by
 intro h4
 simp [same, h4] at h
theorem diff_no {r : RecT} (h : same x o = false) (h1 : o.1 ≠ 1) (h2 : o.1 ≠ 2) (h3 : o.1 ≠ 3) (h5 : o.1 ≠ 5) (hr : recAt x o.2.2.1 = r) : ¬ (!(setF r o.2.2.2.2 ((getF r o.2.2.2.2).1 + 1)).2) = true := by
 unfold same at h
 rw [hr] at h
 intro hk
 simp only [decide_eq_false h1, decide_eq_false h2, decide_eq_false h3, decide_eq_false h5, Bool.not_false, Bool.true_and, Bool.or_eq_false_iff] at h
 have := h.2
 unfold incRec at this
 rw [hk] at this
 cases this
end
theorem getF_bd {r : RecT} {n : Str} (h : isRec r = true) : 0 ≤ (getF r n).1 ∧ (getF r n).1 ≤ 1000000000 := by
 unfold getF
 split
 ·exact ⟨by simp, by simp⟩
 ·rename_i h1
  have hlt := findI_lt (p := fName n) r 0 (by omega)
  rw [isRec, Bool.and_eq_true, List.all_eq_true] at h
  have := h.1 (findI (fName n) r 0).toNat (List.mem_range.2 (by omega))
  simp only [recBad, Bool.not_eq_true', Bool.or_eq_false_iff, Int.toNat_natCast] at this
  have h2 := this.1.2
  simp only [Bool.not_eq_false', Bool.and_eq_true, decide_eq_true_eq] at h2
  exact h2
theorem rec6 {r : RecT} (h : isRec r = true) : r.length ≤ 6 := by
 rw [isRec, Bool.and_eq_true, decide_eq_true_eq] at h
 omega
theorem sto_rec {x : StoreT} {i : Nat} (h : isSto x = true) (hi : i < x.2.1.length) : isRec (x.2.1.getD i default).2 = true := by
 rw [isSto, Bool.and_eq_true, List.all_eq_true] at h
 have := h.1 i (List.mem_range.2 hi)
 simp only [stoBad, Bool.not_eq_true', Bool.or_eq_false_iff, Int.toNat_natCast] at this
 simpa using this.1.2
theorem op_rec {o : OpT} (h : isOpB o = true) : o.2.2.2.1.length ≤ 6 := by
 unfold isOpB at h
 simp only [Bool.and_eq_true] at h
 exact rec6 h.1.2
theorem sto_recAt {x : StoreT} {k : KeyT} (h : isSto x = true) (h0 : 0 ≤ fndK x k) : isRec (x.2.1.getD (fndK x k).toNat default).2 = true := sto_rec h (by have := fndK_lt h0; omega)

theorem ok_impl_opOnId {x : StoreT} {o : OpT} (hs : isSto x = true) (ho : isOpB o = true) (hal : same x o = true) : PFn Tryz.prog 53 [.agg [(.dv [] (.str (x.1))), (.arg 0 (itemsD (x.2.1))), (.dv [] (.int .i64 (x.2.2)))], .agg [(.dv [] (.int .i64 (o.1))), (.dv [] (.str (o.2.1))), (.dv [] (.int .i64 (o.2.2.1.1))), (.dv [] (.int .i64 (o.2.2.1.2.1))), (.dv [] (.str (o.2.2.1.2.2))), (.dv [] (fieldsD (o.2.2.2.1))), (.dv [] (.str (o.2.2.2.2)))]] (.tup [(true, [(.dv [] (.str (x.1))), (.arg 0 (itemsD (x.2.1))), (.dv [] (.int .i64 (x.2.2)))]), (false, [(.dv [] (.int .i64 ((opI x o).2.1)))]), (false, [(.dv [] (.bool ((opI x o).2.2)))])]) := by
 refine ⟨fn_intro Tryz.func53 rfl Tryz.ntmps53 Tryz.results53 rfl (fun C => ?_)⟩
 have hsw := sto_w hs
 have hor := op_rec ho
 refine yF 0 0 rfl rfl fun f0_0 => ?_
 refine yF 0 2 rfl rfl fun f0_2 => ?_
 refine yF 1 0 rfl rfl fun f1_0 => ?_
 refine yF 1 1 rfl rfl fun f1_1 => ?_
 refine yF 1 2 rfl rfl fun f1_2 => ?_
 refine yF 1 3 rfl rfl fun f1_3 => ?_
 refine yF 1 4 rfl rfl fun f1_4 => ?_
 refine yF 1 5 rfl rfl fun f1_5 => ?_
 refine yF 1 6 rfl rfl fun f1_6 => ?_
 iterate 11 refine z ?_
 refine zC Tryz.call101 ?_ (hf := ok_impl_FindItem (x := x) (k := o.2.2.1) )
 iterate 12 refine z ?_
 refine yQ rfl (fun c1 => ?_) fun c1 => ?_
 ·skip
  have d1 := of_decide_eq_true c1
  exact absurd d1 (fun h => same_123 hal (by omega))
 ·skip
  have d1 := of_decide_eq_false c1
  iterate 4 refine z ?_
  refine yQ rfl (fun c2 => ?_) fun c2 => ?_
  ·skip
   have d2 := of_decide_eq_true c2
   exact absurd d2 (fun h => same_123 hal (by omega))
  ·skip
   have d2 := of_decide_eq_false c2
   iterate 4 refine z ?_
   refine yQ rfl (fun c3 => ?_) fun c3 => ?_
   ·skip
    have d3 := of_decide_eq_true c3
    exact absurd d3 (fun h => same_123 hal (by omega))
   ·skip
    have d3 := of_decide_eq_false c3
    iterate 4 refine z ?_
    refine yQ rfl (fun c4 => ?_) fun c4 => ?_
    ·skip
     have d4 := of_decide_eq_true c4
     exact absurd d4 (fun h => same_123 hal (by omega))
    ·skip
     have d4 := of_decide_eq_false c4
     iterate 4 refine z ?_
     refine yQ rfl (fun c5 => ?_) fun c5 => ?_
     ·skip
      have d5 := of_decide_eq_true c5
      iterate 5 refine z ?_
      refine yQ rfl (fun c6 => ?_) fun c6 => ?_
      ·skip
       have d6 := of_decide_eq_true c6
       iterate 10 refine z ?_
       refine fin3 (res_cell hT rfl rfl rfl rfl) (res_tmp rfl) (res_tmp rfl) rfl rfl rfl ?_
       rw [opI_4a d5 d6]
       rfl
      ·skip
       have d6 := of_decide_eq_false c6
       have hfx : fndK x o.2.2.1 < x.2.1.length := by have := fndK_lt (x := x) (k := o.2.2.1) (by omega); omega
       iterate 2 refine z ?_
       refine ok_seq ?_
       refine ok_regionW 4 (oB := [2, 3]) (oK := []) (by kernel_rfl) rfl rfl ?_
       refine w_take 0 rfl (by kernel_rfl) rfl rfl (pu_loadBoxA hT rfl rfl (ev_tmp rfl) rfl rfl) rfl rfl rfl rfl rfl ?_
       refine w_take 1 rfl (by kernel_rfl) rfl rfl (pu_fieldBox hT rfl rfl rfl (ev_tmp rfl)) rfl rfl rfl rfl rfl ?_
       refine w_take 2 rfl (by kernel_rfl) rfl rfl (pu_loadBox1 hT rfl rfl (ev_tmp rfl) rfl rfl) rfl rfl rfl rfl rfl ?_
       refine w_take 3 rfl (by kernel_rfl) rfl rfl (pu_move (.inl rfl) (ev_tmp rfl)) rfl rfl rfl rfl rfl ?_
       refine w_take 4 rfl (by kernel_rfl) rfl rfl (pu_indexD hT rfl rfl rfl (ev_argv (ev_tmp rfl)) (ev_tmp rfl) (fun _ => rfl) (by omega) (by omega)) rfl rfl rfl rfl rfl ?_
       refine w_take 5 rfl (by kernel_rfl) rfl rfl (pu_fieldRef hT rfl rfl rfl (ev_tmp rfl)) rfl rfl rfl rfl rfl ?_
       refine w_take 6 rfl (by kernel_rfl) rfl rfl (pu_fieldRef hT rfl rfl rfl (ev_tmp rfl)) rfl rfl rfl rfl rfl ?_
       refine w_take 7 rfl (by kernel_rfl) rfl rfl (pu_loadRef1 hT rfl rfl (ev_tmp rfl) rfl) rfl rfl rfl rfl rfl ?_
       refine w_take 8 rfl (by kernel_rfl) rfl rfl (pu_lenV hT rfl rfl (ev_tmp rfl)) rfl rfl rfl rfl rfl ?_
       refine w_store 9 rfl (by kernel_rfl) rfl hT rfl rfl rfl (ev_tmp rfl) (ev_tmp rfl) rfl rfl rfl rfl rfl rfl ?_
       refine w_chain [10, 11] rfl rfl (by kernel_rfl) ?_
       iterate 6 refine z ?_
       refine fin3 (res_cell hT rfl rfl rfl rfl) (res_tmp rfl) (res_tmp rfl) rfl rfl rfl ?_
       rw [opI_4b d5 d6]
       rfl
     ·skip
      have d5 := of_decide_eq_false c5
      iterate 4 refine z ?_
      refine yO rfl rfl (pu_build hT hB rfl rfl rfl bp_nil) rfl ?_
      iterate 8 refine z ?_
      refine yQ rfl (fun c7 => ?_) fun c7 => ?_
      ·skip
       have d7 := of_decide_eq_true c7
       have hb9 := sto_recAt hs d7
       have hgb := getF_bd (n := o.2.2.2.2) hb9
       have hrl := rec6 hb9
       have hrq := rec_yes d7
       have hlt9 := fndK_lt d7
       refine ok_region ?_
       iterate 3 refine z ?_
       refine yO rfl rfl (pu_indexD hT rfl rfl rfl (ev_argv (ev_tmp rfl)) (ev_tmp rfl) (fun _ => rfl) (by omega) (by omega)) rfl ?_
       iterate 8 refine z ?_
       refine zC Tryz.call105 ?_ (hf := ok_impl_GetField (x := ((x.2.1.getD (fndK x o.2.2.1).toNat default).2)) (n := o.2.2.2.2))
       iterate 12 refine z ?_
       refine zK 499 Tryz.call106 ?_ (hf := ok_impl_SetField (r := ((x.2.1.getD (fndK x o.2.2.1).toNat default).2)) (n := o.2.2.2.2) (v := (getF ((x.2.1.getD (fndK x o.2.2.1).toNat default).2) o.2.2.2.2).1 + 1) (by omega))
       iterate 11 refine z ?_
       refine yQ rfl (fun c8 => ?_) fun c8 => ?_
       ·skip
        iterate 8 refine z ?_
        refine fin3 (res_cell hT rfl rfl rfl rfl) (res_tmp rfl) (res_tmp rfl) rfl rfl rfl ?_
        rw [opI_6a d1 d2 d3 d4 d5 hrq c8]
        rfl
       ·skip
        exact absurd c8 (same_no hal d5 hrq)
      ·skip
       have d7 := of_decide_eq_false c7
       have hb9 : isRec [] = true := rfl
       have hgb := getF_bd (n := o.2.2.2.2) hb9
       have hrl := rec6 hb9
       have hrq := rec_no d7
       iterate 6 refine z ?_
       refine o_call rfl rfl rfl Tryz.call105 (ok_impl_GetField (x := ([] : RecT)) (n := o.2.2.2.2)) (as_cons (ev_tmp rfl) (ag_agg (ag_cons (ac_nil' rfl rfl) ag_nil)) (as_cons (ev_tmp rfl) (ag_one ac_dv) as_nil)) rfl rfl ?_
       iterate 12 refine z ?_
       refine o_callK 499 rfl rfl rfl Tryz.call106 (ok_impl_SetField (r := ([] : RecT)) (n := o.2.2.2.2) (v := (getF ([] : RecT) o.2.2.2.2).1 + 1) (by omega)) (as_cons (ev_tmp rfl) (ag_agg (ag_cons (ac_nil' rfl rfl) ag_nil)) (as_cons (ev_tmp rfl) (ag_one ac_dv) (as_cons (ev_tmp rfl) (ag_one ac_dv) as_nil))) rfl rfl rfl ?_
       iterate 11 refine z ?_
       refine yQ rfl (fun c9 => ?_) fun c9 => ?_
       ·skip
        iterate 8 refine z ?_
        refine fin3 (res_cell hT rfl rfl rfl rfl) (res_tmp rfl) (res_tmp rfl) rfl rfl rfl ?_
        rw [opI_6a d1 d2 d3 d4 d5 hrq c9]
        rfl
       ·skip
        exact absurd c9 (same_no hal d5 hrq)
theorem ok_impl_opOnFr {x : StoreT} {o : OpT} (hs : isSto x = true) (ho : isOpB o = true) (hal : same x o = false) : KFn Tryz.prog 53 [.agg [(.dv [] (.str (x.1))), (.dv [] (itemsD (x.2.1))), (.dv [] (.int .i64 (x.2.2)))], .agg [(.dv [] (.int .i64 (o.1))), (.dv [] (.str (o.2.1))), (.dv [] (.int .i64 (o.2.2.1.1))), (.dv [] (.int .i64 (o.2.2.1.2.1))), (.dv [] (.str (o.2.2.1.2.2))), (.dv [] (fieldsD (o.2.2.2.1))), (.dv [] (.str (o.2.2.2.2)))]] (.tup [(true, [(.dv [] (.str ((opI x o).1.1))), (.key 9001), (.dv [] (.int .i64 ((opI x o).1.2.2)))]), (false, [(.dv [] (.int .i64 ((opI x o).2.1)))]), (false, [(.dv [] (.bool ((opI x o).2.2)))])]) [(9001, some (kcOf false (itemsD ((opI x o).1.2.1))))] := by
 refine ⟨fn_intro Tryz.func53 rfl Tryz.ntmps53 Tryz.results53 rfl (fun C => ?_)⟩
 have hsw := sto_w hs
 have hor := op_rec ho
 refine yF 0 0 rfl rfl fun f0_0 => ?_
 refine yF 0 1 rfl rfl fun f0_1 => ?_
 refine yF 0 2 rfl rfl fun f0_2 => ?_
 refine yF 1 0 rfl rfl fun f1_0 => ?_
 refine yF 1 1 rfl rfl fun f1_1 => ?_
 refine yF 1 2 rfl rfl fun f1_2 => ?_
 refine yF 1 3 rfl rfl fun f1_3 => ?_
 refine yF 1 4 rfl rfl fun f1_4 => ?_
 refine yF 1 5 rfl rfl fun f1_5 => ?_
 refine yF 1 6 rfl rfl fun f1_6 => ?_
 iterate 11 refine z ?_
 refine zC Tryz.call101 ?_ (hf := ok_impl_FindItem (x := x) (k := o.2.2.1) )
 iterate 12 refine z ?_
 refine yQ rfl (fun c1 => ?_) fun c1 => ?_
 ·skip
  have d1 := of_decide_eq_true c1
  iterate 6 refine z ?_
  refine zK 0 Tryz.call102 ?_ (hf := ok_impl_PutItem (x := x) (k := o.2.2.1) (r := o.2.2.2.1) (by omega) (by omega))
  iterate 14 refine z ?_
  rw [opI_1 d1]
  refine ok_weak (σ' := ⟨[(4, .box 4 0), (5, .one (.dv [] (.int .i64 (1)))), (6, .one (.dv [] (.bool ((putN (x) (o.2.2.1) (o.2.2.2.1)).2))))], [(4, 91, [(.dv [] (.str ((putN (x) (o.2.2.1) (o.2.2.2.1)).1.1))), (.key 9001), (.dv [] (.int .i64 ((putN (x) (o.2.2.1) (o.2.2.2.1)).1.2.2)))])], [(9001, some (kcOf false (itemsD ((putN x o.2.2.1 o.2.2.2.1).1.2.1))))]⟩) (weak_sub ⟨rfl, rfl, rfl, trivial⟩ ⟨rfl, trivial⟩ ⟨rfl, trivial⟩ rfl) ?_
  iterate 3 refine z ?_
  refine fin3 (res_cell hT rfl rfl rfl rfl) (res_tmp rfl) (res_tmp rfl) rfl rfl rfl ?_
  first | exact ⟨rfl, rfl⟩ | skip
 ·skip
  have d1 := of_decide_eq_false c1
  iterate 4 refine z ?_
  refine yQ rfl (fun c2 => ?_) fun c2 => ?_
  ·skip
   have d2 := of_decide_eq_true c2
   iterate 6 refine z ?_
   refine zK 0 Tryz.call103 ?_ (hf := ok_impl_AddItem (x := x) (k := o.2.2.1) (r := o.2.2.2.1) (by omega) (by omega))
   iterate 14 refine z ?_
   rw [opI_2 d2]
   refine ok_weak (σ' := ⟨[(4, .box 4 0), (5, .one (.dv [] (.int .i64 (1)))), (6, .one (.dv [] (.bool ((addN (x) (o.2.2.1) (o.2.2.2.1)).2))))], [(4, 91, [(.dv [] (.str ((addN (x) (o.2.2.1) (o.2.2.2.1)).1.1))), (.key 9001), (.dv [] (.int .i64 ((addN (x) (o.2.2.1) (o.2.2.2.1)).1.2.2)))])], [(9001, some (kcOf false (itemsD ((addN x o.2.2.1 o.2.2.2.1).1.2.1))))]⟩) (weak_sub ⟨rfl, rfl, rfl, trivial⟩ ⟨rfl, trivial⟩ ⟨rfl, trivial⟩ rfl) ?_
   iterate 3 refine z ?_
   refine fin3 (res_cell hT rfl rfl rfl rfl) (res_tmp rfl) (res_tmp rfl) rfl rfl rfl ?_
   first | exact ⟨rfl, rfl⟩ | skip
  ·skip
   have d2 := of_decide_eq_false c2
   iterate 4 refine z ?_
   refine yQ rfl (fun c3 => ?_) fun c3 => ?_
   ·skip
    have d3 := of_decide_eq_true c3
    iterate 6 refine z ?_
    refine yO rfl rfl (pu_build hT hB rfl rfl rfl (bp_cons ev_bool rfl rfl rfl rfl rfl (bp_cons ev_bool rfl rfl rfl rfl rfl (bp_cons (ev_tmp rfl) rfl rfl rfl rfl rfl (bp_cons (ev_tmp rfl) rfl rfl rfl rfl rfl bp_nil))))) rfl ?_
    refine zK 0 Tryz.call104 ?_ (hf := ok_impl_DeleteItems (x := x) (r := rgK o.2.2.1) (by omega))
    iterate 14 refine z ?_
    rw [opI_3 d3]
    refine ok_weak (σ' := ⟨[(4, .box 4 0), (5, .one (.dv [] (.int .i64 ((delS (x) (rgK o.2.2.1)).2)))), (6, .one (.dv [] (.bool (true))))], [(4, 91, [(.dv [] (.str ((delS (x) (rgK o.2.2.1)).1.1))), (.key 9001), (.dv [] (.int .i64 ((delS (x) (rgK o.2.2.1)).1.2.2)))])], [(9001, some (kcOf false (itemsD ((delS x (rgK o.2.2.1)).1.2.1))))]⟩) (weak_sub ⟨rfl, rfl, rfl, trivial⟩ ⟨rfl, trivial⟩ ⟨rfl, trivial⟩ rfl) ?_
    iterate 3 refine z ?_
    refine fin3 (res_cell hT rfl rfl rfl rfl) (res_tmp rfl) (res_tmp rfl) rfl rfl rfl ?_
    first | exact ⟨rfl, rfl⟩ | skip
   ·skip
    have d3 := of_decide_eq_false c3
    iterate 4 refine z ?_
    refine yQ rfl (fun c4 => ?_) fun c4 => ?_
    ·skip
     have d4 := of_decide_eq_true c4
     iterate 2 refine z ?_
     refine yO rfl rfl (pu_build hT hB rfl rfl rfl bp_nil) rfl ?_
     refine zK 0 Tryz.call104 ?_ (hf := ok_impl_DeleteItems (x := x) (r := rg0) (by omega))
     iterate 14 refine z ?_
     rw [opI_5 d4]
     refine ok_weak (σ' := ⟨[(4, .box 4 0), (5, .one (.dv [] (.int .i64 ((delS (x) (rg0)).2)))), (6, .one (.dv [] (.bool (true))))], [(4, 91, [(.dv [] (.str ((delS (x) (rg0)).1.1))), (.key 9001), (.dv [] (.int .i64 ((delS (x) (rg0)).1.2.2)))])], [(9001, some (kcOf false (itemsD ((delS x rg0).1.2.1))))]⟩) (weak_sub ⟨rfl, rfl, rfl, trivial⟩ ⟨rfl, trivial⟩ ⟨rfl, trivial⟩ rfl) ?_
     iterate 3 refine z ?_
     refine fin3 (res_cell hT rfl rfl rfl rfl) (res_tmp rfl) (res_tmp rfl) rfl rfl rfl ?_
     first | exact ⟨rfl, rfl⟩ | skip
    ·skip
     have d4 := of_decide_eq_false c4
     iterate 4 refine z ?_
     refine yQ rfl (fun c5 => ?_) fun c5 => ?_
     ·skip
      have d5 := of_decide_eq_true c5
      exact absurd d5 (diff_4 hal)
     ·skip
      have d5 := of_decide_eq_false c5
      iterate 4 refine z ?_
      refine yO rfl rfl (pu_build hT hB rfl rfl rfl bp_nil) rfl ?_
      iterate 8 refine z ?_
      refine yQ rfl (fun c6 => ?_) fun c6 => ?_
      ·skip
       have d6 := of_decide_eq_true c6
       have hb9 := sto_recAt hs d6
       have hgb := getF_bd (n := o.2.2.2.2) hb9
       have hrl := rec6 hb9
       have hrq := rec_yes d6
       have hlt9 := fndK_lt d6
       have hsl := setF_len ((x.2.1.getD (fndK x o.2.2.1).toNat default).2) o.2.2.2.2 ((getF ((x.2.1.getD (fndK x o.2.2.1).toNat default).2) o.2.2.2.2).1 + 1)
       refine ok_region ?_
       iterate 12 refine z ?_
       refine zC Tryz.call105 ?_ (hf := ok_impl_GetField (x := ((x.2.1.getD (fndK x o.2.2.1).toNat default).2)) (n := o.2.2.2.2))
       iterate 12 refine z ?_
       refine zK 499 Tryz.call106 ?_ (hf := ok_impl_SetField (r := ((x.2.1.getD (fndK x o.2.2.1).toNat default).2)) (n := o.2.2.2.2) (v := (getF ((x.2.1.getD (fndK x o.2.2.1).toNat default).2) o.2.2.2.2).1 + 1) (by omega))
       iterate 11 refine z ?_
       refine yQ rfl (fun c7 => ?_) fun c7 => ?_
       ·skip
        exact absurd c7 (diff_no hal d1 d2 d3 d4 hrq)
       ·skip
        iterate 7 refine z ?_
        refine o_callK 0 rfl rfl rfl Tryz.call102 (ok_impl_PutItem (x := x) (k := o.2.2.1) (r := (setF ((x.2.1.getD (fndK x o.2.2.1).toNat default).2) o.2.2.2.2 ((getF ((x.2.1.getD (fndK x o.2.2.1).toNat default).2) o.2.2.2.2).1 + 1)).1) (by omega) (by omega)) (as_cons (ev_tmp rfl) (ag_agg (ag_cons ac_dv (ag_cons ac_dv (ag_cons ac_dv ag_nil)))) (as_cons (ev_tmp rfl) (ag_agg (ag_cons ac_dv (ag_cons ac_dv (ag_cons ac_dv ag_nil)))) (as_cons (ev_tmp rfl) (ag_agg (ag_cons (ac_key' rfl rfl) ag_nil)) as_nil))) rfl rfl rfl ?_
        iterate 16 refine z ?_
        rw [opI_6b d1 d2 d3 d4 d5 hrq c7]
        refine ok_weak (σ' := ⟨[(4, .box 4 0), (5, .one (.dv [] (.int .i64 (((getF ((((x.2.1)).getD (fndK (x) (o.2.2.1)).toNat default).2) (o.2.2.2.2)).1) + (1))))), (6, .one (.dv [] (.bool ((putN (x) (o.2.2.1) ((setF ((((x.2.1)).getD (fndK (x) (o.2.2.1)).toNat default).2) (o.2.2.2.2) (((getF ((((x.2.1)).getD (fndK (x) (o.2.2.1)).toNat default).2) (o.2.2.2.2)).1) + (1))).1)).2))))], [(4, 91, [(.dv [] (.str ((putN (x) (o.2.2.1) ((setF ((((x.2.1)).getD (fndK (x) (o.2.2.1)).toNat default).2) (o.2.2.2.2) (((getF ((((x.2.1)).getD (fndK (x) (o.2.2.1)).toNat default).2) (o.2.2.2.2)).1) + (1))).1)).1.1))), (.key 9001), (.dv [] (.int .i64 ((putN (x) (o.2.2.1) ((setF ((((x.2.1)).getD (fndK (x) (o.2.2.1)).toNat default).2) (o.2.2.2.2) (((getF ((((x.2.1)).getD (fndK (x) (o.2.2.1)).toNat default).2) (o.2.2.2.2)).1) + (1))).1)).1.2.2)))])], [(9001, some (kcOf false (itemsD ((putN x o.2.2.1 (setF ((x.2.1.getD (fndK x o.2.2.1).toNat default).2) o.2.2.2.2 ((getF ((x.2.1.getD (fndK x o.2.2.1).toNat default).2) o.2.2.2.2).1 + 1)).1).1.2.1))))]⟩) (weak_sub ⟨rfl, rfl, rfl, trivial⟩ ⟨rfl, trivial⟩ ⟨rfl, trivial⟩ rfl) ?_
        refine z ?_
        refine fin3 (res_cell hT rfl rfl rfl rfl) (res_tmp rfl) (res_tmp rfl) rfl rfl rfl ?_
        first | exact ⟨rfl, rfl⟩ | skip
      ·skip
       have d6 := of_decide_eq_false c6
       have hb9 : isRec [] = true := rfl
       have hgb := getF_bd (n := o.2.2.2.2) hb9
       have hrl := rec6 hb9
       have hrq := rec_no d6
       have hsl := setF_len ([] : RecT) o.2.2.2.2 ((getF ([] : RecT) o.2.2.2.2).1 + 1)
       iterate 6 refine z ?_
       refine o_call rfl rfl rfl Tryz.call105 (ok_impl_GetField (x := ([] : RecT)) (n := o.2.2.2.2)) (as_cons (ev_tmp rfl) (ag_agg (ag_cons (ac_nil' rfl rfl) ag_nil)) (as_cons (ev_tmp rfl) (ag_one ac_dv) as_nil)) rfl rfl ?_
       iterate 12 refine z ?_
       refine o_callK 499 rfl rfl rfl Tryz.call106 (ok_impl_SetField (r := ([] : RecT)) (n := o.2.2.2.2) (v := (getF ([] : RecT) o.2.2.2.2).1 + 1) (by omega)) (as_cons (ev_tmp rfl) (ag_agg (ag_cons (ac_nil' rfl rfl) ag_nil)) (as_cons (ev_tmp rfl) (ag_one ac_dv) (as_cons (ev_tmp rfl) (ag_one ac_dv) as_nil))) rfl rfl rfl ?_
       iterate 11 refine z ?_
       refine yQ rfl (fun c8 => ?_) fun c8 => ?_
       ·skip
        exact absurd c8 (diff_no hal d1 d2 d3 d4 hrq)
       ·skip
        iterate 7 refine z ?_
        refine o_callK 0 rfl rfl rfl Tryz.call102 (ok_impl_PutItem (x := x) (k := o.2.2.1) (r := (setF ([] : RecT) o.2.2.2.2 ((getF ([] : RecT) o.2.2.2.2).1 + 1)).1) (by omega) (by omega)) (as_cons (ev_tmp rfl) (ag_agg (ag_cons ac_dv (ag_cons ac_dv (ag_cons ac_dv ag_nil)))) (as_cons (ev_tmp rfl) (ag_agg (ag_cons ac_dv (ag_cons ac_dv (ag_cons ac_dv ag_nil)))) (as_cons (ev_tmp rfl) (ag_agg (ag_cons (ac_key' rfl rfl) ag_nil)) as_nil))) rfl rfl rfl ?_
        iterate 16 refine z ?_
        rw [opI_6b d1 d2 d3 d4 d5 hrq c8]
        refine ok_weak (σ' := ⟨[(4, .box 4 0), (5, .one (.dv [] (.int .i64 (((getF ([]) (o.2.2.2.2)).1) + (1))))), (6, .one (.dv [] (.bool ((putN (x) (o.2.2.1) ((setF ([]) (o.2.2.2.2) (((getF ([]) (o.2.2.2.2)).1) + (1))).1)).2))))], [(4, 91, [(.dv [] (.str ((putN (x) (o.2.2.1) ((setF ([]) (o.2.2.2.2) (((getF ([]) (o.2.2.2.2)).1) + (1))).1)).1.1))), (.key 9001), (.dv [] (.int .i64 ((putN (x) (o.2.2.1) ((setF ([]) (o.2.2.2.2) (((getF ([]) (o.2.2.2.2)).1) + (1))).1)).1.2.2)))])], [(9001, some (kcOf false (itemsD ((putN x o.2.2.1 (setF ([] : RecT) o.2.2.2.2 ((getF ([] : RecT) o.2.2.2.2).1 + 1)).1).1.2.1))))]⟩) (weak_sub ⟨rfl, rfl, rfl, trivial⟩ ⟨rfl, trivial⟩ ⟨rfl, trivial⟩ rfl) ?_
        refine z ?_
        refine fin3 (res_cell hT rfl rfl rfl rfl) (res_tmp rfl) (res_tmp rfl) rfl rfl rfl ?_
        first | exact ⟨rfl, rfl⟩ | skip
theorem ok_spec_l9Inc {x : StoreT} {k : KeyT} {f : Str} (hs : isSto x = true) : KFn Tryz.prog 89 [.agg [(.dv [] (.str (x.1))), (.dv [] (itemsD (x.2.1))), (.dv [] (.int .i64 (x.2.2)))], .agg [(.dv [] (.int .i64 (k.1))), (.dv [] (.int .i64 (k.2.1))), (.dv [] (.str (k.2.2)))], .one (.dv [] (.str (f)))] (.tup [(true, [(.dv [] (.str ((incM x k f).1.1))), (.key 9001), (.dv [] (.int .i64 ((incM x k f).1.2.2)))]), (false, [(.dv [] (.int .i64 ((incM x k f).2.1)))]), (false, [(.dv [] (.bool ((incM x k f).2.2)))])]) [(9001, some (kcOf false (itemsD ((incM x k f).1.2.1))))] := by
 refine ⟨fn_intro Tryz.func89 rfl Tryz.ntmps89 Tryz.results89 rfl (fun C => ?_)⟩
 have hsw := sto_w hs
 refine yF 0 0 rfl rfl fun f0_0 => ?_
 refine yF 0 1 rfl rfl fun f0_1 => ?_
 refine yF 0 2 rfl rfl fun f0_2 => ?_
 refine yF 1 0 rfl rfl fun f1_0 => ?_
 refine yF 1 1 rfl rfl fun f1_1 => ?_
 refine yF 1 2 rfl rfl fun f1_2 => ?_
 refine ok_fact (x := .tmp 2) (ev_tmp rfl) fun f2 => ?_
 iterate 8 refine z ?_
 refine yO rfl rfl (pu_build hT hB rfl rfl rfl bp_nil) rfl ?_
 iterate 7 refine z ?_
 refine zC Tryz.call88 ?_ (hf := ok_spec_FindItem (x := x) (k := k) )
 iterate 6 refine z ?_
 refine yQ rfl (fun c1 => ?_) fun c1 => ?_
 ·skip
  have d1 := of_decide_eq_true c1
  have hb9 := sto_recAt hs d1
  have hgb := getF_bd (n := f) hb9
  have hrl := rec6 hb9
  have hrq := rec_yes d1
  have hlt9 := fndK_lt d1
  have hsl := setF_len ((x.2.1.getD (fndK x k).toNat default).2) f ((getF ((x.2.1.getD (fndK x k).toNat default).2) f).1 + 1)
  refine ok_region ?_
  iterate 11 refine z ?_
  refine zC Tryz.call125 ?_ (hf := ok_spec_GetField (x := ((x.2.1.getD (fndK x k).toNat default).2)) (n := f))
  iterate 11 refine z ?_
  refine zK 499 Tryz.call129 ?_ (hf := ok_spec_SetField (r := ((x.2.1.getD (fndK x k).toNat default).2)) (n := f) (v := (getF ((x.2.1.getD (fndK x k).toNat default).2) f).1 + 1) (by omega))
  iterate 11 refine z ?_
  refine o_callK 0 rfl rfl rfl Tryz.call85 (ok_spec_PutItem (x := x) (k := k) (r := (setF ((x.2.1.getD (fndK x k).toNat default).2) f ((getF ((x.2.1.getD (fndK x k).toNat default).2) f).1 + 1)).1) (by omega) (by omega)) (as_cons (ev_tmp rfl) (ag_agg (ag_cons ac_dv (ag_cons ac_dv (ag_cons ac_dv ag_nil)))) (as_cons (ev_tmp rfl) (ag_agg (ag_cons ac_dv (ag_cons ac_dv (ag_cons ac_dv ag_nil)))) (as_cons (ev_tmp rfl) (ag_agg (ag_cons (ac_key' rfl rfl) ag_nil)) as_nil))) rfl rfl rfl ?_
  iterate 19 refine z ?_
  have hfin : incM x k f = ((putN x k (setF ((x.2.1.getD (fndK x k).toNat default).2) f ((getF ((x.2.1.getD (fndK x k).toNat default).2) f).1 + 1)).1).1, (getF ((x.2.1.getD (fndK x k).toNat default).2) f).1 + 1, (setF ((x.2.1.getD (fndK x k).toNat default).2) f ((getF ((x.2.1.getD (fndK x k).toNat default).2) f).1 + 1)).2 && (putN x k (setF ((x.2.1.getD (fndK x k).toNat default).2) f ((getF ((x.2.1.getD (fndK x k).toNat default).2) f).1 + 1)).1).2) := by rw [incM, hrq]; rfl
  rw [hfin]
  refine ok_weak (σ' := ⟨[(6, .box 6 0), (7, .one (.dv [] (.int .i64 (((getF ((((x.2.1)).getD (fndK (x) (k)).toNat default).2) (f)).1) + (1))))), (8, .one (.dv [] (.bool (((setF ((((x.2.1)).getD (fndK (x) (k)).toNat default).2) (f) (((getF ((((x.2.1)).getD (fndK (x) (k)).toNat default).2) (f)).1) + (1))).2) && ((putN (x) (k) ((setF ((((x.2.1)).getD (fndK (x) (k)).toNat default).2) (f) (((getF ((((x.2.1)).getD (fndK (x) (k)).toNat default).2) (f)).1) + (1))).1)).2)))))], [(6, 91, [(.dv [] (.str ((putN (x) (k) ((setF ((((x.2.1)).getD (fndK (x) (k)).toNat default).2) (f) (((getF ((((x.2.1)).getD (fndK (x) (k)).toNat default).2) (f)).1) + (1))).1)).1.1))), (.key 9001), (.dv [] (.int .i64 ((putN (x) (k) ((setF ((((x.2.1)).getD (fndK (x) (k)).toNat default).2) (f) (((getF ((((x.2.1)).getD (fndK (x) (k)).toNat default).2) (f)).1) + (1))).1)).1.2.2)))])], [(9001, some (kcOf false (itemsD ((putN x k (setF ((x.2.1.getD (fndK x k).toNat default).2) f ((getF ((x.2.1.getD (fndK x k).toNat default).2) f).1 + 1)).1).1.2.1))))]⟩) (weak_sub ⟨rfl, rfl, rfl, trivial⟩ ⟨rfl, trivial⟩ ⟨rfl, trivial⟩ rfl) ?_
  refine z ?_
  refine fin3 (res_cell hT rfl rfl rfl rfl) (res_tmp rfl) (res_tmp rfl) rfl rfl rfl ?_
  first | exact ⟨rfl, rfl⟩ | skip
 ·skip
  have d1 := of_decide_eq_false c1
  have hb9 : isRec [] = true := rfl
  have hgb := getF_bd (n := f) hb9
  have hrl := rec6 hb9
  have hrq := rec_no d1
  have hsl := setF_len ([] : RecT) f ((getF ([] : RecT) f).1 + 1)
  iterate 5 refine z ?_
  refine o_call rfl rfl rfl Tryz.call125 (ok_spec_GetField (x := ([] : RecT)) (n := f)) (as_cons (ev_tmp rfl) (ag_agg (ag_cons (ac_nil' rfl rfl) ag_nil)) (as_cons (ev_tmp rfl) (ag_one ac_dv) as_nil)) rfl rfl ?_
  iterate 11 refine z ?_
  refine o_callK 499 rfl rfl rfl Tryz.call129 (ok_spec_SetField (r := ([] : RecT)) (n := f) (v := (getF ([] : RecT) f).1 + 1) (by omega)) (as_cons (ev_tmp rfl) (ag_agg (ag_cons (ac_nil' rfl rfl) ag_nil)) (as_cons (ev_tmp rfl) (ag_one ac_dv) (as_cons (ev_tmp rfl) (ag_one ac_dv) as_nil))) rfl rfl rfl ?_
  iterate 11 refine z ?_
  refine o_callK 0 rfl rfl rfl Tryz.call85 (ok_spec_PutItem (x := x) (k := k) (r := (setF ([] : RecT) f ((getF ([] : RecT) f).1 + 1)).1) (by omega) (by omega)) (as_cons (ev_tmp rfl) (ag_agg (ag_cons ac_dv (ag_cons ac_dv (ag_cons ac_dv ag_nil)))) (as_cons (ev_tmp rfl) (ag_agg (ag_cons ac_dv (ag_cons ac_dv (ag_cons ac_dv ag_nil)))) (as_cons (ev_tmp rfl) (ag_agg (ag_cons (ac_key' rfl rfl) ag_nil)) as_nil))) rfl rfl rfl ?_
  iterate 19 refine z ?_
  have hfin : incM x k f = ((putN x k (setF ([] : RecT) f ((getF ([] : RecT) f).1 + 1)).1).1, (getF ([] : RecT) f).1 + 1, (setF ([] : RecT) f ((getF ([] : RecT) f).1 + 1)).2 && (putN x k (setF ([] : RecT) f ((getF ([] : RecT) f).1 + 1)).1).2) := by rw [incM, hrq]; rfl
  rw [hfin]
  refine ok_weak (σ' := ⟨[(6, .box 6 0), (7, .one (.dv [] (.int .i64 (((getF ([]) (f)).1) + (1))))), (8, .one (.dv [] (.bool (((setF ([]) (f) (((getF ([]) (f)).1) + (1))).2) && ((putN (x) (k) ((setF ([]) (f) (((getF ([]) (f)).1) + (1))).1)).2)))))], [(6, 91, [(.dv [] (.str ((putN (x) (k) ((setF ([]) (f) (((getF ([]) (f)).1) + (1))).1)).1.1))), (.key 9001), (.dv [] (.int .i64 ((putN (x) (k) ((setF ([]) (f) (((getF ([]) (f)).1) + (1))).1)).1.2.2)))])], [(9001, some (kcOf false (itemsD ((putN x k (setF ([] : RecT) f ((getF ([] : RecT) f).1 + 1)).1).1.2.1))))]⟩) (weak_sub ⟨rfl, rfl, rfl, trivial⟩ ⟨rfl, trivial⟩ ⟨rfl, trivial⟩ rfl) ?_
  refine z ?_
  refine fin3 (res_cell hT rfl rfl rfl rfl) (res_tmp rfl) (res_tmp rfl) rfl rfl rfl ?_
  first | exact ⟨rfl, rfl⟩ | skip

section
variable {x : StoreT} {o : OpT}
theorem opM_1 (h : o.1 = 1) : opM x o = ((putN x o.2.2.1 o.2.2.2.1).1, 1, (putN x o.2.2.1 o.2.2.2.1).2) := by rw [opM, if_pos h]
theorem opM_2 (h : o.1 = 2) : opM x o = ((addN x o.2.2.1 o.2.2.2.1).1, 1, (addN x o.2.2.1 o.2.2.2.1).2) := by rw [opM, if_neg (by omega), if_pos h]
theorem opM_3 (h : o.1 = 3) : opM x o = ((delS x (rgK o.2.2.1)).1, (delS x (rgK o.2.2.1)).2, true) := by rw [opM, if_neg (by omega), if_neg (by omega), if_pos h]
theorem opM_5 (h : o.1 = 5) : opM x o = ((delS x rg0).1, (delS x rg0).2, true) := by rw [opM, if_neg (by omega), if_neg (by omega), if_neg (by omega), if_neg (by omega), if_pos h]
theorem opM_4a (h : o.1 = 4) (h2 : fndK x o.2.2.1 < 0) : opM x o = (x, -1, true) := by rw [opM, if_neg (by omega), if_neg (by omega), if_neg (by omega), if_pos h, getN, if_pos h2]
theorem opM_4b (h : o.1 = 4) (h2 : ¬ fndK x o.2.2.1 < 0) : opM x o = (x, ((x.2.1.getD (fndK x o.2.2.1).toNat default).2.length : Int), true) := by rw [opM, if_neg (by omega), if_neg (by omega), if_neg (by omega), if_pos h, getN, if_neg h2]
theorem opM_6 (h1 : o.1 ≠ 1) (h2 : o.1 ≠ 2) (h3 : o.1 ≠ 3) (h4 : o.1 ≠ 4) (h5 : o.1 ≠ 5) : opM x o = incM x o.2.2.1 o.2.2.2.2 := by rw [opM, if_neg h1, if_neg h2, if_neg h3, if_neg h4, if_neg h5]
end

theorem ok_spec_l9Store {x : StoreT} {o : OpT} (hs : isSto x = true) (ho : isOpB o = true) : KFn Tryz.prog 44 [.agg [(.dv [] (.str (x.1))), (.dv [] (itemsD (x.2.1))), (.dv [] (.int .i64 (x.2.2)))], .agg [(.dv [] (.int .i64 (o.1))), (.dv [] (.str (o.2.1))), (.dv [] (.int .i64 (o.2.2.1.1))), (.dv [] (.int .i64 (o.2.2.1.2.1))), (.dv [] (.str (o.2.2.1.2.2))), (.dv [] (fieldsD (o.2.2.2.1))), (.dv [] (.str (o.2.2.2.2)))]] (.tup [(true, [(.dv [] (.str ((opM x o).1.1))), (.key 9001), (.dv [] (.int .i64 ((opM x o).1.2.2)))]), (false, [(.dv [] (.int .i64 ((opM x o).2.1)))]), (false, [(.dv [] (.bool ((opM x o).2.2)))])]) [(9001, some (kcOf false (itemsD ((opM x o).1.2.1))))] := by
 refine ⟨fn_intro Tryz.func44 rfl Tryz.ntmps44 Tryz.results44 rfl (fun C => ?_)⟩
 have hsw := sto_w hs
 have hor := op_rec ho
 refine yF 0 0 rfl rfl fun f0_0 => ?_
 refine yF 0 1 rfl rfl fun f0_1 => ?_
 refine yF 0 2 rfl rfl fun f0_2 => ?_
 refine yF 1 0 rfl rfl fun f1_0 => ?_
 refine yF 1 1 rfl rfl fun f1_1 => ?_
 refine yF 1 2 rfl rfl fun f1_2 => ?_
 refine yF 1 3 rfl rfl fun f1_3 => ?_
 refine yF 1 4 rfl rfl fun f1_4 => ?_
 refine yF 1 5 rfl rfl fun f1_5 => ?_
 refine yF 1 6 rfl rfl fun f1_6 => ?_
 iterate 17 refine z ?_
 refine yQ rfl (fun c1 => ?_) fun c1 => ?_
 ·skip
  have d1 := of_decide_eq_true c1
  iterate 6 refine z ?_
  refine zK 0 Tryz.call85 ?_ (hf := ok_spec_PutItem (x := x) (k := o.2.2.1) (r := o.2.2.2.1) (by omega) (by omega))
  iterate 14 refine z ?_
  rw [opM_1 d1]
  refine ok_weak (σ' := ⟨[(4, .box 4 0), (5, .one (.dv [] (.int .i64 (1)))), (6, .one (.dv [] (.bool ((putN (x) (o.2.2.1) (o.2.2.2.1)).2))))], [(4, 91, [(.dv [] (.str ((putN (x) (o.2.2.1) (o.2.2.2.1)).1.1))), (.key 9001), (.dv [] (.int .i64 ((putN (x) (o.2.2.1) (o.2.2.2.1)).1.2.2)))])], [(9001, some (kcOf false (itemsD ((putN x o.2.2.1 o.2.2.2.1).1.2.1))))]⟩) (weak_sub ⟨rfl, rfl, rfl, trivial⟩ ⟨rfl, trivial⟩ ⟨rfl, trivial⟩ rfl) ?_
  iterate 3 refine z ?_
  refine fin3 (res_cell hT rfl rfl rfl rfl) (res_tmp rfl) (res_tmp rfl) rfl rfl rfl ?_
  first | exact ⟨rfl, rfl⟩ | skip
 ·skip
  have d1 := of_decide_eq_false c1
  iterate 4 refine z ?_
  refine yQ rfl (fun c2 => ?_) fun c2 => ?_
  ·skip
   have d2 := of_decide_eq_true c2
   iterate 6 refine z ?_
   refine zK 0 Tryz.call86 ?_ (hf := ok_spec_AddItem (x := x) (k := o.2.2.1) (r := o.2.2.2.1) (by omega) (by omega))
   iterate 14 refine z ?_
   rw [opM_2 d2]
   refine ok_weak (σ' := ⟨[(4, .box 4 0), (5, .one (.dv [] (.int .i64 (1)))), (6, .one (.dv [] (.bool ((addN (x) (o.2.2.1) (o.2.2.2.1)).2))))], [(4, 91, [(.dv [] (.str ((addN (x) (o.2.2.1) (o.2.2.2.1)).1.1))), (.key 9001), (.dv [] (.int .i64 ((addN (x) (o.2.2.1) (o.2.2.2.1)).1.2.2)))])], [(9001, some (kcOf false (itemsD ((addN x o.2.2.1 o.2.2.2.1).1.2.1))))]⟩) (weak_sub ⟨rfl, rfl, rfl, trivial⟩ ⟨rfl, trivial⟩ ⟨rfl, trivial⟩ rfl) ?_
   iterate 3 refine z ?_
   refine fin3 (res_cell hT rfl rfl rfl rfl) (res_tmp rfl) (res_tmp rfl) rfl rfl rfl ?_
   first | exact ⟨rfl, rfl⟩ | skip
  ·skip
   have d2 := of_decide_eq_false c2
   iterate 4 refine z ?_
   refine yQ rfl (fun c3 => ?_) fun c3 => ?_
   ·skip
    have d3 := of_decide_eq_true c3
    iterate 6 refine z ?_
    refine yO rfl rfl (pu_build hT hB rfl rfl rfl (bp_cons ev_bool rfl rfl rfl rfl rfl (bp_cons ev_bool rfl rfl rfl rfl rfl (bp_cons (ev_tmp rfl) rfl rfl rfl rfl rfl (bp_cons (ev_tmp rfl) rfl rfl rfl rfl rfl bp_nil))))) rfl ?_
    refine zK 0 Tryz.call87 ?_ (hf := ok_spec_DeleteItems (x := x) (r := rgK o.2.2.1) (by omega))
    iterate 14 refine z ?_
    rw [opM_3 d3]
    refine ok_weak (σ' := ⟨[(4, .box 4 0), (5, .one (.dv [] (.int .i64 ((delS (x) (rgK o.2.2.1)).2)))), (6, .one (.dv [] (.bool (true))))], [(4, 91, [(.dv [] (.str ((delS (x) (rgK o.2.2.1)).1.1))), (.key 9001), (.dv [] (.int .i64 ((delS (x) (rgK o.2.2.1)).1.2.2)))])], [(9001, some (kcOf false (itemsD ((delS x (rgK o.2.2.1)).1.2.1))))]⟩) (weak_sub ⟨rfl, rfl, rfl, trivial⟩ ⟨rfl, trivial⟩ ⟨rfl, trivial⟩ rfl) ?_
    iterate 3 refine z ?_
    refine fin3 (res_cell hT rfl rfl rfl rfl) (res_tmp rfl) (res_tmp rfl) rfl rfl rfl ?_
    first | exact ⟨rfl, rfl⟩ | skip
   ·skip
    have d3 := of_decide_eq_false c3
    iterate 4 refine z ?_
    refine yQ rfl (fun c4 => ?_) fun c4 => ?_
    ·skip
     have d4 := of_decide_eq_true c4
     iterate 4 refine z ?_
     refine zC Tryz.call88 ?_ (hf := ok_spec_FindItem (x := x) (k := o.2.2.1) )
     iterate 7 refine z ?_
     refine yQ rfl (fun c5 => ?_) fun c5 => ?_
     ·skip
      have d5 := of_decide_eq_true c5
      iterate 2 refine z ?_
      refine zK 8971 Tryz.call79 ?_ (hf := ok_spec_l6Copy (x := x) (by omega))
      iterate 4 refine z ?_
      rw [opM_4a d4 d5]
      refine ok_weak (σ' := ⟨[(4, .box 4 0), (5, .one (.dv [] (.int .i64 (-1)))), (6, .one (.dv [] (.bool (true))))], [(4, 91, [(.dv [] (.str ((x).1))), (.key 9001), (.dv [] (.int .i64 ((x).2.2)))])], [(9001, some (kcOf false (itemsD (x.2.1))))]⟩) (weak_sub ⟨rfl, rfl, rfl, trivial⟩ ⟨rfl, trivial⟩ ⟨rfl, trivial⟩ rfl) ?_
      iterate 4 refine z ?_
      refine fin3 (res_cell hT rfl rfl rfl rfl) (res_tmp rfl) (res_tmp rfl) rfl rfl rfl ?_
      first | exact ⟨rfl, rfl⟩ | skip
     ·skip
      have d5 := of_decide_eq_false c5
      have hfx : fndK x o.2.2.1 < x.2.1.length := by have := fndK_lt (x := x) (k := o.2.2.1) (by omega); omega
      iterate 2 refine z ?_
      refine ok_seq ?_
      refine ok_regionX 4 [0, 1, 2, 3, 4, 5, 6, 7, 8, 9, 10] (oB := [2, 3]) (oK := []) (by kernel_rfl) rfl rfl ?_
      refine x_take 0 rfl (by kernel_rfl) rfl rfl (pu_loadBoxA hT rfl rfl (ev_tmp rfl) rfl rfl) rfl rfl rfl rfl rfl ?_
      refine x_take 2 rfl (by kernel_rfl) rfl rfl (pu_fieldBox hT rfl rfl rfl (ev_tmp rfl)) rfl rfl rfl rfl rfl ?_
      refine x_take 3 rfl (by kernel_rfl) rfl rfl (pu_loadBox1 hT rfl rfl (ev_tmp rfl) rfl rfl) rfl rfl rfl rfl rfl ?_
      refine x_take 4 rfl (by kernel_rfl) rfl rfl (pu_move (.inl rfl) (ev_tmp rfl)) rfl rfl rfl rfl rfl ?_
      refine x_take 5 rfl (by kernel_rfl) rfl rfl (pu_indexD hT rfl rfl rfl (ev_tmp rfl) (ev_tmp rfl) (fun _ => rfl) (by omega) (by omega)) rfl rfl rfl rfl rfl ?_
      refine x_take 6 rfl (by kernel_rfl) rfl rfl (pu_fieldRef hT rfl rfl rfl (ev_tmp rfl)) rfl rfl rfl rfl rfl ?_
      refine x_take 7 rfl (by kernel_rfl) rfl rfl (pu_fieldRef hT rfl rfl rfl (ev_tmp rfl)) rfl rfl rfl rfl rfl ?_
      refine x_take 8 rfl (by kernel_rfl) rfl rfl (pu_loadRef1 hT rfl rfl (ev_tmp rfl) rfl) rfl rfl rfl rfl rfl ?_
      refine x_take 9 rfl (by kernel_rfl) rfl rfl (pu_lenV hT rfl rfl (ev_tmp rfl)) rfl rfl rfl rfl rfl ?_
      refine x_callK 8971 1 rfl (by kernel_rfl) rfl rfl rfl Tryz.call79 (ok_spec_l6Copy (x := x) (by omega)) (as_cons (ev_tmp rfl) (ag_agg (ag_cons ac_dv (ag_cons ac_dv (ag_cons ac_dv ag_nil)))) as_nil) rfl rfl rfl rfl rfl rfl ?_
      refine x_store 10 rfl (by kernel_rfl) rfl hT rfl rfl rfl (ev_tmp rfl) (ev_tmp rfl) rfl rfl rfl rfl rfl rfl ?_
      refine x_chain [11, 12] rfl rfl (by kernel_rfl) ?_
      iterate 3 refine z ?_
      rw [opM_4b d4 d5]
      refine ok_weak (σ' := ⟨[(4, .box 4 0), (5, .one (.dv [] (.int .i64 (((((((x.2.1)).getD (fndK (x) (o.2.2.1)).toNat default).2)).length : Int))))), (6, .one (.dv [] (.bool (true))))], [(4, 91, [(.dv [] (.str ((x).1))), (.key 9001), (.dv [] (.int .i64 ((x).2.2)))])], [(9001, some (kcOf false (itemsD (x.2.1))))]⟩) (weak_sub ⟨rfl, rfl, rfl, trivial⟩ ⟨rfl, trivial⟩ ⟨rfl, trivial⟩ rfl) ?_
      iterate 3 refine z ?_
      refine fin3 (res_cell hT rfl rfl rfl rfl) (res_tmp rfl) (res_tmp rfl) rfl rfl rfl ?_
      first | exact ⟨rfl, rfl⟩ | skip
    ·skip
     have d4 := of_decide_eq_false c4
     iterate 4 refine z ?_
     refine yQ rfl (fun c6 => ?_) fun c6 => ?_
     ·skip
      have d6 := of_decide_eq_true c6
      iterate 2 refine z ?_
      refine yO rfl rfl (pu_build hT hB rfl rfl rfl bp_nil) rfl ?_
      refine zK 0 Tryz.call87 ?_ (hf := ok_spec_DeleteItems (x := x) (r := rg0) (by omega))
      iterate 14 refine z ?_
      rw [opM_5 d6]
      refine ok_weak (σ' := ⟨[(4, .box 4 0), (5, .one (.dv [] (.int .i64 ((delS (x) (rg0)).2)))), (6, .one (.dv [] (.bool (true))))], [(4, 91, [(.dv [] (.str ((delS (x) (rg0)).1.1))), (.key 9001), (.dv [] (.int .i64 ((delS (x) (rg0)).1.2.2)))])], [(9001, some (kcOf false (itemsD ((delS x rg0).1.2.1))))]⟩) (weak_sub ⟨rfl, rfl, rfl, trivial⟩ ⟨rfl, trivial⟩ ⟨rfl, trivial⟩ rfl) ?_
      iterate 3 refine z ?_
      refine fin3 (res_cell hT rfl rfl rfl rfl) (res_tmp rfl) (res_tmp rfl) rfl rfl rfl ?_
      first | exact ⟨rfl, rfl⟩ | skip
     ·skip
      have d6 := of_decide_eq_false c6
      iterate 9 refine z ?_
      refine zK 0 Tryz.call89 ?_ (hf := ok_spec_l9Inc (x := x) (k := o.2.2.1) (f := o.2.2.2.2) hs)
      iterate 7 refine z ?_
      rw [opM_6 d1 d2 d3 d4 d6]
      refine ok_weak (σ' := ⟨[(4, .box 4 0), (5, .one (.dv [] (.int .i64 ((incM (x) (o.2.2.1) (o.2.2.2.2)).2.1)))), (6, .one (.dv [] (.bool ((incM (x) (o.2.2.1) (o.2.2.2.2)).2.2))))], [(4, 91, [(.dv [] (.str ((incM (x) (o.2.2.1) (o.2.2.2.2)).1.1))), (.key 9001), (.dv [] (.int .i64 ((incM (x) (o.2.2.1) (o.2.2.2.2)).1.2.2)))])], [(9001, some (kcOf false (itemsD ((incM x o.2.2.1 o.2.2.2.2).1.2.1))))]⟩) (weak_sub ⟨rfl, rfl, rfl, trivial⟩ ⟨rfl, trivial⟩ ⟨rfl, trivial⟩ rfl) ?_
      refine z ?_
      refine fin3 (res_cell hT rfl rfl rfl rfl) (res_tmp rfl) (res_tmp rfl) rfl rfl rfl ?_
      first | exact ⟨rfl, rfl⟩ | skip
end Go.Proofs.YtmgijbhikmjfjaaGreat

namespace Go.Proofs.YtmgijbhikmjfjaaGreat
open Go.RowKit
open Go.Proofs
set_option linter.unusedVariables false
set_option linter.unusedSimpArgs false

theorem el_le {α : Type} {enc : α → List DV} {sz : Nat} {xs : List α} {i : Nat} (hs : ∀ y, (enc y).length = sz) (hi : i < xs.length) : i * sz + sz ≤ (xs.flatMap enc).length := by
 rw [fl_len hs]
 have : (i + 1) * sz ≤ xs.length * sz := Nat.mul_le_mul_right _ hi
 rw [Nat.add_mul, Nat.one_mul] at this
 exact this
section
variable {α : Type} {enc : α → List DV} {sz : Nat} {xs : List α} {i : Nat} [Inhabited α]
theorem el_sub (hs : ∀ y, (enc y).length = sz) (hi : i < xs.length) : sub (i * sz) sz (xs.flatMap enc) = enc (xs.getD i default) := by
 obtain ⟨_, h2⟩ := take_flat hs i xs
 have e : xs.drop i = xs.getD i default :: xs.drop (i + 1) := by rw [List.drop_eq_getElem_cons hi]; simp [List.getD, List.getElem?_eq_getElem hi]
 rw [sub, h2, e, List.flatMap_cons, List.take_left' (hs _)]
theorem el_set (hs : ∀ y, (enc y).length = sz) (hi : i < xs.length) (y : α) : setR (i * sz) (enc y) (xs.flatMap enc) = (xs.set i y).flatMap enc := by
 have e : xs.flatMap enc = (xs.take i).flatMap enc ++ (enc (xs.getD i default) ++ (xs.drop (i + 1)).flatMap enc) := by
  have e : xs.drop i = xs.getD i default :: xs.drop (i + 1) := by rw [List.drop_eq_getElem_cons hi]; simp [List.getD, List.getElem?_eq_getElem hi]
  rw [← List.flatMap_cons, ← e, ← List.flatMap_append, List.take_append_drop]
 rw [e, setR_mid3 (by rw [fl_len hs, List.length_take]; congr 1; omega) (by rw [hs, hs]), List.set_eq_take_append_cons_drop, if_pos hi, List.flatMap_append, List.flatMap_cons]
end
def putS (d : DbT) (i : Nat) (s : StoreT) : DbT := (d.1, d.2.1, d.2.2.1.set i s, d.2.2.2)
def stOf (d : DbT) (o : OpT) : StoreT := d.2.2.1.getD (fndS d o.2.1).toNat default
def runOp (d : DbT) (o : OpT) : DbT × Int × Bool :=
 if ((!isDb d || !isOpB o) || decide (fndS d o.2.1 < 0)) = true then (d, 0, false)
 else if (!(opM (stOf d o) o).2.2 || !isDb (putS d (fndS d o.2.1).toNat (opM (stOf d o) o).1)) = true then (d, 0, false)
 else (putS d (fndS d o.2.1).toNat (opM (stOf d o) o).1, (opM (stOf d o) o).2.1, true)
theorem runG {d : DbT} {o : OpT} (h : ((!isDb d || !isOpB o) || decide (fndS d o.2.1 < 0)) = false) : isDb d = true ∧ isOpB o = true ∧ 0 ≤ fndS d o.2.1 := by
 simp only [Bool.or_eq_false_iff, Bool.not_eq_false', decide_eq_false_iff_not] at h
 exact ⟨h.1.1, h.1.2, by omega⟩
theorem isDb_st1 {d : DbT} (h : isDb d = true) : dbSt d = true := by
 rw [isDb] at h
 simp only [Bool.and_eq_true] at h
 exact h.2.1
theorem runOp_bad {d : DbT} {o : OpT} (h : ((!isDb d || !isOpB o) || decide (fndS d o.2.1 < 0)) = true) : runOp d o = (d, 0, false) := by rw [runOp, if_pos h]
theorem runOp_no {d : DbT} {o : OpT} {r : StoreT × Int × Bool} (h : ((!isDb d || !isOpB o) || decide (fndS d o.2.1 < 0)) = false) (hr : r = opM (stOf d o) o ∨ (r.2.2 = false ∧ (opM (stOf d o) o).2.2 = false)) (h2 : (!r.2.2 || !isDb (putS d (fndS d o.2.1).toNat r.1)) = true) : runOp d o = (d, 0, false) := by
 rw [runOp, if_neg (by rw [h]; simp)]
 rcases hr with rfl | ⟨_, hr⟩
 ·rw [if_pos h2]
 ·rw [if_pos (by rw [hr]; rfl)]
theorem runOp_yes {d : DbT} {o : OpT} {r : StoreT × Int × Bool} (h : ((!isDb d || !isOpB o) || decide (fndS d o.2.1 < 0)) = false) (hr : r = opM (stOf d o) o ∨ (r.2.2 = false ∧ (opM (stOf d o) o).2.2 = false)) (h2 : (!r.2.2 || !isDb (putS d (fndS d o.2.1).toNat r.1)) = false) : runOp d o = (putS d (fndS d o.2.1).toNat r.1, r.2.1, true) := by
 rw [runOp, if_neg (by rw [h]; simp)]
 rcases hr with rfl | ⟨hr, _⟩
 ·rw [if_neg (by rw [h2]; simp)]
 ·rw [hr] at h2; cases h2
theorem same_1 {x : StoreT} {o : OpT} (h : same x o = true) : (opI x o).1 = x := by
 by_cases h4 : o.1 = 4
 ·unfold opI
  rw [if_neg (by omega), if_neg (by omega), if_neg (by omega), if_neg (by omega), if_pos h4]
 ·have h1 : ¬ o.1 = 1 := fun e => same_123 h (by omega)
  have h2 : ¬ o.1 = 2 := fun e => same_123 h (by omega)
  have h3 : ¬ o.1 = 3 := fun e => same_123 h (by omega)
  have h5 : ¬ o.1 = 5 := fun e => same_123 h (by omega)
  unfold opI
  rw [if_neg h1, if_neg h2, if_neg h3, if_neg h5, if_neg h4, if_pos]
  have := same_no h h4 rfl
  unfold incRec
  simpa using this
theorem putS_self {d : DbT} {i : Nat} (hi : i < d.2.2.1.length) : putS d i (d.2.2.1.getD i default) = d := by
 have : d.2.2.1.set i (d.2.2.1.getD i default) = d.2.2.1 := by
  apply List.ext_getElem?
  intro j
  rw [List.getElem?_set]
  by_cases h : i = j
  ·subst h; simp [hi, List.getD]
  ·simp [h]
 unfold putS
 rw [this]

theorem ok_spec_RunOp {d : DbT} {o : OpT} (hb : wDatabase d ≤ 1099511627776) : KFn Tryz.prog 9 [.agg [(.dv [] (.str (d.1))), (.dv [] (.int .i64 (d.2.1))), (.dv [] (storesD (d.2.2.1))), (.dv [] (defsD (d.2.2.2)))], .agg [(.dv [] (.int .i64 (o.1))), (.dv [] (.str (o.2.1))), (.dv [] (.int .i64 (o.2.2.1.1))), (.dv [] (.int .i64 (o.2.2.1.2.1))), (.dv [] (.str (o.2.2.1.2.2))), (.dv [] (fieldsD (o.2.2.2.1))), (.dv [] (.str (o.2.2.2.2)))]] (.tup [(true, [(.dv [] (.str ((runOp d o).1.1))), (.dv [] (.int .i64 ((runOp d o).1.2.1))), (.key 90031), (.key 90900)]), (false, [(.dv [] (.int .i64 ((runOp d o).2.1)))]), (false, [(.dv [] (.bool ((runOp d o).2.2)))])]) [(90031, some (kcOf false (storesD ((runOp d o).1.2.2.1)))), (90900, some (kcOf false (defsD ((runOp d o).1.2.2.2))))] := by
 refine ⟨fn_intro Tryz.func9 rfl Tryz.ntmps9 Tryz.results9 rfl (fun C => ?_)⟩
 refine yF 0 0 rfl rfl fun f0_0 => ?_
 refine yF 0 1 rfl rfl fun f0_1 => ?_
 refine yF 0 2 rfl rfl fun f0_2 => ?_
 refine yF 0 3 rfl rfl fun f0_3 => ?_
 refine yF 1 0 rfl rfl fun f1_0 => ?_
 refine yF 1 1 rfl rfl fun f1_1 => ?_
 refine yF 1 2 rfl rfl fun f1_2 => ?_
 refine yF 1 3 rfl rfl fun f1_3 => ?_
 refine yF 1 4 rfl rfl fun f1_4 => ?_
 refine yF 1 5 rfl rfl fun f1_5 => ?_
 refine yF 1 6 rfl rfl fun f1_6 => ?_
 iterate 9 refine z ?_
 refine zK 90000 Tryz.call40 ?_ (hf := ok_spec_l8Copy (x := d) (by omega))
 iterate 7 refine z ?_
 refine zC Tryz.call41 ?_ (hf := ok_spec_FindStore (x := d) (n := o.2.1) )
 iterate 5 refine z ?_
 refine zC Tryz.call42 ?_ (hf := ok_spec_IsDatabase (x := d) )
 iterate 3 refine z ?_
 refine o_callG (gd_bool rfl rfl rfl rfl rfl) rfl rfl Tryz.call43 (ok_spec_IsOp (x := o) ) (fun hg => (as_cons (ev_opt rfl hg) (ag_agg (ag_cons ac_dv (ag_cons ac_dv (ag_cons ac_dv (ag_cons ac_dv (ag_cons ac_dv (ag_cons ac_dv (ag_cons ac_dv ag_nil)))))))) as_nil)) rfl rfl ?_
 iterate 7 refine z ?_
 refine yQ rfl (fun c1 => ?_) fun c1 => ?_
 ·skip
  iterate 6 refine z ?_
  rw [runOp_bad c1]
  refine ok_weak (σ' := ⟨[(4, .box 4 0), (5, .one (.dv [] (.int .i64 (0)))), (6, .one (.dv [] (.bool (false))))], [(4, 38, [(.dv [] (.str ((d).1))), (.dv [] (.int .i64 ((d).2.1))), (.key 90031), (.key 90900)])], [(90031, some (kcOf false (storesD (d.2.2.1)))), (90900, some (kcOf false (defsD (d.2.2.2))))]⟩) (weak_sub ⟨rfl, rfl, rfl, trivial⟩ ⟨rfl, trivial⟩ ⟨rfl, rfl, trivial⟩ rfl) ?_
  iterate 2 refine z ?_
  refine fin3 (res_cell hT rfl rfl rfl rfl) (res_tmp rfl) (res_tmp rfl) rfl rfl rfl ?_
  first | exact ⟨rfl, rfl⟩ | skip
 ·skip
  have hg := runG c1
  have hlt : findI (hasName o.2.1) d.2.2.1 0 < d.2.2.1.length := fndS_lt d o.2.1
  have h0k : 0 ≤ findI (hasName o.2.1) d.2.2.1 0 := hg.2.2
  have hsx := db_sto (isDb_st1 hg.1) h0k hlt
  have hkn : (findI (hasName o.2.1) d.2.2.1 0).toNat < d.2.2.1.length := by omega
  iterate 2 refine z ?_
  refine ok_cutS (σ' := ⟨[(2, .box 2 0), (3, .box 3 0), (4, .box 4 0), (5, .one (.dv [] (.int .i64 (0)))), (6, .one (.dv [] (.bool (false)))), (7, .box 7 0), (8, .one (.dv [] (.int .i64 (findI (hasName (o.2.1)) (d).2.2.1 0)))), (9, .box 9 0), (10, .one (.dv [] (.int .i64 ((opM ((d.2.2.1.getD (findI (hasName o.2.1) d.2.2.1 0).toNat default)) (o)).2.1)))), (11, .one (.dv [] (.bool ((opM ((d.2.2.1.getD (findI (hasName o.2.1) d.2.2.1 0).toNat default)) (o)).2.2))))], [(2, 38, [(.dv [] (.str (d.1))), (.dv [] (.int .i64 (d.2.1))), (.dv [] (storesD (d.2.2.1))), (.dv [] (defsD (d.2.2.2)))]), (3, 47, [(.dv [] (.int .i64 (o.1))), (.dv [] (.str (o.2.1))), (.dv [] (.int .i64 (o.2.2.1.1))), (.dv [] (.int .i64 (o.2.2.1.2.1))), (.dv [] (.str (o.2.2.1.2.2))), (.dv [] (fieldsD (o.2.2.2.1))), (.dv [] (.str (o.2.2.2.2)))]), (4, 38, [(.dv [] (.str (ByteArray.empty))), (.dv [] (.int .i64 (0))), .nil, .nil]), (7, 38, [(.dv [] (.str ((d).1))), (.dv [] (.int .i64 ((d).2.1))), (.key 90031), (.key 90900)]), (9, 91, [(.dv [] (.str ((opM ((d.2.2.1.getD (findI (hasName o.2.1) d.2.2.1 0).toNat default)) (o)).1.1))), (.key 90501), (.dv [] (.int .i64 ((opM ((d.2.2.1.getD (findI (hasName o.2.1) d.2.2.1 0).toNat default)) (o)).1.2.2)))])], [(90031, some (kcOf false (storesD ((d).2.2.1)))), (90501, some (kcOf false (itemsD ((opM (d.2.2.1.getD (findI (hasName o.2.1) d.2.2.1 0).toNat default) o).1.2.1)))), (90900, some (kcOf false (defsD ((d).2.2.2))))]⟩) ?_ ?_
  ·skip
   refine ok_regionD (oB := [2, 3, 4, 7]) (oK := [90031, 90900]) (by kernel_rfl) rfl rfl ?_
   refine zD 0 ?_
   refine zD 1 ?_
   refine zD 2 ?_
   refine zD 3 ?_
   refine zD 4 ?_
   refine zD 5 ?_
   refine d_vars (A := [(11, 9, 91, _)]) hT ⟨⟨_, _, rfl⟩, rfl, trivial⟩ ?_
   refine a_callK 81500 6 rfl (by kernel_rfl) rfl rfl rfl (vok hT ⟨⟨_, _, rfl⟩, rfl, trivial⟩ (by kernel_rfl) (by kernel_rfl)) (vok hT ⟨⟨_, _, rfl⟩, rfl, trivial⟩ (by kernel_rfl) (by kernel_rfl)) rfl Tryz.call44 (ok_spec_l9Store (x := (d.2.2.1.getD (findI (hasName o.2.1) d.2.2.1 0).toNat default)) (o := o) hsx hg.2.1) (as_cons (ev_tmp rfl) (ag_agg (ag_cons ac_dv (ag_cons ac_dv (ag_cons ac_dv ag_nil)))) (as_cons (ev_tmp rfl) (ag_agg (ag_cons ac_dv (ag_cons ac_dv (ag_cons ac_dv (ag_cons ac_dv (ag_cons ac_dv (ag_cons ac_dv (ag_cons ac_dv ag_nil)))))))) as_nil)) rfl rfl rfl rfl rfl ?_
   refine a_take 7 rfl (by kernel_rfl) rfl rfl rfl (vok hT ⟨⟨_, _, rfl⟩, rfl, trivial⟩ (by kernel_rfl) (by kernel_rfl)) (vok hT ⟨⟨_, _, rfl⟩, rfl, trivial⟩ (by kernel_rfl) (by kernel_rfl)) (pu_move (.inl rfl) (ev_tmp rfl)) rfl rfl rfl rfl ?_
   refine a_takeX 8 rfl (by kernel_rfl) rfl rfl rfl rfl (vok hT ⟨⟨_, _, rfl⟩, rfl, trivial⟩ (by kernel_rfl) (by kernel_rfl)) (vok hT ⟨⟨_, _, rfl⟩, rfl, trivial⟩ (by kernel_rfl) (by kernel_rfl)) (pu_extractA rfl (ev_tmp rfl) rfl) rfl rfl ?_
   refine a_takeX 9 rfl (by kernel_rfl) rfl rfl rfl rfl (vok hT ⟨⟨_, _, rfl⟩, rfl, trivial⟩ (by kernel_rfl) (by kernel_rfl)) (vok hT ⟨⟨_, _, rfl⟩, rfl, trivial⟩ (by kernel_rfl) (by kernel_rfl)) (pu_extract1 rfl (ev_tmp rfl) rfl) rfl rfl ?_
   refine a_takeX 10 rfl (by kernel_rfl) rfl rfl rfl rfl (vok hT ⟨⟨_, _, rfl⟩, rfl, trivial⟩ (by kernel_rfl) (by kernel_rfl)) (vok hT ⟨⟨_, _, rfl⟩, rfl, trivial⟩ (by kernel_rfl) (by kernel_rfl)) (pu_extract1 rfl (ev_tmp rfl) rfl) rfl rfl ?_
   refine a_exit1 (vok hT ⟨⟨_, _, rfl⟩, rfl, trivial⟩ (by kernel_rfl) (by kernel_rfl)) rfl rfl (by kernel_rfl) ?_
   dsimp only [addT, addB]
   refine d_chain [12, 13, 14] rfl rfl (by kernel_rfl) ?_
   iterate 3 refine z ?_
   refine ops_nil ?_
   exact then_n (weak_sub ⟨rfl, rfl, rfl, rfl, rfl, rfl, rfl, rfl, rfl, rfl, trivial⟩ ⟨rfl, rfl, rfl, rfl, rfl, trivial⟩ ⟨rfl, rfl, rfl, trivial⟩ rfl)
  iterate 5 refine z ?_
  refine yO rfl rfl (pu_indexK (i := (findI (hasName (o.2.1)) (d).2.2.1 0).toNat) hT rfl rfl rfl (ev_tmp rfl) rfl (ev_tmp rfl) (by omega) (by show _ < (((d).2.2.1)).length; omega)) rfl ?_
  refine o_storeE (js := [90501]) (cs := (d.2.2.1.set (findI (hasName o.2.1) d.2.2.1 0).toNat (opM (d.2.2.1.getD (findI (hasName o.2.1) d.2.2.1 0).toNat default) o).1).flatMap eStore) hT rfl rfl rfl rfl (ev_tmp rfl) (ev_tmp rfl) rfl rfl rfl rfl (ow_cons' (ow_dv rfl) (ow_cons' (ow_key rfl) (ow_cons' (ow_dv rfl) ow_nil rfl) rfl) rfl) (by decide) (by decide) rfl (by show _ ≤ List.length (((d).2.2.1).flatMap eStore); show (findI (hasName o.2.1) d.2.2.1 0).toNat * 3 + 3 ≤ _; rw [fl_len (enc := eStore) (sz := 3) (fun _ => rfl)]; omega) (el_set (enc := eStore) (sz := 3) (fun _ => rfl) hkn (opM (d.2.2.1.getD (findI (hasName o.2.1) d.2.2.1 0).toNat default) o).1) ?_
  simp only [killT, killB, SV.kill, CV.kill, kk, Nat.reduceBEq]
  refine z ?_
  refine ok_seq ?_
  refine ok_seq ?_
  refine ok_weak (weak_eq (k := 90031) (c' := kcOf false (storesD (d.2.2.1.set (findI (hasName o.2.1) d.2.2.1 0).toNat (opM (d.2.2.1.getD (findI (hasName o.2.1) d.2.2.1 0).toNat default) o).1))) rfl (congrArg (fun m => KC.mk false 91 3 m ((d.2.2.1.set (findI (hasName o.2.1) d.2.2.1 0).toNat (opM (d.2.2.1.getD (findI (hasName o.2.1) d.2.2.1 0).toNat default) o).1).flatMap eStore)) (List.length_set).symm) rfl) ?_
  refine ok_region ?_
  iterate 4 refine z ?_
  refine o_callG (gd_bool rfl rfl rfl rfl rfl) rfl rfl Tryz.call42 (ok_spec_IsDatabase (x := putS d (findI (hasName o.2.1) d.2.2.1 0).toNat (opM (d.2.2.1.getD (findI (hasName o.2.1) d.2.2.1 0).toNat default) o).1)) (fun hg => (as_cons (ev_opt rfl hg) (ag_agg (ag_cons ac_dv (ag_cons ac_dv (ag_cons (ac_key' rfl rfl) (ag_cons (ac_key' rfl rfl) ag_nil))))) as_nil)) rfl rfl ?_
  iterate 3 refine z ?_
  refine yQ rfl (fun c2 => ?_) fun c2 => ?_
  ·skip
   refine ok_seq ?_
   refine ok_weak (σ' := ⟨[(2, .box 2 0), (4, .box 4 0), (5, .one (.dv [] (.int .i64 (0)))), (6, .one (.dv [] (.bool (false))))], [(2, 38, [(.dv [] (.str (d.1))), (.dv [] (.int .i64 (d.2.1))), (.dv [] (storesD (d.2.2.1))), (.dv [] (defsD (d.2.2.2)))]), (4, 38, [(.dv [] (.str (ByteArray.empty))), (.dv [] (.int .i64 (0))), .nil, .nil])], []⟩) (weak_sub ⟨rfl, rfl, rfl, rfl, trivial⟩ ⟨rfl, rfl, trivial⟩ trivial rfl) ?_
   refine ok_region ?_
   refine z ?_
   refine zK 90000 Tryz.call40 ?_ (hf := ok_spec_l8Copy (x := d) (by omega))
   iterate 4 refine z ?_
   rw [runOp_no c1 (r := (opM (d.2.2.1.getD (findI (hasName o.2.1) d.2.2.1 0).toNat default) o)) (.inl rfl) c2]
   refine ok_weak (σ' := ⟨[(4, .box 4 0), (5, .one (.dv [] (.int .i64 (0)))), (6, .one (.dv [] (.bool (false))))], [(4, 38, [(.dv [] (.str ((d).1))), (.dv [] (.int .i64 ((d).2.1))), (.key 90031), (.key 90900)])], [(90031, some (kcOf false (storesD (d.2.2.1)))), (90900, some (kcOf false (defsD (d.2.2.2))))]⟩) (weak_sub ⟨rfl, rfl, rfl, trivial⟩ ⟨rfl, trivial⟩ ⟨rfl, rfl, trivial⟩ rfl) ?_
   iterate 2 refine z ?_
   refine fin3 (res_cell hT rfl rfl rfl rfl) (res_tmp rfl) (res_tmp rfl) rfl rfl rfl ?_
   first | exact ⟨rfl, rfl⟩ | skip
  ·skip
   iterate 9 refine z ?_
   rw [runOp_yes c1 (r := (opM (d.2.2.1.getD (findI (hasName o.2.1) d.2.2.1 0).toNat default) o)) (.inl rfl) c2]
   refine ok_weak (σ' := ⟨[(4, .box 4 0), (5, .one (.dv [] (.int .i64 ((opM ((d.2.2.1.getD (findI (hasName o.2.1) d.2.2.1 0).toNat default)) (o)).2.1)))), (6, .one (.dv [] (.bool (true))))], [(4, 38, [(.dv [] (.str ((d).1))), (.dv [] (.int .i64 ((d).2.1))), (.key 90031), (.key 90900)])], [(90031, some (kcOf false (storesD (d.2.2.1.set (findI (hasName o.2.1) d.2.2.1 0).toNat (opM (d.2.2.1.getD (findI (hasName o.2.1) d.2.2.1 0).toNat default) o).1)))), (90900, some (kcOf false (defsD (d.2.2.2))))]⟩) (weak_sub ⟨rfl, rfl, rfl, trivial⟩ ⟨rfl, trivial⟩ ⟨rfl, rfl, trivial⟩ rfl) ?_
   refine z ?_
   refine fin3 (res_cell hT rfl rfl rfl rfl) (res_tmp rfl) (res_tmp rfl) rfl rfl rfl ?_
   first | exact ⟨rfl, rfl⟩ | skip
theorem ok_impl_RunOpId {d : DbT} {o : OpT} (hb : wDatabase d ≤ 1099511627776) (hal : same (d.2.2.1.getD (findI (hasName o.2.1) d.2.2.1 0).toNat default) o = true) : KFn Tryz.prog 12 [.agg [(.dv [] (.str (d.1))), (.dv [] (.int .i64 (d.2.1))), (.dv [] (storesD (d.2.2.1))), (.dv [] (defsD (d.2.2.2)))], .agg [(.dv [] (.int .i64 (o.1))), (.dv [] (.str (o.2.1))), (.dv [] (.int .i64 (o.2.2.1.1))), (.dv [] (.int .i64 (o.2.2.1.2.1))), (.dv [] (.str (o.2.2.1.2.2))), (.dv [] (fieldsD (o.2.2.2.1))), (.dv [] (.str (o.2.2.2.2)))]] (.tup [(true, [(.dv [] (.str ((runOp d o).1.1))), (.dv [] (.int .i64 ((runOp d o).1.2.1))), (.key 90031), (.key 90900)]), (false, [(.dv [] (.int .i64 ((runOp d o).2.1)))]), (false, [(.dv [] (.bool ((runOp d o).2.2)))])]) [(90031, some (kcOf false (storesD ((runOp d o).1.2.2.1)))), (90900, some (kcOf false (defsD ((runOp d o).1.2.2.2))))] := by
 refine ⟨fn_intro Tryz.func12 rfl Tryz.ntmps12 Tryz.results12 rfl (fun C => ?_)⟩
 refine yF 0 0 rfl rfl fun f0_0 => ?_
 refine yF 0 1 rfl rfl fun f0_1 => ?_
 refine yF 0 2 rfl rfl fun f0_2 => ?_
 refine yF 0 3 rfl rfl fun f0_3 => ?_
 refine yF 1 0 rfl rfl fun f1_0 => ?_
 refine yF 1 1 rfl rfl fun f1_1 => ?_
 refine yF 1 2 rfl rfl fun f1_2 => ?_
 refine yF 1 3 rfl rfl fun f1_3 => ?_
 refine yF 1 4 rfl rfl fun f1_4 => ?_
 refine yF 1 5 rfl rfl fun f1_5 => ?_
 refine yF 1 6 rfl rfl fun f1_6 => ?_
 iterate 9 refine z ?_
 refine zK 90000 Tryz.call49 ?_ (hf := ok_impl_copyDatabase (x := d) (by omega))
 iterate 7 refine z ?_
 refine zC Tryz.call50 ?_ (hf := ok_impl_FindStore (x := d) (n := o.2.1) )
 iterate 5 refine z ?_
 refine zC Tryz.call51 ?_ (hf := ok_impl_IsDatabase (x := d) )
 iterate 3 refine z ?_
 refine o_callG (gd_bool rfl rfl rfl rfl rfl) rfl rfl Tryz.call52 (ok_impl_IsOp (x := o) ) (fun hg => (as_cons (ev_opt rfl hg) (ag_agg (ag_cons ac_dv (ag_cons ac_dv (ag_cons ac_dv (ag_cons ac_dv (ag_cons ac_dv (ag_cons ac_dv (ag_cons ac_dv ag_nil)))))))) as_nil)) rfl rfl ?_
 iterate 7 refine z ?_
 refine yQ rfl (fun c1 => ?_) fun c1 => ?_
 ·skip
  iterate 6 refine z ?_
  rw [runOp_bad c1]
  refine ok_weak (σ' := ⟨[(4, .box 4 0), (5, .one (.dv [] (.int .i64 (0)))), (6, .one (.dv [] (.bool (false))))], [(4, 38, [(.dv [] (.str ((d).1))), (.dv [] (.int .i64 ((d).2.1))), (.key 90031), (.key 90900)])], [(90031, some (kcOf false (storesD (d.2.2.1)))), (90900, some (kcOf false (defsD (d.2.2.2))))]⟩) (weak_sub ⟨rfl, rfl, rfl, trivial⟩ ⟨rfl, trivial⟩ ⟨rfl, rfl, trivial⟩ rfl) ?_
  iterate 2 refine z ?_
  refine fin3 (res_cell hT rfl rfl rfl rfl) (res_tmp rfl) (res_tmp rfl) rfl rfl rfl ?_
  first | exact ⟨rfl, rfl⟩ | skip
 ·skip
  have hg := runG c1
  have hlt : findI (hasName o.2.1) d.2.2.1 0 < d.2.2.1.length := fndS_lt d o.2.1
  have h0k : 0 ≤ findI (hasName o.2.1) d.2.2.1 0 := hg.2.2
  have hsx := db_sto (isDb_st1 hg.1) h0k hlt
  have hkn : (findI (hasName o.2.1) d.2.2.1 0).toNat < d.2.2.1.length := by omega
  have hps := putS_self hkn
  have hs1 := same_1 hal
  iterate 2 refine z ?_
  refine ok_cutS (σ' := ⟨[(2, .box 2 0), (3, .box 3 0), (4, .box 4 0), (5, .one (.dv [] (.int .i64 (0)))), (6, .one (.dv [] (.bool (false)))), (7, .box 7 0), (8, .one (.dv [] (.int .i64 (findI (hasName (o.2.1)) (d).2.2.1 0)))), (9, .box 9 0), (10, .one (.dv [] (.int .i64 ((opI ((d.2.2.1.getD (findI (hasName o.2.1) d.2.2.1 0).toNat default)) (o)).2.1)))), (11, .one (.dv [] (.bool ((opI ((d.2.2.1.getD (findI (hasName o.2.1) d.2.2.1 0).toNat default)) (o)).2.2))))], [(2, 38, [(.dv [] (.str (d.1))), (.dv [] (.int .i64 (d.2.1))), (.dv [] (storesD (d.2.2.1))), (.dv [] (defsD (d.2.2.2)))]), (3, 47, [(.dv [] (.int .i64 (o.1))), (.dv [] (.str (o.2.1))), (.dv [] (.int .i64 (o.2.2.1.1))), (.dv [] (.int .i64 (o.2.2.1.2.1))), (.dv [] (.str (o.2.2.1.2.2))), (.dv [] (fieldsD (o.2.2.2.1))), (.dv [] (.str (o.2.2.2.2)))]), (4, 38, [(.dv [] (.str (ByteArray.empty))), (.dv [] (.int .i64 (0))), .nil, .nil]), (7, 38, [(.dv [] (.str ((d).1))), (.dv [] (.int .i64 ((d).2.1))), (.key 90031), (.key 90900)]), (9, 91, [(.dv [] (.str (((d.2.2.1.getD (findI (hasName o.2.1) d.2.2.1 0).toNat default)).1))), (.nest 90031 (((findI (hasName (o.2.1)) (d).2.2.1 0).toNat * 3 + 1)) (itemsD ((d.2.2.1.getD (findI (hasName o.2.1) d.2.2.1 0).toNat default).2.1))), (.dv [] (.int .i64 (((d.2.2.1.getD (findI (hasName o.2.1) d.2.2.1 0).toNat default)).2.2)))])], [(90031, some (kcOf false (storesD ((d).2.2.1)))), (90900, some (kcOf false (defsD ((d).2.2.2))))]⟩) ?_ ?_
  ·skip
   refine ok_regionD (oB := [2, 3, 4, 7]) (oK := [90031, 90900]) (by kernel_rfl) rfl rfl ?_
   refine zD 0 ?_
   refine zD 1 ?_
   refine zD 2 ?_
   refine d_take 3 rfl (by kernel_rfl) rfl rfl (pu_indexK (i := (findI (hasName (o.2.1)) (d).2.2.1 0).toNat) hT rfl rfl rfl (ev_tmp rfl) rfl (ev_tmp rfl) (by omega) (by show _ < (((d).2.2.1)).length; omega)) rfl rfl rfl rfl ?_
   refine d_take 4 rfl (by kernel_rfl) rfl rfl (pu_loadEA (ds := [.str ((d.2.2.1.getD (findI (hasName o.2.1) d.2.2.1 0).toNat default).1), itemsD ((d.2.2.1.getD (findI (hasName o.2.1) d.2.2.1 0).toNat default).2.1), .int .i64 ((d.2.2.1.getD (findI (hasName o.2.1) d.2.2.1 0).toNat default).2.2)]) hT rfl rfl (ev_tmp rfl) rfl rfl (by decide) (el_sub (enc := eStore) (sz := 3) (fun _ => rfl) hkn)) rfl rfl rfl rfl ?_
   refine zD 5 ?_
   refine d_vars (A := [(11, 9, 91, _)]) hT ⟨⟨_, _, rfl⟩, rfl, trivial⟩ ?_
   refine a_callI 6 rfl (by kernel_rfl) rfl rfl rfl (vok hT ⟨⟨_, _, rfl⟩, rfl, trivial⟩ (by kernel_rfl) (by kernel_rfl)) (vok hT ⟨⟨_, _, rfl⟩, rfl, trivial⟩ (by kernel_rfl) (by kernel_rfl)) rfl rfl Tryz.call53 (ok_impl_opOnId (x := (d.2.2.1.getD (findI (hasName o.2.1) d.2.2.1 0).toNat default)) (o := o) hsx hg.2.1 hal) (ev_tmp rfl) ac_dv ac_nest ac_dv (as_cons (ev_tmp rfl) (ag_agg (ag_cons ac_dv (ag_cons ac_dv (ag_cons ac_dv (ag_cons ac_dv (ag_cons ac_dv (ag_cons ac_dv (ag_cons ac_dv ag_nil)))))))) as_nil) rfl rfl rfl rfl rfl rfl rfl ?_
   refine a_take 7 rfl (by kernel_rfl) rfl rfl rfl (vok hT ⟨⟨_, _, rfl⟩, rfl, trivial⟩ (by kernel_rfl) (by kernel_rfl)) (vok hT ⟨⟨_, _, rfl⟩, rfl, trivial⟩ (by kernel_rfl) (by kernel_rfl)) (pu_move (.inl rfl) (ev_tmp rfl)) rfl rfl rfl rfl ?_
   refine a_takeX 8 rfl (by kernel_rfl) rfl rfl rfl rfl (vok hT ⟨⟨_, _, rfl⟩, rfl, trivial⟩ (by kernel_rfl) (by kernel_rfl)) (vok hT ⟨⟨_, _, rfl⟩, rfl, trivial⟩ (by kernel_rfl) (by kernel_rfl)) (pu_extractA rfl (ev_tmp rfl) rfl) rfl rfl ?_
   refine a_takeX 9 rfl (by kernel_rfl) rfl rfl rfl rfl (vok hT ⟨⟨_, _, rfl⟩, rfl, trivial⟩ (by kernel_rfl) (by kernel_rfl)) (vok hT ⟨⟨_, _, rfl⟩, rfl, trivial⟩ (by kernel_rfl) (by kernel_rfl)) (pu_extract1 rfl (ev_tmp rfl) rfl) rfl rfl ?_
   refine a_takeX 10 rfl (by kernel_rfl) rfl rfl rfl rfl (vok hT ⟨⟨_, _, rfl⟩, rfl, trivial⟩ (by kernel_rfl) (by kernel_rfl)) (vok hT ⟨⟨_, _, rfl⟩, rfl, trivial⟩ (by kernel_rfl) (by kernel_rfl)) (pu_extract1 rfl (ev_tmp rfl) rfl) rfl rfl ?_
   refine a_exit1 (vok hT ⟨⟨_, _, rfl⟩, rfl, trivial⟩ (by kernel_rfl) (by kernel_rfl)) rfl rfl (by kernel_rfl) ?_
   dsimp only [addT, addB]
   refine d_chain [12, 13, 14] rfl rfl (by kernel_rfl) ?_
   iterate 3 refine z ?_
   refine ops_nil ?_
   exact then_n (weak_sub ⟨rfl, rfl, rfl, rfl, rfl, rfl, rfl, rfl, rfl, rfl, trivial⟩ ⟨rfl, rfl, rfl, rfl, rfl, trivial⟩ ⟨rfl, rfl, trivial⟩ rfl)
  iterate 5 refine z ?_
  refine yO rfl rfl (pu_indexK (i := (findI (hasName (o.2.1)) (d).2.2.1 0).toNat) hT rfl rfl rfl (ev_tmp rfl) rfl (ev_tmp rfl) (by omega) (by show _ < (((d).2.2.1)).length; omega)) rfl ?_
  refine o_stay (ds := [.str ((d.2.2.1.getD (findI (hasName o.2.1) d.2.2.1 0).toNat default).1), itemsD ((d.2.2.1.getD (findI (hasName o.2.1) d.2.2.1 0).toNat default).2.1), .int .i64 ((d.2.2.1.getD (findI (hasName o.2.1) d.2.2.1 0).toNat default).2.2)]) hT rfl rfl rfl rfl (ev_tmp rfl) (ev_tmp rfl) rfl rfl (el_sub (enc := eStore) (sz := 3) (fun _ => rfl) hkn) (el_le (enc := eStore) (sz := 3) (fun _ => rfl) hkn) ?_
  simp only [killT, killB, SV.kill, CV.kill, kk, Nat.reduceBEq]
  iterate 7 refine z ?_
  refine o_callG (gd_bool rfl rfl rfl rfl rfl) rfl rfl Tryz.call51 (ok_impl_IsDatabase (x := d)) (fun hg => (as_cons (ev_opt rfl hg) (ag_agg (ag_cons ac_dv (ag_cons ac_dv (ag_cons (ac_key' rfl rfl) (ag_cons (ac_key' rfl rfl) ag_nil))))) as_nil)) rfl rfl ?_
  iterate 3 refine z ?_
  refine yQ rfl (fun c2 => ?_) fun c2 => ?_
  ·skip
   refine ok_seq ?_
   refine ok_weak (σ' := ⟨[(2, .box 2 0), (4, .box 4 0), (5, .one (.dv [] (.int .i64 (0)))), (6, .one (.dv [] (.bool (false))))], [(2, 38, [(.dv [] (.str (d.1))), (.dv [] (.int .i64 (d.2.1))), (.dv [] (storesD (d.2.2.1))), (.dv [] (defsD (d.2.2.2)))]), (4, 38, [(.dv [] (.str (ByteArray.empty))), (.dv [] (.int .i64 (0))), .nil, .nil])], []⟩) (weak_sub ⟨rfl, rfl, rfl, rfl, trivial⟩ ⟨rfl, rfl, trivial⟩ trivial rfl) ?_
   refine ok_region ?_
   refine z ?_
   refine zK 90000 Tryz.call49 ?_ (hf := ok_impl_copyDatabase (x := d) (by omega))
   iterate 4 refine z ?_
   rw [runOp_no c1 (opI_opM (d.2.2.1.getD (findI (hasName o.2.1) d.2.2.1 0).toNat default) o) (by rw [hs1]; show (_ || !isDb (putS d (findI (hasName o.2.1) d.2.2.1 0).toNat (d.2.2.1.getD (findI (hasName o.2.1) d.2.2.1 0).toNat default))) = true; rw [hps]; exact c2)]
   refine ok_weak (σ' := ⟨[(4, .box 4 0), (5, .one (.dv [] (.int .i64 (0)))), (6, .one (.dv [] (.bool (false))))], [(4, 38, [(.dv [] (.str ((d).1))), (.dv [] (.int .i64 ((d).2.1))), (.key 90031), (.key 90900)])], [(90031, some (kcOf false (storesD (d.2.2.1)))), (90900, some (kcOf false (defsD (d.2.2.2))))]⟩) (weak_sub ⟨rfl, rfl, rfl, trivial⟩ ⟨rfl, trivial⟩ ⟨rfl, rfl, trivial⟩ rfl) ?_
   iterate 2 refine z ?_
   refine fin3 (res_cell hT rfl rfl rfl rfl) (res_tmp rfl) (res_tmp rfl) rfl rfl rfl ?_
   first | exact ⟨rfl, rfl⟩ | skip
  ·skip
   iterate 9 refine z ?_
   have hfin : runOp d o = (d, (opI (d.2.2.1.getD (findI (hasName o.2.1) d.2.2.1 0).toNat default) o).2.1, true) := by rw [runOp_yes c1 (opI_opM (d.2.2.1.getD (findI (hasName o.2.1) d.2.2.1 0).toNat default) o) (by rw [hs1]; show (_ || !isDb (putS d (findI (hasName o.2.1) d.2.2.1 0).toNat (d.2.2.1.getD (findI (hasName o.2.1) d.2.2.1 0).toNat default))) = false; rw [hps]; exact c2), hs1]; show (putS d (findI (hasName o.2.1) d.2.2.1 0).toNat (d.2.2.1.getD (findI (hasName o.2.1) d.2.2.1 0).toNat default), _, _) = _; rw [hps]
   rw [hfin]
   refine ok_weak (σ' := ⟨[(4, .box 4 0), (5, .one (.dv [] (.int .i64 ((opI ((d.2.2.1.getD (findI (hasName o.2.1) d.2.2.1 0).toNat default)) (o)).2.1)))), (6, .one (.dv [] (.bool (true))))], [(4, 38, [(.dv [] (.str ((d).1))), (.dv [] (.int .i64 ((d).2.1))), (.key 90031), (.key 90900)])], [(90031, some (kcOf false (storesD (d.2.2.1)))), (90900, some (kcOf false (defsD (d.2.2.2))))]⟩) (weak_sub ⟨rfl, rfl, rfl, trivial⟩ ⟨rfl, trivial⟩ ⟨rfl, rfl, trivial⟩ rfl) ?_
   refine z ?_
   refine fin3 (res_cell hT rfl rfl rfl rfl) (res_tmp rfl) (res_tmp rfl) rfl rfl rfl ?_
   first | exact ⟨rfl, rfl⟩ | skip
end Go.Proofs.YtmgijbhikmjfjaaGreat

namespace Go.Proofs.YtmgijbhikmjfjaaGreat
open Go.RowKit
open Go.Proofs
set_option linter.unusedVariables false
set_option linter.unusedSimpArgs false
theorem ok_impl_RunOpFr {d : DbT} {o : OpT} (hb : wDatabase d ≤ 1099511627776) (hal : same (d.2.2.1.getD (findI (hasName o.2.1) d.2.2.1 0).toNat default) o = false) : KFn Tryz.prog 12 [.agg [(.dv [] (.str (d.1))), (.dv [] (.int .i64 (d.2.1))), (.dv [] (storesD (d.2.2.1))), (.dv [] (defsD (d.2.2.2)))], .agg [(.dv [] (.int .i64 (o.1))), (.dv [] (.str (o.2.1))), (.dv [] (.int .i64 (o.2.2.1.1))), (.dv [] (.int .i64 (o.2.2.1.2.1))), (.dv [] (.str (o.2.2.1.2.2))), (.dv [] (fieldsD (o.2.2.2.1))), (.dv [] (.str (o.2.2.2.2)))]] (.tup [(true, [(.dv [] (.str ((runOp d o).1.1))), (.dv [] (.int .i64 ((runOp d o).1.2.1))), (.key 90031), (.key 90900)]), (false, [(.dv [] (.int .i64 ((runOp d o).2.1)))]), (false, [(.dv [] (.bool ((runOp d o).2.2)))])]) [(90031, some (kcOf false (storesD ((runOp d o).1.2.2.1)))), (90900, some (kcOf false (defsD ((runOp d o).1.2.2.2))))] := by
 refine ⟨fn_intro Tryz.func12 rfl Tryz.ntmps12 Tryz.results12 rfl (fun C => ?_)⟩
 refine yF 0 0 rfl rfl fun f0_0 => ?_
 refine yF 0 1 rfl rfl fun f0_1 => ?_
 refine yF 0 2 rfl rfl fun f0_2 => ?_
 refine yF 0 3 rfl rfl fun f0_3 => ?_
 refine yF 1 0 rfl rfl fun f1_0 => ?_
 refine yF 1 1 rfl rfl fun f1_1 => ?_
 refine yF 1 2 rfl rfl fun f1_2 => ?_
 refine yF 1 3 rfl rfl fun f1_3 => ?_
 refine yF 1 4 rfl rfl fun f1_4 => ?_
 refine yF 1 5 rfl rfl fun f1_5 => ?_
 refine yF 1 6 rfl rfl fun f1_6 => ?_
 iterate 9 refine z ?_
 refine zK 90000 Tryz.call49 ?_ (hf := ok_impl_copyDatabase (x := d) (by omega))
 iterate 7 refine z ?_
 refine zC Tryz.call50 ?_ (hf := ok_impl_FindStore (x := d) (n := o.2.1) )
 iterate 5 refine z ?_
 refine zC Tryz.call51 ?_ (hf := ok_impl_IsDatabase (x := d) )
 iterate 3 refine z ?_
 refine o_callG (gd_bool rfl rfl rfl rfl rfl) rfl rfl Tryz.call52 (ok_impl_IsOp (x := o) ) (fun hg => (as_cons (ev_opt rfl hg) (ag_agg (ag_cons ac_dv (ag_cons ac_dv (ag_cons ac_dv (ag_cons ac_dv (ag_cons ac_dv (ag_cons ac_dv (ag_cons ac_dv ag_nil)))))))) as_nil)) rfl rfl ?_
 iterate 7 refine z ?_
 refine yQ rfl (fun c1 => ?_) fun c1 => ?_
 ·skip
  iterate 6 refine z ?_
  rw [runOp_bad c1]
  refine ok_weak (σ' := ⟨[(4, .box 4 0), (5, .one (.dv [] (.int .i64 (0)))), (6, .one (.dv [] (.bool (false))))], [(4, 38, [(.dv [] (.str ((d).1))), (.dv [] (.int .i64 ((d).2.1))), (.key 90031), (.key 90900)])], [(90031, some (kcOf false (storesD (d.2.2.1)))), (90900, some (kcOf false (defsD (d.2.2.2))))]⟩) (weak_sub ⟨rfl, rfl, rfl, trivial⟩ ⟨rfl, trivial⟩ ⟨rfl, rfl, trivial⟩ rfl) ?_
  iterate 2 refine z ?_
  refine fin3 (res_cell hT rfl rfl rfl rfl) (res_tmp rfl) (res_tmp rfl) rfl rfl rfl ?_
  first | exact ⟨rfl, rfl⟩ | skip
 ·skip
  have hg := runG c1
  have hlt : findI (hasName o.2.1) d.2.2.1 0 < d.2.2.1.length := fndS_lt d o.2.1
  have h0k : 0 ≤ findI (hasName o.2.1) d.2.2.1 0 := hg.2.2
  have hsx := db_sto (isDb_st1 hg.1) h0k hlt
  have hkn : (findI (hasName o.2.1) d.2.2.1 0).toNat < d.2.2.1.length := by omega
  iterate 2 refine z ?_
  refine ok_cutS (σ' := ⟨[(2, .box 2 0), (3, .box 3 0), (4, .box 4 0), (5, .one (.dv [] (.int .i64 (0)))), (6, .one (.dv [] (.bool (false)))), (7, .box 7 0), (8, .one (.dv [] (.int .i64 (findI (hasName (o.2.1)) (d).2.2.1 0)))), (9, .box 9 0), (10, .one (.dv [] (.int .i64 ((opI ((d.2.2.1.getD (findI (hasName o.2.1) d.2.2.1 0).toNat default)) (o)).2.1)))), (11, .one (.dv [] (.bool ((opI ((d.2.2.1.getD (findI (hasName o.2.1) d.2.2.1 0).toNat default)) (o)).2.2))))], [(2, 38, [(.dv [] (.str (d.1))), (.dv [] (.int .i64 (d.2.1))), (.dv [] (storesD (d.2.2.1))), (.dv [] (defsD (d.2.2.2)))]), (3, 47, [(.dv [] (.int .i64 (o.1))), (.dv [] (.str (o.2.1))), (.dv [] (.int .i64 (o.2.2.1.1))), (.dv [] (.int .i64 (o.2.2.1.2.1))), (.dv [] (.str (o.2.2.1.2.2))), (.dv [] (fieldsD (o.2.2.2.1))), (.dv [] (.str (o.2.2.2.2)))]), (4, 38, [(.dv [] (.str (ByteArray.empty))), (.dv [] (.int .i64 (0))), .nil, .nil]), (7, 38, [(.dv [] (.str ((d).1))), (.dv [] (.int .i64 ((d).2.1))), (.key 90031), (.key 90900)]), (9, 91, [(.dv [] (.str ((opI ((d.2.2.1.getD (findI (hasName o.2.1) d.2.2.1 0).toNat default)) (o)).1.1))), (.key 90501), (.dv [] (.int .i64 ((opI ((d.2.2.1.getD (findI (hasName o.2.1) d.2.2.1 0).toNat default)) (o)).1.2.2)))])], [(90031, some (kcOf false (storesD ((d).2.2.1)))), (90501, some (kcOf false (itemsD ((opI (d.2.2.1.getD (findI (hasName o.2.1) d.2.2.1 0).toNat default) o).1.2.1)))), (90900, some (kcOf false (defsD ((d).2.2.2))))]⟩) ?_ ?_
  ·skip
   refine ok_regionD (oB := [2, 3, 4, 7]) (oK := [90031, 90900]) (by kernel_rfl) rfl rfl ?_
   refine zD 0 ?_
   refine zD 1 ?_
   refine zD 2 ?_
   refine d_take 3 rfl (by kernel_rfl) rfl rfl (pu_indexK (i := (findI (hasName (o.2.1)) (d).2.2.1 0).toNat) hT rfl rfl rfl (ev_tmp rfl) rfl (ev_tmp rfl) (by omega) (by show _ < (((d).2.2.1)).length; omega)) rfl rfl rfl rfl ?_
   refine d_take 4 rfl (by kernel_rfl) rfl rfl (pu_loadEA (ds := [.str ((d.2.2.1.getD (findI (hasName o.2.1) d.2.2.1 0).toNat default).1), itemsD ((d.2.2.1.getD (findI (hasName o.2.1) d.2.2.1 0).toNat default).2.1), .int .i64 ((d.2.2.1.getD (findI (hasName o.2.1) d.2.2.1 0).toNat default).2.2)]) hT rfl rfl (ev_tmp rfl) rfl rfl (by decide) (el_sub (enc := eStore) (sz := 3) (fun _ => rfl) hkn)) rfl rfl rfl rfl ?_
   refine zD 5 ?_
   refine d_vars (A := [(11, 9, 91, _)]) hT ⟨⟨_, _, rfl⟩, rfl, trivial⟩ ?_
   refine a_callK 81500 6 rfl (by kernel_rfl) rfl rfl rfl (vok hT ⟨⟨_, _, rfl⟩, rfl, trivial⟩ (by kernel_rfl) (by kernel_rfl)) (vok hT ⟨⟨_, _, rfl⟩, rfl, trivial⟩ (by kernel_rfl) (by kernel_rfl)) rfl Tryz.call53 (ok_impl_opOnFr (x := (d.2.2.1.getD (findI (hasName o.2.1) d.2.2.1 0).toNat default)) (o := o) hsx hg.2.1 hal) (as_cons (ev_tmp rfl) (ag_agg (ag_cons ac_dv (ag_cons ac_nest (ag_cons ac_dv ag_nil)))) (as_cons (ev_tmp rfl) (ag_agg (ag_cons ac_dv (ag_cons ac_dv (ag_cons ac_dv (ag_cons ac_dv (ag_cons ac_dv (ag_cons ac_dv (ag_cons ac_dv ag_nil)))))))) as_nil)) rfl rfl rfl rfl rfl ?_
   refine a_take 7 rfl (by kernel_rfl) rfl rfl rfl (vok hT ⟨⟨_, _, rfl⟩, rfl, trivial⟩ (by kernel_rfl) (by kernel_rfl)) (vok hT ⟨⟨_, _, rfl⟩, rfl, trivial⟩ (by kernel_rfl) (by kernel_rfl)) (pu_move (.inl rfl) (ev_tmp rfl)) rfl rfl rfl rfl ?_
   refine a_takeX 8 rfl (by kernel_rfl) rfl rfl rfl rfl (vok hT ⟨⟨_, _, rfl⟩, rfl, trivial⟩ (by kernel_rfl) (by kernel_rfl)) (vok hT ⟨⟨_, _, rfl⟩, rfl, trivial⟩ (by kernel_rfl) (by kernel_rfl)) (pu_extractA rfl (ev_tmp rfl) rfl) rfl rfl ?_
   refine a_takeX 9 rfl (by kernel_rfl) rfl rfl rfl rfl (vok hT ⟨⟨_, _, rfl⟩, rfl, trivial⟩ (by kernel_rfl) (by kernel_rfl)) (vok hT ⟨⟨_, _, rfl⟩, rfl, trivial⟩ (by kernel_rfl) (by kernel_rfl)) (pu_extract1 rfl (ev_tmp rfl) rfl) rfl rfl ?_
   refine a_takeX 10 rfl (by kernel_rfl) rfl rfl rfl rfl (vok hT ⟨⟨_, _, rfl⟩, rfl, trivial⟩ (by kernel_rfl) (by kernel_rfl)) (vok hT ⟨⟨_, _, rfl⟩, rfl, trivial⟩ (by kernel_rfl) (by kernel_rfl)) (pu_extract1 rfl (ev_tmp rfl) rfl) rfl rfl ?_
   refine a_exit1 (vok hT ⟨⟨_, _, rfl⟩, rfl, trivial⟩ (by kernel_rfl) (by kernel_rfl)) rfl rfl (by kernel_rfl) ?_
   dsimp only [addT, addB]
   refine d_chain [12, 13, 14] rfl rfl (by kernel_rfl) ?_
   iterate 3 refine z ?_
   refine ops_nil ?_
   exact then_n (weak_sub ⟨rfl, rfl, rfl, rfl, rfl, rfl, rfl, rfl, rfl, rfl, trivial⟩ ⟨rfl, rfl, rfl, rfl, rfl, trivial⟩ ⟨rfl, rfl, rfl, trivial⟩ rfl)
  iterate 5 refine z ?_
  refine yO rfl rfl (pu_indexK (i := (findI (hasName (o.2.1)) (d).2.2.1 0).toNat) hT rfl rfl rfl (ev_tmp rfl) rfl (ev_tmp rfl) (by omega) (by show _ < (((d).2.2.1)).length; omega)) rfl ?_
  refine o_storeE (js := [90501]) (cs := (d.2.2.1.set (findI (hasName o.2.1) d.2.2.1 0).toNat (opI (d.2.2.1.getD (findI (hasName o.2.1) d.2.2.1 0).toNat default) o).1).flatMap eStore) hT rfl rfl rfl rfl (ev_tmp rfl) (ev_tmp rfl) rfl rfl rfl rfl (ow_cons' (ow_dv rfl) (ow_cons' (ow_key rfl) (ow_cons' (ow_dv rfl) ow_nil rfl) rfl) rfl) (by decide) (by decide) rfl (by show _ ≤ List.length (((d).2.2.1).flatMap eStore); exact el_le (enc := eStore) (sz := 3) (fun _ => rfl) hkn) (el_set (enc := eStore) (sz := 3) (fun _ => rfl) hkn (opI (d.2.2.1.getD (findI (hasName o.2.1) d.2.2.1 0).toNat default) o).1) ?_
  simp only [killT, killB, SV.kill, CV.kill, kk, Nat.reduceBEq]
  refine z ?_
  refine ok_seq ?_
  refine ok_seq ?_
  refine ok_weak (weak_eq (k := 90031) (c' := kcOf false (storesD (d.2.2.1.set (findI (hasName o.2.1) d.2.2.1 0).toNat (opI (d.2.2.1.getD (findI (hasName o.2.1) d.2.2.1 0).toNat default) o).1))) rfl (congrArg (fun m => KC.mk false 91 3 m ((d.2.2.1.set (findI (hasName o.2.1) d.2.2.1 0).toNat (opI (d.2.2.1.getD (findI (hasName o.2.1) d.2.2.1 0).toNat default) o).1).flatMap eStore)) (List.length_set).symm) rfl) ?_
  refine ok_region ?_
  iterate 4 refine z ?_
  refine o_callG (gd_bool rfl rfl rfl rfl rfl) rfl rfl Tryz.call51 (ok_impl_IsDatabase (x := putS d (findI (hasName o.2.1) d.2.2.1 0).toNat (opI (d.2.2.1.getD (findI (hasName o.2.1) d.2.2.1 0).toNat default) o).1)) (fun hg => (as_cons (ev_opt rfl hg) (ag_agg (ag_cons ac_dv (ag_cons ac_dv (ag_cons (ac_key' rfl rfl) (ag_cons (ac_key' rfl rfl) ag_nil))))) as_nil)) rfl rfl ?_
  iterate 3 refine z ?_
  refine yQ rfl (fun c2 => ?_) fun c2 => ?_
  ·skip
   refine ok_seq ?_
   refine ok_weak (σ' := ⟨[(2, .box 2 0), (4, .box 4 0), (5, .one (.dv [] (.int .i64 (0)))), (6, .one (.dv [] (.bool (false))))], [(2, 38, [(.dv [] (.str (d.1))), (.dv [] (.int .i64 (d.2.1))), (.dv [] (storesD (d.2.2.1))), (.dv [] (defsD (d.2.2.2)))]), (4, 38, [(.dv [] (.str (ByteArray.empty))), (.dv [] (.int .i64 (0))), .nil, .nil])], []⟩) (weak_sub ⟨rfl, rfl, rfl, rfl, trivial⟩ ⟨rfl, rfl, trivial⟩ trivial rfl) ?_
   refine ok_region ?_
   refine z ?_
   refine zK 90000 Tryz.call49 ?_ (hf := ok_impl_copyDatabase (x := d) (by omega))
   iterate 4 refine z ?_
   rw [runOp_no c1 (opI_opM (d.2.2.1.getD (findI (hasName o.2.1) d.2.2.1 0).toNat default) o) c2]
   refine ok_weak (σ' := ⟨[(4, .box 4 0), (5, .one (.dv [] (.int .i64 (0)))), (6, .one (.dv [] (.bool (false))))], [(4, 38, [(.dv [] (.str ((d).1))), (.dv [] (.int .i64 ((d).2.1))), (.key 90031), (.key 90900)])], [(90031, some (kcOf false (storesD (d.2.2.1)))), (90900, some (kcOf false (defsD (d.2.2.2))))]⟩) (weak_sub ⟨rfl, rfl, rfl, trivial⟩ ⟨rfl, trivial⟩ ⟨rfl, rfl, trivial⟩ rfl) ?_
   iterate 2 refine z ?_
   refine fin3 (res_cell hT rfl rfl rfl rfl) (res_tmp rfl) (res_tmp rfl) rfl rfl rfl ?_
   first | exact ⟨rfl, rfl⟩ | skip
  ·skip
   iterate 9 refine z ?_
   rw [runOp_yes c1 (opI_opM (d.2.2.1.getD (findI (hasName o.2.1) d.2.2.1 0).toNat default) o) c2]
   refine ok_weak (σ' := ⟨[(4, .box 4 0), (5, .one (.dv [] (.int .i64 ((opI ((d.2.2.1.getD (findI (hasName o.2.1) d.2.2.1 0).toNat default)) (o)).2.1)))), (6, .one (.dv [] (.bool (true))))], [(4, 38, [(.dv [] (.str ((d).1))), (.dv [] (.int .i64 ((d).2.1))), (.key 90031), (.key 90900)])], [(90031, some (kcOf false (storesD (d.2.2.1.set (findI (hasName o.2.1) d.2.2.1 0).toNat (opI (d.2.2.1.getD (findI (hasName o.2.1) d.2.2.1 0).toNat default) o).1)))), (90900, some (kcOf false (defsD (d.2.2.2))))]⟩) (weak_sub ⟨rfl, rfl, rfl, trivial⟩ ⟨rfl, trivial⟩ ⟨rfl, rfl, trivial⟩ rfl) ?_
   refine z ?_
   refine fin3 (res_cell hT rfl rfl rfl rfl) (res_tmp rfl) (res_tmp rfl) rfl rfl rfl ?_
   first | exact ⟨rfl, rfl⟩ | skip

theorem ok_impl_RunOp {d : DbT} {o : OpT} (hb : wDatabase d ≤ 1099511627776) : KFn Tryz.prog 12 [.agg [(.dv [] (.str (d.1))), (.dv [] (.int .i64 (d.2.1))), (.dv [] (storesD (d.2.2.1))), (.dv [] (defsD (d.2.2.2)))], .agg [(.dv [] (.int .i64 (o.1))), (.dv [] (.str (o.2.1))), (.dv [] (.int .i64 (o.2.2.1.1))), (.dv [] (.int .i64 (o.2.2.1.2.1))), (.dv [] (.str (o.2.2.1.2.2))), (.dv [] (fieldsD (o.2.2.2.1))), (.dv [] (.str (o.2.2.2.2)))]] (.tup [(true, [.dv [] (.str ((runOp d o).1.1)), .dv [] (.int .i64 ((runOp d o).1.2.1)), .key 90031, .key 90900]), (false, [.dv [] (.int .i64 ((runOp d o).2.1))]), (false, [.dv [] (.bool ((runOp d o).2.2))])]) [(90031, some (kcOf false (storesD ((runOp d o).1.2.2.1)))), (90900, some (kcOf false (defsD ((runOp d o).1.2.2.2))))] := by
 by_cases h : same (d.2.2.1.getD (findI (hasName o.2.1) d.2.2.1 0).toNat default) o = true
 ·exact ok_impl_RunOpId hb h
 ·exact ok_impl_RunOpFr hb (by simpa using h)


theorem wset_le {α : Type} [Inhabited α] {w : α → Nat} {y : α} : ∀ (l : List α) (i : Nat), wSum w (l.set i y) ≤ wSum w l + w y
 | [], i => by simp [wSum]
 | x :: l, 0 => by simp [wSum]; omega
 | x :: l, i + 1 => by have := wset_le (w := w) (y := y) l i; simp [wSum] at this ⊢; omega
theorem runOp_w (d : DbT) (o : OpT) : wDatabase (runOp d o).1 ≤ wDatabase d + 1000000 := by
 unfold runOp
 split
 ·show wDatabase d ≤ _; omega
 ·rename_i h1
  split
  ·show wDatabase d ≤ _; omega
  ·rename_i h2
   have h1 : ((!isDb d || !isOpB o) || decide (fndS d o.2.1 < 0)) = false := by simpa using h1
   have hg := runG h1
   have hlt := fndS_lt d o.2.1
   have h2 : (!(opM (stOf d o) o).2.2 || !isDb (putS d (fndS d o.2.1).toNat (opM (stOf d o) o).1)) = false := by simpa using h2
   have hd : isDb (putS d (fndS d o.2.1).toNat (opM (stOf d o) o).1) = true := by
    simp only [Bool.or_eq_false_iff, Bool.not_eq_false'] at h2
    exact h2.2
   have hs := db_sto (i := fndS d o.2.1) (isDb_st1 hd) hg.2.2 (by show _ < (((d.2.2.1.set _ _).length : Nat) : Int); rw [List.length_set]; exact hlt)
   have e : (putS d (fndS d o.2.1).toNat (opM (stOf d o) o).1).2.2.1.getD (fndS d o.2.1).toNat default = (opM (stOf d o) o).1 := by
    have hl : (fndS d o.2.1).toNat < d.2.2.1.length := by omega
    simp [putS, List.getD, hl]
   rw [e] at hs
   have hw := sto_w hs
   have h3 := wset_le (w := wStore) (y := (opM (stOf d o) o).1) d.2.2.1 (fndS d o.2.1).toNat
   have h4 : wDatabase d = d.1.size + wList wStore d.2.2.1 + wList wIndexDef d.2.2.2 := rfl
   have h5 : wDatabase (putS d (fndS d o.2.1).toNat (opM (stOf d o) o).1) = d.1.size + wList wStore (d.2.2.1.set (fndS d o.2.1).toNat (opM (stOf d o) o).1) + wList wIndexDef d.2.2.2 := rfl
   have h6 : wList wStore d.2.2.1 = d.2.2.1.length + wSum wStore d.2.2.1 := rfl
   have h7 : wList wStore (d.2.2.1.set (fndS d o.2.1).toNat (opM (stOf d o) o).1) = (d.2.2.1.set (fndS d o.2.1).toNat (opM (stOf d o) o).1).length + wSum wStore (d.2.2.1.set (fndS d o.2.1).toNat (opM (stOf d o) o).1) := rfl
   rw [List.length_set] at h7
   show wDatabase (putS d (fndS d o.2.1).toNat (opM (stOf d o) o).1) ≤ _
   omega

end Go.Proofs.YtmgijbhikmjfjaaGreat

namespace Go.Proofs.YtmgijbhikmjfjaaGreat
open Go.RowKit
open Go.Proofs
set_option linter.unusedVariables false
set_option linter.unusedSimpArgs false

def goOps : DbT → List OpT → Option (DbT × List Int)
 | c, [] => some (c, [])
 | c, o :: os => if (runOp c o).2.2 = true then (goOps (runOp c o).1 os).map fun r => (r.1, (runOp c o).2.1 :: r.2) else none
def outOps (d : DbT) : Option (DbT × List Int) → DbT × List Int × Bool
 | none => (d, [], false)
 | some r => (r.1, r.2, true)
def runOps (d : DbT) (l : List OpT) : DbT × List Int × Bool := if (!isDb d || decide ((6 : Int) < (l.length : Int))) = true then (d, [], false) else outOps d (goOps d l)
def onOps (acc : List Int) (x : Option (DbT × List Int)) : Option (DbT × List Int) := x.map fun r => (r.1, acc ++ r.2)
theorem opsG {d : DbT} {l : List OpT} (h : (!isDb d || decide ((6 : Int) < (l.length : Int))) = false) : l.length ≤ 6 := by
 simp only [Bool.or_eq_false_iff, decide_eq_false_iff_not] at h
 omega
theorem dropO_cons {l : List OpT} {n : Nat} (h : n < l.length) : l.drop n = l.getD (n : Int).toNat default :: l.drop (n + 1) := by
 rw [List.drop_eq_getElem_cons h]
 simp [List.getD, List.getElem?_eq_getElem h]
theorem goOps_no {l : List OpT} {n : Nat} {c : DbT} (h : n < l.length) (hk : (!(runOp c (l.getD (n : Int).toNat default)).2.2) = true) : goOps c (l.drop n) = none := by
 rw [dropO_cons h, goOps, if_neg (by simpa using hk)]
theorem goOps_yes {l : List OpT} {n : Nat} {c : DbT} {acc : List Int} (h : n < l.length) (hk : (!(runOp c (l.getD (n : Int).toNat default)).2.2) = false) : onOps acc (goOps c (l.drop n)) = onOps (acc ++ [(runOp c (l.getD (n : Int).toNat default)).2.1]) (goOps (runOp c (l.getD (n : Int).toNat default)).1 (l.drop (n + 1))) := by
 rw [dropO_cons h, goOps, if_pos (by simpa using hk)]
 unfold onOps
 cases goOps (runOp c (l.getD (n : Int).toNat default)).1 (l.drop (n + 1)) <;> simp
theorem runOps_bad {d : DbT} {l : List OpT} (h : (!isDb d || decide ((6 : Int) < (l.length : Int))) = true) : runOps d l = (d, [], false) := by rw [runOps, if_pos h]
theorem runOps_no {d c : DbT} {l : List OpT} {n : Nat} {acc : List Int} (h : (!isDb d || decide ((6 : Int) < (l.length : Int))) = false) (hi : goOps d l = onOps acc (goOps c (l.drop n))) (hn : n < l.length) (hk : (!(runOp c (l.getD (n : Int).toNat default)).2.2) = true) : runOps d l = (d, [], false) := by
 rw [runOps, if_neg (by rw [h]; simp), hi, goOps_no hn hk]; rfl
theorem runOps_yes {d c : DbT} {l : List OpT} {n : Nat} {acc : List Int} (h : (!isDb d || decide ((6 : Int) < (l.length : Int))) = false) (hi : goOps d l = onOps acc (goOps c (l.drop n))) (hn : n = l.length) : runOps d l = (c, acc, true) := by
 rw [runOps, if_neg (by rw [h]; simp), hi, hn, List.drop_length]
 simp [goOps, onOps, outOps]
theorem goOps_w : ∀ (l : List OpT) (c c' : DbT) (ns : List Int), goOps c l = some (c', ns) → wDatabase c' ≤ wDatabase c + 1000000 * l.length
 | [], c, c', ns, h => by simp only [goOps, Option.some.injEq, Prod.mk.injEq] at h; rw [← h.1]; omega
 | o :: os, c, c', ns, h => by
  rw [goOps] at h
  split at h
  ·cases hq : goOps (runOp c o).1 os with
   | none => rw [hq] at h; cases h
   | some r =>
    rw [hq] at h
    simp only [Option.map_some, Option.some.injEq, Prod.mk.injEq] at h
    have := goOps_w os (runOp c o).1 r.1 r.2 hq
    have h2 := runOp_w c o
    rw [← h.1, List.length_cons]; omega
  ·cases h
theorem runOps_w (d : DbT) (l : List OpT) : wDatabase (runOps d l).1 ≤ wDatabase d + 6000000 := by
 unfold runOps
 split
 ·show wDatabase d ≤ _; omega
 ·rename_i h
  have hl := opsG (d := d) (l := l) (by simpa using h)
  cases hq : goOps d l with
  | none => show wDatabase d ≤ _; omega
  | some r =>
   have := goOps_w l d r.1 r.2 hq
   show wDatabase r.1 ≤ _
   omega

theorem ok_impl_RunOps {d : DbT} {l : List OpT} (hb : wDatabase d ≤ 549755813888) : KFn Tryz.prog 21 [.agg [(.dv [] (.str (d.1))), (.dv [] (.int .i64 (d.2.1))), (.dv [] (storesD (d.2.2.1))), (.dv [] (defsD (d.2.2.2)))], .one (.dv [] (opsD (l)))] (.tup [(true, [(.dv [] (.str ((runOps d l).1.1))), (.dv [] (.int .i64 ((runOps d l).1.2.1))), (.key 90031), (.key 90900)]), (false, [(.key 95000)]), (false, [(.dv [] (.bool ((runOps d l).2.2)))])]) [(90031, some (kcOf false (storesD ((runOps d l).1.2.2.1)))), (90900, some (kcOf false (defsD ((runOps d l).1.2.2.2)))), (95000, some (kcOf false (intsD ((runOps d l).2.1))))] := by
 refine ⟨fn_intro Tryz.func21 rfl Tryz.ntmps21 Tryz.results21 rfl (fun C => ?_)⟩
 refine yF 0 0 rfl rfl fun f0_0 => ?_
 refine yF 0 1 rfl rfl fun f0_1 => ?_
 refine yF 0 2 rfl rfl fun f0_2 => ?_
 refine yF 0 3 rfl rfl fun f0_3 => ?_
 refine ok_fact (x := .tmp 1) (ev_tmp rfl) fun f1 => ?_
 iterate 8 refine z ?_
 refine zK 90000 Tryz.call49 ?_ (hf := ok_impl_copyDatabase (x := d) (by omega))
 iterate 4 refine z ?_
 refine o_build0 (k := 95000) hT rfl rfl rfl rfl rfl rfl rfl rfl ?_
 iterate 5 refine z ?_
 refine zC Tryz.call51 ?_ (hf := ok_impl_IsDatabase (x := d) )
 iterate 7 refine z ?_
 refine yQ rfl (fun c1 => ?_) fun c1 => ?_
 ·skip
  iterate 7 refine z ?_
  rw [runOps_bad c1]
  refine ok_weak (σ' := ⟨[(4, .box 4 0), (5, .one (.key 95000)), (6, .one (.dv [] (.bool (false))))], [(4, 38, [(.dv [] (.str ((d).1))), (.dv [] (.int .i64 ((d).2.1))), (.key 90031), (.key 90900)])], [(90031, some (kcOf false (storesD (d.2.2.1)))), (90900, some (kcOf false (defsD (d.2.2.2)))), (95000, some (kcOf false (intsD ([]))))]⟩) (weak_sub ⟨rfl, rfl, rfl, trivial⟩ ⟨rfl, trivial⟩ ⟨rfl, rfl, rfl, trivial⟩ rfl) ?_
  iterate 2 refine z ?_
  refine fin3 (res_cell hT rfl rfl rfl rfl) (res_tmp rfl) (res_tmp rfl) rfl rfl rfl ?_
  first | exact ⟨rfl, rfl⟩ | skip
 ·skip
  have hl6 := opsG c1
  iterate 9 refine z ?_
  refine ok_loop (ι := Nat × DbT × List Int) (fun zz => ⟨[(2, .box 2 0), (4, .box 4 0), (7, .box 7 0), (8, .one (.key 95000)), (27, .one (.dv [] (opsD (l)))), (28, .one (.dv [] (.int .i64 ((((l)).length : Int))))), (29, .one (.dv [] (.int .i64 ((zz.1 : Int)))))], [(2, 38, [(.dv [] (.str (d.1))), (.dv [] (.int .i64 (d.2.1))), (.dv [] (storesD (d.2.2.1))), (.dv [] (defsD (d.2.2.2)))]), (4, 38, [(.dv [] (.str (ByteArray.empty))), (.dv [] (.int .i64 (0))), .nil, .nil]), (7, 38, [(.dv [] (.str (zz.2.1.1))), (.dv [] (.int .i64 (zz.2.1.2.1))), (.key 90031), (.key 90900)])], [(90031, some (kcOf false (.sl 91 3 (zz.2.1.2.2.1.length) (zz.2.1.2.2.1.flatMap eStore)))), (90900, some (kcOf false (.sl 127 2 (zz.2.1.2.2.2.length) (zz.2.1.2.2.2.flatMap eDef)))), (95000, some (kcOf false (.sl 3 1 (zz.2.2.length) (zz.2.2.flatMap eInt))))]⟩) (fun zz => zz.1 ≤ l.length ∧ goOps d l = onOps zz.2.2 (goOps zz.2.1 (l.drop zz.1)) ∧ wDatabase zz.2.1 ≤ wDatabase d + 1000000 * zz.1 ∧ zz.2.2.length = zz.1) (fun zz => l.length - zz.1) ((0, d, [])) ?_ (weak_sub ⟨rfl, rfl, rfl, rfl, rfl, rfl, rfl, trivial⟩ ⟨rfl, rfl, rfl, trivial⟩ ⟨rfl, rfl, rfl, trivial⟩ rfl) (fun zz hx => ?_)
  ·exact ⟨Nat.zero_le _, by simp [onOps], by dsimp only; omega, rfl⟩
  obtain ⟨n, c, acc⟩ := zz
  replace hx : n ≤ l.length ∧ goOps d l = onOps acc (goOps c (l.drop n)) ∧ wDatabase c ≤ wDatabase d + 1000000 * n ∧ acc.length = n := hx
  obtain ⟨hn, hi, hw, hal⟩ := hx
  show Ok _ _ _ _ _ (⟨[(2, .box 2 0), (4, .box 4 0), (7, .box 7 0), (8, .one (.key 95000)), (27, .one (.dv [] (opsD (l)))), (28, .one (.dv [] (.int .i64 ((((l)).length : Int))))), (29, .one (.dv [] (.int .i64 ((n : Int)))))], [(2, 38, [(.dv [] (.str (d.1))), (.dv [] (.int .i64 (d.2.1))), (.dv [] (storesD (d.2.2.1))), (.dv [] (defsD (d.2.2.2)))]), (4, 38, [(.dv [] (.str (ByteArray.empty))), (.dv [] (.int .i64 (0))), .nil, .nil]), (7, 38, [(.dv [] (.str (c.1))), (.dv [] (.int .i64 (c.2.1))), (.key 90031), (.key 90900)])], [(90031, some (kcOf false (.sl 91 3 (c.2.2.1.length) (c.2.2.1.flatMap eStore)))), (90900, some (kcOf false (.sl 127 2 (c.2.2.2.length) (c.2.2.2.flatMap eDef)))), (95000, some (kcOf false (.sl 3 1 (acc.length) (acc.flatMap eInt))))]⟩ : St)
  iterate 3 refine z ?_
  refine ok_seq ?_
  refine yQ rfl (fun c2 => ?_) fun c2 => ?_
  ·skip
   have d2 := of_decide_eq_true c2
   have hn2 : n < l.length := by omega
   have hrw := runOp_w c (l.getD (n : Int).toNat default)
   have hw2 : wDatabase (runOp c (l.getD (n : Int).toNat default)).1 ≤ wDatabase d + 1000000 * (n + 1) := Nat.le_trans hrw (by rw [Nat.mul_succ, ← Nat.add_assoc]; exact Nat.add_le_add_right hw _)
   iterate 13 refine z ?_
   refine o_callK 1000 rfl rfl rfl Tryz.call12 (ok_impl_RunOp (d := c) (o := (l.getD (n : Int).toNat default)) (by omega)) (as_cons (ev_tmp rfl) (ag_agg (ag_cons ac_dv (ag_cons ac_dv (ag_cons (ac_key' rfl rfl) (ag_cons (ac_key' rfl rfl) ag_nil))))) (as_cons (ev_tmp rfl) (ag_agg (ag_cons ac_dv (ag_cons ac_dv (ag_cons ac_dv (ag_cons ac_dv (ag_cons ac_dv (ag_cons ac_dv (ag_cons ac_dv ag_nil)))))))) as_nil)) rfl rfl rfl ?_
   iterate 14 refine z ?_
   refine yQ rfl (fun c3 => ?_) fun c3 => ?_
   ·skip
    refine ok_seq ?_
    refine ok_weak (σ' := ⟨[(2, .box 2 0), (4, .box 4 0)], [(2, 38, [(.dv [] (.str (d.1))), (.dv [] (.int .i64 (d.2.1))), (.dv [] (storesD (d.2.2.1))), (.dv [] (defsD (d.2.2.2)))]), (4, 38, [(.dv [] (.str (ByteArray.empty))), (.dv [] (.int .i64 (0))), .nil, .nil])], []⟩) (weak_sub ⟨rfl, rfl, trivial⟩ ⟨rfl, rfl, trivial⟩ trivial rfl) ?_
    refine ok_region ?_
    refine z ?_
    refine zK 90000 Tryz.call49 ?_ (hf := ok_impl_copyDatabase (x := d) (by omega))
    refine o_build0 (k := 95000) hT rfl rfl rfl rfl rfl rfl rfl rfl ?_
    iterate 4 refine z ?_
    rw [runOps_no c1 hi hn2 c3]
    refine ok_weak (σ' := ⟨[(4, .box 4 0), (5, .one (.key 95000)), (6, .one (.dv [] (.bool (false))))], [(4, 38, [(.dv [] (.str ((d).1))), (.dv [] (.int .i64 ((d).2.1))), (.key 90031), (.key 90900)])], [(90031, some (kcOf false (storesD (d.2.2.1)))), (90900, some (kcOf false (defsD (d.2.2.2)))), (95000, some (kcOf false (intsD ([]))))]⟩) (weak_sub ⟨rfl, rfl, rfl, trivial⟩ ⟨rfl, trivial⟩ ⟨rfl, rfl, rfl, trivial⟩ rfl) ?_
    iterate 7 refine z ?_
    refine fin3 (res_cell hT rfl rfl rfl rfl) (res_tmp rfl) (res_tmp rfl) rfl rfl rfl ?_
    first | exact ⟨rfl, rfl⟩ | skip
   ·skip
    iterate 6 refine z ?_
    refine ok_weak (weak_swapB (b := 7) (i := 2) (k := 91031) (k' := 90031) rfl rfl rfl rfl (by simp) rfl rfl) ?_
    simp only [killT, killB, SV.kill, CV.kill, kk, Nat.reduceBEq]
    refine ok_weak (weak_swapB (b := 7) (i := 3) (k := 91900) (k' := 90900) rfl rfl rfl rfl (by simp) rfl rfl) ?_
    simp only [killT, killB, SV.kill, CV.kill, kk, Nat.reduceBEq]
    refine ok_region ?_
    iterate 2 refine z ?_
    refine o_build1 (k := 48) (js := []) hT rfl rfl rfl rfl rfl rfl rfl rfl rfl (ev_tmp rfl) rfl rfl (ow_cons' (ow_dv rfl) ow_nil rfl) (by decide) (by decide) rfl rfl ?_
    simp only [killT, killB, SV.kill, CV.kill, kk, Nat.reduceBEq]
    refine o_appK (k := 95000) (j := 48) (cs := (acc ++ [(runOp c (l.getD (n : Int).toNat default)).2.1]).flatMap eInt) (n := (acc ++ [(runOp c (l.getD (n : Int).toNat default)).2.1]).length) hT rfl rfl rfl rfl rfl rfl rfl (ev_tmp rfl) rfl rfl rfl (ev_tmp rfl) rfl rfl (by decide) (by dsimp only [kcOf]; omega) (by dsimp only [kcOf]; omega) (by simp) (by rw [List.flatMap_append]; rfl) ?_
    simp only [killT, killB, SV.kill, CV.kill, kk, Nat.reduceBEq]
    refine z ?_
    refine ops_nil ?_
    iterate 2 refine z ?_
    refine ok_region ?_
    iterate 3 refine z ?_
    refine ⟨(n + 1, (runOp c (l.getD (n : Int).toNat default)).1, acc ++ [(runOp c (l.getD (n : Int).toNat default)).2.1]), ?_, ?_, weak_sub ⟨rfl, rfl, rfl, rfl, rfl, rfl, rfl, trivial⟩ ⟨rfl, rfl, rfl, trivial⟩ ⟨rfl, rfl, rfl, trivial⟩ rfl⟩
    ·exact ⟨hn2, by show goOps d l = _; rw [hi]; exact goOps_yes hn2 c3, hw2, by rw [List.length_append, hal]; rfl⟩
    ·dsimp only; omega
  ·skip
   have d2 := of_decide_eq_false c2
   iterate 12 refine z ?_
   rw [runOps_yes c1 hi (by omega)]
   refine ok_weak (σ' := ⟨[(4, .box 4 0), (5, .one (.key 95000)), (6, .one (.dv [] (.bool (true))))], [(4, 38, [(.dv [] (.str (c.1))), (.dv [] (.int .i64 (c.2.1))), (.key 90031), (.key 90900)])], [(90031, some (kcOf false (storesD (c.2.2.1)))), (90900, some (kcOf false (defsD (c.2.2.2)))), (95000, some (kcOf false (intsD (acc))))]⟩) (weak_sub ⟨rfl, rfl, rfl, trivial⟩ ⟨rfl, trivial⟩ ⟨rfl, rfl, rfl, trivial⟩ rfl) ?_
   refine z ?_
   refine fin3 (res_cell hT rfl rfl rfl rfl) (res_tmp rfl) (res_tmp rfl) rfl rfl rfl ?_
   first | exact ⟨rfl, rfl⟩ | skip
theorem ok_spec_RunOps {d : DbT} {l : List OpT} (hb : wDatabase d ≤ 549755813888) : KFn Tryz.prog 19 [.agg [(.dv [] (.str (d.1))), (.dv [] (.int .i64 (d.2.1))), (.dv [] (storesD (d.2.2.1))), (.dv [] (defsD (d.2.2.2)))], .one (.dv [] (opsD (l)))] (.tup [(true, [(.dv [] (.str ((runOps d l).1.1))), (.dv [] (.int .i64 ((runOps d l).1.2.1))), (.key 90031), (.key 90900)]), (false, [(.key 95000)]), (false, [(.dv [] (.bool ((runOps d l).2.2)))])]) [(90031, some (kcOf false (storesD ((runOps d l).1.2.2.1)))), (90900, some (kcOf false (defsD ((runOps d l).1.2.2.2)))), (95000, some (kcOf false (intsD ((runOps d l).2.1))))] := by
 refine ⟨fn_intro Tryz.func19 rfl Tryz.ntmps19 Tryz.results19 rfl (fun C => ?_)⟩
 refine yF 0 0 rfl rfl fun f0_0 => ?_
 refine yF 0 1 rfl rfl fun f0_1 => ?_
 refine yF 0 2 rfl rfl fun f0_2 => ?_
 refine yF 0 3 rfl rfl fun f0_3 => ?_
 refine ok_fact (x := .tmp 1) (ev_tmp rfl) fun f1 => ?_
 iterate 8 refine z ?_
 refine zK 90000 Tryz.call40 ?_ (hf := ok_spec_l8Copy (x := d) (by omega))
 iterate 4 refine z ?_
 refine o_build0 (k := 95000) hT rfl rfl rfl rfl rfl rfl rfl rfl ?_
 iterate 5 refine z ?_
 refine zC Tryz.call42 ?_ (hf := ok_spec_IsDatabase (x := d) )
 iterate 7 refine z ?_
 refine yQ rfl (fun c1 => ?_) fun c1 => ?_
 ·skip
  iterate 7 refine z ?_
  rw [runOps_bad c1]
  refine ok_weak (σ' := ⟨[(4, .box 4 0), (5, .one (.key 95000)), (6, .one (.dv [] (.bool (false))))], [(4, 38, [(.dv [] (.str ((d).1))), (.dv [] (.int .i64 ((d).2.1))), (.key 90031), (.key 90900)])], [(90031, some (kcOf false (storesD (d.2.2.1)))), (90900, some (kcOf false (defsD (d.2.2.2)))), (95000, some (kcOf false (intsD ([]))))]⟩) (weak_sub ⟨rfl, rfl, rfl, trivial⟩ ⟨rfl, trivial⟩ ⟨rfl, rfl, rfl, trivial⟩ rfl) ?_
  iterate 2 refine z ?_
  refine fin3 (res_cell hT rfl rfl rfl rfl) (res_tmp rfl) (res_tmp rfl) rfl rfl rfl ?_
  first | exact ⟨rfl, rfl⟩ | skip
 ·skip
  have hl6 := opsG c1
  iterate 7 refine z ?_
  refine ok_loop (ι := Nat × DbT × List Int) (fun zz => ⟨[(1, .one (.dv [] (opsD (l)))), (2, .box 2 0), (4, .box 4 0), (7, .box 7 0), (8, .one (.key 95000)), (9, .one (.dv [] (.int .i64 ((zz.1 : Int)))))], [(2, 38, [(.dv [] (.str (d.1))), (.dv [] (.int .i64 (d.2.1))), (.dv [] (storesD (d.2.2.1))), (.dv [] (defsD (d.2.2.2)))]), (4, 38, [(.dv [] (.str (ByteArray.empty))), (.dv [] (.int .i64 (0))), .nil, .nil]), (7, 38, [(.dv [] (.str (zz.2.1.1))), (.dv [] (.int .i64 (zz.2.1.2.1))), (.key 90031), (.key 90900)])], [(90031, some (kcOf false (.sl 91 3 (zz.2.1.2.2.1.length) (zz.2.1.2.2.1.flatMap eStore)))), (90900, some (kcOf false (.sl 127 2 (zz.2.1.2.2.2.length) (zz.2.1.2.2.2.flatMap eDef)))), (95000, some (kcOf false (.sl 3 1 (zz.2.2.length) (zz.2.2.flatMap eInt))))]⟩) (fun zz => zz.1 ≤ l.length ∧ goOps d l = onOps zz.2.2 (goOps zz.2.1 (l.drop zz.1)) ∧ wDatabase zz.2.1 ≤ wDatabase d + 1000000 * zz.1 ∧ zz.2.2.length = zz.1) (fun zz => l.length - zz.1) ((0, d, [])) ?_ (weak_sub ⟨rfl, rfl, rfl, rfl, rfl, rfl, trivial⟩ ⟨rfl, rfl, rfl, trivial⟩ ⟨rfl, rfl, rfl, trivial⟩ rfl) (fun zz hx => ?_)
  ·exact ⟨Nat.zero_le _, by simp [onOps], by dsimp only; omega, rfl⟩
  obtain ⟨n, c, acc⟩ := zz
  replace hx : n ≤ l.length ∧ goOps d l = onOps acc (goOps c (l.drop n)) ∧ wDatabase c ≤ wDatabase d + 1000000 * n ∧ acc.length = n := hx
  obtain ⟨hn, hi, hw, hal⟩ := hx
  show Ok _ _ _ _ _ (⟨[(1, .one (.dv [] (opsD (l)))), (2, .box 2 0), (4, .box 4 0), (7, .box 7 0), (8, .one (.key 95000)), (9, .one (.dv [] (.int .i64 ((n : Int)))))], [(2, 38, [(.dv [] (.str (d.1))), (.dv [] (.int .i64 (d.2.1))), (.dv [] (storesD (d.2.2.1))), (.dv [] (defsD (d.2.2.2)))]), (4, 38, [(.dv [] (.str (ByteArray.empty))), (.dv [] (.int .i64 (0))), .nil, .nil]), (7, 38, [(.dv [] (.str (c.1))), (.dv [] (.int .i64 (c.2.1))), (.key 90031), (.key 90900)])], [(90031, some (kcOf false (.sl 91 3 (c.2.2.1.length) (c.2.2.1.flatMap eStore)))), (90900, some (kcOf false (.sl 127 2 (c.2.2.2.length) (c.2.2.2.flatMap eDef)))), (95000, some (kcOf false (.sl 3 1 (acc.length) (acc.flatMap eInt))))]⟩ : St)
  iterate 7 refine z ?_
  refine yQ rfl (fun c2 => ?_) fun c2 => ?_
  ·skip
   have d2 := of_decide_eq_true c2
   have hn2 : n < l.length := by omega
   have hrw := runOp_w c (l.getD (n : Int).toNat default)
   have hw2 : wDatabase (runOp c (l.getD (n : Int).toNat default)).1 ≤ wDatabase d + 1000000 * (n + 1) := Nat.le_trans hrw (by rw [Nat.mul_succ, ← Nat.add_assoc]; exact Nat.add_le_add_right hw _)
   iterate 4 refine z ?_
   refine ok_cutS (σ' := ⟨[(1, .one (.dv [] (opsD (l)))), (2, .box 2 0), (4, .box 4 0), (7, .box 7 0), (8, .one (.key 95000)), (9, .one (.dv [] (.int .i64 ((n : Int))))), (10, .box 10 0), (11, .one (.dv [] (.int .i64 ((runOp (c) ((l.getD (n : Int).toNat default))).2.1)))), (12, .one (.dv [] (.bool ((runOp (c) ((l.getD (n : Int).toNat default))).2.2))))], [(2, 38, [(.dv [] (.str (d.1))), (.dv [] (.int .i64 (d.2.1))), (.dv [] (storesD (d.2.2.1))), (.dv [] (defsD (d.2.2.2)))]), (4, 38, [(.dv [] (.str (ByteArray.empty))), (.dv [] (.int .i64 (0))), .nil, .nil]), (7, 38, [(.dv [] (.str (c.1))), (.dv [] (.int .i64 (c.2.1))), (.key 90031), (.key 90900)]), (10, 38, [(.dv [] (.str ((runOp (c) ((l.getD (n : Int).toNat default))).1.1))), (.dv [] (.int .i64 ((runOp (c) ((l.getD (n : Int).toNat default))).1.2.1))), (.key 91031), (.key 91900)])], [(90031, some (kcOf false (.sl 91 3 (c.2.2.1.length) (c.2.2.1.flatMap eStore)))), (90900, some (kcOf false (.sl 127 2 (c.2.2.2.length) (c.2.2.2.flatMap eDef)))), (91031, some (kcOf false (storesD ((runOp (c) ((l.getD (n : Int).toNat default))).1.2.2.1)))), (91900, some (kcOf false (defsD ((runOp (c) ((l.getD (n : Int).toNat default))).1.2.2.2)))), (95000, some (kcOf false (.sl 3 1 (acc.length) (acc.flatMap eInt))))]⟩) ?_ ?_
   ·skip
    refine ok_regionD (oB := [2, 4, 7]) (oK := [90031, 90900, 95000]) (by kernel_rfl) rfl rfl ?_
    refine zD 0 ?_
    refine zD 1 ?_
    refine zD 2 ?_
    refine zD 3 ?_
    refine zD 4 ?_
    refine d_vars (A := [(10, 10, 38, _)]) hT ⟨⟨_, _, rfl⟩, rfl, trivial⟩ ?_
    refine a_callK 1000 5 rfl (by kernel_rfl) rfl rfl rfl (vok hT ⟨⟨_, _, rfl⟩, rfl, trivial⟩ (by kernel_rfl) (by kernel_rfl)) (vok hT ⟨⟨_, _, rfl⟩, rfl, trivial⟩ (by kernel_rfl) (by kernel_rfl)) rfl Tryz.call9 (ok_spec_RunOp (d := c) (o := (l.getD (n : Int).toNat default)) (by omega)) (as_cons (ev_tmp rfl) (ag_agg (ag_cons ac_dv (ag_cons ac_dv (ag_cons (ac_key' rfl rfl) (ag_cons (ac_key' rfl rfl) ag_nil))))) (as_cons (ev_tmp rfl) (ag_agg (ag_cons ac_dv (ag_cons ac_dv (ag_cons ac_dv (ag_cons ac_dv (ag_cons ac_dv (ag_cons ac_dv (ag_cons ac_dv ag_nil)))))))) as_nil)) rfl rfl rfl rfl rfl ?_
    refine a_take 6 rfl (by kernel_rfl) rfl rfl rfl (vok hT ⟨⟨_, _, rfl⟩, rfl, trivial⟩ (by kernel_rfl) (by kernel_rfl)) (vok hT ⟨⟨_, _, rfl⟩, rfl, trivial⟩ (by kernel_rfl) (by kernel_rfl)) (pu_move (.inl rfl) (ev_tmp rfl)) rfl rfl rfl rfl ?_
    refine a_takeX 7 rfl (by kernel_rfl) rfl rfl rfl rfl (vok hT ⟨⟨_, _, rfl⟩, rfl, trivial⟩ (by kernel_rfl) (by kernel_rfl)) (vok hT ⟨⟨_, _, rfl⟩, rfl, trivial⟩ (by kernel_rfl) (by kernel_rfl)) (pu_extractA rfl (ev_tmp rfl) rfl) rfl rfl ?_
    refine a_takeX 8 rfl (by kernel_rfl) rfl rfl rfl rfl (vok hT ⟨⟨_, _, rfl⟩, rfl, trivial⟩ (by kernel_rfl) (by kernel_rfl)) (vok hT ⟨⟨_, _, rfl⟩, rfl, trivial⟩ (by kernel_rfl) (by kernel_rfl)) (pu_extract1 rfl (ev_tmp rfl) rfl) rfl rfl ?_
    refine a_takeX 9 rfl (by kernel_rfl) rfl rfl rfl rfl (vok hT ⟨⟨_, _, rfl⟩, rfl, trivial⟩ (by kernel_rfl) (by kernel_rfl)) (vok hT ⟨⟨_, _, rfl⟩, rfl, trivial⟩ (by kernel_rfl) (by kernel_rfl)) (pu_extract1 rfl (ev_tmp rfl) rfl) rfl rfl ?_
    refine a_exit1 (vok hT ⟨⟨_, _, rfl⟩, rfl, trivial⟩ (by kernel_rfl) (by kernel_rfl)) rfl rfl (by kernel_rfl) ?_
    dsimp only [addT, addB]
    refine d_chain [11, 12, 13] rfl rfl (by kernel_rfl) ?_
    iterate 3 refine z ?_
    refine ops_nil ?_
    exact then_n (weak_sub ⟨rfl, rfl, rfl, rfl, rfl, rfl, rfl, rfl, rfl, trivial⟩ ⟨rfl, rfl, rfl, rfl, trivial⟩ ⟨rfl, rfl, rfl, rfl, rfl, trivial⟩ rfl)
   iterate 5 refine z ?_
   refine yQ rfl (fun c3 => ?_) fun c3 => ?_
   ·skip
    refine ok_seq ?_
    refine ok_weak (σ' := ⟨[(2, .box 2 0), (4, .box 4 0)], [(2, 38, [(.dv [] (.str (d.1))), (.dv [] (.int .i64 (d.2.1))), (.dv [] (storesD (d.2.2.1))), (.dv [] (defsD (d.2.2.2)))]), (4, 38, [(.dv [] (.str (ByteArray.empty))), (.dv [] (.int .i64 (0))), .nil, .nil])], []⟩) (weak_sub ⟨rfl, rfl, trivial⟩ ⟨rfl, rfl, trivial⟩ trivial rfl) ?_
    refine ok_region ?_
    refine z ?_
    refine zK 90000 Tryz.call40 ?_ (hf := ok_spec_l8Copy (x := d) (by omega))
    refine o_build0 (k := 95000) hT rfl rfl rfl rfl rfl rfl rfl rfl ?_
    iterate 4 refine z ?_
    rw [runOps_no c1 hi hn2 c3]
    refine ok_weak (σ' := ⟨[(4, .box 4 0), (5, .one (.key 95000)), (6, .one (.dv [] (.bool (false))))], [(4, 38, [(.dv [] (.str ((d).1))), (.dv [] (.int .i64 ((d).2.1))), (.key 90031), (.key 90900)])], [(90031, some (kcOf false (storesD (d.2.2.1)))), (90900, some (kcOf false (defsD (d.2.2.2)))), (95000, some (kcOf false (intsD ([]))))]⟩) (weak_sub ⟨rfl, rfl, rfl, trivial⟩ ⟨rfl, trivial⟩ ⟨rfl, rfl, rfl, trivial⟩ rfl) ?_
    iterate 7 refine z ?_
    refine fin3 (res_cell hT rfl rfl rfl rfl) (res_tmp rfl) (res_tmp rfl) rfl rfl rfl ?_
    first | exact ⟨rfl, rfl⟩ | skip
   ·skip
    iterate 6 refine z ?_
    refine ok_weak (weak_swapB (b := 7) (i := 2) (k := 91031) (k' := 90031) rfl rfl rfl rfl (by simp) rfl rfl) ?_
    simp only [killT, killB, SV.kill, CV.kill, kk, Nat.reduceBEq]
    refine ok_weak (weak_swapB (b := 7) (i := 3) (k := 91900) (k' := 90900) rfl rfl rfl rfl (by simp) rfl rfl) ?_
    simp only [killT, killB, SV.kill, CV.kill, kk, Nat.reduceBEq]
    refine ok_region ?_
    iterate 2 refine z ?_
    refine o_build1 (k := 50) (js := []) hT rfl rfl rfl rfl rfl rfl rfl rfl rfl (ev_tmp rfl) rfl rfl (ow_cons' (ow_dv rfl) ow_nil rfl) (by decide) (by decide) rfl rfl ?_
    simp only [killT, killB, SV.kill, CV.kill, kk, Nat.reduceBEq]
    refine o_appK (k := 95000) (j := 50) (cs := (acc ++ [(runOp c (l.getD (n : Int).toNat default)).2.1]).flatMap eInt) (n := (acc ++ [(runOp c (l.getD (n : Int).toNat default)).2.1]).length) hT rfl rfl rfl rfl rfl rfl rfl (ev_tmp rfl) rfl rfl rfl (ev_tmp rfl) rfl rfl (by decide) (by dsimp only [kcOf]; omega) (by dsimp only [kcOf]; omega) (by simp) (by rw [List.flatMap_append]; rfl) ?_
    simp only [killT, killB, SV.kill, CV.kill, kk, Nat.reduceBEq]
    refine z ?_
    refine ops_nil ?_
    iterate 2 refine z ?_
    refine ok_region ?_
    iterate 4 refine z ?_
    refine ⟨(n + 1, (runOp c (l.getD (n : Int).toNat default)).1, acc ++ [(runOp c (l.getD (n : Int).toNat default)).2.1]), ?_, ?_, weak_sub ⟨rfl, rfl, rfl, rfl, rfl, rfl, trivial⟩ ⟨rfl, rfl, rfl, trivial⟩ ⟨rfl, rfl, rfl, trivial⟩ rfl⟩
    ·exact ⟨hn2, by show goOps d l = _; rw [hi]; exact goOps_yes hn2 c3, hw2, by rw [List.length_append, hal]; rfl⟩
    ·dsimp only; omega
  ·skip
   have d2 := of_decide_eq_false c2
   iterate 12 refine z ?_
   rw [runOps_yes c1 hi (by omega)]
   refine ok_weak (σ' := ⟨[(4, .box 4 0), (5, .one (.key 95000)), (6, .one (.dv [] (.bool (true))))], [(4, 38, [(.dv [] (.str (c.1))), (.dv [] (.int .i64 (c.2.1))), (.key 90031), (.key 90900)])], [(90031, some (kcOf false (storesD (c.2.2.1)))), (90900, some (kcOf false (defsD (c.2.2.2)))), (95000, some (kcOf false (intsD (acc))))]⟩) (weak_sub ⟨rfl, rfl, rfl, trivial⟩ ⟨rfl, trivial⟩ ⟨rfl, rfl, rfl, trivial⟩ rfl) ?_
   refine z ?_
   refine fin3 (res_cell hT rfl rfl rfl rfl) (res_tmp rfl) (res_tmp rfl) rfl rfl rfl ?_
   first | exact ⟨rfl, rfl⟩ | skip
theorem ok_laws_markIntS {x : List (Int)} {k : Int} (h0 : 0 ≤ k) (h1 : k + (wSum cInt x : Int) ≤ 4611686018427387904) : WFn Tryz.prog 25 [.one (.key 0), .one (.dv [] (.int .i64 (k)))] (.one (.dv [] (.int .i64 (k + (wSum cInt x : Int))))) [(0, kcOf true (.sl 3 1 (x.length) (x.flatMap eInt)))] [(0, kcOf true (intsD (mkL mkInt cInt x k)))] := by
 refine ⟨fn_intro Tryz.func25 rfl Tryz.ntmps25 Tryz.results25 rfl (fun C => ?_)⟩
 have hln : x.length ≤ wSum cInt x := wSum_ge (fun _ => by simp only [cInt]; omega) x
 refine ok_fact (x := .tmp 1) (ev_tmp rfl) fun f1 => ?_
 iterate 8 refine z ?_
 refine ok_loop (ι := Nat) (fun zz => ⟨[(0, .one (.key 0)), (1, .one (.dv [] (.int .i64 (k + (wSum cInt (x.take zz) : Int))))), (4, .one (.dv [] (.int .i64 (0)))), (5, .one (.dv [] (.int .i64 ((zz : Int)))))], [], [(0, some ⟨true, 3, 1, x.length, (mkL mkInt cInt (x.take zz) k).flatMap eInt ++ (x.drop zz).flatMap eInt⟩)]⟩) (fun zz => zz ≤ x.length) (fun zz => x.length - zz) (0) ?_ (weak_sub ⟨rfl, (eqSlotI (by simp [wSum])), rfl, rfl, trivial⟩ trivial ⟨rfl, trivial⟩ rfl) (fun zz hx => ?_)
 ·exact Nat.zero_le _
 obtain ⟨j, rfl⟩ : ∃ v, v = zz := ⟨_, rfl⟩
 replace hx : j ≤ x.length := hx
 have hw := fun h => wSum_succ cInt x j h
 show Ok _ _ _ _ _ (⟨[(0, .one (.key 0)), (1, .one (.dv [] (.int .i64 (k + (wSum cInt (x.take j) : Int))))), (4, .one (.dv [] (.int .i64 (0)))), (5, .one (.dv [] (.int .i64 ((j : Int)))))], [], [(0, some ⟨true, 3, 1, x.length, (mkL mkInt cInt (x.take j) k).flatMap eInt ++ (x.drop j).flatMap eInt⟩)]⟩ : St)
 iterate 4 refine z ?_
 refine yO rfl rfl (pu_lenKn (n := (x.length)) hT rfl rfl (ev_tmp rfl) rfl rfl) rfl ?_
 iterate 2 refine z ?_
 refine yQ rfl (fun c1 => ?_) fun c1 => ?_
 ·skip
  have d1 := of_decide_eq_true c1
  have hj : j < x.length := by omega
  obtain ⟨hw1, hw2⟩ := hw hj
  have hc : cInt (x.getD (j : Int).toNat default) = 1 := rfl
  refine ok_kcs (k := 0) (cs' := mid ((mkL mkInt cInt (x.take j) k).flatMap eInt) [.int .i64 ((x.getD (j : Int).toNat default))] ((x.drop (j + 1)).flatMap eInt)) rfl (mk_open hj) ?_
  iterate 8 refine z ?_
  refine yO rfl rfl (pu_indexK (i := j) hT rfl rfl rfl (ev_tmp rfl) rfl (ev_tmp rfl) rfl (by show _ < (x.length); omega)) rfl ?_
  refine o_storeE (js := []) (cs := mid ((mkL mkInt cInt (x.take j) k).flatMap eInt) [.int .i64 (k + (wSum cInt (x.take j) : Int))] ((x.drop (j + 1)).flatMap eInt)) hT rfl rfl rfl rfl (ev_tmp rfl) (ev_tmp rfl) rfl rfl rfl rfl (ow_cons' (ow_dv rfl) ow_nil rfl) (by decide) (by decide) rfl (le_mid (off := j * 1) (n := 1) (j := 0) (mk_pre (sz := 1) (fun _ => rfl) (Nat.le_of_lt hj)) (by omega) (Nat.le_of_ble_eq_true rfl)) (setR_mid (off := j * 1) (j := 0) (mk_pre (sz := 1) (fun _ => rfl) (Nat.le_of_lt hj)) (by omega) rfl (Nat.le_of_ble_eq_true rfl)) ?_
  simp only [killT, killB, SV.kill, CV.kill, kk, Nat.reduceBEq]
  refine z ?_
  refine ok_region ?_
  iterate 3 refine z ?_
  refine ops_nil ?_
  iterate 2 refine z ?_
  refine ok_region ?_
  iterate 4 refine z ?_
  refine ⟨j + 1, ?_, ?_, weak_sub ⟨rfl, (eqSlotI (by omega)), rfl, rfl, trivial⟩ trivial ⟨(congrArg (fun cs => some (some (KC.mk true 3 1 x.length cs))) (mk_close (by omega) (by rfl))), trivial⟩ rfl⟩
  ·omega
  ·omega
 ·skip
  have d1 := of_decide_eq_false c1
  iterate 9 refine z ?_
  refine ok_weak (σ' := ⟨[(4, .one (.dv [] (.int .i64 (k + (wSum cInt (x.take j) : Int)))))], [], [(0, some (kcOf true (intsD (mkL mkInt cInt x k))))]⟩) (weak_sub ⟨rfl, trivial⟩ trivial ⟨(mk_fin (by omega)), trivial⟩ rfl) ?_
  refine z ?_
  refine fin1 (res_tmp rfl) ⟨eqI ?_, w1_ok rfl⟩
  have hq := wSum_all cInt x j (by omega); omega
theorem ok_laws_heldIntS {x y : List (Int)} {k : Int} (hy : y = mkL mkInt cInt x k) (h0 : 0 ≤ k) (h1 : k + (wSum cInt x : Int) ≤ 4611686018427387904) : PFn Tryz.prog 26 [.one (.dv [] (intsD (y))), .one (.dv [] (.int .i64 (k)))] (.one (.dv [] (.int .i64 (k + (wSum cInt x : Int))))) := by
 refine ⟨fn_intro Tryz.func26 rfl Tryz.ntmps26 Tryz.results26 rfl (fun C => ?_)⟩
 refine ok_fact (x := .tmp 0) (ev_tmp rfl) fun f0 => ?_
 refine ok_fact (x := .tmp 1) (ev_tmp rfl) fun f1 => ?_
 iterate 8 refine z ?_
 refine ok_loop (ι := Nat) (fun zz => ⟨[(0, .one (.dv [] (intsD (y)))), (1, .one (.dv [] (.int .i64 (k + (wSum cInt (x.take zz) : Int))))), (5, .one (.dv [] (.int .i64 ((zz : Int)))))], [], []⟩) (fun zz => zz ≤ x.length) (fun zz => x.length - zz) (0) ?_ (weak_sub ⟨rfl, (eqSlotI (by simp [wSum])), rfl, trivial⟩ trivial trivial rfl) (fun zz hx => ?_)
 ·exact Nat.zero_le _
 obtain ⟨j, rfl⟩ : ∃ v, v = zz := ⟨_, rfl⟩
 replace hx : j ≤ x.length := hx
 have hw := fun h => wSum_succ cInt x j h
 have hyl : y.length = x.length := by rw [hy, mkL_len]
 show Ok _ _ _ _ _ (⟨[(0, .one (.dv [] (intsD (y)))), (1, .one (.dv [] (.int .i64 (k + (wSum cInt (x.take j) : Int))))), (5, .one (.dv [] (.int .i64 ((j : Int)))))], [], []⟩ : St)
 iterate 7 refine z ?_
 refine yQ rfl (fun c1 => ?_) fun c1 => ?_
 ·skip
  have d1 := of_decide_eq_true c1
  have hj : j < x.length := by omega
  obtain ⟨hw1, hw2⟩ := hw hj
  have hc : cInt (x.getD (j : Int).toNat default) = 1 := rfl
  have he : y.getD (j : Int).toNat default = mkInt (x.getD (j : Int).toNat default) (k + (wSum cInt (x.take j) : Int)) := by rw [hy]; exact mkL_getD hj
  iterate 13 refine z ?_
  refine yQ rfl (fun c2 => ?_) fun c2 => ?_
  ·skip
   have d2 := nd_t c2
   iterate 11 refine z ?_
   exfalso; rw [he] at c2; simp [mkInt, sEq] at c2
  ·skip
   have d2 := nd_f c2
   iterate 2 refine z ?_
   refine ok_region ?_
   iterate 3 refine z ?_
   refine ops_nil ?_
   iterate 2 refine z ?_
   refine ok_region ?_
   iterate 4 refine z ?_
   refine ⟨j + 1, ?_, ?_, weak_sub ⟨rfl, (eqSlotI (by omega)), rfl, trivial⟩ trivial trivial rfl⟩
   ·omega
   ·omega
 ·skip
  have d1 := of_decide_eq_false c1
  iterate 11 refine z ?_
  have hq := wSum_all cInt x j (by omega); omega
theorem ok_laws_eqIntS {x : List Int}  : PFn Tryz.prog 22 [.one (.dv [] (intsD (x))), .one (.dv [] (intsD (x)))] (.one (.dv [] (.bool (true)))) := by
 refine ⟨fn_intro Tryz.func22 rfl Tryz.ntmps22 Tryz.results22 rfl (fun C => ?_)⟩
 refine ok_fact (x := .tmp 0) (ev_tmp rfl) fun f0 => ?_
 refine ok_fact (x := .tmp 1) (ev_tmp rfl) fun f1 => ?_
 iterate 11 refine z ?_
 refine yQ rfl (fun c1 => ?_) fun c1 => ?_
 ·skip
  have d1 := nd_t c1
  iterate 6 refine z ?_
  first | rfl | (exfalso; simp_all)
 ·skip
  have d1 := nd_f c1
  iterate 7 refine z ?_
  refine ok_loop (ι := Nat) (fun zz => ⟨[(0, .one (.dv [] (intsD (x)))), (1, .one (.dv [] (intsD (x)))), (5, .one (.dv [] (.int .i64 ((zz : Int)))))], [], []⟩) (fun zz => zz ≤ x.length) (fun zz => x.length - zz) (0) ?_ (weak_sub ⟨rfl, rfl, rfl, trivial⟩ trivial trivial rfl) (fun zz hx => ?_)
  ·exact Nat.zero_le _
  obtain ⟨k, rfl⟩ : ∃ v, v = zz := ⟨_, rfl⟩
  replace hx : k ≤ x.length := hx
  show Ok _ _ _ _ _ (⟨[(0, .one (.dv [] (intsD (x)))), (1, .one (.dv [] (intsD (x)))), (5, .one (.dv [] (.int .i64 ((k : Int)))))], [], []⟩ : St)
  iterate 7 refine z ?_
  refine yQ rfl (fun c2 => ?_) fun c2 => ?_
  ·skip
   have d2 := of_decide_eq_true c2
   iterate 4 refine z ?_
   refine ok_seq ?_
   refine ok_regionD (oB := []) (oK := []) (by kernel_rfl) rfl rfl ?_
   refine zD 0 ?_
   refine zD 1 ?_
   refine zD 2 ?_
   refine zD 3 ?_
   refine zD 4 ?_
   refine zD 5 ?_
   refine zD 6 ?_
   refine zD 7 ?_
   refine zD 8 ?_
   refine d_done (by kernel_rfl) ?_
   refine z ?_
   refine yQ rfl (fun c3 => ?_) fun c3 => ?_
   ·skip
    have d3 := nd_t c3
    iterate 10 refine z ?_
    first | rfl | (exfalso; simp_all)
   ·skip
    have d3 := nd_f c3
    iterate 3 refine z ?_
    refine ok_region ?_
    iterate 4 refine z ?_
    refine ⟨k + 1, ?_, ?_, weak_sub ⟨rfl, rfl, rfl, trivial⟩ trivial trivial rfl⟩
    ·omega
    ·omega
  ·skip
   have d2 := of_decide_eq_false c2
   iterate 10 refine z ?_
   first | rfl | (exfalso; simp_all)

theorem goOps_len : ∀ (l : List OpT) (c c' : DbT) (ns : List Int), goOps c l = some (c', ns) → ns.length = l.length
 | [], c, c', ns, h => by simp only [goOps, Option.some.injEq, Prod.mk.injEq] at h; rw [← h.2]; rfl
 | o :: os, c, c', ns, h => by
  rw [goOps] at h
  split at h
  ·cases hq : goOps (runOp c o).1 os with
   | none => rw [hq] at h; cases h
   | some r =>
    rw [hq] at h
    simp only [Option.map_some, Option.some.injEq, Prod.mk.injEq] at h
    have := goOps_len os (runOp c o).1 r.1 r.2 hq
    rw [← h.2, List.length_cons, List.length_cons, this]
  ·cases h
theorem runOps_len (d : DbT) (l : List OpT) : (runOps d l).2.1.length ≤ 6 := by
 unfold runOps
 split
 ·simp
 ·rename_i h
  have hl := opsG (d := d) (l := l) (by simpa using h)
  cases hq : goOps d l with
  | none => simp [outOps]
  | some r =>
   have := goOps_len l d r.1 r.2 hq
   show r.2.length ≤ 6
   omega

theorem ok_laws_FnExactRunOps {x0 : DbT} {x1 : List (OpT)}  : PFn Tryz.prog 4 [.agg [(.dv [] (.str (x0.1))), (.dv [] (.int .i64 (x0.2.1))), (.dv [] (storesD (x0.2.2.1))), (.dv [] (defsD (x0.2.2.2)))], .one (.dv [] (opsD (x1)))] (.one (.dv [] (.bool (true)))) := by
 refine ⟨fn_intro Tryz.func4 rfl Tryz.ntmps4 Tryz.results4 rfl (fun C => ?_)⟩
 have hrw := runOps_w x0 x1
 have hrl := runOps_len x0 x1
 have : wDatabase x0 = (x0.1).size + wList wStore (x0.2.2.1) + wList wIndexDef (x0.2.2.2) := rfl
 have : wList wStore (x0.2.2.1) = (x0.2.2.1).length + wSum wStore (x0.2.2.1) := rfl
 have : wList wIndexDef (x0.2.2.2) = (x0.2.2.2).length + wSum wIndexDef (x0.2.2.2) := rfl
 have : wList wOp x1 = x1.length + wSum wOp x1 := rfl
 have := wSum_bound cStore_le (x0.2.2.1)
 have := wSum_bound cIndexDef_le (x0.2.2.2)
 have := wSum_bound cOp_le (x1)
 have : wDatabase (runOps x0 x1).1 = ((runOps x0 x1).1.1).size + wList wStore ((runOps x0 x1).1.2.2.1) + wList wIndexDef ((runOps x0 x1).1.2.2.2) := rfl
 have : wList wStore ((runOps x0 x1).1.2.2.1) = ((runOps x0 x1).1.2.2.1).length + wSum wStore ((runOps x0 x1).1.2.2.1) := rfl
 have : wList wIndexDef ((runOps x0 x1).1.2.2.2) = ((runOps x0 x1).1.2.2.2).length + wSum wIndexDef ((runOps x0 x1).1.2.2.2) := rfl
 have := wSum_bound cStore_le ((runOps x0 x1).1.2.2.1)
 have := wSum_bound cIndexDef_le ((runOps x0 x1).1.2.2.2)
 have : wSum cInt (((runOps x0 x1).2.1)) = 1 * (((runOps x0 x1).2.1)).length := wSum_const (n := 1) _
 refine yF 0 0 rfl rfl fun f0_0 => ?_
 refine yF 0 1 rfl rfl fun f0_1 => ?_
 refine yF 0 2 rfl rfl fun f0_2 => ?_
 refine yF 0 3 rfl rfl fun f0_3 => ?_
 refine ok_fact (x := .tmp 1) (ev_tmp rfl) fun f1 => ?_
 iterate 10 refine z ?_
 refine zC Tryz.call7 ?_ (hf := ok_laws_szDatabase (by omega) (by omega))
 iterate 7 refine z ?_
 refine yQ rfl (fun c1 => ?_) fun c1 => ?_
 ·skip
  have d1 := of_decide_eq_true c1
  first | have q1 := szR_n d1 | skip
  iterate 6 refine z ?_
  first | rfl | (exfalso; omega) | (exfalso; simp_all; done) | (exfalso; simp_all; omega)
 ·skip
  have d1 := of_decide_eq_false c1
  first | have q1 := szR_nn d1 | skip
  iterate 5 refine z ?_
  refine zC Tryz.call18 ?_ (hf := ok_laws_szOpS (by omega) (by omega))
  iterate 7 refine z ?_
  refine yQ rfl (fun c2 => ?_) fun c2 => ?_
  ·skip
   have d2 := of_decide_eq_true c2
   first | have q2 := szR_n d2 | skip
   iterate 6 refine z ?_
   first | rfl | (exfalso; omega) | (exfalso; simp_all; done) | (exfalso; simp_all; omega)
  ·skip
   have d2 := of_decide_eq_false c2
   first | have q2 := szR_nn d2 | skip
   iterate 4 refine z ?_
   refine zK 32000 Tryz.call10 ?_ (hf := ok_laws_toDatabase (by first | omega | (simp only [wKey, wField, wRecord, wItem, wStore, wIndexDef, wDatabase, wOp, wTx, wTxQueue] at hb ⊢; omega) | (have hq := hw (by omega); omega)))
   refine z ?_
   refine zK 34000 Tryz.call20 ?_ (hf := ok_laws_toOpS (by first | omega | (simp only [wKey, wField, wRecord, wItem, wStore, wIndexDef, wDatabase, wOp, wTx, wTxQueue] at hb ⊢; omega) | (have hq := hw (by omega); omega)))
   refine o_callK 35000 rfl rfl rfl Tryz.call19 (ok_spec_RunOps (by omega)) (as_cons (ev_tmp rfl) (ag_agg (ag_cons ac_dv (ag_cons ac_dv (ag_cons (ac_key' rfl rfl) (ag_cons (ac_key' rfl rfl) ag_nil))))) (as_cons (ev_tmp rfl) (ag_one (ac_key' rfl rfl)) as_nil)) rfl rfl rfl ?_
   iterate 11 refine z ?_
   refine zK 40000 Tryz.call10 ?_ (hf := ok_laws_toDatabase (by first | omega | (simp only [wKey, wField, wRecord, wItem, wStore, wIndexDef, wDatabase, wOp, wTx, wTxQueue] at hb ⊢; omega) | (have hq := hw (by omega); omega)))
   iterate 5 refine z ?_
   refine zK 42000 Tryz.call20 ?_ (hf := ok_laws_toOpS (by first | omega | (simp only [wKey, wField, wRecord, wItem, wStore, wIndexDef, wDatabase, wOp, wTx, wTxQueue] at hb ⊢; omega) | (have hq := hw (by omega); omega)))
   iterate 5 refine z ?_
   refine o_callK 46000 rfl rfl rfl Tryz.call21 (ok_impl_RunOps (by omega)) (as_cons (ev_tmp rfl) (ag_agg (ag_cons ac_dv (ag_cons ac_dv (ag_cons (ac_key' rfl rfl) (ag_cons (ac_key' rfl rfl) ag_nil))))) (as_cons (ev_tmp rfl) (ag_one (ac_key' rfl rfl)) as_nil)) rfl rfl rfl ?_
   iterate 13 refine z ?_
   refine o_call rfl rfl rfl Tryz.call13 ok_laws_eqDatabase (as_cons (ev_tmp rfl) (ag_agg (ag_cons ac_dv (ag_cons ac_dv (ag_cons (ac_key' rfl rfl) (ag_cons (ac_key' rfl rfl) ag_nil))))) (as_cons (ev_tmp rfl) (ag_agg (ag_cons ac_dv (ag_cons ac_dv (ag_cons (ac_key' rfl rfl) (ag_cons (ac_key' rfl rfl) ag_nil))))) as_nil)) rfl rfl ?_
   iterate 4 refine z ?_
   refine o_callG (gd_bool rfl rfl rfl rfl rfl) rfl rfl Tryz.call22 ok_laws_eqIntS (fun hg => (as_cons (ev_opt rfl hg) (ag_one (ac_key' rfl rfl)) (as_cons (ev_opt rfl hg) (ag_one (ac_key' rfl rfl)) as_nil))) rfl rfl ?_
   iterate 5 refine z ?_
   refine o_pureG (gd_bool rfl rfl rfl rfl rfl) rfl (fun hg => pu_bneq hT rfl rfl (ev_opt rfl hg) (ev_opt rfl hg)) rfl rfl ?_
   iterate 2 refine z ?_
   refine yQ rfl (fun c3 => ?_) fun c3 => ?_
   ·skip
    iterate 6 refine z ?_
    first | rfl | (exfalso; omega) | (exfalso; simp_all; done) | (exfalso; simp_all; omega)
   ·skip
    iterate 2 refine z ?_
    refine ok_seq ?_
    refine ok_seq ?_
    refine ok_regionD (oB := [2, 6, 9, 11]) (oK := [34007, 42007, 44007, 48007, 52007, 56007, 125031, 125900, 130000, 136031, 136900, 141000]) (by kernel_rfl) rfl rfl ?_
    refine zD 0 ?_
    refine zD 1 ?_
    refine d_callK 67000 2 rfl (by kernel_rfl) rfl rfl rfl Tryz.call10 (ok_laws_toDatabase (by first | omega | (simp only [wKey, wField, wRecord, wItem, wStore, wIndexDef, wDatabase, wOp, wTx, wTxQueue] at hb ⊢; omega) | (have hq := hw (by omega); omega))) (as_cons (ev_tmp rfl) (ag_agg (ag_cons ac_dv (ag_cons ac_dv (ag_cons ac_dv (ag_cons ac_dv ag_nil))))) as_nil) rfl rfl rfl rfl rfl ?_
    refine d_call 3 rfl (by kernel_rfl) rfl rfl rfl Tryz.call13 ok_laws_eqDatabase (as_cons (ev_tmp rfl) (ag_agg (ag_cons ac_dv (ag_cons ac_dv (ag_cons (ac_key' rfl rfl) (ag_cons (ac_key' rfl rfl) ag_nil))))) (as_cons (ev_tmp rfl) (ag_agg (ag_cons ac_dv (ag_cons ac_dv (ag_cons (ac_key' rfl rfl) (ag_cons (ac_key' rfl rfl) ag_nil))))) as_nil)) rfl rfl rfl rfl ?_
    refine zD 4 ?_
    refine d_done (by kernel_rfl) ?_
    refine z ?_
    refine yQ rfl (fun c4 => ?_) fun c4 => ?_
    ·skip
     iterate 6 refine z ?_
     first | rfl | (exfalso; omega) | (exfalso; simp_all; done) | (exfalso; simp_all; omega)
    ·skip
     iterate 6 refine z ?_
     refine zK 72000 Tryz.call20 ?_ (hf := ok_laws_toOpS (by first | omega | (simp only [wKey, wField, wRecord, wItem, wStore, wIndexDef, wDatabase, wOp, wTx, wTxQueue] at hb ⊢; omega) | (have hq := hw (by omega); omega)))
     refine o_call rfl rfl rfl Tryz.call23 ok_laws_eqOpS (as_cons (ev_tmp rfl) (ag_one (ac_key' rfl rfl)) (as_cons (ev_tmp rfl) (ag_one (ac_key' rfl rfl)) as_nil)) rfl rfl ?_
     iterate 2 refine z ?_
     refine yQ rfl (fun c5 => ?_) fun c5 => ?_
     ·skip
      iterate 6 refine z ?_
      first | rfl | (exfalso; omega) | (exfalso; simp_all; done) | (exfalso; simp_all; omega)
     ·skip
      iterate 8 refine z ?_
      refine o_callW [(0, 52007, ⟨false, _, _, _, _⟩, ⟨false, _, _, _, _⟩), (1, 56007, ⟨false, _, _, _, _⟩, ⟨false, _, _, _, _⟩)] rfl rfl rfl Tryz.call15 (ok_laws_markDatabase (x := x0) (by omega) (by omega)) ⟨rfl, rfl, trivial⟩ rfl (aw_cons (ev_tmp rfl) (aw_agg (awc_cons (awc_dv rfl) (awc_cons (awc_dv rfl) (awc_cons (awc_key rfl) (awc_cons (awc_key rfl) awc_nil))))) (aw_cons (ev_tmp rfl) (aw_one (awc_dv rfl)) aw_nil)) rfl rfl ?_
      simp only [killT, killB, SV.kill, CV.kill, kk, Nat.reduceBEq]
      iterate 5 refine z ?_
      refine o_callW [(0, 42007, ⟨false, _, _, _, _⟩, ⟨false, _, _, _, _⟩)] rfl rfl rfl Tryz.call24 (ok_laws_markOpS (x := x1) (by omega) (by omega)) ⟨rfl, trivial⟩ rfl (aw_cons (ev_tmp rfl) (aw_one (awc_key rfl)) (aw_cons (ev_tmp rfl) (aw_one (awc_dv rfl)) aw_nil)) rfl rfl ?_
      simp only [killT, killB, SV.kill, CV.kill, kk, Nat.reduceBEq]
      iterate 9 refine z ?_
      refine o_callG (gd_bool rfl rfl rfl rfl rfl) rfl rfl Tryz.call13 ok_laws_eqDatabase (fun hg => (as_cons (ev_opt rfl hg) (ag_agg (ag_cons ac_dv (ag_cons ac_dv (ag_cons (ac_key' rfl rfl) (ag_cons (ac_key' rfl rfl) ag_nil))))) (as_cons (ev_opt rfl hg) (ag_agg (ag_cons ac_dv (ag_cons ac_dv (ag_cons (ac_key' rfl rfl) (ag_cons (ac_key' rfl rfl) ag_nil))))) as_nil))) rfl rfl ?_
      iterate 5 refine z ?_
      refine o_callG (gd_bool rfl rfl rfl rfl rfl) rfl rfl Tryz.call22 ok_laws_eqIntS (fun hg => (as_cons (ev_opt rfl hg) (ag_one (ac_key' rfl rfl)) (as_cons (ev_opt rfl hg) (ag_one (ac_key' rfl rfl)) as_nil))) rfl rfl ?_
      iterate 5 refine z ?_
      refine o_pureG (gd_bool rfl rfl rfl rfl rfl) rfl (fun hg => pu_bneq hT rfl rfl (ev_opt rfl hg) (ev_opt rfl hg)) rfl rfl ?_
      iterate 2 refine z ?_
      refine yQ rfl (fun c6 => ?_) fun c6 => ?_
      ·skip
       iterate 6 refine z ?_
       first | rfl | (exfalso; omega) | (exfalso; simp_all; done) | (exfalso; simp_all; omega)
      ·skip
       iterate 8 refine z ?_
       refine o_callW [(0, 136031, ⟨false, _, _, _, _⟩, ⟨false, _, _, _, _⟩), (1, 136900, ⟨false, _, _, _, _⟩, ⟨false, _, _, _, _⟩)] rfl rfl rfl Tryz.call15 (ok_laws_markDatabase (x := (runOps x0 x1).1) (by omega) (by omega)) ⟨rfl, rfl, trivial⟩ rfl (aw_cons (ev_tmp rfl) (aw_agg (awc_cons (awc_dv rfl) (awc_cons (awc_dv rfl) (awc_cons (awc_key rfl) (awc_cons (awc_key rfl) awc_nil))))) (aw_cons (ev_tmp rfl) (aw_one (awc_dv rfl)) aw_nil)) rfl rfl ?_
       simp only [killT, killB, SV.kill, CV.kill, kk, Nat.reduceBEq]
       iterate 5 refine z ?_
       refine o_callW [(0, 141000, ⟨false, _, _, _, _⟩, ⟨false, _, _, _, _⟩)] rfl rfl rfl Tryz.call25 (ok_laws_markIntS (x := ((runOps x0 x1).2.1)) (by omega) (by omega)) ⟨rfl, trivial⟩ rfl (aw_cons (ev_tmp rfl) (aw_one (awc_key rfl)) (aw_cons (ev_tmp rfl) (aw_one (awc_dv rfl)) aw_nil)) rfl rfl ?_
       simp only [killT, killB, SV.kill, CV.kill, kk, Nat.reduceBEq]
       iterate 8 refine z ?_
       refine o_call rfl rfl rfl Tryz.call17 (ok_laws_heldDatabase (x := (runOps x0 x1).1) rfl (by omega) (by omega)) (as_cons (ev_tmp rfl) (ag_agg (ag_cons ac_dv (ag_cons ac_dv (ag_cons (ac_key' rfl rfl) (ag_cons (ac_key' rfl rfl) ag_nil))))) (as_cons (ev_tmp rfl) (ag_one ac_dv) as_nil)) rfl rfl ?_
       iterate 7 refine z ?_
       refine yQ rfl (fun c7 => ?_) fun c7 => ?_
       ·skip
        have d7 := of_decide_eq_true c7
        first | have q7 := szR_n d7 | skip
        iterate 6 refine z ?_
        first | rfl | (exfalso; omega) | (exfalso; simp_all; done) | (exfalso; simp_all; omega)
       ·skip
        have d7 := of_decide_eq_false c7
        first | have q7 := szR_nn d7 | skip
        iterate 5 refine z ?_
        refine o_call rfl rfl rfl Tryz.call26 (ok_laws_heldIntS (x := ((runOps x0 x1).2.1)) rfl (by omega) (by omega)) (as_cons (ev_tmp rfl) (ag_one (ac_key' rfl rfl)) (as_cons (ev_tmp rfl) (ag_one ac_dv) as_nil)) rfl rfl ?_
        iterate 7 refine z ?_
        refine yQ rfl (fun c8 => ?_) fun c8 => ?_
        ·skip
         have d8 := of_decide_eq_true c8
         first | have q8 := szR_n d8 | skip
         iterate 6 refine z ?_
         first | rfl | (exfalso; omega) | (exfalso; simp_all; done) | (exfalso; simp_all; omega)
        ·skip
         have d8 := of_decide_eq_false c8
         first | have q8 := szR_nn d8 | skip
         iterate 8 refine z ?_
         refine yQ rfl (fun c9 => ?_) fun c9 => ?_
         ·skip
          have d9 := nd_t c9
          iterate 6 refine z ?_
          first | rfl | (exfalso; omega) | (exfalso; simp_all; done) | (exfalso; simp_all; omega)
         ·skip
          have d9 := nd_f c9
          iterate 4 refine z ?_
          refine zK 121000 Tryz.call10 ?_ (hf := ok_laws_toDatabase (by first | omega | (simp only [wKey, wField, wRecord, wItem, wStore, wIndexDef, wDatabase, wOp, wTx, wTxQueue] at hb ⊢; omega) | (have hq := hw (by omega); omega)))
          refine z ?_
          refine zK 123000 Tryz.call20 ?_ (hf := ok_laws_toOpS (by first | omega | (simp only [wKey, wField, wRecord, wItem, wStore, wIndexDef, wDatabase, wOp, wTx, wTxQueue] at hb ⊢; omega) | (have hq := hw (by omega); omega)))
          refine o_callK 124000 rfl rfl rfl Tryz.call21 (ok_impl_RunOps (by omega)) (as_cons (ev_tmp rfl) (ag_agg (ag_cons ac_dv (ag_cons ac_dv (ag_cons (ac_key' rfl rfl) (ag_cons (ac_key' rfl rfl) ag_nil))))) (as_cons (ev_tmp rfl) (ag_one (ac_key' rfl rfl)) as_nil)) rfl rfl rfl ?_
          iterate 13 refine z ?_
          refine o_call rfl rfl rfl Tryz.call13 ok_laws_eqDatabase (as_cons (ev_tmp rfl) (ag_agg (ag_cons ac_dv (ag_cons ac_dv (ag_cons (ac_key' rfl rfl) (ag_cons (ac_key' rfl rfl) ag_nil))))) (as_cons (ev_tmp rfl) (ag_agg (ag_cons ac_dv (ag_cons ac_dv (ag_cons (ac_key' rfl rfl) (ag_cons (ac_key' rfl rfl) ag_nil))))) as_nil)) rfl rfl ?_
          iterate 4 refine z ?_
          refine o_callG (gd_bool rfl rfl rfl rfl rfl) rfl rfl Tryz.call22 ok_laws_eqIntS (fun hg => (as_cons (ev_opt rfl hg) (ag_one (ac_key' rfl rfl)) (as_cons (ev_opt rfl hg) (ag_one (ac_key' rfl rfl)) as_nil))) rfl rfl ?_
          iterate 5 refine z ?_
          refine o_pureG (gd_bool rfl rfl rfl rfl rfl) rfl (fun hg => pu_bneq hT rfl rfl (ev_opt rfl hg) (ev_opt rfl hg)) rfl rfl ?_
          iterate 2 refine z ?_
          refine yQ rfl (fun c10 => ?_) fun c10 => ?_
          ·skip
           iterate 6 refine z ?_
           first | rfl | (exfalso; omega) | (exfalso; simp_all; done) | (exfalso; simp_all; omega)
          ·skip
           iterate 8 refine z ?_
           refine o_call rfl rfl rfl Tryz.call17 (ok_laws_heldDatabase (x := (runOps x0 x1).1) rfl (by omega) (by omega)) (as_cons (ev_tmp rfl) (ag_agg (ag_cons ac_dv (ag_cons ac_dv (ag_cons (ac_key' rfl rfl) (ag_cons (ac_key' rfl rfl) ag_nil))))) (as_cons (ev_tmp rfl) (ag_one ac_dv) as_nil)) rfl rfl ?_
           iterate 7 refine z ?_
           refine yQ rfl (fun c11 => ?_) fun c11 => ?_
           ·skip
            have d11 := of_decide_eq_true c11
            first | have q11 := szR_n d11 | skip
            iterate 6 refine z ?_
            first | rfl | (exfalso; omega) | (exfalso; simp_all; done) | (exfalso; simp_all; omega)
           ·skip
            have d11 := of_decide_eq_false c11
            first | have q11 := szR_nn d11 | skip
            iterate 5 refine z ?_
            refine o_call rfl rfl rfl Tryz.call26 (ok_laws_heldIntS (x := ((runOps x0 x1).2.1)) rfl (by omega) (by omega)) (as_cons (ev_tmp rfl) (ag_one (ac_key' rfl rfl)) (as_cons (ev_tmp rfl) (ag_one ac_dv) as_nil)) rfl rfl ?_
            iterate 7 refine z ?_
            refine yQ rfl (fun c12 => ?_) fun c12 => ?_
            ·skip
             have d12 := of_decide_eq_true c12
             first | have q12 := szR_n d12 | skip
             iterate 6 refine z ?_
             first | rfl | (exfalso; omega) | (exfalso; simp_all; done) | (exfalso; simp_all; omega)
            ·skip
             have d12 := of_decide_eq_false c12
             first | have q12 := szR_nn d12 | skip
             iterate 8 refine z ?_
             refine yQ rfl (fun c13 => ?_) fun c13 => ?_
             ·skip
              have d13 := nd_t c13
              iterate 6 refine z ?_
              first | rfl | (exfalso; omega) | (exfalso; simp_all; done) | (exfalso; simp_all; omega)
             ·skip
              have d13 := nd_f c13
              iterate 7 refine z ?_
              first | rfl | (exfalso; omega) | (exfalso; simp_all; done) | (exfalso; simp_all; omega)
end Go.Proofs.YtmgijbhikmjfjaaGreat

namespace Go.Proofs.YtmgijbhikmjfjaaGreat
open Go.RowKit
open Go.Proofs
set_option linter.unusedVariables false
set_option linter.unusedSimpArgs false

theorem wSumB {α : Type} {w : α → Nat} {B : Nat} : ∀ (l : List α), (∀ x ∈ l, w x ≤ B) → wSum w l ≤ l.length * B
 | [], _ => by simp [wSum]
 | x :: l, h => by
  have h1 := wSumB l (fun y hy => h y (by simp [hy]))
  have h2 := h x (by simp)
  have e : wSum w (x :: l) = w x + wSum w l := by simp [wSum]
  rw [e, List.length_cons, Nat.add_mul, Nat.one_mul]; omega
theorem sto_name {s : StoreT} (h : isSto s = true) : s.1.size ≤ 8 := by
 simp only [isSto, Bool.and_eq_true] at h
 have := h.2.1.1
 simp only [isName, Bool.and_eq_true, decide_eq_true_eq] at this
 omega
theorem size_list (s : Str) : s.size = s.toList.length := by rw [toList_data]; rfl
theorem isDb_w {d : DbT} (h : isDb d = true) : wDatabase d ≤ 5000000 := by
 have hst := isDb_st1 h
 rw [isDb] at h
 simp only [Bool.and_eq_true] at h
 obtain ⟨hh, _, hu⟩ := h
 simp only [dbHead, Bool.and_eq_true, decide_eq_true_eq] at hh
 obtain ⟨⟨⟨hn, _⟩, hl1⟩, hl2⟩ := hh
 simp only [isName, Bool.and_eq_true, decide_eq_true_eq] at hn
 have hs : ∀ s ∈ d.2.2.1, isSto s = true := fun s hs => by
  obtain ⟨i, hi, rfl⟩ := List.mem_iff_getElem.1 hs
  have := db_sto (d := d) (i := (i : Int)) hst (by omega) (by omega)
  simpa [List.getD, List.getElem?_eq_getElem hi] using this
 have h1 := wSumB (w := wStore) (B := 1000 * 1000) d.2.2.1 (fun s hm => sto_w (hs s hm))
 have h2 := wSumB (w := wIndexDef) (B := 16) d.2.2.2 (fun x hm => by
  obtain ⟨i, hi, rfl⟩ := List.mem_iff_getElem.1 hm
  simp only [dbUn, List.all_eq_true] at hu
  have h3 := hu i (List.mem_range.2 hi)
  have ex : d.2.2.2.getD i default = d.2.2.2[i] := by simp [List.getD, List.getElem?_eq_getElem hi]
  simp only [unBad, Int.toNat_natCast, ex, Bool.not_eq_true', Bool.or_eq_false_iff, decide_eq_false_iff_not, Bool.not_eq_false'] at h3
  obtain ⟨⟨⟨h4, h5⟩, _⟩, _⟩ := h3
  simp only [isName, Bool.and_eq_true, decide_eq_true_eq] at h5
  rcases findI_cases (p := hasName d.2.2.2[i].1) (d := default) d.2.2.1 0 (by omega) with ⟨h6, _⟩ | ⟨m, h6, _, _, h7⟩
  ·exact absurd (show fndS d d.2.2.2[i].1 < 0 by show findI _ _ _ < 0; omega) h4
  ·have hm' : d.2.2.1.getD m default ∈ d.2.2.1 := by simp [List.getD, List.getElem?_eq_getElem h6]
   have h8 := sto_name (hs _ hm')
   have h9 : (d.2.2.1.getD m default).1.toList = d.2.2.2[i].1.toList := by simpa [hasName, sEq] using h7
   have h10 : d.2.2.2[i].1.size ≤ 8 := by rw [size_list, ← h9, ← size_list]; exact h8
   have h11 : wIndexDef d.2.2.2[i] = d.2.2.2[i].1.size + d.2.2.2[i].2.size := rfl
   rw [h11]; omega)
 have h3 : wDatabase d = d.1.size + wList wStore d.2.2.1 + wList wIndexDef d.2.2.2 := rfl
 have h4 : wList wStore d.2.2.1 = d.2.2.1.length + wSum wStore d.2.2.1 := rfl
 have h5 : wList wIndexDef d.2.2.2 = d.2.2.2.length + wSum wIndexDef d.2.2.2 := rfl
 have h6 : d.2.2.1.length ≤ 4 := by omega
 have h7 : d.2.2.2.length ≤ 4 := by omega
 have h8 : d.2.2.1.length * (1000 * 1000) ≤ 4 * (1000 * 1000) := Nat.mul_le_mul_right _ h6
 omega
theorem runOp_db {d : DbT} {o : OpT} (h : (runOp d o).2.2 = true) : isDb (runOp d o).1 = true := by
 unfold runOp at h ⊢
 split at h
 ·cases h
 ·rename_i h1
  split at h
  ·cases h
  ·rename_i h2
   rw [if_neg h1, if_neg h2]
   have h2 : (!(opM (stOf d o) o).2.2 || !isDb (putS d (fndS d o.2.1).toNat (opM (stOf d o) o).1)) = false := by simpa using h2
   simp only [Bool.or_eq_false_iff, Bool.not_eq_false'] at h2
   exact h2.2
theorem goOps_db : ∀ (l : List OpT) (c c' : DbT) (ns : List Int), goOps c l = some (c', ns) → c' = c ∨ isDb c' = true
 | [], c, c', ns, h => by simp only [goOps, Option.some.injEq, Prod.mk.injEq] at h; exact .inl h.1.symm
 | o :: os, c, c', ns, h => by
  rw [goOps] at h
  split at h
  ·rename_i hk
   cases hq : goOps (runOp c o).1 os with
   | none => rw [hq] at h; cases h
   | some r =>
    rw [hq] at h
    simp only [Option.map_some, Option.some.injEq, Prod.mk.injEq] at h
    rcases goOps_db os (runOp c o).1 r.1 r.2 hq with h2 | h2
    ·right; rw [← h.1, h2]; exact runOp_db hk
    ·right; rw [← h.1]; exact h2
  ·cases h
theorem runOps_wm (d : DbT) (l : List OpT) : wDatabase (runOps d l).1 ≤ wDatabase d ∨ wDatabase (runOps d l).1 ≤ 5000000 := by
 unfold runOps
 split
 ·exact .inl (Nat.le_refl _)
 ·cases hq : goOps d l with
  | none => exact .inl (Nat.le_refl _)
  | some r =>
   rcases goOps_db l d r.1 r.2 hq with h | h
   ·left; show wDatabase r.1 ≤ _; rw [h]; exact Nat.le_refl _
   ·right; exact isDb_w h
def serial : DbT → List TxT → DbT
 | d, [] => d
 | d, t :: ts => serial (runOps d t.2.1).1 ts
theorem serial_w : ∀ (ts : List TxT) (d : DbT), wDatabase (serial d ts) ≤ wDatabase d ∨ wDatabase (serial d ts) ≤ 5000000
 | [], d => .inl (Nat.le_refl _)
 | t :: ts, d => by
  have h1 := serial_w ts (runOps d t.2.1).1
  have h2 := runOps_wm d t.2.1
  rw [serial]; omega
theorem serial_step {x : List TxT} {n : Nat} {c : DbT} (h : n < x.length) : serial c (x.drop n) = serial (runOps c (x.getD (n : Int).toNat default).2.1).1 (x.drop (n + 1)) := by
 have e : x.drop n = x.getD (n : Int).toNat default :: x.drop (n + 1) := by rw [List.drop_eq_getElem_cons h]; simp [List.getD, List.getElem?_eq_getElem h]
 rw [e, serial]

theorem ok_impl_SerialRun {d : DbT} {x : List TxT} (hb : wDatabase d ≤ 549755813888) : KFn Tryz.prog 30 [.agg [(.dv [] (.str (d.1))), (.dv [] (.int .i64 (d.2.1))), (.dv [] (storesD (d.2.2.1))), (.dv [] (defsD (d.2.2.2)))], .agg [(.dv [] (txsD (x)))]] (.agg [(.dv [] (.str ((serial d x).1))), (.dv [] (.int .i64 ((serial d x).2.1))), (.key 90031), (.key 90900)]) [(90031, some (kcOf false (storesD ((serial d x).2.2.1)))), (90900, some (kcOf false (defsD ((serial d x).2.2.2))))] := by
 refine ⟨fn_intro Tryz.func30 rfl Tryz.ntmps30 Tryz.results30 rfl (fun C => ?_)⟩
 refine yF 0 0 rfl rfl fun f0_0 => ?_
 refine yF 0 1 rfl rfl fun f0_1 => ?_
 refine yF 0 2 rfl rfl fun f0_2 => ?_
 refine yF 0 3 rfl rfl fun f0_3 => ?_
 refine yF 1 0 rfl rfl fun f1_0 => ?_
 iterate 7 refine z ?_
 refine zK 90000 Tryz.call49 ?_ (hf := ok_impl_copyDatabase (x := d) (by omega))
 iterate 11 refine z ?_
 refine ok_loop (ι := Nat × DbT) (fun zz => ⟨[(4, .box 4 0), (5, .box 5 0), (11, .one (.dv [] (txsD (x)))), (12, .one (.dv [] (.int .i64 ((((x)).length : Int))))), (13, .one (.dv [] (.int .i64 ((zz.1 : Int)))))], [(2, 38, [(.dv [] (.str (d.1))), (.dv [] (.int .i64 (d.2.1))), (.dv [] (storesD (d.2.2.1))), (.dv [] (defsD (d.2.2.2)))]), (3, 73, [(.dv [] (txsD (x)))]), (4, 38, [(.dv [] (.str (ByteArray.empty))), (.dv [] (.int .i64 (0))), .nil, .nil]), (5, 38, [(.dv [] (.str (zz.2.1))), (.dv [] (.int .i64 (zz.2.2.1))), (.key 90031), (.key 90900)])], [(90031, some (kcOf false (.sl 91 3 (zz.2.2.2.1.length) (zz.2.2.2.1.flatMap eStore)))), (90900, some (kcOf false (.sl 127 2 (zz.2.2.2.2.length) (zz.2.2.2.2.flatMap eDef))))]⟩) (fun zz => zz.1 ≤ x.length ∧ serial d x = serial zz.2 (x.drop zz.1) ∧ (wDatabase zz.2 ≤ wDatabase d ∨ wDatabase zz.2 ≤ 5000000)) (fun zz => x.length - zz.1) ((0, d)) ?_ (weak_sub ⟨rfl, rfl, rfl, rfl, rfl, trivial⟩ ⟨rfl, rfl, rfl, rfl, trivial⟩ ⟨rfl, rfl, trivial⟩ rfl) (fun zz hx => ?_)
 ·exact ⟨Nat.zero_le _, by simp, .inl (Nat.le_refl _)⟩
 obtain ⟨n, c⟩ := zz
 replace hx : n ≤ x.length ∧ serial d x = serial c (x.drop n) ∧ (wDatabase c ≤ wDatabase d ∨ wDatabase c ≤ 5000000) := hx
 obtain ⟨hn, hi, hw⟩ := hx
 show Ok _ _ _ _ _ (⟨[(4, .box 4 0), (5, .box 5 0), (11, .one (.dv [] (txsD (x)))), (12, .one (.dv [] (.int .i64 ((((x)).length : Int))))), (13, .one (.dv [] (.int .i64 ((n : Int)))))], [(2, 38, [(.dv [] (.str (d.1))), (.dv [] (.int .i64 (d.2.1))), (.dv [] (storesD (d.2.2.1))), (.dv [] (defsD (d.2.2.2)))]), (3, 73, [(.dv [] (txsD (x)))]), (4, 38, [(.dv [] (.str (ByteArray.empty))), (.dv [] (.int .i64 (0))), .nil, .nil]), (5, 38, [(.dv [] (.str (c.1))), (.dv [] (.int .i64 (c.2.1))), (.key 90031), (.key 90900)])], [(90031, some (kcOf false (.sl 91 3 (c.2.2.1.length) (c.2.2.1.flatMap eStore)))), (90900, some (kcOf false (.sl 127 2 (c.2.2.2.length) (c.2.2.2.flatMap eDef))))]⟩ : St)
 iterate 3 refine z ?_
 refine ok_seq ?_
 refine yQ rfl (fun c1 => ?_) fun c1 => ?_
 ·skip
  have d1 := of_decide_eq_true c1
  have hn2 : n < x.length := by omega
  have hrw := runOps_wm c (x.getD (n : Int).toNat default).2.1
  iterate 10 refine z ?_
  refine ok_region ?_
  iterate 3 refine z ?_
  refine o_callK 1000 rfl rfl rfl Tryz.call21 (ok_impl_RunOps (d := c) (l := (x.getD (n : Int).toNat default).2.1) (by omega)) (as_cons (ev_tmp rfl) (ag_agg (ag_cons ac_dv (ag_cons ac_dv (ag_cons (ac_key' rfl rfl) (ag_cons (ac_key' rfl rfl) ag_nil))))) (as_cons (ev_tmp rfl) (ag_one ac_dv) as_nil)) rfl rfl rfl ?_
  iterate 5 refine z ?_
  refine ops_nil ?_
  iterate 2 refine z ?_
  refine ok_weak (weak_swapB (b := 5) (i := 2) (k := 91031) (k' := 90031) rfl rfl rfl rfl (by simp) rfl rfl) ?_
  simp only [killT, killB, SV.kill, CV.kill, kk, Nat.reduceBEq]
  refine ok_weak (weak_swapB (b := 5) (i := 3) (k := 91900) (k' := 90900) rfl rfl rfl rfl (by simp) rfl rfl) ?_
  simp only [killT, killB, SV.kill, CV.kill, kk, Nat.reduceBEq]
  refine ok_region ?_
  iterate 3 refine z ?_
  refine ⟨(n + 1, (runOps c (x.getD (n : Int).toNat default).2.1).1), ?_, ?_, weak_sub ⟨rfl, rfl, rfl, rfl, rfl, trivial⟩ ⟨rfl, rfl, rfl, rfl, trivial⟩ ⟨rfl, rfl, trivial⟩ rfl⟩
  ·exact ⟨hn2, by show serial d x = _; rw [hi]; exact serial_step hn2, by dsimp only; omega⟩
  ·dsimp only; omega
 ·skip
  have d1 := of_decide_eq_false c1
  iterate 9 refine z ?_
  have hfin : serial d x = c := by rw [hi, List.drop_of_length_le (by omega)]; rfl
  rw [hfin]
  refine ok_weak (σ' := ⟨[(4, .box 4 0)], [(4, 38, [(.dv [] (.str (c.1))), (.dv [] (.int .i64 (c.2.1))), (.key 90031), (.key 90900)])], [(90031, some (kcOf false (storesD (c.2.2.1)))), (90900, some (kcOf false (defsD (c.2.2.2))))]⟩) (weak_sub ⟨rfl, trivial⟩ ⟨rfl, trivial⟩ ⟨rfl, rfl, trivial⟩ rfl) ?_
  refine z ?_
  refine fin1 (res_cell hT rfl rfl rfl rfl) ?_
  first | exact ⟨rfl, rfl⟩ | skip
theorem ok_spec_SerialRun {d : DbT} {x : List TxT} (hb : wDatabase d ≤ 549755813888) : KFn Tryz.prog 28 [.agg [(.dv [] (.str (d.1))), (.dv [] (.int .i64 (d.2.1))), (.dv [] (storesD (d.2.2.1))), (.dv [] (defsD (d.2.2.2)))], .agg [(.dv [] (txsD (x)))]] (.agg [(.dv [] (.str ((serial d x).1))), (.dv [] (.int .i64 ((serial d x).2.1))), (.key 90031), (.key 90900)]) [(90031, some (kcOf false (storesD ((serial d x).2.2.1)))), (90900, some (kcOf false (defsD ((serial d x).2.2.2))))] := by
 refine ⟨fn_intro Tryz.func28 rfl Tryz.ntmps28 Tryz.results28 rfl (fun C => ?_)⟩
 refine yF 0 0 rfl rfl fun f0_0 => ?_
 refine yF 0 1 rfl rfl fun f0_1 => ?_
 refine yF 0 2 rfl rfl fun f0_2 => ?_
 refine yF 0 3 rfl rfl fun f0_3 => ?_
 refine yF 1 0 rfl rfl fun f1_0 => ?_
 iterate 7 refine z ?_
 refine zK 90000 Tryz.call40 ?_ (hf := ok_spec_l8Copy (x := d) (by omega))
 iterate 8 refine z ?_
 refine ok_loop (ι := Nat × DbT) (fun zz => ⟨[(3, .box 3 0), (4, .box 4 0), (5, .box 5 0), (6, .one (.dv [] (.int .i64 ((zz.1 : Int)))))], [(2, 38, [(.dv [] (.str (d.1))), (.dv [] (.int .i64 (d.2.1))), (.dv [] (storesD (d.2.2.1))), (.dv [] (defsD (d.2.2.2)))]), (3, 73, [(.dv [] (txsD (x)))]), (4, 38, [(.dv [] (.str (ByteArray.empty))), (.dv [] (.int .i64 (0))), .nil, .nil]), (5, 38, [(.dv [] (.str (zz.2.1))), (.dv [] (.int .i64 (zz.2.2.1))), (.key 90031), (.key 90900)])], [(90031, some (kcOf false (.sl 91 3 (zz.2.2.2.1.length) (zz.2.2.2.1.flatMap eStore)))), (90900, some (kcOf false (.sl 127 2 (zz.2.2.2.2.length) (zz.2.2.2.2.flatMap eDef))))]⟩) (fun zz => zz.1 ≤ x.length ∧ serial d x = serial zz.2 (x.drop zz.1) ∧ (wDatabase zz.2 ≤ wDatabase d ∨ wDatabase zz.2 ≤ 5000000)) (fun zz => x.length - zz.1) ((0, d)) ?_ (weak_sub ⟨rfl, rfl, rfl, rfl, trivial⟩ ⟨rfl, rfl, rfl, rfl, trivial⟩ ⟨rfl, rfl, trivial⟩ rfl) (fun zz hx => ?_)
 ·exact ⟨Nat.zero_le _, by simp, .inl (Nat.le_refl _)⟩
 obtain ⟨n, c⟩ := zz
 replace hx : n ≤ x.length ∧ serial d x = serial c (x.drop n) ∧ (wDatabase c ≤ wDatabase d ∨ wDatabase c ≤ 5000000) := hx
 obtain ⟨hn, hi, hw⟩ := hx
 show Ok _ _ _ _ _ (⟨[(3, .box 3 0), (4, .box 4 0), (5, .box 5 0), (6, .one (.dv [] (.int .i64 ((n : Int)))))], [(2, 38, [(.dv [] (.str (d.1))), (.dv [] (.int .i64 (d.2.1))), (.dv [] (storesD (d.2.2.1))), (.dv [] (defsD (d.2.2.2)))]), (3, 73, [(.dv [] (txsD (x)))]), (4, 38, [(.dv [] (.str (ByteArray.empty))), (.dv [] (.int .i64 (0))), .nil, .nil]), (5, 38, [(.dv [] (.str (c.1))), (.dv [] (.int .i64 (c.2.1))), (.key 90031), (.key 90900)])], [(90031, some (kcOf false (.sl 91 3 (c.2.2.1.length) (c.2.2.1.flatMap eStore)))), (90900, some (kcOf false (.sl 127 2 (c.2.2.2.length) (c.2.2.2.flatMap eDef))))]⟩ : St)
 iterate 8 refine z ?_
 refine yQ rfl (fun c1 => ?_) fun c1 => ?_
 ·skip
  have d1 := of_decide_eq_true c1
  have hn2 : n < x.length := by omega
  have hrw := runOps_wm c (x.getD (n : Int).toNat default).2.1
  iterate 4 refine z ?_
  refine ok_cutS (σ' := ⟨[(3, .box 3 0), (4, .box 4 0), (5, .box 5 0), (6, .one (.dv [] (.int .i64 ((n : Int))))), (7, .box 7 0), (8, .one (.key 96000)), (9, .one (.dv [] (.bool ((runOps (c) ((x.getD (n : Int).toNat default).2.1)).2.2))))], [(2, 38, [(.dv [] (.str (d.1))), (.dv [] (.int .i64 (d.2.1))), (.dv [] (storesD (d.2.2.1))), (.dv [] (defsD (d.2.2.2)))]), (3, 73, [(.dv [] (txsD (x)))]), (4, 38, [(.dv [] (.str (ByteArray.empty))), (.dv [] (.int .i64 (0))), .nil, .nil]), (5, 38, [(.dv [] (.str (c.1))), (.dv [] (.int .i64 (c.2.1))), (.key 90031), (.key 90900)]), (7, 38, [(.dv [] (.str ((runOps (c) ((x.getD (n : Int).toNat default).2.1)).1.1))), (.dv [] (.int .i64 ((runOps (c) ((x.getD (n : Int).toNat default).2.1)).1.2.1))), (.key 91031), (.key 91900)])], [(90031, some (kcOf false (.sl 91 3 (c.2.2.1.length) (c.2.2.1.flatMap eStore)))), (90900, some (kcOf false (.sl 127 2 (c.2.2.2.length) (c.2.2.2.flatMap eDef)))), (91031, some (kcOf false (storesD ((runOps (c) ((x.getD (n : Int).toNat default).2.1)).1.2.2.1)))), (91900, some (kcOf false (defsD ((runOps (c) ((x.getD (n : Int).toNat default).2.1)).1.2.2.2)))), (96000, some (kcOf false (intsD ((runOps (c) ((x.getD (n : Int).toNat default).2.1)).2.1))))]⟩) ?_ ?_
  ·skip
   refine ok_regionD (oB := [2, 3, 4, 5]) (oK := [90031, 90900]) (by kernel_rfl) rfl rfl ?_
   refine zD 0 ?_
   refine zD 1 ?_
   refine zD 2 ?_
   refine zD 3 ?_
   refine zD 4 ?_
   refine zD 5 ?_
   refine zD 6 ?_
   refine d_vars (A := [(12, 7, 38, _)]) hT ⟨⟨_, _, rfl⟩, rfl, trivial⟩ ?_
   refine a_callK 1000 7 rfl (by kernel_rfl) rfl rfl rfl (vok hT ⟨⟨_, _, rfl⟩, rfl, trivial⟩ (by kernel_rfl) (by kernel_rfl)) (vok hT ⟨⟨_, _, rfl⟩, rfl, trivial⟩ (by kernel_rfl) (by kernel_rfl)) rfl Tryz.call19 (ok_spec_RunOps (d := c) (l := (x.getD (n : Int).toNat default).2.1) (by omega)) (as_cons (ev_tmp rfl) (ag_agg (ag_cons ac_dv (ag_cons ac_dv (ag_cons (ac_key' rfl rfl) (ag_cons (ac_key' rfl rfl) ag_nil))))) (as_cons (ev_tmp rfl) (ag_one ac_dv) as_nil)) rfl rfl rfl rfl rfl ?_
   refine a_take 8 rfl (by kernel_rfl) rfl rfl rfl (vok hT ⟨⟨_, _, rfl⟩, rfl, trivial⟩ (by kernel_rfl) (by kernel_rfl)) (vok hT ⟨⟨_, _, rfl⟩, rfl, trivial⟩ (by kernel_rfl) (by kernel_rfl)) (pu_move (.inl rfl) (ev_tmp rfl)) rfl rfl rfl rfl ?_
   refine a_takeX 9 rfl (by kernel_rfl) rfl rfl rfl rfl (vok hT ⟨⟨_, _, rfl⟩, rfl, trivial⟩ (by kernel_rfl) (by kernel_rfl)) (vok hT ⟨⟨_, _, rfl⟩, rfl, trivial⟩ (by kernel_rfl) (by kernel_rfl)) (pu_extractA rfl (ev_tmp rfl) rfl) rfl rfl ?_
   refine a_takeX 10 rfl (by kernel_rfl) rfl rfl rfl rfl (vok hT ⟨⟨_, _, rfl⟩, rfl, trivial⟩ (by kernel_rfl) (by kernel_rfl)) (vok hT ⟨⟨_, _, rfl⟩, rfl, trivial⟩ (by kernel_rfl) (by kernel_rfl)) (pu_extract1 rfl (ev_tmp rfl) rfl) rfl rfl ?_
   refine a_takeX 11 rfl (by kernel_rfl) rfl rfl rfl rfl (vok hT ⟨⟨_, _, rfl⟩, rfl, trivial⟩ (by kernel_rfl) (by kernel_rfl)) (vok hT ⟨⟨_, _, rfl⟩, rfl, trivial⟩ (by kernel_rfl) (by kernel_rfl)) (pu_extract1 rfl (ev_tmp rfl) rfl) rfl rfl ?_
   refine a_exit1 (vok hT ⟨⟨_, _, rfl⟩, rfl, trivial⟩ (by kernel_rfl) (by kernel_rfl)) rfl rfl (by kernel_rfl) ?_
   dsimp only [addT, addB]
   refine d_chain [13, 14, 15] rfl rfl (by kernel_rfl) ?_
   iterate 3 refine z ?_
   refine ops_nil ?_
   exact then_n (weak_sub ⟨rfl, rfl, rfl, rfl, rfl, rfl, rfl, trivial⟩ ⟨rfl, rfl, rfl, rfl, rfl, trivial⟩ ⟨rfl, rfl, rfl, rfl, rfl, trivial⟩ rfl)
  refine ok_region ?_
  iterate 2 refine z ?_
  refine ops_nil ?_
  iterate 2 refine z ?_
  refine ok_weak (weak_swapB (b := 5) (i := 2) (k := 91031) (k' := 90031) rfl rfl rfl rfl (by simp) rfl rfl) ?_
  simp only [killT, killB, SV.kill, CV.kill, kk, Nat.reduceBEq]
  refine ok_weak (weak_swapB (b := 5) (i := 3) (k := 91900) (k' := 90900) rfl rfl rfl rfl (by simp) rfl rfl) ?_
  simp only [killT, killB, SV.kill, CV.kill, kk, Nat.reduceBEq]
  refine ok_region ?_
  iterate 4 refine z ?_
  refine ⟨(n + 1, (runOps c (x.getD (n : Int).toNat default).2.1).1), ?_, ?_, weak_sub ⟨rfl, rfl, rfl, rfl, trivial⟩ ⟨rfl, rfl, rfl, rfl, trivial⟩ ⟨rfl, rfl, trivial⟩ rfl⟩
  ·exact ⟨hn2, by show serial d x = _; rw [hi]; exact serial_step hn2, by dsimp only; omega⟩
  ·dsimp only; omega
 ·skip
  have d1 := of_decide_eq_false c1
  iterate 9 refine z ?_
  have hfin : serial d x = c := by rw [hi, List.drop_of_length_le (by omega)]; rfl
  rw [hfin]
  refine ok_weak (σ' := ⟨[(4, .box 4 0)], [(4, 38, [(.dv [] (.str (c.1))), (.dv [] (.int .i64 (c.2.1))), (.key 90031), (.key 90900)])], [(90031, some (kcOf false (storesD (c.2.2.1)))), (90900, some (kcOf false (defsD (c.2.2.2))))]⟩) (weak_sub ⟨rfl, trivial⟩ ⟨rfl, trivial⟩ ⟨rfl, rfl, trivial⟩ rfl) ?_
  refine z ?_
  refine fin1 (res_cell hT rfl rfl rfl rfl) ?_
  first | exact ⟨rfl, rfl⟩ | skip
theorem ok_laws_FnExactSerialRun {x0 : DbT} {x1 : List TxT}  : PFn Tryz.prog 5 [.agg [(.dv [] (.str (x0.1))), (.dv [] (.int .i64 (x0.2.1))), (.dv [] (storesD (x0.2.2.1))), (.dv [] (defsD (x0.2.2.2)))], .agg [(.dv [] (txsD (x1)))]] (.one (.dv [] (.bool (true)))) := by
 refine ⟨fn_intro Tryz.func5 rfl Tryz.ntmps5 Tryz.results5 rfl (fun C => ?_)⟩
 have hrw := serial_w x1 x0
 have : wDatabase x0 = (x0.1).size + wList wStore (x0.2.2.1) + wList wIndexDef (x0.2.2.2) := rfl
 have : wList wStore (x0.2.2.1) = (x0.2.2.1).length + wSum wStore (x0.2.2.1) := rfl
 have : wList wIndexDef (x0.2.2.2) = (x0.2.2.2).length + wSum wIndexDef (x0.2.2.2) := rfl
 have : wTxQueue x1 = wList wTx (x1) := rfl
 have : wList wTx (x1) = (x1).length + wSum wTx (x1) := rfl
 have := wSum_bound cStore_le (x0.2.2.1)
 have := wSum_bound cIndexDef_le (x0.2.2.2)
 have := wSum_bound cTx_le (x1)
 have : wDatabase (serial x0 x1) = ((serial x0 x1).1).size + wList wStore ((serial x0 x1).2.2.1) + wList wIndexDef ((serial x0 x1).2.2.2) := rfl
 have : wList wStore ((serial x0 x1).2.2.1) = ((serial x0 x1).2.2.1).length + wSum wStore ((serial x0 x1).2.2.1) := rfl
 have : wList wIndexDef ((serial x0 x1).2.2.2) = ((serial x0 x1).2.2.2).length + wSum wIndexDef ((serial x0 x1).2.2.2) := rfl
 have := wSum_bound cStore_le ((serial x0 x1).2.2.1)
 have := wSum_bound cIndexDef_le ((serial x0 x1).2.2.2)
 refine yF 0 0 rfl rfl fun f0_0 => ?_
 refine yF 0 1 rfl rfl fun f0_1 => ?_
 refine yF 0 2 rfl rfl fun f0_2 => ?_
 refine yF 0 3 rfl rfl fun f0_3 => ?_
 refine yF 1 0 rfl rfl fun f1_0 => ?_
 iterate 11 refine z ?_
 refine zC Tryz.call7 ?_ (hf := ok_laws_szDatabase (by omega) (by omega))
 iterate 7 refine z ?_
 refine yQ rfl (fun c1 => ?_) fun c1 => ?_
 ·skip
  have d1 := of_decide_eq_true c1
  first | have q1 := szR_n d1 | skip
  iterate 6 refine z ?_
  first | rfl | (exfalso; omega) | (exfalso; simp_all; done) | (exfalso; simp_all; omega)
 ·skip
  have d1 := of_decide_eq_false c1
  first | have q1 := szR_nn d1 | skip
  iterate 5 refine z ?_
  refine zC Tryz.call27 ?_ (hf := ok_laws_szTxQueue (by omega) (by omega))
  iterate 7 refine z ?_
  refine yQ rfl (fun c2 => ?_) fun c2 => ?_
  ·skip
   have d2 := of_decide_eq_true c2
   first | have q2 := szR_n d2 | skip
   iterate 6 refine z ?_
   first | rfl | (exfalso; omega) | (exfalso; simp_all; done) | (exfalso; simp_all; omega)
  ·skip
   have d2 := of_decide_eq_false c2
   first | have q2 := szR_nn d2 | skip
   iterate 2 refine z ?_
   refine ok_seq ?_
   refine ok_regionD (oB := [2, 3]) (oK := []) (by kernel_rfl) rfl rfl ?_
   refine zD 0 ?_
   refine zD 2 ?_
   refine d_vars (A := [(5, 6, 38, _)]) hT ⟨⟨_, _, rfl⟩, rfl, trivial⟩ ?_
   refine a_callK 25000 1 rfl (by kernel_rfl) rfl rfl rfl (vok hT ⟨⟨_, _, rfl⟩, rfl, trivial⟩ (by kernel_rfl) (by kernel_rfl)) (vok hT ⟨⟨_, _, rfl⟩, rfl, trivial⟩ (by kernel_rfl) (by kernel_rfl)) rfl Tryz.call10 (ok_laws_toDatabase (by first | omega | (simp only [wKey, wField, wRecord, wItem, wStore, wIndexDef, wDatabase, wOp, wTx, wTxQueue] at hb ⊢; omega) | (have hq := hw (by omega); omega))) (as_cons (ev_tmp rfl) (ag_agg (ag_cons ac_dv (ag_cons ac_dv (ag_cons ac_dv (ag_cons ac_dv ag_nil))))) as_nil) rfl rfl rfl rfl rfl ?_
   refine a_callK 27000 3 rfl (by kernel_rfl) rfl rfl rfl (vok hT ⟨⟨_, _, rfl⟩, rfl, trivial⟩ (by kernel_rfl) (by kernel_rfl)) (vok hT ⟨⟨_, _, rfl⟩, rfl, trivial⟩ (by kernel_rfl) (by kernel_rfl)) rfl Tryz.call29 (ok_laws_toTxQueue (by first | omega | (simp only [wKey, wField, wRecord, wItem, wStore, wIndexDef, wDatabase, wOp, wTx, wTxQueue] at hb ⊢; omega) | (have hq := hw (by omega); omega))) (as_cons (ev_tmp rfl) (ag_agg (ag_cons ac_dv ag_nil)) as_nil) rfl rfl rfl rfl rfl ?_
   refine a_callK 28000 4 rfl (by kernel_rfl) rfl rfl rfl (vok hT ⟨⟨_, _, rfl⟩, rfl, trivial⟩ (by kernel_rfl) (by kernel_rfl)) (vok hT ⟨⟨_, _, rfl⟩, rfl, trivial⟩ (by kernel_rfl) (by kernel_rfl)) rfl Tryz.call28 (ok_spec_SerialRun (by omega)) (as_cons (ev_tmp rfl) (ag_agg (ag_cons ac_dv (ag_cons ac_dv (ag_cons (ac_key' rfl rfl) (ag_cons (ac_key' rfl rfl) ag_nil))))) (as_cons (ev_tmp rfl) (ag_agg (ag_cons (ac_key' rfl rfl) ag_nil)) as_nil)) rfl rfl rfl rfl rfl ?_
   refine a_exit1 (vok hT ⟨⟨_, _, rfl⟩, rfl, trivial⟩ (by kernel_rfl) (by kernel_rfl)) rfl rfl (by kernel_rfl) ?_
   dsimp only [addT, addB]
   refine d_last 6 rfl (by kernel_rfl) rfl (by kernel_rfl) (ef_storeBox hT rfl rfl rfl (ev_tmp rfl) (ev_tmp rfl) rfl rfl rfl rfl rfl rfl) (by kernel_rfl) ?_
   iterate 3 refine z ?_
   refine zK 30000 Tryz.call10 ?_ (hf := ok_laws_toDatabase (by first | omega | (simp only [wKey, wField, wRecord, wItem, wStore, wIndexDef, wDatabase, wOp, wTx, wTxQueue] at hb ⊢; omega) | (have hq := hw (by omega); omega)))
   iterate 5 refine z ?_
   refine zK 32000 Tryz.call29 ?_ (hf := ok_laws_toTxQueue (by first | omega | (simp only [wKey, wField, wRecord, wItem, wStore, wIndexDef, wDatabase, wOp, wTx, wTxQueue] at hb ⊢; omega) | (have hq := hw (by omega); omega)))
   iterate 6 refine z ?_
   refine o_callK 35000 rfl rfl rfl Tryz.call30 (ok_impl_SerialRun (by omega)) (as_cons (ev_tmp rfl) (ag_agg (ag_cons ac_dv (ag_cons ac_dv (ag_cons (ac_key' rfl rfl) (ag_cons (ac_key' rfl rfl) ag_nil))))) (as_cons (ev_tmp rfl) (ag_agg (ag_cons (ac_key' rfl rfl) ag_nil)) as_nil)) rfl rfl rfl ?_
   iterate 7 refine z ?_
   refine o_call rfl rfl rfl Tryz.call13 ok_laws_eqDatabase (as_cons (ev_tmp rfl) (ag_agg (ag_cons ac_dv (ag_cons ac_dv (ag_cons (ac_key' rfl rfl) (ag_cons (ac_key' rfl rfl) ag_nil))))) (as_cons (ev_tmp rfl) (ag_agg (ag_cons ac_dv (ag_cons ac_dv (ag_cons (ac_key' rfl rfl) (ag_cons (ac_key' rfl rfl) ag_nil))))) as_nil)) rfl rfl ?_
   iterate 2 refine z ?_
   refine yQ rfl (fun c3 => ?_) fun c3 => ?_
   ·skip
    iterate 6 refine z ?_
    first | rfl | (exfalso; omega) | (exfalso; simp_all; done) | (exfalso; simp_all; omega)
   ·skip
    iterate 2 refine z ?_
    refine ok_seq ?_
    refine ok_seq ?_
    refine ok_regionD (oB := [2, 3, 6, 7, 8, 9]) (oK := [33007, 37007, 38007, 41007, 42007, 46007, 118031, 118900, 125031, 125900]) (by kernel_rfl) rfl rfl ?_
    refine zD 0 ?_
    refine zD 1 ?_
    refine d_callK 42000 2 rfl (by kernel_rfl) rfl rfl rfl Tryz.call10 (ok_laws_toDatabase (by first | omega | (simp only [wKey, wField, wRecord, wItem, wStore, wIndexDef, wDatabase, wOp, wTx, wTxQueue] at hb ⊢; omega) | (have hq := hw (by omega); omega))) (as_cons (ev_tmp rfl) (ag_agg (ag_cons ac_dv (ag_cons ac_dv (ag_cons ac_dv (ag_cons ac_dv ag_nil))))) as_nil) rfl rfl rfl rfl rfl ?_
    refine d_call 3 rfl (by kernel_rfl) rfl rfl rfl Tryz.call13 ok_laws_eqDatabase (as_cons (ev_tmp rfl) (ag_agg (ag_cons ac_dv (ag_cons ac_dv (ag_cons (ac_key' rfl rfl) (ag_cons (ac_key' rfl rfl) ag_nil))))) (as_cons (ev_tmp rfl) (ag_agg (ag_cons ac_dv (ag_cons ac_dv (ag_cons (ac_key' rfl rfl) (ag_cons (ac_key' rfl rfl) ag_nil))))) as_nil)) rfl rfl rfl rfl ?_
    refine zD 4 ?_
    refine d_done (by kernel_rfl) ?_
    refine z ?_
    refine yQ rfl (fun c4 => ?_) fun c4 => ?_
    ·skip
     iterate 6 refine z ?_
     first | rfl | (exfalso; omega) | (exfalso; simp_all; done) | (exfalso; simp_all; omega)
    ·skip
     iterate 2 refine z ?_
     refine ok_seq ?_
     refine ok_seq ?_
     refine ok_regionD (oB := [2, 3, 6, 7, 8, 9]) (oK := [33007, 37007, 38007, 41007, 42007, 46007, 54007, 58007, 118031, 118900, 125031, 125900]) (by kernel_rfl) rfl rfl ?_
     refine zD 0 ?_
     refine zD 1 ?_
     refine d_callK 47000 2 rfl (by kernel_rfl) rfl rfl rfl Tryz.call29 (ok_laws_toTxQueue (by first | omega | (simp only [wKey, wField, wRecord, wItem, wStore, wIndexDef, wDatabase, wOp, wTx, wTxQueue] at hb ⊢; omega) | (have hq := hw (by omega); omega))) (as_cons (ev_tmp rfl) (ag_agg (ag_cons ac_dv ag_nil)) as_nil) rfl rfl rfl rfl rfl ?_
     refine d_call 3 rfl (by kernel_rfl) rfl rfl rfl Tryz.call31 ok_laws_eqTxQueue (as_cons (ev_tmp rfl) (ag_agg (ag_cons (ac_key' rfl rfl) ag_nil)) (as_cons (ev_tmp rfl) (ag_agg (ag_cons (ac_key' rfl rfl) ag_nil)) as_nil)) rfl rfl rfl rfl ?_
     refine zD 4 ?_
     refine d_done (by kernel_rfl) ?_
     refine z ?_
     refine yQ rfl (fun c5 => ?_) fun c5 => ?_
     ·skip
      iterate 6 refine z ?_
      first | rfl | (exfalso; omega) | (exfalso; simp_all; done) | (exfalso; simp_all; omega)
     ·skip
      iterate 8 refine z ?_
      refine o_callW [(0, 42007, ⟨false, _, _, _, _⟩, ⟨false, _, _, _, _⟩), (1, 46007, ⟨false, _, _, _, _⟩, ⟨false, _, _, _, _⟩)] rfl rfl rfl Tryz.call15 (ok_laws_markDatabase (x := x0) (by omega) (by omega)) ⟨rfl, rfl, trivial⟩ rfl (aw_cons (ev_tmp rfl) (aw_agg (awc_cons (awc_dv rfl) (awc_cons (awc_dv rfl) (awc_cons (awc_key rfl) (awc_cons (awc_key rfl) awc_nil))))) (aw_cons (ev_tmp rfl) (aw_one (awc_dv rfl)) aw_nil)) rfl rfl ?_
      simp only [killT, killB, SV.kill, CV.kill, kk, Nat.reduceBEq]
      iterate 5 refine z ?_
      refine o_callW [(0, 38007, ⟨false, _, _, _, _⟩, ⟨false, _, _, _, _⟩)] rfl rfl rfl Tryz.call32 (ok_laws_markTxQueue (x := x1) (by omega) (by omega)) ⟨rfl, trivial⟩ rfl (aw_cons (ev_tmp rfl) (aw_agg (awc_cons (awc_key rfl) awc_nil)) (aw_cons (ev_tmp rfl) (aw_one (awc_dv rfl)) aw_nil)) rfl rfl ?_
      simp only [killT, killB, SV.kill, CV.kill, kk, Nat.reduceBEq]
      iterate 9 refine z ?_
      refine o_callG (gd_bool rfl rfl rfl rfl rfl) rfl rfl Tryz.call13 ok_laws_eqDatabase (fun hg => (as_cons (ev_opt rfl hg) (ag_agg (ag_cons ac_dv (ag_cons ac_dv (ag_cons (ac_key' rfl rfl) (ag_cons (ac_key' rfl rfl) ag_nil))))) (as_cons (ev_opt rfl hg) (ag_agg (ag_cons ac_dv (ag_cons ac_dv (ag_cons (ac_key' rfl rfl) (ag_cons (ac_key' rfl rfl) ag_nil))))) as_nil))) rfl rfl ?_
      iterate 3 refine z ?_
      refine yQ rfl (fun c6 => ?_) fun c6 => ?_
      ·skip
       iterate 6 refine z ?_
       first | rfl | (exfalso; omega) | (exfalso; simp_all; done) | (exfalso; simp_all; omega)
      ·skip
       iterate 8 refine z ?_
       refine o_callW [(0, 125031, ⟨false, _, _, _, _⟩, ⟨false, _, _, _, _⟩), (1, 125900, ⟨false, _, _, _, _⟩, ⟨false, _, _, _, _⟩)] rfl rfl rfl Tryz.call15 (ok_laws_markDatabase (x := (serial x0 x1)) (by omega) (by omega)) ⟨rfl, rfl, trivial⟩ rfl (aw_cons (ev_tmp rfl) (aw_agg (awc_cons (awc_dv rfl) (awc_cons (awc_dv rfl) (awc_cons (awc_key rfl) (awc_cons (awc_key rfl) awc_nil))))) (aw_cons (ev_tmp rfl) (aw_one (awc_dv rfl)) aw_nil)) rfl rfl ?_
       simp only [killT, killB, SV.kill, CV.kill, kk, Nat.reduceBEq]
       iterate 8 refine z ?_
       refine o_call rfl rfl rfl Tryz.call17 (ok_laws_heldDatabase (x := (serial x0 x1)) rfl (by omega) (by omega)) (as_cons (ev_tmp rfl) (ag_agg (ag_cons ac_dv (ag_cons ac_dv (ag_cons (ac_key' rfl rfl) (ag_cons (ac_key' rfl rfl) ag_nil))))) (as_cons (ev_tmp rfl) (ag_one ac_dv) as_nil)) rfl rfl ?_
       iterate 7 refine z ?_
       refine yQ rfl (fun c7 => ?_) fun c7 => ?_
       ·skip
        have d7 := of_decide_eq_true c7
        first | have q7 := szR_n d7 | skip
        iterate 6 refine z ?_
        first | rfl | (exfalso; omega) | (exfalso; simp_all; done) | (exfalso; simp_all; omega)
       ·skip
        have d7 := of_decide_eq_false c7
        first | have q7 := szR_nn d7 | skip
        iterate 8 refine z ?_
        refine yQ rfl (fun c8 => ?_) fun c8 => ?_
        ·skip
         have d8 := nd_t c8
         iterate 6 refine z ?_
         first | rfl | (exfalso; omega) | (exfalso; simp_all; done) | (exfalso; simp_all; omega)
        ·skip
         have d8 := nd_f c8
         iterate 2 refine z ?_
         refine ok_seq ?_
         refine ok_regionD (oB := [2, 3, 6, 7, 8, 9]) (oK := [33007, 37007, 38007, 41007, 42007, 46007, 53007, 54007, 58007, 118031, 118900, 125031, 125900]) (by kernel_rfl) rfl rfl ?_
         refine zD 0 ?_
         refine zD 2 ?_
         refine d_vars (A := [(5, 13, 38, _)]) hT ⟨⟨_, _, rfl⟩, rfl, trivial⟩ ?_
         refine a_callK 76000 1 rfl (by kernel_rfl) rfl rfl rfl (vok hT ⟨⟨_, _, rfl⟩, rfl, trivial⟩ (by kernel_rfl) (by kernel_rfl)) (vok hT ⟨⟨_, _, rfl⟩, rfl, trivial⟩ (by kernel_rfl) (by kernel_rfl)) rfl Tryz.call10 (ok_laws_toDatabase (by first | omega | (simp only [wKey, wField, wRecord, wItem, wStore, wIndexDef, wDatabase, wOp, wTx, wTxQueue] at hb ⊢; omega) | (have hq := hw (by omega); omega))) (as_cons (ev_tmp rfl) (ag_agg (ag_cons ac_dv (ag_cons ac_dv (ag_cons ac_dv (ag_cons ac_dv ag_nil))))) as_nil) rfl rfl rfl rfl rfl ?_
         refine a_callK 78000 3 rfl (by kernel_rfl) rfl rfl rfl (vok hT ⟨⟨_, _, rfl⟩, rfl, trivial⟩ (by kernel_rfl) (by kernel_rfl)) (vok hT ⟨⟨_, _, rfl⟩, rfl, trivial⟩ (by kernel_rfl) (by kernel_rfl)) rfl Tryz.call29 (ok_laws_toTxQueue (by first | omega | (simp only [wKey, wField, wRecord, wItem, wStore, wIndexDef, wDatabase, wOp, wTx, wTxQueue] at hb ⊢; omega) | (have hq := hw (by omega); omega))) (as_cons (ev_tmp rfl) (ag_agg (ag_cons ac_dv ag_nil)) as_nil) rfl rfl rfl rfl rfl ?_
         refine a_callK 79000 4 rfl (by kernel_rfl) rfl rfl rfl (vok hT ⟨⟨_, _, rfl⟩, rfl, trivial⟩ (by kernel_rfl) (by kernel_rfl)) (vok hT ⟨⟨_, _, rfl⟩, rfl, trivial⟩ (by kernel_rfl) (by kernel_rfl)) rfl Tryz.call30 (ok_impl_SerialRun (by omega)) (as_cons (ev_tmp rfl) (ag_agg (ag_cons ac_dv (ag_cons ac_dv (ag_cons (ac_key' rfl rfl) (ag_cons (ac_key' rfl rfl) ag_nil))))) (as_cons (ev_tmp rfl) (ag_agg (ag_cons (ac_key' rfl rfl) ag_nil)) as_nil)) rfl rfl rfl rfl rfl ?_
         refine a_exit1 (vok hT ⟨⟨_, _, rfl⟩, rfl, trivial⟩ (by kernel_rfl) (by kernel_rfl)) rfl rfl (by kernel_rfl) ?_
         dsimp only [addT, addB]
         refine d_last 6 rfl (by kernel_rfl) rfl (by kernel_rfl) (ef_storeBox hT rfl rfl rfl (ev_tmp rfl) (ev_tmp rfl) rfl rfl rfl rfl rfl rfl) (by kernel_rfl) ?_
         iterate 5 refine z ?_
         refine o_call rfl rfl rfl Tryz.call13 ok_laws_eqDatabase (as_cons (ev_tmp rfl) (ag_agg (ag_cons ac_dv (ag_cons ac_dv (ag_cons (ac_key' rfl rfl) (ag_cons (ac_key' rfl rfl) ag_nil))))) (as_cons (ev_tmp rfl) (ag_agg (ag_cons ac_dv (ag_cons ac_dv (ag_cons (ac_key' rfl rfl) (ag_cons (ac_key' rfl rfl) ag_nil))))) as_nil)) rfl rfl ?_
         iterate 2 refine z ?_
         refine yQ rfl (fun c9 => ?_) fun c9 => ?_
         ·skip
          iterate 6 refine z ?_
          first | rfl | (exfalso; omega) | (exfalso; simp_all; done) | (exfalso; simp_all; omega)
         ·skip
          iterate 8 refine z ?_
          refine o_call rfl rfl rfl Tryz.call17 (ok_laws_heldDatabase (x := (serial x0 x1)) rfl (by omega) (by omega)) (as_cons (ev_tmp rfl) (ag_agg (ag_cons ac_dv (ag_cons ac_dv (ag_cons (ac_key' rfl rfl) (ag_cons (ac_key' rfl rfl) ag_nil))))) (as_cons (ev_tmp rfl) (ag_one ac_dv) as_nil)) rfl rfl ?_
          iterate 7 refine z ?_
          refine yQ rfl (fun c10 => ?_) fun c10 => ?_
          ·skip
           have d10 := of_decide_eq_true c10
           first | have q10 := szR_n d10 | skip
           iterate 6 refine z ?_
           first | rfl | (exfalso; omega) | (exfalso; simp_all; done) | (exfalso; simp_all; omega)
          ·skip
           have d10 := of_decide_eq_false c10
           first | have q10 := szR_nn d10 | skip
           iterate 8 refine z ?_
           refine yQ rfl (fun c11 => ?_) fun c11 => ?_
           ·skip
            have d11 := nd_t c11
            iterate 6 refine z ?_
            first | rfl | (exfalso; omega) | (exfalso; simp_all; done) | (exfalso; simp_all; omega)
           ·skip
            have d11 := nd_f c11
            iterate 7 refine z ?_
            first | rfl | (exfalso; omega) | (exfalso; simp_all; done) | (exfalso; simp_all; omega)
end Go.Proofs.YtmgijbhikmjfjaaGreat

namespace Go.Proofs.YtmgijbhikmjfjaaGreat
open Go.RowKit
open Go.Proofs
set_option linter.unusedVariables false
set_option linter.unusedSimpArgs false

section
variable {α : Type} {enc : α → List DV} {sz : Nat} {xs : List α} {n : Nat}
theorem flat_pre (hs : ∀ y, (enc y).length = sz) (h : n ≤ xs.length) : ((xs.take n).flatMap enc).length = n * sz := by rw [fl_len hs, List.length_take, Nat.min_eq_left h]
theorem flat_set (h : n < xs.length) (y : α) : mid ((xs.take n).flatMap enc) (enc y) ((xs.drop (n + 1)).flatMap enc) = (xs.set n y).flatMap enc := by
 rw [List.set_eq_take_append_cons_drop, if_pos h, List.flatMap_append, List.flatMap_cons]; unfold mid; simp
theorem flat_open [Inhabited α] {t : α} (h : n < xs.length) (ht : t = xs.getD n default) : xs.flatMap enc = mid ((xs.take n).flatMap enc) (enc t) ((xs.drop (n + 1)).flatMap enc) := by
 rw [flat_set h]
 have e : xs.set n t = xs := by
  subst ht
  apply List.ext_getElem?
  intro j
  rw [List.getElem?_set]
  by_cases h' : n = j
  ·subst h'; simp [h, List.getD]
  ·simp [h']
 rw [e]
theorem fin_set {e : Nat} (h : n < xs.length) (y : α) : some (some (KC.mk false e sz xs.length (mid ((xs.take n).flatMap enc) (enc y) ((xs.drop (n + 1)).flatMap enc)))) = some (some (KC.mk false e sz (xs.set n y).length ((xs.set n y).flatMap enc))) := by rw [flat_set h, List.length_set]
end
def restL : DbT → List StoreT → DbT
 | d, [] => d
 | d, s :: l => restL (if 0 ≤ fndS d s.1 then putS d (fndS d s.1).toNat s else d) l
theorem rest_step {c : DbT} {l : List StoreT} {n : Nat} (h : n < l.length) : restL c (l.drop n) = restL (if 0 ≤ fndS c (l.getD (n : Int).toNat default).1 then putS c (fndS c (l.getD (n : Int).toNat default).1).toNat (l.getD (n : Int).toNat default) else c) (l.drop (n + 1)) := by
 have e : l.drop n = l.getD (n : Int).toNat default :: l.drop (n + 1) := by rw [List.drop_eq_getElem_cons h]; simp [List.getD, List.getElem?_eq_getElem h]
 rw [e, restL]
theorem putS_w (d : DbT) (i : Nat) (s : StoreT) : wDatabase (putS d i s) ≤ wDatabase d + wStore s := by
 have h3 := wset_le (w := wStore) (y := s) d.2.2.1 i
 have h4 : wDatabase d = d.1.size + wList wStore d.2.2.1 + wList wIndexDef d.2.2.2 := rfl
 have h5 : wDatabase (putS d i s) = d.1.size + wList wStore (d.2.2.1.set i s) + wList wIndexDef d.2.2.2 := rfl
 have h6 : wList wStore d.2.2.1 = d.2.2.1.length + wSum wStore d.2.2.1 := rfl
 have h7 : wList wStore (d.2.2.1.set i s) = (d.2.2.1.set i s).length + wSum wStore (d.2.2.1.set i s) := rfl
 rw [List.length_set] at h7
 omega
theorem restL_w : ∀ (l : List StoreT) (d : DbT), wDatabase (restL d l) ≤ wDatabase d + wSum wStore l
 | [], d => by simp [restL, wSum]
 | s :: l, d => by
  have e : wSum wStore (s :: l) = wStore s + wSum wStore l := by simp [wSum]
  rw [restL]
  split
  ·have h1 := restL_w l (putS d (fndS d s.1).toNat s)
   have h2 := putS_w d (fndS d s.1).toNat s
   omega
  ·have h1 := restL_w l d
   omega
theorem runOp_same {d : DbT} {o : OpT} (h : (runOp d o).2.2 = false) : (runOp d o).1 = d := by
 unfold runOp at h ⊢
 split
 ·rfl
 ·rename_i h1
  rw [if_neg h1] at h
  split
  ·rfl
  ·rename_i h2
   rw [if_neg h2] at h; cases h
def tin (t : TxT) (a : Int) : Bool := decide (0 ≤ a) && decide (a ≤ (t.2.1.length : Int) - 1)
def opOf (t : TxT) : OpT := t.2.1.getD (t.2.2.1).toNat default
def stpBad (q : List TxT) (i : Int) : Bool := (decide (i < 0) || decide ((q.length : Int) ≤ i)) || !decide ((q.getD i.toNat default).2.2.2.1 = 1)
def stepAt (d : DbT) (q : List TxT) (n : Nat) (t : TxT) : DbT × List TxT × Bool :=
 if tin t t.2.2.1 = true then
  if (runOp d (opOf t)).2.2 = true then ((runOp d (opOf t)).1, q.set n (if tin t (t.2.2.1 + 1) = true then (t.1, t.2.1, t.2.2.1 + 1, t.2.2.2.1, t.2.2.2.2) else (t.1, t.2.1, t.2.2.1 + 1, 2, [])), true)
  else (restL d t.2.2.2.2, q.set n (t.1, t.2.1, t.2.2.1 + 1, 3, []), true)
 else (d, q.set n (t.1, t.2.1, t.2.2.1, 2, []), true)
def stepTx (d : DbT) (q : List TxT) (i : Int) : DbT × List TxT × Bool := if stpBad q i = true then (d, q, false) else stepAt d q i.toNat (q.getD i.toNat default)
theorem st_bad2 (q : List TxT) (i : Int) : (!(decide (0 ≤ i) && decide (i ≤ (q.length : Int) - 1)) || !decide ((q.getD i.toNat default).2.2.2.1 = 1)) = stpBad q i := by
 unfold stpBad
 congr 1
 by_cases h1 : 0 ≤ i <;> by_cases h2 : i ≤ (q.length : Int) - 1
 ·simp [h1, h2, show ¬ i < 0 by omega, show ¬ (q.length : Int) ≤ i by omega]
 ·simp [h1, h2, show (q.length : Int) ≤ i by omega]
 ·simp [h1, show i < 0 by omega]
 ·simp [h1, show i < 0 by omega]
theorem st_good {q : List TxT} {i : Int} (h : stpBad q i = false) : 0 ≤ i ∧ i < (q.length : Int) ∧ (q.getD i.toNat default).2.2.2.1 = 1 := by
 unfold stpBad at h
 simp only [Bool.or_eq_false_iff, decide_eq_false_iff_not, Bool.not_eq_false', decide_eq_true_eq] at h
 omega
section
variable {d : DbT} {q : List TxT} {i : Int} {t : TxT}
theorem step_bad (h : stpBad q i = true) : stepTx d q i = (d, q, false) := by rw [stepTx, if_pos h]
theorem step_at (h : stpBad q i = false) (ht : t = q.getD i.toNat default) : stepTx d q i = stepAt d q i.toNat t := by rw [stepTx, if_neg (by rw [h]; simp), ht]
theorem step_no (h : stpBad q i = false) (ht : t = q.getD i.toNat default) (h1 : tin t t.2.2.1 = false) : stepTx d q i = (d, q.set i.toNat (t.1, t.2.1, t.2.2.1, 2, []), true) := by rw [step_at h ht, stepAt, if_neg (by rw [h1]; simp)]
theorem step_fail (h : stpBad q i = false) (ht : t = q.getD i.toNat default) (h1 : tin t t.2.2.1 = true) (h2 : (runOp d (opOf t)).2.2 = false) : stepTx d q i = (restL d t.2.2.2.2, q.set i.toNat (t.1, t.2.1, t.2.2.1 + 1, 3, []), true) := by rw [step_at h ht, stepAt, if_pos h1, if_neg (by rw [h2]; simp)]
theorem step_go (h : stpBad q i = false) (ht : t = q.getD i.toNat default) (h1 : tin t t.2.2.1 = true) (h2 : (runOp d (opOf t)).2.2 = true) (h3 : tin t (t.2.2.1 + 1) = true) : stepTx d q i = ((runOp d (opOf t)).1, q.set i.toNat (t.1, t.2.1, t.2.2.1 + 1, t.2.2.2.1, t.2.2.2.2), true) := by rw [step_at h ht, stepAt, if_pos h1, if_pos h2, if_pos h3]
theorem step_end (h : stpBad q i = false) (ht : t = q.getD i.toNat default) (h1 : tin t t.2.2.1 = true) (h2 : (runOp d (opOf t)).2.2 = true) (h3 : tin t (t.2.2.1 + 1) = false) : stepTx d q i = ((runOp d (opOf t)).1, q.set i.toNat (t.1, t.2.1, t.2.2.1 + 1, 2, []), true) := by rw [step_at h ht, stepAt, if_pos h1, if_pos h2, if_neg (by rw [h3]; simp)]
theorem tin_bd {a : Int} (h : tin t a = true) : 0 ≤ a ∧ a < (t.2.1.length : Int) := by
 unfold tin at h
 simp only [Bool.and_eq_true, decide_eq_true_eq] at h
 omega
theorem tin_y {a : Int} (h1 : t.2.2.2.1 = 1) (h : (decide (t.2.2.2.1 = 1) && !(decide (0 ≤ a) && decide (a ≤ (t.2.1.length : Int) - 1))) = true) : tin t a = false := by
 rw [h1] at h
 unfold tin
 simpa only [decide_true, Bool.true_and, Bool.not_eq_true'] using h
theorem tin_n {a : Int} (h1 : t.2.2.2.1 = 1) (h : (decide (t.2.2.2.1 = 1) && !(decide (0 ≤ a) && decide (a ≤ (t.2.1.length : Int) - 1))) = false) : tin t a = true := by
 rw [h1] at h
 unfold tin
 simpa only [decide_true, Bool.true_and, Bool.not_eq_false'] using h
theorem tx_w (h : i.toNat < q.length) (ht : t = q.getD i.toNat default) : wTx t ≤ wList wTx q := by
 have h1 := (wSum_succ wTx q i.toNat h).1
 have h2 := wSum_le wTx q (i.toNat + 1)
 have h3 : wList wTx q = q.length + wSum wTx q := rfl
 have e : q.getD ((i.toNat : Nat) : Int).toNat default = t := by rw [ht]; congr 1
 rw [e] at h1
 omega
end

theorem ok_spec_l10Restore {d : DbT} {l : List StoreT} (hb : wDatabase d ≤ 549755813888) (hl : wList wStore l ≤ 549755813888) : KFn Tryz.prog 71 [.agg [(.dv [] (.str (d.1))), (.dv [] (.int .i64 (d.2.1))), (.dv [] (storesD (d.2.2.1))), (.dv [] (defsD (d.2.2.2)))], .one (.dv [] (storesD (l)))] (.agg [(.dv [] (.str ((restL d l).1))), (.dv [] (.int .i64 ((restL d l).2.1))), (.key 90031), (.key 90900)]) [(90031, some (kcOf false (storesD ((restL d l).2.2.1)))), (90900, some (kcOf false (defsD ((restL d l).2.2.2))))] := by
 refine ⟨fn_intro Tryz.func71 rfl Tryz.ntmps71 Tryz.results71 rfl (fun C => ?_)⟩
 have hwl : wList wStore l = l.length + wSum wStore l := rfl
 refine yF 0 0 rfl rfl fun f0_0 => ?_
 refine yF 0 1 rfl rfl fun f0_1 => ?_
 refine yF 0 2 rfl rfl fun f0_2 => ?_
 refine yF 0 3 rfl rfl fun f0_3 => ?_
 refine ok_fact (x := .tmp 1) (ev_tmp rfl) fun f1 => ?_
 iterate 6 refine z ?_
 refine zK 90000 Tryz.call40 ?_ (hf := ok_spec_l8Copy (x := d) (by omega))
 iterate 8 refine z ?_
 refine ok_loop (ι := Nat × DbT) (fun zz => ⟨[(1, .one (.dv [] (storesD (l)))), (4, .box 4 0), (5, .box 5 0), (6, .one (.dv [] (.int .i64 ((zz.1 : Int)))))], [(2, 38, [(.dv [] (.str (d.1))), (.dv [] (.int .i64 (d.2.1))), (.dv [] (storesD (d.2.2.1))), (.dv [] (defsD (d.2.2.2)))]), (4, 38, [(.dv [] (.str (ByteArray.empty))), (.dv [] (.int .i64 (0))), .nil, .nil]), (5, 38, [(.dv [] (.str (zz.2.1))), (.dv [] (.int .i64 (zz.2.2.1))), (.key 90031), (.key 90900)])], [(90031, some (kcOf false (.sl 91 3 (zz.2.2.2.1.length) (zz.2.2.2.1.flatMap eStore)))), (90900, some (kcOf false (.sl 127 2 (zz.2.2.2.2.length) (zz.2.2.2.2.flatMap eDef))))]⟩) (fun zz => zz.1 ≤ l.length ∧ restL d l = restL zz.2 (l.drop zz.1)) (fun zz => l.length - zz.1) ((0, d)) ?_ (weak_sub ⟨rfl, rfl, rfl, rfl, trivial⟩ ⟨rfl, rfl, rfl, trivial⟩ ⟨rfl, rfl, trivial⟩ rfl) (fun zz hx => ?_)
 ·exact ⟨Nat.zero_le _, by simp⟩
 obtain ⟨n, c⟩ := zz
 replace hx : n ≤ l.length ∧ restL d l = restL c (l.drop n) := hx
 obtain ⟨hn, hi⟩ := hx
 have hw := fun h => wSum_succ wStore l n h
 have hwle := wSum_le wStore l (n + 1)
 show Ok _ _ _ _ _ (⟨[(1, .one (.dv [] (storesD (l)))), (4, .box 4 0), (5, .box 5 0), (6, .one (.dv [] (.int .i64 ((n : Int)))))], [(2, 38, [(.dv [] (.str (d.1))), (.dv [] (.int .i64 (d.2.1))), (.dv [] (storesD (d.2.2.1))), (.dv [] (defsD (d.2.2.2)))]), (4, 38, [(.dv [] (.str (ByteArray.empty))), (.dv [] (.int .i64 (0))), .nil, .nil]), (5, 38, [(.dv [] (.str (c.1))), (.dv [] (.int .i64 (c.2.1))), (.key 90031), (.key 90900)])], [(90031, some (kcOf false (.sl 91 3 (c.2.2.1.length) (c.2.2.1.flatMap eStore)))), (90900, some (kcOf false (.sl 127 2 (c.2.2.2.length) (c.2.2.2.flatMap eDef))))]⟩ : St)
 iterate 7 refine z ?_
 refine yQ rfl (fun c1 => ?_) fun c1 => ?_
 ·skip
  have d1 := of_decide_eq_true c1
  have hn2 : n < l.length := by omega
  obtain ⟨hw1, hw2⟩ := hw hn2
  have hrs := rest_step (c := c) hn2
  iterate 4 refine z ?_
  refine ok_seq ?_
  refine ok_regionD (oB := [2, 4, 5]) (oK := [90031, 90900]) (by kernel_rfl) rfl rfl ?_
  refine zD 0 ?_
  refine zD 1 ?_
  refine zD 2 ?_
  refine zD 3 ?_
  refine zD 4 ?_
  refine zD 5 ?_
  refine d_call 6 rfl (by kernel_rfl) rfl rfl rfl Tryz.call41 (ok_spec_FindStore (x := c) (n := (l.getD (n : Int).toNat default).1)) (as_cons (ev_tmp rfl) (ag_agg (ag_cons ac_dv (ag_cons ac_dv (ag_cons (ac_key' rfl rfl) (ag_cons (ac_key' rfl rfl) ag_nil))))) (as_cons (ev_tmp rfl) (ag_one ac_dv) as_nil)) rfl rfl rfl rfl ?_
  refine zD 7 ?_
  refine d_done (by kernel_rfl) ?_
  iterate 5 refine z ?_
  refine yQ rfl (fun c2 => ?_) fun c2 => ?_
  ·skip
   have d2 := of_decide_eq_true c2
   have hlt : (findI (hasName (l.getD (n : Int).toNat default).1) c.2.2.1 0) < c.2.2.1.length := fndS_lt c (l.getD (n : Int).toNat default).1
   have hkn : (findI (hasName (l.getD (n : Int).toNat default).1) c.2.2.1 0).toNat < c.2.2.1.length := by omega
   rw [if_pos (show 0 ≤ fndS c (l.getD (n : Int).toNat default).1 from d2)] at hrs
   refine ok_regionD (oB := [2, 4, 5]) (oK := [90031, 90900]) (by kernel_rfl) rfl rfl ?_
   refine zD 0 ?_
   refine zD 1 ?_
   refine zD 2 ?_
   refine zD 3 ?_
   refine zD 4 ?_
   refine zD 5 ?_
   refine zD 6 ?_
   refine d_callK 96970 7 rfl (by kernel_rfl) rfl rfl rfl Tryz.call79 (ok_spec_l6Copy (x := (l.getD (n : Int).toNat default)) (by omega)) (as_cons (ev_tmp rfl) (ag_agg (ag_cons ac_dv (ag_cons ac_dv (ag_cons ac_dv ag_nil)))) as_nil) rfl rfl rfl rfl rfl ?_
   refine d_take 8 rfl (by kernel_rfl) rfl rfl (pu_indexK (i := (findI (hasName ((l.getD (n : Int).toNat default).1)) (c).2.2.1 0).toNat) hT rfl rfl rfl (ev_tmp rfl) rfl (ev_tmp rfl) (by omega) (by show _ < (c.2.2.1.length); omega)) rfl rfl rfl rfl ?_
   refine d_chain [9] rfl rfl (by kernel_rfl) ?_
   refine o_storeE (js := [97000]) (cs := (c.2.2.1.set (findI (hasName (l.getD (n : Int).toNat default).1) c.2.2.1 0).toNat (l.getD (n : Int).toNat default)).flatMap eStore) hT rfl rfl rfl rfl (ev_tmp rfl) (ev_tmp rfl) rfl rfl rfl rfl (ow_cons' (ow_dv rfl) (ow_cons' (ow_key rfl) (ow_cons' (ow_dv rfl) ow_nil rfl) rfl) rfl) (by decide) (by decide) rfl (by show _ ≤ List.length (c.2.2.1.flatMap eStore); exact el_le (enc := eStore) (sz := 3) (fun _ => rfl) hkn) (el_set (enc := eStore) (sz := 3) (fun _ => rfl) hkn (l.getD (n : Int).toNat default)) ?_
   simp only [killT, killB, SV.kill, CV.kill, kk, Nat.reduceBEq]
   refine ops_nil ?_
   iterate 2 refine z ?_
   refine ok_region ?_
   iterate 4 refine z ?_
   refine ⟨(n + 1, putS c (findI (hasName (l.getD (n : Int).toNat default).1) c.2.2.1 0).toNat (l.getD (n : Int).toNat default)), ?_, ?_, weak_sub ⟨rfl, rfl, rfl, rfl, trivial⟩ ⟨rfl, rfl, rfl, trivial⟩ ⟨(congrArg (fun m => some (some (KC.mk false 91 3 m ((c.2.2.1.set (findI (hasName (l.getD (n : Int).toNat default).1) c.2.2.1 0).toNat (l.getD (n : Int).toNat default)).flatMap eStore)))) (List.length_set).symm), rfl, trivial⟩ rfl⟩
   ·exact ⟨hn2, by rw [hi]; exact hrs⟩
   ·dsimp only; omega
  ·skip
   have d2 := of_decide_eq_false c2
   rw [if_neg (show ¬ 0 ≤ fndS c (l.getD (n : Int).toNat default).1 from d2)] at hrs
   iterate 3 refine z ?_
   refine ok_region ?_
   iterate 4 refine z ?_
   refine ⟨(n + 1, c), ?_, ?_, weak_sub ⟨rfl, rfl, rfl, rfl, trivial⟩ ⟨rfl, rfl, rfl, trivial⟩ ⟨rfl, rfl, trivial⟩ rfl⟩
   ·exact ⟨hn2, by rw [hi]; exact hrs⟩
   ·dsimp only; omega
 ·skip
  have d1 := of_decide_eq_false c1
  iterate 9 refine z ?_
  have hfin : restL d l = c := by rw [hi, List.drop_of_length_le (by omega)]; rfl
  rw [hfin]
  refine ok_weak (σ' := ⟨[(4, .box 4 0)], [(4, 38, [(.dv [] (.str (c.1))), (.dv [] (.int .i64 (c.2.1))), (.key 90031), (.key 90900)])], [(90031, some (kcOf false (storesD (c.2.2.1)))), (90900, some (kcOf false (defsD (c.2.2.2))))]⟩) (weak_sub ⟨rfl, trivial⟩ ⟨rfl, trivial⟩ ⟨rfl, rfl, trivial⟩ rfl) ?_
  refine z ?_
  refine fin1 (res_cell hT rfl rfl rfl rfl) ?_
  first | exact ⟨rfl, rfl⟩ | skip
theorem ok_spec_StepTx {d : DbT} {q : List TxT} {i : Int} (hb : wDatabase d ≤ 549755813888) (hq : wList wTx q ≤ 549755813888) : KFn Tryz.prog 33 [.agg [(.dv [] (.str (d.1))), (.dv [] (.int .i64 (d.2.1))), (.dv [] (storesD (d.2.2.1))), (.dv [] (defsD (d.2.2.2)))], .agg [(.dv [] (txsD (q)))], .one (.dv [] (.int .i64 (i)))] (.tup [(true, [(.dv [] (.str ((stepTx d q i).1.1))), (.dv [] (.int .i64 ((stepTx d q i).1.2.1))), (.key 90031), (.key 90900)]), (true, [(.key 95031)]), (false, [(.dv [] (.bool ((stepTx d q i).2.2)))])]) [(90031, some (kcOf false (storesD ((stepTx d q i).1.2.2.1)))), (90900, some (kcOf false (defsD ((stepTx d q i).1.2.2.2)))), (95031, some (kcOf false (txsD ((stepTx d q i).2.1))))] := by
 refine ⟨fn_intro Tryz.func33 rfl Tryz.ntmps33 Tryz.results33 rfl (fun C => ?_)⟩
 have hwq : wList wTx q = q.length + wSum wTx q := rfl
 obtain ⟨t, ht⟩ : ∃ t, t = q.getD i.toNat default := ⟨_, rfl⟩
 have hwt : wTx t = wList wOp t.2.1 + wList wStore t.2.2.2.2 := rfl
 have hwo : wList wOp t.2.1 = t.2.1.length + wSum wOp t.2.1 := rfl
 have hwb : wList wStore t.2.2.2.2 = t.2.2.2.2.length + wSum wStore t.2.2.2.2 := rfl
 refine yF 0 0 rfl rfl fun f0_0 => ?_
 refine yF 0 1 rfl rfl fun f0_1 => ?_
 refine yF 0 2 rfl rfl fun f0_2 => ?_
 refine yF 0 3 rfl rfl fun f0_3 => ?_
 refine yF 1 0 rfl rfl fun f1_0 => ?_
 refine ok_fact (x := .tmp 2) (ev_tmp rfl) fun f2 => ?_
 iterate 9 refine z ?_
 refine zK 95000 Tryz.call69 ?_ (hf := ok_spec_l10Copy (x := q) (by omega))
 iterate 10 refine z ?_
 refine zC Tryz.call70 ?_ (hf := ok_spec_l1In (n := i) (lo := 0) (hi := ((((q)).length : Int)) - (1)) )
 iterate 11 refine z ?_
 refine yQ rfl (fun c1 => ?_) fun c1 => ?_
 ·skip
  have hb1 : stpBad q i = true := by rw [← st_bad2]; exact c1
  refine ok_seq ?_
  refine ok_regionX 6 [0, 1, 2, 3] (oB := [3, 4, 7, 9]) (oK := [95031]) (by kernel_rfl) rfl rfl ?_
  refine x_take 0 rfl (by kernel_rfl) rfl rfl (pu_loadBoxA hT rfl rfl (ev_tmp rfl) rfl rfl) rfl rfl rfl rfl rfl ?_
  refine x_take 2 rfl (by kernel_rfl) rfl rfl (pu_loadBoxA hT rfl rfl (ev_tmp rfl) rfl rfl) rfl rfl rfl rfl rfl ?_
  refine x_callK 90000 1 rfl (by kernel_rfl) rfl rfl rfl Tryz.call40 (ok_spec_l8Copy (x := d) (by omega)) (as_cons (ev_tmp rfl) (ag_agg (ag_cons ac_dv (ag_cons ac_dv (ag_cons ac_dv (ag_cons ac_dv ag_nil))))) as_nil) rfl rfl rfl rfl rfl rfl ?_
  refine x_store 3 rfl (by kernel_rfl) rfl hT rfl rfl rfl (ev_tmp rfl) (ev_tmp rfl) rfl rfl rfl rfl rfl rfl ?_
  refine x_chain [4, 5] rfl rfl (by kernel_rfl) ?_
  iterate 3 refine z ?_
  rw [step_bad hb1]
  refine ok_weak (σ' := ⟨[(6, .box 6 0), (7, .box 7 0), (8, .one (.dv [] (.bool (false))))], [(6, 38, [(.dv [] (.str ((d).1))), (.dv [] (.int .i64 ((d).2.1))), (.key 90031), (.key 90900)]), (7, 73, [(.key 95031)])], [(90031, some (kcOf false (storesD (d.2.2.1)))), (90900, some (kcOf false (defsD (d.2.2.2)))), (95031, some (kcOf false (txsD (q))))]⟩) (weak_sub ⟨rfl, rfl, rfl, trivial⟩ ⟨rfl, rfl, trivial⟩ ⟨rfl, rfl, rfl, trivial⟩ rfl) ?_
  iterate 2 refine z ?_
  refine fin3 (res_cell hT rfl rfl rfl rfl) (res_cell hT rfl rfl rfl rfl) (res_tmp rfl) rfl rfl rfl ?_
  first | exact ⟨rfl, rfl⟩ | skip
 ·skip
  have hb1 : stpBad q i = false := by rw [← st_bad2]; exact c1
  have hg := st_good hb1
  rw [← ht] at hg
  have hit : i.toNat < q.length := by omega
  have htw := tx_w hit ht
  refine ok_kcs (k := 95031) (cs' := mid ((q.take (i).toNat).flatMap eTx) [.int .i64 (t.1), opsD (t.2.1), .int .i64 (t.2.2.1), .int .i64 (t.2.2.2.1), storesD (t.2.2.2.2)] ((q.drop ((i).toNat + 1)).flatMap eTx)) rfl (flat_open hit ht) ?_
  iterate 4 refine z ?_
  refine zK 90000 Tryz.call40 ?_ (hf := ok_spec_l8Copy (x := d) (by omega))
  iterate 7 refine z ?_
  refine yO rfl rfl (pu_indexK (i := (i).toNat) hT rfl rfl rfl (ev_tmp rfl) rfl (ev_tmp rfl) (by omega) (by show _ < (((q)).length); omega)) rfl ?_
  refine yO rfl rfl (pu_loadEA (ds := [.int .i64 (t.1), opsD (t.2.1), .int .i64 (t.2.2.1), .int .i64 (t.2.2.2.1), storesD (t.2.2.2.2)]) hT rfl rfl (ev_tmp rfl) rfl rfl (by decide) (sub_mid (off := (i).toNat * 5) (j := 0) (flat_pre (sz := 5) (fun _ => rfl) (Nat.le_of_lt hit)) (by omega) rfl (Nat.le_of_ble_eq_true rfl))) rfl ?_
  iterate 9 refine z ?_
  refine yO rfl rfl (pu_lenV hT rfl rfl (ev_nestv (ev_tmp rfl))) rfl ?_
  refine z ?_
  refine zC Tryz.call70 ?_ (hf := ok_spec_l1In (n := t.2.2.1) (lo := 0) (hi := ((((t.2.1)).length : Int)) - (1)) )
  refine z ?_
  refine yQ rfl (fun c2 => ?_) fun c2 => ?_
  ·skip
   have hin : tin t t.2.2.1 = true := c2
   have hop := tin_bd hin
   refine ok_cutS (σ' := ⟨[(2, .one (.dv [] (.int .i64 (i)))), (3, .box 3 0), (4, .box 4 0), (6, .box 6 0), (7, .box 7 0), (8, .one (.dv [] (.bool (false)))), (9, .box 9 0), (10, .box 10 0), (11, .box 11 0), (12, .box 12 0), (13, .one (.dv [] (.int .i64 ((runOp (d) ((t.2.1.getD (t.2.2.1).toNat default))).2.1)))), (14, .one (.dv [] (.bool ((runOp (d) ((t.2.1.getD (t.2.2.1).toNat default))).2.2))))], [(3, 38, [(.dv [] (.str (d.1))), (.dv [] (.int .i64 (d.2.1))), (.dv [] (storesD (d.2.2.1))), (.dv [] (defsD (d.2.2.2)))]), (4, 73, [(.dv [] (txsD (q)))]), (6, 38, [(.dv [] (.str (ByteArray.empty))), (.dv [] (.int .i64 (0))), .nil, .nil]), (7, 73, [.nil]), (9, 73, [(.key 95031)]), (10, 38, [(.dv [] (.str ((d).1))), (.dv [] (.int .i64 ((d).2.1))), (.key 90031), (.key 90900)]), (11, 109, [(.dv [] (.int .i64 (t.1))), (.nest 95031 (((i).toNat * 5 + 1)) (opsD (t.2.1))), (.dv [] (.int .i64 (t.2.2.1))), (.dv [] (.int .i64 (t.2.2.2.1))), (.nest 95031 (((i).toNat * 5 + 4)) (storesD (t.2.2.2.2)))]), (12, 38, [(.dv [] (.str ((runOp (d) ((t.2.1.getD (t.2.2.1).toNat default))).1.1))), (.dv [] (.int .i64 ((runOp (d) ((t.2.1.getD (t.2.2.1).toNat default))).1.2.1))), (.key 91031), (.key 91900)])], [(90031, some (kcOf false (storesD ((d).2.2.1)))), (90900, some (kcOf false (defsD ((d).2.2.2)))), (91031, some (kcOf false (storesD ((runOp (d) ((t.2.1.getD (t.2.2.1).toNat default))).1.2.2.1)))), (91900, some (kcOf false (defsD ((runOp (d) ((t.2.1.getD (t.2.2.1).toNat default))).1.2.2.2)))), (95031, some (kcOf false (.sl 109 5 (((q)).length) (mid ((q.take (i).toNat).flatMap eTx) [.int .i64 (t.1), opsD (t.2.1), .int .i64 (t.2.2.1), .int .i64 (t.2.2.2.1), storesD (t.2.2.2.2)] ((q.drop ((i).toNat + 1)).flatMap eTx)))))]⟩) ?_ ?_
   ·skip
    refine ok_regionD (oB := [3, 4, 6, 7, 9, 10, 11]) (oK := [90031, 90900, 95031]) (by kernel_rfl) rfl rfl ?_
    refine zD 0 ?_
    refine zD 1 ?_
    refine zD 2 ?_
    refine zD 3 ?_
    refine zD 4 ?_
    refine d_take 5 rfl (by kernel_rfl) rfl rfl (pu_indexD hT rfl rfl rfl (ev_nestv (ev_tmp rfl)) (ev_tmp rfl) (fun _ => rfl) (by omega) (by omega)) rfl rfl rfl rfl ?_
    refine zD 6 ?_
    refine d_vars (A := [(12, 12, 38, _)]) hT ⟨⟨_, _, rfl⟩, rfl, trivial⟩ ?_
    refine a_callK 1000 7 rfl (by kernel_rfl) rfl rfl rfl (vok hT ⟨⟨_, _, rfl⟩, rfl, trivial⟩ (by kernel_rfl) (by kernel_rfl)) (vok hT ⟨⟨_, _, rfl⟩, rfl, trivial⟩ (by kernel_rfl) (by kernel_rfl)) rfl Tryz.call9 (ok_spec_RunOp (d := d) (o := (t.2.1.getD (t.2.2.1).toNat default)) (by omega)) (as_cons (ev_tmp rfl) (ag_agg (ag_cons ac_dv (ag_cons ac_dv (ag_cons ac_dv (ag_cons ac_dv ag_nil))))) (as_cons (ev_tmp rfl) (ag_agg (ag_cons ac_dv (ag_cons ac_dv (ag_cons ac_dv (ag_cons ac_dv (ag_cons ac_dv (ag_cons ac_dv (ag_cons ac_dv ag_nil)))))))) as_nil)) rfl rfl rfl rfl rfl ?_
    refine a_take 8 rfl (by kernel_rfl) rfl rfl rfl (vok hT ⟨⟨_, _, rfl⟩, rfl, trivial⟩ (by kernel_rfl) (by kernel_rfl)) (vok hT ⟨⟨_, _, rfl⟩, rfl, trivial⟩ (by kernel_rfl) (by kernel_rfl)) (pu_move (.inl rfl) (ev_tmp rfl)) rfl rfl rfl rfl ?_
    refine a_takeX 9 rfl (by kernel_rfl) rfl rfl rfl rfl (vok hT ⟨⟨_, _, rfl⟩, rfl, trivial⟩ (by kernel_rfl) (by kernel_rfl)) (vok hT ⟨⟨_, _, rfl⟩, rfl, trivial⟩ (by kernel_rfl) (by kernel_rfl)) (pu_extractA rfl (ev_tmp rfl) rfl) rfl rfl ?_
    refine a_takeX 10 rfl (by kernel_rfl) rfl rfl rfl rfl (vok hT ⟨⟨_, _, rfl⟩, rfl, trivial⟩ (by kernel_rfl) (by kernel_rfl)) (vok hT ⟨⟨_, _, rfl⟩, rfl, trivial⟩ (by kernel_rfl) (by kernel_rfl)) (pu_extract1 rfl (ev_tmp rfl) rfl) rfl rfl ?_
    refine a_takeX 11 rfl (by kernel_rfl) rfl rfl rfl rfl (vok hT ⟨⟨_, _, rfl⟩, rfl, trivial⟩ (by kernel_rfl) (by kernel_rfl)) (vok hT ⟨⟨_, _, rfl⟩, rfl, trivial⟩ (by kernel_rfl) (by kernel_rfl)) (pu_extract1 rfl (ev_tmp rfl) rfl) rfl rfl ?_
    refine a_exit1 (vok hT ⟨⟨_, _, rfl⟩, rfl, trivial⟩ (by kernel_rfl) (by kernel_rfl)) rfl rfl (by kernel_rfl) ?_
    dsimp only [addT, addB]
    refine d_chain [13, 14, 15] rfl rfl (by kernel_rfl) ?_
    iterate 3 refine z ?_
    refine ops_nil ?_
    exact then_n (weak_sub ⟨rfl, rfl, rfl, rfl, rfl, rfl, rfl, rfl, rfl, rfl, rfl, rfl, trivial⟩ ⟨rfl, rfl, rfl, rfl, rfl, rfl, rfl, rfl, trivial⟩ ⟨rfl, rfl, rfl, rfl, rfl, trivial⟩ rfl)
   iterate 4 refine z ?_
   refine ok_seq ?_
   refine ok_weak (weak_swapB (b := 10) (i := 2) (k := 91031) (k' := 90031) rfl rfl rfl rfl (by simp) rfl rfl) ?_
   simp only [killT, killB, SV.kill, CV.kill, kk, Nat.reduceBEq]
   refine ok_weak (weak_swapB (b := 10) (i := 3) (k := 91900) (k' := 90900) rfl rfl rfl rfl (by simp) rfl rfl) ?_
   simp only [killT, killB, SV.kill, CV.kill, kk, Nat.reduceBEq]
   refine ok_region ?_
   iterate 10 refine z ?_
   refine yQ rfl (fun c3 => ?_) fun c3 => ?_
   ·skip
    have hok : (runOp d (t.2.1.getD (t.2.2.1).toNat default)).2.2 = false := by simpa using c3
    iterate 4 refine z ?_
    refine zK 2000 Tryz.call71 ?_ (hf := ok_spec_l10Restore (d := d) (l := t.2.2.2.2) (by omega) (by omega))
    iterate 2 refine z ?_
    refine ok_weak (weak_swapB (b := 10) (i := 2) (k := 92031) (k' := 90031) rfl rfl rfl rfl (by simp) rfl rfl) ?_
    simp only [killT, killB, SV.kill, CV.kill, kk, Nat.reduceBEq]
    refine ok_region ?_
    refine z ?_
    refine o_store hT rfl rfl rfl rfl (ev_tmp rfl) (ev_int (inR_lit rfl)) rfl rfl rfl rfl rfl rfl ?_
    refine z ?_
    refine ok_seq ?_
    refine ok_seq ?_
    refine ok_weak (weak_swapB (b := 10) (i := 3) (k := 92900) (k' := 90900) rfl rfl rfl rfl (by simp) rfl rfl) ?_
    simp only [killT, killB, SV.kill, CV.kill, kk, Nat.reduceBEq]
    refine ok_region ?_
    iterate 8 refine z ?_
    refine o_pureG (gd_bool rfl rfl rfl rfl rfl) rfl (fun hg => pu_lenV hT rfl rfl (ev_nestv (ev_opt rfl hg))) rfl rfl ?_
    refine z ?_
    refine o_callG (gd_bool rfl rfl rfl rfl rfl) rfl rfl Tryz.call70 (ok_spec_l1In (n := (t.2.2.1) + (1)) (lo := 0) (hi := ((((t.2.1)).length : Int)) - (1)) ) (fun hg => (as_cons (ev_opt rfl hg) (ag_one ac_dv) (as_cons (ev_int (inR_lit rfl)) (ag_one ac_dv) (as_cons (ev_opt rfl hg) (ag_one ac_dv) as_nil)))) rfl rfl ?_
    iterate 3 refine z ?_
    refine yQ rfl (fun c4 => ?_) fun c4 => ?_
    ·skip
     exact absurd c4 (by simp)
    ·skip
     iterate 8 refine z ?_
     refine yQ rfl (fun c5 => ?_) fun c5 => ?_
     ·skip
      have d5 := nd_t c5
      refine ok_region ?_
      refine z ?_
      refine o_store hT rfl rfl rfl rfl (ev_tmp rfl) ev_nil rfl rfl rfl rfl rfl rfl ?_
      iterate 6 refine z ?_
      refine yO rfl rfl (pu_indexK (i := (i).toNat) hT rfl rfl rfl (ev_tmp rfl) rfl (ev_tmp rfl) (by omega) (by show _ < (((q)).length); omega)) rfl ?_
      refine o_put (d0s := [.int .i64 (t.1), opsD (t.2.1), .int .i64 (t.2.2.1), .int .i64 (t.2.2.2.1), storesD (t.2.2.2.2)]) (ds := [.int .i64 (t.1), opsD (t.2.1), .int .i64 ((t.2.2.1) + (1)), .int .i64 (3), .sl 91 3 0 []]) (cs := mid ((q.take (i).toNat).flatMap eTx) [.int .i64 (t.1), opsD (t.2.1), .int .i64 ((t.2.2.1) + (1)), .int .i64 (3), .sl 91 3 0 []] ((q.drop ((i).toNat + 1)).flatMap eTx)) hT rfl rfl rfl rfl (ev_tmp rfl) (ev_tmp rfl) rfl rfl rfl rfl (put_own (ow_dv rfl) (put_nest (put_own (ow_dv rfl) (put_own (ow_dv rfl) (put_own (ow_nilc (e := 91) (sz := 3) rfl) put_nil))) rfl)) rfl (sub_mid (off := (i).toNat * 5) (j := 0) (flat_pre (sz := 5) (fun _ => rfl) (Nat.le_of_lt hit)) (by omega) rfl (Nat.le_of_ble_eq_true rfl)) (le_mid (off := (i).toNat * 5) (n := 5) (j := 0) (flat_pre (sz := 5) (fun _ => rfl) (Nat.le_of_lt hit)) (by omega) (Nat.le_of_ble_eq_true rfl)) (setR_mid (off := (i).toNat * 5) (j := 0) (flat_pre (sz := 5) (fun _ => rfl) (Nat.le_of_lt hit)) (by omega) rfl (Nat.le_of_ble_eq_true rfl)) ?_
      simp only [killT, killB, SV.kill, CV.kill, kk, Nat.reduceBEq]
      refine z ?_
      refine ok_seq ?_
      refine ok_regionW 6 (oB := [3, 4, 7, 9, 10, 11, 12]) (oK := [90031, 90900, 95031]) (by kernel_rfl) rfl rfl ?_
      refine w_take 0 rfl (by kernel_rfl) rfl rfl (pu_loadBoxA hT rfl rfl (ev_tmp rfl) rfl rfl) rfl rfl rfl rfl rfl ?_
      refine w_take 1 rfl (by kernel_rfl) rfl rfl (pu_loadBoxA hT rfl rfl (ev_tmp rfl) rfl rfl) rfl rfl rfl rfl rfl ?_
      refine w_store 2 rfl (by kernel_rfl) rfl hT rfl rfl rfl (ev_tmp rfl) (ev_tmp rfl) rfl rfl rfl rfl rfl rfl ?_
      refine w_chain [3, 4] rfl rfl (by kernel_rfl) ?_
      iterate 3 refine z ?_
      rw [step_fail hb1 ht hin hok]
      refine ok_weak (σ' := ⟨[(6, .box 6 0), (7, .box 7 0), (8, .one (.dv [] (.bool (true))))], [(6, 38, [(.dv [] (.str ((restL (d) (t.2.2.2.2)).1))), (.dv [] (.int .i64 ((restL (d) (t.2.2.2.2)).2.1))), (.key 90031), (.key 90900)]), (7, 73, [(.key 95031)])], [(90031, some (kcOf false (storesD ((restL d t.2.2.2.2).2.2.1)))), (90900, some (kcOf false (defsD ((restL d t.2.2.2.2).2.2.2)))), (95031, some (kcOf false (txsD (q.set (i).toNat (t.1, t.2.1, t.2.2.1 + 1, (3 : Int), ([] : List StoreT))))))]⟩) (weak_sub ⟨rfl, rfl, rfl, trivial⟩ ⟨rfl, rfl, trivial⟩ ⟨rfl, rfl, (fin_set hit (t.1, t.2.1, t.2.2.1 + 1, (3 : Int), ([] : List StoreT))), trivial⟩ rfl) ?_
      refine z ?_
      refine fin3 (res_cell hT rfl rfl rfl rfl) (res_cell hT rfl rfl rfl rfl) (res_tmp rfl) rfl rfl rfl ?_
      first | exact ⟨rfl, rfl⟩ | skip
     ·skip
      exact absurd c5 (by simp)
   ·skip
    have hok : (runOp d (t.2.1.getD (t.2.2.1).toNat default)).2.2 = true := by simpa using c3
    iterate 12 refine z ?_
    refine o_pureG (gd_bool rfl rfl rfl rfl rfl) rfl (fun hg => pu_lenV hT rfl rfl (ev_nestv (ev_opt rfl hg))) rfl rfl ?_
    refine z ?_
    refine o_callG (gd_bool rfl rfl rfl rfl rfl) rfl rfl Tryz.call70 (ok_spec_l1In (n := (t.2.2.1) + (1)) (lo := 0) (hi := ((((t.2.1)).length : Int)) - (1)) ) (fun hg => (as_cons (ev_opt rfl hg) (ag_one ac_dv) (as_cons (ev_int (inR_lit rfl)) (ag_one ac_dv) (as_cons (ev_opt rfl hg) (ag_one ac_dv) as_nil)))) rfl rfl ?_
    iterate 3 refine z ?_
    refine yQ rfl (fun c6 => ?_) fun c6 => ?_
    ·skip
     refine ok_region ?_
     refine z ?_
     refine o_store hT rfl rfl rfl rfl (ev_tmp rfl) (ev_int (inR_lit rfl)) rfl rfl rfl rfl rfl rfl ?_
     iterate 7 refine z ?_
     refine yQ rfl (fun c7 => ?_) fun c7 => ?_
     ·skip
      have d7 := nd_t c7
      refine ok_region ?_
      refine z ?_
      refine o_store hT rfl rfl rfl rfl (ev_tmp rfl) ev_nil rfl rfl rfl rfl rfl rfl ?_
      iterate 6 refine z ?_
      refine yO rfl rfl (pu_indexK (i := (i).toNat) hT rfl rfl rfl (ev_tmp rfl) rfl (ev_tmp rfl) (by omega) (by show _ < (((q)).length); omega)) rfl ?_
      refine o_put (d0s := [.int .i64 (t.1), opsD (t.2.1), .int .i64 (t.2.2.1), .int .i64 (t.2.2.2.1), storesD (t.2.2.2.2)]) (ds := [.int .i64 (t.1), opsD (t.2.1), .int .i64 ((t.2.2.1) + (1)), .int .i64 (2), .sl 91 3 0 []]) (cs := mid ((q.take (i).toNat).flatMap eTx) [.int .i64 (t.1), opsD (t.2.1), .int .i64 ((t.2.2.1) + (1)), .int .i64 (2), .sl 91 3 0 []] ((q.drop ((i).toNat + 1)).flatMap eTx)) hT rfl rfl rfl rfl (ev_tmp rfl) (ev_tmp rfl) rfl rfl rfl rfl (put_own (ow_dv rfl) (put_nest (put_own (ow_dv rfl) (put_own (ow_dv rfl) (put_own (ow_nilc (e := 91) (sz := 3) rfl) put_nil))) rfl)) rfl (sub_mid (off := (i).toNat * 5) (j := 0) (flat_pre (sz := 5) (fun _ => rfl) (Nat.le_of_lt hit)) (by omega) rfl (Nat.le_of_ble_eq_true rfl)) (le_mid (off := (i).toNat * 5) (n := 5) (j := 0) (flat_pre (sz := 5) (fun _ => rfl) (Nat.le_of_lt hit)) (by omega) (Nat.le_of_ble_eq_true rfl)) (setR_mid (off := (i).toNat * 5) (j := 0) (flat_pre (sz := 5) (fun _ => rfl) (Nat.le_of_lt hit)) (by omega) rfl (Nat.le_of_ble_eq_true rfl)) ?_
      simp only [killT, killB, SV.kill, CV.kill, kk, Nat.reduceBEq]
      refine z ?_
      refine ok_seq ?_
      refine ok_regionW 6 (oB := [3, 4, 7, 9, 10, 11, 12]) (oK := [90031, 90900, 95031]) (by kernel_rfl) rfl rfl ?_
      refine w_take 0 rfl (by kernel_rfl) rfl rfl (pu_loadBoxA hT rfl rfl (ev_tmp rfl) rfl rfl) rfl rfl rfl rfl rfl ?_
      refine w_take 1 rfl (by kernel_rfl) rfl rfl (pu_loadBoxA hT rfl rfl (ev_tmp rfl) rfl rfl) rfl rfl rfl rfl rfl ?_
      refine w_store 2 rfl (by kernel_rfl) rfl hT rfl rfl rfl (ev_tmp rfl) (ev_tmp rfl) rfl rfl rfl rfl rfl rfl ?_
      refine w_chain [3, 4] rfl rfl (by kernel_rfl) ?_
      iterate 3 refine z ?_
      rw [step_end hb1 ht hin hok (tin_y hg.2.2 c6)]
      refine ok_weak (σ' := ⟨[(6, .box 6 0), (7, .box 7 0), (8, .one (.dv [] (.bool (true))))], [(6, 38, [(.dv [] (.str ((runOp (d) ((t.2.1.getD (t.2.2.1).toNat default))).1.1))), (.dv [] (.int .i64 ((runOp (d) ((t.2.1.getD (t.2.2.1).toNat default))).1.2.1))), (.key 90031), (.key 90900)]), (7, 73, [(.key 95031)])], [(90031, some (kcOf false (storesD ((runOp d (t.2.1.getD (t.2.2.1).toNat default)).1.2.2.1)))), (90900, some (kcOf false (defsD ((runOp d (t.2.1.getD (t.2.2.1).toNat default)).1.2.2.2)))), (95031, some (kcOf false (txsD (q.set (i).toNat (t.1, t.2.1, t.2.2.1 + 1, (2 : Int), ([] : List StoreT))))))]⟩) (weak_sub ⟨rfl, rfl, rfl, trivial⟩ ⟨rfl, rfl, trivial⟩ ⟨rfl, rfl, (fin_set hit (t.1, t.2.1, t.2.2.1 + 1, (2 : Int), ([] : List StoreT))), trivial⟩ rfl) ?_
      refine z ?_
      refine fin3 (res_cell hT rfl rfl rfl rfl) (res_cell hT rfl rfl rfl rfl) (res_tmp rfl) rfl rfl rfl ?_
      first | exact ⟨rfl, rfl⟩ | skip
     ·skip
      exact absurd c7 (by simp)
    ·skip
     iterate 8 refine z ?_
     refine yQ rfl (fun c8 => ?_) fun c8 => ?_
     ·skip
      exact absurd c8 (by rw [hg.2.2]; simp)
     ·skip
      have d8 := nd_f c8
      iterate 7 refine z ?_
      refine yO rfl rfl (pu_indexK (i := (i).toNat) hT rfl rfl rfl (ev_tmp rfl) rfl (ev_tmp rfl) (by omega) (by show _ < (((q)).length); omega)) rfl ?_
      refine o_put (d0s := [.int .i64 (t.1), opsD (t.2.1), .int .i64 (t.2.2.1), .int .i64 (t.2.2.2.1), storesD (t.2.2.2.2)]) (ds := [.int .i64 (t.1), opsD (t.2.1), .int .i64 ((t.2.2.1) + (1)), .int .i64 (t.2.2.2.1), storesD (t.2.2.2.2)]) (cs := mid ((q.take (i).toNat).flatMap eTx) [.int .i64 (t.1), opsD (t.2.1), .int .i64 ((t.2.2.1) + (1)), .int .i64 (t.2.2.2.1), storesD (t.2.2.2.2)] ((q.drop ((i).toNat + 1)).flatMap eTx)) hT rfl rfl rfl rfl (ev_tmp rfl) (ev_tmp rfl) rfl rfl rfl rfl (put_own (ow_dv rfl) (put_nest (put_own (ow_dv rfl) (put_own (ow_dv rfl) (put_nest put_nil rfl))) rfl)) rfl (sub_mid (off := (i).toNat * 5) (j := 0) (flat_pre (sz := 5) (fun _ => rfl) (Nat.le_of_lt hit)) (by omega) rfl (Nat.le_of_ble_eq_true rfl)) (le_mid (off := (i).toNat * 5) (n := 5) (j := 0) (flat_pre (sz := 5) (fun _ => rfl) (Nat.le_of_lt hit)) (by omega) (Nat.le_of_ble_eq_true rfl)) (setR_mid (off := (i).toNat * 5) (j := 0) (flat_pre (sz := 5) (fun _ => rfl) (Nat.le_of_lt hit)) (by omega) rfl (Nat.le_of_ble_eq_true rfl)) ?_
      simp only [killT, killB, SV.kill, CV.kill, kk, Nat.reduceBEq]
      refine z ?_
      refine ok_seq ?_
      refine ok_regionW 6 (oB := [3, 4, 7, 9, 10, 11, 12]) (oK := [90031, 90900, 95031]) (by kernel_rfl) rfl rfl ?_
      refine w_take 0 rfl (by kernel_rfl) rfl rfl (pu_loadBoxA hT rfl rfl (ev_tmp rfl) rfl rfl) rfl rfl rfl rfl rfl ?_
      refine w_take 1 rfl (by kernel_rfl) rfl rfl (pu_loadBoxA hT rfl rfl (ev_tmp rfl) rfl rfl) rfl rfl rfl rfl rfl ?_
      refine w_store 2 rfl (by kernel_rfl) rfl hT rfl rfl rfl (ev_tmp rfl) (ev_tmp rfl) rfl rfl rfl rfl rfl rfl ?_
      refine w_chain [3, 4] rfl rfl (by kernel_rfl) ?_
      iterate 3 refine z ?_
      rw [step_go hb1 ht hin hok (tin_n hg.2.2 c6)]
      refine ok_weak (σ' := ⟨[(6, .box 6 0), (7, .box 7 0), (8, .one (.dv [] (.bool (true))))], [(6, 38, [(.dv [] (.str ((runOp (d) ((t.2.1.getD (t.2.2.1).toNat default))).1.1))), (.dv [] (.int .i64 ((runOp (d) ((t.2.1.getD (t.2.2.1).toNat default))).1.2.1))), (.key 90031), (.key 90900)]), (7, 73, [(.key 95031)])], [(90031, some (kcOf false (storesD ((runOp d (t.2.1.getD (t.2.2.1).toNat default)).1.2.2.1)))), (90900, some (kcOf false (defsD ((runOp d (t.2.1.getD (t.2.2.1).toNat default)).1.2.2.2)))), (95031, some (kcOf false (txsD (q.set (i).toNat (t.1, t.2.1, t.2.2.1 + 1, t.2.2.2.1, t.2.2.2.2)))))]⟩) (weak_sub ⟨rfl, rfl, rfl, trivial⟩ ⟨rfl, rfl, trivial⟩ ⟨rfl, rfl, (fin_set hit (t.1, t.2.1, t.2.2.1 + 1, t.2.2.2.1, t.2.2.2.2)), trivial⟩ rfl) ?_
      refine z ?_
      refine fin3 (res_cell hT rfl rfl rfl rfl) (res_cell hT rfl rfl rfl rfl) (res_tmp rfl) rfl rfl rfl ?_
      first | exact ⟨rfl, rfl⟩ | skip
  ·skip
   have hin : tin t t.2.2.1 = false := c2
   iterate 12 refine z ?_
   refine o_pureG (gd_bool rfl rfl rfl rfl rfl) rfl (fun hg => pu_lenV hT rfl rfl (ev_nestv (ev_opt rfl hg))) rfl rfl ?_
   refine z ?_
   refine o_callG (gd_bool rfl rfl rfl rfl rfl) rfl rfl Tryz.call70 (ok_spec_l1In (n := t.2.2.1) (lo := 0) (hi := ((((t.2.1)).length : Int)) - (1)) ) (fun hg => (as_cons (ev_opt rfl hg) (ag_one ac_dv) (as_cons (ev_int (inR_lit rfl)) (ag_one ac_dv) (as_cons (ev_opt rfl hg) (ag_one ac_dv) as_nil)))) rfl rfl ?_
   iterate 3 refine z ?_
   refine yQ rfl (fun c9 => ?_) fun c9 => ?_
   ·skip
    refine ok_region ?_
    refine z ?_
    refine o_store hT rfl rfl rfl rfl (ev_tmp rfl) (ev_int (inR_lit rfl)) rfl rfl rfl rfl rfl rfl ?_
    iterate 7 refine z ?_
    refine yQ rfl (fun c10 => ?_) fun c10 => ?_
    ·skip
     have d10 := nd_t c10
     refine ok_region ?_
     refine z ?_
     refine o_store hT rfl rfl rfl rfl (ev_tmp rfl) ev_nil rfl rfl rfl rfl rfl rfl ?_
     iterate 6 refine z ?_
     refine yO rfl rfl (pu_indexK (i := (i).toNat) hT rfl rfl rfl (ev_tmp rfl) rfl (ev_tmp rfl) (by omega) (by show _ < (((q)).length); omega)) rfl ?_
     refine o_put (d0s := [.int .i64 (t.1), opsD (t.2.1), .int .i64 (t.2.2.1), .int .i64 (t.2.2.2.1), storesD (t.2.2.2.2)]) (ds := [.int .i64 (t.1), opsD (t.2.1), .int .i64 (t.2.2.1), .int .i64 (2), .sl 91 3 0 []]) (cs := mid ((q.take (i).toNat).flatMap eTx) [.int .i64 (t.1), opsD (t.2.1), .int .i64 (t.2.2.1), .int .i64 (2), .sl 91 3 0 []] ((q.drop ((i).toNat + 1)).flatMap eTx)) hT rfl rfl rfl rfl (ev_tmp rfl) (ev_tmp rfl) rfl rfl rfl rfl (put_own (ow_dv rfl) (put_nest (put_own (ow_dv rfl) (put_own (ow_dv rfl) (put_own (ow_nilc (e := 91) (sz := 3) rfl) put_nil))) rfl)) rfl (sub_mid (off := (i).toNat * 5) (j := 0) (flat_pre (sz := 5) (fun _ => rfl) (Nat.le_of_lt hit)) (by omega) rfl (Nat.le_of_ble_eq_true rfl)) (le_mid (off := (i).toNat * 5) (n := 5) (j := 0) (flat_pre (sz := 5) (fun _ => rfl) (Nat.le_of_lt hit)) (by omega) (Nat.le_of_ble_eq_true rfl)) (setR_mid (off := (i).toNat * 5) (j := 0) (flat_pre (sz := 5) (fun _ => rfl) (Nat.le_of_lt hit)) (by omega) rfl (Nat.le_of_ble_eq_true rfl)) ?_
     simp only [killT, killB, SV.kill, CV.kill, kk, Nat.reduceBEq]
     refine z ?_
     refine ok_seq ?_
     refine ok_regionW 6 (oB := [3, 4, 7, 9, 10, 11]) (oK := [90031, 90900, 95031]) (by kernel_rfl) rfl rfl ?_
     refine w_take 0 rfl (by kernel_rfl) rfl rfl (pu_loadBoxA hT rfl rfl (ev_tmp rfl) rfl rfl) rfl rfl rfl rfl rfl ?_
     refine w_take 1 rfl (by kernel_rfl) rfl rfl (pu_loadBoxA hT rfl rfl (ev_tmp rfl) rfl rfl) rfl rfl rfl rfl rfl ?_
     refine w_store 2 rfl (by kernel_rfl) rfl hT rfl rfl rfl (ev_tmp rfl) (ev_tmp rfl) rfl rfl rfl rfl rfl rfl ?_
     refine w_chain [3, 4] rfl rfl (by kernel_rfl) ?_
     iterate 3 refine z ?_
     rw [step_no hb1 ht hin]
     refine ok_weak (σ' := ⟨[(6, .box 6 0), (7, .box 7 0), (8, .one (.dv [] (.bool (true))))], [(6, 38, [(.dv [] (.str ((d).1))), (.dv [] (.int .i64 ((d).2.1))), (.key 90031), (.key 90900)]), (7, 73, [(.key 95031)])], [(90031, some (kcOf false (storesD (d.2.2.1)))), (90900, some (kcOf false (defsD (d.2.2.2)))), (95031, some (kcOf false (txsD (q.set (i).toNat (t.1, t.2.1, t.2.2.1, (2 : Int), ([] : List StoreT))))))]⟩) (weak_sub ⟨rfl, rfl, rfl, trivial⟩ ⟨rfl, rfl, trivial⟩ ⟨rfl, rfl, (fin_set hit (t.1, t.2.1, t.2.2.1, (2 : Int), ([] : List StoreT))), trivial⟩ rfl) ?_
     refine z ?_
     refine fin3 (res_cell hT rfl rfl rfl rfl) (res_cell hT rfl rfl rfl rfl) (res_tmp rfl) rfl rfl rfl ?_
     first | exact ⟨rfl, rfl⟩ | skip
    ·skip
     exact absurd c10 (by simp)
   ·skip
    exact absurd c9 (by rw [hg.2.2, c2]; simp)
theorem ok_impl_StepTx {d : DbT} {q : List TxT} {i : Int} (hb : wDatabase d ≤ 549755813888) (hq : wList wTx q ≤ 549755813888) : KFn Tryz.prog 34 [.agg [(.dv [] (.str (d.1))), (.dv [] (.int .i64 (d.2.1))), (.dv [] (storesD (d.2.2.1))), (.dv [] (defsD (d.2.2.2)))], .agg [(.dv [] (txsD (q)))], .one (.dv [] (.int .i64 (i)))] (.tup [(true, [(.dv [] (.str ((stepTx d q i).1.1))), (.dv [] (.int .i64 ((stepTx d q i).1.2.1))), (.key 90031), (.key 90900)]), (true, [(.key 95031)]), (false, [(.dv [] (.bool ((stepTx d q i).2.2)))])]) [(90031, some (kcOf false (storesD ((stepTx d q i).1.2.2.1)))), (90900, some (kcOf false (defsD ((stepTx d q i).1.2.2.2)))), (95031, some (kcOf false (txsD ((stepTx d q i).2.1))))] := by
 refine ⟨fn_intro Tryz.func34 rfl Tryz.ntmps34 Tryz.results34 rfl (fun C => ?_)⟩
 have hwq : wList wTx q = q.length + wSum wTx q := rfl
 obtain ⟨t, ht⟩ : ∃ t, t = q.getD i.toNat default := ⟨_, rfl⟩
 have hwt : wTx t = wList wOp t.2.1 + wList wStore t.2.2.2.2 := rfl
 have hwo : wList wOp t.2.1 = t.2.1.length + wSum wOp t.2.1 := rfl
 have hwb : wList wStore t.2.2.2.2 = t.2.2.2.2.length + wSum wStore t.2.2.2.2 := rfl
 refine yF 0 0 rfl rfl fun f0_0 => ?_
 refine yF 0 1 rfl rfl fun f0_1 => ?_
 refine yF 0 2 rfl rfl fun f0_2 => ?_
 refine yF 0 3 rfl rfl fun f0_3 => ?_
 refine yF 1 0 rfl rfl fun f1_0 => ?_
 refine ok_fact (x := .tmp 2) (ev_tmp rfl) fun f2 => ?_
 iterate 9 refine z ?_
 refine zK 90000 Tryz.call49 ?_ (hf := ok_impl_copyDatabase (x := d) (by omega))
 iterate 5 refine z ?_
 refine zK 95000 Tryz.call72 ?_ (hf := ok_impl_copyQueue (x := q) (by omega))
 iterate 24 refine z ?_
 refine yQ rfl (fun c1 => ?_) fun c1 => ?_
 ·skip
  have hb1 : stpBad q i = true := c1
  refine ok_seq ?_
  refine ok_regionW 6 (oB := [3, 4, 7, 9, 10]) (oK := [90031, 90900, 95031]) (by kernel_rfl) rfl rfl ?_
  refine w_take 0 rfl (by kernel_rfl) rfl rfl (pu_loadBoxA hT rfl rfl (ev_tmp rfl) rfl rfl) rfl rfl rfl rfl rfl ?_
  refine w_take 1 rfl (by kernel_rfl) rfl rfl (pu_loadBoxA hT rfl rfl (ev_tmp rfl) rfl rfl) rfl rfl rfl rfl rfl ?_
  refine w_store 2 rfl (by kernel_rfl) rfl hT rfl rfl rfl (ev_tmp rfl) (ev_tmp rfl) rfl rfl rfl rfl rfl rfl ?_
  refine w_chain [3, 4] rfl rfl (by kernel_rfl) ?_
  iterate 3 refine z ?_
  rw [step_bad hb1]
  refine ok_weak (σ' := ⟨[(6, .box 6 0), (7, .box 7 0), (8, .one (.dv [] (.bool (false))))], [(6, 38, [(.dv [] (.str ((d).1))), (.dv [] (.int .i64 ((d).2.1))), (.key 90031), (.key 90900)]), (7, 73, [(.key 95031)])], [(90031, some (kcOf false (storesD (d.2.2.1)))), (90900, some (kcOf false (defsD (d.2.2.2)))), (95031, some (kcOf false (txsD (q))))]⟩) (weak_sub ⟨rfl, rfl, rfl, trivial⟩ ⟨rfl, rfl, trivial⟩ ⟨rfl, rfl, rfl, trivial⟩ rfl) ?_
  iterate 2 refine z ?_
  refine fin3 (res_cell hT rfl rfl rfl rfl) (res_cell hT rfl rfl rfl rfl) (res_tmp rfl) rfl rfl rfl ?_
  first | exact ⟨rfl, rfl⟩ | skip
 ·skip
  have hb1 : stpBad q i = false := c1
  have hg := st_good hb1
  rw [← ht] at hg
  have hit : i.toNat < q.length := by omega
  have htw := tx_w hit ht
  refine ok_kcs (k := 95031) (cs' := mid ((q.take (i).toNat).flatMap eTx) [.int .i64 (t.1), opsD (t.2.1), .int .i64 (t.2.2.1), .int .i64 (t.2.2.2.1), storesD (t.2.2.2.2)] ((q.drop ((i).toNat + 1)).flatMap eTx)) rfl (flat_open hit ht) ?_
  iterate 6 refine z ?_
  refine yO rfl rfl (pu_indexK (i := (i).toNat) hT rfl rfl rfl (ev_tmp rfl) rfl (ev_tmp rfl) (by omega) (by show _ < (((q)).length); omega)) rfl ?_
  iterate 5 refine z ?_
  refine ok_seq ?_
  refine ok_seq ?_
  refine ok_regionD (oB := [3, 4, 6, 7, 9, 10]) (oK := [90031, 90900, 95031]) (by kernel_rfl) rfl rfl ?_
  refine zD 0 ?_
  refine d_take 1 rfl (by kernel_rfl) rfl rfl (pu_nilE rfl (ev_tmp rfl)) rfl rfl rfl rfl ?_
  refine zD 2 ?_
  refine d_take 3 rfl (by kernel_rfl) rfl rfl (pu_loadE1 hT rfl rfl (ev_tmp rfl) rfl (get_mid (off := ((i).toNat * 5 + 2)) (j := 2) (flat_pre (sz := 5) (fun _ => rfl) (Nat.le_of_lt hit)) (by omega) rfl)) rfl rfl rfl rfl ?_
  refine zD 4 ?_
  refine d_take 5 rfl (by kernel_rfl) rfl rfl (pu_nilE rfl (ev_tmp rfl)) rfl rfl rfl rfl ?_
  refine zD 6 ?_
  refine d_take 7 rfl (by kernel_rfl) rfl rfl (pu_loadE1 hT rfl rfl (ev_tmp rfl) rfl (get_mid (off := ((i).toNat * 5 + 1)) (j := 1) (flat_pre (sz := 5) (fun _ => rfl) (Nat.le_of_lt hit)) (by omega) rfl)) rfl rfl rfl rfl ?_
  refine d_take 8 rfl (by kernel_rfl) rfl rfl (pu_lenV hT rfl rfl (ev_nestv (ev_tmp rfl))) rfl rfl rfl rfl ?_
  refine zD 9 ?_
  refine d_call 10 rfl (by kernel_rfl) rfl rfl rfl Tryz.call73 (ok_impl_InRange (n := t.2.2.1) (lo := 0) (hi := ((((t.2.1)).length : Int)) - (1)) ) (as_cons (ev_tmp rfl) (ag_one ac_dv) (as_cons (ev_int (inR_lit rfl)) (ag_one ac_dv) (as_cons (ev_tmp rfl) (ag_one ac_dv) as_nil))) rfl rfl rfl rfl ?_
  refine d_done (by kernel_rfl) ?_
  refine z ?_
  refine yQ rfl (fun c2 => ?_) fun c2 => ?_
  ·skip
   have hin : tin t t.2.2.1 = true := c2
   have hop := tin_bd hin
   refine ok_cutS (σ' := ⟨[(2, .one (.dv [] (.int .i64 (i)))), (3, .box 3 0), (4, .box 4 0), (6, .box 6 0), (7, .box 7 0), (8, .one (.dv [] (.bool (false)))), (9, .box 9 0), (10, .box 10 0), (11, .eptr 95031 ((i).toNat * 5)), (12, .one (.dv [] (.bool (false)))), (13, .box 13 0), (14, .one (.dv [] (.int .i64 ((runOp (d) ((t.2.1.getD (t.2.2.1).toNat default))).2.1)))), (15, .one (.dv [] (.bool ((runOp (d) ((t.2.1.getD (t.2.2.1).toNat default))).2.2))))], [(3, 38, [(.dv [] (.str (d.1))), (.dv [] (.int .i64 (d.2.1))), (.dv [] (storesD (d.2.2.1))), (.dv [] (defsD (d.2.2.2)))]), (4, 73, [(.dv [] (txsD (q)))]), (6, 38, [(.dv [] (.str (ByteArray.empty))), (.dv [] (.int .i64 (0))), .nil, .nil]), (7, 73, [.nil]), (9, 38, [(.dv [] (.str ((d).1))), (.dv [] (.int .i64 ((d).2.1))), (.key 90031), (.key 90900)]), (10, 73, [(.key 95031)]), (13, 38, [(.dv [] (.str ((runOp (d) ((t.2.1.getD (t.2.2.1).toNat default))).1.1))), (.dv [] (.int .i64 ((runOp (d) ((t.2.1.getD (t.2.2.1).toNat default))).1.2.1))), (.key 91031), (.key 91900)])], [(90031, some (kcOf false (storesD ((d).2.2.1)))), (90900, some (kcOf false (defsD ((d).2.2.2)))), (91031, some (kcOf false (storesD ((runOp (d) ((t.2.1.getD (t.2.2.1).toNat default))).1.2.2.1)))), (91900, some (kcOf false (defsD ((runOp (d) ((t.2.1.getD (t.2.2.1).toNat default))).1.2.2.2)))), (95031, some (kcOf false (.sl 109 5 (((q)).length) (mid ((q.take (i).toNat).flatMap eTx) [.int .i64 (t.1), opsD (t.2.1), .int .i64 (t.2.2.1), .int .i64 (t.2.2.2.1), storesD (t.2.2.2.2)] ((q.drop ((i).toNat + 1)).flatMap eTx)))))]⟩) ?_ ?_
   ·skip
    refine ok_regionD (oB := [3, 4, 6, 7, 9, 10]) (oK := [90031, 90900, 95031]) (by kernel_rfl) rfl rfl ?_
    refine zD 0 ?_
    refine zD 1 ?_
    refine d_take 2 rfl (by kernel_rfl) rfl rfl (pu_nilE rfl (ev_tmp rfl)) rfl rfl rfl rfl ?_
    refine zD 3 ?_
    refine d_take 4 rfl (by kernel_rfl) rfl rfl (pu_loadE1 hT rfl rfl (ev_tmp rfl) rfl (get_mid (off := ((i).toNat * 5 + 1)) (j := 1) (flat_pre (sz := 5) (fun _ => rfl) (Nat.le_of_lt hit)) (by omega) rfl)) rfl rfl rfl rfl ?_
    refine zD 5 ?_
    refine d_take 6 rfl (by kernel_rfl) rfl rfl (pu_nilE rfl (ev_tmp rfl)) rfl rfl rfl rfl ?_
    refine zD 7 ?_
    refine d_take 8 rfl (by kernel_rfl) rfl rfl (pu_loadE1 hT rfl rfl (ev_tmp rfl) rfl (get_mid (off := ((i).toNat * 5 + 2)) (j := 2) (flat_pre (sz := 5) (fun _ => rfl) (Nat.le_of_lt hit)) (by omega) rfl)) rfl rfl rfl rfl ?_
    refine d_take 9 rfl (by kernel_rfl) rfl rfl (pu_indexD hT rfl rfl rfl (ev_nestv (ev_tmp rfl)) (ev_tmp rfl) (fun _ => rfl) (by omega) (by omega)) rfl rfl rfl rfl ?_
    refine zD 10 ?_
    refine d_vars (A := [(16, 13, 38, _)]) hT ⟨⟨_, _, rfl⟩, rfl, trivial⟩ ?_
    refine a_callK 1000 11 rfl (by kernel_rfl) rfl rfl rfl (vok hT ⟨⟨_, _, rfl⟩, rfl, trivial⟩ (by kernel_rfl) (by kernel_rfl)) (vok hT ⟨⟨_, _, rfl⟩, rfl, trivial⟩ (by kernel_rfl) (by kernel_rfl)) rfl Tryz.call12 (ok_impl_RunOp (d := d) (o := (t.2.1.getD (t.2.2.1).toNat default)) (by omega)) (as_cons (ev_tmp rfl) (ag_agg (ag_cons ac_dv (ag_cons ac_dv (ag_cons (ac_key' rfl rfl) (ag_cons (ac_key' rfl rfl) ag_nil))))) (as_cons (ev_tmp rfl) (ag_agg (ag_cons ac_dv (ag_cons ac_dv (ag_cons ac_dv (ag_cons ac_dv (ag_cons ac_dv (ag_cons ac_dv (ag_cons ac_dv ag_nil)))))))) as_nil)) rfl rfl rfl rfl rfl ?_
    refine a_take 12 rfl (by kernel_rfl) rfl rfl rfl (vok hT ⟨⟨_, _, rfl⟩, rfl, trivial⟩ (by kernel_rfl) (by kernel_rfl)) (vok hT ⟨⟨_, _, rfl⟩, rfl, trivial⟩ (by kernel_rfl) (by kernel_rfl)) (pu_move (.inl rfl) (ev_tmp rfl)) rfl rfl rfl rfl ?_
    refine a_takeX 13 rfl (by kernel_rfl) rfl rfl rfl rfl (vok hT ⟨⟨_, _, rfl⟩, rfl, trivial⟩ (by kernel_rfl) (by kernel_rfl)) (vok hT ⟨⟨_, _, rfl⟩, rfl, trivial⟩ (by kernel_rfl) (by kernel_rfl)) (pu_extractA rfl (ev_tmp rfl) rfl) rfl rfl ?_
    refine a_takeX 14 rfl (by kernel_rfl) rfl rfl rfl rfl (vok hT ⟨⟨_, _, rfl⟩, rfl, trivial⟩ (by kernel_rfl) (by kernel_rfl)) (vok hT ⟨⟨_, _, rfl⟩, rfl, trivial⟩ (by kernel_rfl) (by kernel_rfl)) (pu_extract1 rfl (ev_tmp rfl) rfl) rfl rfl ?_
    refine a_takeX 15 rfl (by kernel_rfl) rfl rfl rfl rfl (vok hT ⟨⟨_, _, rfl⟩, rfl, trivial⟩ (by kernel_rfl) (by kernel_rfl)) (vok hT ⟨⟨_, _, rfl⟩, rfl, trivial⟩ (by kernel_rfl) (by kernel_rfl)) (pu_extract1 rfl (ev_tmp rfl) rfl) rfl rfl ?_
    refine a_exit1 (vok hT ⟨⟨_, _, rfl⟩, rfl, trivial⟩ (by kernel_rfl) (by kernel_rfl)) rfl rfl (by kernel_rfl) ?_
    dsimp only [addT, addB]
    refine d_chain [17, 18, 19] rfl rfl (by kernel_rfl) ?_
    iterate 3 refine z ?_
    refine ops_nil ?_
    exact then_n (weak_sub ⟨rfl, rfl, rfl, rfl, rfl, rfl, rfl, rfl, rfl, rfl, rfl, rfl, rfl, trivial⟩ ⟨rfl, rfl, rfl, rfl, rfl, rfl, rfl, trivial⟩ ⟨rfl, rfl, rfl, rfl, rfl, trivial⟩ rfl)
   iterate 4 refine z ?_
   refine ok_seq ?_
   refine ok_weak (weak_swapB (b := 9) (i := 2) (k := 91031) (k' := 90031) rfl rfl rfl rfl (by simp) rfl rfl) ?_
   simp only [killT, killB, SV.kill, CV.kill, kk, Nat.reduceBEq]
   refine ok_weak (weak_swapB (b := 9) (i := 3) (k := 91900) (k' := 90900) rfl rfl rfl rfl (by simp) rfl rfl) ?_
   simp only [killT, killB, SV.kill, CV.kill, kk, Nat.reduceBEq]
   refine ok_region ?_
   iterate 4 refine z ?_
   refine ok_region ?_
   refine z ?_
   refine yO rfl rfl (pu_nilE rfl (ev_tmp rfl)) rfl ?_
   refine z ?_
   refine yO rfl rfl (pu_loadE1 hT rfl rfl (ev_tmp rfl) rfl (get_mid (off := ((i).toNat * 5 + 2)) (j := 2) (flat_pre (sz := 5) (fun _ => rfl) (Nat.le_of_lt hit)) (by omega) rfl)) rfl ?_
   refine z ?_
   refine yO rfl rfl (pu_nilE rfl (ev_tmp rfl)) rfl ?_
   refine z ?_
   refine o_storeE (js := []) (cs := mid ((q.take (i).toNat).flatMap eTx) [.int .i64 (t.1), opsD (t.2.1), .int .i64 ((t.2.2.1) + (1)), .int .i64 (t.2.2.2.1), storesD (t.2.2.2.2)] ((q.drop ((i).toNat + 1)).flatMap eTx)) hT rfl rfl rfl rfl (ev_tmp rfl) (ev_tmp rfl) rfl rfl rfl rfl (ow_cons' (ow_dv rfl) ow_nil rfl) (by decide) (by decide) rfl (le_mid (off := ((i).toNat * 5 + 2)) (n := 1) (j := 2) (flat_pre (sz := 5) (fun _ => rfl) (Nat.le_of_lt hit)) (by omega) (Nat.le_of_ble_eq_true rfl)) (setR_mid (off := ((i).toNat * 5 + 2)) (j := 2) (flat_pre (sz := 5) (fun _ => rfl) (Nat.le_of_lt hit)) (by omega) rfl (Nat.le_of_ble_eq_true rfl)) ?_
   simp only [killT, killB, SV.kill, CV.kill, kk, Nat.reduceBEq]
   iterate 5 refine z ?_
   refine yQ rfl (fun c3 => ?_) fun c3 => ?_
   ·skip
    have hok : (runOp d (t.2.1.getD (t.2.2.1).toNat default)).2.2 = false := by simpa using c3
    have hsm := runOp_same hok
    iterate 3 refine z ?_
    refine yO rfl rfl (pu_nilE rfl (ev_tmp rfl)) rfl ?_
    refine z ?_
    refine yO rfl rfl (pu_loadE1 hT rfl rfl (ev_tmp rfl) rfl (get_mid (off := ((i).toNat * 5 + 4)) (j := 4) (flat_pre (sz := 5) (fun _ => rfl) (Nat.le_of_lt hit)) (by omega) rfl)) rfl ?_
    refine yO rfl rfl (pu_lenV hT rfl rfl (ev_nestv (ev_tmp rfl))) rfl ?_
    iterate 3 refine z ?_
    refine ok_loop (ι := Nat × DbT) (fun zz => ⟨[(6, .box 6 0), (7, .box 7 0), (8, .one (.dv [] (.bool (false)))), (9, .box 9 0), (10, .box 10 0), (11, .eptr 95031 ((i).toNat * 5)), (88, .one (.nest 95031 (((i).toNat * 5 + 4)) (storesD (t.2.2.2.2)))), (89, .one (.dv [] (.int .i64 ((((t.2.2.2.2)).length : Int))))), (90, .one (.dv [] (.int .i64 ((zz.1 : Int)))))], [(3, 38, [(.dv [] (.str (d.1))), (.dv [] (.int .i64 (d.2.1))), (.dv [] (storesD (d.2.2.1))), (.dv [] (defsD (d.2.2.2)))]), (4, 73, [(.dv [] (txsD (q)))]), (6, 38, [(.dv [] (.str (ByteArray.empty))), (.dv [] (.int .i64 (0))), .nil, .nil]), (7, 73, [.nil]), (9, 38, [(.dv [] (.str (zz.2.1))), (.dv [] (.int .i64 (zz.2.2.1))), (.key 90031), (.key 90900)]), (10, 73, [(.key 95031)])], [(90031, some (kcOf false (.sl 91 3 (zz.2.2.2.1.length) (zz.2.2.2.1.flatMap eStore)))), (90900, some (kcOf false (.sl 127 2 (zz.2.2.2.2.length) (zz.2.2.2.2.flatMap eDef)))), (95031, some (kcOf false (.sl 109 5 (((q)).length) (mid ((q.take (i).toNat).flatMap eTx) [.int .i64 (t.1), opsD (t.2.1), .int .i64 ((t.2.2.1) + (1)), .int .i64 (t.2.2.2.1), storesD (t.2.2.2.2)] ((q.drop ((i).toNat + 1)).flatMap eTx)))))]⟩) (fun zz => zz.1 ≤ t.2.2.2.2.length ∧ restL d t.2.2.2.2 = restL zz.2 (t.2.2.2.2.drop zz.1)) (fun zz => t.2.2.2.2.length - zz.1) ((0, (runOp d (t.2.1.getD (t.2.2.1).toNat default)).1)) ?_ (weak_sub ⟨rfl, rfl, rfl, rfl, rfl, rfl, rfl, rfl, rfl, trivial⟩ ⟨rfl, rfl, rfl, rfl, rfl, rfl, trivial⟩ ⟨rfl, rfl, rfl, trivial⟩ rfl) (fun zz hx => ?_)
    ·exact ⟨Nat.zero_le _, by dsimp only; rw [hsm]; simp⟩
    obtain ⟨n, c⟩ := zz
    replace hx : n ≤ t.2.2.2.2.length ∧ restL d t.2.2.2.2 = restL c (t.2.2.2.2.drop n) := hx
    obtain ⟨hn, hi⟩ := hx
    have hw := fun h => wSum_succ wStore t.2.2.2.2 n h
    have hwle := wSum_le wStore t.2.2.2.2 (n + 1)
    show Ok _ _ _ _ _ (⟨[(6, .box 6 0), (7, .box 7 0), (8, .one (.dv [] (.bool (false)))), (9, .box 9 0), (10, .box 10 0), (11, .eptr 95031 ((i).toNat * 5)), (88, .one (.nest 95031 (((i).toNat * 5 + 4)) (storesD (t.2.2.2.2)))), (89, .one (.dv [] (.int .i64 ((((t.2.2.2.2)).length : Int))))), (90, .one (.dv [] (.int .i64 ((n : Int)))))], [(3, 38, [(.dv [] (.str (d.1))), (.dv [] (.int .i64 (d.2.1))), (.dv [] (storesD (d.2.2.1))), (.dv [] (defsD (d.2.2.2)))]), (4, 73, [(.dv [] (txsD (q)))]), (6, 38, [(.dv [] (.str (ByteArray.empty))), (.dv [] (.int .i64 (0))), .nil, .nil]), (7, 73, [.nil]), (9, 38, [(.dv [] (.str (c.1))), (.dv [] (.int .i64 (c.2.1))), (.key 90031), (.key 90900)]), (10, 73, [(.key 95031)])], [(90031, some (kcOf false (.sl 91 3 (c.2.2.1.length) (c.2.2.1.flatMap eStore)))), (90900, some (kcOf false (.sl 127 2 (c.2.2.2.length) (c.2.2.2.flatMap eDef)))), (95031, some (kcOf false (.sl 109 5 (((q)).length) (mid ((q.take (i).toNat).flatMap eTx) [.int .i64 (t.1), opsD (t.2.1), .int .i64 ((t.2.2.1) + (1)), .int .i64 (t.2.2.2.1), storesD (t.2.2.2.2)] ((q.drop ((i).toNat + 1)).flatMap eTx)))))]⟩ : St)
    iterate 3 refine z ?_
    refine ok_seq ?_
    refine yQ rfl (fun c4 => ?_) fun c4 => ?_
    ·skip
     have d4 := of_decide_eq_true c4
     have hn2 : n < t.2.2.2.2.length := by omega
     obtain ⟨hw1, hw2⟩ := hw hn2
     have hrs := rest_step (c := c) hn2
     iterate 5 refine z ?_
     refine yO rfl rfl (pu_indexD hT rfl rfl rfl (ev_nestv (ev_tmp rfl)) (ev_tmp rfl) (fun _ => rfl) (by omega) (by omega)) rfl ?_
     iterate 8 refine z ?_
     refine o_call rfl rfl rfl Tryz.call50 (ok_impl_FindStore (x := c) (n := (t.2.2.2.2.getD (n : Int).toNat default).1)) (as_cons (ev_tmp rfl) (ag_agg (ag_cons ac_dv (ag_cons ac_dv (ag_cons (ac_key' rfl rfl) (ag_cons (ac_key' rfl rfl) ag_nil))))) (as_cons (ev_tmp rfl) (ag_one ac_dv) as_nil)) rfl rfl ?_
     iterate 6 refine z ?_
     refine yQ rfl (fun c5 => ?_) fun c5 => ?_
     ·skip
      have d5 := of_decide_eq_true c5
      have hlt : (findI (hasName (t.2.2.2.2.getD (n : Int).toNat default).1) c.2.2.1 0) < c.2.2.1.length := fndS_lt c (t.2.2.2.2.getD (n : Int).toNat default).1
      have hkn : (findI (hasName (t.2.2.2.2.getD (n : Int).toNat default).1) c.2.2.1 0).toNat < c.2.2.1.length := by omega
      rw [if_pos (show 0 ≤ fndS c (t.2.2.2.2.getD (n : Int).toNat default).1 from d5)] at hrs
      refine ok_regionD (oB := [3, 4, 6, 7, 9, 10, 17]) (oK := [90031, 90900, 95031]) (by kernel_rfl) rfl rfl ?_
      refine zD 0 ?_
      refine zD 1 ?_
      refine zD 2 ?_
      refine zD 3 ?_
      refine d_callK 96970 4 rfl (by kernel_rfl) rfl rfl rfl Tryz.call74 (ok_impl_copyStore (x := (t.2.2.2.2.getD (n : Int).toNat default)) (by omega)) (as_cons (ev_tmp rfl) (ag_agg (ag_cons ac_dv (ag_cons ac_dv (ag_cons ac_dv ag_nil)))) as_nil) rfl rfl rfl rfl rfl ?_
      refine d_take 5 rfl (by kernel_rfl) rfl rfl (pu_indexK (i := (findI (hasName ((t.2.2.2.2.getD (n : Int).toNat default).1)) (c).2.2.1 0).toNat) hT rfl rfl rfl (ev_tmp rfl) rfl (ev_tmp rfl) (by omega) (by show _ < (c.2.2.1.length); omega)) rfl rfl rfl rfl ?_
      refine d_chain [6] rfl rfl (by kernel_rfl) ?_
      refine o_storeE (js := [97000]) (cs := (c.2.2.1.set (findI (hasName (t.2.2.2.2.getD (n : Int).toNat default).1) c.2.2.1 0).toNat (t.2.2.2.2.getD (n : Int).toNat default)).flatMap eStore) hT rfl rfl rfl rfl (ev_tmp rfl) (ev_tmp rfl) rfl rfl rfl rfl (ow_cons' (ow_dv rfl) (ow_cons' (ow_key rfl) (ow_cons' (ow_dv rfl) ow_nil rfl) rfl) rfl) (by decide) (by decide) rfl (by show _ ≤ List.length (c.2.2.1.flatMap eStore); exact el_le (enc := eStore) (sz := 3) (fun _ => rfl) hkn) (el_set (enc := eStore) (sz := 3) (fun _ => rfl) hkn (t.2.2.2.2.getD (n : Int).toNat default)) ?_
      simp only [killT, killB, SV.kill, CV.kill, kk, Nat.reduceBEq]
      refine ops_nil ?_
      iterate 2 refine z ?_
      refine ok_region ?_
      iterate 3 refine z ?_
      refine ⟨(n + 1, putS c (findI (hasName (t.2.2.2.2.getD (n : Int).toNat default).1) c.2.2.1 0).toNat (t.2.2.2.2.getD (n : Int).toNat default)), ?_, ?_, weak_sub ⟨rfl, rfl, rfl, rfl, rfl, rfl, rfl, rfl, rfl, trivial⟩ ⟨rfl, rfl, rfl, rfl, rfl, rfl, trivial⟩ ⟨(congrArg (fun m => some (some (KC.mk false 91 3 m ((c.2.2.1.set (findI (hasName (t.2.2.2.2.getD (n : Int).toNat default).1) c.2.2.1 0).toNat (t.2.2.2.2.getD (n : Int).toNat default)).flatMap eStore)))) (List.length_set).symm), rfl, rfl, trivial⟩ rfl⟩
      ·exact ⟨hn2, by rw [hi]; exact hrs⟩
      ·dsimp only; omega
     ·skip
      have d5 := of_decide_eq_false c5
      rw [if_neg (show ¬ 0 ≤ fndS c (t.2.2.2.2.getD (n : Int).toNat default).1 from d5)] at hrs
      iterate 3 refine z ?_
      refine ok_region ?_
      iterate 3 refine z ?_
      refine ⟨(n + 1, c), ?_, ?_, weak_sub ⟨rfl, rfl, rfl, rfl, rfl, rfl, rfl, rfl, rfl, trivial⟩ ⟨rfl, rfl, rfl, rfl, rfl, rfl, trivial⟩ ⟨rfl, rfl, rfl, trivial⟩ rfl⟩
      ·exact ⟨hn2, by rw [hi]; exact hrs⟩
      ·dsimp only; omega
    ·skip
     have d4 := of_decide_eq_false c4
     iterate 7 refine z ?_
     refine yO rfl rfl (pu_nilE rfl (ev_tmp rfl)) rfl ?_
     refine z ?_
     refine o_storeE (js := []) (cs := mid ((q.take (i).toNat).flatMap eTx) [.int .i64 (t.1), opsD (t.2.1), .int .i64 ((t.2.2.1) + (1)), .int .i64 (3), storesD (t.2.2.2.2)] ((q.drop ((i).toNat + 1)).flatMap eTx)) hT rfl rfl rfl rfl (ev_tmp rfl) (ev_int (inR_lit rfl)) rfl rfl rfl rfl (ow_cons' (ow_dv rfl) ow_nil rfl) (by decide) (by decide) rfl (le_mid (off := ((i).toNat * 5 + 3)) (n := 1) (j := 3) (flat_pre (sz := 5) (fun _ => rfl) (Nat.le_of_lt hit)) (by omega) (Nat.le_of_ble_eq_true rfl)) (setR_mid (off := ((i).toNat * 5 + 3)) (j := 3) (flat_pre (sz := 5) (fun _ => rfl) (Nat.le_of_lt hit)) (by omega) rfl (Nat.le_of_ble_eq_true rfl)) ?_
     simp only [killT, killB, SV.kill, CV.kill, kk, Nat.reduceBEq]
     refine z ?_
     refine ok_region ?_
     refine z ?_
     refine yO rfl rfl (pu_nilE rfl (ev_tmp rfl)) rfl ?_
     refine z ?_
     refine o_storeE (js := []) (cs := mid ((q.take (i).toNat).flatMap eTx) [.int .i64 (t.1), opsD (t.2.1), .int .i64 ((t.2.2.1) + (1)), .int .i64 (3), .sl 91 3 0 []] ((q.drop ((i).toNat + 1)).flatMap eTx)) hT rfl rfl rfl rfl (ev_tmp rfl) ev_nil rfl rfl rfl rfl (ow_cons' (ow_nilc (e := 91) (sz := 3) rfl) ow_nil rfl) (by decide) (by decide) rfl (le_mid (off := ((i).toNat * 5 + 4)) (n := 1) (j := 4) (flat_pre (sz := 5) (fun _ => rfl) (Nat.le_of_lt hit)) (by omega) (Nat.le_of_ble_eq_true rfl)) (setR_mid (off := ((i).toNat * 5 + 4)) (j := 4) (flat_pre (sz := 5) (fun _ => rfl) (Nat.le_of_lt hit)) (by omega) rfl (Nat.le_of_ble_eq_true rfl)) ?_
     simp only [killT, killB, SV.kill, CV.kill, kk, Nat.reduceBEq]
     refine z ?_
     refine ok_seq ?_
     refine ok_regionW 6 (oB := [3, 4, 7, 9, 10]) (oK := [90031, 90900, 95031]) (by kernel_rfl) rfl rfl ?_
     refine w_take 0 rfl (by kernel_rfl) rfl rfl (pu_loadBoxA hT rfl rfl (ev_tmp rfl) rfl rfl) rfl rfl rfl rfl rfl ?_
     refine w_take 1 rfl (by kernel_rfl) rfl rfl (pu_loadBoxA hT rfl rfl (ev_tmp rfl) rfl rfl) rfl rfl rfl rfl rfl ?_
     refine w_store 2 rfl (by kernel_rfl) rfl hT rfl rfl rfl (ev_tmp rfl) (ev_tmp rfl) rfl rfl rfl rfl rfl rfl ?_
     refine w_chain [3, 4] rfl rfl (by kernel_rfl) ?_
     iterate 3 refine z ?_
     have hfin : restL d t.2.2.2.2 = c := by rw [hi, List.drop_of_length_le (by omega)]; rfl
     rw [step_fail hb1 ht hin hok, hfin]
     refine ok_weak (σ' := ⟨[(6, .box 6 0), (7, .box 7 0), (8, .one (.dv [] (.bool (true))))], [(6, 38, [(.dv [] (.str (c.1))), (.dv [] (.int .i64 (c.2.1))), (.key 90031), (.key 90900)]), (7, 73, [(.key 95031)])], [(90031, some (kcOf false (storesD (c.2.2.1)))), (90900, some (kcOf false (defsD (c.2.2.2)))), (95031, some (kcOf false (txsD (q.set (i).toNat (t.1, t.2.1, t.2.2.1 + 1, (3 : Int), ([] : List StoreT))))))]⟩) (weak_sub ⟨rfl, rfl, rfl, trivial⟩ ⟨rfl, rfl, trivial⟩ ⟨rfl, rfl, (fin_set hit (t.1, t.2.1, t.2.2.1 + 1, (3 : Int), ([] : List StoreT))), trivial⟩ rfl) ?_
     refine z ?_
     refine fin3 (res_cell hT rfl rfl rfl rfl) (res_cell hT rfl rfl rfl rfl) (res_tmp rfl) rfl rfl rfl ?_
     first | exact ⟨rfl, rfl⟩ | skip
   ·skip
    have hok : (runOp d (t.2.1.getD (t.2.2.1).toNat default)).2.2 = true := by simpa using c3
    refine ok_seq ?_
    refine ok_regionD (oB := [3, 4, 6, 7, 9, 10, 13]) (oK := [90031, 90900, 95031]) (by kernel_rfl) rfl rfl ?_
    refine zD 0 ?_
    refine d_take 1 rfl (by kernel_rfl) rfl rfl (pu_nilE rfl (ev_tmp rfl)) rfl rfl rfl rfl ?_
    refine zD 2 ?_
    refine d_take 3 rfl (by kernel_rfl) rfl rfl (pu_loadE1 hT rfl rfl (ev_tmp rfl) rfl (get_mid (off := ((i).toNat * 5 + 2)) (j := 2) (flat_pre (sz := 5) (fun _ => rfl) (Nat.le_of_lt hit)) (by omega) rfl)) rfl rfl rfl rfl ?_
    refine zD 4 ?_
    refine d_take 5 rfl (by kernel_rfl) rfl rfl (pu_nilE rfl (ev_tmp rfl)) rfl rfl rfl rfl ?_
    refine zD 6 ?_
    refine d_take 7 rfl (by kernel_rfl) rfl rfl (pu_loadE1 hT rfl rfl (ev_tmp rfl) rfl (get_mid (off := ((i).toNat * 5 + 1)) (j := 1) (flat_pre (sz := 5) (fun _ => rfl) (Nat.le_of_lt hit)) (by omega) rfl)) rfl rfl rfl rfl ?_
    refine d_take 8 rfl (by kernel_rfl) rfl rfl (pu_lenV hT rfl rfl (ev_nestv (ev_tmp rfl))) rfl rfl rfl rfl ?_
    refine zD 9 ?_
    refine d_call 10 rfl (by kernel_rfl) rfl rfl rfl Tryz.call73 (ok_impl_InRange (n := (t.2.2.1) + (1)) (lo := 0) (hi := ((((t.2.1)).length : Int)) - (1)) ) (as_cons (ev_tmp rfl) (ag_one ac_dv) (as_cons (ev_int (inR_lit rfl)) (ag_one ac_dv) (as_cons (ev_tmp rfl) (ag_one ac_dv) as_nil))) rfl rfl rfl rfl ?_
    refine zD 11 ?_
    refine d_done (by kernel_rfl) ?_
    refine z ?_
    refine yQ rfl (fun c6 => ?_) fun c6 => ?_
    ·skip
     iterate 2 refine z ?_
     refine yO rfl rfl (pu_nilE rfl (ev_tmp rfl)) rfl ?_
     refine z ?_
     refine o_storeE (js := []) (cs := mid ((q.take (i).toNat).flatMap eTx) [.int .i64 (t.1), opsD (t.2.1), .int .i64 ((t.2.2.1) + (1)), .int .i64 (2), storesD (t.2.2.2.2)] ((q.drop ((i).toNat + 1)).flatMap eTx)) hT rfl rfl rfl rfl (ev_tmp rfl) (ev_int (inR_lit rfl)) rfl rfl rfl rfl (ow_cons' (ow_dv rfl) ow_nil rfl) (by decide) (by decide) rfl (le_mid (off := ((i).toNat * 5 + 3)) (n := 1) (j := 3) (flat_pre (sz := 5) (fun _ => rfl) (Nat.le_of_lt hit)) (by omega) (Nat.le_of_ble_eq_true rfl)) (setR_mid (off := ((i).toNat * 5 + 3)) (j := 3) (flat_pre (sz := 5) (fun _ => rfl) (Nat.le_of_lt hit)) (by omega) rfl (Nat.le_of_ble_eq_true rfl)) ?_
     simp only [killT, killB, SV.kill, CV.kill, kk, Nat.reduceBEq]
     refine z ?_
     refine ok_region ?_
     refine z ?_
     refine yO rfl rfl (pu_nilE rfl (ev_tmp rfl)) rfl ?_
     refine z ?_
     refine o_storeE (js := []) (cs := mid ((q.take (i).toNat).flatMap eTx) [.int .i64 (t.1), opsD (t.2.1), .int .i64 ((t.2.2.1) + (1)), .int .i64 (2), .sl 91 3 0 []] ((q.drop ((i).toNat + 1)).flatMap eTx)) hT rfl rfl rfl rfl (ev_tmp rfl) ev_nil rfl rfl rfl rfl (ow_cons' (ow_nilc (e := 91) (sz := 3) rfl) ow_nil rfl) (by decide) (by decide) rfl (le_mid (off := ((i).toNat * 5 + 4)) (n := 1) (j := 4) (flat_pre (sz := 5) (fun _ => rfl) (Nat.le_of_lt hit)) (by omega) (Nat.le_of_ble_eq_true rfl)) (setR_mid (off := ((i).toNat * 5 + 4)) (j := 4) (flat_pre (sz := 5) (fun _ => rfl) (Nat.le_of_lt hit)) (by omega) rfl (Nat.le_of_ble_eq_true rfl)) ?_
     simp only [killT, killB, SV.kill, CV.kill, kk, Nat.reduceBEq]
     refine z ?_
     refine ok_seq ?_
     refine ok_regionW 6 (oB := [3, 4, 7, 9, 10, 13]) (oK := [90031, 90900, 95031]) (by kernel_rfl) rfl rfl ?_
     refine w_take 0 rfl (by kernel_rfl) rfl rfl (pu_loadBoxA hT rfl rfl (ev_tmp rfl) rfl rfl) rfl rfl rfl rfl rfl ?_
     refine w_take 1 rfl (by kernel_rfl) rfl rfl (pu_loadBoxA hT rfl rfl (ev_tmp rfl) rfl rfl) rfl rfl rfl rfl rfl ?_
     refine w_store 2 rfl (by kernel_rfl) rfl hT rfl rfl rfl (ev_tmp rfl) (ev_tmp rfl) rfl rfl rfl rfl rfl rfl ?_
     refine w_chain [3, 4] rfl rfl (by kernel_rfl) ?_
     iterate 3 refine z ?_
     rw [step_end hb1 ht hin hok (by simpa only [tin, Bool.not_eq_true'] using c6)]
     refine ok_weak (σ' := ⟨[(6, .box 6 0), (7, .box 7 0), (8, .one (.dv [] (.bool (true))))], [(6, 38, [(.dv [] (.str ((runOp (d) ((t.2.1.getD (t.2.2.1).toNat default))).1.1))), (.dv [] (.int .i64 ((runOp (d) ((t.2.1.getD (t.2.2.1).toNat default))).1.2.1))), (.key 90031), (.key 90900)]), (7, 73, [(.key 95031)])], [(90031, some (kcOf false (storesD ((runOp d (t.2.1.getD (t.2.2.1).toNat default)).1.2.2.1)))), (90900, some (kcOf false (defsD ((runOp d (t.2.1.getD (t.2.2.1).toNat default)).1.2.2.2)))), (95031, some (kcOf false (txsD (q.set (i).toNat (t.1, t.2.1, t.2.2.1 + 1, (2 : Int), ([] : List StoreT))))))]⟩) (weak_sub ⟨rfl, rfl, rfl, trivial⟩ ⟨rfl, rfl, trivial⟩ ⟨rfl, rfl, (fin_set hit (t.1, t.2.1, t.2.2.1 + 1, (2 : Int), ([] : List StoreT))), trivial⟩ rfl) ?_
     refine z ?_
     refine fin3 (res_cell hT rfl rfl rfl rfl) (res_cell hT rfl rfl rfl rfl) (res_tmp rfl) rfl rfl rfl ?_
     first | exact ⟨rfl, rfl⟩ | skip
    ·skip
     iterate 2 refine z ?_
     refine ok_seq ?_
     refine ok_regionW 6 (oB := [3, 4, 7, 9, 10, 13]) (oK := [90031, 90900, 95031]) (by kernel_rfl) rfl rfl ?_
     refine w_take 0 rfl (by kernel_rfl) rfl rfl (pu_loadBoxA hT rfl rfl (ev_tmp rfl) rfl rfl) rfl rfl rfl rfl rfl ?_
     refine w_take 1 rfl (by kernel_rfl) rfl rfl (pu_loadBoxA hT rfl rfl (ev_tmp rfl) rfl rfl) rfl rfl rfl rfl rfl ?_
     refine w_store 2 rfl (by kernel_rfl) rfl hT rfl rfl rfl (ev_tmp rfl) (ev_tmp rfl) rfl rfl rfl rfl rfl rfl ?_
     refine w_chain [3, 4] rfl rfl (by kernel_rfl) ?_
     iterate 3 refine z ?_
     rw [step_go hb1 ht hin hok (by simpa only [tin, Bool.not_eq_false'] using c6)]
     refine ok_weak (σ' := ⟨[(6, .box 6 0), (7, .box 7 0), (8, .one (.dv [] (.bool (true))))], [(6, 38, [(.dv [] (.str ((runOp (d) ((t.2.1.getD (t.2.2.1).toNat default))).1.1))), (.dv [] (.int .i64 ((runOp (d) ((t.2.1.getD (t.2.2.1).toNat default))).1.2.1))), (.key 90031), (.key 90900)]), (7, 73, [(.key 95031)])], [(90031, some (kcOf false (storesD ((runOp d (t.2.1.getD (t.2.2.1).toNat default)).1.2.2.1)))), (90900, some (kcOf false (defsD ((runOp d (t.2.1.getD (t.2.2.1).toNat default)).1.2.2.2)))), (95031, some (kcOf false (txsD (q.set (i).toNat (t.1, t.2.1, t.2.2.1 + 1, t.2.2.2.1, t.2.2.2.2)))))]⟩) (weak_sub ⟨rfl, rfl, rfl, trivial⟩ ⟨rfl, rfl, trivial⟩ ⟨rfl, rfl, (fin_set hit (t.1, t.2.1, t.2.2.1 + 1, t.2.2.2.1, t.2.2.2.2)), trivial⟩ rfl) ?_
     refine z ?_
     refine fin3 (res_cell hT rfl rfl rfl rfl) (res_cell hT rfl rfl rfl rfl) (res_tmp rfl) rfl rfl rfl ?_
     first | exact ⟨rfl, rfl⟩ | skip
  ·skip
   have hin : tin t t.2.2.1 = false := c2
   iterate 6 refine z ?_
   refine yQ rfl (fun c7 => ?_) fun c7 => ?_
   ·skip
    exact absurd c7 (by simp)
   ·skip
    refine ok_seq ?_
    refine ok_regionD (oB := [3, 4, 6, 7, 9, 10]) (oK := [90031, 90900, 95031]) (by kernel_rfl) rfl rfl ?_
    refine zD 0 ?_
    refine d_take 1 rfl (by kernel_rfl) rfl rfl (pu_nilE rfl (ev_tmp rfl)) rfl rfl rfl rfl ?_
    refine zD 2 ?_
    refine d_take 3 rfl (by kernel_rfl) rfl rfl (pu_loadE1 hT rfl rfl (ev_tmp rfl) rfl (get_mid (off := ((i).toNat * 5 + 2)) (j := 2) (flat_pre (sz := 5) (fun _ => rfl) (Nat.le_of_lt hit)) (by omega) rfl)) rfl rfl rfl rfl ?_
    refine zD 4 ?_
    refine d_take 5 rfl (by kernel_rfl) rfl rfl (pu_nilE rfl (ev_tmp rfl)) rfl rfl rfl rfl ?_
    refine zD 6 ?_
    refine d_take 7 rfl (by kernel_rfl) rfl rfl (pu_loadE1 hT rfl rfl (ev_tmp rfl) rfl (get_mid (off := ((i).toNat * 5 + 1)) (j := 1) (flat_pre (sz := 5) (fun _ => rfl) (Nat.le_of_lt hit)) (by omega) rfl)) rfl rfl rfl rfl ?_
    refine d_take 8 rfl (by kernel_rfl) rfl rfl (pu_lenV hT rfl rfl (ev_nestv (ev_tmp rfl))) rfl rfl rfl rfl ?_
    refine zD 9 ?_
    refine d_call 10 rfl (by kernel_rfl) rfl rfl rfl Tryz.call73 (ok_impl_InRange (n := t.2.2.1) (lo := 0) (hi := ((((t.2.1)).length : Int)) - (1)) ) (as_cons (ev_tmp rfl) (ag_one ac_dv) (as_cons (ev_int (inR_lit rfl)) (ag_one ac_dv) (as_cons (ev_tmp rfl) (ag_one ac_dv) as_nil))) rfl rfl rfl rfl ?_
    refine zD 11 ?_
    refine d_done (by kernel_rfl) ?_
    refine z ?_
    refine yQ rfl (fun c8 => ?_) fun c8 => ?_
    ·skip
     iterate 2 refine z ?_
     refine yO rfl rfl (pu_nilE rfl (ev_tmp rfl)) rfl ?_
     refine z ?_
     refine o_storeE (js := []) (cs := mid ((q.take (i).toNat).flatMap eTx) [.int .i64 (t.1), opsD (t.2.1), .int .i64 (t.2.2.1), .int .i64 (2), storesD (t.2.2.2.2)] ((q.drop ((i).toNat + 1)).flatMap eTx)) hT rfl rfl rfl rfl (ev_tmp rfl) (ev_int (inR_lit rfl)) rfl rfl rfl rfl (ow_cons' (ow_dv rfl) ow_nil rfl) (by decide) (by decide) rfl (le_mid (off := ((i).toNat * 5 + 3)) (n := 1) (j := 3) (flat_pre (sz := 5) (fun _ => rfl) (Nat.le_of_lt hit)) (by omega) (Nat.le_of_ble_eq_true rfl)) (setR_mid (off := ((i).toNat * 5 + 3)) (j := 3) (flat_pre (sz := 5) (fun _ => rfl) (Nat.le_of_lt hit)) (by omega) rfl (Nat.le_of_ble_eq_true rfl)) ?_
     simp only [killT, killB, SV.kill, CV.kill, kk, Nat.reduceBEq]
     refine z ?_
     refine ok_region ?_
     refine z ?_
     refine yO rfl rfl (pu_nilE rfl (ev_tmp rfl)) rfl ?_
     refine z ?_
     refine o_storeE (js := []) (cs := mid ((q.take (i).toNat).flatMap eTx) [.int .i64 (t.1), opsD (t.2.1), .int .i64 (t.2.2.1), .int .i64 (2), .sl 91 3 0 []] ((q.drop ((i).toNat + 1)).flatMap eTx)) hT rfl rfl rfl rfl (ev_tmp rfl) ev_nil rfl rfl rfl rfl (ow_cons' (ow_nilc (e := 91) (sz := 3) rfl) ow_nil rfl) (by decide) (by decide) rfl (le_mid (off := ((i).toNat * 5 + 4)) (n := 1) (j := 4) (flat_pre (sz := 5) (fun _ => rfl) (Nat.le_of_lt hit)) (by omega) (Nat.le_of_ble_eq_true rfl)) (setR_mid (off := ((i).toNat * 5 + 4)) (j := 4) (flat_pre (sz := 5) (fun _ => rfl) (Nat.le_of_lt hit)) (by omega) rfl (Nat.le_of_ble_eq_true rfl)) ?_
     simp only [killT, killB, SV.kill, CV.kill, kk, Nat.reduceBEq]
     refine z ?_
     refine ok_seq ?_
     refine ok_regionW 6 (oB := [3, 4, 7, 9, 10]) (oK := [90031, 90900, 95031]) (by kernel_rfl) rfl rfl ?_
     refine w_take 0 rfl (by kernel_rfl) rfl rfl (pu_loadBoxA hT rfl rfl (ev_tmp rfl) rfl rfl) rfl rfl rfl rfl rfl ?_
     refine w_take 1 rfl (by kernel_rfl) rfl rfl (pu_loadBoxA hT rfl rfl (ev_tmp rfl) rfl rfl) rfl rfl rfl rfl rfl ?_
     refine w_store 2 rfl (by kernel_rfl) rfl hT rfl rfl rfl (ev_tmp rfl) (ev_tmp rfl) rfl rfl rfl rfl rfl rfl ?_
     refine w_chain [3, 4] rfl rfl (by kernel_rfl) ?_
     iterate 3 refine z ?_
     rw [step_no hb1 ht hin]
     refine ok_weak (σ' := ⟨[(6, .box 6 0), (7, .box 7 0), (8, .one (.dv [] (.bool (true))))], [(6, 38, [(.dv [] (.str ((d).1))), (.dv [] (.int .i64 ((d).2.1))), (.key 90031), (.key 90900)]), (7, 73, [(.key 95031)])], [(90031, some (kcOf false (storesD (d.2.2.1)))), (90900, some (kcOf false (defsD (d.2.2.2)))), (95031, some (kcOf false (txsD (q.set (i).toNat (t.1, t.2.1, t.2.2.1, (2 : Int), ([] : List StoreT))))))]⟩) (weak_sub ⟨rfl, rfl, rfl, trivial⟩ ⟨rfl, rfl, trivial⟩ ⟨rfl, rfl, (fin_set hit (t.1, t.2.1, t.2.2.1, (2 : Int), ([] : List StoreT))), trivial⟩ rfl) ?_
     refine z ?_
     refine fin3 (res_cell hT rfl rfl rfl rfl) (res_cell hT rfl rfl rfl rfl) (res_tmp rfl) rfl rfl rfl ?_
     first | exact ⟨rfl, rfl⟩ | skip
    ·skip
     exact absurd c8 (by rw [c2]; simp)

theorem stepTx_w (d : DbT) (q : List TxT) (i : Int) : wDatabase (stepTx d q i).1 ≤ wDatabase d + 1000000 + wList wTx q ∧ wTxQueue (stepTx d q i).2.1 ≤ wTxQueue q + wTxQueue q := by
 unfold stepTx
 split
 ·exact ⟨by dsimp only; omega, by dsimp only; omega⟩
 ·rename_i h
  have hg := st_good (q := q) (i := i) (by simpa using h)
  obtain ⟨t, ht⟩ : ∃ t, t = q.getD i.toNat default := ⟨_, rfl⟩
  rw [← ht]
  have hit : i.toNat < q.length := by omega
  have htw := tx_w hit ht
  have hwt : wTx t = wList wOp t.2.1 + wList wStore t.2.2.2.2 := rfl
  have hwb : wList wStore t.2.2.2.2 = t.2.2.2.2.length + wSum wStore t.2.2.2.2 := rfl
  have hq : wTxQueue q = wList wTx q := rfl
  have hset : ∀ t', wTx t' ≤ wTx t → wTxQueue (q.set i.toNat t') ≤ wTxQueue q + wTxQueue q := fun t' h' => by
   have h1 := wset_le (w := wTx) (y := t') q i.toNat
   have h2 : wTxQueue (q.set i.toNat t') = (q.set i.toNat t').length + wSum wTx (q.set i.toNat t') := rfl
   have h3 : wTxQueue q = q.length + wSum wTx q := rfl
   rw [List.length_set] at h2
   omega
  have e0 : wList wStore [] = 0 := rfl
  have hnil : ∀ a b s : Int, wTx (a, t.2.1, b, s, []) ≤ wTx t := fun a b s => by
   have : wTx (a, t.2.1, b, s, []) = wList wOp t.2.1 + wList wStore [] := rfl
   omega
  unfold stepAt
  split
  ·split
   ·refine ⟨Nat.le_trans (runOp_w d (opOf t)) (by omega), hset _ ?_⟩
    split
    ·exact Nat.le_refl _
    ·exact hnil _ _ _
   ·have := restL_w t.2.2.2.2 d
    exact ⟨by dsimp only; omega, hset _ (hnil _ _ _)⟩
  ·exact ⟨by dsimp only; omega, hset _ (hnil _ _ _)⟩

theorem ok_laws_FnExactStepTx {x0 : DbT} {x1 : List TxT} {x2 : Int}  : PFn Tryz.prog 6 [.agg [(.dv [] (.str (x0.1))), (.dv [] (.int .i64 (x0.2.1))), (.dv [] (storesD (x0.2.2.1))), (.dv [] (defsD (x0.2.2.2)))], .agg [(.dv [] (txsD (x1)))], .one (.dv [] (.int .i64 (x2)))] (.one (.dv [] (.bool (true)))) := by
 refine ⟨fn_intro Tryz.func6 rfl Tryz.ntmps6 Tryz.results6 rfl (fun C => ?_)⟩
 obtain ⟨hrw, hrq⟩ := stepTx_w x0 x1 x2
 have hwq0 : wTxQueue x1 = wList wTx x1 := rfl
 have hwq1 : wTxQueue (stepTx x0 x1 x2).2.1 = wList wTx (stepTx x0 x1 x2).2.1 := rfl
 have : wDatabase x0 = (x0.1).size + wList wStore (x0.2.2.1) + wList wIndexDef (x0.2.2.2) := rfl
 have : wList wStore (x0.2.2.1) = (x0.2.2.1).length + wSum wStore (x0.2.2.1) := rfl
 have : wList wIndexDef (x0.2.2.2) = (x0.2.2.2).length + wSum wIndexDef (x0.2.2.2) := rfl
 have : wTxQueue x1 = wList wTx (x1) := rfl
 have : wList wTx (x1) = (x1).length + wSum wTx (x1) := rfl
 have := wSum_bound cStore_le (x0.2.2.1)
 have := wSum_bound cIndexDef_le (x0.2.2.2)
 have := wSum_bound cTx_le (x1)
 have : wDatabase (stepTx x0 x1 x2).1 = ((stepTx x0 x1 x2).1.1).size + wList wStore ((stepTx x0 x1 x2).1.2.2.1) + wList wIndexDef ((stepTx x0 x1 x2).1.2.2.2) := rfl
 have : wList wStore ((stepTx x0 x1 x2).1.2.2.1) = ((stepTx x0 x1 x2).1.2.2.1).length + wSum wStore ((stepTx x0 x1 x2).1.2.2.1) := rfl
 have : wList wIndexDef ((stepTx x0 x1 x2).1.2.2.2) = ((stepTx x0 x1 x2).1.2.2.2).length + wSum wIndexDef ((stepTx x0 x1 x2).1.2.2.2) := rfl
 have := wSum_bound cStore_le ((stepTx x0 x1 x2).1.2.2.1)
 have := wSum_bound cIndexDef_le ((stepTx x0 x1 x2).1.2.2.2)
 have : wTxQueue (stepTx x0 x1 x2).2.1 = wList wTx ((stepTx x0 x1 x2).2.1) := rfl
 have : wList wTx ((stepTx x0 x1 x2).2.1) = ((stepTx x0 x1 x2).2.1).length + wSum wTx ((stepTx x0 x1 x2).2.1) := rfl
 have := wSum_bound cTx_le ((stepTx x0 x1 x2).2.1)
 refine yF 0 0 rfl rfl fun f0_0 => ?_
 refine yF 0 1 rfl rfl fun f0_1 => ?_
 refine yF 0 2 rfl rfl fun f0_2 => ?_
 refine yF 0 3 rfl rfl fun f0_3 => ?_
 refine yF 1 0 rfl rfl fun f1_0 => ?_
 refine ok_fact (x := .tmp 2) (ev_tmp rfl) fun f2 => ?_
 iterate 11 refine z ?_
 refine zC Tryz.call7 ?_ (hf := ok_laws_szDatabase (by omega) (by omega))
 iterate 7 refine z ?_
 refine yQ rfl (fun c1 => ?_) fun c1 => ?_
 ·skip
  have d1 := of_decide_eq_true c1
  first | have q1 := szR_n d1 | skip
  iterate 6 refine z ?_
  first | rfl | (exfalso; omega) | (exfalso; simp_all; done) | (exfalso; simp_all; omega)
 ·skip
  have d1 := of_decide_eq_false c1
  first | have q1 := szR_nn d1 | skip
  iterate 5 refine z ?_
  refine zC Tryz.call27 ?_ (hf := ok_laws_szTxQueue (by omega) (by omega))
  iterate 7 refine z ?_
  refine yQ rfl (fun c2 => ?_) fun c2 => ?_
  ·skip
   have d2 := of_decide_eq_true c2
   first | have q2 := szR_n d2 | skip
   iterate 6 refine z ?_
   first | rfl | (exfalso; omega) | (exfalso; simp_all; done) | (exfalso; simp_all; omega)
  ·skip
   have d2 := of_decide_eq_false c2
   first | have q2 := szR_nn d2 | skip
   iterate 2 refine z ?_
   refine ok_seq ?_
   refine ok_regionD (oB := [3, 4]) (oK := []) (by kernel_rfl) rfl rfl ?_
   refine zD 0 ?_
   refine zD 2 ?_
   refine zD 4 ?_
   refine d_vars (A := [(10, 8, 38, _), (11, 9, 73, _)]) hT ⟨⟨_, _, rfl⟩, rfl, ⟨⟨_, _, rfl⟩, rfl, trivial⟩⟩ ?_
   refine a_callK 34000 1 rfl (by kernel_rfl) rfl rfl rfl (vok hT ⟨⟨_, _, rfl⟩, rfl, ⟨⟨_, _, rfl⟩, rfl, trivial⟩⟩ (by kernel_rfl) (by kernel_rfl)) (vok hT ⟨⟨_, _, rfl⟩, rfl, ⟨⟨_, _, rfl⟩, rfl, trivial⟩⟩ (by kernel_rfl) (by kernel_rfl)) rfl Tryz.call10 (ok_laws_toDatabase (by first | omega | (simp only [wKey, wField, wRecord, wItem, wStore, wIndexDef, wDatabase, wOp, wTx, wTxQueue] at hb ⊢; omega) | (have hq := hw (by omega); omega))) (as_cons (ev_tmp rfl) (ag_agg (ag_cons ac_dv (ag_cons ac_dv (ag_cons ac_dv (ag_cons ac_dv ag_nil))))) as_nil) rfl rfl rfl rfl rfl ?_
   refine a_callK 36000 3 rfl (by kernel_rfl) rfl rfl rfl (vok hT ⟨⟨_, _, rfl⟩, rfl, ⟨⟨_, _, rfl⟩, rfl, trivial⟩⟩ (by kernel_rfl) (by kernel_rfl)) (vok hT ⟨⟨_, _, rfl⟩, rfl, ⟨⟨_, _, rfl⟩, rfl, trivial⟩⟩ (by kernel_rfl) (by kernel_rfl)) rfl Tryz.call29 (ok_laws_toTxQueue (by first | omega | (simp only [wKey, wField, wRecord, wItem, wStore, wIndexDef, wDatabase, wOp, wTx, wTxQueue] at hb ⊢; omega) | (have hq := hw (by omega); omega))) (as_cons (ev_tmp rfl) (ag_agg (ag_cons ac_dv ag_nil)) as_nil) rfl rfl rfl rfl rfl ?_
   refine a_callK 38000 5 rfl (by kernel_rfl) rfl rfl rfl (vok hT ⟨⟨_, _, rfl⟩, rfl, ⟨⟨_, _, rfl⟩, rfl, trivial⟩⟩ (by kernel_rfl) (by kernel_rfl)) (vok hT ⟨⟨_, _, rfl⟩, rfl, ⟨⟨_, _, rfl⟩, rfl, trivial⟩⟩ (by kernel_rfl) (by kernel_rfl)) rfl Tryz.call33 (ok_spec_StepTx (by omega) (by omega)) (as_cons (ev_tmp rfl) (ag_agg (ag_cons ac_dv (ag_cons ac_dv (ag_cons (ac_key' rfl rfl) (ag_cons (ac_key' rfl rfl) ag_nil))))) (as_cons (ev_tmp rfl) (ag_agg (ag_cons (ac_key' rfl rfl) ag_nil)) (as_cons (ev_tmp rfl) (ag_one ac_dv) as_nil))) rfl rfl rfl rfl rfl ?_
   refine a_take 6 rfl (by kernel_rfl) rfl rfl rfl (vok hT ⟨⟨_, _, rfl⟩, rfl, ⟨⟨_, _, rfl⟩, rfl, trivial⟩⟩ (by kernel_rfl) (by kernel_rfl)) (vok hT ⟨⟨_, _, rfl⟩, rfl, ⟨⟨_, _, rfl⟩, rfl, trivial⟩⟩ (by kernel_rfl) (by kernel_rfl)) (pu_move (.inl rfl) (ev_tmp rfl)) rfl rfl rfl rfl ?_
   refine a_takeX 7 rfl (by kernel_rfl) rfl rfl rfl rfl (vok hT ⟨⟨_, _, rfl⟩, rfl, ⟨⟨_, _, rfl⟩, rfl, trivial⟩⟩ (by kernel_rfl) (by kernel_rfl)) (vok hT ⟨⟨_, _, rfl⟩, rfl, ⟨⟨_, _, rfl⟩, rfl, trivial⟩⟩ (by kernel_rfl) (by kernel_rfl)) (pu_extractA rfl (ev_tmp rfl) rfl) rfl rfl ?_
   refine a_takeX 8 rfl (by kernel_rfl) rfl rfl rfl rfl (vok hT ⟨⟨_, _, rfl⟩, rfl, ⟨⟨_, _, rfl⟩, rfl, trivial⟩⟩ (by kernel_rfl) (by kernel_rfl)) (vok hT ⟨⟨_, _, rfl⟩, rfl, ⟨⟨_, _, rfl⟩, rfl, trivial⟩⟩ (by kernel_rfl) (by kernel_rfl)) (pu_extractA rfl (ev_tmp rfl) rfl) rfl rfl ?_
   refine a_takeX 9 rfl (by kernel_rfl) rfl rfl rfl rfl (vok hT ⟨⟨_, _, rfl⟩, rfl, ⟨⟨_, _, rfl⟩, rfl, trivial⟩⟩ (by kernel_rfl) (by kernel_rfl)) (vok hT ⟨⟨_, _, rfl⟩, rfl, ⟨⟨_, _, rfl⟩, rfl, trivial⟩⟩ (by kernel_rfl) (by kernel_rfl)) (pu_extract1 rfl (ev_tmp rfl) rfl) rfl rfl ?_
   refine a_exit1 (vok hT ⟨⟨_, _, rfl⟩, rfl, ⟨⟨_, _, rfl⟩, rfl, trivial⟩⟩ (by kernel_rfl) (by kernel_rfl)) rfl rfl (by kernel_rfl) ?_
   dsimp only [addT, addB]
   refine d_chain [12, 13, 14] rfl rfl (by kernel_rfl) ?_
   iterate 6 refine z ?_
   refine zK 43000 Tryz.call10 ?_ (hf := ok_laws_toDatabase (by first | omega | (simp only [wKey, wField, wRecord, wItem, wStore, wIndexDef, wDatabase, wOp, wTx, wTxQueue] at hb ⊢; omega) | (have hq := hw (by omega); omega)))
   iterate 5 refine z ?_
   refine zK 45000 Tryz.call29 ?_ (hf := ok_laws_toTxQueue (by first | omega | (simp only [wKey, wField, wRecord, wItem, wStore, wIndexDef, wDatabase, wOp, wTx, wTxQueue] at hb ⊢; omega) | (have hq := hw (by omega); omega)))
   iterate 7 refine z ?_
   refine o_callK 50000 rfl rfl rfl Tryz.call34 (ok_impl_StepTx (by omega) (by omega)) (as_cons (ev_tmp rfl) (ag_agg (ag_cons ac_dv (ag_cons ac_dv (ag_cons (ac_key' rfl rfl) (ag_cons (ac_key' rfl rfl) ag_nil))))) (as_cons (ev_tmp rfl) (ag_agg (ag_cons (ac_key' rfl rfl) ag_nil)) (as_cons (ev_tmp rfl) (ag_one ac_dv) as_nil))) rfl rfl rfl ?_
   iterate 14 refine z ?_
   refine o_call rfl rfl rfl Tryz.call13 ok_laws_eqDatabase (as_cons (ev_tmp rfl) (ag_agg (ag_cons ac_dv (ag_cons ac_dv (ag_cons (ac_key' rfl rfl) (ag_cons (ac_key' rfl rfl) ag_nil))))) (as_cons (ev_tmp rfl) (ag_agg (ag_cons ac_dv (ag_cons ac_dv (ag_cons (ac_key' rfl rfl) (ag_cons (ac_key' rfl rfl) ag_nil))))) as_nil)) rfl rfl ?_
   iterate 4 refine z ?_
   refine o_callG (gd_bool rfl rfl rfl rfl rfl) rfl rfl Tryz.call31 ok_laws_eqTxQueue (fun hg => (as_cons (ev_opt rfl hg) (ag_agg (ag_cons (ac_key' rfl rfl) ag_nil)) (as_cons (ev_opt rfl hg) (ag_agg (ag_cons (ac_key' rfl rfl) ag_nil)) as_nil))) rfl rfl ?_
   iterate 5 refine z ?_
   refine o_pureG (gd_bool rfl rfl rfl rfl rfl) rfl (fun hg => pu_bneq hT rfl rfl (ev_opt rfl hg) (ev_opt rfl hg)) rfl rfl ?_
   iterate 2 refine z ?_
   refine yQ rfl (fun c3 => ?_) fun c3 => ?_
   ·skip
    iterate 6 refine z ?_
    first | rfl | (exfalso; omega) | (exfalso; simp_all; done) | (exfalso; simp_all; omega)
   ·skip
    iterate 2 refine z ?_
    refine ok_seq ?_
    refine ok_seq ?_
    refine ok_regionD (oB := [3, 4, 8, 9, 11, 12, 13, 14]) (oK := [42007, 46007, 50007, 51007, 55007, 59007, 128031, 128900, 133031, 140031, 140900, 145031]) (by kernel_rfl) rfl rfl ?_
    refine zD 0 ?_
    refine zD 1 ?_
    refine d_callK 71000 2 rfl (by kernel_rfl) rfl rfl rfl Tryz.call10 (ok_laws_toDatabase (by first | omega | (simp only [wKey, wField, wRecord, wItem, wStore, wIndexDef, wDatabase, wOp, wTx, wTxQueue] at hb ⊢; omega) | (have hq := hw (by omega); omega))) (as_cons (ev_tmp rfl) (ag_agg (ag_cons ac_dv (ag_cons ac_dv (ag_cons ac_dv (ag_cons ac_dv ag_nil))))) as_nil) rfl rfl rfl rfl rfl ?_
    refine d_call 3 rfl (by kernel_rfl) rfl rfl rfl Tryz.call13 ok_laws_eqDatabase (as_cons (ev_tmp rfl) (ag_agg (ag_cons ac_dv (ag_cons ac_dv (ag_cons (ac_key' rfl rfl) (ag_cons (ac_key' rfl rfl) ag_nil))))) (as_cons (ev_tmp rfl) (ag_agg (ag_cons ac_dv (ag_cons ac_dv (ag_cons (ac_key' rfl rfl) (ag_cons (ac_key' rfl rfl) ag_nil))))) as_nil)) rfl rfl rfl rfl ?_
    refine zD 4 ?_
    refine d_done (by kernel_rfl) ?_
    refine z ?_
    refine yQ rfl (fun c4 => ?_) fun c4 => ?_
    ·skip
     iterate 6 refine z ?_
     first | rfl | (exfalso; omega) | (exfalso; simp_all; done) | (exfalso; simp_all; omega)
    ·skip
     iterate 2 refine z ?_
     refine ok_seq ?_
     refine ok_seq ?_
     refine ok_regionD (oB := [3, 4, 8, 9, 11, 12, 13, 14]) (oK := [42007, 46007, 50007, 51007, 55007, 59007, 83007, 87007, 128031, 128900, 133031, 140031, 140900, 145031]) (by kernel_rfl) rfl rfl ?_
     refine zD 0 ?_
     refine zD 1 ?_
     refine d_callK 76000 2 rfl (by kernel_rfl) rfl rfl rfl Tryz.call29 (ok_laws_toTxQueue (by first | omega | (simp only [wKey, wField, wRecord, wItem, wStore, wIndexDef, wDatabase, wOp, wTx, wTxQueue] at hb ⊢; omega) | (have hq := hw (by omega); omega))) (as_cons (ev_tmp rfl) (ag_agg (ag_cons ac_dv ag_nil)) as_nil) rfl rfl rfl rfl rfl ?_
     refine d_call 3 rfl (by kernel_rfl) rfl rfl rfl Tryz.call31 ok_laws_eqTxQueue (as_cons (ev_tmp rfl) (ag_agg (ag_cons (ac_key' rfl rfl) ag_nil)) (as_cons (ev_tmp rfl) (ag_agg (ag_cons (ac_key' rfl rfl) ag_nil)) as_nil)) rfl rfl rfl rfl ?_
     refine zD 4 ?_
     refine d_done (by kernel_rfl) ?_
     refine z ?_
     refine yQ rfl (fun c5 => ?_) fun c5 => ?_
     ·skip
      iterate 6 refine z ?_
      first | rfl | (exfalso; omega) | (exfalso; simp_all; done) | (exfalso; simp_all; omega)
     ·skip
      iterate 8 refine z ?_
      refine o_callW [(0, 55007, ⟨false, _, _, _, _⟩, ⟨false, _, _, _, _⟩), (1, 59007, ⟨false, _, _, _, _⟩, ⟨false, _, _, _, _⟩)] rfl rfl rfl Tryz.call15 (ok_laws_markDatabase (x := x0) (by omega) (by omega)) ⟨rfl, rfl, trivial⟩ rfl (aw_cons (ev_tmp rfl) (aw_agg (awc_cons (awc_dv rfl) (awc_cons (awc_dv rfl) (awc_cons (awc_key rfl) (awc_cons (awc_key rfl) awc_nil))))) (aw_cons (ev_tmp rfl) (aw_one (awc_dv rfl)) aw_nil)) rfl rfl ?_
      simp only [killT, killB, SV.kill, CV.kill, kk, Nat.reduceBEq]
      iterate 5 refine z ?_
      refine o_callW [(0, 51007, ⟨false, _, _, _, _⟩, ⟨false, _, _, _, _⟩)] rfl rfl rfl Tryz.call32 (ok_laws_markTxQueue (x := x1) (by omega) (by omega)) ⟨rfl, trivial⟩ rfl (aw_cons (ev_tmp rfl) (aw_agg (awc_cons (awc_key rfl) awc_nil)) (aw_cons (ev_tmp rfl) (aw_one (awc_dv rfl)) aw_nil)) rfl rfl ?_
      simp only [killT, killB, SV.kill, CV.kill, kk, Nat.reduceBEq]
      iterate 9 refine z ?_
      refine o_callG (gd_bool rfl rfl rfl rfl rfl) rfl rfl Tryz.call13 ok_laws_eqDatabase (fun hg => (as_cons (ev_opt rfl hg) (ag_agg (ag_cons ac_dv (ag_cons ac_dv (ag_cons (ac_key' rfl rfl) (ag_cons (ac_key' rfl rfl) ag_nil))))) (as_cons (ev_opt rfl hg) (ag_agg (ag_cons ac_dv (ag_cons ac_dv (ag_cons (ac_key' rfl rfl) (ag_cons (ac_key' rfl rfl) ag_nil))))) as_nil))) rfl rfl ?_
      iterate 5 refine z ?_
      refine o_callG (gd_bool rfl rfl rfl rfl rfl) rfl rfl Tryz.call31 ok_laws_eqTxQueue (fun hg => (as_cons (ev_opt rfl hg) (ag_agg (ag_cons (ac_key' rfl rfl) ag_nil)) (as_cons (ev_opt rfl hg) (ag_agg (ag_cons (ac_key' rfl rfl) ag_nil)) as_nil))) rfl rfl ?_
      iterate 5 refine z ?_
      refine o_pureG (gd_bool rfl rfl rfl rfl rfl) rfl (fun hg => pu_bneq hT rfl rfl (ev_opt rfl hg) (ev_opt rfl hg)) rfl rfl ?_
      iterate 2 refine z ?_
      refine yQ rfl (fun c6 => ?_) fun c6 => ?_
      ·skip
       iterate 6 refine z ?_
       first | rfl | (exfalso; omega) | (exfalso; simp_all; done) | (exfalso; simp_all; omega)
      ·skip
       iterate 8 refine z ?_
       refine o_callW [(0, 140031, ⟨false, _, _, _, _⟩, ⟨false, _, _, _, _⟩), (1, 140900, ⟨false, _, _, _, _⟩, ⟨false, _, _, _, _⟩)] rfl rfl rfl Tryz.call15 (ok_laws_markDatabase (x := (stepTx x0 x1 x2).1) (by omega) (by omega)) ⟨rfl, rfl, trivial⟩ rfl (aw_cons (ev_tmp rfl) (aw_agg (awc_cons (awc_dv rfl) (awc_cons (awc_dv rfl) (awc_cons (awc_key rfl) (awc_cons (awc_key rfl) awc_nil))))) (aw_cons (ev_tmp rfl) (aw_one (awc_dv rfl)) aw_nil)) rfl rfl ?_
       simp only [killT, killB, SV.kill, CV.kill, kk, Nat.reduceBEq]
       iterate 5 refine z ?_
       refine o_callW [(0, 145031, ⟨false, _, _, _, _⟩, ⟨false, _, _, _, _⟩)] rfl rfl rfl Tryz.call32 (ok_laws_markTxQueue (x := (stepTx x0 x1 x2).2.1) (by omega) (by omega)) ⟨rfl, trivial⟩ rfl (aw_cons (ev_tmp rfl) (aw_agg (awc_cons (awc_key rfl) awc_nil)) (aw_cons (ev_tmp rfl) (aw_one (awc_dv rfl)) aw_nil)) rfl rfl ?_
       simp only [killT, killB, SV.kill, CV.kill, kk, Nat.reduceBEq]
       iterate 8 refine z ?_
       refine o_call rfl rfl rfl Tryz.call17 (ok_laws_heldDatabase (x := (stepTx x0 x1 x2).1) rfl (by omega) (by omega)) (as_cons (ev_tmp rfl) (ag_agg (ag_cons ac_dv (ag_cons ac_dv (ag_cons (ac_key' rfl rfl) (ag_cons (ac_key' rfl rfl) ag_nil))))) (as_cons (ev_tmp rfl) (ag_one ac_dv) as_nil)) rfl rfl ?_
       iterate 7 refine z ?_
       refine yQ rfl (fun c7 => ?_) fun c7 => ?_
       ·skip
        have d7 := of_decide_eq_true c7
        first | have q7 := szR_n d7 | skip
        iterate 6 refine z ?_
        first | rfl | (exfalso; omega) | (exfalso; simp_all; done) | (exfalso; simp_all; omega)
       ·skip
        have d7 := of_decide_eq_false c7
        first | have q7 := szR_nn d7 | skip
        iterate 5 refine z ?_
        refine o_call rfl rfl rfl Tryz.call35 (ok_laws_heldTxQueue (x := (stepTx x0 x1 x2).2.1) rfl (by omega) (by omega)) (as_cons (ev_tmp rfl) (ag_agg (ag_cons (ac_key' rfl rfl) ag_nil)) (as_cons (ev_tmp rfl) (ag_one ac_dv) as_nil)) rfl rfl ?_
        iterate 7 refine z ?_
        refine yQ rfl (fun c8 => ?_) fun c8 => ?_
        ·skip
         have d8 := of_decide_eq_true c8
         first | have q8 := szR_n d8 | skip
         iterate 6 refine z ?_
         first | rfl | (exfalso; omega) | (exfalso; simp_all; done) | (exfalso; simp_all; omega)
        ·skip
         have d8 := of_decide_eq_false c8
         first | have q8 := szR_nn d8 | skip
         iterate 8 refine z ?_
         refine yQ rfl (fun c9 => ?_) fun c9 => ?_
         ·skip
          have d9 := nd_t c9
          iterate 6 refine z ?_
          first | rfl | (exfalso; omega) | (exfalso; simp_all; done) | (exfalso; simp_all; omega)
         ·skip
          have d9 := nd_f c9
          iterate 2 refine z ?_
          refine ok_seq ?_
          refine ok_regionD (oB := [3, 4, 8, 9, 11, 12, 13, 14]) (oK := [42007, 46007, 50007, 51007, 55007, 59007, 82007, 83007, 87007, 128031, 128900, 133031, 140031, 140900, 145031]) (by kernel_rfl) rfl rfl ?_
          refine zD 0 ?_
          refine zD 2 ?_
          refine zD 4 ?_
          refine d_vars (A := [(10, 19, 38, _), (11, 20, 73, _)]) hT ⟨⟨_, _, rfl⟩, rfl, ⟨⟨_, _, rfl⟩, rfl, trivial⟩⟩ ?_
          refine a_callK 125000 1 rfl (by kernel_rfl) rfl rfl rfl (vok hT ⟨⟨_, _, rfl⟩, rfl, ⟨⟨_, _, rfl⟩, rfl, trivial⟩⟩ (by kernel_rfl) (by kernel_rfl)) (vok hT ⟨⟨_, _, rfl⟩, rfl, ⟨⟨_, _, rfl⟩, rfl, trivial⟩⟩ (by kernel_rfl) (by kernel_rfl)) rfl Tryz.call10 (ok_laws_toDatabase (by first | omega | (simp only [wKey, wField, wRecord, wItem, wStore, wIndexDef, wDatabase, wOp, wTx, wTxQueue] at hb ⊢; omega) | (have hq := hw (by omega); omega))) (as_cons (ev_tmp rfl) (ag_agg (ag_cons ac_dv (ag_cons ac_dv (ag_cons ac_dv (ag_cons ac_dv ag_nil))))) as_nil) rfl rfl rfl rfl rfl ?_
          refine a_callK 127000 3 rfl (by kernel_rfl) rfl rfl rfl (vok hT ⟨⟨_, _, rfl⟩, rfl, ⟨⟨_, _, rfl⟩, rfl, trivial⟩⟩ (by kernel_rfl) (by kernel_rfl)) (vok hT ⟨⟨_, _, rfl⟩, rfl, ⟨⟨_, _, rfl⟩, rfl, trivial⟩⟩ (by kernel_rfl) (by kernel_rfl)) rfl Tryz.call29 (ok_laws_toTxQueue (by first | omega | (simp only [wKey, wField, wRecord, wItem, wStore, wIndexDef, wDatabase, wOp, wTx, wTxQueue] at hb ⊢; omega) | (have hq := hw (by omega); omega))) (as_cons (ev_tmp rfl) (ag_agg (ag_cons ac_dv ag_nil)) as_nil) rfl rfl rfl rfl rfl ?_
          refine a_callK 129000 5 rfl (by kernel_rfl) rfl rfl rfl (vok hT ⟨⟨_, _, rfl⟩, rfl, ⟨⟨_, _, rfl⟩, rfl, trivial⟩⟩ (by kernel_rfl) (by kernel_rfl)) (vok hT ⟨⟨_, _, rfl⟩, rfl, ⟨⟨_, _, rfl⟩, rfl, trivial⟩⟩ (by kernel_rfl) (by kernel_rfl)) rfl Tryz.call34 (ok_impl_StepTx (by omega) (by omega)) (as_cons (ev_tmp rfl) (ag_agg (ag_cons ac_dv (ag_cons ac_dv (ag_cons (ac_key' rfl rfl) (ag_cons (ac_key' rfl rfl) ag_nil))))) (as_cons (ev_tmp rfl) (ag_agg (ag_cons (ac_key' rfl rfl) ag_nil)) (as_cons (ev_tmp rfl) (ag_one ac_dv) as_nil))) rfl rfl rfl rfl rfl ?_
          refine a_take 6 rfl (by kernel_rfl) rfl rfl rfl (vok hT ⟨⟨_, _, rfl⟩, rfl, ⟨⟨_, _, rfl⟩, rfl, trivial⟩⟩ (by kernel_rfl) (by kernel_rfl)) (vok hT ⟨⟨_, _, rfl⟩, rfl, ⟨⟨_, _, rfl⟩, rfl, trivial⟩⟩ (by kernel_rfl) (by kernel_rfl)) (pu_move (.inl rfl) (ev_tmp rfl)) rfl rfl rfl rfl ?_
          refine a_takeX 7 rfl (by kernel_rfl) rfl rfl rfl rfl (vok hT ⟨⟨_, _, rfl⟩, rfl, ⟨⟨_, _, rfl⟩, rfl, trivial⟩⟩ (by kernel_rfl) (by kernel_rfl)) (vok hT ⟨⟨_, _, rfl⟩, rfl, ⟨⟨_, _, rfl⟩, rfl, trivial⟩⟩ (by kernel_rfl) (by kernel_rfl)) (pu_extractA rfl (ev_tmp rfl) rfl) rfl rfl ?_
          refine a_takeX 8 rfl (by kernel_rfl) rfl rfl rfl rfl (vok hT ⟨⟨_, _, rfl⟩, rfl, ⟨⟨_, _, rfl⟩, rfl, trivial⟩⟩ (by kernel_rfl) (by kernel_rfl)) (vok hT ⟨⟨_, _, rfl⟩, rfl, ⟨⟨_, _, rfl⟩, rfl, trivial⟩⟩ (by kernel_rfl) (by kernel_rfl)) (pu_extractA rfl (ev_tmp rfl) rfl) rfl rfl ?_
          refine a_takeX 9 rfl (by kernel_rfl) rfl rfl rfl rfl (vok hT ⟨⟨_, _, rfl⟩, rfl, ⟨⟨_, _, rfl⟩, rfl, trivial⟩⟩ (by kernel_rfl) (by kernel_rfl)) (vok hT ⟨⟨_, _, rfl⟩, rfl, ⟨⟨_, _, rfl⟩, rfl, trivial⟩⟩ (by kernel_rfl) (by kernel_rfl)) (pu_extract1 rfl (ev_tmp rfl) rfl) rfl rfl ?_
          refine a_exit1 (vok hT ⟨⟨_, _, rfl⟩, rfl, ⟨⟨_, _, rfl⟩, rfl, trivial⟩⟩ (by kernel_rfl) (by kernel_rfl)) rfl rfl (by kernel_rfl) ?_
          dsimp only [addT, addB]
          refine d_chain [12, 13, 14] rfl rfl (by kernel_rfl) ?_
          iterate 8 refine z ?_
          refine o_call rfl rfl rfl Tryz.call13 ok_laws_eqDatabase (as_cons (ev_tmp rfl) (ag_agg (ag_cons ac_dv (ag_cons ac_dv (ag_cons (ac_key' rfl rfl) (ag_cons (ac_key' rfl rfl) ag_nil))))) (as_cons (ev_tmp rfl) (ag_agg (ag_cons ac_dv (ag_cons ac_dv (ag_cons (ac_key' rfl rfl) (ag_cons (ac_key' rfl rfl) ag_nil))))) as_nil)) rfl rfl ?_
          iterate 4 refine z ?_
          refine o_callG (gd_bool rfl rfl rfl rfl rfl) rfl rfl Tryz.call31 ok_laws_eqTxQueue (fun hg => (as_cons (ev_opt rfl hg) (ag_agg (ag_cons (ac_key' rfl rfl) ag_nil)) (as_cons (ev_opt rfl hg) (ag_agg (ag_cons (ac_key' rfl rfl) ag_nil)) as_nil))) rfl rfl ?_
          iterate 5 refine z ?_
          refine o_pureG (gd_bool rfl rfl rfl rfl rfl) rfl (fun hg => pu_bneq hT rfl rfl (ev_opt rfl hg) (ev_opt rfl hg)) rfl rfl ?_
          iterate 2 refine z ?_
          refine yQ rfl (fun c10 => ?_) fun c10 => ?_
          ·skip
           iterate 6 refine z ?_
           first | rfl | (exfalso; omega) | (exfalso; simp_all; done) | (exfalso; simp_all; omega)
          ·skip
           iterate 8 refine z ?_
           refine o_call rfl rfl rfl Tryz.call17 (ok_laws_heldDatabase (x := (stepTx x0 x1 x2).1) rfl (by omega) (by omega)) (as_cons (ev_tmp rfl) (ag_agg (ag_cons ac_dv (ag_cons ac_dv (ag_cons (ac_key' rfl rfl) (ag_cons (ac_key' rfl rfl) ag_nil))))) (as_cons (ev_tmp rfl) (ag_one ac_dv) as_nil)) rfl rfl ?_
           iterate 7 refine z ?_
           refine yQ rfl (fun c11 => ?_) fun c11 => ?_
           ·skip
            have d11 := of_decide_eq_true c11
            first | have q11 := szR_n d11 | skip
            iterate 6 refine z ?_
            first | rfl | (exfalso; omega) | (exfalso; simp_all; done) | (exfalso; simp_all; omega)
           ·skip
            have d11 := of_decide_eq_false c11
            first | have q11 := szR_nn d11 | skip
            iterate 5 refine z ?_
            refine o_call rfl rfl rfl Tryz.call35 (ok_laws_heldTxQueue (x := (stepTx x0 x1 x2).2.1) rfl (by omega) (by omega)) (as_cons (ev_tmp rfl) (ag_agg (ag_cons (ac_key' rfl rfl) ag_nil)) (as_cons (ev_tmp rfl) (ag_one ac_dv) as_nil)) rfl rfl ?_
            iterate 7 refine z ?_
            refine yQ rfl (fun c12 => ?_) fun c12 => ?_
            ·skip
             have d12 := of_decide_eq_true c12
             first | have q12 := szR_n d12 | skip
             iterate 6 refine z ?_
             first | rfl | (exfalso; omega) | (exfalso; simp_all; done) | (exfalso; simp_all; omega)
            ·skip
             have d12 := of_decide_eq_false c12
             first | have q12 := szR_nn d12 | skip
             iterate 8 refine z ?_
             refine yQ rfl (fun c13 => ?_) fun c13 => ?_
             ·skip
              have d13 := nd_t c13
              iterate 6 refine z ?_
              first | rfl | (exfalso; omega) | (exfalso; simp_all; done) | (exfalso; simp_all; omega)
             ·skip
              have d13 := nd_f c13
              iterate 7 refine z ?_
              first | rfl | (exfalso; omega) | (exfalso; simp_all; done) | (exfalso; simp_all; omega)
end Go.Proofs.YtmgijbhikmjfjaaGreat

