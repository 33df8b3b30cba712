/-
  Marks: stores.
-/
import Derived.Test.YtbmgommbmhmbgaaD1
namespace Go.Proofs.Ytbmgommbmhmbgaa
open Go.RowKit
open Go.Proofs
set_option linter.unusedVariables false
set_option linter.unusedSimpArgs false
def mkStore (x : StoreT) (k : Int) : StoreT := (mText (k), mkL mkItem cItem (x.2.1) ((k) + (1)), ((k) + (1)) + (wSum cItem (x.2.1) : Int))
def cStore (x : StoreT) : Nat := 2 + wSum cItem (x.2.1)
theorem cStore_le (x : StoreT) : cStore x ≤ 8 * (1 + wStore x) := by
  have h1 := wSum_bound cItem_le (x.2.1)
  simp only [cStore, wStore]
  omega
def mvStore (x : StoreT) (k : Int) : StoreT := (x.1, mkL mkItem cItem (x.2.1) (k), x.2.2)
set_option maxRecDepth 100000 in
theorem ok_laws_markStore {x : StoreT} {k : Int} (h0 : 0 ≤ k) (h1 : (k) + (wSum cItem (x.2.1) : Int) ≤ 4611686018427387904) : WFn Try.prog 17 [.agg [(.dv [] (.str (x.1))), (.key 0), (.dv [] (.int .i64 (x.2.2)))], .one (.dv [] (.int .i64 (k)))] (.one (.dv [] (.int .i64 ((k) + (wSum cItem (x.2.1) : Int))))) [(0, kcOf true (.sl 52 4 ((x.2.1).length) ((x.2.1).flatMap eItem)))] [(0, kcOf true (itemsD (mkL mkItem cItem (x.2.1) (k))))] := by
  refine ⟨fn_intro Try.func17 rfl Try.ntmps17 Try.results17 rfl (fun C => ?_)⟩
  refine ok_factA (x := .tmp 0) 0 (ev_tmp rfl) rfl (fun (f0_0 : (x.1).size ≤ 9223372036854775807) => ?_)
  refine ok_factA (x := .tmp 0) 2 (ev_tmp rfl) rfl (fun (f0_2 : -9223372036854775808 ≤ (x.2.2) ∧ (x.2.2) ≤ 9223372036854775807) => ?_)
  refine ok_fact (x := .tmp 1) (ev_tmp rfl) (fun (f1 : -9223372036854775808 ≤ (k) ∧ (k) ≤ 9223372036854775807) => ?_)
  refine ok_seq ?_
  refine ok_region ?_
  refine o_box rfl rfl rfl (ev_tmp rfl) rfl rfl rfl rfl ?_
  refine o_pure rfl rfl (pu_move (.inr rfl) (ev_int (inR_lit rfl))) rfl rfl ?_
  refine ops_nil ?_
  refine then_n ?_
  refine ok_seq ?_
  refine ok_region ?_
  refine o_pure rfl rfl (pu_fieldBox hT rfl rfl rfl (ev_tmp rfl)) rfl rfl ?_
  refine o_pure rfl rfl (pu_loadBox1 hT rfl rfl (ev_tmp rfl) rfl rfl) rfl rfl ?_
  refine o_pure rfl rfl (pu_move (.inl rfl) (ev_tmp rfl)) rfl rfl ?_
  refine o_callW [(0, 0, ⟨true, _, _, _, _⟩, ⟨true, _, _, _, _⟩)] rfl rfl rfl Try.call18 (ok_laws_markItemS (x := x.2.1) (by omega) (by omega)) ⟨rfl, trivial⟩ rfl (aw_cons (ev_tmp rfl) (aw_one (awc_key rfl)) (aw_cons (ev_tmp rfl) (aw_one (awc_dv rfl)) aw_nil)) rfl rfl ?_
  simp only [killT, killB, SV.kill, CV.kill, List.map_cons, List.map_nil, List.any_cons, List.any_nil, List.contains_cons, List.contains_nil, List.nil_append, List.cons_append, Nat.reduceBEq, Bool.or_false, Bool.false_or, Bool.or_true, Bool.true_or, cond_true, cond_false]
  refine o_pure rfl rfl (pu_move (.inr rfl) (ev_tmp rfl)) rfl rfl ?_
  refine ops_nil ?_
  refine then_n ?_
  refine ok_seq ?_
  refine ok_region ?_
  refine o_pure rfl rfl (pu_move (.inl rfl) (ev_tmp rfl)) rfl rfl ?_
  refine o_pure rfl rfl (pu_move (.inr rfl) (ev_tmp rfl)) rfl rfl ?_
  refine ops_nil ?_
  refine then_n ?_
  refine ok_weak (σ' := ⟨[(4, .one (.dv [] (.int .i64 ((k) + (wSum cItem (x.2.1) : Int)))))], [], [(0, some (kcOf true (itemsD (mkL mkItem cItem (x.2.1) (k)))))]⟩) (weak_sub ⟨rfl, trivial⟩ trivial ⟨rfl, trivial⟩ rfl) ?_
  refine ok_ret ?_
  refine fin1 (res_tmp rfl) ⟨eqI ?_, w1_ok rfl⟩
  rfl
set_option maxRecDepth 100000 in
theorem ok_laws_heldStore {x y : StoreT} {k : Int} (hy : y = mvStore x k) (h0 : 0 ≤ k) (h1 : (k) + (wSum cItem (x.2.1) : Int) ≤ 4611686018427387904) : PFn Try.prog 43 [.agg [(.dv [] (.str (y.1))), (.dv [] (itemsD (y.2.1))), (.dv [] (.int .i64 (y.2.2)))], .one (.dv [] (.int .i64 (k)))] (.one (.dv [] (.int .i64 ((k) + (wSum cItem (x.2.1) : Int))))) := by
  refine ⟨fn_intro Try.func43 rfl Try.ntmps43 Try.results43 rfl (fun C => ?_)⟩
  refine ok_factA (x := .tmp 0) 0 (ev_tmp rfl) rfl (fun (f0_0 : (y.1).size ≤ 9223372036854775807) => ?_)
  refine ok_factA (x := .tmp 0) 1 (ev_tmp rfl) rfl (fun (f0_1 : ((y.2.1)).length ≤ 9223372036854775807) => ?_)
  refine ok_factA (x := .tmp 0) 2 (ev_tmp rfl) rfl (fun (f0_2 : -9223372036854775808 ≤ (y.2.2) ∧ (y.2.2) ≤ 9223372036854775807) => ?_)
  refine ok_fact (x := .tmp 1) (ev_tmp rfl) (fun (f1 : -9223372036854775808 ≤ (k) ∧ (k) ≤ 9223372036854775807) => ?_)
  refine ok_seq ?_
  refine ok_region ?_
  refine o_box rfl rfl rfl (ev_tmp rfl) rfl rfl rfl rfl ?_
  refine o_pure rfl rfl (pu_move (.inr rfl) (ev_int (inR_lit rfl))) rfl rfl ?_
  refine ops_nil ?_
  refine then_n ?_
  refine ok_seq ?_
  refine ok_region ?_
  refine o_pure rfl rfl (pu_fieldBox hT rfl rfl rfl (ev_tmp rfl)) rfl rfl ?_
  refine o_pure rfl rfl (pu_loadBox1 hT rfl rfl (ev_tmp rfl) rfl rfl) rfl rfl ?_
  refine o_pure rfl rfl (pu_move (.inl rfl) (ev_tmp rfl)) rfl rfl ?_
  refine o_call rfl rfl rfl Try.call19 (ok_laws_heldItemS (x := x.2.1) (by rw [hy]; rfl) (by omega) (by omega)) (as_cons (ev_tmp rfl) (ag_one ac_dv) (as_cons (ev_tmp rfl) (ag_one ac_dv) as_nil)) rfl rfl ?_
  refine o_pure rfl rfl (pu_move (.inr rfl) (ev_tmp rfl)) rfl rfl ?_
  refine ops_nil ?_
  refine then_n ?_
  refine ok_seq ?_
  refine ok_seq ?_
  refine ok_region ?_
  refine o_pure rfl rfl (pu_move (.inl rfl) (ev_tmp rfl)) rfl rfl ?_
  refine o_pure rfl rfl (pu_lss rfl (ev_tmp rfl) (ev_int (inR_lit rfl))) rfl rfl ?_
  refine ops_nil ?_
  refine then_n ?_
  refine ok_cond (ev_tmp rfl) (fun c1 => ?_) (fun c1 => ?_)
  · skip
    have d1 := of_decide_eq_true c1
    refine ok_seq ?_
    refine ok_region ?_
    refine o_pure rfl rfl (pu_move (.inr rfl) (ev_int (inR_lit rfl))) rfl rfl ?_
    refine ops_nil ?_
    refine then_n ?_
    refine ok_ret ?_
    refine then_r ?_
    refine fin1 (res_tmp rfl) (eqI ?_)
    exfalso; omega
  · skip
    have d1 := of_decide_eq_false c1
    refine ok_skip ?_
    refine then_n ?_
    refine ok_seq ?_
    refine ok_region ?_
    refine o_pure rfl rfl (pu_move (.inl rfl) (ev_tmp rfl)) rfl rfl ?_
    refine o_pure rfl rfl (pu_move (.inr rfl) (ev_tmp rfl)) rfl rfl ?_
    refine ops_nil ?_
    refine then_n ?_
    refine ok_ret ?_
    refine fin1 (res_tmp rfl) (eqI ?_)
    rfl
end Go.Proofs.Ytbmgommbmhmbgaa
