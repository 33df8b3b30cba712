/-
  Keys, names, records.
-/
import Derived.Test.YtbmgommbmhmbgaaA1
namespace Go.Proofs.Ytbmgommbmhmbgaa
open Go.RowKit
open Go.Proofs
set_option linter.unusedVariables false
set_option linter.unusedSimpArgs false

def isKey (k : KeyT) : Bool := (decide (1 ≤ k.1) && decide (k.1 ≤ 3)) && (decide (-1000000000000 ≤ k.2.1) && decide (k.2.1 ≤ 1000000000000)) && kText k.2.2 && !(decide (k.1 = 2) && !decide (k.2.1 = 0)) && !(decide (k.1 = 1) && !sEq k.2.2 (ByteArray.mk #[]))
def isName (s : Str) : Bool := s.data.toList.all (wch false) && (decide (1 ≤ (s.size : Int)) && decide ((s.size : Int) ≤ 8))
theorem wch_spec (b : UInt8) : (decide ((b.toNat : Int) < 97) || decide ((122 : Int) < (b.toNat : Int))) = !wch false b := by
  unfold wch
  generalize (b.toNat : Int) = z
  by_cases h1 : z < 97 <;> by_cases h2 : 122 < z <;> simp [h1, h2] <;> omega

set_option maxRecDepth 100000 in
theorem ok_impl_IsKey {k : KeyT}  : PFn Try.prog 78 [.agg [(.dv [] (.int .i64 (k.1))), (.dv [] (.int .i64 (k.2.1))), (.dv [] (.str (k.2.2)))]] (.one (.dv [] (.bool (isKey k)))) := by
  refine ⟨fn_intro Try.func78 rfl Try.ntmps78 Try.results78 rfl (fun C => ?_)⟩
  refine ok_factA (x := .tmp 0) 0 (ev_tmp rfl) rfl (fun (f0_0 : -9223372036854775808 ≤ (k.1) ∧ (k.1) ≤ 9223372036854775807) => ?_)
  refine ok_factA (x := .tmp 0) 1 (ev_tmp rfl) rfl (fun (f0_1 : -9223372036854775808 ≤ (k.2.1) ∧ (k.2.1) ≤ 9223372036854775807) => ?_)
  refine ok_factA (x := .tmp 0) 2 (ev_tmp rfl) rfl (fun (f0_2 : (k.2.2).size ≤ 9223372036854775807) => ?_)
  refine ok_seq ?_
  refine ok_region ?_
  refine o_box rfl rfl rfl (ev_tmp rfl) rfl rfl rfl rfl ?_
  refine o_pure rfl rfl (pu_move (.inr rfl) ev_bool) rfl rfl ?_
  refine ops_nil ?_
  refine then_n ?_
  refine ok_seq ?_
  refine ok_seq ?_
  refine ok_region ?_
  refine o_pure rfl rfl (pu_fieldBox hT rfl rfl rfl (ev_tmp rfl)) rfl rfl ?_
  refine o_pure rfl rfl (pu_loadBox1 hT rfl rfl (ev_tmp rfl) rfl rfl) rfl rfl ?_
  refine o_call rfl rfl rfl Try.call97 ok_impl_InRange (as_cons (ev_tmp rfl) (ag_one ac_dv) (as_cons (ev_int (inR_lit rfl)) (ag_one ac_dv) (as_cons (ev_int (inR_lit rfl)) (ag_one ac_dv) as_nil))) rfl rfl ?_
  refine o_pure rfl rfl (pu_not rfl (ev_tmp rfl)) rfl rfl ?_
  refine o_pure rfl rfl (pu_move (.inl rfl) (ev_tmp rfl)) rfl rfl ?_
  refine o_pureG (gd_bool rfl rfl rfl rfl rfl) rfl (fun hg => pu_fieldBox hT rfl rfl rfl (ev_tmp rfl)) rfl rfl ?_
  refine o_pureG (gd_bool rfl rfl rfl rfl rfl) rfl (fun hg => pu_loadBox1 hT rfl rfl (ev_opt rfl hg) rfl rfl) rfl rfl ?_
  refine o_callG (gd_bool rfl rfl rfl rfl rfl) rfl rfl Try.call97 ok_impl_InRange (fun hg => (as_cons (ev_opt rfl hg) (ag_one ac_dv) (as_cons (ev_int (inR_lit rfl)) (ag_one ac_dv) (as_cons (ev_int (inR_lit rfl)) (ag_one ac_dv) as_nil)))) rfl rfl ?_
  refine o_pureG (gd_bool rfl rfl rfl rfl rfl) rfl (fun hg => pu_not rfl (ev_opt rfl hg)) rfl rfl ?_
  refine o_pure rfl rfl (pu_or rfl (ev_tmp rfl) (fun hb => (ev_opt rfl (beq_f hb)))) rfl rfl ?_
  refine o_pure rfl rfl (pu_move (.inl rfl) (ev_tmp rfl)) rfl rfl ?_
  refine o_pureG (gd_bool rfl rfl rfl rfl rfl) rfl (fun hg => pu_fieldBox hT rfl rfl rfl (ev_tmp rfl)) rfl rfl ?_
  refine o_pureG (gd_bool rfl rfl rfl rfl rfl) rfl (fun hg => pu_loadBox1 hT rfl rfl (ev_opt rfl hg) rfl rfl) rfl rfl ?_
  refine o_callG (gd_bool rfl rfl rfl rfl rfl) rfl rfl Try.call98 ok_impl_isKeyText (fun hg => (as_cons (ev_opt rfl hg) (ag_one ac_dv) as_nil)) rfl rfl ?_
  refine o_pureG (gd_bool rfl rfl rfl rfl rfl) rfl (fun hg => pu_not rfl (ev_opt rfl hg)) rfl rfl ?_
  refine o_pure rfl rfl (pu_or rfl (ev_tmp rfl) (fun hb => (ev_opt rfl (beq_f hb)))) rfl rfl ?_
  refine ops_nil ?_
  refine then_n ?_
  refine ok_cond (ev_tmp rfl) (fun c1 => ?_) (fun c1 => ?_)
  · skip
    refine ok_seq ?_
    refine ok_region ?_
    refine o_pure rfl rfl (pu_move (.inr rfl) ev_bool) rfl rfl ?_
    refine ops_nil ?_
    refine then_n ?_
    refine ok_ret ?_
    refine then_r ?_
    refine fin1 (res_tmp rfl) (eqB ?_)
    grind [isKey]
  · skip
    refine ok_skip ?_
    refine then_n ?_
    refine ok_seq ?_
    refine ok_region ?_
    refine o_pure rfl rfl (pu_fieldBox hT rfl rfl rfl (ev_tmp rfl)) rfl rfl ?_
    refine o_pure rfl rfl (pu_loadBox1 hT rfl rfl (ev_tmp rfl) rfl rfl) rfl rfl ?_
    refine o_pure rfl rfl (pu_eql rfl (ev_tmp rfl) (ev_int (inR_lit rfl))) rfl rfl ?_
    refine o_pure rfl rfl (pu_move (.inl rfl) (ev_tmp rfl)) rfl rfl ?_
    refine o_pureG (gd_bool rfl rfl rfl rfl rfl) rfl (fun hg => pu_fieldBox hT rfl rfl rfl (ev_tmp rfl)) rfl rfl ?_
    refine o_pureG (gd_bool rfl rfl rfl rfl rfl) rfl (fun hg => pu_loadBox1 hT rfl rfl (ev_opt rfl hg) rfl rfl) rfl rfl ?_
    refine o_pureG (gd_bool rfl rfl rfl rfl rfl) rfl (fun hg => pu_neq rfl (ev_opt rfl hg) (ev_int (inR_lit rfl))) rfl rfl ?_
    refine o_pure rfl rfl (pu_and rfl (ev_tmp rfl) (fun hb => (ev_opt rfl (beq_t hb)))) rfl rfl ?_
    refine o_pure rfl rfl (pu_not rfl (ev_tmp rfl)) rfl rfl ?_
    refine o_pure rfl rfl (pu_move (.inl rfl) (ev_tmp rfl)) rfl rfl ?_
    refine o_pureG (gd_bool rfl rfl rfl rfl rfl) rfl (fun hg => pu_fieldBox hT rfl rfl rfl (ev_tmp rfl)) rfl rfl ?_
    refine o_pureG (gd_bool rfl rfl rfl rfl rfl) rfl (fun hg => pu_loadBox1 hT rfl rfl (ev_opt rfl hg) rfl rfl) rfl rfl ?_
    refine o_pureG (gd_bool rfl rfl rfl rfl rfl) rfl (fun hg => pu_eql rfl (ev_opt rfl hg) (ev_int (inR_lit rfl))) rfl rfl ?_
    refine o_pureG (gd_bool rfl rfl rfl rfl rfl) rfl (fun hg => pu_move (.inl rfl) (ev_opt rfl hg)) rfl rfl ?_
    refine o_pureG (gd_opt rfl rfl rfl rfl rfl) rfl (fun hg => pu_fieldBox hT rfl rfl rfl (ev_tmp rfl)) rfl rfl ?_
    refine o_pureG (gd_opt rfl rfl rfl rfl rfl) rfl (fun hg => pu_loadBox1 hT rfl rfl (ev_opt rfl hg) rfl rfl) rfl rfl ?_
    refine o_pureG (gd_opt rfl rfl rfl rfl rfl) rfl (fun hg => pu_sne rfl (ev_opt rfl hg) (ev_str (str_lit rfl))) rfl rfl ?_
    refine o_pureG (gd_bool rfl rfl rfl rfl rfl) rfl (fun hg => pu_and rfl (ev_opt rfl hg) (fun hb => (ev_opt rfl (and_mk hg (beq_t hb))))) rfl rfl ?_
    refine o_pureG (gd_bool rfl rfl rfl rfl rfl) rfl (fun hg => pu_not rfl (ev_opt rfl hg)) rfl rfl ?_
    refine o_pure rfl rfl (pu_and rfl (ev_tmp rfl) (fun hb => (ev_opt rfl (beq_t hb)))) rfl rfl ?_
    refine o_pure rfl rfl (pu_move (.inr rfl) (ev_tmp rfl)) rfl rfl ?_
    refine ops_nil ?_
    refine then_n ?_
    refine ok_ret ?_
    refine fin1 (res_tmp rfl) (eqB ?_)
    grind [isKey]
set_option maxRecDepth 100000 in
theorem ok_spec_IsKey {k : KeyT}  : PFn Try.prog 70 [.agg [(.dv [] (.int .i64 (k.1))), (.dv [] (.int .i64 (k.2.1))), (.dv [] (.str (k.2.2)))]] (.one (.dv [] (.bool (isKey k)))) := by
  refine ⟨fn_intro Try.func70 rfl Try.ntmps70 Try.results70 rfl (fun C => ?_)⟩
  refine ok_factA (x := .tmp 0) 0 (ev_tmp rfl) rfl (fun (f0_0 : -9223372036854775808 ≤ (k.1) ∧ (k.1) ≤ 9223372036854775807) => ?_)
  refine ok_factA (x := .tmp 0) 1 (ev_tmp rfl) rfl (fun (f0_1 : -9223372036854775808 ≤ (k.2.1) ∧ (k.2.1) ≤ 9223372036854775807) => ?_)
  refine ok_factA (x := .tmp 0) 2 (ev_tmp rfl) rfl (fun (f0_2 : (k.2.2).size ≤ 9223372036854775807) => ?_)
  refine ok_seq ?_
  refine ok_region ?_
  refine o_box rfl rfl rfl (ev_tmp rfl) rfl rfl rfl rfl ?_
  refine o_pure rfl rfl (pu_move (.inr rfl) ev_bool) rfl rfl ?_
  refine ops_nil ?_
  refine then_n ?_
  refine ok_seq ?_
  refine ok_region ?_
  refine o_pure rfl rfl (pu_fieldBox hT rfl rfl rfl (ev_tmp rfl)) rfl rfl ?_
  refine o_pure rfl rfl (pu_loadBox1 hT rfl rfl (ev_tmp rfl) rfl rfl) rfl rfl ?_
  refine o_call rfl rfl rfl Try.call75 ok_spec_l1In (as_cons (ev_tmp rfl) (ag_one ac_dv) (as_cons (ev_int (inR_lit rfl)) (ag_one ac_dv) (as_cons (ev_int (inR_lit rfl)) (ag_one ac_dv) as_nil))) rfl rfl ?_
  refine o_pure rfl rfl (pu_move (.inl rfl) (ev_tmp rfl)) rfl rfl ?_
  refine o_pureG (gd_bool rfl rfl rfl rfl rfl) rfl (fun hg => pu_fieldBox hT rfl rfl rfl (ev_tmp rfl)) rfl rfl ?_
  refine o_pureG (gd_bool rfl rfl rfl rfl rfl) rfl (fun hg => pu_loadBox1 hT rfl rfl (ev_opt rfl hg) rfl rfl) rfl rfl ?_
  refine o_callG (gd_bool rfl rfl rfl rfl rfl) rfl rfl Try.call75 ok_spec_l1In (fun hg => (as_cons (ev_opt rfl hg) (ag_one ac_dv) (as_cons (ev_int (inR_lit rfl)) (ag_one ac_dv) (as_cons (ev_int (inR_lit rfl)) (ag_one ac_dv) as_nil)))) rfl rfl ?_
  refine o_pure rfl rfl (pu_and rfl (ev_tmp rfl) (fun hb => (ev_opt rfl (beq_t hb)))) rfl rfl ?_
  refine o_pure rfl rfl (pu_move (.inl rfl) (ev_tmp rfl)) rfl rfl ?_
  refine o_pureG (gd_bool rfl rfl rfl rfl rfl) rfl (fun hg => pu_fieldBox hT rfl rfl rfl (ev_tmp rfl)) rfl rfl ?_
  refine o_pureG (gd_bool rfl rfl rfl rfl rfl) rfl (fun hg => pu_loadBox1 hT rfl rfl (ev_opt rfl hg) rfl rfl) rfl rfl ?_
  refine o_pureG (gd_bool rfl rfl rfl rfl rfl) rfl (fun hg => pu_neq rfl (ev_opt rfl hg) (ev_int (inR_lit rfl))) rfl rfl ?_
  refine o_pureG (gd_bool rfl rfl rfl rfl rfl) rfl (fun hg => pu_move (.inl rfl) (ev_opt rfl hg)) rfl rfl ?_
  refine o_pureG (gd_opt rfl rfl rfl rfl rfl) rfl (fun hg => pu_fieldBox hT rfl rfl rfl (ev_tmp rfl)) rfl rfl ?_
  refine o_pureG (gd_opt rfl rfl rfl rfl rfl) rfl (fun hg => pu_loadBox1 hT rfl rfl (ev_opt rfl hg) rfl rfl) rfl rfl ?_
  refine o_pureG (gd_opt rfl rfl rfl rfl rfl) rfl (fun hg => pu_eql rfl (ev_opt rfl hg) (ev_int (inR_lit rfl))) rfl rfl ?_
  refine o_pureG (gd_bool rfl rfl rfl rfl rfl) rfl (fun hg => pu_or rfl (ev_opt rfl hg) (fun hb => (ev_opt rfl (and_mk hg (beq_f hb))))) rfl rfl ?_
  refine o_pure rfl rfl (pu_and rfl (ev_tmp rfl) (fun hb => (ev_opt rfl (beq_t hb)))) rfl rfl ?_
  refine o_pure rfl rfl (pu_move (.inl rfl) (ev_tmp rfl)) rfl rfl ?_
  refine o_pureG (gd_bool rfl rfl rfl rfl rfl) rfl (fun hg => pu_fieldBox hT rfl rfl rfl (ev_tmp rfl)) rfl rfl ?_
  refine o_pureG (gd_bool rfl rfl rfl rfl rfl) rfl (fun hg => pu_loadBox1 hT rfl rfl (ev_opt rfl hg) rfl rfl) rfl rfl ?_
  refine o_callG (gd_bool rfl rfl rfl rfl rfl) rfl rfl Try.call93 ok_spec_l4Text (fun hg => (as_cons (ev_opt rfl hg) (ag_one ac_dv) as_nil)) rfl rfl ?_
  refine o_pure rfl rfl (pu_and rfl (ev_tmp rfl) (fun hb => (ev_opt rfl (beq_t hb)))) rfl rfl ?_
  refine o_pure rfl rfl (pu_move (.inl rfl) (ev_tmp rfl)) rfl rfl ?_
  refine o_pureG (gd_bool rfl rfl rfl rfl rfl) rfl (fun hg => pu_fieldBox hT rfl rfl rfl (ev_tmp rfl)) rfl rfl ?_
  refine o_pureG (gd_bool rfl rfl rfl rfl rfl) rfl (fun hg => pu_loadBox1 hT rfl rfl (ev_opt rfl hg) rfl rfl) rfl rfl ?_
  refine o_pureG (gd_bool rfl rfl rfl rfl rfl) rfl (fun hg => pu_neq rfl (ev_opt rfl hg) (ev_int (inR_lit rfl))) rfl rfl ?_
  refine o_pureG (gd_bool rfl rfl rfl rfl rfl) rfl (fun hg => pu_move (.inl rfl) (ev_opt rfl hg)) rfl rfl ?_
  refine o_pureG (gd_opt rfl rfl rfl rfl rfl) rfl (fun hg => pu_fieldBox hT rfl rfl rfl (ev_tmp rfl)) rfl rfl ?_
  refine o_pureG (gd_opt rfl rfl rfl rfl rfl) rfl (fun hg => pu_loadBox1 hT rfl rfl (ev_opt rfl hg) rfl rfl) rfl rfl ?_
  refine o_pureG (gd_opt rfl rfl rfl rfl rfl) rfl (fun hg => pu_seq rfl (ev_opt rfl hg) (ev_str (str_lit rfl))) rfl rfl ?_
  refine o_pureG (gd_bool rfl rfl rfl rfl rfl) rfl (fun hg => pu_or rfl (ev_opt rfl hg) (fun hb => (ev_opt rfl (and_mk hg (beq_f hb))))) rfl rfl ?_
  refine o_pure rfl rfl (pu_and rfl (ev_tmp rfl) (fun hb => (ev_opt rfl (beq_t hb)))) rfl rfl ?_
  refine o_pure rfl rfl (pu_move (.inr rfl) (ev_tmp rfl)) rfl rfl ?_
  refine ops_nil ?_
  refine then_n ?_
  refine ok_ret ?_
  refine fin1 (res_tmp rfl) (eqB ?_)
  grind [isKey]
set_option maxRecDepth 100000 in
theorem ok_impl_isWord {s : Str} {m : Int} {sl : Bool}  : PFn Try.prog 106 [.one (.dv [] (.str (s))), .one (.dv [] (.int .i64 (m))), .one (.dv [] (.bool (sl)))] (.one (.dv [] (.bool (s.data.toList.all (wch sl) && (decide (1 ≤ (s.size : Int)) && decide ((s.size : Int) ≤ m)))))) := by
  refine ⟨fn_intro Try.func106 rfl Try.ntmps106 Try.results106 rfl (fun C => ?_)⟩
  refine ok_fact (x := .tmp 0) (ev_tmp rfl) (fun (f0 : (s).size ≤ 9223372036854775807) => ?_)
  refine ok_fact (x := .tmp 1) (ev_tmp rfl) (fun (f1 : -9223372036854775808 ≤ (m) ∧ (m) ≤ 9223372036854775807) => ?_)
  refine ok_seq ?_
  refine ok_region ?_
  refine o_pure rfl rfl (pu_move (.inr rfl) ev_bool) rfl rfl ?_
  refine ops_nil ?_
  refine then_n ?_
  refine ok_seq ?_
  refine ok_seq ?_
  refine ok_region ?_
  refine o_pure rfl rfl (pu_move (.inr rfl) (ev_int (inR_lit rfl))) rfl rfl ?_
  refine ops_nil ?_
  refine then_n ?_
  refine ok_block ?_
  refine ok_loop (ι := Nat) (fun zz => ⟨[(0, .one (.dv [] (.str (s)))), (1, .one (.dv [] (.int .i64 (m)))), (2, .one (.dv [] (.bool (sl)))), (7, .one (.dv [] (.int .i64 ((zz : Int)))))], [], []⟩) (fun zz => zz ≤ s.size ∧ (s.data.toList.take zz).all (wch sl) = true) (fun zz => s.size - zz) (0) ?_ (weak_sub ⟨rfl, rfl, rfl, rfl, trivial⟩ trivial trivial rfl) (fun zz hx => ?_)
  · exact ⟨Nat.zero_le _, rfl⟩
  obtain ⟨k, rfl⟩ : ∃ v, v = zz := ⟨_, rfl⟩
  replace hx : k ≤ s.size ∧ (s.data.toList.take k).all (wch sl) = true := hx
  obtain ⟨hk, hall⟩ := hx
  show Ok _ _ _ _ _ (⟨[(0, .one (.dv [] (.str (s)))), (1, .one (.dv [] (.int .i64 (m)))), (2, .one (.dv [] (.bool (sl)))), (7, .one (.dv [] (.int .i64 ((k : Int)))))], [], []⟩ : St)
  refine ok_seq ?_
  refine ok_seq ?_
  refine ok_region ?_
  refine o_pure rfl rfl (pu_move (.inl rfl) (ev_tmp rfl)) rfl rfl ?_
  refine o_pure rfl rfl (pu_move (.inl rfl) (ev_tmp rfl)) rfl rfl ?_
  refine o_pure rfl rfl (pu_lenS hT rfl rfl (ev_tmp rfl)) rfl rfl ?_
  refine o_pure rfl rfl (pu_lss rfl (ev_tmp rfl) (ev_tmp rfl)) rfl rfl ?_
  refine ops_nil ?_
  refine then_n ?_
  refine ok_cond (ev_tmp rfl) (fun c1 => ?_) (fun c1 => ?_)
  · skip
    have d1 := of_decide_eq_true c1
    refine ok_skip ?_
    refine then_n ?_
    refine ok_seq ?_
    refine ok_block ?_
    refine ok_seq ?_
    refine ok_region ?_
    refine o_pure rfl rfl (pu_move (.inl rfl) (ev_tmp rfl)) rfl rfl ?_
    refine o_pure rfl rfl (pu_move (.inl rfl) (ev_tmp rfl)) rfl rfl ?_
    refine o_pure rfl rfl (pu_indexS hT rfl rfl (ev_tmp rfl) (ev_tmp rfl) (by first | omega | (simp only [Bool.and_eq_true, Bool.or_eq_true, Bool.or_eq_false_iff, Bool.and_eq_false_iff, Bool.not_eq_true', Bool.not_eq_false', beq_iff_eq, decide_eq_true_eq, decide_eq_false_iff_not] at hg; omega) | (have hh := of_decide_eq_true (beq_tt hg); omega) | (have hh := of_decide_eq_true (beq_tt (and_r hg)); omega)) (by first | omega | (simp only [Bool.and_eq_true, Bool.or_eq_true, Bool.or_eq_false_iff, Bool.and_eq_false_iff, Bool.not_eq_true', Bool.not_eq_false', beq_iff_eq, decide_eq_true_eq, decide_eq_false_iff_not] at hg; omega) | (have hh := of_decide_eq_true (beq_tt hg); omega) | (have hh := of_decide_eq_true (beq_tt (and_r hg)); omega))) rfl rfl ?_
    refine o_pure rfl rfl (pu_geq rfl (ev_tmp rfl) (ev_int (inR_lit rfl))) rfl rfl ?_
    refine o_pure rfl rfl (pu_move (.inl rfl) (ev_tmp rfl)) rfl rfl ?_
    refine o_pureG (gd_bool rfl rfl rfl rfl rfl) rfl (fun hg => pu_move (.inl rfl) (ev_tmp rfl)) rfl rfl ?_
    refine o_pureG (gd_bool rfl rfl rfl rfl rfl) rfl (fun hg => pu_move (.inl rfl) (ev_tmp rfl)) rfl rfl ?_
    refine o_pureG (gd_bool rfl rfl rfl rfl rfl) rfl (fun hg => pu_indexS hT rfl rfl (ev_opt rfl hg) (ev_opt rfl hg) (by first | omega | (simp only [Bool.and_eq_true, Bool.or_eq_true, Bool.or_eq_false_iff, Bool.and_eq_false_iff, Bool.not_eq_true', Bool.not_eq_false', beq_iff_eq, decide_eq_true_eq, decide_eq_false_iff_not] at hg; omega) | (have hh := of_decide_eq_true (beq_tt hg); omega) | (have hh := of_decide_eq_true (beq_tt (and_r hg)); omega)) (by first | omega | (simp only [Bool.and_eq_true, Bool.or_eq_true, Bool.or_eq_false_iff, Bool.and_eq_false_iff, Bool.not_eq_true', Bool.not_eq_false', beq_iff_eq, decide_eq_true_eq, decide_eq_false_iff_not] at hg; omega) | (have hh := of_decide_eq_true (beq_tt hg); omega) | (have hh := of_decide_eq_true (beq_tt (and_r hg)); omega))) rfl rfl ?_
    refine o_pureG (gd_bool rfl rfl rfl rfl rfl) rfl (fun hg => pu_leq rfl (ev_opt rfl hg) (ev_int (inR_lit rfl))) rfl rfl ?_
    refine o_pure rfl rfl (pu_and rfl (ev_tmp rfl) (fun hb => (ev_opt rfl (beq_t hb)))) rfl rfl ?_
    refine o_pure rfl rfl (pu_move (.inl rfl) (ev_tmp rfl)) rfl rfl ?_
    refine o_pureG (gd_bool rfl rfl rfl rfl rfl) rfl (fun hg => pu_move (.inl rfl) (ev_tmp rfl)) rfl rfl ?_
    refine o_pureG (gd_bool rfl rfl rfl rfl rfl) rfl (fun hg => pu_move (.inl rfl) (ev_opt rfl hg)) rfl rfl ?_
    refine o_pureG (gd_opt rfl rfl rfl rfl rfl) rfl (fun hg => pu_move (.inl rfl) (ev_tmp rfl)) rfl rfl ?_
    refine o_pureG (gd_opt rfl rfl rfl rfl rfl) rfl (fun hg => pu_move (.inl rfl) (ev_tmp rfl)) rfl rfl ?_
    refine o_pureG (gd_opt rfl rfl rfl rfl rfl) rfl (fun hg => pu_indexS hT rfl rfl (ev_opt rfl hg) (ev_opt rfl hg) (by first | omega | (simp only [Bool.and_eq_true, Bool.or_eq_true, Bool.or_eq_false_iff, Bool.and_eq_false_iff, Bool.not_eq_true', Bool.not_eq_false', beq_iff_eq, decide_eq_true_eq, decide_eq_false_iff_not] at hg; omega) | (have hh := of_decide_eq_true (beq_tt hg); omega) | (have hh := of_decide_eq_true (beq_tt (and_r hg)); omega)) (by first | omega | (simp only [Bool.and_eq_true, Bool.or_eq_true, Bool.or_eq_false_iff, Bool.and_eq_false_iff, Bool.not_eq_true', Bool.not_eq_false', beq_iff_eq, decide_eq_true_eq, decide_eq_false_iff_not] at hg; omega) | (have hh := of_decide_eq_true (beq_tt hg); omega) | (have hh := of_decide_eq_true (beq_tt (and_r hg)); omega))) rfl rfl ?_
    refine o_pureG (gd_opt rfl rfl rfl rfl rfl) rfl (fun hg => pu_eql rfl (ev_opt rfl hg) (ev_int (inR_lit rfl))) rfl rfl ?_
    refine o_pureG (gd_bool rfl rfl rfl rfl rfl) rfl (fun hg => pu_and rfl (ev_opt rfl hg) (fun hb => (ev_opt rfl (and_mk hg (beq_t hb))))) rfl rfl ?_
    refine o_pure rfl rfl (pu_or rfl (ev_tmp rfl) (fun hb => (ev_opt rfl (beq_f hb)))) rfl rfl ?_
    refine o_pure rfl rfl (pu_not rfl (ev_tmp rfl)) rfl rfl ?_
    refine ops_nil ?_
    refine then_n ?_
    refine ok_cond (ev_tmp rfl) (fun c2 => ?_) (fun c2 => ?_)
    · skip
      refine ok_seq ?_
      refine ok_region ?_
      refine o_pure rfl rfl (pu_move (.inr rfl) ev_bool) rfl rfl ?_
      refine ops_nil ?_
      refine then_n ?_
      refine ok_ret ?_
      refine blk_r ?_
      refine then_r ?_
      refine then_r ?_
      refine blk_r ?_
      refine then_r ?_
      refine fin1 (res_tmp rfl) (eqB ?_)
      rw [all_no (k := k) (d := 0) (by rw [size_len]; omega) (by have h : (!wch sl (s.data.toList.getD k 0)) = true := c2; simpa using h)]; rfl
    · skip
      refine ok_skip ?_
      refine blk_n ?_
      refine then_n ?_
      refine ok_region ?_
      refine o_pure rfl rfl (pu_move (.inl rfl) (ev_tmp rfl)) rfl rfl ?_
      refine o_pure rfl rfl (pu_addR rfl (ev_tmp rfl) (ev_int (inR_lit rfl)) (inR64 (by omega) (by omega))) rfl rfl ?_
      refine o_pure rfl rfl (pu_move (.inr rfl) (ev_tmp rfl)) rfl rfl ?_
      refine ops_nil ?_
      refine then_n ?_
      refine ⟨k + 1, ?_, ?_, weak_sub ⟨rfl, rfl, rfl, rfl, trivial⟩ trivial trivial rfl⟩
      · exact ⟨by omega, take_all (d := 0) hall (by rw [size_len]; omega) (by have h : (!wch sl (s.data.toList.getD k 0)) = false := c2; simpa using h)⟩
      · omega
  · skip
    have d1 := of_decide_eq_false c1
    refine ok_exit ?_
    refine then_e ?_
    refine then_e ?_
    refine blk_e rfl ?_
    refine then_n ?_
    refine ok_seq ?_
    refine ok_region ?_
    refine o_pure rfl rfl (pu_move (.inl rfl) (ev_tmp rfl)) rfl rfl ?_
    refine o_pure rfl rfl (pu_lenS hT rfl rfl (ev_tmp rfl)) rfl rfl ?_
    refine o_pure rfl rfl (pu_move (.inl rfl) (ev_tmp rfl)) rfl rfl ?_
    refine o_call rfl rfl rfl Try.call97 ok_impl_InRange (as_cons (ev_tmp rfl) (ag_one ac_dv) (as_cons (ev_int (inR_lit rfl)) (ag_one ac_dv) (as_cons (ev_tmp rfl) (ag_one ac_dv) as_nil))) rfl rfl ?_
    refine o_pure rfl rfl (pu_move (.inr rfl) (ev_tmp rfl)) rfl rfl ?_
    refine ops_nil ?_
    refine then_n ?_
    refine ok_ret ?_
    refine fin1 (res_tmp rfl) (eqB ?_)
    rw [all_yes hall (by rw [size_len]; omega)]; rfl
set_option maxRecDepth 100000 in
theorem ok_impl_IsName {s : Str}  : PFn Try.prog 96 [.one (.dv [] (.str (s)))] (.one (.dv [] (.bool (isName s)))) := by
  refine ⟨fn_intro Try.func96 rfl Try.ntmps96 Try.results96 rfl (fun C => ?_)⟩
  refine ok_fact (x := .tmp 0) (ev_tmp rfl) (fun (f0 : (s).size ≤ 9223372036854775807) => ?_)
  refine ok_seq ?_
  refine ok_region ?_
  refine o_pure rfl rfl (pu_move (.inr rfl) ev_bool) rfl rfl ?_
  refine ops_nil ?_
  refine then_n ?_
  refine ok_seq ?_
  refine ok_region ?_
  refine o_pure rfl rfl (pu_move (.inl rfl) (ev_tmp rfl)) rfl rfl ?_
  refine o_call rfl rfl rfl Try.call106 ok_impl_isWord (as_cons (ev_tmp rfl) (ag_one ac_dv) (as_cons (ev_int (inR_lit rfl)) (ag_one ac_dv) (as_cons ev_bool (ag_one ac_dv) as_nil))) rfl rfl ?_
  refine o_pure rfl rfl (pu_move (.inr rfl) (ev_tmp rfl)) rfl rfl ?_
  refine ops_nil ?_
  refine then_n ?_
  refine ok_ret ?_
  refine fin1 (res_tmp rfl) (eqB ?_)
  rfl
set_option maxRecDepth 100000 in
theorem ok_spec_IsName {s : Str}  : PFn Try.prog 92 [.one (.dv [] (.str (s)))] (.one (.dv [] (.bool (isName s)))) := by
  refine ⟨fn_intro Try.func92 rfl Try.ntmps92 Try.results92 rfl (fun C => ?_)⟩
  refine ok_fact (x := .tmp 0) (ev_tmp rfl) (fun (f0 : (s).size ≤ 9223372036854775807) => ?_)
  refine ok_seq ?_
  refine ok_region ?_
  refine o_pure rfl rfl (pu_move (.inr rfl) ev_bool) rfl rfl ?_
  refine ops_nil ?_
  refine then_n ?_
  refine ok_seq ?_
  refine ok_seq ?_
  refine ok_region ?_
  refine o_pure rfl rfl (pu_move (.inr rfl) (ev_int (inR_lit rfl))) rfl rfl ?_
  refine ops_nil ?_
  refine then_n ?_
  refine ok_block ?_
  refine ok_loop (ι := Nat) (fun zz => ⟨[(0, .one (.dv [] (.str (s)))), (3, .one (.dv [] (.int .i64 ((zz : Int)))))], [], []⟩) (fun zz => zz ≤ s.size ∧ (s.data.toList.take zz).all (wch false) = true) (fun zz => s.size - zz) (0) ?_ (weak_sub ⟨rfl, rfl, trivial⟩ trivial trivial rfl) (fun zz hx => ?_)
  · exact ⟨Nat.zero_le _, rfl⟩
  obtain ⟨k, rfl⟩ : ∃ v, v = zz := ⟨_, rfl⟩
  replace hx : k ≤ s.size ∧ (s.data.toList.take k).all (wch false) = true := hx
  obtain ⟨hk, hall⟩ := hx
  show Ok _ _ _ _ _ (⟨[(0, .one (.dv [] (.str (s)))), (3, .one (.dv [] (.int .i64 ((k : Int)))))], [], []⟩ : St)
  refine ok_seq ?_
  refine ok_seq ?_
  refine ok_region ?_
  refine o_pure rfl rfl (pu_move (.inl rfl) (ev_tmp rfl)) rfl rfl ?_
  refine o_pure rfl rfl (pu_move (.inl rfl) (ev_tmp rfl)) rfl rfl ?_
  refine o_pure rfl rfl (pu_lenS hT rfl rfl (ev_tmp rfl)) rfl rfl ?_
  refine o_pure rfl rfl (pu_lss rfl (ev_tmp rfl) (ev_tmp rfl)) rfl rfl ?_
  refine ops_nil ?_
  refine then_n ?_
  refine ok_cond (ev_tmp rfl) (fun c1 => ?_) (fun c1 => ?_)
  · skip
    have d1 := of_decide_eq_true c1
    refine ok_skip ?_
    refine then_n ?_
    refine ok_seq ?_
    refine ok_block ?_
    refine ok_seq ?_
    refine ok_region ?_
    refine o_pure rfl rfl (pu_move (.inl rfl) (ev_tmp rfl)) rfl rfl ?_
    refine o_pure rfl rfl (pu_move (.inl rfl) (ev_tmp rfl)) rfl rfl ?_
    refine o_pure rfl rfl (pu_indexS hT rfl rfl (ev_tmp rfl) (ev_tmp rfl) (by first | omega | (simp only [Bool.and_eq_true, Bool.or_eq_true, Bool.or_eq_false_iff, Bool.and_eq_false_iff, Bool.not_eq_true', Bool.not_eq_false', beq_iff_eq, decide_eq_true_eq, decide_eq_false_iff_not] at hg; omega) | (have hh := of_decide_eq_true (beq_tt hg); omega) | (have hh := of_decide_eq_true (beq_tt (and_r hg)); omega)) (by first | omega | (simp only [Bool.and_eq_true, Bool.or_eq_true, Bool.or_eq_false_iff, Bool.and_eq_false_iff, Bool.not_eq_true', Bool.not_eq_false', beq_iff_eq, decide_eq_true_eq, decide_eq_false_iff_not] at hg; omega) | (have hh := of_decide_eq_true (beq_tt hg); omega) | (have hh := of_decide_eq_true (beq_tt (and_r hg)); omega))) rfl rfl ?_
    refine o_pure rfl rfl (pu_lss rfl (ev_tmp rfl) (ev_int (inR_lit rfl))) rfl rfl ?_
    refine o_pure rfl rfl (pu_move (.inl rfl) (ev_tmp rfl)) rfl rfl ?_
    refine o_pureG (gd_bool rfl rfl rfl rfl rfl) rfl (fun hg => pu_move (.inl rfl) (ev_tmp rfl)) rfl rfl ?_
    refine o_pureG (gd_bool rfl rfl rfl rfl rfl) rfl (fun hg => pu_move (.inl rfl) (ev_tmp rfl)) rfl rfl ?_
    refine o_pureG (gd_bool rfl rfl rfl rfl rfl) rfl (fun hg => pu_indexS hT rfl rfl (ev_opt rfl hg) (ev_opt rfl hg) (by first | omega | (simp only [Bool.and_eq_true, Bool.or_eq_true, Bool.or_eq_false_iff, Bool.and_eq_false_iff, Bool.not_eq_true', Bool.not_eq_false', beq_iff_eq, decide_eq_true_eq, decide_eq_false_iff_not] at hg; omega) | (have hh := of_decide_eq_true (beq_tt hg); omega) | (have hh := of_decide_eq_true (beq_tt (and_r hg)); omega)) (by first | omega | (simp only [Bool.and_eq_true, Bool.or_eq_true, Bool.or_eq_false_iff, Bool.and_eq_false_iff, Bool.not_eq_true', Bool.not_eq_false', beq_iff_eq, decide_eq_true_eq, decide_eq_false_iff_not] at hg; omega) | (have hh := of_decide_eq_true (beq_tt hg); omega) | (have hh := of_decide_eq_true (beq_tt (and_r hg)); omega))) rfl rfl ?_
    refine o_pureG (gd_bool rfl rfl rfl rfl rfl) rfl (fun hg => pu_gtr rfl (ev_opt rfl hg) (ev_int (inR_lit rfl))) rfl rfl ?_
    refine o_pure rfl rfl (pu_or rfl (ev_tmp rfl) (fun hb => (ev_opt rfl (beq_f hb)))) rfl rfl ?_
    refine ops_nil ?_
    refine then_n ?_
    refine ok_cond (ev_tmp rfl) (fun c2 => ?_) (fun c2 => ?_)
    · skip
      refine ok_seq ?_
      refine ok_region ?_
      refine o_pure rfl rfl (pu_move (.inr rfl) ev_bool) rfl rfl ?_
      refine ops_nil ?_
      refine then_n ?_
      refine ok_ret ?_
      refine blk_r ?_
      refine then_r ?_
      refine then_r ?_
      refine blk_r ?_
      refine then_r ?_
      refine fin1 (res_tmp rfl) (eqB ?_)
      rw [isName, all_no (k := k) (d := 0) (by rw [size_len]; omega) (by have h := (wch_spec (s.data.toList.getD k 0)).symm.trans c2; simpa using h)]; rfl
    · skip
      refine ok_skip ?_
      refine blk_n ?_
      refine then_n ?_
      refine ok_region ?_
      refine o_pure rfl rfl (pu_move (.inl rfl) (ev_tmp rfl)) rfl rfl ?_
      refine o_pure rfl rfl (pu_addR rfl (ev_tmp rfl) (ev_int (inR_lit rfl)) (inR64 (by omega) (by omega))) rfl rfl ?_
      refine o_pure rfl rfl (pu_move (.inr rfl) (ev_tmp rfl)) rfl rfl ?_
      refine ops_nil ?_
      refine then_n ?_
      refine ⟨k + 1, ?_, ?_, weak_sub ⟨rfl, rfl, trivial⟩ trivial trivial rfl⟩
      · exact ⟨by omega, take_all (d := 0) hall (by rw [size_len]; omega) (by have h := (wch_spec (s.data.toList.getD k 0)).symm.trans c2; simpa using h)⟩
      · omega
  · skip
    have d1 := of_decide_eq_false c1
    refine ok_exit ?_
    refine then_e ?_
    refine then_e ?_
    refine blk_e rfl ?_
    refine then_n ?_
    refine ok_seq ?_
    refine ok_region ?_
    refine o_pure rfl rfl (pu_move (.inl rfl) (ev_tmp rfl)) rfl rfl ?_
    refine o_pure rfl rfl (pu_lenS hT rfl rfl (ev_tmp rfl)) rfl rfl ?_
    refine o_call rfl rfl rfl Try.call75 ok_spec_l1In (as_cons (ev_tmp rfl) (ag_one ac_dv) (as_cons (ev_int (inR_lit rfl)) (ag_one ac_dv) (as_cons (ev_int (inR_lit rfl)) (ag_one ac_dv) as_nil))) rfl rfl ?_
    refine o_pure rfl rfl (pu_move (.inr rfl) (ev_tmp rfl)) rfl rfl ?_
    refine ops_nil ?_
    refine then_n ?_
    refine ok_ret ?_
    refine fin1 (res_tmp rfl) (eqB ?_)
    rw [isName, all_yes hall (by rw [size_len]; omega)]; rfl
end Go.Proofs.Ytbmgommbmhmbgaa
