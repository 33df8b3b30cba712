/-
  Records.
-/
import Derived.Test.YtbmgommbmhmbgaaA2
namespace Go.Proofs.Ytbmgommbmhmbgaa
open Go.RowKit
open Go.Proofs
set_option linter.unusedVariables false
set_option linter.unusedSimpArgs false

theorem bl_total : ∀ (x y : List UInt8), (Op.bytesLess x y || (x == y)) = !Op.bytesLess y x
  | [], [] => rfl
  | [], _ :: _ => rfl
  | _ :: _, [] => rfl
  | a :: x, b :: y => by
    have ih := bl_total x y
    simp only [Op.bytesLess]
    rcases Nat.lt_trichotomy a.toNat b.toNat with h | h | h
    · have h1 : a < b := h
      have h2 : ¬ b < a := by intro h'; have : b.toNat < a.toNat := h'; omega
      have h3 : ¬ a = b := by rintro rfl; omega
      have h4 : ¬ b = a := fun e => h3 e.symm
      simp [h1, h2, h3, h4]
    · have e : a = b := UInt8.toNat_inj.1 h
      subst e
      simpa using ih
    · have h1 : b < a := h
      have h2 : ¬ a < b := by intro h'; have : a.toNat < b.toNat := h'; omega
      have h3 : ¬ a = b := by rintro rfl; omega
      have h4 : ¬ b = a := fun e => h3 e.symm
      simp [h1, h2, h3, h4]
theorem sLe_eq (a b : Str) : (sLt a b || sEq a b) = !sLt b a := bl_total _ _
theorem rall_succ {p : Nat → Bool} {k : Nat} (h : (List.range k).all p = true) (hp : p k = true) : (List.range (k + 1)).all p = true := by
  rw [List.range_succ, List.all_append, h]; simpa using hp
theorem rall_no {p : Nat → Bool} {k n : Nat} (hk : k < n) (hp : p k = false) : (List.range n).all p = false := by
  rw [List.all_eq_false]; exact ⟨k, List.mem_range.2 hk, by simpa using hp⟩
def recBad (r : RecT) (i : Nat) : Bool := (!isName (r.getD (i : Int).toNat default).1 || !(decide ((0 : Int) ≤ (r.getD (i : Int).toNat default).2) && decide ((r.getD (i : Int).toNat default).2 ≤ 1000000000))) ||
  (decide ((0 : Int) < (i : Int)) && (sLt (r.getD (i : Int).toNat default).1 (r.getD ((i : Int) - 1).toNat default).1 || sEq (r.getD (i : Int).toNat default).1 (r.getD ((i : Int) - 1).toNat default).1))
def isRec (r : RecT) : Bool := (List.range r.length).all (fun i => !recBad r i) && decide ((r.length : Int) ≤ 6)
def recBadS (r : RecT) (i : Nat) : Bool := (!isName (r.getD (i : Int).toNat default).1 || !(decide ((0 : Int) ≤ (r.getD (i : Int).toNat default).2) && decide ((r.getD (i : Int).toNat default).2 ≤ 1000000000))) ||
  (decide ((0 : Int) < (i : Int)) && !sLt (r.getD ((i : Int) - 1).toNat default).1 (r.getD (i : Int).toNat default).1)
theorem recBadS_eq (r : RecT) (i : Nat) : recBadS r i = recBad r i := by unfold recBadS recBad; rw [sLe_eq]

set_option maxRecDepth 100000 in
theorem ok_impl_IsRecord {r : RecT}  : PFn Try.prog 95 [.agg [(.dv [] (fieldsD (r)))]] (.one (.dv [] (.bool (isRec r)))) := by
  refine ⟨fn_intro Try.func95 rfl Try.ntmps95 Try.results95 rfl (fun C => ?_)⟩
  refine ok_factA (x := .tmp 0) 0 (ev_tmp rfl) rfl (fun (f0_0 : ((r)).length ≤ 9223372036854775807) => ?_)
  refine ok_seq ?_
  refine ok_region ?_
  refine o_box rfl rfl rfl (ev_tmp rfl) rfl rfl rfl rfl ?_
  refine o_pure rfl rfl (pu_move (.inr rfl) ev_bool) rfl rfl ?_
  refine ops_nil ?_
  refine then_n ?_
  refine ok_seq ?_
  refine ok_seq ?_
  refine ok_region ?_
  refine o_pure rfl rfl (pu_fieldBox hT rfl rfl rfl (ev_tmp rfl)) rfl rfl ?_
  refine o_pure rfl rfl (pu_loadBox1 hT rfl rfl (ev_tmp rfl) rfl rfl) rfl rfl ?_
  refine o_pure rfl rfl (pu_lenV hT rfl rfl (ev_tmp rfl)) rfl rfl ?_
  refine o_pure rfl rfl (pu_move (.inl rfl) (ev_int (inR_lit rfl))) rfl rfl ?_
  refine ops_nil ?_
  refine then_n ?_
  refine ok_block ?_
  refine ok_loop (ι := Nat) (fun zz => ⟨[(1, .box 1 0), (6, .one (.dv [] (fieldsD (r)))), (7, .one (.dv [] (.int .i64 ((((r)).length : Int))))), (8, .one (.dv [] (.int .i64 ((zz : Int)))))], [(1, 50, [(.dv [] (fieldsD (r)))])], []⟩) (fun zz => zz ≤ r.length ∧ (List.range zz).all (fun i => !recBad r i) = true) (fun zz => r.length - zz) (0) ?_ (weak_sub ⟨rfl, rfl, rfl, rfl, trivial⟩ ⟨rfl, trivial⟩ trivial rfl) (fun zz hx => ?_)
  · exact ⟨Nat.zero_le _, rfl⟩
  obtain ⟨k, rfl⟩ : ∃ v, v = zz := ⟨_, rfl⟩
  replace hx : k ≤ r.length ∧ (List.range k).all (fun i => !recBad r i) = true := hx
  obtain ⟨hk, hall⟩ := hx
  show Ok _ _ _ _ _ (⟨[(1, .box 1 0), (6, .one (.dv [] (fieldsD (r)))), (7, .one (.dv [] (.int .i64 ((((r)).length : Int))))), (8, .one (.dv [] (.int .i64 ((k : Int)))))], [(1, 50, [(.dv [] (fieldsD (r)))])], []⟩ : St)
  refine ok_seq ?_
  refine ok_region ?_
  refine o_pure rfl rfl (pu_lss rfl (ev_tmp rfl) (ev_tmp rfl)) rfl rfl ?_
  refine ops_nil ?_
  refine then_n ?_
  refine ok_seq ?_
  refine ok_cond (ev_tmp rfl) (fun c1 => ?_) (fun c1 => ?_)
  · skip
    have d1 := of_decide_eq_true c1
    refine ok_skip ?_
    refine then_n ?_
    refine ok_seq ?_
    refine ok_block ?_
    refine ok_seq ?_
    refine ok_region ?_
    refine o_pure rfl rfl (pu_move (.inl rfl) (ev_tmp rfl)) rfl rfl ?_
    refine o_pure rfl rfl (pu_indexD hT rfl rfl rfl (ev_tmp rfl) (ev_tmp rfl) (fun _ => rfl) (by first | omega | (simp only [Bool.and_eq_true, Bool.or_eq_true, Bool.or_eq_false_iff, Bool.and_eq_false_iff, Bool.not_eq_true', Bool.not_eq_false', beq_iff_eq, decide_eq_true_eq, decide_eq_false_iff_not] at hg; omega) | (have hh := of_decide_eq_true (beq_tt hg); omega) | (have hh := of_decide_eq_true (beq_tt (and_r hg)); omega)) (by first | omega | (simp only [Bool.and_eq_true, Bool.or_eq_true, Bool.or_eq_false_iff, Bool.and_eq_false_iff, Bool.not_eq_true', Bool.not_eq_false', beq_iff_eq, decide_eq_true_eq, decide_eq_false_iff_not] at hg; omega) | (have hh := of_decide_eq_true (beq_tt hg); omega) | (have hh := of_decide_eq_true (beq_tt (and_r hg)); omega))) rfl rfl ?_
    refine o_pure rfl rfl (pu_loadRefA hT rfl rfl (ev_tmp rfl) rfl) rfl rfl ?_
    refine o_alloc hT rfl rfl rfl rfl rfl rfl ?_
    refine o_pure rfl rfl (pu_move (.inr rfl) (ev_tmp rfl)) rfl rfl ?_
    refine o_store hT rfl rfl rfl rfl (ev_tmp rfl) (ev_tmp rfl) rfl rfl rfl rfl rfl rfl ?_
    refine ops_nil ?_
    refine then_n ?_
    refine ok_seq ?_
    refine ok_regionD (oB := [1, 4]) (oK := []) (by kernel_rfl) rfl rfl ?_
    refine d_take 0 rfl (by kernel_rfl) rfl rfl (pu_fieldBox hT rfl rfl rfl (ev_tmp rfl)) rfl rfl rfl rfl ?_
    refine d_take 1 rfl (by kernel_rfl) rfl rfl (pu_loadBox1 hT rfl rfl (ev_tmp rfl) rfl rfl) rfl rfl rfl rfl ?_
    refine d_call 2 rfl (by kernel_rfl) rfl rfl rfl Try.call96 ok_impl_IsName (as_cons (ev_tmp rfl) (ag_one ac_dv) as_nil) rfl rfl rfl rfl ?_
    refine d_take 3 rfl (by kernel_rfl) rfl rfl (pu_not rfl (ev_tmp rfl)) rfl rfl rfl rfl ?_
    refine d_take 4 rfl (by kernel_rfl) rfl rfl (pu_move (.inl rfl) (ev_tmp rfl)) rfl rfl rfl rfl ?_
    refine d_takeG 5 rfl (by kernel_rfl) (gd_bool rfl rfl rfl rfl rfl) rfl (fun hg => pu_fieldBox hT rfl rfl rfl (ev_tmp rfl)) rfl rfl rfl rfl ?_
    refine d_takeG 6 rfl (by kernel_rfl) (gd_bool rfl rfl rfl rfl rfl) rfl (fun hg => pu_loadBox1 hT rfl rfl (ev_opt rfl hg) rfl rfl) rfl rfl rfl rfl ?_
    refine d_callG 7 rfl (by kernel_rfl) (gd_bool rfl rfl rfl rfl rfl) rfl rfl Try.call97 ok_impl_InRange (fun hg => (as_cons (ev_opt rfl hg) (ag_one ac_dv) (as_cons (ev_int (inR_lit rfl)) (ag_one ac_dv) (as_cons (ev_int (inR_lit rfl)) (ag_one ac_dv) as_nil)))) rfl rfl ?_
    refine d_takeG 8 rfl (by kernel_rfl) (gd_bool rfl rfl rfl rfl rfl) rfl (fun hg => pu_not rfl (ev_opt rfl hg)) rfl rfl rfl rfl ?_
    refine d_take 9 rfl (by kernel_rfl) rfl rfl (pu_or rfl (ev_tmp rfl) (fun hb => (ev_opt rfl (beq_f hb)))) rfl rfl rfl rfl ?_
    refine d_take 10 rfl (by kernel_rfl) rfl rfl (pu_move (.inl rfl) (ev_tmp rfl)) rfl rfl rfl rfl ?_
    refine d_takeG 11 rfl (by kernel_rfl) (gd_bool rfl rfl rfl rfl rfl) rfl (fun hg => pu_move (.inl rfl) (ev_tmp rfl)) rfl rfl rfl rfl ?_
    refine d_takeG 12 rfl (by kernel_rfl) (gd_bool rfl rfl rfl rfl rfl) rfl (fun hg => pu_gtr rfl (ev_opt rfl hg) (ev_int (inR_lit rfl))) rfl rfl rfl rfl ?_
    refine d_takeG 13 rfl (by kernel_rfl) (gd_bool rfl rfl rfl rfl rfl) rfl (fun hg => pu_move (.inl rfl) (ev_opt rfl hg)) rfl rfl rfl rfl ?_
    refine d_takeG 14 rfl (by kernel_rfl) (gd_opt rfl rfl rfl rfl rfl) rfl (fun hg => pu_fieldBox hT rfl rfl rfl (ev_tmp rfl)) rfl rfl rfl rfl ?_
    refine d_takeG 15 rfl (by kernel_rfl) (gd_opt rfl rfl rfl rfl rfl) rfl (fun hg => pu_loadBox1 hT rfl rfl (ev_opt rfl hg) rfl rfl) rfl rfl rfl rfl ?_
    refine d_takeG 16 rfl (by kernel_rfl) (gd_opt rfl rfl rfl rfl rfl) rfl (fun hg => pu_fieldBox hT rfl rfl rfl (ev_tmp rfl)) rfl rfl rfl rfl ?_
    refine d_takeG 17 rfl (by kernel_rfl) (gd_opt rfl rfl rfl rfl rfl) rfl (fun hg => pu_loadBox1 hT rfl rfl (ev_opt rfl hg) rfl rfl) rfl rfl rfl rfl ?_
    refine d_takeG 18 rfl (by kernel_rfl) (gd_opt rfl rfl rfl rfl rfl) rfl (fun hg => pu_move (.inl rfl) (ev_tmp rfl)) rfl rfl rfl rfl ?_
    refine d_takeG 19 rfl (by kernel_rfl) (gd_opt rfl rfl rfl rfl rfl) rfl (fun hg => pu_subR rfl (ev_opt rfl hg) (ev_int (inR_lit rfl)) (inR64 (by omega) (by omega))) rfl rfl rfl rfl ?_
    refine d_takeG 20 rfl (by kernel_rfl) (gd_opt rfl rfl rfl rfl rfl) rfl (fun hg => pu_indexD hT rfl rfl rfl (ev_opt rfl hg) (ev_opt rfl hg) (fun _ => rfl) (by first | omega | (simp only [Bool.and_eq_true, Bool.or_eq_true, Bool.or_eq_false_iff, Bool.and_eq_false_iff, Bool.not_eq_true', Bool.not_eq_false', beq_iff_eq, decide_eq_true_eq, decide_eq_false_iff_not] at hg; omega) | (have hh := of_decide_eq_true (beq_tt hg); omega) | (have hh := of_decide_eq_true (beq_tt (and_r hg)); omega)) (by first | omega | (simp only [Bool.and_eq_true, Bool.or_eq_true, Bool.or_eq_false_iff, Bool.and_eq_false_iff, Bool.not_eq_true', Bool.not_eq_false', beq_iff_eq, decide_eq_true_eq, decide_eq_false_iff_not] at hg; omega) | (have hh := of_decide_eq_true (beq_tt hg); omega) | (have hh := of_decide_eq_true (beq_tt (and_r hg)); omega))) rfl rfl rfl rfl ?_
    refine d_takeG 21 rfl (by kernel_rfl) (gd_opt rfl rfl rfl rfl rfl) rfl (fun hg => pu_fieldRef hT rfl rfl rfl (ev_opt rfl hg)) rfl rfl rfl rfl ?_
    refine d_takeG 22 rfl (by kernel_rfl) (gd_opt rfl rfl rfl rfl rfl) rfl (fun hg => pu_loadRef1 hT rfl rfl (ev_opt rfl hg) rfl) rfl rfl rfl rfl ?_
    refine d_takeG 23 rfl (by kernel_rfl) (gd_opt rfl rfl rfl rfl rfl) rfl (fun hg => pu_sle rfl (ev_opt rfl hg) (ev_opt rfl hg)) rfl rfl rfl rfl ?_
    refine d_takeG 24 rfl (by kernel_rfl) (gd_bool rfl rfl rfl rfl rfl) rfl (fun hg => pu_and rfl (ev_opt rfl hg) (fun hb => (ev_opt rfl (and_mk hg (beq_t hb))))) rfl rfl rfl rfl ?_
    refine d_take 25 rfl (by kernel_rfl) rfl rfl (pu_or rfl (ev_tmp rfl) (fun hb => (ev_opt rfl (beq_f hb)))) rfl rfl rfl rfl ?_
    refine d_done (by kernel_rfl) ?_
    refine then_n ?_
    refine ok_cond (ev_tmp rfl) (fun c2 => ?_) (fun c2 => ?_)
    · skip
      refine ok_seq ?_
      refine ok_region ?_
      refine o_pure rfl rfl (pu_move (.inr rfl) ev_bool) rfl rfl ?_
      refine ops_nil ?_
      refine then_n ?_
      refine ok_ret ?_
      refine blk_r ?_
      refine then_r ?_
      refine then_r ?_
      refine blk_r ?_
      refine then_r ?_
      refine fin1 (res_tmp rfl) (eqB ?_)
      rw [isRec, rall_no (k := k) (by omega) (by have h : recBad r k = true := c2; simpa using h)]; rfl
    · skip
      refine ok_skip ?_
      refine blk_n ?_
      refine then_n ?_
      refine ok_region ?_
      refine o_pure rfl rfl (pu_addR rfl (ev_tmp rfl) (ev_int (inR_lit rfl)) (inR64 (by omega) (by omega))) rfl rfl ?_
      refine o_pure rfl rfl (pu_move (.inl rfl) (ev_tmp rfl)) rfl rfl ?_
      refine ops_nil ?_
      refine then_n ?_
      refine ⟨k + 1, ?_, ?_, weak_sub ⟨rfl, rfl, rfl, rfl, trivial⟩ ⟨rfl, trivial⟩ trivial rfl⟩
      · exact ⟨by omega, rall_succ hall (by have h : recBad r k = false := c2; simpa using h)⟩
      · omega
  · skip
    have d1 := of_decide_eq_false c1
    refine ok_exit ?_
    refine then_e ?_
    refine then_e ?_
    refine blk_e rfl ?_
    refine then_n ?_
    refine ok_seq ?_
    refine ok_region ?_
    refine o_pure rfl rfl (pu_fieldBox hT rfl rfl rfl (ev_tmp rfl)) rfl rfl ?_
    refine o_pure rfl rfl (pu_loadBox1 hT rfl rfl (ev_tmp rfl) rfl rfl) rfl rfl ?_
    refine o_pure rfl rfl (pu_lenV hT rfl rfl (ev_tmp rfl)) rfl rfl ?_
    refine o_pure rfl rfl (pu_leq rfl (ev_tmp rfl) (ev_int (inR_lit rfl))) rfl rfl ?_
    refine o_pure rfl rfl (pu_move (.inr rfl) (ev_tmp rfl)) rfl rfl ?_
    refine ops_nil ?_
    refine then_n ?_
    refine ok_ret ?_
    refine fin1 (res_tmp rfl) (eqB ?_)
    obtain rfl : k = r.length := by omega
    rw [isRec, hall]; rfl
set_option maxRecDepth 100000 in
theorem ok_spec_IsRecord {r : RecT}  : PFn Try.prog 71 [.agg [(.dv [] (fieldsD (r)))]] (.one (.dv [] (.bool (isRec r)))) := by
  refine ⟨fn_intro Try.func71 rfl Try.ntmps71 Try.results71 rfl (fun C => ?_)⟩
  refine ok_factA (x := .tmp 0) 0 (ev_tmp rfl) rfl (fun (f0_0 : ((r)).length ≤ 9223372036854775807) => ?_)
  refine ok_seq ?_
  refine ok_region ?_
  refine o_box rfl rfl rfl (ev_tmp rfl) rfl rfl rfl rfl ?_
  refine o_pure rfl rfl (pu_move (.inr rfl) ev_bool) rfl rfl ?_
  refine ops_nil ?_
  refine then_n ?_
  refine ok_seq ?_
  refine ok_seq ?_
  refine ok_region ?_
  refine o_pure rfl rfl (pu_move (.inr rfl) (ev_int (inR_lit rfl))) rfl rfl ?_
  refine ops_nil ?_
  refine then_n ?_
  refine ok_block ?_
  refine ok_loop (ι := Nat) (fun zz => ⟨[(1, .box 1 0), (3, .one (.dv [] (.int .i64 ((zz : Int)))))], [(1, 50, [(.dv [] (fieldsD (r)))])], []⟩) (fun zz => zz ≤ r.length ∧ (List.range zz).all (fun i => !recBad r i) = true) (fun zz => r.length - zz) (0) ?_ (weak_sub ⟨rfl, rfl, trivial⟩ ⟨rfl, trivial⟩ trivial rfl) (fun zz hx => ?_)
  · exact ⟨Nat.zero_le _, rfl⟩
  obtain ⟨k, rfl⟩ : ∃ v, v = zz := ⟨_, rfl⟩
  replace hx : k ≤ r.length ∧ (List.range k).all (fun i => !recBad r i) = true := hx
  obtain ⟨hk, hall⟩ := hx
  show Ok _ _ _ _ _ (⟨[(1, .box 1 0), (3, .one (.dv [] (.int .i64 ((k : Int)))))], [(1, 50, [(.dv [] (fieldsD (r)))])], []⟩ : St)
  refine ok_seq ?_
  refine ok_seq ?_
  refine ok_region ?_
  refine o_pure rfl rfl (pu_move (.inl rfl) (ev_tmp rfl)) rfl rfl ?_
  refine o_pure rfl rfl (pu_fieldBox hT rfl rfl rfl (ev_tmp rfl)) rfl rfl ?_
  refine o_pure rfl rfl (pu_loadBox1 hT rfl rfl (ev_tmp rfl) rfl rfl) rfl rfl ?_
  refine o_pure rfl rfl (pu_lenV hT rfl rfl (ev_tmp rfl)) rfl rfl ?_
  refine o_pure rfl rfl (pu_lss rfl (ev_tmp rfl) (ev_tmp rfl)) rfl rfl ?_
  refine ops_nil ?_
  refine then_n ?_
  refine ok_cond (ev_tmp rfl) (fun c1 => ?_) (fun c1 => ?_)
  · skip
    have d1 := of_decide_eq_true c1
    refine ok_skip ?_
    refine then_n ?_
    refine ok_seq ?_
    refine ok_block ?_
    refine ok_seq ?_
    refine ok_regionD (oB := [1]) (oK := []) (by kernel_rfl) rfl rfl ?_
    refine d_take 0 rfl (by kernel_rfl) rfl rfl (pu_fieldBox hT rfl rfl rfl (ev_tmp rfl)) rfl rfl rfl rfl ?_
    refine d_take 1 rfl (by kernel_rfl) rfl rfl (pu_loadBox1 hT rfl rfl (ev_tmp rfl) rfl rfl) rfl rfl rfl rfl ?_
    refine d_take 2 rfl (by kernel_rfl) rfl rfl (pu_move (.inl rfl) (ev_tmp rfl)) rfl rfl rfl rfl ?_
    refine d_take 3 rfl (by kernel_rfl) rfl rfl (pu_indexD hT rfl rfl rfl (ev_tmp rfl) (ev_tmp rfl) (fun _ => rfl) (by first | omega | (simp only [Bool.and_eq_true, Bool.or_eq_true, Bool.or_eq_false_iff, Bool.and_eq_false_iff, Bool.not_eq_true', Bool.not_eq_false', beq_iff_eq, decide_eq_true_eq, decide_eq_false_iff_not] at hg; omega) | (have hh := of_decide_eq_true (beq_tt hg); omega) | (have hh := of_decide_eq_true (beq_tt (and_r hg)); omega)) (by first | omega | (simp only [Bool.and_eq_true, Bool.or_eq_true, Bool.or_eq_false_iff, Bool.and_eq_false_iff, Bool.not_eq_true', Bool.not_eq_false', beq_iff_eq, decide_eq_true_eq, decide_eq_false_iff_not] at hg; omega) | (have hh := of_decide_eq_true (beq_tt hg); omega) | (have hh := of_decide_eq_true (beq_tt (and_r hg)); omega))) rfl rfl rfl rfl ?_
    refine d_take 4 rfl (by kernel_rfl) rfl rfl (pu_fieldRef hT rfl rfl rfl (ev_tmp rfl)) rfl rfl rfl rfl ?_
    refine d_take 5 rfl (by kernel_rfl) rfl rfl (pu_loadRef1 hT rfl rfl (ev_tmp rfl) rfl) rfl rfl rfl rfl ?_
    refine d_call 6 rfl (by kernel_rfl) rfl rfl rfl Try.call92 ok_spec_IsName (as_cons (ev_tmp rfl) (ag_one ac_dv) as_nil) rfl rfl rfl rfl ?_
    refine d_take 7 rfl (by kernel_rfl) rfl rfl (pu_not rfl (ev_tmp rfl)) rfl rfl rfl rfl ?_
    refine d_take 8 rfl (by kernel_rfl) rfl rfl (pu_move (.inl rfl) (ev_tmp rfl)) rfl rfl rfl rfl ?_
    refine d_takeG 9 rfl (by kernel_rfl) (gd_bool rfl rfl rfl rfl rfl) rfl (fun hg => pu_fieldBox hT rfl rfl rfl (ev_tmp rfl)) rfl rfl rfl rfl ?_
    refine d_takeG 10 rfl (by kernel_rfl) (gd_bool rfl rfl rfl rfl rfl) rfl (fun hg => pu_loadBox1 hT rfl rfl (ev_opt rfl hg) rfl rfl) rfl rfl rfl rfl ?_
    refine d_takeG 11 rfl (by kernel_rfl) (gd_bool rfl rfl rfl rfl rfl) rfl (fun hg => pu_move (.inl rfl) (ev_tmp rfl)) rfl rfl rfl rfl ?_
    refine d_takeG 12 rfl (by kernel_rfl) (gd_bool rfl rfl rfl rfl rfl) rfl (fun hg => pu_indexD hT rfl rfl rfl (ev_opt rfl hg) (ev_opt rfl hg) (fun _ => rfl) (by first | omega | (simp only [Bool.and_eq_true, Bool.or_eq_true, Bool.or_eq_false_iff, Bool.and_eq_false_iff, Bool.not_eq_true', Bool.not_eq_false', beq_iff_eq, decide_eq_true_eq, decide_eq_false_iff_not] at hg; omega) | (have hh := of_decide_eq_true (beq_tt hg); omega) | (have hh := of_decide_eq_true (beq_tt (and_r hg)); omega)) (by first | omega | (simp only [Bool.and_eq_true, Bool.or_eq_true, Bool.or_eq_false_iff, Bool.and_eq_false_iff, Bool.not_eq_true', Bool.not_eq_false', beq_iff_eq, decide_eq_true_eq, decide_eq_false_iff_not] at hg; omega) | (have hh := of_decide_eq_true (beq_tt hg); omega) | (have hh := of_decide_eq_true (beq_tt (and_r hg)); omega))) rfl rfl rfl rfl ?_
    refine d_takeG 13 rfl (by kernel_rfl) (gd_bool rfl rfl rfl rfl rfl) rfl (fun hg => pu_fieldRef hT rfl rfl rfl (ev_opt rfl hg)) rfl rfl rfl rfl ?_
    refine d_takeG 14 rfl (by kernel_rfl) (gd_bool rfl rfl rfl rfl rfl) rfl (fun hg => pu_loadRef1 hT rfl rfl (ev_opt rfl hg) rfl) rfl rfl rfl rfl ?_
    refine d_callG 15 rfl (by kernel_rfl) (gd_bool rfl rfl rfl rfl rfl) rfl rfl Try.call75 ok_spec_l1In (fun hg => (as_cons (ev_opt rfl hg) (ag_one ac_dv) (as_cons (ev_int (inR_lit rfl)) (ag_one ac_dv) (as_cons (ev_int (inR_lit rfl)) (ag_one ac_dv) as_nil)))) rfl rfl ?_
    refine d_takeG 16 rfl (by kernel_rfl) (gd_bool rfl rfl rfl rfl rfl) rfl (fun hg => pu_not rfl (ev_opt rfl hg)) rfl rfl rfl rfl ?_
    refine d_take 17 rfl (by kernel_rfl) rfl rfl (pu_or rfl (ev_tmp rfl) (fun hb => (ev_opt rfl (beq_f hb)))) rfl rfl rfl rfl ?_
    refine d_take 18 rfl (by kernel_rfl) rfl rfl (pu_move (.inl rfl) (ev_tmp rfl)) rfl rfl rfl rfl ?_
    refine d_takeG 19 rfl (by kernel_rfl) (gd_bool rfl rfl rfl rfl rfl) rfl (fun hg => pu_move (.inl rfl) (ev_tmp rfl)) rfl rfl rfl rfl ?_
    refine d_takeG 20 rfl (by kernel_rfl) (gd_bool rfl rfl rfl rfl rfl) rfl (fun hg => pu_gtr rfl (ev_opt rfl hg) (ev_int (inR_lit rfl))) rfl rfl rfl rfl ?_
    refine d_takeG 21 rfl (by kernel_rfl) (gd_bool rfl rfl rfl rfl rfl) rfl (fun hg => pu_move (.inl rfl) (ev_opt rfl hg)) rfl rfl rfl rfl ?_
    refine d_takeG 22 rfl (by kernel_rfl) (gd_opt rfl rfl rfl rfl rfl) rfl (fun hg => pu_fieldBox hT rfl rfl rfl (ev_tmp rfl)) rfl rfl rfl rfl ?_
    refine d_takeG 23 rfl (by kernel_rfl) (gd_opt rfl rfl rfl rfl rfl) rfl (fun hg => pu_loadBox1 hT rfl rfl (ev_opt rfl hg) rfl rfl) rfl rfl rfl rfl ?_
    refine d_takeG 24 rfl (by kernel_rfl) (gd_opt rfl rfl rfl rfl rfl) rfl (fun hg => pu_move (.inl rfl) (ev_tmp rfl)) rfl rfl rfl rfl ?_
    refine d_takeG 25 rfl (by kernel_rfl) (gd_opt rfl rfl rfl rfl rfl) rfl (fun hg => pu_subR rfl (ev_opt rfl hg) (ev_int (inR_lit rfl)) (inR64 (by omega) (by omega))) rfl rfl rfl rfl ?_
    refine d_takeG 26 rfl (by kernel_rfl) (gd_opt rfl rfl rfl rfl rfl) rfl (fun hg => pu_indexD hT rfl rfl rfl (ev_opt rfl hg) (ev_opt rfl hg) (fun _ => rfl) (by first | omega | (simp only [Bool.and_eq_true, Bool.or_eq_true, Bool.or_eq_false_iff, Bool.and_eq_false_iff, Bool.not_eq_true', Bool.not_eq_false', beq_iff_eq, decide_eq_true_eq, decide_eq_false_iff_not] at hg; omega) | (have hh := of_decide_eq_true (beq_tt hg); omega) | (have hh := of_decide_eq_true (beq_tt (and_r hg)); omega)) (by first | omega | (simp only [Bool.and_eq_true, Bool.or_eq_true, Bool.or_eq_false_iff, Bool.and_eq_false_iff, Bool.not_eq_true', Bool.not_eq_false', beq_iff_eq, decide_eq_true_eq, decide_eq_false_iff_not] at hg; omega) | (have hh := of_decide_eq_true (beq_tt hg); omega) | (have hh := of_decide_eq_true (beq_tt (and_r hg)); omega))) rfl rfl rfl rfl ?_
    refine d_takeG 27 rfl (by kernel_rfl) (gd_opt rfl rfl rfl rfl rfl) rfl (fun hg => pu_fieldRef hT rfl rfl rfl (ev_opt rfl hg)) rfl rfl rfl rfl ?_
    refine d_takeG 28 rfl (by kernel_rfl) (gd_opt rfl rfl rfl rfl rfl) rfl (fun hg => pu_loadRef1 hT rfl rfl (ev_opt rfl hg) rfl) rfl rfl rfl rfl ?_
    refine d_takeG 29 rfl (by kernel_rfl) (gd_opt rfl rfl rfl rfl rfl) rfl (fun hg => pu_fieldBox hT rfl rfl rfl (ev_tmp rfl)) rfl rfl rfl rfl ?_
    refine d_takeG 30 rfl (by kernel_rfl) (gd_opt rfl rfl rfl rfl rfl) rfl (fun hg => pu_loadBox1 hT rfl rfl (ev_opt rfl hg) rfl rfl) rfl rfl rfl rfl ?_
    refine d_takeG 31 rfl (by kernel_rfl) (gd_opt rfl rfl rfl rfl rfl) rfl (fun hg => pu_move (.inl rfl) (ev_tmp rfl)) rfl rfl rfl rfl ?_
    refine d_takeG 32 rfl (by kernel_rfl) (gd_opt rfl rfl rfl rfl rfl) rfl (fun hg => pu_indexD hT rfl rfl rfl (ev_opt rfl hg) (ev_opt rfl hg) (fun _ => rfl) (by first | omega | (simp only [Bool.and_eq_true, Bool.or_eq_true, Bool.or_eq_false_iff, Bool.and_eq_false_iff, Bool.not_eq_true', Bool.not_eq_false', beq_iff_eq, decide_eq_true_eq, decide_eq_false_iff_not] at hg; omega) | (have hh := of_decide_eq_true (beq_tt hg); omega) | (have hh := of_decide_eq_true (beq_tt (and_r hg)); omega)) (by first | omega | (simp only [Bool.and_eq_true, Bool.or_eq_true, Bool.or_eq_false_iff, Bool.and_eq_false_iff, Bool.not_eq_true', Bool.not_eq_false', beq_iff_eq, decide_eq_true_eq, decide_eq_false_iff_not] at hg; omega) | (have hh := of_decide_eq_true (beq_tt hg); omega) | (have hh := of_decide_eq_true (beq_tt (and_r hg)); omega))) rfl rfl rfl rfl ?_
    refine d_takeG 33 rfl (by kernel_rfl) (gd_opt rfl rfl rfl rfl rfl) rfl (fun hg => pu_fieldRef hT rfl rfl rfl (ev_opt rfl hg)) rfl rfl rfl rfl ?_
    refine d_takeG 34 rfl (by kernel_rfl) (gd_opt rfl rfl rfl rfl rfl) rfl (fun hg => pu_loadRef1 hT rfl rfl (ev_opt rfl hg) rfl) rfl rfl rfl rfl ?_
    refine d_takeG 35 rfl (by kernel_rfl) (gd_opt rfl rfl rfl rfl rfl) rfl (fun hg => pu_sge rfl (ev_opt rfl hg) (ev_opt rfl hg)) rfl rfl rfl rfl ?_
    refine d_takeG 36 rfl (by kernel_rfl) (gd_bool rfl rfl rfl rfl rfl) rfl (fun hg => pu_and rfl (ev_opt rfl hg) (fun hb => (ev_opt rfl (and_mk hg (beq_t hb))))) rfl rfl rfl rfl ?_
    refine d_take 37 rfl (by kernel_rfl) rfl rfl (pu_or rfl (ev_tmp rfl) (fun hb => (ev_opt rfl (beq_f hb)))) rfl rfl rfl rfl ?_
    refine d_done (by kernel_rfl) ?_
    refine then_n ?_
    refine ok_cond (ev_tmp rfl) (fun c2 => ?_) (fun c2 => ?_)
    · skip
      refine ok_seq ?_
      refine ok_region ?_
      refine o_pure rfl rfl (pu_move (.inr rfl) ev_bool) rfl rfl ?_
      refine ops_nil ?_
      refine then_n ?_
      refine ok_ret ?_
      refine blk_r ?_
      refine then_r ?_
      refine then_r ?_
      refine blk_r ?_
      refine then_r ?_
      refine fin1 (res_tmp rfl) (eqB ?_)
      rw [isRec, rall_no (k := k) (by omega) (by have h : recBadS r k = true := c2; rw [recBadS_eq] at h; simpa using h)]; rfl
    · skip
      refine ok_skip ?_
      refine blk_n ?_
      refine then_n ?_
      refine ok_region ?_
      refine o_pure rfl rfl (pu_move (.inl rfl) (ev_tmp rfl)) rfl rfl ?_
      refine o_pure rfl rfl (pu_addR rfl (ev_tmp rfl) (ev_int (inR_lit rfl)) (inR64 (by omega) (by omega))) rfl rfl ?_
      refine o_pure rfl rfl (pu_move (.inr rfl) (ev_tmp rfl)) rfl rfl ?_
      refine ops_nil ?_
      refine then_n ?_
      refine ⟨k + 1, ?_, ?_, weak_sub ⟨rfl, rfl, trivial⟩ ⟨rfl, trivial⟩ trivial rfl⟩
      · exact ⟨by omega, rall_succ hall (by have h : recBadS r k = false := c2; rw [recBadS_eq] at h; simpa using h)⟩
      · omega
  · skip
    have d1 := of_decide_eq_false c1
    refine ok_exit ?_
    refine then_e ?_
    refine then_e ?_
    refine blk_e rfl ?_
    refine then_n ?_
    refine ok_seq ?_
    refine ok_region ?_
    refine o_pure rfl rfl (pu_fieldBox hT rfl rfl rfl (ev_tmp rfl)) rfl rfl ?_
    refine o_pure rfl rfl (pu_loadBox1 hT rfl rfl (ev_tmp rfl) rfl rfl) rfl rfl ?_
    refine o_pure rfl rfl (pu_lenV hT rfl rfl (ev_tmp rfl)) rfl rfl ?_
    refine o_pure rfl rfl (pu_leq rfl (ev_tmp rfl) (ev_int (inR_lit rfl))) rfl rfl ?_
    refine o_pure rfl rfl (pu_move (.inr rfl) (ev_tmp rfl)) rfl rfl ?_
    refine ops_nil ?_
    refine then_n ?_
    refine ok_ret ?_
    refine fin1 (res_tmp rfl) (eqB ?_)
    obtain rfl : k = r.length := by omega
    rw [isRec, hall]; rfl
end Go.Proofs.Ytbmgommbmhmbgaa
