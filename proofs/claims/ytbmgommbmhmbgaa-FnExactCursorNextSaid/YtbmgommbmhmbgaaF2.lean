/-
  Cursors: the next item; all of a walk; their laws.
-/
import Derived.Test.YtbmgommbmhmbgaaF1
import Derived.Test.YtbmgommbmhmbgaaE1
namespace Go.Proofs.Ytbmgommbmhmbgaa
open Go.RowKit
open Go.Proofs
set_option linter.unusedVariables false
set_option linter.unusedSimpArgs false

theorem wget {α : Type} [Inhabited α] {w : α → Nat} {xs : List α} {i : Nat} (h : i < xs.length) : w (xs.getD i default) ≤ wSum w xs := by
  have h1 := wSum_succ w xs i h
  rw [show (i : Int).toNat = i by omega] at h1
  omega
def walkN (s : StoreT) : Nat → CursorT → List ItemT
  | 0, _ => []
  | n + 1, x => if (curNext s x).2.2 then (curNext s x).2.1 :: walkN s n (curNext s x).1 else []
theorem walk_go {s : StoreT} {c y : CursorT} {o : List ItemT} {k : Nat} (hk : k < 16) (h : walkN s 16 y = o ++ walkN s (16 - k) c) (hc : (curNext s c).2.2 = true) : walkN s 16 y = (o ++ [(curNext s c).2.1]) ++ walkN s (16 - (k + 1)) (curNext s c).1 := by
  rw [h, show 16 - k = (16 - (k + 1)) + 1 by omega, walkN, if_pos hc]; simp
theorem walk_stop {s : StoreT} {c y : CursorT} {o : List ItemT} {k : Nat} (hk : k < 16) (h : walkN s 16 y = o ++ walkN s (16 - k) c) (hc : (curNext s c).2.2 = false) : o = walkN s 16 y := by
  rw [h, show 16 - k = (16 - (k + 1)) + 1 by omega, walkN, if_neg (by rw [hc]; simp), List.append_nil]
theorem walk_end {s : StoreT} {c y : CursorT} {o : List ItemT} {k : Nat} (hk : ¬ k < 16) (h : walkN s 16 y = o ++ walkN s (16 - k) c) : o = walkN s 16 y := by
  rw [h, show 16 - k = 0 by omega, walkN, List.append_nil]
theorem curNext_in {s : StoreT} {x : CursorT} (h : (curNext s x).2.2 = true) : (curNext s x).2.1 ∈ s.2.1 := by
  unfold curNext at h ⊢
  split at h
  · cases h
  · rename_i h1
    rw [if_neg h1]
    have h2 := curAt_le x s.2.1 s.2.1.length
    have h3 : (curAt x s.2.1 s.2.1.length).toNat < s.2.1.length := by omega
    simp only [List.getD, List.getElem?_eq_getElem h3, Option.getD_some]
    exact List.getElem_mem h3
theorem walkN_len (s : StoreT) : ∀ (n : Nat) (x : CursorT), (walkN s n x).length ≤ n
  | 0, _ => Nat.le_refl _
  | n + 1, x => by
    rw [walkN]; split
    · have := walkN_len s n (curNext s x).1; simp; omega
    · simp
theorem mem_w {α : Type} {w : α → Nat} {x : α} : ∀ {xs : List α}, x ∈ xs → w x ≤ wSum w xs
  | y :: ys, h => by
    have e : wSum w (y :: ys) = w y + wSum w ys := by simp [wSum]
    rcases List.mem_cons.1 h with rfl | h
    · omega
    · have := mem_w (w := w) h; omega
theorem walkN_w (s : StoreT) : ∀ (n : Nat) (x : CursorT), wSum wItem (walkN s n x) ≤ n * wSum wItem s.2.1
  | 0, _ => by simp [walkN, wSum]
  | n + 1, x => by
    rw [walkN]; split
    · rename_i h
      have h1 := walkN_w s n (curNext s x).1
      have h2 := mem_w (w := wItem) (curNext_in h)
      have e : wSum wItem ((curNext s x).2.1 :: walkN s n (curNext s x).1) = wItem (curNext s x).2.1 + wSum wItem (walkN s n (curNext s x).1) := by simp [wSum]
      rw [e, Nat.add_mul]; omega
    · simp [wSum]
theorem curNext_w (s : StoreT) (x : CursorT) : wItem (curNext s x).2.1 ≤ wSum wItem s.2.1 := by
  by_cases h : (curNext s x).2.2 = true
  · exact mem_w (curNext_in h)
  · unfold curNext at h ⊢
    split
    · simp [wItem, wKey, wRecord, wList, wSum]
    · rename_i h1; rw [if_neg h1] at h; exact absurd rfl h
def wKeyRange (x : RangeT) : Nat := wKey (x.2.2.1) + wKey (x.2.2.2)
def wCursor (x : CursorT) : Nat := wKeyRange (x.1) + wKey (x.2.2.2)
set_option maxRecDepth 100000 in
theorem ok_laws_szKeyRange {x : RangeT} {left : Int} (h0 : 0 ≤ left) (h1 : left ≤ 1048576) : PFn Try.prog 57 [.agg [(.dv [] (.bool (x.1))), (.dv [] (.bool (x.2.1))), (.dv [] (.int .i64 (x.2.2.1.1))), (.dv [] (.int .i64 (x.2.2.1.2.1))), (.dv [] (.str (x.2.2.1.2.2))), (.dv [] (.int .i64 (x.2.2.2.1))), (.dv [] (.int .i64 (x.2.2.2.2.1))), (.dv [] (.str (x.2.2.2.2.2)))], .one (.dv [] (.int .i64 (left)))] (.one (.dv [] (.int .i64 (szR (left) (wKeyRange x))))) := by
  refine ⟨fn_intro Try.func57 rfl Try.ntmps57 Try.results57 rfl (fun C => ?_)⟩
  refine ok_factA (x := .tmp 0) 2 (ev_tmp rfl) rfl (fun (f0_2 : -9223372036854775808 ≤ (x.2.2.1.1) ∧ (x.2.2.1.1) ≤ 9223372036854775807) => ?_)
  refine ok_factA (x := .tmp 0) 3 (ev_tmp rfl) rfl (fun (f0_3 : -9223372036854775808 ≤ (x.2.2.1.2.1) ∧ (x.2.2.1.2.1) ≤ 9223372036854775807) => ?_)
  refine ok_factA (x := .tmp 0) 4 (ev_tmp rfl) rfl (fun (f0_4 : (x.2.2.1.2.2).size ≤ 9223372036854775807) => ?_)
  refine ok_factA (x := .tmp 0) 5 (ev_tmp rfl) rfl (fun (f0_5 : -9223372036854775808 ≤ (x.2.2.2.1) ∧ (x.2.2.2.1) ≤ 9223372036854775807) => ?_)
  refine ok_factA (x := .tmp 0) 6 (ev_tmp rfl) rfl (fun (f0_6 : -9223372036854775808 ≤ (x.2.2.2.2.1) ∧ (x.2.2.2.2.1) ≤ 9223372036854775807) => ?_)
  refine ok_factA (x := .tmp 0) 7 (ev_tmp rfl) rfl (fun (f0_7 : (x.2.2.2.2.2).size ≤ 9223372036854775807) => ?_)
  refine ok_fact (x := .tmp 1) (ev_tmp rfl) (fun (f1 : -9223372036854775808 ≤ (left) ∧ (left) ≤ 9223372036854775807) => ?_)
  refine ok_seq ?_
  refine ok_region ?_
  refine o_box rfl rfl rfl (ev_tmp rfl) rfl rfl rfl rfl ?_
  refine o_pure rfl rfl (pu_move (.inr rfl) (ev_int (inR_lit rfl))) rfl rfl ?_
  refine ops_nil ?_
  refine then_n ?_
  refine ok_seq ?_
  refine ok_region ?_
  refine o_pure rfl rfl (pu_fieldBox hT rfl rfl rfl (ev_tmp rfl)) rfl rfl ?_
  refine o_pure rfl rfl (pu_loadBoxA hT rfl rfl (ev_tmp rfl) rfl rfl) rfl rfl ?_
  refine o_pure rfl rfl (pu_move (.inl rfl) (ev_tmp rfl)) rfl rfl ?_
  refine o_call rfl rfl rfl Try.call35 (ok_laws_szKey (by omega) (by omega)) (as_cons (ev_tmp rfl) (ag_agg (ag_cons ac_dv (ag_cons ac_dv (ag_cons ac_dv ag_nil)))) (as_cons (ev_tmp rfl) (ag_one ac_dv) as_nil)) rfl rfl ?_
  refine o_pure rfl rfl (pu_move (.inr rfl) (ev_tmp rfl)) rfl rfl ?_
  refine ops_nil ?_
  refine then_n ?_
  refine ok_seq ?_
  refine ok_seq ?_
  refine ok_region ?_
  refine o_pure rfl rfl (pu_move (.inl rfl) (ev_tmp rfl)) rfl rfl ?_
  refine o_pure rfl rfl (pu_lss rfl (ev_tmp rfl) (ev_int (inR_lit rfl))) rfl rfl ?_
  refine ops_nil ?_
  refine then_n ?_
  refine ok_cond (ev_tmp rfl) (fun c1 => ?_) (fun c1 => ?_)
  · skip
    have d1 := of_decide_eq_true c1
    first | have q1 := szR_n d1 | skip
    refine ok_seq ?_
    refine ok_region ?_
    refine o_pure rfl rfl (pu_move (.inr rfl) (ev_int (inR_lit rfl))) rfl rfl ?_
    refine ops_nil ?_
    refine then_n ?_
    refine ok_ret ?_
    refine then_r ?_
    refine fin1 (res_tmp rfl) (eqI ?_)
    have hh := szR_cases left (wKeyRange x); simp only [wKeyRange] at hh ⊢ <;> omega
  · skip
    have d1 := of_decide_eq_false c1
    first | have q1 := szR_nn d1 | skip
    refine ok_skip ?_
    refine then_n ?_
    refine ok_seq ?_
    refine ok_region ?_
    refine o_pure rfl rfl (pu_fieldBox hT rfl rfl rfl (ev_tmp rfl)) rfl rfl ?_
    refine o_pure rfl rfl (pu_loadBoxA hT rfl rfl (ev_tmp rfl) rfl rfl) rfl rfl ?_
    refine o_pure rfl rfl (pu_move (.inl rfl) (ev_tmp rfl)) rfl rfl ?_
    refine o_call rfl rfl rfl Try.call35 (ok_laws_szKey (by omega) (by omega)) (as_cons (ev_tmp rfl) (ag_agg (ag_cons ac_dv (ag_cons ac_dv (ag_cons ac_dv ag_nil)))) (as_cons (ev_tmp rfl) (ag_one ac_dv) as_nil)) rfl rfl ?_
    refine o_pure rfl rfl (pu_move (.inr rfl) (ev_tmp rfl)) rfl rfl ?_
    refine ops_nil ?_
    refine then_n ?_
    refine ok_seq ?_
    refine ok_seq ?_
    refine ok_region ?_
    refine o_pure rfl rfl (pu_move (.inl rfl) (ev_tmp rfl)) rfl rfl ?_
    refine o_pure rfl rfl (pu_lss rfl (ev_tmp rfl) (ev_int (inR_lit rfl))) rfl rfl ?_
    refine ops_nil ?_
    refine then_n ?_
    refine ok_cond (ev_tmp rfl) (fun c2 => ?_) (fun c2 => ?_)
    · skip
      have d2 := of_decide_eq_true c2
      first | have q2 := szR_n d2 | skip
      refine ok_seq ?_
      refine ok_region ?_
      refine o_pure rfl rfl (pu_move (.inr rfl) (ev_int (inR_lit rfl))) rfl rfl ?_
      refine ops_nil ?_
      refine then_n ?_
      refine ok_ret ?_
      refine then_r ?_
      refine fin1 (res_tmp rfl) (eqI ?_)
      have hh := szR_cases left (wKeyRange x); simp only [wKeyRange] at hh ⊢ <;> omega
    · skip
      have d2 := of_decide_eq_false c2
      first | have q2 := szR_nn d2 | skip
      refine ok_skip ?_
      refine then_n ?_
      refine ok_seq ?_
      refine ok_region ?_
      refine o_pure rfl rfl (pu_move (.inl rfl) (ev_tmp rfl)) rfl rfl ?_
      refine o_pure rfl rfl (pu_move (.inr rfl) (ev_tmp rfl)) rfl rfl ?_
      refine ops_nil ?_
      refine then_n ?_
      refine ok_ret ?_
      refine fin1 (res_tmp rfl) (eqI ?_)
      have hh := szR_cases left (wKeyRange x); simp only [wKeyRange] at hh ⊢ <;> omega
set_option maxRecDepth 100000 in
theorem ok_laws_szCursor {x : CursorT} {left : Int} (h0 : 0 ≤ left) (h1 : left ≤ 1048576) : PFn Try.prog 20 [.agg [(.dv [] (.bool (x.1.1))), (.dv [] (.bool (x.1.2.1))), (.dv [] (.int .i64 (x.1.2.2.1.1))), (.dv [] (.int .i64 (x.1.2.2.1.2.1))), (.dv [] (.str (x.1.2.2.1.2.2))), (.dv [] (.int .i64 (x.1.2.2.2.1))), (.dv [] (.int .i64 (x.1.2.2.2.2.1))), (.dv [] (.str (x.1.2.2.2.2.2))), (.dv [] (.bool (x.2.1))), (.dv [] (.bool (x.2.2.1))), (.dv [] (.int .i64 (x.2.2.2.1))), (.dv [] (.int .i64 (x.2.2.2.2.1))), (.dv [] (.str (x.2.2.2.2.2)))], .one (.dv [] (.int .i64 (left)))] (.one (.dv [] (.int .i64 (szR (left) (wCursor x))))) := by
  refine ⟨fn_intro Try.func20 rfl Try.ntmps20 Try.results20 rfl (fun C => ?_)⟩
  refine ok_factA (x := .tmp 0) 2 (ev_tmp rfl) rfl (fun (f0_2 : -9223372036854775808 ≤ (x.1.2.2.1.1) ∧ (x.1.2.2.1.1) ≤ 9223372036854775807) => ?_)
  refine ok_factA (x := .tmp 0) 3 (ev_tmp rfl) rfl (fun (f0_3 : -9223372036854775808 ≤ (x.1.2.2.1.2.1) ∧ (x.1.2.2.1.2.1) ≤ 9223372036854775807) => ?_)
  refine ok_factA (x := .tmp 0) 4 (ev_tmp rfl) rfl (fun (f0_4 : (x.1.2.2.1.2.2).size ≤ 9223372036854775807) => ?_)
  refine ok_factA (x := .tmp 0) 5 (ev_tmp rfl) rfl (fun (f0_5 : -9223372036854775808 ≤ (x.1.2.2.2.1) ∧ (x.1.2.2.2.1) ≤ 9223372036854775807) => ?_)
  refine ok_factA (x := .tmp 0) 6 (ev_tmp rfl) rfl (fun (f0_6 : -9223372036854775808 ≤ (x.1.2.2.2.2.1) ∧ (x.1.2.2.2.2.1) ≤ 9223372036854775807) => ?_)
  refine ok_factA (x := .tmp 0) 7 (ev_tmp rfl) rfl (fun (f0_7 : (x.1.2.2.2.2.2).size ≤ 9223372036854775807) => ?_)
  refine ok_factA (x := .tmp 0) 10 (ev_tmp rfl) rfl (fun (f0_10 : -9223372036854775808 ≤ (x.2.2.2.1) ∧ (x.2.2.2.1) ≤ 9223372036854775807) => ?_)
  refine ok_factA (x := .tmp 0) 11 (ev_tmp rfl) rfl (fun (f0_11 : -9223372036854775808 ≤ (x.2.2.2.2.1) ∧ (x.2.2.2.2.1) ≤ 9223372036854775807) => ?_)
  refine ok_factA (x := .tmp 0) 12 (ev_tmp rfl) rfl (fun (f0_12 : (x.2.2.2.2.2).size ≤ 9223372036854775807) => ?_)
  refine ok_fact (x := .tmp 1) (ev_tmp rfl) (fun (f1 : -9223372036854775808 ≤ (left) ∧ (left) ≤ 9223372036854775807) => ?_)
  refine ok_seq ?_
  refine ok_region ?_
  refine o_box rfl rfl rfl (ev_tmp rfl) rfl rfl rfl rfl ?_
  refine o_pure rfl rfl (pu_move (.inr rfl) (ev_int (inR_lit rfl))) rfl rfl ?_
  refine ops_nil ?_
  refine then_n ?_
  refine ok_seq ?_
  refine ok_region ?_
  refine o_pure rfl rfl (pu_fieldBox hT rfl rfl rfl (ev_tmp rfl)) rfl rfl ?_
  refine o_pure rfl rfl (pu_loadBoxA hT rfl rfl (ev_tmp rfl) rfl rfl) rfl rfl ?_
  refine o_pure rfl rfl (pu_move (.inl rfl) (ev_tmp rfl)) rfl rfl ?_
  refine o_call rfl rfl rfl Try.call57 (ok_laws_szKeyRange (by omega) (by omega)) (as_cons (ev_tmp rfl) (ag_agg (ag_cons ac_dv (ag_cons ac_dv (ag_cons ac_dv (ag_cons ac_dv (ag_cons ac_dv (ag_cons ac_dv (ag_cons ac_dv (ag_cons ac_dv ag_nil))))))))) (as_cons (ev_tmp rfl) (ag_one ac_dv) as_nil)) rfl rfl ?_
  refine o_pure rfl rfl (pu_move (.inr rfl) (ev_tmp rfl)) rfl rfl ?_
  refine ops_nil ?_
  refine then_n ?_
  refine ok_seq ?_
  refine ok_seq ?_
  refine ok_region ?_
  refine o_pure rfl rfl (pu_move (.inl rfl) (ev_tmp rfl)) rfl rfl ?_
  refine o_pure rfl rfl (pu_lss rfl (ev_tmp rfl) (ev_int (inR_lit rfl))) rfl rfl ?_
  refine ops_nil ?_
  refine then_n ?_
  refine ok_cond (ev_tmp rfl) (fun c1 => ?_) (fun c1 => ?_)
  · skip
    have d1 := of_decide_eq_true c1
    first | have q1 := szR_n d1 | skip
    refine ok_seq ?_
    refine ok_region ?_
    refine o_pure rfl rfl (pu_move (.inr rfl) (ev_int (inR_lit rfl))) rfl rfl ?_
    refine ops_nil ?_
    refine then_n ?_
    refine ok_ret ?_
    refine then_r ?_
    refine fin1 (res_tmp rfl) (eqI ?_)
    have hh := szR_cases left (wCursor x); simp only [wCursor] at hh ⊢ <;> omega
  · skip
    have d1 := of_decide_eq_false c1
    first | have q1 := szR_nn d1 | skip
    refine ok_skip ?_
    refine then_n ?_
    refine ok_seq ?_
    refine ok_region ?_
    refine o_pure rfl rfl (pu_fieldBox hT rfl rfl rfl (ev_tmp rfl)) rfl rfl ?_
    refine o_pure rfl rfl (pu_loadBoxA hT rfl rfl (ev_tmp rfl) rfl rfl) rfl rfl ?_
    refine o_pure rfl rfl (pu_move (.inl rfl) (ev_tmp rfl)) rfl rfl ?_
    refine o_call rfl rfl rfl Try.call35 (ok_laws_szKey (by omega) (by omega)) (as_cons (ev_tmp rfl) (ag_agg (ag_cons ac_dv (ag_cons ac_dv (ag_cons ac_dv ag_nil)))) (as_cons (ev_tmp rfl) (ag_one ac_dv) as_nil)) rfl rfl ?_
    refine o_pure rfl rfl (pu_move (.inr rfl) (ev_tmp rfl)) rfl rfl ?_
    refine ops_nil ?_
    refine then_n ?_
    refine ok_seq ?_
    refine ok_seq ?_
    refine ok_region ?_
    refine o_pure rfl rfl (pu_move (.inl rfl) (ev_tmp rfl)) rfl rfl ?_
    refine o_pure rfl rfl (pu_lss rfl (ev_tmp rfl) (ev_int (inR_lit rfl))) rfl rfl ?_
    refine ops_nil ?_
    refine then_n ?_
    refine ok_cond (ev_tmp rfl) (fun c2 => ?_) (fun c2 => ?_)
    · skip
      have d2 := of_decide_eq_true c2
      first | have q2 := szR_n d2 | skip
      refine ok_seq ?_
      refine ok_region ?_
      refine o_pure rfl rfl (pu_move (.inr rfl) (ev_int (inR_lit rfl))) rfl rfl ?_
      refine ops_nil ?_
      refine then_n ?_
      refine ok_ret ?_
      refine then_r ?_
      refine fin1 (res_tmp rfl) (eqI ?_)
      have hh := szR_cases left (wCursor x); simp only [wCursor] at hh ⊢ <;> omega
    · skip
      have d2 := of_decide_eq_false c2
      first | have q2 := szR_nn d2 | skip
      refine ok_skip ?_
      refine then_n ?_
      refine ok_seq ?_
      refine ok_region ?_
      refine o_pure rfl rfl (pu_move (.inl rfl) (ev_tmp rfl)) rfl rfl ?_
      refine o_pure rfl rfl (pu_move (.inr rfl) (ev_tmp rfl)) rfl rfl ?_
      refine ops_nil ?_
      refine then_n ?_
      refine ok_ret ?_
      refine fin1 (res_tmp rfl) (eqI ?_)
      have hh := szR_cases left (wCursor x); simp only [wCursor] at hh ⊢ <;> omega
set_option maxRecDepth 100000 in
theorem ok_laws_toKeyRange {x : RangeT}  : PFn Try.prog 60 [.agg [(.dv [] (.bool (x.1))), (.dv [] (.bool (x.2.1))), (.dv [] (.int .i64 (x.2.2.1.1))), (.dv [] (.int .i64 (x.2.2.1.2.1))), (.dv [] (.str (x.2.2.1.2.2))), (.dv [] (.int .i64 (x.2.2.2.1))), (.dv [] (.int .i64 (x.2.2.2.2.1))), (.dv [] (.str (x.2.2.2.2.2)))]] (.agg [(.dv [] (.bool (x.1))), (.dv [] (.bool (x.2.1))), (.dv [] (.int .i64 (x.2.2.1.1))), (.dv [] (.int .i64 (x.2.2.1.2.1))), (.dv [] (.str (x.2.2.1.2.2))), (.dv [] (.int .i64 (x.2.2.2.1))), (.dv [] (.int .i64 (x.2.2.2.2.1))), (.dv [] (.str (x.2.2.2.2.2)))]) := by
  refine ⟨fn_intro Try.func60 rfl Try.ntmps60 Try.results60 rfl (fun C => ?_)⟩
  refine ok_factA (x := .tmp 0) 2 (ev_tmp rfl) rfl (fun (f0_2 : -9223372036854775808 ≤ (x.2.2.1.1) ∧ (x.2.2.1.1) ≤ 9223372036854775807) => ?_)
  refine ok_factA (x := .tmp 0) 3 (ev_tmp rfl) rfl (fun (f0_3 : -9223372036854775808 ≤ (x.2.2.1.2.1) ∧ (x.2.2.1.2.1) ≤ 9223372036854775807) => ?_)
  refine ok_factA (x := .tmp 0) 4 (ev_tmp rfl) rfl (fun (f0_4 : (x.2.2.1.2.2).size ≤ 9223372036854775807) => ?_)
  refine ok_factA (x := .tmp 0) 5 (ev_tmp rfl) rfl (fun (f0_5 : -9223372036854775808 ≤ (x.2.2.2.1) ∧ (x.2.2.2.1) ≤ 9223372036854775807) => ?_)
  refine ok_factA (x := .tmp 0) 6 (ev_tmp rfl) rfl (fun (f0_6 : -9223372036854775808 ≤ (x.2.2.2.2.1) ∧ (x.2.2.2.2.1) ≤ 9223372036854775807) => ?_)
  refine ok_factA (x := .tmp 0) 7 (ev_tmp rfl) rfl (fun (f0_7 : (x.2.2.2.2.2).size ≤ 9223372036854775807) => ?_)
  refine ok_seq ?_
  refine ok_region ?_
  refine o_box rfl rfl rfl (ev_tmp rfl) rfl rfl rfl rfl ?_
  refine o_alloc hT rfl rfl rfl rfl rfl rfl ?_
  refine ops_nil ?_
  refine then_n ?_
  refine ok_seq ?_
  refine ok_region ?_
  refine o_alloc hT rfl rfl rfl rfl rfl rfl ?_
  refine ops_nil ?_
  refine then_n ?_
  refine ok_seq ?_
  refine ok_region ?_
  refine o_pure rfl rfl (pu_fieldBox hT rfl rfl rfl (ev_tmp rfl)) rfl rfl ?_
  refine o_pure rfl rfl (pu_loadBox1 hT rfl rfl (ev_tmp rfl) rfl rfl) rfl rfl ?_
  refine o_pure rfl rfl (pu_fieldBox hT rfl rfl rfl (ev_tmp rfl)) rfl rfl ?_
  refine o_store hT rfl rfl rfl rfl (ev_tmp rfl) (ev_tmp rfl) rfl rfl rfl rfl rfl rfl ?_
  refine ops_nil ?_
  refine then_n ?_
  refine ok_seq ?_
  refine ok_region ?_
  refine o_pure rfl rfl (pu_fieldBox hT rfl rfl rfl (ev_tmp rfl)) rfl rfl ?_
  refine o_pure rfl rfl (pu_loadBox1 hT rfl rfl (ev_tmp rfl) rfl rfl) rfl rfl ?_
  refine o_pure rfl rfl (pu_fieldBox hT rfl rfl rfl (ev_tmp rfl)) rfl rfl ?_
  refine o_store hT rfl rfl rfl rfl (ev_tmp rfl) (ev_tmp rfl) rfl rfl rfl rfl rfl rfl ?_
  refine ops_nil ?_
  refine then_n ?_
  refine ok_seq ?_
  refine ok_region ?_
  refine o_pure rfl rfl (pu_fieldBox hT rfl rfl rfl (ev_tmp rfl)) rfl rfl ?_
  refine o_pure rfl rfl (pu_loadBoxA hT rfl rfl (ev_tmp rfl) rfl rfl) rfl rfl ?_
  refine o_call rfl rfl rfl Try.call38 ok_laws_toKey (as_cons (ev_tmp rfl) (ag_agg (ag_cons ac_dv (ag_cons ac_dv (ag_cons ac_dv ag_nil)))) as_nil) rfl rfl ?_
  refine o_pure rfl rfl (pu_fieldBox hT rfl rfl rfl (ev_tmp rfl)) rfl rfl ?_
  refine o_store hT rfl rfl rfl rfl (ev_tmp rfl) (ev_tmp rfl) rfl rfl rfl rfl rfl rfl ?_
  refine ops_nil ?_
  refine then_n ?_
  refine ok_seq ?_
  refine ok_region ?_
  refine o_pure rfl rfl (pu_fieldBox hT rfl rfl rfl (ev_tmp rfl)) rfl rfl ?_
  refine o_pure rfl rfl (pu_loadBoxA hT rfl rfl (ev_tmp rfl) rfl rfl) rfl rfl ?_
  refine o_call rfl rfl rfl Try.call38 ok_laws_toKey (as_cons (ev_tmp rfl) (ag_agg (ag_cons ac_dv (ag_cons ac_dv (ag_cons ac_dv ag_nil)))) as_nil) rfl rfl ?_
  refine o_pure rfl rfl (pu_fieldBox hT rfl rfl rfl (ev_tmp rfl)) rfl rfl ?_
  refine o_store hT rfl rfl rfl rfl (ev_tmp rfl) (ev_tmp rfl) rfl rfl rfl rfl rfl rfl ?_
  refine ops_nil ?_
  refine then_n ?_
  refine ok_seq ?_
  refine ok_region ?_
  refine o_pure rfl rfl (pu_loadBoxA hT rfl rfl (ev_tmp rfl) rfl rfl) rfl rfl ?_
  refine o_store hT rfl rfl rfl rfl (ev_tmp rfl) (ev_tmp rfl) rfl rfl rfl rfl rfl rfl ?_
  refine ops_nil ?_
  refine then_n ?_
  refine ok_ret ?_
  refine fin1 (res_cell hT rfl rfl rfl rfl) ?_
  rfl
set_option maxRecDepth 100000 in
theorem ok_laws_toCursor {x : CursorT} (hb : wCursor x ≤ 1048576) : KFn Try.prog 22 [.agg [(.dv [] (.bool (x.1.1))), (.dv [] (.bool (x.1.2.1))), (.dv [] (.int .i64 (x.1.2.2.1.1))), (.dv [] (.int .i64 (x.1.2.2.1.2.1))), (.dv [] (.str (x.1.2.2.1.2.2))), (.dv [] (.int .i64 (x.1.2.2.2.1))), (.dv [] (.int .i64 (x.1.2.2.2.2.1))), (.dv [] (.str (x.1.2.2.2.2.2))), (.dv [] (.bool (x.2.1))), (.dv [] (.bool (x.2.2.1))), (.dv [] (.int .i64 (x.2.2.2.1))), (.dv [] (.int .i64 (x.2.2.2.2.1))), (.dv [] (.str (x.2.2.2.2.2)))]] (.agg [(.dv [] (.bool (x.1.1))), (.dv [] (.bool (x.1.2.1))), (.dv [] (.int .i64 (x.1.2.2.1.1))), (.dv [] (.int .i64 (x.1.2.2.1.2.1))), (.dv [] (.str (x.1.2.2.1.2.2))), (.dv [] (.int .i64 (x.1.2.2.2.1))), (.dv [] (.int .i64 (x.1.2.2.2.2.1))), (.dv [] (.str (x.1.2.2.2.2.2))), (.dv [] (.bool (x.2.1))), (.dv [] (.bool (x.2.2.1))), (.dv [] (.int .i64 (x.2.2.2.1))), (.dv [] (.int .i64 (x.2.2.2.2.1))), (.dv [] (.str (x.2.2.2.2.2)))]) [] := by
  refine ⟨fn_intro Try.func22 rfl Try.ntmps22 Try.results22 rfl (fun C => ?_)⟩
  refine ok_factA (x := .tmp 0) 2 (ev_tmp rfl) rfl (fun (f0_2 : -9223372036854775808 ≤ (x.1.2.2.1.1) ∧ (x.1.2.2.1.1) ≤ 9223372036854775807) => ?_)
  refine ok_factA (x := .tmp 0) 3 (ev_tmp rfl) rfl (fun (f0_3 : -9223372036854775808 ≤ (x.1.2.2.1.2.1) ∧ (x.1.2.2.1.2.1) ≤ 9223372036854775807) => ?_)
  refine ok_factA (x := .tmp 0) 4 (ev_tmp rfl) rfl (fun (f0_4 : (x.1.2.2.1.2.2).size ≤ 9223372036854775807) => ?_)
  refine ok_factA (x := .tmp 0) 5 (ev_tmp rfl) rfl (fun (f0_5 : -9223372036854775808 ≤ (x.1.2.2.2.1) ∧ (x.1.2.2.2.1) ≤ 9223372036854775807) => ?_)
  refine ok_factA (x := .tmp 0) 6 (ev_tmp rfl) rfl (fun (f0_6 : -9223372036854775808 ≤ (x.1.2.2.2.2.1) ∧ (x.1.2.2.2.2.1) ≤ 9223372036854775807) => ?_)
  refine ok_factA (x := .tmp 0) 7 (ev_tmp rfl) rfl (fun (f0_7 : (x.1.2.2.2.2.2).size ≤ 9223372036854775807) => ?_)
  refine ok_factA (x := .tmp 0) 10 (ev_tmp rfl) rfl (fun (f0_10 : -9223372036854775808 ≤ (x.2.2.2.1) ∧ (x.2.2.2.1) ≤ 9223372036854775807) => ?_)
  refine ok_factA (x := .tmp 0) 11 (ev_tmp rfl) rfl (fun (f0_11 : -9223372036854775808 ≤ (x.2.2.2.2.1) ∧ (x.2.2.2.2.1) ≤ 9223372036854775807) => ?_)
  refine ok_factA (x := .tmp 0) 12 (ev_tmp rfl) rfl (fun (f0_12 : (x.2.2.2.2.2).size ≤ 9223372036854775807) => ?_)
  refine ok_seq ?_
  refine ok_region ?_
  refine o_box rfl rfl rfl (ev_tmp rfl) rfl rfl rfl rfl ?_
  refine o_alloc hT rfl rfl rfl rfl rfl rfl ?_
  refine ops_nil ?_
  refine then_n ?_
  refine ok_seq ?_
  refine ok_region ?_
  refine o_alloc hT rfl rfl rfl rfl rfl rfl ?_
  refine ops_nil ?_
  refine then_n ?_
  refine ok_seq ?_
  refine ok_region ?_
  refine o_pure rfl rfl (pu_fieldBox hT rfl rfl rfl (ev_tmp rfl)) rfl rfl ?_
  refine o_pure rfl rfl (pu_loadBoxA hT rfl rfl (ev_tmp rfl) rfl rfl) rfl rfl ?_
  refine o_call rfl rfl rfl Try.call60 ok_laws_toKeyRange (as_cons (ev_tmp rfl) (ag_agg (ag_cons ac_dv (ag_cons ac_dv (ag_cons ac_dv (ag_cons ac_dv (ag_cons ac_dv (ag_cons ac_dv (ag_cons ac_dv (ag_cons ac_dv ag_nil))))))))) as_nil) rfl rfl ?_
  refine o_pure rfl rfl (pu_fieldBox hT rfl rfl rfl (ev_tmp rfl)) rfl rfl ?_
  refine o_store hT rfl rfl rfl rfl (ev_tmp rfl) (ev_tmp rfl) rfl rfl rfl rfl rfl rfl ?_
  refine ops_nil ?_
  refine then_n ?_
  refine ok_seq ?_
  refine ok_region ?_
  refine o_pure rfl rfl (pu_fieldBox hT rfl rfl rfl (ev_tmp rfl)) rfl rfl ?_
  refine o_pure rfl rfl (pu_loadBox1 hT rfl rfl (ev_tmp rfl) rfl rfl) rfl rfl ?_
  refine o_pure rfl rfl (pu_fieldBox hT rfl rfl rfl (ev_tmp rfl)) rfl rfl ?_
  refine o_store hT rfl rfl rfl rfl (ev_tmp rfl) (ev_tmp rfl) rfl rfl rfl rfl rfl rfl ?_
  refine ops_nil ?_
  refine then_n ?_
  refine ok_seq ?_
  refine ok_region ?_
  refine o_pure rfl rfl (pu_fieldBox hT rfl rfl rfl (ev_tmp rfl)) rfl rfl ?_
  refine o_pure rfl rfl (pu_loadBox1 hT rfl rfl (ev_tmp rfl) rfl rfl) rfl rfl ?_
  refine o_pure rfl rfl (pu_fieldBox hT rfl rfl rfl (ev_tmp rfl)) rfl rfl ?_
  refine o_store hT rfl rfl rfl rfl (ev_tmp rfl) (ev_tmp rfl) rfl rfl rfl rfl rfl rfl ?_
  refine ops_nil ?_
  refine then_n ?_
  refine ok_seq ?_
  refine ok_region ?_
  refine o_pure rfl rfl (pu_fieldBox hT rfl rfl rfl (ev_tmp rfl)) rfl rfl ?_
  refine o_pure rfl rfl (pu_loadBoxA hT rfl rfl (ev_tmp rfl) rfl rfl) rfl rfl ?_
  refine o_call rfl rfl rfl Try.call38 ok_laws_toKey (as_cons (ev_tmp rfl) (ag_agg (ag_cons ac_dv (ag_cons ac_dv (ag_cons ac_dv ag_nil)))) as_nil) rfl rfl ?_
  refine o_pure rfl rfl (pu_fieldBox hT rfl rfl rfl (ev_tmp rfl)) rfl rfl ?_
  refine o_store hT rfl rfl rfl rfl (ev_tmp rfl) (ev_tmp rfl) rfl rfl rfl rfl rfl rfl ?_
  refine ops_nil ?_
  refine then_n ?_
  refine ok_seq ?_
  refine ok_region ?_
  refine o_pure rfl rfl (pu_loadBoxA hT rfl rfl (ev_tmp rfl) rfl rfl) rfl rfl ?_
  refine o_store hT rfl rfl rfl rfl (ev_tmp rfl) (ev_tmp rfl) rfl rfl rfl rfl rfl rfl ?_
  refine ops_nil ?_
  refine then_n ?_
  refine ok_weak (σ' := ⟨[(2, .box 2 0)], [(2, 47, [(.dv [] (.bool (x.1.1))), (.dv [] (.bool (x.1.2.1))), (.dv [] (.int .i64 (x.1.2.2.1.1))), (.dv [] (.int .i64 (x.1.2.2.1.2.1))), (.dv [] (.str (x.1.2.2.1.2.2))), (.dv [] (.int .i64 (x.1.2.2.2.1))), (.dv [] (.int .i64 (x.1.2.2.2.2.1))), (.dv [] (.str (x.1.2.2.2.2.2))), (.dv [] (.bool (x.2.1))), (.dv [] (.bool (x.2.2.1))), (.dv [] (.int .i64 (x.2.2.2.1))), (.dv [] (.int .i64 (x.2.2.2.2.1))), (.dv [] (.str (x.2.2.2.2.2)))])], []⟩) (weak_sub ⟨rfl, trivial⟩ ⟨rfl, trivial⟩ trivial rfl) ?_
  refine ok_ret ?_
  refine fin1 (res_cell hT rfl rfl rfl rfl) ?_
  exact ⟨rfl, rfl⟩
set_option maxRecDepth 100000 in
theorem ok_laws_eqKeyRange {x : RangeT}  : PFn Try.prog 63 [.agg [(.dv [] (.bool (x.1))), (.dv [] (.bool (x.2.1))), (.dv [] (.int .i64 (x.2.2.1.1))), (.dv [] (.int .i64 (x.2.2.1.2.1))), (.dv [] (.str (x.2.2.1.2.2))), (.dv [] (.int .i64 (x.2.2.2.1))), (.dv [] (.int .i64 (x.2.2.2.2.1))), (.dv [] (.str (x.2.2.2.2.2)))], .agg [(.dv [] (.bool (x.1))), (.dv [] (.bool (x.2.1))), (.dv [] (.int .i64 (x.2.2.1.1))), (.dv [] (.int .i64 (x.2.2.1.2.1))), (.dv [] (.str (x.2.2.1.2.2))), (.dv [] (.int .i64 (x.2.2.2.1))), (.dv [] (.int .i64 (x.2.2.2.2.1))), (.dv [] (.str (x.2.2.2.2.2)))]] (.one (.dv [] (.bool (true)))) := by
  refine ⟨fn_intro Try.func63 rfl Try.ntmps63 Try.results63 rfl (fun C => ?_)⟩
  refine ok_factA (x := .tmp 0) 2 (ev_tmp rfl) rfl (fun (f0_2 : -9223372036854775808 ≤ (x.2.2.1.1) ∧ (x.2.2.1.1) ≤ 9223372036854775807) => ?_)
  refine ok_factA (x := .tmp 0) 3 (ev_tmp rfl) rfl (fun (f0_3 : -9223372036854775808 ≤ (x.2.2.1.2.1) ∧ (x.2.2.1.2.1) ≤ 9223372036854775807) => ?_)
  refine ok_factA (x := .tmp 0) 4 (ev_tmp rfl) rfl (fun (f0_4 : (x.2.2.1.2.2).size ≤ 9223372036854775807) => ?_)
  refine ok_factA (x := .tmp 0) 5 (ev_tmp rfl) rfl (fun (f0_5 : -9223372036854775808 ≤ (x.2.2.2.1) ∧ (x.2.2.2.1) ≤ 9223372036854775807) => ?_)
  refine ok_factA (x := .tmp 0) 6 (ev_tmp rfl) rfl (fun (f0_6 : -9223372036854775808 ≤ (x.2.2.2.2.1) ∧ (x.2.2.2.2.1) ≤ 9223372036854775807) => ?_)
  refine ok_factA (x := .tmp 0) 7 (ev_tmp rfl) rfl (fun (f0_7 : (x.2.2.2.2.2).size ≤ 9223372036854775807) => ?_)
  refine ok_factA (x := .tmp 1) 2 (ev_tmp rfl) rfl (fun (f1_2 : -9223372036854775808 ≤ (x.2.2.1.1) ∧ (x.2.2.1.1) ≤ 9223372036854775807) => ?_)
  refine ok_factA (x := .tmp 1) 3 (ev_tmp rfl) rfl (fun (f1_3 : -9223372036854775808 ≤ (x.2.2.1.2.1) ∧ (x.2.2.1.2.1) ≤ 9223372036854775807) => ?_)
  refine ok_factA (x := .tmp 1) 4 (ev_tmp rfl) rfl (fun (f1_4 : (x.2.2.1.2.2).size ≤ 9223372036854775807) => ?_)
  refine ok_factA (x := .tmp 1) 5 (ev_tmp rfl) rfl (fun (f1_5 : -9223372036854775808 ≤ (x.2.2.2.1) ∧ (x.2.2.2.1) ≤ 9223372036854775807) => ?_)
  refine ok_factA (x := .tmp 1) 6 (ev_tmp rfl) rfl (fun (f1_6 : -9223372036854775808 ≤ (x.2.2.2.2.1) ∧ (x.2.2.2.2.1) ≤ 9223372036854775807) => ?_)
  refine ok_factA (x := .tmp 1) 7 (ev_tmp rfl) rfl (fun (f1_7 : (x.2.2.2.2.2).size ≤ 9223372036854775807) => ?_)
  refine ok_seq ?_
  refine ok_region ?_
  refine o_box rfl rfl rfl (ev_tmp rfl) rfl rfl rfl rfl ?_
  refine o_box rfl rfl rfl (ev_tmp rfl) rfl rfl rfl rfl ?_
  refine o_pure rfl rfl (pu_move (.inr rfl) ev_bool) rfl rfl ?_
  refine ops_nil ?_
  refine then_n ?_
  refine ok_seq ?_
  refine ok_seq ?_
  refine ok_region ?_
  refine o_pure rfl rfl (pu_fieldBox hT rfl rfl rfl (ev_tmp rfl)) rfl rfl ?_
  refine o_pure rfl rfl (pu_loadBox1 hT rfl rfl (ev_tmp rfl) rfl rfl) rfl rfl ?_
  refine o_pure rfl rfl (pu_fieldBox hT rfl rfl rfl (ev_tmp rfl)) rfl rfl ?_
  refine o_pure rfl rfl (pu_loadBox1 hT rfl rfl (ev_tmp rfl) rfl rfl) rfl rfl ?_
  refine o_pure rfl rfl (pu_bneq hT rfl rfl (ev_tmp rfl) (ev_tmp rfl)) rfl rfl ?_
  refine ops_nil ?_
  refine then_n ?_
  refine ok_cond (ev_tmp rfl) (fun c1 => ?_) (fun c1 => ?_)
  · skip
    refine ok_seq ?_
    refine ok_region ?_
    refine o_pure rfl rfl (pu_move (.inr rfl) ev_bool) rfl rfl ?_
    refine ops_nil ?_
    refine then_n ?_
    refine ok_ret ?_
    refine then_r ?_
    refine fin1 (res_tmp rfl) (eqB ?_)
    first | rfl | (exfalso; simp_all [sEq])
  · skip
    refine ok_skip ?_
    refine then_n ?_
    refine ok_seq ?_
    refine ok_seq ?_
    refine ok_region ?_
    refine o_pure rfl rfl (pu_fieldBox hT rfl rfl rfl (ev_tmp rfl)) rfl rfl ?_
    refine o_pure rfl rfl (pu_loadBox1 hT rfl rfl (ev_tmp rfl) rfl rfl) rfl rfl ?_
    refine o_pure rfl rfl (pu_fieldBox hT rfl rfl rfl (ev_tmp rfl)) rfl rfl ?_
    refine o_pure rfl rfl (pu_loadBox1 hT rfl rfl (ev_tmp rfl) rfl rfl) rfl rfl ?_
    refine o_pure rfl rfl (pu_bneq hT rfl rfl (ev_tmp rfl) (ev_tmp rfl)) rfl rfl ?_
    refine ops_nil ?_
    refine then_n ?_
    refine ok_cond (ev_tmp rfl) (fun c2 => ?_) (fun c2 => ?_)
    · skip
      refine ok_seq ?_
      refine ok_region ?_
      refine o_pure rfl rfl (pu_move (.inr rfl) ev_bool) rfl rfl ?_
      refine ops_nil ?_
      refine then_n ?_
      refine ok_ret ?_
      refine then_r ?_
      refine fin1 (res_tmp rfl) (eqB ?_)
      first | rfl | (exfalso; simp_all [sEq])
    · skip
      refine ok_skip ?_
      refine then_n ?_
      refine ok_seq ?_
      refine ok_seq ?_
      refine ok_region ?_
      refine o_pure rfl rfl (pu_fieldBox hT rfl rfl rfl (ev_tmp rfl)) rfl rfl ?_
      refine o_pure rfl rfl (pu_loadBoxA hT rfl rfl (ev_tmp rfl) rfl rfl) rfl rfl ?_
      refine o_pure rfl rfl (pu_fieldBox hT rfl rfl rfl (ev_tmp rfl)) rfl rfl ?_
      refine o_pure rfl rfl (pu_loadBoxA hT rfl rfl (ev_tmp rfl) rfl rfl) rfl rfl ?_
      refine o_call rfl rfl rfl Try.call34 ok_laws_eqKey (as_cons (ev_tmp rfl) (ag_agg (ag_cons ac_dv (ag_cons ac_dv (ag_cons ac_dv ag_nil)))) (as_cons (ev_tmp rfl) (ag_agg (ag_cons ac_dv (ag_cons ac_dv (ag_cons ac_dv ag_nil)))) as_nil)) rfl rfl ?_
      refine o_pure rfl rfl (pu_not rfl (ev_tmp rfl)) rfl rfl ?_
      refine ops_nil ?_
      refine then_n ?_
      refine ok_cond (ev_tmp rfl) (fun c3 => ?_) (fun c3 => ?_)
      · skip
        refine ok_seq ?_
        refine ok_region ?_
        refine o_pure rfl rfl (pu_move (.inr rfl) ev_bool) rfl rfl ?_
        refine ops_nil ?_
        refine then_n ?_
        refine ok_ret ?_
        refine then_r ?_
        refine fin1 (res_tmp rfl) (eqB ?_)
        first | rfl | (exfalso; simp_all [sEq])
      · skip
        refine ok_skip ?_
        refine then_n ?_
        refine ok_seq ?_
        refine ok_seq ?_
        refine ok_region ?_
        refine o_pure rfl rfl (pu_fieldBox hT rfl rfl rfl (ev_tmp rfl)) rfl rfl ?_
        refine o_pure rfl rfl (pu_loadBoxA hT rfl rfl (ev_tmp rfl) rfl rfl) rfl rfl ?_
        refine o_pure rfl rfl (pu_fieldBox hT rfl rfl rfl (ev_tmp rfl)) rfl rfl ?_
        refine o_pure rfl rfl (pu_loadBoxA hT rfl rfl (ev_tmp rfl) rfl rfl) rfl rfl ?_
        refine o_call rfl rfl rfl Try.call34 ok_laws_eqKey (as_cons (ev_tmp rfl) (ag_agg (ag_cons ac_dv (ag_cons ac_dv (ag_cons ac_dv ag_nil)))) (as_cons (ev_tmp rfl) (ag_agg (ag_cons ac_dv (ag_cons ac_dv (ag_cons ac_dv ag_nil)))) as_nil)) rfl rfl ?_
        refine o_pure rfl rfl (pu_not rfl (ev_tmp rfl)) rfl rfl ?_
        refine ops_nil ?_
        refine then_n ?_
        refine ok_cond (ev_tmp rfl) (fun c4 => ?_) (fun c4 => ?_)
        · skip
          refine ok_seq ?_
          refine ok_region ?_
          refine o_pure rfl rfl (pu_move (.inr rfl) ev_bool) rfl rfl ?_
          refine ops_nil ?_
          refine then_n ?_
          refine ok_ret ?_
          refine then_r ?_
          refine fin1 (res_tmp rfl) (eqB ?_)
          first | rfl | (exfalso; simp_all [sEq])
        · skip
          refine ok_skip ?_
          refine then_n ?_
          refine ok_seq ?_
          refine ok_region ?_
          refine o_pure rfl rfl (pu_move (.inr rfl) ev_bool) rfl rfl ?_
          refine ops_nil ?_
          refine then_n ?_
          refine ok_ret ?_
          refine fin1 (res_tmp rfl) (eqB ?_)
          first | rfl | (exfalso; simp_all [sEq])
set_option maxRecDepth 100000 in
theorem ok_laws_eqCursor {x : CursorT}  : PFn Try.prog 24 [.agg [(.dv [] (.bool (x.1.1))), (.dv [] (.bool (x.1.2.1))), (.dv [] (.int .i64 (x.1.2.2.1.1))), (.dv [] (.int .i64 (x.1.2.2.1.2.1))), (.dv [] (.str (x.1.2.2.1.2.2))), (.dv [] (.int .i64 (x.1.2.2.2.1))), (.dv [] (.int .i64 (x.1.2.2.2.2.1))), (.dv [] (.str (x.1.2.2.2.2.2))), (.dv [] (.bool (x.2.1))), (.dv [] (.bool (x.2.2.1))), (.dv [] (.int .i64 (x.2.2.2.1))), (.dv [] (.int .i64 (x.2.2.2.2.1))), (.dv [] (.str (x.2.2.2.2.2)))], .agg [(.dv [] (.bool (x.1.1))), (.dv [] (.bool (x.1.2.1))), (.dv [] (.int .i64 (x.1.2.2.1.1))), (.dv [] (.int .i64 (x.1.2.2.1.2.1))), (.dv [] (.str (x.1.2.2.1.2.2))), (.dv [] (.int .i64 (x.1.2.2.2.1))), (.dv [] (.int .i64 (x.1.2.2.2.2.1))), (.dv [] (.str (x.1.2.2.2.2.2))), (.dv [] (.bool (x.2.1))), (.dv [] (.bool (x.2.2.1))), (.dv [] (.int .i64 (x.2.2.2.1))), (.dv [] (.int .i64 (x.2.2.2.2.1))), (.dv [] (.str (x.2.2.2.2.2)))]] (.one (.dv [] (.bool (true)))) := by
  refine ⟨fn_intro Try.func24 rfl Try.ntmps24 Try.results24 rfl (fun C => ?_)⟩
  refine ok_factA (x := .tmp 0) 2 (ev_tmp rfl) rfl (fun (f0_2 : -9223372036854775808 ≤ (x.1.2.2.1.1) ∧ (x.1.2.2.1.1) ≤ 9223372036854775807) => ?_)
  refine ok_factA (x := .tmp 0) 3 (ev_tmp rfl) rfl (fun (f0_3 : -9223372036854775808 ≤ (x.1.2.2.1.2.1) ∧ (x.1.2.2.1.2.1) ≤ 9223372036854775807) => ?_)
  refine ok_factA (x := .tmp 0) 4 (ev_tmp rfl) rfl (fun (f0_4 : (x.1.2.2.1.2.2).size ≤ 9223372036854775807) => ?_)
  refine ok_factA (x := .tmp 0) 5 (ev_tmp rfl) rfl (fun (f0_5 : -9223372036854775808 ≤ (x.1.2.2.2.1) ∧ (x.1.2.2.2.1) ≤ 9223372036854775807) => ?_)
  refine ok_factA (x := .tmp 0) 6 (ev_tmp rfl) rfl (fun (f0_6 : -9223372036854775808 ≤ (x.1.2.2.2.2.1) ∧ (x.1.2.2.2.2.1) ≤ 9223372036854775807) => ?_)
  refine ok_factA (x := .tmp 0) 7 (ev_tmp rfl) rfl (fun (f0_7 : (x.1.2.2.2.2.2).size ≤ 9223372036854775807) => ?_)
  refine ok_factA (x := .tmp 0) 10 (ev_tmp rfl) rfl (fun (f0_10 : -9223372036854775808 ≤ (x.2.2.2.1) ∧ (x.2.2.2.1) ≤ 9223372036854775807) => ?_)
  refine ok_factA (x := .tmp 0) 11 (ev_tmp rfl) rfl (fun (f0_11 : -9223372036854775808 ≤ (x.2.2.2.2.1) ∧ (x.2.2.2.2.1) ≤ 9223372036854775807) => ?_)
  refine ok_factA (x := .tmp 0) 12 (ev_tmp rfl) rfl (fun (f0_12 : (x.2.2.2.2.2).size ≤ 9223372036854775807) => ?_)
  refine ok_factA (x := .tmp 1) 2 (ev_tmp rfl) rfl (fun (f1_2 : -9223372036854775808 ≤ (x.1.2.2.1.1) ∧ (x.1.2.2.1.1) ≤ 9223372036854775807) => ?_)
  refine ok_factA (x := .tmp 1) 3 (ev_tmp rfl) rfl (fun (f1_3 : -9223372036854775808 ≤ (x.1.2.2.1.2.1) ∧ (x.1.2.2.1.2.1) ≤ 9223372036854775807) => ?_)
  refine ok_factA (x := .tmp 1) 4 (ev_tmp rfl) rfl (fun (f1_4 : (x.1.2.2.1.2.2).size ≤ 9223372036854775807) => ?_)
  refine ok_factA (x := .tmp 1) 5 (ev_tmp rfl) rfl (fun (f1_5 : -9223372036854775808 ≤ (x.1.2.2.2.1) ∧ (x.1.2.2.2.1) ≤ 9223372036854775807) => ?_)
  refine ok_factA (x := .tmp 1) 6 (ev_tmp rfl) rfl (fun (f1_6 : -9223372036854775808 ≤ (x.1.2.2.2.2.1) ∧ (x.1.2.2.2.2.1) ≤ 9223372036854775807) => ?_)
  refine ok_factA (x := .tmp 1) 7 (ev_tmp rfl) rfl (fun (f1_7 : (x.1.2.2.2.2.2).size ≤ 9223372036854775807) => ?_)
  refine ok_factA (x := .tmp 1) 10 (ev_tmp rfl) rfl (fun (f1_10 : -9223372036854775808 ≤ (x.2.2.2.1) ∧ (x.2.2.2.1) ≤ 9223372036854775807) => ?_)
  refine ok_factA (x := .tmp 1) 11 (ev_tmp rfl) rfl (fun (f1_11 : -9223372036854775808 ≤ (x.2.2.2.2.1) ∧ (x.2.2.2.2.1) ≤ 9223372036854775807) => ?_)
  refine ok_factA (x := .tmp 1) 12 (ev_tmp rfl) rfl (fun (f1_12 : (x.2.2.2.2.2).size ≤ 9223372036854775807) => ?_)
  refine ok_seq ?_
  refine ok_region ?_
  refine o_box rfl rfl rfl (ev_tmp rfl) rfl rfl rfl rfl ?_
  refine o_box rfl rfl rfl (ev_tmp rfl) rfl rfl rfl rfl ?_
  refine o_pure rfl rfl (pu_move (.inr rfl) ev_bool) rfl rfl ?_
  refine ops_nil ?_
  refine then_n ?_
  refine ok_seq ?_
  refine ok_seq ?_
  refine ok_region ?_
  refine o_pure rfl rfl (pu_fieldBox hT rfl rfl rfl (ev_tmp rfl)) rfl rfl ?_
  refine o_pure rfl rfl (pu_loadBoxA hT rfl rfl (ev_tmp rfl) rfl rfl) rfl rfl ?_
  refine o_pure rfl rfl (pu_fieldBox hT rfl rfl rfl (ev_tmp rfl)) rfl rfl ?_
  refine o_pure rfl rfl (pu_loadBoxA hT rfl rfl (ev_tmp rfl) rfl rfl) rfl rfl ?_
  refine o_call rfl rfl rfl Try.call63 ok_laws_eqKeyRange (as_cons (ev_tmp rfl) (ag_agg (ag_cons ac_dv (ag_cons ac_dv (ag_cons ac_dv (ag_cons ac_dv (ag_cons ac_dv (ag_cons ac_dv (ag_cons ac_dv (ag_cons ac_dv ag_nil))))))))) (as_cons (ev_tmp rfl) (ag_agg (ag_cons ac_dv (ag_cons ac_dv (ag_cons ac_dv (ag_cons ac_dv (ag_cons ac_dv (ag_cons ac_dv (ag_cons ac_dv (ag_cons ac_dv ag_nil))))))))) as_nil)) rfl rfl ?_
  refine o_pure rfl rfl (pu_not rfl (ev_tmp rfl)) rfl rfl ?_
  refine ops_nil ?_
  refine then_n ?_
  refine ok_cond (ev_tmp rfl) (fun c1 => ?_) (fun c1 => ?_)
  · skip
    refine ok_seq ?_
    refine ok_region ?_
    refine o_pure rfl rfl (pu_move (.inr rfl) ev_bool) rfl rfl ?_
    refine ops_nil ?_
    refine then_n ?_
    refine ok_ret ?_
    refine then_r ?_
    refine fin1 (res_tmp rfl) (eqB ?_)
    first | rfl | (exfalso; simp_all [sEq])
  · skip
    refine ok_skip ?_
    refine then_n ?_
    refine ok_seq ?_
    refine ok_seq ?_
    refine ok_region ?_
    refine o_pure rfl rfl (pu_fieldBox hT rfl rfl rfl (ev_tmp rfl)) rfl rfl ?_
    refine o_pure rfl rfl (pu_loadBox1 hT rfl rfl (ev_tmp rfl) rfl rfl) rfl rfl ?_
    refine o_pure rfl rfl (pu_fieldBox hT rfl rfl rfl (ev_tmp rfl)) rfl rfl ?_
    refine o_pure rfl rfl (pu_loadBox1 hT rfl rfl (ev_tmp rfl) rfl rfl) rfl rfl ?_
    refine o_pure rfl rfl (pu_bneq hT rfl rfl (ev_tmp rfl) (ev_tmp rfl)) rfl rfl ?_
    refine ops_nil ?_
    refine then_n ?_
    refine ok_cond (ev_tmp rfl) (fun c2 => ?_) (fun c2 => ?_)
    · skip
      refine ok_seq ?_
      refine ok_region ?_
      refine o_pure rfl rfl (pu_move (.inr rfl) ev_bool) rfl rfl ?_
      refine ops_nil ?_
      refine then_n ?_
      refine ok_ret ?_
      refine then_r ?_
      refine fin1 (res_tmp rfl) (eqB ?_)
      first | rfl | (exfalso; simp_all [sEq])
    · skip
      refine ok_skip ?_
      refine then_n ?_
      refine ok_seq ?_
      refine ok_seq ?_
      refine ok_region ?_
      refine o_pure rfl rfl (pu_fieldBox hT rfl rfl rfl (ev_tmp rfl)) rfl rfl ?_
      refine o_pure rfl rfl (pu_loadBox1 hT rfl rfl (ev_tmp rfl) rfl rfl) rfl rfl ?_
      refine o_pure rfl rfl (pu_fieldBox hT rfl rfl rfl (ev_tmp rfl)) rfl rfl ?_
      refine o_pure rfl rfl (pu_loadBox1 hT rfl rfl (ev_tmp rfl) rfl rfl) rfl rfl ?_
      refine o_pure rfl rfl (pu_bneq hT rfl rfl (ev_tmp rfl) (ev_tmp rfl)) rfl rfl ?_
      refine ops_nil ?_
      refine then_n ?_
      refine ok_cond (ev_tmp rfl) (fun c3 => ?_) (fun c3 => ?_)
      · skip
        refine ok_seq ?_
        refine ok_region ?_
        refine o_pure rfl rfl (pu_move (.inr rfl) ev_bool) rfl rfl ?_
        refine ops_nil ?_
        refine then_n ?_
        refine ok_ret ?_
        refine then_r ?_
        refine fin1 (res_tmp rfl) (eqB ?_)
        first | rfl | (exfalso; simp_all [sEq])
      · skip
        refine ok_skip ?_
        refine then_n ?_
        refine ok_seq ?_
        refine ok_seq ?_
        refine ok_region ?_
        refine o_pure rfl rfl (pu_fieldBox hT rfl rfl rfl (ev_tmp rfl)) rfl rfl ?_
        refine o_pure rfl rfl (pu_loadBoxA hT rfl rfl (ev_tmp rfl) rfl rfl) rfl rfl ?_
        refine o_pure rfl rfl (pu_fieldBox hT rfl rfl rfl (ev_tmp rfl)) rfl rfl ?_
        refine o_pure rfl rfl (pu_loadBoxA hT rfl rfl (ev_tmp rfl) rfl rfl) rfl rfl ?_
        refine o_call rfl rfl rfl Try.call34 ok_laws_eqKey (as_cons (ev_tmp rfl) (ag_agg (ag_cons ac_dv (ag_cons ac_dv (ag_cons ac_dv ag_nil)))) (as_cons (ev_tmp rfl) (ag_agg (ag_cons ac_dv (ag_cons ac_dv (ag_cons ac_dv ag_nil)))) as_nil)) rfl rfl ?_
        refine o_pure rfl rfl (pu_not rfl (ev_tmp rfl)) rfl rfl ?_
        refine ops_nil ?_
        refine then_n ?_
        refine ok_cond (ev_tmp rfl) (fun c4 => ?_) (fun c4 => ?_)
        · skip
          refine ok_seq ?_
          refine ok_region ?_
          refine o_pure rfl rfl (pu_move (.inr rfl) ev_bool) rfl rfl ?_
          refine ops_nil ?_
          refine then_n ?_
          refine ok_ret ?_
          refine then_r ?_
          refine fin1 (res_tmp rfl) (eqB ?_)
          first | rfl | (exfalso; simp_all [sEq])
        · skip
          refine ok_skip ?_
          refine then_n ?_
          refine ok_seq ?_
          refine ok_region ?_
          refine o_pure rfl rfl (pu_move (.inr rfl) ev_bool) rfl rfl ?_
          refine ops_nil ?_
          refine then_n ?_
          refine ok_ret ?_
          refine fin1 (res_tmp rfl) (eqB ?_)
          first | rfl | (exfalso; simp_all [sEq])
set_option maxRecDepth 100000 in
theorem ok_impl_CursorNext {x : StoreT} {y : CursorT} (hb : wStore x ≤ 1048576) : KFn Try.prog 23 [.agg [(.dv [] (.str (x.1))), (.dv [] (itemsD (x.2.1))), (.dv [] (.int .i64 (x.2.2)))], .agg [(.dv [] (.bool (y.1.1))), (.dv [] (.bool (y.1.2.1))), (.dv [] (.int .i64 (y.1.2.2.1.1))), (.dv [] (.int .i64 (y.1.2.2.1.2.1))), (.dv [] (.str (y.1.2.2.1.2.2))), (.dv [] (.int .i64 (y.1.2.2.2.1))), (.dv [] (.int .i64 (y.1.2.2.2.2.1))), (.dv [] (.str (y.1.2.2.2.2.2))), (.dv [] (.bool (y.2.1))), (.dv [] (.bool (y.2.2.1))), (.dv [] (.int .i64 (y.2.2.2.1))), (.dv [] (.int .i64 (y.2.2.2.2.1))), (.dv [] (.str (y.2.2.2.2.2)))]] (.tup [(true, [(.dv [] (.bool ((curNext x y).1.1.1))), (.dv [] (.bool ((curNext x y).1.1.2.1))), (.dv [] (.int .i64 ((curNext x y).1.1.2.2.1.1))), (.dv [] (.int .i64 ((curNext x y).1.1.2.2.1.2.1))), (.dv [] (.str ((curNext x y).1.1.2.2.1.2.2))), (.dv [] (.int .i64 ((curNext x y).1.1.2.2.2.1))), (.dv [] (.int .i64 ((curNext x y).1.1.2.2.2.2.1))), (.dv [] (.str ((curNext x y).1.1.2.2.2.2.2))), (.dv [] (.bool ((curNext x y).1.2.1))), (.dv [] (.bool ((curNext x y).1.2.2.1))), (.dv [] (.int .i64 ((curNext x y).1.2.2.2.1))), (.dv [] (.int .i64 ((curNext x y).1.2.2.2.2.1))), (.dv [] (.str ((curNext x y).1.2.2.2.2.2)))]), (true, [(.dv [] (.int .i64 ((curNext x y).2.1.1.1))), (.dv [] (.int .i64 ((curNext x y).2.1.1.2.1))), (.dv [] (.str ((curNext x y).2.1.1.2.2))), (.key 9001)]), (false, [(.dv [] (.bool ((curNext x y).2.2)))])]) [(9001, some (kcOf false (fieldsD ((curNext x y).2.1.2))))] := by
  refine ⟨fn_intro Try.func23 rfl Try.ntmps23 Try.results23 rfl (fun C => ?_)⟩
  refine ok_factA (x := .tmp 0) 0 (ev_tmp rfl) rfl (fun (f0_0 : (x.1).size ≤ 9223372036854775807) => ?_)
  refine ok_factA (x := .tmp 0) 1 (ev_tmp rfl) rfl (fun (f0_1 : ((x.2.1)).length ≤ 9223372036854775807) => ?_)
  refine ok_factA (x := .tmp 0) 2 (ev_tmp rfl) rfl (fun (f0_2 : -9223372036854775808 ≤ (x.2.2) ∧ (x.2.2) ≤ 9223372036854775807) => ?_)
  refine ok_factA (x := .tmp 1) 2 (ev_tmp rfl) rfl (fun (f1_2 : -9223372036854775808 ≤ (y.1.2.2.1.1) ∧ (y.1.2.2.1.1) ≤ 9223372036854775807) => ?_)
  refine ok_factA (x := .tmp 1) 3 (ev_tmp rfl) rfl (fun (f1_3 : -9223372036854775808 ≤ (y.1.2.2.1.2.1) ∧ (y.1.2.2.1.2.1) ≤ 9223372036854775807) => ?_)
  refine ok_factA (x := .tmp 1) 4 (ev_tmp rfl) rfl (fun (f1_4 : (y.1.2.2.1.2.2).size ≤ 9223372036854775807) => ?_)
  refine ok_factA (x := .tmp 1) 5 (ev_tmp rfl) rfl (fun (f1_5 : -9223372036854775808 ≤ (y.1.2.2.2.1) ∧ (y.1.2.2.2.1) ≤ 9223372036854775807) => ?_)
  refine ok_factA (x := .tmp 1) 6 (ev_tmp rfl) rfl (fun (f1_6 : -9223372036854775808 ≤ (y.1.2.2.2.2.1) ∧ (y.1.2.2.2.2.1) ≤ 9223372036854775807) => ?_)
  refine ok_factA (x := .tmp 1) 7 (ev_tmp rfl) rfl (fun (f1_7 : (y.1.2.2.2.2.2).size ≤ 9223372036854775807) => ?_)
  refine ok_factA (x := .tmp 1) 10 (ev_tmp rfl) rfl (fun (f1_10 : -9223372036854775808 ≤ (y.2.2.2.1) ∧ (y.2.2.2.1) ≤ 9223372036854775807) => ?_)
  refine ok_factA (x := .tmp 1) 11 (ev_tmp rfl) rfl (fun (f1_11 : -9223372036854775808 ≤ (y.2.2.2.2.1) ∧ (y.2.2.2.2.1) ≤ 9223372036854775807) => ?_)
  refine ok_factA (x := .tmp 1) 12 (ev_tmp rfl) rfl (fun (f1_12 : (y.2.2.2.2.2).size ≤ 9223372036854775807) => ?_)
  refine ok_seq ?_
  refine ok_region ?_
  refine o_box rfl rfl rfl (ev_tmp rfl) rfl rfl rfl rfl ?_
  refine o_box rfl rfl rfl (ev_tmp rfl) rfl rfl rfl rfl ?_
  refine o_alloc hT rfl rfl rfl rfl rfl rfl ?_
  refine o_alloc hT rfl rfl rfl rfl rfl rfl ?_
  refine o_pure rfl rfl (pu_move (.inr rfl) ev_bool) rfl rfl ?_
  refine ops_nil ?_
  refine then_n ?_
  refine ok_seq ?_
  refine ok_region ?_
  refine o_pure rfl rfl (pu_move (.inr rfl) (ev_int (inR_lit rfl))) rfl rfl ?_
  refine ops_nil ?_
  refine then_n ?_
  refine ok_seq ?_
  refine ok_seq ?_
  refine ok_region ?_
  refine o_pure rfl rfl (pu_fieldBox hT rfl rfl rfl (ev_tmp rfl)) rfl rfl ?_
  refine o_pure rfl rfl (pu_loadBox1 hT rfl rfl (ev_tmp rfl) rfl rfl) rfl rfl ?_
  refine o_pure rfl rfl (pu_lenV hT rfl rfl (ev_tmp rfl)) rfl rfl ?_
  refine o_pure rfl rfl (pu_move (.inl rfl) (ev_int (inR_lit rfl))) rfl rfl ?_
  refine ops_nil ?_
  refine then_n ?_
  refine ok_block ?_
  refine ok_loop (ι := Nat) (fun zz => ⟨[(2, .box 2 0), (3, .box 3 0), (4, .box 4 0), (5, .box 5 0), (6, .one (.dv [] (.bool (false)))), (7, .one (.dv [] (.int .i64 (curAt y x.2.1 zz)))), (13, .one (.dv [] (itemsD (x.2.1)))), (14, .one (.dv [] (.int .i64 ((((x.2.1)).length : Int))))), (15, .one (.dv [] (.int .i64 ((zz : Int)))))], [(2, 29, [(.dv [] (.str (x.1))), (.dv [] (itemsD (x.2.1))), (.dv [] (.int .i64 (x.2.2)))]), (3, 47, [(.dv [] (.bool (y.1.1))), (.dv [] (.bool (y.1.2.1))), (.dv [] (.int .i64 (y.1.2.2.1.1))), (.dv [] (.int .i64 (y.1.2.2.1.2.1))), (.dv [] (.str (y.1.2.2.1.2.2))), (.dv [] (.int .i64 (y.1.2.2.2.1))), (.dv [] (.int .i64 (y.1.2.2.2.2.1))), (.dv [] (.str (y.1.2.2.2.2.2))), (.dv [] (.bool (y.2.1))), (.dv [] (.bool (y.2.2.1))), (.dv [] (.int .i64 (y.2.2.2.1))), (.dv [] (.int .i64 (y.2.2.2.2.1))), (.dv [] (.str (y.2.2.2.2.2)))]), (4, 47, [(.dv [] (.bool (false))), (.dv [] (.bool (false))), (.dv [] (.int .i64 (0))), (.dv [] (.int .i64 (0))), (.dv [] (.str (ByteArray.empty))), (.dv [] (.int .i64 (0))), (.dv [] (.int .i64 (0))), (.dv [] (.str (ByteArray.empty))), (.dv [] (.bool (false))), (.dv [] (.bool (false))), (.dv [] (.int .i64 (0))), (.dv [] (.int .i64 (0))), (.dv [] (.str (ByteArray.empty)))]), (5, 52, [(.dv [] (.int .i64 (0))), (.dv [] (.int .i64 (0))), (.dv [] (.str (ByteArray.empty))), .nil])], []⟩) (fun zz => zz ≤ x.2.1.length) (fun zz => x.2.1.length - zz) (0) ?_ (weak_sub ⟨rfl, rfl, rfl, rfl, rfl, rfl, rfl, rfl, rfl, trivial⟩ ⟨rfl, rfl, rfl, rfl, trivial⟩ trivial rfl) (fun zz hx => ?_)
  · exact Nat.zero_le _
  obtain ⟨k, rfl⟩ : ∃ v, v = zz := ⟨_, rfl⟩
  replace hx : k ≤ x.2.1.length := hx
  show Ok _ _ _ _ _ (⟨[(2, .box 2 0), (3, .box 3 0), (4, .box 4 0), (5, .box 5 0), (6, .one (.dv [] (.bool (false)))), (7, .one (.dv [] (.int .i64 (curAt y x.2.1 k)))), (13, .one (.dv [] (itemsD (x.2.1)))), (14, .one (.dv [] (.int .i64 ((((x.2.1)).length : Int))))), (15, .one (.dv [] (.int .i64 ((k : Int)))))], [(2, 29, [(.dv [] (.str (x.1))), (.dv [] (itemsD (x.2.1))), (.dv [] (.int .i64 (x.2.2)))]), (3, 47, [(.dv [] (.bool (y.1.1))), (.dv [] (.bool (y.1.2.1))), (.dv [] (.int .i64 (y.1.2.2.1.1))), (.dv [] (.int .i64 (y.1.2.2.1.2.1))), (.dv [] (.str (y.1.2.2.1.2.2))), (.dv [] (.int .i64 (y.1.2.2.2.1))), (.dv [] (.int .i64 (y.1.2.2.2.2.1))), (.dv [] (.str (y.1.2.2.2.2.2))), (.dv [] (.bool (y.2.1))), (.dv [] (.bool (y.2.2.1))), (.dv [] (.int .i64 (y.2.2.2.1))), (.dv [] (.int .i64 (y.2.2.2.2.1))), (.dv [] (.str (y.2.2.2.2.2)))]), (4, 47, [(.dv [] (.bool (false))), (.dv [] (.bool (false))), (.dv [] (.int .i64 (0))), (.dv [] (.int .i64 (0))), (.dv [] (.str (ByteArray.empty))), (.dv [] (.int .i64 (0))), (.dv [] (.int .i64 (0))), (.dv [] (.str (ByteArray.empty))), (.dv [] (.bool (false))), (.dv [] (.bool (false))), (.dv [] (.int .i64 (0))), (.dv [] (.int .i64 (0))), (.dv [] (.str (ByteArray.empty)))]), (5, 52, [(.dv [] (.int .i64 (0))), (.dv [] (.int .i64 (0))), (.dv [] (.str (ByteArray.empty))), .nil])], []⟩ : St)
  refine ok_seq ?_
  refine ok_region ?_
  refine o_pure rfl rfl (pu_lss rfl (ev_tmp rfl) (ev_tmp rfl)) rfl rfl ?_
  refine ops_nil ?_
  refine then_n ?_
  refine ok_seq ?_
  refine ok_cond (ev_tmp rfl) (fun c1 => ?_) (fun c1 => ?_)
  · skip
    have d1 := of_decide_eq_true c1
    refine ok_skip ?_
    refine then_n ?_
    refine ok_seq ?_
    refine ok_block ?_
    refine ok_seq ?_
    refine ok_region ?_
    refine o_pure rfl rfl (pu_move (.inl rfl) (ev_tmp rfl)) rfl rfl ?_
    refine o_pure rfl rfl (pu_indexD hT rfl rfl rfl (ev_tmp rfl) (ev_tmp rfl) (fun _ => rfl) (by first | omega | (simp only [Bool.and_eq_true, Bool.or_eq_true, Bool.or_eq_false_iff, Bool.and_eq_false_iff, Bool.not_eq_true', Bool.not_eq_false', beq_iff_eq, decide_eq_true_eq, decide_eq_false_iff_not] at hg; omega) | (have hh := of_decide_eq_true (beq_tt hg); omega) | (have hh := of_decide_eq_true (beq_tt (and_r hg)); omega)) (by first | omega | (simp only [Bool.and_eq_true, Bool.or_eq_true, Bool.or_eq_false_iff, Bool.and_eq_false_iff, Bool.not_eq_true', Bool.not_eq_false', beq_iff_eq, decide_eq_true_eq, decide_eq_false_iff_not] at hg; omega) | (have hh := of_decide_eq_true (beq_tt hg); omega) | (have hh := of_decide_eq_true (beq_tt (and_r hg)); omega))) rfl rfl ?_
    refine o_pure rfl rfl (pu_loadRefA hT rfl rfl (ev_tmp rfl) rfl) rfl rfl ?_
    refine o_alloc hT rfl rfl rfl rfl rfl rfl ?_
    refine o_pure rfl rfl (pu_move (.inr rfl) (ev_tmp rfl)) rfl rfl ?_
    refine o_store hT rfl rfl rfl rfl (ev_tmp rfl) (ev_tmp rfl) rfl rfl rfl rfl rfl rfl ?_
    refine ops_nil ?_
    refine then_n ?_
    refine ok_seq ?_
    refine ok_region ?_
    refine o_pure rfl rfl (pu_fieldBox hT rfl rfl rfl (ev_tmp rfl)) rfl rfl ?_
    refine o_pure rfl rfl (pu_loadBoxA hT rfl rfl (ev_tmp rfl) rfl rfl) rfl rfl ?_
    refine o_pure rfl rfl (pu_fieldBox hT rfl rfl rfl (ev_tmp rfl)) rfl rfl ?_
    refine o_pure rfl rfl (pu_loadBoxA hT rfl rfl (ev_tmp rfl) rfl rfl) rfl rfl ?_
    refine o_call rfl rfl rfl Try.call61 ok_impl_CompareKeys (as_cons (ev_tmp rfl) (ag_agg (ag_cons ac_dv (ag_cons ac_dv (ag_cons ac_dv ag_nil)))) (as_cons (ev_tmp rfl) (ag_agg (ag_cons ac_dv (ag_cons ac_dv (ag_cons ac_dv ag_nil)))) as_nil)) rfl rfl ?_
    refine o_pure rfl rfl (pu_move (.inr rfl) (ev_tmp rfl)) rfl rfl ?_
    refine ops_nil ?_
    refine then_n ?_
    refine ok_seq ?_
    refine ok_region ?_
    refine o_pure rfl rfl (pu_move (.inl rfl) (ev_tmp rfl)) rfl rfl ?_
    refine o_pure rfl rfl (pu_gtr rfl (ev_tmp rfl) (ev_int (inR_lit rfl))) rfl rfl ?_
    refine o_pure rfl rfl (pu_move (.inl rfl) (ev_tmp rfl)) rfl rfl ?_
    refine o_pureG (gd_bool rfl rfl rfl rfl rfl) rfl (fun hg => pu_fieldBox hT rfl rfl rfl (ev_tmp rfl)) rfl rfl ?_
    refine o_pureG (gd_bool rfl rfl rfl rfl rfl) rfl (fun hg => pu_loadBox1 hT rfl rfl (ev_opt rfl hg) rfl rfl) rfl rfl ?_
    refine o_pureG (gd_bool rfl rfl rfl rfl rfl) rfl (fun hg => pu_not rfl (ev_opt rfl hg)) rfl rfl ?_
    refine o_pure rfl rfl (pu_and rfl (ev_tmp rfl) (fun hb => (ev_opt rfl (beq_t hb)))) rfl rfl ?_
    refine o_pure rfl rfl (pu_move (.inl rfl) (ev_tmp rfl)) rfl rfl ?_
    refine o_pureG (gd_bool rfl rfl rfl rfl rfl) rfl (fun hg => pu_move (.inl rfl) (ev_tmp rfl)) rfl rfl ?_
    refine o_pureG (gd_bool rfl rfl rfl rfl rfl) rfl (fun hg => pu_lss rfl (ev_opt rfl hg) (ev_int (inR_lit rfl))) rfl rfl ?_
    refine o_pureG (gd_bool rfl rfl rfl rfl rfl) rfl (fun hg => pu_move (.inl rfl) (ev_opt rfl hg)) rfl rfl ?_
    refine o_pureG (gd_opt rfl rfl rfl rfl rfl) rfl (fun hg => pu_fieldBox hT rfl rfl rfl (ev_tmp rfl)) rfl rfl ?_
    refine o_pureG (gd_opt rfl rfl rfl rfl rfl) rfl (fun hg => pu_loadBox1 hT rfl rfl (ev_opt rfl hg) rfl rfl) rfl rfl ?_
    refine o_pureG (gd_bool rfl rfl rfl rfl rfl) rfl (fun hg => pu_and rfl (ev_opt rfl hg) (fun hb => (ev_opt rfl (and_mk hg (beq_t hb))))) rfl rfl ?_
    refine o_pure rfl rfl (pu_or rfl (ev_tmp rfl) (fun hb => (ev_opt rfl (beq_f hb)))) rfl rfl ?_
    refine o_pure rfl rfl (pu_move (.inr rfl) (ev_tmp rfl)) rfl rfl ?_
    refine ops_nil ?_
    refine then_n ?_
    refine ok_seq ?_
    refine ok_region ?_
    refine o_pure rfl rfl (pu_fieldBox hT rfl rfl rfl (ev_tmp rfl)) rfl rfl ?_
    refine o_pure rfl rfl (pu_loadBoxA hT rfl rfl (ev_tmp rfl) rfl rfl) rfl rfl ?_
    refine o_pure rfl rfl (pu_fieldBox hT rfl rfl rfl (ev_tmp rfl)) rfl rfl ?_
    refine o_pure rfl rfl (pu_loadBoxA hT rfl rfl (ev_tmp rfl) rfl rfl) rfl rfl ?_
    refine o_call rfl rfl rfl Try.call62 ok_impl_InRangeOf (as_cons (ev_tmp rfl) (ag_agg (ag_cons ac_dv (ag_cons ac_dv (ag_cons ac_dv ag_nil)))) (as_cons (ev_tmp rfl) (ag_agg (ag_cons ac_dv (ag_cons ac_dv (ag_cons ac_dv (ag_cons ac_dv (ag_cons ac_dv (ag_cons ac_dv (ag_cons ac_dv (ag_cons ac_dv ag_nil))))))))) as_nil)) rfl rfl ?_
    refine o_pure rfl rfl (pu_move (.inl rfl) (ev_tmp rfl)) rfl rfl ?_
    refine o_pureG (gd_bool rfl rfl rfl rfl rfl) rfl (fun hg => pu_fieldBox hT rfl rfl rfl (ev_tmp rfl)) rfl rfl ?_
    refine o_pureG (gd_bool rfl rfl rfl rfl rfl) rfl (fun hg => pu_loadBox1 hT rfl rfl (ev_opt rfl hg) rfl rfl) rfl rfl ?_
    refine o_pureG (gd_bool rfl rfl rfl rfl rfl) rfl (fun hg => pu_not rfl (ev_opt rfl hg)) rfl rfl ?_
    refine o_pureG (gd_bool rfl rfl rfl rfl rfl) rfl (fun hg => pu_move (.inl rfl) (ev_opt rfl hg)) rfl rfl ?_
    refine o_pureG (gd_opt rfl rfl rfl rfl rfl) rfl (fun hg => pu_move (.inl rfl) (ev_tmp rfl)) rfl rfl ?_
    refine o_pureG (gd_bool rfl rfl rfl rfl rfl) rfl (fun hg => pu_or rfl (ev_opt rfl hg) (fun hb => (ev_opt rfl (and_mk hg (beq_f hb))))) rfl rfl ?_
    refine o_pure rfl rfl (pu_and rfl (ev_tmp rfl) (fun hb => (ev_opt rfl (beq_t hb)))) rfl rfl ?_
    refine o_pure rfl rfl (pu_move (.inl rfl) (ev_tmp rfl)) rfl rfl ?_
    refine o_pureG (gd_bool rfl rfl rfl rfl rfl) rfl (fun hg => pu_move (.inl rfl) (ev_tmp rfl)) rfl rfl ?_
    refine o_pureG (gd_bool rfl rfl rfl rfl rfl) rfl (fun hg => pu_lss rfl (ev_opt rfl hg) (ev_int (inR_lit rfl))) rfl rfl ?_
    refine o_pureG (gd_bool rfl rfl rfl rfl rfl) rfl (fun hg => pu_move (.inl rfl) (ev_opt rfl hg)) rfl rfl ?_
    refine o_pureG (gd_opt rfl rfl rfl rfl rfl) rfl (fun hg => pu_fieldBox hT rfl rfl rfl (ev_tmp rfl)) rfl rfl ?_
    refine o_pureG (gd_opt rfl rfl rfl rfl rfl) rfl (fun hg => pu_loadBox1 hT rfl rfl (ev_opt rfl hg) rfl rfl) rfl rfl ?_
    refine o_pureG (gd_bool rfl rfl rfl rfl rfl) rfl (fun hg => pu_or rfl (ev_opt rfl hg) (fun hb => (ev_opt rfl (and_mk hg (beq_f hb))))) rfl rfl ?_
    refine o_pure rfl rfl (pu_and rfl (ev_tmp rfl) (fun hb => (ev_opt rfl (beq_t hb)))) rfl rfl ?_
    refine ops_nil ?_
    refine then_n ?_
    refine ok_cond (ev_tmp rfl) (fun c2 => ?_) (fun c2 => ?_)
    · skip
      refine ok_region ?_
      refine o_pure rfl rfl (pu_move (.inl rfl) (ev_tmp rfl)) rfl rfl ?_
      refine o_pure rfl rfl (pu_move (.inr rfl) (ev_tmp rfl)) rfl rfl ?_
      refine ops_nil ?_
      refine blk_n ?_
      refine then_n ?_
      refine ok_region ?_
      refine o_pure rfl rfl (pu_addR rfl (ev_tmp rfl) (ev_int (inR_lit rfl)) (inR64 (by omega) (by omega))) rfl rfl ?_
      refine o_pure rfl rfl (pu_move (.inl rfl) (ev_tmp rfl)) rfl rfl ?_
      refine ops_nil ?_
      refine then_n ?_
      refine ⟨k + 1, ?_, ?_, weak_sub ⟨rfl, rfl, rfl, rfl, rfl, (eqSlotI (curAt_yes (by have h := c2; unfold curOk; revert h; cases y.2.1 <;> cases y.2.2.1 <;> simp <;> grind))), rfl, rfl, rfl, trivial⟩ ⟨rfl, rfl, rfl, rfl, trivial⟩ trivial rfl⟩
      · omega
      · omega
    · skip
      refine ok_skip ?_
      refine blk_n ?_
      refine then_n ?_
      refine ok_region ?_
      refine o_pure rfl rfl (pu_addR rfl (ev_tmp rfl) (ev_int (inR_lit rfl)) (inR64 (by omega) (by omega))) rfl rfl ?_
      refine o_pure rfl rfl (pu_move (.inl rfl) (ev_tmp rfl)) rfl rfl ?_
      refine ops_nil ?_
      refine then_n ?_
      refine ⟨k + 1, ?_, ?_, weak_sub ⟨rfl, rfl, rfl, rfl, rfl, (eqSlotI (curAt_no (by have h := c2; unfold curOk; revert h; cases y.2.1 <;> cases y.2.2.1 <;> simp <;> grind))), rfl, rfl, rfl, trivial⟩ ⟨rfl, rfl, rfl, rfl, trivial⟩ trivial rfl⟩
      · omega
      · omega
  · skip
    have d1 := of_decide_eq_false c1
    have hk9 : k = x.2.1.length := by omega
    refine ok_exit ?_
    refine then_e ?_
    refine then_e ?_
    refine blk_e rfl ?_
    refine then_n ?_
    refine ok_seq ?_
    refine ok_seq ?_
    refine ok_region ?_
    refine o_pure rfl rfl (pu_move (.inl rfl) (ev_tmp rfl)) rfl rfl ?_
    refine o_pure rfl rfl (pu_lss rfl (ev_tmp rfl) (ev_int (inR_lit rfl))) rfl rfl ?_
    refine ops_nil ?_
    refine then_n ?_
    refine ok_cond (ev_tmp rfl) (fun c3 => ?_) (fun c3 => ?_)
    · skip
      have d3 := of_decide_eq_true c3
      refine ok_seq ?_
      refine ok_region ?_
      refine o_pure rfl rfl (pu_loadBoxA hT rfl rfl (ev_tmp rfl) rfl rfl) rfl rfl ?_
      refine o_pure rfl rfl (pu_build hT hB rfl rfl rfl bp_nil) rfl rfl ?_
      refine o_store hT rfl rfl rfl rfl (ev_tmp rfl) (ev_tmp rfl) rfl rfl rfl rfl rfl rfl ?_
      refine o_store hT rfl rfl rfl rfl (ev_tmp rfl) (ev_tmp rfl) rfl rfl rfl rfl rfl rfl ?_
      refine o_pure rfl rfl (pu_move (.inr rfl) ev_bool) rfl rfl ?_
      refine ops_nil ?_
      refine then_n ?_
      rw [curNext_no (s := x) (x := y) (by rw [← hk9]; exact d3)]
      refine ok_weak (weak_nilB 9001 (b := 5) (i := 3) (e := 109) (sz := 2) rfl rfl rfl rfl rfl) ?_
      refine ok_weak (σ' := ⟨[(4, .box 4 0), (5, .box 5 0), (6, .one (.dv [] (.bool (false))))], [(4, 47, [(.dv [] (.bool (y.1.1))), (.dv [] (.bool (y.1.2.1))), (.dv [] (.int .i64 (y.1.2.2.1.1))), (.dv [] (.int .i64 (y.1.2.2.1.2.1))), (.dv [] (.str (y.1.2.2.1.2.2))), (.dv [] (.int .i64 (y.1.2.2.2.1))), (.dv [] (.int .i64 (y.1.2.2.2.2.1))), (.dv [] (.str (y.1.2.2.2.2.2))), (.dv [] (.bool (y.2.1))), (.dv [] (.bool (y.2.2.1))), (.dv [] (.int .i64 (y.2.2.2.1))), (.dv [] (.int .i64 (y.2.2.2.2.1))), (.dv [] (.str (y.2.2.2.2.2)))]), (5, 52, [(.dv [] (.int .i64 (0))), (.dv [] (.int .i64 (0))), (.dv [] (.str (ByteArray.empty))), (.key 9001)])], [(9001, some (kcOf false (fieldsD [])))]⟩) (weak_sub ⟨rfl, rfl, rfl, trivial⟩ ⟨rfl, rfl, trivial⟩ ⟨rfl, trivial⟩ rfl) ?_
      refine ok_ret ?_
      refine then_r ?_
      refine fin3 (res_cell hT rfl rfl rfl rfl) (res_cell hT rfl rfl rfl rfl) (res_tmp rfl) rfl rfl rfl ?_
      exact ⟨rfl, rfl⟩
    · skip
      have d3 := of_decide_eq_false c3
      have hl := curAt_le y x.2.1 k
      refine ok_skip ?_
      refine then_n ?_
      refine ok_seq ?_
      refine ok_region ?_
      refine o_pure rfl rfl (pu_fieldBox hT rfl rfl rfl (ev_tmp rfl)) rfl rfl ?_
      refine o_store hT rfl rfl rfl rfl (ev_tmp rfl) ev_bool rfl rfl rfl rfl rfl rfl ?_
      refine ops_nil ?_
      refine then_n ?_
      refine ok_seq ?_
      refine ok_region ?_
      refine o_pure rfl rfl (pu_fieldBox hT rfl rfl rfl (ev_tmp rfl)) rfl rfl ?_
      refine o_pure rfl rfl (pu_loadBox1 hT rfl rfl (ev_tmp rfl) rfl rfl) rfl rfl ?_
      refine o_pure rfl rfl (pu_move (.inl rfl) (ev_tmp rfl)) rfl rfl ?_
      refine o_pure rfl rfl (pu_indexD hT rfl rfl rfl (ev_tmp rfl) (ev_tmp rfl) (fun _ => rfl) (by first | omega | (simp only [Bool.and_eq_true, Bool.or_eq_true, Bool.or_eq_false_iff, Bool.and_eq_false_iff, Bool.not_eq_true', Bool.not_eq_false', beq_iff_eq, decide_eq_true_eq, decide_eq_false_iff_not] at hg; omega) | (have hh := of_decide_eq_true (beq_tt hg); omega) | (have hh := of_decide_eq_true (beq_tt (and_r hg)); omega)) (by first | omega | (simp only [Bool.and_eq_true, Bool.or_eq_true, Bool.or_eq_false_iff, Bool.and_eq_false_iff, Bool.not_eq_true', Bool.not_eq_false', beq_iff_eq, decide_eq_true_eq, decide_eq_false_iff_not] at hg; omega) | (have hh := of_decide_eq_true (beq_tt hg); omega) | (have hh := of_decide_eq_true (beq_tt (and_r hg)); omega))) rfl rfl ?_
      refine o_pure rfl rfl (pu_fieldRef hT rfl rfl rfl (ev_tmp rfl)) rfl rfl ?_
      refine o_pure rfl rfl (pu_loadRefA hT rfl rfl (ev_tmp rfl) rfl) rfl rfl ?_
      refine o_pure rfl rfl (pu_fieldBox hT rfl rfl rfl (ev_tmp rfl)) rfl rfl ?_
      refine o_store hT rfl rfl rfl rfl (ev_tmp rfl) (ev_tmp rfl) rfl rfl rfl rfl rfl rfl ?_
      refine ops_nil ?_
      refine then_n ?_
      refine ok_seq ?_
      refine ok_regionD (oB := [2, 3, 4, 5]) (oK := []) (by kernel_rfl) rfl rfl ?_
      refine d_take 0 rfl (by kernel_rfl) rfl rfl (pu_loadBoxA hT rfl rfl (ev_tmp rfl) rfl rfl) rfl rfl rfl rfl ?_
      refine d_take 1 rfl (by kernel_rfl) rfl rfl (pu_fieldBox hT rfl rfl rfl (ev_tmp rfl)) rfl rfl rfl rfl ?_
      refine d_take 2 rfl (by kernel_rfl) rfl rfl (pu_loadBox1 hT rfl rfl (ev_tmp rfl) rfl rfl) rfl rfl rfl rfl ?_
      refine d_take 3 rfl (by kernel_rfl) rfl rfl (pu_move (.inl rfl) (ev_tmp rfl)) rfl rfl rfl rfl ?_
      refine d_take 4 rfl (by kernel_rfl) rfl rfl (pu_indexD hT rfl rfl rfl (ev_tmp rfl) (ev_tmp rfl) (fun _ => rfl) (by first | omega | (simp only [Bool.and_eq_true, Bool.or_eq_true, Bool.or_eq_false_iff, Bool.and_eq_false_iff, Bool.not_eq_true', Bool.not_eq_false', beq_iff_eq, decide_eq_true_eq, decide_eq_false_iff_not] at hg; omega) | (have hh := of_decide_eq_true (beq_tt hg); omega) | (have hh := of_decide_eq_true (beq_tt (and_r hg)); omega)) (by first | omega | (simp only [Bool.and_eq_true, Bool.or_eq_true, Bool.or_eq_false_iff, Bool.and_eq_false_iff, Bool.not_eq_true', Bool.not_eq_false', beq_iff_eq, decide_eq_true_eq, decide_eq_false_iff_not] at hg; omega) | (have hh := of_decide_eq_true (beq_tt hg); omega) | (have hh := of_decide_eq_true (beq_tt (and_r hg)); omega))) rfl rfl rfl rfl ?_
      refine d_take 5 rfl (by kernel_rfl) rfl rfl (pu_loadRefA hT rfl rfl (ev_tmp rfl) rfl) rfl rfl rfl rfl ?_
      refine d_callK 1998 6 rfl (by kernel_rfl) rfl rfl rfl Try.call53 (ok_impl_copyItem (by first | omega | (have h9 := wget (w := wItem) (xs := x.2.1) (i := (curAt y x.2.1 k).toNat) (by omega); have h8 : wStore x = x.1.size + (x.2.1.length + wSum wItem x.2.1) := rfl; have h7 := item_len (x.2.1.getD (curAt y x.2.1 k).toNat default); omega))) (as_cons (ev_tmp rfl) (ag_agg (ag_cons ac_dv (ag_cons ac_dv (ag_cons ac_dv (ag_cons ac_dv ag_nil))))) as_nil) rfl rfl rfl rfl rfl ?_
      refine d_chain [7, 8, 9] rfl rfl (by kernel_rfl) ?_
      refine o_store hT rfl rfl rfl rfl (ev_tmp rfl) (ev_tmp rfl) rfl rfl rfl rfl rfl rfl ?_
      refine o_store hT rfl rfl rfl rfl (ev_tmp rfl) (ev_tmp rfl) rfl rfl rfl rfl rfl rfl ?_
      refine o_pure rfl rfl (pu_move (.inr rfl) ev_bool) rfl rfl ?_
      refine ops_nil ?_
      refine then_n ?_
      rw [curNext_yes (s := x) (x := y) (by rw [← hk9]; exact d3), ← hk9]
      refine ok_weak (σ' := ⟨[(4, .box 4 0), (5, .box 5 0), (6, .one (.dv [] (.bool (true))))], [(4, 47, [(.dv [] (.bool (y.1.1))), (.dv [] (.bool (y.1.2.1))), (.dv [] (.int .i64 (y.1.2.2.1.1))), (.dv [] (.int .i64 (y.1.2.2.1.2.1))), (.dv [] (.str (y.1.2.2.1.2.2))), (.dv [] (.int .i64 (y.1.2.2.2.1))), (.dv [] (.int .i64 (y.1.2.2.2.2.1))), (.dv [] (.str (y.1.2.2.2.2.2))), (.dv [] (.bool (y.2.1))), (.dv [] (.bool (true))), (.dv [] (.int .i64 ((((x.2.1)).getD (curAt y x.2.1 k).toNat default).1.1))), (.dv [] (.int .i64 ((((x.2.1)).getD (curAt y x.2.1 k).toNat default).1.2.1))), (.dv [] (.str ((((x.2.1)).getD (curAt y x.2.1 k).toNat default).1.2.2)))]), (5, 52, [(.dv [] (.int .i64 (((((x.2.1)).getD (curAt y x.2.1 k).toNat default)).1.1))), (.dv [] (.int .i64 (((((x.2.1)).getD (curAt y x.2.1 k).toNat default)).1.2.1))), (.dv [] (.str (((((x.2.1)).getD (curAt y x.2.1 k).toNat default)).1.2.2))), (.key 9001)])], [(9001, some (kcOf false (fieldsD (x.2.1.getD (curAt y x.2.1 k).toNat default).2)))]⟩) (weak_sub ⟨rfl, rfl, rfl, trivial⟩ ⟨rfl, rfl, trivial⟩ ⟨rfl, trivial⟩ rfl) ?_
      refine ok_ret ?_
      refine fin3 (res_cell hT rfl rfl rfl rfl) (res_cell hT rfl rfl rfl rfl) (res_tmp rfl) rfl rfl rfl ?_
      exact ⟨rfl, rfl⟩
set_option maxRecDepth 100000 in
theorem ok_spec_CursorNext {x : StoreT} {y : CursorT} (hb : wStore x ≤ 1048576) : KFn Try.prog 21 [.agg [(.dv [] (.str (x.1))), (.dv [] (itemsD (x.2.1))), (.dv [] (.int .i64 (x.2.2)))], .agg [(.dv [] (.bool (y.1.1))), (.dv [] (.bool (y.1.2.1))), (.dv [] (.int .i64 (y.1.2.2.1.1))), (.dv [] (.int .i64 (y.1.2.2.1.2.1))), (.dv [] (.str (y.1.2.2.1.2.2))), (.dv [] (.int .i64 (y.1.2.2.2.1))), (.dv [] (.int .i64 (y.1.2.2.2.2.1))), (.dv [] (.str (y.1.2.2.2.2.2))), (.dv [] (.bool (y.2.1))), (.dv [] (.bool (y.2.2.1))), (.dv [] (.int .i64 (y.2.2.2.1))), (.dv [] (.int .i64 (y.2.2.2.2.1))), (.dv [] (.str (y.2.2.2.2.2)))]] (.tup [(true, [(.dv [] (.bool ((curNext x y).1.1.1))), (.dv [] (.bool ((curNext x y).1.1.2.1))), (.dv [] (.int .i64 ((curNext x y).1.1.2.2.1.1))), (.dv [] (.int .i64 ((curNext x y).1.1.2.2.1.2.1))), (.dv [] (.str ((curNext x y).1.1.2.2.1.2.2))), (.dv [] (.int .i64 ((curNext x y).1.1.2.2.2.1))), (.dv [] (.int .i64 ((curNext x y).1.1.2.2.2.2.1))), (.dv [] (.str ((curNext x y).1.1.2.2.2.2.2))), (.dv [] (.bool ((curNext x y).1.2.1))), (.dv [] (.bool ((curNext x y).1.2.2.1))), (.dv [] (.int .i64 ((curNext x y).1.2.2.2.1))), (.dv [] (.int .i64 ((curNext x y).1.2.2.2.2.1))), (.dv [] (.str ((curNext x y).1.2.2.2.2.2)))]), (true, [(.dv [] (.int .i64 ((curNext x y).2.1.1.1))), (.dv [] (.int .i64 ((curNext x y).2.1.1.2.1))), (.dv [] (.str ((curNext x y).2.1.1.2.2))), (.key 9001)]), (false, [(.dv [] (.bool ((curNext x y).2.2)))])]) [(9001, some (kcOf false (fieldsD ((curNext x y).2.1.2))))] := by
  refine ⟨fn_intro Try.func21 rfl Try.ntmps21 Try.results21 rfl (fun C => ?_)⟩
  refine ok_factA (x := .tmp 0) 0 (ev_tmp rfl) rfl (fun (f0_0 : (x.1).size ≤ 9223372036854775807) => ?_)
  refine ok_factA (x := .tmp 0) 1 (ev_tmp rfl) rfl (fun (f0_1 : ((x.2.1)).length ≤ 9223372036854775807) => ?_)
  refine ok_factA (x := .tmp 0) 2 (ev_tmp rfl) rfl (fun (f0_2 : -9223372036854775808 ≤ (x.2.2) ∧ (x.2.2) ≤ 9223372036854775807) => ?_)
  refine ok_factA (x := .tmp 1) 2 (ev_tmp rfl) rfl (fun (f1_2 : -9223372036854775808 ≤ (y.1.2.2.1.1) ∧ (y.1.2.2.1.1) ≤ 9223372036854775807) => ?_)
  refine ok_factA (x := .tmp 1) 3 (ev_tmp rfl) rfl (fun (f1_3 : -9223372036854775808 ≤ (y.1.2.2.1.2.1) ∧ (y.1.2.2.1.2.1) ≤ 9223372036854775807) => ?_)
  refine ok_factA (x := .tmp 1) 4 (ev_tmp rfl) rfl (fun (f1_4 : (y.1.2.2.1.2.2).size ≤ 9223372036854775807) => ?_)
  refine ok_factA (x := .tmp 1) 5 (ev_tmp rfl) rfl (fun (f1_5 : -9223372036854775808 ≤ (y.1.2.2.2.1) ∧ (y.1.2.2.2.1) ≤ 9223372036854775807) => ?_)
  refine ok_factA (x := .tmp 1) 6 (ev_tmp rfl) rfl (fun (f1_6 : -9223372036854775808 ≤ (y.1.2.2.2.2.1) ∧ (y.1.2.2.2.2.1) ≤ 9223372036854775807) => ?_)
  refine ok_factA (x := .tmp 1) 7 (ev_tmp rfl) rfl (fun (f1_7 : (y.1.2.2.2.2.2).size ≤ 9223372036854775807) => ?_)
  refine ok_factA (x := .tmp 1) 10 (ev_tmp rfl) rfl (fun (f1_10 : -9223372036854775808 ≤ (y.2.2.2.1) ∧ (y.2.2.2.1) ≤ 9223372036854775807) => ?_)
  refine ok_factA (x := .tmp 1) 11 (ev_tmp rfl) rfl (fun (f1_11 : -9223372036854775808 ≤ (y.2.2.2.2.1) ∧ (y.2.2.2.2.1) ≤ 9223372036854775807) => ?_)
  refine ok_factA (x := .tmp 1) 12 (ev_tmp rfl) rfl (fun (f1_12 : (y.2.2.2.2.2).size ≤ 9223372036854775807) => ?_)
  refine ok_seq ?_
  refine ok_region ?_
  refine o_box rfl rfl rfl (ev_tmp rfl) rfl rfl rfl rfl ?_
  refine o_box rfl rfl rfl (ev_tmp rfl) rfl rfl rfl rfl ?_
  refine o_alloc hT rfl rfl rfl rfl rfl rfl ?_
  refine o_alloc hT rfl rfl rfl rfl rfl rfl ?_
  refine o_pure rfl rfl (pu_move (.inr rfl) ev_bool) rfl rfl ?_
  refine ops_nil ?_
  refine then_n ?_
  refine ok_seq ?_
  refine ok_region ?_
  refine o_pure rfl rfl (pu_move (.inr rfl) (ev_int (inR_lit rfl))) rfl rfl ?_
  refine ops_nil ?_
  refine then_n ?_
  refine ok_seq ?_
  refine ok_seq ?_
  refine ok_region ?_
  refine o_pure rfl rfl (pu_move (.inr rfl) (ev_int (inR_lit rfl))) rfl rfl ?_
  refine ops_nil ?_
  refine then_n ?_
  refine ok_block ?_
  refine ok_loop (ι := Nat) (fun zz => ⟨[(2, .box 2 0), (3, .box 3 0), (4, .box 4 0), (5, .box 5 0), (6, .one (.dv [] (.bool (false)))), (7, .one (.dv [] (.int .i64 (curAt y x.2.1 zz)))), (8, .one (.dv [] (.int .i64 ((zz : Int)))))], [(2, 29, [(.dv [] (.str (x.1))), (.dv [] (itemsD (x.2.1))), (.dv [] (.int .i64 (x.2.2)))]), (3, 47, [(.dv [] (.bool (y.1.1))), (.dv [] (.bool (y.1.2.1))), (.dv [] (.int .i64 (y.1.2.2.1.1))), (.dv [] (.int .i64 (y.1.2.2.1.2.1))), (.dv [] (.str (y.1.2.2.1.2.2))), (.dv [] (.int .i64 (y.1.2.2.2.1))), (.dv [] (.int .i64 (y.1.2.2.2.2.1))), (.dv [] (.str (y.1.2.2.2.2.2))), (.dv [] (.bool (y.2.1))), (.dv [] (.bool (y.2.2.1))), (.dv [] (.int .i64 (y.2.2.2.1))), (.dv [] (.int .i64 (y.2.2.2.2.1))), (.dv [] (.str (y.2.2.2.2.2)))]), (4, 47, [(.dv [] (.bool (false))), (.dv [] (.bool (false))), (.dv [] (.int .i64 (0))), (.dv [] (.int .i64 (0))), (.dv [] (.str (ByteArray.empty))), (.dv [] (.int .i64 (0))), (.dv [] (.int .i64 (0))), (.dv [] (.str (ByteArray.empty))), (.dv [] (.bool (false))), (.dv [] (.bool (false))), (.dv [] (.int .i64 (0))), (.dv [] (.int .i64 (0))), (.dv [] (.str (ByteArray.empty)))]), (5, 52, [(.dv [] (.int .i64 (0))), (.dv [] (.int .i64 (0))), (.dv [] (.str (ByteArray.empty))), .nil])], []⟩) (fun zz => zz ≤ x.2.1.length) (fun zz => x.2.1.length - zz) (0) ?_ (weak_sub ⟨rfl, rfl, rfl, rfl, rfl, rfl, rfl, trivial⟩ ⟨rfl, rfl, rfl, rfl, trivial⟩ trivial rfl) (fun zz hx => ?_)
  · exact Nat.zero_le _
  obtain ⟨k, rfl⟩ : ∃ v, v = zz := ⟨_, rfl⟩
  replace hx : k ≤ x.2.1.length := hx
  show Ok _ _ _ _ _ (⟨[(2, .box 2 0), (3, .box 3 0), (4, .box 4 0), (5, .box 5 0), (6, .one (.dv [] (.bool (false)))), (7, .one (.dv [] (.int .i64 (curAt y x.2.1 k)))), (8, .one (.dv [] (.int .i64 ((k : Int)))))], [(2, 29, [(.dv [] (.str (x.1))), (.dv [] (itemsD (x.2.1))), (.dv [] (.int .i64 (x.2.2)))]), (3, 47, [(.dv [] (.bool (y.1.1))), (.dv [] (.bool (y.1.2.1))), (.dv [] (.int .i64 (y.1.2.2.1.1))), (.dv [] (.int .i64 (y.1.2.2.1.2.1))), (.dv [] (.str (y.1.2.2.1.2.2))), (.dv [] (.int .i64 (y.1.2.2.2.1))), (.dv [] (.int .i64 (y.1.2.2.2.2.1))), (.dv [] (.str (y.1.2.2.2.2.2))), (.dv [] (.bool (y.2.1))), (.dv [] (.bool (y.2.2.1))), (.dv [] (.int .i64 (y.2.2.2.1))), (.dv [] (.int .i64 (y.2.2.2.2.1))), (.dv [] (.str (y.2.2.2.2.2)))]), (4, 47, [(.dv [] (.bool (false))), (.dv [] (.bool (false))), (.dv [] (.int .i64 (0))), (.dv [] (.int .i64 (0))), (.dv [] (.str (ByteArray.empty))), (.dv [] (.int .i64 (0))), (.dv [] (.int .i64 (0))), (.dv [] (.str (ByteArray.empty))), (.dv [] (.bool (false))), (.dv [] (.bool (false))), (.dv [] (.int .i64 (0))), (.dv [] (.int .i64 (0))), (.dv [] (.str (ByteArray.empty)))]), (5, 52, [(.dv [] (.int .i64 (0))), (.dv [] (.int .i64 (0))), (.dv [] (.str (ByteArray.empty))), .nil])], []⟩ : St)
  refine ok_seq ?_
  refine ok_seq ?_
  refine ok_region ?_
  refine o_pure rfl rfl (pu_move (.inl rfl) (ev_tmp rfl)) rfl rfl ?_
  refine o_pure rfl rfl (pu_fieldBox hT rfl rfl rfl (ev_tmp rfl)) rfl rfl ?_
  refine o_pure rfl rfl (pu_loadBox1 hT rfl rfl (ev_tmp rfl) rfl rfl) rfl rfl ?_
  refine o_pure rfl rfl (pu_lenV hT rfl rfl (ev_tmp rfl)) rfl rfl ?_
  refine o_pure rfl rfl (pu_lss rfl (ev_tmp rfl) (ev_tmp rfl)) rfl rfl ?_
  refine ops_nil ?_
  refine then_n ?_
  refine ok_cond (ev_tmp rfl) (fun c1 => ?_) (fun c1 => ?_)
  · skip
    have d1 := of_decide_eq_true c1
    refine ok_skip ?_
    refine then_n ?_
    refine ok_seq ?_
    refine ok_block ?_
    refine ok_seq ?_
    refine ok_region ?_
    refine o_pure rfl rfl (pu_fieldBox hT rfl rfl rfl (ev_tmp rfl)) rfl rfl ?_
    refine o_pure rfl rfl (pu_loadBox1 hT rfl rfl (ev_tmp rfl) rfl rfl) rfl rfl ?_
    refine o_pure rfl rfl (pu_move (.inl rfl) (ev_tmp rfl)) rfl rfl ?_
    refine o_pure rfl rfl (pu_indexD hT rfl rfl rfl (ev_tmp rfl) (ev_tmp rfl) (fun _ => rfl) (by first | omega | (simp only [Bool.and_eq_true, Bool.or_eq_true, Bool.or_eq_false_iff, Bool.and_eq_false_iff, Bool.not_eq_true', Bool.not_eq_false', beq_iff_eq, decide_eq_true_eq, decide_eq_false_iff_not] at hg; omega) | (have hh := of_decide_eq_true (beq_tt hg); omega) | (have hh := of_decide_eq_true (beq_tt (and_r hg)); omega)) (by first | omega | (simp only [Bool.and_eq_true, Bool.or_eq_true, Bool.or_eq_false_iff, Bool.and_eq_false_iff, Bool.not_eq_true', Bool.not_eq_false', beq_iff_eq, decide_eq_true_eq, decide_eq_false_iff_not] at hg; omega) | (have hh := of_decide_eq_true (beq_tt hg); omega) | (have hh := of_decide_eq_true (beq_tt (and_r hg)); omega))) rfl rfl ?_
    refine o_pure rfl rfl (pu_fieldRef hT rfl rfl rfl (ev_tmp rfl)) rfl rfl ?_
    refine o_pure rfl rfl (pu_loadRefA hT rfl rfl (ev_tmp rfl) rfl) rfl rfl ?_
    refine o_alloc hT rfl rfl rfl rfl rfl rfl ?_
    refine o_store hT rfl rfl rfl rfl (ev_tmp rfl) (ev_tmp rfl) rfl rfl rfl rfl rfl rfl ?_
    refine ops_nil ?_
    refine then_n ?_
    refine ok_seq ?_
    refine ok_region ?_
    refine o_pure rfl rfl (pu_loadBoxA hT rfl rfl (ev_tmp rfl) rfl rfl) rfl rfl ?_
    refine o_pure rfl rfl (pu_fieldBox hT rfl rfl rfl (ev_tmp rfl)) rfl rfl ?_
    refine o_pure rfl rfl (pu_loadBoxA hT rfl rfl (ev_tmp rfl) rfl rfl) rfl rfl ?_
    refine o_call rfl rfl rfl Try.call58 ok_spec_CompareKeys (as_cons (ev_tmp rfl) (ag_agg (ag_cons ac_dv (ag_cons ac_dv (ag_cons ac_dv ag_nil)))) (as_cons (ev_tmp rfl) (ag_agg (ag_cons ac_dv (ag_cons ac_dv (ag_cons ac_dv ag_nil)))) as_nil)) rfl rfl ?_
    refine o_pure rfl rfl (pu_move (.inr rfl) (ev_tmp rfl)) rfl rfl ?_
    refine ops_nil ?_
    refine then_n ?_
    refine ok_seq ?_
    refine ok_seq ?_
    refine ok_region ?_
    refine o_pure rfl rfl (pu_loadBoxA hT rfl rfl (ev_tmp rfl) rfl rfl) rfl rfl ?_
    refine o_pure rfl rfl (pu_fieldBox hT rfl rfl rfl (ev_tmp rfl)) rfl rfl ?_
    refine o_pure rfl rfl (pu_loadBoxA hT rfl rfl (ev_tmp rfl) rfl rfl) rfl rfl ?_
    refine o_call rfl rfl rfl Try.call59 ok_spec_InRangeOf (as_cons (ev_tmp rfl) (ag_agg (ag_cons ac_dv (ag_cons ac_dv (ag_cons ac_dv ag_nil)))) (as_cons (ev_tmp rfl) (ag_agg (ag_cons ac_dv (ag_cons ac_dv (ag_cons ac_dv (ag_cons ac_dv (ag_cons ac_dv (ag_cons ac_dv (ag_cons ac_dv (ag_cons ac_dv ag_nil))))))))) as_nil)) rfl rfl ?_
    refine o_pure rfl rfl (pu_not rfl (ev_tmp rfl)) rfl rfl ?_
    refine o_pure rfl rfl (pu_move (.inl rfl) (ev_tmp rfl)) rfl rfl ?_
    refine o_pureG (gd_bool rfl rfl rfl rfl rfl) rfl (fun hg => pu_fieldBox hT rfl rfl rfl (ev_tmp rfl)) rfl rfl ?_
    refine o_pureG (gd_bool rfl rfl rfl rfl rfl) rfl (fun hg => pu_loadBox1 hT rfl rfl (ev_opt rfl hg) rfl rfl) rfl rfl ?_
    refine o_pureG (gd_bool rfl rfl rfl rfl rfl) rfl (fun hg => pu_move (.inl rfl) (ev_opt rfl hg)) rfl rfl ?_
    refine o_pureG (gd_opt rfl rfl rfl rfl rfl) rfl (fun hg => pu_fieldBox hT rfl rfl rfl (ev_tmp rfl)) rfl rfl ?_
    refine o_pureG (gd_opt rfl rfl rfl rfl rfl) rfl (fun hg => pu_loadBox1 hT rfl rfl (ev_opt rfl hg) rfl rfl) rfl rfl ?_
    refine o_pureG (gd_opt rfl rfl rfl rfl rfl) rfl (fun hg => pu_move (.inl rfl) (ev_opt rfl hg)) rfl rfl ?_
    refine o_pureG (gd_opt rfl rfl rfl rfl rfl) rfl (fun hg => pu_move (.inl rfl) (ev_tmp rfl)) rfl rfl ?_
    refine o_pureG (gd_opt rfl rfl rfl rfl rfl) rfl (fun hg => pu_geq rfl (ev_opt rfl hg) (ev_int (inR_lit rfl))) rfl rfl ?_
    refine o_pureG (gd_opt rfl rfl rfl rfl rfl) rfl (fun hg => pu_and rfl (ev_opt rfl hg) (fun hb => (ev_opt rfl (and_mk hg (beq_t hb))))) rfl rfl ?_
    refine o_pureG (gd_opt rfl rfl rfl rfl rfl) rfl (fun hg => pu_move (.inl rfl) (ev_opt rfl hg)) rfl rfl ?_
    refine o_pureG (gd_opt rfl rfl rfl rfl rfl) rfl (fun hg => pu_fieldBox hT rfl rfl rfl (ev_tmp rfl)) rfl rfl ?_
    refine o_pureG (gd_opt rfl rfl rfl rfl rfl) rfl (fun hg => pu_loadBox1 hT rfl rfl (ev_opt rfl hg) rfl rfl) rfl rfl ?_
    refine o_pureG (gd_opt rfl rfl rfl rfl rfl) rfl (fun hg => pu_not rfl (ev_opt rfl hg)) rfl rfl ?_
    refine o_pureG (gd_opt rfl rfl rfl rfl rfl) rfl (fun hg => pu_move (.inl rfl) (ev_opt rfl hg)) rfl rfl ?_
    refine o_pureG (gd_opt rfl rfl rfl rfl rfl) rfl (fun hg => pu_move (.inl rfl) (ev_tmp rfl)) rfl rfl ?_
    refine o_pureG (gd_opt rfl rfl rfl rfl rfl) rfl (fun hg => pu_leq rfl (ev_opt rfl hg) (ev_int (inR_lit rfl))) rfl rfl ?_
    refine o_pureG (gd_opt rfl rfl rfl rfl rfl) rfl (fun hg => pu_and rfl (ev_opt rfl hg) (fun hb => (ev_opt rfl (and_mk hg (beq_t hb))))) rfl rfl ?_
    refine o_pureG (gd_opt rfl rfl rfl rfl rfl) rfl (fun hg => pu_or rfl (ev_opt rfl hg) (fun hb => (ev_opt rfl (and_mk hg (beq_f hb))))) rfl rfl ?_
    refine o_pureG (gd_bool rfl rfl rfl rfl rfl) rfl (fun hg => pu_and rfl (ev_opt rfl hg) (fun hb => (ev_opt rfl (and_mk hg (beq_t hb))))) rfl rfl ?_
    refine o_pure rfl rfl (pu_or rfl (ev_tmp rfl) (fun hb => (ev_opt rfl (beq_f hb)))) rfl rfl ?_
    refine ops_nil ?_
    refine then_n ?_
    refine ok_cond (ev_tmp rfl) (fun c2 => ?_) (fun c2 => ?_)
    · skip
      refine ok_exit ?_
      refine then_e ?_
      refine blk_e rfl ?_
      refine then_n ?_
      refine ok_region ?_
      refine o_pure rfl rfl (pu_move (.inl rfl) (ev_tmp rfl)) rfl rfl ?_
      refine o_pure rfl rfl (pu_addR rfl (ev_tmp rfl) (ev_int (inR_lit rfl)) (inR64 (by omega) (by omega))) rfl rfl ?_
      refine o_pure rfl rfl (pu_move (.inr rfl) (ev_tmp rfl)) rfl rfl ?_
      refine ops_nil ?_
      refine then_n ?_
      refine ⟨k + 1, ?_, ?_, weak_sub ⟨rfl, rfl, rfl, rfl, rfl, (eqSlotI (curAt_no (by have h := c2; unfold curOk; revert h; cases y.2.1 <;> cases y.2.2.1 <;> simp <;> grind))), rfl, trivial⟩ ⟨rfl, rfl, rfl, rfl, trivial⟩ trivial rfl⟩
      · omega
      · omega
    · skip
      refine ok_skip ?_
      refine then_n ?_
      refine ok_seq ?_
      refine ok_region ?_
      refine o_pure rfl rfl (pu_move (.inl rfl) (ev_tmp rfl)) rfl rfl ?_
      refine o_pure rfl rfl (pu_lss rfl (ev_tmp rfl) (ev_int (inR_lit rfl))) rfl rfl ?_
      refine o_pure rfl rfl (pu_move (.inl rfl) (ev_tmp rfl)) rfl rfl ?_
      refine o_pureG (gd_bool rfl rfl rfl rfl rfl) rfl (fun hg => pu_fieldBox hT rfl rfl rfl (ev_tmp rfl)) rfl rfl ?_
      refine o_pureG (gd_bool rfl rfl rfl rfl rfl) rfl (fun hg => pu_loadBox1 hT rfl rfl (ev_opt rfl hg) rfl rfl) rfl rfl ?_
      refine o_pure rfl rfl (pu_or rfl (ev_tmp rfl) (fun hb => (ev_opt rfl (beq_f hb)))) rfl rfl ?_
      refine ops_nil ?_
      refine then_n ?_
      refine ok_cond (ev_tmp rfl) (fun c3 => ?_) (fun c3 => ?_)
      · skip
        refine ok_region ?_
        refine o_pure rfl rfl (pu_move (.inl rfl) (ev_tmp rfl)) rfl rfl ?_
        refine o_pure rfl rfl (pu_move (.inr rfl) (ev_tmp rfl)) rfl rfl ?_
        refine ops_nil ?_
        refine blk_n ?_
        refine then_n ?_
        refine ok_region ?_
        refine o_pure rfl rfl (pu_move (.inl rfl) (ev_tmp rfl)) rfl rfl ?_
        refine o_pure rfl rfl (pu_addR rfl (ev_tmp rfl) (ev_int (inR_lit rfl)) (inR64 (by omega) (by omega))) rfl rfl ?_
        refine o_pure rfl rfl (pu_move (.inr rfl) (ev_tmp rfl)) rfl rfl ?_
        refine ops_nil ?_
        refine then_n ?_
        refine ⟨k + 1, ?_, ?_, weak_sub ⟨rfl, rfl, rfl, rfl, rfl, (eqSlotI (curAt_yes (by have h := c2; have h' := c3; unfold curOk; revert h h'; cases y.2.1 <;> cases y.2.2.1 <;> simp <;> grind))), rfl, trivial⟩ ⟨rfl, rfl, rfl, rfl, trivial⟩ trivial rfl⟩
        · omega
        · omega
      · skip
        refine ok_skip ?_
        refine blk_n ?_
        refine then_n ?_
        refine ok_region ?_
        refine o_pure rfl rfl (pu_move (.inl rfl) (ev_tmp rfl)) rfl rfl ?_
        refine o_pure rfl rfl (pu_addR rfl (ev_tmp rfl) (ev_int (inR_lit rfl)) (inR64 (by omega) (by omega))) rfl rfl ?_
        refine o_pure rfl rfl (pu_move (.inr rfl) (ev_tmp rfl)) rfl rfl ?_
        refine ops_nil ?_
        refine then_n ?_
        refine ⟨k + 1, ?_, ?_, weak_sub ⟨rfl, rfl, rfl, rfl, rfl, (eqSlotI (curAt_no (by have h := c2; have h' := c3; unfold curOk; revert h h'; cases y.2.1 <;> cases y.2.2.1 <;> simp <;> grind))), rfl, trivial⟩ ⟨rfl, rfl, rfl, rfl, trivial⟩ trivial rfl⟩
        · omega
        · omega
  · skip
    have d1 := of_decide_eq_false c1
    have hk9 : k = x.2.1.length := by omega
    refine ok_exit ?_
    refine then_e ?_
    refine then_e ?_
    refine blk_e rfl ?_
    refine then_n ?_
    refine ok_seq ?_
    refine ok_seq ?_
    refine ok_region ?_
    refine o_pure rfl rfl (pu_move (.inl rfl) (ev_tmp rfl)) rfl rfl ?_
    refine o_pure rfl rfl (pu_lss rfl (ev_tmp rfl) (ev_int (inR_lit rfl))) rfl rfl ?_
    refine ops_nil ?_
    refine then_n ?_
    refine ok_cond (ev_tmp rfl) (fun c4 => ?_) (fun c4 => ?_)
    · skip
      have d4 := of_decide_eq_true c4
      refine ok_seq ?_
      refine ok_region ?_
      refine o_pure rfl rfl (pu_loadBoxA hT rfl rfl (ev_tmp rfl) rfl rfl) rfl rfl ?_
      refine o_pure rfl rfl (pu_build hT hB rfl rfl rfl bp_nil) rfl rfl ?_
      refine o_store hT rfl rfl rfl rfl (ev_tmp rfl) (ev_tmp rfl) rfl rfl rfl rfl rfl rfl ?_
      refine o_store hT rfl rfl rfl rfl (ev_tmp rfl) (ev_tmp rfl) rfl rfl rfl rfl rfl rfl ?_
      refine o_pure rfl rfl (pu_move (.inr rfl) ev_bool) rfl rfl ?_
      refine ops_nil ?_
      refine then_n ?_
      rw [curNext_no (s := x) (x := y) (by rw [← hk9]; exact d4)]
      refine ok_weak (weak_nilB 9001 (b := 5) (i := 3) (e := 109) (sz := 2) rfl rfl rfl rfl rfl) ?_
      refine ok_weak (σ' := ⟨[(4, .box 4 0), (5, .box 5 0), (6, .one (.dv [] (.bool (false))))], [(4, 47, [(.dv [] (.bool (y.1.1))), (.dv [] (.bool (y.1.2.1))), (.dv [] (.int .i64 (y.1.2.2.1.1))), (.dv [] (.int .i64 (y.1.2.2.1.2.1))), (.dv [] (.str (y.1.2.2.1.2.2))), (.dv [] (.int .i64 (y.1.2.2.2.1))), (.dv [] (.int .i64 (y.1.2.2.2.2.1))), (.dv [] (.str (y.1.2.2.2.2.2))), (.dv [] (.bool (y.2.1))), (.dv [] (.bool (y.2.2.1))), (.dv [] (.int .i64 (y.2.2.2.1))), (.dv [] (.int .i64 (y.2.2.2.2.1))), (.dv [] (.str (y.2.2.2.2.2)))]), (5, 52, [(.dv [] (.int .i64 (0))), (.dv [] (.int .i64 (0))), (.dv [] (.str (ByteArray.empty))), (.key 9001)])], [(9001, some (kcOf false (fieldsD [])))]⟩) (weak_sub ⟨rfl, rfl, rfl, trivial⟩ ⟨rfl, rfl, trivial⟩ ⟨rfl, trivial⟩ rfl) ?_
      refine ok_ret ?_
      refine then_r ?_
      refine fin3 (res_cell hT rfl rfl rfl rfl) (res_cell hT rfl rfl rfl rfl) (res_tmp rfl) rfl rfl rfl ?_
      exact ⟨rfl, rfl⟩
    · skip
      have d4 := of_decide_eq_false c4
      have hl := curAt_le y x.2.1 k
      refine ok_skip ?_
      refine then_n ?_
      refine ok_seq ?_
      refine ok_region ?_
      refine o_pure rfl rfl (pu_loadBoxA hT rfl rfl (ev_tmp rfl) rfl rfl) rfl rfl ?_
      refine o_alloc hT rfl rfl rfl rfl rfl rfl ?_
      refine o_store hT rfl rfl rfl rfl (ev_tmp rfl) (ev_tmp rfl) rfl rfl rfl rfl rfl rfl ?_
      refine ops_nil ?_
      refine then_n ?_
      refine ok_seq ?_
      refine ok_region ?_
      refine o_pure rfl rfl (pu_fieldBox hT rfl rfl rfl (ev_tmp rfl)) rfl rfl ?_
      refine o_store hT rfl rfl rfl rfl (ev_tmp rfl) ev_bool rfl rfl rfl rfl rfl rfl ?_
      refine ops_nil ?_
      refine then_n ?_
      refine ok_seq ?_
      refine ok_region ?_
      refine o_pure rfl rfl (pu_fieldBox hT rfl rfl rfl (ev_tmp rfl)) rfl rfl ?_
      refine o_pure rfl rfl (pu_loadBox1 hT rfl rfl (ev_tmp rfl) rfl rfl) rfl rfl ?_
      refine o_pure rfl rfl (pu_move (.inl rfl) (ev_tmp rfl)) rfl rfl ?_
      refine o_pure rfl rfl (pu_indexD hT rfl rfl rfl (ev_tmp rfl) (ev_tmp rfl) (fun _ => rfl) (by first | omega | (simp only [Bool.and_eq_true, Bool.or_eq_true, Bool.or_eq_false_iff, Bool.and_eq_false_iff, Bool.not_eq_true', Bool.not_eq_false', beq_iff_eq, decide_eq_true_eq, decide_eq_false_iff_not] at hg; omega) | (have hh := of_decide_eq_true (beq_tt hg); omega) | (have hh := of_decide_eq_true (beq_tt (and_r hg)); omega)) (by first | omega | (simp only [Bool.and_eq_true, Bool.or_eq_true, Bool.or_eq_false_iff, Bool.and_eq_false_iff, Bool.not_eq_true', Bool.not_eq_false', beq_iff_eq, decide_eq_true_eq, decide_eq_false_iff_not] at hg; omega) | (have hh := of_decide_eq_true (beq_tt hg); omega) | (have hh := of_decide_eq_true (beq_tt (and_r hg)); omega))) rfl rfl ?_
      refine o_pure rfl rfl (pu_fieldRef hT rfl rfl rfl (ev_tmp rfl)) rfl rfl ?_
      refine o_pure rfl rfl (pu_loadRefA hT rfl rfl (ev_tmp rfl) rfl) rfl rfl ?_
      refine o_pure rfl rfl (pu_fieldBox hT rfl rfl rfl (ev_tmp rfl)) rfl rfl ?_
      refine o_store hT rfl rfl rfl rfl (ev_tmp rfl) (ev_tmp rfl) rfl rfl rfl rfl rfl rfl ?_
      refine ops_nil ?_
      refine then_n ?_
      refine ok_seq ?_
      refine ok_regionD (oB := [2, 3, 4, 5, 11]) (oK := []) (by kernel_rfl) rfl rfl ?_
      refine d_take 0 rfl (by kernel_rfl) rfl rfl (pu_loadBoxA hT rfl rfl (ev_tmp rfl) rfl rfl) rfl rfl rfl rfl ?_
      refine d_take 1 rfl (by kernel_rfl) rfl rfl (pu_fieldBox hT rfl rfl rfl (ev_tmp rfl)) rfl rfl rfl rfl ?_
      refine d_take 2 rfl (by kernel_rfl) rfl rfl (pu_loadBox1 hT rfl rfl (ev_tmp rfl) rfl rfl) rfl rfl rfl rfl ?_
      refine d_take 3 rfl (by kernel_rfl) rfl rfl (pu_move (.inl rfl) (ev_tmp rfl)) rfl rfl rfl rfl ?_
      refine d_take 4 rfl (by kernel_rfl) rfl rfl (pu_indexD hT rfl rfl rfl (ev_tmp rfl) (ev_tmp rfl) (fun _ => rfl) (by first | omega | (simp only [Bool.and_eq_true, Bool.or_eq_true, Bool.or_eq_false_iff, Bool.and_eq_false_iff, Bool.not_eq_true', Bool.not_eq_false', beq_iff_eq, decide_eq_true_eq, decide_eq_false_iff_not] at hg; omega) | (have hh := of_decide_eq_true (beq_tt hg); omega) | (have hh := of_decide_eq_true (beq_tt (and_r hg)); omega)) (by first | omega | (simp only [Bool.and_eq_true, Bool.or_eq_true, Bool.or_eq_false_iff, Bool.and_eq_false_iff, Bool.not_eq_true', Bool.not_eq_false', beq_iff_eq, decide_eq_true_eq, decide_eq_false_iff_not] at hg; omega) | (have hh := of_decide_eq_true (beq_tt hg); omega) | (have hh := of_decide_eq_true (beq_tt (and_r hg)); omega))) rfl rfl rfl rfl ?_
      refine d_take 5 rfl (by kernel_rfl) rfl rfl (pu_loadRefA hT rfl rfl (ev_tmp rfl) rfl) rfl rfl rfl rfl ?_
      refine d_callK 1998 6 rfl (by kernel_rfl) rfl rfl rfl Try.call50 (ok_spec_l6Item (by first | omega | (have h9 := wget (w := wItem) (xs := x.2.1) (i := (curAt y x.2.1 k).toNat) (by omega); have h8 : wStore x = x.1.size + (x.2.1.length + wSum wItem x.2.1) := rfl; have h7 := item_len (x.2.1.getD (curAt y x.2.1 k).toNat default); omega))) (as_cons (ev_tmp rfl) (ag_agg (ag_cons ac_dv (ag_cons ac_dv (ag_cons ac_dv (ag_cons ac_dv ag_nil))))) as_nil) rfl rfl rfl rfl rfl ?_
      refine d_chain [7, 8, 9] rfl rfl (by kernel_rfl) ?_
      refine o_store hT rfl rfl rfl rfl (ev_tmp rfl) (ev_tmp rfl) rfl rfl rfl rfl rfl rfl ?_
      refine o_store hT rfl rfl rfl rfl (ev_tmp rfl) (ev_tmp rfl) rfl rfl rfl rfl rfl rfl ?_
      refine o_pure rfl rfl (pu_move (.inr rfl) ev_bool) rfl rfl ?_
      refine ops_nil ?_
      refine then_n ?_
      rw [curNext_yes (s := x) (x := y) (by rw [← hk9]; exact d4), ← hk9]
      refine ok_weak (σ' := ⟨[(4, .box 4 0), (5, .box 5 0), (6, .one (.dv [] (.bool (true))))], [(4, 47, [(.dv [] (.bool (y.1.1))), (.dv [] (.bool (y.1.2.1))), (.dv [] (.int .i64 (y.1.2.2.1.1))), (.dv [] (.int .i64 (y.1.2.2.1.2.1))), (.dv [] (.str (y.1.2.2.1.2.2))), (.dv [] (.int .i64 (y.1.2.2.2.1))), (.dv [] (.int .i64 (y.1.2.2.2.2.1))), (.dv [] (.str (y.1.2.2.2.2.2))), (.dv [] (.bool (y.2.1))), (.dv [] (.bool (true))), (.dv [] (.int .i64 ((((x.2.1)).getD (curAt y x.2.1 k).toNat default).1.1))), (.dv [] (.int .i64 ((((x.2.1)).getD (curAt y x.2.1 k).toNat default).1.2.1))), (.dv [] (.str ((((x.2.1)).getD (curAt y x.2.1 k).toNat default).1.2.2)))]), (5, 52, [(.dv [] (.int .i64 (((((x.2.1)).getD (curAt y x.2.1 k).toNat default)).1.1))), (.dv [] (.int .i64 (((((x.2.1)).getD (curAt y x.2.1 k).toNat default)).1.2.1))), (.dv [] (.str (((((x.2.1)).getD (curAt y x.2.1 k).toNat default)).1.2.2))), (.key 9001)])], [(9001, some (kcOf false (fieldsD (x.2.1.getD (curAt y x.2.1 k).toNat default).2)))]⟩) (weak_sub ⟨rfl, rfl, rfl, trivial⟩ ⟨rfl, rfl, trivial⟩ ⟨rfl, trivial⟩ rfl) ?_
      refine ok_ret ?_
      refine fin3 (res_cell hT rfl rfl rfl rfl) (res_cell hT rfl rfl rfl rfl) (res_tmp rfl) rfl rfl rfl ?_
      exact ⟨rfl, rfl⟩
end Go.Proofs.Ytbmgommbmhmbgaa
