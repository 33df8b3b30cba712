/-
  Small functions: ranges, texts, keys.
-/
import Derived.Test.YtbmgommbmhmbgaaTyp
namespace Go.Proofs.Ytbmgommbmhmbgaa
open Go.RowKit
open Go.Proofs
set_option linter.unusedVariables false
set_option linter.unusedSimpArgs false
set_option maxRecDepth 100000 in
theorem ok_impl_InRange {n lo hi : Int}  : PFn Try.prog 97 [.one (.dv [] (.int .i64 (n))), .one (.dv [] (.int .i64 (lo))), .one (.dv [] (.int .i64 (hi)))] (.one (.dv [] (.bool (decide (lo ≤ n) && decide (n ≤ hi))))) := by
  refine ⟨fn_intro Try.func97 rfl Try.ntmps97 Try.results97 rfl (fun C => ?_)⟩
  refine ok_fact (x := .tmp 0) (ev_tmp rfl) (fun (f0 : -9223372036854775808 ≤ (n) ∧ (n) ≤ 9223372036854775807) => ?_)
  refine ok_fact (x := .tmp 1) (ev_tmp rfl) (fun (f1 : -9223372036854775808 ≤ (lo) ∧ (lo) ≤ 9223372036854775807) => ?_)
  refine ok_fact (x := .tmp 2) (ev_tmp rfl) (fun (f2 : -9223372036854775808 ≤ (hi) ∧ (hi) ≤ 9223372036854775807) => ?_)
  refine ok_seq ?_
  refine ok_region ?_
  refine o_pure rfl rfl (pu_move (.inr rfl) ev_bool) rfl rfl ?_
  refine ops_nil ?_
  refine then_n ?_
  refine ok_seq ?_
  refine ok_region ?_
  refine o_pure rfl rfl (pu_move (.inl rfl) (ev_tmp rfl)) rfl rfl ?_
  refine o_pure rfl rfl (pu_move (.inl rfl) (ev_tmp rfl)) rfl rfl ?_
  refine o_pure rfl rfl (pu_leq rfl (ev_tmp rfl) (ev_tmp rfl)) rfl rfl ?_
  refine o_pure rfl rfl (pu_move (.inl rfl) (ev_tmp rfl)) rfl rfl ?_
  refine o_pureG (gd_bool rfl rfl rfl rfl rfl) rfl (fun hg => pu_move (.inl rfl) (ev_tmp rfl)) rfl rfl ?_
  refine o_pureG (gd_bool rfl rfl rfl rfl rfl) rfl (fun hg => pu_move (.inl rfl) (ev_tmp rfl)) rfl rfl ?_
  refine o_pureG (gd_bool rfl rfl rfl rfl rfl) rfl (fun hg => pu_leq rfl (ev_opt rfl hg) (ev_opt rfl hg)) rfl rfl ?_
  refine o_pure rfl rfl (pu_and rfl (ev_tmp rfl) (fun hb => (ev_opt rfl (beq_t hb)))) rfl rfl ?_
  refine o_pure rfl rfl (pu_move (.inr rfl) (ev_tmp rfl)) rfl rfl ?_
  refine ops_nil ?_
  refine then_n ?_
  refine ok_ret ?_
  refine fin1 (res_tmp rfl) (eqB ?_)
  rfl
set_option maxRecDepth 100000 in
theorem ok_spec_l1In {n lo hi : Int}  : PFn Try.prog 75 [.one (.dv [] (.int .i64 (n))), .one (.dv [] (.int .i64 (lo))), .one (.dv [] (.int .i64 (hi)))] (.one (.dv [] (.bool (decide (lo ≤ n) && decide (n ≤ hi))))) := by
  refine ⟨fn_intro Try.func75 rfl Try.ntmps75 Try.results75 rfl (fun C => ?_)⟩
  refine ok_fact (x := .tmp 0) (ev_tmp rfl) (fun (f0 : -9223372036854775808 ≤ (n) ∧ (n) ≤ 9223372036854775807) => ?_)
  refine ok_fact (x := .tmp 1) (ev_tmp rfl) (fun (f1 : -9223372036854775808 ≤ (lo) ∧ (lo) ≤ 9223372036854775807) => ?_)
  refine ok_fact (x := .tmp 2) (ev_tmp rfl) (fun (f2 : -9223372036854775808 ≤ (hi) ∧ (hi) ≤ 9223372036854775807) => ?_)
  refine ok_seq ?_
  refine ok_region ?_
  refine o_pure rfl rfl (pu_move (.inr rfl) ev_bool) rfl rfl ?_
  refine ops_nil ?_
  refine then_n ?_
  refine ok_seq ?_
  refine ok_region ?_
  refine o_pure rfl rfl (pu_move (.inl rfl) (ev_tmp rfl)) rfl rfl ?_
  refine o_pure rfl rfl (pu_move (.inl rfl) (ev_tmp rfl)) rfl rfl ?_
  refine o_pure rfl rfl (pu_geq rfl (ev_tmp rfl) (ev_tmp rfl)) rfl rfl ?_
  refine o_pure rfl rfl (pu_move (.inl rfl) (ev_tmp rfl)) rfl rfl ?_
  refine o_pureG (gd_bool rfl rfl rfl rfl rfl) rfl (fun hg => pu_move (.inl rfl) (ev_tmp rfl)) rfl rfl ?_
  refine o_pureG (gd_bool rfl rfl rfl rfl rfl) rfl (fun hg => pu_move (.inl rfl) (ev_tmp rfl)) rfl rfl ?_
  refine o_pureG (gd_bool rfl rfl rfl rfl rfl) rfl (fun hg => pu_leq rfl (ev_opt rfl hg) (ev_opt rfl hg)) rfl rfl ?_
  refine o_pure rfl rfl (pu_and rfl (ev_tmp rfl) (fun hb => (ev_opt rfl (beq_t hb)))) rfl rfl ?_
  refine o_pure rfl rfl (pu_move (.inr rfl) (ev_tmp rfl)) rfl rfl ?_
  refine ops_nil ?_
  refine then_n ?_
  refine ok_ret ?_
  refine fin1 (res_tmp rfl) (eqB ?_)
  rfl

theorem take_all {α : Type} {p : α → Bool} {l : List α} {k : Nat} {d : α} (h : (l.take k).all p = true) (hk : k < l.length) (hp : p (l.getD k d) = true) : (l.take (k + 1)).all p = true := by
  rw [List.take_succ_eq_append_getElem hk, List.all_append, h]
  simp only [List.all_cons, List.all_nil, Bool.and_true, Bool.true_and]
  simpa [List.getD, List.getElem?_eq_getElem hk] using hp
theorem all_no {α : Type} {p : α → Bool} {l : List α} {k : Nat} {d : α} (hk : k < l.length) (hp : p (l.getD k d) = false) : l.all p = false := by
  rw [List.all_eq_false]
  refine ⟨l[k], List.getElem_mem hk, ?_⟩
  simpa [List.getD, List.getElem?_eq_getElem hk] using hp
theorem all_yes {α : Type} {p : α → Bool} {l : List α} {k : Nat} (h : (l.take k).all p = true) (hk : l.length ≤ k) : l.all p = true := by rwa [List.take_of_length_le hk] at h
theorem size_len (s : ByteArray) : s.data.toList.length = s.size := rfl
def kch (b : UInt8) : Bool := (decide ((97 : Int) ≤ (b.toNat : Int)) && decide ((b.toNat : Int) ≤ 122)) || (decide ((48 : Int) ≤ (b.toNat : Int)) && decide ((b.toNat : Int) ≤ 57))
def kText (s : Str) : Bool := s.data.toList.all kch && decide ((s.size : Int) ≤ 12)
def wch (sl : Bool) (b : UInt8) : Bool := (decide ((97 : Int) ≤ (b.toNat : Int)) && decide ((b.toNat : Int) ≤ 122)) || (sl && decide ((b.toNat : Int) = 47))
theorem kch_spec (b : UInt8) : ((decide ((b.toNat : Int) < 97) || decide ((122 : Int) < (b.toNat : Int))) && (decide ((b.toNat : Int) < 48) || decide ((57 : Int) < (b.toNat : Int)))) = !kch b := by
  unfold kch
  generalize (b.toNat : Int) = z
  by_cases h1 : z < 97 <;> by_cases h2 : 122 < z <;> by_cases h3 : z < 48 <;> by_cases h4 : 57 < z <;> simp [h1, h2, h3, h4] <;> omega

set_option maxRecDepth 100000 in
theorem ok_impl_isKeyText {s : Str}  : PFn Try.prog 98 [.one (.dv [] (.str (s)))] (.one (.dv [] (.bool (kText s)))) := by
  refine ⟨fn_intro Try.func98 rfl Try.ntmps98 Try.results98 rfl (fun C => ?_)⟩
  refine ok_fact (x := .tmp 0) (ev_tmp rfl) (fun (f0 : (s).size ≤ 9223372036854775807) => ?_)
  refine ok_seq ?_
  refine ok_region ?_
  refine o_pure rfl rfl (pu_move (.inr rfl) ev_bool) rfl rfl ?_
  refine ops_nil ?_
  refine then_n ?_
  refine ok_seq ?_
  refine ok_seq ?_
  refine ok_region ?_
  refine o_pure rfl rfl (pu_move (.inr rfl) (ev_int (inR_lit rfl))) rfl rfl ?_
  refine ops_nil ?_
  refine then_n ?_
  refine ok_block ?_
  refine ok_loop (ι := Nat) (fun zz => ⟨[(0, .one (.dv [] (.str (s)))), (3, .one (.dv [] (.int .i64 ((zz : Int)))))], [], []⟩) (fun zz => zz ≤ s.size ∧ (s.data.toList.take zz).all kch = true) (fun zz => s.size - zz) (0) ?_ (weak_sub ⟨rfl, rfl, trivial⟩ trivial trivial rfl) (fun zz hx => ?_)
  · exact ⟨Nat.zero_le _, rfl⟩
  obtain ⟨k, rfl⟩ : ∃ v, v = zz := ⟨_, rfl⟩
  replace hx : k ≤ s.size ∧ (s.data.toList.take k).all kch = true := hx
  obtain ⟨hk, hall⟩ := hx
  show Ok _ _ _ _ _ (⟨[(0, .one (.dv [] (.str (s)))), (3, .one (.dv [] (.int .i64 ((k : Int)))))], [], []⟩ : St)
  refine ok_seq ?_
  refine ok_seq ?_
  refine ok_region ?_
  refine o_pure rfl rfl (pu_move (.inl rfl) (ev_tmp rfl)) rfl rfl ?_
  refine o_pure rfl rfl (pu_move (.inl rfl) (ev_tmp rfl)) rfl rfl ?_
  refine o_pure rfl rfl (pu_lenS hT rfl rfl (ev_tmp rfl)) rfl rfl ?_
  refine o_pure rfl rfl (pu_lss rfl (ev_tmp rfl) (ev_tmp rfl)) rfl rfl ?_
  refine ops_nil ?_
  refine then_n ?_
  refine ok_cond (ev_tmp rfl) (fun c1 => ?_) (fun c1 => ?_)
  · skip
    have d1 := of_decide_eq_true c1
    refine ok_skip ?_
    refine then_n ?_
    refine ok_seq ?_
    refine ok_block ?_
    refine ok_seq ?_
    refine ok_region ?_
    refine o_pure rfl rfl (pu_move (.inl rfl) (ev_tmp rfl)) rfl rfl ?_
    refine o_pure rfl rfl (pu_move (.inl rfl) (ev_tmp rfl)) rfl rfl ?_
    refine o_pure rfl rfl (pu_indexS hT rfl rfl (ev_tmp rfl) (ev_tmp rfl) (by first | omega | (simp only [Bool.and_eq_true, Bool.or_eq_true, Bool.or_eq_false_iff, Bool.and_eq_false_iff, Bool.not_eq_true', Bool.not_eq_false', beq_iff_eq, decide_eq_true_eq, decide_eq_false_iff_not] at hg; omega) | (have hh := of_decide_eq_true (beq_tt hg); omega) | (have hh := of_decide_eq_true (beq_tt (and_r hg)); omega)) (by first | omega | (simp only [Bool.and_eq_true, Bool.or_eq_true, Bool.or_eq_false_iff, Bool.and_eq_false_iff, Bool.not_eq_true', Bool.not_eq_false', beq_iff_eq, decide_eq_true_eq, decide_eq_false_iff_not] at hg; omega) | (have hh := of_decide_eq_true (beq_tt hg); omega) | (have hh := of_decide_eq_true (beq_tt (and_r hg)); omega))) rfl rfl ?_
    refine o_pure rfl rfl (pu_geq rfl (ev_tmp rfl) (ev_int (inR_lit rfl))) rfl rfl ?_
    refine o_pure rfl rfl (pu_move (.inl rfl) (ev_tmp rfl)) rfl rfl ?_
    refine o_pureG (gd_bool rfl rfl rfl rfl rfl) rfl (fun hg => pu_move (.inl rfl) (ev_tmp rfl)) rfl rfl ?_
    refine o_pureG (gd_bool rfl rfl rfl rfl rfl) rfl (fun hg => pu_move (.inl rfl) (ev_tmp rfl)) rfl rfl ?_
    refine o_pureG (gd_bool rfl rfl rfl rfl rfl) rfl (fun hg => pu_indexS hT rfl rfl (ev_opt rfl hg) (ev_opt rfl hg) (by first | omega | (simp only [Bool.and_eq_true, Bool.or_eq_true, Bool.or_eq_false_iff, Bool.and_eq_false_iff, Bool.not_eq_true', Bool.not_eq_false', beq_iff_eq, decide_eq_true_eq, decide_eq_false_iff_not] at hg; omega) | (have hh := of_decide_eq_true (beq_tt hg); omega) | (have hh := of_decide_eq_true (beq_tt (and_r hg)); omega)) (by first | omega | (simp only [Bool.and_eq_true, Bool.or_eq_true, Bool.or_eq_false_iff, Bool.and_eq_false_iff, Bool.not_eq_true', Bool.not_eq_false', beq_iff_eq, decide_eq_true_eq, decide_eq_false_iff_not] at hg; omega) | (have hh := of_decide_eq_true (beq_tt hg); omega) | (have hh := of_decide_eq_true (beq_tt (and_r hg)); omega))) rfl rfl ?_
    refine o_pureG (gd_bool rfl rfl rfl rfl rfl) rfl (fun hg => pu_leq rfl (ev_opt rfl hg) (ev_int (inR_lit rfl))) rfl rfl ?_
    refine o_pure rfl rfl (pu_and rfl (ev_tmp rfl) (fun hb => (ev_opt rfl (beq_t hb)))) rfl rfl ?_
    refine o_pure rfl rfl (pu_move (.inl rfl) (ev_tmp rfl)) rfl rfl ?_
    refine o_pureG (gd_bool rfl rfl rfl rfl rfl) rfl (fun hg => pu_move (.inl rfl) (ev_tmp rfl)) rfl rfl ?_
    refine o_pureG (gd_bool rfl rfl rfl rfl rfl) rfl (fun hg => pu_move (.inl rfl) (ev_tmp rfl)) rfl rfl ?_
    refine o_pureG (gd_bool rfl rfl rfl rfl rfl) rfl (fun hg => pu_indexS hT rfl rfl (ev_opt rfl hg) (ev_opt rfl hg) (by first | omega | (simp only [Bool.and_eq_true, Bool.or_eq_true, Bool.or_eq_false_iff, Bool.and_eq_false_iff, Bool.not_eq_true', Bool.not_eq_false', beq_iff_eq, decide_eq_true_eq, decide_eq_false_iff_not] at hg; omega) | (have hh := of_decide_eq_true (beq_tt hg); omega) | (have hh := of_decide_eq_true (beq_tt (and_r hg)); omega)) (by first | omega | (simp only [Bool.and_eq_true, Bool.or_eq_true, Bool.or_eq_false_iff, Bool.and_eq_false_iff, Bool.not_eq_true', Bool.not_eq_false', beq_iff_eq, decide_eq_true_eq, decide_eq_false_iff_not] at hg; omega) | (have hh := of_decide_eq_true (beq_tt hg); omega) | (have hh := of_decide_eq_true (beq_tt (and_r hg)); omega))) rfl rfl ?_
    refine o_pureG (gd_bool rfl rfl rfl rfl rfl) rfl (fun hg => pu_geq rfl (ev_opt rfl hg) (ev_int (inR_lit rfl))) rfl rfl ?_
    refine o_pureG (gd_bool rfl rfl rfl rfl rfl) rfl (fun hg => pu_move (.inl rfl) (ev_opt rfl hg)) rfl rfl ?_
    refine o_pureG (gd_opt rfl rfl rfl rfl rfl) rfl (fun hg => pu_move (.inl rfl) (ev_tmp rfl)) rfl rfl ?_
    refine o_pureG (gd_opt rfl rfl rfl rfl rfl) rfl (fun hg => pu_move (.inl rfl) (ev_tmp rfl)) rfl rfl ?_
    refine o_pureG (gd_opt rfl rfl rfl rfl rfl) rfl (fun hg => pu_indexS hT rfl rfl (ev_opt rfl hg) (ev_opt rfl hg) (by first | omega | (simp only [Bool.and_eq_true, Bool.or_eq_true, Bool.or_eq_false_iff, Bool.and_eq_false_iff, Bool.not_eq_true', Bool.not_eq_false', beq_iff_eq, decide_eq_true_eq, decide_eq_false_iff_not] at hg; omega) | (have hh := of_decide_eq_true (beq_tt hg); omega) | (have hh := of_decide_eq_true (beq_tt (and_r hg)); omega)) (by first | omega | (simp only [Bool.and_eq_true, Bool.or_eq_true, Bool.or_eq_false_iff, Bool.and_eq_false_iff, Bool.not_eq_true', Bool.not_eq_false', beq_iff_eq, decide_eq_true_eq, decide_eq_false_iff_not] at hg; omega) | (have hh := of_decide_eq_true (beq_tt hg); omega) | (have hh := of_decide_eq_true (beq_tt (and_r hg)); omega))) rfl rfl ?_
    refine o_pureG (gd_opt rfl rfl rfl rfl rfl) rfl (fun hg => pu_leq rfl (ev_opt rfl hg) (ev_int (inR_lit rfl))) rfl rfl ?_
    refine o_pureG (gd_bool rfl rfl rfl rfl rfl) rfl (fun hg => pu_and rfl (ev_opt rfl hg) (fun hb => (ev_opt rfl (and_mk hg (beq_t hb))))) rfl rfl ?_
    refine o_pure rfl rfl (pu_or rfl (ev_tmp rfl) (fun hb => (ev_opt rfl (beq_f hb)))) rfl rfl ?_
    refine o_pure rfl rfl (pu_not rfl (ev_tmp rfl)) rfl rfl ?_
    refine ops_nil ?_
    refine then_n ?_
    refine ok_cond (ev_tmp rfl) (fun c2 => ?_) (fun c2 => ?_)
    · skip
      refine ok_seq ?_
      refine ok_region ?_
      refine o_pure rfl rfl (pu_move (.inr rfl) ev_bool) rfl rfl ?_
      refine ops_nil ?_
      refine then_n ?_
      refine ok_ret ?_
      refine blk_r ?_
      refine then_r ?_
      refine then_r ?_
      refine blk_r ?_
      refine then_r ?_
      refine fin1 (res_tmp rfl) (eqB ?_)
      rw [kText, all_no (k := k) (d := 0) (by rw [size_len]; omega) (by have h : (!kch (s.data.toList.getD k 0)) = true := c2; simpa using h)]; rfl
    · skip
      refine ok_skip ?_
      refine blk_n ?_
      refine then_n ?_
      refine ok_region ?_
      refine o_pure rfl rfl (pu_move (.inl rfl) (ev_tmp rfl)) rfl rfl ?_
      refine o_pure rfl rfl (pu_addR rfl (ev_tmp rfl) (ev_int (inR_lit rfl)) (inR64 (by omega) (by omega))) rfl rfl ?_
      refine o_pure rfl rfl (pu_move (.inr rfl) (ev_tmp rfl)) rfl rfl ?_
      refine ops_nil ?_
      refine then_n ?_
      refine ⟨k + 1, ?_, ?_, weak_sub ⟨rfl, rfl, trivial⟩ trivial trivial rfl⟩
      · exact ⟨by omega, take_all (d := 0) hall (by rw [size_len]; omega) (by have h : (!kch (s.data.toList.getD k 0)) = false := c2; simpa using h)⟩
      · omega
  · skip
    have d1 := of_decide_eq_false c1
    refine ok_exit ?_
    refine then_e ?_
    refine then_e ?_
    refine blk_e rfl ?_
    refine then_n ?_
    refine ok_seq ?_
    refine ok_region ?_
    refine o_pure rfl rfl (pu_move (.inl rfl) (ev_tmp rfl)) rfl rfl ?_
    refine o_pure rfl rfl (pu_lenS hT rfl rfl (ev_tmp rfl)) rfl rfl ?_
    refine o_pure rfl rfl (pu_leq rfl (ev_tmp rfl) (ev_int (inR_lit rfl))) rfl rfl ?_
    refine o_pure rfl rfl (pu_move (.inr rfl) (ev_tmp rfl)) rfl rfl ?_
    refine ops_nil ?_
    refine then_n ?_
    refine ok_ret ?_
    refine fin1 (res_tmp rfl) (eqB ?_)
    rw [kText, all_yes hall (by rw [size_len]; omega)]; rfl
set_option maxRecDepth 100000 in
theorem ok_spec_l4Text {s : Str}  : PFn Try.prog 93 [.one (.dv [] (.str (s)))] (.one (.dv [] (.bool (kText s)))) := by
  refine ⟨fn_intro Try.func93 rfl Try.ntmps93 Try.results93 rfl (fun C => ?_)⟩
  refine ok_fact (x := .tmp 0) (ev_tmp rfl) (fun (f0 : (s).size ≤ 9223372036854775807) => ?_)
  refine ok_seq ?_
  refine ok_region ?_
  refine o_pure rfl rfl (pu_move (.inr rfl) ev_bool) rfl rfl ?_
  refine ops_nil ?_
  refine then_n ?_
  refine ok_seq ?_
  refine ok_seq ?_
  refine ok_region ?_
  refine o_pure rfl rfl (pu_move (.inr rfl) (ev_int (inR_lit rfl))) rfl rfl ?_
  refine ops_nil ?_
  refine then_n ?_
  refine ok_block ?_
  refine ok_loop (ι := Nat) (fun zz => ⟨[(0, .one (.dv [] (.str (s)))), (3, .one (.dv [] (.int .i64 ((zz : Int)))))], [], []⟩) (fun zz => zz ≤ s.size ∧ (s.data.toList.take zz).all kch = true) (fun zz => s.size - zz) (0) ?_ (weak_sub ⟨rfl, rfl, trivial⟩ trivial trivial rfl) (fun zz hx => ?_)
  · exact ⟨Nat.zero_le _, rfl⟩
  obtain ⟨k, rfl⟩ : ∃ v, v = zz := ⟨_, rfl⟩
  replace hx : k ≤ s.size ∧ (s.data.toList.take k).all kch = true := hx
  obtain ⟨hk, hall⟩ := hx
  show Ok _ _ _ _ _ (⟨[(0, .one (.dv [] (.str (s)))), (3, .one (.dv [] (.int .i64 ((k : Int)))))], [], []⟩ : St)
  refine ok_seq ?_
  refine ok_seq ?_
  refine ok_region ?_
  refine o_pure rfl rfl (pu_move (.inl rfl) (ev_tmp rfl)) rfl rfl ?_
  refine o_pure rfl rfl (pu_move (.inl rfl) (ev_tmp rfl)) rfl rfl ?_
  refine o_pure rfl rfl (pu_lenS hT rfl rfl (ev_tmp rfl)) rfl rfl ?_
  refine o_pure rfl rfl (pu_lss rfl (ev_tmp rfl) (ev_tmp rfl)) rfl rfl ?_
  refine ops_nil ?_
  refine then_n ?_
  refine ok_cond (ev_tmp rfl) (fun c1 => ?_) (fun c1 => ?_)
  · skip
    have d1 := of_decide_eq_true c1
    refine ok_skip ?_
    refine then_n ?_
    refine ok_seq ?_
    refine ok_block ?_
    refine ok_seq ?_
    refine ok_region ?_
    refine o_pure rfl rfl (pu_move (.inl rfl) (ev_tmp rfl)) rfl rfl ?_
    refine o_pure rfl rfl (pu_move (.inl rfl) (ev_tmp rfl)) rfl rfl ?_
    refine o_pure rfl rfl (pu_indexS hT rfl rfl (ev_tmp rfl) (ev_tmp rfl) (by first | omega | (simp only [Bool.and_eq_true, Bool.or_eq_true, Bool.or_eq_false_iff, Bool.and_eq_false_iff, Bool.not_eq_true', Bool.not_eq_false', beq_iff_eq, decide_eq_true_eq, decide_eq_false_iff_not] at hg; omega) | (have hh := of_decide_eq_true (beq_tt hg); omega) | (have hh := of_decide_eq_true (beq_tt (and_r hg)); omega)) (by first | omega | (simp only [Bool.and_eq_true, Bool.or_eq_true, Bool.or_eq_false_iff, Bool.and_eq_false_iff, Bool.not_eq_true', Bool.not_eq_false', beq_iff_eq, decide_eq_true_eq, decide_eq_false_iff_not] at hg; omega) | (have hh := of_decide_eq_true (beq_tt hg); omega) | (have hh := of_decide_eq_true (beq_tt (and_r hg)); omega))) rfl rfl ?_
    refine o_pure rfl rfl (pu_lss rfl (ev_tmp rfl) (ev_int (inR_lit rfl))) rfl rfl ?_
    refine o_pure rfl rfl (pu_move (.inl rfl) (ev_tmp rfl)) rfl rfl ?_
    refine o_pureG (gd_bool rfl rfl rfl rfl rfl) rfl (fun hg => pu_move (.inl rfl) (ev_tmp rfl)) rfl rfl ?_
    refine o_pureG (gd_bool rfl rfl rfl rfl rfl) rfl (fun hg => pu_move (.inl rfl) (ev_tmp rfl)) rfl rfl ?_
    refine o_pureG (gd_bool rfl rfl rfl rfl rfl) rfl (fun hg => pu_indexS hT rfl rfl (ev_opt rfl hg) (ev_opt rfl hg) (by first | omega | (simp only [Bool.and_eq_true, Bool.or_eq_true, Bool.or_eq_false_iff, Bool.and_eq_false_iff, Bool.not_eq_true', Bool.not_eq_false', beq_iff_eq, decide_eq_true_eq, decide_eq_false_iff_not] at hg; omega) | (have hh := of_decide_eq_true (beq_tt hg); omega) | (have hh := of_decide_eq_true (beq_tt (and_r hg)); omega)) (by first | omega | (simp only [Bool.and_eq_true, Bool.or_eq_true, Bool.or_eq_false_iff, Bool.and_eq_false_iff, Bool.not_eq_true', Bool.not_eq_false', beq_iff_eq, decide_eq_true_eq, decide_eq_false_iff_not] at hg; omega) | (have hh := of_decide_eq_true (beq_tt hg); omega) | (have hh := of_decide_eq_true (beq_tt (and_r hg)); omega))) rfl rfl ?_
    refine o_pureG (gd_bool rfl rfl rfl rfl rfl) rfl (fun hg => pu_gtr rfl (ev_opt rfl hg) (ev_int (inR_lit rfl))) rfl rfl ?_
    refine o_pure rfl rfl (pu_or rfl (ev_tmp rfl) (fun hb => (ev_opt rfl (beq_f hb)))) rfl rfl ?_
    refine o_pure rfl rfl (pu_move (.inl rfl) (ev_tmp rfl)) rfl rfl ?_
    refine o_pureG (gd_bool rfl rfl rfl rfl rfl) rfl (fun hg => pu_move (.inl rfl) (ev_tmp rfl)) rfl rfl ?_
    refine o_pureG (gd_bool rfl rfl rfl rfl rfl) rfl (fun hg => pu_move (.inl rfl) (ev_tmp rfl)) rfl rfl ?_
    refine o_pureG (gd_bool rfl rfl rfl rfl rfl) rfl (fun hg => pu_indexS hT rfl rfl (ev_opt rfl hg) (ev_opt rfl hg) (by first | omega | (simp only [Bool.and_eq_true, Bool.or_eq_true, Bool.or_eq_false_iff, Bool.and_eq_false_iff, Bool.not_eq_true', Bool.not_eq_false', beq_iff_eq, decide_eq_true_eq, decide_eq_false_iff_not] at hg; omega) | (have hh := of_decide_eq_true (beq_tt hg); omega) | (have hh := of_decide_eq_true (beq_tt (and_r hg)); omega)) (by first | omega | (simp only [Bool.and_eq_true, Bool.or_eq_true, Bool.or_eq_false_iff, Bool.and_eq_false_iff, Bool.not_eq_true', Bool.not_eq_false', beq_iff_eq, decide_eq_true_eq, decide_eq_false_iff_not] at hg; omega) | (have hh := of_decide_eq_true (beq_tt hg); omega) | (have hh := of_decide_eq_true (beq_tt (and_r hg)); omega))) rfl rfl ?_
    refine o_pureG (gd_bool rfl rfl rfl rfl rfl) rfl (fun hg => pu_lss rfl (ev_opt rfl hg) (ev_int (inR_lit rfl))) rfl rfl ?_
    refine o_pureG (gd_bool rfl rfl rfl rfl rfl) rfl (fun hg => pu_move (.inl rfl) (ev_opt rfl hg)) rfl rfl ?_
    refine o_pureG (gd_opt rfl rfl rfl rfl rfl) rfl (fun hg => pu_move (.inl rfl) (ev_tmp rfl)) rfl rfl ?_
    refine o_pureG (gd_opt rfl rfl rfl rfl rfl) rfl (fun hg => pu_move (.inl rfl) (ev_tmp rfl)) rfl rfl ?_
    refine o_pureG (gd_opt rfl rfl rfl rfl rfl) rfl (fun hg => pu_indexS hT rfl rfl (ev_opt rfl hg) (ev_opt rfl hg) (by first | omega | (simp only [Bool.and_eq_true, Bool.or_eq_true, Bool.or_eq_false_iff, Bool.and_eq_false_iff, Bool.not_eq_true', Bool.not_eq_false', beq_iff_eq, decide_eq_true_eq, decide_eq_false_iff_not] at hg; omega) | (have hh := of_decide_eq_true (beq_tt hg); omega) | (have hh := of_decide_eq_true (beq_tt (and_r hg)); omega)) (by first | omega | (simp only [Bool.and_eq_true, Bool.or_eq_true, Bool.or_eq_false_iff, Bool.and_eq_false_iff, Bool.not_eq_true', Bool.not_eq_false', beq_iff_eq, decide_eq_true_eq, decide_eq_false_iff_not] at hg; omega) | (have hh := of_decide_eq_true (beq_tt hg); omega) | (have hh := of_decide_eq_true (beq_tt (and_r hg)); omega))) rfl rfl ?_
    refine o_pureG (gd_opt rfl rfl rfl rfl rfl) rfl (fun hg => pu_gtr rfl (ev_opt rfl hg) (ev_int (inR_lit rfl))) rfl rfl ?_
    refine o_pureG (gd_bool rfl rfl rfl rfl rfl) rfl (fun hg => pu_or rfl (ev_opt rfl hg) (fun hb => (ev_opt rfl (and_mk hg (beq_f hb))))) rfl rfl ?_
    refine o_pure rfl rfl (pu_and rfl (ev_tmp rfl) (fun hb => (ev_opt rfl (beq_t hb)))) rfl rfl ?_
    refine ops_nil ?_
    refine then_n ?_
    refine ok_cond (ev_tmp rfl) (fun c2 => ?_) (fun c2 => ?_)
    · skip
      refine ok_seq ?_
      refine ok_region ?_
      refine o_pure rfl rfl (pu_move (.inr rfl) ev_bool) rfl rfl ?_
      refine ops_nil ?_
      refine then_n ?_
      refine ok_ret ?_
      refine blk_r ?_
      refine then_r ?_
      refine then_r ?_
      refine blk_r ?_
      refine then_r ?_
      refine fin1 (res_tmp rfl) (eqB ?_)
      rw [kText, all_no (k := k) (d := 0) (by rw [size_len]; omega) (by have h := (kch_spec (s.data.toList.getD k 0)).symm.trans c2; simpa using h)]; rfl
    · skip
      refine ok_skip ?_
      refine blk_n ?_
      refine then_n ?_
      refine ok_region ?_
      refine o_pure rfl rfl (pu_move (.inl rfl) (ev_tmp rfl)) rfl rfl ?_
      refine o_pure rfl rfl (pu_addR rfl (ev_tmp rfl) (ev_int (inR_lit rfl)) (inR64 (by omega) (by omega))) rfl rfl ?_
      refine o_pure rfl rfl (pu_move (.inr rfl) (ev_tmp rfl)) rfl rfl ?_
      refine ops_nil ?_
      refine then_n ?_
      refine ⟨k + 1, ?_, ?_, weak_sub ⟨rfl, rfl, trivial⟩ trivial trivial rfl⟩
      · exact ⟨by omega, take_all (d := 0) hall (by rw [size_len]; omega) (by have h := (kch_spec (s.data.toList.getD k 0)).symm.trans c2; simpa using h)⟩
      · omega
  · skip
    have d1 := of_decide_eq_false c1
    refine ok_exit ?_
    refine then_e ?_
    refine then_e ?_
    refine blk_e rfl ?_
    refine then_n ?_
    refine ok_seq ?_
    refine ok_region ?_
    refine o_pure rfl rfl (pu_move (.inl rfl) (ev_tmp rfl)) rfl rfl ?_
    refine o_pure rfl rfl (pu_lenS hT rfl rfl (ev_tmp rfl)) rfl rfl ?_
    refine o_pure rfl rfl (pu_leq rfl (ev_tmp rfl) (ev_int (inR_lit rfl))) rfl rfl ?_
    refine o_pure rfl rfl (pu_move (.inr rfl) (ev_tmp rfl)) rfl rfl ?_
    refine ops_nil ?_
    refine then_n ?_
    refine ok_ret ?_
    refine fin1 (res_tmp rfl) (eqB ?_)
    rw [kText, all_yes hall (by rw [size_len]; omega)]; rfl
end Go.Proofs.Ytbmgommbmhmbgaa
