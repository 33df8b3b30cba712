/-
  Contracts of the program's functions for the statement SizeDisk, by the rules of the logic. Conditions: none but those in the theorems.
-/
import Derived.Below
import Derived.Deep.Slices
import Derived.OpenShut
import Derived.ProofKit
import Derived.Test.YtlogahkchenpdaaQSizeDisk1
namespace Go.Proofs.Ytlogahkchenpdaa
open Go.RowKit
open Go.Proofs
set_option linter.unusedVariables false
set_option linter.unusedSimpArgs false

def uvL (n : Nat) : List UInt8 := if h : n < 128 then [UInt8.ofNat n] else UInt8.ofNat (n % 128 + 128) :: uvL (n / 128)
termination_by n
decreasing_by omega
theorem uvL_lt {n : Nat} (h : n < 128) : uvL n = [UInt8.ofNat n] := by rw [uvL, dif_pos h]
theorem uvL_ge {n : Nat} (h : ¬ n < 128) : uvL n = UInt8.ofNat (n % 128 + 128) :: uvL (n / 128) := by rw [uvL, dif_neg h]
def appU (b : List UInt8) (n : Int) : List UInt8 := if 0 ≤ n ∧ n ≤ 1000000000000 then b ++ uvL n.toNat else b
theorem inr_of {n : Int} (h : (!(decide (0 ≤ n) && decide (n ≤ 1000000000000))) = false) : 0 ≤ n ∧ n ≤ 1000000000000 := by simpa using h
theorem inr_no {n : Int} (h : (!(decide (0 ≤ n) && decide (n ≤ 1000000000000))) = true) : ¬ (0 ≤ n ∧ n ≤ 1000000000000) := fun h2 => by
  rw [decide_eq_true h2.1, decide_eq_true h2.2] at h; cases h
theorem appU_in {b : List UInt8} {n : Int} (h : 0 ≤ n ∧ n ≤ 1000000000000) : appU b n = b ++ uvL n.toNat := if_pos h
theorem appU_out {b : List UInt8} {n : Int} (h : ¬ (0 ≤ n ∧ n ≤ 1000000000000)) : appU b n = b := if_neg h
theorem uvL_len : ∀ (k n : Nat), n < 128 ^ (k + 1) → (uvL n).length ≤ k + 1
  | 0, n, h => by rw [uvL_lt (by simpa using h)]; simp
  | k + 1, n, h => by
    by_cases h1 : n < 128
    · rw [uvL_lt h1]; simp
    · rw [uvL_ge h1, List.length_cons]
      have := uvL_len k (n / 128) (by rw [Nat.pow_succ] at h; omega)
      omega
theorem uv_len {n : Nat} (h : n ≤ 1000000000000) : (uvL n).length ≤ 6 := uvL_len 5 n (by omega)
theorem appU_len (b : List UInt8) (n : Int) : (appU b n).length ≤ b.length + 6 := by
  unfold appU
  split
  · rename_i h
    have := uv_len (n := n.toNat) (by omega)
    rw [List.length_append]; omega
  · omega
theorem uv_step {o x : List UInt8} {m n : Nat} (ho : o ++ uvL m = x ++ uvL n) (h : (128 : Int) ≤ (m : Int)) : (o ++ [UInt8.ofNat (m % 128 + 128)]) ++ uvL (m / 128) = x ++ uvL n := by
  rw [← ho, uvL_ge (n := m) (by omega)]; simp
theorem uv_end {x o : List UInt8} {n : Int} {m : Nat} (hr : 0 ≤ n ∧ n ≤ 1000000000000) (ho : o ++ uvL m = x ++ uvL n.toNat) (h : ¬ (128 : Int) ≤ (m : Int)) : o ++ [UInt8.ofNat m] = appU x n := by
  rw [appU_in hr, ← ho, uvL_lt (n := m) (by omega)]
theorem byte_of {m : Nat} (z : Int) (hz : z = (m : Int)) : IntKind.u8.wrap z = ((UInt8.ofNat m).toNat : Int) := by
  subst hz
  simp [IntKind.wrap, IntKind.signed, IntKind.bits]
theorem app_byte {o : List UInt8} {m : Nat} {z : Int} (hz : z = (m : Int)) : o.flatMap eByte ++ [DV.int .u8 (IntKind.u8.wrap z)] = (o ++ [UInt8.ofNat m]).flatMap eByte := by
  rw [List.flatMap_append, byte_of z hz]; rfl

set_option maxRecDepth 100000 in
theorem ok_impl_copyBytes {x : List UInt8} (hb : x.length ≤ 4194304) : KFn Try.prog 125 [.one (.dv [] (bytesD (x)))] (.one (.key 3)) [(3, some (kcOf false (bytesD (x))))] := by
  refine ⟨fn_intro Try.func125 rfl Try.ntmps125 Try.results125 rfl (fun C => ?_)⟩
  refine ok_fact (x := .tmp 0) (ev_tmp rfl) (fun (f0 : ((x)).length ≤ 9223372036854775807) => ?_)
  refine ok_seq ?_
  refine ok_region ?_
  refine o_pure rfl rfl (pu_move (.inr rfl) ev_nil) rfl rfl ?_
  refine ops_nil ?_
  refine then_n ?_
  refine ok_seq ?_
  refine ok_region ?_
  refine o_build0 (k := 3) hT rfl rfl rfl rfl rfl rfl rfl rfl ?_
  refine o_pure rfl rfl (pu_move (.inl rfl) (ev_tmp rfl)) rfl rfl ?_
  refine o_appV (k := 3) (cs := (x).flatMap eByte) (n := (x).length) hT rfl rfl rfl rfl rfl rfl rfl (ev_tmp rfl) rfl rfl rfl (ev_tmp rfl) (plain_flat (fun _ => rfl) _) (by first | (dsimp only [kcOf]; omega) | omega) (by first | (dsimp only [kcOf]; omega) | omega) (Nat.zero_add _) (rfl) ?_
  simp only [killT, killB, SV.kill, CV.kill, List.map_cons, List.map_nil, List.any_cons, List.any_nil, List.contains_cons, List.contains_nil, List.nil_append, List.cons_append, Nat.reduceBEq, Bool.or_false, Bool.false_or, Bool.or_true, Bool.true_or, cond_true, cond_false]
  refine o_pure rfl rfl (pu_move (.inr rfl) (ev_tmp rfl)) rfl rfl ?_
  refine ops_nil ?_
  refine then_n ?_
  refine ok_weak (σ' := ⟨[(2, .one (.key 3))], [], [(3, some (kcOf false (bytesD (x))))]⟩) (weak_sub ⟨rfl, trivial⟩ trivial ⟨rfl, trivial⟩ rfl) ?_
  refine ok_ret ?_
  refine fin1 (res_tmp rfl) ?_
  exact ⟨rfl, rfl⟩
set_option maxRecDepth 100000 in
theorem ok_impl_AppendUvarint {x : List UInt8} {n : Int} (hb : x.length ≤ 2097152) : KFn Try.prog 66 [.one (.dv [] (bytesD (x))), .one (.dv [] (.int .i64 (n)))] (.one (.key 30)) [(30, some (kcOf false (bytesD (appU x n))))] := by
  refine ⟨fn_intro Try.func66 rfl Try.ntmps66 Try.results66 rfl (fun C => ?_)⟩
  refine ok_fact (x := .tmp 0) (ev_tmp rfl) (fun (f0 : ((x)).length ≤ 9223372036854775807) => ?_)
  refine ok_fact (x := .tmp 1) (ev_tmp rfl) (fun (f1 : -9223372036854775808 ≤ (n) ∧ (n) ≤ 9223372036854775807) => ?_)
  refine ok_seq ?_
  refine ok_region ?_
  refine o_pure rfl rfl (pu_move (.inr rfl) ev_nil) rfl rfl ?_
  refine ops_nil ?_
  refine then_n ?_
  refine ok_seq ?_
  refine ok_region ?_
  refine o_pure rfl rfl (pu_move (.inl rfl) (ev_tmp rfl)) rfl rfl ?_
  refine o_callK 27 rfl rfl rfl Try.call125 (ok_impl_copyBytes (x := x) (by omega)) (as_cons (ev_tmp rfl) (ag_one ac_dv) as_nil) rfl rfl rfl ?_
  refine o_pure rfl rfl (pu_move (.inr rfl) (ev_tmp rfl)) rfl rfl ?_
  refine ops_nil ?_
  refine then_n ?_
  refine ok_seq ?_
  refine ok_seq ?_
  refine ok_region ?_
  refine o_pure rfl rfl (pu_move (.inl rfl) (ev_tmp rfl)) rfl rfl ?_
  refine o_call rfl rfl rfl Try.call98 ok_impl_InRange (as_cons (ev_tmp rfl) (ag_one ac_dv) (as_cons (ev_int (inR_lit rfl)) (ag_one ac_dv) (as_cons (ev_int (inR_lit rfl)) (ag_one ac_dv) as_nil))) rfl rfl ?_
  refine o_pure rfl rfl (pu_not rfl (ev_tmp rfl)) rfl rfl ?_
  refine ops_nil ?_
  refine then_n ?_
  refine ok_cond (ev_tmp rfl) (fun c1 => ?_) (fun c1 => ?_)
  · skip
    have hno := inr_no c1
    refine ok_seq ?_
    refine ok_region ?_
    refine o_pure rfl rfl (pu_move (.inl rfl) (ev_tmp rfl)) rfl rfl ?_
    refine o_pure rfl rfl (pu_move (.inr rfl) (ev_tmp rfl)) rfl rfl ?_
    refine ops_nil ?_
    refine then_n ?_
    refine ok_weak (σ' := ⟨[(4, .one (.key 30))], [], [(30, some (kcOf false (bytesD (appU x n))))]⟩) (weak_sub ⟨rfl, trivial⟩ trivial ⟨(congrArg (fun l : List UInt8 => some (some (KC.mk false 5 1 l.length (l.flatMap eByte)))) (by first | exact (appU_out hno).symm | exact (uv_end hr ho d2))), trivial⟩ rfl) ?_
    refine ok_ret ?_
    refine then_r ?_
    refine fin1 (res_tmp rfl) ?_
    exact ⟨rfl, rfl⟩
  · skip
    have hr := inr_of c1
    refine ok_skip ?_
    refine then_n ?_
    refine ok_seq ?_
    refine ok_block ?_
    refine ok_loop (ι := Nat × List UInt8) (fun zz => ⟨[(1, .one (.dv [] (.int .i64 ((zz.1 : Int))))), (4, .one .nil), (5, .one (.key 30))], [], [(30, some (kcOf false (.sl 5 1 (zz.2.length) (zz.2.flatMap eByte))))]⟩) (fun zz => zz.2 ++ uvL zz.1 = x ++ uvL n.toNat ∧ zz.1 ≤ 1000000000000) (fun zz => zz.1) ((n.toNat, x)) ?_ (weak_sub ⟨(congrArg (fun z : Int => some (SV.one (CV.dv [] (DV.int .i64 z)))) (show n = ((n.toNat : Nat) : Int) by omega)), rfl, rfl, trivial⟩ trivial ⟨rfl, trivial⟩ rfl) (fun zz hx => ?_)
    · exact ⟨rfl, by dsimp only; omega⟩
    obtain ⟨m, o⟩ := zz
    replace hx : o ++ uvL m = x ++ uvL n.toNat ∧ m ≤ 1000000000000 := hx
    obtain ⟨ho, hm⟩ := hx
    have hl := congrArg List.length ho
    rw [List.length_append, List.length_append] at hl
    have hl2 := uv_len (n := n.toNat) (by omega)
    show Ok _ _ _ _ _ (⟨[(1, .one (.dv [] (.int .i64 ((m : Int))))), (4, .one .nil), (5, .one (.key 30))], [], [(30, some (kcOf false (.sl 5 1 (o.length) (o.flatMap eByte))))]⟩ : St)
    refine ok_seq ?_
    refine ok_seq ?_
    refine ok_region ?_
    refine o_pure rfl rfl (pu_move (.inl rfl) (ev_tmp rfl)) rfl rfl ?_
    refine o_pure rfl rfl (pu_geq rfl (ev_tmp rfl) (ev_int (inR_lit rfl))) rfl rfl ?_
    refine ops_nil ?_
    refine then_n ?_
    refine ok_cond (ev_tmp rfl) (fun c2 => ?_) (fun c2 => ?_)
    · skip
      have d2 := of_decide_eq_true c2
      refine ok_skip ?_
      refine then_n ?_
      refine ok_block ?_
      refine ok_seq ?_
      refine ok_region ?_
      refine o_pure rfl rfl (pu_move (.inl rfl) (ev_tmp rfl)) rfl rfl ?_
      refine o_pure rfl rfl (pu_move (.inl rfl) (ev_tmp rfl)) rfl rfl ?_
      refine o_pure rfl rfl (pu_remN rfl (ev_tmp rfl) (ev_int (inR_lit rfl)) (by omega) (by omega)) rfl rfl ?_
      refine o_pure rfl rfl (pu_addR rfl (ev_tmp rfl) (ev_int (inR_lit rfl)) (inR64 (by omega) (by omega))) rfl rfl ?_
      refine o_pure rfl rfl (pu_convI hT rfl rfl rfl (ev_tmp rfl)) rfl rfl ?_
      refine o_build1 (k := 19) (js := []) hT rfl rfl rfl rfl rfl rfl rfl rfl rfl (ev_tmp rfl) rfl rfl (ow_cons' (ow_dv rfl) ow_nil rfl) (by decide) (by decide) rfl rfl ?_
      simp only [killT, killB, SV.kill, CV.kill, List.map_cons, List.map_nil, List.any_cons, List.any_nil, List.contains_cons, List.contains_nil, List.nil_append, List.cons_append, Nat.reduceBEq, Bool.or_false, Bool.false_or, Bool.or_true, Bool.true_or, cond_true, cond_false]
      refine o_appK (k := 30) (j := 19) (cs := (o ++ [UInt8.ofNat (m % 128 + 128)]).flatMap eByte) (n := (o ++ [UInt8.ofNat (m % 128 + 128)]).length) hT rfl rfl rfl rfl rfl rfl rfl (ev_tmp rfl) rfl rfl rfl (ev_tmp rfl) rfl rfl (by decide) (by dsimp only [kcOf]; omega) (by dsimp only [kcOf]; omega) (by simp) (app_byte (by omega)) ?_
      simp only [killT, killB, SV.kill, CV.kill, List.map_cons, List.map_nil, List.any_cons, List.any_nil, List.contains_cons, List.contains_nil, List.nil_append, List.cons_append, Nat.reduceBEq, Bool.or_false, Bool.false_or, Bool.or_true, Bool.true_or, cond_true, cond_false]
      refine o_pure rfl rfl (pu_move (.inr rfl) (ev_tmp rfl)) rfl rfl ?_
      refine ops_nil ?_
      refine then_n ?_
      refine ok_region ?_
      refine o_pure rfl rfl (pu_move (.inl rfl) (ev_tmp rfl)) rfl rfl ?_
      refine o_pure rfl rfl (pu_quoN rfl (ev_tmp rfl) (ev_int (inR_lit rfl)) (by omega) (by omega)) rfl rfl ?_
      refine o_pure rfl rfl (pu_move (.inr rfl) (ev_tmp rfl)) rfl rfl ?_
      refine ops_nil ?_
      refine blk_n ?_
      refine then_n ?_
      refine ⟨(m / 128, o ++ [UInt8.ofNat (m % 128 + 128)]), ?_, ?_, weak_sub ⟨rfl, rfl, rfl, trivial⟩ trivial ⟨rfl, trivial⟩ rfl⟩
      · exact ⟨uv_step ho d2, by dsimp only; omega⟩
      · dsimp only; omega
    · skip
      have d2 := of_decide_eq_false c2
      refine ok_exit ?_
      refine then_e ?_
      refine then_e ?_
      refine blk_e rfl ?_
      refine then_n ?_
      refine ok_seq ?_
      refine ok_region ?_
      refine o_pure rfl rfl (pu_move (.inl rfl) (ev_tmp rfl)) rfl rfl ?_
      refine o_pure rfl rfl (pu_move (.inl rfl) (ev_tmp rfl)) rfl rfl ?_
      refine o_pure rfl rfl (pu_convI hT rfl rfl rfl (ev_tmp rfl)) rfl rfl ?_
      refine o_build1 (k := 26) (js := []) hT rfl rfl rfl rfl rfl rfl rfl rfl rfl (ev_tmp rfl) rfl rfl (ow_cons' (ow_dv rfl) ow_nil rfl) (by decide) (by decide) rfl rfl ?_
      simp only [killT, killB, SV.kill, CV.kill, List.map_cons, List.map_nil, List.any_cons, List.any_nil, List.contains_cons, List.contains_nil, List.nil_append, List.cons_append, Nat.reduceBEq, Bool.or_false, Bool.false_or, Bool.or_true, Bool.true_or, cond_true, cond_false]
      refine o_appK (k := 30) (j := 26) (cs := (o ++ [UInt8.ofNat m]).flatMap eByte) (n := (o ++ [UInt8.ofNat m]).length) hT rfl rfl rfl rfl rfl rfl rfl (ev_tmp rfl) rfl rfl rfl (ev_tmp rfl) rfl rfl (by decide) (by dsimp only [kcOf]; omega) (by dsimp only [kcOf]; omega) (by simp) (app_byte rfl) ?_
      simp only [killT, killB, SV.kill, CV.kill, List.map_cons, List.map_nil, List.any_cons, List.any_nil, List.contains_cons, List.contains_nil, List.nil_append, List.cons_append, Nat.reduceBEq, Bool.or_false, Bool.false_or, Bool.or_true, Bool.true_or, cond_true, cond_false]
      refine o_pure rfl rfl (pu_move (.inr rfl) (ev_tmp rfl)) rfl rfl ?_
      refine ops_nil ?_
      refine then_n ?_
      refine ok_weak (σ' := ⟨[(4, .one (.key 30))], [], [(30, some (kcOf false (bytesD (appU x n))))]⟩) (weak_sub ⟨rfl, trivial⟩ trivial ⟨(congrArg (fun l : List UInt8 => some (some (KC.mk false 5 1 l.length (l.flatMap eByte)))) (by first | exact (appU_out hno).symm | exact (uv_end hr ho d2))), trivial⟩ rfl) ?_
      refine ok_ret ?_
      refine fin1 (res_tmp rfl) ?_
      exact ⟨rfl, rfl⟩
set_option maxRecDepth 100000 in
theorem ok_impl_AppendBytes {x y : List UInt8} (hb : x.length ≤ 1048576) (hb2 : y.length ≤ 1048576) : KFn Try.prog 69 [.one (.dv [] (bytesD (x))), .one (.dv [] (bytesD (y)))] (.one (.key 8030)) [(8030, some (kcOf false (bytesD (appU x (y.length : Int) ++ y))))] := by
  refine ⟨fn_intro Try.func69 rfl Try.ntmps69 Try.results69 rfl (fun C => ?_)⟩
  have hal := appU_len x (y.length : Int)
  refine ok_fact (x := .tmp 0) (ev_tmp rfl) (fun (f0 : ((x)).length ≤ 9223372036854775807) => ?_)
  refine ok_fact (x := .tmp 1) (ev_tmp rfl) (fun (f1 : ((y)).length ≤ 9223372036854775807) => ?_)
  refine ok_seq ?_
  refine ok_region ?_
  refine o_pure rfl rfl (pu_move (.inr rfl) ev_nil) rfl rfl ?_
  refine ops_nil ?_
  refine then_n ?_
  refine ok_seq ?_
  refine ok_region ?_
  refine o_pure rfl rfl (pu_move (.inl rfl) (ev_tmp rfl)) rfl rfl ?_
  refine o_pure rfl rfl (pu_move (.inl rfl) (ev_tmp rfl)) rfl rfl ?_
  refine o_pure rfl rfl (pu_lenV hT rfl rfl (ev_tmp rfl)) rfl rfl ?_
  refine o_callK 8000 rfl rfl rfl Try.call66 (ok_impl_AppendUvarint (x := x) (n := (y.length : Int)) (by omega)) (as_cons (ev_tmp rfl) (ag_one ac_dv) (as_cons (ev_tmp rfl) (ag_one ac_dv) as_nil)) rfl rfl rfl ?_
  refine o_pure rfl rfl (pu_move (.inl rfl) (ev_tmp rfl)) rfl rfl ?_
  refine o_appV (k := 8030) (cs := (appU x (y.length : Int) ++ y).flatMap eByte) (n := (appU x (y.length : Int) ++ y).length) hT rfl rfl rfl rfl rfl rfl rfl (ev_tmp rfl) rfl rfl rfl (ev_tmp rfl) (plain_flat (fun _ => rfl) _) (by dsimp only [kcOf, KC.old]; omega) (by dsimp only [kcOf, KC.old]; omega) (by simp [kcOf, KC.old]) (by rw [List.flatMap_append]; rfl) ?_
  simp only [killT, killB, SV.kill, CV.kill, List.map_cons, List.map_nil, List.any_cons, List.any_nil, List.contains_cons, List.contains_nil, List.nil_append, List.cons_append, Nat.reduceBEq, Bool.or_false, Bool.false_or, Bool.or_true, Bool.true_or, cond_true, cond_false]
  refine o_pure rfl rfl (pu_move (.inr rfl) (ev_tmp rfl)) rfl rfl ?_
  refine ops_nil ?_
  refine then_n ?_
  refine ok_weak (σ' := ⟨[(4, .one (.key 8030))], [], [(8030, some (kcOf false (bytesD (appU x (y.length : Int) ++ y))))]⟩) (weak_sub ⟨rfl, trivial⟩ trivial ⟨rfl, trivial⟩ rfl) ?_
  refine ok_ret ?_
  refine fin1 (res_tmp rfl) ?_
  exact ⟨rfl, rfl⟩
set_option maxRecDepth 100000 in
theorem ok_spec_AppendUvarint {x : List UInt8} {n : Int} (hb : x.length ≤ 2097152) : KFn Try.prog 59 [.one (.dv [] (bytesD (x))), .one (.dv [] (.int .i64 (n)))] (.one (.key 6)) [(6, some (kcOf false (bytesD (appU x n))))] := by
  refine ⟨fn_intro Try.func59 rfl Try.ntmps59 Try.results59 rfl (fun C => ?_)⟩
  refine ok_fact (x := .tmp 0) (ev_tmp rfl) (fun (f0 : ((x)).length ≤ 9223372036854775807) => ?_)
  refine ok_fact (x := .tmp 1) (ev_tmp rfl) (fun (f1 : -9223372036854775808 ≤ (n) ∧ (n) ≤ 9223372036854775807) => ?_)
  refine ok_seq ?_
  refine ok_region ?_
  refine o_pure rfl rfl (pu_move (.inr rfl) ev_nil) rfl rfl ?_
  refine ops_nil ?_
  refine then_n ?_
  refine ok_seq ?_
  refine ok_region ?_
  refine o_build0 (k := 6) hT rfl rfl rfl rfl rfl rfl rfl rfl ?_
  refine o_pure rfl rfl (pu_move (.inl rfl) (ev_tmp rfl)) rfl rfl ?_
  refine o_appV (k := 6) (cs := (x).flatMap eByte) (n := (x).length) hT rfl rfl rfl rfl rfl rfl rfl (ev_tmp rfl) rfl rfl rfl (ev_tmp rfl) (plain_flat (fun _ => rfl) _) (by first | (dsimp only [kcOf]; omega) | omega) (by first | (dsimp only [kcOf]; omega) | omega) (Nat.zero_add _) (rfl) ?_
  simp only [killT, killB, SV.kill, CV.kill, List.map_cons, List.map_nil, List.any_cons, List.any_nil, List.contains_cons, List.contains_nil, List.nil_append, List.cons_append, Nat.reduceBEq, Bool.or_false, Bool.false_or, Bool.or_true, Bool.true_or, cond_true, cond_false]
  refine o_pure rfl rfl (pu_move (.inr rfl) (ev_tmp rfl)) rfl rfl ?_
  refine ops_nil ?_
  refine then_n ?_
  refine ok_seq ?_
  refine ok_seq ?_
  refine ok_region ?_
  refine o_pure rfl rfl (pu_move (.inl rfl) (ev_tmp rfl)) rfl rfl ?_
  refine o_call rfl rfl rfl Try.call96 ok_spec_l1In (as_cons (ev_tmp rfl) (ag_one ac_dv) (as_cons (ev_int (inR_lit rfl)) (ag_one ac_dv) (as_cons (ev_int (inR_lit rfl)) (ag_one ac_dv) as_nil))) rfl rfl ?_
  refine o_pure rfl rfl (pu_not rfl (ev_tmp rfl)) rfl rfl ?_
  refine ops_nil ?_
  refine then_n ?_
  refine ok_cond (ev_tmp rfl) (fun c1 => ?_) (fun c1 => ?_)
  · skip
    have hno := inr_no c1
    refine ok_seq ?_
    refine ok_region ?_
    refine o_pure rfl rfl (pu_move (.inl rfl) (ev_tmp rfl)) rfl rfl ?_
    refine o_pure rfl rfl (pu_move (.inr rfl) (ev_tmp rfl)) rfl rfl ?_
    refine ops_nil ?_
    refine then_n ?_
    refine ok_weak (σ' := ⟨[(4, .one (.key 6))], [], [(6, some (kcOf false (bytesD (appU x n))))]⟩) (weak_sub ⟨rfl, trivial⟩ trivial ⟨(congrArg (fun l : List UInt8 => some (some (KC.mk false 5 1 l.length (l.flatMap eByte)))) (by first | exact (appU_out hno).symm | exact (uv_end hr ho (by omega)))), trivial⟩ rfl) ?_
    refine ok_ret ?_
    refine then_r ?_
    refine fin1 (res_tmp rfl) ?_
    exact ⟨rfl, rfl⟩
  · skip
    have hr := inr_of c1
    refine ok_skip ?_
    refine then_n ?_
    refine ok_seq ?_
    refine ok_block ?_
    refine ok_loop (ι := Nat × List UInt8) (fun zz => ⟨[(1, .one (.dv [] (.int .i64 ((zz.1 : Int))))), (4, .one .nil), (5, .one (.key 6))], [], [(6, some (kcOf false (.sl 5 1 (zz.2.length) (zz.2.flatMap eByte))))]⟩) (fun zz => zz.2 ++ uvL zz.1 = x ++ uvL n.toNat ∧ zz.1 ≤ 1000000000000) (fun zz => zz.1) ((n.toNat, x)) ?_ (weak_sub ⟨(congrArg (fun z : Int => some (SV.one (CV.dv [] (DV.int .i64 z)))) (show n = ((n.toNat : Nat) : Int) by omega)), rfl, rfl, trivial⟩ trivial ⟨rfl, trivial⟩ rfl) (fun zz hx => ?_)
    · exact ⟨rfl, by dsimp only; omega⟩
    obtain ⟨m, o⟩ := zz
    replace hx : o ++ uvL m = x ++ uvL n.toNat ∧ m ≤ 1000000000000 := hx
    obtain ⟨ho, hm⟩ := hx
    have hl := congrArg List.length ho
    rw [List.length_append, List.length_append] at hl
    have hl2 := uv_len (n := n.toNat) (by omega)
    show Ok _ _ _ _ _ (⟨[(1, .one (.dv [] (.int .i64 ((m : Int))))), (4, .one .nil), (5, .one (.key 6))], [], [(6, some (kcOf false (.sl 5 1 (o.length) (o.flatMap eByte))))]⟩ : St)
    refine ok_seq ?_
    refine ok_seq ?_
    refine ok_region ?_
    refine o_pure rfl rfl (pu_move (.inl rfl) (ev_tmp rfl)) rfl rfl ?_
    refine o_pure rfl rfl (pu_gtr rfl (ev_tmp rfl) (ev_int (inR_lit rfl))) rfl rfl ?_
    refine ops_nil ?_
    refine then_n ?_
    refine ok_cond (ev_tmp rfl) (fun c2 => ?_) (fun c2 => ?_)
    · skip
      have d2 := of_decide_eq_true c2
      refine ok_skip ?_
      refine then_n ?_
      refine ok_block ?_
      refine ok_seq ?_
      refine ok_region ?_
      refine o_pure rfl rfl (pu_move (.inl rfl) (ev_tmp rfl)) rfl rfl ?_
      refine o_pure rfl rfl (pu_move (.inl rfl) (ev_tmp rfl)) rfl rfl ?_
      refine o_pure rfl rfl (pu_andR rfl (ev_tmp rfl) (ev_int (inR_lit rfl)) (and127 (by omega) (by omega)) (inR64 (by omega) (by omega))) rfl rfl ?_
      refine o_pure rfl rfl (pu_orR rfl (ev_tmp rfl) (ev_int (inR_lit rfl)) (or128 (by omega) (by omega)) (inR64 (by omega) (by omega))) rfl rfl ?_
      refine o_pure rfl rfl (pu_convI hT rfl rfl rfl (ev_tmp rfl)) rfl rfl ?_
      refine o_build1 (k := 20) (js := []) hT rfl rfl rfl rfl rfl rfl rfl rfl rfl (ev_tmp rfl) rfl rfl (ow_cons' (ow_dv rfl) ow_nil rfl) (by decide) (by decide) rfl rfl ?_
      simp only [killT, killB, SV.kill, CV.kill, List.map_cons, List.map_nil, List.any_cons, List.any_nil, List.contains_cons, List.contains_nil, List.nil_append, List.cons_append, Nat.reduceBEq, Bool.or_false, Bool.false_or, Bool.or_true, Bool.true_or, cond_true, cond_false]
      refine o_appK (k := 6) (j := 20) (cs := (o ++ [UInt8.ofNat (m % 128 + 128)]).flatMap eByte) (n := (o ++ [UInt8.ofNat (m % 128 + 128)]).length) hT rfl rfl rfl rfl rfl rfl rfl (ev_tmp rfl) rfl rfl rfl (ev_tmp rfl) rfl rfl (by decide) (by dsimp only [kcOf]; omega) (by dsimp only [kcOf]; omega) (by simp) (app_byte (by omega)) ?_
      simp only [killT, killB, SV.kill, CV.kill, List.map_cons, List.map_nil, List.any_cons, List.any_nil, List.contains_cons, List.contains_nil, List.nil_append, List.cons_append, Nat.reduceBEq, Bool.or_false, Bool.false_or, Bool.or_true, Bool.true_or, cond_true, cond_false]
      refine o_pure rfl rfl (pu_move (.inr rfl) (ev_tmp rfl)) rfl rfl ?_
      refine ops_nil ?_
      refine then_n ?_
      refine ok_region ?_
      refine o_pure rfl rfl (pu_move (.inl rfl) (ev_tmp rfl)) rfl rfl ?_
      refine o_pure rfl rfl (pu_shrN rfl (ev_tmp rfl) (ev_int (inR_lit rfl)) (by omega) (by omega) (by show _ ≤ 64; omega)) rfl rfl ?_
      refine o_pure rfl rfl (pu_move (.inr rfl) (ev_tmp rfl)) rfl rfl ?_
      refine ops_nil ?_
      refine blk_n ?_
      refine then_n ?_
      refine ⟨(m / 128, o ++ [UInt8.ofNat (m % 128 + 128)]), ?_, ?_, weak_sub ⟨(congrArg (fun z : Int => some (SV.one (CV.dv [] (DV.int .i64 z)))) (show ((m : Int) / (2 ^ (7 : Int).toNat : Nat)) = ((m / 128 : Nat) : Int) by rw [show (2 ^ (7 : Int).toNat : Nat) = 128 from rfl]; omega)), rfl, rfl, trivial⟩ trivial ⟨rfl, trivial⟩ rfl⟩
      · exact ⟨uv_step ho (by omega), by dsimp only; omega⟩
      · dsimp only; omega
    · skip
      have d2 := of_decide_eq_false c2
      refine ok_exit ?_
      refine then_e ?_
      refine then_e ?_
      refine blk_e rfl ?_
      refine then_n ?_
      refine ok_seq ?_
      refine ok_region ?_
      refine o_pure rfl rfl (pu_move (.inl rfl) (ev_tmp rfl)) rfl rfl ?_
      refine o_pure rfl rfl (pu_move (.inl rfl) (ev_tmp rfl)) rfl rfl ?_
      refine o_pure rfl rfl (pu_convI hT rfl rfl rfl (ev_tmp rfl)) rfl rfl ?_
      refine o_build1 (k := 27) (js := []) hT rfl rfl rfl rfl rfl rfl rfl rfl rfl (ev_tmp rfl) rfl rfl (ow_cons' (ow_dv rfl) ow_nil rfl) (by decide) (by decide) rfl rfl ?_
      simp only [killT, killB, SV.kill, CV.kill, List.map_cons, List.map_nil, List.any_cons, List.any_nil, List.contains_cons, List.contains_nil, List.nil_append, List.cons_append, Nat.reduceBEq, Bool.or_false, Bool.false_or, Bool.or_true, Bool.true_or, cond_true, cond_false]
      refine o_appK (k := 6) (j := 27) (cs := (o ++ [UInt8.ofNat m]).flatMap eByte) (n := (o ++ [UInt8.ofNat m]).length) hT rfl rfl rfl rfl rfl rfl rfl (ev_tmp rfl) rfl rfl rfl (ev_tmp rfl) rfl rfl (by decide) (by dsimp only [kcOf]; omega) (by dsimp only [kcOf]; omega) (by simp) (app_byte rfl) ?_
      simp only [killT, killB, SV.kill, CV.kill, List.map_cons, List.map_nil, List.any_cons, List.any_nil, List.contains_cons, List.contains_nil, List.nil_append, List.cons_append, Nat.reduceBEq, Bool.or_false, Bool.false_or, Bool.or_true, Bool.true_or, cond_true, cond_false]
      refine o_pure rfl rfl (pu_move (.inr rfl) (ev_tmp rfl)) rfl rfl ?_
      refine ops_nil ?_
      refine then_n ?_
      refine ok_weak (σ' := ⟨[(4, .one (.key 6))], [], [(6, some (kcOf false (bytesD (appU x n))))]⟩) (weak_sub ⟨rfl, trivial⟩ trivial ⟨(congrArg (fun l : List UInt8 => some (some (KC.mk false 5 1 l.length (l.flatMap eByte)))) (by first | exact (appU_out hno).symm | exact (uv_end hr ho (by omega)))), trivial⟩ rfl) ?_
      refine ok_ret ?_
      refine fin1 (res_tmp rfl) ?_
      exact ⟨rfl, rfl⟩
set_option maxRecDepth 100000 in
theorem ok_spec_AppendBytes {x y : List UInt8} (hb : x.length ≤ 1048576) (hb2 : y.length ≤ 1048576) : KFn Try.prog 61 [.one (.dv [] (bytesD (x))), .one (.dv [] (bytesD (y)))] (.one (.key 8006)) [(8006, some (kcOf false (bytesD (appU x (y.length : Int) ++ y))))] := by
  refine ⟨fn_intro Try.func61 rfl Try.ntmps61 Try.results61 rfl (fun C => ?_)⟩
  have hal := appU_len x (y.length : Int)
  refine ok_fact (x := .tmp 0) (ev_tmp rfl) (fun (f0 : ((x)).length ≤ 9223372036854775807) => ?_)
  refine ok_fact (x := .tmp 1) (ev_tmp rfl) (fun (f1 : ((y)).length ≤ 9223372036854775807) => ?_)
  refine ok_seq ?_
  refine ok_region ?_
  refine o_pure rfl rfl (pu_move (.inr rfl) ev_nil) rfl rfl ?_
  refine ops_nil ?_
  refine then_n ?_
  refine ok_seq ?_
  refine ok_region ?_
  refine o_pure rfl rfl (pu_move (.inl rfl) (ev_tmp rfl)) rfl rfl ?_
  refine o_pure rfl rfl (pu_move (.inl rfl) (ev_tmp rfl)) rfl rfl ?_
  refine o_pure rfl rfl (pu_lenV hT rfl rfl (ev_tmp rfl)) rfl rfl ?_
  refine o_callK 8000 rfl rfl rfl Try.call59 (ok_spec_AppendUvarint (x := x) (n := (y.length : Int)) (by omega)) (as_cons (ev_tmp rfl) (ag_one ac_dv) (as_cons (ev_tmp rfl) (ag_one ac_dv) as_nil)) rfl rfl rfl ?_
  refine o_pure rfl rfl (pu_move (.inl rfl) (ev_tmp rfl)) rfl rfl ?_
  refine o_appV (k := 8006) (cs := (appU x (y.length : Int) ++ y).flatMap eByte) (n := (appU x (y.length : Int) ++ y).length) hT rfl rfl rfl rfl rfl rfl rfl (ev_tmp rfl) rfl rfl rfl (ev_tmp rfl) (plain_flat (fun _ => rfl) _) (by dsimp only [kcOf, KC.old]; omega) (by dsimp only [kcOf, KC.old]; omega) (by simp [kcOf, KC.old]) (by rw [List.flatMap_append]; rfl) ?_
  simp only [killT, killB, SV.kill, CV.kill, List.map_cons, List.map_nil, List.any_cons, List.any_nil, List.contains_cons, List.contains_nil, List.nil_append, List.cons_append, Nat.reduceBEq, Bool.or_false, Bool.false_or, Bool.or_true, Bool.true_or, cond_true, cond_false]
  refine o_pure rfl rfl (pu_move (.inr rfl) (ev_tmp rfl)) rfl rfl ?_
  refine ops_nil ?_
  refine then_n ?_
  refine ok_weak (σ' := ⟨[(4, .one (.key 8006))], [], [(8006, some (kcOf false (bytesD (appU x (y.length : Int) ++ y))))]⟩) (weak_sub ⟨rfl, trivial⟩ trivial ⟨rfl, trivial⟩ rfl) ?_
  refine ok_ret ?_
  refine fin1 (res_tmp rfl) ?_
  exact ⟨rfl, rfl⟩
end Go.Proofs.Ytlogahkchenpdaa

namespace Go.Proofs.Ytlogahkchenpdaa
open Go.RowKit
open Go.Proofs
set_option linter.unusedVariables false
set_option linter.unusedSimpArgs false

def be6 (n : Nat) : List UInt8 := (List.range 6).map fun j => UInt8.ofNat (n / 2 ^ (8 * (5 - j)))
def keyN (k : KeyT) : Nat := (k.2.1 + 1000000000000).toNat
def encK (k : KeyT) : List UInt8 := if isKey k then (UInt8.ofNat k.1.toNat :: (if k.1 = 2 then [] else be6 (keyN k))) ++ k.2.2.data.toList else []
theorem be6_len (n : Nat) : (be6 n).length = 6 := by simp [be6]
theorem be6_succ {n j : Nat} (h : j < 6) : (be6 n).take (j + 1) = (be6 n).take j ++ [UInt8.ofNat (n / 2 ^ (8 * (5 - j)))] := by
  rw [List.take_add_one]
  congr 1
  simp [be6, h]
theorem key_rng {k : KeyT} (h : isKey k = true) : (1 ≤ k.1 ∧ k.1 ≤ 3) ∧ (-1000000000000 ≤ k.2.1 ∧ k.2.1 ≤ 1000000000000) ∧ k.2.2.size ≤ 12 := by
  simp only [isKey, kText, Bool.and_eq_true, decide_eq_true_eq] at h
  omega
theorem encK_bad {k : KeyT} (h : isKey k = false) : encK k = [] := by rw [encK, h]; rfl
theorem encK_txt {k : KeyT} (h : isKey k = true) (h2 : k.1 = 2) : encK k = [UInt8.ofNat k.1.toNat] ++ k.2.2.data.toList := by rw [encK, if_pos h, if_pos h2]
theorem encK_num {k : KeyT} {j : Nat} (h : isKey k = true) (h2 : ¬ k.1 = 2) (hj : 6 ≤ j) : encK k = (UInt8.ofNat k.1.toNat :: (be6 (keyN k)).take j) ++ k.2.2.data.toList := by
  rw [encK, if_pos h, if_neg h2, List.take_of_length_le (by rw [be6_len]; exact hj)]
theorem encK_end {k : KeyT} {j : Nat} (h : isKey k = true) (hj : k.1 = 2 → j = 0) (hc : (decide ((0 : Int) ≤ 5 - (j : Int)) && !decide (k.1 = 2)) = false) : encK k = (UInt8.ofNat k.1.toNat :: (be6 (keyN k)).take j) ++ k.2.2.data.toList := by
  by_cases h2 : k.1 = 2
  · rw [hj h2, encK_txt h h2]; rfl
  · rw [decide_eq_false h2] at hc
    exact encK_num h h2 (by have h3 := hc; simp at h3; omega)
theorem encK_len (k : KeyT) : (encK k).length ≤ 19 := by
  unfold encK
  split
  · rename_i h
    have h1 := (key_rng h).2.2
    have h2 : k.2.2.data.toList.length ≤ 12 := h1
    split
    · simp only [List.length_append, List.length_cons, List.length_nil]; omega
    · simp only [List.length_append, List.length_cons, be6_len]; omega
  · simp
theorem pow_sh (j : Nat) (hj : j < 6) : (2 ^ (8 * (5 - (j : Int))).toNat : Nat) = 2 ^ (8 * (5 - j)) := by
  rw [show (8 * (5 - (j : Int))).toNat = 8 * (5 - j) by omega]
theorem key_byte {k : KeyT} {j : Nat} (h : isKey k = true) (hj : j < 6) : (k.2.1 + 1000000000000) / ((2 ^ (8 * (5 - (j : Int))).toNat : Nat) : Int) = ((keyN k / 2 ^ (8 * (5 - j)) : Nat) : Int) := by
  have h1 := (key_rng h).2.1
  rw [pow_sh j hj, show k.2.1 + 1000000000000 = ((keyN k : Nat) : Int) by unfold keyN; omega, Int.natCast_ediv]
theorem key_byteQ {k : KeyT} {j : Nat} (h : isKey k = true) (hj : j < 6) : ∃ q : Nat, (k.2.1 + 1000000000000) / ((2 ^ (8 * (5 - (j : Int))).toNat : Nat) : Int) = (q : Int) ∧ q ≤ 2000000000000 := by
  have h1 := (key_rng h).2.1
  exact ⟨_, key_byte h hj, Nat.le_trans (Nat.div_le_self _ _) (by unfold keyN; omega)⟩
theorem be_step {k : KeyT} {j : Nat} {z : Int} (h : isKey k = true) (hj : j < 6) (hz : z = (k.2.1 + 1000000000000) / ((2 ^ (8 * (5 - (j : Int))).toNat : Nat) : Int)) :
    (UInt8.ofNat k.1.toNat :: (be6 (keyN k)).take j).flatMap eByte ++ [DV.int .u8 (IntKind.u8.wrap z)] = (UInt8.ofNat k.1.toNat :: (be6 (keyN k)).take (j + 1)).flatMap eByte := by
  rw [key_byte h hj] at hz
  rw [app_byte hz, be6_succ hj]; rfl
theorem u8_and (z : Int) : IntKind.u8.wrap (z % 256) = IntKind.u8.wrap z := by simp [IntKind.wrap, IntKind.signed, IntKind.bits]
theorem byte_hd {k : KeyT} (h : isKey k = true) : [DV.int .u8 (IntKind.u8.wrap k.1)] = (UInt8.ofNat k.1.toNat :: (be6 (keyN k)).take 0).flatMap eByte := by
  have h1 := (key_rng h).1
  exact app_byte (o := []) (m := k.1.toNat) (by omega)
/-- fields, one behind the other -/
def encRN (r : RecT) : Nat → List UInt8
  | 0 => appU [] (r.length : Int)
  | k + 1 => appU (appU (encRN r k) ((r.getD (k : Int).toNat default).1.data.toList.length : Int) ++ (r.getD (k : Int).toNat default).1.data.toList) (r.getD (k : Int).toNat default).2
def encR (r : RecT) : List UInt8 := if isRec r then encRN r r.length else []
theorem encR_bad {r : RecT} (h : isRec r = false) : encR r = [] := by rw [encR, h]; rfl
theorem encR_ok {r : RecT} {k : Nat} (h : isRec r = true) (hk : k = r.length) : encR r = encRN r k := by rw [encR, if_pos h, hk]
theorem name_size {s : Str} (h : isName s = true) : 1 ≤ s.size ∧ s.size ≤ 8 := by
  simp only [isName, Bool.and_eq_true, decide_eq_true_eq] at h; omega
theorem rec_fld {r : RecT} {k : Nat} (h : isRec r = true) (hk : k < r.length) : isName (r.getD (k : Int).toNat default).1 = true ∧ 0 ≤ (r.getD (k : Int).toNat default).2 ∧ (r.getD (k : Int).toNat default).2 ≤ 1000000000 := by
  simp only [isRec, Bool.and_eq_true, List.all_eq_true] at h
  have h1 := h.1 k (List.mem_range.2 hk)
  unfold recBad at h1
  simp only [Bool.not_or, Bool.not_not, Bool.and_eq_true, decide_eq_true_eq] at h1
  exact ⟨h1.1.1, h1.1.2.1, h1.1.2.2⟩
theorem rec_len {r : RecT} (h : isRec r = true) : r.length ≤ 6 := by
  simp only [isRec, Bool.and_eq_true, decide_eq_true_eq] at h; omega
theorem encRN_len {r : RecT} (h : isRec r = true) : ∀ k, k ≤ r.length → (encRN r k).length ≤ 6 + 20 * k
  | 0, _ => by have := appU_len [] (r.length : Int); simpa [encRN] using this
  | k + 1, hk => by
    have ih := encRN_len h k (by omega)
    have h1 := name_size (rec_fld h (show k < r.length by omega)).1
    have h1 : (r.getD (k : Int).toNat default).1.data.toList.length ≤ 8 := h1.2
    have h2 := appU_len (encRN r k) ((r.getD (k : Int).toNat default).1.data.toList.length : Int)
    have h3 := appU_len (appU (encRN r k) ((r.getD (k : Int).toNat default).1.data.toList.length : Int) ++ (r.getD (k : Int).toNat default).1.data.toList) (r.getD (k : Int).toNat default).2
    rw [List.length_append] at h3
    rw [encRN]
    omega
theorem encR_len (r : RecT) : (encR r).length ≤ 126 := by
  unfold encR
  split
  · rename_i h
    have h1 := encRN_len h r.length (Nat.le_refl _)
    have h2 := rec_len h
    omega
  · simp
def sizeI (x : ItemT) : Nat := (encK x.1).length + (encR x.2).length
def sizeS (s : StoreT) : Nat := wSum sizeI s.2.1
def sizeD (d : DbT) : Nat := wSum sizeS d.2.2.1
theorem sizeI_le (x : ItemT) : sizeI x ≤ 145 := by have h1 := encK_len x.1; have h2 := encR_len x.2; unfold sizeI; omega
theorem wSum_cap {α : Type} {c : α → Nat} {B : Nat} (h : ∀ x, c x ≤ B) : ∀ xs : List α, wSum c xs ≤ B * xs.length
  | [] => by simp [wSum]
  | x :: xs => by
    have := wSum_cap h xs
    have := h x
    simp only [wSum, List.map_cons, List.sum_cons, List.length_cons] at *
    rw [Nat.mul_add]; omega
theorem wSum_mul {α : Type} {c w : α → Nat} {B : Nat} (h : ∀ x, c x ≤ B * w x) : ∀ xs : List α, wSum c xs ≤ B * wSum w xs
  | [] => by simp [wSum]
  | x :: xs => by
    have := wSum_mul h xs
    have := h x
    simp only [wSum, List.map_cons, List.sum_cons] at *
    rw [Nat.mul_add]; omega
theorem sizeS_le (s : StoreT) : sizeS s ≤ 145 * wStore s := by
  have h1 := wSum_cap sizeI_le s.2.1
  have h2 : wStore s = s.1.size + (s.2.1.length + wSum wItem s.2.1) := rfl
  unfold sizeS
  have h3 : 145 * s.2.1.length ≤ 145 * wStore s := Nat.mul_le_mul_left _ (by omega)
  omega
theorem sizeD_le (d : DbT) : sizeD d ≤ 145 * wDatabase d := by
  have h1 := wSum_mul sizeS_le d.2.2.1
  have h2 : wDatabase d = d.1.size + wList wStore d.2.2.1 + wList wIndexDef d.2.2.2 := rfl
  have h3 : wList wStore d.2.2.1 = d.2.2.1.length + wSum wStore d.2.2.1 := rfl
  unfold sizeD
  have h4 : 145 * wSum wStore d.2.2.1 ≤ 145 * wDatabase d := Nat.mul_le_mul_left _ (by omega)
  omega
theorem wSto_len (x : StoreT) (h : wStore x ≤ 1048576) : x.2.1.length ≤ 1048576 := by
  have h3 : wStore x = x.1.size + (x.2.1.length + wSum wItem x.2.1) := rfl
  omega

set_option maxRecDepth 100000 in
theorem ok_impl_EncodeKey {k : KeyT}  : KFn Try.prog 67 [.agg [(.dv [] (.int .i64 (k.1))), (.dv [] (.int .i64 (k.2.1))), (.dv [] (.str (k.2.2)))]] (.one (.key 12)) [(12, some (kcOf false (bytesD (encK k))))] := by
  refine ⟨fn_intro Try.func67 rfl Try.ntmps67 Try.results67 rfl (fun C => ?_)⟩
  refine ok_factA (x := .tmp 0) 0 (ev_tmp rfl) rfl (fun (f0_0 : -9223372036854775808 ≤ (k.1) ∧ (k.1) ≤ 9223372036854775807) => ?_)
  refine ok_factA (x := .tmp 0) 1 (ev_tmp rfl) rfl (fun (f0_1 : -9223372036854775808 ≤ (k.2.1) ∧ (k.2.1) ≤ 9223372036854775807) => ?_)
  refine ok_factA (x := .tmp 0) 2 (ev_tmp rfl) rfl (fun (f0_2 : (k.2.2).size ≤ 9223372036854775807) => ?_)
  refine ok_seq ?_
  refine ok_region ?_
  refine o_box rfl rfl rfl (ev_tmp rfl) rfl rfl rfl rfl ?_
  refine o_pure rfl rfl (pu_move (.inr rfl) ev_nil) rfl rfl ?_
  refine ops_nil ?_
  refine then_n ?_
  refine ok_seq ?_
  refine ok_seq ?_
  refine ok_region ?_
  refine o_pure rfl rfl (pu_loadBoxA hT rfl rfl (ev_tmp rfl) rfl rfl) rfl rfl ?_
  refine o_call rfl rfl rfl Try.call126 (ok_impl_IsKey (k := k) ) (as_cons (ev_tmp rfl) (ag_agg (ag_cons ac_dv (ag_cons ac_dv (ag_cons ac_dv ag_nil)))) as_nil) rfl rfl ?_
  refine o_pure rfl rfl (pu_not rfl (ev_tmp rfl)) rfl rfl ?_
  refine ops_nil ?_
  refine then_n ?_
  refine ok_cond (ev_tmp rfl) (fun c1 => ?_) (fun c1 => ?_)
  · skip
    have hk0 : isKey k = false := by simpa using c1
    refine ok_seq ?_
    refine ok_region ?_
    refine o_build0 (k := 12) hT rfl rfl rfl rfl rfl rfl rfl rfl ?_
    refine o_pure rfl rfl (pu_move (.inr rfl) (ev_tmp rfl)) rfl rfl ?_
    refine ops_nil ?_
    refine then_n ?_
    refine ok_weak (σ' := ⟨[(2, .one (.key 12))], [], [(12, some (kcOf false (bytesD (encK k))))]⟩) (weak_sub ⟨rfl, trivial⟩ trivial ⟨(by first | exact congrArg (fun l : List UInt8 => some (some (KC.mk false 5 1 l.length (l.flatMap eByte)))) (show ([] : List UInt8) = encK k from (encK_bad hk0).symm) | rfl), trivial⟩ rfl) ?_
    refine ok_ret ?_
    refine then_r ?_
    refine fin1 (res_tmp rfl) ?_
    exact ⟨rfl, rfl⟩
  · skip
    have hk : isKey k = true := by simpa using c1
    have hrg := key_rng hk
    refine ok_skip ?_
    refine then_n ?_
    refine ok_seq ?_
    refine ok_region ?_
    refine o_pure rfl rfl (pu_fieldBox hT rfl rfl rfl (ev_tmp rfl)) rfl rfl ?_
    refine o_pure rfl rfl (pu_loadBox1 hT rfl rfl (ev_tmp rfl) rfl rfl) rfl rfl ?_
    refine o_pure rfl rfl (pu_convI hT rfl rfl rfl (ev_tmp rfl)) rfl rfl ?_
    refine o_build1 (k := 12) (js := []) hT rfl rfl rfl rfl rfl rfl rfl rfl rfl (ev_tmp rfl) rfl rfl (ow_cons' (ow_dv rfl) ow_nil rfl) (by decide) (by decide) rfl rfl ?_
    simp only [killT, killB, SV.kill, CV.kill, List.map_cons, List.map_nil, List.any_cons, List.any_nil, List.contains_cons, List.contains_nil, List.nil_append, List.cons_append, Nat.reduceBEq, Bool.or_false, Bool.false_or, Bool.or_true, Bool.true_or, cond_true, cond_false]
    refine o_pure rfl rfl (pu_move (.inr rfl) (ev_tmp rfl)) rfl rfl ?_
    refine ops_nil ?_
    refine then_n ?_
    refine ok_seq ?_
    refine ok_seq ?_
    refine ok_region ?_
    refine o_pure rfl rfl (pu_fieldBox hT rfl rfl rfl (ev_tmp rfl)) rfl rfl ?_
    refine o_pure rfl rfl (pu_loadBox1 hT rfl rfl (ev_tmp rfl) rfl rfl) rfl rfl ?_
    refine o_pure rfl rfl (pu_neq rfl (ev_tmp rfl) (ev_int (inR_lit rfl))) rfl rfl ?_
    refine ops_nil ?_
    refine then_n ?_
    refine ok_cond (ev_tmp rfl) (fun c2 => ?_) (fun c2 => ?_)
    · skip
      have hn2 : ¬ k.1 = 2 := by simpa using c2
      have d2 := nd_t c2
      refine ok_seq ?_
      refine ok_region ?_
      refine o_pure rfl rfl (pu_move (.inr rfl) (ev_int (inR_lit rfl))) rfl rfl ?_
      refine ops_nil ?_
      refine then_n ?_
      refine ok_block ?_
      refine ok_loop (ι := Nat) (fun zz => ⟨[(1, .box 1 0), (2, .one .nil), (3, .one (.key 12)), (4, .one (.dv [] (.int .i64 (5 - (zz : Int)))))], [(1, 97, [(.dv [] (.int .i64 (k.1))), (.dv [] (.int .i64 (k.2.1))), (.dv [] (.str (k.2.2)))])], [(12, some (kcOf false (.sl 5 1 ((UInt8.ofNat k.1.toNat :: (be6 (keyN k)).take zz).length) ((UInt8.ofNat k.1.toNat :: (be6 (keyN k)).take zz).flatMap eByte))))]⟩) (fun zz => zz ≤ 6) (fun zz => 6 - zz) (0) ?_ (weak_sub ⟨rfl, rfl, rfl, rfl, trivial⟩ ⟨rfl, trivial⟩ ⟨(congrArg (fun cs => some (some (KC.mk false 5 1 1 cs))) (byte_hd hk)), trivial⟩ rfl) (fun zz hx => ?_)
      · omega
      obtain ⟨j, rfl⟩ : ∃ v, v = zz := ⟨_, rfl⟩
      replace hx : j ≤ 6 := hx
      show Ok _ _ _ _ _ (⟨[(1, .box 1 0), (2, .one .nil), (3, .one (.key 12)), (4, .one (.dv [] (.int .i64 (5 - (j : Int)))))], [(1, 97, [(.dv [] (.int .i64 (k.1))), (.dv [] (.int .i64 (k.2.1))), (.dv [] (.str (k.2.2)))])], [(12, some (kcOf false (.sl 5 1 ((UInt8.ofNat k.1.toNat :: (be6 (keyN k)).take j).length) ((UInt8.ofNat k.1.toNat :: (be6 (keyN k)).take j).flatMap eByte))))]⟩ : St)
      refine ok_seq ?_
      refine ok_seq ?_
      refine ok_region ?_
      refine o_pure rfl rfl (pu_move (.inl rfl) (ev_tmp rfl)) rfl rfl ?_
      refine o_pure rfl rfl (pu_geq rfl (ev_tmp rfl) (ev_int (inR_lit rfl))) rfl rfl ?_
      refine ops_nil ?_
      refine then_n ?_
      refine ok_cond (ev_tmp rfl) (fun c3 => ?_) (fun c3 => ?_)
      · skip
        have d3 := of_decide_eq_true c3
        have hj6 : j < 6 := by omega
        refine ok_skip ?_
        refine then_n ?_
        refine ok_seq ?_
        refine ok_block ?_
        refine ok_region ?_
        refine o_pure rfl rfl (pu_move (.inl rfl) (ev_tmp rfl)) rfl rfl ?_
        refine o_pure rfl rfl (pu_fieldBox hT rfl rfl rfl (ev_tmp rfl)) rfl rfl ?_
        refine o_pure rfl rfl (pu_loadBox1 hT rfl rfl (ev_tmp rfl) rfl rfl) rfl rfl ?_
        refine o_pure rfl rfl (pu_addR rfl (ev_tmp rfl) (ev_int (inR_lit rfl)) (inR64 (by omega) (by omega))) rfl rfl ?_
        refine o_pure rfl rfl (pu_move (.inl rfl) (ev_tmp rfl)) rfl rfl ?_
        refine o_pure rfl rfl (pu_mulR rfl (ev_int (inR_lit rfl)) (ev_tmp rfl) (inR64 (by omega) (by omega))) rfl rfl ?_
        refine o_pure rfl rfl (pu_shrN rfl (ev_tmp rfl) (ev_tmp rfl) (by omega) (by omega) (by show _ ≤ 64; omega)) rfl rfl ?_
        refine o_pure rfl rfl (pu_convI hT rfl rfl rfl (ev_tmp rfl)) rfl rfl ?_
        refine o_build1 (k := 28) (js := []) hT rfl rfl rfl rfl rfl rfl rfl rfl rfl (ev_tmp rfl) rfl rfl (ow_cons' (ow_dv rfl) ow_nil rfl) (by decide) (by decide) rfl rfl ?_
        simp only [killT, killB, SV.kill, CV.kill, List.map_cons, List.map_nil, List.any_cons, List.any_nil, List.contains_cons, List.contains_nil, List.nil_append, List.cons_append, Nat.reduceBEq, Bool.or_false, Bool.false_or, Bool.or_true, Bool.true_or, cond_true, cond_false]
        refine o_appK (k := 12) (j := 28) (cs := (UInt8.ofNat k.1.toNat :: (be6 (keyN k)).take (j + 1)).flatMap eByte) (n := (UInt8.ofNat k.1.toNat :: (be6 (keyN k)).take (j + 1)).length) hT rfl rfl rfl rfl rfl rfl rfl (ev_tmp rfl) rfl rfl rfl (ev_tmp rfl) rfl rfl (by decide) (by dsimp only [kcOf]; simp only [List.length_cons, List.length_take]; omega) (by dsimp only [kcOf]; simp only [List.length_cons, List.length_take]; omega) (by rw [be6_succ hj6]; simp) (be_step hk hj6 rfl) ?_
        simp only [killT, killB, SV.kill, CV.kill, List.map_cons, List.map_nil, List.any_cons, List.any_nil, List.contains_cons, List.contains_nil, List.nil_append, List.cons_append, Nat.reduceBEq, Bool.or_false, Bool.false_or, Bool.or_true, Bool.true_or, cond_true, cond_false]
        refine o_pure rfl rfl (pu_move (.inr rfl) (ev_tmp rfl)) rfl rfl ?_
        refine ops_nil ?_
        refine blk_n ?_
        refine then_n ?_
        refine ok_region ?_
        refine o_pure rfl rfl (pu_move (.inl rfl) (ev_tmp rfl)) rfl rfl ?_
        refine o_pure rfl rfl (pu_subR rfl (ev_tmp rfl) (ev_int (inR_lit rfl)) (inR64 (by omega) (by omega))) rfl rfl ?_
        refine o_pure rfl rfl (pu_move (.inr rfl) (ev_tmp rfl)) rfl rfl ?_
        refine ops_nil ?_
        refine then_n ?_
        refine ⟨j + 1, ?_, ?_, weak_sub ⟨rfl, rfl, rfl, (eqSlotI (by omega)), trivial⟩ ⟨rfl, trivial⟩ ⟨rfl, trivial⟩ rfl⟩
        · omega
        · omega
      · skip
        have d3 := of_decide_eq_false c3
        refine ok_exit ?_
        refine then_e ?_
        refine then_e ?_
        refine blk_e rfl ?_
        refine then_n ?_
        refine ok_seq ?_
        refine ok_region ?_
        refine o_pure rfl rfl (pu_move (.inl rfl) (ev_tmp rfl)) rfl rfl ?_
        refine o_pure rfl rfl (pu_fieldBox hT rfl rfl rfl (ev_tmp rfl)) rfl rfl ?_
        refine o_pure rfl rfl (pu_loadBox1 hT rfl rfl (ev_tmp rfl) rfl rfl) rfl rfl ?_
        refine o_appS (k := 12) (cs := (encK k).flatMap eByte) (n := (encK k).length) hT rfl rfl rfl rfl rfl rfl (by kernel_rfl) rfl (ev_tmp rfl) rfl rfl rfl (ev_tmp rfl) (by dsimp only [kcOf]; have := be6_len (keyN k); have h12 := hrg.2.2; try simp only [List.length_cons, List.length_take]; omega) (by rw [encK_num hk hn2 (show 6 ≤ j by omega), List.length_append] <;> rfl) (by rw [encK_num hk hn2 (show 6 ≤ j by omega), List.flatMap_append] <;> rfl) ?_
        simp only [killT, killB, SV.kill, CV.kill, List.map_cons, List.map_nil, List.any_cons, List.any_nil, List.contains_cons, List.contains_nil, List.nil_append, List.cons_append, Nat.reduceBEq, Bool.or_false, Bool.false_or, Bool.or_true, Bool.true_or, cond_true, cond_false]
        refine o_pure rfl rfl (pu_move (.inr rfl) (ev_tmp rfl)) rfl rfl ?_
        refine ops_nil ?_
        refine then_n ?_
        refine ok_weak (σ' := ⟨[(2, .one (.key 12))], [], [(12, some (kcOf false (bytesD (encK k))))]⟩) (weak_sub ⟨rfl, trivial⟩ trivial ⟨(by first | exact congrArg (fun l : List UInt8 => some (some (KC.mk false 5 1 l.length (l.flatMap eByte)))) (show ([] : List UInt8) = encK k from (encK_bad hk0).symm) | rfl), trivial⟩ rfl) ?_
        refine ok_ret ?_
        refine fin1 (res_tmp rfl) ?_
        exact ⟨rfl, rfl⟩
    · skip
      have hn2 : k.1 = 2 := by simpa using c2
      have d2 := nd_f c2
      refine ok_skip ?_
      refine then_n ?_
      refine ok_seq ?_
      refine ok_region ?_
      refine o_pure rfl rfl (pu_move (.inl rfl) (ev_tmp rfl)) rfl rfl ?_
      refine o_pure rfl rfl (pu_fieldBox hT rfl rfl rfl (ev_tmp rfl)) rfl rfl ?_
      refine o_pure rfl rfl (pu_loadBox1 hT rfl rfl (ev_tmp rfl) rfl rfl) rfl rfl ?_
      refine o_appS (k := 12) (cs := (encK k).flatMap eByte) (n := (encK k).length) hT rfl rfl rfl rfl rfl rfl (by kernel_rfl) rfl (ev_tmp rfl) rfl rfl rfl (ev_tmp rfl) (by dsimp only [kcOf]; have h12 := hrg.2.2; omega) (by rw [encK_txt hk hn2, List.length_append] <;> rfl) (by rw [encK_txt hk hn2, List.flatMap_append]; exact congrArg (fun z => z ++ _) (byte_hd hk)) ?_
      simp only [killT, killB, SV.kill, CV.kill, List.map_cons, List.map_nil, List.any_cons, List.any_nil, List.contains_cons, List.contains_nil, List.nil_append, List.cons_append, Nat.reduceBEq, Bool.or_false, Bool.false_or, Bool.or_true, Bool.true_or, cond_true, cond_false]
      refine o_pure rfl rfl (pu_move (.inr rfl) (ev_tmp rfl)) rfl rfl ?_
      refine ops_nil ?_
      refine then_n ?_
      refine ok_weak (σ' := ⟨[(2, .one (.key 12))], [], [(12, some (kcOf false (bytesD (encK k))))]⟩) (weak_sub ⟨rfl, trivial⟩ trivial ⟨(by first | exact congrArg (fun l : List UInt8 => some (some (KC.mk false 5 1 l.length (l.flatMap eByte)))) (show ([] : List UInt8) = encK k from (encK_bad hk0).symm) | rfl), trivial⟩ rfl) ?_
      refine ok_ret ?_
      refine fin1 (res_tmp rfl) ?_
      exact ⟨rfl, rfl⟩
set_option maxRecDepth 100000 in
theorem ok_spec_EncodeKey {k : KeyT}  : KFn Try.prog 62 [.agg [(.dv [] (.int .i64 (k.1))), (.dv [] (.int .i64 (k.2.1))), (.dv [] (.str (k.2.2)))]] (.one (.key 12)) [(12, some (kcOf false (bytesD (encK k))))] := by
  refine ⟨fn_intro Try.func62 rfl Try.ntmps62 Try.results62 rfl (fun C => ?_)⟩
  refine ok_factA (x := .tmp 0) 0 (ev_tmp rfl) rfl (fun (f0_0 : -9223372036854775808 ≤ (k.1) ∧ (k.1) ≤ 9223372036854775807) => ?_)
  refine ok_factA (x := .tmp 0) 1 (ev_tmp rfl) rfl (fun (f0_1 : -9223372036854775808 ≤ (k.2.1) ∧ (k.2.1) ≤ 9223372036854775807) => ?_)
  refine ok_factA (x := .tmp 0) 2 (ev_tmp rfl) rfl (fun (f0_2 : (k.2.2).size ≤ 9223372036854775807) => ?_)
  refine ok_seq ?_
  refine ok_region ?_
  refine o_box rfl rfl rfl (ev_tmp rfl) rfl rfl rfl rfl ?_
  refine o_pure rfl rfl (pu_move (.inr rfl) ev_nil) rfl rfl ?_
  refine ops_nil ?_
  refine then_n ?_
  refine ok_seq ?_
  refine ok_seq ?_
  refine ok_region ?_
  refine o_pure rfl rfl (pu_loadBoxA hT rfl rfl (ev_tmp rfl) rfl rfl) rfl rfl ?_
  refine o_call rfl rfl rfl Try.call120 (ok_spec_IsKey (k := k) ) (as_cons (ev_tmp rfl) (ag_agg (ag_cons ac_dv (ag_cons ac_dv (ag_cons ac_dv ag_nil)))) as_nil) rfl rfl ?_
  refine o_pure rfl rfl (pu_not rfl (ev_tmp rfl)) rfl rfl ?_
  refine ops_nil ?_
  refine then_n ?_
  refine ok_cond (ev_tmp rfl) (fun c1 => ?_) (fun c1 => ?_)
  · skip
    have hk0 : isKey k = false := by simpa using c1
    refine ok_seq ?_
    refine ok_region ?_
    refine o_build0 (k := 12) hT rfl rfl rfl rfl rfl rfl rfl rfl ?_
    refine o_pure rfl rfl (pu_move (.inr rfl) (ev_tmp rfl)) rfl rfl ?_
    refine ops_nil ?_
    refine then_n ?_
    refine ok_weak (σ' := ⟨[(2, .one (.key 12))], [], [(12, some (kcOf false (bytesD (encK k))))]⟩) (weak_sub ⟨rfl, trivial⟩ trivial ⟨(by first | exact congrArg (fun l : List UInt8 => some (some (KC.mk false 5 1 l.length (l.flatMap eByte)))) (show ([] : List UInt8) = encK k from (encK_bad hk0).symm) | rfl), trivial⟩ rfl) ?_
    refine ok_ret ?_
    refine then_r ?_
    refine fin1 (res_tmp rfl) ?_
    exact ⟨rfl, rfl⟩
  · skip
    have hk : isKey k = true := by simpa using c1
    have hrg := key_rng hk
    refine ok_skip ?_
    refine then_n ?_
    refine ok_seq ?_
    refine ok_region ?_
    refine o_pure rfl rfl (pu_fieldBox hT rfl rfl rfl (ev_tmp rfl)) rfl rfl ?_
    refine o_pure rfl rfl (pu_loadBox1 hT rfl rfl (ev_tmp rfl) rfl rfl) rfl rfl ?_
    refine o_pure rfl rfl (pu_convI hT rfl rfl rfl (ev_tmp rfl)) rfl rfl ?_
    refine o_build1 (k := 12) (js := []) hT rfl rfl rfl rfl rfl rfl rfl rfl rfl (ev_tmp rfl) rfl rfl (ow_cons' (ow_dv rfl) ow_nil rfl) (by decide) (by decide) rfl rfl ?_
    simp only [killT, killB, SV.kill, CV.kill, List.map_cons, List.map_nil, List.any_cons, List.any_nil, List.contains_cons, List.contains_nil, List.nil_append, List.cons_append, Nat.reduceBEq, Bool.or_false, Bool.false_or, Bool.or_true, Bool.true_or, cond_true, cond_false]
    refine o_pure rfl rfl (pu_move (.inr rfl) (ev_tmp rfl)) rfl rfl ?_
    refine ops_nil ?_
    refine then_n ?_
    refine ok_seq ?_
    refine ok_seq ?_
    refine ok_region ?_
    refine o_pure rfl rfl (pu_move (.inr rfl) (ev_int (inR_lit rfl))) rfl rfl ?_
    refine ops_nil ?_
    refine then_n ?_
    refine ok_block ?_
    refine ok_loop (ι := Nat) (fun zz => ⟨[(1, .box 1 0), (2, .one .nil), (3, .one (.key 12)), (4, .one (.dv [] (.int .i64 (5 - (zz : Int)))))], [(1, 97, [(.dv [] (.int .i64 (k.1))), (.dv [] (.int .i64 (k.2.1))), (.dv [] (.str (k.2.2)))])], [(12, some (kcOf false (.sl 5 1 ((UInt8.ofNat k.1.toNat :: (be6 (keyN k)).take zz).length) ((UInt8.ofNat k.1.toNat :: (be6 (keyN k)).take zz).flatMap eByte))))]⟩) (fun zz => zz ≤ 6 ∧ (k.1 = 2 → zz = 0)) (fun zz => 6 - zz) (0) ?_ (weak_sub ⟨rfl, rfl, rfl, rfl, trivial⟩ ⟨rfl, trivial⟩ ⟨(congrArg (fun cs => some (some (KC.mk false 5 1 1 cs))) (byte_hd hk)), trivial⟩ rfl) (fun zz hx => ?_)
    · exact ⟨by omega, fun _ => rfl⟩
    obtain ⟨j, rfl⟩ : ∃ v, v = zz := ⟨_, rfl⟩
    replace hx : j ≤ 6 ∧ (k.1 = 2 → j = 0) := hx
    obtain ⟨hj, hj2⟩ := hx
    show Ok _ _ _ _ _ (⟨[(1, .box 1 0), (2, .one .nil), (3, .one (.key 12)), (4, .one (.dv [] (.int .i64 (5 - (j : Int)))))], [(1, 97, [(.dv [] (.int .i64 (k.1))), (.dv [] (.int .i64 (k.2.1))), (.dv [] (.str (k.2.2)))])], [(12, some (kcOf false (.sl 5 1 ((UInt8.ofNat k.1.toNat :: (be6 (keyN k)).take j).length) ((UInt8.ofNat k.1.toNat :: (be6 (keyN k)).take j).flatMap eByte))))]⟩ : St)
    refine ok_seq ?_
    refine ok_seq ?_
    refine ok_region ?_
    refine o_pure rfl rfl (pu_move (.inl rfl) (ev_tmp rfl)) rfl rfl ?_
    refine o_pure rfl rfl (pu_geq rfl (ev_tmp rfl) (ev_int (inR_lit rfl))) rfl rfl ?_
    refine o_pure rfl rfl (pu_move (.inl rfl) (ev_tmp rfl)) rfl rfl ?_
    refine o_pureG (gd_bool rfl rfl rfl rfl rfl) rfl (fun hg => pu_fieldBox hT rfl rfl rfl (ev_tmp rfl)) rfl rfl ?_
    refine o_pureG (gd_bool rfl rfl rfl rfl rfl) rfl (fun hg => pu_loadBox1 hT rfl rfl (ev_opt rfl hg) rfl rfl) rfl rfl ?_
    refine o_pureG (gd_bool rfl rfl rfl rfl rfl) rfl (fun hg => pu_neq rfl (ev_opt rfl hg) (ev_int (inR_lit rfl))) rfl rfl ?_
    refine o_pure rfl rfl (pu_and rfl (ev_tmp rfl) (fun hb => (ev_opt rfl (beq_t hb)))) rfl rfl ?_
    refine ops_nil ?_
    refine then_n ?_
    refine ok_cond (ev_tmp rfl) (fun c2 => ?_) (fun c2 => ?_)
    · skip
      have hj6 : j < 6 := by have := (Bool.and_eq_true _ _ ▸ c2 : _ ∧ _).1; have := of_decide_eq_true this; omega
      have hn2 : ¬ k.1 = 2 := by have := (Bool.and_eq_true _ _ ▸ c2 : _ ∧ _).2; simpa using this
      obtain ⟨q, hq, hqk⟩ := key_byteQ hk hj6
      refine ok_skip ?_
      refine then_n ?_
      refine ok_seq ?_
      refine ok_block ?_
      refine ok_region ?_
      refine o_pure rfl rfl (pu_move (.inl rfl) (ev_tmp rfl)) rfl rfl ?_
      refine o_pure rfl rfl (pu_fieldBox hT rfl rfl rfl (ev_tmp rfl)) rfl rfl ?_
      refine o_pure rfl rfl (pu_loadBox1 hT rfl rfl (ev_tmp rfl) rfl rfl) rfl rfl ?_
      refine o_pure rfl rfl (pu_addR rfl (ev_tmp rfl) (ev_int (inR_lit rfl)) (inR64 (by omega) (by omega))) rfl rfl ?_
      refine o_pure rfl rfl (pu_move (.inl rfl) (ev_tmp rfl)) rfl rfl ?_
      refine o_pure rfl rfl (pu_mulR rfl (ev_int (inR_lit rfl)) (ev_tmp rfl) (inR64 (by omega) (by omega))) rfl rfl ?_
      refine o_pure rfl rfl (pu_shrN rfl (ev_tmp rfl) (ev_tmp rfl) (by omega) (by omega) (by show _ ≤ 64; omega)) rfl rfl ?_
      refine o_pure rfl rfl (pu_andR rfl (ev_tmp rfl) (ev_int (inR_lit rfl)) (and255 (by omega) (by omega)) (inR64 (by omega) (by omega))) rfl rfl ?_
      refine o_pure rfl rfl (pu_convI hT rfl rfl rfl (ev_tmp rfl)) rfl rfl ?_
      refine o_build1 (k := 31) (js := []) hT rfl rfl rfl rfl rfl rfl rfl rfl rfl (ev_tmp rfl) rfl rfl (ow_cons' (ow_dv rfl) ow_nil rfl) (by decide) (by decide) rfl rfl ?_
      simp only [killT, killB, SV.kill, CV.kill, List.map_cons, List.map_nil, List.any_cons, List.any_nil, List.contains_cons, List.contains_nil, List.nil_append, List.cons_append, Nat.reduceBEq, Bool.or_false, Bool.false_or, Bool.or_true, Bool.true_or, cond_true, cond_false]
      refine o_appK (k := 12) (j := 31) (cs := (UInt8.ofNat k.1.toNat :: (be6 (keyN k)).take (j + 1)).flatMap eByte) (n := (UInt8.ofNat k.1.toNat :: (be6 (keyN k)).take (j + 1)).length) hT rfl rfl rfl rfl rfl rfl rfl (ev_tmp rfl) rfl rfl rfl (ev_tmp rfl) rfl rfl (by decide) (by dsimp only [kcOf]; simp only [List.length_cons, List.length_take]; omega) (by dsimp only [kcOf]; simp only [List.length_cons, List.length_take]; omega) (by rw [be6_succ hj6]; simp) (by rw [u8_and]; exact be_step hk hj6 rfl) ?_
      simp only [killT, killB, SV.kill, CV.kill, List.map_cons, List.map_nil, List.any_cons, List.any_nil, List.contains_cons, List.contains_nil, List.nil_append, List.cons_append, Nat.reduceBEq, Bool.or_false, Bool.false_or, Bool.or_true, Bool.true_or, cond_true, cond_false]
      refine o_pure rfl rfl (pu_move (.inr rfl) (ev_tmp rfl)) rfl rfl ?_
      refine ops_nil ?_
      refine blk_n ?_
      refine then_n ?_
      refine ok_region ?_
      refine o_pure rfl rfl (pu_move (.inl rfl) (ev_tmp rfl)) rfl rfl ?_
      refine o_pure rfl rfl (pu_subR rfl (ev_tmp rfl) (ev_int (inR_lit rfl)) (inR64 (by omega) (by omega))) rfl rfl ?_
      refine o_pure rfl rfl (pu_move (.inr rfl) (ev_tmp rfl)) rfl rfl ?_
      refine ops_nil ?_
      refine then_n ?_
      refine ⟨j + 1, ?_, ?_, weak_sub ⟨rfl, rfl, rfl, (eqSlotI (by omega)), trivial⟩ ⟨rfl, trivial⟩ ⟨rfl, trivial⟩ rfl⟩
      · exact ⟨by omega, fun h => absurd h hn2⟩
      · omega
    · skip
      refine ok_exit ?_
      refine then_e ?_
      refine then_e ?_
      refine blk_e rfl ?_
      refine then_n ?_
      refine ok_seq ?_
      refine ok_region ?_
      refine o_pure rfl rfl (pu_move (.inl rfl) (ev_tmp rfl)) rfl rfl ?_
      refine o_pure rfl rfl (pu_fieldBox hT rfl rfl rfl (ev_tmp rfl)) rfl rfl ?_
      refine o_pure rfl rfl (pu_loadBox1 hT rfl rfl (ev_tmp rfl) rfl rfl) rfl rfl ?_
      refine o_convSB (k := 36) hT rfl rfl rfl rfl rfl rfl rfl (ev_tmp rfl) rfl ?_
      refine o_appK (k := 12) (j := 36) (cs := (encK k).flatMap eByte) (n := (encK k).length) hT rfl rfl rfl rfl rfl rfl rfl (ev_tmp rfl) rfl rfl rfl (ev_tmp rfl) rfl rfl (by decide) (by dsimp only [kcOf, KC.old]; have := be6_len (keyN k); have h12 : k.2.2.data.toList.length ≤ 12 := hrg.2.2; simp only [List.length_cons, List.length_take]; omega) (by dsimp only [kcOf, KC.old]; have := be6_len (keyN k); have h12 : k.2.2.data.toList.length ≤ 12 := hrg.2.2; simp only [List.length_cons, List.length_take]; omega) (by rw [encK_end hk hj2 c2, List.length_append] <;> rfl) (by rw [encK_end hk hj2 c2, List.flatMap_append] <;> rfl) ?_
      simp only [killT, killB, SV.kill, CV.kill, List.map_cons, List.map_nil, List.any_cons, List.any_nil, List.contains_cons, List.contains_nil, List.nil_append, List.cons_append, Nat.reduceBEq, Bool.or_false, Bool.false_or, Bool.or_true, Bool.true_or, cond_true, cond_false]
      refine o_pure rfl rfl (pu_move (.inr rfl) (ev_tmp rfl)) rfl rfl ?_
      refine ops_nil ?_
      refine then_n ?_
      refine ok_weak (σ' := ⟨[(2, .one (.key 12))], [], [(12, some (kcOf false (bytesD (encK k))))]⟩) (weak_sub ⟨rfl, trivial⟩ trivial ⟨(by first | exact congrArg (fun l : List UInt8 => some (some (KC.mk false 5 1 l.length (l.flatMap eByte)))) (show ([] : List UInt8) = encK k from (encK_bad hk0).symm) | rfl), trivial⟩ rfl) ?_
      refine ok_ret ?_
      refine fin1 (res_tmp rfl) ?_
      exact ⟨rfl, rfl⟩
set_option maxRecDepth 100000 in
theorem ok_impl_EncodeRecord {r : RecT}  : KFn Try.prog 68 [.agg [(.dv [] (fieldsD (r)))]] (.one (.key 500)) [(500, some (kcOf false (bytesD (encR r))))] := by
  refine ⟨fn_intro Try.func68 rfl Try.ntmps68 Try.results68 rfl (fun C => ?_)⟩
  refine ok_factA (x := .tmp 0) 0 (ev_tmp rfl) rfl (fun (f0_0 : ((r)).length ≤ 9223372036854775807) => ?_)
  refine ok_seq ?_
  refine ok_region ?_
  refine o_box rfl rfl rfl (ev_tmp rfl) rfl rfl rfl rfl ?_
  refine o_pure rfl rfl (pu_move (.inr rfl) ev_nil) rfl rfl ?_
  refine ops_nil ?_
  refine then_n ?_
  refine ok_seq ?_
  refine ok_seq ?_
  refine ok_region ?_
  refine o_pure rfl rfl (pu_loadBoxA hT rfl rfl (ev_tmp rfl) rfl rfl) rfl rfl ?_
  refine o_call rfl rfl rfl Try.call127 (ok_impl_IsRecord (r := r) ) (as_cons (ev_tmp rfl) (ag_agg (ag_cons ac_dv ag_nil)) as_nil) rfl rfl ?_
  refine o_pure rfl rfl (pu_not rfl (ev_tmp rfl)) rfl rfl ?_
  refine ops_nil ?_
  refine then_n ?_
  refine ok_cond (ev_tmp rfl) (fun c1 => ?_) (fun c1 => ?_)
  · skip
    have hk0 : isRec r = false := by simpa using c1
    refine ok_seq ?_
    refine ok_region ?_
    refine o_build0 (k := 500) hT rfl rfl rfl rfl rfl rfl rfl rfl ?_
    refine o_pure rfl rfl (pu_move (.inr rfl) (ev_tmp rfl)) rfl rfl ?_
    refine ops_nil ?_
    refine then_n ?_
    refine ok_weak (σ' := ⟨[(2, .one (.key 500))], [], [(500, some (kcOf false (bytesD (encR r))))]⟩) (weak_sub ⟨rfl, trivial⟩ trivial ⟨(by first | exact congrArg (fun l : List UInt8 => some (some (KC.mk false 5 1 l.length (l.flatMap eByte)))) (show ([] : List UInt8) = encR r from (encR_bad hk0).symm) | exact congrArg (fun l : List UInt8 => some (some (KC.mk false 5 1 l.length (l.flatMap eByte)))) (encR_ok hk (by omega)).symm), trivial⟩ rfl) ?_
    refine ok_ret ?_
    refine then_r ?_
    refine fin1 (res_tmp rfl) ?_
    exact ⟨rfl, rfl⟩
  · skip
    have hk : isRec r = true := by simpa using c1
    have hrl := rec_len hk
    refine ok_skip ?_
    refine then_n ?_
    refine ok_seq ?_
    refine ok_region ?_
    refine o_pure rfl rfl (pu_fieldBox hT rfl rfl rfl (ev_tmp rfl)) rfl rfl ?_
    refine o_pure rfl rfl (pu_loadBox1 hT rfl rfl (ev_tmp rfl) rfl rfl) rfl rfl ?_
    refine o_pure rfl rfl (pu_lenV hT rfl rfl (ev_tmp rfl)) rfl rfl ?_
    refine o_callK 470 rfl rfl rfl Try.call66 (ok_impl_AppendUvarint (x := []) (n := (r.length : Int)) (by simp)) (as_cons ev_nil (ag_one (ac_nil' rfl rfl)) (as_cons (ev_tmp rfl) (ag_one ac_dv) as_nil)) rfl rfl rfl ?_
    refine o_pure rfl rfl (pu_move (.inr rfl) (ev_tmp rfl)) rfl rfl ?_
    refine ops_nil ?_
    refine then_n ?_
    refine ok_seq ?_
    refine ok_seq ?_
    refine ok_region ?_
    refine o_pure rfl rfl (pu_fieldBox hT rfl rfl rfl (ev_tmp rfl)) rfl rfl ?_
    refine o_pure rfl rfl (pu_loadBox1 hT rfl rfl (ev_tmp rfl) rfl rfl) rfl rfl ?_
    refine o_pure rfl rfl (pu_lenV hT rfl rfl (ev_tmp rfl)) rfl rfl ?_
    refine o_pure rfl rfl (pu_move (.inl rfl) (ev_int (inR_lit rfl))) rfl rfl ?_
    refine ops_nil ?_
    refine then_n ?_
    refine ok_block ?_
    refine ok_loop (ι := Nat) (fun zz => ⟨[(2, .one .nil), (3, .one (.key 500)), (15, .one (.dv [] (fieldsD (r)))), (16, .one (.dv [] (.int .i64 ((((r)).length : Int))))), (17, .one (.dv [] (.int .i64 ((zz : Int)))))], [], [(500, some (kcOf false (.sl 5 1 ((encRN r zz).length) ((encRN r zz).flatMap eByte))))]⟩) (fun zz => zz ≤ r.length) (fun zz => r.length - zz) (0) ?_ (weak_sub ⟨rfl, rfl, rfl, rfl, rfl, trivial⟩ trivial ⟨rfl, trivial⟩ rfl) (fun zz hx => ?_)
    · exact Nat.zero_le _
    obtain ⟨k, rfl⟩ : ∃ v, v = zz := ⟨_, rfl⟩
    replace hx : k ≤ r.length := hx
    show Ok _ _ _ _ _ (⟨[(2, .one .nil), (3, .one (.key 500)), (15, .one (.dv [] (fieldsD (r)))), (16, .one (.dv [] (.int .i64 ((((r)).length : Int))))), (17, .one (.dv [] (.int .i64 ((k : Int)))))], [], [(500, some (kcOf false (.sl 5 1 ((encRN r k).length) ((encRN r k).flatMap eByte))))]⟩ : St)
    refine ok_seq ?_
    refine ok_region ?_
    refine o_pure rfl rfl (pu_lss rfl (ev_tmp rfl) (ev_tmp rfl)) rfl rfl ?_
    refine ops_nil ?_
    refine then_n ?_
    refine ok_seq ?_
    refine ok_cond (ev_tmp rfl) (fun c2 => ?_) (fun c2 => ?_)
    · skip
      have d2 := of_decide_eq_true c2
      have hkl : k < r.length := by omega
      have hf := rec_fld hk hkl
      have hns := (name_size hf.1).2
      have hns2 : (r.getD (k : Int).toNat default).1.data.toList.length ≤ 8 := hns
      have hel := encRN_len hk k (by omega)
      have hel2 := appU_len (encRN r k) ((r.getD (k : Int).toNat default).1.data.toList.length : Int)
      refine ok_skip ?_
      refine then_n ?_
      refine ok_seq ?_
      refine ok_block ?_
      refine ok_seq ?_
      refine ok_region ?_
      refine o_pure rfl rfl (pu_indexD hT rfl rfl rfl (ev_tmp rfl) (ev_tmp rfl) (fun _ => rfl) (by first | omega | (simp only [Bool.and_eq_true, Bool.or_eq_true, Bool.or_eq_false_iff, Bool.and_eq_false_iff, Bool.not_eq_true', Bool.not_eq_false', beq_iff_eq, decide_eq_true_eq, decide_eq_false_iff_not] at hg; omega) | (have hh := of_decide_eq_true (beq_tt hg); omega) | (have hh := of_decide_eq_true (beq_tt (and_r hg)); omega)) (by first | omega | (simp only [Bool.and_eq_true, Bool.or_eq_true, Bool.or_eq_false_iff, Bool.and_eq_false_iff, Bool.not_eq_true', Bool.not_eq_false', beq_iff_eq, decide_eq_true_eq, decide_eq_false_iff_not] at hg; omega) | (have hh := of_decide_eq_true (beq_tt hg); omega) | (have hh := of_decide_eq_true (beq_tt (and_r hg)); omega))) rfl rfl ?_
      refine o_pure rfl rfl (pu_loadRefA hT rfl rfl (ev_tmp rfl) rfl) rfl rfl ?_
      refine o_alloc hT rfl rfl rfl rfl rfl rfl ?_
      refine o_store hT rfl rfl rfl rfl (ev_tmp rfl) (ev_tmp rfl) rfl rfl rfl rfl rfl rfl ?_
      refine ops_nil ?_
      refine then_n ?_
      refine ok_regionD (oB := [5]) (oK := [500]) (by kernel_rfl) rfl rfl ?_
      refine d_take 0 rfl (by kernel_rfl) rfl rfl (pu_move (.inl rfl) (ev_tmp rfl)) rfl rfl rfl rfl ?_
      refine d_take 1 rfl (by kernel_rfl) rfl rfl (pu_fieldBox hT rfl rfl rfl (ev_tmp rfl)) rfl rfl rfl rfl ?_
      refine d_take 2 rfl (by kernel_rfl) rfl rfl (pu_loadBox1 hT rfl rfl (ev_tmp rfl) rfl rfl) rfl rfl rfl rfl ?_
      refine d_take 5 rfl (by kernel_rfl) rfl rfl (pu_fieldBox hT rfl rfl rfl (ev_tmp rfl)) rfl rfl rfl rfl ?_
      refine d_take 6 rfl (by kernel_rfl) rfl rfl (pu_loadBox1 hT rfl rfl (ev_tmp rfl) rfl rfl) rfl rfl rfl rfl ?_
      refine d_convSB (k := 24) 3 hT rfl (by kernel_rfl) rfl rfl rfl rfl rfl rfl rfl (ev_tmp rfl) rfl rfl rfl ?_
      refine d_callK 25000 4 rfl (by kernel_rfl) rfl rfl rfl Try.call69 (ok_impl_AppendBytes (x := (encRN r k)) (y := (r.getD (k : Int).toNat default).1.data.toList) (by omega) (by omega)) (as_cons (ev_tmp rfl) (ag_one (ac_key' rfl rfl)) (as_cons (ev_tmp rfl) (ag_one (ac_key' rfl rfl)) as_nil)) rfl rfl rfl rfl rfl ?_
      refine d_callK 472 7 rfl (by kernel_rfl) rfl rfl rfl Try.call66 (ok_impl_AppendUvarint (x := appU (encRN r k) ((r.getD (k : Int).toNat default).1.data.toList.length : Int) ++ (r.getD (k : Int).toNat default).1.data.toList) (n := (r.getD (k : Int).toNat default).2) (by rw [List.length_append]; omega)) (as_cons (ev_tmp rfl) (ag_one (ac_key' rfl rfl)) (as_cons (ev_tmp rfl) (ag_one ac_dv) as_nil)) rfl rfl rfl rfl rfl ?_
      refine d_take 8 rfl (by kernel_rfl) rfl rfl (pu_move (.inr rfl) (ev_tmp rfl)) rfl rfl rfl rfl ?_
      refine d_done (by kernel_rfl) ?_
      refine blk_n ?_
      refine then_n ?_
      refine ok_weak (weak_swap (s := 3) (k := 502) (k' := 500) rfl rfl rfl (by decide) rfl) ?_
      simp only [killT, killB, SV.kill, CV.kill, List.map_cons, List.map_nil, List.any_cons, List.any_nil, List.contains_cons, List.contains_nil, List.nil_append, List.cons_append, Nat.reduceBEq, Bool.or_false, Bool.false_or, Bool.or_true, Bool.true_or, cond_true, cond_false]
      refine ok_region ?_
      refine o_pure rfl rfl (pu_addR rfl (ev_tmp rfl) (ev_int (inR_lit rfl)) (inR64 (by omega) (by omega))) rfl rfl ?_
      refine o_pure rfl rfl (pu_move (.inl rfl) (ev_tmp rfl)) rfl rfl ?_
      refine ops_nil ?_
      refine then_n ?_
      refine ⟨k + 1, ?_, ?_, weak_sub ⟨rfl, rfl, rfl, rfl, rfl, trivial⟩ trivial ⟨rfl, trivial⟩ rfl⟩
      · omega
      · omega
    · skip
      have d2 := of_decide_eq_false c2
      refine ok_exit ?_
      refine then_e ?_
      refine then_e ?_
      refine blk_e rfl ?_
      refine then_n ?_
      refine ok_seq ?_
      refine ok_region ?_
      refine o_pure rfl rfl (pu_move (.inl rfl) (ev_tmp rfl)) rfl rfl ?_
      refine o_pure rfl rfl (pu_move (.inr rfl) (ev_tmp rfl)) rfl rfl ?_
      refine ops_nil ?_
      refine then_n ?_
      refine ok_weak (σ' := ⟨[(2, .one (.key 500))], [], [(500, some (kcOf false (bytesD (encR r))))]⟩) (weak_sub ⟨rfl, trivial⟩ trivial ⟨(by first | exact congrArg (fun l : List UInt8 => some (some (KC.mk false 5 1 l.length (l.flatMap eByte)))) (show ([] : List UInt8) = encR r from (encR_bad hk0).symm) | exact congrArg (fun l : List UInt8 => some (some (KC.mk false 5 1 l.length (l.flatMap eByte)))) (encR_ok hk (by omega)).symm), trivial⟩ rfl) ?_
      refine ok_ret ?_
      refine fin1 (res_tmp rfl) ?_
      exact ⟨rfl, rfl⟩
set_option maxRecDepth 100000 in
theorem ok_spec_EncodeRecord {r : RecT}  : KFn Try.prog 63 [.agg [(.dv [] (fieldsD (r)))]] (.one (.key 500)) [(500, some (kcOf false (bytesD (encR r))))] := by
  refine ⟨fn_intro Try.func63 rfl Try.ntmps63 Try.results63 rfl (fun C => ?_)⟩
  refine ok_factA (x := .tmp 0) 0 (ev_tmp rfl) rfl (fun (f0_0 : ((r)).length ≤ 9223372036854775807) => ?_)
  refine ok_seq ?_
  refine ok_region ?_
  refine o_box rfl rfl rfl (ev_tmp rfl) rfl rfl rfl rfl ?_
  refine o_pure rfl rfl (pu_move (.inr rfl) ev_nil) rfl rfl ?_
  refine ops_nil ?_
  refine then_n ?_
  refine ok_seq ?_
  refine ok_seq ?_
  refine ok_region ?_
  refine o_pure rfl rfl (pu_loadBoxA hT rfl rfl (ev_tmp rfl) rfl rfl) rfl rfl ?_
  refine o_call rfl rfl rfl Try.call121 (ok_spec_IsRecord (r := r) ) (as_cons (ev_tmp rfl) (ag_agg (ag_cons ac_dv ag_nil)) as_nil) rfl rfl ?_
  refine o_pure rfl rfl (pu_not rfl (ev_tmp rfl)) rfl rfl ?_
  refine ops_nil ?_
  refine then_n ?_
  refine ok_cond (ev_tmp rfl) (fun c1 => ?_) (fun c1 => ?_)
  · skip
    have hk0 : isRec r = false := by simpa using c1
    refine ok_seq ?_
    refine ok_region ?_
    refine o_build0 (k := 500) hT rfl rfl rfl rfl rfl rfl rfl rfl ?_
    refine o_pure rfl rfl (pu_move (.inr rfl) (ev_tmp rfl)) rfl rfl ?_
    refine ops_nil ?_
    refine then_n ?_
    refine ok_weak (σ' := ⟨[(2, .one (.key 500))], [], [(500, some (kcOf false (bytesD (encR r))))]⟩) (weak_sub ⟨rfl, trivial⟩ trivial ⟨(by first | exact congrArg (fun l : List UInt8 => some (some (KC.mk false 5 1 l.length (l.flatMap eByte)))) (show ([] : List UInt8) = encR r from (encR_bad hk0).symm) | exact congrArg (fun l : List UInt8 => some (some (KC.mk false 5 1 l.length (l.flatMap eByte)))) (encR_ok hk (by omega)).symm), trivial⟩ rfl) ?_
    refine ok_ret ?_
    refine then_r ?_
    refine fin1 (res_tmp rfl) ?_
    exact ⟨rfl, rfl⟩
  · skip
    have hk : isRec r = true := by simpa using c1
    have hrl := rec_len hk
    refine ok_skip ?_
    refine then_n ?_
    refine ok_seq ?_
    refine ok_region ?_
    refine o_build0 (k := 9) hT rfl rfl rfl rfl rfl rfl rfl rfl ?_
    refine o_pure rfl rfl (pu_fieldBox hT rfl rfl rfl (ev_tmp rfl)) rfl rfl ?_
    refine o_pure rfl rfl (pu_loadBox1 hT rfl rfl (ev_tmp rfl) rfl rfl) rfl rfl ?_
    refine o_pure rfl rfl (pu_lenV hT rfl rfl (ev_tmp rfl)) rfl rfl ?_
    refine o_callK 494 rfl rfl rfl Try.call59 (ok_spec_AppendUvarint (x := []) (n := (r.length : Int)) (by simp)) (as_cons (ev_tmp rfl) (ag_one (ac_key' rfl rfl)) (as_cons (ev_tmp rfl) (ag_one ac_dv) as_nil)) rfl rfl rfl ?_
    refine o_pure rfl rfl (pu_move (.inr rfl) (ev_tmp rfl)) rfl rfl ?_
    refine ops_nil ?_
    refine then_n ?_
    refine ok_seq ?_
    refine ok_seq ?_
    refine ok_region ?_
    refine o_pure rfl rfl (pu_move (.inr rfl) (ev_int (inR_lit rfl))) rfl rfl ?_
    refine ops_nil ?_
    refine then_n ?_
    refine ok_block ?_
    refine ok_loop (ι := Nat) (fun zz => ⟨[(1, .box 1 0), (2, .one .nil), (3, .one (.key 500)), (4, .one (.dv [] (.int .i64 ((zz : Int)))))], [(1, 100, [(.dv [] (fieldsD (r)))])], [(500, some (kcOf false (.sl 5 1 ((encRN r zz).length) ((encRN r zz).flatMap eByte))))]⟩) (fun zz => zz ≤ r.length) (fun zz => r.length - zz) (0) ?_ (weak_sub ⟨rfl, rfl, rfl, rfl, trivial⟩ ⟨rfl, trivial⟩ ⟨rfl, trivial⟩ rfl) (fun zz hx => ?_)
    · exact Nat.zero_le _
    obtain ⟨k, rfl⟩ : ∃ v, v = zz := ⟨_, rfl⟩
    replace hx : k ≤ r.length := hx
    show Ok _ _ _ _ _ (⟨[(1, .box 1 0), (2, .one .nil), (3, .one (.key 500)), (4, .one (.dv [] (.int .i64 ((k : Int)))))], [(1, 100, [(.dv [] (fieldsD (r)))])], [(500, some (kcOf false (.sl 5 1 ((encRN r k).length) ((encRN r k).flatMap eByte))))]⟩ : St)
    refine ok_seq ?_
    refine ok_seq ?_
    refine ok_region ?_
    refine o_pure rfl rfl (pu_move (.inl rfl) (ev_tmp rfl)) rfl rfl ?_
    refine o_pure rfl rfl (pu_fieldBox hT rfl rfl rfl (ev_tmp rfl)) rfl rfl ?_
    refine o_pure rfl rfl (pu_loadBox1 hT rfl rfl (ev_tmp rfl) rfl rfl) rfl rfl ?_
    refine o_pure rfl rfl (pu_lenV hT rfl rfl (ev_tmp rfl)) rfl rfl ?_
    refine o_pure rfl rfl (pu_lss rfl (ev_tmp rfl) (ev_tmp rfl)) rfl rfl ?_
    refine ops_nil ?_
    refine then_n ?_
    refine ok_cond (ev_tmp rfl) (fun c2 => ?_) (fun c2 => ?_)
    · skip
      have d2 := of_decide_eq_true c2
      have hkl : k < r.length := by omega
      have hf := rec_fld hk hkl
      have hns := (name_size hf.1).2
      have hns2 : (r.getD (k : Int).toNat default).1.data.toList.length ≤ 8 := hns
      have hel := encRN_len hk k (by omega)
      have hel2 := appU_len (encRN r k) ((r.getD (k : Int).toNat default).1.data.toList.length : Int)
      refine ok_skip ?_
      refine then_n ?_
      refine ok_seq ?_
      refine ok_block ?_
      refine ok_regionD (oB := [1]) (oK := [500]) (by kernel_rfl) rfl rfl ?_
      refine d_take 0 rfl (by kernel_rfl) rfl rfl (pu_move (.inl rfl) (ev_tmp rfl)) rfl rfl rfl rfl ?_
      refine d_take 1 rfl (by kernel_rfl) rfl rfl (pu_fieldBox hT rfl rfl rfl (ev_tmp rfl)) rfl rfl rfl rfl ?_
      refine d_take 2 rfl (by kernel_rfl) rfl rfl (pu_loadBox1 hT rfl rfl (ev_tmp rfl) rfl rfl) rfl rfl rfl rfl ?_
      refine d_take 3 rfl (by kernel_rfl) rfl rfl (pu_move (.inl rfl) (ev_tmp rfl)) rfl rfl rfl rfl ?_
      refine d_take 4 rfl (by kernel_rfl) rfl rfl (pu_indexD hT rfl rfl rfl (ev_tmp rfl) (ev_tmp rfl) (fun _ => rfl) (by first | omega | (simp only [Bool.and_eq_true, Bool.or_eq_true, Bool.or_eq_false_iff, Bool.and_eq_false_iff, Bool.not_eq_true', Bool.not_eq_false', beq_iff_eq, decide_eq_true_eq, decide_eq_false_iff_not] at hg; omega) | (have hh := of_decide_eq_true (beq_tt hg); omega) | (have hh := of_decide_eq_true (beq_tt (and_r hg)); omega)) (by first | omega | (simp only [Bool.and_eq_true, Bool.or_eq_true, Bool.or_eq_false_iff, Bool.and_eq_false_iff, Bool.not_eq_true', Bool.not_eq_false', beq_iff_eq, decide_eq_true_eq, decide_eq_false_iff_not] at hg; omega) | (have hh := of_decide_eq_true (beq_tt hg); omega) | (have hh := of_decide_eq_true (beq_tt (and_r hg)); omega))) rfl rfl rfl rfl ?_
      refine d_take 5 rfl (by kernel_rfl) rfl rfl (pu_fieldRef hT rfl rfl rfl (ev_tmp rfl)) rfl rfl rfl rfl ?_
      refine d_take 6 rfl (by kernel_rfl) rfl rfl (pu_loadRef1 hT rfl rfl (ev_tmp rfl) rfl) rfl rfl rfl rfl ?_
      refine d_take 9 rfl (by kernel_rfl) rfl rfl (pu_fieldBox hT rfl rfl rfl (ev_tmp rfl)) rfl rfl rfl rfl ?_
      refine d_take 10 rfl (by kernel_rfl) rfl rfl (pu_loadBox1 hT rfl rfl (ev_tmp rfl) rfl rfl) rfl rfl rfl rfl ?_
      refine d_take 11 rfl (by kernel_rfl) rfl rfl (pu_move (.inl rfl) (ev_tmp rfl)) rfl rfl rfl rfl ?_
      refine d_take 12 rfl (by kernel_rfl) rfl rfl (pu_indexD hT rfl rfl rfl (ev_tmp rfl) (ev_tmp rfl) (fun _ => rfl) (by first | omega | (simp only [Bool.and_eq_true, Bool.or_eq_true, Bool.or_eq_false_iff, Bool.and_eq_false_iff, Bool.not_eq_true', Bool.not_eq_false', beq_iff_eq, decide_eq_true_eq, decide_eq_false_iff_not] at hg; omega) | (have hh := of_decide_eq_true (beq_tt hg); omega) | (have hh := of_decide_eq_true (beq_tt (and_r hg)); omega)) (by first | omega | (simp only [Bool.and_eq_true, Bool.or_eq_true, Bool.or_eq_false_iff, Bool.and_eq_false_iff, Bool.not_eq_true', Bool.not_eq_false', beq_iff_eq, decide_eq_true_eq, decide_eq_false_iff_not] at hg; omega) | (have hh := of_decide_eq_true (beq_tt hg); omega) | (have hh := of_decide_eq_true (beq_tt (and_r hg)); omega))) rfl rfl rfl rfl ?_
      refine d_take 13 rfl (by kernel_rfl) rfl rfl (pu_fieldRef hT rfl rfl rfl (ev_tmp rfl)) rfl rfl rfl rfl ?_
      refine d_take 14 rfl (by kernel_rfl) rfl rfl (pu_loadRef1 hT rfl rfl (ev_tmp rfl) rfl) rfl rfl rfl rfl ?_
      refine d_convSB (k := 28) 7 hT rfl (by kernel_rfl) rfl rfl rfl rfl rfl rfl rfl (ev_tmp rfl) rfl rfl rfl ?_
      refine d_callK 29000 8 rfl (by kernel_rfl) rfl rfl rfl Try.call61 (ok_spec_AppendBytes (x := (encRN r k)) (y := (r.getD (k : Int).toNat default).1.data.toList) (by omega) (by omega)) (as_cons (ev_tmp rfl) (ag_one (ac_key' rfl rfl)) (as_cons (ev_tmp rfl) (ag_one (ac_key' rfl rfl)) as_nil)) rfl rfl rfl rfl rfl ?_
      refine d_callK 496 15 rfl (by kernel_rfl) rfl rfl rfl Try.call59 (ok_spec_AppendUvarint (x := appU (encRN r k) ((r.getD (k : Int).toNat default).1.data.toList.length : Int) ++ (r.getD (k : Int).toNat default).1.data.toList) (n := (r.getD (k : Int).toNat default).2) (by rw [List.length_append]; omega)) (as_cons (ev_tmp rfl) (ag_one (ac_key' rfl rfl)) (as_cons (ev_tmp rfl) (ag_one ac_dv) as_nil)) rfl rfl rfl rfl rfl ?_
      refine d_take 16 rfl (by kernel_rfl) rfl rfl (pu_move (.inr rfl) (ev_tmp rfl)) rfl rfl rfl rfl ?_
      refine d_done (by kernel_rfl) ?_
      refine blk_n ?_
      refine then_n ?_
      refine ok_weak (weak_swap (s := 3) (k := 502) (k' := 500) rfl rfl rfl (by decide) rfl) ?_
      simp only [killT, killB, SV.kill, CV.kill, List.map_cons, List.map_nil, List.any_cons, List.any_nil, List.contains_cons, List.contains_nil, List.nil_append, List.cons_append, Nat.reduceBEq, Bool.or_false, Bool.false_or, Bool.or_true, Bool.true_or, cond_true, cond_false]
      refine ok_region ?_
      refine o_pure rfl rfl (pu_move (.inl rfl) (ev_tmp rfl)) rfl rfl ?_
      refine o_pure rfl rfl (pu_addR rfl (ev_tmp rfl) (ev_int (inR_lit rfl)) (inR64 (by omega) (by omega))) rfl rfl ?_
      refine o_pure rfl rfl (pu_move (.inr rfl) (ev_tmp rfl)) rfl rfl ?_
      refine ops_nil ?_
      refine then_n ?_
      refine ⟨k + 1, ?_, ?_, weak_sub ⟨rfl, rfl, rfl, rfl, trivial⟩ ⟨rfl, trivial⟩ ⟨rfl, trivial⟩ rfl⟩
      · omega
      · omega
    · skip
      have d2 := of_decide_eq_false c2
      refine ok_exit ?_
      refine then_e ?_
      refine then_e ?_
      refine blk_e rfl ?_
      refine then_n ?_
      refine ok_seq ?_
      refine ok_region ?_
      refine o_pure rfl rfl (pu_move (.inl rfl) (ev_tmp rfl)) rfl rfl ?_
      refine o_pure rfl rfl (pu_move (.inr rfl) (ev_tmp rfl)) rfl rfl ?_
      refine ops_nil ?_
      refine then_n ?_
      refine ok_weak (σ' := ⟨[(2, .one (.key 500))], [], [(500, some (kcOf false (bytesD (encR r))))]⟩) (weak_sub ⟨rfl, trivial⟩ trivial ⟨(by first | exact congrArg (fun l : List UInt8 => some (some (KC.mk false 5 1 l.length (l.flatMap eByte)))) (show ([] : List UInt8) = encR r from (encR_bad hk0).symm) | exact congrArg (fun l : List UInt8 => some (some (KC.mk false 5 1 l.length (l.flatMap eByte)))) (encR_ok hk (by omega)).symm), trivial⟩ rfl) ?_
      refine ok_ret ?_
      refine fin1 (res_tmp rfl) ?_
      exact ⟨rfl, rfl⟩
set_option maxRecDepth 100000 in
theorem ok_impl_SizeStore {x : StoreT} (hb : wStore x ≤ 1048576) : PFn Try.prog 54 [.agg [(.dv [] (.str (x.1))), (.dv [] (itemsD (x.2.1))), (.dv [] (.int .i64 (x.2.2)))]] (.one (.dv [] (.int .i64 ((sizeS x : Int))))) := by
  refine ⟨fn_intro Try.func54 rfl Try.ntmps54 Try.results54 rfl (fun C => ?_)⟩
  have hlen := wSto_len x hb
  refine ok_factA (x := .tmp 0) 0 (ev_tmp rfl) rfl (fun (f0_0 : (x.1).size ≤ 9223372036854775807) => ?_)
  refine ok_factA (x := .tmp 0) 1 (ev_tmp rfl) rfl (fun (f0_1 : ((x.2.1)).length ≤ 9223372036854775807) => ?_)
  refine ok_factA (x := .tmp 0) 2 (ev_tmp rfl) rfl (fun (f0_2 : -9223372036854775808 ≤ (x.2.2) ∧ (x.2.2) ≤ 9223372036854775807) => ?_)
  refine ok_seq ?_
  refine ok_region ?_
  refine o_box rfl rfl rfl (ev_tmp rfl) rfl rfl rfl rfl ?_
  refine o_pure rfl rfl (pu_move (.inr rfl) (ev_int (inR_lit rfl))) rfl rfl ?_
  refine ops_nil ?_
  refine then_n ?_
  refine ok_seq ?_
  refine ok_region ?_
  refine o_pure rfl rfl (pu_move (.inr rfl) (ev_int (inR_lit rfl))) rfl rfl ?_
  refine ops_nil ?_
  refine then_n ?_
  refine ok_seq ?_
  refine ok_seq ?_
  refine ok_region ?_
  refine o_pure rfl rfl (pu_fieldBox hT rfl rfl rfl (ev_tmp rfl)) rfl rfl ?_
  refine o_pure rfl rfl (pu_loadBox1 hT rfl rfl (ev_tmp rfl) rfl rfl) rfl rfl ?_
  refine o_pure rfl rfl (pu_lenV hT rfl rfl (ev_tmp rfl)) rfl rfl ?_
  refine o_pure rfl rfl (pu_move (.inl rfl) (ev_int (inR_lit rfl))) rfl rfl ?_
  refine ops_nil ?_
  refine then_n ?_
  refine ok_block ?_
  refine ok_loop (ι := Nat) (fun zz => ⟨[(2, .one (.dv [] (.int .i64 (0)))), (3, .one (.dv [] (.int .i64 ((wSum sizeI (x.2.1.take zz) : Int))))), (7, .one (.dv [] (itemsD (x.2.1)))), (8, .one (.dv [] (.int .i64 ((((x.2.1)).length : Int))))), (9, .one (.dv [] (.int .i64 ((zz : Int)))))], [], []⟩) (fun zz => zz ≤ x.2.1.length) (fun zz => x.2.1.length - zz) (0) ?_ (weak_sub ⟨rfl, (eqSlotI (by simp [wSum])), rfl, rfl, rfl, trivial⟩ trivial trivial rfl) (fun zz hx => ?_)
  · exact Nat.zero_le _
  obtain ⟨k, rfl⟩ : ∃ v, v = zz := ⟨_, rfl⟩
  replace hx : k ≤ x.2.1.length := hx
  have hw := fun h => (wSum_succ sizeI x.2.1 k h).1
  have hsz := wSum_cap sizeI_le (x.2.1.take k)
  rw [List.length_take] at hsz
  show Ok _ _ _ _ _ (⟨[(2, .one (.dv [] (.int .i64 (0)))), (3, .one (.dv [] (.int .i64 ((wSum sizeI (x.2.1.take k) : Int))))), (7, .one (.dv [] (itemsD (x.2.1)))), (8, .one (.dv [] (.int .i64 ((((x.2.1)).length : Int))))), (9, .one (.dv [] (.int .i64 ((k : Int)))))], [], []⟩ : St)
  refine ok_seq ?_
  refine ok_region ?_
  refine o_pure rfl rfl (pu_lss rfl (ev_tmp rfl) (ev_tmp rfl)) rfl rfl ?_
  refine ops_nil ?_
  refine then_n ?_
  refine ok_seq ?_
  refine ok_cond (ev_tmp rfl) (fun c1 => ?_) (fun c1 => ?_)
  · skip
    have d1 := of_decide_eq_true c1
    have hkl : k < x.2.1.length := by omega
    have hw1 := hw hkl
    have hek := encK_len (x.2.1.getD (k : Int).toNat default).1
    have her := encR_len (x.2.1.getD (k : Int).toNat default).2
    have hsi : sizeI (x.2.1.getD (k : Int).toNat default) = (encK (x.2.1.getD (k : Int).toNat default).1).length + (encR (x.2.1.getD (k : Int).toNat default).2).length := rfl
    have hmin : min k x.2.1.length ≤ 1048576 := by omega
    refine ok_skip ?_
    refine then_n ?_
    refine ok_seq ?_
    refine ok_block ?_
    refine ok_seq ?_
    refine ok_region ?_
    refine o_pure rfl rfl (pu_indexD hT rfl rfl rfl (ev_tmp rfl) (ev_tmp rfl) (fun _ => rfl) (by first | omega | (simp only [Bool.and_eq_true, Bool.or_eq_true, Bool.or_eq_false_iff, Bool.and_eq_false_iff, Bool.not_eq_true', Bool.not_eq_false', beq_iff_eq, decide_eq_true_eq, decide_eq_false_iff_not] at hg; omega) | (have hh := of_decide_eq_true (beq_tt hg); omega) | (have hh := of_decide_eq_true (beq_tt (and_r hg)); omega)) (by first | omega | (simp only [Bool.and_eq_true, Bool.or_eq_true, Bool.or_eq_false_iff, Bool.and_eq_false_iff, Bool.not_eq_true', Bool.not_eq_false', beq_iff_eq, decide_eq_true_eq, decide_eq_false_iff_not] at hg; omega) | (have hh := of_decide_eq_true (beq_tt hg); omega) | (have hh := of_decide_eq_true (beq_tt (and_r hg)); omega))) rfl rfl ?_
    refine o_pure rfl rfl (pu_loadRefA hT rfl rfl (ev_tmp rfl) rfl) rfl rfl ?_
    refine o_alloc hT rfl rfl rfl rfl rfl rfl ?_
    refine o_store hT rfl rfl rfl rfl (ev_tmp rfl) (ev_tmp rfl) rfl rfl rfl rfl rfl rfl ?_
    refine ops_nil ?_
    refine then_n ?_
    refine ok_regionD (oB := [5]) (oK := []) (by kernel_rfl) rfl rfl ?_
    refine d_take 0 rfl (by kernel_rfl) rfl rfl (pu_move (.inl rfl) (ev_tmp rfl)) rfl rfl rfl rfl ?_
    refine d_take 1 rfl (by kernel_rfl) rfl rfl (pu_fieldBox hT rfl rfl rfl (ev_tmp rfl)) rfl rfl rfl rfl ?_
    refine d_take 2 rfl (by kernel_rfl) rfl rfl (pu_loadBoxA hT rfl rfl (ev_tmp rfl) rfl rfl) rfl rfl rfl rfl ?_
    refine d_take 5 rfl (by kernel_rfl) rfl rfl (pu_fieldBox hT rfl rfl rfl (ev_tmp rfl)) rfl rfl rfl rfl ?_
    refine d_take 6 rfl (by kernel_rfl) rfl rfl (pu_loadBoxA hT rfl rfl (ev_tmp rfl) rfl rfl) rfl rfl rfl rfl ?_
    refine d_callK 16000 3 rfl (by kernel_rfl) rfl rfl rfl Try.call67 (ok_impl_EncodeKey (k := (((x.2.1)).getD ((k : Int)).toNat default).1) ) (as_cons (ev_tmp rfl) (ag_agg (ag_cons ac_dv (ag_cons ac_dv (ag_cons ac_dv ag_nil)))) as_nil) rfl rfl rfl rfl rfl ?_
    refine d_take 4 rfl (by kernel_rfl) rfl rfl (pu_lenKn (n := ((encK ((((x.2.1)).getD ((k : Int)).toNat default).1))).length) hT rfl rfl (ev_tmp rfl) rfl rfl) rfl rfl rfl rfl ?_
    refine d_callK 20000 7 rfl (by kernel_rfl) rfl rfl rfl Try.call68 (ok_impl_EncodeRecord (r := (((x.2.1)).getD ((k : Int)).toNat default).2) ) (as_cons (ev_tmp rfl) (ag_agg (ag_cons ac_dv ag_nil)) as_nil) rfl rfl rfl rfl rfl ?_
    refine d_take 8 rfl (by kernel_rfl) rfl rfl (pu_lenKn (n := ((encR ((((x.2.1)).getD ((k : Int)).toNat default).2))).length) hT rfl rfl (ev_tmp rfl) rfl rfl) rfl rfl rfl rfl ?_
    refine d_take 9 rfl (by kernel_rfl) rfl rfl (pu_addR rfl (ev_tmp rfl) (ev_tmp rfl) (inR64 (by omega) (by omega))) rfl rfl rfl rfl ?_
    refine d_take 10 rfl (by kernel_rfl) rfl rfl (pu_addR rfl (ev_tmp rfl) (ev_tmp rfl) (inR64 (by omega) (by omega))) rfl rfl rfl rfl ?_
    refine d_take 11 rfl (by kernel_rfl) rfl rfl (pu_move (.inr rfl) (ev_tmp rfl)) rfl rfl rfl rfl ?_
    refine d_done (by kernel_rfl) ?_
    refine blk_n ?_
    refine then_n ?_
    refine ok_region ?_
    refine o_pure rfl rfl (pu_addR rfl (ev_tmp rfl) (ev_int (inR_lit rfl)) (inR64 (by omega) (by omega))) rfl rfl ?_
    refine o_pure rfl rfl (pu_move (.inl rfl) (ev_tmp rfl)) rfl rfl ?_
    refine ops_nil ?_
    refine then_n ?_
    refine ⟨k + 1, ?_, ?_, weak_sub ⟨rfl, (eqSlotI (by omega)), rfl, rfl, rfl, trivial⟩ trivial trivial rfl⟩
    · omega
    · omega
  · skip
    have d1 := of_decide_eq_false c1
    refine ok_exit ?_
    refine then_e ?_
    refine then_e ?_
    refine blk_e rfl ?_
    refine then_n ?_
    refine ok_seq ?_
    refine ok_region ?_
    refine o_pure rfl rfl (pu_move (.inl rfl) (ev_tmp rfl)) rfl rfl ?_
    refine o_pure rfl rfl (pu_move (.inr rfl) (ev_tmp rfl)) rfl rfl ?_
    refine ops_nil ?_
    refine then_n ?_
    refine ok_ret ?_
    refine fin1 (res_tmp rfl) (eqI ?_)
    have hq := wSum_all sizeI x.2.1 k (by omega); rw [hq]; rfl
set_option maxRecDepth 100000 in
theorem ok_impl_SizeDatabase {x : DbT} (hb : wDatabase x ≤ 1048576) : PFn Try.prog 14 [.agg [(.dv [] (.str (x.1))), (.dv [] (.int .i64 (x.2.1))), (.dv [] (storesD (x.2.2.1))), (.dv [] (defsD (x.2.2.2)))]] (.one (.dv [] (.int .i64 ((sizeD x : Int))))) := by
  refine ⟨fn_intro Try.func14 rfl Try.ntmps14 Try.results14 rfl (fun C => ?_)⟩
  have hwd : wDatabase x = x.1.size + wList wStore x.2.2.1 + wList wIndexDef x.2.2.2 := rfl
  have hwl : wList wStore x.2.2.1 = x.2.2.1.length + wSum wStore x.2.2.1 := rfl
  have hbs := wSum_mul sizeS_le x.2.2.1
  refine ok_factA (x := .tmp 0) 0 (ev_tmp rfl) rfl (fun (f0_0 : (x.1).size ≤ 9223372036854775807) => ?_)
  refine ok_factA (x := .tmp 0) 1 (ev_tmp rfl) rfl (fun (f0_1 : -9223372036854775808 ≤ (x.2.1) ∧ (x.2.1) ≤ 9223372036854775807) => ?_)
  refine ok_factA (x := .tmp 0) 2 (ev_tmp rfl) rfl (fun (f0_2 : ((x.2.2.1)).length ≤ 9223372036854775807) => ?_)
  refine ok_factA (x := .tmp 0) 3 (ev_tmp rfl) rfl (fun (f0_3 : ((x.2.2.2)).length ≤ 9223372036854775807) => ?_)
  refine ok_seq ?_
  refine ok_region ?_
  refine o_box rfl rfl rfl (ev_tmp rfl) rfl rfl rfl rfl ?_
  refine o_pure rfl rfl (pu_move (.inr rfl) (ev_int (inR_lit rfl))) rfl rfl ?_
  refine ops_nil ?_
  refine then_n ?_
  refine ok_seq ?_
  refine ok_region ?_
  refine o_pure rfl rfl (pu_move (.inr rfl) (ev_int (inR_lit rfl))) rfl rfl ?_
  refine ops_nil ?_
  refine then_n ?_
  refine ok_seq ?_
  refine ok_seq ?_
  refine ok_region ?_
  refine o_pure rfl rfl (pu_fieldBox hT rfl rfl rfl (ev_tmp rfl)) rfl rfl ?_
  refine o_pure rfl rfl (pu_loadBox1 hT rfl rfl (ev_tmp rfl) rfl rfl) rfl rfl ?_
  refine o_pure rfl rfl (pu_lenV hT rfl rfl (ev_tmp rfl)) rfl rfl ?_
  refine o_pure rfl rfl (pu_move (.inl rfl) (ev_int (inR_lit rfl))) rfl rfl ?_
  refine ops_nil ?_
  refine then_n ?_
  refine ok_block ?_
  refine ok_loop (ι := Nat) (fun zz => ⟨[(2, .one (.dv [] (.int .i64 (0)))), (3, .one (.dv [] (.int .i64 ((wSum sizeS (x.2.2.1.take zz) : Int))))), (7, .one (.dv [] (storesD (x.2.2.1)))), (8, .one (.dv [] (.int .i64 ((((x.2.2.1)).length : Int))))), (9, .one (.dv [] (.int .i64 ((zz : Int)))))], [], []⟩) (fun zz => zz ≤ x.2.2.1.length) (fun zz => x.2.2.1.length - zz) (0) ?_ (weak_sub ⟨rfl, (eqSlotI (by simp [wSum])), rfl, rfl, rfl, trivial⟩ trivial trivial rfl) (fun zz hx => ?_)
  · exact Nat.zero_le _
  obtain ⟨k, rfl⟩ : ∃ v, v = zz := ⟨_, rfl⟩
  replace hx : k ≤ x.2.2.1.length := hx
  have hw := fun h => wSum_succ sizeS x.2.2.1 k h
  have hw2 := fun h => wSum_succ wStore x.2.2.1 k h
  show Ok _ _ _ _ _ (⟨[(2, .one (.dv [] (.int .i64 (0)))), (3, .one (.dv [] (.int .i64 ((wSum sizeS (x.2.2.1.take k) : Int))))), (7, .one (.dv [] (storesD (x.2.2.1)))), (8, .one (.dv [] (.int .i64 ((((x.2.2.1)).length : Int))))), (9, .one (.dv [] (.int .i64 ((k : Int)))))], [], []⟩ : St)
  refine ok_seq ?_
  refine ok_region ?_
  refine o_pure rfl rfl (pu_lss rfl (ev_tmp rfl) (ev_tmp rfl)) rfl rfl ?_
  refine ops_nil ?_
  refine then_n ?_
  refine ok_seq ?_
  refine ok_cond (ev_tmp rfl) (fun c1 => ?_) (fun c1 => ?_)
  · skip
    have d1 := of_decide_eq_true c1
    have hkl : k < x.2.2.1.length := by omega
    obtain ⟨hw3, hw4⟩ := hw hkl
    obtain ⟨hw5, hw6⟩ := hw2 hkl
    refine ok_skip ?_
    refine then_n ?_
    refine ok_seq ?_
    refine ok_block ?_
    refine ok_seq ?_
    refine ok_region ?_
    refine o_pure rfl rfl (pu_indexD hT rfl rfl rfl (ev_tmp rfl) (ev_tmp rfl) (fun _ => rfl) (by first | omega | (simp only [Bool.and_eq_true, Bool.or_eq_true, Bool.or_eq_false_iff, Bool.and_eq_false_iff, Bool.not_eq_true', Bool.not_eq_false', beq_iff_eq, decide_eq_true_eq, decide_eq_false_iff_not] at hg; omega) | (have hh := of_decide_eq_true (beq_tt hg); omega) | (have hh := of_decide_eq_true (beq_tt (and_r hg)); omega)) (by first | omega | (simp only [Bool.and_eq_true, Bool.or_eq_true, Bool.or_eq_false_iff, Bool.and_eq_false_iff, Bool.not_eq_true', Bool.not_eq_false', beq_iff_eq, decide_eq_true_eq, decide_eq_false_iff_not] at hg; omega) | (have hh := of_decide_eq_true (beq_tt hg); omega) | (have hh := of_decide_eq_true (beq_tt (and_r hg)); omega))) rfl rfl ?_
    refine o_pure rfl rfl (pu_loadRefA hT rfl rfl (ev_tmp rfl) rfl) rfl rfl ?_
    refine o_alloc hT rfl rfl rfl rfl rfl rfl ?_
    refine o_store hT rfl rfl rfl rfl (ev_tmp rfl) (ev_tmp rfl) rfl rfl rfl rfl rfl rfl ?_
    refine ops_nil ?_
    refine then_n ?_
    refine ok_region ?_
    refine o_pure rfl rfl (pu_move (.inl rfl) (ev_tmp rfl)) rfl rfl ?_
    refine o_pure rfl rfl (pu_loadBoxA hT rfl rfl (ev_tmp rfl) rfl rfl) rfl rfl ?_
    refine o_call rfl rfl rfl Try.call54 (ok_impl_SizeStore (x := (((x.2.2.1)).getD ((k : Int)).toNat default)) (by omega)) (as_cons (ev_tmp rfl) (ag_agg (ag_cons ac_dv (ag_cons ac_dv (ag_cons ac_dv ag_nil)))) as_nil) rfl rfl ?_
    refine o_pure rfl rfl (pu_addR rfl (ev_tmp rfl) (ev_tmp rfl) (inR64 (by omega) (by omega))) rfl rfl ?_
    refine o_pure rfl rfl (pu_move (.inr rfl) (ev_tmp rfl)) rfl rfl ?_
    refine ops_nil ?_
    refine blk_n ?_
    refine then_n ?_
    refine ok_region ?_
    refine o_pure rfl rfl (pu_addR rfl (ev_tmp rfl) (ev_int (inR_lit rfl)) (inR64 (by omega) (by omega))) rfl rfl ?_
    refine o_pure rfl rfl (pu_move (.inl rfl) (ev_tmp rfl)) rfl rfl ?_
    refine ops_nil ?_
    refine then_n ?_
    refine ⟨k + 1, ?_, ?_, weak_sub ⟨rfl, (eqSlotI (by omega)), rfl, rfl, rfl, trivial⟩ trivial trivial rfl⟩
    · omega
    · omega
  · skip
    have d1 := of_decide_eq_false c1
    refine ok_exit ?_
    refine then_e ?_
    refine then_e ?_
    refine blk_e rfl ?_
    refine then_n ?_
    refine ok_seq ?_
    refine ok_region ?_
    refine o_pure rfl rfl (pu_move (.inl rfl) (ev_tmp rfl)) rfl rfl ?_
    refine o_pure rfl rfl (pu_move (.inr rfl) (ev_tmp rfl)) rfl rfl ?_
    refine ops_nil ?_
    refine then_n ?_
    refine ok_ret ?_
    refine fin1 (res_tmp rfl) (eqI ?_)
    have hq := wSum_all sizeS x.2.2.1 k (by omega); rw [hq]; rfl
set_option maxRecDepth 100000 in
theorem ok_spec_SizeStore {x : StoreT} (hb : wStore x ≤ 1048576) : PFn Try.prog 51 [.agg [(.dv [] (.str (x.1))), (.dv [] (itemsD (x.2.1))), (.dv [] (.int .i64 (x.2.2)))]] (.one (.dv [] (.int .i64 ((sizeS x : Int))))) := by
  refine ⟨fn_intro Try.func51 rfl Try.ntmps51 Try.results51 rfl (fun C => ?_)⟩
  have hlen := wSto_len x hb
  refine ok_factA (x := .tmp 0) 0 (ev_tmp rfl) rfl (fun (f0_0 : (x.1).size ≤ 9223372036854775807) => ?_)
  refine ok_factA (x := .tmp 0) 1 (ev_tmp rfl) rfl (fun (f0_1 : ((x.2.1)).length ≤ 9223372036854775807) => ?_)
  refine ok_factA (x := .tmp 0) 2 (ev_tmp rfl) rfl (fun (f0_2 : -9223372036854775808 ≤ (x.2.2) ∧ (x.2.2) ≤ 9223372036854775807) => ?_)
  refine ok_seq ?_
  refine ok_region ?_
  refine o_box rfl rfl rfl (ev_tmp rfl) rfl rfl rfl rfl ?_
  refine o_pure rfl rfl (pu_move (.inr rfl) (ev_int (inR_lit rfl))) rfl rfl ?_
  refine ops_nil ?_
  refine then_n ?_
  refine ok_seq ?_
  refine ok_region ?_
  refine o_pure rfl rfl (pu_move (.inr rfl) (ev_int (inR_lit rfl))) rfl rfl ?_
  refine ops_nil ?_
  refine then_n ?_
  refine ok_seq ?_
  refine ok_seq ?_
  refine ok_region ?_
  refine o_pure rfl rfl (pu_move (.inr rfl) (ev_int (inR_lit rfl))) rfl rfl ?_
  refine ops_nil ?_
  refine then_n ?_
  refine ok_block ?_
  refine ok_loop (ι := Nat) (fun zz => ⟨[(1, .box 1 0), (2, .one (.dv [] (.int .i64 (0)))), (3, .one (.dv [] (.int .i64 ((wSum sizeI (x.2.1.take zz) : Int))))), (4, .one (.dv [] (.int .i64 ((zz : Int)))))], [(1, 82, [(.dv [] (.str (x.1))), (.dv [] (itemsD (x.2.1))), (.dv [] (.int .i64 (x.2.2)))])], []⟩) (fun zz => zz ≤ x.2.1.length) (fun zz => x.2.1.length - zz) (0) ?_ (weak_sub ⟨rfl, rfl, (eqSlotI (by simp [wSum])), rfl, trivial⟩ ⟨rfl, trivial⟩ trivial rfl) (fun zz hx => ?_)
  · exact Nat.zero_le _
  obtain ⟨k, rfl⟩ : ∃ v, v = zz := ⟨_, rfl⟩
  replace hx : k ≤ x.2.1.length := hx
  have hw := fun h => (wSum_succ sizeI x.2.1 k h).1
  have hsz := wSum_cap sizeI_le (x.2.1.take k)
  rw [List.length_take] at hsz
  show Ok _ _ _ _ _ (⟨[(1, .box 1 0), (2, .one (.dv [] (.int .i64 (0)))), (3, .one (.dv [] (.int .i64 ((wSum sizeI (x.2.1.take k) : Int))))), (4, .one (.dv [] (.int .i64 ((k : Int)))))], [(1, 82, [(.dv [] (.str (x.1))), (.dv [] (itemsD (x.2.1))), (.dv [] (.int .i64 (x.2.2)))])], []⟩ : St)
  refine ok_seq ?_
  refine ok_seq ?_
  refine ok_region ?_
  refine o_pure rfl rfl (pu_move (.inl rfl) (ev_tmp rfl)) rfl rfl ?_
  refine o_pure rfl rfl (pu_fieldBox hT rfl rfl rfl (ev_tmp rfl)) rfl rfl ?_
  refine o_pure rfl rfl (pu_loadBox1 hT rfl rfl (ev_tmp rfl) rfl rfl) rfl rfl ?_
  refine o_pure rfl rfl (pu_lenV hT rfl rfl (ev_tmp rfl)) rfl rfl ?_
  refine o_pure rfl rfl (pu_lss rfl (ev_tmp rfl) (ev_tmp rfl)) rfl rfl ?_
  refine ops_nil ?_
  refine then_n ?_
  refine ok_cond (ev_tmp rfl) (fun c1 => ?_) (fun c1 => ?_)
  · skip
    have d1 := of_decide_eq_true c1
    have hkl : k < x.2.1.length := by omega
    have hw1 := hw hkl
    have hek := encK_len (x.2.1.getD (k : Int).toNat default).1
    have her := encR_len (x.2.1.getD (k : Int).toNat default).2
    have hsi : sizeI (x.2.1.getD (k : Int).toNat default) = (encK (x.2.1.getD (k : Int).toNat default).1).length + (encR (x.2.1.getD (k : Int).toNat default).2).length := rfl
    have hmin : min k x.2.1.length ≤ 1048576 := by omega
    refine ok_skip ?_
    refine then_n ?_
    refine ok_seq ?_
    refine ok_block ?_
    refine ok_regionD (oB := [1]) (oK := []) (by kernel_rfl) rfl rfl ?_
    refine d_take 0 rfl (by kernel_rfl) rfl rfl (pu_move (.inl rfl) (ev_tmp rfl)) rfl rfl rfl rfl ?_
    refine d_take 1 rfl (by kernel_rfl) rfl rfl (pu_fieldBox hT rfl rfl rfl (ev_tmp rfl)) rfl rfl rfl rfl ?_
    refine d_take 2 rfl (by kernel_rfl) rfl rfl (pu_loadBox1 hT rfl rfl (ev_tmp rfl) rfl rfl) rfl rfl rfl rfl ?_
    refine d_take 3 rfl (by kernel_rfl) rfl rfl (pu_move (.inl rfl) (ev_tmp rfl)) rfl rfl rfl rfl ?_
    refine d_take 4 rfl (by kernel_rfl) rfl rfl (pu_indexD hT rfl rfl rfl (ev_tmp rfl) (ev_tmp rfl) (fun _ => rfl) (by first | omega | (simp only [Bool.and_eq_true, Bool.or_eq_true, Bool.or_eq_false_iff, Bool.and_eq_false_iff, Bool.not_eq_true', Bool.not_eq_false', beq_iff_eq, decide_eq_true_eq, decide_eq_false_iff_not] at hg; omega) | (have hh := of_decide_eq_true (beq_tt hg); omega) | (have hh := of_decide_eq_true (beq_tt (and_r hg)); omega)) (by first | omega | (simp only [Bool.and_eq_true, Bool.or_eq_true, Bool.or_eq_false_iff, Bool.and_eq_false_iff, Bool.not_eq_true', Bool.not_eq_false', beq_iff_eq, decide_eq_true_eq, decide_eq_false_iff_not] at hg; omega) | (have hh := of_decide_eq_true (beq_tt hg); omega) | (have hh := of_decide_eq_true (beq_tt (and_r hg)); omega))) rfl rfl rfl rfl ?_
    refine d_take 5 rfl (by kernel_rfl) rfl rfl (pu_fieldRef hT rfl rfl rfl (ev_tmp rfl)) rfl rfl rfl rfl ?_
    refine d_take 6 rfl (by kernel_rfl) rfl rfl (pu_loadRefA hT rfl rfl (ev_tmp rfl) rfl) rfl rfl rfl rfl ?_
    refine d_take 10 rfl (by kernel_rfl) rfl rfl (pu_fieldBox hT rfl rfl rfl (ev_tmp rfl)) rfl rfl rfl rfl ?_
    refine d_take 11 rfl (by kernel_rfl) rfl rfl (pu_loadBox1 hT rfl rfl (ev_tmp rfl) rfl rfl) rfl rfl rfl rfl ?_
    refine d_take 12 rfl (by kernel_rfl) rfl rfl (pu_move (.inl rfl) (ev_tmp rfl)) rfl rfl rfl rfl ?_
    refine d_take 13 rfl (by kernel_rfl) rfl rfl (pu_indexD hT rfl rfl rfl (ev_tmp rfl) (ev_tmp rfl) (fun _ => rfl) (by first | omega | (simp only [Bool.and_eq_true, Bool.or_eq_true, Bool.or_eq_false_iff, Bool.and_eq_false_iff, Bool.not_eq_true', Bool.not_eq_false', beq_iff_eq, decide_eq_true_eq, decide_eq_false_iff_not] at hg; omega) | (have hh := of_decide_eq_true (beq_tt hg); omega) | (have hh := of_decide_eq_true (beq_tt (and_r hg)); omega)) (by first | omega | (simp only [Bool.and_eq_true, Bool.or_eq_true, Bool.or_eq_false_iff, Bool.and_eq_false_iff, Bool.not_eq_true', Bool.not_eq_false', beq_iff_eq, decide_eq_true_eq, decide_eq_false_iff_not] at hg; omega) | (have hh := of_decide_eq_true (beq_tt hg); omega) | (have hh := of_decide_eq_true (beq_tt (and_r hg)); omega))) rfl rfl rfl rfl ?_
    refine d_take 14 rfl (by kernel_rfl) rfl rfl (pu_fieldRef hT rfl rfl rfl (ev_tmp rfl)) rfl rfl rfl rfl ?_
    refine d_take 15 rfl (by kernel_rfl) rfl rfl (pu_loadRefA hT rfl rfl (ev_tmp rfl) rfl) rfl rfl rfl rfl ?_
    refine d_callK 19000 7 rfl (by kernel_rfl) rfl rfl rfl Try.call62 (ok_spec_EncodeKey (k := (((x.2.1)).getD ((k : Int)).toNat default).1) ) (as_cons (ev_tmp rfl) (ag_agg (ag_cons ac_dv (ag_cons ac_dv (ag_cons ac_dv ag_nil)))) as_nil) rfl rfl rfl rfl rfl ?_
    refine d_take 8 rfl (by kernel_rfl) rfl rfl (pu_lenKn (n := ((encK ((((x.2.1)).getD ((k : Int)).toNat default).1))).length) hT rfl rfl (ev_tmp rfl) rfl rfl) rfl rfl rfl rfl ?_
    refine d_take 9 rfl (by kernel_rfl) rfl rfl (pu_addR rfl (ev_tmp rfl) (ev_tmp rfl) (inR64 (by omega) (by omega))) rfl rfl rfl rfl ?_
    refine d_callK 28000 16 rfl (by kernel_rfl) rfl rfl rfl Try.call63 (ok_spec_EncodeRecord (r := (((x.2.1)).getD ((k : Int)).toNat default).2) ) (as_cons (ev_tmp rfl) (ag_agg (ag_cons ac_dv ag_nil)) as_nil) rfl rfl rfl rfl rfl ?_
    refine d_take 17 rfl (by kernel_rfl) rfl rfl (pu_lenKn (n := ((encR ((((x.2.1)).getD ((k : Int)).toNat default).2))).length) hT rfl rfl (ev_tmp rfl) rfl rfl) rfl rfl rfl rfl ?_
    refine d_take 18 rfl (by kernel_rfl) rfl rfl (pu_addR rfl (ev_tmp rfl) (ev_tmp rfl) (inR64 (by omega) (by omega))) rfl rfl rfl rfl ?_
    refine d_take 19 rfl (by kernel_rfl) rfl rfl (pu_move (.inr rfl) (ev_tmp rfl)) rfl rfl rfl rfl ?_
    refine d_done (by kernel_rfl) ?_
    refine blk_n ?_
    refine then_n ?_
    refine ok_region ?_
    refine o_pure rfl rfl (pu_move (.inl rfl) (ev_tmp rfl)) rfl rfl ?_
    refine o_pure rfl rfl (pu_addR rfl (ev_tmp rfl) (ev_int (inR_lit rfl)) (inR64 (by omega) (by omega))) rfl rfl ?_
    refine o_pure rfl rfl (pu_move (.inr rfl) (ev_tmp rfl)) rfl rfl ?_
    refine ops_nil ?_
    refine then_n ?_
    refine ⟨k + 1, ?_, ?_, weak_sub ⟨rfl, rfl, (eqSlotI (by omega)), rfl, trivial⟩ ⟨rfl, trivial⟩ trivial rfl⟩
    · omega
    · omega
  · skip
    have d1 := of_decide_eq_false c1
    refine ok_exit ?_
    refine then_e ?_
    refine then_e ?_
    refine blk_e rfl ?_
    refine then_n ?_
    refine ok_seq ?_
    refine ok_region ?_
    refine o_pure rfl rfl (pu_move (.inl rfl) (ev_tmp rfl)) rfl rfl ?_
    refine o_pure rfl rfl (pu_move (.inr rfl) (ev_tmp rfl)) rfl rfl ?_
    refine ops_nil ?_
    refine then_n ?_
    refine ok_ret ?_
    refine fin1 (res_tmp rfl) (eqI ?_)
    have hq := wSum_all sizeI x.2.1 k (by omega); rw [hq]; rfl
set_option maxRecDepth 100000 in
theorem ok_spec_SizeDatabase {x : DbT} (hb : wDatabase x ≤ 1048576) : PFn Try.prog 12 [.agg [(.dv [] (.str (x.1))), (.dv [] (.int .i64 (x.2.1))), (.dv [] (storesD (x.2.2.1))), (.dv [] (defsD (x.2.2.2)))]] (.one (.dv [] (.int .i64 ((sizeD x : Int))))) := by
  refine ⟨fn_intro Try.func12 rfl Try.ntmps12 Try.results12 rfl (fun C => ?_)⟩
  have hwd : wDatabase x = x.1.size + wList wStore x.2.2.1 + wList wIndexDef x.2.2.2 := rfl
  have hwl : wList wStore x.2.2.1 = x.2.2.1.length + wSum wStore x.2.2.1 := rfl
  have hbs := wSum_mul sizeS_le x.2.2.1
  refine ok_factA (x := .tmp 0) 0 (ev_tmp rfl) rfl (fun (f0_0 : (x.1).size ≤ 9223372036854775807) => ?_)
  refine ok_factA (x := .tmp 0) 1 (ev_tmp rfl) rfl (fun (f0_1 : -9223372036854775808 ≤ (x.2.1) ∧ (x.2.1) ≤ 9223372036854775807) => ?_)
  refine ok_factA (x := .tmp 0) 2 (ev_tmp rfl) rfl (fun (f0_2 : ((x.2.2.1)).length ≤ 9223372036854775807) => ?_)
  refine ok_factA (x := .tmp 0) 3 (ev_tmp rfl) rfl (fun (f0_3 : ((x.2.2.2)).length ≤ 9223372036854775807) => ?_)
  refine ok_seq ?_
  refine ok_region ?_
  refine o_box rfl rfl rfl (ev_tmp rfl) rfl rfl rfl rfl ?_
  refine o_pure rfl rfl (pu_move (.inr rfl) (ev_int (inR_lit rfl))) rfl rfl ?_
  refine ops_nil ?_
  refine then_n ?_
  refine ok_seq ?_
  refine ok_region ?_
  refine o_pure rfl rfl (pu_move (.inr rfl) (ev_int (inR_lit rfl))) rfl rfl ?_
  refine ops_nil ?_
  refine then_n ?_
  refine ok_seq ?_
  refine ok_seq ?_
  refine ok_region ?_
  refine o_pure rfl rfl (pu_move (.inr rfl) (ev_int (inR_lit rfl))) rfl rfl ?_
  refine ops_nil ?_
  refine then_n ?_
  refine ok_block ?_
  refine ok_loop (ι := Nat) (fun zz => ⟨[(1, .box 1 0), (2, .one (.dv [] (.int .i64 (0)))), (3, .one (.dv [] (.int .i64 ((wSum sizeS (x.2.2.1.take zz) : Int))))), (4, .one (.dv [] (.int .i64 ((zz : Int)))))], [(1, 31, [(.dv [] (.str (x.1))), (.dv [] (.int .i64 (x.2.1))), (.dv [] (storesD (x.2.2.1))), (.dv [] (defsD (x.2.2.2)))])], []⟩) (fun zz => zz ≤ x.2.2.1.length) (fun zz => x.2.2.1.length - zz) (0) ?_ (weak_sub ⟨rfl, rfl, (eqSlotI (by simp [wSum])), rfl, trivial⟩ ⟨rfl, trivial⟩ trivial rfl) (fun zz hx => ?_)
  · exact Nat.zero_le _
  obtain ⟨k, rfl⟩ : ∃ v, v = zz := ⟨_, rfl⟩
  replace hx : k ≤ x.2.2.1.length := hx
  have hw := fun h => wSum_succ sizeS x.2.2.1 k h
  have hw2 := fun h => wSum_succ wStore x.2.2.1 k h
  show Ok _ _ _ _ _ (⟨[(1, .box 1 0), (2, .one (.dv [] (.int .i64 (0)))), (3, .one (.dv [] (.int .i64 ((wSum sizeS (x.2.2.1.take k) : Int))))), (4, .one (.dv [] (.int .i64 ((k : Int)))))], [(1, 31, [(.dv [] (.str (x.1))), (.dv [] (.int .i64 (x.2.1))), (.dv [] (storesD (x.2.2.1))), (.dv [] (defsD (x.2.2.2)))])], []⟩ : St)
  refine ok_seq ?_
  refine ok_seq ?_
  refine ok_region ?_
  refine o_pure rfl rfl (pu_move (.inl rfl) (ev_tmp rfl)) rfl rfl ?_
  refine o_pure rfl rfl (pu_fieldBox hT rfl rfl rfl (ev_tmp rfl)) rfl rfl ?_
  refine o_pure rfl rfl (pu_loadBox1 hT rfl rfl (ev_tmp rfl) rfl rfl) rfl rfl ?_
  refine o_pure rfl rfl (pu_lenV hT rfl rfl (ev_tmp rfl)) rfl rfl ?_
  refine o_pure rfl rfl (pu_lss rfl (ev_tmp rfl) (ev_tmp rfl)) rfl rfl ?_
  refine ops_nil ?_
  refine then_n ?_
  refine ok_cond (ev_tmp rfl) (fun c1 => ?_) (fun c1 => ?_)
  · skip
    have d1 := of_decide_eq_true c1
    have hkl : k < x.2.2.1.length := by omega
    obtain ⟨hw3, hw4⟩ := hw hkl
    obtain ⟨hw5, hw6⟩ := hw2 hkl
    refine ok_skip ?_
    refine then_n ?_
    refine ok_seq ?_
    refine ok_block ?_
    refine ok_region ?_
    refine o_pure rfl rfl (pu_move (.inl rfl) (ev_tmp rfl)) rfl rfl ?_
    refine o_pure rfl rfl (pu_fieldBox hT rfl rfl rfl (ev_tmp rfl)) rfl rfl ?_
    refine o_pure rfl rfl (pu_loadBox1 hT rfl rfl (ev_tmp rfl) rfl rfl) rfl rfl ?_
    refine o_pure rfl rfl (pu_move (.inl rfl) (ev_tmp rfl)) rfl rfl ?_
    refine o_pure rfl rfl (pu_indexD hT rfl rfl rfl (ev_tmp rfl) (ev_tmp rfl) (fun _ => rfl) (by first | omega | (simp only [Bool.and_eq_true, Bool.or_eq_true, Bool.or_eq_false_iff, Bool.and_eq_false_iff, Bool.not_eq_true', Bool.not_eq_false', beq_iff_eq, decide_eq_true_eq, decide_eq_false_iff_not] at hg; omega) | (have hh := of_decide_eq_true (beq_tt hg); omega) | (have hh := of_decide_eq_true (beq_tt (and_r hg)); omega)) (by first | omega | (simp only [Bool.and_eq_true, Bool.or_eq_true, Bool.or_eq_false_iff, Bool.and_eq_false_iff, Bool.not_eq_true', Bool.not_eq_false', beq_iff_eq, decide_eq_true_eq, decide_eq_false_iff_not] at hg; omega) | (have hh := of_decide_eq_true (beq_tt hg); omega) | (have hh := of_decide_eq_true (beq_tt (and_r hg)); omega))) rfl rfl ?_
    refine o_pure rfl rfl (pu_loadRefA hT rfl rfl (ev_tmp rfl) rfl) rfl rfl ?_
    refine o_call rfl rfl rfl Try.call51 (ok_spec_SizeStore (x := (((x.2.2.1)).getD ((k : Int)).toNat default)) (by omega)) (as_cons (ev_tmp rfl) (ag_agg (ag_cons ac_dv (ag_cons ac_dv (ag_cons ac_dv ag_nil)))) as_nil) rfl rfl ?_
    refine o_pure rfl rfl (pu_addR rfl (ev_tmp rfl) (ev_tmp rfl) (inR64 (by omega) (by omega))) rfl rfl ?_
    refine o_pure rfl rfl (pu_move (.inr rfl) (ev_tmp rfl)) rfl rfl ?_
    refine ops_nil ?_
    refine blk_n ?_
    refine then_n ?_
    refine ok_region ?_
    refine o_pure rfl rfl (pu_move (.inl rfl) (ev_tmp rfl)) rfl rfl ?_
    refine o_pure rfl rfl (pu_addR rfl (ev_tmp rfl) (ev_int (inR_lit rfl)) (inR64 (by omega) (by omega))) rfl rfl ?_
    refine o_pure rfl rfl (pu_move (.inr rfl) (ev_tmp rfl)) rfl rfl ?_
    refine ops_nil ?_
    refine then_n ?_
    refine ⟨k + 1, ?_, ?_, weak_sub ⟨rfl, rfl, (eqSlotI (by omega)), rfl, trivial⟩ ⟨rfl, trivial⟩ trivial rfl⟩
    · omega
    · omega
  · skip
    have d1 := of_decide_eq_false c1
    refine ok_exit ?_
    refine then_e ?_
    refine then_e ?_
    refine blk_e rfl ?_
    refine then_n ?_
    refine ok_seq ?_
    refine ok_region ?_
    refine o_pure rfl rfl (pu_move (.inl rfl) (ev_tmp rfl)) rfl rfl ?_
    refine o_pure rfl rfl (pu_move (.inr rfl) (ev_tmp rfl)) rfl rfl ?_
    refine ops_nil ?_
    refine then_n ?_
    refine ok_ret ?_
    refine fin1 (res_tmp rfl) (eqI ?_)
    have hq := wSum_all sizeS x.2.2.1 k (by omega); rw [hq]; rfl
end Go.Proofs.Ytlogahkchenpdaa

namespace Go.Proofs.Ytlogahkchenpdaa
open Go.RowKit
open Go.Proofs
set_option linter.unusedVariables false
set_option linter.unusedSimpArgs false
set_option maxRecDepth 100000 in
theorem ok_impl_SizeDisk {x : DiskT} (hb : wDisk x ≤ 1048576) : PFn Try.prog 19 [.agg [(.dv [] (.str (x.1.1))), (.dv [] (.int .i64 (x.1.2.1))), (.dv [] (storesD (x.1.2.2.1))), (.dv [] (defsD (x.1.2.2.2))), (.dv [] (bytesD (x.2.1))), (.dv [] (.int .i64 (x.2.2)))]] (.one (.dv [] (.int .i64 ((sizeD x.1 : Int) + (x.2.1.length : Int))))) := by
  refine ⟨fn_intro Try.func19 rfl Try.ntmps19 Try.results19 rfl (fun C => ?_)⟩
  have hwk : wDisk x = wDatabase x.1 + x.2.1.length := rfl
  have hsd := sizeD_le x.1
  refine ok_factA (x := .tmp 0) 0 (ev_tmp rfl) rfl (fun (f0_0 : (x.1.1).size ≤ 9223372036854775807) => ?_)
  refine ok_factA (x := .tmp 0) 1 (ev_tmp rfl) rfl (fun (f0_1 : -9223372036854775808 ≤ (x.1.2.1) ∧ (x.1.2.1) ≤ 9223372036854775807) => ?_)
  refine ok_factA (x := .tmp 0) 2 (ev_tmp rfl) rfl (fun (f0_2 : ((x.1.2.2.1)).length ≤ 9223372036854775807) => ?_)
  refine ok_factA (x := .tmp 0) 3 (ev_tmp rfl) rfl (fun (f0_3 : ((x.1.2.2.2)).length ≤ 9223372036854775807) => ?_)
  refine ok_factA (x := .tmp 0) 4 (ev_tmp rfl) rfl (fun (f0_4 : ((x.2.1)).length ≤ 9223372036854775807) => ?_)
  refine ok_factA (x := .tmp 0) 5 (ev_tmp rfl) rfl (fun (f0_5 : -9223372036854775808 ≤ (x.2.2) ∧ (x.2.2) ≤ 9223372036854775807) => ?_)
  refine ok_seq ?_
  refine ok_region ?_
  refine o_box rfl rfl rfl (ev_tmp rfl) rfl rfl rfl rfl ?_
  refine o_pure rfl rfl (pu_move (.inr rfl) (ev_int (inR_lit rfl))) rfl rfl ?_
  refine ops_nil ?_
  refine then_n ?_
  refine ok_seq ?_
  refine ok_regionD (oB := [1]) (oK := []) (by kernel_rfl) rfl rfl ?_
  refine d_take 0 rfl (by kernel_rfl) rfl rfl (pu_fieldBox hT rfl rfl rfl (ev_tmp rfl)) rfl rfl rfl rfl ?_
  refine d_take 1 rfl (by kernel_rfl) rfl rfl (pu_loadBoxA hT rfl rfl (ev_tmp rfl) rfl rfl) rfl rfl rfl rfl ?_
  refine d_take 3 rfl (by kernel_rfl) rfl rfl (pu_fieldBox hT rfl rfl rfl (ev_tmp rfl)) rfl rfl rfl rfl ?_
  refine d_take 4 rfl (by kernel_rfl) rfl rfl (pu_loadBox1 hT rfl rfl (ev_tmp rfl) rfl rfl) rfl rfl rfl rfl ?_
  refine d_take 5 rfl (by kernel_rfl) rfl rfl (pu_lenV hT rfl rfl (ev_tmp rfl)) rfl rfl rfl rfl ?_
  refine d_call 2 rfl (by kernel_rfl) rfl rfl rfl Try.call14 (ok_impl_SizeDatabase (x := x.1) (by omega)) (as_cons (ev_tmp rfl) (ag_agg (ag_cons ac_dv (ag_cons ac_dv (ag_cons ac_dv (ag_cons ac_dv ag_nil))))) as_nil) rfl rfl rfl rfl ?_
  refine d_take 6 rfl (by kernel_rfl) rfl rfl (pu_addR rfl (ev_tmp rfl) (ev_tmp rfl) (inR64 (by omega) (by omega))) rfl rfl rfl rfl ?_
  refine d_take 7 rfl (by kernel_rfl) rfl rfl (pu_move (.inr rfl) (ev_tmp rfl)) rfl rfl rfl rfl ?_
  refine d_done (by kernel_rfl) ?_
  refine then_n ?_
  refine ok_ret ?_
  refine fin1 (res_tmp rfl) (eqI ?_)
  rfl
set_option maxRecDepth 100000 in
theorem ok_spec_SizeDisk {x : DiskT} (hb : wDisk x ≤ 1048576) : PFn Try.prog 17 [.agg [(.dv [] (.str (x.1.1))), (.dv [] (.int .i64 (x.1.2.1))), (.dv [] (storesD (x.1.2.2.1))), (.dv [] (defsD (x.1.2.2.2))), (.dv [] (bytesD (x.2.1))), (.dv [] (.int .i64 (x.2.2)))]] (.one (.dv [] (.int .i64 ((sizeD x.1 : Int) + (x.2.1.length : Int))))) := by
  refine ⟨fn_intro Try.func17 rfl Try.ntmps17 Try.results17 rfl (fun C => ?_)⟩
  have hwk : wDisk x = wDatabase x.1 + x.2.1.length := rfl
  have hsd := sizeD_le x.1
  refine ok_factA (x := .tmp 0) 0 (ev_tmp rfl) rfl (fun (f0_0 : (x.1.1).size ≤ 9223372036854775807) => ?_)
  refine ok_factA (x := .tmp 0) 1 (ev_tmp rfl) rfl (fun (f0_1 : -9223372036854775808 ≤ (x.1.2.1) ∧ (x.1.2.1) ≤ 9223372036854775807) => ?_)
  refine ok_factA (x := .tmp 0) 2 (ev_tmp rfl) rfl (fun (f0_2 : ((x.1.2.2.1)).length ≤ 9223372036854775807) => ?_)
  refine ok_factA (x := .tmp 0) 3 (ev_tmp rfl) rfl (fun (f0_3 : ((x.1.2.2.2)).length ≤ 9223372036854775807) => ?_)
  refine ok_factA (x := .tmp 0) 4 (ev_tmp rfl) rfl (fun (f0_4 : ((x.2.1)).length ≤ 9223372036854775807) => ?_)
  refine ok_factA (x := .tmp 0) 5 (ev_tmp rfl) rfl (fun (f0_5 : -9223372036854775808 ≤ (x.2.2) ∧ (x.2.2) ≤ 9223372036854775807) => ?_)
  refine ok_seq ?_
  refine ok_region ?_
  refine o_box rfl rfl rfl (ev_tmp rfl) rfl rfl rfl rfl ?_
  refine o_pure rfl rfl (pu_move (.inr rfl) (ev_int (inR_lit rfl))) rfl rfl ?_
  refine ops_nil ?_
  refine then_n ?_
  refine ok_seq ?_
  refine ok_regionD (oB := [1]) (oK := []) (by kernel_rfl) rfl rfl ?_
  refine d_take 0 rfl (by kernel_rfl) rfl rfl (pu_fieldBox hT rfl rfl rfl (ev_tmp rfl)) rfl rfl rfl rfl ?_
  refine d_take 1 rfl (by kernel_rfl) rfl rfl (pu_loadBoxA hT rfl rfl (ev_tmp rfl) rfl rfl) rfl rfl rfl rfl ?_
  refine d_take 3 rfl (by kernel_rfl) rfl rfl (pu_fieldBox hT rfl rfl rfl (ev_tmp rfl)) rfl rfl rfl rfl ?_
  refine d_take 4 rfl (by kernel_rfl) rfl rfl (pu_loadBox1 hT rfl rfl (ev_tmp rfl) rfl rfl) rfl rfl rfl rfl ?_
  refine d_take 5 rfl (by kernel_rfl) rfl rfl (pu_lenV hT rfl rfl (ev_tmp rfl)) rfl rfl rfl rfl ?_
  refine d_call 2 rfl (by kernel_rfl) rfl rfl rfl Try.call12 (ok_spec_SizeDatabase (x := x.1) (by omega)) (as_cons (ev_tmp rfl) (ag_agg (ag_cons ac_dv (ag_cons ac_dv (ag_cons ac_dv (ag_cons ac_dv ag_nil))))) as_nil) rfl rfl rfl rfl ?_
  refine d_take 6 rfl (by kernel_rfl) rfl rfl (pu_addR rfl (ev_tmp rfl) (ev_tmp rfl) (inR64 (by omega) (by omega))) rfl rfl rfl rfl ?_
  refine d_take 7 rfl (by kernel_rfl) rfl rfl (pu_move (.inr rfl) (ev_tmp rfl)) rfl rfl rfl rfl ?_
  refine d_done (by kernel_rfl) ?_
  refine then_n ?_
  refine ok_ret ?_
  refine fin1 (res_tmp rfl) (eqI ?_)
  rfl
set_option maxRecDepth 100000 in
theorem ok_laws_FnExactSizeDisk {x0 : DiskT}  : PFn Try.prog 4 [.agg [(.dv [] (.str (x0.1.1))), (.dv [] (.int .i64 (x0.1.2.1))), (.dv [] (storesD (x0.1.2.2.1))), (.dv [] (defsD (x0.1.2.2.2))), (.dv [] (bytesD (x0.2.1))), (.dv [] (.int .i64 (x0.2.2)))]] (.one (.dv [] (.bool (true)))) := by
  refine ⟨fn_intro Try.func4 rfl Try.ntmps4 Try.results4 rfl (fun C => ?_)⟩
  have : wDisk x0 = wDatabase (x0.1) + (x0.2.1).length := rfl
  have : wDatabase (x0.1) = ((x0.1).1).size + wList wStore ((x0.1).2.2.1) + wList wIndexDef ((x0.1).2.2.2) := rfl
  have : wList wStore ((x0.1).2.2.1) = ((x0.1).2.2.1).length + wSum wStore ((x0.1).2.2.1) := rfl
  have : wList wIndexDef ((x0.1).2.2.2) = ((x0.1).2.2.2).length + wSum wIndexDef ((x0.1).2.2.2) := rfl
  refine ok_factA (x := .tmp 0) 0 (ev_tmp rfl) rfl (fun (f0_0 : (x0.1.1).size ≤ 9223372036854775807) => ?_)
  refine ok_factA (x := .tmp 0) 1 (ev_tmp rfl) rfl (fun (f0_1 : -9223372036854775808 ≤ (x0.1.2.1) ∧ (x0.1.2.1) ≤ 9223372036854775807) => ?_)
  refine ok_factA (x := .tmp 0) 2 (ev_tmp rfl) rfl (fun (f0_2 : ((x0.1.2.2.1)).length ≤ 9223372036854775807) => ?_)
  refine ok_factA (x := .tmp 0) 3 (ev_tmp rfl) rfl (fun (f0_3 : ((x0.1.2.2.2)).length ≤ 9223372036854775807) => ?_)
  refine ok_factA (x := .tmp 0) 4 (ev_tmp rfl) rfl (fun (f0_4 : ((x0.2.1)).length ≤ 9223372036854775807) => ?_)
  refine ok_factA (x := .tmp 0) 5 (ev_tmp rfl) rfl (fun (f0_5 : -9223372036854775808 ≤ (x0.2.2) ∧ (x0.2.2) ≤ 9223372036854775807) => ?_)
  refine ok_seq ?_
  refine ok_region ?_
  refine o_box rfl rfl rfl (ev_tmp rfl) rfl rfl rfl rfl ?_
  refine o_pure rfl rfl (pu_move (.inr rfl) ev_bool) rfl rfl ?_
  refine ops_nil ?_
  refine then_n ?_
  refine ok_seq ?_
  refine ok_region ?_
  refine o_pure rfl rfl (pu_move (.inr rfl) (ev_int (inR_lit rfl))) rfl rfl ?_
  refine ops_nil ?_
  refine then_n ?_
  refine ok_seq ?_
  refine ok_region ?_
  refine o_pure rfl rfl (pu_loadBoxA hT rfl rfl (ev_tmp rfl) rfl rfl) rfl rfl ?_
  refine o_pure rfl rfl (pu_move (.inl rfl) (ev_tmp rfl)) rfl rfl ?_
  refine o_call rfl rfl rfl Try.call16 (ok_laws_szDisk (by omega) (by omega)) (as_cons (ev_tmp rfl) (ag_agg (ag_cons ac_dv (ag_cons ac_dv (ag_cons ac_dv (ag_cons ac_dv (ag_cons ac_dv (ag_cons ac_dv ag_nil))))))) (as_cons (ev_tmp rfl) (ag_one ac_dv) as_nil)) rfl rfl ?_
  refine o_pure rfl rfl (pu_move (.inr rfl) (ev_tmp rfl)) rfl rfl ?_
  refine ops_nil ?_
  refine then_n ?_
  refine ok_seq ?_
  refine ok_seq ?_
  refine ok_region ?_
  refine o_pure rfl rfl (pu_move (.inl rfl) (ev_tmp rfl)) rfl rfl ?_
  refine o_pure rfl rfl (pu_lss rfl (ev_tmp rfl) (ev_int (inR_lit rfl))) rfl rfl ?_
  refine ops_nil ?_
  refine then_n ?_
  refine ok_cond (ev_tmp rfl) (fun c1 => ?_) (fun c1 => ?_)
  · skip
    have d1 := of_decide_eq_true c1
    first | have q1 := szR_n d1 | skip
    refine ok_seq ?_
    refine ok_region ?_
    refine o_pure rfl rfl (pu_move (.inr rfl) ev_bool) rfl rfl ?_
    refine ops_nil ?_
    refine then_n ?_
    refine ok_ret ?_
    refine then_r ?_
    refine fin1 (res_tmp rfl) (eqB ?_)
    first | rfl | (exfalso; omega) | (exfalso; simp_all; done) | (exfalso; simp_all; omega)
  · skip
    have d1 := of_decide_eq_false c1
    first | have q1 := szR_nn d1 | skip
    refine ok_skip ?_
    refine then_n ?_
    refine ok_seq ?_
    refine ok_region ?_
    refine o_pure rfl rfl (pu_loadBoxA hT rfl rfl (ev_tmp rfl) rfl rfl) rfl rfl ?_
    refine o_callK 13000 rfl rfl rfl Try.call18 (ok_laws_toDisk (by first | omega | (simp only [wKey, wField, wRecord, wItem, wStore, wIndexDef, wDatabase, wOp, wTx, wTxQueue] at hb ⊢; omega) | (have hq := hw (by omega); omega))) (as_cons (ev_tmp rfl) (ag_agg (ag_cons ac_dv (ag_cons ac_dv (ag_cons ac_dv (ag_cons ac_dv (ag_cons ac_dv (ag_cons ac_dv ag_nil))))))) as_nil) rfl rfl rfl ?_
    refine o_call rfl rfl rfl Try.call17 (ok_spec_SizeDisk (by omega)) (as_cons (ev_tmp rfl) (ag_agg (ag_cons ac_dv (ag_cons ac_dv (ag_cons (ac_key' rfl rfl) (ag_cons (ac_key' rfl rfl) (ag_cons (ac_key' rfl rfl) (ag_cons ac_dv ag_nil))))))) as_nil) rfl rfl ?_
    refine o_pure rfl rfl (pu_move (.inr rfl) (ev_tmp rfl)) rfl rfl ?_
    refine ops_nil ?_
    refine then_n ?_
    refine ok_seq ?_
    refine ok_region ?_
    refine o_pure rfl rfl (pu_loadBoxA hT rfl rfl (ev_tmp rfl) rfl rfl) rfl rfl ?_
    refine o_callK 16000 rfl rfl rfl Try.call18 (ok_laws_toDisk (by first | omega | (simp only [wKey, wField, wRecord, wItem, wStore, wIndexDef, wDatabase, wOp, wTx, wTxQueue] at hb ⊢; omega) | (have hq := hw (by omega); omega))) (as_cons (ev_tmp rfl) (ag_agg (ag_cons ac_dv (ag_cons ac_dv (ag_cons ac_dv (ag_cons ac_dv (ag_cons ac_dv (ag_cons ac_dv ag_nil))))))) as_nil) rfl rfl rfl ?_
    refine o_alloc hT rfl rfl rfl rfl rfl rfl ?_
    refine o_store hT rfl rfl rfl rfl (ev_tmp rfl) (ev_tmp rfl) rfl rfl rfl rfl rfl rfl ?_
    refine ops_nil ?_
    refine then_n ?_
    refine ok_seq ?_
    refine ok_region ?_
    refine o_pure rfl rfl (pu_loadBoxA hT rfl rfl (ev_tmp rfl) rfl rfl) rfl rfl ?_
    refine o_call rfl rfl rfl Try.call19 (ok_impl_SizeDisk (by omega)) (as_cons (ev_tmp rfl) (ag_agg (ag_cons ac_dv (ag_cons ac_dv (ag_cons (ac_key' rfl rfl) (ag_cons (ac_key' rfl rfl) (ag_cons (ac_key' rfl rfl) (ag_cons ac_dv ag_nil))))))) as_nil) rfl rfl ?_
    refine o_pure rfl rfl (pu_move (.inr rfl) (ev_tmp rfl)) rfl rfl ?_
    refine ops_nil ?_
    refine then_n ?_
    refine ok_seq ?_
    refine ok_seq ?_
    refine ok_region ?_
    refine o_pure rfl rfl (pu_move (.inl rfl) (ev_tmp rfl)) rfl rfl ?_
    refine o_pure rfl rfl (pu_move (.inl rfl) (ev_tmp rfl)) rfl rfl ?_
    refine o_pure rfl rfl (pu_neq rfl (ev_tmp rfl) (ev_tmp rfl)) rfl rfl ?_
    refine ops_nil ?_
    refine then_n ?_
    refine ok_cond (ev_tmp rfl) (fun c2 => ?_) (fun c2 => ?_)
    · skip
      have d2 := nd_t c2
      refine ok_seq ?_
      refine ok_region ?_
      refine o_pure rfl rfl (pu_move (.inr rfl) ev_bool) rfl rfl ?_
      refine ops_nil ?_
      refine then_n ?_
      refine ok_ret ?_
      refine then_r ?_
      refine fin1 (res_tmp rfl) (eqB ?_)
      first | rfl | (exfalso; omega) | (exfalso; simp_all; done) | (exfalso; simp_all; omega)
    · skip
      have d2 := nd_f c2
      refine ok_skip ?_
      refine then_n ?_
      refine ok_seq ?_
      refine ok_seq ?_
      refine ok_regionD (oB := [1, 5]) (oK := [23007, 26007, 31007, 34007, 35007, 38007]) (by kernel_rfl) rfl rfl ?_
      refine d_take 0 rfl (by kernel_rfl) rfl rfl (pu_loadBoxA hT rfl rfl (ev_tmp rfl) rfl rfl) rfl rfl rfl rfl ?_
      refine d_take 1 rfl (by kernel_rfl) rfl rfl (pu_loadBoxA hT rfl rfl (ev_tmp rfl) rfl rfl) rfl rfl rfl rfl ?_
      refine d_callK 26000 2 rfl (by kernel_rfl) rfl rfl rfl Try.call18 (ok_laws_toDisk (by first | omega | (simp only [wKey, wField, wRecord, wItem, wStore, wIndexDef, wDatabase, wOp, wTx, wTxQueue] at hb ⊢; omega) | (have hq := hw (by omega); omega))) (as_cons (ev_tmp rfl) (ag_agg (ag_cons ac_dv (ag_cons ac_dv (ag_cons ac_dv (ag_cons ac_dv (ag_cons ac_dv (ag_cons ac_dv ag_nil))))))) as_nil) rfl rfl rfl rfl rfl ?_
      refine d_call 3 rfl (by kernel_rfl) rfl rfl rfl Try.call20 ok_laws_eqDisk (as_cons (ev_tmp rfl) (ag_agg (ag_cons ac_dv (ag_cons ac_dv (ag_cons (ac_key' rfl rfl) (ag_cons (ac_key' rfl rfl) (ag_cons (ac_key' rfl rfl) (ag_cons ac_dv ag_nil))))))) (as_cons (ev_tmp rfl) (ag_agg (ag_cons ac_dv (ag_cons ac_dv (ag_cons (ac_key' rfl rfl) (ag_cons (ac_key' rfl rfl) (ag_cons (ac_key' rfl rfl) (ag_cons ac_dv ag_nil))))))) as_nil)) rfl rfl rfl rfl ?_
      refine d_take 4 rfl (by kernel_rfl) rfl rfl (pu_not rfl (ev_tmp rfl)) rfl rfl rfl rfl ?_
      refine d_done (by kernel_rfl) ?_
      refine then_n ?_
      refine ok_cond (ev_tmp rfl) (fun c3 => ?_) (fun c3 => ?_)
      · skip
        refine ok_seq ?_
        refine ok_region ?_
        refine o_pure rfl rfl (pu_move (.inr rfl) ev_bool) rfl rfl ?_
        refine ops_nil ?_
        refine then_n ?_
        refine ok_ret ?_
        refine then_r ?_
        refine fin1 (res_tmp rfl) (eqB ?_)
        first | rfl | (exfalso; omega) | (exfalso; simp_all; done) | (exfalso; simp_all; omega)
      · skip
        refine ok_skip ?_
        refine then_n ?_
        refine ok_seq ?_
        refine ok_region ?_
        refine o_pure rfl rfl (pu_move (.inr rfl) ev_bool) rfl rfl ?_
        refine ops_nil ?_
        refine then_n ?_
        refine ok_ret ?_
        refine fin1 (res_tmp rfl) (eqB ?_)
        first | rfl | (exfalso; omega) | (exfalso; simp_all; done) | (exfalso; simp_all; omega)
end Go.Proofs.Ytlogahkchenpdaa

namespace Go.Proofs.Ytlogahkchenpdaa
open Go.RowKit Go.ChangeShapes Go.WideShapes Go.Deep

def LayW (W : World) : List DV → List Value → Prop := LayL (fun b => b < W.heap.size) W
/-- whatever reads as data of type t reads as data of which Q holds -/
structure OpensD (P : Program) (Q : List DV → Prop) (t : TypeId) : Prop where
  run : ∀ {H : Type} (enc : TypeId × Value → H) (W : World) (base : Nat) (spare : Nat → Bool) (held : Bool) (fuel : Nat) (cs : List Value) (y : DataW H × List MemPlace),
    DataW.trod enc P W base spare held fuel t cs = some y → ∃ ds, Q ds ∧ LayW W ds cs
def Is {α : Type} (enc : α → List DV) (ds : List DV) : Prop := ∃ x, ds = enc x
theorem opensD_int {P : Program} {t : TypeId} (ht : P.underlying t = some (.int .i64)) : OpensD P (Is eInt) t := by
  refine ⟨fun {H} enc W base spare held fuel cs y h => ?_⟩
  obtain ⟨n, rfl, _, hw⟩ := DataW.trod_int ht h
  have hb : -9223372036854775808 ≤ n ∧ n ≤ 9223372036854775807 := by simpa [Lit.wf, IntKind.min, IntKind.max, IntKind.signed, IntKind.bits] using hw
  exact ⟨_, ⟨n, rfl⟩, by unfold LayW LayL LayL Lay; exact ⟨_, _, rfl, ⟨rfl, inR64 hb.1 hb.2⟩, rfl⟩⟩
theorem opensD_byte {P : Program} {t : TypeId} (ht : P.underlying t = some (.int .u8)) : OpensD P (Is eByte) t := by
  refine ⟨fun {H} enc W base spare held fuel cs y h => ?_⟩
  obtain ⟨n, rfl, _, hw⟩ := DataW.trod_int ht h
  have hb : 0 ≤ n ∧ n ≤ 255 := by simpa [Lit.wf, IntKind.min, IntKind.max, IntKind.signed, IntKind.bits] using hw
  have e : ((UInt8.ofNat n.toNat).toNat : Int) = n := by
    rw [UInt8.toNat_ofNat']
    have : n.toNat % 2 ^ 8 = n.toNat := Nat.mod_eq_of_lt (by omega)
    rw [this]; omega
  refine ⟨_, ⟨UInt8.ofNat n.toNat, rfl⟩, ?_⟩
  simp only [LayW, LayL, Lay]
  rw [e]
  exact ⟨_, _, rfl, ⟨rfl, by simpa [InR, IntKind.min, IntKind.max, IntKind.signed, IntKind.bits] using hb⟩, rfl⟩
theorem opensD_str {P : Program} {t : TypeId} (ht : P.underlying t = some .string) : OpensD P (Is eStr) t := by
  refine ⟨fun {H} enc W base spare held fuel cs y h => ?_⟩
  obtain ⟨s, rfl, _, hs⟩ := DataW.trod_string ht h
  exact ⟨_, ⟨s, rfl⟩, by simp only [LayW, LayL, Lay]; exact ⟨_, _, rfl, ⟨rfl, by simpa [maxLen] using hs⟩, rfl⟩⟩
theorem points {α : Type} {enc : α → List DV} {W : World} {sz : Nat} {f : Nat → Option Value} (hs : ∀ x, (enc x).length = sz) : ∀ n : Nat,
    (∀ i, i < n → ∃ x ci, LayW W (enc x) ci ∧ ∀ j, j < sz → f (i * sz + j) = ci[j]?) → ∃ (xs : List α) (cells : List Value), xs.length = n ∧ LayW W (xs.flatMap enc) cells ∧ ∀ j u, cells[j]? = some u → f j = some u
  | 0, _ => ⟨[], [], rfl, by simp [LayW, LayL], by simp⟩
  | n + 1, h => by
    obtain ⟨xs, cells, h1, h2, h3⟩ := points hs n (fun i hi => h i (by omega))
    obtain ⟨x, ci, g1, g2⟩ := h n (by omega)
    have hl : cells.length = n * sz := by rw [layL_len _ _ h2, flat_len hs, h1]
    have hci : ci.length = sz := by rw [layL_len _ _ g1, hs]
    refine ⟨xs ++ [x], cells ++ ci, by simp [h1], by have := layL_append _ _ _ _ h2 g1; simp only [List.flatMap_append, List.flatMap_cons, List.flatMap_nil, List.append_nil]; exact this, fun j u hu => ?_⟩
    rcases Nat.lt_or_ge j cells.length with hj | hj
    · rw [List.getElem?_append_left hj] at hu; exact h3 j u hu
    · rw [List.getElem?_append_right hj] at hu
      have hjs : j - cells.length < sz := by rw [← hci]; exact (List.getElem?_eq_some_iff.1 hu).1
      have := g2 (j - cells.length) hjs
      rw [show n * sz + (j - cells.length) = j by omega] at this
      rw [this, hu]
theorem opensD_slice {α : Type} {P : Program} {enc : α → List DV} {t e : TypeId} {sz : Nat} (e' : Nat) (hs : ∀ x, (enc x).length = sz) (hsz : Nat.blt 0 sz = true) (ht : P.underlying t = some (.slice e)) (hc : P.cellsOf e = sz) (he : OpensD P (Is enc) e) : OpensD P (Is fun xs : List α => [listD e' sz enc xs]) t := by
  refine ⟨fun {H} ench W base spare held fuel cs y h => ?_⟩
  have hpos : 0 < sz := by simpa [Nat.blt_eq] using hsz
  rcases open_slice ht h with ⟨rfl, _⟩ | ⟨a, len, cap, m, n, D, Pl, rfl, _, hl, hm, hmm, _, hi⟩
  · refine ⟨_, ⟨[], rfl⟩, ?_⟩
    simp only [LayW, LayL, Lay]
    exact ⟨_, _, rfl, ⟨none, 0, [], rfl, Nat.le_refl _, by simp [maxLen], hpos, by simp, by simp [LayL], fun h => by simp at h⟩, rfl⟩
  · have hlm : len ≤ m := by rw [hmm]; split <;> omega
    obtain ⟨xs, cells, h1, h2, h3⟩ := points (W := W) (f := fun j => W.cell? (a.add j)) hs len (fun i hil => by
      obtain ⟨cs', hc1, hc2⟩ := hi i (by omega)
      obtain ⟨ds, ⟨x, rfl⟩, hx⟩ := he.run ench W base spare held n cs' _ hc2
      obtain ⟨_, hcl, hat⟩ := World.cells?_some hc1
      refine ⟨x, cs', hx, fun j hj => ?_⟩
      have := hat j (by rw [hc]; exact hj)
      rw [← Go.Deep.add_add, hc] at *
      exact this)
    refine ⟨_, ⟨xs, rfl⟩, ?_⟩
    simp only [LayW, LayL]
    refine ⟨_, _, rfl, ?_, rfl⟩
    simp only [Lay]
    refine ⟨some a, cap, cells, by rw [h1], by omega, hm, hpos, flat_len hs xs, h2, fun hp => ?_⟩
    have hcl : 0 < cells.length := by
      rw [layL_len _ _ h2, flat_len hs]
      exact Nat.mul_pos hp hpos
    have h0 := h3 0 _ (List.getElem?_eq_getElem hcl)
    have ha0 : a.add 0 = a := by simp [Addr.add]
    simp only [ha0] at h0
    have hsp : a.spot = none := by
      cases hs : a.spot with
      | none => rfl
      | some s =>
        unfold World.cell? at h0
        split at h0
        · simp [hs] at h0
        · cases h0
    obtain ⟨b, off, sp⟩ := a
    simp only at hsp
    subst hsp
    refine ⟨b, off, rfl, World.block_lt_of_cell? W _ h0, fun j u hu => ?_⟩
    have := h3 j u hu
    simp only [add_row] at this
    exact this
/-! ### structs -/
def Qcat : List (List DV → Prop) → List DV → Prop
  | [], ds => ds = []
  | Q :: Qs, ds => ∃ a b, ds = a ++ b ∧ Q a ∧ Qcat Qs b
def contig (P : Program) : List Field → Nat → Nat → Bool
  | [], off, n => off == n
  | f :: fs, off, n => f.offset == off && contig P fs (off + P.cellsOf f.type) n
def OpensAll (P : Program) : List Field → List (List DV → Prop) → Prop
  | [], [] => True
  | f :: fs, Q :: Qs => OpensD P Q f.type ∧ OpensAll P fs Qs
  | _, _ => False
theorem opens_fields {P : Program} {W : World} {H : Type} (enc : TypeId × Value → H) (base : Nat) (spare : Nat → Bool) (held : Bool) (n : Nat) {cs : List Value} : ∀ (fs : List Field) (Qs : List (List DV → Prop)) (off : Nat), contig P fs off cs.length = true → OpensAll P fs Qs →
    (∀ f ∈ fs, ∃ y, DataW.trod enc P W base spare held n f.type ((cs.drop f.offset).take (P.cellsOf f.type)) = some y) → ∃ ds, Qcat Qs ds ∧ LayW W ds (cs.drop off)
  | [], [], off, h1, _, _ => by
    simp only [contig, beq_iff_eq] at h1
    subst h1
    exact ⟨[], rfl, by simp [LayW, LayL]⟩
  | [], _ :: _, _, _, h2, _ => h2.elim
  | _ :: _, [], _, _, h2, _ => h2.elim
  | f :: fs, Q :: Qs, off, h1, h2, h3 => by
    simp only [contig, Bool.and_eq_true, beq_iff_eq] at h1
    obtain ⟨e1, h1⟩ := h1
    obtain ⟨y, hy⟩ := h3 f (by simp)
    rw [e1] at hy
    obtain ⟨a, ha, la⟩ := h2.1.run enc W base spare held n _ _ hy
    obtain ⟨b, hb, lb⟩ := opens_fields enc base spare held n fs Qs _ h1 h2.2 (fun g hg => h3 g (by simp [hg]))
    refine ⟨a ++ b, ⟨a, b, rfl, ha, hb⟩, ?_⟩
    have := layL_append _ _ _ _ la lb
    rw [← List.drop_drop, List.take_append_drop] at this
    exact this
theorem opensD_struct {P : Program} {t : TypeId} {fs : Array Field} {Qs : List (List DV → Prop)} (ht : P.underlying t = some (.struct fs)) (hc : contig P fs.toList 0 (P.cellsOf t) = true) (h : OpensAll P fs.toList Qs) : OpensD P (Qcat Qs) t := by
  refine ⟨fun {H} enc W base spare held fuel cs y h' => ?_⟩
  obtain ⟨xs, n, _, _, hl, hlen, hf⟩ := DataW.trod_struct ht h'
  have := opens_fields (cs := cs) enc base spare held n fs.toList Qs 0 (by rw [hl]; exact hc) h (fun f hf' => by
    obtain ⟨i, hi⟩ := List.mem_iff_getElem?.1 hf'
    have hi' : fs[i]? = some f := by simpa using hi
    have h2 := hf i f hi'
    have hlt : i < xs.length := by
      rw [hlen]
      rw [Array.getElem?_eq_some_iff] at hi'
      exact hi'.1
    rw [List.getElem?_eq_getElem hlt] at h2
    exact ⟨_, h2⟩)
  simpa using this
theorem OpensD.mono {P : Program} {Q R : List DV → Prop} {t : TypeId} (h : OpensD P Q t) (hq : ∀ ds, Q ds → R ds) : OpensD P R t := by
  refine ⟨fun {H} enc W base spare held fuel cs y h' => ?_⟩
  obtain ⟨ds, h1, h2⟩ := h.run enc W base spare held fuel cs y h'
  exact ⟨ds, hq ds h1, h2⟩
/-! ### a call from the outside -/
/-- arguments that are read: structs and single values -/
def TopL (w : World) : List SV → List Value → Prop
  | [], vs => vs = []
  | .one c :: us, vs => ∃ d v vs', c = .dv [] d ∧ vs = v :: vs' ∧ LayW w [d] [v] ∧ TopL w us vs'
  | .agg cs :: us, vs => ∃ ds xs vs', cs = ds.map (CV.dv []) ∧ vs = .agg xs.toArray :: vs' ∧ LayW w ds xs ∧ TopL w us vs'
  | _ :: _, _ => False
theorem lay_top {w : World} {L : Lyt} {d : DV} {v : Value} (h : LayW w [d] [v]) : CVr ⟨w, [], L.rv⟩ L w (.dv [] d) v := by
  simp only [LayW, LayL] at h
  obtain ⟨v', _, e, h1, rfl⟩ := h
  simp only [List.cons.injEq, and_true] at e
  subst e
  simp only [CVr]
  exact lay_conv (fun b hb _ => ⟨.inl ⟨hb, by simp⟩, rfl⟩) d _ h1
theorem lays_top {w : World} {L : Lyt} : ∀ {ds : List DV} {vs : List Value}, LayW w ds vs → CVL ⟨w, [], L.rv⟩ L w (ds.map (CV.dv [])) vs
  | [], _, h => by simp only [LayW, LayL] at h; subst h; rfl
  | d :: ds, _, h => by
    simp only [LayW, LayL] at h
    obtain ⟨v, vs', rfl, h1, h2⟩ := h
    exact ⟨v, vs', rfl, lay_top (by simp only [LayW, LayL]; exact ⟨v, [], rfl, h1, rfl⟩), lays_top h2⟩
theorem topL_sv {P : Program} {w : World} {L : Lyt} : ∀ {us : List SV} {vs : List Value}, TopL w us vs → vs.length = us.length ∧ (∀ u ∈ us, u.keys = [] ∧ u.boxes = []) ∧ ∀ (i : Nat) (v : SV), us[i]? = some v → ∃ x, vs[i]? = some x ∧ SVr P ⟨w, [], L.rv⟩ L w v x
  | [], _, h => by simp only [TopL] at h; subst h; simp
  | .one c :: us, _, h => by
    simp only [TopL] at h
    obtain ⟨d, v, vs', rfl, rfl, h1, h2⟩ := h
    obtain ⟨g1, g2, g3⟩ := topL_sv (P := P) (L := L) h2
    refine ⟨by simp [g1], fun u hu => ?_, fun i x hx => ?_⟩
    · rcases List.mem_cons.1 hu with rfl | hu
      · exact ⟨rfl, rfl⟩
      · exact g2 u hu
    · cases i with
      | zero => simp only [List.getElem?_cons_zero, Option.some.injEq] at hx; subst hx; exact ⟨v, rfl, by simp only [SVr]; exact lay_top h1⟩
      | succ i => simpa using g3 i x (by simpa using hx)
  | .agg cs :: us, _, h => by
    simp only [TopL] at h
    obtain ⟨ds, xs, vs', rfl, rfl, h1, h2⟩ := h
    obtain ⟨g1, g2, g3⟩ := topL_sv (P := P) (L := L) h2
    refine ⟨by simp [g1], fun u hu => ?_, fun i x hx => ?_⟩
    · rcases List.mem_cons.1 hu with rfl | hu
      · refine ⟨?_, rfl⟩
        simp only [SV.keys]
        rw [List.flatMap_eq_nil_iff]
        intro c hc
        obtain ⟨d, _, rfl⟩ := List.mem_map.1 hc
        rfl
      · exact g2 u hu
    · cases i with
      | zero => simp only [List.getElem?_cons_zero, Option.some.injEq] at hx; subst hx; exact ⟨_, rfl, by simp only [SVr]; exact ⟨xs, rfl, lays_top h1⟩⟩
      | succ i => simpa using g3 i x (by simpa using hx)
  | .tup _ :: _, _, h => by simp [TopL] at h
  | .box _ _ :: _, _, h => by simp [TopL] at h
  | .ref _ _ :: _, _, h => by simp [TopL] at h
  | .eptr _ _ :: _, _, h => by simp [TopL] at h
  | .fn _ _ :: _, _, h => by simp [TopL] at h
  | .clo _ _ :: _, _, h => by simp [TopL] at h
  | .opt _ _ :: _, _, h => by simp [TopL] at h
  | .any :: _, _, h => by simp [TopL] at h
theorem pfn_run {P : Program} {f : FuncId} {us : List SV} {b : Bool} (hf : PFn P f us (.one (.dv [] (.bool b)))) {w : World} {vs : List Value} (h : TopL w us vs) :
    Calls P f vs.toArray w fun e w' => e = .returned (.bool b) ∧ Below w.heap.size w w' := by
  let L : Lyt := ⟨fun _ => 0, fun _ => [], fun _ => .bool false⟩
  obtain ⟨h1, h2, h3⟩ := topL_sv (P := P) (L := L) h
  obtain ⟨t1, t2⟩ := enum_tk us 0 h2
  have hr : Rel P ⟨w, [], L.rv⟩ us.length L ⟨enumS 0 us, [], []⟩ ⟨vs.toArray, []⟩ w := {
    df := rfl
    sz := by simp [h1]
    tm := fun i v hv => by
      obtain ⟨_, h4⟩ := enumS_look us 0 i v hv
      obtain ⟨x, h5, h6⟩ := h3 i v (by simpa using h4)
      have : vs.toArray.getD i undef = x := by simp [Array.getD_eq_getD_getElem?, h5]
      rw [this]; exact h6
    bx := fun i t cs h => by cases h
    ks := fun k c h => by cases h
    b1 := fun i x h => by cases h
    k1 := fun k c h => by cases h
    kn := fun k c h => by cases h
    bb := fun i j x y h => by cases h
    bk := fun i k x c h => by cases h
    kk := fun k j c d h => by cases h
    lk := fun k hk => by simp only [St.tk, t1, List.flatMap_nil, List.append_nil] at hk; cases hk
    lb := fun b hb => by simp only [St.tb, t2] at hb; cases hb
    s0 := fun b hb => by cases hb
    chg := Chg.refl _ _ }
  refine (hf.ok w [] L vs h1 hr).mono ?_
  rintro e w' ⟨r, res, σ', L', rfl, rfl, hr'⟩
  have hv := hr'.tm 0 _ rfl
  simp only [SVr, CVr, Lay] at hv
  refine ⟨?_, hr'.chg.below⟩
  have : (#[r] : Array Value).getD 0 undef = r := rfl
  rw [this] at hv
  rw [hv]
end Go.Proofs.Ytlogahkchenpdaa

namespace Go.Proofs.Ytlogahkchenpdaa
open Go.RowKit
open Go.Proofs
theorem opensBytes : OpensD Try.prog (Is fun xs => [listD 5 1 eByte xs]) 35 := opensD_slice (sz := 1) 5 (fun _ => rfl) rfl Try.underlying35 (by kernel_rfl) (opensD_byte Try.underlying5)
theorem opensKey : OpensD Try.prog (Is eKey) 89 :=
  (opensD_struct (Qs := [Is eInt, Is eInt, Is eStr]) Try.underlying89 (by kernel_rfl) ⟨(opensD_int Try.underlying3), (opensD_int Try.underlying3), (opensD_str Try.underlying9), trivial⟩).mono fun ds h => by
    obtain ⟨_, _, rfl, ⟨a, rfl⟩, ⟨_, _, rfl, ⟨b, rfl⟩, ⟨_, _, rfl, ⟨c, rfl⟩, rfl⟩⟩⟩ := h
    exact ⟨(a, b, c), rfl⟩
theorem opensField : OpensD Try.prog (Is eField) 210 :=
  (opensD_struct (Qs := [Is eStr, Is eInt]) Try.underlying210 (by kernel_rfl) ⟨(opensD_str Try.underlying9), (opensD_int Try.underlying3), trivial⟩).mono fun ds h => by
    obtain ⟨_, _, rfl, ⟨a, rfl⟩, ⟨_, _, rfl, ⟨b, rfl⟩, rfl⟩⟩ := h
    exact ⟨(a, b), rfl⟩
theorem opensFields : OpensD Try.prog (Is fun xs => [listD 161 2 eField xs]) 90 := opensD_slice (sz := 2) 161 (fun _ => rfl) rfl Try.underlying90 (by kernel_rfl) opensField
theorem opensRecord : OpensD Try.prog (Is (fun r : RecT => [fieldsD r])) 92 :=
  (opensD_struct (Qs := [Is (fun r : RecT => [fieldsD r])]) Try.underlying92 (by kernel_rfl) ⟨opensFields, trivial⟩).mono fun ds h => by
    obtain ⟨_, _, rfl, ⟨a, rfl⟩, rfl⟩ := h
    exact ⟨a, rfl⟩
theorem opensItem : OpensD Try.prog (Is eItem) 206 :=
  (opensD_struct (Qs := [Is eKey, Is (fun r : RecT => [fieldsD r])]) Try.underlying206 (by kernel_rfl) ⟨opensKey, opensRecord, trivial⟩).mono fun ds h => by
    obtain ⟨_, _, rfl, ⟨a, rfl⟩, ⟨_, _, rfl, ⟨b, rfl⟩, rfl⟩⟩ := h
    exact ⟨(a, b), rfl⟩
theorem opensItems : OpensD Try.prog (Is fun xs => [listD 150 4 eItem xs]) 144 := opensD_slice (sz := 4) 150 (fun _ => rfl) rfl Try.underlying144 (by kernel_rfl) opensItem
theorem opensStore : OpensD Try.prog (Is eStore) 146 :=
  (opensD_struct (Qs := [Is eStr, Is (fun r : List ItemT => [itemsD r]), Is eInt]) Try.underlying146 (by kernel_rfl) ⟨(opensD_str Try.underlying9), opensItems, (opensD_int Try.underlying3), trivial⟩).mono fun ds h => by
    obtain ⟨_, _, rfl, ⟨a, rfl⟩, ⟨_, _, rfl, ⟨b, rfl⟩, ⟨_, _, rfl, ⟨c, rfl⟩, rfl⟩⟩⟩ := h
    exact ⟨(a, b, c), rfl⟩
theorem opensStores : OpensD Try.prog (Is fun xs => [listD 82 3 eStore xs]) 22 := opensD_slice (sz := 3) 82 (fun _ => rfl) rfl Try.underlying22 (by kernel_rfl) opensStore
theorem opensDef : OpensD Try.prog (Is eDef) 148 :=
  (opensD_struct (Qs := [Is eStr, Is eStr]) Try.underlying148 (by kernel_rfl) ⟨(opensD_str Try.underlying9), (opensD_str Try.underlying9), trivial⟩).mono fun ds h => by
    obtain ⟨_, _, rfl, ⟨a, rfl⟩, ⟨_, _, rfl, ⟨b, rfl⟩, rfl⟩⟩ := h
    exact ⟨(a, b), rfl⟩
theorem opensDefs : OpensD Try.prog (Is fun xs => [listD 129 2 eDef xs]) 23 := opensD_slice (sz := 2) 129 (fun _ => rfl) rfl Try.underlying23 (by kernel_rfl) opensDef
theorem opensDb : OpensD Try.prog (Is eDb) 25 :=
  (opensD_struct (Qs := [Is eStr, Is eInt, Is (fun r : List StoreT => [storesD r]), Is (fun r : List DefT => [defsD r])]) Try.underlying25 (by kernel_rfl) ⟨(opensD_str Try.underlying9), (opensD_int Try.underlying3), opensStores, opensDefs, trivial⟩).mono fun ds h => by
    obtain ⟨_, _, rfl, ⟨a, rfl⟩, ⟨_, _, rfl, ⟨b, rfl⟩, ⟨_, _, rfl, ⟨c, rfl⟩, ⟨_, _, rfl, ⟨d, rfl⟩, rfl⟩⟩⟩⟩ := h
    exact ⟨(a, b, c, d), rfl⟩
theorem opensDisk : OpensD Try.prog (Is (fun d : DiskT => eDb d.1 ++ [bytesD d.2.1, .int .i64 d.2.2])) 37 :=
  (opensD_struct (Qs := [Is eDb, Is (fun r : List UInt8 => [bytesD r]), Is eInt]) Try.underlying37 (by kernel_rfl) ⟨opensDb, opensBytes, (opensD_int Try.underlying3), trivial⟩).mono fun ds h => by
    obtain ⟨_, _, rfl, ⟨a, rfl⟩, ⟨_, _, rfl, ⟨b, rfl⟩, ⟨_, _, rfl, ⟨c, rfl⟩, rfl⟩⟩⟩ := h
    exact ⟨(a, b, c), rfl⟩
end Go.Proofs.Ytlogahkchenpdaa

