/-
  Contracts of the program's functions for the statement EncodeOps, by the rules of the logic. Conditions: none but those in the theorems.
-/
import Derived.Below
import Derived.Deep.Slices
import Derived.OpenShut
import Derived.ProofKit
import Derived.Test.YtlogahkchenpdaaQEncodeOps1
namespace Go.Proofs.Ytlogahkchenpdaa
open Go.RowKit
open Go.Proofs
set_option linter.unusedVariables false
set_option linter.unusedSimpArgs false

def be6 (n : Nat) : List UInt8 := (List.range 6).map fun j => UInt8.ofNat (n / 2 ^ (8 * (5 - j)))
def keyN (k : KeyT) : Nat := (k.2.1 + 1000000000000).toNat
def encK (k : KeyT) : List UInt8 := if isKey k then (UInt8.ofNat k.1.toNat :: (if k.1 = 2 then [] else be6 (keyN k))) ++ k.2.2.data.toList else []
theorem be6_len (n : Nat) : (be6 n).length = 6 := by simp [be6]
theorem be6_succ {n j : Nat} (h : j < 6) : (be6 n).take (j + 1) = (be6 n).take j ++ [UInt8.ofNat (n / 2 ^ (8 * (5 - j)))] := by
  rw [List.take_add_one]
  congr 1
  simp [be6, h]
theorem key_rng {k : KeyT} (h : isKey k = true) : (1 ≤ k.1 ∧ k.1 ≤ 3) ∧ (-1000000000000 ≤ k.2.1 ∧ k.2.1 ≤ 1000000000000) ∧ k.2.2.size ≤ 12 := by
  simp only [isKey, kText, Bool.and_eq_true, decide_eq_true_eq] at h
  omega
theorem encK_bad {k : KeyT} (h : isKey k = false) : encK k = [] := by rw [encK, h]; rfl
theorem encK_txt {k : KeyT} (h : isKey k = true) (h2 : k.1 = 2) : encK k = [UInt8.ofNat k.1.toNat] ++ k.2.2.data.toList := by rw [encK, if_pos h, if_pos h2]
theorem encK_num {k : KeyT} {j : Nat} (h : isKey k = true) (h2 : ¬ k.1 = 2) (hj : 6 ≤ j) : encK k = (UInt8.ofNat k.1.toNat :: (be6 (keyN k)).take j) ++ k.2.2.data.toList := by
  rw [encK, if_pos h, if_neg h2, List.take_of_length_le (by rw [be6_len]; exact hj)]
theorem encK_end {k : KeyT} {j : Nat} (h : isKey k = true) (hj : k.1 = 2 → j = 0) (hc : (decide ((0 : Int) ≤ 5 - (j : Int)) && !decide (k.1 = 2)) = false) : encK k = (UInt8.ofNat k.1.toNat :: (be6 (keyN k)).take j) ++ k.2.2.data.toList := by
  by_cases h2 : k.1 = 2
  · rw [hj h2, encK_txt h h2]; rfl
  · rw [decide_eq_false h2] at hc
    exact encK_num h h2 (by have h3 := hc; simp at h3; omega)
theorem encK_len (k : KeyT) : (encK k).length ≤ 19 := by
  unfold encK
  split
  · rename_i h
    have h1 := (key_rng h).2.2
    have h2 : k.2.2.data.toList.length ≤ 12 := h1
    split
    · simp only [List.length_append, List.length_cons, List.length_nil]; omega
    · simp only [List.length_append, List.length_cons, be6_len]; omega
  · simp
theorem pow_sh (j : Nat) (hj : j < 6) : (2 ^ (8 * (5 - (j : Int))).toNat : Nat) = 2 ^ (8 * (5 - j)) := by
  rw [show (8 * (5 - (j : Int))).toNat = 8 * (5 - j) by omega]
theorem key_byte {k : KeyT} {j : Nat} (h : isKey k = true) (hj : j < 6) : (k.2.1 + 1000000000000) / ((2 ^ (8 * (5 - (j : Int))).toNat : Nat) : Int) = ((keyN k / 2 ^ (8 * (5 - j)) : Nat) : Int) := by
  have h1 := (key_rng h).2.1
  rw [pow_sh j hj, show k.2.1 + 1000000000000 = ((keyN k : Nat) : Int) by unfold keyN; omega, Int.natCast_ediv]
theorem key_byteQ {k : KeyT} {j : Nat} (h : isKey k = true) (hj : j < 6) : ∃ q : Nat, (k.2.1 + 1000000000000) / ((2 ^ (8 * (5 - (j : Int))).toNat : Nat) : Int) = (q : Int) ∧ q ≤ 2000000000000 := by
  have h1 := (key_rng h).2.1
  exact ⟨_, key_byte h hj, Nat.le_trans (Nat.div_le_self _ _) (by unfold keyN; omega)⟩
theorem be_step {k : KeyT} {j : Nat} {z : Int} (h : isKey k = true) (hj : j < 6) (hz : z = (k.2.1 + 1000000000000) / ((2 ^ (8 * (5 - (j : Int))).toNat : Nat) : Int)) :
    (UInt8.ofNat k.1.toNat :: (be6 (keyN k)).take j).flatMap eByte ++ [DV.int .u8 (IntKind.u8.wrap z)] = (UInt8.ofNat k.1.toNat :: (be6 (keyN k)).take (j + 1)).flatMap eByte := by
  rw [key_byte h hj] at hz
  rw [app_byte hz, be6_succ hj]; rfl
theorem u8_and (z : Int) : IntKind.u8.wrap (z % 256) = IntKind.u8.wrap z := by simp [IntKind.wrap, IntKind.signed, IntKind.bits]
theorem byte_hd {k : KeyT} (h : isKey k = true) : [DV.int .u8 (IntKind.u8.wrap k.1)] = (UInt8.ofNat k.1.toNat :: (be6 (keyN k)).take 0).flatMap eByte := by
  have h1 := (key_rng h).1
  exact app_byte (o := []) (m := k.1.toNat) (by omega)
/-- fields, one behind the other -/
def encRN (r : RecT) : Nat → List UInt8
  | 0 => appU [] (r.length : Int)
  | k + 1 => appU (appU (encRN r k) ((r.getD (k : Int).toNat default).1.data.toList.length : Int) ++ (r.getD (k : Int).toNat default).1.data.toList) (r.getD (k : Int).toNat default).2
def encR (r : RecT) : List UInt8 := if isRec r then encRN r r.length else []
theorem encR_bad {r : RecT} (h : isRec r = false) : encR r = [] := by rw [encR, h]; rfl
theorem encR_ok {r : RecT} {k : Nat} (h : isRec r = true) (hk : k = r.length) : encR r = encRN r k := by rw [encR, if_pos h, hk]
theorem name_size {s : Str} (h : isName s = true) : 1 ≤ s.size ∧ s.size ≤ 8 := by
  simp only [isName, Bool.and_eq_true, decide_eq_true_eq] at h; omega
theorem rec_fld {r : RecT} {k : Nat} (h : isRec r = true) (hk : k < r.length) : isName (r.getD (k : Int).toNat default).1 = true ∧ 0 ≤ (r.getD (k : Int).toNat default).2 ∧ (r.getD (k : Int).toNat default).2 ≤ 1000000000 := by
  simp only [isRec, Bool.and_eq_true, List.all_eq_true] at h
  have h1 := h.1 k (List.mem_range.2 hk)
  unfold recBad at h1
  simp only [Bool.not_or, Bool.not_not, Bool.and_eq_true, decide_eq_true_eq] at h1
  exact ⟨h1.1.1, h1.1.2.1, h1.1.2.2⟩
theorem rec_len {r : RecT} (h : isRec r = true) : r.length ≤ 6 := by
  simp only [isRec, Bool.and_eq_true, decide_eq_true_eq] at h; omega
theorem encRN_len {r : RecT} (h : isRec r = true) : ∀ k, k ≤ r.length → (encRN r k).length ≤ 6 + 20 * k
  | 0, _ => by have := appU_len [] (r.length : Int); simpa [encRN] using this
  | k + 1, hk => by
    have ih := encRN_len h k (by omega)
    have h1 := name_size (rec_fld h (show k < r.length by omega)).1
    have h1 : (r.getD (k : Int).toNat default).1.data.toList.length ≤ 8 := h1.2
    have h2 := appU_len (encRN r k) ((r.getD (k : Int).toNat default).1.data.toList.length : Int)
    have h3 := appU_len (appU (encRN r k) ((r.getD (k : Int).toNat default).1.data.toList.length : Int) ++ (r.getD (k : Int).toNat default).1.data.toList) (r.getD (k : Int).toNat default).2
    rw [List.length_append] at h3
    rw [encRN]
    omega
theorem encR_len (r : RecT) : (encR r).length ≤ 126 := by
  unfold encR
  split
  · rename_i h
    have h1 := encRN_len h r.length (Nat.le_refl _)
    have h2 := rec_len h
    omega
  · simp
set_option maxRecDepth 100000 in
theorem ok_impl_EncodeKey {k : KeyT}  : KFn Try.prog 67 [.agg [(.dv [] (.int .i64 (k.1))), (.dv [] (.int .i64 (k.2.1))), (.dv [] (.str (k.2.2)))]] (.one (.key 12)) [(12, some (kcOf false (bytesD (encK k))))] := by
  refine ⟨fn_intro Try.func67 rfl Try.ntmps67 Try.results67 rfl (fun C => ?_)⟩
  refine ok_factA (x := .tmp 0) 0 (ev_tmp rfl) rfl (fun (f0_0 : -9223372036854775808 ≤ (k.1) ∧ (k.1) ≤ 9223372036854775807) => ?_)
  refine ok_factA (x := .tmp 0) 1 (ev_tmp rfl) rfl (fun (f0_1 : -9223372036854775808 ≤ (k.2.1) ∧ (k.2.1) ≤ 9223372036854775807) => ?_)
  refine ok_factA (x := .tmp 0) 2 (ev_tmp rfl) rfl (fun (f0_2 : (k.2.2).size ≤ 9223372036854775807) => ?_)
  refine ok_seq ?_
  refine ok_region ?_
  refine o_box rfl rfl rfl (ev_tmp rfl) rfl rfl rfl rfl ?_
  refine o_pure rfl rfl (pu_move (.inr rfl) ev_nil) rfl rfl ?_
  refine ops_nil ?_
  refine then_n ?_
  refine ok_seq ?_
  refine ok_seq ?_
  refine ok_region ?_
  refine o_pure rfl rfl (pu_loadBoxA hT rfl rfl (ev_tmp rfl) rfl rfl) rfl rfl ?_
  refine o_call rfl rfl rfl Try.call126 (ok_impl_IsKey (k := k) ) (as_cons (ev_tmp rfl) (ag_agg (ag_cons ac_dv (ag_cons ac_dv (ag_cons ac_dv ag_nil)))) as_nil) rfl rfl ?_
  refine o_pure rfl rfl (pu_not rfl (ev_tmp rfl)) rfl rfl ?_
  refine ops_nil ?_
  refine then_n ?_
  refine ok_cond (ev_tmp rfl) (fun c1 => ?_) (fun c1 => ?_)
  · skip
    have hk0 : isKey k = false := by simpa using c1
    refine ok_seq ?_
    refine ok_region ?_
    refine o_build0 (k := 12) hT rfl rfl rfl rfl rfl rfl rfl rfl ?_
    refine o_pure rfl rfl (pu_move (.inr rfl) (ev_tmp rfl)) rfl rfl ?_
    refine ops_nil ?_
    refine then_n ?_
    refine ok_weak (σ' := ⟨[(2, .one (.key 12))], [], [(12, some (kcOf false (bytesD (encK k))))]⟩) (weak_sub ⟨rfl, trivial⟩ trivial ⟨(by first | exact congrArg (fun l : List UInt8 => some (some (KC.mk false 5 1 l.length (l.flatMap eByte)))) (show ([] : List UInt8) = encK k from (encK_bad hk0).symm) | rfl), trivial⟩ rfl) ?_
    refine ok_ret ?_
    refine then_r ?_
    refine fin1 (res_tmp rfl) ?_
    exact ⟨rfl, rfl⟩
  · skip
    have hk : isKey k = true := by simpa using c1
    have hrg := key_rng hk
    refine ok_skip ?_
    refine then_n ?_
    refine ok_seq ?_
    refine ok_region ?_
    refine o_pure rfl rfl (pu_fieldBox hT rfl rfl rfl (ev_tmp rfl)) rfl rfl ?_
    refine o_pure rfl rfl (pu_loadBox1 hT rfl rfl (ev_tmp rfl) rfl rfl) rfl rfl ?_
    refine o_pure rfl rfl (pu_convI hT rfl rfl rfl (ev_tmp rfl)) rfl rfl ?_
    refine o_build1 (k := 12) (js := []) hT rfl rfl rfl rfl rfl rfl rfl rfl rfl (ev_tmp rfl) rfl rfl (ow_cons' (ow_dv rfl) ow_nil rfl) (by decide) (by decide) rfl rfl ?_
    simp only [killT, killB, SV.kill, CV.kill, List.map_cons, List.map_nil, List.any_cons, List.any_nil, List.contains_cons, List.contains_nil, List.nil_append, List.cons_append, Nat.reduceBEq, Bool.or_false, Bool.false_or, Bool.or_true, Bool.true_or, cond_true, cond_false]
    refine o_pure rfl rfl (pu_move (.inr rfl) (ev_tmp rfl)) rfl rfl ?_
    refine ops_nil ?_
    refine then_n ?_
    refine ok_seq ?_
    refine ok_seq ?_
    refine ok_region ?_
    refine o_pure rfl rfl (pu_fieldBox hT rfl rfl rfl (ev_tmp rfl)) rfl rfl ?_
    refine o_pure rfl rfl (pu_loadBox1 hT rfl rfl (ev_tmp rfl) rfl rfl) rfl rfl ?_
    refine o_pure rfl rfl (pu_neq rfl (ev_tmp rfl) (ev_int (inR_lit rfl))) rfl rfl ?_
    refine ops_nil ?_
    refine then_n ?_
    refine ok_cond (ev_tmp rfl) (fun c2 => ?_) (fun c2 => ?_)
    · skip
      have hn2 : ¬ k.1 = 2 := by simpa using c2
      have d2 := nd_t c2
      refine ok_seq ?_
      refine ok_region ?_
      refine o_pure rfl rfl (pu_move (.inr rfl) (ev_int (inR_lit rfl))) rfl rfl ?_
      refine ops_nil ?_
      refine then_n ?_
      refine ok_block ?_
      refine ok_loop (ι := Nat) (fun zz => ⟨[(1, .box 1 0), (2, .one .nil), (3, .one (.key 12)), (4, .one (.dv [] (.int .i64 (5 - (zz : Int)))))], [(1, 97, [(.dv [] (.int .i64 (k.1))), (.dv [] (.int .i64 (k.2.1))), (.dv [] (.str (k.2.2)))])], [(12, some (kcOf false (.sl 5 1 ((UInt8.ofNat k.1.toNat :: (be6 (keyN k)).take zz).length) ((UInt8.ofNat k.1.toNat :: (be6 (keyN k)).take zz).flatMap eByte))))]⟩) (fun zz => zz ≤ 6) (fun zz => 6 - zz) (0) ?_ (weak_sub ⟨rfl, rfl, rfl, rfl, trivial⟩ ⟨rfl, trivial⟩ ⟨(congrArg (fun cs => some (some (KC.mk false 5 1 1 cs))) (byte_hd hk)), trivial⟩ rfl) (fun zz hx => ?_)
      · omega
      obtain ⟨j, rfl⟩ : ∃ v, v = zz := ⟨_, rfl⟩
      replace hx : j ≤ 6 := hx
      show Ok _ _ _ _ _ (⟨[(1, .box 1 0), (2, .one .nil), (3, .one (.key 12)), (4, .one (.dv [] (.int .i64 (5 - (j : Int)))))], [(1, 97, [(.dv [] (.int .i64 (k.1))), (.dv [] (.int .i64 (k.2.1))), (.dv [] (.str (k.2.2)))])], [(12, some (kcOf false (.sl 5 1 ((UInt8.ofNat k.1.toNat :: (be6 (keyN k)).take j).length) ((UInt8.ofNat k.1.toNat :: (be6 (keyN k)).take j).flatMap eByte))))]⟩ : St)
      refine ok_seq ?_
      refine ok_seq ?_
      refine ok_region ?_
      refine o_pure rfl rfl (pu_move (.inl rfl) (ev_tmp rfl)) rfl rfl ?_
      refine o_pure rfl rfl (pu_geq rfl (ev_tmp rfl) (ev_int (inR_lit rfl))) rfl rfl ?_
      refine ops_nil ?_
      refine then_n ?_
      refine ok_cond (ev_tmp rfl) (fun c3 => ?_) (fun c3 => ?_)
      · skip
        have d3 := of_decide_eq_true c3
        have hj6 : j < 6 := by omega
        refine ok_skip ?_
        refine then_n ?_
        refine ok_seq ?_
        refine ok_block ?_
        refine ok_region ?_
        refine o_pure rfl rfl (pu_move (.inl rfl) (ev_tmp rfl)) rfl rfl ?_
        refine o_pure rfl rfl (pu_fieldBox hT rfl rfl rfl (ev_tmp rfl)) rfl rfl ?_
        refine o_pure rfl rfl (pu_loadBox1 hT rfl rfl (ev_tmp rfl) rfl rfl) rfl rfl ?_
        refine o_pure rfl rfl (pu_addR rfl (ev_tmp rfl) (ev_int (inR_lit rfl)) (inR64 (by omega) (by omega))) rfl rfl ?_
        refine o_pure rfl rfl (pu_move (.inl rfl) (ev_tmp rfl)) rfl rfl ?_
        refine o_pure rfl rfl (pu_mulR rfl (ev_int (inR_lit rfl)) (ev_tmp rfl) (inR64 (by omega) (by omega))) rfl rfl ?_
        refine o_pure rfl rfl (pu_shrN rfl (ev_tmp rfl) (ev_tmp rfl) (by omega) (by omega) (by show _ ≤ 64; omega)) rfl rfl ?_
        refine o_pure rfl rfl (pu_convI hT rfl rfl rfl (ev_tmp rfl)) rfl rfl ?_
        refine o_build1 (k := 28) (js := []) hT rfl rfl rfl rfl rfl rfl rfl rfl rfl (ev_tmp rfl) rfl rfl (ow_cons' (ow_dv rfl) ow_nil rfl) (by decide) (by decide) rfl rfl ?_
        simp only [killT, killB, SV.kill, CV.kill, List.map_cons, List.map_nil, List.any_cons, List.any_nil, List.contains_cons, List.contains_nil, List.nil_append, List.cons_append, Nat.reduceBEq, Bool.or_false, Bool.false_or, Bool.or_true, Bool.true_or, cond_true, cond_false]
        refine o_appK (k := 12) (j := 28) (cs := (UInt8.ofNat k.1.toNat :: (be6 (keyN k)).take (j + 1)).flatMap eByte) (n := (UInt8.ofNat k.1.toNat :: (be6 (keyN k)).take (j + 1)).length) hT rfl rfl rfl rfl rfl rfl rfl (ev_tmp rfl) rfl rfl rfl (ev_tmp rfl) rfl rfl (by decide) (by dsimp only [kcOf]; simp only [List.length_cons, List.length_take]; omega) (by dsimp only [kcOf]; simp only [List.length_cons, List.length_take]; omega) (by rw [be6_succ hj6]; simp) (be_step hk hj6 rfl) ?_
        simp only [killT, killB, SV.kill, CV.kill, List.map_cons, List.map_nil, List.any_cons, List.any_nil, List.contains_cons, List.contains_nil, List.nil_append, List.cons_append, Nat.reduceBEq, Bool.or_false, Bool.false_or, Bool.or_true, Bool.true_or, cond_true, cond_false]
        refine o_pure rfl rfl (pu_move (.inr rfl) (ev_tmp rfl)) rfl rfl ?_
        refine ops_nil ?_
        refine blk_n ?_
        refine then_n ?_
        refine ok_region ?_
        refine o_pure rfl rfl (pu_move (.inl rfl) (ev_tmp rfl)) rfl rfl ?_
        refine o_pure rfl rfl (pu_subR rfl (ev_tmp rfl) (ev_int (inR_lit rfl)) (inR64 (by omega) (by omega))) rfl rfl ?_
        refine o_pure rfl rfl (pu_move (.inr rfl) (ev_tmp rfl)) rfl rfl ?_
        refine ops_nil ?_
        refine then_n ?_
        refine ⟨j + 1, ?_, ?_, weak_sub ⟨rfl, rfl, rfl, (eqSlotI (by omega)), trivial⟩ ⟨rfl, trivial⟩ ⟨rfl, trivial⟩ rfl⟩
        · omega
        · omega
      · skip
        have d3 := of_decide_eq_false c3
        refine ok_exit ?_
        refine then_e ?_
        refine then_e ?_
        refine blk_e rfl ?_
        refine then_n ?_
        refine ok_seq ?_
        refine ok_region ?_
        refine o_pure rfl rfl (pu_move (.inl rfl) (ev_tmp rfl)) rfl rfl ?_
        refine o_pure rfl rfl (pu_fieldBox hT rfl rfl rfl (ev_tmp rfl)) rfl rfl ?_
        refine o_pure rfl rfl (pu_loadBox1 hT rfl rfl (ev_tmp rfl) rfl rfl) rfl rfl ?_
        refine o_appS (k := 12) (cs := (encK k).flatMap eByte) (n := (encK k).length) hT rfl rfl rfl rfl rfl rfl (by kernel_rfl) rfl (ev_tmp rfl) rfl rfl rfl (ev_tmp rfl) (by dsimp only [kcOf]; have := be6_len (keyN k); have h12 := hrg.2.2; try simp only [List.length_cons, List.length_take]; omega) (by rw [encK_num hk hn2 (show 6 ≤ j by omega), List.length_append] <;> rfl) (by rw [encK_num hk hn2 (show 6 ≤ j by omega), List.flatMap_append] <;> rfl) ?_
        simp only [killT, killB, SV.kill, CV.kill, List.map_cons, List.map_nil, List.any_cons, List.any_nil, List.contains_cons, List.contains_nil, List.nil_append, List.cons_append, Nat.reduceBEq, Bool.or_false, Bool.false_or, Bool.or_true, Bool.true_or, cond_true, cond_false]
        refine o_pure rfl rfl (pu_move (.inr rfl) (ev_tmp rfl)) rfl rfl ?_
        refine ops_nil ?_
        refine then_n ?_
        refine ok_weak (σ' := ⟨[(2, .one (.key 12))], [], [(12, some (kcOf false (bytesD (encK k))))]⟩) (weak_sub ⟨rfl, trivial⟩ trivial ⟨(by first | exact congrArg (fun l : List UInt8 => some (some (KC.mk false 5 1 l.length (l.flatMap eByte)))) (show ([] : List UInt8) = encK k from (encK_bad hk0).symm) | rfl), trivial⟩ rfl) ?_
        refine ok_ret ?_
        refine fin1 (res_tmp rfl) ?_
        exact ⟨rfl, rfl⟩
    · skip
      have hn2 : k.1 = 2 := by simpa using c2
      have d2 := nd_f c2
      refine ok_skip ?_
      refine then_n ?_
      refine ok_seq ?_
      refine ok_region ?_
      refine o_pure rfl rfl (pu_move (.inl rfl) (ev_tmp rfl)) rfl rfl ?_
      refine o_pure rfl rfl (pu_fieldBox hT rfl rfl rfl (ev_tmp rfl)) rfl rfl ?_
      refine o_pure rfl rfl (pu_loadBox1 hT rfl rfl (ev_tmp rfl) rfl rfl) rfl rfl ?_
      refine o_appS (k := 12) (cs := (encK k).flatMap eByte) (n := (encK k).length) hT rfl rfl rfl rfl rfl rfl (by kernel_rfl) rfl (ev_tmp rfl) rfl rfl rfl (ev_tmp rfl) (by dsimp only [kcOf]; have h12 := hrg.2.2; omega) (by rw [encK_txt hk hn2, List.length_append] <;> rfl) (by rw [encK_txt hk hn2, List.flatMap_append]; exact congrArg (fun z => z ++ _) (byte_hd hk)) ?_
      simp only [killT, killB, SV.kill, CV.kill, List.map_cons, List.map_nil, List.any_cons, List.any_nil, List.contains_cons, List.contains_nil, List.nil_append, List.cons_append, Nat.reduceBEq, Bool.or_false, Bool.false_or, Bool.or_true, Bool.true_or, cond_true, cond_false]
      refine o_pure rfl rfl (pu_move (.inr rfl) (ev_tmp rfl)) rfl rfl ?_
      refine ops_nil ?_
      refine then_n ?_
      refine ok_weak (σ' := ⟨[(2, .one (.key 12))], [], [(12, some (kcOf false (bytesD (encK k))))]⟩) (weak_sub ⟨rfl, trivial⟩ trivial ⟨(by first | exact congrArg (fun l : List UInt8 => some (some (KC.mk false 5 1 l.length (l.flatMap eByte)))) (show ([] : List UInt8) = encK k from (encK_bad hk0).symm) | rfl), trivial⟩ rfl) ?_
      refine ok_ret ?_
      refine fin1 (res_tmp rfl) ?_
      exact ⟨rfl, rfl⟩
set_option maxRecDepth 100000 in
theorem ok_spec_EncodeKey {k : KeyT}  : KFn Try.prog 62 [.agg [(.dv [] (.int .i64 (k.1))), (.dv [] (.int .i64 (k.2.1))), (.dv [] (.str (k.2.2)))]] (.one (.key 12)) [(12, some (kcOf false (bytesD (encK k))))] := by
  refine ⟨fn_intro Try.func62 rfl Try.ntmps62 Try.results62 rfl (fun C => ?_)⟩
  refine ok_factA (x := .tmp 0) 0 (ev_tmp rfl) rfl (fun (f0_0 : -9223372036854775808 ≤ (k.1) ∧ (k.1) ≤ 9223372036854775807) => ?_)
  refine ok_factA (x := .tmp 0) 1 (ev_tmp rfl) rfl (fun (f0_1 : -9223372036854775808 ≤ (k.2.1) ∧ (k.2.1) ≤ 9223372036854775807) => ?_)
  refine ok_factA (x := .tmp 0) 2 (ev_tmp rfl) rfl (fun (f0_2 : (k.2.2).size ≤ 9223372036854775807) => ?_)
  refine ok_seq ?_
  refine ok_region ?_
  refine o_box rfl rfl rfl (ev_tmp rfl) rfl rfl rfl rfl ?_
  refine o_pure rfl rfl (pu_move (.inr rfl) ev_nil) rfl rfl ?_
  refine ops_nil ?_
  refine then_n ?_
  refine ok_seq ?_
  refine ok_seq ?_
  refine ok_region ?_
  refine o_pure rfl rfl (pu_loadBoxA hT rfl rfl (ev_tmp rfl) rfl rfl) rfl rfl ?_
  refine o_call rfl rfl rfl Try.call120 (ok_spec_IsKey (k := k) ) (as_cons (ev_tmp rfl) (ag_agg (ag_cons ac_dv (ag_cons ac_dv (ag_cons ac_dv ag_nil)))) as_nil) rfl rfl ?_
  refine o_pure rfl rfl (pu_not rfl (ev_tmp rfl)) rfl rfl ?_
  refine ops_nil ?_
  refine then_n ?_
  refine ok_cond (ev_tmp rfl) (fun c1 => ?_) (fun c1 => ?_)
  · skip
    have hk0 : isKey k = false := by simpa using c1
    refine ok_seq ?_
    refine ok_region ?_
    refine o_build0 (k := 12) hT rfl rfl rfl rfl rfl rfl rfl rfl ?_
    refine o_pure rfl rfl (pu_move (.inr rfl) (ev_tmp rfl)) rfl rfl ?_
    refine ops_nil ?_
    refine then_n ?_
    refine ok_weak (σ' := ⟨[(2, .one (.key 12))], [], [(12, some (kcOf false (bytesD (encK k))))]⟩) (weak_sub ⟨rfl, trivial⟩ trivial ⟨(by first | exact congrArg (fun l : List UInt8 => some (some (KC.mk false 5 1 l.length (l.flatMap eByte)))) (show ([] : List UInt8) = encK k from (encK_bad hk0).symm) | rfl), trivial⟩ rfl) ?_
    refine ok_ret ?_
    refine then_r ?_
    refine fin1 (res_tmp rfl) ?_
    exact ⟨rfl, rfl⟩
  · skip
    have hk : isKey k = true := by simpa using c1
    have hrg := key_rng hk
    refine ok_skip ?_
    refine then_n ?_
    refine ok_seq ?_
    refine ok_region ?_
    refine o_pure rfl rfl (pu_fieldBox hT rfl rfl rfl (ev_tmp rfl)) rfl rfl ?_
    refine o_pure rfl rfl (pu_loadBox1 hT rfl rfl (ev_tmp rfl) rfl rfl) rfl rfl ?_
    refine o_pure rfl rfl (pu_convI hT rfl rfl rfl (ev_tmp rfl)) rfl rfl ?_
    refine o_build1 (k := 12) (js := []) hT rfl rfl rfl rfl rfl rfl rfl rfl rfl (ev_tmp rfl) rfl rfl (ow_cons' (ow_dv rfl) ow_nil rfl) (by decide) (by decide) rfl rfl ?_
    simp only [killT, killB, SV.kill, CV.kill, List.map_cons, List.map_nil, List.any_cons, List.any_nil, List.contains_cons, List.contains_nil, List.nil_append, List.cons_append, Nat.reduceBEq, Bool.or_false, Bool.false_or, Bool.or_true, Bool.true_or, cond_true, cond_false]
    refine o_pure rfl rfl (pu_move (.inr rfl) (ev_tmp rfl)) rfl rfl ?_
    refine ops_nil ?_
    refine then_n ?_
    refine ok_seq ?_
    refine ok_seq ?_
    refine ok_region ?_
    refine o_pure rfl rfl (pu_move (.inr rfl) (ev_int (inR_lit rfl))) rfl rfl ?_
    refine ops_nil ?_
    refine then_n ?_
    refine ok_block ?_
    refine ok_loop (ι := Nat) (fun zz => ⟨[(1, .box 1 0), (2, .one .nil), (3, .one (.key 12)), (4, .one (.dv [] (.int .i64 (5 - (zz : Int)))))], [(1, 97, [(.dv [] (.int .i64 (k.1))), (.dv [] (.int .i64 (k.2.1))), (.dv [] (.str (k.2.2)))])], [(12, some (kcOf false (.sl 5 1 ((UInt8.ofNat k.1.toNat :: (be6 (keyN k)).take zz).length) ((UInt8.ofNat k.1.toNat :: (be6 (keyN k)).take zz).flatMap eByte))))]⟩) (fun zz => zz ≤ 6 ∧ (k.1 = 2 → zz = 0)) (fun zz => 6 - zz) (0) ?_ (weak_sub ⟨rfl, rfl, rfl, rfl, trivial⟩ ⟨rfl, trivial⟩ ⟨(congrArg (fun cs => some (some (KC.mk false 5 1 1 cs))) (byte_hd hk)), trivial⟩ rfl) (fun zz hx => ?_)
    · exact ⟨by omega, fun _ => rfl⟩
    obtain ⟨j, rfl⟩ : ∃ v, v = zz := ⟨_, rfl⟩
    replace hx : j ≤ 6 ∧ (k.1 = 2 → j = 0) := hx
    obtain ⟨hj, hj2⟩ := hx
    show Ok _ _ _ _ _ (⟨[(1, .box 1 0), (2, .one .nil), (3, .one (.key 12)), (4, .one (.dv [] (.int .i64 (5 - (j : Int)))))], [(1, 97, [(.dv [] (.int .i64 (k.1))), (.dv [] (.int .i64 (k.2.1))), (.dv [] (.str (k.2.2)))])], [(12, some (kcOf false (.sl 5 1 ((UInt8.ofNat k.1.toNat :: (be6 (keyN k)).take j).length) ((UInt8.ofNat k.1.toNat :: (be6 (keyN k)).take j).flatMap eByte))))]⟩ : St)
    refine ok_seq ?_
    refine ok_seq ?_
    refine ok_region ?_
    refine o_pure rfl rfl (pu_move (.inl rfl) (ev_tmp rfl)) rfl rfl ?_
    refine o_pure rfl rfl (pu_geq rfl (ev_tmp rfl) (ev_int (inR_lit rfl))) rfl rfl ?_
    refine o_pure rfl rfl (pu_move (.inl rfl) (ev_tmp rfl)) rfl rfl ?_
    refine o_pureG (gd_bool rfl rfl rfl rfl rfl) rfl (fun hg => pu_fieldBox hT rfl rfl rfl (ev_tmp rfl)) rfl rfl ?_
    refine o_pureG (gd_bool rfl rfl rfl rfl rfl) rfl (fun hg => pu_loadBox1 hT rfl rfl (ev_opt rfl hg) rfl rfl) rfl rfl ?_
    refine o_pureG (gd_bool rfl rfl rfl rfl rfl) rfl (fun hg => pu_neq rfl (ev_opt rfl hg) (ev_int (inR_lit rfl))) rfl rfl ?_
    refine o_pure rfl rfl (pu_and rfl (ev_tmp rfl) (fun hb => (ev_opt rfl (beq_t hb)))) rfl rfl ?_
    refine ops_nil ?_
    refine then_n ?_
    refine ok_cond (ev_tmp rfl) (fun c2 => ?_) (fun c2 => ?_)
    · skip
      have hj6 : j < 6 := by have := (Bool.and_eq_true _ _ ▸ c2 : _ ∧ _).1; have := of_decide_eq_true this; omega
      have hn2 : ¬ k.1 = 2 := by have := (Bool.and_eq_true _ _ ▸ c2 : _ ∧ _).2; simpa using this
      obtain ⟨q, hq, hqk⟩ := key_byteQ hk hj6
      refine ok_skip ?_
      refine then_n ?_
      refine ok_seq ?_
      refine ok_block ?_
      refine ok_region ?_
      refine o_pure rfl rfl (pu_move (.inl rfl) (ev_tmp rfl)) rfl rfl ?_
      refine o_pure rfl rfl (pu_fieldBox hT rfl rfl rfl (ev_tmp rfl)) rfl rfl ?_
      refine o_pure rfl rfl (pu_loadBox1 hT rfl rfl (ev_tmp rfl) rfl rfl) rfl rfl ?_
      refine o_pure rfl rfl (pu_addR rfl (ev_tmp rfl) (ev_int (inR_lit rfl)) (inR64 (by omega) (by omega))) rfl rfl ?_
      refine o_pure rfl rfl (pu_move (.inl rfl) (ev_tmp rfl)) rfl rfl ?_
      refine o_pure rfl rfl (pu_mulR rfl (ev_int (inR_lit rfl)) (ev_tmp rfl) (inR64 (by omega) (by omega))) rfl rfl ?_
      refine o_pure rfl rfl (pu_shrN rfl (ev_tmp rfl) (ev_tmp rfl) (by omega) (by omega) (by show _ ≤ 64; omega)) rfl rfl ?_
      refine o_pure rfl rfl (pu_andR rfl (ev_tmp rfl) (ev_int (inR_lit rfl)) (and255 (by omega) (by omega)) (inR64 (by omega) (by omega))) rfl rfl ?_
      refine o_pure rfl rfl (pu_convI hT rfl rfl rfl (ev_tmp rfl)) rfl rfl ?_
      refine o_build1 (k := 31) (js := []) hT rfl rfl rfl rfl rfl rfl rfl rfl rfl (ev_tmp rfl) rfl rfl (ow_cons' (ow_dv rfl) ow_nil rfl) (by decide) (by decide) rfl rfl ?_
      simp only [killT, killB, SV.kill, CV.kill, List.map_cons, List.map_nil, List.any_cons, List.any_nil, List.contains_cons, List.contains_nil, List.nil_append, List.cons_append, Nat.reduceBEq, Bool.or_false, Bool.false_or, Bool.or_true, Bool.true_or, cond_true, cond_false]
      refine o_appK (k := 12) (j := 31) (cs := (UInt8.ofNat k.1.toNat :: (be6 (keyN k)).take (j + 1)).flatMap eByte) (n := (UInt8.ofNat k.1.toNat :: (be6 (keyN k)).take (j + 1)).length) hT rfl rfl rfl rfl rfl rfl rfl (ev_tmp rfl) rfl rfl rfl (ev_tmp rfl) rfl rfl (by decide) (by dsimp only [kcOf]; simp only [List.length_cons, List.length_take]; omega) (by dsimp only [kcOf]; simp only [List.length_cons, List.length_take]; omega) (by rw [be6_succ hj6]; simp) (by rw [u8_and]; exact be_step hk hj6 rfl) ?_
      simp only [killT, killB, SV.kill, CV.kill, List.map_cons, List.map_nil, List.any_cons, List.any_nil, List.contains_cons, List.contains_nil, List.nil_append, List.cons_append, Nat.reduceBEq, Bool.or_false, Bool.false_or, Bool.or_true, Bool.true_or, cond_true, cond_false]
      refine o_pure rfl rfl (pu_move (.inr rfl) (ev_tmp rfl)) rfl rfl ?_
      refine ops_nil ?_
      refine blk_n ?_
      refine then_n ?_
      refine ok_region ?_
      refine o_pure rfl rfl (pu_move (.inl rfl) (ev_tmp rfl)) rfl rfl ?_
      refine o_pure rfl rfl (pu_subR rfl (ev_tmp rfl) (ev_int (inR_lit rfl)) (inR64 (by omega) (by omega))) rfl rfl ?_
      refine o_pure rfl rfl (pu_move (.inr rfl) (ev_tmp rfl)) rfl rfl ?_
      refine ops_nil ?_
      refine then_n ?_
      refine ⟨j + 1, ?_, ?_, weak_sub ⟨rfl, rfl, rfl, (eqSlotI (by omega)), trivial⟩ ⟨rfl, trivial⟩ ⟨rfl, trivial⟩ rfl⟩
      · exact ⟨by omega, fun h => absurd h hn2⟩
      · omega
    · skip
      refine ok_exit ?_
      refine then_e ?_
      refine then_e ?_
      refine blk_e rfl ?_
      refine then_n ?_
      refine ok_seq ?_
      refine ok_region ?_
      refine o_pure rfl rfl (pu_move (.inl rfl) (ev_tmp rfl)) rfl rfl ?_
      refine o_pure rfl rfl (pu_fieldBox hT rfl rfl rfl (ev_tmp rfl)) rfl rfl ?_
      refine o_pure rfl rfl (pu_loadBox1 hT rfl rfl (ev_tmp rfl) rfl rfl) rfl rfl ?_
      refine o_convSB (k := 36) hT rfl rfl rfl rfl rfl rfl rfl (ev_tmp rfl) rfl ?_
      refine o_appK (k := 12) (j := 36) (cs := (encK k).flatMap eByte) (n := (encK k).length) hT rfl rfl rfl rfl rfl rfl rfl (ev_tmp rfl) rfl rfl rfl (ev_tmp rfl) rfl rfl (by decide) (by dsimp only [kcOf, KC.old]; have := be6_len (keyN k); have h12 : k.2.2.data.toList.length ≤ 12 := hrg.2.2; simp only [List.length_cons, List.length_take]; omega) (by dsimp only [kcOf, KC.old]; have := be6_len (keyN k); have h12 : k.2.2.data.toList.length ≤ 12 := hrg.2.2; simp only [List.length_cons, List.length_take]; omega) (by rw [encK_end hk hj2 c2, List.length_append] <;> rfl) (by rw [encK_end hk hj2 c2, List.flatMap_append] <;> rfl) ?_
      simp only [killT, killB, SV.kill, CV.kill, List.map_cons, List.map_nil, List.any_cons, List.any_nil, List.contains_cons, List.contains_nil, List.nil_append, List.cons_append, Nat.reduceBEq, Bool.or_false, Bool.false_or, Bool.or_true, Bool.true_or, cond_true, cond_false]
      refine o_pure rfl rfl (pu_move (.inr rfl) (ev_tmp rfl)) rfl rfl ?_
      refine ops_nil ?_
      refine then_n ?_
      refine ok_weak (σ' := ⟨[(2, .one (.key 12))], [], [(12, some (kcOf false (bytesD (encK k))))]⟩) (weak_sub ⟨rfl, trivial⟩ trivial ⟨(by first | exact congrArg (fun l : List UInt8 => some (some (KC.mk false 5 1 l.length (l.flatMap eByte)))) (show ([] : List UInt8) = encK k from (encK_bad hk0).symm) | rfl), trivial⟩ rfl) ?_
      refine ok_ret ?_
      refine fin1 (res_tmp rfl) ?_
      exact ⟨rfl, rfl⟩
set_option maxRecDepth 100000 in
theorem ok_impl_EncodeRecord {r : RecT}  : KFn Try.prog 68 [.agg [(.dv [] (fieldsD (r)))]] (.one (.key 500)) [(500, some (kcOf false (bytesD (encR r))))] := by
  refine ⟨fn_intro Try.func68 rfl Try.ntmps68 Try.results68 rfl (fun C => ?_)⟩
  refine ok_factA (x := .tmp 0) 0 (ev_tmp rfl) rfl (fun (f0_0 : ((r)).length ≤ 9223372036854775807) => ?_)
  refine ok_seq ?_
  refine ok_region ?_
  refine o_box rfl rfl rfl (ev_tmp rfl) rfl rfl rfl rfl ?_
  refine o_pure rfl rfl (pu_move (.inr rfl) ev_nil) rfl rfl ?_
  refine ops_nil ?_
  refine then_n ?_
  refine ok_seq ?_
  refine ok_seq ?_
  refine ok_region ?_
  refine o_pure rfl rfl (pu_loadBoxA hT rfl rfl (ev_tmp rfl) rfl rfl) rfl rfl ?_
  refine o_call rfl rfl rfl Try.call127 (ok_impl_IsRecord (r := r) ) (as_cons (ev_tmp rfl) (ag_agg (ag_cons ac_dv ag_nil)) as_nil) rfl rfl ?_
  refine o_pure rfl rfl (pu_not rfl (ev_tmp rfl)) rfl rfl ?_
  refine ops_nil ?_
  refine then_n ?_
  refine ok_cond (ev_tmp rfl) (fun c1 => ?_) (fun c1 => ?_)
  · skip
    have hk0 : isRec r = false := by simpa using c1
    refine ok_seq ?_
    refine ok_region ?_
    refine o_build0 (k := 500) hT rfl rfl rfl rfl rfl rfl rfl rfl ?_
    refine o_pure rfl rfl (pu_move (.inr rfl) (ev_tmp rfl)) rfl rfl ?_
    refine ops_nil ?_
    refine then_n ?_
    refine ok_weak (σ' := ⟨[(2, .one (.key 500))], [], [(500, some (kcOf false (bytesD (encR r))))]⟩) (weak_sub ⟨rfl, trivial⟩ trivial ⟨(by first | exact congrArg (fun l : List UInt8 => some (some (KC.mk false 5 1 l.length (l.flatMap eByte)))) (show ([] : List UInt8) = encR r from (encR_bad hk0).symm) | exact congrArg (fun l : List UInt8 => some (some (KC.mk false 5 1 l.length (l.flatMap eByte)))) (encR_ok hk (by omega)).symm), trivial⟩ rfl) ?_
    refine ok_ret ?_
    refine then_r ?_
    refine fin1 (res_tmp rfl) ?_
    exact ⟨rfl, rfl⟩
  · skip
    have hk : isRec r = true := by simpa using c1
    have hrl := rec_len hk
    refine ok_skip ?_
    refine then_n ?_
    refine ok_seq ?_
    refine ok_region ?_
    refine o_pure rfl rfl (pu_fieldBox hT rfl rfl rfl (ev_tmp rfl)) rfl rfl ?_
    refine o_pure rfl rfl (pu_loadBox1 hT rfl rfl (ev_tmp rfl) rfl rfl) rfl rfl ?_
    refine o_pure rfl rfl (pu_lenV hT rfl rfl (ev_tmp rfl)) rfl rfl ?_
    refine o_callK 470 rfl rfl rfl Try.call66 (ok_impl_AppendUvarint (x := []) (n := (r.length : Int)) (by simp)) (as_cons ev_nil (ag_one (ac_nil' rfl rfl)) (as_cons (ev_tmp rfl) (ag_one ac_dv) as_nil)) rfl rfl rfl ?_
    refine o_pure rfl rfl (pu_move (.inr rfl) (ev_tmp rfl)) rfl rfl ?_
    refine ops_nil ?_
    refine then_n ?_
    refine ok_seq ?_
    refine ok_seq ?_
    refine ok_region ?_
    refine o_pure rfl rfl (pu_fieldBox hT rfl rfl rfl (ev_tmp rfl)) rfl rfl ?_
    refine o_pure rfl rfl (pu_loadBox1 hT rfl rfl (ev_tmp rfl) rfl rfl) rfl rfl ?_
    refine o_pure rfl rfl (pu_lenV hT rfl rfl (ev_tmp rfl)) rfl rfl ?_
    refine o_pure rfl rfl (pu_move (.inl rfl) (ev_int (inR_lit rfl))) rfl rfl ?_
    refine ops_nil ?_
    refine then_n ?_
    refine ok_block ?_
    refine ok_loop (ι := Nat) (fun zz => ⟨[(2, .one .nil), (3, .one (.key 500)), (15, .one (.dv [] (fieldsD (r)))), (16, .one (.dv [] (.int .i64 ((((r)).length : Int))))), (17, .one (.dv [] (.int .i64 ((zz : Int)))))], [], [(500, some (kcOf false (.sl 5 1 ((encRN r zz).length) ((encRN r zz).flatMap eByte))))]⟩) (fun zz => zz ≤ r.length) (fun zz => r.length - zz) (0) ?_ (weak_sub ⟨rfl, rfl, rfl, rfl, rfl, trivial⟩ trivial ⟨rfl, trivial⟩ rfl) (fun zz hx => ?_)
    · exact Nat.zero_le _
    obtain ⟨k, rfl⟩ : ∃ v, v = zz := ⟨_, rfl⟩
    replace hx : k ≤ r.length := hx
    show Ok _ _ _ _ _ (⟨[(2, .one .nil), (3, .one (.key 500)), (15, .one (.dv [] (fieldsD (r)))), (16, .one (.dv [] (.int .i64 ((((r)).length : Int))))), (17, .one (.dv [] (.int .i64 ((k : Int)))))], [], [(500, some (kcOf false (.sl 5 1 ((encRN r k).length) ((encRN r k).flatMap eByte))))]⟩ : St)
    refine ok_seq ?_
    refine ok_region ?_
    refine o_pure rfl rfl (pu_lss rfl (ev_tmp rfl) (ev_tmp rfl)) rfl rfl ?_
    refine ops_nil ?_
    refine then_n ?_
    refine ok_seq ?_
    refine ok_cond (ev_tmp rfl) (fun c2 => ?_) (fun c2 => ?_)
    · skip
      have d2 := of_decide_eq_true c2
      have hkl : k < r.length := by omega
      have hf := rec_fld hk hkl
      have hns := (name_size hf.1).2
      have hns2 : (r.getD (k : Int).toNat default).1.data.toList.length ≤ 8 := hns
      have hel := encRN_len hk k (by omega)
      have hel2 := appU_len (encRN r k) ((r.getD (k : Int).toNat default).1.data.toList.length : Int)
      refine ok_skip ?_
      refine then_n ?_
      refine ok_seq ?_
      refine ok_block ?_
      refine ok_seq ?_
      refine ok_region ?_
      refine o_pure rfl rfl (pu_indexD hT rfl rfl rfl (ev_tmp rfl) (ev_tmp rfl) (fun _ => rfl) (by first | omega | (simp only [Bool.and_eq_true, Bool.or_eq_true, Bool.or_eq_false_iff, Bool.and_eq_false_iff, Bool.not_eq_true', Bool.not_eq_false', beq_iff_eq, decide_eq_true_eq, decide_eq_false_iff_not] at hg; omega) | (have hh := of_decide_eq_true (beq_tt hg); omega) | (have hh := of_decide_eq_true (beq_tt (and_r hg)); omega)) (by first | omega | (simp only [Bool.and_eq_true, Bool.or_eq_true, Bool.or_eq_false_iff, Bool.and_eq_false_iff, Bool.not_eq_true', Bool.not_eq_false', beq_iff_eq, decide_eq_true_eq, decide_eq_false_iff_not] at hg; omega) | (have hh := of_decide_eq_true (beq_tt hg); omega) | (have hh := of_decide_eq_true (beq_tt (and_r hg)); omega))) rfl rfl ?_
      refine o_pure rfl rfl (pu_loadRefA hT rfl rfl (ev_tmp rfl) rfl) rfl rfl ?_
      refine o_alloc hT rfl rfl rfl rfl rfl rfl ?_
      refine o_store hT rfl rfl rfl rfl (ev_tmp rfl) (ev_tmp rfl) rfl rfl rfl rfl rfl rfl ?_
      refine ops_nil ?_
      refine then_n ?_
      refine ok_regionD (oB := [5]) (oK := [500]) (by kernel_rfl) rfl rfl ?_
      refine d_take 0 rfl (by kernel_rfl) rfl rfl (pu_move (.inl rfl) (ev_tmp rfl)) rfl rfl rfl rfl ?_
      refine d_take 1 rfl (by kernel_rfl) rfl rfl (pu_fieldBox hT rfl rfl rfl (ev_tmp rfl)) rfl rfl rfl rfl ?_
      refine d_take 2 rfl (by kernel_rfl) rfl rfl (pu_loadBox1 hT rfl rfl (ev_tmp rfl) rfl rfl) rfl rfl rfl rfl ?_
      refine d_take 5 rfl (by kernel_rfl) rfl rfl (pu_fieldBox hT rfl rfl rfl (ev_tmp rfl)) rfl rfl rfl rfl ?_
      refine d_take 6 rfl (by kernel_rfl) rfl rfl (pu_loadBox1 hT rfl rfl (ev_tmp rfl) rfl rfl) rfl rfl rfl rfl ?_
      refine d_convSB (k := 24) 3 hT rfl (by kernel_rfl) rfl rfl rfl rfl rfl rfl rfl (ev_tmp rfl) rfl rfl rfl ?_
      refine d_callK 25000 4 rfl (by kernel_rfl) rfl rfl rfl Try.call69 (ok_impl_AppendBytes (x := (encRN r k)) (y := (r.getD (k : Int).toNat default).1.data.toList) (by omega) (by omega)) (as_cons (ev_tmp rfl) (ag_one (ac_key' rfl rfl)) (as_cons (ev_tmp rfl) (ag_one (ac_key' rfl rfl)) as_nil)) rfl rfl rfl rfl rfl ?_
      refine d_callK 472 7 rfl (by kernel_rfl) rfl rfl rfl Try.call66 (ok_impl_AppendUvarint (x := appU (encRN r k) ((r.getD (k : Int).toNat default).1.data.toList.length : Int) ++ (r.getD (k : Int).toNat default).1.data.toList) (n := (r.getD (k : Int).toNat default).2) (by rw [List.length_append]; omega)) (as_cons (ev_tmp rfl) (ag_one (ac_key' rfl rfl)) (as_cons (ev_tmp rfl) (ag_one ac_dv) as_nil)) rfl rfl rfl rfl rfl ?_
      refine d_take 8 rfl (by kernel_rfl) rfl rfl (pu_move (.inr rfl) (ev_tmp rfl)) rfl rfl rfl rfl ?_
      refine d_done (by kernel_rfl) ?_
      refine blk_n ?_
      refine then_n ?_
      refine ok_weak (weak_swap (s := 3) (k := 502) (k' := 500) rfl rfl rfl (by decide) rfl) ?_
      simp only [killT, killB, SV.kill, CV.kill, List.map_cons, List.map_nil, List.any_cons, List.any_nil, List.contains_cons, List.contains_nil, List.nil_append, List.cons_append, Nat.reduceBEq, Bool.or_false, Bool.false_or, Bool.or_true, Bool.true_or, cond_true, cond_false]
      refine ok_region ?_
      refine o_pure rfl rfl (pu_addR rfl (ev_tmp rfl) (ev_int (inR_lit rfl)) (inR64 (by omega) (by omega))) rfl rfl ?_
      refine o_pure rfl rfl (pu_move (.inl rfl) (ev_tmp rfl)) rfl rfl ?_
      refine ops_nil ?_
      refine then_n ?_
      refine ⟨k + 1, ?_, ?_, weak_sub ⟨rfl, rfl, rfl, rfl, rfl, trivial⟩ trivial ⟨rfl, trivial⟩ rfl⟩
      · omega
      · omega
    · skip
      have d2 := of_decide_eq_false c2
      refine ok_exit ?_
      refine then_e ?_
      refine then_e ?_
      refine blk_e rfl ?_
      refine then_n ?_
      refine ok_seq ?_
      refine ok_region ?_
      refine o_pure rfl rfl (pu_move (.inl rfl) (ev_tmp rfl)) rfl rfl ?_
      refine o_pure rfl rfl (pu_move (.inr rfl) (ev_tmp rfl)) rfl rfl ?_
      refine ops_nil ?_
      refine then_n ?_
      refine ok_weak (σ' := ⟨[(2, .one (.key 500))], [], [(500, some (kcOf false (bytesD (encR r))))]⟩) (weak_sub ⟨rfl, trivial⟩ trivial ⟨(by first | exact congrArg (fun l : List UInt8 => some (some (KC.mk false 5 1 l.length (l.flatMap eByte)))) (show ([] : List UInt8) = encR r from (encR_bad hk0).symm) | exact congrArg (fun l : List UInt8 => some (some (KC.mk false 5 1 l.length (l.flatMap eByte)))) (encR_ok hk (by omega)).symm), trivial⟩ rfl) ?_
      refine ok_ret ?_
      refine fin1 (res_tmp rfl) ?_
      exact ⟨rfl, rfl⟩
set_option maxRecDepth 100000 in
theorem ok_spec_EncodeRecord {r : RecT}  : KFn Try.prog 63 [.agg [(.dv [] (fieldsD (r)))]] (.one (.key 500)) [(500, some (kcOf false (bytesD (encR r))))] := by
  refine ⟨fn_intro Try.func63 rfl Try.ntmps63 Try.results63 rfl (fun C => ?_)⟩
  refine ok_factA (x := .tmp 0) 0 (ev_tmp rfl) rfl (fun (f0_0 : ((r)).length ≤ 9223372036854775807) => ?_)
  refine ok_seq ?_
  refine ok_region ?_
  refine o_box rfl rfl rfl (ev_tmp rfl) rfl rfl rfl rfl ?_
  refine o_pure rfl rfl (pu_move (.inr rfl) ev_nil) rfl rfl ?_
  refine ops_nil ?_
  refine then_n ?_
  refine ok_seq ?_
  refine ok_seq ?_
  refine ok_region ?_
  refine o_pure rfl rfl (pu_loadBoxA hT rfl rfl (ev_tmp rfl) rfl rfl) rfl rfl ?_
  refine o_call rfl rfl rfl Try.call121 (ok_spec_IsRecord (r := r) ) (as_cons (ev_tmp rfl) (ag_agg (ag_cons ac_dv ag_nil)) as_nil) rfl rfl ?_
  refine o_pure rfl rfl (pu_not rfl (ev_tmp rfl)) rfl rfl ?_
  refine ops_nil ?_
  refine then_n ?_
  refine ok_cond (ev_tmp rfl) (fun c1 => ?_) (fun c1 => ?_)
  · skip
    have hk0 : isRec r = false := by simpa using c1
    refine ok_seq ?_
    refine ok_region ?_
    refine o_build0 (k := 500) hT rfl rfl rfl rfl rfl rfl rfl rfl ?_
    refine o_pure rfl rfl (pu_move (.inr rfl) (ev_tmp rfl)) rfl rfl ?_
    refine ops_nil ?_
    refine then_n ?_
    refine ok_weak (σ' := ⟨[(2, .one (.key 500))], [], [(500, some (kcOf false (bytesD (encR r))))]⟩) (weak_sub ⟨rfl, trivial⟩ trivial ⟨(by first | exact congrArg (fun l : List UInt8 => some (some (KC.mk false 5 1 l.length (l.flatMap eByte)))) (show ([] : List UInt8) = encR r from (encR_bad hk0).symm) | exact congrArg (fun l : List UInt8 => some (some (KC.mk false 5 1 l.length (l.flatMap eByte)))) (encR_ok hk (by omega)).symm), trivial⟩ rfl) ?_
    refine ok_ret ?_
    refine then_r ?_
    refine fin1 (res_tmp rfl) ?_
    exact ⟨rfl, rfl⟩
  · skip
    have hk : isRec r = true := by simpa using c1
    have hrl := rec_len hk
    refine ok_skip ?_
    refine then_n ?_
    refine ok_seq ?_
    refine ok_region ?_
    refine o_build0 (k := 9) hT rfl rfl rfl rfl rfl rfl rfl rfl ?_
    refine o_pure rfl rfl (pu_fieldBox hT rfl rfl rfl (ev_tmp rfl)) rfl rfl ?_
    refine o_pure rfl rfl (pu_loadBox1 hT rfl rfl (ev_tmp rfl) rfl rfl) rfl rfl ?_
    refine o_pure rfl rfl (pu_lenV hT rfl rfl (ev_tmp rfl)) rfl rfl ?_
    refine o_callK 494 rfl rfl rfl Try.call59 (ok_spec_AppendUvarint (x := []) (n := (r.length : Int)) (by simp)) (as_cons (ev_tmp rfl) (ag_one (ac_key' rfl rfl)) (as_cons (ev_tmp rfl) (ag_one ac_dv) as_nil)) rfl rfl rfl ?_
    refine o_pure rfl rfl (pu_move (.inr rfl) (ev_tmp rfl)) rfl rfl ?_
    refine ops_nil ?_
    refine then_n ?_
    refine ok_seq ?_
    refine ok_seq ?_
    refine ok_region ?_
    refine o_pure rfl rfl (pu_move (.inr rfl) (ev_int (inR_lit rfl))) rfl rfl ?_
    refine ops_nil ?_
    refine then_n ?_
    refine ok_block ?_
    refine ok_loop (ι := Nat) (fun zz => ⟨[(1, .box 1 0), (2, .one .nil), (3, .one (.key 500)), (4, .one (.dv [] (.int .i64 ((zz : Int)))))], [(1, 100, [(.dv [] (fieldsD (r)))])], [(500, some (kcOf false (.sl 5 1 ((encRN r zz).length) ((encRN r zz).flatMap eByte))))]⟩) (fun zz => zz ≤ r.length) (fun zz => r.length - zz) (0) ?_ (weak_sub ⟨rfl, rfl, rfl, rfl, trivial⟩ ⟨rfl, trivial⟩ ⟨rfl, trivial⟩ rfl) (fun zz hx => ?_)
    · exact Nat.zero_le _
    obtain ⟨k, rfl⟩ : ∃ v, v = zz := ⟨_, rfl⟩
    replace hx : k ≤ r.length := hx
    show Ok _ _ _ _ _ (⟨[(1, .box 1 0), (2, .one .nil), (3, .one (.key 500)), (4, .one (.dv [] (.int .i64 ((k : Int)))))], [(1, 100, [(.dv [] (fieldsD (r)))])], [(500, some (kcOf false (.sl 5 1 ((encRN r k).length) ((encRN r k).flatMap eByte))))]⟩ : St)
    refine ok_seq ?_
    refine ok_seq ?_
    refine ok_region ?_
    refine o_pure rfl rfl (pu_move (.inl rfl) (ev_tmp rfl)) rfl rfl ?_
    refine o_pure rfl rfl (pu_fieldBox hT rfl rfl rfl (ev_tmp rfl)) rfl rfl ?_
    refine o_pure rfl rfl (pu_loadBox1 hT rfl rfl (ev_tmp rfl) rfl rfl) rfl rfl ?_
    refine o_pure rfl rfl (pu_lenV hT rfl rfl (ev_tmp rfl)) rfl rfl ?_
    refine o_pure rfl rfl (pu_lss rfl (ev_tmp rfl) (ev_tmp rfl)) rfl rfl ?_
    refine ops_nil ?_
    refine then_n ?_
    refine ok_cond (ev_tmp rfl) (fun c2 => ?_) (fun c2 => ?_)
    · skip
      have d2 := of_decide_eq_true c2
      have hkl : k < r.length := by omega
      have hf := rec_fld hk hkl
      have hns := (name_size hf.1).2
      have hns2 : (r.getD (k : Int).toNat default).1.data.toList.length ≤ 8 := hns
      have hel := encRN_len hk k (by omega)
      have hel2 := appU_len (encRN r k) ((r.getD (k : Int).toNat default).1.data.toList.length : Int)
      refine ok_skip ?_
      refine then_n ?_
      refine ok_seq ?_
      refine ok_block ?_
      refine ok_regionD (oB := [1]) (oK := [500]) (by kernel_rfl) rfl rfl ?_
      refine d_take 0 rfl (by kernel_rfl) rfl rfl (pu_move (.inl rfl) (ev_tmp rfl)) rfl rfl rfl rfl ?_
      refine d_take 1 rfl (by kernel_rfl) rfl rfl (pu_fieldBox hT rfl rfl rfl (ev_tmp rfl)) rfl rfl rfl rfl ?_
      refine d_take 2 rfl (by kernel_rfl) rfl rfl (pu_loadBox1 hT rfl rfl (ev_tmp rfl) rfl rfl) rfl rfl rfl rfl ?_
      refine d_take 3 rfl (by kernel_rfl) rfl rfl (pu_move (.inl rfl) (ev_tmp rfl)) rfl rfl rfl rfl ?_
      refine d_take 4 rfl (by kernel_rfl) rfl rfl (pu_indexD hT rfl rfl rfl (ev_tmp rfl) (ev_tmp rfl) (fun _ => rfl) (by first | omega | (simp only [Bool.and_eq_true, Bool.or_eq_true, Bool.or_eq_false_iff, Bool.and_eq_false_iff, Bool.not_eq_true', Bool.not_eq_false', beq_iff_eq, decide_eq_true_eq, decide_eq_false_iff_not] at hg; omega) | (have hh := of_decide_eq_true (beq_tt hg); omega) | (have hh := of_decide_eq_true (beq_tt (and_r hg)); omega)) (by first | omega | (simp only [Bool.and_eq_true, Bool.or_eq_true, Bool.or_eq_false_iff, Bool.and_eq_false_iff, Bool.not_eq_true', Bool.not_eq_false', beq_iff_eq, decide_eq_true_eq, decide_eq_false_iff_not] at hg; omega) | (have hh := of_decide_eq_true (beq_tt hg); omega) | (have hh := of_decide_eq_true (beq_tt (and_r hg)); omega))) rfl rfl rfl rfl ?_
      refine d_take 5 rfl (by kernel_rfl) rfl rfl (pu_fieldRef hT rfl rfl rfl (ev_tmp rfl)) rfl rfl rfl rfl ?_
      refine d_take 6 rfl (by kernel_rfl) rfl rfl (pu_loadRef1 hT rfl rfl (ev_tmp rfl) rfl) rfl rfl rfl rfl ?_
      refine d_take 9 rfl (by kernel_rfl) rfl rfl (pu_fieldBox hT rfl rfl rfl (ev_tmp rfl)) rfl rfl rfl rfl ?_
      refine d_take 10 rfl (by kernel_rfl) rfl rfl (pu_loadBox1 hT rfl rfl (ev_tmp rfl) rfl rfl) rfl rfl rfl rfl ?_
      refine d_take 11 rfl (by kernel_rfl) rfl rfl (pu_move (.inl rfl) (ev_tmp rfl)) rfl rfl rfl rfl ?_
      refine d_take 12 rfl (by kernel_rfl) rfl rfl (pu_indexD hT rfl rfl rfl (ev_tmp rfl) (ev_tmp rfl) (fun _ => rfl) (by first | omega | (simp only [Bool.and_eq_true, Bool.or_eq_true, Bool.or_eq_false_iff, Bool.and_eq_false_iff, Bool.not_eq_true', Bool.not_eq_false', beq_iff_eq, decide_eq_true_eq, decide_eq_false_iff_not] at hg; omega) | (have hh := of_decide_eq_true (beq_tt hg); omega) | (have hh := of_decide_eq_true (beq_tt (and_r hg)); omega)) (by first | omega | (simp only [Bool.and_eq_true, Bool.or_eq_true, Bool.or_eq_false_iff, Bool.and_eq_false_iff, Bool.not_eq_true', Bool.not_eq_false', beq_iff_eq, decide_eq_true_eq, decide_eq_false_iff_not] at hg; omega) | (have hh := of_decide_eq_true (beq_tt hg); omega) | (have hh := of_decide_eq_true (beq_tt (and_r hg)); omega))) rfl rfl rfl rfl ?_
      refine d_take 13 rfl (by kernel_rfl) rfl rfl (pu_fieldRef hT rfl rfl rfl (ev_tmp rfl)) rfl rfl rfl rfl ?_
      refine d_take 14 rfl (by kernel_rfl) rfl rfl (pu_loadRef1 hT rfl rfl (ev_tmp rfl) rfl) rfl rfl rfl rfl ?_
      refine d_convSB (k := 28) 7 hT rfl (by kernel_rfl) rfl rfl rfl rfl rfl rfl rfl (ev_tmp rfl) rfl rfl rfl ?_
      refine d_callK 29000 8 rfl (by kernel_rfl) rfl rfl rfl Try.call61 (ok_spec_AppendBytes (x := (encRN r k)) (y := (r.getD (k : Int).toNat default).1.data.toList) (by omega) (by omega)) (as_cons (ev_tmp rfl) (ag_one (ac_key' rfl rfl)) (as_cons (ev_tmp rfl) (ag_one (ac_key' rfl rfl)) as_nil)) rfl rfl rfl rfl rfl ?_
      refine d_callK 496 15 rfl (by kernel_rfl) rfl rfl rfl Try.call59 (ok_spec_AppendUvarint (x := appU (encRN r k) ((r.getD (k : Int).toNat default).1.data.toList.length : Int) ++ (r.getD (k : Int).toNat default).1.data.toList) (n := (r.getD (k : Int).toNat default).2) (by rw [List.length_append]; omega)) (as_cons (ev_tmp rfl) (ag_one (ac_key' rfl rfl)) (as_cons (ev_tmp rfl) (ag_one ac_dv) as_nil)) rfl rfl rfl rfl rfl ?_
      refine d_take 16 rfl (by kernel_rfl) rfl rfl (pu_move (.inr rfl) (ev_tmp rfl)) rfl rfl rfl rfl ?_
      refine d_done (by kernel_rfl) ?_
      refine blk_n ?_
      refine then_n ?_
      refine ok_weak (weak_swap (s := 3) (k := 502) (k' := 500) rfl rfl rfl (by decide) rfl) ?_
      simp only [killT, killB, SV.kill, CV.kill, List.map_cons, List.map_nil, List.any_cons, List.any_nil, List.contains_cons, List.contains_nil, List.nil_append, List.cons_append, Nat.reduceBEq, Bool.or_false, Bool.false_or, Bool.or_true, Bool.true_or, cond_true, cond_false]
      refine ok_region ?_
      refine o_pure rfl rfl (pu_move (.inl rfl) (ev_tmp rfl)) rfl rfl ?_
      refine o_pure rfl rfl (pu_addR rfl (ev_tmp rfl) (ev_int (inR_lit rfl)) (inR64 (by omega) (by omega))) rfl rfl ?_
      refine o_pure rfl rfl (pu_move (.inr rfl) (ev_tmp rfl)) rfl rfl ?_
      refine ops_nil ?_
      refine then_n ?_
      refine ⟨k + 1, ?_, ?_, weak_sub ⟨rfl, rfl, rfl, rfl, trivial⟩ ⟨rfl, trivial⟩ ⟨rfl, trivial⟩ rfl⟩
      · omega
      · omega
    · skip
      have d2 := of_decide_eq_false c2
      refine ok_exit ?_
      refine then_e ?_
      refine then_e ?_
      refine blk_e rfl ?_
      refine then_n ?_
      refine ok_seq ?_
      refine ok_region ?_
      refine o_pure rfl rfl (pu_move (.inl rfl) (ev_tmp rfl)) rfl rfl ?_
      refine o_pure rfl rfl (pu_move (.inr rfl) (ev_tmp rfl)) rfl rfl ?_
      refine ops_nil ?_
      refine then_n ?_
      refine ok_weak (σ' := ⟨[(2, .one (.key 500))], [], [(500, some (kcOf false (bytesD (encR r))))]⟩) (weak_sub ⟨rfl, trivial⟩ trivial ⟨(by first | exact congrArg (fun l : List UInt8 => some (some (KC.mk false 5 1 l.length (l.flatMap eByte)))) (show ([] : List UInt8) = encR r from (encR_bad hk0).symm) | exact congrArg (fun l : List UInt8 => some (some (KC.mk false 5 1 l.length (l.flatMap eByte)))) (encR_ok hk (by omega)).symm), trivial⟩ rfl) ?_
      refine ok_ret ?_
      refine fin1 (res_tmp rfl) ?_
      exact ⟨rfl, rfl⟩
end Go.Proofs.Ytlogahkchenpdaa

namespace Go.Proofs.Ytlogahkchenpdaa
open Go.RowKit
open Go.Proofs
set_option linter.unusedVariables false
set_option linter.unusedSimpArgs false
def mkOp (x : OpT) (k : Int) : OpT := (k, mText ((k) + (1)), (((k) + (1)) + (1), (((k) + (1)) + (1)) + (1), mText (((((k) + (1)) + (1)) + (1)) + (1))), mkL mkField cField (x.2.2.2.1) ((((((k) + (1)) + (1)) + (1)) + (1)) + (1)), mText (((((((k) + (1)) + (1)) + (1)) + (1)) + (1)) + (wSum cField (x.2.2.2.1) : Int)))
def cOp (x : OpT) : Nat := 6 + wSum cField (x.2.2.2.1)
theorem cOp_le (x : OpT) : cOp x ≤ 8 * (1 + wOp x) := by
  have h5 := wSum_bound cField_le (x.2.2.2.1)
  simp only [cOp, wOp, wKey, wRecord]
  omega
theorem u8_mk (z : Int) (h : 0 ≤ z) : IntKind.u8.wrap z = ((UInt8.ofNat (z % 256).toNat).toNat : Int) := by
  simp [IntKind.wrap, IntKind.signed, IntKind.bits]
  omega
set_option maxRecDepth 100000 in
theorem ok_laws_markByteS {x : List (UInt8)} {k : Int} (h0 : 0 ≤ k) (h1 : k + (wSum cByte x : Int) ≤ 4611686018427387904) : WFn Try.prog 28 [.one (.key 0), .one (.dv [] (.int .i64 (k)))] (.one (.dv [] (.int .i64 (k + (wSum cByte x : Int))))) [(0, kcOf true (.sl 5 1 (x.length) (x.flatMap eByte)))] [(0, kcOf true (bytesD (mkL mkByte cByte x k)))] := by
  refine ⟨fn_intro Try.func28 rfl Try.ntmps28 Try.results28 rfl (fun C => ?_)⟩
  have hln : x.length ≤ wSum cByte x := wSum_ge (fun _ => by simp only [cByte]; omega) x
  refine ok_fact (x := .tmp 1) (ev_tmp rfl) (fun (f1 : -9223372036854775808 ≤ (k) ∧ (k) ≤ 9223372036854775807) => ?_)
  refine ok_seq ?_
  refine ok_region ?_
  refine o_pure rfl rfl (pu_move (.inr rfl) (ev_int (inR_lit rfl))) rfl rfl ?_
  refine ops_nil ?_
  refine then_n ?_
  refine ok_seq ?_
  refine ok_seq ?_
  refine ok_region ?_
  refine o_pure rfl rfl (pu_move (.inr rfl) (ev_int (inR_lit rfl))) rfl rfl ?_
  refine ops_nil ?_
  refine then_n ?_
  refine ok_block ?_
  refine ok_loop (ι := Nat) (fun zz => ⟨[(0, .one (.key 0)), (1, .one (.dv [] (.int .i64 (k + (wSum cByte (x.take zz) : Int))))), (4, .one (.dv [] (.int .i64 (0)))), (5, .one (.dv [] (.int .i64 ((zz : Int)))))], [], [(0, some ⟨true, 5, 1, x.length, (mkL mkByte cByte (x.take zz) k).flatMap eByte ++ (x.drop zz).flatMap eByte⟩)]⟩) (fun zz => zz ≤ x.length) (fun zz => x.length - zz) (0) ?_ (weak_sub ⟨rfl, (eqSlotI (by simp [wSum])), rfl, rfl, trivial⟩ trivial ⟨rfl, trivial⟩ rfl) (fun zz hx => ?_)
  · exact Nat.zero_le _
  obtain ⟨j, rfl⟩ : ∃ v, v = zz := ⟨_, rfl⟩
  replace hx : j ≤ x.length := hx
  have hw := fun h => wSum_succ cByte x j h
  show Ok _ _ _ _ _ (⟨[(0, .one (.key 0)), (1, .one (.dv [] (.int .i64 (k + (wSum cByte (x.take j) : Int))))), (4, .one (.dv [] (.int .i64 (0)))), (5, .one (.dv [] (.int .i64 ((j : Int)))))], [], [(0, some ⟨true, 5, 1, x.length, (mkL mkByte cByte (x.take j) k).flatMap eByte ++ (x.drop j).flatMap eByte⟩)]⟩ : St)
  refine ok_seq ?_
  refine ok_seq ?_
  refine ok_region ?_
  refine o_pure rfl rfl (pu_move (.inl rfl) (ev_tmp rfl)) rfl rfl ?_
  refine o_pure rfl rfl (pu_move (.inl rfl) (ev_tmp rfl)) rfl rfl ?_
  refine o_pure rfl rfl (pu_lenKn (n := (x.length)) hT rfl rfl (ev_tmp rfl) rfl rfl) rfl rfl ?_
  refine o_pure rfl rfl (pu_lss rfl (ev_tmp rfl) (ev_tmp rfl)) rfl rfl ?_
  refine ops_nil ?_
  refine then_n ?_
  refine ok_cond (ev_tmp rfl) (fun c1 => ?_) (fun c1 => ?_)
  · skip
    have d1 := of_decide_eq_true c1
    have hj : j < x.length := by omega
    obtain ⟨hw1, hw2⟩ := hw hj
    have hc : cByte (x.getD (j : Int).toNat default) = 1 := rfl
    refine ok_kcs (k := 0) (cs' := mid ((mkL mkByte cByte (x.take j) k).flatMap eByte) [.int .u8 ((((x.getD (j : Int).toNat default)).toNat : Int))] ((x.drop (j + 1)).flatMap eByte)) rfl (mk_open hj) ?_
    refine ok_skip ?_
    refine then_n ?_
    refine ok_seq ?_
    refine ok_block ?_
    refine ok_seq ?_
    refine ok_region ?_
    refine o_pure rfl rfl (pu_move (.inl rfl) (ev_tmp rfl)) rfl rfl ?_
    refine o_pure rfl rfl (pu_move (.inl rfl) (ev_tmp rfl)) rfl rfl ?_
    refine o_pure rfl rfl (pu_move (.inl rfl) (ev_tmp rfl)) rfl rfl ?_
    refine o_pure rfl rfl (pu_convI hT rfl rfl rfl (ev_tmp rfl)) rfl rfl ?_
    refine o_pure rfl rfl (pu_indexK (i := j) hT rfl rfl rfl (ev_tmp rfl) rfl (ev_tmp rfl) rfl (by show _ < (x.length); omega)) rfl rfl ?_
    refine o_storeE (js := []) (cs := mid ((mkL mkByte cByte (x.take j) k).flatMap eByte) [.int .u8 (IntKind.u8.wrap (k + (wSum cByte (x.take j) : Int)))] ((x.drop (j + 1)).flatMap eByte)) hT rfl rfl rfl rfl (ev_tmp rfl) (ev_tmp rfl) rfl rfl rfl rfl (ow_cons' (ow_dv rfl) ow_nil rfl) (by decide) (by decide) rfl (le_mid (off := j * 1) (n := 1) (j := 0) (mk_pre (sz := 1) (fun _ => rfl) (Nat.le_of_lt hj)) (by omega) (Nat.le_of_ble_eq_true rfl)) (setR_mid (off := j * 1) (j := 0) (mk_pre (sz := 1) (fun _ => rfl) (Nat.le_of_lt hj)) (by omega) rfl (Nat.le_of_ble_eq_true rfl)) ?_
    simp only [killT, killB, SV.kill, CV.kill, List.map_cons, List.map_nil, List.any_cons, List.any_nil, List.contains_cons, List.contains_nil, List.nil_append, List.cons_append, Nat.reduceBEq, Bool.or_false, Bool.false_or, Bool.or_true, Bool.true_or, cond_true, cond_false]
    refine ops_nil ?_
    refine then_n ?_
    refine ok_region ?_
    refine o_pure rfl rfl (pu_move (.inl rfl) (ev_tmp rfl)) rfl rfl ?_
    refine o_pure rfl rfl (pu_addR rfl (ev_tmp rfl) (ev_int (inR_lit rfl)) (inR64 (by omega) (by omega))) rfl rfl ?_
    refine o_pure rfl rfl (pu_move (.inr rfl) (ev_tmp rfl)) rfl rfl ?_
    refine ops_nil ?_
    refine blk_n ?_
    refine then_n ?_
    refine ok_region ?_
    refine o_pure rfl rfl (pu_move (.inl rfl) (ev_tmp rfl)) rfl rfl ?_
    refine o_pure rfl rfl (pu_addR rfl (ev_tmp rfl) (ev_int (inR_lit rfl)) (inR64 (by omega) (by omega))) rfl rfl ?_
    refine o_pure rfl rfl (pu_move (.inr rfl) (ev_tmp rfl)) rfl rfl ?_
    refine ops_nil ?_
    refine then_n ?_
    refine ⟨j + 1, ?_, ?_, weak_sub ⟨rfl, (eqSlotI (by omega)), rfl, rfl, trivial⟩ trivial ⟨(congrArg (fun cs => some (some (KC.mk true 5 1 x.length cs))) (mk_close (by omega) (congrArg (fun z => [DV.int .u8 z]) (u8_mk _ (by omega))))), trivial⟩ rfl⟩
    · omega
    · omega
  · skip
    have d1 := of_decide_eq_false c1
    refine ok_exit ?_
    refine then_e ?_
    refine then_e ?_
    refine blk_e rfl ?_
    refine then_n ?_
    refine ok_seq ?_
    refine ok_region ?_
    refine o_pure rfl rfl (pu_move (.inl rfl) (ev_tmp rfl)) rfl rfl ?_
    refine o_pure rfl rfl (pu_move (.inr rfl) (ev_tmp rfl)) rfl rfl ?_
    refine ops_nil ?_
    refine then_n ?_
    refine ok_weak (σ' := ⟨[(4, .one (.dv [] (.int .i64 (k + (wSum cByte (x.take j) : Int)))))], [], [(0, some (kcOf true (bytesD (mkL mkByte cByte x k))))]⟩) (weak_sub ⟨rfl, trivial⟩ trivial ⟨(mk_fin (by omega)), trivial⟩ rfl) ?_
    refine ok_ret ?_
    refine fin1 (res_tmp rfl) ⟨eqI ?_, w1_ok rfl⟩
    have hq := wSum_all cByte x j (by omega); omega
set_option maxRecDepth 100000 in
theorem ok_laws_heldByteS {x y : List (UInt8)} {k : Int} (hy : y = mkL mkByte cByte x k) (h0 : 0 ≤ k) (h1 : k + (wSum cByte x : Int) ≤ 4611686018427387904) : PFn Try.prog 29 [.one (.dv [] (bytesD (y))), .one (.dv [] (.int .i64 (k)))] (.one (.dv [] (.int .i64 (k + (wSum cByte x : Int))))) := by
  refine ⟨fn_intro Try.func29 rfl Try.ntmps29 Try.results29 rfl (fun C => ?_)⟩
  refine ok_fact (x := .tmp 0) (ev_tmp rfl) (fun (f0 : ((y)).length ≤ 9223372036854775807) => ?_)
  refine ok_fact (x := .tmp 1) (ev_tmp rfl) (fun (f1 : -9223372036854775808 ≤ (k) ∧ (k) ≤ 9223372036854775807) => ?_)
  refine ok_seq ?_
  refine ok_region ?_
  refine o_pure rfl rfl (pu_move (.inr rfl) (ev_int (inR_lit rfl))) rfl rfl ?_
  refine ops_nil ?_
  refine then_n ?_
  refine ok_seq ?_
  refine ok_seq ?_
  refine ok_region ?_
  refine o_pure rfl rfl (pu_move (.inr rfl) (ev_int (inR_lit rfl))) rfl rfl ?_
  refine ops_nil ?_
  refine then_n ?_
  refine ok_block ?_
  refine ok_loop (ι := Nat) (fun zz => ⟨[(0, .one (.dv [] (bytesD (y)))), (1, .one (.dv [] (.int .i64 (k + (wSum cByte (x.take zz) : Int))))), (5, .one (.dv [] (.int .i64 ((zz : Int)))))], [], []⟩) (fun zz => zz ≤ x.length) (fun zz => x.length - zz) (0) ?_ (weak_sub ⟨rfl, (eqSlotI (by simp [wSum])), rfl, trivial⟩ trivial trivial rfl) (fun zz hx => ?_)
  · exact Nat.zero_le _
  obtain ⟨j, rfl⟩ : ∃ v, v = zz := ⟨_, rfl⟩
  replace hx : j ≤ x.length := hx
  have hw := fun h => wSum_succ cByte x j h
  have hyl : y.length = x.length := by rw [hy, mkL_len]
  show Ok _ _ _ _ _ (⟨[(0, .one (.dv [] (bytesD (y)))), (1, .one (.dv [] (.int .i64 (k + (wSum cByte (x.take j) : Int))))), (5, .one (.dv [] (.int .i64 ((j : Int)))))], [], []⟩ : St)
  refine ok_seq ?_
  refine ok_seq ?_
  refine ok_region ?_
  refine o_pure rfl rfl (pu_move (.inl rfl) (ev_tmp rfl)) rfl rfl ?_
  refine o_pure rfl rfl (pu_move (.inl rfl) (ev_tmp rfl)) rfl rfl ?_
  refine o_pure rfl rfl (pu_lenV hT rfl rfl (ev_tmp rfl)) rfl rfl ?_
  refine o_pure rfl rfl (pu_lss rfl (ev_tmp rfl) (ev_tmp rfl)) rfl rfl ?_
  refine ops_nil ?_
  refine then_n ?_
  refine ok_cond (ev_tmp rfl) (fun c1 => ?_) (fun c1 => ?_)
  · skip
    have d1 := of_decide_eq_true c1
    have hj : j < x.length := by omega
    obtain ⟨hw1, hw2⟩ := hw hj
    have hc : cByte (x.getD (j : Int).toNat default) = 1 := rfl
    have he : y.getD (j : Int).toNat default = mkByte (x.getD (j : Int).toNat default) (k + (wSum cByte (x.take j) : Int)) := by rw [hy]; exact mkL_getD hj
    refine ok_skip ?_
    refine then_n ?_
    refine ok_seq ?_
    refine ok_block ?_
    refine ok_seq ?_
    refine ok_seq ?_
    refine ok_region ?_
    refine o_pure rfl rfl (pu_move (.inl rfl) (ev_tmp rfl)) rfl rfl ?_
    refine o_pure rfl rfl (pu_move (.inl rfl) (ev_tmp rfl)) rfl rfl ?_
    refine o_pure rfl rfl (pu_indexD hT rfl rfl rfl (ev_tmp rfl) (ev_tmp rfl) (fun _ => rfl) (by first | omega | (simp only [Bool.and_eq_true, Bool.or_eq_true, Bool.or_eq_false_iff, Bool.and_eq_false_iff, Bool.not_eq_true', Bool.not_eq_false', beq_iff_eq, decide_eq_true_eq, decide_eq_false_iff_not] at hg; omega) | (have hh := of_decide_eq_true (beq_tt hg); omega) | (have hh := of_decide_eq_true (beq_tt (and_r hg)); omega)) (by first | omega | (simp only [Bool.and_eq_true, Bool.or_eq_true, Bool.or_eq_false_iff, Bool.and_eq_false_iff, Bool.not_eq_true', Bool.not_eq_false', beq_iff_eq, decide_eq_true_eq, decide_eq_false_iff_not] at hg; omega) | (have hh := of_decide_eq_true (beq_tt hg); omega) | (have hh := of_decide_eq_true (beq_tt (and_r hg)); omega))) rfl rfl ?_
    refine o_pure rfl rfl (pu_loadRef1 hT rfl rfl (ev_tmp rfl) rfl) rfl rfl ?_
    refine o_pure rfl rfl (pu_move (.inl rfl) (ev_tmp rfl)) rfl rfl ?_
    refine o_pure rfl rfl (pu_convI hT rfl rfl rfl (ev_tmp rfl)) rfl rfl ?_
    refine o_pure rfl rfl (pu_neq rfl (ev_tmp rfl) (ev_tmp rfl)) rfl rfl ?_
    refine ops_nil ?_
    refine then_n ?_
    refine ok_cond (ev_tmp rfl) (fun c2 => ?_) (fun c2 => ?_)
    · skip
      have d2 := nd_t c2
      refine ok_seq ?_
      refine ok_region ?_
      refine o_pure rfl rfl (pu_move (.inr rfl) (ev_int (inR_lit rfl))) rfl rfl ?_
      refine ops_nil ?_
      refine then_n ?_
      refine ok_ret ?_
      refine then_r ?_
      refine blk_r ?_
      refine then_r ?_
      refine then_r ?_
      refine blk_r ?_
      refine then_r ?_
      refine fin1 (res_tmp rfl) (eqI ?_)
      exfalso; rw [he] at d2; exact d2 (u8_mk _ (by omega)).symm
    · skip
      have d2 := nd_f c2
      refine ok_skip ?_
      refine then_n ?_
      refine ok_region ?_
      refine o_pure rfl rfl (pu_move (.inl rfl) (ev_tmp rfl)) rfl rfl ?_
      refine o_pure rfl rfl (pu_addR rfl (ev_tmp rfl) (ev_int (inR_lit rfl)) (inR64 (by omega) (by omega))) rfl rfl ?_
      refine o_pure rfl rfl (pu_move (.inr rfl) (ev_tmp rfl)) rfl rfl ?_
      refine ops_nil ?_
      refine blk_n ?_
      refine then_n ?_
      refine ok_region ?_
      refine o_pure rfl rfl (pu_move (.inl rfl) (ev_tmp rfl)) rfl rfl ?_
      refine o_pure rfl rfl (pu_addR rfl (ev_tmp rfl) (ev_int (inR_lit rfl)) (inR64 (by omega) (by omega))) rfl rfl ?_
      refine o_pure rfl rfl (pu_move (.inr rfl) (ev_tmp rfl)) rfl rfl ?_
      refine ops_nil ?_
      refine then_n ?_
      refine ⟨j + 1, ?_, ?_, weak_sub ⟨rfl, (eqSlotI (by omega)), rfl, trivial⟩ trivial trivial rfl⟩
      · omega
      · omega
  · skip
    have d1 := of_decide_eq_false c1
    refine ok_exit ?_
    refine then_e ?_
    refine then_e ?_
    refine blk_e rfl ?_
    refine then_n ?_
    refine ok_seq ?_
    refine ok_region ?_
    refine o_pure rfl rfl (pu_move (.inl rfl) (ev_tmp rfl)) rfl rfl ?_
    refine o_pure rfl rfl (pu_move (.inr rfl) (ev_tmp rfl)) rfl rfl ?_
    refine ops_nil ?_
    refine then_n ?_
    refine ok_ret ?_
    refine fin1 (res_tmp rfl) (eqI ?_)
    have hq := wSum_all cByte x j (by omega); omega
set_option maxRecDepth 100000 in
theorem ok_laws_markOpS {x : List (OpT)} {k : Int} (h0 : 0 ≤ k) (h1 : k + (wSum cOp x : Int) ≤ 4611686018427387904) : WFn Try.prog 27 [.one (.key 0), .one (.dv [] (.int .i64 (k)))] (.one (.dv [] (.int .i64 (k + (wSum cOp x : Int))))) [(0, kcOf true (.sl 102 7 (x.length) (x.flatMap eOp)))] [(0, kcOf true (opsD (mkL mkOp cOp x k)))] := by
  refine ⟨fn_intro Try.func27 rfl Try.ntmps27 Try.results27 rfl (fun C => ?_)⟩
  have hln : x.length ≤ wSum cOp x := wSum_ge (fun _ => by simp only [cOp]; omega) x
  refine ok_fact (x := .tmp 1) (ev_tmp rfl) (fun (f1 : -9223372036854775808 ≤ (k) ∧ (k) ≤ 9223372036854775807) => ?_)
  refine ok_seq ?_
  refine ok_region ?_
  refine o_pure rfl rfl (pu_move (.inr rfl) (ev_int (inR_lit rfl))) rfl rfl ?_
  refine ops_nil ?_
  refine then_n ?_
  refine ok_seq ?_
  refine ok_seq ?_
  refine ok_region ?_
  refine o_pure rfl rfl (pu_move (.inr rfl) (ev_int (inR_lit rfl))) rfl rfl ?_
  refine ops_nil ?_
  refine then_n ?_
  refine ok_block ?_
  refine ok_loop (ι := Nat) (fun zz => ⟨[(0, .one (.key 0)), (1, .one (.dv [] (.int .i64 (k + (wSum cOp (x.take zz) : Int))))), (4, .one (.dv [] (.int .i64 (0)))), (5, .one (.dv [] (.int .i64 ((zz : Int)))))], [], [(0, some ⟨true, 102, 7, x.length, (mkL mkOp cOp (x.take zz) k).flatMap eOp ++ (x.drop zz).flatMap eOp⟩)]⟩) (fun zz => zz ≤ x.length) (fun zz => x.length - zz) (0) ?_ (weak_sub ⟨rfl, (eqSlotI (by simp [wSum])), rfl, rfl, trivial⟩ trivial ⟨rfl, trivial⟩ rfl) (fun zz hx => ?_)
  · exact Nat.zero_le _
  obtain ⟨j, rfl⟩ : ∃ v, v = zz := ⟨_, rfl⟩
  replace hx : j ≤ x.length := hx
  have hw := fun h => wSum_succ cOp x j h
  show Ok _ _ _ _ _ (⟨[(0, .one (.key 0)), (1, .one (.dv [] (.int .i64 (k + (wSum cOp (x.take j) : Int))))), (4, .one (.dv [] (.int .i64 (0)))), (5, .one (.dv [] (.int .i64 ((j : Int)))))], [], [(0, some ⟨true, 102, 7, x.length, (mkL mkOp cOp (x.take j) k).flatMap eOp ++ (x.drop j).flatMap eOp⟩)]⟩ : St)
  refine ok_seq ?_
  refine ok_seq ?_
  refine ok_region ?_
  refine o_pure rfl rfl (pu_move (.inl rfl) (ev_tmp rfl)) rfl rfl ?_
  refine o_pure rfl rfl (pu_move (.inl rfl) (ev_tmp rfl)) rfl rfl ?_
  refine o_pure rfl rfl (pu_lenKn (n := (x.length)) hT rfl rfl (ev_tmp rfl) rfl rfl) rfl rfl ?_
  refine o_pure rfl rfl (pu_lss rfl (ev_tmp rfl) (ev_tmp rfl)) rfl rfl ?_
  refine ops_nil ?_
  refine then_n ?_
  refine ok_cond (ev_tmp rfl) (fun c1 => ?_) (fun c1 => ?_)
  · skip
    have d1 := of_decide_eq_true c1
    have hj : j < x.length := by omega
    obtain ⟨hw1, hw2⟩ := hw hj
    have hc : cOp (x.getD (j : Int).toNat default) = 6 + wSum cField ((x.getD (j : Int).toNat default).2.2.2.1) := rfl
    refine ok_kcs (k := 0) (cs' := mid ((mkL mkOp cOp (x.take j) k).flatMap eOp) [.int .i64 ((x.getD (j : Int).toNat default).1), .str ((x.getD (j : Int).toNat default).2.1), .int .i64 ((x.getD (j : Int).toNat default).2.2.1.1), .int .i64 ((x.getD (j : Int).toNat default).2.2.1.2.1), .str ((x.getD (j : Int).toNat default).2.2.1.2.2), fieldsD ((x.getD (j : Int).toNat default).2.2.2.1), .str ((x.getD (j : Int).toNat default).2.2.2.2)] ((x.drop (j + 1)).flatMap eOp)) rfl (mk_open hj) ?_
    refine ok_skip ?_
    refine then_n ?_
    refine ok_seq ?_
    refine ok_block ?_
    refine ok_seq ?_
    refine ok_region ?_
    refine o_pure rfl rfl (pu_move (.inl rfl) (ev_tmp rfl)) rfl rfl ?_
    refine o_pure rfl rfl (pu_move (.inl rfl) (ev_tmp rfl)) rfl rfl ?_
    refine o_pure rfl rfl (pu_move (.inl rfl) (ev_tmp rfl)) rfl rfl ?_
    refine o_pure rfl rfl (pu_indexK (i := j) hT rfl rfl rfl (ev_tmp rfl) rfl (ev_tmp rfl) rfl (by show _ < (x.length); omega)) rfl rfl ?_
    refine o_pure rfl rfl (pu_fieldE hT rfl rfl rfl (ev_tmp rfl)) rfl rfl ?_
    refine o_storeE (js := []) (cs := mid ((mkL mkOp cOp (x.take j) k).flatMap eOp) [.int .i64 (k + (wSum cOp (x.take j) : Int)), .str ((x.getD (j : Int).toNat default).2.1), .int .i64 ((x.getD (j : Int).toNat default).2.2.1.1), .int .i64 ((x.getD (j : Int).toNat default).2.2.1.2.1), .str ((x.getD (j : Int).toNat default).2.2.1.2.2), fieldsD ((x.getD (j : Int).toNat default).2.2.2.1), .str ((x.getD (j : Int).toNat default).2.2.2.2)] ((x.drop (j + 1)).flatMap eOp)) hT rfl rfl rfl rfl (ev_tmp rfl) (ev_tmp rfl) rfl rfl rfl rfl (ow_cons' (ow_dv rfl) ow_nil rfl) (by decide) (by decide) rfl (le_mid (off := (j * 7 + 0)) (n := 1) (j := 0) (mk_pre (sz := 7) (fun _ => rfl) (Nat.le_of_lt hj)) (by omega) (Nat.le_of_ble_eq_true rfl)) (setR_mid (off := (j * 7 + 0)) (j := 0) (mk_pre (sz := 7) (fun _ => rfl) (Nat.le_of_lt hj)) (by omega) rfl (Nat.le_of_ble_eq_true rfl)) ?_
    simp only [killT, killB, SV.kill, CV.kill, List.map_cons, List.map_nil, List.any_cons, List.any_nil, List.contains_cons, List.contains_nil, List.nil_append, List.cons_append, Nat.reduceBEq, Bool.or_false, Bool.false_or, Bool.or_true, Bool.true_or, cond_true, cond_false]
    refine ops_nil ?_
    refine then_n ?_
    refine ok_seq ?_
    refine ok_region ?_
    refine o_pure rfl rfl (pu_move (.inl rfl) (ev_tmp rfl)) rfl rfl ?_
    refine o_pure rfl rfl (pu_addR rfl (ev_tmp rfl) (ev_int (inR_lit rfl)) (inR64 (by omega) (by omega))) rfl rfl ?_
    refine o_pure rfl rfl (pu_move (.inr rfl) (ev_tmp rfl)) rfl rfl ?_
    refine ops_nil ?_
    refine then_n ?_
    refine ok_seq ?_
    refine ok_region ?_
    refine o_pure rfl rfl (pu_move (.inl rfl) (ev_tmp rfl)) rfl rfl ?_
    refine o_pure rfl rfl (pu_move (.inl rfl) (ev_tmp rfl)) rfl rfl ?_
    refine o_pure rfl rfl (pu_move (.inl rfl) (ev_tmp rfl)) rfl rfl ?_
    refine o_call rfl rfl rfl Try.call71 (ok_laws_markText (by omega)) (as_cons (ev_tmp rfl) (ag_one ac_dv) as_nil) rfl rfl ?_
    refine o_pure rfl rfl (pu_indexK (i := j) hT rfl rfl rfl (ev_tmp rfl) rfl (ev_tmp rfl) rfl (by show _ < (x.length); omega)) rfl rfl ?_
    refine o_pure rfl rfl (pu_fieldE hT rfl rfl rfl (ev_tmp rfl)) rfl rfl ?_
    refine o_storeE (js := []) (cs := mid ((mkL mkOp cOp (x.take j) k).flatMap eOp) [.int .i64 (k + (wSum cOp (x.take j) : Int)), .str (mText ((k + (wSum cOp (x.take j) : Int)) + (1))), .int .i64 ((x.getD (j : Int).toNat default).2.2.1.1), .int .i64 ((x.getD (j : Int).toNat default).2.2.1.2.1), .str ((x.getD (j : Int).toNat default).2.2.1.2.2), fieldsD ((x.getD (j : Int).toNat default).2.2.2.1), .str ((x.getD (j : Int).toNat default).2.2.2.2)] ((x.drop (j + 1)).flatMap eOp)) hT rfl rfl rfl rfl (ev_tmp rfl) (ev_tmp rfl) rfl rfl rfl rfl (ow_cons' (ow_dv rfl) ow_nil rfl) (by decide) (by decide) rfl (le_mid (off := (j * 7 + 1)) (n := 1) (j := 1) (mk_pre (sz := 7) (fun _ => rfl) (Nat.le_of_lt hj)) (by omega) (Nat.le_of_ble_eq_true rfl)) (setR_mid (off := (j * 7 + 1)) (j := 1) (mk_pre (sz := 7) (fun _ => rfl) (Nat.le_of_lt hj)) (by omega) rfl (Nat.le_of_ble_eq_true rfl)) ?_
    simp only [killT, killB, SV.kill, CV.kill, List.map_cons, List.map_nil, List.any_cons, List.any_nil, List.contains_cons, List.contains_nil, List.nil_append, List.cons_append, Nat.reduceBEq, Bool.or_false, Bool.false_or, Bool.or_true, Bool.true_or, cond_true, cond_false]
    refine ops_nil ?_
    refine then_n ?_
    refine ok_seq ?_
    refine ok_region ?_
    refine o_pure rfl rfl (pu_move (.inl rfl) (ev_tmp rfl)) rfl rfl ?_
    refine o_pure rfl rfl (pu_addR rfl (ev_tmp rfl) (ev_int (inR_lit rfl)) (inR64 (by omega) (by omega))) rfl rfl ?_
    refine o_pure rfl rfl (pu_move (.inr rfl) (ev_tmp rfl)) rfl rfl ?_
    refine ops_nil ?_
    refine then_n ?_
    refine ok_seq ?_
    refine ok_region ?_
    refine o_pure rfl rfl (pu_move (.inl rfl) (ev_tmp rfl)) rfl rfl ?_
    refine o_pure rfl rfl (pu_move (.inl rfl) (ev_tmp rfl)) rfl rfl ?_
    refine o_pure rfl rfl (pu_move (.inl rfl) (ev_tmp rfl)) rfl rfl ?_
    refine o_pure rfl rfl (pu_indexK (i := j) hT rfl rfl rfl (ev_tmp rfl) rfl (ev_tmp rfl) rfl (by show _ < (x.length); omega)) rfl rfl ?_
    refine o_pure rfl rfl (pu_fieldE hT rfl rfl rfl (ev_tmp rfl)) rfl rfl ?_
    refine o_pure rfl rfl (pu_fieldE hT rfl rfl rfl (ev_tmp rfl)) rfl rfl ?_
    refine o_storeE (js := []) (cs := mid ((mkL mkOp cOp (x.take j) k).flatMap eOp) [.int .i64 (k + (wSum cOp (x.take j) : Int)), .str (mText ((k + (wSum cOp (x.take j) : Int)) + (1))), .int .i64 (((k + (wSum cOp (x.take j) : Int)) + (1)) + (1)), .int .i64 ((x.getD (j : Int).toNat default).2.2.1.2.1), .str ((x.getD (j : Int).toNat default).2.2.1.2.2), fieldsD ((x.getD (j : Int).toNat default).2.2.2.1), .str ((x.getD (j : Int).toNat default).2.2.2.2)] ((x.drop (j + 1)).flatMap eOp)) hT rfl rfl rfl rfl (ev_tmp rfl) (ev_tmp rfl) rfl rfl rfl rfl (ow_cons' (ow_dv rfl) ow_nil rfl) (by decide) (by decide) rfl (le_mid (off := ((j * 7 + 2) + 0)) (n := 1) (j := 2) (mk_pre (sz := 7) (fun _ => rfl) (Nat.le_of_lt hj)) (by omega) (Nat.le_of_ble_eq_true rfl)) (setR_mid (off := ((j * 7 + 2) + 0)) (j := 2) (mk_pre (sz := 7) (fun _ => rfl) (Nat.le_of_lt hj)) (by omega) rfl (Nat.le_of_ble_eq_true rfl)) ?_
    simp only [killT, killB, SV.kill, CV.kill, List.map_cons, List.map_nil, List.any_cons, List.any_nil, List.contains_cons, List.contains_nil, List.nil_append, List.cons_append, Nat.reduceBEq, Bool.or_false, Bool.false_or, Bool.or_true, Bool.true_or, cond_true, cond_false]
    refine ops_nil ?_
    refine then_n ?_
    refine ok_seq ?_
    refine ok_region ?_
    refine o_pure rfl rfl (pu_move (.inl rfl) (ev_tmp rfl)) rfl rfl ?_
    refine o_pure rfl rfl (pu_addR rfl (ev_tmp rfl) (ev_int (inR_lit rfl)) (inR64 (by omega) (by omega))) rfl rfl ?_
    refine o_pure rfl rfl (pu_move (.inr rfl) (ev_tmp rfl)) rfl rfl ?_
    refine ops_nil ?_
    refine then_n ?_
    refine ok_seq ?_
    refine ok_region ?_
    refine o_pure rfl rfl (pu_move (.inl rfl) (ev_tmp rfl)) rfl rfl ?_
    refine o_pure rfl rfl (pu_move (.inl rfl) (ev_tmp rfl)) rfl rfl ?_
    refine o_pure rfl rfl (pu_move (.inl rfl) (ev_tmp rfl)) rfl rfl ?_
    refine o_pure rfl rfl (pu_indexK (i := j) hT rfl rfl rfl (ev_tmp rfl) rfl (ev_tmp rfl) rfl (by show _ < (x.length); omega)) rfl rfl ?_
    refine o_pure rfl rfl (pu_fieldE hT rfl rfl rfl (ev_tmp rfl)) rfl rfl ?_
    refine o_pure rfl rfl (pu_fieldE hT rfl rfl rfl (ev_tmp rfl)) rfl rfl ?_
    refine o_storeE (js := []) (cs := mid ((mkL mkOp cOp (x.take j) k).flatMap eOp) [.int .i64 (k + (wSum cOp (x.take j) : Int)), .str (mText ((k + (wSum cOp (x.take j) : Int)) + (1))), .int .i64 (((k + (wSum cOp (x.take j) : Int)) + (1)) + (1)), .int .i64 ((((k + (wSum cOp (x.take j) : Int)) + (1)) + (1)) + (1)), .str ((x.getD (j : Int).toNat default).2.2.1.2.2), fieldsD ((x.getD (j : Int).toNat default).2.2.2.1), .str ((x.getD (j : Int).toNat default).2.2.2.2)] ((x.drop (j + 1)).flatMap eOp)) hT rfl rfl rfl rfl (ev_tmp rfl) (ev_tmp rfl) rfl rfl rfl rfl (ow_cons' (ow_dv rfl) ow_nil rfl) (by decide) (by decide) rfl (le_mid (off := ((j * 7 + 2) + 1)) (n := 1) (j := 3) (mk_pre (sz := 7) (fun _ => rfl) (Nat.le_of_lt hj)) (by omega) (Nat.le_of_ble_eq_true rfl)) (setR_mid (off := ((j * 7 + 2) + 1)) (j := 3) (mk_pre (sz := 7) (fun _ => rfl) (Nat.le_of_lt hj)) (by omega) rfl (Nat.le_of_ble_eq_true rfl)) ?_
    simp only [killT, killB, SV.kill, CV.kill, List.map_cons, List.map_nil, List.any_cons, List.any_nil, List.contains_cons, List.contains_nil, List.nil_append, List.cons_append, Nat.reduceBEq, Bool.or_false, Bool.false_or, Bool.or_true, Bool.true_or, cond_true, cond_false]
    refine ops_nil ?_
    refine then_n ?_
    refine ok_seq ?_
    refine ok_region ?_
    refine o_pure rfl rfl (pu_move (.inl rfl) (ev_tmp rfl)) rfl rfl ?_
    refine o_pure rfl rfl (pu_addR rfl (ev_tmp rfl) (ev_int (inR_lit rfl)) (inR64 (by omega) (by omega))) rfl rfl ?_
    refine o_pure rfl rfl (pu_move (.inr rfl) (ev_tmp rfl)) rfl rfl ?_
    refine ops_nil ?_
    refine then_n ?_
    refine ok_seq ?_
    refine ok_region ?_
    refine o_pure rfl rfl (pu_move (.inl rfl) (ev_tmp rfl)) rfl rfl ?_
    refine o_pure rfl rfl (pu_move (.inl rfl) (ev_tmp rfl)) rfl rfl ?_
    refine o_pure rfl rfl (pu_move (.inl rfl) (ev_tmp rfl)) rfl rfl ?_
    refine o_call rfl rfl rfl Try.call71 (ok_laws_markText (by omega)) (as_cons (ev_tmp rfl) (ag_one ac_dv) as_nil) rfl rfl ?_
    refine o_pure rfl rfl (pu_indexK (i := j) hT rfl rfl rfl (ev_tmp rfl) rfl (ev_tmp rfl) rfl (by show _ < (x.length); omega)) rfl rfl ?_
    refine o_pure rfl rfl (pu_fieldE hT rfl rfl rfl (ev_tmp rfl)) rfl rfl ?_
    refine o_pure rfl rfl (pu_fieldE hT rfl rfl rfl (ev_tmp rfl)) rfl rfl ?_
    refine o_storeE (js := []) (cs := mid ((mkL mkOp cOp (x.take j) k).flatMap eOp) [.int .i64 (k + (wSum cOp (x.take j) : Int)), .str (mText ((k + (wSum cOp (x.take j) : Int)) + (1))), .int .i64 (((k + (wSum cOp (x.take j) : Int)) + (1)) + (1)), .int .i64 ((((k + (wSum cOp (x.take j) : Int)) + (1)) + (1)) + (1)), .str (mText (((((k + (wSum cOp (x.take j) : Int)) + (1)) + (1)) + (1)) + (1))), fieldsD ((x.getD (j : Int).toNat default).2.2.2.1), .str ((x.getD (j : Int).toNat default).2.2.2.2)] ((x.drop (j + 1)).flatMap eOp)) hT rfl rfl rfl rfl (ev_tmp rfl) (ev_tmp rfl) rfl rfl rfl rfl (ow_cons' (ow_dv rfl) ow_nil rfl) (by decide) (by decide) rfl (le_mid (off := ((j * 7 + 2) + 2)) (n := 1) (j := 4) (mk_pre (sz := 7) (fun _ => rfl) (Nat.le_of_lt hj)) (by omega) (Nat.le_of_ble_eq_true rfl)) (setR_mid (off := ((j * 7 + 2) + 2)) (j := 4) (mk_pre (sz := 7) (fun _ => rfl) (Nat.le_of_lt hj)) (by omega) rfl (Nat.le_of_ble_eq_true rfl)) ?_
    simp only [killT, killB, SV.kill, CV.kill, List.map_cons, List.map_nil, List.any_cons, List.any_nil, List.contains_cons, List.contains_nil, List.nil_append, List.cons_append, Nat.reduceBEq, Bool.or_false, Bool.false_or, Bool.or_true, Bool.true_or, cond_true, cond_false]
    refine ops_nil ?_
    refine then_n ?_
    refine ok_seq ?_
    refine ok_region ?_
    refine o_pure rfl rfl (pu_move (.inl rfl) (ev_tmp rfl)) rfl rfl ?_
    refine o_pure rfl rfl (pu_addR rfl (ev_tmp rfl) (ev_int (inR_lit rfl)) (inR64 (by omega) (by omega))) rfl rfl ?_
    refine o_pure rfl rfl (pu_move (.inr rfl) (ev_tmp rfl)) rfl rfl ?_
    refine ops_nil ?_
    refine then_n ?_
    refine ok_seq ?_
    refine ok_region ?_
    refine o_pure rfl rfl (pu_move (.inl rfl) (ev_tmp rfl)) rfl rfl ?_
    refine o_pure rfl rfl (pu_move (.inl rfl) (ev_tmp rfl)) rfl rfl ?_
    refine o_pure rfl rfl (pu_indexK (i := j) hT rfl rfl rfl (ev_tmp rfl) rfl (ev_tmp rfl) rfl (by show _ < (x.length); omega)) rfl rfl ?_
    refine o_pure rfl rfl (pu_fieldE hT rfl rfl rfl (ev_tmp rfl)) rfl rfl ?_
    refine o_pure rfl rfl (pu_fieldE hT rfl rfl rfl (ev_tmp rfl)) rfl rfl ?_
    refine o_pure rfl rfl (pu_loadE1 hT rfl rfl (ev_tmp rfl) rfl (get_mid (off := ((j * 7 + 5) + 0)) (j := 5) (mk_pre (sz := 7) (fun _ => rfl) (Nat.le_of_lt hj)) (by omega) rfl)) rfl rfl ?_
    refine o_pure rfl rfl (pu_move (.inl rfl) (ev_tmp rfl)) rfl rfl ?_
    refine o_callN (t := 57) (ccs := mid ((mkL mkOp cOp (x.take j) k).flatMap eOp) [.int .i64 (k + (wSum cOp (x.take j) : Int)), .str (mText ((k + (wSum cOp (x.take j) : Int)) + (1))), .int .i64 (((k + (wSum cOp (x.take j) : Int)) + (1)) + (1)), .int .i64 ((((k + (wSum cOp (x.take j) : Int)) + (1)) + (1)) + (1)), .str (mText (((((k + (wSum cOp (x.take j) : Int)) + (1)) + (1)) + (1)) + (1))), fieldsD (mkL mkField cField ((x.getD (j : Int).toNat default).2.2.2.1) ((((((k + (wSum cOp (x.take j) : Int)) + (1)) + (1)) + (1)) + (1)) + (1))), .str ((x.getD (j : Int).toNat default).2.2.2.2)] ((x.drop (j + 1)).flatMap eOp)) 5059 rfl rfl rfl Try.call72 (ok_laws_markFieldS (by omega) (by omega)) rfl rfl (get_mid (off := ((j * 7 + 5) + 0)) (j := 5) (mk_pre (sz := 7) (fun _ => rfl) (Nat.le_of_lt hj)) (by omega) rfl) rfl (aw_cons (ev_tmp rfl) (aw_one (awc_key rfl)) (aw_cons (ev_tmp rfl) (aw_one (awc_dv rfl)) aw_nil)) rfl rfl (set_mid (off := ((j * 7 + 5) + 0)) (j := 5) (mk_pre (sz := 7) (fun _ => rfl) (Nat.le_of_lt hj)) (by omega) rfl (Nat.lt_of_lt_of_le (Nat.lt_succ_self _) (Nat.le_of_ble_eq_true rfl))) ?_
    simp only [killT, killB, SV.kill, CV.kill, List.map_cons, List.map_nil, List.any_cons, List.any_nil, List.contains_cons, List.contains_nil, List.nil_append, List.cons_append, Nat.reduceBEq, Bool.or_false, Bool.false_or, Bool.or_true, Bool.true_or, cond_true, cond_false]
    refine o_pure rfl rfl (pu_move (.inr rfl) (ev_tmp rfl)) rfl rfl ?_
    refine ops_nil ?_
    refine then_n ?_
    refine ok_seq ?_
    refine ok_region ?_
    refine o_pure rfl rfl (pu_move (.inl rfl) (ev_tmp rfl)) rfl rfl ?_
    refine o_pure rfl rfl (pu_move (.inl rfl) (ev_tmp rfl)) rfl rfl ?_
    refine o_pure rfl rfl (pu_move (.inl rfl) (ev_tmp rfl)) rfl rfl ?_
    refine o_call rfl rfl rfl Try.call71 (ok_laws_markText (by omega)) (as_cons (ev_tmp rfl) (ag_one ac_dv) as_nil) rfl rfl ?_
    refine o_pure rfl rfl (pu_indexK (i := j) hT rfl rfl rfl (ev_tmp rfl) rfl (ev_tmp rfl) rfl (by show _ < (x.length); omega)) rfl rfl ?_
    refine o_pure rfl rfl (pu_fieldE hT rfl rfl rfl (ev_tmp rfl)) rfl rfl ?_
    refine o_storeE (js := []) (cs := mid ((mkL mkOp cOp (x.take j) k).flatMap eOp) [.int .i64 (k + (wSum cOp (x.take j) : Int)), .str (mText ((k + (wSum cOp (x.take j) : Int)) + (1))), .int .i64 (((k + (wSum cOp (x.take j) : Int)) + (1)) + (1)), .int .i64 ((((k + (wSum cOp (x.take j) : Int)) + (1)) + (1)) + (1)), .str (mText (((((k + (wSum cOp (x.take j) : Int)) + (1)) + (1)) + (1)) + (1))), fieldsD (mkL mkField cField ((x.getD (j : Int).toNat default).2.2.2.1) ((((((k + (wSum cOp (x.take j) : Int)) + (1)) + (1)) + (1)) + (1)) + (1))), .str (mText (((((((k + (wSum cOp (x.take j) : Int)) + (1)) + (1)) + (1)) + (1)) + (1)) + (wSum cField ((x.getD (j : Int).toNat default).2.2.2.1) : Int)))] ((x.drop (j + 1)).flatMap eOp)) hT rfl rfl rfl rfl (ev_tmp rfl) (ev_tmp rfl) rfl rfl rfl rfl (ow_cons' (ow_dv rfl) ow_nil rfl) (by decide) (by decide) rfl (le_mid (off := (j * 7 + 6)) (n := 1) (j := 6) (mk_pre (sz := 7) (fun _ => rfl) (Nat.le_of_lt hj)) (by omega) (Nat.le_of_ble_eq_true rfl)) (setR_mid (off := (j * 7 + 6)) (j := 6) (mk_pre (sz := 7) (fun _ => rfl) (Nat.le_of_lt hj)) (by omega) rfl (Nat.le_of_ble_eq_true rfl)) ?_
    simp only [killT, killB, SV.kill, CV.kill, List.map_cons, List.map_nil, List.any_cons, List.any_nil, List.contains_cons, List.contains_nil, List.nil_append, List.cons_append, Nat.reduceBEq, Bool.or_false, Bool.false_or, Bool.or_true, Bool.true_or, cond_true, cond_false]
    refine ops_nil ?_
    refine then_n ?_
    refine ok_region ?_
    refine o_pure rfl rfl (pu_move (.inl rfl) (ev_tmp rfl)) rfl rfl ?_
    refine o_pure rfl rfl (pu_addR rfl (ev_tmp rfl) (ev_int (inR_lit rfl)) (inR64 (by omega) (by omega))) rfl rfl ?_
    refine o_pure rfl rfl (pu_move (.inr rfl) (ev_tmp rfl)) rfl rfl ?_
    refine ops_nil ?_
    refine blk_n ?_
    refine then_n ?_
    refine ok_region ?_
    refine o_pure rfl rfl (pu_move (.inl rfl) (ev_tmp rfl)) rfl rfl ?_
    refine o_pure rfl rfl (pu_addR rfl (ev_tmp rfl) (ev_int (inR_lit rfl)) (inR64 (by omega) (by omega))) rfl rfl ?_
    refine o_pure rfl rfl (pu_move (.inr rfl) (ev_tmp rfl)) rfl rfl ?_
    refine ops_nil ?_
    refine then_n ?_
    refine ⟨j + 1, ?_, ?_, weak_sub ⟨rfl, (eqSlotI (by omega)), rfl, rfl, trivial⟩ trivial ⟨(congrArg (fun cs => some (some (KC.mk true 102 7 x.length cs))) (mk_close (by omega) (by rfl))), trivial⟩ rfl⟩
    · omega
    · omega
  · skip
    have d1 := of_decide_eq_false c1
    refine ok_exit ?_
    refine then_e ?_
    refine then_e ?_
    refine blk_e rfl ?_
    refine then_n ?_
    refine ok_seq ?_
    refine ok_region ?_
    refine o_pure rfl rfl (pu_move (.inl rfl) (ev_tmp rfl)) rfl rfl ?_
    refine o_pure rfl rfl (pu_move (.inr rfl) (ev_tmp rfl)) rfl rfl ?_
    refine ops_nil ?_
    refine then_n ?_
    refine ok_weak (σ' := ⟨[(4, .one (.dv [] (.int .i64 (k + (wSum cOp (x.take j) : Int)))))], [], [(0, some (kcOf true (opsD (mkL mkOp cOp x k))))]⟩) (weak_sub ⟨rfl, trivial⟩ trivial ⟨(mk_fin (by omega)), trivial⟩ rfl) ?_
    refine ok_ret ?_
    refine fin1 (res_tmp rfl) ⟨eqI ?_, w1_ok rfl⟩
    have hq := wSum_all cOp x j (by omega); omega
end Go.Proofs.Ytlogahkchenpdaa

namespace Go.Proofs.Ytlogahkchenpdaa
open Go.RowKit
open Go.Proofs
set_option linter.unusedVariables false
set_option linter.unusedSimpArgs false

@[reducible] def bytessD (xs : List (List UInt8)) : DV := listD 0 1 (fun x => [bytesD x]) xs
def areB (l : List OpT) : Bool := l.all isOpB && decide ((l.length : Int) ≤ 6)
def appB (b y : List UInt8) : List UInt8 := appU b (y.length : Int) ++ y
def partsO (o : OpT) : List (List UInt8) := [o.2.1.data.toList, encK o.2.2.1, encR o.2.2.2.1, o.2.2.2.2.data.toList]
def opPart (b : List UInt8) (o : OpT) : Nat → List UInt8
  | 0 => appU b o.1
  | j + 1 => appB (opPart b o j) ((partsO o).getD (j : Int).toNat default)
def encON (l : List OpT) : Nat → List UInt8
  | 0 => appU [] (l.length : Int)
  | k + 1 => opPart (encON l k) (l.getD (k : Int).toNat default) 4
def encO (l : List OpT) : List UInt8 := if areB l then encON l l.length else []
theorem encO_bad {l : List OpT} (h : areB l = false) : encO l = [] := by rw [encO, h]; rfl
theorem encO_ok {l : List OpT} {k : Nat} (h : areB l = true) (hk : k = l.length) : encO l = encON l k := by rw [encO, if_pos h, hk]
theorem are_no {l : List OpT} {k : Nat} (hk : k < l.length) (h : isOpB (l.getD (k : Int).toNat default) = false) : areB l = false := by
  unfold areB
  have : l.all isOpB = false := by
    rw [List.all_eq_false]
    refine ⟨l[k], List.getElem_mem hk, ?_⟩
    rw [getD_at hk] at h
    simpa using h
  rw [this]; rfl
theorem are_yes {l : List OpT} {k : Nat} (h : (l.take k).all isOpB = true) (hk : l.length ≤ k) : areB l = decide ((l.length : Int) ≤ 6) := by
  rw [List.take_of_length_le hk] at h
  unfold areB
  rw [h, Bool.true_and]
theorem are_step {l : List OpT} {k : Nat} (h : (l.take k).all isOpB = true) (hk : k < l.length) (h2 : isOpB (l.getD (k : Int).toNat default) = true) : (l.take (k + 1)).all isOpB = true := by
  rw [List.take_succ_eq_append_getElem hk, List.all_append, h]
  rw [getD_at hk] at h2
  simpa using h2
theorem op_rng {o : OpT} (h : isOpB o = true) : o.2.1.data.toList.length ≤ 8 ∧ o.2.2.2.2.data.toList.length ≤ 8 := by
  simp only [isOpB, Bool.and_eq_true, Bool.or_eq_true] at h
  have h1 := name_size h.1.1.1.2
  refine ⟨h1.2, ?_⟩
  rcases h.2 with h2 | h2
  · exact (name_size h2.2).2
  · have h3 : o.2.2.2.2.data.toList = [] := by
      have := h2.2
      simpa [sEq, ByteArray.toList_eq] using this
    rw [h3]; simp
theorem are_op {l : List OpT} {k : Nat} (h : areB l = true) (hk : k < l.length) : isOpB (l.getD (k : Int).toNat default) = true := by
  simp only [areB, Bool.and_eq_true, List.all_eq_true] at h
  rw [getD_at hk]
  exact h.1 _ (List.getElem_mem hk)
theorem are_len {l : List OpT} (h : areB l = true) : l.length ≤ 6 := by
  simp only [areB, Bool.and_eq_true, decide_eq_true_eq] at h; omega
theorem appB_len (b y : List UInt8) : (appB b y).length ≤ b.length + 6 + y.length := by
  have := appU_len b (y.length : Int)
  rw [appB, List.length_append]; omega
theorem part_len {o : OpT} (h : isOpB o = true) (j : Nat) : ((partsO o).getD (j : Int).toNat default).length ≤ 126 := by
  have h1 := op_rng h
  have h2 := encK_len o.2.2.1
  have h3 := encR_len o.2.2.2.1
  match j with
  | 0 => show o.2.1.data.toList.length ≤ 126; omega
  | 1 => show (encK o.2.2.1).length ≤ 126; omega
  | 2 => exact h3
  | 3 => show o.2.2.2.2.data.toList.length ≤ 126; omega
  | n + 4 => rw [Int.toNat_natCast]; simp [partsO]; exact Nat.zero_le 126
theorem opPart_len {b : List UInt8} {o : OpT} (h : isOpB o = true) : ∀ j, (opPart b o j).length ≤ b.length + 6 + 132 * j
  | 0 => by have := appU_len b o.1; simpa [opPart] using this
  | j + 1 => by
    have ih := opPart_len (b := b) h j
    have h1 := appB_len (opPart b o j) ((partsO o).getD (j : Int).toNat default)
    have h2 := part_len h j
    rw [opPart]; omega
theorem encON_len {l : List OpT} : ∀ k, k ≤ l.length → (l.take k).all isOpB = true → (encON l k).length ≤ 6 + 534 * k
  | 0, _, _ => by have := appU_len [] (l.length : Int); simpa [encON] using this
  | k + 1, hk, h => by
    have h0 : (l.take k).all isOpB = true ∧ isOpB (l.getD (k : Int).toNat default) = true := by
      rw [List.take_succ_eq_append_getElem (by omega), List.all_append, Bool.and_eq_true] at h
      refine ⟨h.1, ?_⟩
      rw [getD_at (by omega)]
      simpa using h.2
    have ih := encON_len k (by omega) h0.1
    have h1 := opPart_len (b := encON l k) h0.2 4
    have e : encON l (k + 1) = opPart (encON l k) (l.getD (k : Int).toNat default) 4 := rfl
    rw [e]
    refine Nat.le_trans h1 ?_
    clear h1 e
    omega
theorem encON_lenV {l : List OpT} {k : Nat} (h : areB l = true) (hk : k ≤ l.length) : (encON l k).length ≤ 6 + 534 * k := by
  refine encON_len k hk ?_
  simp only [areB, Bool.and_eq_true] at h
  rw [List.all_eq_true] at h ⊢
  exact fun x hx => h.1 x (List.mem_of_mem_take hx)
theorem encO_len (l : List OpT) : (encO l).length ≤ 3210 := by
  unfold encO
  split
  · rename_i h
    have h1 := encON_lenV h (Nat.le_refl _)
    have h2 := are_len h
    omega
  · simp

set_option maxRecDepth 100000 in
theorem ok_impl_areOps {l : List OpT}  : PFn Try.prog 65 [.one (.dv [] (opsD (l)))] (.one (.dv [] (.bool (areB l)))) := by
  refine ⟨fn_intro Try.func65 rfl Try.ntmps65 Try.results65 rfl (fun C => ?_)⟩
  refine ok_fact (x := .tmp 0) (ev_tmp rfl) (fun (f0 : ((l)).length ≤ 9223372036854775807) => ?_)
  refine ok_seq ?_
  refine ok_region ?_
  refine o_pure rfl rfl (pu_move (.inr rfl) ev_bool) rfl rfl ?_
  refine ops_nil ?_
  refine then_n ?_
  refine ok_seq ?_
  refine ok_seq ?_
  refine ok_region ?_
  refine o_pure rfl rfl (pu_move (.inl rfl) (ev_tmp rfl)) rfl rfl ?_
  refine o_pure rfl rfl (pu_lenV hT rfl rfl (ev_tmp rfl)) rfl rfl ?_
  refine o_pure rfl rfl (pu_move (.inl rfl) (ev_int (inR_lit rfl))) rfl rfl ?_
  refine ops_nil ?_
  refine then_n ?_
  refine ok_block ?_
  refine ok_loop (ι := Nat) (fun zz => ⟨[(0, .one (.dv [] (opsD (l)))), (5, .one (.dv [] (opsD (l)))), (6, .one (.dv [] (.int .i64 ((((l)).length : Int))))), (7, .one (.dv [] (.int .i64 ((zz : Int)))))], [], []⟩) (fun zz => zz ≤ l.length ∧ (l.take zz).all isOpB = true) (fun zz => l.length - zz) (0) ?_ (weak_sub ⟨rfl, rfl, rfl, rfl, trivial⟩ trivial trivial rfl) (fun zz hx => ?_)
  · exact ⟨Nat.zero_le _, rfl⟩
  obtain ⟨k, rfl⟩ : ∃ v, v = zz := ⟨_, rfl⟩
  replace hx : k ≤ l.length ∧ (l.take k).all isOpB = true := hx
  obtain ⟨hk, hall⟩ := hx
  show Ok _ _ _ _ _ (⟨[(0, .one (.dv [] (opsD (l)))), (5, .one (.dv [] (opsD (l)))), (6, .one (.dv [] (.int .i64 ((((l)).length : Int))))), (7, .one (.dv [] (.int .i64 ((k : Int)))))], [], []⟩ : St)
  refine ok_seq ?_
  refine ok_region ?_
  refine o_pure rfl rfl (pu_lss rfl (ev_tmp rfl) (ev_tmp rfl)) rfl rfl ?_
  refine ops_nil ?_
  refine then_n ?_
  refine ok_seq ?_
  refine ok_cond (ev_tmp rfl) (fun c1 => ?_) (fun c1 => ?_)
  · skip
    have d1 := of_decide_eq_true c1
    refine ok_skip ?_
    refine then_n ?_
    refine ok_seq ?_
    refine ok_block ?_
    refine ok_seq ?_
    refine ok_region ?_
    refine o_pure rfl rfl (pu_indexD hT rfl rfl rfl (ev_tmp rfl) (ev_tmp rfl) (fun _ => rfl) (by first | omega | (simp only [Bool.and_eq_true, Bool.or_eq_true, Bool.or_eq_false_iff, Bool.and_eq_false_iff, Bool.not_eq_true', Bool.not_eq_false', beq_iff_eq, decide_eq_true_eq, decide_eq_false_iff_not] at hg; omega) | (have hh := of_decide_eq_true (beq_tt hg); omega) | (have hh := of_decide_eq_true (beq_tt (and_r hg)); omega)) (by first | omega | (simp only [Bool.and_eq_true, Bool.or_eq_true, Bool.or_eq_false_iff, Bool.and_eq_false_iff, Bool.not_eq_true', Bool.not_eq_false', beq_iff_eq, decide_eq_true_eq, decide_eq_false_iff_not] at hg; omega) | (have hh := of_decide_eq_true (beq_tt hg); omega) | (have hh := of_decide_eq_true (beq_tt (and_r hg)); omega))) rfl rfl ?_
    refine o_pure rfl rfl (pu_loadRefA hT rfl rfl (ev_tmp rfl) rfl) rfl rfl ?_
    refine o_alloc hT rfl rfl rfl rfl rfl rfl ?_
    refine o_store hT rfl rfl rfl rfl (ev_tmp rfl) (ev_tmp rfl) rfl rfl rfl rfl rfl rfl ?_
    refine ops_nil ?_
    refine then_n ?_
    refine ok_seq ?_
    refine ok_region ?_
    refine o_pure rfl rfl (pu_loadBoxA hT rfl rfl (ev_tmp rfl) rfl rfl) rfl rfl ?_
    refine o_call rfl rfl rfl Try.call124 (ok_impl_IsOp (x := (((l)).getD ((k : Int)).toNat default)) ) (as_cons (ev_tmp rfl) (ag_agg (ag_cons ac_dv (ag_cons ac_dv (ag_cons ac_dv (ag_cons ac_dv (ag_cons ac_dv (ag_cons ac_dv (ag_cons ac_dv ag_nil)))))))) as_nil) rfl rfl ?_
    refine o_pure rfl rfl (pu_not rfl (ev_tmp rfl)) rfl rfl ?_
    refine ops_nil ?_
    refine then_n ?_
    refine ok_cond (ev_tmp rfl) (fun c2 => ?_) (fun c2 => ?_)
    · skip
      refine ok_seq ?_
      refine ok_region ?_
      refine o_pure rfl rfl (pu_move (.inr rfl) ev_bool) rfl rfl ?_
      refine ops_nil ?_
      refine then_n ?_
      refine ok_ret ?_
      refine blk_r ?_
      refine then_r ?_
      refine then_r ?_
      refine blk_r ?_
      refine then_r ?_
      refine fin1 (res_tmp rfl) (eqB ?_)
      exact (are_no (k := k) (by omega) (by simpa using c2)).symm
    · skip
      refine ok_skip ?_
      refine blk_n ?_
      refine then_n ?_
      refine ok_region ?_
      refine o_pure rfl rfl (pu_addR rfl (ev_tmp rfl) (ev_int (inR_lit rfl)) (inR64 (by omega) (by omega))) rfl rfl ?_
      refine o_pure rfl rfl (pu_move (.inl rfl) (ev_tmp rfl)) rfl rfl ?_
      refine ops_nil ?_
      refine then_n ?_
      refine ⟨k + 1, ?_, ?_, weak_sub ⟨rfl, rfl, rfl, rfl, trivial⟩ trivial trivial rfl⟩
      · exact ⟨by omega, are_step hall (by omega) (by simpa using c2)⟩
      · omega
  · skip
    have d1 := of_decide_eq_false c1
    refine ok_exit ?_
    refine then_e ?_
    refine then_e ?_
    refine blk_e rfl ?_
    refine then_n ?_
    refine ok_seq ?_
    refine ok_region ?_
    refine o_pure rfl rfl (pu_move (.inl rfl) (ev_tmp rfl)) rfl rfl ?_
    refine o_pure rfl rfl (pu_lenV hT rfl rfl (ev_tmp rfl)) rfl rfl ?_
    refine o_pure rfl rfl (pu_leq rfl (ev_tmp rfl) (ev_int (inR_lit rfl))) rfl rfl ?_
    refine o_pure rfl rfl (pu_move (.inr rfl) (ev_tmp rfl)) rfl rfl ?_
    refine ops_nil ?_
    refine then_n ?_
    refine ok_ret ?_
    refine fin1 (res_tmp rfl) (eqB ?_)
    exact (are_yes hall (by omega)).symm
set_option maxRecDepth 100000 in
theorem ok_impl_EncodeOps {l : List OpT}  : KFn Try.prog 24 [.one (.dv [] (opsD (l)))] (.one (.key 900500)) [(900500, some (kcOf false (bytesD (encO l))))] := by
  refine ⟨fn_intro Try.func24 rfl Try.ntmps24 Try.results24 rfl (fun C => ?_)⟩
  refine ok_fact (x := .tmp 0) (ev_tmp rfl) (fun (f0 : ((l)).length ≤ 9223372036854775807) => ?_)
  refine ok_seq ?_
  refine ok_region ?_
  refine o_pure rfl rfl (pu_move (.inr rfl) ev_nil) rfl rfl ?_
  refine ops_nil ?_
  refine then_n ?_
  refine ok_seq ?_
  refine ok_seq ?_
  refine ok_region ?_
  refine o_pure rfl rfl (pu_move (.inl rfl) (ev_tmp rfl)) rfl rfl ?_
  refine o_call rfl rfl rfl Try.call65 (ok_impl_areOps (l := l) ) (as_cons (ev_tmp rfl) (ag_one ac_dv) as_nil) rfl rfl ?_
  refine o_pure rfl rfl (pu_not rfl (ev_tmp rfl)) rfl rfl ?_
  refine ops_nil ?_
  refine then_n ?_
  refine ok_cond (ev_tmp rfl) (fun c1 => ?_) (fun c1 => ?_)
  · skip
    have hk0 : areB l = false := by simpa using c1
    refine ok_seq ?_
    refine ok_region ?_
    refine o_build0 (k := 900500) hT rfl rfl rfl rfl rfl rfl rfl rfl ?_
    refine o_pure rfl rfl (pu_move (.inr rfl) (ev_tmp rfl)) rfl rfl ?_
    refine ops_nil ?_
    refine then_n ?_
    refine ok_weak (σ' := ⟨[(2, .one (.key 900500))], [], [(900500, some (kcOf false (bytesD (encO l))))]⟩) (weak_sub ⟨rfl, trivial⟩ trivial ⟨(by first | exact congrArg (fun l : List UInt8 => some (some (KC.mk false 5 1 l.length (l.flatMap eByte)))) (show ([] : List UInt8) = encO l from (encO_bad hk0).symm) | exact congrArg (fun l : List UInt8 => some (some (KC.mk false 5 1 l.length (l.flatMap eByte)))) (encO_ok hk1 (by omega)).symm), trivial⟩ rfl) ?_
    refine ok_ret ?_
    refine then_r ?_
    refine fin1 (res_tmp rfl) ?_
    exact ⟨rfl, rfl⟩
  · skip
    have hk1 : areB l = true := by simpa using c1
    have hll := are_len hk1
    refine ok_skip ?_
    refine then_n ?_
    refine ok_seq ?_
    refine ok_region ?_
    refine o_pure rfl rfl (pu_move (.inl rfl) (ev_tmp rfl)) rfl rfl ?_
    refine o_pure rfl rfl (pu_lenV hT rfl rfl (ev_tmp rfl)) rfl rfl ?_
    refine o_callK 900470 rfl rfl rfl Try.call66 (ok_impl_AppendUvarint (x := []) (n := (l.length : Int)) (by simp)) (as_cons ev_nil (ag_one (ac_nil' rfl rfl)) (as_cons (ev_tmp rfl) (ag_one ac_dv) as_nil)) rfl rfl rfl ?_
    refine o_pure rfl rfl (pu_move (.inr rfl) (ev_tmp rfl)) rfl rfl ?_
    refine ops_nil ?_
    refine then_n ?_
    refine ok_seq ?_
    refine ok_seq ?_
    refine ok_region ?_
    refine o_pure rfl rfl (pu_move (.inl rfl) (ev_tmp rfl)) rfl rfl ?_
    refine o_pure rfl rfl (pu_lenV hT rfl rfl (ev_tmp rfl)) rfl rfl ?_
    refine o_pure rfl rfl (pu_move (.inl rfl) (ev_int (inR_lit rfl))) rfl rfl ?_
    refine ops_nil ?_
    refine then_n ?_
    refine ok_block ?_
    refine ok_loop (ι := Nat) (fun zz => ⟨[(2, .one .nil), (3, .one (.key 900500)), (15, .one (.dv [] (opsD (l)))), (16, .one (.dv [] (.int .i64 ((((l)).length : Int))))), (17, .one (.dv [] (.int .i64 ((zz : Int)))))], [], [(900500, some (kcOf false (.sl 5 1 ((encON l zz).length) ((encON l zz).flatMap eByte))))]⟩) (fun zz => zz ≤ l.length) (fun zz => l.length - zz) (0) ?_ (weak_sub ⟨rfl, rfl, rfl, rfl, rfl, trivial⟩ trivial ⟨rfl, trivial⟩ rfl) (fun zz hx => ?_)
    · exact Nat.zero_le _
    obtain ⟨k, rfl⟩ : ∃ v, v = zz := ⟨_, rfl⟩
    replace hx : k ≤ l.length := hx
    have hk := hx
    show Ok _ _ _ _ _ (⟨[(2, .one .nil), (3, .one (.key 900500)), (15, .one (.dv [] (opsD (l)))), (16, .one (.dv [] (.int .i64 ((((l)).length : Int))))), (17, .one (.dv [] (.int .i64 ((k : Int)))))], [], [(900500, some (kcOf false (.sl 5 1 ((encON l k).length) ((encON l k).flatMap eByte))))]⟩ : St)
    refine ok_seq ?_
    refine ok_region ?_
    refine o_pure rfl rfl (pu_lss rfl (ev_tmp rfl) (ev_tmp rfl)) rfl rfl ?_
    refine ops_nil ?_
    refine then_n ?_
    refine ok_seq ?_
    refine ok_cond (ev_tmp rfl) (fun c2 => ?_) (fun c2 => ?_)
    · skip
      have d2 := of_decide_eq_true c2
      have hkl : k < l.length := by omega
      have hop := are_op hk1 hkl
      have hrg := op_rng hop
      have hek := encK_len (l.getD (k : Int).toNat default).2.2.1
      have her := encR_len (l.getD (k : Int).toNat default).2.2.2.1
      have hen := encON_lenV hk1 hk
      refine ok_skip ?_
      refine then_n ?_
      refine ok_seq ?_
      refine ok_block ?_
      refine ok_seq ?_
      refine ok_region ?_
      refine o_pure rfl rfl (pu_indexD hT rfl rfl rfl (ev_tmp rfl) (ev_tmp rfl) (fun _ => rfl) (by first | omega | (simp only [Bool.and_eq_true, Bool.or_eq_true, Bool.or_eq_false_iff, Bool.and_eq_false_iff, Bool.not_eq_true', Bool.not_eq_false', beq_iff_eq, decide_eq_true_eq, decide_eq_false_iff_not] at hg; omega) | (have hh := of_decide_eq_true (beq_tt hg); omega) | (have hh := of_decide_eq_true (beq_tt (and_r hg)); omega)) (by first | omega | (simp only [Bool.and_eq_true, Bool.or_eq_true, Bool.or_eq_false_iff, Bool.and_eq_false_iff, Bool.not_eq_true', Bool.not_eq_false', beq_iff_eq, decide_eq_true_eq, decide_eq_false_iff_not] at hg; omega) | (have hh := of_decide_eq_true (beq_tt hg); omega) | (have hh := of_decide_eq_true (beq_tt (and_r hg)); omega))) rfl rfl ?_
      refine o_pure rfl rfl (pu_loadRefA hT rfl rfl (ev_tmp rfl) rfl) rfl rfl ?_
      refine o_alloc hT rfl rfl rfl rfl rfl rfl ?_
      refine o_store hT rfl rfl rfl rfl (ev_tmp rfl) (ev_tmp rfl) rfl rfl rfl rfl rfl rfl ?_
      refine ops_nil ?_
      refine then_n ?_
      refine ok_seq ?_
      refine ok_region ?_
      refine o_pure rfl rfl (pu_move (.inl rfl) (ev_tmp rfl)) rfl rfl ?_
      refine o_pure rfl rfl (pu_fieldBox hT rfl rfl rfl (ev_tmp rfl)) rfl rfl ?_
      refine o_pure rfl rfl (pu_loadBox1 hT rfl rfl (ev_tmp rfl) rfl rfl) rfl rfl ?_
      refine o_callK 900471 rfl rfl rfl Try.call66 (ok_impl_AppendUvarint (x := (encON l k)) (n := (l.getD (k : Int).toNat default).1) (by omega)) (as_cons (ev_tmp rfl) (ag_one (ac_key' rfl rfl)) (as_cons (ev_tmp rfl) (ag_one ac_dv) as_nil)) rfl rfl rfl ?_
      refine o_pure rfl rfl (pu_move (.inr rfl) (ev_tmp rfl)) rfl rfl ?_
      refine ops_nil ?_
      refine then_n ?_
      refine ok_cutS (σ' := ⟨[(2, .one .nil), (3, .one (.key 900501)), (5, .box 5 0), (15, .one (.dv [] (opsD (l)))), (16, .one (.dv [] (.int .i64 ((((l)).length : Int))))), (17, .one (.dv [] (.int .i64 ((k : Int))))), (37, .one (.key 37)), (38, .one (.dv [] (.int .i64 (((4) : Int))))), (39, .one (.dv [] (.int .i64 (0))))], [(5, 102, [(.dv [] (.int .i64 ((((l)).getD ((k : Int)).toNat default).1))), (.dv [] (.str ((((l)).getD ((k : Int)).toNat default).2.1))), (.dv [] (.int .i64 ((((l)).getD ((k : Int)).toNat default).2.2.1.1))), (.dv [] (.int .i64 ((((l)).getD ((k : Int)).toNat default).2.2.1.2.1))), (.dv [] (.str ((((l)).getD ((k : Int)).toNat default).2.2.1.2.2))), (.dv [] (fieldsD ((((l)).getD ((k : Int)).toNat default).2.2.2.1))), (.dv [] (.str ((((l)).getD ((k : Int)).toNat default).2.2.2.2)))])], [(37, some (kcOf false (.sl 35 1 (4) ([.sl 1000005 1 (((((l)).getD ((k : Int)).toNat default).2.1).data.toList.length) (((((l)).getD ((k : Int)).toNat default).2.1).data.toList.flatMap eByte), bytesD (encK ((((l)).getD ((k : Int)).toNat default).2.2.1)), bytesD (encR ((((l)).getD ((k : Int)).toNat default).2.2.2.1)), .sl 1000005 1 (((((l)).getD ((k : Int)).toNat default).2.2.2.2).data.toList.length) (((((l)).getD ((k : Int)).toNat default).2.2.2.2).data.toList.flatMap eByte)])))), (900500, some (kcOf false (.sl 5 1 ((encON l k).length) ((encON l k).flatMap eByte)))), (900501, some (kcOf false (bytesD (opPart (encON l k) (l.getD (k : Int).toNat default) 0))))]⟩) ?_ ?_
      · skip
        refine ok_regionD (oB := [5]) (oK := [900500, 900501]) (by kernel_rfl) rfl rfl ?_
        refine d_take 0 rfl (by kernel_rfl) rfl rfl (pu_fieldBox hT rfl rfl rfl (ev_tmp rfl)) rfl rfl rfl rfl ?_
        refine d_take 1 rfl (by kernel_rfl) rfl rfl (pu_loadBox1 hT rfl rfl (ev_tmp rfl) rfl rfl) rfl rfl rfl rfl ?_
        refine d_take 3 rfl (by kernel_rfl) rfl rfl (pu_fieldBox hT rfl rfl rfl (ev_tmp rfl)) rfl rfl rfl rfl ?_
        refine d_take 4 rfl (by kernel_rfl) rfl rfl (pu_loadBoxA hT rfl rfl (ev_tmp rfl) rfl rfl) rfl rfl rfl rfl ?_
        refine d_take 6 rfl (by kernel_rfl) rfl rfl (pu_fieldBox hT rfl rfl rfl (ev_tmp rfl)) rfl rfl rfl rfl ?_
        refine d_take 7 rfl (by kernel_rfl) rfl rfl (pu_loadBoxA hT rfl rfl (ev_tmp rfl) rfl rfl) rfl rfl rfl rfl ?_
        refine d_take 9 rfl (by kernel_rfl) rfl rfl (pu_fieldBox hT rfl rfl rfl (ev_tmp rfl)) rfl rfl rfl rfl ?_
        refine d_take 10 rfl (by kernel_rfl) rfl rfl (pu_loadBox1 hT rfl rfl (ev_tmp rfl) rfl rfl) rfl rfl rfl rfl ?_
        refine d_take 14 rfl (by kernel_rfl) rfl rfl (pu_move (.inl rfl) (ev_int (inR_lit rfl))) rfl rfl rfl rfl ?_
        refine d_split 2 [5, 11] (by kernel_rfl) ⟨?_, ?_, ?_, trivial⟩
        · skip
          refine j_convSB (k := 27) 2 hT rfl rfl rfl rfl rfl rfl rfl rfl (ev_tmp rfl) rfl rfl rfl ?_
          refine d_split 5 [11] (by kernel_rfl) ⟨?_, ?_, trivial⟩
          · skip
            refine j_callK 900498 5 rfl rfl rfl rfl Try.call67 (ok_impl_EncodeKey (k := (((l)).getD ((k : Int)).toNat default).2.2.1) ) (as_cons (ev_tmp rfl) (ag_agg (ag_cons ac_dv (ag_cons ac_dv (ag_cons ac_dv ag_nil)))) as_nil) rfl rfl rfl rfl rfl ?_
            refine d_split 8 [11] (by kernel_rfl) ⟨?_, ?_, trivial⟩
            · skip
              refine j_callK 900011 8 rfl rfl rfl rfl Try.call68 (ok_impl_EncodeRecord (r := (((l)).getD ((k : Int)).toNat default).2.2.2.1) ) (as_cons (ev_tmp rfl) (ag_agg (ag_cons ac_dv ag_nil)) as_nil) rfl rfl rfl rfl rfl ?_
              refine d_convSB (k := 36) 11 hT rfl (by kernel_rfl) rfl rfl rfl rfl rfl rfl rfl (ev_tmp rfl) rfl rfl rfl ?_
              refine d_buildN (k := 37) (js := [27, 900510, 900511, 36]) 12 hT rfl (by kernel_rfl) rfl rfl rfl rfl rfl rfl rfl rfl rfl rfl rfl (ep_cons (ev_tmp rfl) rfl rfl rfl (ep_cons (ev_tmp rfl) rfl rfl rfl (ep_cons (ev_tmp rfl) rfl rfl rfl (ep_cons (ev_tmp rfl) rfl rfl rfl ep_nil)))) (ow_cons' (ow_key rfl) (ow_cons' (ow_key rfl) (ow_cons' (ow_key rfl) (ow_cons' (ow_key rfl) ow_nil rfl) rfl) rfl) rfl) (by decide) (by decide) rfl rfl rfl rfl ?_
              simp only [killT, killB, SV.kill, CV.kill, List.map_cons, List.map_nil, List.any_cons, List.any_nil, List.contains_cons, List.contains_nil, List.nil_append, List.cons_append, Nat.reduceBEq, Bool.or_false, Bool.false_or, Bool.or_true, Bool.true_or, cond_true, cond_false]
              refine d_take 13 rfl (by kernel_rfl) rfl rfl (pu_lenKn (n := (4)) hT rfl rfl (ev_tmp rfl) rfl rfl) rfl rfl rfl rfl ?_
              refine d_done (by kernel_rfl) ?_
              exact then_n (weak_sub ⟨rfl, rfl, rfl, rfl, rfl, rfl, rfl, rfl, rfl, trivial⟩ ⟨rfl, trivial⟩ ⟨rfl, rfl, rfl, trivial⟩ rfl)
            · skip
              refine j_convSB (k := 36) 11 hT rfl rfl rfl rfl rfl rfl rfl rfl (ev_tmp rfl) rfl rfl rfl ?_
              refine d_callK 900011 8 rfl (by kernel_rfl) rfl rfl rfl Try.call68 (ok_impl_EncodeRecord (r := (((l)).getD ((k : Int)).toNat default).2.2.2.1) ) (as_cons (ev_tmp rfl) (ag_agg (ag_cons ac_dv ag_nil)) as_nil) rfl rfl rfl rfl rfl ?_
              refine d_buildN (k := 37) (js := [27, 900510, 900511, 36]) 12 hT rfl (by kernel_rfl) rfl rfl rfl rfl rfl rfl rfl rfl rfl rfl rfl (ep_cons (ev_tmp rfl) rfl rfl rfl (ep_cons (ev_tmp rfl) rfl rfl rfl (ep_cons (ev_tmp rfl) rfl rfl rfl (ep_cons (ev_tmp rfl) rfl rfl rfl ep_nil)))) (ow_cons' (ow_key rfl) (ow_cons' (ow_key rfl) (ow_cons' (ow_key rfl) (ow_cons' (ow_key rfl) ow_nil rfl) rfl) rfl) rfl) (by decide) (by decide) rfl rfl rfl rfl ?_
              simp only [killT, killB, SV.kill, CV.kill, List.map_cons, List.map_nil, List.any_cons, List.any_nil, List.contains_cons, List.contains_nil, List.nil_append, List.cons_append, Nat.reduceBEq, Bool.or_false, Bool.false_or, Bool.or_true, Bool.true_or, cond_true, cond_false]
              refine d_take 13 rfl (by kernel_rfl) rfl rfl (pu_lenKn (n := (4)) hT rfl rfl (ev_tmp rfl) rfl rfl) rfl rfl rfl rfl ?_
              refine d_done (by kernel_rfl) ?_
              exact then_n (weak_sub ⟨rfl, rfl, rfl, rfl, rfl, rfl, rfl, rfl, rfl, trivial⟩ ⟨rfl, trivial⟩ ⟨rfl, rfl, rfl, trivial⟩ rfl)
          · skip
            refine j_convSB (k := 36) 11 hT rfl rfl rfl rfl rfl rfl rfl rfl (ev_tmp rfl) rfl rfl rfl ?_
            refine d_callK 900498 5 rfl (by kernel_rfl) rfl rfl rfl Try.call67 (ok_impl_EncodeKey (k := (((l)).getD ((k : Int)).toNat default).2.2.1) ) (as_cons (ev_tmp rfl) (ag_agg (ag_cons ac_dv (ag_cons ac_dv (ag_cons ac_dv ag_nil)))) as_nil) rfl rfl rfl rfl rfl ?_
            refine d_callK 900011 8 rfl (by kernel_rfl) rfl rfl rfl Try.call68 (ok_impl_EncodeRecord (r := (((l)).getD ((k : Int)).toNat default).2.2.2.1) ) (as_cons (ev_tmp rfl) (ag_agg (ag_cons ac_dv ag_nil)) as_nil) rfl rfl rfl rfl rfl ?_
            refine d_buildN (k := 37) (js := [27, 900510, 900511, 36]) 12 hT rfl (by kernel_rfl) rfl rfl rfl rfl rfl rfl rfl rfl rfl rfl rfl (ep_cons (ev_tmp rfl) rfl rfl rfl (ep_cons (ev_tmp rfl) rfl rfl rfl (ep_cons (ev_tmp rfl) rfl rfl rfl (ep_cons (ev_tmp rfl) rfl rfl rfl ep_nil)))) (ow_cons' (ow_key rfl) (ow_cons' (ow_key rfl) (ow_cons' (ow_key rfl) (ow_cons' (ow_key rfl) ow_nil rfl) rfl) rfl) rfl) (by decide) (by decide) rfl rfl rfl rfl ?_
            simp only [killT, killB, SV.kill, CV.kill, List.map_cons, List.map_nil, List.any_cons, List.any_nil, List.contains_cons, List.contains_nil, List.nil_append, List.cons_append, Nat.reduceBEq, Bool.or_false, Bool.false_or, Bool.or_true, Bool.true_or, cond_true, cond_false]
            refine d_take 13 rfl (by kernel_rfl) rfl rfl (pu_lenKn (n := (4)) hT rfl rfl (ev_tmp rfl) rfl rfl) rfl rfl rfl rfl ?_
            refine d_done (by kernel_rfl) ?_
            exact then_n (weak_sub ⟨rfl, rfl, rfl, rfl, rfl, rfl, rfl, rfl, rfl, trivial⟩ ⟨rfl, trivial⟩ ⟨rfl, rfl, rfl, trivial⟩ rfl)
        · skip
          refine j_callK 900498 5 rfl rfl rfl rfl Try.call67 (ok_impl_EncodeKey (k := (((l)).getD ((k : Int)).toNat default).2.2.1) ) (as_cons (ev_tmp rfl) (ag_agg (ag_cons ac_dv (ag_cons ac_dv (ag_cons ac_dv ag_nil)))) as_nil) rfl rfl rfl rfl rfl ?_
          refine d_split 2 [8, 11] (by kernel_rfl) ⟨?_, ?_, ?_, trivial⟩
          · skip
            refine j_convSB (k := 27) 2 hT rfl rfl rfl rfl rfl rfl rfl rfl (ev_tmp rfl) rfl rfl rfl ?_
            refine d_split 8 [11] (by kernel_rfl) ⟨?_, ?_, trivial⟩
            · skip
              refine j_callK 900011 8 rfl rfl rfl rfl Try.call68 (ok_impl_EncodeRecord (r := (((l)).getD ((k : Int)).toNat default).2.2.2.1) ) (as_cons (ev_tmp rfl) (ag_agg (ag_cons ac_dv ag_nil)) as_nil) rfl rfl rfl rfl rfl ?_
              refine d_convSB (k := 36) 11 hT rfl (by kernel_rfl) rfl rfl rfl rfl rfl rfl rfl (ev_tmp rfl) rfl rfl rfl ?_
              refine d_buildN (k := 37) (js := [27, 900510, 900511, 36]) 12 hT rfl (by kernel_rfl) rfl rfl rfl rfl rfl rfl rfl rfl rfl rfl rfl (ep_cons (ev_tmp rfl) rfl rfl rfl (ep_cons (ev_tmp rfl) rfl rfl rfl (ep_cons (ev_tmp rfl) rfl rfl rfl (ep_cons (ev_tmp rfl) rfl rfl rfl ep_nil)))) (ow_cons' (ow_key rfl) (ow_cons' (ow_key rfl) (ow_cons' (ow_key rfl) (ow_cons' (ow_key rfl) ow_nil rfl) rfl) rfl) rfl) (by decide) (by decide) rfl rfl rfl rfl ?_
              simp only [killT, killB, SV.kill, CV.kill, List.map_cons, List.map_nil, List.any_cons, List.any_nil, List.contains_cons, List.contains_nil, List.nil_append, List.cons_append, Nat.reduceBEq, Bool.or_false, Bool.false_or, Bool.or_true, Bool.true_or, cond_true, cond_false]
              refine d_take 13 rfl (by kernel_rfl) rfl rfl (pu_lenKn (n := (4)) hT rfl rfl (ev_tmp rfl) rfl rfl) rfl rfl rfl rfl ?_
              refine d_done (by kernel_rfl) ?_
              exact then_n (weak_sub ⟨rfl, rfl, rfl, rfl, rfl, rfl, rfl, rfl, rfl, trivial⟩ ⟨rfl, trivial⟩ ⟨rfl, rfl, rfl, trivial⟩ rfl)
            · skip
              refine j_convSB (k := 36) 11 hT rfl rfl rfl rfl rfl rfl rfl rfl (ev_tmp rfl) rfl rfl rfl ?_
              refine d_callK 900011 8 rfl (by kernel_rfl) rfl rfl rfl Try.call68 (ok_impl_EncodeRecord (r := (((l)).getD ((k : Int)).toNat default).2.2.2.1) ) (as_cons (ev_tmp rfl) (ag_agg (ag_cons ac_dv ag_nil)) as_nil) rfl rfl rfl rfl rfl ?_
              refine d_buildN (k := 37) (js := [27, 900510, 900511, 36]) 12 hT rfl (by kernel_rfl) rfl rfl rfl rfl rfl rfl rfl rfl rfl rfl rfl (ep_cons (ev_tmp rfl) rfl rfl rfl (ep_cons (ev_tmp rfl) rfl rfl rfl (ep_cons (ev_tmp rfl) rfl rfl rfl (ep_cons (ev_tmp rfl) rfl rfl rfl ep_nil)))) (ow_cons' (ow_key rfl) (ow_cons' (ow_key rfl) (ow_cons' (ow_key rfl) (ow_cons' (ow_key rfl) ow_nil rfl) rfl) rfl) rfl) (by decide) (by decide) rfl rfl rfl rfl ?_
              simp only [killT, killB, SV.kill, CV.kill, List.map_cons, List.map_nil, List.any_cons, List.any_nil, List.contains_cons, List.contains_nil, List.nil_append, List.cons_append, Nat.reduceBEq, Bool.or_false, Bool.false_or, Bool.or_true, Bool.true_or, cond_true, cond_false]
              refine d_take 13 rfl (by kernel_rfl) rfl rfl (pu_lenKn (n := (4)) hT rfl rfl (ev_tmp rfl) rfl rfl) rfl rfl rfl rfl ?_
              refine d_done (by kernel_rfl) ?_
              exact then_n (weak_sub ⟨rfl, rfl, rfl, rfl, rfl, rfl, rfl, rfl, rfl, trivial⟩ ⟨rfl, trivial⟩ ⟨rfl, rfl, rfl, trivial⟩ rfl)
          · skip
            refine j_callK 900011 8 rfl rfl rfl rfl Try.call68 (ok_impl_EncodeRecord (r := (((l)).getD ((k : Int)).toNat default).2.2.2.1) ) (as_cons (ev_tmp rfl) (ag_agg (ag_cons ac_dv ag_nil)) as_nil) rfl rfl rfl rfl rfl ?_
            refine d_split 2 [11] (by kernel_rfl) ⟨?_, ?_, trivial⟩
            · skip
              refine j_convSB (k := 27) 2 hT rfl rfl rfl rfl rfl rfl rfl rfl (ev_tmp rfl) rfl rfl rfl ?_
              refine d_convSB (k := 36) 11 hT rfl (by kernel_rfl) rfl rfl rfl rfl rfl rfl rfl (ev_tmp rfl) rfl rfl rfl ?_
              refine d_buildN (k := 37) (js := [27, 900510, 900511, 36]) 12 hT rfl (by kernel_rfl) rfl rfl rfl rfl rfl rfl rfl rfl rfl rfl rfl (ep_cons (ev_tmp rfl) rfl rfl rfl (ep_cons (ev_tmp rfl) rfl rfl rfl (ep_cons (ev_tmp rfl) rfl rfl rfl (ep_cons (ev_tmp rfl) rfl rfl rfl ep_nil)))) (ow_cons' (ow_key rfl) (ow_cons' (ow_key rfl) (ow_cons' (ow_key rfl) (ow_cons' (ow_key rfl) ow_nil rfl) rfl) rfl) rfl) (by decide) (by decide) rfl rfl rfl rfl ?_
              simp only [killT, killB, SV.kill, CV.kill, List.map_cons, List.map_nil, List.any_cons, List.any_nil, List.contains_cons, List.contains_nil, List.nil_append, List.cons_append, Nat.reduceBEq, Bool.or_false, Bool.false_or, Bool.or_true, Bool.true_or, cond_true, cond_false]
              refine d_take 13 rfl (by kernel_rfl) rfl rfl (pu_lenKn (n := (4)) hT rfl rfl (ev_tmp rfl) rfl rfl) rfl rfl rfl rfl ?_
              refine d_done (by kernel_rfl) ?_
              exact then_n (weak_sub ⟨rfl, rfl, rfl, rfl, rfl, rfl, rfl, rfl, rfl, trivial⟩ ⟨rfl, trivial⟩ ⟨rfl, rfl, rfl, trivial⟩ rfl)
            · skip
              refine j_convSB (k := 36) 11 hT rfl rfl rfl rfl rfl rfl rfl rfl (ev_tmp rfl) rfl rfl rfl ?_
              refine d_convSB (k := 27) 2 hT rfl (by kernel_rfl) rfl rfl rfl rfl rfl rfl rfl (ev_tmp rfl) rfl rfl rfl ?_
              refine d_buildN (k := 37) (js := [27, 900510, 900511, 36]) 12 hT rfl (by kernel_rfl) rfl rfl rfl rfl rfl rfl rfl rfl rfl rfl rfl (ep_cons (ev_tmp rfl) rfl rfl rfl (ep_cons (ev_tmp rfl) rfl rfl rfl (ep_cons (ev_tmp rfl) rfl rfl rfl (ep_cons (ev_tmp rfl) rfl rfl rfl ep_nil)))) (ow_cons' (ow_key rfl) (ow_cons' (ow_key rfl) (ow_cons' (ow_key rfl) (ow_cons' (ow_key rfl) ow_nil rfl) rfl) rfl) rfl) (by decide) (by decide) rfl rfl rfl rfl ?_
              simp only [killT, killB, SV.kill, CV.kill, List.map_cons, List.map_nil, List.any_cons, List.any_nil, List.contains_cons, List.contains_nil, List.nil_append, List.cons_append, Nat.reduceBEq, Bool.or_false, Bool.false_or, Bool.or_true, Bool.true_or, cond_true, cond_false]
              refine d_take 13 rfl (by kernel_rfl) rfl rfl (pu_lenKn (n := (4)) hT rfl rfl (ev_tmp rfl) rfl rfl) rfl rfl rfl rfl ?_
              refine d_done (by kernel_rfl) ?_
              exact then_n (weak_sub ⟨rfl, rfl, rfl, rfl, rfl, rfl, rfl, rfl, rfl, trivial⟩ ⟨rfl, trivial⟩ ⟨rfl, rfl, rfl, trivial⟩ rfl)
          · skip
            refine j_convSB (k := 36) 11 hT rfl rfl rfl rfl rfl rfl rfl rfl (ev_tmp rfl) rfl rfl rfl ?_
            refine d_split 2 [8] (by kernel_rfl) ⟨?_, ?_, trivial⟩
            · skip
              refine j_convSB (k := 27) 2 hT rfl rfl rfl rfl rfl rfl rfl rfl (ev_tmp rfl) rfl rfl rfl ?_
              refine d_callK 900011 8 rfl (by kernel_rfl) rfl rfl rfl Try.call68 (ok_impl_EncodeRecord (r := (((l)).getD ((k : Int)).toNat default).2.2.2.1) ) (as_cons (ev_tmp rfl) (ag_agg (ag_cons ac_dv ag_nil)) as_nil) rfl rfl rfl rfl rfl ?_
              refine d_buildN (k := 37) (js := [27, 900510, 900511, 36]) 12 hT rfl (by kernel_rfl) rfl rfl rfl rfl rfl rfl rfl rfl rfl rfl rfl (ep_cons (ev_tmp rfl) rfl rfl rfl (ep_cons (ev_tmp rfl) rfl rfl rfl (ep_cons (ev_tmp rfl) rfl rfl rfl (ep_cons (ev_tmp rfl) rfl rfl rfl ep_nil)))) (ow_cons' (ow_key rfl) (ow_cons' (ow_key rfl) (ow_cons' (ow_key rfl) (ow_cons' (ow_key rfl) ow_nil rfl) rfl) rfl) rfl) (by decide) (by decide) rfl rfl rfl rfl ?_
              simp only [killT, killB, SV.kill, CV.kill, List.map_cons, List.map_nil, List.any_cons, List.any_nil, List.contains_cons, List.contains_nil, List.nil_append, List.cons_append, Nat.reduceBEq, Bool.or_false, Bool.false_or, Bool.or_true, Bool.true_or, cond_true, cond_false]
              refine d_take 13 rfl (by kernel_rfl) rfl rfl (pu_lenKn (n := (4)) hT rfl rfl (ev_tmp rfl) rfl rfl) rfl rfl rfl rfl ?_
              refine d_done (by kernel_rfl) ?_
              exact then_n (weak_sub ⟨rfl, rfl, rfl, rfl, rfl, rfl, rfl, rfl, rfl, trivial⟩ ⟨rfl, trivial⟩ ⟨rfl, rfl, rfl, trivial⟩ rfl)
            · skip
              refine j_callK 900011 8 rfl rfl rfl rfl Try.call68 (ok_impl_EncodeRecord (r := (((l)).getD ((k : Int)).toNat default).2.2.2.1) ) (as_cons (ev_tmp rfl) (ag_agg (ag_cons ac_dv ag_nil)) as_nil) rfl rfl rfl rfl rfl ?_
              refine d_convSB (k := 27) 2 hT rfl (by kernel_rfl) rfl rfl rfl rfl rfl rfl rfl (ev_tmp rfl) rfl rfl rfl ?_
              refine d_buildN (k := 37) (js := [27, 900510, 900511, 36]) 12 hT rfl (by kernel_rfl) rfl rfl rfl rfl rfl rfl rfl rfl rfl rfl rfl (ep_cons (ev_tmp rfl) rfl rfl rfl (ep_cons (ev_tmp rfl) rfl rfl rfl (ep_cons (ev_tmp rfl) rfl rfl rfl (ep_cons (ev_tmp rfl) rfl rfl rfl ep_nil)))) (ow_cons' (ow_key rfl) (ow_cons' (ow_key rfl) (ow_cons' (ow_key rfl) (ow_cons' (ow_key rfl) ow_nil rfl) rfl) rfl) rfl) (by decide) (by decide) rfl rfl rfl rfl ?_
              simp only [killT, killB, SV.kill, CV.kill, List.map_cons, List.map_nil, List.any_cons, List.any_nil, List.contains_cons, List.contains_nil, List.nil_append, List.cons_append, Nat.reduceBEq, Bool.or_false, Bool.false_or, Bool.or_true, Bool.true_or, cond_true, cond_false]
              refine d_take 13 rfl (by kernel_rfl) rfl rfl (pu_lenKn (n := (4)) hT rfl rfl (ev_tmp rfl) rfl rfl) rfl rfl rfl rfl ?_
              refine d_done (by kernel_rfl) ?_
              exact then_n (weak_sub ⟨rfl, rfl, rfl, rfl, rfl, rfl, rfl, rfl, rfl, trivial⟩ ⟨rfl, trivial⟩ ⟨rfl, rfl, rfl, trivial⟩ rfl)
        · skip
          refine j_convSB (k := 36) 11 hT rfl rfl rfl rfl rfl rfl rfl rfl (ev_tmp rfl) rfl rfl rfl ?_
          refine d_split 2 [5] (by kernel_rfl) ⟨?_, ?_, trivial⟩
          · skip
            refine j_convSB (k := 27) 2 hT rfl rfl rfl rfl rfl rfl rfl rfl (ev_tmp rfl) rfl rfl rfl ?_
            refine d_callK 900498 5 rfl (by kernel_rfl) rfl rfl rfl Try.call67 (ok_impl_EncodeKey (k := (((l)).getD ((k : Int)).toNat default).2.2.1) ) (as_cons (ev_tmp rfl) (ag_agg (ag_cons ac_dv (ag_cons ac_dv (ag_cons ac_dv ag_nil)))) as_nil) rfl rfl rfl rfl rfl ?_
            refine d_callK 900011 8 rfl (by kernel_rfl) rfl rfl rfl Try.call68 (ok_impl_EncodeRecord (r := (((l)).getD ((k : Int)).toNat default).2.2.2.1) ) (as_cons (ev_tmp rfl) (ag_agg (ag_cons ac_dv ag_nil)) as_nil) rfl rfl rfl rfl rfl ?_
            refine d_buildN (k := 37) (js := [27, 900510, 900511, 36]) 12 hT rfl (by kernel_rfl) rfl rfl rfl rfl rfl rfl rfl rfl rfl rfl rfl (ep_cons (ev_tmp rfl) rfl rfl rfl (ep_cons (ev_tmp rfl) rfl rfl rfl (ep_cons (ev_tmp rfl) rfl rfl rfl (ep_cons (ev_tmp rfl) rfl rfl rfl ep_nil)))) (ow_cons' (ow_key rfl) (ow_cons' (ow_key rfl) (ow_cons' (ow_key rfl) (ow_cons' (ow_key rfl) ow_nil rfl) rfl) rfl) rfl) (by decide) (by decide) rfl rfl rfl rfl ?_
            simp only [killT, killB, SV.kill, CV.kill, List.map_cons, List.map_nil, List.any_cons, List.any_nil, List.contains_cons, List.contains_nil, List.nil_append, List.cons_append, Nat.reduceBEq, Bool.or_false, Bool.false_or, Bool.or_true, Bool.true_or, cond_true, cond_false]
            refine d_take 13 rfl (by kernel_rfl) rfl rfl (pu_lenKn (n := (4)) hT rfl rfl (ev_tmp rfl) rfl rfl) rfl rfl rfl rfl ?_
            refine d_done (by kernel_rfl) ?_
            exact then_n (weak_sub ⟨rfl, rfl, rfl, rfl, rfl, rfl, rfl, rfl, rfl, trivial⟩ ⟨rfl, trivial⟩ ⟨rfl, rfl, rfl, trivial⟩ rfl)
          · skip
            refine j_callK 900498 5 rfl rfl rfl rfl Try.call67 (ok_impl_EncodeKey (k := (((l)).getD ((k : Int)).toNat default).2.2.1) ) (as_cons (ev_tmp rfl) (ag_agg (ag_cons ac_dv (ag_cons ac_dv (ag_cons ac_dv ag_nil)))) as_nil) rfl rfl rfl rfl rfl ?_
            refine d_split 2 [8] (by kernel_rfl) ⟨?_, ?_, trivial⟩
            · skip
              refine j_convSB (k := 27) 2 hT rfl rfl rfl rfl rfl rfl rfl rfl (ev_tmp rfl) rfl rfl rfl ?_
              refine d_callK 900011 8 rfl (by kernel_rfl) rfl rfl rfl Try.call68 (ok_impl_EncodeRecord (r := (((l)).getD ((k : Int)).toNat default).2.2.2.1) ) (as_cons (ev_tmp rfl) (ag_agg (ag_cons ac_dv ag_nil)) as_nil) rfl rfl rfl rfl rfl ?_
              refine d_buildN (k := 37) (js := [27, 900510, 900511, 36]) 12 hT rfl (by kernel_rfl) rfl rfl rfl rfl rfl rfl rfl rfl rfl rfl rfl (ep_cons (ev_tmp rfl) rfl rfl rfl (ep_cons (ev_tmp rfl) rfl rfl rfl (ep_cons (ev_tmp rfl) rfl rfl rfl (ep_cons (ev_tmp rfl) rfl rfl rfl ep_nil)))) (ow_cons' (ow_key rfl) (ow_cons' (ow_key rfl) (ow_cons' (ow_key rfl) (ow_cons' (ow_key rfl) ow_nil rfl) rfl) rfl) rfl) (by decide) (by decide) rfl rfl rfl rfl ?_
              simp only [killT, killB, SV.kill, CV.kill, List.map_cons, List.map_nil, List.any_cons, List.any_nil, List.contains_cons, List.contains_nil, List.nil_append, List.cons_append, Nat.reduceBEq, Bool.or_false, Bool.false_or, Bool.or_true, Bool.true_or, cond_true, cond_false]
              refine d_take 13 rfl (by kernel_rfl) rfl rfl (pu_lenKn (n := (4)) hT rfl rfl (ev_tmp rfl) rfl rfl) rfl rfl rfl rfl ?_
              refine d_done (by kernel_rfl) ?_
              exact then_n (weak_sub ⟨rfl, rfl, rfl, rfl, rfl, rfl, rfl, rfl, rfl, trivial⟩ ⟨rfl, trivial⟩ ⟨rfl, rfl, rfl, trivial⟩ rfl)
            · skip
              refine j_callK 900011 8 rfl rfl rfl rfl Try.call68 (ok_impl_EncodeRecord (r := (((l)).getD ((k : Int)).toNat default).2.2.2.1) ) (as_cons (ev_tmp rfl) (ag_agg (ag_cons ac_dv ag_nil)) as_nil) rfl rfl rfl rfl rfl ?_
              refine d_convSB (k := 27) 2 hT rfl (by kernel_rfl) rfl rfl rfl rfl rfl rfl rfl (ev_tmp rfl) rfl rfl rfl ?_
              refine d_buildN (k := 37) (js := [27, 900510, 900511, 36]) 12 hT rfl (by kernel_rfl) rfl rfl rfl rfl rfl rfl rfl rfl rfl rfl rfl (ep_cons (ev_tmp rfl) rfl rfl rfl (ep_cons (ev_tmp rfl) rfl rfl rfl (ep_cons (ev_tmp rfl) rfl rfl rfl (ep_cons (ev_tmp rfl) rfl rfl rfl ep_nil)))) (ow_cons' (ow_key rfl) (ow_cons' (ow_key rfl) (ow_cons' (ow_key rfl) (ow_cons' (ow_key rfl) ow_nil rfl) rfl) rfl) rfl) (by decide) (by decide) rfl rfl rfl rfl ?_
              simp only [killT, killB, SV.kill, CV.kill, List.map_cons, List.map_nil, List.any_cons, List.any_nil, List.contains_cons, List.contains_nil, List.nil_append, List.cons_append, Nat.reduceBEq, Bool.or_false, Bool.false_or, Bool.or_true, Bool.true_or, cond_true, cond_false]
              refine d_take 13 rfl (by kernel_rfl) rfl rfl (pu_lenKn (n := (4)) hT rfl rfl (ev_tmp rfl) rfl rfl) rfl rfl rfl rfl ?_
              refine d_done (by kernel_rfl) ?_
              exact then_n (weak_sub ⟨rfl, rfl, rfl, rfl, rfl, rfl, rfl, rfl, rfl, trivial⟩ ⟨rfl, trivial⟩ ⟨rfl, rfl, rfl, trivial⟩ rfl)
      refine ok_block ?_
      refine ok_weak (weak_view (d := 37) (dd := bytessD (partsO (l.getD (k : Int).toNat default))) rfl rfl (ds_sl (dss_cons ds_ty (dss_cons ds_ty (dss_cons ds_ty (dss_cons ds_ty dss_nil)))))) ?_
      refine ok_loop (ι := Nat) (fun zz => ⟨[(2, .one .nil), (3, .one (.key 900501)), (15, .one (.dv [] (opsD (l)))), (16, .one (.dv [] (.int .i64 ((((l)).length : Int))))), (17, .one (.dv [] (.int .i64 ((k : Int))))), (37, .one (.dv [37] (bytessD (partsO (l.getD (k : Int).toNat default))))), (38, .one (.dv [] (.int .i64 (((4) : Int))))), (39, .one (.dv [] (.int .i64 ((zz : Int)))))], [], [(37, some (kcOf false (.sl 35 1 (4) ([.sl 1000005 1 (((((l)).getD ((k : Int)).toNat default).2.1).data.toList.length) (((((l)).getD ((k : Int)).toNat default).2.1).data.toList.flatMap eByte), bytesD (encK ((((l)).getD ((k : Int)).toNat default).2.2.1)), bytesD (encR ((((l)).getD ((k : Int)).toNat default).2.2.2.1)), .sl 1000005 1 (((((l)).getD ((k : Int)).toNat default).2.2.2.2).data.toList.length) (((((l)).getD ((k : Int)).toNat default).2.2.2.2).data.toList.flatMap eByte)])))), (900500, some (kcOf false (.sl 5 1 ((encON l k).length) ((encON l k).flatMap eByte)))), (900501, some (kcOf false (.sl 5 1 ((opPart (encON l k) (l.getD (k : Int).toNat default) zz).length) ((opPart (encON l k) (l.getD (k : Int).toNat default) zz).flatMap eByte))))]⟩) (fun zz => zz ≤ 4) (fun zz => 4 - zz) (0) ?_ (weak_sub ⟨rfl, rfl, rfl, rfl, rfl, rfl, rfl, rfl, trivial⟩ trivial ⟨rfl, rfl, rfl, trivial⟩ rfl) (fun zz hx => ?_)
      · exact Nat.zero_le _
      obtain ⟨j, rfl⟩ : ∃ v, v = zz := ⟨_, rfl⟩
      replace hx : j ≤ 4 := hx
      have hj := hx
      show Ok _ _ _ _ _ (⟨[(2, .one .nil), (3, .one (.key 900501)), (15, .one (.dv [] (opsD (l)))), (16, .one (.dv [] (.int .i64 ((((l)).length : Int))))), (17, .one (.dv [] (.int .i64 ((k : Int))))), (37, .one (.dv [37] (bytessD (partsO (l.getD (k : Int).toNat default))))), (38, .one (.dv [] (.int .i64 (((4) : Int))))), (39, .one (.dv [] (.int .i64 ((j : Int)))))], [], [(37, some (kcOf false (.sl 35 1 (4) ([.sl 1000005 1 (((((l)).getD ((k : Int)).toNat default).2.1).data.toList.length) (((((l)).getD ((k : Int)).toNat default).2.1).data.toList.flatMap eByte), bytesD (encK ((((l)).getD ((k : Int)).toNat default).2.2.1)), bytesD (encR ((((l)).getD ((k : Int)).toNat default).2.2.2.1)), .sl 1000005 1 (((((l)).getD ((k : Int)).toNat default).2.2.2.2).data.toList.length) (((((l)).getD ((k : Int)).toNat default).2.2.2.2).data.toList.flatMap eByte)])))), (900500, some (kcOf false (.sl 5 1 ((encON l k).length) ((encON l k).flatMap eByte)))), (900501, some (kcOf false (.sl 5 1 ((opPart (encON l k) (l.getD (k : Int).toNat default) j).length) ((opPart (encON l k) (l.getD (k : Int).toNat default) j).flatMap eByte))))]⟩ : St)
      refine ok_seq ?_
      refine ok_region ?_
      refine o_pure rfl rfl (pu_lss rfl (ev_tmp rfl) (ev_tmp rfl)) rfl rfl ?_
      refine ops_nil ?_
      refine then_n ?_
      refine ok_seq ?_
      refine ok_cond (ev_tmp rfl) (fun c3 => ?_) (fun c3 => ?_)
      · skip
        have d3 := of_decide_eq_true c3
        have hj4 : j < 4 := by omega
        have hpn : (partsO (l.getD (k : Int).toNat default)).length = 4 := rfl
        have hpl := part_len hop j
        have hol := opPart_len (b := (encON l k)) hop j
        refine ok_skip ?_
        refine then_n ?_
        refine ok_seq ?_
        refine ok_block ?_
        refine ok_seq ?_
        refine ok_region ?_
        refine o_pure rfl rfl (pu_indexD hT rfl rfl rfl (ev_tmp rfl) (ev_tmp rfl) (fun _ => rfl) (by first | omega | (simp only [Bool.and_eq_true, Bool.or_eq_true, Bool.or_eq_false_iff, Bool.and_eq_false_iff, Bool.not_eq_true', Bool.not_eq_false', beq_iff_eq, decide_eq_true_eq, decide_eq_false_iff_not] at hg; omega) | (have hh := of_decide_eq_true (beq_tt hg); omega) | (have hh := of_decide_eq_true (beq_tt (and_r hg)); omega)) (by first | omega | (simp only [Bool.and_eq_true, Bool.or_eq_true, Bool.or_eq_false_iff, Bool.and_eq_false_iff, Bool.not_eq_true', Bool.not_eq_false', beq_iff_eq, decide_eq_true_eq, decide_eq_false_iff_not] at hg; omega) | (have hh := of_decide_eq_true (beq_tt hg); omega) | (have hh := of_decide_eq_true (beq_tt (and_r hg)); omega))) rfl rfl ?_
        refine o_pure rfl rfl (pu_loadRef1 hT rfl rfl (ev_tmp rfl) rfl) rfl rfl ?_
        refine o_pure rfl rfl (pu_move (.inr rfl) (ev_tmp rfl)) rfl rfl ?_
        refine ops_nil ?_
        refine then_n ?_
        refine ok_region ?_
        refine o_pure rfl rfl (pu_move (.inl rfl) (ev_tmp rfl)) rfl rfl ?_
        refine o_pure rfl rfl (pu_move (.inl rfl) (ev_tmp rfl)) rfl rfl ?_
        refine o_callK 892472 rfl rfl rfl Try.call69 (ok_impl_AppendBytes (x := (opPart (encON l k) (l.getD (k : Int).toNat default) j)) (y := (partsO (l.getD (k : Int).toNat default)).getD (j : Int).toNat default) (by omega) (by omega)) (as_cons (ev_tmp rfl) (ag_one (ac_key' rfl rfl)) (as_cons (ev_tmp rfl) (ag_one ac_dv) as_nil)) rfl rfl rfl ?_
        refine o_pure rfl rfl (pu_move (.inr rfl) (ev_tmp rfl)) rfl rfl ?_
        refine ops_nil ?_
        refine blk_n ?_
        refine then_n ?_
        refine ok_weak (weak_swap (s := 3) (k := 900502) (k' := 900501) rfl rfl rfl (by decide) rfl) ?_
        simp only [killT, killB, SV.kill, CV.kill, List.map_cons, List.map_nil, List.any_cons, List.any_nil, List.contains_cons, List.contains_nil, List.nil_append, List.cons_append, Nat.reduceBEq, Bool.or_false, Bool.false_or, Bool.or_true, Bool.true_or, cond_true, cond_false]
        refine ok_region ?_
        refine o_pure rfl rfl (pu_addR rfl (ev_tmp rfl) (ev_int (inR_lit rfl)) (inR64 (by omega) (by omega))) rfl rfl ?_
        refine o_pure rfl rfl (pu_move (.inl rfl) (ev_tmp rfl)) rfl rfl ?_
        refine ops_nil ?_
        refine then_n ?_
        refine ⟨j + 1, ?_, ?_, weak_sub ⟨rfl, rfl, rfl, rfl, rfl, rfl, rfl, rfl, trivial⟩ trivial ⟨rfl, rfl, rfl, trivial⟩ rfl⟩
        · omega
        · omega
      · skip
        have d3 := of_decide_eq_false c3
        have hj4 : j = 4 := by omega
        refine ok_exit ?_
        refine then_e ?_
        refine then_e ?_
        refine blk_e rfl ?_
        refine blk_n ?_
        refine then_n ?_
        refine ok_weak (weak_swap (s := 3) (k := 900501) (k' := 900500) rfl rfl rfl (by decide) rfl) ?_
        simp only [killT, killB, SV.kill, CV.kill, List.map_cons, List.map_nil, List.any_cons, List.any_nil, List.contains_cons, List.contains_nil, List.nil_append, List.cons_append, Nat.reduceBEq, Bool.or_false, Bool.false_or, Bool.or_true, Bool.true_or, cond_true, cond_false]
        refine ok_region ?_
        refine o_pure rfl rfl (pu_addR rfl (ev_tmp rfl) (ev_int (inR_lit rfl)) (inR64 (by omega) (by omega))) rfl rfl ?_
        refine o_pure rfl rfl (pu_move (.inl rfl) (ev_tmp rfl)) rfl rfl ?_
        refine ops_nil ?_
        refine then_n ?_
        refine ⟨k + 1, ?_, ?_, weak_sub ⟨rfl, rfl, rfl, rfl, rfl, trivial⟩ trivial ⟨(by rw [hj4]; rfl), trivial⟩ rfl⟩
        · omega
        · omega
    · skip
      have d2 := of_decide_eq_false c2
      refine ok_exit ?_
      refine then_e ?_
      refine then_e ?_
      refine blk_e rfl ?_
      refine then_n ?_
      refine ok_seq ?_
      refine ok_region ?_
      refine o_pure rfl rfl (pu_move (.inl rfl) (ev_tmp rfl)) rfl rfl ?_
      refine o_pure rfl rfl (pu_move (.inr rfl) (ev_tmp rfl)) rfl rfl ?_
      refine ops_nil ?_
      refine then_n ?_
      refine ok_weak (σ' := ⟨[(2, .one (.key 900500))], [], [(900500, some (kcOf false (bytesD (encO l))))]⟩) (weak_sub ⟨rfl, trivial⟩ trivial ⟨(by first | exact congrArg (fun l : List UInt8 => some (some (KC.mk false 5 1 l.length (l.flatMap eByte)))) (show ([] : List UInt8) = encO l from (encO_bad hk0).symm) | exact congrArg (fun l : List UInt8 => some (some (KC.mk false 5 1 l.length (l.flatMap eByte)))) (encO_ok hk1 (by omega)).symm), trivial⟩ rfl) ?_
      refine ok_ret ?_
      refine fin1 (res_tmp rfl) ?_
      exact ⟨rfl, rfl⟩
set_option maxRecDepth 100000 in
theorem ok_spec_EncodeOps {l : List OpT} (hb : l.length ≤ 1048576) : KFn Try.prog 22 [.one (.dv [] (opsD (l)))] (.one (.key 900500)) [(900500, some (kcOf false (bytesD (encO l))))] := by
  refine ⟨fn_intro Try.func22 rfl Try.ntmps22 Try.results22 rfl (fun C => ?_)⟩
  refine ok_fact (x := .tmp 0) (ev_tmp rfl) (fun (f0 : ((l)).length ≤ 9223372036854775807) => ?_)
  refine ok_seq ?_
  refine ok_region ?_
  refine o_pure rfl rfl (pu_move (.inr rfl) ev_nil) rfl rfl ?_
  refine ops_nil ?_
  refine then_n ?_
  refine ok_seq ?_
  refine ok_region ?_
  refine o_build0 (k := 5) hT rfl rfl rfl rfl rfl rfl rfl rfl ?_
  refine o_pure rfl rfl (pu_move (.inl rfl) (ev_tmp rfl)) rfl rfl ?_
  refine o_pure rfl rfl (pu_lenV hT rfl rfl (ev_tmp rfl)) rfl rfl ?_
  refine o_callK 900494 rfl rfl rfl Try.call59 (ok_spec_AppendUvarint (x := []) (n := (l.length : Int)) (by simp)) (as_cons (ev_tmp rfl) (ag_one (ac_key' rfl rfl)) (as_cons (ev_tmp rfl) (ag_one ac_dv) as_nil)) rfl rfl rfl ?_
  refine o_pure rfl rfl (pu_move (.inr rfl) (ev_tmp rfl)) rfl rfl ?_
  refine ops_nil ?_
  refine then_n ?_
  refine ok_seq ?_
  refine ok_seq ?_
  refine ok_region ?_
  refine o_pure rfl rfl (pu_move (.inr rfl) (ev_int (inR_lit rfl))) rfl rfl ?_
  refine ops_nil ?_
  refine then_n ?_
  refine ok_block ?_
  refine ok_loop (ι := Nat) (fun zz => ⟨[(0, .one (.dv [] (opsD (l)))), (3, .one (.key 900500)), (4, .one (.dv [] (.int .i64 ((zz : Int)))))], [], [(900500, some (kcOf false (.sl 5 1 ((encON l zz).length) ((encON l zz).flatMap eByte))))]⟩) (fun zz => zz ≤ l.length ∧ (l.take zz).all isOpB = true) (fun zz => l.length - zz) (0) ?_ (weak_sub ⟨rfl, rfl, rfl, trivial⟩ trivial ⟨rfl, trivial⟩ rfl) (fun zz hx => ?_)
  · exact ⟨Nat.zero_le _, rfl⟩
  obtain ⟨k, rfl⟩ : ∃ v, v = zz := ⟨_, rfl⟩
  replace hx : k ≤ l.length ∧ (l.take k).all isOpB = true := hx
  obtain ⟨hk, hall⟩ := hx
  show Ok _ _ _ _ _ (⟨[(0, .one (.dv [] (opsD (l)))), (3, .one (.key 900500)), (4, .one (.dv [] (.int .i64 ((k : Int)))))], [], [(900500, some (kcOf false (.sl 5 1 ((encON l k).length) ((encON l k).flatMap eByte))))]⟩ : St)
  refine ok_seq ?_
  refine ok_seq ?_
  refine ok_region ?_
  refine o_pure rfl rfl (pu_move (.inl rfl) (ev_tmp rfl)) rfl rfl ?_
  refine o_pure rfl rfl (pu_move (.inl rfl) (ev_tmp rfl)) rfl rfl ?_
  refine o_pure rfl rfl (pu_lenV hT rfl rfl (ev_tmp rfl)) rfl rfl ?_
  refine o_pure rfl rfl (pu_lss rfl (ev_tmp rfl) (ev_tmp rfl)) rfl rfl ?_
  refine ops_nil ?_
  refine then_n ?_
  refine ok_cond (ev_tmp rfl) (fun c1 => ?_) (fun c1 => ?_)
  · skip
    have d1 := of_decide_eq_true c1
    refine ok_skip ?_
    refine then_n ?_
    refine ok_seq ?_
    refine ok_block ?_
    refine ok_seq ?_
    refine ok_seq ?_
    refine ok_region ?_
    refine o_pure rfl rfl (pu_move (.inl rfl) (ev_tmp rfl)) rfl rfl ?_
    refine o_pure rfl rfl (pu_move (.inl rfl) (ev_tmp rfl)) rfl rfl ?_
    refine o_pure rfl rfl (pu_indexD hT rfl rfl rfl (ev_tmp rfl) (ev_tmp rfl) (fun _ => rfl) (by first | omega | (simp only [Bool.and_eq_true, Bool.or_eq_true, Bool.or_eq_false_iff, Bool.and_eq_false_iff, Bool.not_eq_true', Bool.not_eq_false', beq_iff_eq, decide_eq_true_eq, decide_eq_false_iff_not] at hg; omega) | (have hh := of_decide_eq_true (beq_tt hg); omega) | (have hh := of_decide_eq_true (beq_tt (and_r hg)); omega)) (by first | omega | (simp only [Bool.and_eq_true, Bool.or_eq_true, Bool.or_eq_false_iff, Bool.and_eq_false_iff, Bool.not_eq_true', Bool.not_eq_false', beq_iff_eq, decide_eq_true_eq, decide_eq_false_iff_not] at hg; omega) | (have hh := of_decide_eq_true (beq_tt hg); omega) | (have hh := of_decide_eq_true (beq_tt (and_r hg)); omega))) rfl rfl ?_
    refine o_pure rfl rfl (pu_loadRefA hT rfl rfl (ev_tmp rfl) rfl) rfl rfl ?_
    refine o_call rfl rfl rfl Try.call60 (ok_spec_IsOp (x := (((l)).getD ((k : Int)).toNat default)) ) (as_cons (ev_tmp rfl) (ag_agg (ag_cons ac_dv (ag_cons ac_dv (ag_cons ac_dv (ag_cons ac_dv (ag_cons ac_dv (ag_cons ac_dv (ag_cons ac_dv ag_nil)))))))) as_nil) rfl rfl ?_
    refine o_pure rfl rfl (pu_not rfl (ev_tmp rfl)) rfl rfl ?_
    refine ops_nil ?_
    refine then_n ?_
    refine ok_cond (ev_tmp rfl) (fun c2 => ?_) (fun c2 => ?_)
    · skip
      have hkl : k < l.length := by omega
      have hk0 : areB l = false := are_no hkl (by simpa using c2)
      refine ok_seq ?_
      refine ok_weak (σ' := ⟨[], [], []⟩) (weak_sub trivial trivial trivial rfl) ?_
      refine ok_region ?_
      refine o_build0 (k := 900500) hT rfl rfl rfl rfl rfl rfl rfl rfl ?_
      refine o_pure rfl rfl (pu_move (.inr rfl) (ev_tmp rfl)) rfl rfl ?_
      refine ops_nil ?_
      refine then_n ?_
      refine ok_weak (σ' := ⟨[(2, .one (.key 900500))], [], [(900500, some (kcOf false (bytesD (encO l))))]⟩) (weak_sub ⟨rfl, trivial⟩ trivial ⟨(by first | exact congrArg (fun l : List UInt8 => some (some (KC.mk false 5 1 l.length (l.flatMap eByte)))) (show ([] : List UInt8) = encO l from (encO_bad hk0).symm) | exact congrArg (fun l : List UInt8 => some (some (KC.mk false 5 1 l.length (l.flatMap eByte)))) (encO_ok hk1 (by omega)).symm), trivial⟩ rfl) ?_
      refine ok_ret ?_
      refine then_r ?_
      refine blk_r ?_
      refine then_r ?_
      refine then_r ?_
      refine blk_r ?_
      refine then_r ?_
      refine fin1 (res_tmp rfl) ?_
      exact ⟨rfl, rfl⟩
    · skip
      have hkl : k < l.length := by omega
      have hop := (by simpa using c2 : isOpB (l.getD (k : Int).toNat default) = true)
      have hrg := op_rng hop
      have hek := encK_len (l.getD (k : Int).toNat default).2.2.1
      have her := encR_len (l.getD (k : Int).toNat default).2.2.2.1
      have hen := encON_len k hk hall
      have hl0 := opPart_len (b := (encON l k)) hop 0
      have hl1 := opPart_len (b := (encON l k)) hop 1
      have hl2 := opPart_len (b := (encON l k)) hop 2
      have hl3 := opPart_len (b := (encON l k)) hop 3
      refine ok_skip ?_
      refine then_n ?_
      refine ok_cutS (σ' := ⟨[(0, .one (.dv [] (opsD (l)))), (3, .one (.key 900502)), (4, .one (.dv [] (.int .i64 ((k : Int)))))], [], [(900500, some (kcOf false (.sl 5 1 ((encON l k).length) ((encON l k).flatMap eByte)))), (900502, some (kcOf false (bytesD (opPart (encON l k) (l.getD (k : Int).toNat default) 1))))]⟩) ?_ ?_
      · skip
        refine ok_regionD (oB := []) (oK := [900500]) (by kernel_rfl) rfl rfl ?_
        refine d_take 0 rfl (by kernel_rfl) rfl rfl (pu_move (.inl rfl) (ev_tmp rfl)) rfl rfl rfl rfl ?_
        refine d_take 1 rfl (by kernel_rfl) rfl rfl (pu_move (.inl rfl) (ev_tmp rfl)) rfl rfl rfl rfl ?_
        refine d_take 2 rfl (by kernel_rfl) rfl rfl (pu_move (.inl rfl) (ev_tmp rfl)) rfl rfl rfl rfl ?_
        refine d_take 3 rfl (by kernel_rfl) rfl rfl (pu_indexD hT rfl rfl rfl (ev_tmp rfl) (ev_tmp rfl) (fun _ => rfl) (by first | omega | (simp only [Bool.and_eq_true, Bool.or_eq_true, Bool.or_eq_false_iff, Bool.and_eq_false_iff, Bool.not_eq_true', Bool.not_eq_false', beq_iff_eq, decide_eq_true_eq, decide_eq_false_iff_not] at hg; omega) | (have hh := of_decide_eq_true (beq_tt hg); omega) | (have hh := of_decide_eq_true (beq_tt (and_r hg)); omega)) (by first | omega | (simp only [Bool.and_eq_true, Bool.or_eq_true, Bool.or_eq_false_iff, Bool.and_eq_false_iff, Bool.not_eq_true', Bool.not_eq_false', beq_iff_eq, decide_eq_true_eq, decide_eq_false_iff_not] at hg; omega) | (have hh := of_decide_eq_true (beq_tt hg); omega) | (have hh := of_decide_eq_true (beq_tt (and_r hg)); omega))) rfl rfl rfl rfl ?_
        refine d_take 4 rfl (by kernel_rfl) rfl rfl (pu_fieldRef hT rfl rfl rfl (ev_tmp rfl)) rfl rfl rfl rfl ?_
        refine d_take 5 rfl (by kernel_rfl) rfl rfl (pu_loadRef1 hT rfl rfl (ev_tmp rfl) rfl) rfl rfl rfl rfl ?_
        refine d_take 7 rfl (by kernel_rfl) rfl rfl (pu_move (.inl rfl) (ev_tmp rfl)) rfl rfl rfl rfl ?_
        refine d_take 8 rfl (by kernel_rfl) rfl rfl (pu_move (.inl rfl) (ev_tmp rfl)) rfl rfl rfl rfl ?_
        refine d_take 9 rfl (by kernel_rfl) rfl rfl (pu_indexD hT rfl rfl rfl (ev_tmp rfl) (ev_tmp rfl) (fun _ => rfl) (by first | omega | (simp only [Bool.and_eq_true, Bool.or_eq_true, Bool.or_eq_false_iff, Bool.and_eq_false_iff, Bool.not_eq_true', Bool.not_eq_false', beq_iff_eq, decide_eq_true_eq, decide_eq_false_iff_not] at hg; omega) | (have hh := of_decide_eq_true (beq_tt hg); omega) | (have hh := of_decide_eq_true (beq_tt (and_r hg)); omega)) (by first | omega | (simp only [Bool.and_eq_true, Bool.or_eq_true, Bool.or_eq_false_iff, Bool.and_eq_false_iff, Bool.not_eq_true', Bool.not_eq_false', beq_iff_eq, decide_eq_true_eq, decide_eq_false_iff_not] at hg; omega) | (have hh := of_decide_eq_true (beq_tt hg); omega) | (have hh := of_decide_eq_true (beq_tt (and_r hg)); omega))) rfl rfl rfl rfl ?_
        refine d_take 10 rfl (by kernel_rfl) rfl rfl (pu_fieldRef hT rfl rfl rfl (ev_tmp rfl)) rfl rfl rfl rfl ?_
        refine d_take 11 rfl (by kernel_rfl) rfl rfl (pu_loadRef1 hT rfl rfl (ev_tmp rfl) rfl) rfl rfl rfl rfl ?_
        refine d_split 6 [12] (by kernel_rfl) ⟨?_, ?_, trivial⟩
        · skip
          refine j_callK 900495 6 rfl rfl rfl rfl Try.call59 (ok_spec_AppendUvarint (x := (encON l k)) (n := (l.getD (k : Int).toNat default).1) (by omega)) (as_cons (ev_tmp rfl) (ag_one (ac_key' rfl rfl)) (as_cons (ev_tmp rfl) (ag_one ac_dv) as_nil)) rfl rfl rfl rfl rfl ?_
          refine d_convSB (k := 34) 12 hT rfl (by kernel_rfl) rfl rfl rfl rfl rfl rfl rfl (ev_tmp rfl) rfl rfl rfl ?_
          refine d_callK 892496 13 rfl (by kernel_rfl) rfl rfl rfl Try.call61 (ok_spec_AppendBytes (x := opPart (encON l k) (l.getD (k : Int).toNat default) 0) (y := (l.getD (k : Int).toNat default).2.1.data.toList) (by omega) (by omega)) (as_cons (ev_tmp rfl) (ag_one (ac_key' rfl rfl)) (as_cons (ev_tmp rfl) (ag_one (ac_key' rfl rfl)) as_nil)) rfl rfl rfl rfl rfl ?_
          refine d_take 14 rfl (by kernel_rfl) rfl rfl (pu_move (.inr rfl) (ev_tmp rfl)) rfl rfl rfl rfl ?_
          refine d_done (by kernel_rfl) ?_
          exact then_n (weak_sub ⟨rfl, rfl, rfl, trivial⟩ trivial ⟨rfl, rfl, trivial⟩ rfl)
        · skip
          refine j_convSB (k := 34) 12 hT rfl rfl rfl rfl rfl rfl rfl rfl (ev_tmp rfl) rfl rfl rfl ?_
          refine d_callK 900495 6 rfl (by kernel_rfl) rfl rfl rfl Try.call59 (ok_spec_AppendUvarint (x := (encON l k)) (n := (l.getD (k : Int).toNat default).1) (by omega)) (as_cons (ev_tmp rfl) (ag_one (ac_key' rfl rfl)) (as_cons (ev_tmp rfl) (ag_one ac_dv) as_nil)) rfl rfl rfl rfl rfl ?_
          refine d_callK 892496 13 rfl (by kernel_rfl) rfl rfl rfl Try.call61 (ok_spec_AppendBytes (x := opPart (encON l k) (l.getD (k : Int).toNat default) 0) (y := (l.getD (k : Int).toNat default).2.1.data.toList) (by omega) (by omega)) (as_cons (ev_tmp rfl) (ag_one (ac_key' rfl rfl)) (as_cons (ev_tmp rfl) (ag_one (ac_key' rfl rfl)) as_nil)) rfl rfl rfl rfl rfl ?_
          refine d_take 14 rfl (by kernel_rfl) rfl rfl (pu_move (.inr rfl) (ev_tmp rfl)) rfl rfl rfl rfl ?_
          refine d_done (by kernel_rfl) ?_
          exact then_n (weak_sub ⟨rfl, rfl, rfl, trivial⟩ trivial ⟨rfl, rfl, trivial⟩ rfl)
      refine ok_seq ?_
      refine ok_regionD (oB := []) (oK := [900500, 900502]) (by kernel_rfl) rfl rfl ?_
      refine d_take 0 rfl (by kernel_rfl) rfl rfl (pu_move (.inl rfl) (ev_tmp rfl)) rfl rfl rfl rfl ?_
      refine d_take 1 rfl (by kernel_rfl) rfl rfl (pu_move (.inl rfl) (ev_tmp rfl)) rfl rfl rfl rfl ?_
      refine d_take 2 rfl (by kernel_rfl) rfl rfl (pu_move (.inl rfl) (ev_tmp rfl)) rfl rfl rfl rfl ?_
      refine d_take 3 rfl (by kernel_rfl) rfl rfl (pu_indexD hT rfl rfl rfl (ev_tmp rfl) (ev_tmp rfl) (fun _ => rfl) (by first | omega | (simp only [Bool.and_eq_true, Bool.or_eq_true, Bool.or_eq_false_iff, Bool.and_eq_false_iff, Bool.not_eq_true', Bool.not_eq_false', beq_iff_eq, decide_eq_true_eq, decide_eq_false_iff_not] at hg; omega) | (have hh := of_decide_eq_true (beq_tt hg); omega) | (have hh := of_decide_eq_true (beq_tt (and_r hg)); omega)) (by first | omega | (simp only [Bool.and_eq_true, Bool.or_eq_true, Bool.or_eq_false_iff, Bool.and_eq_false_iff, Bool.not_eq_true', Bool.not_eq_false', beq_iff_eq, decide_eq_true_eq, decide_eq_false_iff_not] at hg; omega) | (have hh := of_decide_eq_true (beq_tt hg); omega) | (have hh := of_decide_eq_true (beq_tt (and_r hg)); omega))) rfl rfl rfl rfl ?_
      refine d_take 4 rfl (by kernel_rfl) rfl rfl (pu_fieldRef hT rfl rfl rfl (ev_tmp rfl)) rfl rfl rfl rfl ?_
      refine d_take 5 rfl (by kernel_rfl) rfl rfl (pu_loadRefA hT rfl rfl (ev_tmp rfl) rfl) rfl rfl rfl rfl ?_
      refine d_take 8 rfl (by kernel_rfl) rfl rfl (pu_move (.inl rfl) (ev_tmp rfl)) rfl rfl rfl rfl ?_
      refine d_take 9 rfl (by kernel_rfl) rfl rfl (pu_move (.inl rfl) (ev_tmp rfl)) rfl rfl rfl rfl ?_
      refine d_take 10 rfl (by kernel_rfl) rfl rfl (pu_indexD hT rfl rfl rfl (ev_tmp rfl) (ev_tmp rfl) (fun _ => rfl) (by first | omega | (simp only [Bool.and_eq_true, Bool.or_eq_true, Bool.or_eq_false_iff, Bool.and_eq_false_iff, Bool.not_eq_true', Bool.not_eq_false', beq_iff_eq, decide_eq_true_eq, decide_eq_false_iff_not] at hg; omega) | (have hh := of_decide_eq_true (beq_tt hg); omega) | (have hh := of_decide_eq_true (beq_tt (and_r hg)); omega)) (by first | omega | (simp only [Bool.and_eq_true, Bool.or_eq_true, Bool.or_eq_false_iff, Bool.and_eq_false_iff, Bool.not_eq_true', Bool.not_eq_false', beq_iff_eq, decide_eq_true_eq, decide_eq_false_iff_not] at hg; omega) | (have hh := of_decide_eq_true (beq_tt hg); omega) | (have hh := of_decide_eq_true (beq_tt (and_r hg)); omega))) rfl rfl rfl rfl ?_
      refine d_take 11 rfl (by kernel_rfl) rfl rfl (pu_fieldRef hT rfl rfl rfl (ev_tmp rfl)) rfl rfl rfl rfl ?_
      refine d_take 12 rfl (by kernel_rfl) rfl rfl (pu_loadRefA hT rfl rfl (ev_tmp rfl) rfl) rfl rfl rfl rfl ?_
      refine d_callK 900491 6 rfl (by kernel_rfl) rfl rfl rfl Try.call62 (ok_spec_EncodeKey (k := (((l)).getD ((k : Int)).toNat default).2.2.1) ) (as_cons (ev_tmp rfl) (ag_agg (ag_cons ac_dv (ag_cons ac_dv (ag_cons ac_dv ag_nil)))) as_nil) rfl rfl rfl rfl rfl ?_
      refine d_callK 892498 7 rfl (by kernel_rfl) rfl rfl rfl Try.call61 (ok_spec_AppendBytes (x := opPart (encON l k) (l.getD (k : Int).toNat default) 1) (y := encK (l.getD (k : Int).toNat default).2.2.1) (by omega) (by omega)) (as_cons (ev_tmp rfl) (ag_one (ac_key' rfl rfl)) (as_cons (ev_tmp rfl) (ag_one (ac_key' rfl rfl)) as_nil)) rfl rfl rfl rfl rfl ?_
      refine d_callK 900005 13 rfl (by kernel_rfl) rfl rfl rfl Try.call63 (ok_spec_EncodeRecord (r := (((l)).getD ((k : Int)).toNat default).2.2.2.1) ) (as_cons (ev_tmp rfl) (ag_agg (ag_cons ac_dv ag_nil)) as_nil) rfl rfl rfl rfl rfl ?_
      refine d_callK 892500 14 rfl (by kernel_rfl) rfl rfl rfl Try.call61 (ok_spec_AppendBytes (x := opPart (encON l k) (l.getD (k : Int).toNat default) 2) (y := encR (l.getD (k : Int).toNat default).2.2.2.1) (by omega) (by omega)) (as_cons (ev_tmp rfl) (ag_one (ac_key' rfl rfl)) (as_cons (ev_tmp rfl) (ag_one (ac_key' rfl rfl)) as_nil)) rfl rfl rfl rfl rfl ?_
      refine d_take 15 rfl (by kernel_rfl) rfl rfl (pu_move (.inr rfl) (ev_tmp rfl)) rfl rfl rfl rfl ?_
      refine d_done (by kernel_rfl) ?_
      refine then_n ?_
      refine ok_region ?_
      refine o_pure rfl rfl (pu_move (.inl rfl) (ev_tmp rfl)) rfl rfl ?_
      refine o_pure rfl rfl (pu_move (.inl rfl) (ev_tmp rfl)) rfl rfl ?_
      refine o_pure rfl rfl (pu_move (.inl rfl) (ev_tmp rfl)) rfl rfl ?_
      refine o_pure rfl rfl (pu_indexD hT rfl rfl rfl (ev_tmp rfl) (ev_tmp rfl) (fun _ => rfl) (by first | omega | (simp only [Bool.and_eq_true, Bool.or_eq_true, Bool.or_eq_false_iff, Bool.and_eq_false_iff, Bool.not_eq_true', Bool.not_eq_false', beq_iff_eq, decide_eq_true_eq, decide_eq_false_iff_not] at hg; omega) | (have hh := of_decide_eq_true (beq_tt hg); omega) | (have hh := of_decide_eq_true (beq_tt (and_r hg)); omega)) (by first | omega | (simp only [Bool.and_eq_true, Bool.or_eq_true, Bool.or_eq_false_iff, Bool.and_eq_false_iff, Bool.not_eq_true', Bool.not_eq_false', beq_iff_eq, decide_eq_true_eq, decide_eq_false_iff_not] at hg; omega) | (have hh := of_decide_eq_true (beq_tt hg); omega) | (have hh := of_decide_eq_true (beq_tt (and_r hg)); omega))) rfl rfl ?_
      refine o_pure rfl rfl (pu_fieldRef hT rfl rfl rfl (ev_tmp rfl)) rfl rfl ?_
      refine o_pure rfl rfl (pu_loadRef1 hT rfl rfl (ev_tmp rfl) rfl) rfl rfl ?_
      refine o_convSB (k := 57) hT rfl rfl rfl rfl rfl rfl rfl (ev_tmp rfl) rfl ?_
      refine o_callK 892501 rfl rfl rfl Try.call61 (ok_spec_AppendBytes (x := opPart (encON l k) (l.getD (k : Int).toNat default) 3) (y := (l.getD (k : Int).toNat default).2.2.2.2.data.toList) (by omega) (by omega)) (as_cons (ev_tmp rfl) (ag_one (ac_key' rfl rfl)) (as_cons (ev_tmp rfl) (ag_one (ac_key' rfl rfl)) as_nil)) rfl rfl rfl ?_
      refine o_pure rfl rfl (pu_move (.inr rfl) (ev_tmp rfl)) rfl rfl ?_
      refine ops_nil ?_
      refine blk_n ?_
      refine then_n ?_
      refine ok_weak (weak_swap (s := 3) (k := 900507) (k' := 900500) rfl rfl rfl (by decide) rfl) ?_
      simp only [killT, killB, SV.kill, CV.kill, List.map_cons, List.map_nil, List.any_cons, List.any_nil, List.contains_cons, List.contains_nil, List.nil_append, List.cons_append, Nat.reduceBEq, Bool.or_false, Bool.false_or, Bool.or_true, Bool.true_or, cond_true, cond_false]
      refine ok_region ?_
      refine o_pure rfl rfl (pu_move (.inl rfl) (ev_tmp rfl)) rfl rfl ?_
      refine o_pure rfl rfl (pu_addR rfl (ev_tmp rfl) (ev_int (inR_lit rfl)) (inR64 (by omega) (by omega))) rfl rfl ?_
      refine o_pure rfl rfl (pu_move (.inr rfl) (ev_tmp rfl)) rfl rfl ?_
      refine ops_nil ?_
      refine then_n ?_
      refine ⟨k + 1, ?_, ?_, weak_sub ⟨rfl, rfl, rfl, trivial⟩ trivial ⟨rfl, trivial⟩ rfl⟩
      · exact ⟨by omega, are_step hall hkl hop⟩
      · omega
  · skip
    have d1 := of_decide_eq_false c1
    refine ok_exit ?_
    refine then_e ?_
    refine then_e ?_
    refine blk_e rfl ?_
    refine then_n ?_
    refine ok_seq ?_
    refine ok_seq ?_
    refine ok_region ?_
    refine o_pure rfl rfl (pu_move (.inl rfl) (ev_tmp rfl)) rfl rfl ?_
    refine o_pure rfl rfl (pu_lenV hT rfl rfl (ev_tmp rfl)) rfl rfl ?_
    refine o_pure rfl rfl (pu_gtr rfl (ev_tmp rfl) (ev_int (inR_lit rfl))) rfl rfl ?_
    refine ops_nil ?_
    refine then_n ?_
    refine ok_cond (ev_tmp rfl) (fun c3 => ?_) (fun c3 => ?_)
    · skip
      have d3 := of_decide_eq_true c3
      have hk0 : areB l = false := by rw [are_yes hall (by omega)]; exact decide_eq_false (by omega)
      refine ok_seq ?_
      refine ok_weak (σ' := ⟨[], [], []⟩) (weak_sub trivial trivial trivial rfl) ?_
      refine ok_region ?_
      refine o_build0 (k := 900500) hT rfl rfl rfl rfl rfl rfl rfl rfl ?_
      refine o_pure rfl rfl (pu_move (.inr rfl) (ev_tmp rfl)) rfl rfl ?_
      refine ops_nil ?_
      refine then_n ?_
      refine ok_weak (σ' := ⟨[(2, .one (.key 900500))], [], [(900500, some (kcOf false (bytesD (encO l))))]⟩) (weak_sub ⟨rfl, trivial⟩ trivial ⟨(by first | exact congrArg (fun l : List UInt8 => some (some (KC.mk false 5 1 l.length (l.flatMap eByte)))) (show ([] : List UInt8) = encO l from (encO_bad hk0).symm) | exact congrArg (fun l : List UInt8 => some (some (KC.mk false 5 1 l.length (l.flatMap eByte)))) (encO_ok hk1 (by omega)).symm), trivial⟩ rfl) ?_
      refine ok_ret ?_
      refine then_r ?_
      refine fin1 (res_tmp rfl) ?_
      exact ⟨rfl, rfl⟩
    · skip
      have d3 := of_decide_eq_false c3
      have hk1 : areB l = true := by rw [are_yes hall (by omega)]; exact decide_eq_true (by omega)
      refine ok_skip ?_
      refine then_n ?_
      refine ok_seq ?_
      refine ok_region ?_
      refine o_pure rfl rfl (pu_move (.inl rfl) (ev_tmp rfl)) rfl rfl ?_
      refine o_pure rfl rfl (pu_move (.inr rfl) (ev_tmp rfl)) rfl rfl ?_
      refine ops_nil ?_
      refine then_n ?_
      refine ok_weak (σ' := ⟨[(2, .one (.key 900500))], [], [(900500, some (kcOf false (bytesD (encO l))))]⟩) (weak_sub ⟨rfl, trivial⟩ trivial ⟨(by first | exact congrArg (fun l : List UInt8 => some (some (KC.mk false 5 1 l.length (l.flatMap eByte)))) (show ([] : List UInt8) = encO l from (encO_bad hk0).symm) | exact congrArg (fun l : List UInt8 => some (some (KC.mk false 5 1 l.length (l.flatMap eByte)))) (encO_ok hk1 (by omega)).symm), trivial⟩ rfl) ?_
      refine ok_ret ?_
      refine fin1 (res_tmp rfl) ?_
      exact ⟨rfl, rfl⟩
end Go.Proofs.Ytlogahkchenpdaa

namespace Go.Proofs.Ytlogahkchenpdaa
open Go.RowKit
open Go.Proofs
set_option linter.unusedVariables false
set_option linter.unusedSimpArgs false
set_option maxRecDepth 100000 in
theorem ok_laws_FnExactEncodeOps {x0 : List (OpT)}  : PFn Try.prog 5 [.one (.dv [] (opsD (x0)))] (.one (.dv [] (.bool (true)))) := by
  refine ⟨fn_intro Try.func5 rfl Try.ntmps5 Try.results5 rfl (fun C => ?_)⟩
  have hel := encO_len x0
  have : wList wOp x0 = x0.length + wSum wOp x0 := rfl
  have := wSum_bound cOp_le (x0)
  have : wSum cByte ((encO x0)) = 1 * ((encO x0)).length := wSum_const (n := 1) _
  refine ok_fact (x := .tmp 0) (ev_tmp rfl) (fun (f0 : ((x0)).length ≤ 9223372036854775807) => ?_)
  refine ok_seq ?_
  refine ok_region ?_
  refine o_pure rfl rfl (pu_move (.inr rfl) ev_bool) rfl rfl ?_
  refine ops_nil ?_
  refine then_n ?_
  refine ok_seq ?_
  refine ok_region ?_
  refine o_pure rfl rfl (pu_move (.inr rfl) (ev_int (inR_lit rfl))) rfl rfl ?_
  refine ops_nil ?_
  refine then_n ?_
  refine ok_seq ?_
  refine ok_region ?_
  refine o_pure rfl rfl (pu_move (.inl rfl) (ev_tmp rfl)) rfl rfl ?_
  refine o_pure rfl rfl (pu_move (.inl rfl) (ev_tmp rfl)) rfl rfl ?_
  refine o_call rfl rfl rfl Try.call21 (ok_laws_szOpS (by omega) (by omega)) (as_cons (ev_tmp rfl) (ag_one ac_dv) (as_cons (ev_tmp rfl) (ag_one ac_dv) as_nil)) rfl rfl ?_
  refine o_pure rfl rfl (pu_move (.inr rfl) (ev_tmp rfl)) rfl rfl ?_
  refine ops_nil ?_
  refine then_n ?_
  refine ok_seq ?_
  refine ok_seq ?_
  refine ok_region ?_
  refine o_pure rfl rfl (pu_move (.inl rfl) (ev_tmp rfl)) rfl rfl ?_
  refine o_pure rfl rfl (pu_lss rfl (ev_tmp rfl) (ev_int (inR_lit rfl))) rfl rfl ?_
  refine ops_nil ?_
  refine then_n ?_
  refine ok_cond (ev_tmp rfl) (fun c1 => ?_) (fun c1 => ?_)
  · skip
    have d1 := of_decide_eq_true c1
    first | have q1 := szR_n d1 | skip
    refine ok_seq ?_
    refine ok_region ?_
    refine o_pure rfl rfl (pu_move (.inr rfl) ev_bool) rfl rfl ?_
    refine ops_nil ?_
    refine then_n ?_
    refine ok_ret ?_
    refine then_r ?_
    refine fin1 (res_tmp rfl) (eqB ?_)
    first | rfl | (exfalso; omega) | (exfalso; simp_all; done) | (exfalso; simp_all; omega)
  · skip
    have d1 := of_decide_eq_false c1
    first | have q1 := szR_nn d1 | skip
    refine ok_skip ?_
    refine then_n ?_
    refine ok_seq ?_
    refine ok_region ?_
    refine o_pure rfl rfl (pu_move (.inl rfl) (ev_tmp rfl)) rfl rfl ?_
    refine o_callK 17000 rfl rfl rfl Try.call23 (ok_laws_toOpS (by first | omega | (simp only [wKey, wField, wRecord, wItem, wStore, wIndexDef, wDatabase, wOp, wTx, wTxQueue] at hb ⊢; omega) | (have hq := hw (by omega); omega))) (as_cons (ev_tmp rfl) (ag_one ac_dv) as_nil) rfl rfl rfl ?_
    refine o_callK 18000 rfl rfl rfl Try.call22 (ok_spec_EncodeOps (by omega)) (as_cons (ev_tmp rfl) (ag_one (ac_key' rfl rfl)) as_nil) rfl rfl rfl ?_
    refine o_pure rfl rfl (pu_move (.inr rfl) (ev_tmp rfl)) rfl rfl ?_
    refine ops_nil ?_
    refine then_n ?_
    refine ok_seq ?_
    refine ok_region ?_
    refine o_pure rfl rfl (pu_move (.inl rfl) (ev_tmp rfl)) rfl rfl ?_
    refine o_callK 20000 rfl rfl rfl Try.call23 (ok_laws_toOpS (by first | omega | (simp only [wKey, wField, wRecord, wItem, wStore, wIndexDef, wDatabase, wOp, wTx, wTxQueue] at hb ⊢; omega) | (have hq := hw (by omega); omega))) (as_cons (ev_tmp rfl) (ag_one ac_dv) as_nil) rfl rfl rfl ?_
    refine o_pure rfl rfl (pu_move (.inr rfl) (ev_tmp rfl)) rfl rfl ?_
    refine ops_nil ?_
    refine then_n ?_
    refine ok_seq ?_
    refine ok_region ?_
    refine o_pure rfl rfl (pu_move (.inl rfl) (ev_tmp rfl)) rfl rfl ?_
    refine o_callK 22000 rfl rfl rfl Try.call24 ok_impl_EncodeOps (as_cons (ev_tmp rfl) (ag_one (ac_key' rfl rfl)) as_nil) rfl rfl rfl ?_
    refine o_pure rfl rfl (pu_move (.inr rfl) (ev_tmp rfl)) rfl rfl ?_
    refine ops_nil ?_
    refine then_n ?_
    refine ok_seq ?_
    refine ok_seq ?_
    refine ok_region ?_
    refine o_pure rfl rfl (pu_move (.inl rfl) (ev_tmp rfl)) rfl rfl ?_
    refine o_pure rfl rfl (pu_move (.inl rfl) (ev_tmp rfl)) rfl rfl ?_
    refine o_call rfl rfl rfl Try.call25 ok_laws_eqByteS (as_cons (ev_tmp rfl) (ag_one (ac_key' rfl rfl)) (as_cons (ev_tmp rfl) (ag_one (ac_key' rfl rfl)) as_nil)) rfl rfl ?_
    refine o_pure rfl rfl (pu_not rfl (ev_tmp rfl)) rfl rfl ?_
    refine ops_nil ?_
    refine then_n ?_
    refine ok_cond (ev_tmp rfl) (fun c2 => ?_) (fun c2 => ?_)
    · skip
      refine ok_seq ?_
      refine ok_region ?_
      refine o_pure rfl rfl (pu_move (.inr rfl) ev_bool) rfl rfl ?_
      refine ops_nil ?_
      refine then_n ?_
      refine ok_ret ?_
      refine then_r ?_
      refine fin1 (res_tmp rfl) (eqB ?_)
      first | rfl | (exfalso; omega) | (exfalso; simp_all; done) | (exfalso; simp_all; omega)
    · skip
      refine ok_skip ?_
      refine then_n ?_
      refine ok_seq ?_
      refine ok_seq ?_
      refine ok_region ?_
      refine o_pure rfl rfl (pu_move (.inl rfl) (ev_tmp rfl)) rfl rfl ?_
      refine o_pure rfl rfl (pu_move (.inl rfl) (ev_tmp rfl)) rfl rfl ?_
      refine o_callK 29000 rfl rfl rfl Try.call23 (ok_laws_toOpS (by first | omega | (simp only [wKey, wField, wRecord, wItem, wStore, wIndexDef, wDatabase, wOp, wTx, wTxQueue] at hb ⊢; omega) | (have hq := hw (by omega); omega))) (as_cons (ev_tmp rfl) (ag_one ac_dv) as_nil) rfl rfl rfl ?_
      refine o_call rfl rfl rfl Try.call26 ok_laws_eqOpS (as_cons (ev_tmp rfl) (ag_one (ac_key' rfl rfl)) (as_cons (ev_tmp rfl) (ag_one (ac_key' rfl rfl)) as_nil)) rfl rfl ?_
      refine o_pure rfl rfl (pu_not rfl (ev_tmp rfl)) rfl rfl ?_
      refine ops_nil ?_
      refine then_n ?_
      refine ok_cond (ev_tmp rfl) (fun c3 => ?_) (fun c3 => ?_)
      · skip
        refine ok_seq ?_
        refine ok_region ?_
        refine o_pure rfl rfl (pu_move (.inr rfl) ev_bool) rfl rfl ?_
        refine ops_nil ?_
        refine then_n ?_
        refine ok_ret ?_
        refine then_r ?_
        refine fin1 (res_tmp rfl) (eqB ?_)
        first | rfl | (exfalso; omega) | (exfalso; simp_all; done) | (exfalso; simp_all; omega)
      · skip
        refine ok_skip ?_
        refine then_n ?_
        refine ok_seq ?_
        refine ok_region ?_
        refine o_pure rfl rfl (pu_move (.inr rfl) (ev_int (inR_lit rfl))) rfl rfl ?_
        refine ops_nil ?_
        refine then_n ?_
        refine ok_seq ?_
        refine ok_region ?_
        refine o_pure rfl rfl (pu_move (.inl rfl) (ev_tmp rfl)) rfl rfl ?_
        refine o_pure rfl rfl (pu_move (.inl rfl) (ev_tmp rfl)) rfl rfl ?_
        refine o_callW [(0, 20007, ⟨false, _, _, _, _⟩, ⟨false, _, _, _, _⟩)] rfl rfl rfl Try.call27 (ok_laws_markOpS (x := x0) (by omega) (by omega)) ⟨rfl, trivial⟩ rfl (aw_cons (ev_tmp rfl) (aw_one (awc_key rfl)) (aw_cons (ev_tmp rfl) (aw_one (awc_dv rfl)) aw_nil)) rfl rfl ?_
        simp only [killT, killB, SV.kill, CV.kill, List.map_cons, List.map_nil, List.any_cons, List.any_nil, List.contains_cons, List.contains_nil, List.nil_append, List.cons_append, Nat.reduceBEq, Bool.or_false, Bool.false_or, Bool.or_true, Bool.true_or, cond_true, cond_false]
        refine o_pure rfl rfl (pu_move (.inr rfl) (ev_tmp rfl)) rfl rfl ?_
        refine ops_nil ?_
        refine then_n ?_
        refine ok_seq ?_
        refine ok_seq ?_
        refine ok_region ?_
        refine o_pure rfl rfl (pu_move (.inl rfl) (ev_tmp rfl)) rfl rfl ?_
        refine o_pure rfl rfl (pu_lss rfl (ev_tmp rfl) (ev_int (inR_lit rfl))) rfl rfl ?_
        refine o_pure rfl rfl (pu_move (.inl rfl) (ev_tmp rfl)) rfl rfl ?_
        refine o_pureG (gd_bool rfl rfl rfl rfl rfl) rfl (fun hg => pu_move (.inl rfl) (ev_tmp rfl)) rfl rfl ?_
        refine o_pureG (gd_bool rfl rfl rfl rfl rfl) rfl (fun hg => pu_move (.inl rfl) (ev_tmp rfl)) rfl rfl ?_
        refine o_callG (gd_bool rfl rfl rfl rfl rfl) rfl rfl Try.call25 ok_laws_eqByteS (fun hg => (as_cons (ev_opt rfl hg) (ag_one (ac_key' rfl rfl)) (as_cons (ev_opt rfl hg) (ag_one (ac_key' rfl rfl)) as_nil))) rfl rfl ?_
        refine o_pureG (gd_bool rfl rfl rfl rfl rfl) rfl (fun hg => pu_not rfl (ev_opt rfl hg)) rfl rfl ?_
        refine o_pure rfl rfl (pu_or rfl (ev_tmp rfl) (fun hb => (ev_opt rfl (beq_f hb)))) rfl rfl ?_
        refine ops_nil ?_
        refine then_n ?_
        refine ok_cond (ev_tmp rfl) (fun c4 => ?_) (fun c4 => ?_)
        · skip
          refine ok_seq ?_
          refine ok_region ?_
          refine o_pure rfl rfl (pu_move (.inr rfl) ev_bool) rfl rfl ?_
          refine ops_nil ?_
          refine then_n ?_
          refine ok_ret ?_
          refine then_r ?_
          refine fin1 (res_tmp rfl) (eqB ?_)
          first | rfl | (exfalso; omega) | (exfalso; simp_all; done) | (exfalso; simp_all; omega)
        · skip
          refine ok_skip ?_
          refine then_n ?_
          refine ok_seq ?_
          refine ok_region ?_
          refine o_pure rfl rfl (pu_move (.inr rfl) (ev_int (inR_lit rfl))) rfl rfl ?_
          refine ops_nil ?_
          refine then_n ?_
          refine ok_seq ?_
          refine ok_region ?_
          refine o_pure rfl rfl (pu_move (.inl rfl) (ev_tmp rfl)) rfl rfl ?_
          refine o_pure rfl rfl (pu_move (.inl rfl) (ev_tmp rfl)) rfl rfl ?_
          refine o_callW [(0, 922500, ⟨false, _, _, _, _⟩, ⟨false, _, _, _, _⟩)] rfl rfl rfl Try.call28 (ok_laws_markByteS (x := (encO x0)) (by omega) (by omega)) ⟨rfl, trivial⟩ rfl (aw_cons (ev_tmp rfl) (aw_one (awc_key rfl)) (aw_cons (ev_tmp rfl) (aw_one (awc_dv rfl)) aw_nil)) rfl rfl ?_
          simp only [killT, killB, SV.kill, CV.kill, List.map_cons, List.map_nil, List.any_cons, List.any_nil, List.contains_cons, List.contains_nil, List.nil_append, List.cons_append, Nat.reduceBEq, Bool.or_false, Bool.false_or, Bool.or_true, Bool.true_or, cond_true, cond_false]
          refine o_pure rfl rfl (pu_move (.inr rfl) (ev_tmp rfl)) rfl rfl ?_
          refine ops_nil ?_
          refine then_n ?_
          refine ok_seq ?_
          refine ok_region ?_
          refine o_pure rfl rfl (pu_move (.inr rfl) (ev_int (inR_lit rfl))) rfl rfl ?_
          refine ops_nil ?_
          refine then_n ?_
          refine ok_seq ?_
          refine ok_region ?_
          refine o_pure rfl rfl (pu_move (.inl rfl) (ev_tmp rfl)) rfl rfl ?_
          refine o_pure rfl rfl (pu_move (.inl rfl) (ev_tmp rfl)) rfl rfl ?_
          refine o_call rfl rfl rfl Try.call29 (ok_laws_heldByteS (x := (encO x0)) rfl (by omega) (by omega)) (as_cons (ev_tmp rfl) (ag_one (ac_key' rfl rfl)) (as_cons (ev_tmp rfl) (ag_one ac_dv) as_nil)) rfl rfl ?_
          refine o_pure rfl rfl (pu_move (.inr rfl) (ev_tmp rfl)) rfl rfl ?_
          refine ops_nil ?_
          refine then_n ?_
          refine ok_seq ?_
          refine ok_seq ?_
          refine ok_region ?_
          refine o_pure rfl rfl (pu_move (.inl rfl) (ev_tmp rfl)) rfl rfl ?_
          refine o_pure rfl rfl (pu_lss rfl (ev_tmp rfl) (ev_int (inR_lit rfl))) rfl rfl ?_
          refine ops_nil ?_
          refine then_n ?_
          refine ok_cond (ev_tmp rfl) (fun c5 => ?_) (fun c5 => ?_)
          · skip
            have d5 := of_decide_eq_true c5
            first | have q5 := szR_n d5 | skip
            refine ok_seq ?_
            refine ok_region ?_
            refine o_pure rfl rfl (pu_move (.inr rfl) ev_bool) rfl rfl ?_
            refine ops_nil ?_
            refine then_n ?_
            refine ok_ret ?_
            refine then_r ?_
            refine fin1 (res_tmp rfl) (eqB ?_)
            first | rfl | (exfalso; omega) | (exfalso; simp_all; done) | (exfalso; simp_all; omega)
          · skip
            have d5 := of_decide_eq_false c5
            first | have q5 := szR_nn d5 | skip
            refine ok_skip ?_
            refine then_n ?_
            refine ok_seq ?_
            refine ok_seq ?_
            refine ok_region ?_
            refine o_pure rfl rfl (pu_move (.inl rfl) (ev_tmp rfl)) rfl rfl ?_
            refine o_pure rfl rfl (pu_move (.inl rfl) (ev_tmp rfl)) rfl rfl ?_
            refine o_pure rfl rfl (pu_neq rfl (ev_tmp rfl) (ev_tmp rfl)) rfl rfl ?_
            refine ops_nil ?_
            refine then_n ?_
            refine ok_cond (ev_tmp rfl) (fun c6 => ?_) (fun c6 => ?_)
            · skip
              have d6 := nd_t c6
              refine ok_seq ?_
              refine ok_region ?_
              refine o_pure rfl rfl (pu_move (.inr rfl) ev_bool) rfl rfl ?_
              refine ops_nil ?_
              refine then_n ?_
              refine ok_ret ?_
              refine then_r ?_
              refine fin1 (res_tmp rfl) (eqB ?_)
              first | rfl | (exfalso; omega) | (exfalso; simp_all; done) | (exfalso; simp_all; omega)
            · skip
              have d6 := nd_f c6
              refine ok_skip ?_
              refine then_n ?_
              refine ok_seq ?_
              refine ok_region ?_
              refine o_pure rfl rfl (pu_move (.inl rfl) (ev_tmp rfl)) rfl rfl ?_
              refine o_callK 55000 rfl rfl rfl Try.call23 (ok_laws_toOpS (by first | omega | (simp only [wKey, wField, wRecord, wItem, wStore, wIndexDef, wDatabase, wOp, wTx, wTxQueue] at hb ⊢; omega) | (have hq := hw (by omega); omega))) (as_cons (ev_tmp rfl) (ag_one ac_dv) as_nil) rfl rfl rfl ?_
              refine o_callK 56000 rfl rfl rfl Try.call24 ok_impl_EncodeOps (as_cons (ev_tmp rfl) (ag_one (ac_key' rfl rfl)) as_nil) rfl rfl rfl ?_
              refine o_pure rfl rfl (pu_move (.inr rfl) (ev_tmp rfl)) rfl rfl ?_
              refine ops_nil ?_
              refine then_n ?_
              refine ok_seq ?_
              refine ok_seq ?_
              refine ok_region ?_
              refine o_pure rfl rfl (pu_move (.inl rfl) (ev_tmp rfl)) rfl rfl ?_
              refine o_pure rfl rfl (pu_move (.inl rfl) (ev_tmp rfl)) rfl rfl ?_
              refine o_call rfl rfl rfl Try.call25 ok_laws_eqByteS (as_cons (ev_tmp rfl) (ag_one (ac_key' rfl rfl)) (as_cons (ev_tmp rfl) (ag_one (ac_key' rfl rfl)) as_nil)) rfl rfl ?_
              refine o_pure rfl rfl (pu_not rfl (ev_tmp rfl)) rfl rfl ?_
              refine ops_nil ?_
              refine then_n ?_
              refine ok_cond (ev_tmp rfl) (fun c7 => ?_) (fun c7 => ?_)
              · skip
                refine ok_seq ?_
                refine ok_region ?_
                refine o_pure rfl rfl (pu_move (.inr rfl) ev_bool) rfl rfl ?_
                refine ops_nil ?_
                refine then_n ?_
                refine ok_ret ?_
                refine then_r ?_
                refine fin1 (res_tmp rfl) (eqB ?_)
                first | rfl | (exfalso; omega) | (exfalso; simp_all; done) | (exfalso; simp_all; omega)
              · skip
                refine ok_skip ?_
                refine then_n ?_
                refine ok_seq ?_
                refine ok_region ?_
                refine o_pure rfl rfl (pu_move (.inr rfl) (ev_int (inR_lit rfl))) rfl rfl ?_
                refine ops_nil ?_
                refine then_n ?_
                refine ok_seq ?_
                refine ok_region ?_
                refine o_pure rfl rfl (pu_move (.inl rfl) (ev_tmp rfl)) rfl rfl ?_
                refine o_pure rfl rfl (pu_move (.inl rfl) (ev_tmp rfl)) rfl rfl ?_
                refine o_call rfl rfl rfl Try.call29 (ok_laws_heldByteS (x := (encO x0)) rfl (by omega) (by omega)) (as_cons (ev_tmp rfl) (ag_one (ac_key' rfl rfl)) (as_cons (ev_tmp rfl) (ag_one ac_dv) as_nil)) rfl rfl ?_
                refine o_pure rfl rfl (pu_move (.inr rfl) (ev_tmp rfl)) rfl rfl ?_
                refine ops_nil ?_
                refine then_n ?_
                refine ok_seq ?_
                refine ok_seq ?_
                refine ok_region ?_
                refine o_pure rfl rfl (pu_move (.inl rfl) (ev_tmp rfl)) rfl rfl ?_
                refine o_pure rfl rfl (pu_lss rfl (ev_tmp rfl) (ev_int (inR_lit rfl))) rfl rfl ?_
                refine ops_nil ?_
                refine then_n ?_
                refine ok_cond (ev_tmp rfl) (fun c8 => ?_) (fun c8 => ?_)
                · skip
                  have d8 := of_decide_eq_true c8
                  first | have q8 := szR_n d8 | skip
                  refine ok_seq ?_
                  refine ok_region ?_
                  refine o_pure rfl rfl (pu_move (.inr rfl) ev_bool) rfl rfl ?_
                  refine ops_nil ?_
                  refine then_n ?_
                  refine ok_ret ?_
                  refine then_r ?_
                  refine fin1 (res_tmp rfl) (eqB ?_)
                  first | rfl | (exfalso; omega) | (exfalso; simp_all; done) | (exfalso; simp_all; omega)
                · skip
                  have d8 := of_decide_eq_false c8
                  first | have q8 := szR_nn d8 | skip
                  refine ok_skip ?_
                  refine then_n ?_
                  refine ok_seq ?_
                  refine ok_seq ?_
                  refine ok_region ?_
                  refine o_pure rfl rfl (pu_move (.inl rfl) (ev_tmp rfl)) rfl rfl ?_
                  refine o_pure rfl rfl (pu_move (.inl rfl) (ev_tmp rfl)) rfl rfl ?_
                  refine o_pure rfl rfl (pu_neq rfl (ev_tmp rfl) (ev_tmp rfl)) rfl rfl ?_
                  refine ops_nil ?_
                  refine then_n ?_
                  refine ok_cond (ev_tmp rfl) (fun c9 => ?_) (fun c9 => ?_)
                  · skip
                    have d9 := nd_t c9
                    refine ok_seq ?_
                    refine ok_region ?_
                    refine o_pure rfl rfl (pu_move (.inr rfl) ev_bool) rfl rfl ?_
                    refine ops_nil ?_
                    refine then_n ?_
                    refine ok_ret ?_
                    refine then_r ?_
                    refine fin1 (res_tmp rfl) (eqB ?_)
                    first | rfl | (exfalso; omega) | (exfalso; simp_all; done) | (exfalso; simp_all; omega)
                  · skip
                    have d9 := nd_f c9
                    refine ok_skip ?_
                    refine then_n ?_
                    refine ok_seq ?_
                    refine ok_region ?_
                    refine o_pure rfl rfl (pu_move (.inr rfl) ev_bool) rfl rfl ?_
                    refine ops_nil ?_
                    refine then_n ?_
                    refine ok_ret ?_
                    refine fin1 (res_tmp rfl) (eqB ?_)
                    first | rfl | (exfalso; omega) | (exfalso; simp_all; done) | (exfalso; simp_all; omega)
end Go.Proofs.Ytlogahkchenpdaa

namespace Go.Proofs.Ytlogahkchenpdaa
open Go.RowKit Go.ChangeShapes Go.WideShapes Go.Deep

def LayW (W : World) : List DV → List Value → Prop := LayL (fun b => b < W.heap.size) W
/-- whatever reads as data of type t reads as data of which Q holds -/
structure OpensD (P : Program) (Q : List DV → Prop) (t : TypeId) : Prop where
  run : ∀ {H : Type} (enc : TypeId × Value → H) (W : World) (base : Nat) (spare : Nat → Bool) (held : Bool) (fuel : Nat) (cs : List Value) (y : DataW H × List MemPlace),
    DataW.trod enc P W base spare held fuel t cs = some y → ∃ ds, Q ds ∧ LayW W ds cs
def Is {α : Type} (enc : α → List DV) (ds : List DV) : Prop := ∃ x, ds = enc x
theorem opensD_int {P : Program} {t : TypeId} (ht : P.underlying t = some (.int .i64)) : OpensD P (Is eInt) t := by
  refine ⟨fun {H} enc W base spare held fuel cs y h => ?_⟩
  obtain ⟨n, rfl, _, hw⟩ := DataW.trod_int ht h
  have hb : -9223372036854775808 ≤ n ∧ n ≤ 9223372036854775807 := by simpa [Lit.wf, IntKind.min, IntKind.max, IntKind.signed, IntKind.bits] using hw
  exact ⟨_, ⟨n, rfl⟩, by unfold LayW LayL LayL Lay; exact ⟨_, _, rfl, ⟨rfl, inR64 hb.1 hb.2⟩, rfl⟩⟩
theorem opensD_str {P : Program} {t : TypeId} (ht : P.underlying t = some .string) : OpensD P (Is eStr) t := by
  refine ⟨fun {H} enc W base spare held fuel cs y h => ?_⟩
  obtain ⟨s, rfl, _, hs⟩ := DataW.trod_string ht h
  exact ⟨_, ⟨s, rfl⟩, by simp only [LayW, LayL, Lay]; exact ⟨_, _, rfl, ⟨rfl, by simpa [maxLen] using hs⟩, rfl⟩⟩
theorem points {α : Type} {enc : α → List DV} {W : World} {sz : Nat} {f : Nat → Option Value} (hs : ∀ x, (enc x).length = sz) : ∀ n : Nat,
    (∀ i, i < n → ∃ x ci, LayW W (enc x) ci ∧ ∀ j, j < sz → f (i * sz + j) = ci[j]?) → ∃ (xs : List α) (cells : List Value), xs.length = n ∧ LayW W (xs.flatMap enc) cells ∧ ∀ j u, cells[j]? = some u → f j = some u
  | 0, _ => ⟨[], [], rfl, by simp [LayW, LayL], by simp⟩
  | n + 1, h => by
    obtain ⟨xs, cells, h1, h2, h3⟩ := points hs n (fun i hi => h i (by omega))
    obtain ⟨x, ci, g1, g2⟩ := h n (by omega)
    have hl : cells.length = n * sz := by rw [layL_len _ _ h2, flat_len hs, h1]
    have hci : ci.length = sz := by rw [layL_len _ _ g1, hs]
    refine ⟨xs ++ [x], cells ++ ci, by simp [h1], by have := layL_append _ _ _ _ h2 g1; simp only [List.flatMap_append, List.flatMap_cons, List.flatMap_nil, List.append_nil]; exact this, fun j u hu => ?_⟩
    rcases Nat.lt_or_ge j cells.length with hj | hj
    · rw [List.getElem?_append_left hj] at hu; exact h3 j u hu
    · rw [List.getElem?_append_right hj] at hu
      have hjs : j - cells.length < sz := by rw [← hci]; exact (List.getElem?_eq_some_iff.1 hu).1
      have := g2 (j - cells.length) hjs
      rw [show n * sz + (j - cells.length) = j by omega] at this
      rw [this, hu]
theorem opensD_slice {α : Type} {P : Program} {enc : α → List DV} {t e : TypeId} {sz : Nat} (e' : Nat) (hs : ∀ x, (enc x).length = sz) (hsz : Nat.blt 0 sz = true) (ht : P.underlying t = some (.slice e)) (hc : P.cellsOf e = sz) (he : OpensD P (Is enc) e) : OpensD P (Is fun xs : List α => [listD e' sz enc xs]) t := by
  refine ⟨fun {H} ench W base spare held fuel cs y h => ?_⟩
  have hpos : 0 < sz := by simpa [Nat.blt_eq] using hsz
  rcases open_slice ht h with ⟨rfl, _⟩ | ⟨a, len, cap, m, n, D, Pl, rfl, _, hl, hm, hmm, _, hi⟩
  · refine ⟨_, ⟨[], rfl⟩, ?_⟩
    simp only [LayW, LayL, Lay]
    exact ⟨_, _, rfl, ⟨none, 0, [], rfl, Nat.le_refl _, by simp [maxLen], hpos, by simp, by simp [LayL], fun h => by simp at h⟩, rfl⟩
  · have hlm : len ≤ m := by rw [hmm]; split <;> omega
    obtain ⟨xs, cells, h1, h2, h3⟩ := points (W := W) (f := fun j => W.cell? (a.add j)) hs len (fun i hil => by
      obtain ⟨cs', hc1, hc2⟩ := hi i (by omega)
      obtain ⟨ds, ⟨x, rfl⟩, hx⟩ := he.run ench W base spare held n cs' _ hc2
      obtain ⟨_, hcl, hat⟩ := World.cells?_some hc1
      refine ⟨x, cs', hx, fun j hj => ?_⟩
      have := hat j (by rw [hc]; exact hj)
      rw [← Go.Deep.add_add, hc] at *
      exact this)
    refine ⟨_, ⟨xs, rfl⟩, ?_⟩
    simp only [LayW, LayL]
    refine ⟨_, _, rfl, ?_, rfl⟩
    simp only [Lay]
    refine ⟨some a, cap, cells, by rw [h1], by omega, hm, hpos, flat_len hs xs, h2, fun hp => ?_⟩
    have hcl : 0 < cells.length := by
      rw [layL_len _ _ h2, flat_len hs]
      exact Nat.mul_pos hp hpos
    have h0 := h3 0 _ (List.getElem?_eq_getElem hcl)
    have ha0 : a.add 0 = a := by simp [Addr.add]
    simp only [ha0] at h0
    have hsp : a.spot = none := by
      cases hs : a.spot with
      | none => rfl
      | some s =>
        unfold World.cell? at h0
        split at h0
        · simp [hs] at h0
        · cases h0
    obtain ⟨b, off, sp⟩ := a
    simp only at hsp
    subst hsp
    refine ⟨b, off, rfl, World.block_lt_of_cell? W _ h0, fun j u hu => ?_⟩
    have := h3 j u hu
    simp only [add_row] at this
    exact this
/-! ### structs -/
def Qcat : List (List DV → Prop) → List DV → Prop
  | [], ds => ds = []
  | Q :: Qs, ds => ∃ a b, ds = a ++ b ∧ Q a ∧ Qcat Qs b
def contig (P : Program) : List Field → Nat → Nat → Bool
  | [], off, n => off == n
  | f :: fs, off, n => f.offset == off && contig P fs (off + P.cellsOf f.type) n
def OpensAll (P : Program) : List Field → List (List DV → Prop) → Prop
  | [], [] => True
  | f :: fs, Q :: Qs => OpensD P Q f.type ∧ OpensAll P fs Qs
  | _, _ => False
theorem opens_fields {P : Program} {W : World} {H : Type} (enc : TypeId × Value → H) (base : Nat) (spare : Nat → Bool) (held : Bool) (n : Nat) {cs : List Value} : ∀ (fs : List Field) (Qs : List (List DV → Prop)) (off : Nat), contig P fs off cs.length = true → OpensAll P fs Qs →
    (∀ f ∈ fs, ∃ y, DataW.trod enc P W base spare held n f.type ((cs.drop f.offset).take (P.cellsOf f.type)) = some y) → ∃ ds, Qcat Qs ds ∧ LayW W ds (cs.drop off)
  | [], [], off, h1, _, _ => by
    simp only [contig, beq_iff_eq] at h1
    subst h1
    exact ⟨[], rfl, by simp [LayW, LayL]⟩
  | [], _ :: _, _, _, h2, _ => h2.elim
  | _ :: _, [], _, _, h2, _ => h2.elim
  | f :: fs, Q :: Qs, off, h1, h2, h3 => by
    simp only [contig, Bool.and_eq_true, beq_iff_eq] at h1
    obtain ⟨e1, h1⟩ := h1
    obtain ⟨y, hy⟩ := h3 f (by simp)
    rw [e1] at hy
    obtain ⟨a, ha, la⟩ := h2.1.run enc W base spare held n _ _ hy
    obtain ⟨b, hb, lb⟩ := opens_fields enc base spare held n fs Qs _ h1 h2.2 (fun g hg => h3 g (by simp [hg]))
    refine ⟨a ++ b, ⟨a, b, rfl, ha, hb⟩, ?_⟩
    have := layL_append _ _ _ _ la lb
    rw [← List.drop_drop, List.take_append_drop] at this
    exact this
theorem opensD_struct {P : Program} {t : TypeId} {fs : Array Field} {Qs : List (List DV → Prop)} (ht : P.underlying t = some (.struct fs)) (hc : contig P fs.toList 0 (P.cellsOf t) = true) (h : OpensAll P fs.toList Qs) : OpensD P (Qcat Qs) t := by
  refine ⟨fun {H} enc W base spare held fuel cs y h' => ?_⟩
  obtain ⟨xs, n, _, _, hl, hlen, hf⟩ := DataW.trod_struct ht h'
  have := opens_fields (cs := cs) enc base spare held n fs.toList Qs 0 (by rw [hl]; exact hc) h (fun f hf' => by
    obtain ⟨i, hi⟩ := List.mem_iff_getElem?.1 hf'
    have hi' : fs[i]? = some f := by simpa using hi
    have h2 := hf i f hi'
    have hlt : i < xs.length := by
      rw [hlen]
      rw [Array.getElem?_eq_some_iff] at hi'
      exact hi'.1
    rw [List.getElem?_eq_getElem hlt] at h2
    exact ⟨_, h2⟩)
  simpa using this
theorem OpensD.mono {P : Program} {Q R : List DV → Prop} {t : TypeId} (h : OpensD P Q t) (hq : ∀ ds, Q ds → R ds) : OpensD P R t := by
  refine ⟨fun {H} enc W base spare held fuel cs y h' => ?_⟩
  obtain ⟨ds, h1, h2⟩ := h.run enc W base spare held fuel cs y h'
  exact ⟨ds, hq ds h1, h2⟩
/-! ### a call from the outside -/
/-- arguments that are read: structs and single values -/
def TopL (w : World) : List SV → List Value → Prop
  | [], vs => vs = []
  | .one c :: us, vs => ∃ d v vs', c = .dv [] d ∧ vs = v :: vs' ∧ LayW w [d] [v] ∧ TopL w us vs'
  | .agg cs :: us, vs => ∃ ds xs vs', cs = ds.map (CV.dv []) ∧ vs = .agg xs.toArray :: vs' ∧ LayW w ds xs ∧ TopL w us vs'
  | _ :: _, _ => False
theorem lay_top {w : World} {L : Lyt} {d : DV} {v : Value} (h : LayW w [d] [v]) : CVr ⟨w, [], L.rv⟩ L w (.dv [] d) v := by
  simp only [LayW, LayL] at h
  obtain ⟨v', _, e, h1, rfl⟩ := h
  simp only [List.cons.injEq, and_true] at e
  subst e
  simp only [CVr]
  exact lay_conv (fun b hb _ => ⟨.inl ⟨hb, by simp⟩, rfl⟩) d _ h1
theorem lays_top {w : World} {L : Lyt} : ∀ {ds : List DV} {vs : List Value}, LayW w ds vs → CVL ⟨w, [], L.rv⟩ L w (ds.map (CV.dv [])) vs
  | [], _, h => by simp only [LayW, LayL] at h; subst h; rfl
  | d :: ds, _, h => by
    simp only [LayW, LayL] at h
    obtain ⟨v, vs', rfl, h1, h2⟩ := h
    exact ⟨v, vs', rfl, lay_top (by simp only [LayW, LayL]; exact ⟨v, [], rfl, h1, rfl⟩), lays_top h2⟩
theorem topL_sv {P : Program} {w : World} {L : Lyt} : ∀ {us : List SV} {vs : List Value}, TopL w us vs → vs.length = us.length ∧ (∀ u ∈ us, u.keys = [] ∧ u.boxes = []) ∧ ∀ (i : Nat) (v : SV), us[i]? = some v → ∃ x, vs[i]? = some x ∧ SVr P ⟨w, [], L.rv⟩ L w v x
  | [], _, h => by simp only [TopL] at h; subst h; simp
  | .one c :: us, _, h => by
    simp only [TopL] at h
    obtain ⟨d, v, vs', rfl, rfl, h1, h2⟩ := h
    obtain ⟨g1, g2, g3⟩ := topL_sv (P := P) (L := L) h2
    refine ⟨by simp [g1], fun u hu => ?_, fun i x hx => ?_⟩
    · rcases List.mem_cons.1 hu with rfl | hu
      · exact ⟨rfl, rfl⟩
      · exact g2 u hu
    · cases i with
      | zero => simp only [List.getElem?_cons_zero, Option.some.injEq] at hx; subst hx; exact ⟨v, rfl, by simp only [SVr]; exact lay_top h1⟩
      | succ i => simpa using g3 i x (by simpa using hx)
  | .agg cs :: us, _, h => by
    simp only [TopL] at h
    obtain ⟨ds, xs, vs', rfl, rfl, h1, h2⟩ := h
    obtain ⟨g1, g2, g3⟩ := topL_sv (P := P) (L := L) h2
    refine ⟨by simp [g1], fun u hu => ?_, fun i x hx => ?_⟩
    · rcases List.mem_cons.1 hu with rfl | hu
      · refine ⟨?_, rfl⟩
        simp only [SV.keys]
        rw [List.flatMap_eq_nil_iff]
        intro c hc
        obtain ⟨d, _, rfl⟩ := List.mem_map.1 hc
        rfl
      · exact g2 u hu
    · cases i with
      | zero => simp only [List.getElem?_cons_zero, Option.some.injEq] at hx; subst hx; exact ⟨_, rfl, by simp only [SVr]; exact ⟨xs, rfl, lays_top h1⟩⟩
      | succ i => simpa using g3 i x (by simpa using hx)
  | .tup _ :: _, _, h => by simp [TopL] at h
  | .box _ _ :: _, _, h => by simp [TopL] at h
  | .ref _ _ :: _, _, h => by simp [TopL] at h
  | .eptr _ _ :: _, _, h => by simp [TopL] at h
  | .fn _ _ :: _, _, h => by simp [TopL] at h
  | .clo _ _ :: _, _, h => by simp [TopL] at h
  | .opt _ _ :: _, _, h => by simp [TopL] at h
  | .any :: _, _, h => by simp [TopL] at h
theorem pfn_run {P : Program} {f : FuncId} {us : List SV} {b : Bool} (hf : PFn P f us (.one (.dv [] (.bool b)))) {w : World} {vs : List Value} (h : TopL w us vs) :
    Calls P f vs.toArray w fun e w' => e = .returned (.bool b) ∧ Below w.heap.size w w' := by
  let L : Lyt := ⟨fun _ => 0, fun _ => [], fun _ => .bool false⟩
  obtain ⟨h1, h2, h3⟩ := topL_sv (P := P) (L := L) h
  obtain ⟨t1, t2⟩ := enum_tk us 0 h2
  have hr : Rel P ⟨w, [], L.rv⟩ us.length L ⟨enumS 0 us, [], []⟩ ⟨vs.toArray, []⟩ w := {
    df := rfl
    sz := by simp [h1]
    tm := fun i v hv => by
      obtain ⟨_, h4⟩ := enumS_look us 0 i v hv
      obtain ⟨x, h5, h6⟩ := h3 i v (by simpa using h4)
      have : vs.toArray.getD i undef = x := by simp [Array.getD_eq_getD_getElem?, h5]
      rw [this]; exact h6
    bx := fun i t cs h => by cases h
    ks := fun k c h => by cases h
    b1 := fun i x h => by cases h
    k1 := fun k c h => by cases h
    kn := fun k c h => by cases h
    bb := fun i j x y h => by cases h
    bk := fun i k x c h => by cases h
    kk := fun k j c d h => by cases h
    lk := fun k hk => by simp only [St.tk, t1, List.flatMap_nil, List.append_nil] at hk; cases hk
    lb := fun b hb => by simp only [St.tb, t2] at hb; cases hb
    s0 := fun b hb => by cases hb
    chg := Chg.refl _ _ }
  refine (hf.ok w [] L vs h1 hr).mono ?_
  rintro e w' ⟨r, res, σ', L', rfl, rfl, hr'⟩
  have hv := hr'.tm 0 _ rfl
  simp only [SVr, CVr, Lay] at hv
  refine ⟨?_, hr'.chg.below⟩
  have : (#[r] : Array Value).getD 0 undef = r := rfl
  rw [this] at hv
  rw [hv]
end Go.Proofs.Ytlogahkchenpdaa

namespace Go.Proofs.Ytlogahkchenpdaa
open Go.RowKit
open Go.Proofs
theorem opensKey : OpensD Try.prog (Is eKey) 89 :=
  (opensD_struct (Qs := [Is eInt, Is eInt, Is eStr]) Try.underlying89 (by kernel_rfl) ⟨(opensD_int Try.underlying3), (opensD_int Try.underlying3), (opensD_str Try.underlying9), trivial⟩).mono fun ds h => by
    obtain ⟨_, _, rfl, ⟨a, rfl⟩, ⟨_, _, rfl, ⟨b, rfl⟩, ⟨_, _, rfl, ⟨c, rfl⟩, rfl⟩⟩⟩ := h
    exact ⟨(a, b, c), rfl⟩
theorem opensField : OpensD Try.prog (Is eField) 210 :=
  (opensD_struct (Qs := [Is eStr, Is eInt]) Try.underlying210 (by kernel_rfl) ⟨(opensD_str Try.underlying9), (opensD_int Try.underlying3), trivial⟩).mono fun ds h => by
    obtain ⟨_, _, rfl, ⟨a, rfl⟩, ⟨_, _, rfl, ⟨b, rfl⟩, rfl⟩⟩ := h
    exact ⟨(a, b), rfl⟩
theorem opensFields : OpensD Try.prog (Is fun xs => [listD 161 2 eField xs]) 90 := opensD_slice (sz := 2) 161 (fun _ => rfl) rfl Try.underlying90 (by kernel_rfl) opensField
theorem opensRecord : OpensD Try.prog (Is (fun r : RecT => [fieldsD r])) 92 :=
  (opensD_struct (Qs := [Is (fun r : RecT => [fieldsD r])]) Try.underlying92 (by kernel_rfl) ⟨opensFields, trivial⟩).mono fun ds h => by
    obtain ⟨_, _, rfl, ⟨a, rfl⟩, rfl⟩ := h
    exact ⟨a, rfl⟩
theorem opensOp : OpensD Try.prog (Is eOp) 94 :=
  (opensD_struct (Qs := [Is eInt, Is eStr, Is eKey, Is (fun r : RecT => [fieldsD r]), Is eStr]) Try.underlying94 (by kernel_rfl) ⟨(opensD_int Try.underlying3), (opensD_str Try.underlying9), opensKey, opensRecord, (opensD_str Try.underlying9), trivial⟩).mono fun ds h => by
    obtain ⟨_, _, rfl, ⟨a, rfl⟩, ⟨_, _, rfl, ⟨b, rfl⟩, ⟨_, _, rfl, ⟨c, rfl⟩, ⟨_, _, rfl, ⟨d, rfl⟩, ⟨_, _, rfl, ⟨e, rfl⟩, rfl⟩⟩⟩⟩⟩ := h
    exact ⟨(a, b, c, d, e), rfl⟩
theorem opensOps : OpensD Try.prog (Is fun xs => [listD 102 7 eOp xs]) 45 := opensD_slice (sz := 7) 102 (fun _ => rfl) rfl Try.underlying45 (by kernel_rfl) opensOp
end Go.Proofs.Ytlogahkchenpdaa

