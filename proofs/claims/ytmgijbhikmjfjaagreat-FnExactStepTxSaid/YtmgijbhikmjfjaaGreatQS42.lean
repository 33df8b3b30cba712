/-
  Contracts of the program's functions for the statements RunOps, SerialRun, StepTx, by the rules of the logic. Conditions: none but those in the theorems.
-/
import Derived.Test.YtmgijbhikmjfjaaGreatQS41
set_option maxHeartbeats 4000000
set_option maxRecDepth 100000
namespace Go.Proofs.YtmgijbhikmjfjaaGreat
open Go.RowKit
open Go.Proofs
set_option linter.unusedVariables false
set_option linter.unusedSimpArgs false

def posK (k : KeyT) : List ItemT → Nat
 | [] => 0
 | y :: ys => if cmpK y.1 k < 0 then posK k ys + 1 else 0
def setI (l : List ItemT) (i : Nat) (r : RecT) : List ItemT := l.set i ((l.getD i default).1, r)
def autoP (x : StoreT) (k : KeyT) : Int := if decide (k.1 = 1) && (decide (x.2.2 + 1 ≤ k.2.1) && decide (k.2.1 ≤ 1000000)) then k.2.1 else x.2.2
def putN (x : StoreT) (k : KeyT) (r : RecT) : StoreT × Bool :=
 if !isSto x || !isKey k || !isRec r then (x, false)
 else if 0 ≤ fndK x k then ((x.1, setI x.2.1 (fndK x k).toNat r, x.2.2), true)
 else if 16 ≤ x.2.1.length then (x, false)
 else ((x.1, insI x.2.1 (posK k x.2.1) (k, r), autoP x k), true)
theorem fndK_lt {x : StoreT} {k : KeyT} (h : 0 ≤ fndK x k) : fndK x k < x.2.1.length := by
 rcases findI_lt (p := fun y : ItemT => kEq y.1 k) x.2.1 0 (by omega) with h1 | h1
 ·unfold fndK; omega
 ·unfold fndK at h; omega
theorem put_bad {x : StoreT} {k : KeyT} {r : RecT} (h : (!isSto x || !isKey k) = true) : putN x k r = (x, false) := by
 rw [putN, if_pos (by rw [h]; rfl)]
theorem setI_len {l : List ItemT} {i : Nat} {r : RecT} : (setI l i r).length = l.length := by simp [setI]
theorem len4 (l : List ItemT) : (l.flatMap eItem).length = l.length * 4 := by
 induction l with
 | nil => rfl
 | cons x l ih => rw [List.flatMap_cons, List.length_append, ih, List.length_cons]; show 4 + l.length * 4 = (l.length + 1) * 4; omega
theorem drop_cons {l : List ItemT} {j : Nat} (h : j < l.length) : l.drop j = l.getD j default :: l.drop (j + 1) := by
 rw [List.drop_eq_getElem_cons h]
 simp [List.getD, List.getElem?_eq_getElem h]
theorem posK_step {k : KeyT} {l : List ItemT} {j : Nat} (hp : posK k l = j + posK k (l.drop j)) (h : (decide ((j : Int) < (l.length : Int)) && decide (cmpK (l.getD (j : Int).toNat default).1 k < 0)) = true) : j < l.length ∧ posK k l = (j + 1) + posK k (l.drop (j + 1)) := by
 obtain ⟨h1, h2⟩ := (Bool.and_eq_true _ _ ▸ h : _ ∧ _)
 have h1 := of_decide_eq_true h1
 have h2 := of_decide_eq_true h2
 rw [Int.toNat_natCast] at h2
 have h3 : j < l.length := by omega
 refine ⟨h3, ?_⟩
 rw [hp, drop_cons h3, posK, if_pos h2]
 omega
theorem posK_stop {k : KeyT} {l : List ItemT} {j : Nat} (hj : j ≤ l.length) (hp : posK k l = j + posK k (l.drop j)) (h : (decide ((j : Int) < (l.length : Int)) && decide (cmpK (l.getD (j : Int).toNat default).1 k < 0)) = false) : posK k l = j := by
 rcases Nat.lt_or_ge j l.length with h3 | h3
 ·rw [decide_eq_true (by omega : (j : Int) < (l.length : Int)), Bool.true_and] at h
  have h2 := of_decide_eq_false h
  rw [Int.toNat_natCast] at h2
  rw [hp, drop_cons h3, posK, if_neg h2]
  omega
 ·rw [hp, List.drop_eq_nil_of_le h3, posK]; omega
theorem setR_set {l : List ItemT} {i : Nat} {r : RecT} (hi : i < l.length) : setR (i * 4 + 3) [fieldsD r] (l.flatMap eItem) = (setI l i r).flatMap eItem := by
 obtain ⟨h1, h2⟩ := take_flat (enc := eItem) (sz := 4) (fun _ => rfl) i l
 have e : l.flatMap eItem = (l.take i).flatMap eItem ++ (eItem (l.getD i default) ++ (l.drop (i + 1)).flatMap eItem) := by
  rw [← List.flatMap_cons, ← drop_cons hi, ← List.flatMap_append, List.take_append_drop]
 have e2 : (setI l i r).flatMap eItem = (l.take i).flatMap eItem ++ (eItem ((l.getD i default).1, r) ++ (l.drop (i + 1)).flatMap eItem) := by
  rw [setI, List.set_eq_take_append_cons_drop, if_pos hi, List.flatMap_append, List.flatMap_cons]
 have hl : ((l.take i).flatMap eItem).length = i * 4 := by rw [len4, List.length_take]; omega
 rw [e, e2]
 exact setR_mid (pre := (l.take i).flatMap eItem) (B := eItem (l.getD i default)) (B' := eItem ((l.getD i default).1, r)) (post := (l.drop (i + 1)).flatMap eItem) (m := i * 4) (off := i * 4 + 3) (j := 3) hl rfl rfl (Nat.le_refl _)
def relP (p : Option KeyT) (k : KeyT) : Bool := match p with | none => true | some q => decide (cmpK q k < 0)
def okL : Option KeyT → List ItemT → Bool
 | _, [] => true
 | p, y :: ys => isKey y.1 && isRec y.2 && relP p y.1 && okL (some y.1) ys
def badP (p : Option KeyT) (l : List ItemT) (i : Nat) : Bool := (!isKey (l.getD i default).1 || !isRec (l.getD i default).2) || !(relP (if i = 0 then p else some (l.getD (i - 1) default).1) (l.getD i default).1)
theorem okL_eq : ∀ (l : List ItemT) (p : Option KeyT), okL p l = (List.range l.length).all (fun i => !badP p l i)
 | [], _ => rfl
 | y :: ys, p => by
  rw [okL, okL_eq ys (some y.1), List.length_cons, List.range_succ_eq_map, List.all_cons, List.all_map]
  congr 1
  ·simp [badP]
  ·congr 1
   funext i
   cases i with
   | zero => simp [badP]
   | succ i => simp [badP]
theorem isSto_eq (s : StoreT) : isSto s = (okL none s.2.1 && (isName s.1 && decide ((s.2.1.length : Int) ≤ 16) && (decide ((0 : Int) ≤ s.2.2) && decide (s.2.2 ≤ 1000000)))) := by
 rw [isSto, okL_eq]
 congr 2
 funext i
 cases i with
 | zero => simp [stoBad, badP, relP]
 | succ i =>
  have e : (((i + 1 : Nat) : Int) - 1).toNat = i := by omega
  have e2 : (((i + 1 : Nat) : Int)).toNat = i + 1 := by omega
  have e3 : decide ((0 : Int) < ((i + 1 : Nat) : Int)) = true := decide_eq_true (by omega)
  simp only [stoBad, badP, relP, e, e2, e3, Bool.true_and, Nat.succ_ne_zero, if_false, Nat.add_sub_cancel]
  congr 2
  by_cases h : cmpK (s.2.1.getD i default).1 (s.2.1.getD (i + 1) default).1 < 0
  ·rw [decide_eq_true h, decide_eq_false (by omega)]; rfl
  ·rw [decide_eq_false h, decide_eq_true (by omega)]; rfl
theorem sgnS_zero {a b : Str} (h : sgnS a b = 0) : sEq a b = true := by
 have e := sLe_eq a b
 unfold sgnS at h
 cases h1 : sLt a b <;> cases h2 : sLt b a <;> simp_all
theorem cmpK_zero {a b : KeyT} (ha : isKey a = true) (hb : isKey b = true) (h : cmpK a b = 0) : kEq a b = true := by
 have hg : (!isKey a || !isKey b) = false := by rw [ha, hb]; rfl
 by_cases h1 : a.1 = b.1
 ·by_cases h2 : a.2.1 = b.2.1
  ·rw [cmpK_text hg h1 h2] at h
   rw [kEq, decide_eq_true h1, decide_eq_true h2, sgnS_zero h]; rfl
  ·rw [cmpK_num hg h1 h2] at h; exact absurd (sgnI_zero.1 h) h2
 ·rw [cmpK_kind hg h1] at h; exact absurd (sgnI_zero.1 h) h1
theorem okL_ins {k : KeyT} {r : RecT} (hk : isKey k = true) : ∀ (l : List ItemT) (p : Option KeyT), okL p l = true → l.any (fun y : ItemT => kEq y.1 k) = false → relP p k = true → okL p (insI l (posK k l) (k, r)) = isRec r
 | [], p, _, _, hp => by simp [insI, posK, okL, hk, hp]
 | y :: ys, p, hl, hn, hp => by
  simp only [okL, Bool.and_eq_true] at hl
  obtain ⟨⟨⟨h1, h2⟩, h3⟩, h4⟩ := hl
  simp only [List.any_cons, Bool.or_eq_false_iff] at hn
  by_cases hc : cmpK y.1 k < 0
  ·have ih := okL_ins (r := r) hk ys (some y.1) h4 hn.2 (by simpa [relP] using hc)
   rw [posK, if_pos hc]
   have e : insI (y :: ys) (posK k ys + 1) (k, r) = y :: insI ys (posK k ys) (k, r) := by simp [insI]
   rw [e, okL, h1, h2, h3, ih]; rfl
  ·rw [posK, if_neg hc]
   have e : insI (y :: ys) 0 (k, r) = (k, r) :: y :: ys := by simp [insI]
   have h0 : ¬ cmpK y.1 k = 0 := fun h => by
    have := cmpK_zero h1 hk h
    rw [hn.1] at this; cases this
   have hs := cmpK_swap k y.1
   rw [e, okL, okL, hk, hp, h1, h2, h4]
   have : relP (some k) y.1 = true := by simp only [relP, decide_eq_true_eq]; omega
   rw [this]; simp
theorem okL_set {r : RecT} : ∀ (l : List ItemT) (p : Option KeyT) (i : Nat), okL p l = true → i < l.length → okL p (setI l i r) = isRec r
 | [], _, _, _, h => by simp at h
 | y :: ys, p, 0, hl, _ => by
  simp only [okL, Bool.and_eq_true] at hl
  obtain ⟨⟨⟨h1, h2⟩, h3⟩, h4⟩ := hl
  simp [setI, okL, h1, h3, h4]
 | y :: ys, p, i + 1, hl, h => by
  simp only [okL, Bool.and_eq_true] at hl
  obtain ⟨⟨⟨h1, h2⟩, h3⟩, h4⟩ := hl
  have ih := okL_set (r := r) ys (some y.1) i h4 (by simpa using h)
  have e : setI (y :: ys) (i + 1) r = y :: setI ys i r := by simp [setI]
  rw [e, okL, h1, h2, h3, ih]; rfl
theorem findI_neg {α : Type} {p : α → Bool} : ∀ (xs : List α) (i : Int), 0 ≤ i → findI p xs i < 0 → xs.any p = false
 | [], _, _, _ => rfl
 | x :: xs, i, hi, h => by
  rw [findI] at h
  split at h
  ·omega
  ·rename_i hp
   rw [List.any_cons, findI_neg xs (i + 1) (by omega) h]
   simpa using hp
theorem sto_set {x : StoreT} {i : Nat} {r : RecT} (hs : isSto x = true) (hi : i < x.2.1.length) : isSto (x.1, setI x.2.1 i r, x.2.2) = isRec r := by
 rw [isSto_eq] at hs ⊢
 simp only [Bool.and_eq_true] at hs
 obtain ⟨h1, ⟨h2, h3⟩, h4, h5⟩ := hs
 simp only [setI_len, okL_set _ _ _ h1 hi, h2, h3, h4, h5, Bool.and_self, Bool.and_true]
theorem sto_ins {x : StoreT} {k : KeyT} {r : RecT} {a : Int} (hs : isSto x = true) (hk : isKey k = true) (hf : fndK x k < 0) (ha : 0 ≤ a ∧ a ≤ 1000000) : isSto (x.1, insI x.2.1 (posK k x.2.1) (k, r), a) = (isRec r && decide (x.2.1.length < 16)) := by
 rw [isSto_eq] at hs ⊢
 simp only [Bool.and_eq_true] at hs
 obtain ⟨h1, ⟨h2, h3⟩, h4, h5⟩ := hs
 simp only [insI_len, okL_ins hk _ _ h1 (findI_neg _ 0 (by omega) hf) rfl, h2, decide_eq_true ha.1, decide_eq_true ha.2, Bool.and_self, Bool.and_true, Bool.true_and]
 congr 1
 exact decide_eq_decide.2 (by omega)
theorem not_or_f {a b : Bool} (h : (!a || !b) = false) : a = true ∧ b = true := by cases a <;> cases b <;> simp_all
theorem put_set_no {x : StoreT} {k : KeyT} {r : RecT} (h : (!isSto x || !isKey k) = false) (hf : 0 ≤ fndK x k) (ho : (!isSto (x.1, setI x.2.1 (fndK x k).toNat r, x.2.2)) = true) : putN x k r = (x, false) := by
 obtain ⟨h1, h2⟩ := not_or_f h
 have hl := fndK_lt hf
 rw [sto_set h1 (by omega)] at ho
 rw [putN, if_pos (by rw [ho]; simp)]
theorem put_set_yes {x : StoreT} {k : KeyT} {r : RecT} (h : (!isSto x || !isKey k) = false) (hf : 0 ≤ fndK x k) (ho : (!isSto (x.1, setI x.2.1 (fndK x k).toNat r, x.2.2)) = false) : putN x k r = ((x.1, setI x.2.1 (fndK x k).toNat r, x.2.2), true) := by
 obtain ⟨h1, h2⟩ := not_or_f h
 have hl := fndK_lt hf
 rw [sto_set h1 (by omega)] at ho
 rw [putN, if_neg (by rw [h, ho]; simp), if_pos hf]
theorem auto_ok {x : StoreT} {k : KeyT} (hs : isSto x = true) : 0 ≤ autoP x k ∧ autoP x k ≤ 1000000 := by
 rw [isSto_eq] at hs
 simp only [Bool.and_eq_true, decide_eq_true_eq] at hs
 unfold autoP
 split
 ·rename_i h
  simp only [Bool.and_eq_true, decide_eq_true_eq] at h
  omega
 ·omega
theorem auto_yes {x : StoreT} {k : KeyT} (h : (decide (k.1 = 1) && decide (x.2.2 < k.2.1) && decide (k.2.1 ≤ 1000000)) = true) : k.2.1 = autoP x k := by
 simp only [Bool.and_eq_true, decide_eq_true_eq] at h
 rw [autoP, if_pos (by simp only [Bool.and_eq_true, decide_eq_true_eq]; omega)]
theorem auto_no {x : StoreT} {k : KeyT} (h : (decide (k.1 = 1) && decide (x.2.2 < k.2.1) && decide (k.2.1 ≤ 1000000)) = false) : x.2.2 = autoP x k := by
 rw [autoP, if_neg]
 intro h2
 simp only [Bool.and_eq_true, decide_eq_true_eq] at h2
 rw [decide_eq_true h2.1, decide_eq_true (by omega : x.2.2 < k.2.1), decide_eq_true h2.2.2] at h
 cases h
theorem put_ins_no {x : StoreT} {k : KeyT} {r : RecT} {j : Nat} {a : Int} (h : (!isSto x || !isKey k) = false) (hf : ¬ 0 ≤ fndK x k) (hj : posK k x.2.1 = j) (ha : a = autoP x k) (ho : (!isSto (x.1, insI x.2.1 j (k, r), a)) = true) : putN x k r = (x, false) := by
 obtain ⟨h1, h2⟩ := not_or_f h
 subst hj; subst ha
 rw [sto_ins h1 h2 (by omega) (auto_ok h1)] at ho
 rw [putN]
 split
 ·rfl
 ·rename_i h3
  rw [if_pos]
  rw [h, Bool.false_or] at h3
  have h4 : isRec r = true := by simpa using h3
  rw [h4, Bool.true_and] at ho
  simpa using ho
theorem put_ins_yes {x : StoreT} {k : KeyT} {r : RecT} {j : Nat} {a : Int} (h : (!isSto x || !isKey k) = false) (hf : ¬ 0 ≤ fndK x k) (hj : posK k x.2.1 = j) (ha : a = autoP x k) (ho : (!isSto (x.1, insI x.2.1 j (k, r), a)) = false) : putN x k r = ((x.1, insI x.2.1 j (k, r), a), true) := by
 obtain ⟨h1, h2⟩ := not_or_f h
 subst hj; subst ha
 rw [sto_ins h1 h2 (by omega) (auto_ok h1)] at ho
 have ho' : isRec r = true ∧ x.2.1.length < 16 := by
  simpa using ho
 rw [putN, if_neg (by rw [h, ho'.1]; simp), if_neg hf, if_neg (by omega)]

theorem ok_impl_PutItem {x : StoreT} {k : KeyT} {r : RecT} (hb : wStore x ≤ 1048576) (hb2 : r.length ≤ 1048576) : KFn Tryz.prog 102 [.agg [(.dv [] (.str (x.1))), (.dv [] (itemsD (x.2.1))), (.dv [] (.int .i64 (x.2.2)))], .agg [(.dv [] (.int .i64 (k.1))), (.dv [] (.int .i64 (k.2.1))), (.dv [] (.str (k.2.2)))], .agg [(.dv [] (fieldsD (r)))]] (.tup [(true, [(.dv [] (.str ((putN x k r).1.1))), (.key 9001), (.dv [] (.int .i64 ((putN x k r).1.2.2)))]), (false, [(.dv [] (.bool ((putN x k r).2)))])]) [(9001, some (kcOf false (itemsD ((putN x k r).1.2.1))))] := by
 refine ⟨fn_intro Tryz.func102 rfl Tryz.ntmps102 Tryz.results102 rfl (fun C => ?_)⟩
 have hlen : x.2.1.length ≤ 1048576 := by have h3 : wStore x = x.1.size + (x.2.1.length + wSum wItem x.2.1) := rfl; omega
 refine yF 0 0 rfl rfl fun f0_0 => ?_
 refine yF 0 1 rfl rfl fun f0_1 => ?_
 refine yF 0 2 rfl rfl fun f0_2 => ?_
 refine yF 1 0 rfl rfl fun f1_0 => ?_
 refine yF 1 1 rfl rfl fun f1_1 => ?_
 refine yF 1 2 rfl rfl fun f1_2 => ?_
 refine yF 2 0 rfl rfl fun f2_0 => ?_
 iterate 10 refine z ?_
 refine zC Tryz.call96 ?_ (hf := ok_impl_IsStore (s := x))
 iterate 3 refine z ?_
 refine o_callG (gd_bool rfl rfl rfl rfl rfl) rfl rfl Tryz.call99 ok_impl_IsKey (fun hg => (as_cons (ev_opt rfl hg) (ag_agg (ag_cons ac_dv (ag_cons ac_dv (ag_cons ac_dv ag_nil)))) as_nil)) rfl rfl ?_
 iterate 3 refine z ?_
 refine yQ rfl (fun c1 => ?_) fun c1 => ?_
 ·skip
  iterate 2 refine z ?_
  refine zK 8971 Tryz.call74 ?_ (hf := ok_impl_copyStore (x := x) (by omega))
  iterate 3 refine z ?_
  rw [put_bad c1]
  refine ok_weak (σ' := ⟨[(6, .box 6 0), (7, .one (.dv [] (.bool (false))))], [(6, 91, [(.dv [] (.str ((x).1))), (.key 9001), (.dv [] (.int .i64 ((x).2.2)))])], [(9001, some (kcOf false (itemsD (x.2.1))))]⟩) (weak_sub ⟨rfl, rfl, trivial⟩ ⟨rfl, trivial⟩ ⟨rfl, trivial⟩ rfl) ?_
  iterate 2 refine z ?_
  refine fin2 (res_cell hT rfl rfl rfl rfl) (res_tmp rfl) rfl rfl ?_
  first | exact ⟨rfl, rfl⟩ | skip
 ·skip
  iterate 4 refine z ?_
  refine zK 8971 Tryz.call74 ?_ (hf := ok_impl_copyStore (x := x) (by omega))
  iterate 7 refine z ?_
  refine zC Tryz.call101 ?_ (hf := ok_impl_FindItem)
  iterate 6 refine z ?_
  refine yQ rfl (fun c2 => ?_) fun c2 => ?_
  ·skip
   have d2 := of_decide_eq_true c2
   have hlt := fndK_lt d2
   refine ok_regionD (oB := [3, 4, 5, 6, 8]) (oK := [9001]) (by kernel_rfl) rfl rfl ?_
   refine zD 0 ?_
   refine zD 1 ?_
   refine zD 2 ?_
   refine zD 3 ?_
   refine d_callK 9000 4 rfl (by kernel_rfl) rfl rfl rfl Tryz.call139 (ok_impl_copyRecord (by omega)) (as_cons (ev_tmp rfl) (ag_agg (ag_cons ac_dv ag_nil)) as_nil) rfl rfl rfl rfl rfl ?_
   refine d_take 5 rfl (by kernel_rfl) rfl rfl (pu_indexK (i := (fndK (x) (k)).toNat) hT rfl rfl rfl (ev_tmp rfl) rfl (ev_tmp rfl) (by omega) (by show _ < ((x.2.1)).length; omega)) rfl rfl rfl rfl ?_
   refine zD 6 ?_
   refine d_chain [7] rfl rfl (by kernel_rfl) ?_
   refine o_storeE (js := [9003]) (cs := (setI x.2.1 (fndK x k).toNat r).flatMap eItem) hT rfl rfl rfl rfl (ev_tmp rfl) (ev_tmp rfl) rfl rfl rfl rfl (ow_cons' (ow_key rfl) ow_nil rfl) (by decide) (by decide) rfl (by show _ ≤ List.length ((x.2.1).flatMap eItem); rw [len4]; omega) (setR_set (by omega)) ?_
   simp only [killT, killB, SV.kill, CV.kill, kk, Nat.reduceBEq]
   refine z ?_
   refine ok_seq ?_
   refine ok_seq ?_
   refine ok_weak (weak_eq (k := 9001) (c' := kcOf false (itemsD (setI x.2.1 (fndK x k).toNat r))) rfl (congrArg (fun n => KC.mk false 141 4 n ((setI x.2.1 (fndK x k).toNat r).flatMap eItem)) setI_len.symm) rfl) ?_
   refine ok_region ?_
   refine z ?_
   refine o_call rfl rfl rfl Tryz.call96 (ok_impl_IsStore (s := (x.1, setI x.2.1 (fndK x k).toNat r, x.2.2))) (as_cons (ev_tmp rfl) (ag_agg (ag_cons ac_dv (ag_cons (ac_key' rfl rfl) (ag_cons ac_dv ag_nil)))) as_nil) rfl rfl ?_
   iterate 2 refine z ?_
   refine yQ rfl (fun c3 => ?_) fun c3 => ?_
   ·skip
    refine ok_seq ?_
    refine ok_weak (σ' := ⟨[(3, .box 3 0), (6, .box 6 0), (7, .one (.dv [] (.bool (false))))], [(3, 91, [(.dv [] (.str (x.1))), (.dv [] (itemsD (x.2.1))), (.dv [] (.int .i64 (x.2.2)))]), (6, 91, [(.dv [] (.str (ByteArray.empty))), .nil, (.dv [] (.int .i64 (0)))])], []⟩) (weak_sub ⟨rfl, rfl, rfl, trivial⟩ ⟨rfl, rfl, trivial⟩ trivial rfl) ?_
    refine ok_region ?_
    refine z ?_
    refine zK 8971 Tryz.call74 ?_ (hf := ok_impl_copyStore (x := x) (by omega))
    iterate 3 refine z ?_
    rw [put_set_no c1 d2 c3]
    refine ok_weak (σ' := ⟨[(6, .box 6 0), (7, .one (.dv [] (.bool (false))))], [(6, 91, [(.dv [] (.str ((x).1))), (.key 9001), (.dv [] (.int .i64 ((x).2.2)))])], [(9001, some (kcOf false (itemsD (x.2.1))))]⟩) (weak_sub ⟨rfl, rfl, trivial⟩ ⟨rfl, trivial⟩ ⟨rfl, trivial⟩ rfl) ?_
    iterate 2 refine z ?_
    refine fin2 (res_cell hT rfl rfl rfl rfl) (res_tmp rfl) rfl rfl ?_
    first | exact ⟨rfl, rfl⟩ | skip
   ·skip
    iterate 7 refine z ?_
    rw [put_set_yes c1 d2 c3]
    refine ok_weak (σ' := ⟨[(6, .box 6 0), (7, .one (.dv [] (.bool (true))))], [(6, 91, [(.dv [] (.str ((x).1))), (.key 9001), (.dv [] (.int .i64 ((x).2.2)))])], [(9001, some (kcOf false (itemsD (setI x.2.1 (fndK x k).toNat r))))]⟩) (weak_sub ⟨rfl, rfl, trivial⟩ ⟨rfl, trivial⟩ ⟨rfl, trivial⟩ rfl) ?_
    refine z ?_
    refine fin2 (res_cell hT rfl rfl rfl rfl) (res_tmp rfl) rfl rfl ?_
    first | exact ⟨rfl, rfl⟩ | skip
  ·skip
   have d2 := of_decide_eq_false c2
   iterate 5 refine z ?_
   refine ok_loop (ι := Nat) (fun zz => ⟨[(3, .box 3 0), (4, .box 4 0), (5, .box 5 0), (6, .box 6 0), (7, .one (.dv [] (.bool (false)))), (8, .box 8 0), (10, .one (.dv [] (.int .i64 ((zz : Int)))))], [(3, 91, [(.dv [] (.str (x.1))), (.dv [] (itemsD (x.2.1))), (.dv [] (.int .i64 (x.2.2)))]), (4, 42, [(.dv [] (.int .i64 (k.1))), (.dv [] (.int .i64 (k.2.1))), (.dv [] (.str (k.2.2)))]), (5, 45, [(.dv [] (fieldsD (r)))]), (6, 91, [(.dv [] (.str (ByteArray.empty))), .nil, (.dv [] (.int .i64 (0)))]), (8, 91, [(.dv [] (.str ((x).1))), (.key 9001), (.dv [] (.int .i64 ((x).2.2)))])], [(9001, some (kcOf false (.sl 141 4 (x.2.1.length) (x.2.1.flatMap eItem))))]⟩) (fun zz => zz ≤ x.2.1.length ∧ posK k x.2.1 = zz + posK k (x.2.1.drop zz)) (fun zz => x.2.1.length - zz) (0) ?_ (weak_sub ⟨rfl, rfl, rfl, rfl, rfl, rfl, rfl, trivial⟩ ⟨rfl, rfl, rfl, rfl, rfl, trivial⟩ ⟨rfl, trivial⟩ rfl) (fun zz hx => ?_)
   ·exact ⟨Nat.zero_le _, by simp⟩
   obtain ⟨j, rfl⟩ : ∃ v, v = zz := ⟨_, rfl⟩
   replace hx : j ≤ x.2.1.length ∧ posK k x.2.1 = j + posK k (x.2.1.drop j) := hx
   obtain ⟨hj, hp⟩ := hx
   show Ok _ _ _ _ _ (⟨[(3, .box 3 0), (4, .box 4 0), (5, .box 5 0), (6, .box 6 0), (7, .one (.dv [] (.bool (false)))), (8, .box 8 0), (10, .one (.dv [] (.int .i64 ((j : Int)))))], [(3, 91, [(.dv [] (.str (x.1))), (.dv [] (itemsD (x.2.1))), (.dv [] (.int .i64 (x.2.2)))]), (4, 42, [(.dv [] (.int .i64 (k.1))), (.dv [] (.int .i64 (k.2.1))), (.dv [] (.str (k.2.2)))]), (5, 45, [(.dv [] (fieldsD (r)))]), (6, 91, [(.dv [] (.str (ByteArray.empty))), .nil, (.dv [] (.int .i64 (0)))]), (8, 91, [(.dv [] (.str ((x).1))), (.key 9001), (.dv [] (.int .i64 ((x).2.2)))])], [(9001, some (kcOf false (.sl 141 4 (x.2.1.length) (x.2.1.flatMap eItem))))]⟩ : St)
   refine ok_seq ?_
   refine ok_seq ?_
   refine ok_regionD (oB := [3, 4, 5, 6, 8]) (oK := [9001]) (by kernel_rfl) rfl rfl ?_
   refine zD 0 ?_
   refine zD 1 ?_
   refine d_take 2 rfl (by kernel_rfl) rfl rfl (pu_view (dd := itemsD x.2.1) (pu_loadBox1 hT rfl rfl (ev_tmp rfl) rfl rfl) rfl rfl) rfl rfl rfl rfl ?_
   refine zD 3 ?_
   refine zD 4 ?_
   refine zD 5 ?_
   refine zDG 6 ?_
   refine d_takeG 7 rfl (by kernel_rfl) (gd_bool rfl rfl rfl rfl rfl) rfl (fun hg => pu_view (dd := itemsD x.2.1) (pu_loadBox1 hT rfl rfl (ev_opt rfl hg) rfl rfl) rfl rfl) rfl rfl rfl rfl ?_
   refine zDG 8 ?_
   refine zDG 9 ?_
   refine zDG 10 ?_
   refine zDG 11 ?_
   refine zDG 12 ?_
   refine d_callG 13 rfl (by kernel_rfl) (gd_bool rfl rfl rfl rfl rfl) rfl rfl Tryz.call133 ok_impl_CompareKeys (fun hg => (as_cons (ev_opt rfl hg) (ag_agg (ag_cons ac_dv (ag_cons ac_dv (ag_cons ac_dv ag_nil)))) (as_cons (ev_opt rfl hg) (ag_agg (ag_cons ac_dv (ag_cons ac_dv (ag_cons ac_dv ag_nil)))) as_nil))) rfl rfl ?_
   refine zDG 14 ?_
   refine zD 15 ?_
   refine d_done (by kernel_rfl) ?_
   refine z ?_
   refine yQ rfl (fun c4 => ?_) fun c4 => ?_
   ·skip
    have hst := posK_step hp c4
    have hst1 := hst.1
    iterate 3 refine z ?_
    refine ok_region ?_
    iterate 3 refine z ?_
    refine ops_nil ?_
    iterate 2 refine z ?_
    refine ⟨j + 1, ?_, ?_, weak_sub ⟨rfl, rfl, rfl, rfl, rfl, rfl, rfl, trivial⟩ ⟨rfl, rfl, rfl, rfl, rfl, trivial⟩ ⟨rfl, trivial⟩ rfl⟩
    ·exact ⟨by omega, hst.2⟩
    ·omega
   ·skip
    have hpos := posK_stop hj hp c4
    iterate 5 refine z ?_
    refine ok_seq ?_
    refine ok_regionH [0, 1, 2, 3, 4, 5, 6, 7] (oB := [3, 4, 5, 6, 8]) (oK := [9001]) (by kernel_rfl) rfl rfl ?_
    refine zD 0 ?_
    refine zD 1 ?_
    refine zD 2 ?_
    refine zD 3 ?_
    refine zD 4 ?_
    refine d_callK 9000 5 rfl (by kernel_rfl) rfl rfl rfl Tryz.call139 (ok_impl_copyRecord (by omega)) (as_cons (ev_tmp rfl) (ag_agg (ag_cons ac_dv ag_nil)) as_nil) rfl rfl rfl rfl rfl ?_
    refine d_take 6 rfl (by kernel_rfl) rfl rfl (pu_build hT hB rfl rfl rfl (bp_cons (ev_tmp rfl) rfl rfl rfl rfl rfl (bp_cons (ev_tmp rfl) rfl rfl rfl rfl rfl bp_nil))) rfl rfl rfl rfl ?_
    refine d_build1 (k := 60) (js := [9003]) 7 hT rfl (by kernel_rfl) rfl rfl rfl rfl rfl rfl rfl rfl rfl (ev_tmp rfl) rfl rfl (ow_cons' (ow_dv rfl) (ow_cons' (ow_dv rfl) (ow_cons' (ow_dv rfl) (ow_cons' (ow_key rfl) ow_nil rfl) rfl) rfl) rfl) (by decide) (by decide) rfl rfl (by decide) ?_
    simp only [killT, killB, SV.kill, CV.kill, kk, Nat.reduceBEq]
    refine d_chain [8, 9, 10] rfl rfl (by kernel_rfl) ?_
    refine o_insert (k := 9001) (j := 60) (cs := (insI x.2.1 j (k, r)).flatMap eItem) (n := (insI x.2.1 j (k, r)).length) (insOk_Item rfl rfl (by decide)) rfl rfl Tryz.call140 rfl rfl (ev_tmp rfl) rfl rfl rfl (ev_tmp rfl) (by omega) (by dsimp only [kcOf]; omega) (ev_tmp rfl) rfl rfl rfl rfl (by decide) (by dsimp only [kcOf]; omega) (by dsimp only [kcOf]; omega) (by rw [insI_len]) (insL_items (o := x.2.1) (j := j) (y := (k, r))) ?_
    simp only [killT, killB, SV.kill, CV.kill, kk, Nat.reduceBEq]
    iterate 20 refine z ?_
    refine yQ rfl (fun c5 => ?_) fun c5 => ?_
    ·skip
     refine ok_region ?_
     iterate 5 refine z ?_
     refine ok_seq ?_
     refine ok_seq ?_
     refine ok_weak (weak_eq (k := 9001) (c' := kcOf false (itemsD (insI x.2.1 j (k, r)))) rfl (rfl) rfl) ?_
     refine ok_region ?_
     refine z ?_
     refine o_call rfl rfl rfl Tryz.call96 (ok_impl_IsStore (s := (x.1, insI x.2.1 j (k, r), k.2.1))) (as_cons (ev_tmp rfl) (ag_agg (ag_cons ac_dv (ag_cons (ac_key' rfl rfl) (ag_cons ac_dv ag_nil)))) as_nil) rfl rfl ?_
     iterate 2 refine z ?_
     refine yQ rfl (fun c6 => ?_) fun c6 => ?_
     ·skip
      refine ok_seq ?_
      refine ok_weak (σ' := ⟨[(3, .box 3 0), (6, .box 6 0), (7, .one (.dv [] (.bool (false))))], [(3, 91, [(.dv [] (.str (x.1))), (.dv [] (itemsD (x.2.1))), (.dv [] (.int .i64 (x.2.2)))]), (6, 91, [(.dv [] (.str (ByteArray.empty))), .nil, (.dv [] (.int .i64 (0)))])], []⟩) (weak_sub ⟨rfl, rfl, rfl, trivial⟩ ⟨rfl, rfl, trivial⟩ trivial rfl) ?_
      refine ok_region ?_
      refine z ?_
      refine zK 8971 Tryz.call74 ?_ (hf := ok_impl_copyStore (x := x) (by omega))
      iterate 3 refine z ?_
      rw [put_ins_no c1 d2 hpos (auto_yes c5) c6]
      refine ok_weak (σ' := ⟨[(6, .box 6 0), (7, .one (.dv [] (.bool (false))))], [(6, 91, [(.dv [] (.str ((x).1))), (.key 9001), (.dv [] (.int .i64 ((x).2.2)))])], [(9001, some (kcOf false (itemsD (x.2.1))))]⟩) (weak_sub ⟨rfl, rfl, trivial⟩ ⟨rfl, trivial⟩ ⟨rfl, trivial⟩ rfl) ?_
      iterate 2 refine z ?_
      refine fin2 (res_cell hT rfl rfl rfl rfl) (res_tmp rfl) rfl rfl ?_
      first | exact ⟨rfl, rfl⟩ | skip
     ·skip
      iterate 7 refine z ?_
      rw [put_ins_yes c1 d2 hpos (auto_yes c5) c6]
      refine ok_weak (σ' := ⟨[(6, .box 6 0), (7, .one (.dv [] (.bool (true))))], [(6, 91, [(.dv [] (.str ((x).1))), (.key 9001), (.dv [] (.int .i64 (k.2.1)))])], [(9001, some (kcOf false (itemsD (insI x.2.1 j (k, r)))))]⟩) (weak_sub ⟨rfl, rfl, trivial⟩ ⟨rfl, trivial⟩ ⟨rfl, trivial⟩ rfl) ?_
      refine z ?_
      refine fin2 (res_cell hT rfl rfl rfl rfl) (res_tmp rfl) rfl rfl ?_
      first | exact ⟨rfl, rfl⟩ | skip
    ·skip
     iterate 2 refine z ?_
     refine ok_seq ?_
     refine ok_seq ?_
     refine ok_weak (weak_eq (k := 9001) (c' := kcOf false (itemsD (insI x.2.1 j (k, r)))) rfl (rfl) rfl) ?_
     refine ok_region ?_
     refine z ?_
     refine o_call rfl rfl rfl Tryz.call96 (ok_impl_IsStore (s := (x.1, insI x.2.1 j (k, r), x.2.2))) (as_cons (ev_tmp rfl) (ag_agg (ag_cons ac_dv (ag_cons (ac_key' rfl rfl) (ag_cons ac_dv ag_nil)))) as_nil) rfl rfl ?_
     iterate 2 refine z ?_
     refine yQ rfl (fun c7 => ?_) fun c7 => ?_
     ·skip
      refine ok_seq ?_
      refine ok_weak (σ' := ⟨[(3, .box 3 0), (6, .box 6 0), (7, .one (.dv [] (.bool (false))))], [(3, 91, [(.dv [] (.str (x.1))), (.dv [] (itemsD (x.2.1))), (.dv [] (.int .i64 (x.2.2)))]), (6, 91, [(.dv [] (.str (ByteArray.empty))), .nil, (.dv [] (.int .i64 (0)))])], []⟩) (weak_sub ⟨rfl, rfl, rfl, trivial⟩ ⟨rfl, rfl, trivial⟩ trivial rfl) ?_
      refine ok_region ?_
      refine z ?_
      refine zK 8971 Tryz.call74 ?_ (hf := ok_impl_copyStore (x := x) (by omega))
      iterate 3 refine z ?_
      rw [put_ins_no c1 d2 hpos (auto_no c5) c7]
      refine ok_weak (σ' := ⟨[(6, .box 6 0), (7, .one (.dv [] (.bool (false))))], [(6, 91, [(.dv [] (.str ((x).1))), (.key 9001), (.dv [] (.int .i64 ((x).2.2)))])], [(9001, some (kcOf false (itemsD (x.2.1))))]⟩) (weak_sub ⟨rfl, rfl, trivial⟩ ⟨rfl, trivial⟩ ⟨rfl, trivial⟩ rfl) ?_
      iterate 2 refine z ?_
      refine fin2 (res_cell hT rfl rfl rfl rfl) (res_tmp rfl) rfl rfl ?_
      first | exact ⟨rfl, rfl⟩ | skip
     ·skip
      iterate 7 refine z ?_
      rw [put_ins_yes c1 d2 hpos (auto_no c5) c7]
      refine ok_weak (σ' := ⟨[(6, .box 6 0), (7, .one (.dv [] (.bool (true))))], [(6, 91, [(.dv [] (.str ((x).1))), (.key 9001), (.dv [] (.int .i64 ((x).2.2)))])], [(9001, some (kcOf false (itemsD (insI x.2.1 j (k, r)))))]⟩) (weak_sub ⟨rfl, rfl, trivial⟩ ⟨rfl, trivial⟩ ⟨rfl, trivial⟩ rfl) ?_
      refine z ?_
      refine fin2 (res_cell hT rfl rfl rfl rfl) (res_tmp rfl) rfl rfl ?_
      first | exact ⟨rfl, rfl⟩ | skip
end Go.Proofs.YtmgijbhikmjfjaaGreat

namespace Go.Proofs.YtmgijbhikmjfjaaGreat
open Go.RowKit
open Go.Proofs
set_option linter.unusedVariables false
set_option linter.unusedSimpArgs false

theorem sto_auto {x : StoreT} {b c : Bool} (h : (!isSto x || b || c) = false) : 0 ≤ x.2.2 ∧ x.2.2 ≤ 1000000 := by
 have hs : isSto x = true := by cases hh : isSto x <;> simp_all
 rw [isSto_eq] at hs
 simp only [Bool.and_eq_true, decide_eq_true_eq] at hs
 omega
theorem put_f {x : StoreT} {k : KeyT} {r : RecT} (h : (!isSto x || !isKey k || !isRec r) = false) (hf : 0 ≤ fndK x k) : putN x k r = ((x.1, setI x.2.1 (fndK x k).toNat r, x.2.2), true) := by
 rw [putN, if_neg (by rw [h]; simp), if_pos hf]
theorem put_l {x : StoreT} {k : KeyT} {r : RecT} (h : (!isSto x || !isKey k || !isRec r) = false) (hf : ¬ 0 ≤ fndK x k) (hl : (16 : Int) ≤ (x.2.1.length : Int)) : putN x k r = (x, false) := by
 rw [putN, if_neg (by rw [h]; simp), if_neg hf, if_pos (by omega)]
theorem put_i {x : StoreT} {k : KeyT} {r : RecT} {j : Nat} {a : Int} (h : (!isSto x || !isKey k || !isRec r) = false) (hf : ¬ 0 ≤ fndK x k) (hl : ¬ (16 : Int) ≤ (x.2.1.length : Int)) (hj : posK k x.2.1 = j) (ha : a = autoP x k) : putN x k r = ((x.1, insI x.2.1 j (k, r), a), true) := by
 subst hj; subst ha
 rw [putN, if_neg (by rw [h]; simp), if_neg hf, if_neg (by omega)]
theorem auto_y {x : StoreT} {k : KeyT} (h : (decide (k.1 = 1) && (decide (x.2.2 + 1 ≤ k.2.1) && decide (k.2.1 ≤ 1000000))) = true) : k.2.1 = autoP x k := by rw [autoP, if_pos h]
theorem auto_n {x : StoreT} {k : KeyT} (h : (decide (k.1 = 1) && (decide (x.2.2 + 1 ≤ k.2.1) && decide (k.2.1 ≤ 1000000))) = false) : x.2.2 = autoP x k := by rw [autoP, if_neg (by rw [h]; simp)]

theorem ok_spec_PutItem {x : StoreT} {k : KeyT} {r : RecT} (hb : wStore x ≤ 1048576) (hb2 : r.length ≤ 1048576) : KFn Tryz.prog 85 [.agg [(.dv [] (.str (x.1))), (.dv [] (itemsD (x.2.1))), (.dv [] (.int .i64 (x.2.2)))], .agg [(.dv [] (.int .i64 (k.1))), (.dv [] (.int .i64 (k.2.1))), (.dv [] (.str (k.2.2)))], .agg [(.dv [] (fieldsD (r)))]] (.tup [(true, [(.dv [] (.str ((putN x k r).1.1))), (.key 9001), (.dv [] (.int .i64 ((putN x k r).1.2.2)))]), (false, [(.dv [] (.bool ((putN x k r).2)))])]) [(9001, some (kcOf false (itemsD ((putN x k r).1.2.1))))] := by
 refine ⟨fn_intro Tryz.func85 rfl Tryz.ntmps85 Tryz.results85 rfl (fun C => ?_)⟩
 have hlen : x.2.1.length ≤ 1048576 := by have h3 : wStore x = x.1.size + (x.2.1.length + wSum wItem x.2.1) := rfl; omega
 refine yF 0 0 rfl rfl fun f0_0 => ?_
 refine yF 0 1 rfl rfl fun f0_1 => ?_
 refine yF 0 2 rfl rfl fun f0_2 => ?_
 refine yF 1 0 rfl rfl fun f1_0 => ?_
 refine yF 1 1 rfl rfl fun f1_1 => ?_
 refine yF 1 2 rfl rfl fun f1_2 => ?_
 refine yF 2 0 rfl rfl fun f2_0 => ?_
 iterate 10 refine z ?_
 refine zC Tryz.call80 ?_ (hf := ok_spec_IsStore (s := x))
 iterate 3 refine z ?_
 refine o_callG (gd_bool rfl rfl rfl rfl rfl) rfl rfl Tryz.call83 ok_spec_IsKey (fun hg => (as_cons (ev_opt rfl hg) (ag_agg (ag_cons ac_dv (ag_cons ac_dv (ag_cons ac_dv ag_nil)))) as_nil)) rfl rfl ?_
 iterate 4 refine z ?_
 refine o_callG (gd_bool rfl rfl rfl rfl rfl) rfl rfl Tryz.call84 ok_spec_IsRecord (fun hg => (as_cons (ev_opt rfl hg) (ag_agg (ag_cons ac_dv ag_nil)) as_nil)) rfl rfl ?_
 iterate 3 refine z ?_
 refine yQ rfl (fun c1 => ?_) fun c1 => ?_
 ·skip
  iterate 2 refine z ?_
  refine zK 8971 Tryz.call79 ?_ (hf := ok_spec_l6Copy (x := x) (by omega))
  iterate 3 refine z ?_
  rw [putN, if_pos c1]
  refine ok_weak (σ' := ⟨[(6, .box 6 0), (7, .one (.dv [] (.bool (false))))], [(6, 91, [(.dv [] (.str ((x).1))), (.key 9001), (.dv [] (.int .i64 ((x).2.2)))])], [(9001, some (kcOf false (itemsD (x.2.1))))]⟩) (weak_sub ⟨rfl, rfl, trivial⟩ ⟨rfl, trivial⟩ ⟨rfl, trivial⟩ rfl) ?_
  iterate 2 refine z ?_
  refine fin2 (res_cell hT rfl rfl rfl rfl) (res_tmp rfl) rfl rfl ?_
  first | exact ⟨rfl, rfl⟩ | skip
 ·skip
  have hau := sto_auto c1
  iterate 4 refine z ?_
  refine zK 8971 Tryz.call79 ?_ (hf := ok_spec_l6Copy (x := x) (by omega))
  iterate 7 refine z ?_
  refine zC Tryz.call88 ?_ (hf := ok_spec_FindItem)
  iterate 6 refine z ?_
  refine yQ rfl (fun c2 => ?_) fun c2 => ?_
  ·skip
   have d2 := of_decide_eq_true c2
   have hlt := fndK_lt d2
   refine ok_seq ?_
   refine ok_regionD (oB := [3, 4, 5, 6, 8]) (oK := [9001]) (by kernel_rfl) rfl rfl ?_
   refine zD 0 ?_
   refine zD 1 ?_
   refine zD 2 ?_
   refine zD 3 ?_
   refine d_callK 9000 4 rfl (by kernel_rfl) rfl rfl rfl Tryz.call127 (ok_spec_l5Copy (by omega)) (as_cons (ev_tmp rfl) (ag_agg (ag_cons ac_dv ag_nil)) as_nil) rfl rfl rfl rfl rfl ?_
   refine d_take 5 rfl (by kernel_rfl) rfl rfl (pu_indexK (i := (fndK (x) (k)).toNat) hT rfl rfl rfl (ev_tmp rfl) rfl (ev_tmp rfl) (by omega) (by show _ < ((x.2.1)).length; omega)) rfl rfl rfl rfl ?_
   refine zD 6 ?_
   refine d_chain [7] rfl rfl (by kernel_rfl) ?_
   refine o_storeE (js := [9003]) (cs := (setI x.2.1 (fndK x k).toNat r).flatMap eItem) hT rfl rfl rfl rfl (ev_tmp rfl) (ev_tmp rfl) rfl rfl rfl rfl (ow_cons' (ow_key rfl) ow_nil rfl) (by decide) (by decide) rfl (by show _ ≤ List.length ((x.2.1).flatMap eItem); rw [len4]; omega) (setR_set (by omega)) ?_
   simp only [killT, killB, SV.kill, CV.kill, kk, Nat.reduceBEq]
   refine z ?_
   refine ok_seq ?_
   refine ok_weak (weak_eq (k := 9001) (c' := kcOf false (itemsD (setI x.2.1 (fndK x k).toNat r))) rfl (congrArg (fun n => KC.mk false 141 4 n ((setI x.2.1 (fndK x k).toNat r).flatMap eItem)) setI_len.symm) rfl) ?_
   refine ok_region ?_
   iterate 4 refine z ?_
   rw [put_f c1 d2]
   refine ok_weak (σ' := ⟨[(6, .box 6 0), (7, .one (.dv [] (.bool (true))))], [(6, 91, [(.dv [] (.str ((x).1))), (.key 9001), (.dv [] (.int .i64 ((x).2.2)))])], [(9001, some (kcOf false (itemsD (setI x.2.1 (fndK x k).toNat r))))]⟩) (weak_sub ⟨rfl, rfl, trivial⟩ ⟨rfl, trivial⟩ ⟨rfl, trivial⟩ rfl) ?_
   iterate 2 refine z ?_
   refine fin2 (res_cell hT rfl rfl rfl rfl) (res_tmp rfl) rfl rfl ?_
   first | exact ⟨rfl, rfl⟩ | skip
  ·skip
   have d2 := of_decide_eq_false c2
   iterate 9 refine z ?_
   refine yQ rfl (fun c3 => ?_) fun c3 => ?_
   ·skip
    have d3 := of_decide_eq_true c3
    iterate 5 refine z ?_
    rw [put_l c1 d2 d3]
    refine ok_weak (σ' := ⟨[(6, .box 6 0), (7, .one (.dv [] (.bool (false))))], [(6, 91, [(.dv [] (.str ((x).1))), (.key 9001), (.dv [] (.int .i64 ((x).2.2)))])], [(9001, some (kcOf false (itemsD (x.2.1))))]⟩) (weak_sub ⟨rfl, rfl, trivial⟩ ⟨rfl, trivial⟩ ⟨rfl, trivial⟩ rfl) ?_
    iterate 2 refine z ?_
    refine fin2 (res_cell hT rfl rfl rfl rfl) (res_tmp rfl) rfl rfl ?_
    first | exact ⟨rfl, rfl⟩ | skip
   ·skip
    have d3 := of_decide_eq_false c3
    iterate 7 refine z ?_
    refine ok_loop (ι := Nat) (fun zz => ⟨[(3, .box 3 0), (4, .box 4 0), (5, .box 5 0), (6, .box 6 0), (7, .one (.dv [] (.bool (false)))), (8, .box 8 0), (10, .one (.dv [] (.int .i64 ((zz : Int)))))], [(3, 91, [(.dv [] (.str (x.1))), (.dv [] (itemsD (x.2.1))), (.dv [] (.int .i64 (x.2.2)))]), (4, 42, [(.dv [] (.int .i64 (k.1))), (.dv [] (.int .i64 (k.2.1))), (.dv [] (.str (k.2.2)))]), (5, 45, [(.dv [] (fieldsD (r)))]), (6, 91, [(.dv [] (.str (ByteArray.empty))), .nil, (.dv [] (.int .i64 (0)))]), (8, 91, [(.dv [] (.str ((x).1))), (.key 9001), (.dv [] (.int .i64 ((x).2.2)))])], [(9001, some (kcOf false (.sl 141 4 (x.2.1.length) (x.2.1.flatMap eItem))))]⟩) (fun zz => zz ≤ x.2.1.length ∧ posK k x.2.1 = zz + posK k (x.2.1.drop zz)) (fun zz => x.2.1.length - zz) (0) ?_ (weak_sub ⟨rfl, rfl, rfl, rfl, rfl, rfl, rfl, trivial⟩ ⟨rfl, rfl, rfl, rfl, rfl, trivial⟩ ⟨rfl, trivial⟩ rfl) (fun zz hx => ?_)
    ·exact ⟨Nat.zero_le _, by simp⟩
    obtain ⟨j, rfl⟩ : ∃ v, v = zz := ⟨_, rfl⟩
    replace hx : j ≤ x.2.1.length ∧ posK k x.2.1 = j + posK k (x.2.1.drop j) := hx
    obtain ⟨hj, hp⟩ := hx
    show Ok _ _ _ _ _ (⟨[(3, .box 3 0), (4, .box 4 0), (5, .box 5 0), (6, .box 6 0), (7, .one (.dv [] (.bool (false)))), (8, .box 8 0), (10, .one (.dv [] (.int .i64 ((j : Int)))))], [(3, 91, [(.dv [] (.str (x.1))), (.dv [] (itemsD (x.2.1))), (.dv [] (.int .i64 (x.2.2)))]), (4, 42, [(.dv [] (.int .i64 (k.1))), (.dv [] (.int .i64 (k.2.1))), (.dv [] (.str (k.2.2)))]), (5, 45, [(.dv [] (fieldsD (r)))]), (6, 91, [(.dv [] (.str (ByteArray.empty))), .nil, (.dv [] (.int .i64 (0)))]), (8, 91, [(.dv [] (.str ((x).1))), (.key 9001), (.dv [] (.int .i64 ((x).2.2)))])], [(9001, some (kcOf false (.sl 141 4 (x.2.1.length) (x.2.1.flatMap eItem))))]⟩ : St)
    refine ok_seq ?_
    refine ok_seq ?_
    refine ok_regionD (oB := [3, 4, 5, 6, 8]) (oK := [9001]) (by kernel_rfl) rfl rfl ?_
    refine zD 0 ?_
    refine zD 1 ?_
    refine zD 2 ?_
    refine zD 3 ?_
    refine zD 4 ?_
    refine zD 5 ?_
    refine zDG 6 ?_
    refine zDG 7 ?_
    refine zDG 8 ?_
    refine zDG 9 ?_
    refine zDG 10 ?_
    refine zDG 11 ?_
    refine zDG 12 ?_
    refine d_callG 13 rfl (by kernel_rfl) (gd_bool rfl rfl rfl rfl rfl) rfl rfl Tryz.call123 ok_spec_CompareKeys (fun hg => (as_cons (ev_opt rfl hg) (ag_agg (ag_cons ac_dv (ag_cons ac_dv (ag_cons ac_dv ag_nil)))) (as_cons (ev_opt rfl hg) (ag_agg (ag_cons ac_dv (ag_cons ac_dv (ag_cons ac_dv ag_nil)))) as_nil))) rfl rfl ?_
    refine zDG 14 ?_
    refine zD 15 ?_
    refine d_done (by kernel_rfl) ?_
    refine z ?_
    refine yQ rfl (fun c4 => ?_) fun c4 => ?_
    ·skip
     have hst := posK_step hp c4
     have hst1 := hst.1
     iterate 3 refine z ?_
     refine ok_region ?_
     iterate 3 refine z ?_
     refine ops_nil ?_
     iterate 2 refine z ?_
     refine ⟨j + 1, ?_, ?_, weak_sub ⟨rfl, rfl, rfl, rfl, rfl, rfl, rfl, trivial⟩ ⟨rfl, rfl, rfl, rfl, rfl, trivial⟩ ⟨rfl, trivial⟩ rfl⟩
     ·exact ⟨by omega, hst.2⟩
     ·omega
    ·skip
     have hpos := posK_stop hj hp c4
     iterate 6 refine z ?_
     refine o_build0 (k := 65) hT rfl rfl rfl rfl rfl rfl rfl rfl ?_
     iterate 3 refine z ?_
     refine o_appSubB (b8 := 8) (i8 := 1) (k := 65) (j := 9001) (s := 67) (n := (x.2.1.take j).length) (cs := (x.2.1.take j).flatMap eItem) (c2s := List.replicate (j * 4) .hole ++ (x.2.1.drop j).flatMap eItem) hT rfl rfl rfl (sl_h hT rfl rfl rfl (ev_tmp rfl) rfl (ev_tmp rfl) (by omega) (by dsimp only [kcOf]; omega)) rfl rfl rfl rfl rfl rfl rfl (ev_tmp rfl) rfl rfl rfl rfl rfl rfl (by decide) rfl rfl ⟨rfl, rfl⟩ (by omega) (by dsimp only [kcOf]; omega) (by dsimp only [kcOf]; omega) (by dsimp only [kcOf]; omega) (by rw [List.length_take, Nat.min_eq_left (by omega)]; simp) (sub_lo) (holed_lo) rfl rfl rfl ?_
     simp only [killT, killB, SV.kill, CV.kill, kk, Nat.reduceBEq]
     iterate 2 refine z ?_
     refine ok_seq ?_
     refine ok_regionH [0, 1, 2, 3, 4, 5] (oB := [3, 4, 5, 6, 8]) (oK := [65, 9001]) (by kernel_rfl) rfl rfl ?_
     refine zD 0 ?_
     refine zD 1 ?_
     refine zD 2 ?_
     refine d_callK 9000 3 rfl (by kernel_rfl) rfl rfl rfl Tryz.call127 (ok_spec_l5Copy (by omega)) (as_cons (ev_tmp rfl) (ag_agg (ag_cons ac_dv ag_nil)) as_nil) rfl rfl rfl rfl rfl ?_
     refine d_take 4 rfl (by kernel_rfl) rfl rfl (pu_build hT hB rfl rfl rfl (bp_cons (ev_tmp rfl) rfl rfl rfl rfl rfl (bp_cons (ev_tmp rfl) rfl rfl rfl rfl rfl bp_nil))) rfl rfl rfl rfl ?_
     refine d_build1 (k := 76) (js := [9003]) 5 hT rfl (by kernel_rfl) rfl rfl rfl rfl rfl rfl rfl rfl rfl (ev_tmp rfl) rfl rfl (ow_cons' (ow_dv rfl) (ow_cons' (ow_dv rfl) (ow_cons' (ow_dv rfl) (ow_cons' (ow_key rfl) ow_nil rfl) rfl) rfl) rfl) (by decide) (by decide) rfl rfl (by decide) ?_
     simp only [killT, killB, SV.kill, CV.kill, kk, Nat.reduceBEq]
     refine d_chain [6, 7] rfl rfl (by kernel_rfl) ?_
     refine o_appK (k := 65) (j := 76) (cs := (x.2.1.take j ++ [(k, r)]).flatMap eItem) (n := (x.2.1.take j ++ [(k, r)]).length) hT rfl rfl rfl rfl rfl rfl rfl (ev_tmp rfl) rfl rfl rfl (ev_tmp rfl) rfl rfl (by decide) (by dsimp only [kcOf]; simp only [List.length_take]; omega) (by dsimp only [kcOf]; simp only [List.length_take]; omega) (by simp) (by rw [List.flatMap_append]; rfl) ?_
     simp only [killT, killB, SV.kill, CV.kill, kk, Nat.reduceBEq]
     iterate 7 refine z ?_
     refine o_appSub (k := 65) (j := 9001) (s := 80) (n := (insI x.2.1 j (k, r)).length) (cs := (insI x.2.1 j (k, r)).flatMap eItem) (c2s := _) hT rfl rfl rfl (sl_l hT rfl rfl rfl (ev_tmp rfl) rfl (ev_tmp rfl) (by omega) (by dsimp only [kcOf]; omega)) rfl rfl rfl rfl rfl rfl rfl (ev_tmp rfl) rfl rfl rfl rfl rfl rfl (by decide) rfl rfl ⟨rfl, rfl⟩ (by dsimp only [kcOf]; omega) (by dsimp only [kcOf]; omega) (by dsimp only [kcOf]; simp only [List.length_append, List.length_take, List.length_singleton]; omega) (by dsimp only [kcOf]; simp only [List.length_append, List.length_take, List.length_singleton]; omega) (by rw [insI_len]; simp; omega) (sub_hi hj) (rfl) ?_
     simp only [killT, killB, SV.kill, CV.kill, kk, Nat.reduceBEq]
     iterate 14 refine z ?_
     refine o_callG (gd_bool rfl rfl rfl rfl rfl) rfl rfl Tryz.call70 ok_spec_l1In (fun hg => (as_cons (ev_opt rfl hg) (ag_one ac_dv) (as_cons (ev_opt rfl hg) (ag_one ac_dv) (as_cons (ev_int (inR_lit rfl)) (ag_one ac_dv) as_nil)))) rfl rfl ?_
     iterate 2 refine z ?_
     refine yQ rfl (fun c5 => ?_) fun c5 => ?_
     ·skip
      refine ok_region ?_
      iterate 5 refine z ?_
      refine ok_seq ?_
      refine ok_weak (weak_swapB (b := 8) (i := 1) (k := 65) (k' := 9001) rfl rfl rfl rfl (by decide) rfl rfl) ?_
      simp only [killT, killB, SV.kill, CV.kill, kk, Nat.reduceBEq]
      refine ok_region ?_
      iterate 4 refine z ?_
      rw [put_i c1 d2 d3 hpos (auto_y c5)]
      refine ok_weak (σ' := ⟨[(6, .box 6 0), (7, .one (.dv [] (.bool (true))))], [(6, 91, [(.dv [] (.str ((x).1))), (.key 9001), (.dv [] (.int .i64 (k.2.1)))])], [(9001, some (kcOf false (itemsD (insI x.2.1 j (k, r)))))]⟩) (weak_sub ⟨rfl, rfl, trivial⟩ ⟨rfl, trivial⟩ ⟨rfl, trivial⟩ rfl) ?_
      refine z ?_
      refine fin2 (res_cell hT rfl rfl rfl rfl) (res_tmp rfl) rfl rfl ?_
      first | exact ⟨rfl, rfl⟩ | skip
     ·skip
      iterate 2 refine z ?_
      refine ok_seq ?_
      refine ok_weak (weak_swapB (b := 8) (i := 1) (k := 65) (k' := 9001) rfl rfl rfl rfl (by decide) rfl rfl) ?_
      simp only [killT, killB, SV.kill, CV.kill, kk, Nat.reduceBEq]
      refine ok_region ?_
      iterate 4 refine z ?_
      rw [put_i c1 d2 d3 hpos (auto_n c5)]
      refine ok_weak (σ' := ⟨[(6, .box 6 0), (7, .one (.dv [] (.bool (true))))], [(6, 91, [(.dv [] (.str ((x).1))), (.key 9001), (.dv [] (.int .i64 ((x).2.2)))])], [(9001, some (kcOf false (itemsD (insI x.2.1 j (k, r)))))]⟩) (weak_sub ⟨rfl, rfl, trivial⟩ ⟨rfl, trivial⟩ ⟨rfl, trivial⟩ rfl) ?_
      refine z ?_
      refine fin2 (res_cell hT rfl rfl rfl rfl) (res_tmp rfl) rfl rfl ?_
      first | exact ⟨rfl, rfl⟩ | skip
end Go.Proofs.YtmgijbhikmjfjaaGreat

namespace Go.Proofs.YtmgijbhikmjfjaaGreat
open Go.RowKit
open Go.Proofs
set_option linter.unusedVariables false
set_option linter.unusedSimpArgs false

def addN (x : StoreT) (k : KeyT) (r : RecT) : StoreT × Bool := if 0 ≤ fndK x k then (x, false) else putN x k r
theorem add_yes {x : StoreT} {k : KeyT} {r : RecT} (h : 0 ≤ fndK x k) : addN x k r = (x, false) := if_pos h
theorem add_no {x : StoreT} {k : KeyT} {r : RecT} (h : ¬ 0 ≤ fndK x k) : addN x k r = putN x k r := if_neg h
theorem ok_impl_AddItem {x : StoreT} {k : KeyT} {r : RecT} (hb : wStore x ≤ 1048576) (hb2 : r.length ≤ 1048576) : KFn Tryz.prog 103 [.agg [(.dv [] (.str (x.1))), (.dv [] (itemsD (x.2.1))), (.dv [] (.int .i64 (x.2.2)))], .agg [(.dv [] (.int .i64 (k.1))), (.dv [] (.int .i64 (k.2.1))), (.dv [] (.str (k.2.2)))], .agg [(.dv [] (fieldsD (r)))]] (.tup [(true, [(.dv [] (.str ((addN x k r).1.1))), (.key 9001), (.dv [] (.int .i64 ((addN x k r).1.2.2)))]), (false, [(.dv [] (.bool ((addN x k r).2)))])]) [(9001, some (kcOf false (itemsD ((addN x k r).1.2.1))))] := by
 refine ⟨fn_intro Tryz.func103 rfl Tryz.ntmps103 Tryz.results103 rfl (fun C => ?_)⟩
 refine yF 0 0 rfl rfl fun f0_0 => ?_
 refine yF 0 1 rfl rfl fun f0_1 => ?_
 refine yF 0 2 rfl rfl fun f0_2 => ?_
 refine yF 1 0 rfl rfl fun f1_0 => ?_
 refine yF 1 1 rfl rfl fun f1_1 => ?_
 refine yF 1 2 rfl rfl fun f1_2 => ?_
 refine yF 2 0 rfl rfl fun f2_0 => ?_
 iterate 11 refine z ?_
 refine zC Tryz.call101 ?_ (hf := ok_impl_FindItem)
 iterate 2 refine z ?_
 refine yQ rfl (fun c1 => ?_) fun c1 => ?_
 ·skip
  have d1 := of_decide_eq_true c1
  iterate 2 refine z ?_
  refine zK 8971 Tryz.call74 ?_ (hf := ok_impl_copyStore (x := x) (by omega))
  iterate 3 refine z ?_
  rw [add_yes d1]
  refine ok_weak (σ' := ⟨[(6, .box 6 0), (7, .one (.dv [] (.bool (false))))], [(6, 91, [(.dv [] (.str ((x).1))), (.key 9001), (.dv [] (.int .i64 ((x).2.2)))])], [(9001, some (kcOf false (itemsD (x.2.1))))]⟩) (weak_sub ⟨rfl, rfl, trivial⟩ ⟨rfl, trivial⟩ ⟨rfl, trivial⟩ rfl) ?_
  iterate 2 refine z ?_
  refine fin2 (res_cell hT rfl rfl rfl rfl) (res_tmp rfl) rfl rfl ?_
  first | exact ⟨rfl, rfl⟩ | skip
 ·skip
  have d1 := of_decide_eq_false c1
  iterate 6 refine z ?_
  refine zK 0 Tryz.call102 ?_ (hf := ok_impl_PutItem (x := x) (k := k) (r := r) (by omega) (by omega))
  iterate 5 refine z ?_
  rw [add_no d1]
  refine ok_weak (σ' := ⟨[(6, .box 6 0), (7, .one (.dv [] (.bool ((putN (x) (k) (r)).2))))], [(6, 91, [(.dv [] (.str ((putN (x) (k) (r)).1.1))), (.key 9001), (.dv [] (.int .i64 ((putN (x) (k) (r)).1.2.2)))])], [(9001, some (kcOf false (itemsD ((putN x k r).1.2.1))))]⟩) (weak_sub ⟨rfl, rfl, trivial⟩ ⟨rfl, trivial⟩ ⟨rfl, trivial⟩ rfl) ?_
  refine z ?_
  refine fin2 (res_cell hT rfl rfl rfl rfl) (res_tmp rfl) rfl rfl ?_
  first | exact ⟨rfl, rfl⟩ | skip
theorem ok_spec_AddItem {x : StoreT} {k : KeyT} {r : RecT} (hb : wStore x ≤ 1048576) (hb2 : r.length ≤ 1048576) : KFn Tryz.prog 86 [.agg [(.dv [] (.str (x.1))), (.dv [] (itemsD (x.2.1))), (.dv [] (.int .i64 (x.2.2)))], .agg [(.dv [] (.int .i64 (k.1))), (.dv [] (.int .i64 (k.2.1))), (.dv [] (.str (k.2.2)))], .agg [(.dv [] (fieldsD (r)))]] (.tup [(true, [(.dv [] (.str ((addN x k r).1.1))), (.key 9001), (.dv [] (.int .i64 ((addN x k r).1.2.2)))]), (false, [(.dv [] (.bool ((addN x k r).2)))])]) [(9001, some (kcOf false (itemsD ((addN x k r).1.2.1))))] := by
 refine ⟨fn_intro Tryz.func86 rfl Tryz.ntmps86 Tryz.results86 rfl (fun C => ?_)⟩
 refine yF 0 0 rfl rfl fun f0_0 => ?_
 refine yF 0 1 rfl rfl fun f0_1 => ?_
 refine yF 0 2 rfl rfl fun f0_2 => ?_
 refine yF 1 0 rfl rfl fun f1_0 => ?_
 refine yF 1 1 rfl rfl fun f1_1 => ?_
 refine yF 1 2 rfl rfl fun f1_2 => ?_
 refine yF 2 0 rfl rfl fun f2_0 => ?_
 iterate 11 refine z ?_
 refine zC Tryz.call88 ?_ (hf := ok_spec_FindItem)
 iterate 2 refine z ?_
 refine yQ rfl (fun c1 => ?_) fun c1 => ?_
 ·skip
  have d1 := of_decide_eq_true c1
  iterate 2 refine z ?_
  refine zK 8971 Tryz.call79 ?_ (hf := ok_spec_l6Copy (x := x) (by omega))
  iterate 3 refine z ?_
  rw [add_yes d1]
  refine ok_weak (σ' := ⟨[(6, .box 6 0), (7, .one (.dv [] (.bool (false))))], [(6, 91, [(.dv [] (.str ((x).1))), (.key 9001), (.dv [] (.int .i64 ((x).2.2)))])], [(9001, some (kcOf false (itemsD (x.2.1))))]⟩) (weak_sub ⟨rfl, rfl, trivial⟩ ⟨rfl, trivial⟩ ⟨rfl, trivial⟩ rfl) ?_
  iterate 2 refine z ?_
  refine fin2 (res_cell hT rfl rfl rfl rfl) (res_tmp rfl) rfl rfl ?_
  first | exact ⟨rfl, rfl⟩ | skip
 ·skip
  have d1 := of_decide_eq_false c1
  iterate 6 refine z ?_
  refine zK 0 Tryz.call85 ?_ (hf := ok_spec_PutItem (x := x) (k := k) (r := r) (by omega) (by omega))
  iterate 5 refine z ?_
  rw [add_no d1]
  refine ok_weak (σ' := ⟨[(6, .box 6 0), (7, .one (.dv [] (.bool ((putN (x) (k) (r)).2))))], [(6, 91, [(.dv [] (.str ((putN (x) (k) (r)).1.1))), (.key 9001), (.dv [] (.int .i64 ((putN (x) (k) (r)).1.2.2)))])], [(9001, some (kcOf false (itemsD ((putN x k r).1.2.1))))]⟩) (weak_sub ⟨rfl, rfl, trivial⟩ ⟨rfl, trivial⟩ ⟨rfl, trivial⟩ rfl) ?_
  refine z ?_
  refine fin2 (res_cell hT rfl rfl rfl rfl) (res_tmp rfl) rfl rfl ?_
  first | exact ⟨rfl, rfl⟩ | skip
end Go.Proofs.YtmgijbhikmjfjaaGreat

namespace Go.Proofs.YtmgijbhikmjfjaaGreat
open Go.RowKit
open Go.Proofs
set_option linter.unusedVariables false
set_option linter.unusedSimpArgs false

theorem key_rng {k : KeyT} (h : isKey k = true) : (1 ≤ k.1 ∧ k.1 ≤ 3) ∧ (-1000000000000 ≤ k.2.1 ∧ k.2.1 ≤ 1000000000000) ∧ k.2.2.size ≤ 12 := by
 simp only [isKey, kText, Bool.and_eq_true, decide_eq_true_eq] at h
 omega
theorem name_size {s : Str} (h : isName s = true) : 1 ≤ s.size ∧ s.size ≤ 8 := by
 simp only [isName, Bool.and_eq_true, decide_eq_true_eq] at h; omega
theorem rec_fld {r : RecT} {k : Nat} (h : isRec r = true) (hk : k < r.length) : isName (r.getD (k : Int).toNat default).1 = true ∧ 0 ≤ (r.getD (k : Int).toNat default).2 ∧ (r.getD (k : Int).toNat default).2 ≤ 1000000000 := by
 simp only [isRec, Bool.and_eq_true, List.all_eq_true] at h
 have h1 := h.1 k (List.mem_range.2 hk)
 unfold recBad at h1
 simp only [Bool.not_or, Bool.not_not, Bool.and_eq_true, decide_eq_true_eq] at h1
 exact ⟨h1.1.1, h1.1.2.1, h1.1.2.2⟩
theorem rec_len {r : RecT} (h : isRec r = true) : r.length ≤ 6 := by
 simp only [isRec, Bool.and_eq_true, decide_eq_true_eq] at h; omega
end Go.Proofs.YtmgijbhikmjfjaaGreat

namespace Go.Proofs.YtmgijbhikmjfjaaGreat
open Go.RowKit
open Go.Proofs
set_option linter.unusedVariables false
set_option linter.unusedSimpArgs false
def mkOp (x : OpT) (k : Int) : OpT := (k, mText ((k) + (1)), (((k) + (1)) + (1), (((k) + (1)) + (1)) + (1), mText (((((k) + (1)) + (1)) + (1)) + (1))), mkL mkField cField (x.2.2.2.1) ((((((k) + (1)) + (1)) + (1)) + (1)) + (1)), mText (((((((k) + (1)) + (1)) + (1)) + (1)) + (1)) + (wSum cField (x.2.2.2.1) : Int)))
def cOp (x : OpT) : Nat := 6 + wSum cField (x.2.2.2.1)
theorem cOp_le (x : OpT) : cOp x ≤ 8 * (1 + wOp x) := by
 have h5 := wSum_bound cField_le (x.2.2.2.1)
 simp only [cOp, wOp, wKey, wRecord]
 omega
theorem ok_laws_markOpS {x : List (OpT)} {k : Int} (h0 : 0 ≤ k) (h1 : k + (wSum cOp x : Int) ≤ 4611686018427387904) : WFn Tryz.prog 24 [.one (.key 0), .one (.dv [] (.int .i64 (k)))] (.one (.dv [] (.int .i64 (k + (wSum cOp x : Int))))) [(0, kcOf true (.sl 47 7 (x.length) (x.flatMap eOp)))] [(0, kcOf true (opsD (mkL mkOp cOp x k)))] := by
 refine ⟨fn_intro Tryz.func24 rfl Tryz.ntmps24 Tryz.results24 rfl (fun C => ?_)⟩
 have hln : x.length ≤ wSum cOp x := wSum_ge (fun _ => by simp only [cOp]; omega) x
 refine ok_fact (x := .tmp 1) (ev_tmp rfl) fun f1 => ?_
 iterate 8 refine z ?_
 refine ok_loop (ι := Nat) (fun zz => ⟨[(0, .one (.key 0)), (1, .one (.dv [] (.int .i64 (k + (wSum cOp (x.take zz) : Int))))), (4, .one (.dv [] (.int .i64 (0)))), (5, .one (.dv [] (.int .i64 ((zz : Int)))))], [], [(0, some ⟨true, 47, 7, x.length, (mkL mkOp cOp (x.take zz) k).flatMap eOp ++ (x.drop zz).flatMap eOp⟩)]⟩) (fun zz => zz ≤ x.length) (fun zz => x.length - zz) (0) ?_ (weak_sub ⟨rfl, (eqSlotI (by simp [wSum])), rfl, rfl, trivial⟩ trivial ⟨rfl, trivial⟩ rfl) (fun zz hx => ?_)
 ·exact Nat.zero_le _
 obtain ⟨j, rfl⟩ : ∃ v, v = zz := ⟨_, rfl⟩
 replace hx : j ≤ x.length := hx
 have hw := fun h => wSum_succ cOp x j h
 show Ok _ _ _ _ _ (⟨[(0, .one (.key 0)), (1, .one (.dv [] (.int .i64 (k + (wSum cOp (x.take j) : Int))))), (4, .one (.dv [] (.int .i64 (0)))), (5, .one (.dv [] (.int .i64 ((j : Int)))))], [], [(0, some ⟨true, 47, 7, x.length, (mkL mkOp cOp (x.take j) k).flatMap eOp ++ (x.drop j).flatMap eOp⟩)]⟩ : St)
 iterate 4 refine z ?_
 refine yO rfl rfl (pu_lenKn (n := (x.length)) hT rfl rfl (ev_tmp rfl) rfl rfl) rfl ?_
 iterate 2 refine z ?_
 refine yQ rfl (fun c1 => ?_) fun c1 => ?_
 ·skip
  have d1 := of_decide_eq_true c1
  have hj : j < x.length := by omega
  obtain ⟨hw1, hw2⟩ := hw hj
  have hc : cOp (x.getD (j : Int).toNat default) = 6 + wSum cField ((x.getD (j : Int).toNat default).2.2.2.1) := rfl
  refine ok_kcs (k := 0) (cs' := mid ((mkL mkOp cOp (x.take j) k).flatMap eOp) [.int .i64 ((x.getD (j : Int).toNat default).1), .str ((x.getD (j : Int).toNat default).2.1), .int .i64 ((x.getD (j : Int).toNat default).2.2.1.1), .int .i64 ((x.getD (j : Int).toNat default).2.2.1.2.1), .str ((x.getD (j : Int).toNat default).2.2.1.2.2), fieldsD ((x.getD (j : Int).toNat default).2.2.2.1), .str ((x.getD (j : Int).toNat default).2.2.2.2)] ((x.drop (j + 1)).flatMap eOp)) rfl (mk_open hj) ?_
  iterate 8 refine z ?_
  refine yO rfl rfl (pu_indexK (i := j) hT rfl rfl rfl (ev_tmp rfl) rfl (ev_tmp rfl) rfl (by show _ < (x.length); omega)) rfl ?_
  refine z ?_
  refine o_storeE (js := []) (cs := mid ((mkL mkOp cOp (x.take j) k).flatMap eOp) [.int .i64 (k + (wSum cOp (x.take j) : Int)), .str ((x.getD (j : Int).toNat default).2.1), .int .i64 ((x.getD (j : Int).toNat default).2.2.1.1), .int .i64 ((x.getD (j : Int).toNat default).2.2.1.2.1), .str ((x.getD (j : Int).toNat default).2.2.1.2.2), fieldsD ((x.getD (j : Int).toNat default).2.2.2.1), .str ((x.getD (j : Int).toNat default).2.2.2.2)] ((x.drop (j + 1)).flatMap eOp)) hT rfl rfl rfl rfl (ev_tmp rfl) (ev_tmp rfl) rfl rfl rfl rfl (ow_cons' (ow_dv rfl) ow_nil rfl) (by decide) (by decide) rfl (le_mid (off := (j * 7 + 0)) (n := 1) (j := 0) (mk_pre (sz := 7) (fun _ => rfl) (Nat.le_of_lt hj)) (by omega) (Nat.le_of_ble_eq_true rfl)) (setR_mid (off := (j * 7 + 0)) (j := 0) (mk_pre (sz := 7) (fun _ => rfl) (Nat.le_of_lt hj)) (by omega) rfl (Nat.le_of_ble_eq_true rfl)) ?_
  simp only [killT, killB, SV.kill, CV.kill, kk, Nat.reduceBEq]
  iterate 10 refine z ?_
  refine zC Tryz.call63 ?_ (hf := ok_laws_markText (by omega))
  refine yO rfl rfl (pu_indexK (i := j) hT rfl rfl rfl (ev_tmp rfl) rfl (ev_tmp rfl) rfl (by show _ < (x.length); omega)) rfl ?_
  refine z ?_
  refine o_storeE (js := []) (cs := mid ((mkL mkOp cOp (x.take j) k).flatMap eOp) [.int .i64 (k + (wSum cOp (x.take j) : Int)), .str (mText ((k + (wSum cOp (x.take j) : Int)) + (1))), .int .i64 ((x.getD (j : Int).toNat default).2.2.1.1), .int .i64 ((x.getD (j : Int).toNat default).2.2.1.2.1), .str ((x.getD (j : Int).toNat default).2.2.1.2.2), fieldsD ((x.getD (j : Int).toNat default).2.2.2.1), .str ((x.getD (j : Int).toNat default).2.2.2.2)] ((x.drop (j + 1)).flatMap eOp)) hT rfl rfl rfl rfl (ev_tmp rfl) (ev_tmp rfl) rfl rfl rfl rfl (ow_cons' (ow_dv rfl) ow_nil rfl) (by decide) (by decide) rfl (le_mid (off := (j * 7 + 1)) (n := 1) (j := 1) (mk_pre (sz := 7) (fun _ => rfl) (Nat.le_of_lt hj)) (by omega) (Nat.le_of_ble_eq_true rfl)) (setR_mid (off := (j * 7 + 1)) (j := 1) (mk_pre (sz := 7) (fun _ => rfl) (Nat.le_of_lt hj)) (by omega) rfl (Nat.le_of_ble_eq_true rfl)) ?_
  simp only [killT, killB, SV.kill, CV.kill, kk, Nat.reduceBEq]
  iterate 10 refine z ?_
  refine yO rfl rfl (pu_indexK (i := j) hT rfl rfl rfl (ev_tmp rfl) rfl (ev_tmp rfl) rfl (by show _ < (x.length); omega)) rfl ?_
  iterate 2 refine z ?_
  refine o_storeE (js := []) (cs := mid ((mkL mkOp cOp (x.take j) k).flatMap eOp) [.int .i64 (k + (wSum cOp (x.take j) : Int)), .str (mText ((k + (wSum cOp (x.take j) : Int)) + (1))), .int .i64 (((k + (wSum cOp (x.take j) : Int)) + (1)) + (1)), .int .i64 ((x.getD (j : Int).toNat default).2.2.1.2.1), .str ((x.getD (j : Int).toNat default).2.2.1.2.2), fieldsD ((x.getD (j : Int).toNat default).2.2.2.1), .str ((x.getD (j : Int).toNat default).2.2.2.2)] ((x.drop (j + 1)).flatMap eOp)) hT rfl rfl rfl rfl (ev_tmp rfl) (ev_tmp rfl) rfl rfl rfl rfl (ow_cons' (ow_dv rfl) ow_nil rfl) (by decide) (by decide) rfl (le_mid (off := ((j * 7 + 2) + 0)) (n := 1) (j := 2) (mk_pre (sz := 7) (fun _ => rfl) (Nat.le_of_lt hj)) (by omega) (Nat.le_of_ble_eq_true rfl)) (setR_mid (off := ((j * 7 + 2) + 0)) (j := 2) (mk_pre (sz := 7) (fun _ => rfl) (Nat.le_of_lt hj)) (by omega) rfl (Nat.le_of_ble_eq_true rfl)) ?_
  simp only [killT, killB, SV.kill, CV.kill, kk, Nat.reduceBEq]
  iterate 10 refine z ?_
  refine yO rfl rfl (pu_indexK (i := j) hT rfl rfl rfl (ev_tmp rfl) rfl (ev_tmp rfl) rfl (by show _ < (x.length); omega)) rfl ?_
  iterate 2 refine z ?_
  refine o_storeE (js := []) (cs := mid ((mkL mkOp cOp (x.take j) k).flatMap eOp) [.int .i64 (k + (wSum cOp (x.take j) : Int)), .str (mText ((k + (wSum cOp (x.take j) : Int)) + (1))), .int .i64 (((k + (wSum cOp (x.take j) : Int)) + (1)) + (1)), .int .i64 ((((k + (wSum cOp (x.take j) : Int)) + (1)) + (1)) + (1)), .str ((x.getD (j : Int).toNat default).2.2.1.2.2), fieldsD ((x.getD (j : Int).toNat default).2.2.2.1), .str ((x.getD (j : Int).toNat default).2.2.2.2)] ((x.drop (j + 1)).flatMap eOp)) hT rfl rfl rfl rfl (ev_tmp rfl) (ev_tmp rfl) rfl rfl rfl rfl (ow_cons' (ow_dv rfl) ow_nil rfl) (by decide) (by decide) rfl (le_mid (off := ((j * 7 + 2) + 1)) (n := 1) (j := 3) (mk_pre (sz := 7) (fun _ => rfl) (Nat.le_of_lt hj)) (by omega) (Nat.le_of_ble_eq_true rfl)) (setR_mid (off := ((j * 7 + 2) + 1)) (j := 3) (mk_pre (sz := 7) (fun _ => rfl) (Nat.le_of_lt hj)) (by omega) rfl (Nat.le_of_ble_eq_true rfl)) ?_
  simp only [killT, killB, SV.kill, CV.kill, kk, Nat.reduceBEq]
  iterate 10 refine z ?_
  refine zC Tryz.call63 ?_ (hf := ok_laws_markText (by omega))
  refine yO rfl rfl (pu_indexK (i := j) hT rfl rfl rfl (ev_tmp rfl) rfl (ev_tmp rfl) rfl (by show _ < (x.length); omega)) rfl ?_
  iterate 2 refine z ?_
  refine o_storeE (js := []) (cs := mid ((mkL mkOp cOp (x.take j) k).flatMap eOp) [.int .i64 (k + (wSum cOp (x.take j) : Int)), .str (mText ((k + (wSum cOp (x.take j) : Int)) + (1))), .int .i64 (((k + (wSum cOp (x.take j) : Int)) + (1)) + (1)), .int .i64 ((((k + (wSum cOp (x.take j) : Int)) + (1)) + (1)) + (1)), .str (mText (((((k + (wSum cOp (x.take j) : Int)) + (1)) + (1)) + (1)) + (1))), fieldsD ((x.getD (j : Int).toNat default).2.2.2.1), .str ((x.getD (j : Int).toNat default).2.2.2.2)] ((x.drop (j + 1)).flatMap eOp)) hT rfl rfl rfl rfl (ev_tmp rfl) (ev_tmp rfl) rfl rfl rfl rfl (ow_cons' (ow_dv rfl) ow_nil rfl) (by decide) (by decide) rfl (le_mid (off := ((j * 7 + 2) + 2)) (n := 1) (j := 4) (mk_pre (sz := 7) (fun _ => rfl) (Nat.le_of_lt hj)) (by omega) (Nat.le_of_ble_eq_true rfl)) (setR_mid (off := ((j * 7 + 2) + 2)) (j := 4) (mk_pre (sz := 7) (fun _ => rfl) (Nat.le_of_lt hj)) (by omega) rfl (Nat.le_of_ble_eq_true rfl)) ?_
  simp only [killT, killB, SV.kill, CV.kill, kk, Nat.reduceBEq]
  iterate 9 refine z ?_
  refine yO rfl rfl (pu_indexK (i := j) hT rfl rfl rfl (ev_tmp rfl) rfl (ev_tmp rfl) rfl (by show _ < (x.length); omega)) rfl ?_
  iterate 2 refine z ?_
  refine yO rfl rfl (pu_loadE1 hT rfl rfl (ev_tmp rfl) rfl (get_mid (off := ((j * 7 + 5) + 0)) (j := 5) (mk_pre (sz := 7) (fun _ => rfl) (Nat.le_of_lt hj)) (by omega) rfl)) rfl ?_
  refine z ?_
  refine o_callN (t := 57) (ccs := mid ((mkL mkOp cOp (x.take j) k).flatMap eOp) [.int .i64 (k + (wSum cOp (x.take j) : Int)), .str (mText ((k + (wSum cOp (x.take j) : Int)) + (1))), .int .i64 (((k + (wSum cOp (x.take j) : Int)) + (1)) + (1)), .int .i64 ((((k + (wSum cOp (x.take j) : Int)) + (1)) + (1)) + (1)), .str (mText (((((k + (wSum cOp (x.take j) : Int)) + (1)) + (1)) + (1)) + (1))), fieldsD (mkL mkField cField ((x.getD (j : Int).toNat default).2.2.2.1) ((((((k + (wSum cOp (x.take j) : Int)) + (1)) + (1)) + (1)) + (1)) + (1))), .str ((x.getD (j : Int).toNat default).2.2.2.2)] ((x.drop (j + 1)).flatMap eOp)) 5059 rfl rfl rfl Tryz.call64 (ok_laws_markFieldS (by omega) (by omega)) rfl rfl (get_mid (off := ((j * 7 + 5) + 0)) (j := 5) (mk_pre (sz := 7) (fun _ => rfl) (Nat.le_of_lt hj)) (by omega) rfl) rfl (aw_cons (ev_tmp rfl) (aw_one (awc_key rfl)) (aw_cons (ev_tmp rfl) (aw_one (awc_dv rfl)) aw_nil)) rfl rfl (set_mid (off := ((j * 7 + 5) + 0)) (j := 5) (mk_pre (sz := 7) (fun _ => rfl) (Nat.le_of_lt hj)) (by omega) rfl (Nat.lt_of_lt_of_le (Nat.lt_succ_self _) (Nat.le_of_ble_eq_true rfl))) ?_
  simp only [killT, killB, SV.kill, CV.kill, kk, Nat.reduceBEq]
  iterate 6 refine z ?_
  refine zC Tryz.call63 ?_ (hf := ok_laws_markText (by omega))
  refine yO rfl rfl (pu_indexK (i := j) hT rfl rfl rfl (ev_tmp rfl) rfl (ev_tmp rfl) rfl (by show _ < (x.length); omega)) rfl ?_
  refine z ?_
  refine o_storeE (js := []) (cs := mid ((mkL mkOp cOp (x.take j) k).flatMap eOp) [.int .i64 (k + (wSum cOp (x.take j) : Int)), .str (mText ((k + (wSum cOp (x.take j) : Int)) + (1))), .int .i64 (((k + (wSum cOp (x.take j) : Int)) + (1)) + (1)), .int .i64 ((((k + (wSum cOp (x.take j) : Int)) + (1)) + (1)) + (1)), .str (mText (((((k + (wSum cOp (x.take j) : Int)) + (1)) + (1)) + (1)) + (1))), fieldsD (mkL mkField cField ((x.getD (j : Int).toNat default).2.2.2.1) ((((((k + (wSum cOp (x.take j) : Int)) + (1)) + (1)) + (1)) + (1)) + (1))), .str (mText (((((((k + (wSum cOp (x.take j) : Int)) + (1)) + (1)) + (1)) + (1)) + (1)) + (wSum cField ((x.getD (j : Int).toNat default).2.2.2.1) : Int)))] ((x.drop (j + 1)).flatMap eOp)) hT rfl rfl rfl rfl (ev_tmp rfl) (ev_tmp rfl) rfl rfl rfl rfl (ow_cons' (ow_dv rfl) ow_nil rfl) (by decide) (by decide) rfl (le_mid (off := (j * 7 + 6)) (n := 1) (j := 6) (mk_pre (sz := 7) (fun _ => rfl) (Nat.le_of_lt hj)) (by omega) (Nat.le_of_ble_eq_true rfl)) (setR_mid (off := (j * 7 + 6)) (j := 6) (mk_pre (sz := 7) (fun _ => rfl) (Nat.le_of_lt hj)) (by omega) rfl (Nat.le_of_ble_eq_true rfl)) ?_
  simp only [killT, killB, SV.kill, CV.kill, kk, Nat.reduceBEq]
  refine z ?_
  refine ok_region ?_
  iterate 3 refine z ?_
  refine ops_nil ?_
  iterate 2 refine z ?_
  refine ok_region ?_
  iterate 4 refine z ?_
  refine ⟨j + 1, ?_, ?_, weak_sub ⟨rfl, (eqSlotI (by omega)), rfl, rfl, trivial⟩ trivial ⟨(congrArg (fun cs => some (some (KC.mk true 47 7 x.length cs))) (mk_close (by omega) (by rfl))), trivial⟩ rfl⟩
  ·omega
  ·omega
 ·skip
  have d1 := of_decide_eq_false c1
  iterate 9 refine z ?_
  refine ok_weak (σ' := ⟨[(4, .one (.dv [] (.int .i64 (k + (wSum cOp (x.take j) : Int)))))], [], [(0, some (kcOf true (opsD (mkL mkOp cOp x k))))]⟩) (weak_sub ⟨rfl, trivial⟩ trivial ⟨(mk_fin (by omega)), trivial⟩ rfl) ?_
  refine z ?_
  refine fin1 (res_tmp rfl) ⟨eqI ?_, w1_ok rfl⟩
  have hq := wSum_all cOp x j (by omega); omega
theorem ok_laws_heldOpS {x y : List (OpT)} {k : Int} (hy : y = mkL mkOp cOp x k) (h0 : 0 ≤ k) (h1 : k + (wSum cOp x : Int) ≤ 4611686018427387904) : PFn Tryz.prog 119 [.one (.dv [] (opsD (y))), .one (.dv [] (.int .i64 (k)))] (.one (.dv [] (.int .i64 (k + (wSum cOp x : Int))))) := by
 refine ⟨fn_intro Tryz.func119 rfl Tryz.ntmps119 Tryz.results119 rfl (fun C => ?_)⟩
 refine ok_fact (x := .tmp 0) (ev_tmp rfl) fun f0 => ?_
 refine ok_fact (x := .tmp 1) (ev_tmp rfl) fun f1 => ?_
 iterate 8 refine z ?_
 refine ok_loop (ι := Nat) (fun zz => ⟨[(0, .one (.dv [] (opsD (y)))), (1, .one (.dv [] (.int .i64 (k + (wSum cOp (x.take zz) : Int))))), (5, .one (.dv [] (.int .i64 ((zz : Int)))))], [], []⟩) (fun zz => zz ≤ x.length) (fun zz => x.length - zz) (0) ?_ (weak_sub ⟨rfl, (eqSlotI (by simp [wSum])), rfl, trivial⟩ trivial trivial rfl) (fun zz hx => ?_)
 ·exact Nat.zero_le _
 obtain ⟨j, rfl⟩ : ∃ v, v = zz := ⟨_, rfl⟩
 replace hx : j ≤ x.length := hx
 have hw := fun h => wSum_succ cOp x j h
 have hyl : y.length = x.length := by rw [hy, mkL_len]
 show Ok _ _ _ _ _ (⟨[(0, .one (.dv [] (opsD (y)))), (1, .one (.dv [] (.int .i64 (k + (wSum cOp (x.take j) : Int))))), (5, .one (.dv [] (.int .i64 ((j : Int)))))], [], []⟩ : St)
 iterate 7 refine z ?_
 refine yQ rfl (fun c1 => ?_) fun c1 => ?_
 ·skip
  have d1 := of_decide_eq_true c1
  have hj : j < x.length := by omega
  obtain ⟨hw1, hw2⟩ := hw hj
  have hc : cOp (x.getD (j : Int).toNat default) = 6 + wSum cField ((x.getD (j : Int).toNat default).2.2.2.1) := rfl
  have he : y.getD (j : Int).toNat default = mkOp (x.getD (j : Int).toNat default) (k + (wSum cOp (x.take j) : Int)) := by rw [hy]; exact mkL_getD hj
  iterate 14 refine z ?_
  refine yQ rfl (fun c2 => ?_) fun c2 => ?_
  ·skip
   have d2 := nd_t c2
   iterate 11 refine z ?_
   exfalso; rw [he] at c2; simp [mkOp, sEq] at c2
  ·skip
   have d2 := nd_f c2
   iterate 7 refine z ?_
   refine ok_seq ?_
   refine ok_seq ?_
   refine ok_regionD (oB := []) (oK := []) (by kernel_rfl) rfl rfl ?_
   refine zD 0 ?_
   refine zD 1 ?_
   refine zD 2 ?_
   refine zD 3 ?_
   refine zD 4 ?_
   refine zD 5 ?_
   refine d_call 6 rfl (by kernel_rfl) rfl rfl rfl Tryz.call63 (ok_laws_markText (by omega)) (as_cons (ev_tmp rfl) (ag_one ac_dv) as_nil) rfl rfl rfl rfl ?_
   refine zD 7 ?_
   refine d_done (by kernel_rfl) ?_
   refine z ?_
   refine yQ rfl (fun c3 => ?_) fun c3 => ?_
   ·skip
    iterate 11 refine z ?_
    exfalso; rw [he] at c3; simp [mkOp, sEq] at c3
   ·skip
    iterate 18 refine z ?_
    refine yQ rfl (fun c4 => ?_) fun c4 => ?_
    ·skip
     have d4 := nd_t c4
     iterate 11 refine z ?_
     exfalso; rw [he] at c4; simp [mkOp, sEq] at c4
    ·skip
     have d4 := nd_f c4
     iterate 18 refine z ?_
     refine yQ rfl (fun c5 => ?_) fun c5 => ?_
     ·skip
      have d5 := nd_t c5
      iterate 11 refine z ?_
      exfalso; rw [he] at c5; simp [mkOp, sEq] at c5
     ·skip
      have d5 := nd_f c5
      iterate 7 refine z ?_
      refine ok_seq ?_
      refine ok_seq ?_
      refine ok_regionD (oB := []) (oK := []) (by kernel_rfl) rfl rfl ?_
      refine zD 0 ?_
      refine zD 1 ?_
      refine zD 2 ?_
      refine zD 3 ?_
      refine zD 4 ?_
      refine zD 5 ?_
      refine zD 6 ?_
      refine d_call 7 rfl (by kernel_rfl) rfl rfl rfl Tryz.call63 (ok_laws_markText (by omega)) (as_cons (ev_tmp rfl) (ag_one ac_dv) as_nil) rfl rfl rfl rfl ?_
      refine zD 8 ?_
      refine d_done (by kernel_rfl) ?_
      refine z ?_
      refine yQ rfl (fun c6 => ?_) fun c6 => ?_
      ·skip
       iterate 11 refine z ?_
       exfalso; rw [he] at c6; simp [mkOp, sEq] at c6
      ·skip
       iterate 15 refine z ?_
       refine zC Tryz.call148 ?_ (hf := ok_laws_heldFieldS (x := (x.getD (j : Int).toNat default).2.2.2.1) (by rw [he]; rfl) (by omega) (by omega))
       iterate 7 refine z ?_
       refine yQ rfl (fun c7 => ?_) fun c7 => ?_
       ·skip
        have d7 := of_decide_eq_true c7
        iterate 11 refine z ?_
        exfalso; omega
       ·skip
        have d7 := of_decide_eq_false c7
        iterate 2 refine z ?_
        refine ok_seq ?_
        refine ok_seq ?_
        refine ok_regionD (oB := []) (oK := []) (by kernel_rfl) rfl rfl ?_
        refine zD 0 ?_
        refine zD 1 ?_
        refine zD 2 ?_
        refine zD 3 ?_
        refine zD 4 ?_
        refine zD 5 ?_
        refine d_call 6 rfl (by kernel_rfl) rfl rfl rfl Tryz.call63 (ok_laws_markText (by omega)) (as_cons (ev_tmp rfl) (ag_one ac_dv) as_nil) rfl rfl rfl rfl ?_
        refine zD 7 ?_
        refine d_done (by kernel_rfl) ?_
        refine z ?_
        refine yQ rfl (fun c8 => ?_) fun c8 => ?_
        ·skip
         iterate 11 refine z ?_
         exfalso; rw [he] at c8; simp [mkOp, sEq] at c8
        ·skip
         iterate 2 refine z ?_
         refine ok_region ?_
         iterate 3 refine z ?_
         refine ops_nil ?_
         iterate 2 refine z ?_
         refine ok_region ?_
         iterate 4 refine z ?_
         refine ⟨j + 1, ?_, ?_, weak_sub ⟨rfl, (eqSlotI (by omega)), rfl, trivial⟩ trivial trivial rfl⟩
         ·omega
         ·omega
 ·skip
  have d1 := of_decide_eq_false c1
  iterate 11 refine z ?_
  have hq := wSum_all cOp x j (by omega); omega
end Go.Proofs.YtmgijbhikmjfjaaGreat

namespace Go.Proofs.YtmgijbhikmjfjaaGreat
open Go.RowKit
open Go.Proofs
set_option linter.unusedVariables false
set_option linter.unusedSimpArgs false
def mkIndexDef (x : DefT) (k : Int) : DefT := (mText (k), mText ((k) + (1)))
def cIndexDef (x : DefT) : Nat := 2
theorem cIndexDef_le (x : DefT) : cIndexDef x ≤ 8 * (1 + wIndexDef x) := by
 simp only [cIndexDef]
 omega
def mkTx (x : TxT) (k : Int) : TxT := (k, mkL mkOp cOp (x.2.1) ((k) + (1)), ((k) + (1)) + (wSum cOp (x.2.1) : Int), (((k) + (1)) + (wSum cOp (x.2.1) : Int)) + (1), mkL mkStore cStore (x.2.2.2.2) (((((k) + (1)) + (wSum cOp (x.2.1) : Int)) + (1)) + (1)))
def cTx (x : TxT) : Nat := 3 + wSum cOp (x.2.1) + wSum cStore (x.2.2.2.2)
theorem cTx_le (x : TxT) : cTx x ≤ 8 * (1 + wTx x) := by
 have h1 := wSum_bound cOp_le (x.2.1)
 have h4 := wSum_bound cStore_le (x.2.2.2.2)
 simp only [cTx, wTx]
 omega
def mvTxQueue (x : List TxT) (k : Int) : List TxT := mkL mkTx cTx (x) (k)
def mvDatabase (x : DbT) (k : Int) : DbT := (x.1, x.2.1, mkL mkStore cStore (x.2.2.1) (k), mkL mkIndexDef cIndexDef (x.2.2.2) ((k) + (wSum cStore (x.2.2.1) : Int)))
theorem ok_laws_markIndexDefS {x : List (DefT)} {k : Int} (h0 : 0 ≤ k) (h1 : k + (wSum cIndexDef x : Int) ≤ 4611686018427387904) : WFn Tryz.prog 59 [.one (.key 0), .one (.dv [] (.int .i64 (k)))] (.one (.dv [] (.int .i64 (k + (wSum cIndexDef x : Int))))) [(0, kcOf true (.sl 127 2 (x.length) (x.flatMap eDef)))] [(0, kcOf true (defsD (mkL mkIndexDef cIndexDef x k)))] := by
 refine ⟨fn_intro Tryz.func59 rfl Tryz.ntmps59 Tryz.results59 rfl (fun C => ?_)⟩
 have hln : x.length ≤ wSum cIndexDef x := wSum_ge (fun _ => by simp only [cIndexDef]; omega) x
 refine ok_fact (x := .tmp 1) (ev_tmp rfl) fun f1 => ?_
 iterate 8 refine z ?_
 refine ok_loop (ι := Nat) (fun zz => ⟨[(0, .one (.key 0)), (1, .one (.dv [] (.int .i64 (k + (wSum cIndexDef (x.take zz) : Int))))), (4, .one (.dv [] (.int .i64 (0)))), (5, .one (.dv [] (.int .i64 ((zz : Int)))))], [], [(0, some ⟨true, 127, 2, x.length, (mkL mkIndexDef cIndexDef (x.take zz) k).flatMap eDef ++ (x.drop zz).flatMap eDef⟩)]⟩) (fun zz => zz ≤ x.length) (fun zz => x.length - zz) (0) ?_ (weak_sub ⟨rfl, (eqSlotI (by simp [wSum])), rfl, rfl, trivial⟩ trivial ⟨rfl, trivial⟩ rfl) (fun zz hx => ?_)
 ·exact Nat.zero_le _
 obtain ⟨j, rfl⟩ : ∃ v, v = zz := ⟨_, rfl⟩
 replace hx : j ≤ x.length := hx
 have hw := fun h => wSum_succ cIndexDef x j h
 show Ok _ _ _ _ _ (⟨[(0, .one (.key 0)), (1, .one (.dv [] (.int .i64 (k + (wSum cIndexDef (x.take j) : Int))))), (4, .one (.dv [] (.int .i64 (0)))), (5, .one (.dv [] (.int .i64 ((j : Int)))))], [], [(0, some ⟨true, 127, 2, x.length, (mkL mkIndexDef cIndexDef (x.take j) k).flatMap eDef ++ (x.drop j).flatMap eDef⟩)]⟩ : St)
 iterate 4 refine z ?_
 refine yO rfl rfl (pu_lenKn (n := (x.length)) hT rfl rfl (ev_tmp rfl) rfl rfl) rfl ?_
 iterate 2 refine z ?_
 refine yQ rfl (fun c1 => ?_) fun c1 => ?_
 ·skip
  have d1 := of_decide_eq_true c1
  have hj : j < x.length := by omega
  obtain ⟨hw1, hw2⟩ := hw hj
  have hc : cIndexDef (x.getD (j : Int).toNat default) = 2 := rfl
  refine ok_kcs (k := 0) (cs' := mid ((mkL mkIndexDef cIndexDef (x.take j) k).flatMap eDef) [.str ((x.getD (j : Int).toNat default).1), .str ((x.getD (j : Int).toNat default).2)] ((x.drop (j + 1)).flatMap eDef)) rfl (mk_open hj) ?_
  iterate 8 refine z ?_
  refine zC Tryz.call63 ?_ (hf := ok_laws_markText (by omega))
  refine yO rfl rfl (pu_indexK (i := j) hT rfl rfl rfl (ev_tmp rfl) rfl (ev_tmp rfl) rfl (by show _ < (x.length); omega)) rfl ?_
  refine z ?_
  refine o_storeE (js := []) (cs := mid ((mkL mkIndexDef cIndexDef (x.take j) k).flatMap eDef) [.str (mText (k + (wSum cIndexDef (x.take j) : Int))), .str ((x.getD (j : Int).toNat default).2)] ((x.drop (j + 1)).flatMap eDef)) hT rfl rfl rfl rfl (ev_tmp rfl) (ev_tmp rfl) rfl rfl rfl rfl (ow_cons' (ow_dv rfl) ow_nil rfl) (by decide) (by decide) rfl (le_mid (off := (j * 2 + 0)) (n := 1) (j := 0) (mk_pre (sz := 2) (fun _ => rfl) (Nat.le_of_lt hj)) (by omega) (Nat.le_of_ble_eq_true rfl)) (setR_mid (off := (j * 2 + 0)) (j := 0) (mk_pre (sz := 2) (fun _ => rfl) (Nat.le_of_lt hj)) (by omega) rfl (Nat.le_of_ble_eq_true rfl)) ?_
  simp only [killT, killB, SV.kill, CV.kill, kk, Nat.reduceBEq]
  iterate 10 refine z ?_
  refine zC Tryz.call63 ?_ (hf := ok_laws_markText (by omega))
  refine yO rfl rfl (pu_indexK (i := j) hT rfl rfl rfl (ev_tmp rfl) rfl (ev_tmp rfl) rfl (by show _ < (x.length); omega)) rfl ?_
  refine z ?_
  refine o_storeE (js := []) (cs := mid ((mkL mkIndexDef cIndexDef (x.take j) k).flatMap eDef) [.str (mText (k + (wSum cIndexDef (x.take j) : Int))), .str (mText ((k + (wSum cIndexDef (x.take j) : Int)) + (1)))] ((x.drop (j + 1)).flatMap eDef)) hT rfl rfl rfl rfl (ev_tmp rfl) (ev_tmp rfl) rfl rfl rfl rfl (ow_cons' (ow_dv rfl) ow_nil rfl) (by decide) (by decide) rfl (le_mid (off := (j * 2 + 1)) (n := 1) (j := 1) (mk_pre (sz := 2) (fun _ => rfl) (Nat.le_of_lt hj)) (by omega) (Nat.le_of_ble_eq_true rfl)) (setR_mid (off := (j * 2 + 1)) (j := 1) (mk_pre (sz := 2) (fun _ => rfl) (Nat.le_of_lt hj)) (by omega) rfl (Nat.le_of_ble_eq_true rfl)) ?_
  simp only [killT, killB, SV.kill, CV.kill, kk, Nat.reduceBEq]
  refine z ?_
  refine ok_region ?_
  iterate 3 refine z ?_
  refine ops_nil ?_
  iterate 2 refine z ?_
  refine ok_region ?_
  iterate 4 refine z ?_
  refine ⟨j + 1, ?_, ?_, weak_sub ⟨rfl, (eqSlotI (by omega)), rfl, rfl, trivial⟩ trivial ⟨(congrArg (fun cs => some (some (KC.mk true 127 2 x.length cs))) (mk_close (by omega) (by rfl))), trivial⟩ rfl⟩
  ·omega
  ·omega
 ·skip
  have d1 := of_decide_eq_false c1
  iterate 9 refine z ?_
  refine ok_weak (σ' := ⟨[(4, .one (.dv [] (.int .i64 (k + (wSum cIndexDef (x.take j) : Int)))))], [], [(0, some (kcOf true (defsD (mkL mkIndexDef cIndexDef x k))))]⟩) (weak_sub ⟨rfl, trivial⟩ trivial ⟨(mk_fin (by omega)), trivial⟩ rfl) ?_
  refine z ?_
  refine fin1 (res_tmp rfl) ⟨eqI ?_, w1_ok rfl⟩
  have hq := wSum_all cIndexDef x j (by omega); omega
theorem ok_laws_heldIndexDefS {x y : List (DefT)} {k : Int} (hy : y = mkL mkIndexDef cIndexDef x k) (h0 : 0 ≤ k) (h1 : k + (wSum cIndexDef x : Int) ≤ 4611686018427387904) : PFn Tryz.prog 62 [.one (.dv [] (defsD (y))), .one (.dv [] (.int .i64 (k)))] (.one (.dv [] (.int .i64 (k + (wSum cIndexDef x : Int))))) := by
 refine ⟨fn_intro Tryz.func62 rfl Tryz.ntmps62 Tryz.results62 rfl (fun C => ?_)⟩
 refine ok_fact (x := .tmp 0) (ev_tmp rfl) fun f0 => ?_
 refine ok_fact (x := .tmp 1) (ev_tmp rfl) fun f1 => ?_
 iterate 8 refine z ?_
 refine ok_loop (ι := Nat) (fun zz => ⟨[(0, .one (.dv [] (defsD (y)))), (1, .one (.dv [] (.int .i64 (k + (wSum cIndexDef (x.take zz) : Int))))), (5, .one (.dv [] (.int .i64 ((zz : Int)))))], [], []⟩) (fun zz => zz ≤ x.length) (fun zz => x.length - zz) (0) ?_ (weak_sub ⟨rfl, (eqSlotI (by simp [wSum])), rfl, trivial⟩ trivial trivial rfl) (fun zz hx => ?_)
 ·exact Nat.zero_le _
 obtain ⟨j, rfl⟩ : ∃ v, v = zz := ⟨_, rfl⟩
 replace hx : j ≤ x.length := hx
 have hw := fun h => wSum_succ cIndexDef x j h
 have hyl : y.length = x.length := by rw [hy, mkL_len]
 show Ok _ _ _ _ _ (⟨[(0, .one (.dv [] (defsD (y)))), (1, .one (.dv [] (.int .i64 (k + (wSum cIndexDef (x.take j) : Int))))), (5, .one (.dv [] (.int .i64 ((j : Int)))))], [], []⟩ : St)
 iterate 7 refine z ?_
 refine yQ rfl (fun c1 => ?_) fun c1 => ?_
 ·skip
  have d1 := of_decide_eq_true c1
  have hj : j < x.length := by omega
  obtain ⟨hw1, hw2⟩ := hw hj
  have hc : cIndexDef (x.getD (j : Int).toNat default) = 2 := rfl
  have he : y.getD (j : Int).toNat default = mkIndexDef (x.getD (j : Int).toNat default) (k + (wSum cIndexDef (x.take j) : Int)) := by rw [hy]; exact mkL_getD hj
  iterate 4 refine z ?_
  refine ok_seq ?_
  refine ok_seq ?_
  refine ok_regionD (oB := []) (oK := []) (by kernel_rfl) rfl rfl ?_
  refine zD 0 ?_
  refine zD 1 ?_
  refine zD 2 ?_
  refine zD 3 ?_
  refine zD 4 ?_
  refine zD 5 ?_
  refine d_call 6 rfl (by kernel_rfl) rfl rfl rfl Tryz.call63 (ok_laws_markText (by omega)) (as_cons (ev_tmp rfl) (ag_one ac_dv) as_nil) rfl rfl rfl rfl ?_
  refine zD 7 ?_
  refine d_done (by kernel_rfl) ?_
  refine z ?_
  refine yQ rfl (fun c2 => ?_) fun c2 => ?_
  ·skip
   iterate 11 refine z ?_
   exfalso; rw [he] at c2; simp [mkIndexDef, sEq] at c2
  ·skip
   iterate 7 refine z ?_
   refine ok_seq ?_
   refine ok_seq ?_
   refine ok_regionD (oB := []) (oK := []) (by kernel_rfl) rfl rfl ?_
   refine zD 0 ?_
   refine zD 1 ?_
   refine zD 2 ?_
   refine zD 3 ?_
   refine zD 4 ?_
   refine zD 5 ?_
   refine d_call 6 rfl (by kernel_rfl) rfl rfl rfl Tryz.call63 (ok_laws_markText (by omega)) (as_cons (ev_tmp rfl) (ag_one ac_dv) as_nil) rfl rfl rfl rfl ?_
   refine zD 7 ?_
   refine d_done (by kernel_rfl) ?_
   refine z ?_
   refine yQ rfl (fun c3 => ?_) fun c3 => ?_
   ·skip
    iterate 11 refine z ?_
    exfalso; rw [he] at c3; simp [mkIndexDef, sEq] at c3
   ·skip
    iterate 2 refine z ?_
    refine ok_region ?_
    iterate 3 refine z ?_
    refine ops_nil ?_
    iterate 2 refine z ?_
    refine ok_region ?_
    iterate 4 refine z ?_
    refine ⟨j + 1, ?_, ?_, weak_sub ⟨rfl, (eqSlotI (by omega)), rfl, trivial⟩ trivial trivial rfl⟩
    ·omega
    ·omega
 ·skip
  have d1 := of_decide_eq_false c1
  iterate 11 refine z ?_
  have hq := wSum_all cIndexDef x j (by omega); omega
theorem ok_laws_markTxS {x : List (TxT)} {k : Int} (h0 : 0 ≤ k) (h1 : k + (wSum cTx x : Int) ≤ 4611686018427387904) : WFn Tryz.prog 68 [.one (.key 0), .one (.dv [] (.int .i64 (k)))] (.one (.dv [] (.int .i64 (k + (wSum cTx x : Int))))) [(0, kcOf true (.sl 109 5 (x.length) (x.flatMap eTx)))] [(0, kcOf true (txsD (mkL mkTx cTx x k)))] := by
 refine ⟨fn_intro Tryz.func68 rfl Tryz.ntmps68 Tryz.results68 rfl (fun C => ?_)⟩
 have hln : x.length ≤ wSum cTx x := wSum_ge (fun _ => by simp only [cTx]; omega) x
 refine ok_fact (x := .tmp 1) (ev_tmp rfl) fun f1 => ?_
 iterate 8 refine z ?_
 refine ok_loop (ι := Nat) (fun zz => ⟨[(0, .one (.key 0)), (1, .one (.dv [] (.int .i64 (k + (wSum cTx (x.take zz) : Int))))), (4, .one (.dv [] (.int .i64 (0)))), (5, .one (.dv [] (.int .i64 ((zz : Int)))))], [], [(0, some ⟨true, 109, 5, x.length, (mkL mkTx cTx (x.take zz) k).flatMap eTx ++ (x.drop zz).flatMap eTx⟩)]⟩) (fun zz => zz ≤ x.length) (fun zz => x.length - zz) (0) ?_ (weak_sub ⟨rfl, (eqSlotI (by simp [wSum])), rfl, rfl, trivial⟩ trivial ⟨rfl, trivial⟩ rfl) (fun zz hx => ?_)
 ·exact Nat.zero_le _
 obtain ⟨j, rfl⟩ : ∃ v, v = zz := ⟨_, rfl⟩
 replace hx : j ≤ x.length := hx
 have hw := fun h => wSum_succ cTx x j h
 show Ok _ _ _ _ _ (⟨[(0, .one (.key 0)), (1, .one (.dv [] (.int .i64 (k + (wSum cTx (x.take j) : Int))))), (4, .one (.dv [] (.int .i64 (0)))), (5, .one (.dv [] (.int .i64 ((j : Int)))))], [], [(0, some ⟨true, 109, 5, x.length, (mkL mkTx cTx (x.take j) k).flatMap eTx ++ (x.drop j).flatMap eTx⟩)]⟩ : St)
 iterate 4 refine z ?_
 refine yO rfl rfl (pu_lenKn (n := (x.length)) hT rfl rfl (ev_tmp rfl) rfl rfl) rfl ?_
 iterate 2 refine z ?_
 refine yQ rfl (fun c1 => ?_) fun c1 => ?_
 ·skip
  have d1 := of_decide_eq_true c1
  have hj : j < x.length := by omega
  obtain ⟨hw1, hw2⟩ := hw hj
  have hc : cTx (x.getD (j : Int).toNat default) = 3 + wSum cOp ((x.getD (j : Int).toNat default).2.1) + wSum cStore ((x.getD (j : Int).toNat default).2.2.2.2) := rfl
  refine ok_kcs (k := 0) (cs' := mid ((mkL mkTx cTx (x.take j) k).flatMap eTx) [.int .i64 ((x.getD (j : Int).toNat default).1), opsD ((x.getD (j : Int).toNat default).2.1), .int .i64 ((x.getD (j : Int).toNat default).2.2.1), .int .i64 ((x.getD (j : Int).toNat default).2.2.2.1), storesD ((x.getD (j : Int).toNat default).2.2.2.2)] ((x.drop (j + 1)).flatMap eTx)) rfl (mk_open hj) ?_
  iterate 8 refine z ?_
  refine yO rfl rfl (pu_indexK (i := j) hT rfl rfl rfl (ev_tmp rfl) rfl (ev_tmp rfl) rfl (by show _ < (x.length); omega)) rfl ?_
  refine z ?_
  refine o_storeE (js := []) (cs := mid ((mkL mkTx cTx (x.take j) k).flatMap eTx) [.int .i64 (k + (wSum cTx (x.take j) : Int)), opsD ((x.getD (j : Int).toNat default).2.1), .int .i64 ((x.getD (j : Int).toNat default).2.2.1), .int .i64 ((x.getD (j : Int).toNat default).2.2.2.1), storesD ((x.getD (j : Int).toNat default).2.2.2.2)] ((x.drop (j + 1)).flatMap eTx)) hT rfl rfl rfl rfl (ev_tmp rfl) (ev_tmp rfl) rfl rfl rfl rfl (ow_cons' (ow_dv rfl) ow_nil rfl) (by decide) (by decide) rfl (le_mid (off := (j * 5 + 0)) (n := 1) (j := 0) (mk_pre (sz := 5) (fun _ => rfl) (Nat.le_of_lt hj)) (by omega) (Nat.le_of_ble_eq_true rfl)) (setR_mid (off := (j * 5 + 0)) (j := 0) (mk_pre (sz := 5) (fun _ => rfl) (Nat.le_of_lt hj)) (by omega) rfl (Nat.le_of_ble_eq_true rfl)) ?_
  simp only [killT, killB, SV.kill, CV.kill, kk, Nat.reduceBEq]
  iterate 9 refine z ?_
  refine yO rfl rfl (pu_indexK (i := j) hT rfl rfl rfl (ev_tmp rfl) rfl (ev_tmp rfl) rfl (by show _ < (x.length); omega)) rfl ?_
  refine z ?_
  refine yO rfl rfl (pu_loadE1 hT rfl rfl (ev_tmp rfl) rfl (get_mid (off := (j * 5 + 1)) (j := 1) (mk_pre (sz := 5) (fun _ => rfl) (Nat.le_of_lt hj)) (by omega) rfl)) rfl ?_
  refine z ?_
  refine o_callN (t := 23) (ccs := mid ((mkL mkTx cTx (x.take j) k).flatMap eTx) [.int .i64 (k + (wSum cTx (x.take j) : Int)), opsD (mkL mkOp cOp ((x.getD (j : Int).toNat default).2.1) ((k + (wSum cTx (x.take j) : Int)) + (1))), .int .i64 ((x.getD (j : Int).toNat default).2.2.1), .int .i64 ((x.getD (j : Int).toNat default).2.2.2.1), storesD ((x.getD (j : Int).toNat default).2.2.2.2)] ((x.drop (j + 1)).flatMap eTx)) 5025 rfl rfl rfl Tryz.call24 (ok_laws_markOpS (by omega) (by omega)) rfl rfl (get_mid (off := (j * 5 + 1)) (j := 1) (mk_pre (sz := 5) (fun _ => rfl) (Nat.le_of_lt hj)) (by omega) rfl) rfl (aw_cons (ev_tmp rfl) (aw_one (awc_key rfl)) (aw_cons (ev_tmp rfl) (aw_one (awc_dv rfl)) aw_nil)) rfl rfl (set_mid (off := (j * 5 + 1)) (j := 1) (mk_pre (sz := 5) (fun _ => rfl) (Nat.le_of_lt hj)) (by omega) rfl (Nat.lt_of_lt_of_le (Nat.lt_succ_self _) (Nat.le_of_ble_eq_true rfl))) ?_
  simp only [killT, killB, SV.kill, CV.kill, kk, Nat.reduceBEq]
  iterate 6 refine z ?_
  refine yO rfl rfl (pu_indexK (i := j) hT rfl rfl rfl (ev_tmp rfl) rfl (ev_tmp rfl) rfl (by show _ < (x.length); omega)) rfl ?_
  refine z ?_
  refine o_storeE (js := []) (cs := mid ((mkL mkTx cTx (x.take j) k).flatMap eTx) [.int .i64 (k + (wSum cTx (x.take j) : Int)), opsD (mkL mkOp cOp ((x.getD (j : Int).toNat default).2.1) ((k + (wSum cTx (x.take j) : Int)) + (1))), .int .i64 (((k + (wSum cTx (x.take j) : Int)) + (1)) + (wSum cOp ((x.getD (j : Int).toNat default).2.1) : Int)), .int .i64 ((x.getD (j : Int).toNat default).2.2.2.1), storesD ((x.getD (j : Int).toNat default).2.2.2.2)] ((x.drop (j + 1)).flatMap eTx)) hT rfl rfl rfl rfl (ev_tmp rfl) (ev_tmp rfl) rfl rfl rfl rfl (ow_cons' (ow_dv rfl) ow_nil rfl) (by decide) (by decide) rfl (le_mid (off := (j * 5 + 2)) (n := 1) (j := 2) (mk_pre (sz := 5) (fun _ => rfl) (Nat.le_of_lt hj)) (by omega) (Nat.le_of_ble_eq_true rfl)) (setR_mid (off := (j * 5 + 2)) (j := 2) (mk_pre (sz := 5) (fun _ => rfl) (Nat.le_of_lt hj)) (by omega) rfl (Nat.le_of_ble_eq_true rfl)) ?_
  simp only [killT, killB, SV.kill, CV.kill, kk, Nat.reduceBEq]
  iterate 10 refine z ?_
  refine yO rfl rfl (pu_indexK (i := j) hT rfl rfl rfl (ev_tmp rfl) rfl (ev_tmp rfl) rfl (by show _ < (x.length); omega)) rfl ?_
  refine z ?_
  refine o_storeE (js := []) (cs := mid ((mkL mkTx cTx (x.take j) k).flatMap eTx) [.int .i64 (k + (wSum cTx (x.take j) : Int)), opsD (mkL mkOp cOp ((x.getD (j : Int).toNat default).2.1) ((k + (wSum cTx (x.take j) : Int)) + (1))), .int .i64 (((k + (wSum cTx (x.take j) : Int)) + (1)) + (wSum cOp ((x.getD (j : Int).toNat default).2.1) : Int)), .int .i64 ((((k + (wSum cTx (x.take j) : Int)) + (1)) + (wSum cOp ((x.getD (j : Int).toNat default).2.1) : Int)) + (1)), storesD ((x.getD (j : Int).toNat default).2.2.2.2)] ((x.drop (j + 1)).flatMap eTx)) hT rfl rfl rfl rfl (ev_tmp rfl) (ev_tmp rfl) rfl rfl rfl rfl (ow_cons' (ow_dv rfl) ow_nil rfl) (by decide) (by decide) rfl (le_mid (off := (j * 5 + 3)) (n := 1) (j := 3) (mk_pre (sz := 5) (fun _ => rfl) (Nat.le_of_lt hj)) (by omega) (Nat.le_of_ble_eq_true rfl)) (setR_mid (off := (j * 5 + 3)) (j := 3) (mk_pre (sz := 5) (fun _ => rfl) (Nat.le_of_lt hj)) (by omega) rfl (Nat.le_of_ble_eq_true rfl)) ?_
  simp only [killT, killB, SV.kill, CV.kill, kk, Nat.reduceBEq]
  iterate 6 refine z ?_
  refine ok_region ?_
  iterate 2 refine z ?_
  refine yO rfl rfl (pu_indexK (i := j) hT rfl rfl rfl (ev_tmp rfl) rfl (ev_tmp rfl) rfl (by show _ < (x.length); omega)) rfl ?_
  refine z ?_
  refine yO rfl rfl (pu_loadE1 hT rfl rfl (ev_tmp rfl) rfl (get_mid (off := (j * 5 + 4)) (j := 4) (mk_pre (sz := 5) (fun _ => rfl) (Nat.le_of_lt hj)) (by omega) rfl)) rfl ?_
  refine z ?_
  refine o_callN (t := 44) (ccs := mid ((mkL mkTx cTx (x.take j) k).flatMap eTx) [.int .i64 (k + (wSum cTx (x.take j) : Int)), opsD (mkL mkOp cOp ((x.getD (j : Int).toNat default).2.1) ((k + (wSum cTx (x.take j) : Int)) + (1))), .int .i64 (((k + (wSum cTx (x.take j) : Int)) + (1)) + (wSum cOp ((x.getD (j : Int).toNat default).2.1) : Int)), .int .i64 ((((k + (wSum cTx (x.take j) : Int)) + (1)) + (wSum cOp ((x.getD (j : Int).toNat default).2.1) : Int)) + (1)), storesD (mkL mkStore cStore ((x.getD (j : Int).toNat default).2.2.2.2) (((((k + (wSum cTx (x.take j) : Int)) + (1)) + (wSum cOp ((x.getD (j : Int).toNat default).2.1) : Int)) + (1)) + (1)))] ((x.drop (j + 1)).flatMap eTx)) 5046 rfl rfl rfl Tryz.call58 (ok_laws_markStoreS (by omega) (by omega)) rfl rfl (get_mid (off := (j * 5 + 4)) (j := 4) (mk_pre (sz := 5) (fun _ => rfl) (Nat.le_of_lt hj)) (by omega) rfl) rfl (aw_cons (ev_tmp rfl) (aw_one (awc_key rfl)) (aw_cons (ev_tmp rfl) (aw_one (awc_dv rfl)) aw_nil)) rfl rfl (set_mid (off := (j * 5 + 4)) (j := 4) (mk_pre (sz := 5) (fun _ => rfl) (Nat.le_of_lt hj)) (by omega) rfl (Nat.lt_of_lt_of_le (Nat.lt_succ_self _) (Nat.le_of_ble_eq_true rfl))) ?_
  simp only [killT, killB, SV.kill, CV.kill, kk, Nat.reduceBEq]
  refine z ?_
  refine ops_nil ?_
  iterate 2 refine z ?_
  refine ok_region ?_
  iterate 4 refine z ?_
  refine ⟨j + 1, ?_, ?_, weak_sub ⟨rfl, (eqSlotI (by omega)), rfl, rfl, trivial⟩ trivial ⟨(congrArg (fun cs => some (some (KC.mk true 109 5 x.length cs))) (mk_close (by omega) (by rfl))), trivial⟩ rfl⟩
  ·omega
  ·omega
 ·skip
  have d1 := of_decide_eq_false c1
  iterate 9 refine z ?_
  refine ok_weak (σ' := ⟨[(4, .one (.dv [] (.int .i64 (k + (wSum cTx (x.take j) : Int)))))], [], [(0, some (kcOf true (txsD (mkL mkTx cTx x k))))]⟩) (weak_sub ⟨rfl, trivial⟩ trivial ⟨(mk_fin (by omega)), trivial⟩ rfl) ?_
  refine z ?_
  refine fin1 (res_tmp rfl) ⟨eqI ?_, w1_ok rfl⟩
  have hq := wSum_all cTx x j (by omega); omega
theorem ok_laws_heldTxS {x y : List (TxT)} {k : Int} (hy : y = mkL mkTx cTx x k) (h0 : 0 ≤ k) (h1 : k + (wSum cTx x : Int) ≤ 4611686018427387904) : PFn Tryz.prog 75 [.one (.dv [] (txsD (y))), .one (.dv [] (.int .i64 (k)))] (.one (.dv [] (.int .i64 (k + (wSum cTx x : Int))))) := by
 refine ⟨fn_intro Tryz.func75 rfl Tryz.ntmps75 Tryz.results75 rfl (fun C => ?_)⟩
 refine ok_fact (x := .tmp 0) (ev_tmp rfl) fun f0 => ?_
 refine ok_fact (x := .tmp 1) (ev_tmp rfl) fun f1 => ?_
 iterate 8 refine z ?_
 refine ok_loop (ι := Nat) (fun zz => ⟨[(0, .one (.dv [] (txsD (y)))), (1, .one (.dv [] (.int .i64 (k + (wSum cTx (x.take zz) : Int))))), (5, .one (.dv [] (.int .i64 ((zz : Int)))))], [], []⟩) (fun zz => zz ≤ x.length) (fun zz => x.length - zz) (0) ?_ (weak_sub ⟨rfl, (eqSlotI (by simp [wSum])), rfl, trivial⟩ trivial trivial rfl) (fun zz hx => ?_)
 ·exact Nat.zero_le _
 obtain ⟨j, rfl⟩ : ∃ v, v = zz := ⟨_, rfl⟩
 replace hx : j ≤ x.length := hx
 have hw := fun h => wSum_succ cTx x j h
 have hyl : y.length = x.length := by rw [hy, mkL_len]
 show Ok _ _ _ _ _ (⟨[(0, .one (.dv [] (txsD (y)))), (1, .one (.dv [] (.int .i64 (k + (wSum cTx (x.take j) : Int))))), (5, .one (.dv [] (.int .i64 ((j : Int)))))], [], []⟩ : St)
 iterate 7 refine z ?_
 refine yQ rfl (fun c1 => ?_) fun c1 => ?_
 ·skip
  have d1 := of_decide_eq_true c1
  have hj : j < x.length := by omega
  obtain ⟨hw1, hw2⟩ := hw hj
  have hc : cTx (x.getD (j : Int).toNat default) = 3 + wSum cOp ((x.getD (j : Int).toNat default).2.1) + wSum cStore ((x.getD (j : Int).toNat default).2.2.2.2) := rfl
  have he : y.getD (j : Int).toNat default = mkTx (x.getD (j : Int).toNat default) (k + (wSum cTx (x.take j) : Int)) := by rw [hy]; exact mkL_getD hj
  iterate 14 refine z ?_
  refine yQ rfl (fun c2 => ?_) fun c2 => ?_
  ·skip
   have d2 := nd_t c2
   iterate 11 refine z ?_
   exfalso; rw [he] at c2; simp [mkTx, sEq] at c2
  ·skip
   have d2 := nd_f c2
   iterate 14 refine z ?_
   refine zC Tryz.call119 ?_ (hf := ok_laws_heldOpS (x := (x.getD (j : Int).toNat default).2.1) (by rw [he]; rfl) (by omega) (by omega))
   iterate 7 refine z ?_
   refine yQ rfl (fun c3 => ?_) fun c3 => ?_
   ·skip
    have d3 := of_decide_eq_true c3
    iterate 11 refine z ?_
    exfalso; omega
   ·skip
    have d3 := of_decide_eq_false c3
    iterate 12 refine z ?_
    refine yQ rfl (fun c4 => ?_) fun c4 => ?_
    ·skip
     have d4 := nd_t c4
     iterate 11 refine z ?_
     exfalso; rw [he] at c4; simp [mkTx, sEq] at c4
    ·skip
     have d4 := nd_f c4
     iterate 17 refine z ?_
     refine yQ rfl (fun c5 => ?_) fun c5 => ?_
     ·skip
      have d5 := nd_t c5
      iterate 11 refine z ?_
      exfalso; rw [he] at c5; simp [mkTx, sEq] at c5
     ·skip
      have d5 := nd_f c5
      iterate 14 refine z ?_
      refine zC Tryz.call61 ?_ (hf := ok_laws_heldStoreS (x := (x.getD (j : Int).toNat default).2.2.2.2) (by rw [he]; rfl) (by omega) (by omega))
      iterate 6 refine z ?_
      refine yQ rfl (fun c6 => ?_) fun c6 => ?_
      ·skip
       have d6 := of_decide_eq_true c6
       iterate 10 refine z ?_
       exfalso; omega
      ·skip
       have d6 := of_decide_eq_false c6
       iterate 3 refine z ?_
       refine ok_region ?_
       iterate 4 refine z ?_
       refine ⟨j + 1, ?_, ?_, weak_sub ⟨rfl, (eqSlotI (by omega)), rfl, trivial⟩ trivial trivial rfl⟩
       ·omega
       ·omega
 ·skip
  have d1 := of_decide_eq_false c1
  iterate 11 refine z ?_
  have hq := wSum_all cTx x j (by omega); omega
theorem ok_laws_markTxQueue {x : List TxT} {k : Int} (h0 : 0 ≤ k) (h1 : (k) + (wSum cTx (x) : Int) ≤ 4611686018427387904) : WFn Tryz.prog 32 [.agg [(.key 0)], .one (.dv [] (.int .i64 (k)))] (.one (.dv [] (.int .i64 ((k) + (wSum cTx (x) : Int))))) [(0, kcOf true (.sl 109 5 ((x).length) ((x).flatMap eTx)))] [(0, kcOf true (txsD (mkL mkTx cTx (x) (k))))] := by
 refine ⟨fn_intro Tryz.func32 rfl Tryz.ntmps32 Tryz.results32 rfl (fun C => ?_)⟩
 refine ok_fact (x := .tmp 1) (ev_tmp rfl) fun f1 => ?_
 iterate 8 refine z ?_
 refine o_callW [(0, 0, ⟨true, _, _, _, _⟩, ⟨true, _, _, _, _⟩)] rfl rfl rfl Tryz.call68 (ok_laws_markTxS (x := x) (by omega) (by omega)) ⟨rfl, trivial⟩ rfl (aw_cons (ev_tmp rfl) (aw_one (awc_key rfl)) (aw_cons (ev_tmp rfl) (aw_one (awc_dv rfl)) aw_nil)) rfl rfl ?_
 simp only [killT, killB, SV.kill, CV.kill, kk, Nat.reduceBEq]
 iterate 6 refine z ?_
 refine ok_weak (σ' := ⟨[(4, .one (.dv [] (.int .i64 ((k) + (wSum cTx (x) : Int)))))], [], [(0, some (kcOf true (txsD (mkL mkTx cTx (x) (k)))))]⟩) (weak_sub ⟨rfl, trivial⟩ trivial ⟨rfl, trivial⟩ rfl) ?_
 refine z ?_
 refine fin1 (res_tmp rfl) ⟨eqI ?_, w1_ok rfl⟩
 rfl
theorem ok_laws_heldTxQueue {x y : List TxT} {k : Int} (hy : y = mvTxQueue x k) (h0 : 0 ≤ k) (h1 : (k) + (wSum cTx (x) : Int) ≤ 4611686018427387904) : PFn Tryz.prog 35 [.agg [(.dv [] (txsD (y)))], .one (.dv [] (.int .i64 (k)))] (.one (.dv [] (.int .i64 ((k) + (wSum cTx (x) : Int))))) := by
 refine ⟨fn_intro Tryz.func35 rfl Tryz.ntmps35 Tryz.results35 rfl (fun C => ?_)⟩
 refine yF 0 0 rfl rfl fun f0_0 => ?_
 refine ok_fact (x := .tmp 1) (ev_tmp rfl) fun f1 => ?_
 iterate 8 refine z ?_
 refine zC Tryz.call75 ?_ (hf := ok_laws_heldTxS (x := x) (by rw [hy]; rfl) (by omega) (by omega))
 iterate 7 refine z ?_
 refine yQ rfl (fun c1 => ?_) fun c1 => ?_
 ·skip
  have d1 := of_decide_eq_true c1
  iterate 6 refine z ?_
  exfalso; omega
 ·skip
  have d1 := of_decide_eq_false c1
  iterate 8 refine z ?_
  rfl
theorem ok_laws_markDatabase {x : DbT} {k : Int} (h0 : 0 ≤ k) (h1 : ((k) + (wSum cStore (x.2.2.1) : Int)) + (wSum cIndexDef (x.2.2.2) : Int) ≤ 4611686018427387904) : WFn Tryz.prog 15 [.agg [(.dv [] (.str (x.1))), (.dv [] (.int .i64 (x.2.1))), (.key 0), (.key 1)], .one (.dv [] (.int .i64 (k)))] (.one (.dv [] (.int .i64 (((k) + (wSum cStore (x.2.2.1) : Int)) + (wSum cIndexDef (x.2.2.2) : Int))))) [(0, kcOf true (.sl 91 3 ((x.2.2.1).length) ((x.2.2.1).flatMap eStore))), (1, kcOf true (.sl 127 2 ((x.2.2.2).length) ((x.2.2.2).flatMap eDef)))] [(0, kcOf true (storesD (mkL mkStore cStore (x.2.2.1) (k)))), (1, kcOf true (defsD (mkL mkIndexDef cIndexDef (x.2.2.2) ((k) + (wSum cStore (x.2.2.1) : Int)))))] := by
 refine ⟨fn_intro Tryz.func15 rfl Tryz.ntmps15 Tryz.results15 rfl (fun C => ?_)⟩
 refine yF 0 0 rfl rfl fun f0_0 => ?_
 refine yF 0 1 rfl rfl fun f0_1 => ?_
 refine ok_fact (x := .tmp 1) (ev_tmp rfl) fun f1 => ?_
 iterate 8 refine z ?_
 refine o_callW [(0, 0, ⟨true, _, _, _, _⟩, ⟨true, _, _, _, _⟩)] rfl rfl rfl Tryz.call58 (ok_laws_markStoreS (x := x.2.2.1) (by omega) (by omega)) ⟨rfl, trivial⟩ rfl (aw_cons (ev_tmp rfl) (aw_one (awc_key rfl)) (aw_cons (ev_tmp rfl) (aw_one (awc_dv rfl)) aw_nil)) rfl rfl ?_
 simp only [killT, killB, SV.kill, CV.kill, kk, Nat.reduceBEq]
 iterate 6 refine z ?_
 refine o_callW [(0, 1, ⟨true, _, _, _, _⟩, ⟨true, _, _, _, _⟩)] rfl rfl rfl Tryz.call59 (ok_laws_markIndexDefS (x := x.2.2.2) (by omega) (by omega)) ⟨rfl, trivial⟩ rfl (aw_cons (ev_tmp rfl) (aw_one (awc_key rfl)) (aw_cons (ev_tmp rfl) (aw_one (awc_dv rfl)) aw_nil)) rfl rfl ?_
 simp only [killT, killB, SV.kill, CV.kill, kk, Nat.reduceBEq]
 iterate 6 refine z ?_
 refine ok_weak (σ' := ⟨[(4, .one (.dv [] (.int .i64 (((k) + (wSum cStore (x.2.2.1) : Int)) + (wSum cIndexDef (x.2.2.2) : Int)))))], [], [(0, some (kcOf true (storesD (mkL mkStore cStore (x.2.2.1) (k))))), (1, some (kcOf true (defsD (mkL mkIndexDef cIndexDef (x.2.2.2) ((k) + (wSum cStore (x.2.2.1) : Int))))))]⟩) (weak_sub ⟨rfl, trivial⟩ trivial ⟨rfl, rfl, trivial⟩ rfl) ?_
 refine z ?_
 refine fin1 (res_tmp rfl) ⟨eqI ?_, w2_ok rfl rfl⟩
 rfl
theorem ok_laws_heldDatabase {x y : DbT} {k : Int} (hy : y = mvDatabase x k) (h0 : 0 ≤ k) (h1 : ((k) + (wSum cStore (x.2.2.1) : Int)) + (wSum cIndexDef (x.2.2.2) : Int) ≤ 4611686018427387904) : PFn Tryz.prog 17 [.agg [(.dv [] (.str (y.1))), (.dv [] (.int .i64 (y.2.1))), (.dv [] (storesD (y.2.2.1))), (.dv [] (defsD (y.2.2.2)))], .one (.dv [] (.int .i64 (k)))] (.one (.dv [] (.int .i64 (((k) + (wSum cStore (x.2.2.1) : Int)) + (wSum cIndexDef (x.2.2.2) : Int))))) := by
 refine ⟨fn_intro Tryz.func17 rfl Tryz.ntmps17 Tryz.results17 rfl (fun C => ?_)⟩
 refine yF 0 0 rfl rfl fun f0_0 => ?_
 refine yF 0 1 rfl rfl fun f0_1 => ?_
 refine yF 0 2 rfl rfl fun f0_2 => ?_
 refine yF 0 3 rfl rfl fun f0_3 => ?_
 refine ok_fact (x := .tmp 1) (ev_tmp rfl) fun f1 => ?_
 iterate 8 refine z ?_
 refine zC Tryz.call61 ?_ (hf := ok_laws_heldStoreS (x := x.2.2.1) (by rw [hy]; rfl) (by omega) (by omega))
 iterate 7 refine z ?_
 refine yQ rfl (fun c1 => ?_) fun c1 => ?_
 ·skip
  have d1 := of_decide_eq_true c1
  iterate 6 refine z ?_
  exfalso; omega
 ·skip
  have d1 := of_decide_eq_false c1
  iterate 6 refine z ?_
  refine zC Tryz.call62 ?_ (hf := ok_laws_heldIndexDefS (x := x.2.2.2) (by rw [hy]; rfl) (by omega) (by omega))
  iterate 7 refine z ?_
  refine yQ rfl (fun c2 => ?_) fun c2 => ?_
  ·skip
   have d2 := of_decide_eq_true c2
   iterate 6 refine z ?_
   exfalso; omega
  ·skip
   have d2 := of_decide_eq_false c2
   iterate 8 refine z ?_
   rfl
end Go.Proofs.YtmgijbhikmjfjaaGreat

namespace Go.Proofs.YtmgijbhikmjfjaaGreat
open Go.RowKit
open Go.Proofs
set_option linter.unusedVariables false
set_option linter.unusedSimpArgs false

theorem sEq_comm (a b : Str) : sEq a b = sEq b a := by unfold sEq; rw [Bool.eq_iff_iff, beq_iff_eq, beq_iff_eq]; exact ⟨Eq.symm, Eq.symm⟩
theorem eqDef_comm (a b : DefT) : eqDefB a b = eqDefB b a := by unfold eqDefB; rw [sEq_comm a.1, sEq_comm a.2]
theorem findI_ge {α : Type} {p : α → Bool} : ∀ (xs : List α) (i : Int), 0 ≤ i → xs.any p = true → i ≤ findI p xs i
 | [], _, _, h => by simp at h
 | x :: xs, i, hi, h => by
  rw [findI]
  split
  ·omega
  ·rename_i hp
   rw [List.any_cons] at h
   have hp' : p x = false := by simpa using hp
   rw [hp', Bool.false_or] at h
   have := findI_ge xs (i + 1) (by omega) h
   omega
theorem findI_nil {α : Type} {p : α → Bool} : ∀ (xs : List α) (i : Int), xs.any p = false → findI p xs i = -1
 | [], _, _ => rfl
 | x :: xs, i, h => by
  simp only [List.any_cons, Bool.or_eq_false_iff] at h
  rw [findI, if_neg (by rw [h.1]; simp)]
  exact findI_nil xs (i + 1) h.2
theorem findI_any {α : Type} {p : α → Bool} (xs : List α) : decide (0 ≤ findI p xs 0) = xs.any p := by
 cases h : xs.any p with
 | true => exact decide_eq_true (findI_ge xs 0 (by omega) h)
 | false => rw [findI_nil xs 0 h]; rfl
def stBad (d : DbT) (k : Nat) : Bool := !isSto (d.2.2.1.getD (k : Int).toNat default) || (decide ((0 : Int) < (k : Int)) && (sLt (d.2.2.1.getD (k : Int).toNat default).1 (d.2.2.1.getD ((k : Int) - 1).toNat default).1 || sEq (d.2.2.1.getD (k : Int).toNat default).1 (d.2.2.1.getD ((k : Int) - 1).toNat default).1))
def stBadS (d : DbT) (k : Nat) : Bool := !isSto (d.2.2.1.getD (k : Int).toNat default) || (decide ((0 : Int) < (k : Int)) && !sLt (d.2.2.1.getD ((k : Int) - 1).toNat default).1 (d.2.2.1.getD (k : Int).toNat default).1)
theorem stBadS_eq (d : DbT) (k : Nat) : stBadS d k = stBad d k := by unfold stBadS stBad; rw [sLe_eq]
@[reducible] def fndS (d : DbT) (n : Str) : Int := findI (hasName n) d.2.2.1 0
def faultIn (d : DbT) (x : DefT) : Bool := (ufRes x.2 (idxN x.2 (d.2.2.1.getD (fndS d x.1).toNat default).2.1 (d.2.2.1.getD (fndS d x.1).toNat default).2.1.length)).2.2
def unBad (d : DbT) (k : Nat) : Bool := ((decide (fndS d (d.2.2.2.getD (k : Int).toNat default).1 < 0) || !isName (d.2.2.2.getD (k : Int).toNat default).2) || (d.2.2.2.take (k : Int).toNat).any (eqDefB (d.2.2.2.getD (k : Int).toNat default))) || faultIn d (d.2.2.2.getD (k : Int).toNat default)
def dbHead (d : DbT) : Bool := ((isName d.1 && (decide (0 ≤ d.2.1) && decide (d.2.1 ≤ 1000))) && decide ((d.2.2.1.length : Int) ≤ 4)) && decide ((d.2.2.2.length : Int) ≤ 4)
def dbSt (d : DbT) : Bool := (List.range d.2.2.1.length).all (fun i => !stBad d i)
def dbUn (d : DbT) : Bool := (List.range d.2.2.2.length).all (fun i => !unBad d i)
def isDb (d : DbT) : Bool := dbHead d && (dbSt d && dbUn d)
theorem sto_w {s : StoreT} (h : isSto s = true) : wStore s ≤ 1000 * 1000 := by
 have h0 := h
 simp only [isSto, Bool.and_eq_true, List.all_eq_true, decide_eq_true_eq] at h
 obtain ⟨h1, ⟨h2, h3⟩, h4⟩ := h
 have h5 := name_size h2
 have h6 : ∀ x ∈ s.2.1, wItem x ≤ 70 := fun x hx => by
  obtain ⟨i, hi, rfl⟩ := List.mem_iff_getElem.1 hx
  have h7 := h1 i (List.mem_range.2 hi)
  unfold stoBad at h7
  rw [getD_at hi] at h7
  simp only [Bool.not_or, Bool.not_not, Bool.and_eq_true] at h7
  have h8 := (key_rng h7.1.1).2.2
  have h9 := h7.1.2
  have h10 := rec_len h9
  have h11 : wSum wField s.2.1[i].2 ≤ 8 * s.2.1[i].2.length := by
   have key : ∀ r : RecT, (∀ f ∈ r, f.1.size ≤ 8) → wSum wField r ≤ 8 * r.length := by
    intro r
    induction r with
    | nil => intro _; simp [wSum]
    | cons f r ih =>
     intro hf
     have k1 := ih (fun g hg => hf g (by simp [hg]))
     have k2 := hf f (by simp)
     have k3 : wField f = f.1.size := rfl
     simp only [wSum, List.map_cons, List.sum_cons, List.length_cons] at *
     omega
   refine key _ (fun f hf => ?_)
   obtain ⟨j, hj, rfl⟩ := List.mem_iff_getElem.1 hf
   have := (name_size (rec_fld h9 hj).1).2
   rwa [getD_at hj] at this
  have h12 : wItem s.2.1[i] = s.2.1[i].1.2.2.size + wRecord s.2.1[i].2 := rfl
  have h13 : wRecord s.2.1[i].2 = s.2.1[i].2.length + wSum wField s.2.1[i].2 := rfl
  omega
 have h7 : wSum wItem s.2.1 ≤ 70 * s.2.1.length := by
  have key : ∀ l : List ItemT, (∀ x ∈ l, wItem x ≤ 70) → wSum wItem l ≤ 70 * l.length := by
   intro l
   induction l with
   | nil => intro _; simp [wSum]
   | cons x l ih =>
    intro hx
    have k1 := ih (fun g hg => hx g (by simp [hg]))
    have k2 := hx x (by simp)
    simp only [wSum, List.map_cons, List.sum_cons, List.length_cons] at *
    omega
  exact key _ h6
 have h8 : wStore s = s.1.size + (s.2.1.length + wSum wItem s.2.1) := rfl
 omega
theorem db_sto {d : DbT} {i : Int} (h : dbSt d = true) (h0 : 0 ≤ i) (h1 : i < d.2.2.1.length) : isSto (d.2.2.1.getD i.toNat default) = true := by
 simp only [dbSt, List.all_eq_true] at h
 have h2 := h i.toNat (List.mem_range.2 (by omega))
 unfold stBad at h2
 rw [Int.toNat_natCast] at h2
 simp only [Bool.not_or, Bool.not_not, Bool.and_eq_true] at h2
 exact h2.1
theorem fndS_lt (d : DbT) (n : Str) : fndS d n < d.2.2.1.length := by
 rcases findI_lt (p := hasName n) d.2.2.1 0 (by omega) with h1 | h1
 ·unfold fndS; omega
 ·unfold fndS; omega
theorem isDb_head {d : DbT} (h : dbHead d = false) : isDb d = false := by rw [isDb, h]; rfl
theorem isDb_st {d : DbT} {k : Nat} (hk : k < d.2.2.1.length) (h : stBad d k = true) : isDb d = false := by
 have : dbSt d = false := rall_no hk (by rw [h]; rfl)
 rw [isDb, this]; simp
theorem isDb_un {d : DbT} {k : Nat} (hk : k < d.2.2.2.length) (h : unBad d k = true) : isDb d = false := by
 have : dbUn d = false := rall_no hk (by rw [h]; rfl)
 rw [isDb, this]; simp
theorem un_go {d : DbT} {k j : Nat} (hj : j = k) (h1 : (decide (findI (hasName (d.2.2.2.getD (k : Int).toNat default).1) d.2.2.1 0 < 0) || !isName (d.2.2.2.getD (k : Int).toNat default).2) = false)
  (h3 : (d.2.2.2.take j).any (eqDefB (d.2.2.2.getD (k : Int).toNat default)) = false) (h2 : faultIn d (d.2.2.2.getD (k : Int).toNat default) = false) : (!unBad d k) = true := by
 subst hj
 have h4 : (d.2.2.2.take ((j : Nat) : Int).toNat).any (eqDefB (d.2.2.2.getD (j : Int).toNat default)) = false := h3
 rw [unBad, h1, h4, h2]; rfl
theorem un_dup {d : DbT} {k j : Nat} (hj : j < k) (hk : k < d.2.2.2.length) (h : eqDefB (d.2.2.2.getD (j : Int).toNat default) (d.2.2.2.getD (k : Int).toNat default) = true) : unBad d k = true := by
 have h4 : (d.2.2.2.take ((k : Nat) : Int).toNat).any (eqDefB (d.2.2.2.getD (k : Int).toNat default)) = true := by
  refine any_yes (k := j) (d := default) (by rw [List.length_take, Int.toNat_natCast]; omega) ?_
  rw [take_getD (by omega), eqDef_comm]; exact h
 rw [unBad, h4]; simp
theorem isDb_yes {d : DbT} (h1 : dbSt d = true) (h2 : dbUn d = true) : isDb d = dbHead d := by rw [isDb, h1, h2]; simp

theorem ok_slices_Index_IndexDef {l : List DefT} {v : DefT}  : PFn Tryz.prog 134 [.one (.dv [] (defsD (l))), .agg [(.dv [] (.str (v.1))), (.dv [] (.str (v.2)))]] (.one (.dv [] (.int .i64 (findI (eqDefB v) l 0)))) := by
 refine ⟨fn_intro Tryz.func134 rfl Tryz.ntmps134 Tryz.results134 rfl (fun C => ?_)⟩
 refine ok_fact (x := .tmp 0) (ev_tmp rfl) fun f0 => ?_
 refine yF 1 0 rfl rfl fun f1_0 => ?_
 refine yF 1 1 rfl rfl fun f1_1 => ?_
 iterate 11 refine z ?_
 refine ok_loop (ι := Nat) (fun zz => ⟨[(0, .one (.dv [] (defsD (l)))), (3, .box 3 0), (7, .one (.dv [] (.int .i64 ((((l)).length : Int))))), (8, .one (.dv [] (.int .i64 ((zz : Int)))))], [(3, 127, [(.dv [] (.str (v.1))), (.dv [] (.str (v.2)))])], []⟩) (fun zz => zz ≤ l.length ∧ (l.take zz).any (eqDefB v) = false) (fun zz => l.length - zz) (0) ?_ (weak_sub ⟨rfl, rfl, rfl, rfl, trivial⟩ ⟨rfl, trivial⟩ trivial rfl) (fun zz hx => ?_)
 ·exact ⟨Nat.zero_le _, rfl⟩
 obtain ⟨k, rfl⟩ : ∃ v, v = zz := ⟨_, rfl⟩
 replace hx : k ≤ l.length ∧ (l.take k).any (eqDefB v) = false := hx
 obtain ⟨hk, hall⟩ := hx
 show Ok _ _ _ _ _ (⟨[(0, .one (.dv [] (defsD (l)))), (3, .box 3 0), (7, .one (.dv [] (.int .i64 ((((l)).length : Int))))), (8, .one (.dv [] (.int .i64 ((k : Int)))))], [(3, 127, [(.dv [] (.str (v.1))), (.dv [] (.str (v.2)))])], []⟩ : St)
 iterate 3 refine z ?_
 refine ok_seq ?_
 refine yQ rfl (fun c1 => ?_) fun c1 => ?_
 ·skip
  have d1 := of_decide_eq_true c1
  iterate 8 refine z ?_
  refine ok_seq ?_
  refine ok_regionD (oB := [3]) (oK := []) (by kernel_rfl) rfl rfl ?_
  refine zD 0 ?_
  refine zD 1 ?_
  refine zD 2 ?_
  refine zD 3 ?_
  refine zD 4 ?_
  refine d_take 5 rfl (by kernel_rfl) rfl rfl (pu_cmpA rfl (ev_tmp rfl) (ev_tmp rfl) rfl rfl Tryz.eqGuardType127 (eql_Def _ _ _ _)) rfl rfl rfl rfl ?_
  refine d_done (by kernel_rfl) ?_
  refine z ?_
  refine yQ rfl (fun c2 => ?_) fun c2 => ?_
  ·skip
   iterate 11 refine z ?_
   exact (findI_at (p := eqDefB v) (d := default) hall (by omega) c2).symm
  ·skip
   iterate 3 refine z ?_
   refine ok_region ?_
   iterate 3 refine z ?_
   refine ⟨k + 1, ?_, ?_, weak_sub ⟨rfl, rfl, rfl, rfl, trivial⟩ ⟨rfl, trivial⟩ trivial rfl⟩
   ·exact ⟨by omega, any_stepI (d := default) hall (by omega) c2⟩
   ·omega
 ·skip
  have d1 := of_decide_eq_false c1
  iterate 10 refine z ?_
  exact (findI_none (p := eqDefB v) hall (by omega)).symm
theorem ok_slices_Contains_IndexDef {l : List DefT} {v : DefT}  : PFn Tryz.prog 97 [.one (.dv [] (defsD (l))), .agg [(.dv [] (.str (v.1))), (.dv [] (.str (v.2)))]] (.one (.dv [] (.bool (l.any (eqDefB v))))) := by
 refine ⟨fn_intro Tryz.func97 rfl Tryz.ntmps97 Tryz.results97 rfl (fun C => ?_)⟩
 refine ok_fact (x := .tmp 0) (ev_tmp rfl) fun f0 => ?_
 refine yF 1 0 rfl rfl fun f1_0 => ?_
 refine yF 1 1 rfl rfl fun f1_1 => ?_
 iterate 7 refine z ?_
 refine zC Tryz.call134 ?_ (hf := ok_slices_Index_IndexDef (l := l) (v := v) )
 iterate 5 refine z ?_
 exact findI_any l
theorem ok_impl_IsDatabase {x : DbT}  : PFn Tryz.prog 51 [.agg [(.dv [] (.str (x.1))), (.dv [] (.int .i64 (x.2.1))), (.dv [] (storesD (x.2.2.1))), (.dv [] (defsD (x.2.2.2)))]] (.one (.dv [] (.bool (isDb x)))) := by
 refine ⟨fn_intro Tryz.func51 rfl Tryz.ntmps51 Tryz.results51 rfl (fun C => ?_)⟩
 refine yF 0 0 rfl rfl fun f0_0 => ?_
 refine yF 0 1 rfl rfl fun f0_1 => ?_
 refine yF 0 2 rfl rfl fun f0_2 => ?_
 refine yF 0 3 rfl rfl fun f0_3 => ?_
 iterate 8 refine z ?_
 refine zC Tryz.call95 ?_ (hf := ok_impl_IsName (s := x.1) )
 iterate 4 refine z ?_
 refine o_callG (gd_bool rfl rfl rfl rfl rfl) rfl rfl Tryz.call73 (ok_impl_InRange (n := x.2.1) (lo := 0) (hi := 1000) ) (fun hg => (as_cons (ev_opt rfl hg) (ag_one ac_dv) (as_cons (ev_int (inR_lit rfl)) (ag_one ac_dv) (as_cons (ev_int (inR_lit rfl)) (ag_one ac_dv) as_nil)))) rfl rfl ?_
 iterate 15 refine z ?_
 refine yQ rfl (fun c1 => ?_) fun c1 => ?_
 ·skip
  iterate 6 refine z ?_
  exact (isDb_head (by have h := c1; unfold dbHead; grind)).symm
 ·skip
  iterate 10 refine z ?_
  refine ok_loop (ι := Nat) (fun zz => ⟨[(1, .box 1 0), (34, .one (.dv [] (storesD (x.2.2.1)))), (35, .one (.dv [] (.int .i64 ((((x.2.2.1)).length : Int))))), (36, .one (.dv [] (.int .i64 ((zz : Int)))))], [(1, 38, [(.dv [] (.str (x.1))), (.dv [] (.int .i64 (x.2.1))), (.dv [] (storesD (x.2.2.1))), (.dv [] (defsD (x.2.2.2)))])], []⟩) (fun zz => zz ≤ x.2.2.1.length ∧ (List.range zz).all (fun i => !stBad x i) = true) (fun zz => x.2.2.1.length - zz) (0) ?_ (weak_sub ⟨rfl, rfl, rfl, rfl, trivial⟩ ⟨rfl, trivial⟩ trivial rfl) (fun zz hx => ?_)
  ·exact ⟨Nat.zero_le _, rfl⟩
  obtain ⟨k, rfl⟩ : ∃ v, v = zz := ⟨_, rfl⟩
  replace hx : k ≤ x.2.2.1.length ∧ (List.range k).all (fun i => !stBad x i) = true := hx
  obtain ⟨hk, hall⟩ := hx
  show Ok _ _ _ _ _ (⟨[(1, .box 1 0), (34, .one (.dv [] (storesD (x.2.2.1)))), (35, .one (.dv [] (.int .i64 ((((x.2.2.1)).length : Int))))), (36, .one (.dv [] (.int .i64 ((k : Int)))))], [(1, 38, [(.dv [] (.str (x.1))), (.dv [] (.int .i64 (x.2.1))), (.dv [] (storesD (x.2.2.1))), (.dv [] (defsD (x.2.2.2)))])], []⟩ : St)
  iterate 3 refine z ?_
  refine ok_seq ?_
  refine yQ rfl (fun c2 => ?_) fun c2 => ?_
  ·skip
   have d2 := of_decide_eq_true c2
   iterate 12 refine z ?_
   refine ok_seq ?_
   refine ok_regionD (oB := [1, 4]) (oK := []) (by kernel_rfl) rfl rfl ?_
   refine zD 0 ?_
   refine d_call 1 rfl (by kernel_rfl) rfl rfl rfl Tryz.call96 (ok_impl_IsStore (s := (((x.2.2.1)).getD ((k : Int)).toNat default)) ) (as_cons (ev_tmp rfl) (ag_agg (ag_cons ac_dv (ag_cons ac_dv (ag_cons ac_dv ag_nil)))) as_nil) rfl rfl rfl rfl ?_
   refine zD 2 ?_
   refine zD 3 ?_
   refine zDG 4 ?_
   refine zDG 5 ?_
   refine zDG 6 ?_
   refine zDG 7 ?_
   refine zDG 8 ?_
   refine zDG 9 ?_
   refine zDG 10 ?_
   refine zDG 11 ?_
   refine zDG 12 ?_
   refine zDG 13 ?_
   refine zDG 14 ?_
   refine zDG 15 ?_
   refine zDG 16 ?_
   refine zDG 17 ?_
   refine zD 18 ?_
   refine d_done (by kernel_rfl) ?_
   refine z ?_
   refine yQ rfl (fun c3 => ?_) fun c3 => ?_
   ·skip
    iterate 10 refine z ?_
    exact (isDb_st (k := k) (by omega) c3).symm
   ·skip
    iterate 3 refine z ?_
    refine ok_region ?_
    iterate 3 refine z ?_
    refine ⟨k + 1, ?_, ?_, weak_sub ⟨rfl, rfl, rfl, rfl, trivial⟩ ⟨rfl, trivial⟩ trivial rfl⟩
    ·exact ⟨by omega, rall_succ hall (by have h : stBad x k = false := c3; simpa using h)⟩
    ·omega
  ·skip
   have d2 := of_decide_eq_false c2
   obtain rfl : k = x.2.2.1.length := by omega
   have hst : dbSt x = true := hall
   clear hall hk
   iterate 13 refine z ?_
   refine ok_loop (ι := Nat) (fun zz => ⟨[(1, .box 1 0), (62, .one (.dv [] (defsD (x.2.2.2)))), (63, .one (.dv [] (.int .i64 ((((x.2.2.2)).length : Int))))), (64, .one (.dv [] (.int .i64 ((zz : Int)))))], [(1, 38, [(.dv [] (.str (x.1))), (.dv [] (.int .i64 (x.2.1))), (.dv [] (storesD (x.2.2.1))), (.dv [] (defsD (x.2.2.2)))])], []⟩) (fun zz => zz ≤ x.2.2.2.length ∧ (List.range zz).all (fun i => !unBad x i) = true) (fun zz => x.2.2.2.length - zz) (0) ?_ (weak_sub ⟨rfl, rfl, rfl, rfl, trivial⟩ ⟨rfl, trivial⟩ trivial rfl) (fun zz hx => ?_)
   ·exact ⟨Nat.zero_le _, rfl⟩
   obtain ⟨k, rfl⟩ : ∃ v, v = zz := ⟨_, rfl⟩
   replace hx : k ≤ x.2.2.2.length ∧ (List.range k).all (fun i => !unBad x i) = true := hx
   obtain ⟨hk2, hall2⟩ := hx
   show Ok _ _ _ _ _ (⟨[(1, .box 1 0), (62, .one (.dv [] (defsD (x.2.2.2)))), (63, .one (.dv [] (.int .i64 ((((x.2.2.2)).length : Int))))), (64, .one (.dv [] (.int .i64 ((k : Int)))))], [(1, 38, [(.dv [] (.str (x.1))), (.dv [] (.int .i64 (x.2.1))), (.dv [] (storesD (x.2.2.1))), (.dv [] (defsD (x.2.2.2)))])], []⟩ : St)
   iterate 3 refine z ?_
   refine ok_seq ?_
   refine yQ rfl (fun c4 => ?_) fun c4 => ?_
   ·skip
    have d4 := of_decide_eq_true c4
    iterate 16 refine z ?_
    refine zC Tryz.call50 ?_ (hf := ok_impl_FindStore (x := x) (n := (x.2.2.2.getD (k : Int).toNat default).1))
    iterate 2 refine z ?_
    refine ok_seq ?_
    refine ok_seq ?_
    refine ok_regionD (oB := [1, 6]) (oK := []) (by kernel_rfl) rfl rfl ?_
    refine zD 0 ?_
    refine zD 1 ?_
    refine zD 2 ?_
    refine zDG 3 ?_
    refine zDG 4 ?_
    refine d_callG 5 rfl (by kernel_rfl) (gd_bool rfl rfl rfl rfl rfl) rfl rfl Tryz.call95 (ok_impl_IsName (s := (((x.2.2.2)).getD ((k : Int)).toNat default).2) ) (fun hg => (as_cons (ev_opt rfl hg) (ag_one ac_dv) as_nil)) rfl rfl ?_
    refine zDG 6 ?_
    refine zD 7 ?_
    refine zD 8 ?_
    refine zDG 9 ?_
    refine zDG 10 ?_
    refine zDG 11 ?_
    refine d_takeG 12 rfl (by kernel_rfl) (gd_bool rfl rfl rfl rfl rfl) rfl (fun hg => pu_sliceH hT rfl rfl rfl (ev_opt rfl hg) (ev_opt rfl hg) (fun _ => rfl) (by first | omega | (simp only [Bool.and_eq_true, Bool.or_eq_true, Bool.or_eq_false_iff, Bool.and_eq_false_iff, Bool.not_eq_true', Bool.not_eq_false', beq_iff_eq, decide_eq_true_eq, decide_eq_false_iff_not] at hg; omega) | (have hh := of_decide_eq_true (beq_tt hg); omega) | (have hh := of_decide_eq_true (beq_tt (and_r hg)); omega)) (by first | omega | (simp only [Bool.and_eq_true, Bool.or_eq_true, Bool.or_eq_false_iff, Bool.and_eq_false_iff, Bool.not_eq_true', Bool.not_eq_false', beq_iff_eq, decide_eq_true_eq, decide_eq_false_iff_not] at hg; omega) | (have hh := of_decide_eq_true (beq_tt hg); omega) | (have hh := of_decide_eq_true (beq_tt (and_r hg)); omega))) rfl rfl rfl rfl ?_
    refine zDG 13 ?_
    refine d_callG 14 rfl (by kernel_rfl) (gd_bool rfl rfl rfl rfl rfl) rfl rfl Tryz.call97 (ok_slices_Contains_IndexDef (l := ((x.2.2.2)).take ((k : Int)).toNat) (v := (((x.2.2.2)).getD ((k : Int)).toNat default)) ) (fun hg => (as_cons (ev_opt rfl hg) (ag_one ac_dv) (as_cons (ev_opt rfl hg) (ag_agg (ag_cons ac_dv (ag_cons ac_dv ag_nil))) as_nil))) rfl rfl ?_
    refine zD 15 ?_
    refine d_done (by kernel_rfl) ?_
    refine z ?_
    refine yQ rfl (fun c5 => ?_) fun c5 => ?_
    ·skip
     iterate 11 refine z ?_
     exact (isDb_un (k := k) (by omega) (by have h3 : ((decide (findI (hasName (x.2.2.2.getD (k : Int).toNat default).1) x.2.2.1 0 < 0) || !isName (x.2.2.2.getD (k : Int).toNat default).2) || (x.2.2.2.take (k : Int).toNat).any (eqDefB (x.2.2.2.getD (k : Int).toNat default))) = true := c5; rw [unBad, h3]; rfl)).symm
    ·skip
     have hfl : findI (hasName (x.2.2.2.getD (k : Int).toNat default).1) x.2.2.1 0 < x.2.2.1.length := fndS_lt x (x.2.2.2.getD (k : Int).toNat default).1
     have hf0 : 0 ≤ findI (hasName (x.2.2.2.getD (k : Int).toNat default).1) x.2.2.1 0 := by have h := c5; simp only [Bool.or_eq_false_iff, decide_eq_false_iff_not] at h; omega
     have hsw := sto_w (db_sto hst hf0 hfl)
     iterate 2 refine z ?_
     refine ok_seq ?_
     refine ok_regionD (oB := [1, 6]) (oK := []) (by kernel_rfl) rfl rfl ?_
     refine zD 0 ?_
     refine zD 1 ?_
     refine zD 2 ?_
     refine zD 3 ?_
     refine zD 4 ?_
     refine zD 5 ?_
     refine zD 6 ?_
     refine d_vars (A := [(12, 8, 42, _), (13, 9, 42, _)]) hT ⟨⟨_, _, rfl⟩, rfl, ⟨⟨_, _, rfl⟩, rfl, trivial⟩⟩ ?_
     refine a_call 7 rfl (by kernel_rfl) rfl rfl rfl (vok hT ⟨⟨_, _, rfl⟩, rfl, ⟨⟨_, _, rfl⟩, rfl, trivial⟩⟩ (by kernel_rfl) (by kernel_rfl)) (vok hT ⟨⟨_, _, rfl⟩, rfl, ⟨⟨_, _, rfl⟩, rfl, trivial⟩⟩ (by kernel_rfl) (by kernel_rfl)) rfl Tryz.call98 (ok_impl_UniqueFault (x := (x.2.2.1.getD (findI (hasName (x.2.2.2.getD (k : Int).toNat default).1) x.2.2.1 0).toNat default)) (f := (x.2.2.2.getD (k : Int).toNat default).2) (by omega)) (as_cons (ev_tmp rfl) (ag_agg (ag_cons ac_dv (ag_cons ac_dv (ag_cons ac_dv ag_nil)))) (as_cons (ev_tmp rfl) (ag_one ac_dv) as_nil)) rfl rfl rfl rfl ?_
     refine a_take 8 rfl (by kernel_rfl) rfl rfl rfl (vok hT ⟨⟨_, _, rfl⟩, rfl, ⟨⟨_, _, rfl⟩, rfl, trivial⟩⟩ (by kernel_rfl) (by kernel_rfl)) (vok hT ⟨⟨_, _, rfl⟩, rfl, ⟨⟨_, _, rfl⟩, rfl, trivial⟩⟩ (by kernel_rfl) (by kernel_rfl)) (pu_move (.inl rfl) (ev_tmp rfl)) rfl rfl rfl rfl ?_
     refine a_takeX 9 rfl (by kernel_rfl) rfl rfl rfl rfl (vok hT ⟨⟨_, _, rfl⟩, rfl, ⟨⟨_, _, rfl⟩, rfl, trivial⟩⟩ (by kernel_rfl) (by kernel_rfl)) (vok hT ⟨⟨_, _, rfl⟩, rfl, ⟨⟨_, _, rfl⟩, rfl, trivial⟩⟩ (by kernel_rfl) (by kernel_rfl)) (pu_extractA rfl (ev_tmp rfl) rfl) rfl rfl ?_
     refine a_takeX 10 rfl (by kernel_rfl) rfl rfl rfl rfl (vok hT ⟨⟨_, _, rfl⟩, rfl, ⟨⟨_, _, rfl⟩, rfl, trivial⟩⟩ (by kernel_rfl) (by kernel_rfl)) (vok hT ⟨⟨_, _, rfl⟩, rfl, ⟨⟨_, _, rfl⟩, rfl, trivial⟩⟩ (by kernel_rfl) (by kernel_rfl)) (pu_extractA rfl (ev_tmp rfl) rfl) rfl rfl ?_
     refine a_takeX 11 rfl (by kernel_rfl) rfl rfl rfl rfl (vok hT ⟨⟨_, _, rfl⟩, rfl, ⟨⟨_, _, rfl⟩, rfl, trivial⟩⟩ (by kernel_rfl) (by kernel_rfl)) (vok hT ⟨⟨_, _, rfl⟩, rfl, ⟨⟨_, _, rfl⟩, rfl, trivial⟩⟩ (by kernel_rfl) (by kernel_rfl)) (pu_extract1 rfl (ev_tmp rfl) rfl) rfl rfl ?_
     refine a_exit1 (vok hT ⟨⟨_, _, rfl⟩, rfl, ⟨⟨_, _, rfl⟩, rfl, trivial⟩⟩ (by kernel_rfl) (by kernel_rfl)) rfl rfl (by kernel_rfl) ?_
     dsimp only [addT, addB]
     refine d_chain [14, 15, 16] rfl rfl (by kernel_rfl) ?_
     iterate 7 refine z ?_
     refine yQ rfl (fun c6 => ?_) fun c6 => ?_
     ·skip
      iterate 10 refine z ?_
      exact (isDb_un (k := k) (by omega) (by have h2 : faultIn x (x.2.2.2.getD (k : Int).toNat default) = true := c6; rw [unBad, h2]; simp)).symm
     ·skip
      iterate 3 refine z ?_
      refine ok_region ?_
      iterate 3 refine z ?_
      refine ⟨k + 1, ?_, ?_, weak_sub ⟨rfl, rfl, rfl, rfl, trivial⟩ ⟨rfl, trivial⟩ trivial rfl⟩
      ·exact ⟨by omega, rall_succ hall2 (by have h1 := c5; have h2 : faultIn x (x.2.2.2.getD (k : Int).toNat default) = false := c6; show (!unBad x k) = true; rw [unBad, h2]; have h3 : ((decide (findI (hasName (x.2.2.2.getD (k : Int).toNat default).1) x.2.2.1 0 < 0) || !isName (x.2.2.2.getD (k : Int).toNat default).2) || (x.2.2.2.take (k : Int).toNat).any (eqDefB (x.2.2.2.getD (k : Int).toNat default))) = false := h1; rw [h3]; rfl)⟩
      ·omega
   ·skip
    have d4 := of_decide_eq_false c4
    iterate 10 refine z ?_
    obtain rfl : k = x.2.2.2.length := by omega
    rw [isDb_yes hst hall2]; have h := c1; unfold dbHead; grind
theorem ok_spec_IsDatabase {x : DbT}  : PFn Tryz.prog 42 [.agg [(.dv [] (.str (x.1))), (.dv [] (.int .i64 (x.2.1))), (.dv [] (storesD (x.2.2.1))), (.dv [] (defsD (x.2.2.2)))]] (.one (.dv [] (.bool (isDb x)))) := by
 refine ⟨fn_intro Tryz.func42 rfl Tryz.ntmps42 Tryz.results42 rfl (fun C => ?_)⟩
 refine yF 0 0 rfl rfl fun f0_0 => ?_
 refine yF 0 1 rfl rfl fun f0_1 => ?_
 refine yF 0 2 rfl rfl fun f0_2 => ?_
 refine yF 0 3 rfl rfl fun f0_3 => ?_
 iterate 9 refine z ?_
 refine ok_loop (ι := Nat) (fun zz => ⟨[(1, .box 1 0), (3, .one (.dv [] (.int .i64 ((zz : Int)))))], [(1, 38, [(.dv [] (.str (x.1))), (.dv [] (.int .i64 (x.2.1))), (.dv [] (storesD (x.2.2.1))), (.dv [] (defsD (x.2.2.2)))])], []⟩) (fun zz => zz ≤ x.2.2.1.length ∧ (List.range zz).all (fun i => !stBad x i) = true) (fun zz => x.2.2.1.length - zz) (0) ?_ (weak_sub ⟨rfl, rfl, trivial⟩ ⟨rfl, trivial⟩ trivial rfl) (fun zz hx => ?_)
 ·exact ⟨Nat.zero_le _, rfl⟩
 obtain ⟨k, rfl⟩ : ∃ v, v = zz := ⟨_, rfl⟩
 replace hx : k ≤ x.2.2.1.length ∧ (List.range k).all (fun i => !stBad x i) = true := hx
 obtain ⟨hk, hall⟩ := hx
 show Ok _ _ _ _ _ (⟨[(1, .box 1 0), (3, .one (.dv [] (.int .i64 ((k : Int)))))], [(1, 38, [(.dv [] (.str (x.1))), (.dv [] (.int .i64 (x.2.1))), (.dv [] (storesD (x.2.2.1))), (.dv [] (defsD (x.2.2.2)))])], []⟩ : St)
 iterate 8 refine z ?_
 refine yQ rfl (fun c1 => ?_) fun c1 => ?_
 ·skip
  have d1 := of_decide_eq_true c1
  iterate 4 refine z ?_
  refine ok_seq ?_
  refine ok_regionD (oB := [1]) (oK := []) (by kernel_rfl) rfl rfl ?_
  refine zD 0 ?_
  refine zD 1 ?_
  refine zD 2 ?_
  refine zD 3 ?_
  refine zD 4 ?_
  refine d_call 5 rfl (by kernel_rfl) rfl rfl rfl Tryz.call80 (ok_spec_IsStore (s := (((x.2.2.1)).getD ((k : Int)).toNat default)) ) (as_cons (ev_tmp rfl) (ag_agg (ag_cons ac_dv (ag_cons ac_dv (ag_cons ac_dv ag_nil)))) as_nil) rfl rfl rfl rfl ?_
  refine zD 6 ?_
  refine zD 7 ?_
  refine zDG 8 ?_
  refine zDG 9 ?_
  refine zDG 10 ?_
  refine zDG 11 ?_
  refine zDG 12 ?_
  refine zDG 13 ?_
  refine zDG 14 ?_
  refine zDG 15 ?_
  refine zDG 16 ?_
  refine zDG 17 ?_
  refine zDG 18 ?_
  refine zDG 19 ?_
  refine zDG 20 ?_
  refine zDG 21 ?_
  refine zDG 22 ?_
  refine zDG 23 ?_
  refine zDG 24 ?_
  refine zDG 25 ?_
  refine zD 26 ?_
  refine d_done (by kernel_rfl) ?_
  refine z ?_
  refine yQ rfl (fun c2 => ?_) fun c2 => ?_
  ·skip
   iterate 10 refine z ?_
   exact (isDb_st (k := k) (by omega) (by rw [← stBadS_eq]; exact c2)).symm
  ·skip
   iterate 3 refine z ?_
   refine ok_region ?_
   iterate 4 refine z ?_
   refine ⟨k + 1, ?_, ?_, weak_sub ⟨rfl, rfl, trivial⟩ ⟨rfl, trivial⟩ trivial rfl⟩
   ·exact ⟨by omega, rall_succ hall (by have h : stBadS x k = false := c2; rw [stBadS_eq] at h; simpa using h)⟩
   ·omega
 ·skip
  have d1 := of_decide_eq_false c1
  obtain rfl : k = x.2.2.1.length := by omega
  have hst : dbSt x = true := hall
  clear hall hk
  iterate 10 refine z ?_
  refine ok_loop (ι := Nat) (fun zz => ⟨[(1, .box 1 0), (4, .one (.dv [] (.int .i64 ((zz : Int)))))], [(1, 38, [(.dv [] (.str (x.1))), (.dv [] (.int .i64 (x.2.1))), (.dv [] (storesD (x.2.2.1))), (.dv [] (defsD (x.2.2.2)))])], []⟩) (fun zz => zz ≤ x.2.2.2.length ∧ (List.range zz).all (fun i => !unBad x i) = true) (fun zz => x.2.2.2.length - zz) (0) ?_ (weak_sub ⟨rfl, rfl, trivial⟩ ⟨rfl, trivial⟩ trivial rfl) (fun zz hx => ?_)
  ·exact ⟨Nat.zero_le _, rfl⟩
  obtain ⟨k, rfl⟩ : ∃ v, v = zz := ⟨_, rfl⟩
  replace hx : k ≤ x.2.2.2.length ∧ (List.range k).all (fun i => !unBad x i) = true := hx
  obtain ⟨hk2, hall2⟩ := hx
  show Ok _ _ _ _ _ (⟨[(1, .box 1 0), (4, .one (.dv [] (.int .i64 ((k : Int)))))], [(1, 38, [(.dv [] (.str (x.1))), (.dv [] (.int .i64 (x.2.1))), (.dv [] (storesD (x.2.2.1))), (.dv [] (defsD (x.2.2.2)))])], []⟩ : St)
  iterate 8 refine z ?_
  refine yQ rfl (fun c3 => ?_) fun c3 => ?_
  ·skip
   have d3 := of_decide_eq_true c3
   iterate 4 refine z ?_
   refine ok_seq ?_
   refine ok_regionD (oB := [1]) (oK := []) (by kernel_rfl) rfl rfl ?_
   refine zD 0 ?_
   refine zD 1 ?_
   refine zD 2 ?_
   refine zD 3 ?_
   refine zD 4 ?_
   refine zD 5 ?_
   refine zD 6 ?_
   refine d_call 7 rfl (by kernel_rfl) rfl rfl rfl Tryz.call41 (ok_spec_FindStore (x := x) (n := (x.2.2.2.getD (k : Int).toNat default).1)) (as_cons (ev_tmp rfl) (ag_agg (ag_cons ac_dv (ag_cons ac_dv (ag_cons ac_dv (ag_cons ac_dv ag_nil))))) (as_cons (ev_tmp rfl) (ag_one ac_dv) as_nil)) rfl rfl rfl rfl ?_
   refine zD 8 ?_
   refine d_done (by kernel_rfl) ?_
   iterate 12 refine z ?_
   refine o_callG (gd_bool rfl rfl rfl rfl rfl) rfl rfl Tryz.call81 (ok_spec_IsName (s := (((x.2.2.2)).getD ((k : Int)).toNat default).2) ) (fun hg => (as_cons (ev_opt rfl hg) (ag_one ac_dv) as_nil)) rfl rfl ?_
   iterate 3 refine z ?_
   refine yQ rfl (fun c4 => ?_) fun c4 => ?_
   ·skip
    iterate 11 refine z ?_
    exact (isDb_un (k := k) (by omega) (by have h3 : (decide (findI (hasName (x.2.2.2.getD (k : Int).toNat default).1) x.2.2.1 0 < 0) || !isName (x.2.2.2.getD (k : Int).toNat default).2) = true := c4; rw [unBad, h3]; rfl)).symm
   ·skip
    have hfl : findI (hasName (x.2.2.2.getD (k : Int).toNat default).1) x.2.2.1 0 < x.2.2.1.length := fndS_lt x (x.2.2.2.getD (k : Int).toNat default).1
    have hf0 : 0 ≤ findI (hasName (x.2.2.2.getD (k : Int).toNat default).1) x.2.2.1 0 := by have h := c4; simp only [Bool.or_eq_false_iff, decide_eq_false_iff_not] at h; omega
    have hsw := sto_w (db_sto hst hf0 hfl)
    iterate 2 refine z ?_
    refine ok_seq ?_
    refine ok_seq ?_
    refine ok_regionD (oB := [1]) (oK := []) (by kernel_rfl) rfl rfl ?_
    refine zD 0 ?_
    refine zD 1 ?_
    refine zD 2 ?_
    refine zD 3 ?_
    refine zD 4 ?_
    refine zD 5 ?_
    refine zD 6 ?_
    refine zD 7 ?_
    refine zD 8 ?_
    refine zD 9 ?_
    refine zD 10 ?_
    refine d_vars (A := [(16, 6, 42, _), (17, 7, 42, _)]) hT ⟨⟨_, _, rfl⟩, rfl, ⟨⟨_, _, rfl⟩, rfl, trivial⟩⟩ ?_
    refine a_call 11 rfl (by kernel_rfl) rfl rfl rfl (vok hT ⟨⟨_, _, rfl⟩, rfl, ⟨⟨_, _, rfl⟩, rfl, trivial⟩⟩ (by kernel_rfl) (by kernel_rfl)) (vok hT ⟨⟨_, _, rfl⟩, rfl, ⟨⟨_, _, rfl⟩, rfl, trivial⟩⟩ (by kernel_rfl) (by kernel_rfl)) rfl Tryz.call82 (ok_spec_UniqueFault (x := (x.2.2.1.getD (findI (hasName (x.2.2.2.getD (k : Int).toNat default).1) x.2.2.1 0).toNat default)) (f := (x.2.2.2.getD (k : Int).toNat default).2) (by omega)) (as_cons (ev_tmp rfl) (ag_agg (ag_cons ac_dv (ag_cons ac_dv (ag_cons ac_dv ag_nil)))) (as_cons (ev_tmp rfl) (ag_one ac_dv) as_nil)) rfl rfl rfl rfl ?_
    refine a_take 12 rfl (by kernel_rfl) rfl rfl rfl (vok hT ⟨⟨_, _, rfl⟩, rfl, ⟨⟨_, _, rfl⟩, rfl, trivial⟩⟩ (by kernel_rfl) (by kernel_rfl)) (vok hT ⟨⟨_, _, rfl⟩, rfl, ⟨⟨_, _, rfl⟩, rfl, trivial⟩⟩ (by kernel_rfl) (by kernel_rfl)) (pu_move (.inl rfl) (ev_tmp rfl)) rfl rfl rfl rfl ?_
    refine a_takeX 13 rfl (by kernel_rfl) rfl rfl rfl rfl (vok hT ⟨⟨_, _, rfl⟩, rfl, ⟨⟨_, _, rfl⟩, rfl, trivial⟩⟩ (by kernel_rfl) (by kernel_rfl)) (vok hT ⟨⟨_, _, rfl⟩, rfl, ⟨⟨_, _, rfl⟩, rfl, trivial⟩⟩ (by kernel_rfl) (by kernel_rfl)) (pu_extractA rfl (ev_tmp rfl) rfl) rfl rfl ?_
    refine a_takeX 14 rfl (by kernel_rfl) rfl rfl rfl rfl (vok hT ⟨⟨_, _, rfl⟩, rfl, ⟨⟨_, _, rfl⟩, rfl, trivial⟩⟩ (by kernel_rfl) (by kernel_rfl)) (vok hT ⟨⟨_, _, rfl⟩, rfl, ⟨⟨_, _, rfl⟩, rfl, trivial⟩⟩ (by kernel_rfl) (by kernel_rfl)) (pu_extractA rfl (ev_tmp rfl) rfl) rfl rfl ?_
    refine a_takeX 15 rfl (by kernel_rfl) rfl rfl rfl rfl (vok hT ⟨⟨_, _, rfl⟩, rfl, ⟨⟨_, _, rfl⟩, rfl, trivial⟩⟩ (by kernel_rfl) (by kernel_rfl)) (vok hT ⟨⟨_, _, rfl⟩, rfl, ⟨⟨_, _, rfl⟩, rfl, trivial⟩⟩ (by kernel_rfl) (by kernel_rfl)) (pu_extract1 rfl (ev_tmp rfl) rfl) rfl rfl ?_
    refine a_exit1 (vok hT ⟨⟨_, _, rfl⟩, rfl, ⟨⟨_, _, rfl⟩, rfl, trivial⟩⟩ (by kernel_rfl) (by kernel_rfl)) rfl rfl (by kernel_rfl) ?_
    dsimp only [addT, addB]
    refine d_chain [18, 19, 20] rfl rfl (by kernel_rfl) ?_
    iterate 7 refine z ?_
    refine yQ rfl (fun c5 => ?_) fun c5 => ?_
    ·skip
     iterate 11 refine z ?_
     exact (isDb_un (k := k) (by omega) (by have h2 : faultIn x (x.2.2.2.getD (k : Int).toNat default) = true := c5; rw [unBad, h2]; simp)).symm
    ·skip
     iterate 6 refine z ?_
     refine ok_loop (ι := Nat) (fun zz => ⟨[(1, .box 1 0), (4, .one (.dv [] (.int .i64 ((k : Int))))), (9, .one (.dv [] (.int .i64 ((zz : Int)))))], [(1, 38, [(.dv [] (.str (x.1))), (.dv [] (.int .i64 (x.2.1))), (.dv [] (storesD (x.2.2.1))), (.dv [] (defsD (x.2.2.2)))])], []⟩) (fun zz => zz ≤ k ∧ (x.2.2.2.take zz).any (eqDefB (x.2.2.2.getD (k : Int).toNat default)) = false) (fun zz => k - zz) (0) ?_ (weak_sub ⟨rfl, rfl, rfl, trivial⟩ ⟨rfl, trivial⟩ trivial rfl) (fun zz hx => ?_)
     ·exact ⟨Nat.zero_le _, rfl⟩
     obtain ⟨j, rfl⟩ : ∃ v, v = zz := ⟨_, rfl⟩
     replace hx : j ≤ k ∧ (x.2.2.2.take j).any (eqDefB (x.2.2.2.getD (k : Int).toNat default)) = false := hx
     obtain ⟨hj, hall3⟩ := hx
     show Ok _ _ _ _ _ (⟨[(1, .box 1 0), (4, .one (.dv [] (.int .i64 ((k : Int))))), (9, .one (.dv [] (.int .i64 ((j : Int)))))], [(1, 38, [(.dv [] (.str (x.1))), (.dv [] (.int .i64 (x.2.1))), (.dv [] (storesD (x.2.2.1))), (.dv [] (defsD (x.2.2.2)))])], []⟩ : St)
     iterate 6 refine z ?_
     refine yQ rfl (fun c6 => ?_) fun c6 => ?_
     ·skip
      have d6 := of_decide_eq_true c6
      iterate 4 refine z ?_
      refine ok_seq ?_
      refine ok_regionD (oB := [1]) (oK := []) (by kernel_rfl) rfl rfl ?_
      refine zD 0 ?_
      refine zD 1 ?_
      refine zD 2 ?_
      refine zD 3 ?_
      refine zD 4 ?_
      refine zD 5 ?_
      refine zD 6 ?_
      refine zD 7 ?_
      refine zD 8 ?_
      refine zD 9 ?_
      refine d_take 10 rfl (by kernel_rfl) rfl rfl (pu_cmpA rfl (ev_tmp rfl) (ev_tmp rfl) rfl rfl Tryz.eqGuardType127 (eql_Def _ _ _ _)) rfl rfl rfl rfl ?_
      refine d_done (by kernel_rfl) ?_
      refine z ?_
      refine yQ rfl (fun c7 => ?_) fun c7 => ?_
      ·skip
       iterate 14 refine z ?_
       exact (isDb_un (k := k) (by omega) (un_dup (j := j) (by omega) (by omega) c7)).symm
      ·skip
       iterate 3 refine z ?_
       refine ok_region ?_
       iterate 4 refine z ?_
       refine ⟨j + 1, ?_, ?_, weak_sub ⟨rfl, rfl, rfl, trivial⟩ ⟨rfl, trivial⟩ trivial rfl⟩
       ·exact ⟨by omega, any_step (d := default) hall3 (by omega) (by rw [eqDef_comm]; exact c7)⟩
       ·omega
     ·skip
      have d6 := of_decide_eq_false c6
      iterate 6 refine z ?_
      refine ok_region ?_
      iterate 4 refine z ?_
      refine ⟨k + 1, ?_, ?_, weak_sub ⟨rfl, rfl, trivial⟩ ⟨rfl, trivial⟩ trivial rfl⟩
      ·exact ⟨by omega, rall_succ hall2 (un_go (j := j) (by omega) c4 hall3 c5)⟩
      ·omega
  ·skip
   have d3 := of_decide_eq_false c3
   iterate 8 refine z ?_
   refine zC Tryz.call81 ?_ (hf := ok_spec_IsName (s := x.1) )
   iterate 3 refine z ?_
   refine o_callG (gd_bool rfl rfl rfl rfl rfl) rfl rfl Tryz.call70 (ok_spec_l1In (n := x.2.1) (lo := 0) (hi := 1000) ) (fun hg => (as_cons (ev_opt rfl hg) (ag_one ac_dv) (as_cons (ev_int (inR_lit rfl)) (ag_one ac_dv) (as_cons (ev_int (inR_lit rfl)) (ag_one ac_dv) as_nil)))) rfl rfl ?_
   iterate 17 refine z ?_
   obtain rfl : k = x.2.2.2.length := by omega
   rw [isDb_yes hst hall2]; rfl
end Go.Proofs.YtmgijbhikmjfjaaGreat

namespace Go.Proofs.YtmgijbhikmjfjaaGreat
open Go.RowKit
open Go.Proofs
set_option linter.unusedVariables false
set_option linter.unusedSimpArgs false

theorem take_csG {α : Type} [Inhabited α] {enc : α → List DV} {xs : List α} {k : Nat} (hk : k < xs.length) : (xs.take k).flatMap enc ++ enc (xs.getD (k : Int).toNat default) = (xs.take (k + 1)).flatMap enc ∧ (xs.take k).length + 1 = (xs.take (k + 1)).length := by
 have e : xs.getD (k : Int).toNat default = xs[k] := by simp [List.getD, List.getElem?_eq_getElem hk]
 rw [List.take_add_one, List.getElem?_eq_getElem hk, e]
 simp only [Option.toList_some, List.flatMap_append, List.flatMap_cons, List.flatMap_nil, List.append_nil, List.length_append, List.length_singleton]
 exact ⟨trivial, trivial⟩
theorem wOp_rec (o : OpT) : o.2.2.2.1.length ≤ wOp o := by unfold wOp wRecord wList; omega

theorem ok_impl_copyOps {x : List OpT} (hb : wList wOp x ≤ 1099511627776) : KFn Tryz.prog 149 [.one (.dv [] (opsD (x)))] (.one (.key 6)) [(6, some (kcOf false (opsD (x))))] := by
 refine ⟨fn_intro Tryz.func149 rfl Tryz.ntmps149 Tryz.results149 rfl (fun C => ?_)⟩
 have hwl : wList wOp x = x.length + wSum wOp x := rfl
 refine ok_fact (x := .tmp 0) (ev_tmp rfl) fun f0 => ?_
 iterate 4 refine z ?_
 refine o_build0 (k := 6) hT rfl rfl rfl rfl rfl rfl rfl rfl ?_
 iterate 9 refine z ?_
 refine ok_loop (ι := Nat) (fun zz => ⟨[(2, .one .nil), (3, .one (.key 6)), (7, .one (.dv [] (opsD (x)))), (8, .one (.dv [] (.int .i64 ((((x)).length : Int))))), (9, .one (.dv [] (.int .i64 ((zz : Int)))))], [], [(6, some (kcOf false (.sl 47 7 ((x.take zz).length) ((x.take zz).flatMap eOp))))]⟩) (fun zz => zz ≤ x.length) (fun zz => x.length - zz) (0) ?_ (weak_sub ⟨rfl, rfl, rfl, rfl, rfl, trivial⟩ trivial ⟨rfl, trivial⟩ rfl) (fun zz hx => ?_)
 ·exact Nat.zero_le _
 obtain ⟨k, rfl⟩ : ∃ v, v = zz := ⟨_, rfl⟩
 replace hx : k ≤ x.length := hx
 have hw := fun h => wSum_succ wOp x k h
 show Ok _ _ _ _ _ (⟨[(2, .one .nil), (3, .one (.key 6)), (7, .one (.dv [] (opsD (x)))), (8, .one (.dv [] (.int .i64 ((((x)).length : Int))))), (9, .one (.dv [] (.int .i64 ((k : Int)))))], [], [(6, some (kcOf false (.sl 47 7 ((x.take k).length) ((x.take k).flatMap eOp))))]⟩ : St)
 iterate 3 refine z ?_
 refine ok_seq ?_
 refine yQ rfl (fun c1 => ?_) fun c1 => ?_
 ·skip
  have d1 := of_decide_eq_true c1
  have hk2 : k < x.length := by omega
  obtain ⟨hw1, hw2⟩ := hw hk2
  have hrec := wOp_rec (x.getD (k : Int).toNat default)
  iterate 13 refine z ?_
  refine zK 697 Tryz.call139 ?_ (hf := ok_impl_copyRecord (x := (((x)).getD ((k : Int)).toNat default).2.2.2.1) (by omega))
  iterate 3 refine z ?_
  refine ok_region ?_
  iterate 2 refine z ?_
  refine o_build1 (k := 19) (js := [700]) hT rfl rfl rfl rfl rfl rfl rfl rfl rfl (ev_tmp rfl) rfl rfl (ow_cons' (ow_dv rfl) (ow_cons' (ow_dv rfl) (ow_cons' (ow_dv rfl) (ow_cons' (ow_dv rfl) (ow_cons' (ow_dv rfl) (ow_cons' (ow_key rfl) (ow_cons' (ow_dv rfl) ow_nil rfl) rfl) rfl) rfl) rfl) rfl) rfl) (by decide) (by decide) rfl rfl ?_
  simp only [killT, killB, SV.kill, CV.kill, kk, Nat.reduceBEq]
  refine o_appK (k := 6) (j := 19) (cs := (x.take (k + 1)).flatMap eOp) (n := (x.take (k + 1)).length) hT rfl rfl rfl rfl rfl rfl rfl (ev_tmp rfl) rfl rfl rfl (ev_tmp rfl) rfl rfl (by decide) (by dsimp only [kcOf]; simp only [List.length_take]; omega) (by dsimp only [kcOf]; simp only [List.length_take]; omega) ((take_csG (enc := eOp) hk2).2) ((take_csG (enc := eOp) hk2).1) ?_
  simp only [killT, killB, SV.kill, CV.kill, kk, Nat.reduceBEq]
  refine z ?_
  refine ops_nil ?_
  iterate 2 refine z ?_
  refine ok_region ?_
  iterate 3 refine z ?_
  refine ⟨k + 1, ?_, ?_, weak_sub ⟨rfl, rfl, rfl, rfl, rfl, trivial⟩ trivial ⟨rfl, trivial⟩ rfl⟩
  ·omega
  ·omega
 ·skip
  have d1 := of_decide_eq_false c1
  iterate 9 refine z ?_
  refine ok_weak (σ' := ⟨[(2, .one (.key 6))], [], [(6, some (kcOf false (opsD (x))))]⟩) (weak_sub ⟨rfl, trivial⟩ trivial ⟨(congrArg (fun l : List (OpT) => some (some (KC.mk false 47 7 l.length (l.flatMap eOp)))) (List.take_of_length_le (by omega))), trivial⟩ rfl) ?_
  refine z ?_
  refine fin1 (res_tmp rfl) ?_
  exact ⟨rfl, rfl⟩
theorem ok_spec_l9Copy {x : List OpT} (hb : wList wOp x ≤ 1099511627776) : KFn Tryz.prog 115 [.one (.dv [] (opsD (x)))] (.one (.key 6)) [(6, some (kcOf false (opsD (x))))] := by
 refine ⟨fn_intro Tryz.func115 rfl Tryz.ntmps115 Tryz.results115 rfl (fun C => ?_)⟩
 have hwl : wList wOp x = x.length + wSum wOp x := rfl
 refine ok_fact (x := .tmp 0) (ev_tmp rfl) fun f0 => ?_
 iterate 4 refine z ?_
 refine o_build0 (k := 6) hT rfl rfl rfl rfl rfl rfl rfl rfl ?_
 iterate 7 refine z ?_
 refine ok_loop (ι := Nat) (fun zz => ⟨[(0, .one (.dv [] (opsD (x)))), (2, .one .nil), (3, .one (.key 6)), (4, .one (.dv [] (.int .i64 ((zz : Int)))))], [], [(6, some (kcOf false (.sl 47 7 ((x.take zz).length) ((x.take zz).flatMap eOp))))]⟩) (fun zz => zz ≤ x.length) (fun zz => x.length - zz) (0) ?_ (weak_sub ⟨rfl, rfl, rfl, rfl, trivial⟩ trivial ⟨rfl, trivial⟩ rfl) (fun zz hx => ?_)
 ·exact Nat.zero_le _
 obtain ⟨k, rfl⟩ : ∃ v, v = zz := ⟨_, rfl⟩
 replace hx : k ≤ x.length := hx
 have hw := fun h => wSum_succ wOp x k h
 show Ok _ _ _ _ _ (⟨[(0, .one (.dv [] (opsD (x)))), (2, .one .nil), (3, .one (.key 6)), (4, .one (.dv [] (.int .i64 ((k : Int)))))], [], [(6, some (kcOf false (.sl 47 7 ((x.take k).length) ((x.take k).flatMap eOp))))]⟩ : St)
 iterate 7 refine z ?_
 refine yQ rfl (fun c1 => ?_) fun c1 => ?_
 ·skip
  have d1 := of_decide_eq_true c1
  have hk2 : k < x.length := by omega
  obtain ⟨hw1, hw2⟩ := hw hk2
  have hrec := wOp_rec (x.getD (k : Int).toNat default)
  iterate 18 refine z ?_
  refine zK 697 Tryz.call127 ?_ (hf := ok_spec_l5Copy (x := (((x)).getD ((k : Int)).toNat default).2.2.2.1) (by omega))
  iterate 3 refine z ?_
  refine ok_region ?_
  iterate 2 refine z ?_
  refine o_build1 (k := 26) (js := [700]) hT rfl rfl rfl rfl rfl rfl rfl rfl rfl (ev_tmp rfl) rfl rfl (ow_cons' (ow_dv rfl) (ow_cons' (ow_dv rfl) (ow_cons' (ow_dv rfl) (ow_cons' (ow_dv rfl) (ow_cons' (ow_dv rfl) (ow_cons' (ow_key rfl) (ow_cons' (ow_dv rfl) ow_nil rfl) rfl) rfl) rfl) rfl) rfl) rfl) (by decide) (by decide) rfl rfl ?_
  simp only [killT, killB, SV.kill, CV.kill, kk, Nat.reduceBEq]
  refine o_appK (k := 6) (j := 26) (cs := (x.take (k + 1)).flatMap eOp) (n := (x.take (k + 1)).length) hT rfl rfl rfl rfl rfl rfl rfl (ev_tmp rfl) rfl rfl rfl (ev_tmp rfl) rfl rfl (by decide) (by dsimp only [kcOf]; simp only [List.length_take]; omega) (by dsimp only [kcOf]; simp only [List.length_take]; omega) ((take_csG (enc := eOp) hk2).2) ((take_csG (enc := eOp) hk2).1) ?_
  simp only [killT, killB, SV.kill, CV.kill, kk, Nat.reduceBEq]
  refine z ?_
  refine ops_nil ?_
  iterate 2 refine z ?_
  refine ok_region ?_
  iterate 4 refine z ?_
  refine ⟨k + 1, ?_, ?_, weak_sub ⟨rfl, rfl, rfl, rfl, trivial⟩ trivial ⟨rfl, trivial⟩ rfl⟩
  ·omega
  ·omega
 ·skip
  have d1 := of_decide_eq_false c1
  iterate 9 refine z ?_
  refine ok_weak (σ' := ⟨[(2, .one (.key 6))], [], [(6, some (kcOf false (opsD (x))))]⟩) (weak_sub ⟨rfl, trivial⟩ trivial ⟨(congrArg (fun l : List (OpT) => some (some (KC.mk false 47 7 l.length (l.flatMap eOp)))) (List.take_of_length_le (by omega))), trivial⟩ rfl) ?_
  refine z ?_
  refine fin1 (res_tmp rfl) ?_
  exact ⟨rfl, rfl⟩
theorem ok_spec_l10Stores {x : List StoreT} (hb : wList wStore x ≤ 1099511627776) : KFn Tryz.prog 116 [.one (.dv [] (storesD (x)))] (.one (.key 5)) [(5, some (kcOf false (storesD (x))))] := by
 refine ⟨fn_intro Tryz.func116 rfl Tryz.ntmps116 Tryz.results116 rfl (fun C => ?_)⟩
 have hwl : wList wStore x = x.length + wSum wStore x := rfl
 refine ok_fact (x := .tmp 0) (ev_tmp rfl) fun f0 => ?_
 iterate 4 refine z ?_
 refine o_build0 (k := 5) hT rfl rfl rfl rfl rfl rfl rfl rfl ?_
 iterate 7 refine z ?_
 refine ok_loop (ι := Nat) (fun zz => ⟨[(0, .one (.dv [] (storesD (x)))), (2, .one .nil), (3, .one (.key 5)), (4, .one (.dv [] (.int .i64 ((zz : Int)))))], [], [(5, some (kcOf false (.sl 91 3 ((x.take zz).length) ((x.take zz).flatMap eStore))))]⟩) (fun zz => zz ≤ x.length) (fun zz => x.length - zz) (0) ?_ (weak_sub ⟨rfl, rfl, rfl, rfl, trivial⟩ trivial ⟨rfl, trivial⟩ rfl) (fun zz hx => ?_)
 ·exact Nat.zero_le _
 obtain ⟨k, rfl⟩ : ∃ v, v = zz := ⟨_, rfl⟩
 replace hx : k ≤ x.length := hx
 have hw := fun h => wSum_succ wStore x k h
 show Ok _ _ _ _ _ (⟨[(0, .one (.dv [] (storesD (x)))), (2, .one .nil), (3, .one (.key 5)), (4, .one (.dv [] (.int .i64 ((k : Int)))))], [], [(5, some (kcOf false (.sl 91 3 ((x.take k).length) ((x.take k).flatMap eStore))))]⟩ : St)
 iterate 7 refine z ?_
 refine yQ rfl (fun c1 => ?_) fun c1 => ?_
 ·skip
  have d1 := of_decide_eq_true c1
  have hk2 : k < x.length := by omega
  obtain ⟨hw1, hw2⟩ := hw hk2
  iterate 4 refine z ?_
  refine ok_region ?_
  iterate 5 refine z ?_
  refine zK 17000 Tryz.call79 ?_ (hf := ok_spec_l6Copy (x := (((x)).getD ((k : Int)).toNat default)) (by omega))
  refine o_build1 (k := 18) (js := [17030]) hT rfl rfl rfl rfl rfl rfl rfl rfl rfl (ev_tmp rfl) rfl rfl (ow_cons' (ow_dv rfl) (ow_cons' (ow_key rfl) (ow_cons' (ow_dv rfl) ow_nil rfl) rfl) rfl) (by decide) (by decide) rfl rfl ?_
  simp only [killT, killB, SV.kill, CV.kill, kk, Nat.reduceBEq]
  refine o_appK (k := 5) (j := 18) (cs := (x.take (k + 1)).flatMap eStore) (n := (x.take (k + 1)).length) hT rfl rfl rfl rfl rfl rfl rfl (ev_tmp rfl) rfl rfl rfl (ev_tmp rfl) rfl rfl (by decide) (by dsimp only [kcOf]; simp only [List.length_take]; omega) (by dsimp only [kcOf]; simp only [List.length_take]; omega) ((take_csG (enc := eStore) hk2).2) ((take_csG (enc := eStore) hk2).1) ?_
  simp only [killT, killB, SV.kill, CV.kill, kk, Nat.reduceBEq]
  refine z ?_
  refine ops_nil ?_
  iterate 2 refine z ?_
  refine ok_region ?_
  iterate 4 refine z ?_
  refine ⟨k + 1, ?_, ?_, weak_sub ⟨rfl, rfl, rfl, rfl, trivial⟩ trivial ⟨rfl, trivial⟩ rfl⟩
  ·omega
  ·omega
 ·skip
  have d1 := of_decide_eq_false c1
  iterate 9 refine z ?_
  refine ok_weak (σ' := ⟨[(2, .one (.key 5))], [], [(5, some (kcOf false (storesD (x))))]⟩) (weak_sub ⟨rfl, trivial⟩ trivial ⟨(congrArg (fun l : List (StoreT) => some (some (KC.mk false 91 3 l.length (l.flatMap eStore)))) (List.take_of_length_le (by omega))), trivial⟩ rfl) ?_
  refine z ?_
  refine fin1 (res_tmp rfl) ?_
  exact ⟨rfl, rfl⟩
theorem ok_impl_copyTx {x : TxT} (hb : wTx x ≤ 1099511627776) : KFn Tryz.prog 117 [.agg [(.dv [] (.int .i64 (x.1))), (.dv [] (opsD (x.2.1))), (.dv [] (.int .i64 (x.2.2.1))), (.dv [] (.int .i64 (x.2.2.2.1))), (.dv [] (storesD (x.2.2.2.2)))]] (.agg [(.dv [] (.int .i64 (x.1))), (.key 800), (.dv [] (.int .i64 (x.2.2.1))), (.dv [] (.int .i64 (x.2.2.2.1))), (.key 31)]) [(800, some (kcOf false (opsD (x.2.1)))), (31, some (kcOf false (storesD (x.2.2.2.2))))] := by
 refine ⟨fn_intro Tryz.func117 rfl Tryz.ntmps117 Tryz.results117 rfl (fun C => ?_)⟩
 have hwt : wTx x = wList wOp x.2.1 + wList wStore x.2.2.2.2 := rfl
 have hwl : wList wStore x.2.2.2.2 = x.2.2.2.2.length + wSum wStore x.2.2.2.2 := rfl
 refine yF 0 0 rfl rfl fun f0_0 => ?_
 refine yF 0 1 rfl rfl fun f0_1 => ?_
 refine yF 0 2 rfl rfl fun f0_2 => ?_
 refine yF 0 3 rfl rfl fun f0_3 => ?_
 refine yF 0 4 rfl rfl fun f0_4 => ?_
 iterate 4 refine z ?_
 refine ok_seq ?_
 refine ok_regionD (oB := [1, 2]) (oK := []) (by kernel_rfl) rfl rfl ?_
 refine zD 0 ?_
 refine zD 1 ?_
 refine zD 2 ?_
 refine zD 3 ?_
 refine zD 5 ?_
 refine zD 6 ?_
 refine zD 7 ?_
 refine zD 8 ?_
 refine d_vars (A := [(10, 3, 109, _)]) hT ⟨⟨_, _, rfl⟩, rfl, trivial⟩ ?_
 refine a_callK 794 4 rfl (by kernel_rfl) rfl rfl rfl (vok hT ⟨⟨_, _, rfl⟩, rfl, trivial⟩ (by kernel_rfl) (by kernel_rfl)) (vok hT ⟨⟨_, _, rfl⟩, rfl, trivial⟩ (by kernel_rfl) (by kernel_rfl)) rfl Tryz.call149 (ok_impl_copyOps (x := x.2.1) (by omega)) (as_cons (ev_tmp rfl) (ag_one ac_dv) as_nil) rfl rfl rfl rfl rfl ?_
 refine a_take 9 rfl (by kernel_rfl) rfl rfl rfl (vok hT ⟨⟨_, _, rfl⟩, rfl, trivial⟩ (by kernel_rfl) (by kernel_rfl)) (vok hT ⟨⟨_, _, rfl⟩, rfl, trivial⟩ (by kernel_rfl) (by kernel_rfl)) (pu_build hT hB rfl rfl rfl (bp_cons (ev_tmp rfl) rfl rfl rfl rfl rfl (bp_cons (ev_tmp rfl) rfl rfl rfl rfl rfl (bp_cons (ev_tmp rfl) rfl rfl rfl rfl rfl (bp_cons (ev_tmp rfl) rfl rfl rfl rfl rfl bp_nil))))) rfl rfl rfl rfl ?_
 refine a_exit1 (vok hT ⟨⟨_, _, rfl⟩, rfl, trivial⟩ (by kernel_rfl) (by kernel_rfl)) rfl rfl (by kernel_rfl) ?_
 dsimp only [addT, addB]
 refine d_last 11 rfl (by kernel_rfl) rfl (by kernel_rfl) (ef_storeBox hT rfl rfl rfl (ev_tmp rfl) (ev_tmp rfl) rfl rfl rfl rfl rfl rfl) (by kernel_rfl) ?_
 refine z ?_
 refine ok_seq ?_
 refine ok_seq ?_
 refine ok_weak (weak_nilB 31 (b := 3) (i := 4) (e := 91) (sz := 3) rfl rfl rfl rfl rfl) ?_
 simp only [killT, killB, SV.kill, CV.kill, kk, Nat.reduceBEq]
 refine ok_region ?_
 iterate 6 refine z ?_
 refine ok_loop (ι := Nat) (fun zz => ⟨[(2, .box 2 0), (3, .box 3 0), (17, .one (.dv [] (storesD (x.2.2.2.2)))), (18, .one (.dv [] (.int .i64 ((((x.2.2.2.2)).length : Int))))), (19, .one (.dv [] (.int .i64 ((zz : Int)))))], [(2, 109, [(.dv [] (.int .i64 (0))), .nil, (.dv [] (.int .i64 (0))), (.dv [] (.int .i64 (0))), .nil]), (3, 109, [(.dv [] (.int .i64 (x.1))), (.key 800), (.dv [] (.int .i64 (x.2.2.1))), (.dv [] (.int .i64 (x.2.2.2.1))), (.key 31)])], [(31, some (kcOf false (.sl 91 3 ((x.2.2.2.2.take zz).length) ((x.2.2.2.2.take zz).flatMap eStore)))), (800, some (kcOf false (opsD ((x.2.1)))))]⟩) (fun zz => zz ≤ x.2.2.2.2.length) (fun zz => x.2.2.2.2.length - zz) (0) ?_ (weak_sub ⟨rfl, rfl, rfl, rfl, rfl, trivial⟩ ⟨rfl, rfl, trivial⟩ ⟨rfl, rfl, trivial⟩ rfl) (fun zz hx => ?_)
 ·exact Nat.zero_le _
 obtain ⟨k, rfl⟩ : ∃ v, v = zz := ⟨_, rfl⟩
 replace hx : k ≤ x.2.2.2.2.length := hx
 have hw := fun h => wSum_succ wStore x.2.2.2.2 k h
 show Ok _ _ _ _ _ (⟨[(2, .box 2 0), (3, .box 3 0), (17, .one (.dv [] (storesD (x.2.2.2.2)))), (18, .one (.dv [] (.int .i64 ((((x.2.2.2.2)).length : Int))))), (19, .one (.dv [] (.int .i64 ((k : Int)))))], [(2, 109, [(.dv [] (.int .i64 (0))), .nil, (.dv [] (.int .i64 (0))), (.dv [] (.int .i64 (0))), .nil]), (3, 109, [(.dv [] (.int .i64 (x.1))), (.key 800), (.dv [] (.int .i64 (x.2.2.1))), (.dv [] (.int .i64 (x.2.2.2.1))), (.key 31)])], [(31, some (kcOf false (.sl 91 3 ((x.2.2.2.2.take k).length) ((x.2.2.2.2.take k).flatMap eStore)))), (800, some (kcOf false (opsD ((x.2.1)))))]⟩ : St)
 iterate 3 refine z ?_
 refine ok_seq ?_
 refine yQ rfl (fun c1 => ?_) fun c1 => ?_
 ·skip
  have d1 := of_decide_eq_true c1
  have hk2 : k < x.2.2.2.2.length := by omega
  obtain ⟨hw1, hw2⟩ := hw hk2
  iterate 10 refine z ?_
  refine ok_regionH [0, 1, 2, 3, 4] (oB := [2, 3, 5]) (oK := [31, 800]) (by kernel_rfl) rfl rfl ?_
  refine zD 0 ?_
  refine zD 1 ?_
  refine zD 2 ?_
  refine d_callK 26000 3 rfl (by kernel_rfl) rfl rfl rfl Tryz.call74 (ok_impl_copyStore (x := (((x.2.2.2.2)).getD ((k : Int)).toNat default)) (by omega)) (as_cons (ev_tmp rfl) (ag_agg (ag_cons ac_dv (ag_cons ac_dv (ag_cons ac_dv ag_nil)))) as_nil) rfl rfl rfl rfl rfl ?_
  refine d_build1 (k := 27) (js := [26030]) 4 hT rfl (by kernel_rfl) rfl rfl rfl rfl rfl rfl rfl rfl rfl (ev_tmp rfl) rfl rfl (ow_cons' (ow_dv rfl) (ow_cons' (ow_key rfl) (ow_cons' (ow_dv rfl) ow_nil rfl) rfl) rfl) (by decide) (by decide) rfl rfl (by decide) ?_
  simp only [killT, killB, SV.kill, CV.kill, kk, Nat.reduceBEq]
  refine d_chain [5, 6, 7] rfl rfl (by kernel_rfl) ?_
  refine o_appK (k := 31) (j := 27) (cs := (x.2.2.2.2.take (k + 1)).flatMap eStore) (n := (x.2.2.2.2.take (k + 1)).length) hT rfl rfl rfl rfl rfl rfl rfl (ev_tmp rfl) rfl rfl rfl (ev_tmp rfl) rfl rfl (by decide) (by dsimp only [kcOf]; simp only [List.length_take]; omega) (by dsimp only [kcOf]; simp only [List.length_take]; omega) ((take_csG (enc := eStore) hk2).2) ((take_csG (enc := eStore) hk2).1) ?_
  simp only [killT, killB, SV.kill, CV.kill, kk, Nat.reduceBEq]
  iterate 2 refine z ?_
  refine ops_nil ?_
  iterate 2 refine z ?_
  refine ok_region ?_
  iterate 3 refine z ?_
  refine ⟨k + 1, ?_, ?_, weak_sub ⟨rfl, rfl, rfl, rfl, rfl, trivial⟩ ⟨rfl, rfl, trivial⟩ ⟨rfl, rfl, trivial⟩ rfl⟩
  ·omega
  ·omega
 ·skip
  have d1 := of_decide_eq_false c1
  iterate 9 refine z ?_
  refine ok_weak (σ' := ⟨[(2, .box 2 0)], [(2, 109, [(.dv [] (.int .i64 (x.1))), (.key 800), (.dv [] (.int .i64 (x.2.2.1))), (.dv [] (.int .i64 (x.2.2.2.1))), (.key 31)])], [(800, some (kcOf false (opsD (x.2.1)))), (31, some (kcOf false (storesD (x.2.2.2.2))))]⟩) (weak_sub ⟨rfl, trivial⟩ ⟨rfl, trivial⟩ ⟨rfl, (congrArg (fun l : List (StoreT) => some (some (KC.mk false 91 3 l.length (l.flatMap eStore)))) (List.take_of_length_le (by omega))), trivial⟩ rfl) ?_
  refine z ?_
  refine fin1 (res_cell hT rfl rfl rfl rfl) ?_
  exact ⟨rfl, rfl⟩
theorem ok_impl_copyQueue {x : List TxT} (hb : wList wTx x ≤ 1099511627776) : KFn Tryz.prog 72 [.agg [(.dv [] (txsD (x)))]] (.agg [(.key 31)]) [(31, some (kcOf false (txsD (x))))] := by
 refine ⟨fn_intro Tryz.func72 rfl Tryz.ntmps72 Tryz.results72 rfl (fun C => ?_)⟩
 have hwl : wList wTx x = x.length + wSum wTx x := rfl
 refine yF 0 0 rfl rfl fun f0_0 => ?_
 iterate 5 refine z ?_
 refine yO rfl rfl (pu_build hT hB rfl rfl rfl bp_nil) rfl ?_
 iterate 3 refine z ?_
 refine ok_seq ?_
 refine ok_seq ?_
 refine ok_weak (weak_nilB 31 (b := 3) (i := 0) (e := 109) (sz := 5) rfl rfl rfl rfl rfl) ?_
 simp only [killT, killB, SV.kill, CV.kill, kk, Nat.reduceBEq]
 refine ok_region ?_
 iterate 6 refine z ?_
 refine ok_loop (ι := Nat) (fun zz => ⟨[(2, .box 2 0), (3, .box 3 0), (8, .one (.dv [] (txsD (x)))), (9, .one (.dv [] (.int .i64 ((((x)).length : Int))))), (10, .one (.dv [] (.int .i64 ((zz : Int)))))], [(2, 73, [.nil]), (3, 73, [(.key 31)])], [(31, some (kcOf false (.sl 109 5 ((x.take zz).length) ((x.take zz).flatMap eTx))))]⟩) (fun zz => zz ≤ x.length) (fun zz => x.length - zz) (0) ?_ (weak_sub ⟨rfl, rfl, rfl, rfl, rfl, trivial⟩ ⟨rfl, rfl, trivial⟩ ⟨rfl, trivial⟩ rfl) (fun zz hx => ?_)
 ·exact Nat.zero_le _
 obtain ⟨k, rfl⟩ : ∃ v, v = zz := ⟨_, rfl⟩
 replace hx : k ≤ x.length := hx
 have hw := fun h => wSum_succ wTx x k h
 show Ok _ _ _ _ _ (⟨[(2, .box 2 0), (3, .box 3 0), (8, .one (.dv [] (txsD (x)))), (9, .one (.dv [] (.int .i64 ((((x)).length : Int))))), (10, .one (.dv [] (.int .i64 ((k : Int)))))], [(2, 73, [.nil]), (3, 73, [(.key 31)])], [(31, some (kcOf false (.sl 109 5 ((x.take k).length) ((x.take k).flatMap eTx))))]⟩ : St)
 iterate 3 refine z ?_
 refine ok_seq ?_
 refine yQ rfl (fun c1 => ?_) fun c1 => ?_
 ·skip
  have d1 := of_decide_eq_true c1
  have hk2 : k < x.length := by omega
  obtain ⟨hw1, hw2⟩ := hw hk2
  iterate 10 refine z ?_
  refine ok_regionH [0, 1, 2, 3, 4] (oB := [2, 3, 5]) (oK := [31]) (by kernel_rfl) rfl rfl ?_
  refine zD 0 ?_
  refine zD 1 ?_
  refine zD 2 ?_
  refine d_callK 17000 3 rfl (by kernel_rfl) rfl rfl rfl Tryz.call117 (ok_impl_copyTx (x := (((x)).getD ((k : Int)).toNat default)) (by omega)) (as_cons (ev_tmp rfl) (ag_agg (ag_cons ac_dv (ag_cons ac_dv (ag_cons ac_dv (ag_cons ac_dv (ag_cons ac_dv ag_nil)))))) as_nil) rfl rfl rfl rfl rfl ?_
  refine d_build1 (k := 18) (js := [17800, 17031]) 4 hT rfl (by kernel_rfl) rfl rfl rfl rfl rfl rfl rfl rfl rfl (ev_tmp rfl) rfl rfl (ow_cons' (ow_dv rfl) (ow_cons' (ow_key rfl) (ow_cons' (ow_dv rfl) (ow_cons' (ow_dv rfl) (ow_cons' (ow_key rfl) ow_nil rfl) rfl) rfl) rfl) rfl) (by decide) (by decide) rfl rfl (by decide) ?_
  simp only [killT, killB, SV.kill, CV.kill, kk, Nat.reduceBEq]
  refine d_chain [5, 6, 7] rfl rfl (by kernel_rfl) ?_
  refine o_appK (k := 31) (j := 18) (cs := (x.take (k + 1)).flatMap eTx) (n := (x.take (k + 1)).length) hT rfl rfl rfl rfl rfl rfl rfl (ev_tmp rfl) rfl rfl rfl (ev_tmp rfl) rfl rfl (by decide) (by dsimp only [kcOf]; simp only [List.length_take]; omega) (by dsimp only [kcOf]; simp only [List.length_take]; omega) ((take_csG (enc := eTx) hk2).2) ((take_csG (enc := eTx) hk2).1) ?_
  simp only [killT, killB, SV.kill, CV.kill, kk, Nat.reduceBEq]
  iterate 2 refine z ?_
  refine ops_nil ?_
  iterate 2 refine z ?_
  refine ok_region ?_
  iterate 3 refine z ?_
  refine ⟨k + 1, ?_, ?_, weak_sub ⟨rfl, rfl, rfl, rfl, rfl, trivial⟩ ⟨rfl, rfl, trivial⟩ ⟨rfl, trivial⟩ rfl⟩
  ·omega
  ·omega
 ·skip
  have d1 := of_decide_eq_false c1
  iterate 9 refine z ?_
  refine ok_weak (σ' := ⟨[(2, .box 2 0)], [(2, 73, [(.key 31)])], [(31, some (kcOf false (txsD (x))))]⟩) (weak_sub ⟨rfl, trivial⟩ ⟨rfl, trivial⟩ ⟨(congrArg (fun l : List (TxT) => some (some (KC.mk false 109 5 l.length (l.flatMap eTx)))) (List.take_of_length_le (by omega))), trivial⟩ rfl) ?_
  refine z ?_
  refine fin1 (res_cell hT rfl rfl rfl rfl) ?_
  exact ⟨rfl, rfl⟩
theorem ok_spec_l10Copy {x : List TxT} (hb : wList wTx x ≤ 1099511627776) : KFn Tryz.prog 69 [.agg [(.dv [] (txsD (x)))]] (.agg [(.key 31)]) [(31, some (kcOf false (txsD (x))))] := by
 refine ⟨fn_intro Tryz.func69 rfl Tryz.ntmps69 Tryz.results69 rfl (fun C => ?_)⟩
 have hwl : wList wTx x = x.length + wSum wTx x := rfl
 refine yF 0 0 rfl rfl fun f0_0 => ?_
 iterate 5 refine z ?_
 refine yO rfl rfl (pu_build hT hB rfl rfl rfl bp_nil) rfl ?_
 iterate 3 refine z ?_
 refine ok_seq ?_
 refine ok_seq ?_
 refine ok_weak (weak_nilB 31 (b := 3) (i := 0) (e := 109) (sz := 5) rfl rfl rfl rfl rfl) ?_
 simp only [killT, killB, SV.kill, CV.kill, kk, Nat.reduceBEq]
 refine ok_region ?_
 iterate 3 refine z ?_
 refine ok_loop (ι := Nat) (fun zz => ⟨[(1, .box 1 0), (2, .box 2 0), (3, .box 3 0), (4, .one (.dv [] (.int .i64 ((zz : Int)))))], [(1, 73, [(.dv [] (txsD (x)))]), (2, 73, [.nil]), (3, 73, [(.key 31)])], [(31, some (kcOf false (.sl 109 5 ((x.take zz).length) ((x.take zz).flatMap eTx))))]⟩) (fun zz => zz ≤ x.length) (fun zz => x.length - zz) (0) ?_ (weak_sub ⟨rfl, rfl, rfl, rfl, trivial⟩ ⟨rfl, rfl, rfl, trivial⟩ ⟨rfl, trivial⟩ rfl) (fun zz hx => ?_)
 ·exact Nat.zero_le _
 obtain ⟨k, rfl⟩ : ∃ v, v = zz := ⟨_, rfl⟩
 replace hx : k ≤ x.length := hx
 have hw := fun h => wSum_succ wTx x k h
 show Ok _ _ _ _ _ (⟨[(1, .box 1 0), (2, .box 2 0), (3, .box 3 0), (4, .one (.dv [] (.int .i64 ((k : Int)))))], [(1, 73, [(.dv [] (txsD (x)))]), (2, 73, [.nil]), (3, 73, [(.key 31)])], [(31, some (kcOf false (.sl 109 5 ((x.take k).length) ((x.take k).flatMap eTx))))]⟩ : St)
 iterate 8 refine z ?_
 refine yQ rfl (fun c1 => ?_) fun c1 => ?_
 ·skip
  have d1 := of_decide_eq_true c1
  have hk2 : k < x.length := by omega
  obtain ⟨hw1, hw2⟩ := hw hk2
  have hwt : wTx (x.getD (k : Int).toNat default) = wList wOp (x.getD (k : Int).toNat default).2.1 + wList wStore (x.getD (k : Int).toNat default).2.2.2.2 := rfl
  iterate 20 refine z ?_
  refine zK 25000 Tryz.call115 ?_ (hf := ok_spec_l9Copy (x := (((x)).getD ((k : Int)).toNat default).2.1) (by omega))
  iterate 10 refine z ?_
  refine zK 33000 Tryz.call116 ?_ (hf := ok_spec_l10Stores (x := (((x)).getD ((k : Int)).toNat default).2.2.2.2) (by omega))
  iterate 3 refine z ?_
  refine ok_region ?_
  iterate 3 refine z ?_
  refine o_build1 (k := 38) (js := [25006, 33005]) hT rfl rfl rfl rfl rfl rfl rfl rfl rfl (ev_tmp rfl) rfl rfl (ow_cons' (ow_dv rfl) (ow_cons' (ow_key rfl) (ow_cons' (ow_dv rfl) (ow_cons' (ow_dv rfl) (ow_cons' (ow_key rfl) ow_nil rfl) rfl) rfl) rfl) rfl) (by decide) (by decide) rfl rfl ?_
  simp only [killT, killB, SV.kill, CV.kill, kk, Nat.reduceBEq]
  refine o_appK (k := 31) (j := 38) (cs := (x.take (k + 1)).flatMap eTx) (n := (x.take (k + 1)).length) hT rfl rfl rfl rfl rfl rfl rfl (ev_tmp rfl) rfl rfl rfl (ev_tmp rfl) rfl rfl (by decide) (by dsimp only [kcOf]; simp only [List.length_take]; omega) (by dsimp only [kcOf]; simp only [List.length_take]; omega) ((take_csG (enc := eTx) hk2).2) ((take_csG (enc := eTx) hk2).1) ?_
  simp only [killT, killB, SV.kill, CV.kill, kk, Nat.reduceBEq]
  iterate 2 refine z ?_
  refine ops_nil ?_
  iterate 2 refine z ?_
  refine ok_region ?_
  iterate 4 refine z ?_
  refine ⟨k + 1, ?_, ?_, weak_sub ⟨rfl, rfl, rfl, rfl, trivial⟩ ⟨rfl, rfl, rfl, trivial⟩ ⟨rfl, trivial⟩ rfl⟩
  ·omega
  ·omega
 ·skip
  have d1 := of_decide_eq_false c1
  iterate 9 refine z ?_
  refine ok_weak (σ' := ⟨[(2, .box 2 0)], [(2, 73, [(.key 31)])], [(31, some (kcOf false (txsD (x))))]⟩) (weak_sub ⟨rfl, trivial⟩ ⟨rfl, trivial⟩ ⟨(congrArg (fun l : List (TxT) => some (some (KC.mk false 109 5 l.length (l.flatMap eTx)))) (List.take_of_length_le (by omega))), trivial⟩ rfl) ?_
  refine z ?_
  refine fin1 (res_cell hT rfl rfl rfl rfl) ?_
  exact ⟨rfl, rfl⟩
theorem ok_impl_copyDatabase {x : DbT} (hb : wDatabase x ≤ 1099511627776) : KFn Tryz.prog 49 [.agg [(.dv [] (.str (x.1))), (.dv [] (.int .i64 (x.2.1))), (.dv [] (storesD (x.2.2.1))), (.dv [] (defsD (x.2.2.2)))]] (.agg [(.dv [] (.str (x.1))), (.dv [] (.int .i64 (x.2.1))), (.key 31), (.key 900)]) [(31, some (kcOf false (storesD (x.2.2.1)))), (900, some (kcOf false (defsD (x.2.2.2))))] := by
 refine ⟨fn_intro Tryz.func49 rfl Tryz.ntmps49 Tryz.results49 rfl (fun C => ?_)⟩
 have hwd : wDatabase x = x.1.size + wList wStore x.2.2.1 + wList wIndexDef x.2.2.2 := rfl
 have hwl : wList wStore x.2.2.1 = x.2.2.1.length + wSum wStore x.2.2.1 := rfl
 have hwi : wList wIndexDef x.2.2.2 = x.2.2.2.length + wSum wIndexDef x.2.2.2 := rfl
 refine yF 0 0 rfl rfl fun f0_0 => ?_
 refine yF 0 1 rfl rfl fun f0_1 => ?_
 refine yF 0 2 rfl rfl fun f0_2 => ?_
 refine yF 0 3 rfl rfl fun f0_3 => ?_
 iterate 4 refine z ?_
 refine ok_cutS (σ' := ⟨[(1, .box 1 0), (2, .box 2 0), (3, .box 3 0)], [(1, 38, [(.dv [] (.str (x.1))), (.dv [] (.int .i64 (x.2.1))), (.dv [] (storesD (x.2.2.1))), (.dv [] (defsD (x.2.2.2)))]), (2, 38, [(.dv [] (.str (ByteArray.empty))), (.dv [] (.int .i64 (0))), .nil, .nil]), (3, 38, [(.dv [] (.str (x.1))), (.dv [] (.int .i64 (x.2.1))), .nil, (.key 900)])], [(900, some (kcOf false (.sl 127 2 ((x.2.2.2).length) ((x.2.2.2).flatMap eDef))))]⟩) ?_ ?_
 ·skip
  refine ok_regionH [0, 1, 2, 3, 4, 5, 6, 7, 8, 9] (oB := [1, 2]) (oK := []) (by kernel_rfl) rfl rfl ?_
  refine n_start ?_
  refine zN 0 ?_
  refine zN 1 ?_
  refine zN 2 ?_
  refine zN 3 ?_
  refine zN 5 ?_
  refine zN 6 ?_
  refine n_split 4 [9] (by kernel_rfl) ⟨?_, ?_, trivial⟩
  ·skip
   refine nj_build0 (k := 900) 4 hT rfl rfl rfl rfl rfl rfl rfl rfl rfl rfl rfl rfl ?_
   refine n_split 7 [9] (by kernel_rfl) ⟨?_, ?_, trivial⟩
   ·skip
    refine nj_appV (k := 900) (cs := (x.2.2.2).flatMap eDef) (n := (x.2.2.2).length) 7 hT rfl rfl rfl rfl rfl rfl rfl rfl (ev_tmp rfl) rfl rfl rfl (ev_tmp rfl) (plain_flat (fun _ => rfl) _) (by first | (dsimp only [kcOf]; omega) | omega) (by first | (dsimp only [kcOf]; omega) | omega) (Nat.zero_add _) (rfl) rfl rfl ?_
    simp only [killT, killB, SV.kill, CV.kill, kk, Nat.reduceBEq]
    refine n_take 8 rfl (by kernel_rfl) rfl rfl (pu_build hT hB rfl rfl rfl (bp_cons (ev_tmp rfl) rfl rfl rfl rfl rfl (bp_cons (ev_tmp rfl) rfl rfl rfl rfl rfl (bp_cons (ev_tmp rfl) rfl rfl rfl rfl rfl bp_nil)))) rfl rfl rfl rfl ?_
    refine n_split 9 [] (by kernel_rfl) ⟨?_, trivial⟩
    ·skip
     refine nj_alloc 9 hT rfl rfl rfl rfl rfl rfl rfl rfl rfl rfl ?_
     refine n_split 10 [] (by kernel_rfl) ⟨?_, trivial⟩
     ·skip
      refine nj_last 10 rfl rfl (by kernel_rfl) (ef_storeBox hT rfl rfl rfl (ev_tmp rfl) (ev_tmp rfl) rfl rfl rfl rfl rfl rfl) (by kernel_rfl) ?_
      exact then_n (weak_sub ⟨rfl, rfl, rfl, trivial⟩ ⟨rfl, rfl, rfl, trivial⟩ ⟨rfl, trivial⟩ rfl)
   ·skip
    refine nj_alloc 9 hT rfl rfl rfl rfl rfl rfl rfl rfl rfl rfl ?_
    refine n_split 7 [] (by kernel_rfl) ⟨?_, trivial⟩
    ·skip
     refine nj_appV (k := 900) (cs := (x.2.2.2).flatMap eDef) (n := (x.2.2.2).length) 7 hT rfl rfl rfl rfl rfl rfl rfl rfl (ev_tmp rfl) rfl rfl rfl (ev_tmp rfl) (plain_flat (fun _ => rfl) _) (by first | (dsimp only [kcOf]; omega) | omega) (by first | (dsimp only [kcOf]; omega) | omega) (Nat.zero_add _) (rfl) rfl rfl ?_
     simp only [killT, killB, SV.kill, CV.kill, kk, Nat.reduceBEq]
     refine n_take 8 rfl (by kernel_rfl) rfl rfl (pu_build hT hB rfl rfl rfl (bp_cons (ev_tmp rfl) rfl rfl rfl rfl rfl (bp_cons (ev_tmp rfl) rfl rfl rfl rfl rfl (bp_cons (ev_tmp rfl) rfl rfl rfl rfl rfl bp_nil)))) rfl rfl rfl rfl ?_
     refine n_split 10 [] (by kernel_rfl) ⟨?_, trivial⟩
     ·skip
      refine nj_last 10 rfl rfl (by kernel_rfl) (ef_storeBox hT rfl rfl rfl (ev_tmp rfl) (ev_tmp rfl) rfl rfl rfl rfl rfl rfl) (by kernel_rfl) ?_
      exact then_n (weak_sub ⟨rfl, rfl, rfl, trivial⟩ ⟨rfl, rfl, rfl, trivial⟩ ⟨rfl, trivial⟩ rfl)
  ·skip
   refine nj_alloc 9 hT rfl rfl rfl rfl rfl rfl rfl rfl rfl rfl ?_
   refine n_split 4 [] (by kernel_rfl) ⟨?_, trivial⟩
   ·skip
    refine nj_build0 (k := 900) 4 hT rfl rfl rfl rfl rfl rfl rfl rfl rfl rfl rfl rfl ?_
    refine n_split 7 [] (by kernel_rfl) ⟨?_, trivial⟩
    ·skip
     refine nj_appV (k := 900) (cs := (x.2.2.2).flatMap eDef) (n := (x.2.2.2).length) 7 hT rfl rfl rfl rfl rfl rfl rfl rfl (ev_tmp rfl) rfl rfl rfl (ev_tmp rfl) (plain_flat (fun _ => rfl) _) (by first | (dsimp only [kcOf]; omega) | omega) (by first | (dsimp only [kcOf]; omega) | omega) (Nat.zero_add _) (rfl) rfl rfl ?_
     simp only [killT, killB, SV.kill, CV.kill, kk, Nat.reduceBEq]
     refine n_take 8 rfl (by kernel_rfl) rfl rfl (pu_build hT hB rfl rfl rfl (bp_cons (ev_tmp rfl) rfl rfl rfl rfl rfl (bp_cons (ev_tmp rfl) rfl rfl rfl rfl rfl (bp_cons (ev_tmp rfl) rfl rfl rfl rfl rfl bp_nil)))) rfl rfl rfl rfl ?_
     refine n_split 10 [] (by kernel_rfl) ⟨?_, trivial⟩
     ·skip
      refine nj_last 10 rfl rfl (by kernel_rfl) (ef_storeBox hT rfl rfl rfl (ev_tmp rfl) (ev_tmp rfl) rfl rfl rfl rfl rfl rfl) (by kernel_rfl) ?_
      exact then_n (weak_sub ⟨rfl, rfl, rfl, trivial⟩ ⟨rfl, rfl, rfl, trivial⟩ ⟨rfl, trivial⟩ rfl)
 refine ok_seq ?_
 refine ok_seq ?_
 refine ok_weak (weak_nilB 31 (b := 3) (i := 2) (e := 91) (sz := 3) rfl rfl rfl rfl rfl) ?_
 simp only [killT, killB, SV.kill, CV.kill, kk, Nat.reduceBEq]
 refine ok_region ?_
 iterate 6 refine z ?_
 refine ok_loop (ι := Nat) (fun zz => ⟨[(2, .box 2 0), (3, .box 3 0), (16, .one (.dv [] (storesD (x.2.2.1)))), (17, .one (.dv [] (.int .i64 ((((x.2.2.1)).length : Int))))), (18, .one (.dv [] (.int .i64 ((zz : Int)))))], [(1, 38, [(.dv [] (.str (x.1))), (.dv [] (.int .i64 (x.2.1))), (.dv [] (storesD (x.2.2.1))), (.dv [] (defsD (x.2.2.2)))]), (2, 38, [(.dv [] (.str (ByteArray.empty))), (.dv [] (.int .i64 (0))), .nil, .nil]), (3, 38, [(.dv [] (.str (x.1))), (.dv [] (.int .i64 (x.2.1))), (.key 31), (.key 900)])], [(31, some (kcOf false (.sl 91 3 ((x.2.2.1.take zz).length) ((x.2.2.1.take zz).flatMap eStore)))), (900, some (kcOf false (.sl 127 2 ((x.2.2.2).length) ((x.2.2.2).flatMap eDef))))]⟩) (fun zz => zz ≤ x.2.2.1.length) (fun zz => x.2.2.1.length - zz) (0) ?_ (weak_sub ⟨rfl, rfl, rfl, rfl, rfl, trivial⟩ ⟨rfl, rfl, rfl, trivial⟩ ⟨rfl, rfl, trivial⟩ rfl) (fun zz hx => ?_)
 ·exact Nat.zero_le _
 obtain ⟨k, rfl⟩ : ∃ v, v = zz := ⟨_, rfl⟩
 replace hx : k ≤ x.2.2.1.length := hx
 have hw := fun h => wSum_succ wStore x.2.2.1 k h
 show Ok _ _ _ _ _ (⟨[(2, .box 2 0), (3, .box 3 0), (16, .one (.dv [] (storesD (x.2.2.1)))), (17, .one (.dv [] (.int .i64 ((((x.2.2.1)).length : Int))))), (18, .one (.dv [] (.int .i64 ((k : Int)))))], [(1, 38, [(.dv [] (.str (x.1))), (.dv [] (.int .i64 (x.2.1))), (.dv [] (storesD (x.2.2.1))), (.dv [] (defsD (x.2.2.2)))]), (2, 38, [(.dv [] (.str (ByteArray.empty))), (.dv [] (.int .i64 (0))), .nil, .nil]), (3, 38, [(.dv [] (.str (x.1))), (.dv [] (.int .i64 (x.2.1))), (.key 31), (.key 900)])], [(31, some (kcOf false (.sl 91 3 ((x.2.2.1.take k).length) ((x.2.2.1.take k).flatMap eStore)))), (900, some (kcOf false (.sl 127 2 ((x.2.2.2).length) ((x.2.2.2).flatMap eDef))))]⟩ : St)
 iterate 3 refine z ?_
 refine ok_seq ?_
 refine yQ rfl (fun c1 => ?_) fun c1 => ?_
 ·skip
  have d1 := of_decide_eq_true c1
  have hk2 : k < x.2.2.1.length := by omega
  obtain ⟨hw1, hw2⟩ := hw hk2
  iterate 10 refine z ?_
  refine ok_regionH [0, 1, 2, 3, 4] (oB := [1, 2, 3, 5]) (oK := [31, 900]) (by kernel_rfl) rfl rfl ?_
  refine zD 0 ?_
  refine zD 1 ?_
  refine zD 2 ?_
  refine d_callK 25000 3 rfl (by kernel_rfl) rfl rfl rfl Tryz.call74 (ok_impl_copyStore (x := (((x.2.2.1)).getD ((k : Int)).toNat default)) (by omega)) (as_cons (ev_tmp rfl) (ag_agg (ag_cons ac_dv (ag_cons ac_dv (ag_cons ac_dv ag_nil)))) as_nil) rfl rfl rfl rfl rfl ?_
  refine d_build1 (k := 26) (js := [25030]) 4 hT rfl (by kernel_rfl) rfl rfl rfl rfl rfl rfl rfl rfl rfl (ev_tmp rfl) rfl rfl (ow_cons' (ow_dv rfl) (ow_cons' (ow_key rfl) (ow_cons' (ow_dv rfl) ow_nil rfl) rfl) rfl) (by decide) (by decide) rfl rfl (by decide) ?_
  simp only [killT, killB, SV.kill, CV.kill, kk, Nat.reduceBEq]
  refine d_chain [5, 6, 7] rfl rfl (by kernel_rfl) ?_
  refine o_appK (k := 31) (j := 26) (cs := (x.2.2.1.take (k + 1)).flatMap eStore) (n := (x.2.2.1.take (k + 1)).length) hT rfl rfl rfl rfl rfl rfl rfl (ev_tmp rfl) rfl rfl rfl (ev_tmp rfl) rfl rfl (by decide) (by dsimp only [kcOf]; simp only [List.length_take]; omega) (by dsimp only [kcOf]; simp only [List.length_take]; omega) ((take_csG (enc := eStore) hk2).2) ((take_csG (enc := eStore) hk2).1) ?_
  simp only [killT, killB, SV.kill, CV.kill, kk, Nat.reduceBEq]
  iterate 2 refine z ?_
  refine ops_nil ?_
  iterate 2 refine z ?_
  refine ok_region ?_
  iterate 3 refine z ?_
  refine ⟨k + 1, ?_, ?_, weak_sub ⟨rfl, rfl, rfl, rfl, rfl, trivial⟩ ⟨rfl, rfl, rfl, trivial⟩ ⟨rfl, rfl, trivial⟩ rfl⟩
  ·omega
  ·omega
 ·skip
  have d1 := of_decide_eq_false c1
  iterate 9 refine z ?_
  refine ok_weak (σ' := ⟨[(2, .box 2 0)], [(2, 38, [(.dv [] (.str (x.1))), (.dv [] (.int .i64 (x.2.1))), (.key 31), (.key 900)])], [(31, some (kcOf false (storesD (x.2.2.1)))), (900, some (kcOf false (defsD (x.2.2.2))))]⟩) (weak_sub ⟨rfl, trivial⟩ ⟨rfl, trivial⟩ ⟨(congrArg (fun l : List (StoreT) => some (some (KC.mk false 91 3 l.length (l.flatMap eStore)))) (List.take_of_length_le (by omega))), rfl, trivial⟩ rfl) ?_
  refine z ?_
  refine fin1 (res_cell hT rfl rfl rfl rfl) ?_
  exact ⟨rfl, rfl⟩
theorem ok_spec_l8Copy {x : DbT} (hb : wDatabase x ≤ 1099511627776) : KFn Tryz.prog 40 [.agg [(.dv [] (.str (x.1))), (.dv [] (.int .i64 (x.2.1))), (.dv [] (storesD (x.2.2.1))), (.dv [] (defsD (x.2.2.2)))]] (.agg [(.dv [] (.str (x.1))), (.dv [] (.int .i64 (x.2.1))), (.key 31), (.key 900)]) [(31, some (kcOf false (storesD (x.2.2.1)))), (900, some (kcOf false (defsD (x.2.2.2))))] := by
 refine ⟨fn_intro Tryz.func40 rfl Tryz.ntmps40 Tryz.results40 rfl (fun C => ?_)⟩
 have hwd : wDatabase x = x.1.size + wList wStore x.2.2.1 + wList wIndexDef x.2.2.2 := rfl
 have hwl : wList wStore x.2.2.1 = x.2.2.1.length + wSum wStore x.2.2.1 := rfl
 have hwi : wList wIndexDef x.2.2.2 = x.2.2.2.length + wSum wIndexDef x.2.2.2 := rfl
 refine yF 0 0 rfl rfl fun f0_0 => ?_
 refine yF 0 1 rfl rfl fun f0_1 => ?_
 refine yF 0 2 rfl rfl fun f0_2 => ?_
 refine yF 0 3 rfl rfl fun f0_3 => ?_
 iterate 4 refine z ?_
 refine ok_cutS (σ' := ⟨[(1, .box 1 0), (2, .box 2 0), (3, .box 3 0)], [(1, 38, [(.dv [] (.str (x.1))), (.dv [] (.int .i64 (x.2.1))), (.dv [] (storesD (x.2.2.1))), (.dv [] (defsD (x.2.2.2)))]), (2, 38, [(.dv [] (.str (ByteArray.empty))), (.dv [] (.int .i64 (0))), .nil, .nil]), (3, 38, [(.dv [] (.str (x.1))), (.dv [] (.int .i64 (x.2.1))), .nil, (.key 900)])], [(900, some (kcOf false (.sl 127 2 ((x.2.2.2).length) ((x.2.2.2).flatMap eDef))))]⟩) ?_ ?_
 ·skip
  refine ok_regionH [0, 1, 2, 3, 4, 5, 6, 7, 8, 9] (oB := [1, 2]) (oK := []) (by kernel_rfl) rfl rfl ?_
  refine n_start ?_
  refine zN 0 ?_
  refine zN 1 ?_
  refine zN 2 ?_
  refine zN 3 ?_
  refine zN 5 ?_
  refine zN 6 ?_
  refine n_split 4 [9] (by kernel_rfl) ⟨?_, ?_, trivial⟩
  ·skip
   refine nj_build0 (k := 900) 4 hT rfl rfl rfl rfl rfl rfl rfl rfl rfl rfl rfl rfl ?_
   refine n_split 7 [9] (by kernel_rfl) ⟨?_, ?_, trivial⟩
   ·skip
    refine nj_appV (k := 900) (cs := (x.2.2.2).flatMap eDef) (n := (x.2.2.2).length) 7 hT rfl rfl rfl rfl rfl rfl rfl rfl (ev_tmp rfl) rfl rfl rfl (ev_tmp rfl) (plain_flat (fun _ => rfl) _) (by first | (dsimp only [kcOf]; omega) | omega) (by first | (dsimp only [kcOf]; omega) | omega) (Nat.zero_add _) (rfl) rfl rfl ?_
    simp only [killT, killB, SV.kill, CV.kill, kk, Nat.reduceBEq]
    refine n_take 8 rfl (by kernel_rfl) rfl rfl (pu_build hT hB rfl rfl rfl (bp_cons (ev_tmp rfl) rfl rfl rfl rfl rfl (bp_cons (ev_tmp rfl) rfl rfl rfl rfl rfl (bp_cons (ev_tmp rfl) rfl rfl rfl rfl rfl bp_nil)))) rfl rfl rfl rfl ?_
    refine n_split 9 [] (by kernel_rfl) ⟨?_, trivial⟩
    ·skip
     refine nj_alloc 9 hT rfl rfl rfl rfl rfl rfl rfl rfl rfl rfl ?_
     refine n_split 10 [] (by kernel_rfl) ⟨?_, trivial⟩
     ·skip
      refine nj_last 10 rfl rfl (by kernel_rfl) (ef_storeBox hT rfl rfl rfl (ev_tmp rfl) (ev_tmp rfl) rfl rfl rfl rfl rfl rfl) (by kernel_rfl) ?_
      exact then_n (weak_sub ⟨rfl, rfl, rfl, trivial⟩ ⟨rfl, rfl, rfl, trivial⟩ ⟨rfl, trivial⟩ rfl)
   ·skip
    refine nj_alloc 9 hT rfl rfl rfl rfl rfl rfl rfl rfl rfl rfl ?_
    refine n_split 7 [] (by kernel_rfl) ⟨?_, trivial⟩
    ·skip
     refine nj_appV (k := 900) (cs := (x.2.2.2).flatMap eDef) (n := (x.2.2.2).length) 7 hT rfl rfl rfl rfl rfl rfl rfl rfl (ev_tmp rfl) rfl rfl rfl (ev_tmp rfl) (plain_flat (fun _ => rfl) _) (by first | (dsimp only [kcOf]; omega) | omega) (by first | (dsimp only [kcOf]; omega) | omega) (Nat.zero_add _) (rfl) rfl rfl ?_
     simp only [killT, killB, SV.kill, CV.kill, kk, Nat.reduceBEq]
     refine n_take 8 rfl (by kernel_rfl) rfl rfl (pu_build hT hB rfl rfl rfl (bp_cons (ev_tmp rfl) rfl rfl rfl rfl rfl (bp_cons (ev_tmp rfl) rfl rfl rfl rfl rfl (bp_cons (ev_tmp rfl) rfl rfl rfl rfl rfl bp_nil)))) rfl rfl rfl rfl ?_
     refine n_split 10 [] (by kernel_rfl) ⟨?_, trivial⟩
     ·skip
      refine nj_last 10 rfl rfl (by kernel_rfl) (ef_storeBox hT rfl rfl rfl (ev_tmp rfl) (ev_tmp rfl) rfl rfl rfl rfl rfl rfl) (by kernel_rfl) ?_
      exact then_n (weak_sub ⟨rfl, rfl, rfl, trivial⟩ ⟨rfl, rfl, rfl, trivial⟩ ⟨rfl, trivial⟩ rfl)
  ·skip
   refine nj_alloc 9 hT rfl rfl rfl rfl rfl rfl rfl rfl rfl rfl ?_
   refine n_split 4 [] (by kernel_rfl) ⟨?_, trivial⟩
   ·skip
    refine nj_build0 (k := 900) 4 hT rfl rfl rfl rfl rfl rfl rfl rfl rfl rfl rfl rfl ?_
    refine n_split 7 [] (by kernel_rfl) ⟨?_, trivial⟩
    ·skip
     refine nj_appV (k := 900) (cs := (x.2.2.2).flatMap eDef) (n := (x.2.2.2).length) 7 hT rfl rfl rfl rfl rfl rfl rfl rfl (ev_tmp rfl) rfl rfl rfl (ev_tmp rfl) (plain_flat (fun _ => rfl) _) (by first | (dsimp only [kcOf]; omega) | omega) (by first | (dsimp only [kcOf]; omega) | omega) (Nat.zero_add _) (rfl) rfl rfl ?_
     simp only [killT, killB, SV.kill, CV.kill, kk, Nat.reduceBEq]
     refine n_take 8 rfl (by kernel_rfl) rfl rfl (pu_build hT hB rfl rfl rfl (bp_cons (ev_tmp rfl) rfl rfl rfl rfl rfl (bp_cons (ev_tmp rfl) rfl rfl rfl rfl rfl (bp_cons (ev_tmp rfl) rfl rfl rfl rfl rfl bp_nil)))) rfl rfl rfl rfl ?_
     refine n_split 10 [] (by kernel_rfl) ⟨?_, trivial⟩
     ·skip
      refine nj_last 10 rfl rfl (by kernel_rfl) (ef_storeBox hT rfl rfl rfl (ev_tmp rfl) (ev_tmp rfl) rfl rfl rfl rfl rfl rfl) (by kernel_rfl) ?_
      exact then_n (weak_sub ⟨rfl, rfl, rfl, trivial⟩ ⟨rfl, rfl, rfl, trivial⟩ ⟨rfl, trivial⟩ rfl)
 refine ok_seq ?_
 refine ok_seq ?_
 refine ok_weak (weak_nilB 31 (b := 3) (i := 2) (e := 91) (sz := 3) rfl rfl rfl rfl rfl) ?_
 simp only [killT, killB, SV.kill, CV.kill, kk, Nat.reduceBEq]
 refine ok_region ?_
 iterate 3 refine z ?_
 refine ok_loop (ι := Nat) (fun zz => ⟨[(1, .box 1 0), (2, .box 2 0), (3, .box 3 0), (4, .one (.dv [] (.int .i64 ((zz : Int)))))], [(1, 38, [(.dv [] (.str (x.1))), (.dv [] (.int .i64 (x.2.1))), (.dv [] (storesD (x.2.2.1))), (.dv [] (defsD (x.2.2.2)))]), (2, 38, [(.dv [] (.str (ByteArray.empty))), (.dv [] (.int .i64 (0))), .nil, .nil]), (3, 38, [(.dv [] (.str (x.1))), (.dv [] (.int .i64 (x.2.1))), (.key 31), (.key 900)])], [(31, some (kcOf false (.sl 91 3 ((x.2.2.1.take zz).length) ((x.2.2.1.take zz).flatMap eStore)))), (900, some (kcOf false (.sl 127 2 ((x.2.2.2).length) ((x.2.2.2).flatMap eDef))))]⟩) (fun zz => zz ≤ x.2.2.1.length) (fun zz => x.2.2.1.length - zz) (0) ?_ (weak_sub ⟨rfl, rfl, rfl, rfl, trivial⟩ ⟨rfl, rfl, rfl, trivial⟩ ⟨rfl, rfl, trivial⟩ rfl) (fun zz hx => ?_)
 ·exact Nat.zero_le _
 obtain ⟨k, rfl⟩ : ∃ v, v = zz := ⟨_, rfl⟩
 replace hx : k ≤ x.2.2.1.length := hx
 have hw := fun h => wSum_succ wStore x.2.2.1 k h
 show Ok _ _ _ _ _ (⟨[(1, .box 1 0), (2, .box 2 0), (3, .box 3 0), (4, .one (.dv [] (.int .i64 ((k : Int)))))], [(1, 38, [(.dv [] (.str (x.1))), (.dv [] (.int .i64 (x.2.1))), (.dv [] (storesD (x.2.2.1))), (.dv [] (defsD (x.2.2.2)))]), (2, 38, [(.dv [] (.str (ByteArray.empty))), (.dv [] (.int .i64 (0))), .nil, .nil]), (3, 38, [(.dv [] (.str (x.1))), (.dv [] (.int .i64 (x.2.1))), (.key 31), (.key 900)])], [(31, some (kcOf false (.sl 91 3 ((x.2.2.1.take k).length) ((x.2.2.1.take k).flatMap eStore)))), (900, some (kcOf false (.sl 127 2 ((x.2.2.2).length) ((x.2.2.2).flatMap eDef))))]⟩ : St)
 iterate 8 refine z ?_
 refine yQ rfl (fun c1 => ?_) fun c1 => ?_
 ·skip
  have d1 := of_decide_eq_true c1
  have hk2 : k < x.2.2.1.length := by omega
  obtain ⟨hw1, hw2⟩ := hw hk2
  iterate 4 refine z ?_
  refine ok_regionH [0, 1, 2, 3, 4, 5, 6, 7, 8] (oB := [1, 2, 3]) (oK := [31, 900]) (by kernel_rfl) rfl rfl ?_
  refine zD 0 ?_
  refine zD 1 ?_
  refine zD 2 ?_
  refine zD 3 ?_
  refine zD 4 ?_
  refine zD 5 ?_
  refine zD 6 ?_
  refine d_callK 28000 7 rfl (by kernel_rfl) rfl rfl rfl Tryz.call79 (ok_spec_l6Copy (x := (((x.2.2.1)).getD ((k : Int)).toNat default)) (by omega)) (as_cons (ev_tmp rfl) (ag_agg (ag_cons ac_dv (ag_cons ac_dv (ag_cons ac_dv ag_nil)))) as_nil) rfl rfl rfl rfl rfl ?_
  refine d_build1 (k := 29) (js := [28030]) 8 hT rfl (by kernel_rfl) rfl rfl rfl rfl rfl rfl rfl rfl rfl (ev_tmp rfl) rfl rfl (ow_cons' (ow_dv rfl) (ow_cons' (ow_key rfl) (ow_cons' (ow_dv rfl) ow_nil rfl) rfl) rfl) (by decide) (by decide) rfl rfl (by decide) ?_
  simp only [killT, killB, SV.kill, CV.kill, kk, Nat.reduceBEq]
  refine d_chain [9, 10, 11] rfl rfl (by kernel_rfl) ?_
  refine o_appK (k := 31) (j := 29) (cs := (x.2.2.1.take (k + 1)).flatMap eStore) (n := (x.2.2.1.take (k + 1)).length) hT rfl rfl rfl rfl rfl rfl rfl (ev_tmp rfl) rfl rfl rfl (ev_tmp rfl) rfl rfl (by decide) (by dsimp only [kcOf]; simp only [List.length_take]; omega) (by dsimp only [kcOf]; simp only [List.length_take]; omega) ((take_csG (enc := eStore) hk2).2) ((take_csG (enc := eStore) hk2).1) ?_
  simp only [killT, killB, SV.kill, CV.kill, kk, Nat.reduceBEq]
  iterate 2 refine z ?_
  refine ops_nil ?_
  iterate 2 refine z ?_
  refine ok_region ?_
  iterate 4 refine z ?_
  refine ⟨k + 1, ?_, ?_, weak_sub ⟨rfl, rfl, rfl, rfl, trivial⟩ ⟨rfl, rfl, rfl, trivial⟩ ⟨rfl, rfl, trivial⟩ rfl⟩
  ·omega
  ·omega
 ·skip
  have d1 := of_decide_eq_false c1
  iterate 9 refine z ?_
  refine ok_weak (σ' := ⟨[(2, .box 2 0)], [(2, 38, [(.dv [] (.str (x.1))), (.dv [] (.int .i64 (x.2.1))), (.key 31), (.key 900)])], [(31, some (kcOf false (storesD (x.2.2.1)))), (900, some (kcOf false (defsD (x.2.2.2))))]⟩) (weak_sub ⟨rfl, trivial⟩ ⟨rfl, trivial⟩ ⟨(congrArg (fun l : List (StoreT) => some (some (KC.mk false 91 3 l.length (l.flatMap eStore)))) (List.take_of_length_le (by omega))), rfl, trivial⟩ rfl) ?_
  refine z ?_
  refine fin1 (res_cell hT rfl rfl rfl rfl) ?_
  exact ⟨rfl, rfl⟩
end Go.Proofs.YtmgijbhikmjfjaaGreat

namespace Go.Proofs.YtmgijbhikmjfjaaGreat
open Go.RowKit
open Go.Proofs
set_option linter.unusedVariables false
set_option linter.unusedSimpArgs false

section
variable {α : Type} {enc : α → List DV} {sz : Nat} {q : α → Bool} {x : List α}
theorem fl_len (hs : ∀ y, (enc y).length = sz) : ∀ xs : List α, (xs.flatMap enc).length = xs.length * sz
 | [] => by simp
 | y :: xs => by rw [List.flatMap_cons, List.length_append, fl_len hs xs, hs, List.length_cons, Nat.add_mul, Nat.one_mul, Nat.add_comm]
theorem findI_cases {p : α → Bool} {d : α} : ∀ (xs : List α) (i : Int), 0 ≤ i → (findI p xs i = -1 ∧ xs.any p = false) ∨ ∃ m, m < xs.length ∧ findI p xs i = i + (m : Int) ∧ (xs.take m).any p = false ∧ p (xs.getD m d) = true
 | [], i, h => .inl ⟨rfl, rfl⟩
 | y :: xs, i, h => by
  rw [findI]
  by_cases hp : p y = true
  ·rw [if_pos hp]
   exact .inr ⟨0, by simp, by simp, by simp, by simpa using hp⟩
  ·rw [if_neg hp]
   rcases findI_cases (p := p) (d := d) xs (i + 1) (by omega) with ⟨h1, h2⟩ | ⟨m, h1, h2, h3, h4⟩
   ·exact .inl ⟨h1, by simp [h2, hp]⟩
   ·exact .inr ⟨m + 1, by simpa using h1, by rw [h2]; omega, by simp [h3, hp], by simpa using h4⟩
def delC (enc : α → List DV) (q : α → Bool) (x : List α) (k : Nat) (G : List DV) : List DV := ((x.take k).filter q).flatMap enc ++ (G ++ (x.drop k).flatMap enc)
theorem delC_len (hs : ∀ y, (enc y).length = sz) {i k : Nat} {G : List DV} (hi : i = ((x.take k).filter q).length) (hG : G.length + i * sz = k * sz) (hk : k ≤ x.length) : (delC enc q x k G).length = x.length * sz := by
 have e : (x.length - k) * sz + k * sz = x.length * sz := by rw [← Nat.add_mul]; congr 1; omega
 rw [delC, List.length_append, List.length_append, fl_len hs, fl_len hs, ← hi, List.length_drop]
 omega
theorem delC_sub (hs : ∀ y, (enc y).length = sz) {i k : Nat} {G : List DV} [Inhabited α] (hi : i = ((x.take k).filter q).length) (hG : G.length + i * sz = k * sz) (hk : k < x.length) : sub (k * sz) sz (delC enc q x k G) = enc (x.getD k default) := by
 have e : x.drop k = x.getD k default :: x.drop (k + 1) := by rw [List.drop_eq_getElem_cons hk]; simp [List.getD, List.getElem?_eq_getElem hk]
 rw [delC, ← List.append_assoc, e, List.flatMap_cons, sub, List.drop_left' (by rw [List.length_append, fl_len hs, ← hi]; omega), List.take_left' (hs _)]
theorem delC_mv (hs : ∀ y, (enc y).length = sz) {i k : Nat} {G : List DV} [Inhabited α] (hi : i = ((x.take k).filter q).length) (hG : G.length + i * sz = k * sz) (hk : k < x.length) (hik : i < k) (hq : q (x.getD k default) = true) :
  setR (i * sz) (enc (x.getD k default)) (setR (k * sz) (List.replicate sz .hole) (delC enc q x k G)) = delC enc q x (k + 1) (G.drop sz ++ List.replicate sz .hole) := by
 have e : x.drop k = x.getD k default :: x.drop (k + 1) := by rw [List.drop_eq_getElem_cons hk]; simp [List.getD, List.getElem?_eq_getElem hk]
 have m1 : (i + 1) * sz ≤ k * sz := Nat.mul_le_mul_right _ hik
 rw [Nat.add_mul, Nat.one_mul] at m1
 have l1 : (((x.take k).filter q).flatMap enc).length = i * sz := by rw [fl_len hs, ← hi]
 have e1 : setR (k * sz) (List.replicate sz DV.hole) (delC enc q x k G) = ((x.take k).filter q).flatMap enc ++ (G.take sz ++ (G.drop sz ++ (List.replicate sz .hole ++ (x.drop (k + 1)).flatMap enc))) := by
  rw [delC, e, List.flatMap_cons, ← List.append_assoc, setR_mid3 (by rw [List.length_append, l1]; omega) (by simp [hs])]
  rw [List.append_assoc, ← List.append_assoc (G.take sz), List.take_append_drop]
 rw [e1, setR_mid3 l1.symm (by rw [hs, List.length_take]; omega), delC, List.take_add_one, List.getElem?_eq_getElem hk, List.filter_append, List.flatMap_append]
 have : x.getD k default = x[k] := by simp [List.getD, List.getElem?_eq_getElem hk]
 rw [this] at hq ⊢
 simp [hq]
theorem delC_no (hs : ∀ y, (enc y).length = sz) {k : Nat} {G : List DV} [Inhabited α] (hk : k < x.length) (hq : q (x.getD k default) = false) : delC enc q x k G = delC enc q x (k + 1) (G ++ enc (x.getD k default)) ∧ ((x.take (k + 1)).filter q).length = ((x.take k).filter q).length := by
 have e : x.drop k = x.getD k default :: x.drop (k + 1) := by rw [List.drop_eq_getElem_cons hk]; simp [List.getD, List.getElem?_eq_getElem hk]
 have : x.getD k default = x[k] := by simp [List.getD, List.getElem?_eq_getElem hk]
 have e2 : (x.take (k + 1)).filter q = (x.take k).filter q := by
  rw [List.take_add_one, List.getElem?_eq_getElem hk, List.filter_append]
  rw [this] at hq
  simp [hq]
 refine ⟨?_, by rw [e2]⟩
 rw [delC, delC, e2, e, List.flatMap_cons]
 simp
theorem delC_yes {k : Nat} [Inhabited α] (hk : k < x.length) (hq : q (x.getD k default) = true) : ((x.take (k + 1)).filter q).length = ((x.take k).filter q).length + 1 := by
 have : x.getD k default = x[k] := by simp [List.getD, List.getElem?_eq_getElem hk]
 rw [List.take_add_one, List.getElem?_eq_getElem hk, List.filter_append]
 rw [this] at hq
 simp [hq]
theorem delC_end (hs : ∀ y, (enc y).length = sz) {i k : Nat} {G : List DV} (hi : i = ((x.take k).filter q).length) (hG : G.length + i * sz = k * sz) (hk : k = x.length) : setR (i * sz) (List.replicate ((x.length - i) * sz) .hole) (delC enc q x k G) = (x.filter q).flatMap enc ++ List.replicate ((x.length - i) * sz) .hole := by
 subst hk
 rw [List.take_length] at hi
 have m : (x.length - i) * sz + i * sz = x.length * sz := by rw [← Nat.add_mul]; congr 1; have := List.length_filter_le q x; omega
 rw [delC, List.take_length, List.drop_length, List.flatMap_nil]
 have := setR_mid3 (A := (x.filter q).flatMap enc) (B := G) (us := List.replicate ((x.length - i) * sz) DV.hole) (D := []) (off := i * sz) (by rw [fl_len hs, hi]) (by simp; omega)
 simpa using this
theorem delC_cut (hs : ∀ y, (enc y).length = sz) {i : Nat} {H : List DV} (hi : i = (x.filter q).length) : ((x.filter q).flatMap enc ++ H).take (i * sz) = (x.filter q).flatMap enc := List.take_left' (by rw [fl_len hs, hi])
theorem delC_start {m : Nat} [Inhabited α] (hm : m < x.length) (h3 : (x.take m).any (fun y => !q y) = false) (h4 : q (x.getD m default) = false) : x.flatMap enc = delC enc q x (m + 1) (enc (x.getD m default)) ∧ m = ((x.take (m + 1)).filter q).length := by
 have e : x.drop m = x.getD m default :: x.drop (m + 1) := by rw [List.drop_eq_getElem_cons hm]; simp [List.getD, List.getElem?_eq_getElem hm]
 have this : x.getD m default = x[m] := by simp [List.getD, List.getElem?_eq_getElem hm]
 have e1 : (x.take m).filter q = x.take m := by
  rw [List.filter_eq_self]
  intro y hy
  rw [List.any_eq_false] at h3
  simpa using h3 y hy
 have e2 : (x.take (m + 1)).filter q = x.take m := by
  rw [List.take_add_one, List.getElem?_eq_getElem hm, List.filter_append, e1]
  rw [this] at h4
  simp [h4]
 refine ⟨?_, by rw [e2, List.length_take]; omega⟩
 rw [delC, e2, ← List.flatMap_cons, ← e, ← List.flatMap_append, List.take_append_drop]
theorem filt_none (h : x.any (fun y => !q y) = false) : x.filter q = x := by
 rw [List.filter_eq_self]
 intro y hy
 rw [List.any_eq_false] at h
 simpa using h y hy
end
def inIt (r : RangeT) (y : ItemT) : Bool := inRg y.1 r
def outIt (r : RangeT) (y : ItemT) : Bool := !inRg y.1 r
theorem inIt_out (r : RangeT) : (fun y => !outIt r y) = inIt r := by funext y; simp [outIt, inIt]
def delS (x : StoreT) (r : RangeT) : StoreT × Int := if isSto x then ((x.1, x.2.1.filter (outIt r), x.2.2), (x.2.1.length : Int) - ((x.2.1.filter (outIt r)).length : Int)) else (x, 0)
theorem flt_yes {p : ItemT → Bool} {xs : List ItemT} {k : Nat} (hk : k < xs.length) (h : p (xs.getD (k : Int).toNat default) = true) : ((xs.take k).filter p).flatMap eItem ++ eItem (xs.getD (k : Int).toNat default) = ((xs.take (k + 1)).filter p).flatMap eItem ∧ ((xs.take k).filter p).length + 1 = ((xs.take (k + 1)).filter p).length := by
 rw [filt_succ hk, if_pos h, List.flatMap_append, List.flatMap_cons, List.flatMap_nil, List.append_nil, List.length_append]
 exact ⟨rfl, rfl⟩
theorem flt_no {p : ItemT → Bool} {xs : List ItemT} {k : Nat} (hk : k < xs.length) (h : p (xs.getD (k : Int).toNat default) = false) : (xs.take k).filter p = (xs.take (k + 1)).filter p := by
 rw [filt_succ hk, if_neg (by rw [h]; simp), List.append_nil]
theorem delS_no {x : StoreT} {r : RangeT} (h : (!isSto x) = true) : delS x r = (x, 0) := by rw [delS, if_neg (by simpa using h)]
theorem delS_yes {x : StoreT} {r : RangeT} (h : (!isSto x) = false) : delS x r = ((x.1, x.2.1.filter (outIt r), x.2.2), (x.2.1.length : Int) - ((x.2.1.filter (outIt r)).length : Int)) := by rw [delS, if_pos (by simpa using h)]

theorem ok_impl_DeleteItems_1 {y : ItemT} {r : RangeT}  : PFn Tryz.prog 142 [.agg [(.dv [] (.int .i64 (y.1.1))), (.dv [] (.int .i64 (y.1.2.1))), (.dv [] (.str (y.1.2.2))), (.dv [] (fieldsD (y.2)))], .ref [] [.bool (r.1), .bool (r.2.1), .int .i64 (r.2.2.1.1), .int .i64 (r.2.2.1.2.1), .str (r.2.2.1.2.2), .int .i64 (r.2.2.2.1), .int .i64 (r.2.2.2.2.1), .str (r.2.2.2.2.2)]] (.one (.dv [] (.bool (inIt r y)))) := by
 refine ⟨fn_intro Tryz.func142 rfl Tryz.ntmps142 Tryz.results142 rfl (fun C => ?_)⟩
 refine yF 0 0 rfl rfl fun f0_0 => ?_
 refine yF 0 1 rfl rfl fun f0_1 => ?_
 refine yF 0 2 rfl rfl fun f0_2 => ?_
 refine yF 0 3 rfl rfl fun f0_3 => ?_
 iterate 8 refine z ?_
 refine zC Tryz.call143 ?_ (hf := ok_impl_InRangeOf)
 iterate 4 refine z ?_
 rfl
theorem ok_slices_IndexFunc_ItemDel {x : List ItemT} {r : RangeT}  : PFn Tryz.prog 137 [.one (.dv [] (itemsD (x))), .fn 142 [[.bool (r.1), .bool (r.2.1), .int .i64 (r.2.2.1.1), .int .i64 (r.2.2.1.2.1), .str (r.2.2.1.2.2), .int .i64 (r.2.2.2.1), .int .i64 (r.2.2.2.2.1), .str (r.2.2.2.2.2)]]] (.one (.dv [] (.int .i64 (findI (inIt r) x 0)))) := by
 refine ⟨fn_intro Tryz.func137 rfl Tryz.ntmps137 Tryz.results137 rfl (fun C => ?_)⟩
 refine ok_fact (x := .tmp 0) (ev_tmp rfl) fun f0 => ?_
 iterate 10 refine z ?_
 refine ok_loop (ι := Nat) (fun zz => ⟨[(0, .one (.dv [] (itemsD (x)))), (1, .fn 142 [[.bool (r.1), .bool (r.2.1), .int .i64 (r.2.2.1.1), .int .i64 (r.2.2.1.2.1), .str (r.2.2.1.2.2), .int .i64 (r.2.2.2.1), .int .i64 (r.2.2.2.2.1), .str (r.2.2.2.2.2)]]), (7, .one (.dv [] (.int .i64 ((((x)).length : Int))))), (8, .one (.dv [] (.int .i64 ((zz : Int)))))], [], []⟩) (fun zz => zz ≤ x.length ∧ (x.take zz).any (inIt r) = false) (fun zz => x.length - zz) (0) ?_ (weak_sub ⟨rfl, rfl, rfl, rfl, trivial⟩ trivial trivial rfl) (fun zz hx => ?_)
 ·exact ⟨Nat.zero_le _, rfl⟩
 obtain ⟨n, rfl⟩ : ∃ v, v = zz := ⟨_, rfl⟩
 replace hx : n ≤ x.length ∧ (x.take n).any (inIt r) = false := hx
 obtain ⟨hk, hall⟩ := hx
 show Ok _ _ _ _ _ (⟨[(0, .one (.dv [] (itemsD (x)))), (1, .fn 142 [[.bool (r.1), .bool (r.2.1), .int .i64 (r.2.2.1.1), .int .i64 (r.2.2.1.2.1), .str (r.2.2.1.2.2), .int .i64 (r.2.2.2.1), .int .i64 (r.2.2.2.2.1), .str (r.2.2.2.2.2)]]), (7, .one (.dv [] (.int .i64 ((((x)).length : Int))))), (8, .one (.dv [] (.int .i64 ((n : Int)))))], [], []⟩ : St)
 iterate 3 refine z ?_
 refine ok_seq ?_
 refine yQ rfl (fun c1 => ?_) fun c1 => ?_
 ·skip
  have d1 := of_decide_eq_true c1
  iterate 14 refine z ?_
  refine o_callV rfl rfl rfl (ev_tmp rfl) Tryz.call142 ok_impl_DeleteItems_1 (as_cons (ev_tmp rfl) (ag_agg (ag_cons ac_dv (ag_cons ac_dv (ag_cons ac_dv (ag_cons ac_dv ag_nil))))) as_nil) rfl rfl ?_
  refine z ?_
  refine yQ rfl (fun c2 => ?_) fun c2 => ?_
  ·skip
   iterate 11 refine z ?_
   exact (findI_at (p := inIt r) (d := default) hall (by omega) c2).symm
  ·skip
   iterate 3 refine z ?_
   refine ok_region ?_
   iterate 3 refine z ?_
   refine ⟨n + 1, ?_, ?_, weak_sub ⟨rfl, rfl, rfl, rfl, trivial⟩ trivial trivial rfl⟩
   ·exact ⟨by omega, any_stepI (d := default) hall (by omega) c2⟩
   ·omega
 ·skip
  have d1 := of_decide_eq_false c1
  iterate 10 refine z ?_
  exact (findI_none (p := inIt r) hall (by omega)).symm
theorem ok_slices_DeleteFunc_Item {x : List ItemT} {r : RangeT} (hb : x.length ≤ 1099511627776) : MFn Tryz.prog 141 [.fn 142 [[.bool (r.1), .bool (r.2.1), .int .i64 (r.2.2.1.1), .int .i64 (r.2.2.1.2.1), .str (r.2.2.1.2.2), .int .i64 (r.2.2.2.1), .int .i64 (r.2.2.2.2.1), .str (r.2.2.2.2.2)]]] (kcOf false (.sl 141 4 (x.length) (x.flatMap eItem))) (kcOf false (.sl 141 4 ((x.filter (outIt r)).length) ((x.filter (outIt r)).flatMap eItem))) := by
 refine ⟨fn_intro Tryz.func141 rfl Tryz.ntmps141 Tryz.results141 rfl (fun C => ?_)⟩
 iterate 6 refine z ?_
 refine o_call rfl rfl rfl Tryz.call137 ok_slices_IndexFunc_ItemDel (as_cons (ev_tmp rfl) (ag_one (ac_key' rfl rfl)) (as_cons (ev_tmp rfl) a_fn as_nil)) rfl rfl ?_
 iterate 7 refine z ?_
 refine yQ rfl (fun c1 => ?_) fun c1 => ?_
 ·skip
  have d1 := of_decide_eq_true c1
  have hn := (findI_cases (p := inIt r) (d := default) x 0 (by omega)).resolve_right (fun ⟨m, h1, h2, _⟩ => by omega)
  rw [← inIt_out r] at hn
  have hfe := filt_none hn.2
  iterate 4 refine z ?_
  refine ok_weak (σ' := ⟨[(4, .one (.key 0))], [], [(0, some (kcOf false (.sl 141 4 ((x.filter (outIt r)).length) ((x.filter (outIt r)).flatMap eItem))))]⟩) (weak_sub ⟨rfl, trivial⟩ trivial ⟨(congrArg (fun l : List ItemT => some (some (KC.mk false 141 4 l.length (l.flatMap eItem)))) hfe.symm), trivial⟩ rfl) ?_
  iterate 2 refine z ?_
  refine fin1 (res_tmp rfl) ?_
  exact ⟨rfl, rfl⟩
 ·skip
  have d1 := of_decide_eq_false c1
  obtain ⟨m, hm1, hm2, hm3, hm4⟩ := (findI_cases (p := inIt r) (d := default) x 0 (by omega)).resolve_left (fun h => d1 h.1)
  rw [← inIt_out r] at hm3
  have hm5 : outIt r (x.getD m default) = false := by unfold outIt; rw [show inRg (x.getD m default).1 r = true from hm4]; rfl
  have hst := delC_start (enc := eItem) hm1 hm3 hm5
  iterate 9 refine z ?_
  refine ok_loop (ι := Nat × Nat × List DV) (fun zz => ⟨[(0, .one (.key 0)), (1, .fn 142 [[.bool (r.1), .bool (r.2.1), .int .i64 (r.2.2.1.1), .int .i64 (r.2.2.1.2.1), .str (r.2.2.1.2.2), .int .i64 (r.2.2.2.1), .int .i64 (r.2.2.2.2.1), .str (r.2.2.2.2.2)]]), (4, .one .nil), (5, .one (.dv [] (.int .i64 ((zz.1 : Int))))), (6, .one (.dv [] (.int .i64 ((zz.2.1 : Int)))))], [], [(0, some (kcOf false (.sl 141 4 (x.length) (delC eItem (outIt r) x zz.2.1 zz.2.2))))]⟩) (fun zz => zz.1 = ((x.take zz.2.1).filter (outIt r)).length ∧ zz.1 < zz.2.1 ∧ zz.2.1 ≤ x.length ∧ zz.2.2.length + zz.1 * 4 = zz.2.1 * 4) (fun zz => x.length - zz.2.1) ((m, m + 1, eItem (x.getD m default))) ?_ (weak_sub ⟨rfl, rfl, rfl, (congrArg (fun z : Int => some (SV.one (CV.dv [] (DV.int .i64 z)))) (show findI (inIt r) x 0 = (m : Int) by omega)), (congrArg (fun z : Int => some (SV.one (CV.dv [] (DV.int .i64 z)))) (show findI (inIt r) x 0 + 1 = ((m + 1 : Nat) : Int) by omega)), trivial⟩ trivial ⟨(congrArg (fun cs => some (some (KC.mk false 141 4 x.length cs))) (hst.1)), trivial⟩ rfl) (fun zz hx => ?_)
  ·exact ⟨hst.2, by show m < m + 1; omega, by show m + 1 ≤ x.length; omega, by show 4 + m * 4 = (m + 1) * 4; omega⟩
  obtain ⟨i, k, G⟩ := zz
  replace hx : i = ((x.take k).filter (outIt r)).length ∧ i < k ∧ k ≤ x.length ∧ G.length + i * 4 = k * 4 := hx
  obtain ⟨hi, hik, hk, hG⟩ := hx
  show Ok _ _ _ _ _ (⟨[(0, .one (.key 0)), (1, .fn 142 [[.bool (r.1), .bool (r.2.1), .int .i64 (r.2.2.1.1), .int .i64 (r.2.2.1.2.1), .str (r.2.2.1.2.2), .int .i64 (r.2.2.2.1), .int .i64 (r.2.2.2.2.1), .str (r.2.2.2.2.2)]]), (4, .one .nil), (5, .one (.dv [] (.int .i64 ((i : Int))))), (6, .one (.dv [] (.int .i64 ((k : Int)))))], [], [(0, some (kcOf false (.sl 141 4 (x.length) (delC eItem (outIt r) x k G))))]⟩ : St)
  iterate 4 refine z ?_
  refine yO rfl rfl (pu_lenKn (n := (x.length)) hT rfl rfl (ev_tmp rfl) rfl rfl) rfl ?_
  iterate 2 refine z ?_
  refine yQ rfl (fun c2 => ?_) fun c2 => ?_
  ·skip
   have d2 := of_decide_eq_true c2
   have hk2 : k < x.length := by omega
   iterate 7 refine z ?_
   refine yO rfl rfl (pu_indexK (i := k) hT rfl rfl rfl (ev_tmp rfl) rfl (ev_tmp rfl) rfl (by show _ < (x.length); omega)) rfl ?_
   refine yO rfl rfl (pu_loadEA (ds := [.int .i64 ((x.getD (k : Int).toNat default).1.1), .int .i64 ((x.getD (k : Int).toNat default).1.2.1), .str ((x.getD (k : Int).toNat default).1.2.2), fieldsD ((x.getD (k : Int).toNat default).2)]) hT rfl rfl (ev_tmp rfl) rfl rfl (by decide) (delC_sub (enc := eItem) (q := outIt r) (sz := 4) (fun _ => rfl) hi hG hk2)) rfl ?_
   iterate 6 refine z ?_
   refine o_callV rfl rfl rfl (ev_tmp rfl) Tryz.call142 ok_impl_DeleteItems_1 (as_cons (ev_tmp rfl) (ag_agg (ag_cons ac_dv (ag_cons ac_dv (ag_cons ac_dv (ag_cons ac_nest ag_nil))))) as_nil) rfl rfl ?_
   iterate 2 refine z ?_
   refine yQ rfl (fun c3 => ?_) fun c3 => ?_
   ·skip
    have hq : outIt r (x.getD k default) = true := c3
    have hy := delC_yes (q := outIt r) hk2 hq
    iterate 4 refine z ?_
    refine yO rfl rfl (pu_indexK (i := i) hT rfl rfl rfl (ev_tmp rfl) rfl (ev_tmp rfl) rfl (by show _ < (x.length); omega)) rfl ?_
    refine o_move (src := k * 4) (ds := [.int .i64 ((x.getD (k : Int).toNat default).1.1), .int .i64 ((x.getD (k : Int).toNat default).1.2.1), .str ((x.getD (k : Int).toNat default).1.2.2), fieldsD ((x.getD (k : Int).toNat default).2)]) (cs := delC eItem (outIt r) x (k + 1) (G.drop 4 ++ List.replicate 4 .hole)) hT rfl rfl rfl rfl (ev_tmp rfl) (ev_tmp rfl) rfl rfl (delC_sub (enc := eItem) (q := outIt r) (sz := 4) (fun _ => rfl) hi hG hk2) (by omega) (by rw [delC_len (sz := 4) (fun _ => rfl) hi hG hk]; omega) (delC_mv (sz := 4) (fun _ => rfl) hi hG hk2 hik hq) ?_
    simp only [killT, killB, SV.kill, CV.kill, kk, Nat.reduceBEq]
    refine z ?_
    refine ok_region ?_
    iterate 3 refine z ?_
    refine ops_nil ?_
    iterate 2 refine z ?_
    refine ok_region ?_
    iterate 4 refine z ?_
    refine ⟨(i + 1, k + 1, (G.drop 4 ++ List.replicate 4 .hole)), ?_, ?_, weak_sub ⟨rfl, rfl, rfl, rfl, rfl, trivial⟩ trivial ⟨rfl, trivial⟩ rfl⟩
    ·exact ⟨by dsimp only; omega, by dsimp only; omega, by dsimp only; omega, by simp; omega⟩
    ·dsimp only; omega
   ·skip
    have hq : outIt r (x.getD k default) = false := c3
    have hno := delC_no (enc := eItem) (q := outIt r) (sz := 4) (G := G) (fun _ => rfl) hk2 hq
    iterate 3 refine z ?_
    refine ok_region ?_
    iterate 4 refine z ?_
    refine ⟨(i, k + 1, G ++ eItem (x.getD k default)), ?_, ?_, weak_sub ⟨rfl, rfl, rfl, rfl, rfl, trivial⟩ trivial ⟨(congrArg (fun cs => some (some (KC.mk false 141 4 x.length cs))) (hno.1)), trivial⟩ rfl⟩
    ·exact ⟨by dsimp only; omega, by dsimp only; omega, by dsimp only; omega, by show (G ++ eItem _).length + i * 4 = (k + 1) * 4; rw [List.length_append]; show G.length + 4 + i * 4 = _; omega⟩
    ·dsimp only; omega
  ·skip
   have d2 := of_decide_eq_false c2
   iterate 8 refine z ?_
   refine yO rfl rfl (pu_kslL (j := 0) (n := (x.length)) (lo := i) (sz := 4) (z := (i : Int)) hT rfl rfl rfl (ev_tmp rfl) rfl (ev_tmp rfl) rfl rfl (by omega) (by omega)) rfl ?_
   refine o_clear (k := 0) (lo := i) (hi := (x.length)) (sz := 4) (cs := (x.filter (outIt r)).flatMap eItem ++ List.replicate ((x.length - i) * 4) .hole) hT rfl rfl rfl rfl rfl rfl (ev_tmp rfl) rfl rfl rfl (by first | omega | (dsimp only [kcOf]; omega)) (by first | omega | (dsimp only [kcOf]; omega)) (delC_end (sz := 4) (fun _ => rfl) hi hG (by omega)) ?_
   simp only [killT, killB, SV.kill, CV.kill, kk, Nat.reduceBEq]
   iterate 4 refine z ?_
   refine yO rfl rfl (pu_kslH (j := 0) (n := (x.length)) (hi := i) (sz := 4) (z := (i : Int)) hT rfl rfl rfl (ev_tmp rfl) rfl (ev_tmp rfl) rfl rfl (by omega) (by omega)) rfl ?_
   iterate 2 refine z ?_
   have hke : k = x.length := by omega
   have hi2 : i = (x.filter (outIt r)).length := by rw [hi, hke, List.take_length]
   refine ok_weak (weak_cut (s := 4) (k := 0) (m := i) (sz := 4) (cs := (x.filter (outIt r)).flatMap eItem) rfl rfl rfl rfl (by first | omega | (dsimp only [kcOf]; omega)) (delC_cut (sz := 4) (fun _ => rfl) hi2)) ?_
   simp only [killT, killB, SV.kill, CV.kill, kk, Nat.reduceBEq]
   refine ok_weak (σ' := ⟨[(4, .one (.key 0))], [], [(0, some (kcOf false (.sl 141 4 ((x.filter (outIt r)).length) ((x.filter (outIt r)).flatMap eItem))))]⟩) (weak_sub ⟨rfl, trivial⟩ trivial ⟨(congrArg (fun n : Nat => some (some (KC.mk false 141 4 n ((x.filter (outIt r)).flatMap eItem)))) hi2), trivial⟩ rfl) ?_
   refine z ?_
   refine fin1 (res_tmp rfl) ?_
   exact ⟨rfl, rfl⟩
theorem ok_impl_DeleteItems {x : StoreT} {r : RangeT} (hb : wStore x ≤ 1099511627776) : KFn Tryz.prog 104 [.agg [(.dv [] (.str (x.1))), (.dv [] (itemsD (x.2.1))), (.dv [] (.int .i64 (x.2.2)))], .agg [(.dv [] (.bool (r.1))), (.dv [] (.bool (r.2.1))), (.dv [] (.int .i64 (r.2.2.1.1))), (.dv [] (.int .i64 (r.2.2.1.2.1))), (.dv [] (.str (r.2.2.1.2.2))), (.dv [] (.int .i64 (r.2.2.2.1))), (.dv [] (.int .i64 (r.2.2.2.2.1))), (.dv [] (.str (r.2.2.2.2.2)))]] (.tup [(true, [(.dv [] (.str ((delS x r).1.1))), (.key 9001), (.dv [] (.int .i64 ((delS x r).1.2.2)))]), (false, [(.dv [] (.int .i64 ((delS x r).2)))])]) [(9001, some (kcOf false (itemsD ((delS x r).1.2.1))))] := by
 refine ⟨fn_intro Tryz.func104 rfl Tryz.ntmps104 Tryz.results104 rfl (fun C => ?_)⟩
 have hlen : x.2.1.length ≤ 1099511627776 := by have h3 : wStore x = x.1.size + (x.2.1.length + wSum wItem x.2.1) := rfl; omega
 have hfl := List.length_filter_le (outIt r) x.2.1
 refine yF 0 0 rfl rfl fun f0_0 => ?_
 refine yF 0 1 rfl rfl fun f0_1 => ?_
 refine yF 0 2 rfl rfl fun f0_2 => ?_
 refine yF 1 2 rfl rfl fun f1_2 => ?_
 refine yF 1 3 rfl rfl fun f1_3 => ?_
 refine yF 1 4 rfl rfl fun f1_4 => ?_
 refine yF 1 5 rfl rfl fun f1_5 => ?_
 refine yF 1 6 rfl rfl fun f1_6 => ?_
 refine yF 1 7 rfl rfl fun f1_7 => ?_
 iterate 8 refine z ?_
 refine zK 8971 Tryz.call74 ?_ (hf := ok_impl_copyStore (x := x) (by omega))
 iterate 6 refine z ?_
 refine zC Tryz.call96 ?_ (hf := ok_impl_IsStore (s := x) )
 iterate 2 refine z ?_
 refine yQ rfl (fun c1 => ?_) fun c1 => ?_
 ·skip
  iterate 5 refine z ?_
  rw [delS_no c1]
  refine ok_weak (σ' := ⟨[(4, .box 4 0), (5, .one (.dv [] (.int .i64 (0))))], [(4, 91, [(.dv [] (.str ((x).1))), (.key 9001), (.dv [] (.int .i64 ((x).2.2)))])], [(9001, some (kcOf false (itemsD (x.2.1))))]⟩) (weak_sub ⟨rfl, rfl, trivial⟩ ⟨rfl, trivial⟩ ⟨rfl, trivial⟩ rfl) ?_
  iterate 2 refine z ?_
  refine fin2 (res_cell hT rfl rfl rfl rfl) (res_tmp rfl) rfl rfl ?_
  first | exact ⟨rfl, rfl⟩ | skip
 ·skip
  iterate 5 refine z ?_
  refine yO rfl rfl (pu_clo1 rfl (ev_tmp rfl)) rfl ?_
  refine o_callM (k := 9001) rfl rfl rfl rfl Tryz.call141 (ok_slices_DeleteFunc_Item (by omega)) (ev_tmp rfl) rfl (rfl) rfl (am_cons (ev_tmp rfl) (am_clo (clo_cons rfl rfl clo_nil)) am_nil) ?_
  simp only [killT, killB, SV.kill, CV.kill, kk, Nat.reduceBEq]
  iterate 3 refine z ?_
  refine ok_seq ?_
  refine ok_regionW 4 (oB := [2, 3, 6]) (oK := [9001]) (by kernel_rfl) rfl rfl ?_
  refine w_take 0 rfl (by kernel_rfl) rfl rfl (pu_loadBoxA hT rfl rfl (ev_tmp rfl) rfl rfl) rfl rfl rfl rfl rfl ?_
  refine w_take 1 rfl (by kernel_rfl) rfl rfl (pu_fieldBox hT rfl rfl rfl (ev_tmp rfl)) rfl rfl rfl rfl rfl ?_
  refine w_take 2 rfl (by kernel_rfl) rfl rfl (pu_loadBox1 hT rfl rfl (ev_tmp rfl) rfl rfl) rfl rfl rfl rfl rfl ?_
  refine w_take 3 rfl (by kernel_rfl) rfl rfl (pu_lenV hT rfl rfl (ev_tmp rfl)) rfl rfl rfl rfl rfl ?_
  refine w_take 4 rfl (by kernel_rfl) rfl rfl (pu_fieldBox hT rfl rfl rfl (ev_tmp rfl)) rfl rfl rfl rfl rfl ?_
  refine w_take 5 rfl (by kernel_rfl) rfl rfl (pu_loadBox1 hT rfl rfl (ev_tmp rfl) rfl rfl) rfl rfl rfl rfl rfl ?_
  refine w_take 6 rfl (by kernel_rfl) rfl rfl (pu_lenKn (n := ((x.2.1.filter (outIt r)).length)) hT rfl rfl (ev_tmp rfl) rfl rfl) rfl rfl rfl rfl rfl ?_
  refine w_take 7 rfl (by kernel_rfl) rfl rfl (pu_subR rfl (ev_tmp rfl) (ev_tmp rfl) (inR64 (by omega) (by omega))) rfl rfl rfl rfl rfl ?_
  refine w_store 8 rfl (by kernel_rfl) rfl hT rfl rfl rfl (ev_tmp rfl) (ev_tmp rfl) rfl rfl rfl rfl rfl rfl ?_
  refine w_chain [9] rfl rfl (by kernel_rfl) ?_
  iterate 2 refine z ?_
  rw [delS_yes c1]
  refine ok_weak (σ' := ⟨[(4, .box 4 0), (5, .one (.dv [] (.int .i64 (((((x.2.1)).length : Int)) - ((((x.2.1.filter (outIt r)).length) : Int))))))], [(4, 91, [(.dv [] (.str ((x).1))), (.key 9001), (.dv [] (.int .i64 ((x).2.2)))])], [(9001, some (kcOf false (itemsD (x.2.1.filter (outIt r)))))]⟩) (weak_sub ⟨rfl, rfl, trivial⟩ ⟨rfl, trivial⟩ ⟨rfl, trivial⟩ rfl) ?_
  refine z ?_
  refine fin2 (res_cell hT rfl rfl rfl rfl) (res_tmp rfl) rfl rfl ?_
  first | exact ⟨rfl, rfl⟩ | skip
theorem ok_spec_DeleteItems {x : StoreT} {r : RangeT} (hb : wStore x ≤ 1099511627776) : KFn Tryz.prog 87 [.agg [(.dv [] (.str (x.1))), (.dv [] (itemsD (x.2.1))), (.dv [] (.int .i64 (x.2.2)))], .agg [(.dv [] (.bool (r.1))), (.dv [] (.bool (r.2.1))), (.dv [] (.int .i64 (r.2.2.1.1))), (.dv [] (.int .i64 (r.2.2.1.2.1))), (.dv [] (.str (r.2.2.1.2.2))), (.dv [] (.int .i64 (r.2.2.2.1))), (.dv [] (.int .i64 (r.2.2.2.2.1))), (.dv [] (.str (r.2.2.2.2.2)))]] (.tup [(true, [(.dv [] (.str ((delS x r).1.1))), (.key 9001), (.dv [] (.int .i64 ((delS x r).1.2.2)))]), (false, [(.dv [] (.int .i64 ((delS x r).2)))])]) [(9001, some (kcOf false (itemsD ((delS x r).1.2.1))))] := by
 refine ⟨fn_intro Tryz.func87 rfl Tryz.ntmps87 Tryz.results87 rfl (fun C => ?_)⟩
 have hlen : x.2.1.length ≤ 1099511627776 := by have h3 : wStore x = x.1.size + (x.2.1.length + wSum wItem x.2.1) := rfl; omega
 have hfl := List.length_filter_le (outIt r) x.2.1
 refine yF 0 0 rfl rfl fun f0_0 => ?_
 refine yF 0 1 rfl rfl fun f0_1 => ?_
 refine yF 0 2 rfl rfl fun f0_2 => ?_
 refine yF 1 2 rfl rfl fun f1_2 => ?_
 refine yF 1 3 rfl rfl fun f1_3 => ?_
 refine yF 1 4 rfl rfl fun f1_4 => ?_
 refine yF 1 5 rfl rfl fun f1_5 => ?_
 refine yF 1 6 rfl rfl fun f1_6 => ?_
 refine yF 1 7 rfl rfl fun f1_7 => ?_
 iterate 9 refine z ?_
 refine zC Tryz.call80 ?_ (hf := ok_spec_IsStore (s := x) )
 iterate 2 refine z ?_
 refine yQ rfl (fun c1 => ?_) fun c1 => ?_
 ·skip
  iterate 2 refine z ?_
  refine zK 8971 Tryz.call79 ?_ (hf := ok_spec_l6Copy (x := x) (by omega))
  iterate 3 refine z ?_
  rw [delS_no c1]
  refine ok_weak (σ' := ⟨[(4, .box 4 0), (5, .one (.dv [] (.int .i64 (0))))], [(4, 91, [(.dv [] (.str ((x).1))), (.key 9001), (.dv [] (.int .i64 ((x).2.2)))])], [(9001, some (kcOf false (itemsD (x.2.1))))]⟩) (weak_sub ⟨rfl, rfl, trivial⟩ ⟨rfl, trivial⟩ ⟨rfl, trivial⟩ rfl) ?_
  iterate 2 refine z ?_
  refine fin2 (res_cell hT rfl rfl rfl rfl) (res_tmp rfl) rfl rfl ?_
  exact ⟨rfl, rfl⟩
 ·skip
  iterate 7 refine z ?_
  refine yO rfl rfl (pu_build hT hB rfl rfl rfl (bp_cons (ev_tmp rfl) rfl rfl rfl rfl rfl (bp_cons (ev_tmp rfl) rfl rfl rfl rfl rfl bp_nil))) rfl ?_
  iterate 3 refine z ?_
  refine ok_seq ?_
  refine ok_seq ?_
  refine ok_weak (weak_nilB 9001 (b := 6) (i := 1) (e := 141) (sz := 4) rfl rfl rfl rfl rfl) ?_
  simp only [killT, killB, SV.kill, CV.kill, kk, Nat.reduceBEq]
  refine ok_region ?_
  iterate 3 refine z ?_
  refine ok_loop (ι := Nat) (fun zz => ⟨[(2, .box 2 0), (3, .box 3 0), (4, .box 4 0), (5, .one (.dv [] (.int .i64 (0)))), (6, .box 6 0), (7, .one (.dv [] (.int .i64 ((zz : Int)))))], [(2, 91, [(.dv [] (.str (x.1))), (.dv [] (itemsD (x.2.1))), (.dv [] (.int .i64 (x.2.2)))]), (3, 138, [(.dv [] (.bool (r.1))), (.dv [] (.bool (r.2.1))), (.dv [] (.int .i64 (r.2.2.1.1))), (.dv [] (.int .i64 (r.2.2.1.2.1))), (.dv [] (.str (r.2.2.1.2.2))), (.dv [] (.int .i64 (r.2.2.2.1))), (.dv [] (.int .i64 (r.2.2.2.2.1))), (.dv [] (.str (r.2.2.2.2.2)))]), (4, 91, [(.dv [] (.str (ByteArray.empty))), .nil, (.dv [] (.int .i64 (0)))]), (6, 91, [(.dv [] (.str (x.1))), (.key 9001), (.dv [] (.int .i64 (x.2.2)))])], [(9001, some (kcOf false (.sl 141 4 (((x.2.1.take zz).filter (outIt r)).length) (((x.2.1.take zz).filter (outIt r)).flatMap eItem))))]⟩) (fun zz => zz ≤ x.2.1.length) (fun zz => x.2.1.length - zz) (0) ?_ (weak_sub ⟨rfl, rfl, rfl, rfl, rfl, rfl, trivial⟩ ⟨rfl, rfl, rfl, rfl, trivial⟩ ⟨rfl, trivial⟩ rfl) (fun zz hx => ?_)
  ·exact Nat.zero_le _
  obtain ⟨k, rfl⟩ : ∃ v, v = zz := ⟨_, rfl⟩
  replace hx : k ≤ x.2.1.length := hx
  have hw := fun h => wSum_succ wItem x.2.1 k h
  show Ok _ _ _ _ _ (⟨[(2, .box 2 0), (3, .box 3 0), (4, .box 4 0), (5, .one (.dv [] (.int .i64 (0)))), (6, .box 6 0), (7, .one (.dv [] (.int .i64 ((k : Int)))))], [(2, 91, [(.dv [] (.str (x.1))), (.dv [] (itemsD (x.2.1))), (.dv [] (.int .i64 (x.2.2)))]), (3, 138, [(.dv [] (.bool (r.1))), (.dv [] (.bool (r.2.1))), (.dv [] (.int .i64 (r.2.2.1.1))), (.dv [] (.int .i64 (r.2.2.1.2.1))), (.dv [] (.str (r.2.2.1.2.2))), (.dv [] (.int .i64 (r.2.2.2.1))), (.dv [] (.int .i64 (r.2.2.2.2.1))), (.dv [] (.str (r.2.2.2.2.2)))]), (4, 91, [(.dv [] (.str (ByteArray.empty))), .nil, (.dv [] (.int .i64 (0)))]), (6, 91, [(.dv [] (.str (x.1))), (.key 9001), (.dv [] (.int .i64 (x.2.2)))])], [(9001, some (kcOf false (.sl 141 4 (((x.2.1.take k).filter (outIt r)).length) (((x.2.1.take k).filter (outIt r)).flatMap eItem))))]⟩ : St)
  iterate 8 refine z ?_
  refine yQ rfl (fun c2 => ?_) fun c2 => ?_
  ·skip
   have d2 := of_decide_eq_true c2
   have hk2 : k < x.2.1.length := by omega
   have hrec : wItem (x.2.1.getD (k : Int).toNat default) ≤ 1099511627776 := by have := hw hk2; have h3 : wStore x = x.1.size + (x.2.1.length + wSum wItem x.2.1) := rfl; omega
   iterate 4 refine z ?_
   refine ok_seq ?_
   refine ok_regionD (oB := [2, 3, 4, 6]) (oK := [9001]) (by kernel_rfl) rfl rfl ?_
   refine zD 0 ?_
   refine zD 1 ?_
   refine zD 2 ?_
   refine zD 3 ?_
   refine zD 4 ?_
   refine zD 5 ?_
   refine zD 6 ?_
   refine d_call 7 rfl (by kernel_rfl) rfl rfl rfl Tryz.call128 (ok_spec_InRangeOf (x := (((x.2.1)).getD ((k : Int)).toNat default).1) (y := r) ) (as_cons (ev_tmp rfl) (ag_agg (ag_cons ac_dv (ag_cons ac_dv (ag_cons ac_dv ag_nil)))) (as_cons (ev_tmp rfl) (ag_agg (ag_cons ac_dv (ag_cons ac_dv (ag_cons ac_dv (ag_cons ac_dv (ag_cons ac_dv (ag_cons ac_dv (ag_cons ac_dv (ag_cons ac_dv ag_nil))))))))) as_nil)) rfl rfl rfl rfl ?_
   refine zD 8 ?_
   refine d_done (by kernel_rfl) ?_
   refine z ?_
   refine yQ rfl (fun c3 => ?_) fun c3 => ?_
   ·skip
    have hq : outIt r (x.2.1.getD (k : Int).toNat default) = true := c3
    refine ok_regionH [0, 1, 2, 3, 4, 5, 6, 7, 8] (oB := [2, 3, 4, 6]) (oK := [9001]) (by kernel_rfl) rfl rfl ?_
    refine zD 0 ?_
    refine zD 1 ?_
    refine zD 2 ?_
    refine zD 3 ?_
    refine zD 4 ?_
    refine zD 5 ?_
    refine zD 6 ?_
    refine d_callK 41000 7 rfl (by kernel_rfl) rfl rfl rfl Tryz.call122 (ok_spec_l6Item (x := (x.2.1.getD (k : Int).toNat default)) (by exact Nat.le_trans (item_len _) hrec)) (as_cons (ev_tmp rfl) (ag_agg (ag_cons ac_dv (ag_cons ac_dv (ag_cons ac_dv (ag_cons ac_dv ag_nil))))) as_nil) rfl rfl rfl rfl rfl ?_
    refine d_build1 (k := 42) (js := [48003]) 8 hT rfl (by kernel_rfl) rfl rfl rfl rfl rfl rfl rfl rfl rfl (ev_tmp rfl) rfl rfl (ow_cons' (ow_dv rfl) (ow_cons' (ow_dv rfl) (ow_cons' (ow_dv rfl) (ow_cons' (ow_key rfl) ow_nil rfl) rfl) rfl) rfl) (by decide) (by decide) rfl rfl (by decide) ?_
    simp only [killT, killB, SV.kill, CV.kill, kk, Nat.reduceBEq]
    refine d_chain [9, 10, 11] rfl rfl (by kernel_rfl) ?_
    refine o_appK (k := 9001) (j := 42) (cs := ((x.2.1.take (k + 1)).filter (outIt r)).flatMap eItem) (n := ((x.2.1.take (k + 1)).filter (outIt r)).length) hT rfl rfl rfl rfl rfl rfl rfl (ev_tmp rfl) rfl rfl rfl (ev_tmp rfl) rfl rfl (by decide) (by have := List.length_filter_le (outIt r) (x.2.1.take k); rw [List.length_take] at this; dsimp only [kcOf]; omega) (by have := List.length_filter_le (outIt r) (x.2.1.take k); rw [List.length_take] at this; dsimp only [kcOf]; omega) ((flt_yes hk2 hq).2) ((flt_yes hk2 hq).1) ?_
    simp only [killT, killB, SV.kill, CV.kill, kk, Nat.reduceBEq]
    iterate 2 refine z ?_
    refine ops_nil ?_
    iterate 2 refine z ?_
    refine ok_region ?_
    iterate 4 refine z ?_
    refine ⟨k + 1, ?_, ?_, weak_sub ⟨rfl, rfl, rfl, rfl, rfl, rfl, trivial⟩ ⟨rfl, rfl, rfl, rfl, trivial⟩ ⟨rfl, trivial⟩ rfl⟩
    ·omega
    ·omega
   ·skip
    have hq : outIt r (x.2.1.getD (k : Int).toNat default) = false := c3
    iterate 3 refine z ?_
    refine ok_region ?_
    iterate 4 refine z ?_
    refine ⟨k + 1, ?_, ?_, weak_sub ⟨rfl, rfl, rfl, rfl, rfl, rfl, trivial⟩ ⟨rfl, rfl, rfl, rfl, trivial⟩ ⟨(congrArg (fun l : List ItemT => some (some (KC.mk false 141 4 l.length (l.flatMap eItem)))) (flt_no hk2 hq)), trivial⟩ rfl⟩
    ·omega
    ·omega
  ·skip
   have d2 := of_decide_eq_false c2
   have hfin : ((x.2.1.take k).filter (outIt r)) = (x.2.1.filter (outIt r)) := by rw [List.take_of_length_le (by omega)]
   have hfl2 : ((x.2.1.take k).filter (outIt r)).length ≤ x.2.1.length := by rw [hfin]; exact hfl
   iterate 5 refine z ?_
   refine ok_seq ?_
   refine ok_regionW 4 (oB := [2, 3, 6]) (oK := [9001]) (by kernel_rfl) rfl rfl ?_
   refine w_take 0 rfl (by kernel_rfl) rfl rfl (pu_loadBoxA hT rfl rfl (ev_tmp rfl) rfl rfl) rfl rfl rfl rfl rfl ?_
   refine w_take 1 rfl (by kernel_rfl) rfl rfl (pu_fieldBox hT rfl rfl rfl (ev_tmp rfl)) rfl rfl rfl rfl rfl ?_
   refine w_take 2 rfl (by kernel_rfl) rfl rfl (pu_loadBox1 hT rfl rfl (ev_tmp rfl) rfl rfl) rfl rfl rfl rfl rfl ?_
   refine w_take 3 rfl (by kernel_rfl) rfl rfl (pu_lenV hT rfl rfl (ev_tmp rfl)) rfl rfl rfl rfl rfl ?_
   refine w_take 4 rfl (by kernel_rfl) rfl rfl (pu_fieldBox hT rfl rfl rfl (ev_tmp rfl)) rfl rfl rfl rfl rfl ?_
   refine w_take 5 rfl (by kernel_rfl) rfl rfl (pu_loadBox1 hT rfl rfl (ev_tmp rfl) rfl rfl) rfl rfl rfl rfl rfl ?_
   refine w_take 6 rfl (by kernel_rfl) rfl rfl (pu_lenKn (n := (((x.2.1.take k).filter (outIt r)).length)) hT rfl rfl (ev_tmp rfl) rfl rfl) rfl rfl rfl rfl rfl ?_
   refine w_take 7 rfl (by kernel_rfl) rfl rfl (pu_subR rfl (ev_tmp rfl) (ev_tmp rfl) (inR64 (by omega) (by omega))) rfl rfl rfl rfl rfl ?_
   refine w_store 8 rfl (by kernel_rfl) rfl hT rfl rfl rfl (ev_tmp rfl) (ev_tmp rfl) rfl rfl rfl rfl rfl rfl ?_
   refine w_chain [9] rfl rfl (by kernel_rfl) ?_
   iterate 2 refine z ?_
   rw [delS_yes c1]
   refine ok_weak (σ' := ⟨[(4, .box 4 0), (5, .one (.dv [] (.int .i64 (((((x.2.1)).length : Int)) - (((((x.2.1.take k).filter (outIt r)).length) : Int))))))], [(4, 91, [(.dv [] (.str (x.1))), (.key 9001), (.dv [] (.int .i64 (x.2.2)))])], [(9001, some (kcOf false (itemsD (x.2.1.filter (outIt r)))))]⟩) (weak_sub ⟨rfl, rfl, trivial⟩ ⟨rfl, trivial⟩ ⟨(congrArg (fun l : List ItemT => some (some (KC.mk false 141 4 l.length (l.flatMap eItem)))) hfin), trivial⟩ rfl) ?_
   refine z ?_
   refine fin2 (res_cell hT rfl rfl rfl rfl) (res_tmp rfl) rfl rfl ?_
   exact ⟨by rw [hfin], rfl⟩
end Go.Proofs.YtmgijbhikmjfjaaGreat

namespace Go.Proofs.YtmgijbhikmjfjaaGreat
open Go.RowKit
open Go.Proofs
set_option linter.unusedVariables false
set_option linter.unusedSimpArgs false

theorem bl_irr : ∀ x : List UInt8, Op.bytesLess x x = false
 | [] => rfl
 | a :: x => by simp [Op.bytesLess, bl_irr x]
theorem bl_trans : ∀ x y z : List UInt8, Op.bytesLess x y = true → Op.bytesLess y z = true → Op.bytesLess x z = true
 | x, [], z, h, _ => by cases x <;> simp [Op.bytesLess] at h
 | x, b :: y, [], _, h => by simp [Op.bytesLess] at h
 | [], b :: y, c :: z, _, _ => rfl
 | a :: x, b :: y, c :: z, h1, h2 => by
  simp only [Op.bytesLess, Bool.or_eq_true, decide_eq_true_eq, Bool.and_eq_true, beq_iff_eq] at h1 h2 ⊢
  rcases h1 with h1 | ⟨rfl, h1⟩
  ·rcases h2 with h2 | ⟨rfl, h2⟩
   ·exact .inl (UInt8.lt_trans h1 h2)
   ·exact .inl h1
  ·rcases h2 with h2 | ⟨rfl, h2⟩
   ·exact .inl h2
   ·exact .inr ⟨rfl, bl_trans x y z h1 h2⟩
def posF (n : Str) : RecT → Nat
 | [] => 0
 | y :: ys => if sLt y.1 n then posF n ys + 1 else 0
def setV (l : RecT) (i : Nat) (v : Int) : RecT := l.set i ((l.getD i default).1, v)
def insF (l : RecT) (j : Nat) (y : FieldT) : RecT := l.take j ++ y :: l.drop j
def hitF (n : Str) (r : RecT) : Bool := decide (posF n r < r.length) && sEq (r.getD (posF n r) default).1 n
def setF0 (r : RecT) (n : Str) (v : Int) : RecT := if hitF n r then setV r (posF n r) v else insF r (posF n r) (n, v)
def setF (r : RecT) (n : Str) (v : Int) : RecT × Bool := if !isRec r || !isRec (setF0 r n v) then (r, false) else (setF0 r n v, true)
theorem setF_no {r o : RecT} {n : Str} {v : Int} (ho : isRec r = true → o = setF0 r n v) (h : (!isRec r || !isRec o) = true) : setF r n v = (r, false) := by
 unfold setF
 by_cases hr : isRec r = true
 ·rw [← ho hr, if_pos h]
 ·rw [if_pos (by simp [hr])]
theorem setF_yes {r o : RecT} {n : Str} {v : Int} (ho : isRec r = true → o = setF0 r n v) (h : (!isRec r || !isRec o) = false) : setF r n v = (o, true) := by
 have hr : isRec r = true := by cases hh : isRec r <;> simp_all
 rw [setF, ← ho hr, if_neg (by rw [h]; simp)]
theorem dropF_cons {l : RecT} {j : Nat} (h : j < l.length) : l.drop j = l.getD j default :: l.drop (j + 1) := by
 rw [List.drop_eq_getElem_cons h]
 simp [List.getD, List.getElem?_eq_getElem h]
def srt : RecT → Prop
 | [] => True
 | y :: ys => (∀ z ∈ ys, sLt y.1 z.1 = true) ∧ srt ys
theorem rec_adj {r : RecT} (h : isRec r = true) (i : Nat) (hi : i + 1 < r.length) : sLt (r.getD i default).1 (r.getD (i + 1) default).1 = true := by
 rw [isRec, Bool.and_eq_true, List.all_eq_true] at h
 have := h.1 (i + 1) (List.mem_range.2 hi)
 simp only [recBad, Bool.not_eq_true', Bool.or_eq_false_iff, Int.toNat_natCast] at this
 have h2 := this.2
 rw [decide_eq_true (by omega : (0 : Int) < ((i + 1 : Nat) : Int)), Bool.true_and, sLe_eq, show (((i + 1 : Nat) : Int) - 1).toNat = i by omega] at h2
 simpa using h2
theorem srt_of : ∀ (l : RecT), (∀ i, i + 1 < l.length → sLt (l.getD i default).1 (l.getD (i + 1) default).1 = true) → srt l
 | [], _ => trivial
 | [y], _ => ⟨by simp, trivial⟩
 | y :: z :: l, h => by
  have ih := srt_of (z :: l) (fun i hi => by have := h (i + 1) (by simp only [List.length_cons] at hi ⊢; omega); simpa using this)
  have h0 : sLt y.1 z.1 = true := by simpa using h 0 (by simp)
  refine ⟨fun u hu => ?_, ih⟩
  rcases List.mem_cons.1 hu with rfl | hu
  ·exact h0
  ·exact bl_trans _ _ _ h0 (ih.1 u hu)
theorem sEq_lt {a b n : Str} (h : sEq a b = true) : sLt n a = sLt n b ∧ sLt a n = sLt b n := by
 have : a.toList = b.toList := by simpa [sEq] using h
 exact ⟨by unfold sLt; rw [this], by unfold sLt; rw [this]⟩
theorem srt_find {n : Str} : ∀ (r : RecT) (i : Int), 0 ≤ i → srt r → (∃ k : Nat, k < r.length ∧ findI (fName n) r i = i + (k : Int) ∧ posF n r = k ∧ sEq (r.getD k default).1 n = true) ∨ (findI (fName n) r i = -1 ∧ hitF n r = false)
 | [], i, _, _ => .inr ⟨rfl, rfl⟩
 | y :: ys, i, hi, hs => by
  by_cases he : sEq y.1 n = true
  ·refine .inl ⟨0, by simp, by rw [findI, if_pos (show fName n y = true from he)]; simp, ?_, by simpa using he⟩
   rw [posF, if_neg]
   rw [(sEq_lt (n := n) he).2]
   simp [sLt, bl_irr]
  ·have hf : findI (fName n) (y :: ys) i = findI (fName n) ys (i + 1) := by rw [findI, if_neg (show ¬ fName n y = true from he)]
   by_cases hl : sLt y.1 n = true
   ·rcases srt_find ys (i + 1) (by omega) hs.2 with ⟨k, h1, h2, h3, h4⟩ | ⟨h1, h2⟩
    ·exact .inl ⟨k + 1, by simpa using h1, by rw [hf, h2]; omega, by rw [posF, if_pos hl, h3], by simpa using h4⟩
    ·refine .inr ⟨by rw [hf, h1], ?_⟩
     unfold hitF at h2 ⊢
     rw [posF, if_pos hl]
     simpa using h2
   ·refine .inr ⟨?_, ?_⟩
    ·rw [hf]
     rcases findI_cases (p := fName n) (d := default) ys (i + 1) (by omega) with ⟨h1, _⟩ | ⟨m, h1, _, _, h4⟩
     ·exact h1
     ·exfalso
      have hm : ys.getD m default ∈ ys := by simp [List.getD, List.getElem?_eq_getElem h1]
      have := hs.1 _ hm
      rw [(sEq_lt (n := y.1) h4).1] at this
      exact hl this
    ·unfold hitF
     rw [posF, if_neg hl]
     simp [he]
theorem hit_impl {r : RecT} {n : Str} {v : Int} (hr : isRec r = true) (h : 0 ≤ findI (fName n) r 0) : setV r (findI (fName n) r 0).toNat v = setF0 r n v := by
 rcases srt_find (n := n) r 0 (by omega) (srt_of r (rec_adj hr)) with ⟨k, h1, h2, h3, h4⟩ | ⟨h1, _⟩
 ·have hh : hitF n r = true := by unfold hitF; rw [h3, h4, decide_eq_true h1]; rfl
  rw [setF0, if_pos hh, h3, h2]
  congr 1; omega
 ·omega
theorem miss_impl {r : RecT} {n : Str} {v : Int} {j : Nat} (hr : isRec r = true) (h : ¬ 0 ≤ findI (fName n) r 0) (hj : posF n r = j) : insF r j (n, v) = setF0 r n v := by
 rcases srt_find (n := n) r 0 (by omega) (srt_of r (rec_adj hr)) with ⟨k, h1, h2, h3, h4⟩ | ⟨_, h1⟩
 ·omega
 ·rw [setF0, if_neg (by rw [h1]; simp), hj]
theorem hit_spec {r : RecT} {n : Str} {v : Int} {j : Nat} (hj : posF n r = j) (h : (decide ((j : Int) < (r.length : Int)) && sEq (r.getD (j : Int).toNat default).1 n) = true) : setV r j v = setF0 r n v := by
 have hh : hitF n r = true := by
  rw [Bool.and_eq_true, decide_eq_true_eq, Int.toNat_natCast] at h
  unfold hitF; rw [hj, h.2, decide_eq_true (by omega)]; rfl
 rw [setF0, if_pos hh, hj]
theorem miss_spec {r : RecT} {n : Str} {v : Int} {j : Nat} (hj : posF n r = j) (h : (decide ((j : Int) < (r.length : Int)) && sEq (r.getD (j : Int).toNat default).1 n) = false) : insF r j (n, v) = setF0 r n v := by
 have hh : hitF n r = false := by
  rw [Int.toNat_natCast] at h
  unfold hitF; rw [hj]
  by_cases hl : j < r.length
  ·rw [decide_eq_true (by omega : (j : Int) < (r.length : Int))] at h; rw [decide_eq_true hl]; exact h
  ·rw [decide_eq_false hl]; rfl
 rw [setF0, if_neg (by rw [hh]; simp), hj]
theorem posF_step {n : Str} {l : RecT} {j : Nat} (hp : posF n l = j + posF n (l.drop j)) (h : (decide ((j : Int) < (l.length : Int)) && sLt (l.getD (j : Int).toNat default).1 n) = true) : j < l.length ∧ posF n l = (j + 1) + posF n (l.drop (j + 1)) := by
 obtain ⟨h1, h2⟩ := (Bool.and_eq_true _ _ ▸ h : _ ∧ _)
 have h1 := of_decide_eq_true h1
 rw [Int.toNat_natCast] at h2
 have h3 : j < l.length := by omega
 refine ⟨h3, ?_⟩
 rw [hp, dropF_cons h3, posF, if_pos h2]
 omega
theorem posF_stop {n : Str} {l : RecT} {j : Nat} (hj : j ≤ l.length) (hp : posF n l = j + posF n (l.drop j)) (h : (decide ((j : Int) < (l.length : Int)) && sLt (l.getD (j : Int).toNat default).1 n) = false) : posF n l = j := by
 rcases Nat.lt_or_ge j l.length with h3 | h3
 ·rw [decide_eq_true (by omega : (j : Int) < (l.length : Int)), Bool.true_and, Int.toNat_natCast] at h
  rw [hp, dropF_cons h3, posF, if_neg (by rw [h]; simp)]
  omega
 ·rw [hp, List.drop_eq_nil_of_le h3, posF]; omega
theorem len2 (l : RecT) : (l.flatMap eField).length = l.length * 2 := fl_len (enc := eField) (sz := 2) (fun _ => rfl) l
theorem setV_len {l : RecT} {i : Nat} {v : Int} : (setV l i v).length = l.length := by simp [setV]
theorem setR_setV {l : RecT} {i : Nat} {v : Int} (hi : i < l.length) : setR (i * 2 + 1) [DV.int .i64 v] (l.flatMap eField) = (setV l i v).flatMap eField := by
 have e : l.flatMap eField = (l.take i).flatMap eField ++ (eField (l.getD i default) ++ (l.drop (i + 1)).flatMap eField) := by
  rw [← List.flatMap_cons, ← dropF_cons hi, ← List.flatMap_append, List.take_append_drop]
 have e2 : (setV l i v).flatMap eField = (l.take i).flatMap eField ++ (eField ((l.getD i default).1, v) ++ (l.drop (i + 1)).flatMap eField) := by
  rw [setV, List.set_eq_take_append_cons_drop, if_pos hi, List.flatMap_append, List.flatMap_cons]
 have hl : ((l.take i).flatMap eField).length = i * 2 := by rw [len2, List.length_take]; omega
 rw [e, e2]
 exact setR_mid (pre := (l.take i).flatMap eField) (B := eField (l.getD i default)) (B' := eField ((l.getD i default).1, v)) (post := (l.drop (i + 1)).flatMap eField) (m := i * 2) (off := i * 2 + 1) (j := 1) hl rfl rfl (Nat.le_refl _)
theorem insF_len {l : RecT} {j : Nat} {y : FieldT} : (insF l j y).length = l.length + 1 := by simp [insF]; omega
theorem insL_fields {o : RecT} {j : Nat} {y : FieldT} : insL (o.flatMap eField) ((j : Int).toNat * 2) (eField y) = (insF o j y).flatMap eField := by
 obtain ⟨h1, h2⟩ := take_flat (enc := eField) (sz := 2) (fun _ => rfl) j o
 rw [Int.toNat_natCast, insL, insF, List.flatMap_append, List.flatMap_cons, h1, h2, List.append_assoc]
theorem setF_len (r : RecT) (n : Str) (v : Int) : (setF r n v).1.length ≤ r.length + 1 := by
 unfold setF setF0
 repeat' split
 all_goals first | (show r.length ≤ _; omega) | (simp only [setV_len, insF_len]; omega)

theorem ok_impl_SetField {r : RecT} {n : Str} {v : Int} (hb : r.length ≤ 1099511627776) : KFn Tryz.prog 106 [.agg [(.dv [] (fieldsD (r)))], .one (.dv [] (.str (n))), .one (.dv [] (.int .i64 (v)))] (.tup [(true, [(.key 9001)]), (false, [(.dv [] (.bool ((setF r n v).2)))])]) [(9001, some (kcOf false (fieldsD ((setF r n v).1))))] := by
 refine ⟨fn_intro Tryz.func106 rfl Tryz.ntmps106 Tryz.results106 rfl (fun C => ?_)⟩
 refine yF 0 0 rfl rfl fun f0_0 => ?_
 refine ok_fact (x := .tmp 1) (ev_tmp rfl) fun f1 => ?_
 refine ok_fact (x := .tmp 2) (ev_tmp rfl) fun f2 => ?_
 iterate 7 refine z ?_
 refine zK 8998 Tryz.call139 ?_ (hf := ok_impl_copyRecord (x := r) (by omega))
 iterate 7 refine z ?_
 refine zC Tryz.call144 ?_ (hf := ok_impl_fieldAt (x := r) (n := n) )
 iterate 6 refine z ?_
 refine yQ rfl (fun c1 => ?_) fun c1 => ?_
 ·skip
  have d1 := of_decide_eq_true c1
  have hlt : (findI (fName n) r 0).toNat < r.length := by have := findI_lt (p := fName n) r 0 (by omega); omega
  refine ok_region ?_
  iterate 4 refine z ?_
  refine yO rfl rfl (pu_indexK (i := (findI (fName (n)) (r) 0).toNat) hT rfl rfl rfl (ev_tmp rfl) rfl (ev_tmp rfl) (by omega) (by show _ < ((r)).length; omega)) rfl ?_
  refine z ?_
  refine o_storeE (js := []) (cs := (setV r (findI (fName n) r 0).toNat v).flatMap eField) hT rfl rfl rfl rfl (ev_tmp rfl) (ev_tmp rfl) rfl rfl rfl rfl (ow_cons' (ow_dv rfl) ow_nil rfl) (by decide) (by decide) rfl (by show _ ≤ List.length ((r).flatMap eField); rw [len2]; omega) (setR_setV (by omega)) ?_
  simp only [killT, killB, SV.kill, CV.kill, kk, Nat.reduceBEq]
  refine z ?_
  refine ok_seq ?_
  refine ok_seq ?_
  refine ok_weak (weak_eq (k := 9001) (c' := kcOf false (fieldsD (setV r (findI (fName n) r 0).toNat v))) rfl (congrArg (fun m => KC.mk false 158 2 m ((setV r (findI (fName n) r 0).toNat v).flatMap eField)) setV_len.symm) rfl) ?_
  refine ok_region ?_
  refine z ?_
  refine zC Tryz.call100 ?_ (hf := ok_impl_IsRecord (r := r) )
  iterate 3 refine z ?_
  refine o_callG (gd_bool rfl rfl rfl rfl rfl) rfl rfl Tryz.call100 (ok_impl_IsRecord (r := setV r (findI (fName n) r 0).toNat v) ) (fun hg => (as_cons (ev_opt rfl hg) (ag_agg (ag_cons (ac_key' rfl rfl) ag_nil)) as_nil)) rfl rfl ?_
  iterate 3 refine z ?_
  refine yQ rfl (fun c2 => ?_) fun c2 => ?_
  ·skip
   refine ok_seq ?_
   refine ok_weak (σ' := ⟨[(3, .box 3 0), (6, .box 6 0), (7, .one (.dv [] (.bool (false))))], [(3, 45, [(.dv [] (fieldsD (r)))]), (6, 45, [.nil])], []⟩) (weak_sub ⟨rfl, rfl, rfl, trivial⟩ ⟨rfl, rfl, trivial⟩ trivial rfl) ?_
   refine ok_region ?_
   refine z ?_
   refine zK 8998 Tryz.call139 ?_ (hf := ok_impl_copyRecord (x := r) (by omega))
   iterate 3 refine z ?_
   rw [setF_no (fun hr => hit_impl hr d1) c2]
   refine ok_weak (σ' := ⟨[(6, .box 6 0), (7, .one (.dv [] (.bool (false))))], [(6, 45, [(.key 9001)])], [(9001, some (kcOf false (fieldsD (r))))]⟩) (weak_sub ⟨rfl, rfl, trivial⟩ ⟨rfl, trivial⟩ ⟨rfl, trivial⟩ rfl) ?_
   iterate 2 refine z ?_
   refine fin2 (res_cell hT rfl rfl rfl rfl) (res_tmp rfl) rfl rfl ?_
   first | exact ⟨rfl, rfl⟩ | skip
  ·skip
   iterate 7 refine z ?_
   rw [setF_yes (fun hr => hit_impl hr d1) c2]
   refine ok_weak (σ' := ⟨[(6, .box 6 0), (7, .one (.dv [] (.bool (true))))], [(6, 45, [(.key 9001)])], [(9001, some (kcOf false (fieldsD (setV r (findI (fName n) r 0).toNat v))))]⟩) (weak_sub ⟨rfl, rfl, trivial⟩ ⟨rfl, trivial⟩ ⟨rfl, trivial⟩ rfl) ?_
   refine z ?_
   refine fin2 (res_cell hT rfl rfl rfl rfl) (res_tmp rfl) rfl rfl ?_
   first | exact ⟨rfl, rfl⟩ | skip
 ·skip
  have d1 := of_decide_eq_false c1
  iterate 5 refine z ?_
  refine ok_loop (ι := Nat) (fun zz => ⟨[(1, .one (.dv [] (.str (n)))), (2, .one (.dv [] (.int .i64 (v)))), (3, .box 3 0), (6, .box 6 0), (7, .one (.dv [] (.bool (false)))), (8, .box 8 0), (10, .one (.dv [] (.int .i64 ((zz : Int)))))], [(3, 45, [(.dv [] (fieldsD (r)))]), (6, 45, [.nil]), (8, 45, [(.key 9001)])], [(9001, some (kcOf false (.sl 158 2 (r.length) (r.flatMap eField))))]⟩) (fun zz => zz ≤ r.length ∧ posF n r = zz + posF n (r.drop zz)) (fun zz => r.length - zz) (0) ?_ (weak_sub ⟨rfl, rfl, rfl, rfl, rfl, rfl, rfl, trivial⟩ ⟨rfl, rfl, rfl, trivial⟩ ⟨rfl, trivial⟩ rfl) (fun zz hx => ?_)
  ·exact ⟨Nat.zero_le _, by simp⟩
  obtain ⟨j, rfl⟩ : ∃ v, v = zz := ⟨_, rfl⟩
  replace hx : j ≤ r.length ∧ posF n r = j + posF n (r.drop j) := hx
  obtain ⟨hj, hp⟩ := hx
  show Ok _ _ _ _ _ (⟨[(1, .one (.dv [] (.str (n)))), (2, .one (.dv [] (.int .i64 (v)))), (3, .box 3 0), (6, .box 6 0), (7, .one (.dv [] (.bool (false)))), (8, .box 8 0), (10, .one (.dv [] (.int .i64 ((j : Int)))))], [(3, 45, [(.dv [] (fieldsD (r)))]), (6, 45, [.nil]), (8, 45, [(.key 9001)])], [(9001, some (kcOf false (.sl 158 2 (r.length) (r.flatMap eField))))]⟩ : St)
  iterate 4 refine z ?_
  refine yO rfl rfl (pu_view (dd := fieldsD r) (pu_loadBox1 hT rfl rfl (ev_tmp rfl) rfl rfl) rfl rfl) rfl ?_
  iterate 4 refine z ?_
  refine o_pureG (gd_bool rfl rfl rfl rfl rfl) rfl (fun hg => pu_view (dd := fieldsD r) (pu_loadBox1 hT rfl rfl (ev_opt rfl hg) rfl rfl) rfl rfl) rfl rfl ?_
  iterate 8 refine z ?_
  refine yQ rfl (fun c3 => ?_) fun c3 => ?_
  ·skip
   have hst := posF_step hp c3
   have hst1 := hst.1
   iterate 3 refine z ?_
   refine ok_region ?_
   iterate 3 refine z ?_
   refine ops_nil ?_
   iterate 2 refine z ?_
   refine ⟨j + 1, ?_, ?_, weak_sub ⟨rfl, rfl, rfl, rfl, rfl, rfl, rfl, trivial⟩ ⟨rfl, rfl, rfl, trivial⟩ ⟨rfl, trivial⟩ rfl⟩
   ·exact ⟨by omega, hst.2⟩
   ·omega
  ·skip
   have hpos := posF_stop hj hp c3
   iterate 5 refine z ?_
   refine ok_region ?_
   iterate 5 refine z ?_
   refine yO rfl rfl (pu_build hT hB rfl rfl rfl (bp_cons (ev_tmp rfl) rfl rfl rfl rfl rfl (bp_cons (ev_tmp rfl) rfl rfl rfl rfl rfl bp_nil))) rfl ?_
   refine o_build1 (k := 47) (js := []) hT rfl rfl rfl rfl rfl rfl rfl rfl rfl (ev_tmp rfl) rfl rfl (ow_cons' (ow_dv rfl) (ow_cons' (ow_dv rfl) ow_nil rfl) rfl) (by decide) (by decide) rfl rfl ?_
   simp only [killT, killB, SV.kill, CV.kill, kk, Nat.reduceBEq]
   refine o_insert (k := 9001) (j := 47) (cs := (insF r j (n, v)).flatMap eField) (n := (insF r j (n, v)).length) (insOk_Field rfl rfl (by decide)) rfl rfl Tryz.call145 rfl rfl (ev_tmp rfl) rfl rfl rfl (ev_tmp rfl) (by omega) (by dsimp only [kcOf]; omega) (ev_tmp rfl) rfl rfl rfl rfl (by decide) (by dsimp only [kcOf]; omega) (by dsimp only [kcOf]; omega) (by rw [insF_len]) (insL_fields (o := r) (j := j) (y := (n, v))) ?_
   simp only [killT, killB, SV.kill, CV.kill, kk, Nat.reduceBEq]
   iterate 3 refine z ?_
   refine ok_seq ?_
   refine ok_seq ?_
   refine ok_weak (weak_eq (k := 9001) (c' := kcOf false (fieldsD (insF r j (n, v)))) rfl (rfl) rfl) ?_
   refine ok_region ?_
   refine z ?_
   refine zC Tryz.call100 ?_ (hf := ok_impl_IsRecord (r := r) )
   iterate 3 refine z ?_
   refine o_callG (gd_bool rfl rfl rfl rfl rfl) rfl rfl Tryz.call100 (ok_impl_IsRecord (r := insF r j (n, v)) ) (fun hg => (as_cons (ev_opt rfl hg) (ag_agg (ag_cons (ac_key' rfl rfl) ag_nil)) as_nil)) rfl rfl ?_
   iterate 3 refine z ?_
   refine yQ rfl (fun c4 => ?_) fun c4 => ?_
   ·skip
    refine ok_seq ?_
    refine ok_weak (σ' := ⟨[(3, .box 3 0), (6, .box 6 0), (7, .one (.dv [] (.bool (false))))], [(3, 45, [(.dv [] (fieldsD (r)))]), (6, 45, [.nil])], []⟩) (weak_sub ⟨rfl, rfl, rfl, trivial⟩ ⟨rfl, rfl, trivial⟩ trivial rfl) ?_
    refine ok_region ?_
    refine z ?_
    refine zK 8998 Tryz.call139 ?_ (hf := ok_impl_copyRecord (x := r) (by omega))
    iterate 3 refine z ?_
    rw [setF_no (fun hr => miss_impl hr d1 hpos) c4]
    refine ok_weak (σ' := ⟨[(6, .box 6 0), (7, .one (.dv [] (.bool (false))))], [(6, 45, [(.key 9001)])], [(9001, some (kcOf false (fieldsD (r))))]⟩) (weak_sub ⟨rfl, rfl, trivial⟩ ⟨rfl, trivial⟩ ⟨rfl, trivial⟩ rfl) ?_
    iterate 2 refine z ?_
    refine fin2 (res_cell hT rfl rfl rfl rfl) (res_tmp rfl) rfl rfl ?_
    first | exact ⟨rfl, rfl⟩ | skip
   ·skip
    iterate 7 refine z ?_
    rw [setF_yes (fun hr => miss_impl hr d1 hpos) c4]
    refine ok_weak (σ' := ⟨[(6, .box 6 0), (7, .one (.dv [] (.bool (true))))], [(6, 45, [(.key 9001)])], [(9001, some (kcOf false (fieldsD (insF r j (n, v)))))]⟩) (weak_sub ⟨rfl, rfl, trivial⟩ ⟨rfl, trivial⟩ ⟨rfl, trivial⟩ rfl) ?_
    refine z ?_
    refine fin2 (res_cell hT rfl rfl rfl rfl) (res_tmp rfl) rfl rfl ?_
    first | exact ⟨rfl, rfl⟩ | skip
theorem ok_spec_SetField {r : RecT} {n : Str} {v : Int} (hb : r.length ≤ 1099511627776) : KFn Tryz.prog 129 [.agg [(.dv [] (fieldsD (r)))], .one (.dv [] (.str (n))), .one (.dv [] (.int .i64 (v)))] (.tup [(true, [(.key 9001)]), (false, [(.dv [] (.bool ((setF r n v).2)))])]) [(9001, some (kcOf false (fieldsD ((setF r n v).1))))] := by
 refine ⟨fn_intro Tryz.func129 rfl Tryz.ntmps129 Tryz.results129 rfl (fun C => ?_)⟩
 refine yF 0 0 rfl rfl fun f0_0 => ?_
 refine ok_fact (x := .tmp 1) (ev_tmp rfl) fun f1 => ?_
 refine ok_fact (x := .tmp 2) (ev_tmp rfl) fun f2 => ?_
 iterate 7 refine z ?_
 refine zK 8998 Tryz.call127 ?_ (hf := ok_spec_l5Copy (x := r) (by omega))
 iterate 8 refine z ?_
 refine ok_loop (ι := Nat) (fun zz => ⟨[(1, .one (.dv [] (.str (n)))), (2, .one (.dv [] (.int .i64 (v)))), (3, .box 3 0), (6, .box 6 0), (7, .one (.dv [] (.bool (false)))), (8, .box 8 0), (9, .one (.dv [] (.int .i64 ((zz : Int)))))], [(3, 45, [(.dv [] (fieldsD (r)))]), (6, 45, [.nil]), (8, 45, [(.key 9001)])], [(9001, some (kcOf false (.sl 158 2 (r.length) (r.flatMap eField))))]⟩) (fun zz => zz ≤ r.length ∧ posF n r = zz + posF n (r.drop zz)) (fun zz => r.length - zz) (0) ?_ (weak_sub ⟨rfl, rfl, rfl, rfl, rfl, rfl, rfl, trivial⟩ ⟨rfl, rfl, rfl, trivial⟩ ⟨rfl, trivial⟩ rfl) (fun zz hx => ?_)
 ·exact ⟨Nat.zero_le _, by simp⟩
 obtain ⟨j, rfl⟩ : ∃ v, v = zz := ⟨_, rfl⟩
 replace hx : j ≤ r.length ∧ posF n r = j + posF n (r.drop j) := hx
 obtain ⟨hj, hp⟩ := hx
 show Ok _ _ _ _ _ (⟨[(1, .one (.dv [] (.str (n)))), (2, .one (.dv [] (.int .i64 (v)))), (3, .box 3 0), (6, .box 6 0), (7, .one (.dv [] (.bool (false)))), (8, .box 8 0), (9, .one (.dv [] (.int .i64 ((j : Int)))))], [(3, 45, [(.dv [] (fieldsD (r)))]), (6, 45, [.nil]), (8, 45, [(.key 9001)])], [(9001, some (kcOf false (.sl 158 2 (r.length) (r.flatMap eField))))]⟩ : St)
 iterate 18 refine z ?_
 refine yQ rfl (fun c1 => ?_) fun c1 => ?_
 ·skip
  have hst := posF_step hp c1
  have hst1 := hst.1
  iterate 3 refine z ?_
  refine ok_region ?_
  iterate 3 refine z ?_
  refine ops_nil ?_
  iterate 2 refine z ?_
  refine ⟨j + 1, ?_, ?_, weak_sub ⟨rfl, rfl, rfl, rfl, rfl, rfl, rfl, trivial⟩ ⟨rfl, rfl, rfl, trivial⟩ ⟨rfl, trivial⟩ rfl⟩
  ·exact ⟨by omega, hst.2⟩
  ·omega
 ·skip
  have hpos := posF_stop hj hp c1
  iterate 23 refine z ?_
  refine yQ rfl (fun c2 => ?_) fun c2 => ?_
  ·skip
   have hlt : j < r.length := by have h8 := c2; rw [Bool.and_eq_true, decide_eq_true_eq] at h8; omega
   refine ok_region ?_
   iterate 4 refine z ?_
   refine yO rfl rfl (pu_indexK (i := j) hT rfl rfl rfl (ev_tmp rfl) rfl (ev_tmp rfl) rfl (by show _ < (r.length); omega)) rfl ?_
   refine z ?_
   refine o_storeE (js := []) (cs := (setV r j v).flatMap eField) hT rfl rfl rfl rfl (ev_tmp rfl) (ev_tmp rfl) rfl rfl rfl rfl (ow_cons' (ow_dv rfl) ow_nil rfl) (by decide) (by decide) rfl (by show _ ≤ List.length (r.flatMap eField); rw [len2]; omega) (setR_setV (by omega)) ?_
   simp only [killT, killB, SV.kill, CV.kill, kk, Nat.reduceBEq]
   refine z ?_
   refine ok_seq ?_
   refine ok_seq ?_
   refine ok_weak (weak_eq (k := 9001) (c' := kcOf false (fieldsD (setV r j v))) rfl (congrArg (fun m => KC.mk false 158 2 m ((setV r j v).flatMap eField)) setV_len.symm) rfl) ?_
   refine ok_region ?_
   refine z ?_
   refine zC Tryz.call84 ?_ (hf := ok_spec_IsRecord (r := r) )
   iterate 3 refine z ?_
   refine o_callG (gd_bool rfl rfl rfl rfl rfl) rfl rfl Tryz.call84 (ok_spec_IsRecord (r := setV r j v) ) (fun hg => (as_cons (ev_opt rfl hg) (ag_agg (ag_cons (ac_key' rfl rfl) ag_nil)) as_nil)) rfl rfl ?_
   iterate 3 refine z ?_
   refine yQ rfl (fun c3 => ?_) fun c3 => ?_
   ·skip
    refine ok_seq ?_
    refine ok_weak (σ' := ⟨[(3, .box 3 0), (6, .box 6 0), (7, .one (.dv [] (.bool (false))))], [(3, 45, [(.dv [] (fieldsD (r)))]), (6, 45, [.nil])], []⟩) (weak_sub ⟨rfl, rfl, rfl, trivial⟩ ⟨rfl, rfl, trivial⟩ trivial rfl) ?_
    refine ok_region ?_
    refine z ?_
    refine zK 8998 Tryz.call127 ?_ (hf := ok_spec_l5Copy (x := r) (by omega))
    iterate 3 refine z ?_
    rw [setF_no (fun _ => hit_spec hpos c2) c3]
    refine ok_weak (σ' := ⟨[(6, .box 6 0), (7, .one (.dv [] (.bool (false))))], [(6, 45, [(.key 9001)])], [(9001, some (kcOf false (fieldsD (r))))]⟩) (weak_sub ⟨rfl, rfl, trivial⟩ ⟨rfl, trivial⟩ ⟨rfl, trivial⟩ rfl) ?_
    iterate 2 refine z ?_
    refine fin2 (res_cell hT rfl rfl rfl rfl) (res_tmp rfl) rfl rfl ?_
    first | exact ⟨rfl, rfl⟩ | skip
   ·skip
    iterate 7 refine z ?_
    rw [setF_yes (fun _ => hit_spec hpos c2) c3]
    refine ok_weak (σ' := ⟨[(6, .box 6 0), (7, .one (.dv [] (.bool (true))))], [(6, 45, [(.key 9001)])], [(9001, some (kcOf false (fieldsD (setV r j v))))]⟩) (weak_sub ⟨rfl, rfl, trivial⟩ ⟨rfl, trivial⟩ ⟨rfl, trivial⟩ rfl) ?_
    refine z ?_
    refine fin2 (res_cell hT rfl rfl rfl rfl) (res_tmp rfl) rfl rfl ?_
    first | exact ⟨rfl, rfl⟩ | skip
  ·skip
   refine ok_cutT (σ' := ⟨[(3, .box 3 0), (6, .box 6 0), (7, .one (.dv [] (.bool (false)))), (8, .box 8 0)], [(3, 45, [(.dv [] (fieldsD (r)))]), (6, 45, [.nil]), (8, 45, [(.key 9050)])], [(9001, some (kcOf false (.sl 158 2 (r.length) (r.flatMap eField)))), (9050, some (kcOf false (.sl 158 2 ((insF r j (n, v)).length) ((insF r j (n, v)).flatMap eField))))]⟩) ?_ ?_
   ·skip
    refine ok_regionH [0, 1, 2, 3, 4, 5, 6, 7, 8, 9, 10, 11, 12, 13, 14, 15, 16] (oB := [3, 6, 8]) (oK := [9001]) (by kernel_rfl) rfl rfl ?_
    refine n_start ?_
    refine zN 1 ?_
    refine zN 2 ?_
    refine zN 3 ?_
    refine n_take 4 rfl (by kernel_rfl) rfl rfl (pu_sliceH hT rfl rfl rfl (ev_tmp rfl) (ev_tmp rfl) (fun _ => rfl) (by omega) (by omega)) rfl rfl rfl rfl ?_
    refine zN 6 ?_
    refine zN 7 ?_
    refine n_take 8 rfl (by kernel_rfl) rfl rfl (pu_build hT hB rfl rfl rfl (bp_cons (ev_tmp rfl) rfl rfl rfl rfl rfl (bp_cons (ev_tmp rfl) rfl rfl rfl rfl rfl bp_nil))) rfl rfl rfl rfl ?_
    refine zN 11 ?_
    refine zN 12 ?_
    refine zN 13 ?_
    refine n_take 14 rfl (by kernel_rfl) rfl rfl (pu_sliceL hT rfl rfl rfl (ev_tmp rfl) (ev_tmp rfl) (fun _ => rfl) (by omega) (by omega)) rfl rfl rfl rfl ?_
    refine n_split 0 [9] (by kernel_rfl) ⟨?_, ?_, trivial⟩
    ·skip
     refine nj_build0 (k := 9050) 0 hT rfl rfl rfl rfl rfl rfl rfl rfl rfl rfl rfl rfl ?_
     refine n_split 5 [9] (by kernel_rfl) ⟨?_, ?_, trivial⟩
     ·skip
      refine nj_appV (k := 9050) (cs := (r.take j).flatMap eField) (n := (r.take j).length) 5 hT rfl rfl rfl rfl rfl rfl rfl rfl (ev_tmp rfl) rfl rfl rfl (ev_tmp rfl) (plain_flat (fun _ => rfl) _) (by dsimp only [kcOf]; simp only [List.length_take]; omega) (by dsimp only [kcOf]; simp only [List.length_take]; omega) (Nat.zero_add _) (rfl) rfl rfl ?_
      simp only [killT, killB, SV.kill, CV.kill, kk, Nat.reduceBEq]
      refine n_split 9 [] (by kernel_rfl) ⟨?_, trivial⟩
      ·skip
       refine nj_buildN (k := 9059) (js := []) 9 hT rfl rfl rfl rfl rfl rfl rfl rfl rfl rfl rfl rfl (ep_cons (ev_tmp rfl) rfl rfl rfl ep_nil) (ow_cons' (ow_dv rfl) (ow_cons' (ow_dv rfl) ow_nil rfl) rfl) (by decide) (by decide) rfl rfl rfl rfl rfl ?_
       simp only [killT, killB, SV.kill, CV.kill, kk, Nat.reduceBEq]
       refine n_split 10 [] (by kernel_rfl) ⟨?_, trivial⟩
       ·skip
        refine nj_appV (k := 9050) (cs := ((r.take j) ++ [(n, v)]).flatMap eField) (n := ((r.take j) ++ [(n, v)]).length) (m := 1) (ds := [.str (n), .int .i64 (v)]) 10 hT rfl rfl rfl rfl rfl rfl rfl rfl (ev_tmp rfl) rfl rfl rfl (ev_keyv' (ev_tmp rfl) rfl rfl) rfl (by dsimp only [kcOf]; simp only [List.length_take]; omega) (by dsimp only [kcOf]; simp only [List.length_take]; omega) (by simp) (by rw [List.flatMap_append]; rfl) rfl rfl ?_
        simp only [killT, killB, SV.kill, CV.kill, kk, Nat.reduceBEq]
        refine n_split 15 [] (by kernel_rfl) ⟨?_, trivial⟩
        ·skip
         refine nj_appV (k := 9050) (cs := (insF r j (n, v)).flatMap eField) (n := (insF r j (n, v)).length) 15 hT rfl rfl rfl rfl rfl rfl rfl rfl (ev_tmp rfl) rfl rfl rfl (ev_tmp rfl) (plain_flat (fun _ => rfl) _) (by dsimp only [kcOf]; simp only [List.length_append, List.length_take, List.length_drop, List.length_singleton]; omega) (by dsimp only [kcOf]; simp only [List.length_append, List.length_take, List.length_drop, List.length_singleton]; omega) (by simp [insF]; omega) (by rw [← List.flatMap_append, insF, List.append_assoc]; rfl) rfl rfl ?_
         simp only [killT, killB, SV.kill, CV.kill, kk, Nat.reduceBEq]
         refine zN 16 ?_
         refine n_split 17 [] (by kernel_rfl) ⟨?_, trivial⟩
         ·skip
          refine nj_last 17 rfl rfl (by kernel_rfl) (ef_storeBox hT rfl rfl rfl (ev_tmp rfl) (ev_tmp rfl) rfl rfl rfl rfl rfl rfl) (by kernel_rfl) ?_
          exact then_n (weak_sub ⟨rfl, rfl, rfl, rfl, trivial⟩ ⟨rfl, rfl, rfl, trivial⟩ ⟨rfl, rfl, trivial⟩ rfl)
     ·skip
      refine nj_buildN (k := 9059) (js := []) 9 hT rfl rfl rfl rfl rfl rfl rfl rfl rfl rfl rfl rfl (ep_cons (ev_tmp rfl) rfl rfl rfl ep_nil) (ow_cons' (ow_dv rfl) (ow_cons' (ow_dv rfl) ow_nil rfl) rfl) (by decide) (by decide) rfl rfl rfl rfl rfl ?_
      simp only [killT, killB, SV.kill, CV.kill, kk, Nat.reduceBEq]
      refine n_split 5 [] (by kernel_rfl) ⟨?_, trivial⟩
      ·skip
       refine nj_appV (k := 9050) (cs := (r.take j).flatMap eField) (n := (r.take j).length) 5 hT rfl rfl rfl rfl rfl rfl rfl rfl (ev_tmp rfl) rfl rfl rfl (ev_tmp rfl) (plain_flat (fun _ => rfl) _) (by dsimp only [kcOf]; simp only [List.length_take]; omega) (by dsimp only [kcOf]; simp only [List.length_take]; omega) (Nat.zero_add _) (rfl) rfl rfl ?_
       simp only [killT, killB, SV.kill, CV.kill, kk, Nat.reduceBEq]
       refine n_split 10 [] (by kernel_rfl) ⟨?_, trivial⟩
       ·skip
        refine nj_appV (k := 9050) (cs := ((r.take j) ++ [(n, v)]).flatMap eField) (n := ((r.take j) ++ [(n, v)]).length) (m := 1) (ds := [.str (n), .int .i64 (v)]) 10 hT rfl rfl rfl rfl rfl rfl rfl rfl (ev_tmp rfl) rfl rfl rfl (ev_keyv' (ev_tmp rfl) rfl rfl) rfl (by dsimp only [kcOf]; simp only [List.length_take]; omega) (by dsimp only [kcOf]; simp only [List.length_take]; omega) (by simp) (by rw [List.flatMap_append]; rfl) rfl rfl ?_
        simp only [killT, killB, SV.kill, CV.kill, kk, Nat.reduceBEq]
        refine n_split 15 [] (by kernel_rfl) ⟨?_, trivial⟩
        ·skip
         refine nj_appV (k := 9050) (cs := (insF r j (n, v)).flatMap eField) (n := (insF r j (n, v)).length) 15 hT rfl rfl rfl rfl rfl rfl rfl rfl (ev_tmp rfl) rfl rfl rfl (ev_tmp rfl) (plain_flat (fun _ => rfl) _) (by dsimp only [kcOf]; simp only [List.length_append, List.length_take, List.length_drop, List.length_singleton]; omega) (by dsimp only [kcOf]; simp only [List.length_append, List.length_take, List.length_drop, List.length_singleton]; omega) (by simp [insF]; omega) (by rw [← List.flatMap_append, insF, List.append_assoc]; rfl) rfl rfl ?_
         simp only [killT, killB, SV.kill, CV.kill, kk, Nat.reduceBEq]
         refine zN 16 ?_
         refine n_split 17 [] (by kernel_rfl) ⟨?_, trivial⟩
         ·skip
          refine nj_last 17 rfl rfl (by kernel_rfl) (ef_storeBox hT rfl rfl rfl (ev_tmp rfl) (ev_tmp rfl) rfl rfl rfl rfl rfl rfl) (by kernel_rfl) ?_
          exact then_n (weak_sub ⟨rfl, rfl, rfl, rfl, trivial⟩ ⟨rfl, rfl, rfl, trivial⟩ ⟨rfl, rfl, trivial⟩ rfl)
    ·skip
     refine nj_buildN (k := 9059) (js := []) 9 hT rfl rfl rfl rfl rfl rfl rfl rfl rfl rfl rfl rfl (ep_cons (ev_tmp rfl) rfl rfl rfl ep_nil) (ow_cons' (ow_dv rfl) (ow_cons' (ow_dv rfl) ow_nil rfl) rfl) (by decide) (by decide) rfl rfl rfl rfl rfl ?_
     simp only [killT, killB, SV.kill, CV.kill, kk, Nat.reduceBEq]
     refine n_split 0 [] (by kernel_rfl) ⟨?_, trivial⟩
     ·skip
      refine nj_build0 (k := 9050) 0 hT rfl rfl rfl rfl rfl rfl rfl rfl rfl rfl rfl rfl ?_
      refine n_split 5 [] (by kernel_rfl) ⟨?_, trivial⟩
      ·skip
       refine nj_appV (k := 9050) (cs := (r.take j).flatMap eField) (n := (r.take j).length) 5 hT rfl rfl rfl rfl rfl rfl rfl rfl (ev_tmp rfl) rfl rfl rfl (ev_tmp rfl) (plain_flat (fun _ => rfl) _) (by dsimp only [kcOf]; simp only [List.length_take]; omega) (by dsimp only [kcOf]; simp only [List.length_take]; omega) (Nat.zero_add _) (rfl) rfl rfl ?_
       simp only [killT, killB, SV.kill, CV.kill, kk, Nat.reduceBEq]
       refine n_split 10 [] (by kernel_rfl) ⟨?_, trivial⟩
       ·skip
        refine nj_appV (k := 9050) (cs := ((r.take j) ++ [(n, v)]).flatMap eField) (n := ((r.take j) ++ [(n, v)]).length) (m := 1) (ds := [.str (n), .int .i64 (v)]) 10 hT rfl rfl rfl rfl rfl rfl rfl rfl (ev_tmp rfl) rfl rfl rfl (ev_keyv' (ev_tmp rfl) rfl rfl) rfl (by dsimp only [kcOf]; simp only [List.length_take]; omega) (by dsimp only [kcOf]; simp only [List.length_take]; omega) (by simp) (by rw [List.flatMap_append]; rfl) rfl rfl ?_
        simp only [killT, killB, SV.kill, CV.kill, kk, Nat.reduceBEq]
        refine n_split 15 [] (by kernel_rfl) ⟨?_, trivial⟩
        ·skip
         refine nj_appV (k := 9050) (cs := (insF r j (n, v)).flatMap eField) (n := (insF r j (n, v)).length) 15 hT rfl rfl rfl rfl rfl rfl rfl rfl (ev_tmp rfl) rfl rfl rfl (ev_tmp rfl) (plain_flat (fun _ => rfl) _) (by dsimp only [kcOf]; simp only [List.length_append, List.length_take, List.length_drop, List.length_singleton]; omega) (by dsimp only [kcOf]; simp only [List.length_append, List.length_take, List.length_drop, List.length_singleton]; omega) (by simp [insF]; omega) (by rw [← List.flatMap_append, insF, List.append_assoc]; rfl) rfl rfl ?_
         simp only [killT, killB, SV.kill, CV.kill, kk, Nat.reduceBEq]
         refine zN 16 ?_
         refine n_split 17 [] (by kernel_rfl) ⟨?_, trivial⟩
         ·skip
          refine nj_last 17 rfl rfl (by kernel_rfl) (ef_storeBox hT rfl rfl rfl (ev_tmp rfl) (ev_tmp rfl) rfl rfl rfl rfl rfl rfl) (by kernel_rfl) ?_
          exact then_n (weak_sub ⟨rfl, rfl, rfl, rfl, trivial⟩ ⟨rfl, rfl, rfl, trivial⟩ ⟨rfl, rfl, trivial⟩ rfl)
   refine ok_seq ?_
   refine ok_seq ?_
   refine ok_weak (weak_swapB (b := 8) (i := 0) (k := 9050) (k' := 9001) rfl rfl rfl rfl (by decide) rfl rfl) ?_
   simp only [killT, killB, SV.kill, CV.kill, kk, Nat.reduceBEq]
   refine ok_weak (weak_eq (k := 9001) (c' := kcOf false (fieldsD (insF r j (n, v)))) rfl (rfl) rfl) ?_
   refine ok_region ?_
   refine z ?_
   refine zC Tryz.call84 ?_ (hf := ok_spec_IsRecord (r := r) )
   iterate 3 refine z ?_
   refine o_callG (gd_bool rfl rfl rfl rfl rfl) rfl rfl Tryz.call84 (ok_spec_IsRecord (r := insF r j (n, v)) ) (fun hg => (as_cons (ev_opt rfl hg) (ag_agg (ag_cons (ac_key' rfl rfl) ag_nil)) as_nil)) rfl rfl ?_
   iterate 3 refine z ?_
   refine yQ rfl (fun c4 => ?_) fun c4 => ?_
   ·skip
    refine ok_seq ?_
    refine ok_weak (σ' := ⟨[(3, .box 3 0), (6, .box 6 0), (7, .one (.dv [] (.bool (false))))], [(3, 45, [(.dv [] (fieldsD (r)))]), (6, 45, [.nil])], []⟩) (weak_sub ⟨rfl, rfl, rfl, trivial⟩ ⟨rfl, rfl, trivial⟩ trivial rfl) ?_
    refine ok_region ?_
    refine z ?_
    refine zK 8998 Tryz.call127 ?_ (hf := ok_spec_l5Copy (x := r) (by omega))
    iterate 3 refine z ?_
    rw [setF_no (fun _ => miss_spec hpos c2) c4]
    refine ok_weak (σ' := ⟨[(6, .box 6 0), (7, .one (.dv [] (.bool (false))))], [(6, 45, [(.key 9001)])], [(9001, some (kcOf false (fieldsD (r))))]⟩) (weak_sub ⟨rfl, rfl, trivial⟩ ⟨rfl, trivial⟩ ⟨rfl, trivial⟩ rfl) ?_
    iterate 2 refine z ?_
    refine fin2 (res_cell hT rfl rfl rfl rfl) (res_tmp rfl) rfl rfl ?_
    first | exact ⟨rfl, rfl⟩ | skip
   ·skip
    iterate 7 refine z ?_
    rw [setF_yes (fun _ => miss_spec hpos c2) c4]
    refine ok_weak (σ' := ⟨[(6, .box 6 0), (7, .one (.dv [] (.bool (true))))], [(6, 45, [(.key 9001)])], [(9001, some (kcOf false (fieldsD (insF r j (n, v)))))]⟩) (weak_sub ⟨rfl, rfl, trivial⟩ ⟨rfl, trivial⟩ ⟨rfl, trivial⟩ rfl) ?_
    refine z ?_
    refine fin2 (res_cell hT rfl rfl rfl rfl) (res_tmp rfl) rfl rfl ?_
    first | exact ⟨rfl, rfl⟩ | skip
end Go.Proofs.YtmgijbhikmjfjaaGreat

