/-
  Items put into a store.
-/
import Derived.Test.YtbmgommbmhmbgaaI1
namespace Go.Proofs.Ytbmgommbmhmbgaa
open Go.RowKit
open Go.Proofs
set_option linter.unusedVariables false
set_option linter.unusedSimpArgs false

def posK (k : KeyT) : List ItemT → Nat
  | [] => 0
  | y :: ys => if cmpK y.1 k < 0 then posK k ys + 1 else 0
def setI (l : List ItemT) (i : Nat) (r : RecT) : List ItemT := l.set i ((l.getD i default).1, r)
def autoP (x : StoreT) (k : KeyT) : Int := if decide (k.1 = 1) && (decide (x.2.2 + 1 ≤ k.2.1) && decide (k.2.1 ≤ 1000000)) then k.2.1 else x.2.2
def putN (x : StoreT) (k : KeyT) (r : RecT) : StoreT × Bool :=
  if !isSto x || !isKey k || !isRec r then (x, false)
  else if 0 ≤ fndK x k then ((x.1, setI x.2.1 (fndK x k).toNat r, x.2.2), true)
  else if 16 ≤ x.2.1.length then (x, false)
  else ((x.1, insI x.2.1 (posK k x.2.1) (k, r), autoP x k), true)
theorem fndK_lt {x : StoreT} {k : KeyT} (h : 0 ≤ fndK x k) : fndK x k < x.2.1.length := by
  rcases findI_lt (p := fun y : ItemT => kEq y.1 k) x.2.1 0 (by omega) with h1 | h1
  · unfold fndK; omega
  · unfold fndK at h; omega
theorem put_bad {x : StoreT} {k : KeyT} {r : RecT} (h : (!isSto x || !isKey k) = true) : putN x k r = (x, false) := by
  rw [putN, if_pos (by rw [h]; rfl)]
theorem setI_len {l : List ItemT} {i : Nat} {r : RecT} : (setI l i r).length = l.length := by simp [setI]
theorem len4 (l : List ItemT) : (l.flatMap eItem).length = l.length * 4 := by
  induction l with
  | nil => rfl
  | cons x l ih => rw [List.flatMap_cons, List.length_append, ih, List.length_cons]; show 4 + l.length * 4 = (l.length + 1) * 4; omega
theorem drop_cons {l : List ItemT} {j : Nat} (h : j < l.length) : l.drop j = l.getD j default :: l.drop (j + 1) := by
  rw [List.drop_eq_getElem_cons h]
  simp [List.getD, List.getElem?_eq_getElem h]
theorem posK_step {k : KeyT} {l : List ItemT} {j : Nat} (hp : posK k l = j + posK k (l.drop j)) (h : (decide ((j : Int) < (l.length : Int)) && decide (cmpK (l.getD (j : Int).toNat default).1 k < 0)) = true) : j < l.length ∧ posK k l = (j + 1) + posK k (l.drop (j + 1)) := by
  obtain ⟨h1, h2⟩ := (Bool.and_eq_true _ _ ▸ h : _ ∧ _)
  have h1 := of_decide_eq_true h1
  have h2 := of_decide_eq_true h2
  rw [Int.toNat_natCast] at h2
  have h3 : j < l.length := by omega
  refine ⟨h3, ?_⟩
  rw [hp, drop_cons h3, posK, if_pos h2]
  omega
theorem posK_stop {k : KeyT} {l : List ItemT} {j : Nat} (hj : j ≤ l.length) (hp : posK k l = j + posK k (l.drop j)) (h : (decide ((j : Int) < (l.length : Int)) && decide (cmpK (l.getD (j : Int).toNat default).1 k < 0)) = false) : posK k l = j := by
  rcases Nat.lt_or_ge j l.length with h3 | h3
  · rw [decide_eq_true (by omega : (j : Int) < (l.length : Int)), Bool.true_and] at h
    have h2 := of_decide_eq_false h
    rw [Int.toNat_natCast] at h2
    rw [hp, drop_cons h3, posK, if_neg h2]
    omega
  · rw [hp, List.drop_eq_nil_of_le h3, posK]; omega
theorem setR_set {l : List ItemT} {i : Nat} {r : RecT} (hi : i < l.length) : setR (i * 4 + 3) [fieldsD r] (l.flatMap eItem) = (setI l i r).flatMap eItem := by
  obtain ⟨h1, h2⟩ := take_flat (enc := eItem) (sz := 4) (fun _ => rfl) i l
  have e : l.flatMap eItem = (l.take i).flatMap eItem ++ (eItem (l.getD i default) ++ (l.drop (i + 1)).flatMap eItem) := by
    rw [← List.flatMap_cons, ← drop_cons hi, ← List.flatMap_append, List.take_append_drop]
  have e2 : (setI l i r).flatMap eItem = (l.take i).flatMap eItem ++ (eItem ((l.getD i default).1, r) ++ (l.drop (i + 1)).flatMap eItem) := by
    rw [setI, List.set_eq_take_append_cons_drop, if_pos hi, List.flatMap_append, List.flatMap_cons]
  have hl : ((l.take i).flatMap eItem).length = i * 4 := by rw [len4, List.length_take]; omega
  rw [e, e2]
  exact setR_mid (pre := (l.take i).flatMap eItem) (B := eItem (l.getD i default)) (B' := eItem ((l.getD i default).1, r)) (post := (l.drop (i + 1)).flatMap eItem) (m := i * 4) (off := i * 4 + 3) (j := 3) hl rfl rfl (Nat.le_refl _)
/-- right items behind a key -/
def relP (p : Option KeyT) (k : KeyT) : Bool := match p with | none => true | some q => decide (cmpK q k < 0)
def okL : Option KeyT → List ItemT → Bool
  | _, [] => true
  | p, y :: ys => isKey y.1 && isRec y.2 && relP p y.1 && okL (some y.1) ys
def badP (p : Option KeyT) (l : List ItemT) (i : Nat) : Bool := (!isKey (l.getD i default).1 || !isRec (l.getD i default).2) || !(relP (if i = 0 then p else some (l.getD (i - 1) default).1) (l.getD i default).1)
theorem okL_eq : ∀ (l : List ItemT) (p : Option KeyT), okL p l = (List.range l.length).all (fun i => !badP p l i)
  | [], _ => rfl
  | y :: ys, p => by
    rw [okL, okL_eq ys (some y.1), List.length_cons, List.range_succ_eq_map, List.all_cons, List.all_map]
    congr 1
    · simp [badP]
    · congr 1
      funext i
      cases i with
      | zero => simp [badP]
      | succ i => simp [badP]
theorem isSto_eq (s : StoreT) : isSto s = (okL none s.2.1 && (isName s.1 && decide ((s.2.1.length : Int) ≤ 16) && (decide ((0 : Int) ≤ s.2.2) && decide (s.2.2 ≤ 1000000)))) := by
  rw [isSto, okL_eq]
  congr 2
  funext i
  cases i with
  | zero => simp [stoBad, badP, relP]
  | succ i =>
    have e : (((i + 1 : Nat) : Int) - 1).toNat = i := by omega
    have e2 : (((i + 1 : Nat) : Int)).toNat = i + 1 := by omega
    have e3 : decide ((0 : Int) < ((i + 1 : Nat) : Int)) = true := decide_eq_true (by omega)
    simp only [stoBad, badP, relP, e, e2, e3, Bool.true_and, Nat.succ_ne_zero, if_false, Nat.add_sub_cancel]
    congr 2
    by_cases h : cmpK (s.2.1.getD i default).1 (s.2.1.getD (i + 1) default).1 < 0
    · rw [decide_eq_true h, decide_eq_false (by omega)]; rfl
    · rw [decide_eq_false h, decide_eq_true (by omega)]; rfl
theorem sgnS_zero {a b : Str} (h : sgnS a b = 0) : sEq a b = true := by
  have e := sLe_eq a b
  unfold sgnS at h
  cases h1 : sLt a b <;> cases h2 : sLt b a <;> simp_all
theorem cmpK_zero {a b : KeyT} (ha : isKey a = true) (hb : isKey b = true) (h : cmpK a b = 0) : kEq a b = true := by
  have hg : (!isKey a || !isKey b) = false := by rw [ha, hb]; rfl
  by_cases h1 : a.1 = b.1
  · by_cases h2 : a.2.1 = b.2.1
    · rw [cmpK_text hg h1 h2] at h
      rw [kEq, decide_eq_true h1, decide_eq_true h2, sgnS_zero h]; rfl
    · rw [cmpK_num hg h1 h2] at h; exact absurd (sgnI_zero.1 h) h2
  · rw [cmpK_kind hg h1] at h; exact absurd (sgnI_zero.1 h) h1
theorem okL_ins {k : KeyT} {r : RecT} (hk : isKey k = true) : ∀ (l : List ItemT) (p : Option KeyT), okL p l = true → l.any (fun y : ItemT => kEq y.1 k) = false → relP p k = true → okL p (insI l (posK k l) (k, r)) = isRec r
  | [], p, _, _, hp => by simp [insI, posK, okL, hk, hp]
  | y :: ys, p, hl, hn, hp => by
    simp only [okL, Bool.and_eq_true] at hl
    obtain ⟨⟨⟨h1, h2⟩, h3⟩, h4⟩ := hl
    simp only [List.any_cons, Bool.or_eq_false_iff] at hn
    by_cases hc : cmpK y.1 k < 0
    · have ih := okL_ins (r := r) hk ys (some y.1) h4 hn.2 (by simpa [relP] using hc)
      rw [posK, if_pos hc]
      have e : insI (y :: ys) (posK k ys + 1) (k, r) = y :: insI ys (posK k ys) (k, r) := by simp [insI]
      rw [e, okL, h1, h2, h3, ih]; rfl
    · rw [posK, if_neg hc]
      have e : insI (y :: ys) 0 (k, r) = (k, r) :: y :: ys := by simp [insI]
      have h0 : ¬ cmpK y.1 k = 0 := fun h => by
        have := cmpK_zero h1 hk h
        rw [hn.1] at this; cases this
      have hs := cmpK_swap k y.1
      rw [e, okL, okL, hk, hp, h1, h2, h4]
      have : relP (some k) y.1 = true := by simp only [relP, decide_eq_true_eq]; omega
      rw [this]; simp
theorem okL_set {r : RecT} : ∀ (l : List ItemT) (p : Option KeyT) (i : Nat), okL p l = true → i < l.length → okL p (setI l i r) = isRec r
  | [], _, _, _, h => by simp at h
  | y :: ys, p, 0, hl, _ => by
    simp only [okL, Bool.and_eq_true] at hl
    obtain ⟨⟨⟨h1, h2⟩, h3⟩, h4⟩ := hl
    simp [setI, okL, h1, h3, h4]
  | y :: ys, p, i + 1, hl, h => by
    simp only [okL, Bool.and_eq_true] at hl
    obtain ⟨⟨⟨h1, h2⟩, h3⟩, h4⟩ := hl
    have ih := okL_set (r := r) ys (some y.1) i h4 (by simpa using h)
    have e : setI (y :: ys) (i + 1) r = y :: setI ys i r := by simp [setI]
    rw [e, okL, h1, h2, h3, ih]; rfl
theorem findI_neg {α : Type} {p : α → Bool} : ∀ (xs : List α) (i : Int), 0 ≤ i → findI p xs i < 0 → xs.any p = false
  | [], _, _, _ => rfl
  | x :: xs, i, hi, h => by
    rw [findI] at h
    split at h
    · omega
    · rename_i hp
      rw [List.any_cons, findI_neg xs (i + 1) (by omega) h]
      simpa using hp
theorem sto_set {x : StoreT} {i : Nat} {r : RecT} (hs : isSto x = true) (hi : i < x.2.1.length) : isSto (x.1, setI x.2.1 i r, x.2.2) = isRec r := by
  rw [isSto_eq] at hs ⊢
  simp only [Bool.and_eq_true] at hs
  obtain ⟨h1, ⟨h2, h3⟩, h4, h5⟩ := hs
  simp only [setI_len, okL_set _ _ _ h1 hi, h2, h3, h4, h5, Bool.and_self, Bool.and_true]
theorem sto_ins {x : StoreT} {k : KeyT} {r : RecT} {a : Int} (hs : isSto x = true) (hk : isKey k = true) (hf : fndK x k < 0) (ha : 0 ≤ a ∧ a ≤ 1000000) : isSto (x.1, insI x.2.1 (posK k x.2.1) (k, r), a) = (isRec r && decide (x.2.1.length < 16)) := by
  rw [isSto_eq] at hs ⊢
  simp only [Bool.and_eq_true] at hs
  obtain ⟨h1, ⟨h2, h3⟩, h4, h5⟩ := hs
  simp only [insI_len, okL_ins hk _ _ h1 (findI_neg _ 0 (by omega) hf) rfl, h2, decide_eq_true ha.1, decide_eq_true ha.2, Bool.and_self, Bool.and_true, Bool.true_and]
  congr 1
  exact decide_eq_decide.2 (by omega)
theorem not_or_f {a b : Bool} (h : (!a || !b) = false) : a = true ∧ b = true := by cases a <;> cases b <;> simp_all
theorem put_set_no {x : StoreT} {k : KeyT} {r : RecT} (h : (!isSto x || !isKey k) = false) (hf : 0 ≤ fndK x k) (ho : (!isSto (x.1, setI x.2.1 (fndK x k).toNat r, x.2.2)) = true) : putN x k r = (x, false) := by
  obtain ⟨h1, h2⟩ := not_or_f h
  have hl := fndK_lt hf
  rw [sto_set h1 (by omega)] at ho
  rw [putN, if_pos (by rw [ho]; simp)]
theorem put_set_yes {x : StoreT} {k : KeyT} {r : RecT} (h : (!isSto x || !isKey k) = false) (hf : 0 ≤ fndK x k) (ho : (!isSto (x.1, setI x.2.1 (fndK x k).toNat r, x.2.2)) = false) : putN x k r = ((x.1, setI x.2.1 (fndK x k).toNat r, x.2.2), true) := by
  obtain ⟨h1, h2⟩ := not_or_f h
  have hl := fndK_lt hf
  rw [sto_set h1 (by omega)] at ho
  rw [putN, if_neg (by rw [h, ho]; simp), if_pos hf]
theorem auto_ok {x : StoreT} {k : KeyT} (hs : isSto x = true) : 0 ≤ autoP x k ∧ autoP x k ≤ 1000000 := by
  rw [isSto_eq] at hs
  simp only [Bool.and_eq_true, decide_eq_true_eq] at hs
  unfold autoP
  split
  · rename_i h
    simp only [Bool.and_eq_true, decide_eq_true_eq] at h
    omega
  · omega
theorem auto_yes {x : StoreT} {k : KeyT} (h : (decide (k.1 = 1) && decide (x.2.2 < k.2.1) && decide (k.2.1 ≤ 1000000)) = true) : k.2.1 = autoP x k := by
  simp only [Bool.and_eq_true, decide_eq_true_eq] at h
  rw [autoP, if_pos (by simp only [Bool.and_eq_true, decide_eq_true_eq]; omega)]
theorem auto_no {x : StoreT} {k : KeyT} (h : (decide (k.1 = 1) && decide (x.2.2 < k.2.1) && decide (k.2.1 ≤ 1000000)) = false) : x.2.2 = autoP x k := by
  rw [autoP, if_neg]
  intro h2
  simp only [Bool.and_eq_true, decide_eq_true_eq] at h2
  rw [decide_eq_true h2.1, decide_eq_true (by omega : x.2.2 < k.2.1), decide_eq_true h2.2.2] at h
  cases h
theorem put_ins_no {x : StoreT} {k : KeyT} {r : RecT} {j : Nat} {a : Int} (h : (!isSto x || !isKey k) = false) (hf : ¬ 0 ≤ fndK x k) (hj : posK k x.2.1 = j) (ha : a = autoP x k) (ho : (!isSto (x.1, insI x.2.1 j (k, r), a)) = true) : putN x k r = (x, false) := by
  obtain ⟨h1, h2⟩ := not_or_f h
  subst hj; subst ha
  rw [sto_ins h1 h2 (by omega) (auto_ok h1)] at ho
  rw [putN]
  split
  · rfl
  · rename_i h3
    rw [if_pos]
    rw [h, Bool.false_or] at h3
    have h4 : isRec r = true := by simpa using h3
    rw [h4, Bool.true_and] at ho
    simpa using ho
theorem put_ins_yes {x : StoreT} {k : KeyT} {r : RecT} {j : Nat} {a : Int} (h : (!isSto x || !isKey k) = false) (hf : ¬ 0 ≤ fndK x k) (hj : posK k x.2.1 = j) (ha : a = autoP x k) (ho : (!isSto (x.1, insI x.2.1 j (k, r), a)) = false) : putN x k r = ((x.1, insI x.2.1 j (k, r), a), true) := by
  obtain ⟨h1, h2⟩ := not_or_f h
  subst hj; subst ha
  rw [sto_ins h1 h2 (by omega) (auto_ok h1)] at ho
  have ho' : isRec r = true ∧ x.2.1.length < 16 := by
    simpa using ho
  rw [putN, if_neg (by rw [h, ho'.1]; simp), if_neg hf, if_neg (by omega)]

set_option maxRecDepth 100000 in
theorem ok_impl_PutItem {x : StoreT} {k : KeyT} {r : RecT} (hb : wStore x ≤ 1048576) (hb2 : r.length ≤ 1048576) : KFn Try.prog 40 [.agg [(.dv [] (.str (x.1))), (.dv [] (itemsD (x.2.1))), (.dv [] (.int .i64 (x.2.2)))], .agg [(.dv [] (.int .i64 (k.1))), (.dv [] (.int .i64 (k.2.1))), (.dv [] (.str (k.2.2)))], .agg [(.dv [] (fieldsD (r)))]] (.tup [(true, [(.dv [] (.str ((putN x k r).1.1))), (.key 9001), (.dv [] (.int .i64 ((putN x k r).1.2.2)))]), (false, [(.dv [] (.bool ((putN x k r).2)))])]) [(9001, some (kcOf false (itemsD ((putN x k r).1.2.1))))] := by
  refine ⟨fn_intro Try.func40 rfl Try.ntmps40 Try.results40 rfl (fun C => ?_)⟩
  have hlen : x.2.1.length ≤ 1048576 := by have h3 : wStore x = x.1.size + (x.2.1.length + wSum wItem x.2.1) := rfl; omega
  refine ok_factA (x := .tmp 0) 0 (ev_tmp rfl) rfl (fun (f0_0 : (x.1).size ≤ 9223372036854775807) => ?_)
  refine ok_factA (x := .tmp 0) 1 (ev_tmp rfl) rfl (fun (f0_1 : ((x.2.1)).length ≤ 9223372036854775807) => ?_)
  refine ok_factA (x := .tmp 0) 2 (ev_tmp rfl) rfl (fun (f0_2 : -9223372036854775808 ≤ (x.2.2) ∧ (x.2.2) ≤ 9223372036854775807) => ?_)
  refine ok_factA (x := .tmp 1) 0 (ev_tmp rfl) rfl (fun (f1_0 : -9223372036854775808 ≤ (k.1) ∧ (k.1) ≤ 9223372036854775807) => ?_)
  refine ok_factA (x := .tmp 1) 1 (ev_tmp rfl) rfl (fun (f1_1 : -9223372036854775808 ≤ (k.2.1) ∧ (k.2.1) ≤ 9223372036854775807) => ?_)
  refine ok_factA (x := .tmp 1) 2 (ev_tmp rfl) rfl (fun (f1_2 : (k.2.2).size ≤ 9223372036854775807) => ?_)
  refine ok_factA (x := .tmp 2) 0 (ev_tmp rfl) rfl (fun (f2_0 : ((r)).length ≤ 9223372036854775807) => ?_)
  refine ok_seq ?_
  refine ok_region ?_
  refine o_box rfl rfl rfl (ev_tmp rfl) rfl rfl rfl rfl ?_
  refine o_box rfl rfl rfl (ev_tmp rfl) rfl rfl rfl rfl ?_
  refine o_box rfl rfl rfl (ev_tmp rfl) rfl rfl rfl rfl ?_
  refine o_alloc hT rfl rfl rfl rfl rfl rfl ?_
  refine o_pure rfl rfl (pu_move (.inr rfl) ev_bool) rfl rfl ?_
  refine ops_nil ?_
  refine then_n ?_
  refine ok_seq ?_
  refine ok_seq ?_
  refine ok_region ?_
  refine o_pure rfl rfl (pu_loadBoxA hT rfl rfl (ev_tmp rfl) rfl rfl) rfl rfl ?_
  refine o_call rfl rfl rfl Try.call77 (ok_impl_IsStore (s := x)) (as_cons (ev_tmp rfl) (ag_agg (ag_cons ac_dv (ag_cons ac_dv (ag_cons ac_dv ag_nil)))) as_nil) rfl rfl ?_
  refine o_pure rfl rfl (pu_not rfl (ev_tmp rfl)) rfl rfl ?_
  refine o_pure rfl rfl (pu_move (.inl rfl) (ev_tmp rfl)) rfl rfl ?_
  refine o_pureG (gd_bool rfl rfl rfl rfl rfl) rfl (fun hg => pu_loadBoxA hT rfl rfl (ev_tmp rfl) rfl rfl) rfl rfl ?_
  refine o_callG (gd_bool rfl rfl rfl rfl rfl) rfl rfl Try.call78 ok_impl_IsKey (fun hg => (as_cons (ev_opt rfl hg) (ag_agg (ag_cons ac_dv (ag_cons ac_dv (ag_cons ac_dv ag_nil)))) as_nil)) rfl rfl ?_
  refine o_pureG (gd_bool rfl rfl rfl rfl rfl) rfl (fun hg => pu_not rfl (ev_opt rfl hg)) rfl rfl ?_
  refine o_pure rfl rfl (pu_or rfl (ev_tmp rfl) (fun hb => (ev_opt rfl (beq_f hb)))) rfl rfl ?_
  refine ops_nil ?_
  refine then_n ?_
  refine ok_cond (ev_tmp rfl) (fun c1 => ?_) (fun c1 => ?_)
  · skip
    refine ok_seq ?_
    refine ok_region ?_
    refine o_pure rfl rfl (pu_loadBoxA hT rfl rfl (ev_tmp rfl) rfl rfl) rfl rfl ?_
    refine o_callK 8971 rfl rfl rfl Try.call79 (ok_impl_copyStore (x := x) (by omega)) (as_cons (ev_tmp rfl) (ag_agg (ag_cons ac_dv (ag_cons ac_dv (ag_cons ac_dv ag_nil)))) as_nil) rfl rfl rfl ?_
    refine o_store hT rfl rfl rfl rfl (ev_tmp rfl) (ev_tmp rfl) rfl rfl rfl rfl rfl rfl ?_
    refine o_pure rfl rfl (pu_move (.inr rfl) ev_bool) rfl rfl ?_
    refine ops_nil ?_
    refine then_n ?_
    rw [put_bad c1]
    refine ok_weak (σ' := ⟨[(6, .box 6 0), (7, .one (.dv [] (.bool (false))))], [(6, 29, [(.dv [] (.str ((x).1))), (.key 9001), (.dv [] (.int .i64 ((x).2.2)))])], [(9001, some (kcOf false (itemsD (x.2.1))))]⟩) (weak_sub ⟨rfl, rfl, trivial⟩ ⟨rfl, trivial⟩ ⟨rfl, trivial⟩ rfl) ?_
    refine ok_ret ?_
    refine then_r ?_
    refine fin2 (res_cell hT rfl rfl rfl rfl) (res_tmp rfl) rfl rfl ?_
    first | exact ⟨rfl, rfl⟩ | skip
  · skip
    refine ok_skip ?_
    refine then_n ?_
    refine ok_seq ?_
    refine ok_region ?_
    refine o_pure rfl rfl (pu_loadBoxA hT rfl rfl (ev_tmp rfl) rfl rfl) rfl rfl ?_
    refine o_callK 8971 rfl rfl rfl Try.call79 (ok_impl_copyStore (x := x) (by omega)) (as_cons (ev_tmp rfl) (ag_agg (ag_cons ac_dv (ag_cons ac_dv (ag_cons ac_dv ag_nil)))) as_nil) rfl rfl rfl ?_
    refine o_alloc hT rfl rfl rfl rfl rfl rfl ?_
    refine o_store hT rfl rfl rfl rfl (ev_tmp rfl) (ev_tmp rfl) rfl rfl rfl rfl rfl rfl ?_
    refine ops_nil ?_
    refine then_n ?_
    refine ok_seq ?_
    refine ok_seq ?_
    refine ok_region ?_
    refine o_pure rfl rfl (pu_loadBoxA hT rfl rfl (ev_tmp rfl) rfl rfl) rfl rfl ?_
    refine o_pure rfl rfl (pu_loadBoxA hT rfl rfl (ev_tmp rfl) rfl rfl) rfl rfl ?_
    refine o_call rfl rfl rfl Try.call80 ok_impl_FindItem (as_cons (ev_tmp rfl) (ag_agg (ag_cons ac_dv (ag_cons ac_dv (ag_cons ac_dv ag_nil)))) (as_cons (ev_tmp rfl) (ag_agg (ag_cons ac_dv (ag_cons ac_dv (ag_cons ac_dv ag_nil)))) as_nil)) rfl rfl ?_
    refine o_pure rfl rfl (pu_move (.inr rfl) (ev_tmp rfl)) rfl rfl ?_
    refine ops_nil ?_
    refine then_n ?_
    refine ok_seq ?_
    refine ok_region ?_
    refine o_pure rfl rfl (pu_move (.inl rfl) (ev_tmp rfl)) rfl rfl ?_
    refine o_pure rfl rfl (pu_geq rfl (ev_tmp rfl) (ev_int (inR_lit rfl))) rfl rfl ?_
    refine ops_nil ?_
    refine then_n ?_
    refine ok_cond (ev_tmp rfl) (fun c2 => ?_) (fun c2 => ?_)
    · skip
      have d2 := of_decide_eq_true c2
      have hlt := fndK_lt d2
      refine ok_regionD (oB := [3, 4, 5, 6, 8]) (oK := [9001]) (by kernel_rfl) rfl rfl ?_
      refine d_take 0 rfl (by kernel_rfl) rfl rfl (pu_fieldBox hT rfl rfl rfl (ev_tmp rfl)) rfl rfl rfl rfl ?_
      refine d_take 1 rfl (by kernel_rfl) rfl rfl (pu_loadBox1 hT rfl rfl (ev_tmp rfl) rfl rfl) rfl rfl rfl rfl ?_
      refine d_take 2 rfl (by kernel_rfl) rfl rfl (pu_move (.inl rfl) (ev_tmp rfl)) rfl rfl rfl rfl ?_
      refine d_take 3 rfl (by kernel_rfl) rfl rfl (pu_loadBoxA hT rfl rfl (ev_tmp rfl) rfl rfl) rfl rfl rfl rfl ?_
      refine d_callK 9000 4 rfl (by kernel_rfl) rfl rfl rfl Try.call81 (ok_impl_copyRecord (by omega)) (as_cons (ev_tmp rfl) (ag_agg (ag_cons ac_dv ag_nil)) as_nil) rfl rfl rfl rfl rfl ?_
      refine d_take 5 rfl (by kernel_rfl) rfl rfl (pu_indexK (i := (fndK (x) (k)).toNat) hT rfl rfl rfl (ev_tmp rfl) rfl (ev_tmp rfl) (by omega) (by show _ < ((x.2.1)).length; omega)) rfl rfl rfl rfl ?_
      refine d_take 6 rfl (by kernel_rfl) rfl rfl (pu_fieldE hT rfl rfl rfl (ev_tmp rfl)) rfl rfl rfl rfl ?_
      refine d_chain [7] rfl rfl (by kernel_rfl) ?_
      refine o_storeE (js := [9003]) (cs := (setI x.2.1 (fndK x k).toNat r).flatMap eItem) hT rfl rfl rfl rfl (ev_tmp rfl) (ev_tmp rfl) rfl rfl rfl rfl (ow_cons' (ow_key rfl) ow_nil rfl) (by decide) (by decide) rfl (by show _ ≤ List.length ((x.2.1).flatMap eItem); rw [len4]; omega) (setR_set (by omega)) ?_
      simp only [killT, killB, SV.kill, CV.kill, List.map_cons, List.map_nil, List.any_cons, List.any_nil, List.contains_cons, List.contains_nil, List.nil_append, List.cons_append, Nat.reduceBEq, Bool.or_false, Bool.false_or, Bool.or_true, Bool.true_or, cond_true, cond_false]
      refine ops_nil ?_
      refine then_n ?_
      refine ok_seq ?_
      refine ok_seq ?_
      refine ok_weak (weak_eq (k := 9001) (c' := kcOf false (itemsD (setI x.2.1 (fndK x k).toNat r))) rfl (congrArg (fun n => KC.mk false 52 4 n ((setI x.2.1 (fndK x k).toNat r).flatMap eItem)) setI_len.symm) rfl) ?_
      refine ok_region ?_
      refine o_pure rfl rfl (pu_loadBoxA hT rfl rfl (ev_tmp rfl) rfl rfl) rfl rfl ?_
      refine o_call rfl rfl rfl Try.call77 (ok_impl_IsStore (s := (x.1, setI x.2.1 (fndK x k).toNat r, x.2.2))) (as_cons (ev_tmp rfl) (ag_agg (ag_cons ac_dv (ag_cons (ac_key' rfl rfl) (ag_cons ac_dv ag_nil)))) as_nil) rfl rfl ?_
      refine o_pure rfl rfl (pu_not rfl (ev_tmp rfl)) rfl rfl ?_
      refine ops_nil ?_
      refine then_n ?_
      refine ok_cond (ev_tmp rfl) (fun c3 => ?_) (fun c3 => ?_)
      · skip
        refine ok_seq ?_
        refine ok_weak (σ' := ⟨[(3, .box 3 0), (6, .box 6 0), (7, .one (.dv [] (.bool (false))))], [(3, 29, [(.dv [] (.str (x.1))), (.dv [] (itemsD (x.2.1))), (.dv [] (.int .i64 (x.2.2)))]), (6, 29, [(.dv [] (.str (ByteArray.empty))), .nil, (.dv [] (.int .i64 (0)))])], []⟩) (weak_sub ⟨rfl, rfl, rfl, trivial⟩ ⟨rfl, rfl, trivial⟩ trivial rfl) ?_
        refine ok_region ?_
        refine o_pure rfl rfl (pu_loadBoxA hT rfl rfl (ev_tmp rfl) rfl rfl) rfl rfl ?_
        refine o_callK 8971 rfl rfl rfl Try.call79 (ok_impl_copyStore (x := x) (by omega)) (as_cons (ev_tmp rfl) (ag_agg (ag_cons ac_dv (ag_cons ac_dv (ag_cons ac_dv ag_nil)))) as_nil) rfl rfl rfl ?_
        refine o_store hT rfl rfl rfl rfl (ev_tmp rfl) (ev_tmp rfl) rfl rfl rfl rfl rfl rfl ?_
        refine o_pure rfl rfl (pu_move (.inr rfl) ev_bool) rfl rfl ?_
        refine ops_nil ?_
        refine then_n ?_
        rw [put_set_no c1 d2 c3]
        refine ok_weak (σ' := ⟨[(6, .box 6 0), (7, .one (.dv [] (.bool (false))))], [(6, 29, [(.dv [] (.str ((x).1))), (.key 9001), (.dv [] (.int .i64 ((x).2.2)))])], [(9001, some (kcOf false (itemsD (x.2.1))))]⟩) (weak_sub ⟨rfl, rfl, trivial⟩ ⟨rfl, trivial⟩ ⟨rfl, trivial⟩ rfl) ?_
        refine ok_ret ?_
        refine then_r ?_
        refine fin2 (res_cell hT rfl rfl rfl rfl) (res_tmp rfl) rfl rfl ?_
        first | exact ⟨rfl, rfl⟩ | skip
      · skip
        refine ok_skip ?_
        refine then_n ?_
        refine ok_seq ?_
        refine ok_region ?_
        refine o_pure rfl rfl (pu_loadBoxA hT rfl rfl (ev_tmp rfl) rfl rfl) rfl rfl ?_
        refine o_store hT rfl rfl rfl rfl (ev_tmp rfl) (ev_tmp rfl) rfl rfl rfl rfl rfl rfl ?_
        refine o_pure rfl rfl (pu_move (.inr rfl) ev_bool) rfl rfl ?_
        refine ops_nil ?_
        refine then_n ?_
        rw [put_set_yes c1 d2 c3]
        refine ok_weak (σ' := ⟨[(6, .box 6 0), (7, .one (.dv [] (.bool (true))))], [(6, 29, [(.dv [] (.str ((x).1))), (.key 9001), (.dv [] (.int .i64 ((x).2.2)))])], [(9001, some (kcOf false (itemsD (setI x.2.1 (fndK x k).toNat r))))]⟩) (weak_sub ⟨rfl, rfl, trivial⟩ ⟨rfl, trivial⟩ ⟨rfl, trivial⟩ rfl) ?_
        refine ok_ret ?_
        refine fin2 (res_cell hT rfl rfl rfl rfl) (res_tmp rfl) rfl rfl ?_
        first | exact ⟨rfl, rfl⟩ | skip
    · skip
      have d2 := of_decide_eq_false c2
      refine ok_seq ?_
      refine ok_region ?_
      refine o_pure rfl rfl (pu_move (.inr rfl) (ev_int (inR_lit rfl))) rfl rfl ?_
      refine ops_nil ?_
      refine then_n ?_
      refine ok_seq ?_
      refine ok_block ?_
      refine ok_loop (ι := Nat) (fun zz => ⟨[(3, .box 3 0), (4, .box 4 0), (5, .box 5 0), (6, .box 6 0), (7, .one (.dv [] (.bool (false)))), (8, .box 8 0), (10, .one (.dv [] (.int .i64 ((zz : Int)))))], [(3, 29, [(.dv [] (.str (x.1))), (.dv [] (itemsD (x.2.1))), (.dv [] (.int .i64 (x.2.2)))]), (4, 43, [(.dv [] (.int .i64 (k.1))), (.dv [] (.int .i64 (k.2.1))), (.dv [] (.str (k.2.2)))]), (5, 50, [(.dv [] (fieldsD (r)))]), (6, 29, [(.dv [] (.str (ByteArray.empty))), .nil, (.dv [] (.int .i64 (0)))]), (8, 29, [(.dv [] (.str ((x).1))), (.key 9001), (.dv [] (.int .i64 ((x).2.2)))])], [(9001, some (kcOf false (.sl 52 4 (x.2.1.length) (x.2.1.flatMap eItem))))]⟩) (fun zz => zz ≤ x.2.1.length ∧ posK k x.2.1 = zz + posK k (x.2.1.drop zz)) (fun zz => x.2.1.length - zz) (0) ?_ (weak_sub ⟨rfl, rfl, rfl, rfl, rfl, rfl, rfl, trivial⟩ ⟨rfl, rfl, rfl, rfl, rfl, trivial⟩ ⟨rfl, trivial⟩ rfl) (fun zz hx => ?_)
      · exact ⟨Nat.zero_le _, by simp⟩
      obtain ⟨j, rfl⟩ : ∃ v, v = zz := ⟨_, rfl⟩
      replace hx : j ≤ x.2.1.length ∧ posK k x.2.1 = j + posK k (x.2.1.drop j) := hx
      obtain ⟨hj, hp⟩ := hx
      show Ok _ _ _ _ _ (⟨[(3, .box 3 0), (4, .box 4 0), (5, .box 5 0), (6, .box 6 0), (7, .one (.dv [] (.bool (false)))), (8, .box 8 0), (10, .one (.dv [] (.int .i64 ((j : Int)))))], [(3, 29, [(.dv [] (.str (x.1))), (.dv [] (itemsD (x.2.1))), (.dv [] (.int .i64 (x.2.2)))]), (4, 43, [(.dv [] (.int .i64 (k.1))), (.dv [] (.int .i64 (k.2.1))), (.dv [] (.str (k.2.2)))]), (5, 50, [(.dv [] (fieldsD (r)))]), (6, 29, [(.dv [] (.str (ByteArray.empty))), .nil, (.dv [] (.int .i64 (0)))]), (8, 29, [(.dv [] (.str ((x).1))), (.key 9001), (.dv [] (.int .i64 ((x).2.2)))])], [(9001, some (kcOf false (.sl 52 4 (x.2.1.length) (x.2.1.flatMap eItem))))]⟩ : St)
      refine ok_seq ?_
      refine ok_seq ?_
      refine ok_regionD (oB := [3, 4, 5, 6, 8]) (oK := [9001]) (by kernel_rfl) rfl rfl ?_
      refine d_take 0 rfl (by kernel_rfl) rfl rfl (pu_move (.inl rfl) (ev_tmp rfl)) rfl rfl rfl rfl ?_
      refine d_take 1 rfl (by kernel_rfl) rfl rfl (pu_fieldBox hT rfl rfl rfl (ev_tmp rfl)) rfl rfl rfl rfl ?_
      refine d_take 2 rfl (by kernel_rfl) rfl rfl (pu_view (dd := itemsD x.2.1) (pu_loadBox1 hT rfl rfl (ev_tmp rfl) rfl rfl) rfl rfl) rfl rfl rfl rfl ?_
      refine d_take 3 rfl (by kernel_rfl) rfl rfl (pu_lenV hT rfl rfl (ev_tmp rfl)) rfl rfl rfl rfl ?_
      refine d_take 4 rfl (by kernel_rfl) rfl rfl (pu_lss rfl (ev_tmp rfl) (ev_tmp rfl)) rfl rfl rfl rfl ?_
      refine d_take 5 rfl (by kernel_rfl) rfl rfl (pu_move (.inl rfl) (ev_tmp rfl)) rfl rfl rfl rfl ?_
      refine d_takeG 6 rfl (by kernel_rfl) (gd_bool rfl rfl rfl rfl rfl) rfl (fun hg => pu_fieldBox hT rfl rfl rfl (ev_tmp rfl)) rfl rfl rfl rfl ?_
      refine d_takeG 7 rfl (by kernel_rfl) (gd_bool rfl rfl rfl rfl rfl) rfl (fun hg => pu_view (dd := itemsD x.2.1) (pu_loadBox1 hT rfl rfl (ev_opt rfl hg) rfl rfl) rfl rfl) rfl rfl rfl rfl ?_
      refine d_takeG 8 rfl (by kernel_rfl) (gd_bool rfl rfl rfl rfl rfl) rfl (fun hg => pu_move (.inl rfl) (ev_tmp rfl)) rfl rfl rfl rfl ?_
      refine d_takeG 9 rfl (by kernel_rfl) (gd_bool rfl rfl rfl rfl rfl) rfl (fun hg => pu_indexD hT rfl rfl rfl (ev_opt rfl hg) (ev_opt rfl hg) (fun _ => rfl) (by first | omega | (simp only [Bool.and_eq_true, Bool.or_eq_true, Bool.or_eq_false_iff, Bool.and_eq_false_iff, Bool.not_eq_true', Bool.not_eq_false', beq_iff_eq, decide_eq_true_eq, decide_eq_false_iff_not] at hg; omega) | (have hh := of_decide_eq_true (beq_tt hg); omega) | (have hh := of_decide_eq_true (beq_tt (and_r hg)); omega)) (by first | omega | (simp only [Bool.and_eq_true, Bool.or_eq_true, Bool.or_eq_false_iff, Bool.and_eq_false_iff, Bool.not_eq_true', Bool.not_eq_false', beq_iff_eq, decide_eq_true_eq, decide_eq_false_iff_not] at hg; omega) | (have hh := of_decide_eq_true (beq_tt hg); omega) | (have hh := of_decide_eq_true (beq_tt (and_r hg)); omega))) rfl rfl rfl rfl ?_
      refine d_takeG 10 rfl (by kernel_rfl) (gd_bool rfl rfl rfl rfl rfl) rfl (fun hg => pu_fieldRef hT rfl rfl rfl (ev_opt rfl hg)) rfl rfl rfl rfl ?_
      refine d_takeG 11 rfl (by kernel_rfl) (gd_bool rfl rfl rfl rfl rfl) rfl (fun hg => pu_loadRefA hT rfl rfl (ev_opt rfl hg) rfl) rfl rfl rfl rfl ?_
      refine d_takeG 12 rfl (by kernel_rfl) (gd_bool rfl rfl rfl rfl rfl) rfl (fun hg => pu_loadBoxA hT rfl rfl (ev_tmp rfl) rfl rfl) rfl rfl rfl rfl ?_
      refine d_callG 13 rfl (by kernel_rfl) (gd_bool rfl rfl rfl rfl rfl) rfl rfl Try.call61 ok_impl_CompareKeys (fun hg => (as_cons (ev_opt rfl hg) (ag_agg (ag_cons ac_dv (ag_cons ac_dv (ag_cons ac_dv ag_nil)))) (as_cons (ev_opt rfl hg) (ag_agg (ag_cons ac_dv (ag_cons ac_dv (ag_cons ac_dv ag_nil)))) as_nil))) rfl rfl ?_
      refine d_takeG 14 rfl (by kernel_rfl) (gd_bool rfl rfl rfl rfl rfl) rfl (fun hg => pu_lss rfl (ev_opt rfl hg) (ev_int (inR_lit rfl))) rfl rfl rfl rfl ?_
      refine d_take 15 rfl (by kernel_rfl) rfl rfl (pu_and rfl (ev_tmp rfl) (fun hb => (ev_opt rfl (beq_t hb)))) rfl rfl rfl rfl ?_
      refine d_done (by kernel_rfl) ?_
      refine then_n ?_
      refine ok_cond (ev_tmp rfl) (fun c4 => ?_) (fun c4 => ?_)
      · skip
        have hst := posK_step hp c4
        have hst1 := hst.1
        refine ok_skip ?_
        refine then_n ?_
        refine ok_block ?_
        refine ok_region ?_
        refine o_pure rfl rfl (pu_move (.inl rfl) (ev_tmp rfl)) rfl rfl ?_
        refine o_pure rfl rfl (pu_addR rfl (ev_tmp rfl) (ev_int (inR_lit rfl)) (inR64 (by omega) (by omega))) rfl rfl ?_
        refine o_pure rfl rfl (pu_move (.inr rfl) (ev_tmp rfl)) rfl rfl ?_
        refine ops_nil ?_
        refine blk_n ?_
        refine then_n ?_
        refine ⟨j + 1, ?_, ?_, weak_sub ⟨rfl, rfl, rfl, rfl, rfl, rfl, rfl, trivial⟩ ⟨rfl, rfl, rfl, rfl, rfl, trivial⟩ ⟨rfl, trivial⟩ rfl⟩
        · exact ⟨by omega, hst.2⟩
        · omega
      · skip
        have hpos := posK_stop hj hp c4
        refine ok_exit ?_
        refine then_e ?_
        refine then_e ?_
        refine blk_e rfl ?_
        refine then_n ?_
        refine ok_seq ?_
        refine ok_regionH [0, 1, 2, 3, 4, 5, 6, 7] (oB := [3, 4, 5, 6, 8]) (oK := [9001]) (by kernel_rfl) rfl rfl ?_
        refine d_take 0 rfl (by kernel_rfl) rfl rfl (pu_fieldBox hT rfl rfl rfl (ev_tmp rfl)) rfl rfl rfl rfl ?_
        refine d_take 1 rfl (by kernel_rfl) rfl rfl (pu_loadBox1 hT rfl rfl (ev_tmp rfl) rfl rfl) rfl rfl rfl rfl ?_
        refine d_take 2 rfl (by kernel_rfl) rfl rfl (pu_move (.inl rfl) (ev_tmp rfl)) rfl rfl rfl rfl ?_
        refine d_take 3 rfl (by kernel_rfl) rfl rfl (pu_loadBoxA hT rfl rfl (ev_tmp rfl) rfl rfl) rfl rfl rfl rfl ?_
        refine d_take 4 rfl (by kernel_rfl) rfl rfl (pu_loadBoxA hT rfl rfl (ev_tmp rfl) rfl rfl) rfl rfl rfl rfl ?_
        refine d_callK 9000 5 rfl (by kernel_rfl) rfl rfl rfl Try.call81 (ok_impl_copyRecord (by omega)) (as_cons (ev_tmp rfl) (ag_agg (ag_cons ac_dv ag_nil)) as_nil) rfl rfl rfl rfl rfl ?_
        refine d_take 6 rfl (by kernel_rfl) rfl rfl (pu_build hT hB rfl rfl rfl (bp_cons (ev_tmp rfl) rfl rfl rfl rfl rfl (bp_cons (ev_tmp rfl) rfl rfl rfl rfl rfl bp_nil))) rfl rfl rfl rfl ?_
        refine d_build1 (k := 60) (js := [9003]) 7 hT rfl (by kernel_rfl) rfl rfl rfl rfl rfl rfl rfl rfl rfl (ev_tmp rfl) rfl rfl (ow_cons' (ow_dv rfl) (ow_cons' (ow_dv rfl) (ow_cons' (ow_dv rfl) (ow_cons' (ow_key rfl) ow_nil rfl) rfl) rfl) rfl) (by decide) (by decide) rfl rfl (by decide) ?_
        simp only [killT, killB, SV.kill, CV.kill, List.map_cons, List.map_nil, List.any_cons, List.any_nil, List.contains_cons, List.contains_nil, List.nil_append, List.cons_append, Nat.reduceBEq, Bool.or_false, Bool.false_or, Bool.or_true, Bool.true_or, cond_true, cond_false]
        refine d_chain [8, 9, 10] rfl rfl (by kernel_rfl) ?_
        refine o_insert (k := 9001) (j := 60) (cs := (insI x.2.1 j (k, r)).flatMap eItem) (n := (insI x.2.1 j (k, r)).length) (insOk_Item rfl rfl (by decide)) rfl rfl Try.call67 rfl rfl (ev_tmp rfl) rfl rfl rfl (ev_tmp rfl) (by omega) (by dsimp only [kcOf]; omega) (ev_tmp rfl) rfl rfl rfl rfl (by decide) (by dsimp only [kcOf]; omega) (by dsimp only [kcOf]; omega) (by rw [insI_len]) (insL_items (o := x.2.1) (j := j) (y := (k, r))) ?_
        simp only [killT, killB, SV.kill, CV.kill, List.map_cons, List.map_nil, List.any_cons, List.any_nil, List.contains_cons, List.contains_nil, List.nil_append, List.cons_append, Nat.reduceBEq, Bool.or_false, Bool.false_or, Bool.or_true, Bool.true_or, cond_true, cond_false]
        refine o_pure rfl rfl (pu_fieldBox hT rfl rfl rfl (ev_tmp rfl)) rfl rfl ?_
        refine o_store hT rfl rfl rfl rfl (ev_tmp rfl) (ev_tmp rfl) rfl rfl rfl rfl rfl rfl ?_
        refine ops_nil ?_
        refine then_n ?_
        refine ok_seq ?_
        refine ok_region ?_
        refine o_pure rfl rfl (pu_fieldBox hT rfl rfl rfl (ev_tmp rfl)) rfl rfl ?_
        refine o_pure rfl rfl (pu_loadBox1 hT rfl rfl (ev_tmp rfl) rfl rfl) rfl rfl ?_
        refine o_pure rfl rfl (pu_eql rfl (ev_tmp rfl) (ev_int (inR_lit rfl))) rfl rfl ?_
        refine o_pure rfl rfl (pu_move (.inl rfl) (ev_tmp rfl)) rfl rfl ?_
        refine o_pureG (gd_bool rfl rfl rfl rfl rfl) rfl (fun hg => pu_fieldBox hT rfl rfl rfl (ev_tmp rfl)) rfl rfl ?_
        refine o_pureG (gd_bool rfl rfl rfl rfl rfl) rfl (fun hg => pu_loadBox1 hT rfl rfl (ev_opt rfl hg) rfl rfl) rfl rfl ?_
        refine o_pureG (gd_bool rfl rfl rfl rfl rfl) rfl (fun hg => pu_fieldBox hT rfl rfl rfl (ev_tmp rfl)) rfl rfl ?_
        refine o_pureG (gd_bool rfl rfl rfl rfl rfl) rfl (fun hg => pu_loadBox1 hT rfl rfl (ev_opt rfl hg) rfl rfl) rfl rfl ?_
        refine o_pureG (gd_bool rfl rfl rfl rfl rfl) rfl (fun hg => pu_gtr rfl (ev_opt rfl hg) (ev_opt rfl hg)) rfl rfl ?_
        refine o_pure rfl rfl (pu_and rfl (ev_tmp rfl) (fun hb => (ev_opt rfl (beq_t hb)))) rfl rfl ?_
        refine o_pure rfl rfl (pu_move (.inl rfl) (ev_tmp rfl)) rfl rfl ?_
        refine o_pureG (gd_bool rfl rfl rfl rfl rfl) rfl (fun hg => pu_fieldBox hT rfl rfl rfl (ev_tmp rfl)) rfl rfl ?_
        refine o_pureG (gd_bool rfl rfl rfl rfl rfl) rfl (fun hg => pu_loadBox1 hT rfl rfl (ev_opt rfl hg) rfl rfl) rfl rfl ?_
        refine o_pureG (gd_bool rfl rfl rfl rfl rfl) rfl (fun hg => pu_leq rfl (ev_opt rfl hg) (ev_int (inR_lit rfl))) rfl rfl ?_
        refine o_pure rfl rfl (pu_and rfl (ev_tmp rfl) (fun hb => (ev_opt rfl (beq_t hb)))) rfl rfl ?_
        refine ops_nil ?_
        refine then_n ?_
        refine ok_cond (ev_tmp rfl) (fun c5 => ?_) (fun c5 => ?_)
        · skip
          refine ok_region ?_
          refine o_pure rfl rfl (pu_fieldBox hT rfl rfl rfl (ev_tmp rfl)) rfl rfl ?_
          refine o_pure rfl rfl (pu_loadBox1 hT rfl rfl (ev_tmp rfl) rfl rfl) rfl rfl ?_
          refine o_pure rfl rfl (pu_fieldBox hT rfl rfl rfl (ev_tmp rfl)) rfl rfl ?_
          refine o_store hT rfl rfl rfl rfl (ev_tmp rfl) (ev_tmp rfl) rfl rfl rfl rfl rfl rfl ?_
          refine ops_nil ?_
          refine then_n ?_
          refine ok_seq ?_
          refine ok_seq ?_
          refine ok_weak (weak_eq (k := 9001) (c' := kcOf false (itemsD (insI x.2.1 j (k, r)))) rfl (rfl) rfl) ?_
          refine ok_region ?_
          refine o_pure rfl rfl (pu_loadBoxA hT rfl rfl (ev_tmp rfl) rfl rfl) rfl rfl ?_
          refine o_call rfl rfl rfl Try.call77 (ok_impl_IsStore (s := (x.1, insI x.2.1 j (k, r), k.2.1))) (as_cons (ev_tmp rfl) (ag_agg (ag_cons ac_dv (ag_cons (ac_key' rfl rfl) (ag_cons ac_dv ag_nil)))) as_nil) rfl rfl ?_
          refine o_pure rfl rfl (pu_not rfl (ev_tmp rfl)) rfl rfl ?_
          refine ops_nil ?_
          refine then_n ?_
          refine ok_cond (ev_tmp rfl) (fun c6 => ?_) (fun c6 => ?_)
          · skip
            refine ok_seq ?_
            refine ok_weak (σ' := ⟨[(3, .box 3 0), (6, .box 6 0), (7, .one (.dv [] (.bool (false))))], [(3, 29, [(.dv [] (.str (x.1))), (.dv [] (itemsD (x.2.1))), (.dv [] (.int .i64 (x.2.2)))]), (6, 29, [(.dv [] (.str (ByteArray.empty))), .nil, (.dv [] (.int .i64 (0)))])], []⟩) (weak_sub ⟨rfl, rfl, rfl, trivial⟩ ⟨rfl, rfl, trivial⟩ trivial rfl) ?_
            refine ok_region ?_
            refine o_pure rfl rfl (pu_loadBoxA hT rfl rfl (ev_tmp rfl) rfl rfl) rfl rfl ?_
            refine o_callK 8971 rfl rfl rfl Try.call79 (ok_impl_copyStore (x := x) (by omega)) (as_cons (ev_tmp rfl) (ag_agg (ag_cons ac_dv (ag_cons ac_dv (ag_cons ac_dv ag_nil)))) as_nil) rfl rfl rfl ?_
            refine o_store hT rfl rfl rfl rfl (ev_tmp rfl) (ev_tmp rfl) rfl rfl rfl rfl rfl rfl ?_
            refine o_pure rfl rfl (pu_move (.inr rfl) ev_bool) rfl rfl ?_
            refine ops_nil ?_
            refine then_n ?_
            rw [put_ins_no c1 d2 hpos (auto_yes c5) c6]
            refine ok_weak (σ' := ⟨[(6, .box 6 0), (7, .one (.dv [] (.bool (false))))], [(6, 29, [(.dv [] (.str ((x).1))), (.key 9001), (.dv [] (.int .i64 ((x).2.2)))])], [(9001, some (kcOf false (itemsD (x.2.1))))]⟩) (weak_sub ⟨rfl, rfl, trivial⟩ ⟨rfl, trivial⟩ ⟨rfl, trivial⟩ rfl) ?_
            refine ok_ret ?_
            refine then_r ?_
            refine fin2 (res_cell hT rfl rfl rfl rfl) (res_tmp rfl) rfl rfl ?_
            first | exact ⟨rfl, rfl⟩ | skip
          · skip
            refine ok_skip ?_
            refine then_n ?_
            refine ok_seq ?_
            refine ok_region ?_
            refine o_pure rfl rfl (pu_loadBoxA hT rfl rfl (ev_tmp rfl) rfl rfl) rfl rfl ?_
            refine o_store hT rfl rfl rfl rfl (ev_tmp rfl) (ev_tmp rfl) rfl rfl rfl rfl rfl rfl ?_
            refine o_pure rfl rfl (pu_move (.inr rfl) ev_bool) rfl rfl ?_
            refine ops_nil ?_
            refine then_n ?_
            rw [put_ins_yes c1 d2 hpos (auto_yes c5) c6]
            refine ok_weak (σ' := ⟨[(6, .box 6 0), (7, .one (.dv [] (.bool (true))))], [(6, 29, [(.dv [] (.str ((x).1))), (.key 9001), (.dv [] (.int .i64 (k.2.1)))])], [(9001, some (kcOf false (itemsD (insI x.2.1 j (k, r)))))]⟩) (weak_sub ⟨rfl, rfl, trivial⟩ ⟨rfl, trivial⟩ ⟨rfl, trivial⟩ rfl) ?_
            refine ok_ret ?_
            refine fin2 (res_cell hT rfl rfl rfl rfl) (res_tmp rfl) rfl rfl ?_
            first | exact ⟨rfl, rfl⟩ | skip
        · skip
          refine ok_skip ?_
          refine then_n ?_
          refine ok_seq ?_
          refine ok_seq ?_
          refine ok_weak (weak_eq (k := 9001) (c' := kcOf false (itemsD (insI x.2.1 j (k, r)))) rfl (rfl) rfl) ?_
          refine ok_region ?_
          refine o_pure rfl rfl (pu_loadBoxA hT rfl rfl (ev_tmp rfl) rfl rfl) rfl rfl ?_
          refine o_call rfl rfl rfl Try.call77 (ok_impl_IsStore (s := (x.1, insI x.2.1 j (k, r), x.2.2))) (as_cons (ev_tmp rfl) (ag_agg (ag_cons ac_dv (ag_cons (ac_key' rfl rfl) (ag_cons ac_dv ag_nil)))) as_nil) rfl rfl ?_
          refine o_pure rfl rfl (pu_not rfl (ev_tmp rfl)) rfl rfl ?_
          refine ops_nil ?_
          refine then_n ?_
          refine ok_cond (ev_tmp rfl) (fun c7 => ?_) (fun c7 => ?_)
          · skip
            refine ok_seq ?_
            refine ok_weak (σ' := ⟨[(3, .box 3 0), (6, .box 6 0), (7, .one (.dv [] (.bool (false))))], [(3, 29, [(.dv [] (.str (x.1))), (.dv [] (itemsD (x.2.1))), (.dv [] (.int .i64 (x.2.2)))]), (6, 29, [(.dv [] (.str (ByteArray.empty))), .nil, (.dv [] (.int .i64 (0)))])], []⟩) (weak_sub ⟨rfl, rfl, rfl, trivial⟩ ⟨rfl, rfl, trivial⟩ trivial rfl) ?_
            refine ok_region ?_
            refine o_pure rfl rfl (pu_loadBoxA hT rfl rfl (ev_tmp rfl) rfl rfl) rfl rfl ?_
            refine o_callK 8971 rfl rfl rfl Try.call79 (ok_impl_copyStore (x := x) (by omega)) (as_cons (ev_tmp rfl) (ag_agg (ag_cons ac_dv (ag_cons ac_dv (ag_cons ac_dv ag_nil)))) as_nil) rfl rfl rfl ?_
            refine o_store hT rfl rfl rfl rfl (ev_tmp rfl) (ev_tmp rfl) rfl rfl rfl rfl rfl rfl ?_
            refine o_pure rfl rfl (pu_move (.inr rfl) ev_bool) rfl rfl ?_
            refine ops_nil ?_
            refine then_n ?_
            rw [put_ins_no c1 d2 hpos (auto_no c5) c7]
            refine ok_weak (σ' := ⟨[(6, .box 6 0), (7, .one (.dv [] (.bool (false))))], [(6, 29, [(.dv [] (.str ((x).1))), (.key 9001), (.dv [] (.int .i64 ((x).2.2)))])], [(9001, some (kcOf false (itemsD (x.2.1))))]⟩) (weak_sub ⟨rfl, rfl, trivial⟩ ⟨rfl, trivial⟩ ⟨rfl, trivial⟩ rfl) ?_
            refine ok_ret ?_
            refine then_r ?_
            refine fin2 (res_cell hT rfl rfl rfl rfl) (res_tmp rfl) rfl rfl ?_
            first | exact ⟨rfl, rfl⟩ | skip
          · skip
            refine ok_skip ?_
            refine then_n ?_
            refine ok_seq ?_
            refine ok_region ?_
            refine o_pure rfl rfl (pu_loadBoxA hT rfl rfl (ev_tmp rfl) rfl rfl) rfl rfl ?_
            refine o_store hT rfl rfl rfl rfl (ev_tmp rfl) (ev_tmp rfl) rfl rfl rfl rfl rfl rfl ?_
            refine o_pure rfl rfl (pu_move (.inr rfl) ev_bool) rfl rfl ?_
            refine ops_nil ?_
            refine then_n ?_
            rw [put_ins_yes c1 d2 hpos (auto_no c5) c7]
            refine ok_weak (σ' := ⟨[(6, .box 6 0), (7, .one (.dv [] (.bool (true))))], [(6, 29, [(.dv [] (.str ((x).1))), (.key 9001), (.dv [] (.int .i64 ((x).2.2)))])], [(9001, some (kcOf false (itemsD (insI x.2.1 j (k, r)))))]⟩) (weak_sub ⟨rfl, rfl, trivial⟩ ⟨rfl, trivial⟩ ⟨rfl, trivial⟩ rfl) ?_
            refine ok_ret ?_
            refine fin2 (res_cell hT rfl rfl rfl rfl) (res_tmp rfl) rfl rfl ?_
            first | exact ⟨rfl, rfl⟩ | skip
end Go.Proofs.Ytbmgommbmhmbgaa
