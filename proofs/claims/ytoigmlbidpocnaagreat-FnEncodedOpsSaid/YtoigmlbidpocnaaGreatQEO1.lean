/-
  Contracts of the program's functions for the statements EncodedOps, by the rules of the logic. Conditions: none but those in the theorems.
-/
import Derived.Test.YtoigmlbidpocnaaGreatU3
set_option maxHeartbeats 4000000
set_option maxRecDepth 100000
namespace Go.Proofs.YtoigmlbidpocnaaGreat
open Go.RowKit
open Go.Proofs
set_option linter.unusedVariables false
set_option linter.unusedSimpArgs false
theorem ok_impl_InRange {n lo hi : Int}  : PFn Tryz.prog 41 [.one (.dv [] (.int .i64 (n))), .one (.dv [] (.int .i64 (lo))), .one (.dv [] (.int .i64 (hi)))] (.one (.dv [] (.bool (decide (lo ≤ n) && decide (n ≤ hi))))) := by
 refine ⟨fn_intro Tryz.func41 rfl Tryz.ntmps41 Tryz.results41 rfl (fun C => ?_)⟩
 refine ok_fact (x := .tmp 0) (ev_tmp rfl) fun f0 => ?_
 refine ok_fact (x := .tmp 1) (ev_tmp rfl) fun f1 => ?_
 refine ok_fact (x := .tmp 2) (ev_tmp rfl) fun f2 => ?_
 iterate 16 refine z ?_
 rfl
theorem ok_spec_l1In {n lo hi : Int}  : PFn Tryz.prog 20 [.one (.dv [] (.int .i64 (n))), .one (.dv [] (.int .i64 (lo))), .one (.dv [] (.int .i64 (hi)))] (.one (.dv [] (.bool (decide (lo ≤ n) && decide (n ≤ hi))))) := by
 refine ⟨fn_intro Tryz.func20 rfl Tryz.ntmps20 Tryz.results20 rfl (fun C => ?_)⟩
 refine ok_fact (x := .tmp 0) (ev_tmp rfl) fun f0 => ?_
 refine ok_fact (x := .tmp 1) (ev_tmp rfl) fun f1 => ?_
 refine ok_fact (x := .tmp 2) (ev_tmp rfl) fun f2 => ?_
 iterate 16 refine z ?_
 rfl

theorem take_all {α : Type} {p : α → Bool} {l : List α} {k : Nat} {d : α} (h : (l.take k).all p = true) (hk : k < l.length) (hp : p (l.getD k d) = true) : (l.take (k + 1)).all p = true := by
 rw [List.take_succ_eq_append_getElem hk, List.all_append, h]
 simp only [List.all_cons, List.all_nil, Bool.and_true, Bool.true_and]
 simpa [List.getD, List.getElem?_eq_getElem hk] using hp
theorem all_no {α : Type} {p : α → Bool} {l : List α} {k : Nat} {d : α} (hk : k < l.length) (hp : p (l.getD k d) = false) : l.all p = false := by
 rw [List.all_eq_false]
 refine ⟨l[k], List.getElem_mem hk, ?_⟩
 simpa [List.getD, List.getElem?_eq_getElem hk] using hp
theorem all_yes {α : Type} {p : α → Bool} {l : List α} {k : Nat} (h : (l.take k).all p = true) (hk : l.length ≤ k) : l.all p = true := by rwa [List.take_of_length_le hk] at h
theorem size_len (s : ByteArray) : s.data.toList.length = s.size := rfl
def kch (b : UInt8) : Bool := (decide ((97 : Int) ≤ (b.toNat : Int)) && decide ((b.toNat : Int) ≤ 122)) || (decide ((48 : Int) ≤ (b.toNat : Int)) && decide ((b.toNat : Int) ≤ 57))
def kText (s : Str) : Bool := s.data.toList.all kch && decide ((s.size : Int) ≤ 12)
def wch (sl : Bool) (b : UInt8) : Bool := (decide ((97 : Int) ≤ (b.toNat : Int)) && decide ((b.toNat : Int) ≤ 122)) || (sl && decide ((b.toNat : Int) = 47))
theorem kch_spec (b : UInt8) : ((decide ((b.toNat : Int) < 97) || decide ((122 : Int) < (b.toNat : Int))) && (decide ((b.toNat : Int) < 48) || decide ((57 : Int) < (b.toNat : Int)))) = !kch b := by
 unfold kch
 generalize (b.toNat : Int) = z
 by_cases h1 : z < 97 <;> by_cases h2 : 122 < z <;> by_cases h3 : z < 48 <;> by_cases h4 : 57 < z <;> simp [h1, h2, h3, h4] <;> omega

theorem ok_impl_isKeyText {s : Str}  : PFn Tryz.prog 58 [.one (.dv [] (.str (s)))] (.one (.dv [] (.bool (kText s)))) := by
 refine ⟨fn_intro Tryz.func58 rfl Tryz.ntmps58 Tryz.results58 rfl (fun C => ?_)⟩
 refine ok_fact (x := .tmp 0) (ev_tmp rfl) fun f0 => ?_
 iterate 8 refine z ?_
 refine ok_loop (ι := Nat) (fun zz => ⟨[(0, .one (.dv [] (.str (s)))), (3, .one (.dv [] (.int .i64 ((zz : Int)))))], [], []⟩) (fun zz => zz ≤ s.size ∧ (s.data.toList.take zz).all kch = true) (fun zz => s.size - zz) (0) ?_ (weak_sub ⟨rfl, rfl, trivial⟩ trivial trivial rfl) (fun zz hx => ?_)
 ·exact ⟨Nat.zero_le _, rfl⟩
 obtain ⟨k, rfl⟩ : ∃ v, v = zz := ⟨_, rfl⟩
 replace hx : k ≤ s.size ∧ (s.data.toList.take k).all kch = true := hx
 obtain ⟨hk, hall⟩ := hx
 show Ok _ _ _ _ _ (⟨[(0, .one (.dv [] (.str (s)))), (3, .one (.dv [] (.int .i64 ((k : Int)))))], [], []⟩ : St)
 iterate 7 refine z ?_
 refine yQ rfl (fun c1 => ?_) fun c1 => ?_
 ·skip
  have d1 := of_decide_eq_true c1
  iterate 29 refine z ?_
  refine yQ rfl (fun c2 => ?_) fun c2 => ?_
  ·skip
   iterate 10 refine z ?_
   rw [kText, all_no (k := k) (d := 0) (by rw [size_len]; omega) (by have h : (!kch (s.data.toList.getD k 0)) = true := c2; simpa using h)]; rfl
  ·skip
   iterate 3 refine z ?_
   refine ok_region ?_
   iterate 4 refine z ?_
   refine ⟨k + 1, ?_, ?_, weak_sub ⟨rfl, rfl, trivial⟩ trivial trivial rfl⟩
   ·exact ⟨by omega, take_all (d := 0) hall (by rw [size_len]; omega) (by have h : (!kch (s.data.toList.getD k 0)) = false := c2; simpa using h)⟩
   ·omega
 ·skip
  have d1 := of_decide_eq_false c1
  iterate 13 refine z ?_
  rw [kText, all_yes hall (by rw [size_len]; omega)]; rfl
theorem ok_spec_l4Text {s : Str}  : PFn Tryz.prog 23 [.one (.dv [] (.str (s)))] (.one (.dv [] (.bool (kText s)))) := by
 refine ⟨fn_intro Tryz.func23 rfl Tryz.ntmps23 Tryz.results23 rfl (fun C => ?_)⟩
 refine ok_fact (x := .tmp 0) (ev_tmp rfl) fun f0 => ?_
 iterate 8 refine z ?_
 refine ok_loop (ι := Nat) (fun zz => ⟨[(0, .one (.dv [] (.str (s)))), (3, .one (.dv [] (.int .i64 ((zz : Int)))))], [], []⟩) (fun zz => zz ≤ s.size ∧ (s.data.toList.take zz).all kch = true) (fun zz => s.size - zz) (0) ?_ (weak_sub ⟨rfl, rfl, trivial⟩ trivial trivial rfl) (fun zz hx => ?_)
 ·exact ⟨Nat.zero_le _, rfl⟩
 obtain ⟨k, rfl⟩ : ∃ v, v = zz := ⟨_, rfl⟩
 replace hx : k ≤ s.size ∧ (s.data.toList.take k).all kch = true := hx
 obtain ⟨hk, hall⟩ := hx
 show Ok _ _ _ _ _ (⟨[(0, .one (.dv [] (.str (s)))), (3, .one (.dv [] (.int .i64 ((k : Int)))))], [], []⟩ : St)
 iterate 7 refine z ?_
 refine yQ rfl (fun c1 => ?_) fun c1 => ?_
 ·skip
  have d1 := of_decide_eq_true c1
  iterate 28 refine z ?_
  refine yQ rfl (fun c2 => ?_) fun c2 => ?_
  ·skip
   iterate 10 refine z ?_
   rw [kText, all_no (k := k) (d := 0) (by rw [size_len]; omega) (by have h := (kch_spec (s.data.toList.getD k 0)).symm.trans c2; simpa using h)]; rfl
  ·skip
   iterate 3 refine z ?_
   refine ok_region ?_
   iterate 4 refine z ?_
   refine ⟨k + 1, ?_, ?_, weak_sub ⟨rfl, rfl, trivial⟩ trivial trivial rfl⟩
   ·exact ⟨by omega, take_all (d := 0) hall (by rw [size_len]; omega) (by have h := (kch_spec (s.data.toList.getD k 0)).symm.trans c2; simpa using h)⟩
   ·omega
 ·skip
  have d1 := of_decide_eq_false c1
  iterate 13 refine z ?_
  rw [kText, all_yes hall (by rw [size_len]; omega)]; rfl
end Go.Proofs.YtoigmlbidpocnaaGreat

namespace Go.Proofs.YtoigmlbidpocnaaGreat
open Go.RowKit
open Go.Proofs
set_option linter.unusedVariables false
set_option linter.unusedSimpArgs false

def isKey (k : KeyT) : Bool := (decide (1 ≤ k.1) && decide (k.1 ≤ 3)) && (decide (-1000000000000 ≤ k.2.1) && decide (k.2.1 ≤ 1000000000000)) && kText k.2.2 && !(decide (k.1 = 2) && !decide (k.2.1 = 0)) && !(decide (k.1 = 1) && !sEq k.2.2 (ByteArray.mk #[]))
def isName (s : Str) : Bool := s.data.toList.all (wch false) && (decide (1 ≤ (s.size : Int)) && decide ((s.size : Int) ≤ 8))
theorem wch_spec (b : UInt8) : (decide ((b.toNat : Int) < 97) || decide ((122 : Int) < (b.toNat : Int))) = !wch false b := by
 unfold wch
 generalize (b.toNat : Int) = z
 by_cases h1 : z < 97 <;> by_cases h2 : 122 < z <;> simp [h1, h2] <;> omega

theorem ok_impl_IsKey {k : KeyT}  : PFn Tryz.prog 42 [.agg [(.dv [] (.int .i64 (k.1))), (.dv [] (.int .i64 (k.2.1))), (.dv [] (.str (k.2.2)))]] (.one (.dv [] (.bool (isKey k)))) := by
 refine ⟨fn_intro Tryz.func42 rfl Tryz.ntmps42 Tryz.results42 rfl (fun C => ?_)⟩
 refine yF 0 0 rfl rfl fun f0_0 => ?_
 refine yF 0 1 rfl rfl fun f0_1 => ?_
 refine yF 0 2 rfl rfl fun f0_2 => ?_
 iterate 8 refine z ?_
 refine zC Tryz.call41 ?_ (hf := ok_impl_InRange)
 iterate 4 refine z ?_
 refine o_callG (gd_bool rfl rfl rfl rfl rfl) rfl rfl Tryz.call41 ok_impl_InRange (fun hg => (as_cons (ev_opt rfl hg) (ag_one ac_dv) (as_cons (ev_int (inR_lit rfl)) (ag_one ac_dv) (as_cons (ev_int (inR_lit rfl)) (ag_one ac_dv) as_nil)))) rfl rfl ?_
 iterate 5 refine z ?_
 refine o_callG (gd_bool rfl rfl rfl rfl rfl) rfl rfl Tryz.call58 ok_impl_isKeyText (fun hg => (as_cons (ev_opt rfl hg) (ag_one ac_dv) as_nil)) rfl rfl ?_
 iterate 3 refine z ?_
 refine yQ rfl (fun c1 => ?_) fun c1 => ?_
 ·skip
  iterate 6 refine z ?_
  grind [isKey]
 ·skip
  iterate 27 refine z ?_
  grind [isKey]
theorem ok_spec_IsKey {k : KeyT}  : PFn Tryz.prog 8 [.agg [(.dv [] (.int .i64 (k.1))), (.dv [] (.int .i64 (k.2.1))), (.dv [] (.str (k.2.2)))]] (.one (.dv [] (.bool (isKey k)))) := by
 refine ⟨fn_intro Tryz.func8 rfl Tryz.ntmps8 Tryz.results8 rfl (fun C => ?_)⟩
 refine yF 0 0 rfl rfl fun f0_0 => ?_
 refine yF 0 1 rfl rfl fun f0_1 => ?_
 refine yF 0 2 rfl rfl fun f0_2 => ?_
 iterate 7 refine z ?_
 refine zC Tryz.call20 ?_ (hf := ok_spec_l1In)
 iterate 3 refine z ?_
 refine o_callG (gd_bool rfl rfl rfl rfl rfl) rfl rfl Tryz.call20 ok_spec_l1In (fun hg => (as_cons (ev_opt rfl hg) (ag_one ac_dv) (as_cons (ev_int (inR_lit rfl)) (ag_one ac_dv) (as_cons (ev_int (inR_lit rfl)) (ag_one ac_dv) as_nil)))) rfl rfl ?_
 iterate 14 refine z ?_
 refine o_callG (gd_bool rfl rfl rfl rfl rfl) rfl rfl Tryz.call23 ok_spec_l4Text (fun hg => (as_cons (ev_opt rfl hg) (ag_one ac_dv) as_nil)) rfl rfl ?_
 iterate 15 refine z ?_
 grind [isKey]
theorem ok_impl_isWord {s : Str} {m : Int} {sl : Bool}  : PFn Tryz.prog 80 [.one (.dv [] (.str (s))), .one (.dv [] (.int .i64 (m))), .one (.dv [] (.bool (sl)))] (.one (.dv [] (.bool (s.data.toList.all (wch sl) && (decide (1 ≤ (s.size : Int)) && decide ((s.size : Int) ≤ m)))))) := by
 refine ⟨fn_intro Tryz.func80 rfl Tryz.ntmps80 Tryz.results80 rfl (fun C => ?_)⟩
 refine ok_fact (x := .tmp 0) (ev_tmp rfl) fun f0 => ?_
 refine ok_fact (x := .tmp 1) (ev_tmp rfl) fun f1 => ?_
 iterate 8 refine z ?_
 refine ok_loop (ι := Nat) (fun zz => ⟨[(0, .one (.dv [] (.str (s)))), (1, .one (.dv [] (.int .i64 (m)))), (2, .one (.dv [] (.bool (sl)))), (7, .one (.dv [] (.int .i64 ((zz : Int)))))], [], []⟩) (fun zz => zz ≤ s.size ∧ (s.data.toList.take zz).all (wch sl) = true) (fun zz => s.size - zz) (0) ?_ (weak_sub ⟨rfl, rfl, rfl, rfl, trivial⟩ trivial trivial rfl) (fun zz hx => ?_)
 ·exact ⟨Nat.zero_le _, rfl⟩
 obtain ⟨k, rfl⟩ : ∃ v, v = zz := ⟨_, rfl⟩
 replace hx : k ≤ s.size ∧ (s.data.toList.take k).all (wch sl) = true := hx
 obtain ⟨hk, hall⟩ := hx
 show Ok _ _ _ _ _ (⟨[(0, .one (.dv [] (.str (s)))), (1, .one (.dv [] (.int .i64 (m)))), (2, .one (.dv [] (.bool (sl)))), (7, .one (.dv [] (.int .i64 ((k : Int)))))], [], []⟩ : St)
 iterate 7 refine z ?_
 refine yQ rfl (fun c1 => ?_) fun c1 => ?_
 ·skip
  have d1 := of_decide_eq_true c1
  iterate 26 refine z ?_
  refine yQ rfl (fun c2 => ?_) fun c2 => ?_
  ·skip
   iterate 10 refine z ?_
   rw [all_no (k := k) (d := 0) (by rw [size_len]; omega) (by have h : (!wch sl (s.data.toList.getD k 0)) = true := c2; simpa using h)]; rfl
  ·skip
   iterate 3 refine z ?_
   refine ok_region ?_
   iterate 4 refine z ?_
   refine ⟨k + 1, ?_, ?_, weak_sub ⟨rfl, rfl, rfl, rfl, trivial⟩ trivial trivial rfl⟩
   ·exact ⟨by omega, take_all (d := 0) hall (by rw [size_len]; omega) (by have h : (!wch sl (s.data.toList.getD k 0)) = false := c2; simpa using h)⟩
   ·omega
 ·skip
  have d1 := of_decide_eq_false c1
  iterate 9 refine z ?_
  refine zC Tryz.call41 ?_ (hf := ok_impl_InRange)
  iterate 4 refine z ?_
  rw [all_yes hall (by rw [size_len]; omega)]; rfl
theorem ok_impl_IsName {s : Str}  : PFn Tryz.prog 57 [.one (.dv [] (.str (s)))] (.one (.dv [] (.bool (isName s)))) := by
 refine ⟨fn_intro Tryz.func57 rfl Tryz.ntmps57 Tryz.results57 rfl (fun C => ?_)⟩
 refine ok_fact (x := .tmp 0) (ev_tmp rfl) fun f0 => ?_
 iterate 5 refine z ?_
 refine zC Tryz.call80 ?_ (hf := ok_impl_isWord)
 iterate 4 refine z ?_
 rfl
theorem ok_spec_IsName {s : Str}  : PFn Tryz.prog 21 [.one (.dv [] (.str (s)))] (.one (.dv [] (.bool (isName s)))) := by
 refine ⟨fn_intro Tryz.func21 rfl Tryz.ntmps21 Tryz.results21 rfl (fun C => ?_)⟩
 refine ok_fact (x := .tmp 0) (ev_tmp rfl) fun f0 => ?_
 iterate 8 refine z ?_
 refine ok_loop (ι := Nat) (fun zz => ⟨[(0, .one (.dv [] (.str (s)))), (3, .one (.dv [] (.int .i64 ((zz : Int)))))], [], []⟩) (fun zz => zz ≤ s.size ∧ (s.data.toList.take zz).all (wch false) = true) (fun zz => s.size - zz) (0) ?_ (weak_sub ⟨rfl, rfl, trivial⟩ trivial trivial rfl) (fun zz hx => ?_)
 ·exact ⟨Nat.zero_le _, rfl⟩
 obtain ⟨k, rfl⟩ : ∃ v, v = zz := ⟨_, rfl⟩
 replace hx : k ≤ s.size ∧ (s.data.toList.take k).all (wch false) = true := hx
 obtain ⟨hk, hall⟩ := hx
 show Ok _ _ _ _ _ (⟨[(0, .one (.dv [] (.str (s)))), (3, .one (.dv [] (.int .i64 ((k : Int)))))], [], []⟩ : St)
 iterate 7 refine z ?_
 refine yQ rfl (fun c1 => ?_) fun c1 => ?_
 ·skip
  have d1 := of_decide_eq_true c1
  iterate 16 refine z ?_
  refine yQ rfl (fun c2 => ?_) fun c2 => ?_
  ·skip
   iterate 10 refine z ?_
   rw [isName, all_no (k := k) (d := 0) (by rw [size_len]; omega) (by have h := (wch_spec (s.data.toList.getD k 0)).symm.trans c2; simpa using h)]; rfl
  ·skip
   iterate 3 refine z ?_
   refine ok_region ?_
   iterate 4 refine z ?_
   refine ⟨k + 1, ?_, ?_, weak_sub ⟨rfl, rfl, trivial⟩ trivial trivial rfl⟩
   ·exact ⟨by omega, take_all (d := 0) hall (by rw [size_len]; omega) (by have h := (wch_spec (s.data.toList.getD k 0)).symm.trans c2; simpa using h)⟩
   ·omega
 ·skip
  have d1 := of_decide_eq_false c1
  iterate 8 refine z ?_
  refine zC Tryz.call20 ?_ (hf := ok_spec_l1In)
  iterate 4 refine z ?_
  rw [isName, all_yes hall (by rw [size_len]; omega)]; rfl
end Go.Proofs.YtoigmlbidpocnaaGreat

namespace Go.Proofs.YtoigmlbidpocnaaGreat
open Go.RowKit
open Go.Proofs
set_option linter.unusedVariables false
set_option linter.unusedSimpArgs false

theorem bl_total : ∀ (x y : List UInt8), (Op.bytesLess x y || (x == y)) = !Op.bytesLess y x
 | [], [] => rfl
 | [], _ :: _ => rfl
 | _ :: _, [] => rfl
 | a :: x, b :: y => by
  have ih := bl_total x y
  simp only [Op.bytesLess]
  rcases Nat.lt_trichotomy a.toNat b.toNat with h | h | h
  ·have h1 : a < b := h
   have h2 : ¬ b < a := by intro h'; have : b.toNat < a.toNat := h'; omega
   have h3 : ¬ a = b := by rintro rfl; omega
   have h4 : ¬ b = a := fun e => h3 e.symm
   simp [h1, h2, h3, h4]
  ·have e : a = b := UInt8.toNat_inj.1 h
   subst e
   simpa using ih
  ·have h1 : b < a := h
   have h2 : ¬ a < b := by intro h'; have : a.toNat < b.toNat := h'; omega
   have h3 : ¬ a = b := by rintro rfl; omega
   have h4 : ¬ b = a := fun e => h3 e.symm
   simp [h1, h2, h3, h4]
theorem sLe_eq (a b : Str) : (sLt a b || sEq a b) = !sLt b a := bl_total _ _
theorem rall_succ {p : Nat → Bool} {k : Nat} (h : (List.range k).all p = true) (hp : p k = true) : (List.range (k + 1)).all p = true := by
 rw [List.range_succ, List.all_append, h]; simpa using hp
theorem rall_no {p : Nat → Bool} {k n : Nat} (hk : k < n) (hp : p k = false) : (List.range n).all p = false := by
 rw [List.all_eq_false]; exact ⟨k, List.mem_range.2 hk, by simpa using hp⟩
def recBad (r : RecT) (i : Nat) : Bool := (!isName (r.getD (i : Int).toNat default).1 || !(decide ((0 : Int) ≤ (r.getD (i : Int).toNat default).2) && decide ((r.getD (i : Int).toNat default).2 ≤ 1000000000))) ||
 (decide ((0 : Int) < (i : Int)) && (sLt (r.getD (i : Int).toNat default).1 (r.getD ((i : Int) - 1).toNat default).1 || sEq (r.getD (i : Int).toNat default).1 (r.getD ((i : Int) - 1).toNat default).1))
def isRec (r : RecT) : Bool := (List.range r.length).all (fun i => !recBad r i) && decide ((r.length : Int) ≤ 6)
def recBadS (r : RecT) (i : Nat) : Bool := (!isName (r.getD (i : Int).toNat default).1 || !(decide ((0 : Int) ≤ (r.getD (i : Int).toNat default).2) && decide ((r.getD (i : Int).toNat default).2 ≤ 1000000000))) ||
 (decide ((0 : Int) < (i : Int)) && !sLt (r.getD ((i : Int) - 1).toNat default).1 (r.getD (i : Int).toNat default).1)
theorem recBadS_eq (r : RecT) (i : Nat) : recBadS r i = recBad r i := by unfold recBadS recBad; rw [sLe_eq]

theorem ok_impl_IsRecord {r : RecT}  : PFn Tryz.prog 43 [.agg [(.dv [] (fieldsD (r)))]] (.one (.dv [] (.bool (isRec r)))) := by
 refine ⟨fn_intro Tryz.func43 rfl Tryz.ntmps43 Tryz.results43 rfl (fun C => ?_)⟩
 refine yF 0 0 rfl rfl fun f0_0 => ?_
 iterate 12 refine z ?_
 refine ok_loop (ι := Nat) (fun zz => ⟨[(1, .box 1 0), (6, .one (.dv [] (fieldsD (r)))), (7, .one (.dv [] (.int .i64 ((((r)).length : Int))))), (8, .one (.dv [] (.int .i64 ((zz : Int)))))], [(1, 32, [(.dv [] (fieldsD (r)))])], []⟩) (fun zz => zz ≤ r.length ∧ (List.range zz).all (fun i => !recBad r i) = true) (fun zz => r.length - zz) (0) ?_ (weak_sub ⟨rfl, rfl, rfl, rfl, trivial⟩ ⟨rfl, trivial⟩ trivial rfl) (fun zz hx => ?_)
 ·exact ⟨Nat.zero_le _, rfl⟩
 obtain ⟨k, rfl⟩ : ∃ v, v = zz := ⟨_, rfl⟩
 replace hx : k ≤ r.length ∧ (List.range k).all (fun i => !recBad r i) = true := hx
 obtain ⟨hk, hall⟩ := hx
 show Ok _ _ _ _ _ (⟨[(1, .box 1 0), (6, .one (.dv [] (fieldsD (r)))), (7, .one (.dv [] (.int .i64 ((((r)).length : Int))))), (8, .one (.dv [] (.int .i64 ((k : Int)))))], [(1, 32, [(.dv [] (fieldsD (r)))])], []⟩ : St)
 iterate 3 refine z ?_
 refine ok_seq ?_
 refine yQ rfl (fun c1 => ?_) fun c1 => ?_
 ·skip
  have d1 := of_decide_eq_true c1
  iterate 12 refine z ?_
  refine ok_seq ?_
  refine ok_regionD (oB := [1, 4]) (oK := []) (by kernel_rfl) rfl rfl ?_
  refine zD 0 ?_
  refine zD 1 ?_
  refine d_call 2 rfl (by kernel_rfl) rfl rfl rfl Tryz.call57 ok_impl_IsName (as_cons (ev_tmp rfl) (ag_one ac_dv) as_nil) rfl rfl rfl rfl ?_
  refine zD 3 ?_
  refine zD 4 ?_
  refine zDG 5 ?_
  refine zDG 6 ?_
  refine d_callG 7 rfl (by kernel_rfl) (gd_bool rfl rfl rfl rfl rfl) rfl rfl Tryz.call41 ok_impl_InRange (fun hg => (as_cons (ev_opt rfl hg) (ag_one ac_dv) (as_cons (ev_int (inR_lit rfl)) (ag_one ac_dv) (as_cons (ev_int (inR_lit rfl)) (ag_one ac_dv) as_nil)))) rfl rfl ?_
  refine zDG 8 ?_
  refine zD 9 ?_
  refine zD 10 ?_
  refine zDG 11 ?_
  refine zDG 12 ?_
  refine zDG 13 ?_
  refine zDG 14 ?_
  refine zDG 15 ?_
  refine zDG 16 ?_
  refine zDG 17 ?_
  refine zDG 18 ?_
  refine zDG 19 ?_
  refine zDG 20 ?_
  refine zDG 21 ?_
  refine zDG 22 ?_
  refine zDG 23 ?_
  refine zDG 24 ?_
  refine zD 25 ?_
  refine d_done (by kernel_rfl) ?_
  refine z ?_
  refine yQ rfl (fun c2 => ?_) fun c2 => ?_
  ·skip
   iterate 10 refine z ?_
   rw [isRec, rall_no (k := k) (by omega) (by have h : recBad r k = true := c2; simpa using h)]; rfl
  ·skip
   iterate 3 refine z ?_
   refine ok_region ?_
   iterate 3 refine z ?_
   refine ⟨k + 1, ?_, ?_, weak_sub ⟨rfl, rfl, rfl, rfl, trivial⟩ ⟨rfl, trivial⟩ trivial rfl⟩
   ·exact ⟨by omega, rall_succ hall (by have h : recBad r k = false := c2; simpa using h)⟩
   ·omega
 ·skip
  have d1 := of_decide_eq_false c1
  iterate 14 refine z ?_
  obtain rfl : k = r.length := by omega
  rw [isRec, hall]; rfl
theorem ok_spec_IsRecord {r : RecT}  : PFn Tryz.prog 22 [.agg [(.dv [] (fieldsD (r)))]] (.one (.dv [] (.bool (isRec r)))) := by
 refine ⟨fn_intro Tryz.func22 rfl Tryz.ntmps22 Tryz.results22 rfl (fun C => ?_)⟩
 refine yF 0 0 rfl rfl fun f0_0 => ?_
 iterate 9 refine z ?_
 refine ok_loop (ι := Nat) (fun zz => ⟨[(1, .box 1 0), (3, .one (.dv [] (.int .i64 ((zz : Int)))))], [(1, 32, [(.dv [] (fieldsD (r)))])], []⟩) (fun zz => zz ≤ r.length ∧ (List.range zz).all (fun i => !recBad r i) = true) (fun zz => r.length - zz) (0) ?_ (weak_sub ⟨rfl, rfl, trivial⟩ ⟨rfl, trivial⟩ trivial rfl) (fun zz hx => ?_)
 ·exact ⟨Nat.zero_le _, rfl⟩
 obtain ⟨k, rfl⟩ : ∃ v, v = zz := ⟨_, rfl⟩
 replace hx : k ≤ r.length ∧ (List.range k).all (fun i => !recBad r i) = true := hx
 obtain ⟨hk, hall⟩ := hx
 show Ok _ _ _ _ _ (⟨[(1, .box 1 0), (3, .one (.dv [] (.int .i64 ((k : Int)))))], [(1, 32, [(.dv [] (fieldsD (r)))])], []⟩ : St)
 iterate 8 refine z ?_
 refine yQ rfl (fun c1 => ?_) fun c1 => ?_
 ·skip
  have d1 := of_decide_eq_true c1
  iterate 4 refine z ?_
  refine ok_seq ?_
  refine ok_regionD (oB := [1]) (oK := []) (by kernel_rfl) rfl rfl ?_
  refine zD 0 ?_
  refine zD 1 ?_
  refine zD 2 ?_
  refine zD 3 ?_
  refine zD 4 ?_
  refine zD 5 ?_
  refine d_call 6 rfl (by kernel_rfl) rfl rfl rfl Tryz.call21 ok_spec_IsName (as_cons (ev_tmp rfl) (ag_one ac_dv) as_nil) rfl rfl rfl rfl ?_
  refine zD 7 ?_
  refine zD 8 ?_
  refine zDG 9 ?_
  refine zDG 10 ?_
  refine zDG 11 ?_
  refine zDG 12 ?_
  refine zDG 13 ?_
  refine zDG 14 ?_
  refine d_callG 15 rfl (by kernel_rfl) (gd_bool rfl rfl rfl rfl rfl) rfl rfl Tryz.call20 ok_spec_l1In (fun hg => (as_cons (ev_opt rfl hg) (ag_one ac_dv) (as_cons (ev_int (inR_lit rfl)) (ag_one ac_dv) (as_cons (ev_int (inR_lit rfl)) (ag_one ac_dv) as_nil)))) rfl rfl ?_
  refine zDG 16 ?_
  refine zD 17 ?_
  refine zD 18 ?_
  refine zDG 19 ?_
  refine zDG 20 ?_
  refine zDG 21 ?_
  refine zDG 22 ?_
  refine zDG 23 ?_
  refine zDG 24 ?_
  refine zDG 25 ?_
  refine zDG 26 ?_
  refine zDG 27 ?_
  refine zDG 28 ?_
  refine zDG 29 ?_
  refine zDG 30 ?_
  refine zDG 31 ?_
  refine zDG 32 ?_
  refine zDG 33 ?_
  refine zDG 34 ?_
  refine zDG 35 ?_
  refine zDG 36 ?_
  refine zD 37 ?_
  refine d_done (by kernel_rfl) ?_
  refine z ?_
  refine yQ rfl (fun c2 => ?_) fun c2 => ?_
  ·skip
   iterate 10 refine z ?_
   rw [isRec, rall_no (k := k) (by omega) (by have h : recBadS r k = true := c2; rw [recBadS_eq] at h; simpa using h)]; rfl
  ·skip
   iterate 3 refine z ?_
   refine ok_region ?_
   iterate 4 refine z ?_
   refine ⟨k + 1, ?_, ?_, weak_sub ⟨rfl, rfl, trivial⟩ ⟨rfl, trivial⟩ trivial rfl⟩
   ·exact ⟨by omega, rall_succ hall (by have h : recBadS r k = false := c2; rw [recBadS_eq] at h; simpa using h)⟩
   ·omega
 ·skip
  have d1 := of_decide_eq_false c1
  iterate 14 refine z ?_
  obtain rfl : k = r.length := by omega
  rw [isRec, hall]; rfl
end Go.Proofs.YtoigmlbidpocnaaGreat

namespace Go.Proofs.YtoigmlbidpocnaaGreat
open Go.RowKit
open Go.Proofs
set_option linter.unusedVariables false
set_option linter.unusedSimpArgs false

def wSum {α : Type} (w : α → Nat) (xs : List α) : Nat := (xs.map w).sum
def wList {α : Type} (w : α → Nat) (xs : List α) : Nat := xs.length + wSum w xs
theorem wSum_app {α : Type} (w : α → Nat) (xs ys : List α) : wSum w (xs ++ ys) = wSum w xs + wSum w ys := by simp [wSum]
theorem wSum_le {α : Type} (w : α → Nat) (xs : List α) (k : Nat) : wSum w (xs.take k) ≤ wSum w xs := by
 have h := wSum_app w (xs.take k) (xs.drop k)
 rw [List.take_append_drop] at h
 omega
theorem wSum_succ {α : Type} [Inhabited α] (w : α → Nat) (xs : List α) (k : Nat) (h : k < xs.length) : wSum w (xs.take (k + 1)) = wSum w (xs.take k) + w (xs.getD (k : Int).toNat default) ∧ wSum w (xs.take (k + 1)) ≤ wSum w xs := by
 refine ⟨?_, wSum_le w xs _⟩
 have : xs.take (k + 1) = xs.take k ++ [xs.getD k default] := by
  rw [List.take_add_one, List.getElem?_eq_getElem h]; simp [List.getD, List.getElem?_eq_getElem h]
 rw [this, wSum_app]
 simp [wSum]
def wKey (x : KeyT) : Nat := (x.2.2).size
def wField (x : FieldT) : Nat := (x.1).size
def wRecord (x : RecT) : Nat := wList wField (x)
def wItem (x : ItemT) : Nat := wKey (x.1) + wRecord (x.2)
def wStore (x : StoreT) : Nat := (x.1).size + wList wItem (x.2.1)
def wIndexDef (x : DefT) : Nat := (x.1).size + (x.2).size
def wDatabase (x : DbT) : Nat := (x.1).size + wList wStore (x.2.2.1) + wList wIndexDef (x.2.2.2)
def wOp (x : OpT) : Nat := (x.2.1).size + wKey (x.2.2.1) + wRecord (x.2.2.2.1) + (x.2.2.2.2).size
end Go.Proofs.YtoigmlbidpocnaaGreat

namespace Go.Proofs.YtoigmlbidpocnaaGreat
open Go.RowKit
open Go.Proofs
set_option linter.unusedVariables false
set_option linter.unusedSimpArgs false

def isOpB (o : OpT) : Bool := (decide (1 ≤ o.1) && decide (o.1 ≤ 6)) && isName o.2.1 && (decide (o.1 = 5) || isKey o.2.2.1) && isRec o.2.2.2.1 && ((decide (o.1 = 6) && isName o.2.2.2.2) || (!decide (o.1 = 6) && sEq o.2.2.2.2 (ByteArray.mk #[])))
theorem any_step {α : Type} {p : α → Bool} {l : List α} {k : Nat} {d : α} (h : (l.take k).any p = false) (hk : k < l.length) (hp : p (l.getD k d) = false) : (l.take (k + 1)).any p = false := by
 rw [List.take_succ_eq_append_getElem hk, List.any_append, h]
 simp only [List.any_cons, List.any_nil, Bool.or_false, Bool.false_or]
 simpa [List.getD, List.getElem?_eq_getElem hk] using hp
theorem any_yes {α : Type} {p : α → Bool} {l : List α} {k : Nat} {d : α} (hk : k < l.length) (hp : p (l.getD k d) = true) : l.any p = true := by
 rw [List.any_eq_true]
 exact ⟨l[k], List.getElem_mem hk, by simpa [List.getD, List.getElem?_eq_getElem hk] using hp⟩
theorem ok_impl_IsOp {x : OpT}  : PFn Tryz.prog 39 [.agg [(.dv [] (.int .i64 (x.1))), (.dv [] (.str (x.2.1))), (.dv [] (.int .i64 (x.2.2.1.1))), (.dv [] (.int .i64 (x.2.2.1.2.1))), (.dv [] (.str (x.2.2.1.2.2))), (.dv [] (fieldsD (x.2.2.2.1))), (.dv [] (.str (x.2.2.2.2)))]] (.one (.dv [] (.bool (isOpB x)))) := by
 refine ⟨fn_intro Tryz.func39 rfl Tryz.ntmps39 Tryz.results39 rfl (fun C => ?_)⟩
 refine yF 0 0 rfl rfl fun f0_0 => ?_
 refine yF 0 1 rfl rfl fun f0_1 => ?_
 refine yF 0 2 rfl rfl fun f0_2 => ?_
 refine yF 0 3 rfl rfl fun f0_3 => ?_
 refine yF 0 4 rfl rfl fun f0_4 => ?_
 refine yF 0 5 rfl rfl fun f0_5 => ?_
 refine yF 0 6 rfl rfl fun f0_6 => ?_
 iterate 8 refine z ?_
 refine zC Tryz.call41 ?_ (hf := ok_impl_InRange)
 iterate 4 refine z ?_
 refine o_callG (gd_bool rfl rfl rfl rfl rfl) rfl rfl Tryz.call57 ok_impl_IsName (fun hg => (as_cons (ev_opt rfl hg) (ag_one ac_dv) as_nil)) rfl rfl ?_
 iterate 9 refine z ?_
 refine o_callG (gd_opt rfl rfl rfl rfl rfl) rfl rfl Tryz.call42 ok_impl_IsKey (fun hg => (as_cons (ev_opt rfl hg) (ag_agg (ag_cons ac_dv (ag_cons ac_dv (ag_cons ac_dv ag_nil)))) as_nil)) rfl rfl ?_
 iterate 6 refine z ?_
 refine o_callG (gd_bool rfl rfl rfl rfl rfl) rfl rfl Tryz.call43 ok_impl_IsRecord (fun hg => (as_cons (ev_opt rfl hg) (ag_agg (ag_cons ac_dv ag_nil)) as_nil)) rfl rfl ?_
 iterate 3 refine z ?_
 refine yQ rfl (fun c1 => ?_) fun c1 => ?_
 ·skip
  iterate 6 refine z ?_
  grind [isOpB]
 ·skip
  iterate 8 refine z ?_
  refine yQ rfl (fun c2 => ?_) fun c2 => ?_
  ·skip
   have d2 := of_decide_eq_true c2
   iterate 3 refine z ?_
   refine zC Tryz.call57 ?_ (hf := ok_impl_IsName)
   iterate 5 refine z ?_
   grind [isOpB]
  ·skip
   have d2 := of_decide_eq_false c2
   iterate 10 refine z ?_
   grind [isOpB]
theorem ok_spec_IsOp {x : OpT}  : PFn Tryz.prog 7 [.agg [(.dv [] (.int .i64 (x.1))), (.dv [] (.str (x.2.1))), (.dv [] (.int .i64 (x.2.2.1.1))), (.dv [] (.int .i64 (x.2.2.1.2.1))), (.dv [] (.str (x.2.2.1.2.2))), (.dv [] (fieldsD (x.2.2.2.1))), (.dv [] (.str (x.2.2.2.2)))]] (.one (.dv [] (.bool (isOpB x)))) := by
 refine ⟨fn_intro Tryz.func7 rfl Tryz.ntmps7 Tryz.results7 rfl (fun C => ?_)⟩
 refine yF 0 0 rfl rfl fun f0_0 => ?_
 refine yF 0 1 rfl rfl fun f0_1 => ?_
 refine yF 0 2 rfl rfl fun f0_2 => ?_
 refine yF 0 3 rfl rfl fun f0_3 => ?_
 refine yF 0 4 rfl rfl fun f0_4 => ?_
 refine yF 0 5 rfl rfl fun f0_5 => ?_
 refine yF 0 6 rfl rfl fun f0_6 => ?_
 iterate 7 refine z ?_
 refine zC Tryz.call20 ?_ (hf := ok_spec_l1In)
 iterate 3 refine z ?_
 refine o_callG (gd_bool rfl rfl rfl rfl rfl) rfl rfl Tryz.call21 ok_spec_IsName (fun hg => (as_cons (ev_opt rfl hg) (ag_one ac_dv) as_nil)) rfl rfl ?_
 iterate 8 refine z ?_
 refine o_callG (gd_opt rfl rfl rfl rfl rfl) rfl rfl Tryz.call8 ok_spec_IsKey (fun hg => (as_cons (ev_opt rfl hg) (ag_agg (ag_cons ac_dv (ag_cons ac_dv (ag_cons ac_dv ag_nil)))) as_nil)) rfl rfl ?_
 iterate 5 refine z ?_
 refine o_callG (gd_bool rfl rfl rfl rfl rfl) rfl rfl Tryz.call22 ok_spec_IsRecord (fun hg => (as_cons (ev_opt rfl hg) (ag_agg (ag_cons ac_dv ag_nil)) as_nil)) rfl rfl ?_
 iterate 8 refine z ?_
 refine o_callG (gd_opt rfl rfl rfl rfl rfl) rfl rfl Tryz.call21 ok_spec_IsName (fun hg => (as_cons (ev_opt rfl hg) (ag_one ac_dv) as_nil)) rfl rfl ?_
 iterate 16 refine z ?_
 grind [isOpB]
end Go.Proofs.YtoigmlbidpocnaaGreat

namespace Go.Proofs.YtoigmlbidpocnaaGreat
open Go.RowKit
open Go.Proofs
set_option linter.unusedVariables false
set_option linter.unusedSimpArgs false

def eqL {α : Type} [Inhabited α] (p : α → α → Bool) (xs ys : List α) : Bool := decide ((xs.length : Int) = (ys.length : Int)) && (List.range xs.length).all (fun i => p (xs.getD (i : Int).toNat default) (ys.getD (i : Int).toNat default))
theorem eqL_len {α : Type} [Inhabited α] {p : α → α → Bool} {xs ys : List α} (h : ¬ (xs.length : Int) = (ys.length : Int)) : eqL p xs ys = false := by simp only [eqL, decide_eq_false h, Bool.false_and]
theorem eqL_no {α : Type} [Inhabited α] {p : α → α → Bool} {xs ys : List α} {k : Nat} (hk : k < xs.length) (h : p (xs.getD (k : Int).toNat default) (ys.getD (k : Int).toNat default) = false) : eqL p xs ys = false := by
 unfold eqL
 rw [rall_no (p := fun i => p (xs.getD (i : Int).toNat default) (ys.getD (i : Int).toNat default)) hk h, Bool.and_false]
theorem eqL_yes {α : Type} [Inhabited α] {p : α → α → Bool} {xs ys : List α} {k : Nat} (hl : (xs.length : Int) = (ys.length : Int)) (h : (List.range k).all (fun i => p (xs.getD (i : Int).toNat default) (ys.getD (i : Int).toNat default)) = true) (hk : k = xs.length) : eqL p xs ys = true := by
 subst hk
 unfold eqL
 rw [h, decide_eq_true hl]; rfl
def eqFld (f g : FieldT) : Bool := sEq f.1 g.1 && decide (f.2 = g.2)
def eqRec (r s : RecT) : Bool := eqL eqFld r s
def eqKeyB (k l : KeyT) : Bool := decide (k.1 = l.1) && (decide (k.2.1 = l.2.1) && sEq k.2.2 l.2.2)
def eqOpB (o q : OpT) : Bool := (((decide (o.1 = q.1) && sEq o.2.1 q.2.1) && eqKeyB o.2.2.1 q.2.2.1) && eqRec o.2.2.2.1 q.2.2.2.1) && sEq o.2.2.2.2 q.2.2.2.2
def eqDefB (d e : DefT) : Bool := sEq d.1 e.1 && sEq d.2 e.2
def eqByteB (b c : UInt8) : Bool := decide ((b.toNat : Int) = (c.toNat : Int))

theorem ok_slices_Equal_Field {x y : List (FieldT)}  : PFn Tryz.prog 75 [.one (.dv [] (fieldsD (x))), .one (.dv [] (fieldsD (y)))] (.one (.dv [] (.bool (eqL eqFld x y)))) := by
 refine ⟨fn_intro Tryz.func75 rfl Tryz.ntmps75 Tryz.results75 rfl (fun C => ?_)⟩
 refine ok_fact (x := .tmp 0) (ev_tmp rfl) fun f0 => ?_
 refine ok_fact (x := .tmp 1) (ev_tmp rfl) fun f1 => ?_
 iterate 11 refine z ?_
 refine yQ rfl (fun c1 => ?_) fun c1 => ?_
 ·skip
  have d1 := nd_t c1
  iterate 6 refine z ?_
  exact (eqL_len d1).symm
 ·skip
  have d1 := nd_f c1
  iterate 9 refine z ?_
  refine ok_loop (ι := Nat) (fun zz => ⟨[(0, .one (.dv [] (fieldsD (x)))), (1, .one (.dv [] (fieldsD (y)))), (12, .one (.dv [] (.int .i64 ((((x)).length : Int))))), (13, .one (.dv [] (.int .i64 ((zz : Int)))))], [], []⟩) (fun zz => zz ≤ x.length ∧ (List.range zz).all (fun i => eqFld (x.getD (i : Int).toNat default) (y.getD (i : Int).toNat default)) = true) (fun zz => x.length - zz) (0) ?_ (weak_sub ⟨rfl, rfl, rfl, rfl, trivial⟩ trivial trivial rfl) (fun zz hx => ?_)
  ·exact ⟨Nat.zero_le _, rfl⟩
  obtain ⟨k, rfl⟩ : ∃ v, v = zz := ⟨_, rfl⟩
  replace hx : k ≤ x.length ∧ (List.range k).all (fun i => eqFld (x.getD (i : Int).toNat default) (y.getD (i : Int).toNat default)) = true := hx
  obtain ⟨hk, hall⟩ := hx
  show Ok _ _ _ _ _ (⟨[(0, .one (.dv [] (fieldsD (x)))), (1, .one (.dv [] (fieldsD (y)))), (12, .one (.dv [] (.int .i64 ((((x)).length : Int))))), (13, .one (.dv [] (.int .i64 ((k : Int)))))], [], []⟩ : St)
  iterate 3 refine z ?_
  refine ok_seq ?_
  refine yQ rfl (fun c2 => ?_) fun c2 => ?_
  ·skip
   have d2 := of_decide_eq_true c2
   iterate 8 refine z ?_
   refine ok_seq ?_
   refine ok_regionD (oB := []) (oK := []) (by kernel_rfl) rfl rfl ?_
   refine zD 0 ?_
   refine zD 1 ?_
   refine zD 2 ?_
   refine zD 3 ?_
   refine zD 4 ?_
   refine zD 5 ?_
   refine zD 6 ?_
   refine zD 7 ?_
   refine d_take 8 rfl (by kernel_rfl) rfl rfl (pu_cmpA rfl (ev_tmp rfl) (ev_tmp rfl) rfl rfl Tryz.eqGuardType77 (neq_Field _ _ _ _)) rfl rfl rfl rfl ?_
   refine d_done (by kernel_rfl) ?_
   refine z ?_
   refine yQ rfl (fun c3 => ?_) fun c3 => ?_
   ·skip
    iterate 10 refine z ?_
    exact (eqL_no (k := k) (by omega) (by have h := c3; grind [eqFld])).symm
   ·skip
    iterate 3 refine z ?_
    refine ok_region ?_
    iterate 3 refine z ?_
    refine ⟨k + 1, ?_, ?_, weak_sub ⟨rfl, rfl, rfl, rfl, trivial⟩ trivial trivial rfl⟩
    ·exact ⟨by omega, rall_succ hall (by have h := c3; grind [eqFld])⟩
    ·omega
  ·skip
   have d2 := of_decide_eq_false c2
   iterate 10 refine z ?_
   exact (eqL_yes d1 hall (by omega)).symm
theorem ok_impl_EqualRecords {x y : RecT}  : PFn Tryz.prog 54 [.agg [(.dv [] (fieldsD (x)))], .agg [(.dv [] (fieldsD (y)))]] (.one (.dv [] (.bool (eqRec x y)))) := by
 refine ⟨fn_intro Tryz.func54 rfl Tryz.ntmps54 Tryz.results54 rfl (fun C => ?_)⟩
 refine yF 0 0 rfl rfl fun f0_0 => ?_
 refine yF 1 0 rfl rfl fun f1_0 => ?_
 iterate 10 refine z ?_
 refine zC Tryz.call75 ?_ (hf := ok_slices_Equal_Field)
 iterate 4 refine z ?_
 rfl
theorem ok_impl_equalOp {x y : OpT}  : PFn Tryz.prog 37 [.agg [(.dv [] (.int .i64 (x.1))), (.dv [] (.str (x.2.1))), (.dv [] (.int .i64 (x.2.2.1.1))), (.dv [] (.int .i64 (x.2.2.1.2.1))), (.dv [] (.str (x.2.2.1.2.2))), (.dv [] (fieldsD (x.2.2.2.1))), (.dv [] (.str (x.2.2.2.2)))], .agg [(.dv [] (.int .i64 (y.1))), (.dv [] (.str (y.2.1))), (.dv [] (.int .i64 (y.2.2.1.1))), (.dv [] (.int .i64 (y.2.2.1.2.1))), (.dv [] (.str (y.2.2.1.2.2))), (.dv [] (fieldsD (y.2.2.2.1))), (.dv [] (.str (y.2.2.2.2)))]] (.one (.dv [] (.bool (eqOpB x y)))) := by
 refine ⟨fn_intro Tryz.func37 rfl Tryz.ntmps37 Tryz.results37 rfl (fun C => ?_)⟩
 refine yF 0 0 rfl rfl fun f0_0 => ?_
 refine yF 0 1 rfl rfl fun f0_1 => ?_
 refine yF 0 2 rfl rfl fun f0_2 => ?_
 refine yF 0 3 rfl rfl fun f0_3 => ?_
 refine yF 0 4 rfl rfl fun f0_4 => ?_
 refine yF 0 5 rfl rfl fun f0_5 => ?_
 refine yF 0 6 rfl rfl fun f0_6 => ?_
 refine yF 1 0 rfl rfl fun f1_0 => ?_
 refine yF 1 1 rfl rfl fun f1_1 => ?_
 refine yF 1 2 rfl rfl fun f1_2 => ?_
 refine yF 1 3 rfl rfl fun f1_3 => ?_
 refine yF 1 4 rfl rfl fun f1_4 => ?_
 refine yF 1 5 rfl rfl fun f1_5 => ?_
 refine yF 1 6 rfl rfl fun f1_6 => ?_
 iterate 23 refine z ?_
 refine o_pureG (gd_bool rfl rfl rfl rfl rfl) rfl (fun hg => pu_cmpA rfl (ev_opt rfl hg) (ev_opt rfl hg) rfl rfl Tryz.eqGuardType29 (eql_Key _ _ _ _ _ _)) rfl rfl ?_
 iterate 6 refine z ?_
 refine o_callG (gd_bool rfl rfl rfl rfl rfl) rfl rfl Tryz.call54 ok_impl_EqualRecords (fun hg => (as_cons (ev_opt rfl hg) (ag_agg (ag_cons ac_dv ag_nil)) (as_cons (ev_opt rfl hg) (ag_agg (ag_cons ac_dv ag_nil)) as_nil))) rfl rfl ?_
 iterate 12 refine z ?_
 rfl
theorem ok_slices_EqualFunc_Op {x y : List (OpT)}  : PFn Tryz.prog 36 [.one (.dv [] (opsD (x))), .one (.dv [] (opsD (y))), .fn 37 []] (.one (.dv [] (.bool (eqL eqOpB x y)))) := by
 refine ⟨fn_intro Tryz.func36 rfl Tryz.ntmps36 Tryz.results36 rfl (fun C => ?_)⟩
 refine ok_fact (x := .tmp 0) (ev_tmp rfl) fun f0 => ?_
 refine ok_fact (x := .tmp 1) (ev_tmp rfl) fun f1 => ?_
 iterate 11 refine z ?_
 refine yQ rfl (fun c1 => ?_) fun c1 => ?_
 ·skip
  have d1 := nd_t c1
  iterate 6 refine z ?_
  exact (eqL_len d1).symm
 ·skip
  have d1 := nd_f c1
  iterate 9 refine z ?_
  refine ok_loop (ι := Nat) (fun zz => ⟨[(1, .one (.dv [] (opsD (y)))), (2, .fn 37 []), (15, .one (.dv [] (opsD (x)))), (16, .one (.dv [] (.int .i64 ((((x)).length : Int))))), (17, .one (.dv [] (.int .i64 ((zz : Int)))))], [], []⟩) (fun zz => zz ≤ x.length ∧ (List.range zz).all (fun i => eqOpB (x.getD (i : Int).toNat default) (y.getD (i : Int).toNat default)) = true) (fun zz => x.length - zz) (0) ?_ (weak_sub ⟨rfl, rfl, rfl, rfl, rfl, trivial⟩ trivial trivial rfl) (fun zz hx => ?_)
  ·exact ⟨Nat.zero_le _, rfl⟩
  obtain ⟨k, rfl⟩ : ∃ v, v = zz := ⟨_, rfl⟩
  replace hx : k ≤ x.length ∧ (List.range k).all (fun i => eqOpB (x.getD (i : Int).toNat default) (y.getD (i : Int).toNat default)) = true := hx
  obtain ⟨hk, hall⟩ := hx
  show Ok _ _ _ _ _ (⟨[(1, .one (.dv [] (opsD (y)))), (2, .fn 37 []), (15, .one (.dv [] (opsD (x)))), (16, .one (.dv [] (.int .i64 ((((x)).length : Int))))), (17, .one (.dv [] (.int .i64 ((k : Int)))))], [], []⟩ : St)
  iterate 3 refine z ?_
  refine ok_seq ?_
  refine yQ rfl (fun c2 => ?_) fun c2 => ?_
  ·skip
   have d2 := of_decide_eq_true c2
   iterate 24 refine z ?_
   refine o_callV rfl rfl rfl (ev_tmp rfl) Tryz.call37 ok_impl_equalOp (as_cons (ev_tmp rfl) (ag_agg (ag_cons ac_dv (ag_cons ac_dv (ag_cons ac_dv (ag_cons ac_dv (ag_cons ac_dv (ag_cons ac_dv (ag_cons ac_dv ag_nil)))))))) (as_cons (ev_tmp rfl) (ag_agg (ag_cons ac_dv (ag_cons ac_dv (ag_cons ac_dv (ag_cons ac_dv (ag_cons ac_dv (ag_cons ac_dv (ag_cons ac_dv ag_nil)))))))) as_nil)) rfl rfl ?_
   iterate 2 refine z ?_
   refine yQ rfl (fun c3 => ?_) fun c3 => ?_
   ·skip
    iterate 10 refine z ?_
    exact (eqL_no (k := k) (by omega) (by have h := c3; simpa using h)).symm
   ·skip
    iterate 3 refine z ?_
    refine ok_region ?_
    iterate 3 refine z ?_
    refine ⟨k + 1, ?_, ?_, weak_sub ⟨rfl, rfl, rfl, rfl, rfl, trivial⟩ trivial trivial rfl⟩
    ·exact ⟨by omega, rall_succ hall (by have h := c3; simpa using h)⟩
    ·omega
  ·skip
   have d2 := of_decide_eq_false c2
   iterate 10 refine z ?_
   exact (eqL_yes d1 hall (by omega)).symm
theorem ok_impl_EqualOps {x y : List OpT}  : PFn Tryz.prog 13 [.one (.dv [] (opsD (x))), .one (.dv [] (opsD (y)))] (.one (.dv [] (.bool (eqL eqOpB x y)))) := by
 refine ⟨fn_intro Tryz.func13 rfl Tryz.ntmps13 Tryz.results13 rfl (fun C => ?_)⟩
 refine ok_fact (x := .tmp 0) (ev_tmp rfl) fun f0 => ?_
 refine ok_fact (x := .tmp 1) (ev_tmp rfl) fun f1 => ?_
 iterate 6 refine z ?_
 refine o_call rfl rfl rfl Tryz.call36 ok_slices_EqualFunc_Op (as_cons (ev_tmp rfl) (ag_one ac_dv) (as_cons (ev_tmp rfl) (ag_one ac_dv) (as_cons ev_func a_fn as_nil))) rfl rfl ?_
 iterate 4 refine z ?_
 rfl
end Go.Proofs.YtoigmlbidpocnaaGreat

namespace Go.Proofs.YtoigmlbidpocnaaGreat
open Go.RowKit
open Go.Proofs
set_option linter.unusedVariables false
set_option linter.unusedSimpArgs false

def findI {α : Type} (p : α → Bool) : List α → Int → Int
 | [], _ => -1
 | x :: xs, i => if p x then i else findI p xs (i + 1)
theorem findI_skip {α : Type} {p : α → Bool} : ∀ {xs : List α} {k : Nat} {i : Int}, (xs.take k).any p = false → k ≤ xs.length → findI p xs i = findI p (xs.drop k) (i + k)
 | xs, 0, i, _, _ => by simp
 | [], k + 1, i, _, hk => by simp at hk
 | x :: xs, k + 1, i, h, hk => by
  simp only [List.take_succ_cons, List.any_cons, Bool.or_eq_false_iff] at h
  rw [findI, h.1, List.drop_succ_cons]
  simp only [Bool.false_eq_true, if_false]
  rw [findI_skip h.2 (by simpa using hk)]
  congr 1; omega
theorem findI_at {α : Type} {p : α → Bool} {xs : List α} {k : Nat} {d : α} (h : (xs.take k).any p = false) (hk : k < xs.length) (hp : p (xs.getD k d) = true) : findI p xs 0 = (k : Int) := by
 rw [findI_skip h (by omega), List.drop_eq_getElem_cons hk, findI]
 have : p xs[k] = true := by simpa [List.getD, List.getElem?_eq_getElem hk] using hp
 rw [if_pos this]; omega
theorem findI_none {α : Type} {p : α → Bool} {xs : List α} {k : Nat} (h : (xs.take k).any p = false) (hk : k = xs.length) : findI p xs 0 = -1 := by
 rw [findI_skip h (by omega), hk, List.drop_length]; rfl
theorem any_stepI {α : Type} {p : α → Bool} {l : List α} {k : Nat} {d : α} (h : (l.take k).any p = false) (hk : k < l.length) (hp : p (l.getD k d) = false) : (l.take (k + 1)).any p = false := by
 rw [List.take_succ_eq_append_getElem hk, List.any_append, h]
 simp only [List.any_cons, List.any_nil, Bool.or_false, Bool.false_or]
 simpa [List.getD, List.getElem?_eq_getElem hk] using hp
def hasName (n : Str) (s : StoreT) : Bool := sEq s.1 n

theorem ok_spec_FindStore {x : DbT} {n : Str}  : PFn Tryz.prog 97 [.agg [(.dv [] (.str (x.1))), (.dv [] (.int .i64 (x.2.1))), (.dv [] (storesD (x.2.2.1))), (.dv [] (defsD (x.2.2.2)))], .one (.dv [] (.str (n)))] (.one (.dv [] (.int .i64 (findI (hasName n) x.2.2.1 0)))) := by
 refine ⟨fn_intro Tryz.func97 rfl Tryz.ntmps97 Tryz.results97 rfl (fun C => ?_)⟩
 refine yF 0 0 rfl rfl fun f0_0 => ?_
 refine yF 0 1 rfl rfl fun f0_1 => ?_
 refine yF 0 2 rfl rfl fun f0_2 => ?_
 refine yF 0 3 rfl rfl fun f0_3 => ?_
 refine ok_fact (x := .tmp 1) (ev_tmp rfl) fun f1 => ?_
 iterate 9 refine z ?_
 refine ok_loop (ι := Nat) (fun zz => ⟨[(1, .one (.dv [] (.str (n)))), (2, .box 2 0), (5, .one (.dv [] (.int .i64 ((zz : Int)))))], [(2, 73, [(.dv [] (.str (x.1))), (.dv [] (.int .i64 (x.2.1))), (.dv [] (storesD (x.2.2.1))), (.dv [] (defsD (x.2.2.2)))])], []⟩) (fun zz => zz ≤ x.2.2.1.length ∧ (x.2.2.1.take zz).any (hasName n) = false) (fun zz => x.2.2.1.length - zz) (0) ?_ (weak_sub ⟨rfl, rfl, rfl, trivial⟩ ⟨rfl, trivial⟩ trivial rfl) (fun zz hx => ?_)
 ·exact ⟨Nat.zero_le _, rfl⟩
 obtain ⟨k, rfl⟩ : ∃ v, v = zz := ⟨_, rfl⟩
 replace hx : k ≤ x.2.2.1.length ∧ (x.2.2.1.take k).any (hasName n) = false := hx
 obtain ⟨hk, hall⟩ := hx
 show Ok _ _ _ _ _ (⟨[(1, .one (.dv [] (.str (n)))), (2, .box 2 0), (5, .one (.dv [] (.int .i64 ((k : Int)))))], [(2, 73, [(.dv [] (.str (x.1))), (.dv [] (.int .i64 (x.2.1))), (.dv [] (storesD (x.2.2.1))), (.dv [] (defsD (x.2.2.2)))])], []⟩ : St)
 iterate 8 refine z ?_
 refine yQ rfl (fun c1 => ?_) fun c1 => ?_
 ·skip
  have d1 := of_decide_eq_true c1
  iterate 14 refine z ?_
  refine yQ rfl (fun c2 => ?_) fun c2 => ?_
  ·skip
   iterate 11 refine z ?_
   exact (findI_at (p := hasName n) (d := default) hall (by omega) c2).symm
  ·skip
   iterate 3 refine z ?_
   refine ok_region ?_
   iterate 4 refine z ?_
   refine ⟨k + 1, ?_, ?_, weak_sub ⟨rfl, rfl, rfl, trivial⟩ ⟨rfl, trivial⟩ trivial rfl⟩
   ·exact ⟨by omega, any_stepI (d := default) hall (by omega) c2⟩
   ·omega
 ·skip
  have d1 := of_decide_eq_false c1
  iterate 10 refine z ?_
  exact (findI_none (p := hasName n) hall (by omega)).symm
end Go.Proofs.YtoigmlbidpocnaaGreat

namespace Go.Proofs.YtoigmlbidpocnaaGreat
open Go.RowKit
open Go.Proofs
set_option linter.unusedVariables false
set_option linter.unusedSimpArgs false

theorem ok_slices_Equal_byte {x y : List (UInt8)}  : PFn Tryz.prog 44 [.one (.dv [] (bytesD (x))), .one (.dv [] (bytesD (y)))] (.one (.dv [] (.bool (eqL eqByteB x y)))) := by
 refine ⟨fn_intro Tryz.func44 rfl Tryz.ntmps44 Tryz.results44 rfl (fun C => ?_)⟩
 refine ok_fact (x := .tmp 0) (ev_tmp rfl) fun f0 => ?_
 refine ok_fact (x := .tmp 1) (ev_tmp rfl) fun f1 => ?_
 iterate 11 refine z ?_
 refine yQ rfl (fun c1 => ?_) fun c1 => ?_
 ·skip
  have d1 := nd_t c1
  iterate 6 refine z ?_
  exact (eqL_len d1).symm
 ·skip
  have d1 := nd_f c1
  iterate 9 refine z ?_
  refine ok_loop (ι := Nat) (fun zz => ⟨[(0, .one (.dv [] (bytesD (x)))), (1, .one (.dv [] (bytesD (y)))), (12, .one (.dv [] (.int .i64 ((((x)).length : Int))))), (13, .one (.dv [] (.int .i64 ((zz : Int)))))], [], []⟩) (fun zz => zz ≤ x.length ∧ (List.range zz).all (fun i => eqByteB (x.getD (i : Int).toNat default) (y.getD (i : Int).toNat default)) = true) (fun zz => x.length - zz) (0) ?_ (weak_sub ⟨rfl, rfl, rfl, rfl, trivial⟩ trivial trivial rfl) (fun zz hx => ?_)
  ·exact ⟨Nat.zero_le _, rfl⟩
  obtain ⟨k, rfl⟩ : ∃ v, v = zz := ⟨_, rfl⟩
  replace hx : k ≤ x.length ∧ (List.range k).all (fun i => eqByteB (x.getD (i : Int).toNat default) (y.getD (i : Int).toNat default)) = true := hx
  obtain ⟨hk, hall⟩ := hx
  show Ok _ _ _ _ _ (⟨[(0, .one (.dv [] (bytesD (x)))), (1, .one (.dv [] (bytesD (y)))), (12, .one (.dv [] (.int .i64 ((((x)).length : Int))))), (13, .one (.dv [] (.int .i64 ((k : Int)))))], [], []⟩ : St)
  iterate 3 refine z ?_
  refine ok_seq ?_
  refine yQ rfl (fun c2 => ?_) fun c2 => ?_
  ·skip
   have d2 := of_decide_eq_true c2
   iterate 8 refine z ?_
   refine ok_seq ?_
   refine ok_regionD (oB := []) (oK := []) (by kernel_rfl) rfl rfl ?_
   refine zD 0 ?_
   refine zD 1 ?_
   refine zD 2 ?_
   refine zD 3 ?_
   refine zD 4 ?_
   refine zD 5 ?_
   refine zD 6 ?_
   refine zD 7 ?_
   refine zD 8 ?_
   refine d_done (by kernel_rfl) ?_
   refine z ?_
   refine yQ rfl (fun c3 => ?_) fun c3 => ?_
   ·skip
    have d3 := nd_t c3
    iterate 10 refine z ?_
    exact (eqL_no (k := k) (by omega) (by have h := c3; simpa [eqByteB] using h)).symm
   ·skip
    have d3 := nd_f c3
    iterate 3 refine z ?_
    refine ok_region ?_
    iterate 3 refine z ?_
    refine ⟨k + 1, ?_, ?_, weak_sub ⟨rfl, rfl, rfl, rfl, trivial⟩ trivial trivial rfl⟩
    ·exact ⟨by omega, rall_succ hall (by have h := c3; simpa [eqByteB] using h)⟩
    ·omega
  ·skip
   have d2 := of_decide_eq_false c2
   iterate 10 refine z ?_
   exact (eqL_yes d1 hall (by omega)).symm
theorem ok_impl_EqualBytes {x y : List UInt8}  : PFn Tryz.prog 28 [.one (.dv [] (bytesD (x))), .one (.dv [] (bytesD (y)))] (.one (.dv [] (.bool (eqL eqByteB x y)))) := by
 refine ⟨fn_intro Tryz.func28 rfl Tryz.ntmps28 Tryz.results28 rfl (fun C => ?_)⟩
 refine ok_fact (x := .tmp 0) (ev_tmp rfl) fun f0 => ?_
 refine ok_fact (x := .tmp 1) (ev_tmp rfl) fun f1 => ?_
 iterate 6 refine z ?_
 refine zC Tryz.call44 ?_ (hf := ok_slices_Equal_byte)
 iterate 4 refine z ?_
 rfl
end Go.Proofs.YtoigmlbidpocnaaGreat

namespace Go.Proofs.YtoigmlbidpocnaaGreat
open Go.RowKit
open Go.Proofs
set_option linter.unusedVariables false
set_option linter.unusedSimpArgs false

theorem take_getD {α : Type} {q : List α} {n k : Nat} {d : α} (h : k < n) : (q.take n).getD k d = q.getD k d := by simp [List.getD, List.getElem?_take, h]
end Go.Proofs.YtoigmlbidpocnaaGreat

namespace Go.Proofs.YtoigmlbidpocnaaGreat
open Go.RowKit
open Go.Proofs
set_option linter.unusedVariables false
set_option linter.unusedSimpArgs false

def fName (n : Str) (f : FieldT) : Bool := sEq f.1 n
def getF (r : RecT) (n : Str) : Int × Bool := if findI (fName n) r 0 < 0 then (0, false) else ((r.getD (findI (fName n) r 0).toNat default).2, true)
theorem findI_lt {α : Type} {p : α → Bool} : ∀ (xs : List α) (i : Int), 0 ≤ i → findI p xs i < i + xs.length ∨ findI p xs i = -1
 | [], i, h => .inr rfl
 | x :: xs, i, h => by
  rw [findI]
  split
  ·left; simp; omega
  ·rcases findI_lt (p := p) xs (i + 1) (by omega) with h1 | h1
   ·left; simp only [List.length_cons]; omega
   ·exact .inr h1
theorem getF_at {r : RecT} {n : Str} {k : Nat} (h : (r.take k).any (fName n) = false) (hk : k < r.length) (hp : fName n (r.getD k default) = true) : getF r n = ((r.getD (k : Int).toNat default).2, true) := by
 have := findI_at (p := fName n) (d := default) h hk hp
 rw [getF, this, if_neg (by omega)]
theorem getF_none {r : RecT} {n : Str} {k : Nat} (h : (r.take k).any (fName n) = false) (hk : k = r.length) : getF r n = (0, false) := by
 rw [getF, findI_none (p := fName n) h hk]; rfl
theorem item_len (x : ItemT) : x.2.length ≤ wItem x := by unfold wItem wRecord wList; omega
theorem ok_spec_GetField {x : RecT} {n : Str}  : PFn Tryz.prog 110 [.agg [(.dv [] (fieldsD (x)))], .one (.dv [] (.str (n)))] (.tup [(false, [(.dv [] (.int .i64 ((getF x n).1)))]), (false, [(.dv [] (.bool ((getF x n).2)))])]) := by
 refine ⟨fn_intro Tryz.func110 rfl Tryz.ntmps110 Tryz.results110 rfl (fun C => ?_)⟩
 refine yF 0 0 rfl rfl fun f0_0 => ?_
 refine ok_fact (x := .tmp 1) (ev_tmp rfl) fun f1 => ?_
 iterate 10 refine z ?_
 refine ok_loop (ι := Nat) (fun zz => ⟨[(1, .one (.dv [] (.str (n)))), (2, .box 2 0), (6, .one (.dv [] (.int .i64 ((zz : Int)))))], [(2, 32, [(.dv [] (fieldsD (x)))])], []⟩) (fun zz => zz ≤ x.length ∧ (x.take zz).any (fName n) = false) (fun zz => x.length - zz) (0) ?_ (weak_sub ⟨rfl, rfl, rfl, trivial⟩ ⟨rfl, trivial⟩ trivial rfl) (fun zz hx => ?_)
 ·exact ⟨Nat.zero_le _, rfl⟩
 obtain ⟨k, rfl⟩ : ∃ v, v = zz := ⟨_, rfl⟩
 replace hx : k ≤ x.length ∧ (x.take k).any (fName n) = false := hx
 obtain ⟨hk, hall⟩ := hx
 show Ok _ _ _ _ _ (⟨[(1, .one (.dv [] (.str (n)))), (2, .box 2 0), (6, .one (.dv [] (.int .i64 ((k : Int)))))], [(2, 32, [(.dv [] (fieldsD (x)))])], []⟩ : St)
 iterate 8 refine z ?_
 refine yQ rfl (fun c1 => ?_) fun c1 => ?_
 ·skip
  have d1 := of_decide_eq_true c1
  iterate 14 refine z ?_
  refine yQ rfl (fun c2 => ?_) fun c2 => ?_
  ·skip
   iterate 16 refine z ?_
   refine fin2 (res_tmp rfl) (res_tmp rfl) rfl rfl ?_
   rw [getF_at hall (by omega) c2] <;> rfl
  ·skip
   iterate 3 refine z ?_
   refine ok_region ?_
   iterate 4 refine z ?_
   refine ⟨k + 1, ?_, ?_, weak_sub ⟨rfl, rfl, rfl, trivial⟩ ⟨rfl, trivial⟩ trivial rfl⟩
   ·exact ⟨by omega, any_stepI (d := default) hall (by omega) c2⟩
   ·omega
 ·skip
  have d1 := of_decide_eq_false c1
  iterate 10 refine z ?_
  refine fin2 (res_tmp rfl) (res_tmp rfl) rfl rfl ?_
  rw [getF_none hall (by omega)] <;> rfl
theorem ok_spec_l5Copy {x : RecT} (hb : x.length ≤ 1099511627776) : KFn Tryz.prog 93 [.agg [(.dv [] (fieldsD (x)))]] (.agg [(.key 3)]) [(3, some (kcOf false (fieldsD (x))))] := by
 refine ⟨fn_intro Tryz.func93 rfl Tryz.ntmps93 Tryz.results93 rfl (fun C => ?_)⟩
 refine yF 0 0 rfl rfl fun f0_0 => ?_
 iterate 5 refine z ?_
 refine o_build0 (k := 3) hT rfl rfl rfl rfl rfl rfl rfl rfl ?_
 iterate 2 refine z ?_
 refine o_appV (k := 3) (cs := (x).flatMap eField) (n := (x).length) hT rfl rfl rfl rfl rfl rfl rfl (ev_tmp rfl) rfl rfl rfl (ev_tmp rfl) (plain_flat (fun _ => rfl) _) (by first | (dsimp only [kcOf]; omega) | omega) (by first | (dsimp only [kcOf]; omega) | omega) (Nat.zero_add _) (rfl) ?_
 simp only [killT, killB, SV.kill, CV.kill, kk, Nat.reduceBEq]
 refine yO rfl rfl (pu_build hT hB rfl rfl rfl (bp_cons (ev_tmp rfl) rfl rfl rfl rfl rfl bp_nil)) rfl ?_
 iterate 2 refine z ?_
 refine ok_weak (σ' := ⟨[(2, .box 2 0)], [(2, 32, [(.key 3)])], [(3, some (kcOf false (fieldsD (x))))]⟩) (weak_sub ⟨rfl, trivial⟩ ⟨rfl, trivial⟩ ⟨rfl, trivial⟩ rfl) ?_
 refine z ?_
 refine fin1 (res_cell hT rfl rfl rfl rfl) ?_
 exact ⟨rfl, rfl⟩
theorem ok_spec_l6Item {x : ItemT} (hb : x.2.length ≤ 1099511627776) : KFn Tryz.prog 108 [.agg [(.dv [] (.int .i64 (x.1.1))), (.dv [] (.int .i64 (x.1.2.1))), (.dv [] (.str (x.1.2.2))), (.dv [] (fieldsD (x.2)))]] (.agg [(.dv [] (.int .i64 (x.1.1))), (.dv [] (.int .i64 (x.1.2.1))), (.dv [] (.str (x.1.2.2))), (.key 7003)]) [(7003, some (kcOf false (fieldsD (x.2))))] := by
 refine ⟨fn_intro Tryz.func108 rfl Tryz.ntmps108 Tryz.results108 rfl (fun C => ?_)⟩
 refine yF 0 0 rfl rfl fun f0_0 => ?_
 refine yF 0 1 rfl rfl fun f0_1 => ?_
 refine yF 0 2 rfl rfl fun f0_2 => ?_
 refine yF 0 3 rfl rfl fun f0_3 => ?_
 iterate 4 refine z ?_
 refine ok_seq ?_
 refine ok_regionD (oB := [1, 2]) (oK := []) (by kernel_rfl) rfl rfl ?_
 refine zD 0 ?_
 refine zD 1 ?_
 refine zD 2 ?_
 refine zD 3 ?_
 refine d_callK 7000 4 rfl (by kernel_rfl) rfl rfl rfl Tryz.call93 (ok_spec_l5Copy (by omega)) (as_cons (ev_tmp rfl) (ag_agg (ag_cons ac_dv ag_nil)) as_nil) rfl rfl rfl rfl rfl ?_
 refine d_take 5 rfl (by kernel_rfl) rfl rfl (pu_build hT hB rfl rfl rfl (bp_cons (ev_tmp rfl) rfl rfl rfl rfl rfl (bp_cons (ev_tmp rfl) rfl rfl rfl rfl rfl bp_nil))) rfl rfl rfl rfl ?_
 refine d_last 6 rfl (by kernel_rfl) rfl (by kernel_rfl) (ef_storeBox hT rfl rfl rfl (ev_tmp rfl) (ev_tmp rfl) rfl rfl rfl rfl rfl rfl) (by kernel_rfl) ?_
 refine z ?_
 refine ok_weak (σ' := ⟨[(2, .box 2 0)], [(2, 128, [(.dv [] (.int .i64 (x.1.1))), (.dv [] (.int .i64 (x.1.2.1))), (.dv [] (.str (x.1.2.2))), (.key 7003)])], [(7003, some (kcOf false (fieldsD (x.2))))]⟩) (weak_sub ⟨rfl, trivial⟩ ⟨rfl, trivial⟩ ⟨rfl, trivial⟩ rfl) ?_
 refine z ?_
 refine fin1 (res_cell hT rfl rfl rfl rfl) ?_
 exact ⟨rfl, rfl⟩
end Go.Proofs.YtoigmlbidpocnaaGreat

namespace Go.Proofs.YtoigmlbidpocnaaGreat
open Go.RowKit
open Go.Proofs
set_option linter.unusedVariables false
set_option linter.unusedSimpArgs false

theorem eqSlotI {k : IntKind} {a b : Int} (h : a = b) : some (SV.one (CV.dv [] (DV.int k a))) = some (SV.one (CV.dv [] (DV.int k b))) := by rw [h]
theorem getD_at {α : Type} [Inhabited α] {xs : List α} {j : Nat} (h : j < xs.length) : xs.getD (j : Int).toNat default = xs[j] := by simp [List.getD, List.getElem?_eq_getElem h]
end Go.Proofs.YtoigmlbidpocnaaGreat

namespace Go.Proofs.YtoigmlbidpocnaaGreat
open Go.RowKit
open Go.Proofs
set_option linter.unusedVariables false
set_option linter.unusedSimpArgs false

def sgnI (a b : Int) : Int := if a < b then -1 else if b < a then 1 else 0
def cmpK (a b : KeyT) : Int := if !isKey a || !isKey b then 0 else if ¬ a.1 = b.1 then sgnI a.1 b.1 else if ¬ a.2.1 = b.2.1 then sgnI a.2.1 b.2.1 else sgnS a.2.2 b.2.2
def signB (a b : Bool) : Int := if a then -1 else if b then 1 else 0
theorem sgnI_zero {a b : Int} : sgnI a b = 0 ↔ a = b := by unfold sgnI; split <;> (try split) <;> omega
theorem cmpK_bad {a b : KeyT} (h : (!isKey a || !isKey b) = true) : cmpK a b = 0 := by rw [cmpK, if_pos h]
theorem cmpK_kind {a b : KeyT} (h : (!isKey a || !isKey b) = false) (h1 : ¬ a.1 = b.1) : cmpK a b = sgnI a.1 b.1 := by rw [cmpK, if_neg (by rw [h]; simp), if_pos h1]
theorem cmpK_num {a b : KeyT} (h : (!isKey a || !isKey b) = false) (h1 : a.1 = b.1) (h2 : ¬ a.2.1 = b.2.1) : cmpK a b = sgnI a.2.1 b.2.1 := by rw [cmpK, if_neg (by rw [h]; simp), if_neg (by simp [h1]), if_pos h2]
theorem cmpK_text {a b : KeyT} (h : (!isKey a || !isKey b) = false) (h1 : a.1 = b.1) (h2 : a.2.1 = b.2.1) : cmpK a b = sgnS a.2.2 b.2.2 := by rw [cmpK, if_neg (by rw [h]; simp), if_neg (by simp [h1]), if_neg (by simp [h2])]
theorem sLe_not (a b : Str) : (!(sLt a b || sEq a b)) = sLt b a := by rw [sLe_eq, Bool.not_not]
theorem sgnI_swap (a b : Int) : sgnI a b = - sgnI b a := by unfold sgnI; split <;> split <;> (try split) <;> omega
theorem sgnS_swap (a b : Str) : sgnS a b = - sgnS b a := by
 unfold sgnS
 cases h1 : sLt a b <;> cases h2 : sLt b a <;> simp
 have h := sLe_eq a b
 rw [h1, h2] at h
 simp at h
theorem cmpK_swap (a b : KeyT) : cmpK a b = - cmpK b a := by
 by_cases h : (!isKey a || !isKey b) = true
 ·rw [cmpK_bad h, cmpK_bad (by rw [Bool.or_comm]; exact h)]; rfl
 ·have h : (!isKey a || !isKey b) = false := by simpa using h
  have h' : (!isKey b || !isKey a) = false := by rw [Bool.or_comm]; exact h
  by_cases h1 : a.1 = b.1
  ·by_cases h2 : a.2.1 = b.2.1
   ·rw [cmpK_text h h1 h2, cmpK_text h' h1.symm h2.symm, sgnS_swap]
   ·rw [cmpK_num h h1 h2, cmpK_num h' h1.symm (fun e => h2 e.symm), sgnI_swap]
  ·rw [cmpK_kind h h1, cmpK_kind h' (fun e => h1 e.symm), sgnI_swap]
theorem ok_spec_l4Sign {x y : Bool}  : PFn Tryz.prog 107 [.one (.dv [] (.bool (x))), .one (.dv [] (.bool (y)))] (.one (.dv [] (.int .i64 (signB x y)))) := by
 refine ⟨fn_intro Tryz.func107 rfl Tryz.ntmps107 Tryz.results107 rfl (fun C => ?_)⟩
 iterate 7 refine z ?_
 refine yQ rfl (fun c1 => ?_) fun c1 => ?_
 ·skip
  iterate 6 refine z ?_
  rw [signB, if_pos c1]
 ·skip
  iterate 6 refine z ?_
  refine yQ rfl (fun c2 => ?_) fun c2 => ?_
  ·skip
   iterate 6 refine z ?_
   rw [signB, if_neg (by rw [c1]; simp), if_pos c2]
  ·skip
   iterate 7 refine z ?_
   rw [signB, if_neg (by rw [c1]; simp), if_neg (by rw [c2]; simp)]
theorem ok_spec_CompareKeys {x y : KeyT}  : PFn Tryz.prog 101 [.agg [(.dv [] (.int .i64 (x.1))), (.dv [] (.int .i64 (x.2.1))), (.dv [] (.str (x.2.2)))], .agg [(.dv [] (.int .i64 (y.1))), (.dv [] (.int .i64 (y.2.1))), (.dv [] (.str (y.2.2)))]] (.one (.dv [] (.int .i64 (cmpK x y)))) := by
 refine ⟨fn_intro Tryz.func101 rfl Tryz.ntmps101 Tryz.results101 rfl (fun C => ?_)⟩
 refine yF 0 0 rfl rfl fun f0_0 => ?_
 refine yF 0 1 rfl rfl fun f0_1 => ?_
 refine yF 0 2 rfl rfl fun f0_2 => ?_
 refine yF 1 0 rfl rfl fun f1_0 => ?_
 refine yF 1 1 rfl rfl fun f1_1 => ?_
 refine yF 1 2 rfl rfl fun f1_2 => ?_
 iterate 8 refine z ?_
 refine zC Tryz.call8 ?_ (hf := ok_spec_IsKey)
 iterate 3 refine z ?_
 refine o_callG (gd_bool rfl rfl rfl rfl rfl) rfl rfl Tryz.call8 ok_spec_IsKey (fun hg => (as_cons (ev_opt rfl hg) (ag_agg (ag_cons ac_dv (ag_cons ac_dv (ag_cons ac_dv ag_nil)))) as_nil)) rfl rfl ?_
 iterate 3 refine z ?_
 refine yQ rfl (fun c1 => ?_) fun c1 => ?_
 ·skip
  iterate 6 refine z ?_
  rw [cmpK_bad c1]
 ·skip
  iterate 10 refine z ?_
  refine yQ rfl (fun c2 => ?_) fun c2 => ?_
  ·skip
   have d2 := nd_t c2
   iterate 6 refine z ?_
   refine zC Tryz.call107 ?_ (hf := ok_spec_l4Sign)
   iterate 5 refine z ?_
   rw [cmpK_kind c1 d2]; unfold signB sgnI; split <;> split <;> simp_all <;> omega
  ·skip
   have d2 := nd_f c2
   iterate 10 refine z ?_
   refine yQ rfl (fun c3 => ?_) fun c3 => ?_
   ·skip
    have d3 := nd_t c3
    iterate 6 refine z ?_
    refine zC Tryz.call107 ?_ (hf := ok_spec_l4Sign)
    iterate 5 refine z ?_
    rw [cmpK_num c1 d2 d3]; unfold signB sgnI; split <;> split <;> simp_all <;> omega
   ·skip
    have d3 := nd_f c3
    iterate 13 refine z ?_
    refine zC Tryz.call107 ?_ (hf := ok_spec_l4Sign)
    iterate 4 refine z ?_
    rw [cmpK_text c1 d2 d3, sLe_not]; unfold signB sgnS; rfl
end Go.Proofs.YtoigmlbidpocnaaGreat

namespace Go.Proofs.YtoigmlbidpocnaaGreat
open Go.RowKit
open Go.Proofs
set_option linter.unusedVariables false
set_option linter.unusedSimpArgs false

def bef (f : Str) (a b : ItemT) : Bool := decide ((getF a.2 f).1 < (getF b.2 f).1) || (decide ((getF a.2 f).1 = (getF b.2 f).1) && decide (cmpK a.1 b.1 < 0))
def posD (f : Str) (x : ItemT) (o : List ItemT) : Nat → Nat
 | 0 => 0
 | k + 1 => if bef f x (o.getD k default) then posD f x o k else k + 1
def insI (o : List ItemT) (j : Nat) (y : ItemT) : List ItemT := o.take j ++ [y] ++ o.drop j
def idxN (f : Str) (its : List ItemT) : Nat → List ItemT
 | 0 => []
 | k + 1 => if (getF (its.getD (k : Int).toNat default).2 f).2 then insI (idxN f its k) (posD f (its.getD (k : Int).toNat default) (idxN f its k) (idxN f its k).length) (its.getD (k : Int).toNat default) else idxN f its k
theorem insI_len {o : List ItemT} {j : Nat} {y : ItemT} : (insI o j y).length = o.length + 1 := by simp only [insI, List.length_append, List.length_take, List.length_drop, List.length_singleton]; omega
theorem idxN_len (f : Str) (its : List ItemT) : ∀ k, (idxN f its k).length ≤ k
 | 0 => Nat.le_refl _
 | k + 1 => by have := idxN_len f its k; rw [idxN]; split <;> (try rw [insI_len]) <;> omega
theorem idxN_yes {f : Str} {its : List ItemT} {k : Nat} (h : (getF (its.getD (k : Int).toNat default).2 f).2 = true) : idxN f its (k + 1) = insI (idxN f its k) (posD f (its.getD (k : Int).toNat default) (idxN f its k) (idxN f its k).length) (its.getD (k : Int).toNat default) := by rw [idxN, if_pos h]
theorem idxN_no {f : Str} {its : List ItemT} {k : Nat} (h : (getF (its.getD (k : Int).toNat default).2 f).2 = false) : idxN f its k = idxN f its (k + 1) := by rw [idxN, if_neg (by rw [h]; simp)]
theorem posD_step {f : Str} {x : ItemT} {o : List ItemT} {j : Nat} (h : (decide (0 < (j : Int)) && bef f x (o.getD ((j : Int) - 1).toNat default)) = true) : 0 < j ∧ posD f x o j = posD f x o (j - 1) := by
 obtain ⟨h1, h2⟩ := (Bool.and_eq_true _ _ ▸ h : _ ∧ _)
 have h1 := of_decide_eq_true h1
 cases j with
 | zero => simp at h1
 | succ k =>
  have e : (((k + 1 : Nat) : Int) - 1).toNat = k := by omega
  rw [e] at h2
  exact ⟨by omega, by rw [posD, if_pos h2]; rfl⟩
theorem posD_stop {f : Str} {x : ItemT} {o : List ItemT} {j : Nat} (h : (decide (0 < (j : Int)) && bef f x (o.getD ((j : Int) - 1).toNat default)) = false) : posD f x o j = j := by
 cases j with
 | zero => rfl
 | succ k =>
  have e : (((k + 1 : Nat) : Int) - 1).toNat = k := by omega
  rw [e, decide_eq_true (by omega : (0 : Int) < ((k + 1 : Nat) : Int)), Bool.true_and] at h
  rw [posD, if_neg (by rw [h]; simp)]
theorem take_flat {α : Type} {enc : α → List DV} {sz : Nat} (hs : ∀ x, (enc x).length = sz) : ∀ (n : Nat) (xs : List α), (xs.flatMap enc).take (n * sz) = (xs.take n).flatMap enc ∧ (xs.flatMap enc).drop (n * sz) = (xs.drop n).flatMap enc
 | 0, xs => by simp
 | n + 1, [] => by simp
 | n + 1, x :: xs => by
  obtain ⟨h1, h2⟩ := take_flat hs n xs
  rw [List.flatMap_cons, Nat.add_mul, Nat.one_mul, Nat.add_comm (n * sz) sz, ← hs x, List.take_length_add_append, List.take_succ_cons, List.flatMap_cons, hs x, h1, List.drop_succ_cons, ← h2]
  exact ⟨rfl, by rw [← hs x, List.drop_length_add_append]⟩
theorem sub_lo {o : List ItemT} {j : Nat} : ([] : List DV) ++ sub (0 * 4) ((((j : Nat) : Int).toNat - 0) * 4) (o.flatMap eItem) = (o.take j).flatMap eItem := by
 obtain ⟨h1, h2⟩ := take_flat (enc := eItem) (sz := 4) (fun _ => rfl) j o
 rw [Int.toNat_natCast, Nat.sub_zero, Nat.zero_mul, sub, List.drop_zero, List.nil_append, h1]
theorem holed_lo {o : List ItemT} {j : Nat} : holed (o.flatMap eItem) (0 * 4) ((((j : Nat) : Int).toNat - 0) * 4) = List.replicate (j * 4) .hole ++ (o.drop j).flatMap eItem := by
 obtain ⟨h1, h2⟩ := take_flat (enc := eItem) (sz := 4) (fun _ => rfl) j o
 rw [Int.toNat_natCast, Nat.sub_zero, Nat.zero_mul, holed, List.drop_zero, h2]; rfl
theorem sub_hi {o : List ItemT} {j : Nat} {el : ItemT} (hj : j ≤ o.length) : (o.take j ++ [el]).flatMap eItem ++ sub (((j : Nat) : Int).toNat * 4) ((o.length - ((j : Nat) : Int).toNat) * 4) (List.replicate (j * 4) .hole ++ (o.drop j).flatMap eItem) = (insI o j el).flatMap eItem := by
 have hl : ((o.drop j).flatMap eItem).length = (o.length - j) * 4 := by
  have : ∀ l : List ItemT, (l.flatMap eItem).length = l.length * 4 := fun l => by
   induction l with
   | nil => rfl
   | cons x l ih => rw [List.flatMap_cons, List.length_append, ih, List.length_cons]; show 4 + l.length * 4 = (l.length + 1) * 4; omega
  rw [this, List.length_drop]
 have e : (List.replicate (j * 4) DV.hole ++ (o.drop j).flatMap eItem).drop (j * 4) = (o.drop j).flatMap eItem := by
  have h := List.drop_left (l₁ := List.replicate (j * 4) DV.hole) (l₂ := (o.drop j).flatMap eItem)
  rwa [List.length_replicate] at h
 rw [Int.toNat_natCast, sub, e, List.take_of_length_le (l := (o.drop j).flatMap eItem) (by rw [hl]; exact Nat.le_refl _)]
 simp only [insI, List.flatMap_append]

theorem ok_spec_l7Less {x y : ItemT} {f : Str}  : PFn Tryz.prog 111 [.agg [(.dv [] (.int .i64 (x.1.1))), (.dv [] (.int .i64 (x.1.2.1))), (.dv [] (.str (x.1.2.2))), (.dv [] (fieldsD (x.2)))], .agg [(.dv [] (.int .i64 (y.1.1))), (.dv [] (.int .i64 (y.1.2.1))), (.dv [] (.str (y.1.2.2))), (.dv [] (fieldsD (y.2)))], .one (.dv [] (.str (f)))] (.one (.dv [] (.bool (bef f x y)))) := by
 refine ⟨fn_intro Tryz.func111 rfl Tryz.ntmps111 Tryz.results111 rfl (fun C => ?_)⟩
 refine yF 0 0 rfl rfl fun f0_0 => ?_
 refine yF 0 1 rfl rfl fun f0_1 => ?_
 refine yF 0 2 rfl rfl fun f0_2 => ?_
 refine yF 0 3 rfl rfl fun f0_3 => ?_
 refine yF 1 0 rfl rfl fun f1_0 => ?_
 refine yF 1 1 rfl rfl fun f1_1 => ?_
 refine yF 1 2 rfl rfl fun f1_2 => ?_
 refine yF 1 3 rfl rfl fun f1_3 => ?_
 refine ok_fact (x := .tmp 2) (ev_tmp rfl) fun f2 => ?_
 iterate 9 refine z ?_
 refine zC Tryz.call110 ?_ (hf := ok_spec_GetField)
 iterate 10 refine z ?_
 refine zC Tryz.call110 ?_ (hf := ok_spec_GetField)
 iterate 19 refine z ?_
 refine o_callG (gd_opt rfl rfl rfl rfl rfl) rfl rfl Tryz.call101 ok_spec_CompareKeys (fun hg => (as_cons (ev_opt rfl hg) (ag_agg (ag_cons ac_dv (ag_cons ac_dv (ag_cons ac_dv ag_nil)))) (as_cons (ev_opt rfl hg) (ag_agg (ag_cons ac_dv (ag_cons ac_dv (ag_cons ac_dv ag_nil)))) as_nil))) rfl rfl ?_
 iterate 7 refine z ?_
 unfold bef; grind
theorem ok_spec_IndexOn {x : StoreT} {f : Str} (hb : wStore x ≤ 1048576) : KFn Tryz.prog 109 [.agg [(.dv [] (.str (x.1))), (.dv [] (itemsD (x.2.1))), (.dv [] (.int .i64 (x.2.2)))], .one (.dv [] (.str (f)))] (.one (.key 11)) [(11, some (kcOf false (itemsD (idxN f x.2.1 x.2.1.length))))] := by
 refine ⟨fn_intro Tryz.func109 rfl Tryz.ntmps109 Tryz.results109 rfl (fun C => ?_)⟩
 refine yF 0 0 rfl rfl fun f0_0 => ?_
 refine yF 0 1 rfl rfl fun f0_1 => ?_
 refine yF 0 2 rfl rfl fun f0_2 => ?_
 refine ok_fact (x := .tmp 1) (ev_tmp rfl) fun f1 => ?_
 iterate 5 refine z ?_
 refine o_build0 (k := 11) hT rfl rfl rfl rfl rfl rfl rfl rfl ?_
 iterate 7 refine z ?_
 refine ok_loop (ι := Nat) (fun zz => ⟨[(1, .one (.dv [] (.str (f)))), (2, .box 2 0), (4, .one .nil), (5, .one (.key 11)), (6, .one (.dv [] (.int .i64 ((zz : Int)))))], [(2, 110, [(.dv [] (.str (x.1))), (.dv [] (itemsD (x.2.1))), (.dv [] (.int .i64 (x.2.2)))])], [(11, some (kcOf false (.sl 128 4 ((idxN f x.2.1 zz).length) ((idxN f x.2.1 zz).flatMap eItem))))]⟩) (fun zz => zz ≤ x.2.1.length) (fun zz => x.2.1.length - zz) (0) ?_ (weak_sub ⟨rfl, rfl, rfl, rfl, rfl, trivial⟩ ⟨rfl, trivial⟩ ⟨rfl, trivial⟩ rfl) (fun zz hx => ?_)
 ·exact Nat.zero_le _
 obtain ⟨k, rfl⟩ : ∃ v, v = zz := ⟨_, rfl⟩
 replace hx : k ≤ x.2.1.length := hx
 have hw := fun h => wSum_succ wItem x.2.1 k h
 have hol := idxN_len f x.2.1 k
 show Ok _ _ _ _ _ (⟨[(1, .one (.dv [] (.str (f)))), (2, .box 2 0), (4, .one .nil), (5, .one (.key 11)), (6, .one (.dv [] (.int .i64 ((k : Int)))))], [(2, 110, [(.dv [] (.str (x.1))), (.dv [] (itemsD (x.2.1))), (.dv [] (.int .i64 (x.2.2)))])], [(11, some (kcOf false (.sl 128 4 ((idxN f x.2.1 k).length) ((idxN f x.2.1 k).flatMap eItem))))]⟩ : St)
 iterate 8 refine z ?_
 refine yQ rfl (fun c1 => ?_) fun c1 => ?_
 ·skip
  have d1 := of_decide_eq_true c1
  have hk2 : k < x.2.1.length := by omega
  have hlen : x.2.1.length ≤ 1048576 := by have h3 : wStore x = x.1.size + (x.2.1.length + wSum wItem x.2.1) := rfl; omega
  have hrec : wItem (x.2.1.getD (k : Int).toNat default) ≤ 1099511627776 := by have := hw hk2; have h3 : wStore x = x.1.size + (x.2.1.length + wSum wItem x.2.1) := rfl; omega
  iterate 13 refine z ?_
  refine zC Tryz.call110 ?_ (hf := ok_spec_GetField)
  iterate 10 refine z ?_
  refine yQ rfl (fun c2 => ?_) fun c2 => ?_
  ·skip
   iterate 4 refine z ?_
   refine ok_region ?_
   iterate 4 refine z ?_
   refine ⟨k + 1, ?_, ?_, weak_sub ⟨rfl, rfl, rfl, rfl, rfl, trivial⟩ ⟨rfl, trivial⟩ ⟨(congrArg (fun l : List ItemT => some (some (KC.mk false 128 4 l.length (l.flatMap eItem)))) (idxN_no (by simpa using c2))), trivial⟩ rfl⟩
   ·omega
   ·omega
  ·skip
   iterate 4 refine z ?_
   refine yO rfl rfl (pu_lenKn (n := ((idxN f x.2.1 k).length)) hT rfl rfl (ev_tmp rfl) rfl rfl) rfl ?_
   iterate 4 refine z ?_
   refine ok_loop (ι := Nat) (fun zz => ⟨[(1, .one (.dv [] (.str (f)))), (2, .box 2 0), (4, .one .nil), (5, .one (.key 11)), (6, .one (.dv [] (.int .i64 ((k : Int))))), (9, .one (.dv [] (.int .i64 ((zz : Int)))))], [(2, 110, [(.dv [] (.str (x.1))), (.dv [] (itemsD (x.2.1))), (.dv [] (.int .i64 (x.2.2)))])], [(11, some (kcOf false (.sl 128 4 ((idxN f x.2.1 k).length) ((idxN f x.2.1 k).flatMap eItem))))]⟩) (fun zz => zz ≤ (idxN f x.2.1 k).length ∧ posD f (x.2.1.getD (k : Int).toNat default) (idxN f x.2.1 k) (idxN f x.2.1 k).length = posD f (x.2.1.getD (k : Int).toNat default) (idxN f x.2.1 k) zz) (fun zz => zz) ((idxN f x.2.1 k).length) ?_ (weak_sub ⟨rfl, rfl, rfl, rfl, rfl, rfl, trivial⟩ ⟨rfl, trivial⟩ ⟨rfl, trivial⟩ rfl) (fun zz hx => ?_)
   ·exact ⟨Nat.le_refl _, rfl⟩
   obtain ⟨j, rfl⟩ : ∃ v, v = zz := ⟨_, rfl⟩
   replace hx : j ≤ (idxN f x.2.1 k).length ∧ posD f (x.2.1.getD (k : Int).toNat default) (idxN f x.2.1 k) (idxN f x.2.1 k).length = posD f (x.2.1.getD (k : Int).toNat default) (idxN f x.2.1 k) j := hx
   obtain ⟨hj, hp⟩ := hx
   show Ok _ _ _ _ _ (⟨[(1, .one (.dv [] (.str (f)))), (2, .box 2 0), (4, .one .nil), (5, .one (.key 11)), (6, .one (.dv [] (.int .i64 ((k : Int))))), (9, .one (.dv [] (.int .i64 ((j : Int)))))], [(2, 110, [(.dv [] (.str (x.1))), (.dv [] (itemsD (x.2.1))), (.dv [] (.int .i64 (x.2.2)))])], [(11, some (kcOf false (.sl 128 4 ((idxN f x.2.1 k).length) ((idxN f x.2.1 k).flatMap eItem))))]⟩ : St)
   refine ok_seq ?_
   refine ok_seq ?_
   refine ok_regionD (oB := [2]) (oK := [11]) (by kernel_rfl) rfl rfl ?_
   refine zD 0 ?_
   refine zD 1 ?_
   refine zD 2 ?_
   refine zDG 3 ?_
   refine zDG 4 ?_
   refine zDG 5 ?_
   refine zDG 6 ?_
   refine zDG 7 ?_
   refine d_takeG 8 rfl (by kernel_rfl) (gd_bool rfl rfl rfl rfl rfl) rfl (fun hg => pu_move (v := .one (.dv [11] (itemsD (idxN f x.2.1 k)))) (.inl rfl) (ev_keyv' (ev_tmp rfl) rfl rfl)) rfl rfl rfl rfl ?_
   refine zDG 9 ?_
   refine zDG 10 ?_
   refine zDG 11 ?_
   refine zDG 12 ?_
   refine zDG 13 ?_
   refine d_callG 14 rfl (by kernel_rfl) (gd_bool rfl rfl rfl rfl rfl) rfl rfl Tryz.call111 ok_spec_l7Less (fun hg => (as_cons (ev_opt rfl hg) (ag_agg (ag_cons ac_dv (ag_cons ac_dv (ag_cons ac_dv (ag_cons ac_dv ag_nil))))) (as_cons (ev_opt rfl hg) (ag_agg (ag_cons ac_dv (ag_cons ac_dv (ag_cons ac_dv (ag_cons ac_dv ag_nil))))) (as_cons (ev_opt rfl hg) (ag_one ac_dv) as_nil)))) rfl rfl ?_
   refine zD 15 ?_
   refine d_done (by kernel_rfl) ?_
   refine z ?_
   refine yQ rfl (fun c3 => ?_) fun c3 => ?_
   ·skip
    have hst := posD_step c3
    have hst1 := hst.1
    iterate 3 refine z ?_
    refine ok_region ?_
    iterate 3 refine z ?_
    refine ops_nil ?_
    iterate 2 refine z ?_
    refine ⟨j - 1, ?_, ?_, weak_sub ⟨rfl, rfl, rfl, rfl, rfl, (congrArg (fun z : Int => some (SV.one (CV.dv [] (DV.int .i64 z)))) (show ((j : Int) - 1) = ((j - 1 : Nat) : Int) by omega)), trivial⟩ ⟨rfl, trivial⟩ ⟨rfl, trivial⟩ rfl⟩
    ·exact ⟨by omega, hp.trans hst.2⟩
    ·omega
   ·skip
    have hpos := hp.trans (posD_stop c3)
    iterate 6 refine z ?_
    refine o_build0 (k := 52) hT rfl rfl rfl rfl rfl rfl rfl rfl ?_
    iterate 2 refine z ?_
    refine o_appSub (k := 52) (j := 11) (s := 5) (n := ((idxN f x.2.1 k).take j).length) (cs := ((idxN f x.2.1 k).take j).flatMap eItem) (c2s := List.replicate (j * 4) .hole ++ ((idxN f x.2.1 k).drop j).flatMap eItem) hT rfl rfl rfl (sl_h hT rfl rfl rfl (ev_tmp rfl) rfl (ev_tmp rfl) (by omega) (by dsimp only [kcOf]; omega)) rfl rfl rfl rfl rfl rfl rfl (ev_tmp rfl) rfl rfl rfl rfl rfl rfl (by decide) rfl rfl ⟨rfl, rfl⟩ (by omega) (by dsimp only [kcOf]; omega) (by dsimp only [kcOf]; omega) (by dsimp only [kcOf]; omega) (by rw [List.length_take, Nat.min_eq_left (by omega)]; simp) (sub_lo) (holed_lo) ?_
    simp only [killT, killB, SV.kill, CV.kill, kk, Nat.reduceBEq]
    iterate 9 refine z ?_
    refine zK 63000 Tryz.call108 ?_ (hf := ok_spec_l6Item (by first | omega | exact Nat.le_trans (item_len _) hrec | exact Nat.le_trans (item_len _) (Nat.le_trans hrec (by decide))))
    refine o_build1 (k := 64) (js := [70003]) hT rfl rfl rfl rfl rfl rfl rfl rfl rfl (ev_tmp rfl) rfl rfl (ow_cons' (ow_dv rfl) (ow_cons' (ow_dv rfl) (ow_cons' (ow_dv rfl) (ow_cons' (ow_key rfl) ow_nil rfl) rfl) rfl) rfl) (by decide) (by decide) rfl rfl ?_
    simp only [killT, killB, SV.kill, CV.kill, kk, Nat.reduceBEq]
    refine o_appK (k := 52) (j := 64) (cs := ((idxN f x.2.1 k).take j ++ [(x.2.1.getD (k : Int).toNat default)]).flatMap eItem) (n := ((idxN f x.2.1 k).take j ++ [(x.2.1.getD (k : Int).toNat default)]).length) hT rfl rfl rfl rfl rfl rfl rfl (ev_tmp rfl) rfl rfl rfl (ev_tmp rfl) rfl rfl (by decide) (by dsimp only [kcOf]; simp only [List.length_take]; omega) (by dsimp only [kcOf]; simp only [List.length_take]; omega) (by simp) (by rw [List.flatMap_append]; rfl) ?_
    simp only [killT, killB, SV.kill, CV.kill, kk, Nat.reduceBEq]
    iterate 2 refine z ?_
    refine ok_region ?_
    iterate 3 refine z ?_
    refine o_appSub (k := 52) (j := 11) (s := 5) (n := (idxN f x.2.1 (k + 1)).length) (cs := (idxN f x.2.1 (k + 1)).flatMap eItem) (c2s := _) hT rfl rfl rfl (sl_l hT rfl rfl rfl (ev_tmp rfl) rfl (ev_tmp rfl) (by omega) (by dsimp only [kcOf]; omega)) rfl rfl rfl rfl rfl rfl rfl (ev_tmp rfl) rfl rfl rfl rfl rfl rfl (by decide) rfl rfl ⟨rfl, rfl⟩ (by dsimp only [kcOf]; omega) (by dsimp only [kcOf]; omega) (by dsimp only [kcOf]; simp only [List.length_append, List.length_take, List.length_singleton]; omega) (by dsimp only [kcOf]; simp only [List.length_append, List.length_take, List.length_singleton]; omega) (by rw [idxN_yes (by simpa using c2), insI_len]; simp; omega) (by rw [idxN_yes (by simpa using c2), hpos]; exact sub_hi hj) (rfl) ?_
    simp only [killT, killB, SV.kill, CV.kill, kk, Nat.reduceBEq]
    refine z ?_
    refine ops_nil ?_
    iterate 2 refine z ?_
    refine ok_weak (weak_swap (s := 5) (k := 52) (k' := 11) rfl rfl rfl (by decide) rfl) ?_
    simp only [killT, killB, SV.kill, CV.kill, kk, Nat.reduceBEq]
    refine ok_region ?_
    iterate 4 refine z ?_
    refine ⟨k + 1, ?_, ?_, weak_sub ⟨rfl, rfl, rfl, rfl, rfl, trivial⟩ ⟨rfl, trivial⟩ ⟨rfl, trivial⟩ rfl⟩
    ·omega
    ·omega
 ·skip
  have d1 := of_decide_eq_false c1
  iterate 9 refine z ?_
  refine ok_weak (σ' := ⟨[(4, .one (.key 11))], [], [(11, some (kcOf false (itemsD (idxN f x.2.1 x.2.1.length))))]⟩) (weak_sub ⟨rfl, trivial⟩ trivial ⟨(congrArg (fun m : Nat => some (some (KC.mk false 128 4 (idxN f x.2.1 m).length ((idxN f x.2.1 m).flatMap eItem)))) (show k = x.2.1.length by omega)), trivial⟩ rfl) ?_
  refine z ?_
  refine fin1 (res_tmp rfl) ?_
  exact ⟨rfl, rfl⟩
end Go.Proofs.YtoigmlbidpocnaaGreat

namespace Go.Proofs.YtoigmlbidpocnaaGreat
open Go.RowKit
open Go.Proofs
set_option linter.unusedVariables false
set_option linter.unusedSimpArgs false

def sameF (f : Str) (l : List ItemT) (k : Nat) : Bool := decide ((getF (l.getD (k - 1) default).2 f).1 = (getF (l.getD k default).2 f).1)
def ufN (f : Str) (l : List ItemT) : Nat → Option Nat
 | 0 => none
 | k + 1 => (ufN f l k).or (if 1 ≤ k ∧ sameF f l k = true then some k else none)
def ufRes (f : Str) (l : List ItemT) : KeyT × KeyT × Bool := match ufN f l l.length with
 | some m => ((l.getD (m - 1) default).1, (l.getD m default).1, true)
 | none => ((0, 0, ByteArray.empty), (0, 0, ByteArray.empty), false)
theorem ufN_mono {f : Str} {l : List ItemT} {k m : Nat} (h : ufN f l k = some m) : ∀ d, ufN f l (k + d) = some m
 | 0 => h
 | d + 1 => by rw [← Nat.add_assoc, ufN, ufN_mono h d]; rfl
theorem uf_hit {f : Str} {l : List ItemT} {k : Nat} (h : ufN f l k = none) (h1 : 1 ≤ k) (hk : k < l.length) (hs : sameF f l k = true) : ufRes f l = ((l.getD (k - 1) default).1, (l.getD k default).1, true) := by
 have h2 : ufN f l (k + 1) = some k := by rw [ufN, h, if_pos ⟨h1, hs⟩]; rfl
 have h3 := ufN_mono h2 (l.length - (k + 1))
 rw [show k + 1 + (l.length - (k + 1)) = l.length by omega] at h3
 rw [ufRes, h3]
theorem uf_no {f : Str} {l : List ItemT} (h : ufN f l l.length = none) : ufRes f l = ((0, 0, ByteArray.empty), (0, 0, ByteArray.empty), false) := by rw [ufRes, h]
theorem uf_step {f : Str} {l : List ItemT} {k : Nat} (h : ufN f l k = none) (hs : sameF f l k = false) : ufN f l (k + 1) = none := by rw [ufN, h, if_neg (by rw [hs]; simp)]; rfl
theorem same_of {f : Str} {l : List ItemT} {k : Nat} (h1 : 1 ≤ k) : (getF (l.getD ((k : Int) - 1).toNat default).2 f).1 = (getF (l.getD (k : Int).toNat default).2 f).1 ↔ sameF f l k = true := by
 rw [show ((k : Int) - 1).toNat = k - 1 by omega, Int.toNat_natCast, sameF, decide_eq_true_iff]
theorem same_not {f : Str} {l : List ItemT} {k : Nat} (h1 : 1 ≤ k) (h : ¬ (getF (l.getD ((k : Int) - 1).toNat default).2 f).1 = (getF (l.getD (k : Int).toNat default).2 f).1) : sameF f l k = false := by
 rw [same_of h1] at h; simpa using h
theorem uf_end {f : Str} {l : List ItemT} {k : Nat} (hu : ufN f l k = none) (hk : k ≤ 1 ∨ k ≤ l.length) (h : ¬ (k : Int) < (l.length : Int)) : ufN f l l.length = none := by
 by_cases e : l.length = k
 ·rw [e]; exact hu
 ·have : l.length = 0 := by omega
  rw [this]; rfl

theorem ok_spec_UniqueFault {x : StoreT} {f : Str} (hb : wStore x ≤ 1048576) : PFn Tryz.prog 106 [.agg [(.dv [] (.str (x.1))), (.dv [] (itemsD (x.2.1))), (.dv [] (.int .i64 (x.2.2)))], .one (.dv [] (.str (f)))] (.tup [(true, [(.dv [] (.int .i64 ((ufRes f (idxN f x.2.1 x.2.1.length)).1.1))), (.dv [] (.int .i64 ((ufRes f (idxN f x.2.1 x.2.1.length)).1.2.1))), (.dv [] (.str ((ufRes f (idxN f x.2.1 x.2.1.length)).1.2.2)))]), (true, [(.dv [] (.int .i64 ((ufRes f (idxN f x.2.1 x.2.1.length)).2.1.1))), (.dv [] (.int .i64 ((ufRes f (idxN f x.2.1 x.2.1.length)).2.1.2.1))), (.dv [] (.str ((ufRes f (idxN f x.2.1 x.2.1.length)).2.1.2.2)))]), (false, [(.dv [] (.bool ((ufRes f (idxN f x.2.1 x.2.1.length)).2.2)))])]) := by
 refine ⟨fn_intro Tryz.func106 rfl Tryz.ntmps106 Tryz.results106 rfl (fun C => ?_)⟩
 refine yF 0 0 rfl rfl fun f0_0 => ?_
 refine yF 0 1 rfl rfl fun f0_1 => ?_
 refine yF 0 2 rfl rfl fun f0_2 => ?_
 refine ok_fact (x := .tmp 1) (ev_tmp rfl) fun f1 => ?_
 iterate 9 refine z ?_
 refine zK 0 Tryz.call109 ?_ (hf := ok_spec_IndexOn (by omega))
 iterate 7 refine z ?_
 refine ok_loop (ι := Nat) (fun zz => ⟨[(1, .one (.dv [] (.str (f)))), (4, .box 4 0), (5, .box 5 0), (7, .one (.key 11)), (8, .one (.dv [] (.int .i64 ((zz : Int)))))], [(4, 29, [(.dv [] (.int .i64 (0))), (.dv [] (.int .i64 (0))), (.dv [] (.str (ByteArray.empty)))]), (5, 29, [(.dv [] (.int .i64 (0))), (.dv [] (.int .i64 (0))), (.dv [] (.str (ByteArray.empty)))])], [(11, some (kcOf false (.sl 128 4 ((idxN f x.2.1 x.2.1.length).length) ((idxN f x.2.1 x.2.1.length).flatMap eItem))))]⟩) (fun zz => 1 ≤ zz ∧ (zz ≤ 1 ∨ zz ≤ (idxN f x.2.1 x.2.1.length).length) ∧ ufN f (idxN f x.2.1 x.2.1.length) zz = none) (fun zz => (idxN f x.2.1 x.2.1.length).length - zz) (1) ?_ (weak_sub ⟨rfl, rfl, rfl, rfl, rfl, trivial⟩ ⟨rfl, rfl, trivial⟩ ⟨rfl, trivial⟩ rfl) (fun zz hx => ?_)
 ·exact ⟨Nat.le_refl _, .inl (Nat.le_refl _), rfl⟩
 obtain ⟨k, rfl⟩ : ∃ v, v = zz := ⟨_, rfl⟩
 replace hx : 1 ≤ k ∧ (k ≤ 1 ∨ k ≤ (idxN f x.2.1 x.2.1.length).length) ∧ ufN f (idxN f x.2.1 x.2.1.length) k = none := hx
 obtain ⟨h1, hk, hu⟩ := hx
 have hlw := idxN_len f x.2.1 x.2.1.length
 have hlen : x.2.1.length ≤ 1048576 := by have h3 : wStore x = x.1.size + (x.2.1.length + wSum wItem x.2.1) := rfl; omega
 show Ok _ _ _ _ _ (⟨[(1, .one (.dv [] (.str (f)))), (4, .box 4 0), (5, .box 5 0), (7, .one (.key 11)), (8, .one (.dv [] (.int .i64 ((k : Int)))))], [(4, 29, [(.dv [] (.int .i64 (0))), (.dv [] (.int .i64 (0))), (.dv [] (.str (ByteArray.empty)))]), (5, 29, [(.dv [] (.int .i64 (0))), (.dv [] (.int .i64 (0))), (.dv [] (.str (ByteArray.empty)))])], [(11, some (kcOf false (.sl 128 4 ((idxN f x.2.1 x.2.1.length).length) ((idxN f x.2.1 x.2.1.length).flatMap eItem))))]⟩ : St)
 iterate 3 refine z ?_
 refine yO rfl rfl (pu_move (v := .one (.dv [11] (itemsD (idxN f x.2.1 x.2.1.length)))) (.inl rfl) (ev_keyv' (ev_tmp rfl) rfl rfl)) rfl ?_
 iterate 3 refine z ?_
 refine yQ rfl (fun c1 => ?_) fun c1 => ?_
 ·skip
  have d1 := of_decide_eq_true c1
  iterate 5 refine z ?_
  refine yO rfl rfl (pu_move (v := .one (.dv [11] (itemsD (idxN f x.2.1 x.2.1.length)))) (.inl rfl) (ev_keyv' (ev_tmp rfl) rfl rfl)) rfl ?_
  iterate 6 refine z ?_
  refine zC Tryz.call110 ?_ (hf := ok_spec_GetField)
  iterate 7 refine z ?_
  refine yO rfl rfl (pu_move (v := .one (.dv [11] (itemsD (idxN f x.2.1 x.2.1.length)))) (.inl rfl) (ev_keyv' (ev_tmp rfl) rfl rfl)) rfl ?_
  iterate 5 refine z ?_
  refine zC Tryz.call110 ?_ (hf := ok_spec_GetField)
  iterate 11 refine z ?_
  refine yQ rfl (fun c2 => ?_) fun c2 => ?_
  ·skip
   have d2 := of_decide_eq_true c2
   refine ok_seq ?_
   refine ok_regionW 4 (oB := [5]) (oK := [11]) (by kernel_rfl) rfl rfl ?_
   refine w_take 0 rfl (by kernel_rfl) rfl rfl (pu_move (v := .one (.dv [11] (itemsD (idxN f x.2.1 x.2.1.length)))) (.inl rfl) (ev_keyv' (ev_tmp rfl) rfl rfl)) rfl rfl rfl rfl rfl ?_
   refine w_take 1 rfl (by kernel_rfl) rfl rfl (pu_move (.inl rfl) (ev_tmp rfl)) rfl rfl rfl rfl rfl ?_
   refine w_take 2 rfl (by kernel_rfl) rfl rfl (pu_subR rfl (ev_tmp rfl) (ev_int (inR_lit rfl)) (inR64 (by omega) (by omega))) rfl rfl rfl rfl rfl ?_
   refine w_take 3 rfl (by kernel_rfl) rfl rfl (pu_indexD hT rfl rfl rfl (ev_tmp rfl) (ev_tmp rfl) (fun _ => rfl) (by omega) (by omega)) rfl rfl rfl rfl rfl ?_
   refine w_take 4 rfl (by kernel_rfl) rfl rfl (pu_fieldRef hT rfl rfl rfl (ev_tmp rfl)) rfl rfl rfl rfl rfl ?_
   refine w_take 5 rfl (by kernel_rfl) rfl rfl (pu_loadRefA hT rfl rfl (ev_tmp rfl) rfl) rfl rfl rfl rfl rfl ?_
   refine w_take 6 rfl (by kernel_rfl) rfl rfl (pu_move (v := .one (.dv [11] (itemsD (idxN f x.2.1 x.2.1.length)))) (.inl rfl) (ev_keyv' (ev_tmp rfl) rfl rfl)) rfl rfl rfl rfl rfl ?_
   refine w_take 7 rfl (by kernel_rfl) rfl rfl (pu_move (.inl rfl) (ev_tmp rfl)) rfl rfl rfl rfl rfl ?_
   refine w_take 8 rfl (by kernel_rfl) rfl rfl (pu_indexD hT rfl rfl rfl (ev_tmp rfl) (ev_tmp rfl) (fun _ => rfl) (by omega) (by omega)) rfl rfl rfl rfl rfl ?_
   refine w_take 9 rfl (by kernel_rfl) rfl rfl (pu_fieldRef hT rfl rfl rfl (ev_tmp rfl)) rfl rfl rfl rfl rfl ?_
   refine w_take 10 rfl (by kernel_rfl) rfl rfl (pu_loadRefA hT rfl rfl (ev_tmp rfl) rfl) rfl rfl rfl rfl rfl ?_
   refine w_store 11 rfl (by kernel_rfl) rfl hT rfl rfl rfl (ev_tmp rfl) (ev_tmp rfl) rfl rfl rfl rfl rfl rfl ?_
   refine w_chain [12, 13] rfl rfl (by kernel_rfl) ?_
   iterate 9 refine z ?_
   refine fin3 (res_cell hT rfl rfl rfl rfl) (res_cell hT rfl rfl rfl rfl) (res_tmp rfl) rfl rfl rfl ?_
   rw [uf_hit hu h1 (by omega) ((same_of h1).1 d2), show ((k : Int) - 1).toNat = k - 1 by omega] <;> rfl
  ·skip
   have d2 := of_decide_eq_false c2
   iterate 3 refine z ?_
   refine ok_region ?_
   iterate 4 refine z ?_
   refine ⟨k + 1, ?_, ?_, weak_sub ⟨rfl, rfl, rfl, rfl, rfl, trivial⟩ ⟨rfl, rfl, trivial⟩ ⟨rfl, trivial⟩ rfl⟩
   ·exact ⟨by omega, .inr (by omega), uf_step hu (same_not h1 d2)⟩
   ·omega
 ·skip
  have d1 := of_decide_eq_false c1
  iterate 6 refine z ?_
  refine yO rfl rfl (pu_build hT hB rfl rfl rfl bp_nil) rfl ?_
  refine yO rfl rfl (pu_build hT hB rfl rfl rfl bp_nil) rfl ?_
  iterate 5 refine z ?_
  refine fin3 (res_cell hT rfl rfl rfl rfl) (res_cell hT rfl rfl rfl rfl) (res_tmp rfl) rfl rfl rfl ?_
  rw [uf_no (uf_end hu hk d1)] <;> rfl
end Go.Proofs.YtoigmlbidpocnaaGreat

namespace Go.Proofs.YtoigmlbidpocnaaGreat
open Go.RowKit
open Go.Proofs
set_option linter.unusedVariables false
set_option linter.unusedSimpArgs false

def stoBad (s : StoreT) (i : Nat) : Bool := (!isKey (s.2.1.getD (i : Int).toNat default).1 || !isRec (s.2.1.getD (i : Int).toNat default).2) ||
 (decide ((0 : Int) < (i : Int)) && decide (0 ≤ cmpK (s.2.1.getD ((i : Int) - 1).toNat default).1 (s.2.1.getD (i : Int).toNat default).1))
def isSto (s : StoreT) : Bool := (List.range s.2.1.length).all (fun i => !stoBad s i) && (isName s.1 && decide ((s.2.1.length : Int) ≤ 16) && (decide ((0 : Int) ≤ s.2.2) && decide (s.2.2 ≤ 1000000)))
def kEq (a b : KeyT) : Bool := decide (a.1 = b.1) && (decide (a.2.1 = b.2.1) && sEq a.2.2 b.2.2)
def fndK (x : StoreT) (k : KeyT) : Int := findI (fun y : ItemT => kEq y.1 k) x.2.1 0
theorem take_cs1 {xs : List ItemT} {k : Nat} (hk : k < xs.length) : (xs.take k).flatMap eItem ++ eItem (xs.getD (k : Int).toNat default) = (xs.take (k + 1)).flatMap eItem ∧ (xs.take k).length + 1 = (xs.take (k + 1)).length := by
 have e : xs.getD (k : Int).toNat default = xs[k] := by simp [List.getD, List.getElem?_eq_getElem hk]
 rw [List.take_add_one, List.getElem?_eq_getElem hk, e]
 simp only [Option.toList_some, List.flatMap_append, List.flatMap_cons, List.flatMap_nil, List.append_nil, List.length_append, List.length_singleton]
 exact ⟨trivial, trivial⟩

theorem ok_spec_IsStore {s : StoreT}  : PFn Tryz.prog 90 [.agg [(.dv [] (.str (s.1))), (.dv [] (itemsD (s.2.1))), (.dv [] (.int .i64 (s.2.2)))]] (.one (.dv [] (.bool (isSto s)))) := by
 refine ⟨fn_intro Tryz.func90 rfl Tryz.ntmps90 Tryz.results90 rfl (fun C => ?_)⟩
 refine yF 0 0 rfl rfl fun f0_0 => ?_
 refine yF 0 1 rfl rfl fun f0_1 => ?_
 refine yF 0 2 rfl rfl fun f0_2 => ?_
 iterate 9 refine z ?_
 refine ok_loop (ι := Nat) (fun zz => ⟨[(1, .box 1 0), (3, .one (.dv [] (.int .i64 ((zz : Int)))))], [(1, 110, [(.dv [] (.str (s.1))), (.dv [] (itemsD (s.2.1))), (.dv [] (.int .i64 (s.2.2)))])], []⟩) (fun zz => zz ≤ s.2.1.length ∧ (List.range zz).all (fun i => !stoBad s i) = true) (fun zz => s.2.1.length - zz) (0) ?_ (weak_sub ⟨rfl, rfl, trivial⟩ ⟨rfl, trivial⟩ trivial rfl) (fun zz hx => ?_)
 ·exact ⟨Nat.zero_le _, rfl⟩
 obtain ⟨k, rfl⟩ : ∃ v, v = zz := ⟨_, rfl⟩
 replace hx : k ≤ s.2.1.length ∧ (List.range k).all (fun i => !stoBad s i) = true := hx
 obtain ⟨hk, hall⟩ := hx
 show Ok _ _ _ _ _ (⟨[(1, .box 1 0), (3, .one (.dv [] (.int .i64 ((k : Int)))))], [(1, 110, [(.dv [] (.str (s.1))), (.dv [] (itemsD (s.2.1))), (.dv [] (.int .i64 (s.2.2)))])], []⟩ : St)
 iterate 8 refine z ?_
 refine yQ rfl (fun c1 => ?_) fun c1 => ?_
 ·skip
  have d1 := of_decide_eq_true c1
  iterate 4 refine z ?_
  refine ok_seq ?_
  refine ok_regionD (oB := [1]) (oK := []) (by kernel_rfl) rfl rfl ?_
  refine zD 0 ?_
  refine zD 1 ?_
  refine zD 2 ?_
  refine zD 3 ?_
  refine zD 4 ?_
  refine zD 5 ?_
  refine d_call 6 rfl (by kernel_rfl) rfl rfl rfl Tryz.call8 ok_spec_IsKey (as_cons (ev_tmp rfl) (ag_agg (ag_cons ac_dv (ag_cons ac_dv (ag_cons ac_dv ag_nil)))) as_nil) rfl rfl rfl rfl ?_
  refine zD 7 ?_
  refine zD 8 ?_
  refine zDG 9 ?_
  refine zDG 10 ?_
  refine zDG 11 ?_
  refine zDG 12 ?_
  refine zDG 13 ?_
  refine zDG 14 ?_
  refine d_callG 15 rfl (by kernel_rfl) (gd_bool rfl rfl rfl rfl rfl) rfl rfl Tryz.call22 ok_spec_IsRecord (fun hg => (as_cons (ev_opt rfl hg) (ag_agg (ag_cons ac_dv ag_nil)) as_nil)) rfl rfl ?_
  refine zDG 16 ?_
  refine zD 17 ?_
  refine zD 18 ?_
  refine zDG 19 ?_
  refine zDG 20 ?_
  refine zDG 21 ?_
  refine zDG 22 ?_
  refine zDG 23 ?_
  refine zDG 24 ?_
  refine zDG 25 ?_
  refine zDG 26 ?_
  refine zDG 27 ?_
  refine zDG 28 ?_
  refine zDG 29 ?_
  refine zDG 30 ?_
  refine zDG 31 ?_
  refine zDG 32 ?_
  refine zDG 33 ?_
  refine zDG 34 ?_
  refine d_callG 35 rfl (by kernel_rfl) (gd_opt rfl rfl rfl rfl rfl) rfl rfl Tryz.call101 ok_spec_CompareKeys (fun hg => (as_cons (ev_opt rfl hg) (ag_agg (ag_cons ac_dv (ag_cons ac_dv (ag_cons ac_dv ag_nil)))) (as_cons (ev_opt rfl hg) (ag_agg (ag_cons ac_dv (ag_cons ac_dv (ag_cons ac_dv ag_nil)))) as_nil))) rfl rfl ?_
  refine zDG 36 ?_
  refine zDG 37 ?_
  refine zD 38 ?_
  refine d_done (by kernel_rfl) ?_
  refine z ?_
  refine yQ rfl (fun c2 => ?_) fun c2 => ?_
  ·skip
   iterate 10 refine z ?_
   rw [isSto, rall_no (k := k) (by omega) (by have h : stoBad s k = true := c2; simpa using h)]; rfl
  ·skip
   iterate 3 refine z ?_
   refine ok_region ?_
   iterate 4 refine z ?_
   refine ⟨k + 1, ?_, ?_, weak_sub ⟨rfl, rfl, trivial⟩ ⟨rfl, trivial⟩ trivial rfl⟩
   ·exact ⟨by omega, rall_succ hall (by have h : stoBad s k = false := c2; simpa using h)⟩
   ·omega
 ·skip
  have d1 := of_decide_eq_false c1
  iterate 8 refine z ?_
  refine zC Tryz.call21 ?_ (hf := ok_spec_IsName)
  iterate 9 refine z ?_
  refine o_callG (gd_bool rfl rfl rfl rfl rfl) rfl rfl Tryz.call20 ok_spec_l1In (fun hg => (as_cons (ev_opt rfl hg) (ag_one ac_dv) (as_cons (ev_int (inR_lit rfl)) (ag_one ac_dv) (as_cons (ev_int (inR_lit rfl)) (ag_one ac_dv) as_nil)))) rfl rfl ?_
  iterate 5 refine z ?_
  obtain rfl : k = s.2.1.length := by omega
  rw [isSto, hall]; rfl
theorem ok_spec_FindItem {x : StoreT} {k : KeyT}  : PFn Tryz.prog 105 [.agg [(.dv [] (.str (x.1))), (.dv [] (itemsD (x.2.1))), (.dv [] (.int .i64 (x.2.2)))], .agg [(.dv [] (.int .i64 (k.1))), (.dv [] (.int .i64 (k.2.1))), (.dv [] (.str (k.2.2)))]] (.one (.dv [] (.int .i64 (fndK x k)))) := by
 refine ⟨fn_intro Tryz.func105 rfl Tryz.ntmps105 Tryz.results105 rfl (fun C => ?_)⟩
 refine yF 0 0 rfl rfl fun f0_0 => ?_
 refine yF 0 1 rfl rfl fun f0_1 => ?_
 refine yF 0 2 rfl rfl fun f0_2 => ?_
 refine yF 1 0 rfl rfl fun f1_0 => ?_
 refine yF 1 1 rfl rfl fun f1_1 => ?_
 refine yF 1 2 rfl rfl fun f1_2 => ?_
 iterate 10 refine z ?_
 refine ok_loop (ι := Nat) (fun zz => ⟨[(2, .box 2 0), (3, .box 3 0), (5, .one (.dv [] (.int .i64 ((zz : Int)))))], [(2, 110, [(.dv [] (.str (x.1))), (.dv [] (itemsD (x.2.1))), (.dv [] (.int .i64 (x.2.2)))]), (3, 29, [(.dv [] (.int .i64 (k.1))), (.dv [] (.int .i64 (k.2.1))), (.dv [] (.str (k.2.2)))])], []⟩) (fun zz => zz ≤ x.2.1.length ∧ (x.2.1.take zz).any (fun y : ItemT => kEq y.1 k) = false) (fun zz => x.2.1.length - zz) (0) ?_ (weak_sub ⟨rfl, rfl, rfl, trivial⟩ ⟨rfl, rfl, trivial⟩ trivial rfl) (fun zz hx => ?_)
 ·exact ⟨Nat.zero_le _, rfl⟩
 obtain ⟨n, rfl⟩ : ∃ v, v = zz := ⟨_, rfl⟩
 replace hx : n ≤ x.2.1.length ∧ (x.2.1.take n).any (fun y : ItemT => kEq y.1 k) = false := hx
 obtain ⟨hk, hall⟩ := hx
 show Ok _ _ _ _ _ (⟨[(2, .box 2 0), (3, .box 3 0), (5, .one (.dv [] (.int .i64 ((n : Int)))))], [(2, 110, [(.dv [] (.str (x.1))), (.dv [] (itemsD (x.2.1))), (.dv [] (.int .i64 (x.2.2)))]), (3, 29, [(.dv [] (.int .i64 (k.1))), (.dv [] (.int .i64 (k.2.1))), (.dv [] (.str (k.2.2)))])], []⟩ : St)
 iterate 8 refine z ?_
 refine yQ rfl (fun c1 => ?_) fun c1 => ?_
 ·skip
  have d1 := of_decide_eq_true c1
  iterate 4 refine z ?_
  refine ok_seq ?_
  refine ok_regionD (oB := [2, 3]) (oK := []) (by kernel_rfl) rfl rfl ?_
  refine zD 0 ?_
  refine zD 1 ?_
  refine zD 2 ?_
  refine zD 3 ?_
  refine zD 4 ?_
  refine zD 5 ?_
  refine zD 6 ?_
  refine d_take 7 rfl (by kernel_rfl) rfl rfl (pu_cmpA rfl (ev_tmp rfl) (ev_tmp rfl) rfl rfl Tryz.eqGuardType29 (eql_Key _ _ _ _ _ _)) rfl rfl rfl rfl ?_
  refine d_done (by kernel_rfl) ?_
  refine z ?_
  refine yQ rfl (fun c2 => ?_) fun c2 => ?_
  ·skip
   iterate 11 refine z ?_
   exact (findI_at (p := fun y : ItemT => kEq y.1 k) (d := default) hall (by omega) c2).symm
  ·skip
   iterate 3 refine z ?_
   refine ok_region ?_
   iterate 4 refine z ?_
   refine ⟨n + 1, ?_, ?_, weak_sub ⟨rfl, rfl, rfl, trivial⟩ ⟨rfl, rfl, trivial⟩ trivial rfl⟩
   ·exact ⟨by omega, any_stepI (d := default) hall (by omega) c2⟩
   ·omega
 ·skip
  have d1 := of_decide_eq_false c1
  iterate 10 refine z ?_
  exact (findI_none (p := fun y : ItemT => kEq y.1 k) hall (by omega)).symm
theorem ok_spec_l6Copy {x : StoreT} (hb : wStore x ≤ 1099511627776) : KFn Tryz.prog 102 [.agg [(.dv [] (.str (x.1))), (.dv [] (itemsD (x.2.1))), (.dv [] (.int .i64 (x.2.2)))]] (.agg [(.dv [] (.str (x.1))), (.key 30), (.dv [] (.int .i64 (x.2.2)))]) [(30, some (kcOf false (itemsD (x.2.1))))] := by
 refine ⟨fn_intro Tryz.func102 rfl Tryz.ntmps102 Tryz.results102 rfl (fun C => ?_)⟩
 refine yF 0 0 rfl rfl fun f0_0 => ?_
 refine yF 0 1 rfl rfl fun f0_1 => ?_
 refine yF 0 2 rfl rfl fun f0_2 => ?_
 iterate 9 refine z ?_
 refine yO rfl rfl (pu_build hT hB rfl rfl rfl (bp_cons (ev_tmp rfl) rfl rfl rfl rfl rfl (bp_cons (ev_tmp rfl) rfl rfl rfl rfl rfl bp_nil))) rfl ?_
 iterate 3 refine z ?_
 refine ok_seq ?_
 refine ok_seq ?_
 refine ok_weak (weak_nilB 30 (b := 3) (i := 1) (e := 128) (sz := 4) rfl rfl rfl rfl rfl) ?_
 simp only [killT, killB, SV.kill, CV.kill, kk, Nat.reduceBEq]
 refine ok_region ?_
 iterate 3 refine z ?_
 refine ok_loop (ι := Nat) (fun zz => ⟨[(1, .box 1 0), (2, .box 2 0), (3, .box 3 0), (4, .one (.dv [] (.int .i64 ((zz : Int)))))], [(1, 110, [(.dv [] (.str (x.1))), (.dv [] (itemsD (x.2.1))), (.dv [] (.int .i64 (x.2.2)))]), (2, 110, [(.dv [] (.str (ByteArray.empty))), .nil, (.dv [] (.int .i64 (0)))]), (3, 110, [(.dv [] (.str (x.1))), (.key 30), (.dv [] (.int .i64 (x.2.2)))])], [(30, some (kcOf false (.sl 128 4 ((x.2.1.take zz).length) ((x.2.1.take zz).flatMap eItem))))]⟩) (fun zz => zz ≤ x.2.1.length) (fun zz => x.2.1.length - zz) (0) ?_ (weak_sub ⟨rfl, rfl, rfl, rfl, trivial⟩ ⟨rfl, rfl, rfl, trivial⟩ ⟨rfl, trivial⟩ rfl) (fun zz hx => ?_)
 ·exact Nat.zero_le _
 obtain ⟨k, rfl⟩ : ∃ v, v = zz := ⟨_, rfl⟩
 replace hx : k ≤ x.2.1.length := hx
 have hw := fun h => wSum_succ wItem x.2.1 k h
 show Ok _ _ _ _ _ (⟨[(1, .box 1 0), (2, .box 2 0), (3, .box 3 0), (4, .one (.dv [] (.int .i64 ((k : Int)))))], [(1, 110, [(.dv [] (.str (x.1))), (.dv [] (itemsD (x.2.1))), (.dv [] (.int .i64 (x.2.2)))]), (2, 110, [(.dv [] (.str (ByteArray.empty))), .nil, (.dv [] (.int .i64 (0)))]), (3, 110, [(.dv [] (.str (x.1))), (.key 30), (.dv [] (.int .i64 (x.2.2)))])], [(30, some (kcOf false (.sl 128 4 ((x.2.1.take k).length) ((x.2.1.take k).flatMap eItem))))]⟩ : St)
 iterate 8 refine z ?_
 refine yQ rfl (fun c1 => ?_) fun c1 => ?_
 ·skip
  have d1 := of_decide_eq_true c1
  have hk2 : k < x.2.1.length := by omega
  have hlen : x.2.1.length ≤ 1099511627776 := by have h3 : wStore x = x.1.size + (x.2.1.length + wSum wItem x.2.1) := rfl; omega
  have hrec : wItem (x.2.1.getD (k : Int).toNat default) ≤ 1099511627776 := by have := hw hk2; have h3 : wStore x = x.1.size + (x.2.1.length + wSum wItem x.2.1) := rfl; omega
  iterate 4 refine z ?_
  refine ok_regionH [0, 1, 2, 3, 4, 5, 6, 7, 8] (oB := [1, 2, 3]) (oK := [30]) (by kernel_rfl) rfl rfl ?_
  refine zD 0 ?_
  refine zD 1 ?_
  refine zD 2 ?_
  refine zD 3 ?_
  refine zD 4 ?_
  refine zD 5 ?_
  refine zD 6 ?_
  refine d_callK 24000 7 rfl (by kernel_rfl) rfl rfl rfl Tryz.call108 (ok_spec_l6Item (by first | omega | exact Nat.le_trans (item_len _) hrec | exact Nat.le_trans (item_len _) (Nat.le_trans hrec (by decide)))) (as_cons (ev_tmp rfl) (ag_agg (ag_cons ac_dv (ag_cons ac_dv (ag_cons ac_dv (ag_cons ac_dv ag_nil))))) as_nil) rfl rfl rfl rfl rfl ?_
  refine d_build1 (k := 25) (js := [31003]) 8 hT rfl (by kernel_rfl) rfl rfl rfl rfl rfl rfl rfl rfl rfl (ev_tmp rfl) rfl rfl (ow_cons' (ow_dv rfl) (ow_cons' (ow_dv rfl) (ow_cons' (ow_dv rfl) (ow_cons' (ow_key rfl) ow_nil rfl) rfl) rfl) rfl) (by decide) (by decide) rfl rfl (by decide) ?_
  simp only [killT, killB, SV.kill, CV.kill, kk, Nat.reduceBEq]
  refine d_chain [9, 10, 11] rfl rfl (by kernel_rfl) ?_
  refine o_appK (k := 30) (j := 25) (cs := (x.2.1.take (k + 1)).flatMap eItem) (n := (x.2.1.take (k + 1)).length) hT rfl rfl rfl rfl rfl rfl rfl (ev_tmp rfl) rfl rfl rfl (ev_tmp rfl) rfl rfl (by decide) (by dsimp only [kcOf]; simp only [List.length_take]; omega) (by dsimp only [kcOf]; simp only [List.length_take]; omega) ((take_cs1 hk2).2) ((take_cs1 hk2).1) ?_
  simp only [killT, killB, SV.kill, CV.kill, kk, Nat.reduceBEq]
  iterate 2 refine z ?_
  refine ops_nil ?_
  iterate 2 refine z ?_
  refine ok_region ?_
  iterate 4 refine z ?_
  refine ⟨k + 1, ?_, ?_, weak_sub ⟨rfl, rfl, rfl, rfl, trivial⟩ ⟨rfl, rfl, rfl, trivial⟩ ⟨rfl, trivial⟩ rfl⟩
  ·omega
  ·omega
 ·skip
  have d1 := of_decide_eq_false c1
  iterate 9 refine z ?_
  refine ok_weak (σ' := ⟨[(2, .box 2 0)], [(2, 110, [(.dv [] (.str (x.1))), (.key 30), (.dv [] (.int .i64 (x.2.2)))])], [(30, some (kcOf false (itemsD (x.2.1))))]⟩) (weak_sub ⟨rfl, trivial⟩ ⟨rfl, trivial⟩ ⟨(congrArg (fun l : List ItemT => some (some (KC.mk false 128 4 l.length (l.flatMap eItem)))) (List.take_of_length_le (by omega))), trivial⟩ rfl) ?_
  refine z ?_
  refine fin1 (res_cell hT rfl rfl rfl rfl) ?_
  exact ⟨rfl, rfl⟩
end Go.Proofs.YtoigmlbidpocnaaGreat

namespace Go.Proofs.YtoigmlbidpocnaaGreat
open Go.RowKit
open Go.Proofs
set_option linter.unusedVariables false
set_option linter.unusedSimpArgs false

def posK (k : KeyT) : List ItemT → Nat
 | [] => 0
 | y :: ys => if cmpK y.1 k < 0 then posK k ys + 1 else 0
def setI (l : List ItemT) (i : Nat) (r : RecT) : List ItemT := l.set i ((l.getD i default).1, r)
def autoP (x : StoreT) (k : KeyT) : Int := if decide (k.1 = 1) && (decide (x.2.2 + 1 ≤ k.2.1) && decide (k.2.1 ≤ 1000000)) then k.2.1 else x.2.2
def putN (x : StoreT) (k : KeyT) (r : RecT) : StoreT × Bool :=
 if !isSto x || !isKey k || !isRec r then (x, false)
 else if 0 ≤ fndK x k then ((x.1, setI x.2.1 (fndK x k).toNat r, x.2.2), true)
 else if 16 ≤ x.2.1.length then (x, false)
 else ((x.1, insI x.2.1 (posK k x.2.1) (k, r), autoP x k), true)
theorem fndK_lt {x : StoreT} {k : KeyT} (h : 0 ≤ fndK x k) : fndK x k < x.2.1.length := by
 rcases findI_lt (p := fun y : ItemT => kEq y.1 k) x.2.1 0 (by omega) with h1 | h1
 ·unfold fndK; omega
 ·unfold fndK at h; omega
theorem setI_len {l : List ItemT} {i : Nat} {r : RecT} : (setI l i r).length = l.length := by simp [setI]
theorem len4 (l : List ItemT) : (l.flatMap eItem).length = l.length * 4 := by
 induction l with
 | nil => rfl
 | cons x l ih => rw [List.flatMap_cons, List.length_append, ih, List.length_cons]; show 4 + l.length * 4 = (l.length + 1) * 4; omega
theorem drop_cons {l : List ItemT} {j : Nat} (h : j < l.length) : l.drop j = l.getD j default :: l.drop (j + 1) := by
 rw [List.drop_eq_getElem_cons h]
 simp [List.getD, List.getElem?_eq_getElem h]
theorem posK_step {k : KeyT} {l : List ItemT} {j : Nat} (hp : posK k l = j + posK k (l.drop j)) (h : (decide ((j : Int) < (l.length : Int)) && decide (cmpK (l.getD (j : Int).toNat default).1 k < 0)) = true) : j < l.length ∧ posK k l = (j + 1) + posK k (l.drop (j + 1)) := by
 obtain ⟨h1, h2⟩ := (Bool.and_eq_true _ _ ▸ h : _ ∧ _)
 have h1 := of_decide_eq_true h1
 have h2 := of_decide_eq_true h2
 rw [Int.toNat_natCast] at h2
 have h3 : j < l.length := by omega
 refine ⟨h3, ?_⟩
 rw [hp, drop_cons h3, posK, if_pos h2]
 omega
theorem posK_stop {k : KeyT} {l : List ItemT} {j : Nat} (hj : j ≤ l.length) (hp : posK k l = j + posK k (l.drop j)) (h : (decide ((j : Int) < (l.length : Int)) && decide (cmpK (l.getD (j : Int).toNat default).1 k < 0)) = false) : posK k l = j := by
 rcases Nat.lt_or_ge j l.length with h3 | h3
 ·rw [decide_eq_true (by omega : (j : Int) < (l.length : Int)), Bool.true_and] at h
  have h2 := of_decide_eq_false h
  rw [Int.toNat_natCast] at h2
  rw [hp, drop_cons h3, posK, if_neg h2]
  omega
 ·rw [hp, List.drop_eq_nil_of_le h3, posK]; omega
theorem setR_set {l : List ItemT} {i : Nat} {r : RecT} (hi : i < l.length) : setR (i * 4 + 3) [fieldsD r] (l.flatMap eItem) = (setI l i r).flatMap eItem := by
 obtain ⟨h1, h2⟩ := take_flat (enc := eItem) (sz := 4) (fun _ => rfl) i l
 have e : l.flatMap eItem = (l.take i).flatMap eItem ++ (eItem (l.getD i default) ++ (l.drop (i + 1)).flatMap eItem) := by
  rw [← List.flatMap_cons, ← drop_cons hi, ← List.flatMap_append, List.take_append_drop]
 have e2 : (setI l i r).flatMap eItem = (l.take i).flatMap eItem ++ (eItem ((l.getD i default).1, r) ++ (l.drop (i + 1)).flatMap eItem) := by
  rw [setI, List.set_eq_take_append_cons_drop, if_pos hi, List.flatMap_append, List.flatMap_cons]
 have hl : ((l.take i).flatMap eItem).length = i * 4 := by rw [len4, List.length_take]; omega
 rw [e, e2]
 exact setR_mid (pre := (l.take i).flatMap eItem) (B := eItem (l.getD i default)) (B' := eItem ((l.getD i default).1, r)) (post := (l.drop (i + 1)).flatMap eItem) (m := i * 4) (off := i * 4 + 3) (j := 3) hl rfl rfl (Nat.le_refl _)
def relP (p : Option KeyT) (k : KeyT) : Bool := match p with | none => true | some q => decide (cmpK q k < 0)
def okL : Option KeyT → List ItemT → Bool
 | _, [] => true
 | p, y :: ys => isKey y.1 && isRec y.2 && relP p y.1 && okL (some y.1) ys
def badP (p : Option KeyT) (l : List ItemT) (i : Nat) : Bool := (!isKey (l.getD i default).1 || !isRec (l.getD i default).2) || !(relP (if i = 0 then p else some (l.getD (i - 1) default).1) (l.getD i default).1)
theorem okL_eq : ∀ (l : List ItemT) (p : Option KeyT), okL p l = (List.range l.length).all (fun i => !badP p l i)
 | [], _ => rfl
 | y :: ys, p => by
  rw [okL, okL_eq ys (some y.1), List.length_cons, List.range_succ_eq_map, List.all_cons, List.all_map]
  congr 1
  ·simp [badP]
  ·congr 1
   funext i
   cases i with
   | zero => simp [badP]
   | succ i => simp [badP]
theorem isSto_eq (s : StoreT) : isSto s = (okL none s.2.1 && (isName s.1 && decide ((s.2.1.length : Int) ≤ 16) && (decide ((0 : Int) ≤ s.2.2) && decide (s.2.2 ≤ 1000000)))) := by
 rw [isSto, okL_eq]
 congr 2
 funext i
 cases i with
 | zero => simp [stoBad, badP, relP]
 | succ i =>
  have e : (((i + 1 : Nat) : Int) - 1).toNat = i := by omega
  have e2 : (((i + 1 : Nat) : Int)).toNat = i + 1 := by omega
  have e3 : decide ((0 : Int) < ((i + 1 : Nat) : Int)) = true := decide_eq_true (by omega)
  simp only [stoBad, badP, relP, e, e2, e3, Bool.true_and, Nat.succ_ne_zero, if_false, Nat.add_sub_cancel]
  congr 2
  by_cases h : cmpK (s.2.1.getD i default).1 (s.2.1.getD (i + 1) default).1 < 0
  ·rw [decide_eq_true h, decide_eq_false (by omega)]; rfl
  ·rw [decide_eq_false h, decide_eq_true (by omega)]; rfl
theorem sgnS_zero {a b : Str} (h : sgnS a b = 0) : sEq a b = true := by
 have e := sLe_eq a b
 unfold sgnS at h
 cases h1 : sLt a b <;> cases h2 : sLt b a <;> simp_all
theorem cmpK_zero {a b : KeyT} (ha : isKey a = true) (hb : isKey b = true) (h : cmpK a b = 0) : kEq a b = true := by
 have hg : (!isKey a || !isKey b) = false := by rw [ha, hb]; rfl
 by_cases h1 : a.1 = b.1
 ·by_cases h2 : a.2.1 = b.2.1
  ·rw [cmpK_text hg h1 h2] at h
   rw [kEq, decide_eq_true h1, decide_eq_true h2, sgnS_zero h]; rfl
  ·rw [cmpK_num hg h1 h2] at h; exact absurd (sgnI_zero.1 h) h2
 ·rw [cmpK_kind hg h1] at h; exact absurd (sgnI_zero.1 h) h1
theorem okL_ins {k : KeyT} {r : RecT} (hk : isKey k = true) : ∀ (l : List ItemT) (p : Option KeyT), okL p l = true → l.any (fun y : ItemT => kEq y.1 k) = false → relP p k = true → okL p (insI l (posK k l) (k, r)) = isRec r
 | [], p, _, _, hp => by simp [insI, posK, okL, hk, hp]
 | y :: ys, p, hl, hn, hp => by
  simp only [okL, Bool.and_eq_true] at hl
  obtain ⟨⟨⟨h1, h2⟩, h3⟩, h4⟩ := hl
  simp only [List.any_cons, Bool.or_eq_false_iff] at hn
  by_cases hc : cmpK y.1 k < 0
  ·have ih := okL_ins (r := r) hk ys (some y.1) h4 hn.2 (by simpa [relP] using hc)
   rw [posK, if_pos hc]
   have e : insI (y :: ys) (posK k ys + 1) (k, r) = y :: insI ys (posK k ys) (k, r) := by simp [insI]
   rw [e, okL, h1, h2, h3, ih]; rfl
  ·rw [posK, if_neg hc]
   have e : insI (y :: ys) 0 (k, r) = (k, r) :: y :: ys := by simp [insI]
   have h0 : ¬ cmpK y.1 k = 0 := fun h => by
    have := cmpK_zero h1 hk h
    rw [hn.1] at this; cases this
   have hs := cmpK_swap k y.1
   rw [e, okL, okL, hk, hp, h1, h2, h4]
   have : relP (some k) y.1 = true := by simp only [relP, decide_eq_true_eq]; omega
   rw [this]; simp
theorem okL_set {r : RecT} : ∀ (l : List ItemT) (p : Option KeyT) (i : Nat), okL p l = true → i < l.length → okL p (setI l i r) = isRec r
 | [], _, _, _, h => by simp at h
 | y :: ys, p, 0, hl, _ => by
  simp only [okL, Bool.and_eq_true] at hl
  obtain ⟨⟨⟨h1, h2⟩, h3⟩, h4⟩ := hl
  simp [setI, okL, h1, h3, h4]
 | y :: ys, p, i + 1, hl, h => by
  simp only [okL, Bool.and_eq_true] at hl
  obtain ⟨⟨⟨h1, h2⟩, h3⟩, h4⟩ := hl
  have ih := okL_set (r := r) ys (some y.1) i h4 (by simpa using h)
  have e : setI (y :: ys) (i + 1) r = y :: setI ys i r := by simp [setI]
  rw [e, okL, h1, h2, h3, ih]; rfl
theorem findI_neg {α : Type} {p : α → Bool} : ∀ (xs : List α) (i : Int), 0 ≤ i → findI p xs i < 0 → xs.any p = false
 | [], _, _, _ => rfl
 | x :: xs, i, hi, h => by
  rw [findI] at h
  split at h
  ·omega
  ·rename_i hp
   rw [List.any_cons, findI_neg xs (i + 1) (by omega) h]
   simpa using hp
theorem sto_set {x : StoreT} {i : Nat} {r : RecT} (hs : isSto x = true) (hi : i < x.2.1.length) : isSto (x.1, setI x.2.1 i r, x.2.2) = isRec r := by
 rw [isSto_eq] at hs ⊢
 simp only [Bool.and_eq_true] at hs
 obtain ⟨h1, ⟨h2, h3⟩, h4, h5⟩ := hs
 simp only [setI_len, okL_set _ _ _ h1 hi, h2, h3, h4, h5, Bool.and_self, Bool.and_true]
theorem sto_ins {x : StoreT} {k : KeyT} {r : RecT} {a : Int} (hs : isSto x = true) (hk : isKey k = true) (hf : fndK x k < 0) (ha : 0 ≤ a ∧ a ≤ 1000000) : isSto (x.1, insI x.2.1 (posK k x.2.1) (k, r), a) = (isRec r && decide (x.2.1.length < 16)) := by
 rw [isSto_eq] at hs ⊢
 simp only [Bool.and_eq_true] at hs
 obtain ⟨h1, ⟨h2, h3⟩, h4, h5⟩ := hs
 simp only [insI_len, okL_ins hk _ _ h1 (findI_neg _ 0 (by omega) hf) rfl, h2, decide_eq_true ha.1, decide_eq_true ha.2, Bool.and_self, Bool.and_true, Bool.true_and]
 congr 1
 exact decide_eq_decide.2 (by omega)
theorem not_or_f {a b : Bool} (h : (!a || !b) = false) : a = true ∧ b = true := by cases a <;> cases b <;> simp_all
theorem auto_ok {x : StoreT} {k : KeyT} (hs : isSto x = true) : 0 ≤ autoP x k ∧ autoP x k ≤ 1000000 := by
 rw [isSto_eq] at hs
 simp only [Bool.and_eq_true, decide_eq_true_eq] at hs
 unfold autoP
 split
 ·rename_i h
  simp only [Bool.and_eq_true, decide_eq_true_eq] at h
  omega
 ·omega
end Go.Proofs.YtoigmlbidpocnaaGreat

namespace Go.Proofs.YtoigmlbidpocnaaGreat
open Go.RowKit
open Go.Proofs
set_option linter.unusedVariables false
set_option linter.unusedSimpArgs false

theorem sto_auto {x : StoreT} {b c : Bool} (h : (!isSto x || b || c) = false) : 0 ≤ x.2.2 ∧ x.2.2 ≤ 1000000 := by
 have hs : isSto x = true := by cases hh : isSto x <;> simp_all
 rw [isSto_eq] at hs
 simp only [Bool.and_eq_true, decide_eq_true_eq] at hs
 omega
theorem put_f {x : StoreT} {k : KeyT} {r : RecT} (h : (!isSto x || !isKey k || !isRec r) = false) (hf : 0 ≤ fndK x k) : putN x k r = ((x.1, setI x.2.1 (fndK x k).toNat r, x.2.2), true) := by
 rw [putN, if_neg (by rw [h]; simp), if_pos hf]
theorem put_l {x : StoreT} {k : KeyT} {r : RecT} (h : (!isSto x || !isKey k || !isRec r) = false) (hf : ¬ 0 ≤ fndK x k) (hl : (16 : Int) ≤ (x.2.1.length : Int)) : putN x k r = (x, false) := by
 rw [putN, if_neg (by rw [h]; simp), if_neg hf, if_pos (by omega)]
theorem put_i {x : StoreT} {k : KeyT} {r : RecT} {j : Nat} {a : Int} (h : (!isSto x || !isKey k || !isRec r) = false) (hf : ¬ 0 ≤ fndK x k) (hl : ¬ (16 : Int) ≤ (x.2.1.length : Int)) (hj : posK k x.2.1 = j) (ha : a = autoP x k) : putN x k r = ((x.1, insI x.2.1 j (k, r), a), true) := by
 subst hj; subst ha
 rw [putN, if_neg (by rw [h]; simp), if_neg hf, if_neg (by omega)]
theorem auto_y {x : StoreT} {k : KeyT} (h : (decide (k.1 = 1) && (decide (x.2.2 + 1 ≤ k.2.1) && decide (k.2.1 ≤ 1000000))) = true) : k.2.1 = autoP x k := by rw [autoP, if_pos h]
theorem auto_n {x : StoreT} {k : KeyT} (h : (decide (k.1 = 1) && (decide (x.2.2 + 1 ≤ k.2.1) && decide (k.2.1 ≤ 1000000))) = false) : x.2.2 = autoP x k := by rw [autoP, if_neg (by rw [h]; simp)]

theorem ok_spec_PutItem {x : StoreT} {k : KeyT} {r : RecT} (hb : wStore x ≤ 1048576) (hb2 : r.length ≤ 1048576) : KFn Tryz.prog 95 [.agg [(.dv [] (.str (x.1))), (.dv [] (itemsD (x.2.1))), (.dv [] (.int .i64 (x.2.2)))], .agg [(.dv [] (.int .i64 (k.1))), (.dv [] (.int .i64 (k.2.1))), (.dv [] (.str (k.2.2)))], .agg [(.dv [] (fieldsD (r)))]] (.tup [(true, [(.dv [] (.str ((putN x k r).1.1))), (.key 9001), (.dv [] (.int .i64 ((putN x k r).1.2.2)))]), (false, [(.dv [] (.bool ((putN x k r).2)))])]) [(9001, some (kcOf false (itemsD ((putN x k r).1.2.1))))] := by
 refine ⟨fn_intro Tryz.func95 rfl Tryz.ntmps95 Tryz.results95 rfl (fun C => ?_)⟩
 have hlen : x.2.1.length ≤ 1048576 := by have h3 : wStore x = x.1.size + (x.2.1.length + wSum wItem x.2.1) := rfl; omega
 refine yF 0 0 rfl rfl fun f0_0 => ?_
 refine yF 0 1 rfl rfl fun f0_1 => ?_
 refine yF 0 2 rfl rfl fun f0_2 => ?_
 refine yF 1 0 rfl rfl fun f1_0 => ?_
 refine yF 1 1 rfl rfl fun f1_1 => ?_
 refine yF 1 2 rfl rfl fun f1_2 => ?_
 refine yF 2 0 rfl rfl fun f2_0 => ?_
 iterate 10 refine z ?_
 refine zC Tryz.call90 ?_ (hf := ok_spec_IsStore (s := x))
 iterate 3 refine z ?_
 refine o_callG (gd_bool rfl rfl rfl rfl rfl) rfl rfl Tryz.call8 ok_spec_IsKey (fun hg => (as_cons (ev_opt rfl hg) (ag_agg (ag_cons ac_dv (ag_cons ac_dv (ag_cons ac_dv ag_nil)))) as_nil)) rfl rfl ?_
 iterate 4 refine z ?_
 refine o_callG (gd_bool rfl rfl rfl rfl rfl) rfl rfl Tryz.call22 ok_spec_IsRecord (fun hg => (as_cons (ev_opt rfl hg) (ag_agg (ag_cons ac_dv ag_nil)) as_nil)) rfl rfl ?_
 iterate 3 refine z ?_
 refine yQ rfl (fun c1 => ?_) fun c1 => ?_
 ·skip
  iterate 2 refine z ?_
  refine zK 8971 Tryz.call102 ?_ (hf := ok_spec_l6Copy (x := x) (by omega))
  iterate 3 refine z ?_
  rw [putN, if_pos c1]
  refine ok_weak (σ' := ⟨[(6, .box 6 0), (7, .one (.dv [] (.bool (false))))], [(6, 110, [(.dv [] (.str ((x).1))), (.key 9001), (.dv [] (.int .i64 ((x).2.2)))])], [(9001, some (kcOf false (itemsD (x.2.1))))]⟩) (weak_sub ⟨rfl, rfl, trivial⟩ ⟨rfl, trivial⟩ ⟨rfl, trivial⟩ rfl) ?_
  iterate 2 refine z ?_
  refine fin2 (res_cell hT rfl rfl rfl rfl) (res_tmp rfl) rfl rfl ?_
  first | exact ⟨rfl, rfl⟩ | skip
 ·skip
  have hau := sto_auto c1
  iterate 4 refine z ?_
  refine zK 8971 Tryz.call102 ?_ (hf := ok_spec_l6Copy (x := x) (by omega))
  iterate 7 refine z ?_
  refine zC Tryz.call105 ?_ (hf := ok_spec_FindItem)
  iterate 6 refine z ?_
  refine yQ rfl (fun c2 => ?_) fun c2 => ?_
  ·skip
   have d2 := of_decide_eq_true c2
   have hlt := fndK_lt d2
   refine ok_seq ?_
   refine ok_regionD (oB := [3, 4, 5, 6, 8]) (oK := [9001]) (by kernel_rfl) rfl rfl ?_
   refine zD 0 ?_
   refine zD 1 ?_
   refine zD 2 ?_
   refine zD 3 ?_
   refine d_callK 9000 4 rfl (by kernel_rfl) rfl rfl rfl Tryz.call93 (ok_spec_l5Copy (by omega)) (as_cons (ev_tmp rfl) (ag_agg (ag_cons ac_dv ag_nil)) as_nil) rfl rfl rfl rfl rfl ?_
   refine d_take 5 rfl (by kernel_rfl) rfl rfl (pu_indexK (i := (fndK (x) (k)).toNat) hT rfl rfl rfl (ev_tmp rfl) rfl (ev_tmp rfl) (by omega) (by show _ < ((x.2.1)).length; omega)) rfl rfl rfl rfl ?_
   refine zD 6 ?_
   refine d_chain [7] rfl rfl (by kernel_rfl) ?_
   refine o_storeE (js := [9003]) (cs := (setI x.2.1 (fndK x k).toNat r).flatMap eItem) hT rfl rfl rfl rfl (ev_tmp rfl) (ev_tmp rfl) rfl rfl rfl rfl (ow_cons' (ow_key rfl) ow_nil rfl) (by decide) (by decide) rfl (by show _ ≤ List.length ((x.2.1).flatMap eItem); rw [len4]; omega) (setR_set (by omega)) ?_
   simp only [killT, killB, SV.kill, CV.kill, kk, Nat.reduceBEq]
   refine z ?_
   refine ok_seq ?_
   refine ok_weak (weak_eq (k := 9001) (c' := kcOf false (itemsD (setI x.2.1 (fndK x k).toNat r))) rfl (congrArg (fun n => KC.mk false 128 4 n ((setI x.2.1 (fndK x k).toNat r).flatMap eItem)) setI_len.symm) rfl) ?_
   refine ok_region ?_
   iterate 4 refine z ?_
   rw [put_f c1 d2]
   refine ok_weak (σ' := ⟨[(6, .box 6 0), (7, .one (.dv [] (.bool (true))))], [(6, 110, [(.dv [] (.str ((x).1))), (.key 9001), (.dv [] (.int .i64 ((x).2.2)))])], [(9001, some (kcOf false (itemsD (setI x.2.1 (fndK x k).toNat r))))]⟩) (weak_sub ⟨rfl, rfl, trivial⟩ ⟨rfl, trivial⟩ ⟨rfl, trivial⟩ rfl) ?_
   iterate 2 refine z ?_
   refine fin2 (res_cell hT rfl rfl rfl rfl) (res_tmp rfl) rfl rfl ?_
   first | exact ⟨rfl, rfl⟩ | skip
  ·skip
   have d2 := of_decide_eq_false c2
   iterate 9 refine z ?_
   refine yQ rfl (fun c3 => ?_) fun c3 => ?_
   ·skip
    have d3 := of_decide_eq_true c3
    iterate 5 refine z ?_
    rw [put_l c1 d2 d3]
    refine ok_weak (σ' := ⟨[(6, .box 6 0), (7, .one (.dv [] (.bool (false))))], [(6, 110, [(.dv [] (.str ((x).1))), (.key 9001), (.dv [] (.int .i64 ((x).2.2)))])], [(9001, some (kcOf false (itemsD (x.2.1))))]⟩) (weak_sub ⟨rfl, rfl, trivial⟩ ⟨rfl, trivial⟩ ⟨rfl, trivial⟩ rfl) ?_
    iterate 2 refine z ?_
    refine fin2 (res_cell hT rfl rfl rfl rfl) (res_tmp rfl) rfl rfl ?_
    first | exact ⟨rfl, rfl⟩ | skip
   ·skip
    have d3 := of_decide_eq_false c3
    iterate 7 refine z ?_
    refine ok_loop (ι := Nat) (fun zz => ⟨[(3, .box 3 0), (4, .box 4 0), (5, .box 5 0), (6, .box 6 0), (7, .one (.dv [] (.bool (false)))), (8, .box 8 0), (10, .one (.dv [] (.int .i64 ((zz : Int)))))], [(3, 110, [(.dv [] (.str (x.1))), (.dv [] (itemsD (x.2.1))), (.dv [] (.int .i64 (x.2.2)))]), (4, 29, [(.dv [] (.int .i64 (k.1))), (.dv [] (.int .i64 (k.2.1))), (.dv [] (.str (k.2.2)))]), (5, 32, [(.dv [] (fieldsD (r)))]), (6, 110, [(.dv [] (.str (ByteArray.empty))), .nil, (.dv [] (.int .i64 (0)))]), (8, 110, [(.dv [] (.str ((x).1))), (.key 9001), (.dv [] (.int .i64 ((x).2.2)))])], [(9001, some (kcOf false (.sl 128 4 (x.2.1.length) (x.2.1.flatMap eItem))))]⟩) (fun zz => zz ≤ x.2.1.length ∧ posK k x.2.1 = zz + posK k (x.2.1.drop zz)) (fun zz => x.2.1.length - zz) (0) ?_ (weak_sub ⟨rfl, rfl, rfl, rfl, rfl, rfl, rfl, trivial⟩ ⟨rfl, rfl, rfl, rfl, rfl, trivial⟩ ⟨rfl, trivial⟩ rfl) (fun zz hx => ?_)
    ·exact ⟨Nat.zero_le _, by simp⟩
    obtain ⟨j, rfl⟩ : ∃ v, v = zz := ⟨_, rfl⟩
    replace hx : j ≤ x.2.1.length ∧ posK k x.2.1 = j + posK k (x.2.1.drop j) := hx
    obtain ⟨hj, hp⟩ := hx
    show Ok _ _ _ _ _ (⟨[(3, .box 3 0), (4, .box 4 0), (5, .box 5 0), (6, .box 6 0), (7, .one (.dv [] (.bool (false)))), (8, .box 8 0), (10, .one (.dv [] (.int .i64 ((j : Int)))))], [(3, 110, [(.dv [] (.str (x.1))), (.dv [] (itemsD (x.2.1))), (.dv [] (.int .i64 (x.2.2)))]), (4, 29, [(.dv [] (.int .i64 (k.1))), (.dv [] (.int .i64 (k.2.1))), (.dv [] (.str (k.2.2)))]), (5, 32, [(.dv [] (fieldsD (r)))]), (6, 110, [(.dv [] (.str (ByteArray.empty))), .nil, (.dv [] (.int .i64 (0)))]), (8, 110, [(.dv [] (.str ((x).1))), (.key 9001), (.dv [] (.int .i64 ((x).2.2)))])], [(9001, some (kcOf false (.sl 128 4 (x.2.1.length) (x.2.1.flatMap eItem))))]⟩ : St)
    refine ok_seq ?_
    refine ok_seq ?_
    refine ok_regionD (oB := [3, 4, 5, 6, 8]) (oK := [9001]) (by kernel_rfl) rfl rfl ?_
    refine zD 0 ?_
    refine zD 1 ?_
    refine zD 2 ?_
    refine zD 3 ?_
    refine zD 4 ?_
    refine zD 5 ?_
    refine zDG 6 ?_
    refine zDG 7 ?_
    refine zDG 8 ?_
    refine zDG 9 ?_
    refine zDG 10 ?_
    refine zDG 11 ?_
    refine zDG 12 ?_
    refine d_callG 13 rfl (by kernel_rfl) (gd_bool rfl rfl rfl rfl rfl) rfl rfl Tryz.call101 ok_spec_CompareKeys (fun hg => (as_cons (ev_opt rfl hg) (ag_agg (ag_cons ac_dv (ag_cons ac_dv (ag_cons ac_dv ag_nil)))) (as_cons (ev_opt rfl hg) (ag_agg (ag_cons ac_dv (ag_cons ac_dv (ag_cons ac_dv ag_nil)))) as_nil))) rfl rfl ?_
    refine zDG 14 ?_
    refine zD 15 ?_
    refine d_done (by kernel_rfl) ?_
    refine z ?_
    refine yQ rfl (fun c4 => ?_) fun c4 => ?_
    ·skip
     have hst := posK_step hp c4
     have hst1 := hst.1
     iterate 3 refine z ?_
     refine ok_region ?_
     iterate 3 refine z ?_
     refine ops_nil ?_
     iterate 2 refine z ?_
     refine ⟨j + 1, ?_, ?_, weak_sub ⟨rfl, rfl, rfl, rfl, rfl, rfl, rfl, trivial⟩ ⟨rfl, rfl, rfl, rfl, rfl, trivial⟩ ⟨rfl, trivial⟩ rfl⟩
     ·exact ⟨by omega, hst.2⟩
     ·omega
    ·skip
     have hpos := posK_stop hj hp c4
     iterate 6 refine z ?_
     refine o_build0 (k := 65) hT rfl rfl rfl rfl rfl rfl rfl rfl ?_
     iterate 3 refine z ?_
     refine o_appSubB (b8 := 8) (i8 := 1) (k := 65) (j := 9001) (s := 67) (n := (x.2.1.take j).length) (cs := (x.2.1.take j).flatMap eItem) (c2s := List.replicate (j * 4) .hole ++ (x.2.1.drop j).flatMap eItem) hT rfl rfl rfl (sl_h hT rfl rfl rfl (ev_tmp rfl) rfl (ev_tmp rfl) (by omega) (by dsimp only [kcOf]; omega)) rfl rfl rfl rfl rfl rfl rfl (ev_tmp rfl) rfl rfl rfl rfl rfl rfl (by decide) rfl rfl ⟨rfl, rfl⟩ (by omega) (by dsimp only [kcOf]; omega) (by dsimp only [kcOf]; omega) (by dsimp only [kcOf]; omega) (by rw [List.length_take, Nat.min_eq_left (by omega)]; simp) (sub_lo) (holed_lo) rfl rfl rfl ?_
     simp only [killT, killB, SV.kill, CV.kill, kk, Nat.reduceBEq]
     iterate 2 refine z ?_
     refine ok_seq ?_
     refine ok_regionH [0, 1, 2, 3, 4, 5] (oB := [3, 4, 5, 6, 8]) (oK := [65, 9001]) (by kernel_rfl) rfl rfl ?_
     refine zD 0 ?_
     refine zD 1 ?_
     refine zD 2 ?_
     refine d_callK 9000 3 rfl (by kernel_rfl) rfl rfl rfl Tryz.call93 (ok_spec_l5Copy (by omega)) (as_cons (ev_tmp rfl) (ag_agg (ag_cons ac_dv ag_nil)) as_nil) rfl rfl rfl rfl rfl ?_
     refine d_take 4 rfl (by kernel_rfl) rfl rfl (pu_build hT hB rfl rfl rfl (bp_cons (ev_tmp rfl) rfl rfl rfl rfl rfl (bp_cons (ev_tmp rfl) rfl rfl rfl rfl rfl bp_nil))) rfl rfl rfl rfl ?_
     refine d_build1 (k := 76) (js := [9003]) 5 hT rfl (by kernel_rfl) rfl rfl rfl rfl rfl rfl rfl rfl rfl (ev_tmp rfl) rfl rfl (ow_cons' (ow_dv rfl) (ow_cons' (ow_dv rfl) (ow_cons' (ow_dv rfl) (ow_cons' (ow_key rfl) ow_nil rfl) rfl) rfl) rfl) (by decide) (by decide) rfl rfl (by decide) ?_
     simp only [killT, killB, SV.kill, CV.kill, kk, Nat.reduceBEq]
     refine d_chain [6, 7] rfl rfl (by kernel_rfl) ?_
     refine o_appK (k := 65) (j := 76) (cs := (x.2.1.take j ++ [(k, r)]).flatMap eItem) (n := (x.2.1.take j ++ [(k, r)]).length) hT rfl rfl rfl rfl rfl rfl rfl (ev_tmp rfl) rfl rfl rfl (ev_tmp rfl) rfl rfl (by decide) (by dsimp only [kcOf]; simp only [List.length_take]; omega) (by dsimp only [kcOf]; simp only [List.length_take]; omega) (by simp) (by rw [List.flatMap_append]; rfl) ?_
     simp only [killT, killB, SV.kill, CV.kill, kk, Nat.reduceBEq]
     iterate 7 refine z ?_
     refine o_appSub (k := 65) (j := 9001) (s := 80) (n := (insI x.2.1 j (k, r)).length) (cs := (insI x.2.1 j (k, r)).flatMap eItem) (c2s := _) hT rfl rfl rfl (sl_l hT rfl rfl rfl (ev_tmp rfl) rfl (ev_tmp rfl) (by omega) (by dsimp only [kcOf]; omega)) rfl rfl rfl rfl rfl rfl rfl (ev_tmp rfl) rfl rfl rfl rfl rfl rfl (by decide) rfl rfl ⟨rfl, rfl⟩ (by dsimp only [kcOf]; omega) (by dsimp only [kcOf]; omega) (by dsimp only [kcOf]; simp only [List.length_append, List.length_take, List.length_singleton]; omega) (by dsimp only [kcOf]; simp only [List.length_append, List.length_take, List.length_singleton]; omega) (by rw [insI_len]; simp; omega) (sub_hi hj) (rfl) ?_
     simp only [killT, killB, SV.kill, CV.kill, kk, Nat.reduceBEq]
     iterate 14 refine z ?_
     refine o_callG (gd_bool rfl rfl rfl rfl rfl) rfl rfl Tryz.call20 ok_spec_l1In (fun hg => (as_cons (ev_opt rfl hg) (ag_one ac_dv) (as_cons (ev_opt rfl hg) (ag_one ac_dv) (as_cons (ev_int (inR_lit rfl)) (ag_one ac_dv) as_nil)))) rfl rfl ?_
     iterate 2 refine z ?_
     refine yQ rfl (fun c5 => ?_) fun c5 => ?_
     ·skip
      refine ok_region ?_
      iterate 5 refine z ?_
      refine ok_seq ?_
      refine ok_weak (weak_swapB (b := 8) (i := 1) (k := 65) (k' := 9001) rfl rfl rfl rfl (by decide) rfl rfl) ?_
      simp only [killT, killB, SV.kill, CV.kill, kk, Nat.reduceBEq]
      refine ok_region ?_
      iterate 4 refine z ?_
      rw [put_i c1 d2 d3 hpos (auto_y c5)]
      refine ok_weak (σ' := ⟨[(6, .box 6 0), (7, .one (.dv [] (.bool (true))))], [(6, 110, [(.dv [] (.str ((x).1))), (.key 9001), (.dv [] (.int .i64 (k.2.1)))])], [(9001, some (kcOf false (itemsD (insI x.2.1 j (k, r)))))]⟩) (weak_sub ⟨rfl, rfl, trivial⟩ ⟨rfl, trivial⟩ ⟨rfl, trivial⟩ rfl) ?_
      refine z ?_
      refine fin2 (res_cell hT rfl rfl rfl rfl) (res_tmp rfl) rfl rfl ?_
      first | exact ⟨rfl, rfl⟩ | skip
     ·skip
      iterate 2 refine z ?_
      refine ok_seq ?_
      refine ok_weak (weak_swapB (b := 8) (i := 1) (k := 65) (k' := 9001) rfl rfl rfl rfl (by decide) rfl rfl) ?_
      simp only [killT, killB, SV.kill, CV.kill, kk, Nat.reduceBEq]
      refine ok_region ?_
      iterate 4 refine z ?_
      rw [put_i c1 d2 d3 hpos (auto_n c5)]
      refine ok_weak (σ' := ⟨[(6, .box 6 0), (7, .one (.dv [] (.bool (true))))], [(6, 110, [(.dv [] (.str ((x).1))), (.key 9001), (.dv [] (.int .i64 ((x).2.2)))])], [(9001, some (kcOf false (itemsD (insI x.2.1 j (k, r)))))]⟩) (weak_sub ⟨rfl, rfl, trivial⟩ ⟨rfl, trivial⟩ ⟨rfl, trivial⟩ rfl) ?_
      refine z ?_
      refine fin2 (res_cell hT rfl rfl rfl rfl) (res_tmp rfl) rfl rfl ?_
      first | exact ⟨rfl, rfl⟩ | skip
end Go.Proofs.YtoigmlbidpocnaaGreat

namespace Go.Proofs.YtoigmlbidpocnaaGreat
open Go.RowKit
open Go.Proofs
set_option linter.unusedVariables false
set_option linter.unusedSimpArgs false

def addN (x : StoreT) (k : KeyT) (r : RecT) : StoreT × Bool := if 0 ≤ fndK x k then (x, false) else putN x k r
theorem add_yes {x : StoreT} {k : KeyT} {r : RecT} (h : 0 ≤ fndK x k) : addN x k r = (x, false) := if_pos h
theorem add_no {x : StoreT} {k : KeyT} {r : RecT} (h : ¬ 0 ≤ fndK x k) : addN x k r = putN x k r := if_neg h
theorem ok_spec_AddItem {x : StoreT} {k : KeyT} {r : RecT} (hb : wStore x ≤ 1048576) (hb2 : r.length ≤ 1048576) : KFn Tryz.prog 103 [.agg [(.dv [] (.str (x.1))), (.dv [] (itemsD (x.2.1))), (.dv [] (.int .i64 (x.2.2)))], .agg [(.dv [] (.int .i64 (k.1))), (.dv [] (.int .i64 (k.2.1))), (.dv [] (.str (k.2.2)))], .agg [(.dv [] (fieldsD (r)))]] (.tup [(true, [(.dv [] (.str ((addN x k r).1.1))), (.key 9001), (.dv [] (.int .i64 ((addN x k r).1.2.2)))]), (false, [(.dv [] (.bool ((addN x k r).2)))])]) [(9001, some (kcOf false (itemsD ((addN x k r).1.2.1))))] := by
 refine ⟨fn_intro Tryz.func103 rfl Tryz.ntmps103 Tryz.results103 rfl (fun C => ?_)⟩
 refine yF 0 0 rfl rfl fun f0_0 => ?_
 refine yF 0 1 rfl rfl fun f0_1 => ?_
 refine yF 0 2 rfl rfl fun f0_2 => ?_
 refine yF 1 0 rfl rfl fun f1_0 => ?_
 refine yF 1 1 rfl rfl fun f1_1 => ?_
 refine yF 1 2 rfl rfl fun f1_2 => ?_
 refine yF 2 0 rfl rfl fun f2_0 => ?_
 iterate 11 refine z ?_
 refine zC Tryz.call105 ?_ (hf := ok_spec_FindItem)
 iterate 2 refine z ?_
 refine yQ rfl (fun c1 => ?_) fun c1 => ?_
 ·skip
  have d1 := of_decide_eq_true c1
  iterate 2 refine z ?_
  refine zK 8971 Tryz.call102 ?_ (hf := ok_spec_l6Copy (x := x) (by omega))
  iterate 3 refine z ?_
  rw [add_yes d1]
  refine ok_weak (σ' := ⟨[(6, .box 6 0), (7, .one (.dv [] (.bool (false))))], [(6, 110, [(.dv [] (.str ((x).1))), (.key 9001), (.dv [] (.int .i64 ((x).2.2)))])], [(9001, some (kcOf false (itemsD (x.2.1))))]⟩) (weak_sub ⟨rfl, rfl, trivial⟩ ⟨rfl, trivial⟩ ⟨rfl, trivial⟩ rfl) ?_
  iterate 2 refine z ?_
  refine fin2 (res_cell hT rfl rfl rfl rfl) (res_tmp rfl) rfl rfl ?_
  first | exact ⟨rfl, rfl⟩ | skip
 ·skip
  have d1 := of_decide_eq_false c1
  iterate 6 refine z ?_
  refine zK 0 Tryz.call95 ?_ (hf := ok_spec_PutItem (x := x) (k := k) (r := r) (by omega) (by omega))
  iterate 5 refine z ?_
  rw [add_no d1]
  refine ok_weak (σ' := ⟨[(6, .box 6 0), (7, .one (.dv [] (.bool ((putN (x) (k) (r)).2))))], [(6, 110, [(.dv [] (.str ((putN (x) (k) (r)).1.1))), (.key 9001), (.dv [] (.int .i64 ((putN (x) (k) (r)).1.2.2)))])], [(9001, some (kcOf false (itemsD ((putN x k r).1.2.1))))]⟩) (weak_sub ⟨rfl, rfl, trivial⟩ ⟨rfl, trivial⟩ ⟨rfl, trivial⟩ rfl) ?_
  refine z ?_
  refine fin2 (res_cell hT rfl rfl rfl rfl) (res_tmp rfl) rfl rfl ?_
  first | exact ⟨rfl, rfl⟩ | skip
end Go.Proofs.YtoigmlbidpocnaaGreat

namespace Go.Proofs.YtoigmlbidpocnaaGreat
open Go.RowKit
open Go.Proofs
set_option linter.unusedVariables false
set_option linter.unusedSimpArgs false

def keyA (x : StoreT) : KeyT := (1, x.2.2 + 1, ByteArray.empty)
def autoN (x : StoreT) (r : RecT) : StoreT × KeyT × Bool :=
 if (1000000 : Int) ≤ x.2.2 then (x, (0, 0, ByteArray.empty), false)
 else if (addN x (keyA x) r).2 then ((addN x (keyA x) r).1, keyA x, true) else (x, (0, 0, ByteArray.empty), false)
theorem putN_f {x : StoreT} {k : KeyT} {r : RecT} (h : (putN x k r).2 = false) : (putN x k r).1 = x := by
 unfold putN at h ⊢
 split
 ·rfl
 ·rename_i h1
  rw [if_neg h1] at h
  split
  ·rename_i h2; rw [if_pos h2] at h; cases h
  ·rename_i h2
   rw [if_neg h2] at h
   split
   ·rfl
   ·rename_i h3; rw [if_neg h3] at h; cases h
theorem auto_full {x : StoreT} {r : RecT} (h : (1000000 : Int) ≤ x.2.2) : autoN x r = (x, (0, 0, ByteArray.empty), false) := if_pos h
theorem auto_bad2 {x : StoreT} {r : RecT} (h : ¬ (1000000 : Int) ≤ x.2.2) (h2 : (!(addN x (keyA x) r).2) = true) : autoN x r = (x, (0, 0, ByteArray.empty), false) := by
 have h3 : (addN x (keyA x) r).2 = false := by simpa using h2
 rw [autoN, if_neg h, if_neg (by rw [h3]; simp)]
theorem auto_good {x : StoreT} {r : RecT} (h : ¬ (1000000 : Int) ≤ x.2.2) (h2 : (!(addN x (keyA x) r).2) = false) : autoN x r = ((addN x (keyA x) r).1, keyA x, true) := by
 rw [autoN, if_neg h, if_pos (by simpa using h2)]
theorem ok_spec_AutoItem {x : StoreT} {r : RecT} (hb : wStore x ≤ 1048576) (hb2 : r.length ≤ 1048576) : KFn Tryz.prog 91 [.agg [(.dv [] (.str (x.1))), (.dv [] (itemsD (x.2.1))), (.dv [] (.int .i64 (x.2.2)))], .agg [(.dv [] (fieldsD (r)))]] (.tup [(true, [(.dv [] (.str ((autoN x r).1.1))), (.key 9001), (.dv [] (.int .i64 ((autoN x r).1.2.2)))]), (true, [(.dv [] (.int .i64 ((autoN x r).2.1.1))), (.dv [] (.int .i64 ((autoN x r).2.1.2.1))), (.dv [] (.str ((autoN x r).2.1.2.2)))]), (false, [(.dv [] (.bool ((autoN x r).2.2)))])]) [(9001, some (kcOf false (itemsD ((autoN x r).1.2.1))))] := by
 refine ⟨fn_intro Tryz.func91 rfl Tryz.ntmps91 Tryz.results91 rfl (fun C => ?_)⟩
 refine yF 0 0 rfl rfl fun f0_0 => ?_
 refine yF 0 1 rfl rfl fun f0_1 => ?_
 refine yF 0 2 rfl rfl fun f0_2 => ?_
 refine yF 1 0 rfl rfl fun f1_0 => ?_
 iterate 13 refine z ?_
 refine yQ rfl (fun c1 => ?_) fun c1 => ?_
 ·skip
  have d1 := of_decide_eq_true c1
  iterate 2 refine z ?_
  refine zK 8971 Tryz.call102 ?_ (hf := ok_spec_l6Copy (x := x) (by omega))
  refine yO rfl rfl (pu_build hT hB rfl rfl rfl bp_nil) rfl ?_
  iterate 4 refine z ?_
  rw [auto_full d1]
  refine ok_weak (σ' := ⟨[(4, .box 4 0), (5, .box 5 0), (6, .one (.dv [] (.bool (false))))], [(4, 110, [(.dv [] (.str ((x).1))), (.key 9001), (.dv [] (.int .i64 ((x).2.2)))]), (5, 29, [(.dv [] (.int .i64 (0))), (.dv [] (.int .i64 (0))), (.dv [] (.str (ByteArray.empty)))])], [(9001, some (kcOf false (itemsD (x.2.1))))]⟩) (weak_sub ⟨rfl, rfl, rfl, trivial⟩ ⟨rfl, rfl, trivial⟩ ⟨rfl, trivial⟩ rfl) ?_
  iterate 2 refine z ?_
  refine fin3 (res_cell hT rfl rfl rfl rfl) (res_cell hT rfl rfl rfl rfl) (res_tmp rfl) rfl rfl rfl ?_
  first | exact ⟨rfl, rfl⟩ | skip
 ·skip
  have d1 := of_decide_eq_false c1
  iterate 6 refine z ?_
  refine yO rfl rfl (pu_build hT hB rfl rfl rfl (bp_cons (ev_int (inR_lit rfl)) rfl rfl rfl rfl rfl (bp_cons (ev_tmp rfl) rfl rfl rfl rfl rfl bp_nil))) rfl ?_
  iterate 7 refine z ?_
  refine zK 0 Tryz.call103 ?_ (hf := ok_spec_AddItem (x := x) (k := keyA x) (r := r) (by omega) (by omega))
  iterate 12 refine z ?_
  refine yQ rfl (fun c2 => ?_) fun c2 => ?_
  ·skip
   refine ok_seq ?_
   refine ok_weak (σ' := ⟨[(2, .box 2 0), (4, .box 4 0), (5, .box 5 0), (6, .one (.dv [] (.bool (false))))], [(2, 110, [(.dv [] (.str (x.1))), (.dv [] (itemsD (x.2.1))), (.dv [] (.int .i64 (x.2.2)))]), (4, 110, [(.dv [] (.str (ByteArray.empty))), .nil, (.dv [] (.int .i64 (0)))]), (5, 29, [(.dv [] (.int .i64 (0))), (.dv [] (.int .i64 (0))), (.dv [] (.str (ByteArray.empty)))])], []⟩) (weak_sub ⟨rfl, rfl, rfl, rfl, trivial⟩ ⟨rfl, rfl, rfl, trivial⟩ trivial rfl) ?_
   refine ok_region ?_
   refine z ?_
   refine zK 8971 Tryz.call102 ?_ (hf := ok_spec_l6Copy (x := x) (by omega))
   refine yO rfl rfl (pu_build hT hB rfl rfl rfl bp_nil) rfl ?_
   iterate 4 refine z ?_
   rw [auto_bad2 d1 c2]
   refine ok_weak (σ' := ⟨[(4, .box 4 0), (5, .box 5 0), (6, .one (.dv [] (.bool (false))))], [(4, 110, [(.dv [] (.str ((x).1))), (.key 9001), (.dv [] (.int .i64 ((x).2.2)))]), (5, 29, [(.dv [] (.int .i64 (0))), (.dv [] (.int .i64 (0))), (.dv [] (.str (ByteArray.empty)))])], [(9001, some (kcOf false (itemsD (x.2.1))))]⟩) (weak_sub ⟨rfl, rfl, rfl, trivial⟩ ⟨rfl, rfl, trivial⟩ ⟨rfl, trivial⟩ rfl) ?_
   iterate 2 refine z ?_
   refine fin3 (res_cell hT rfl rfl rfl rfl) (res_cell hT rfl rfl rfl rfl) (res_tmp rfl) rfl rfl rfl ?_
   first | exact ⟨rfl, rfl⟩ | skip
  ·skip
   iterate 2 refine z ?_
   refine ok_seq ?_
   refine ok_regionW 4 (oB := [2, 3, 5, 7, 8]) (oK := [9001]) (by kernel_rfl) rfl rfl ?_
   refine w_take 0 rfl (by kernel_rfl) rfl rfl (pu_loadBoxA hT rfl rfl (ev_tmp rfl) rfl rfl) rfl rfl rfl rfl rfl ?_
   refine w_take 1 rfl (by kernel_rfl) rfl rfl (pu_loadBoxA hT rfl rfl (ev_tmp rfl) rfl rfl) rfl rfl rfl rfl rfl ?_
   refine w_store 2 rfl (by kernel_rfl) rfl hT rfl rfl rfl (ev_tmp rfl) (ev_tmp rfl) rfl rfl rfl rfl rfl rfl ?_
   refine w_chain [3, 4] rfl rfl (by kernel_rfl) ?_
   iterate 3 refine z ?_
   rw [auto_good d1 c2]
   refine ok_weak (σ' := ⟨[(4, .box 4 0), (5, .box 5 0), (6, .one (.dv [] (.bool (true))))], [(4, 110, [(.dv [] (.str ((addN (x) (keyA x) (r)).1.1))), (.key 9001), (.dv [] (.int .i64 ((addN (x) (keyA x) (r)).1.2.2)))]), (5, 29, [(.dv [] (.int .i64 (1))), (.dv [] (.int .i64 ((x.2.2) + (1)))), (.dv [] (.str (ByteArray.empty)))])], [(9001, some (kcOf false (itemsD ((addN x (keyA x) r).1.2.1))))]⟩) (weak_sub ⟨rfl, rfl, rfl, trivial⟩ ⟨rfl, rfl, trivial⟩ ⟨rfl, trivial⟩ rfl) ?_
   refine z ?_
   refine fin3 (res_cell hT rfl rfl rfl rfl) (res_cell hT rfl rfl rfl rfl) (res_tmp rfl) rfl rfl rfl ?_
   first | exact ⟨rfl, rfl⟩ | skip
end Go.Proofs.YtoigmlbidpocnaaGreat

namespace Go.Proofs.YtoigmlbidpocnaaGreat
open Go.RowKit
open Go.Proofs
set_option linter.unusedVariables false
set_option linter.unusedSimpArgs false

def uvL (n : Nat) : List UInt8 := if h : n < 128 then [UInt8.ofNat n] else UInt8.ofNat (n % 128 + 128) :: uvL (n / 128)
termination_by n
decreasing_by omega
theorem uvL_lt {n : Nat} (h : n < 128) : uvL n = [UInt8.ofNat n] := by rw [uvL, dif_pos h]
theorem uvL_ge {n : Nat} (h : ¬ n < 128) : uvL n = UInt8.ofNat (n % 128 + 128) :: uvL (n / 128) := by rw [uvL, dif_neg h]
def appU (b : List UInt8) (n : Int) : List UInt8 := if 0 ≤ n ∧ n ≤ 1000000000000 then b ++ uvL n.toNat else b
theorem inr_of {n : Int} (h : (!(decide (0 ≤ n) && decide (n ≤ 1000000000000))) = false) : 0 ≤ n ∧ n ≤ 1000000000000 := by simpa using h
theorem inr_no {n : Int} (h : (!(decide (0 ≤ n) && decide (n ≤ 1000000000000))) = true) : ¬ (0 ≤ n ∧ n ≤ 1000000000000) := fun h2 => by
 rw [decide_eq_true h2.1, decide_eq_true h2.2] at h; cases h
theorem appU_in {b : List UInt8} {n : Int} (h : 0 ≤ n ∧ n ≤ 1000000000000) : appU b n = b ++ uvL n.toNat := if_pos h
theorem appU_out {b : List UInt8} {n : Int} (h : ¬ (0 ≤ n ∧ n ≤ 1000000000000)) : appU b n = b := if_neg h
theorem uvL_len : ∀ (k n : Nat), n < 128 ^ (k + 1) → (uvL n).length ≤ k + 1
 | 0, n, h => by rw [uvL_lt (by simpa using h)]; simp
 | k + 1, n, h => by
  by_cases h1 : n < 128
  ·rw [uvL_lt h1]; simp
  ·rw [uvL_ge h1, List.length_cons]
   have := uvL_len k (n / 128) (by rw [Nat.pow_succ] at h; omega)
   omega
theorem uv_len {n : Nat} (h : n ≤ 1000000000000) : (uvL n).length ≤ 6 := uvL_len 5 n (by omega)
theorem appU_len (b : List UInt8) (n : Int) : (appU b n).length ≤ b.length + 6 := by
 unfold appU
 split
 ·rename_i h
  have := uv_len (n := n.toNat) (by omega)
  rw [List.length_append]; omega
 ·omega
theorem uv_step {o x : List UInt8} {m n : Nat} (ho : o ++ uvL m = x ++ uvL n) (h : (128 : Int) ≤ (m : Int)) : (o ++ [UInt8.ofNat (m % 128 + 128)]) ++ uvL (m / 128) = x ++ uvL n := by
 rw [← ho, uvL_ge (n := m) (by omega)]; simp
theorem uv_end {x o : List UInt8} {n : Int} {m : Nat} (hr : 0 ≤ n ∧ n ≤ 1000000000000) (ho : o ++ uvL m = x ++ uvL n.toNat) (h : ¬ (128 : Int) ≤ (m : Int)) : o ++ [UInt8.ofNat m] = appU x n := by
 rw [appU_in hr, ← ho, uvL_lt (n := m) (by omega)]
theorem byte_of {m : Nat} (z : Int) (hz : z = (m : Int)) : IntKind.u8.wrap z = ((UInt8.ofNat m).toNat : Int) := by
 subst hz
 simp [IntKind.wrap, IntKind.signed, IntKind.bits]
theorem app_byte {o : List UInt8} {m : Nat} {z : Int} (hz : z = (m : Int)) : o.flatMap eByte ++ [DV.int .u8 (IntKind.u8.wrap z)] = (o ++ [UInt8.ofNat m]).flatMap eByte := by
 rw [List.flatMap_append, byte_of z hz]; rfl

theorem ok_impl_copyBytes {x : List UInt8} (hb : x.length ≤ 4398046511104) : KFn Tryz.prog 40 [.one (.dv [] (bytesD (x)))] (.one (.key 3)) [(3, some (kcOf false (bytesD (x))))] := by
 refine ⟨fn_intro Tryz.func40 rfl Tryz.ntmps40 Tryz.results40 rfl (fun C => ?_)⟩
 refine ok_fact (x := .tmp 0) (ev_tmp rfl) fun f0 => ?_
 iterate 4 refine z ?_
 refine o_build0 (k := 3) hT rfl rfl rfl rfl rfl rfl rfl rfl ?_
 refine z ?_
 refine o_appV (k := 3) (cs := (x).flatMap eByte) (n := (x).length) hT rfl rfl rfl rfl rfl rfl rfl (ev_tmp rfl) rfl rfl rfl (ev_tmp rfl) (plain_flat (fun _ => rfl) _) (by first | (dsimp only [kcOf]; omega) | omega) (by first | (dsimp only [kcOf]; omega) | omega) (Nat.zero_add _) (rfl) ?_
 simp only [killT, killB, SV.kill, CV.kill, kk, Nat.reduceBEq]
 iterate 2 refine z ?_
 refine ok_weak (σ' := ⟨[(2, .one (.key 3))], [], [(3, some (kcOf false (bytesD (x))))]⟩) (weak_sub ⟨rfl, trivial⟩ trivial ⟨rfl, trivial⟩ rfl) ?_
 refine z ?_
 refine fin1 (res_tmp rfl) ?_
 exact ⟨rfl, rfl⟩
theorem ok_impl_AppendUvarint {x : List UInt8} {n : Int} (hb : x.length ≤ 2199023255552) : KFn Tryz.prog 16 [.one (.dv [] (bytesD (x))), .one (.dv [] (.int .i64 (n)))] (.one (.key 30)) [(30, some (kcOf false (bytesD (appU x n))))] := by
 refine ⟨fn_intro Tryz.func16 rfl Tryz.ntmps16 Tryz.results16 rfl (fun C => ?_)⟩
 refine ok_fact (x := .tmp 0) (ev_tmp rfl) fun f0 => ?_
 refine ok_fact (x := .tmp 1) (ev_tmp rfl) fun f1 => ?_
 iterate 5 refine z ?_
 refine zK 27 Tryz.call40 ?_ (hf := ok_impl_copyBytes (x := x) (by omega))
 iterate 5 refine z ?_
 refine zC Tryz.call41 ?_ (hf := ok_impl_InRange)
 iterate 2 refine z ?_
 refine yQ rfl (fun c1 => ?_) fun c1 => ?_
 ·skip
  have hno := inr_no c1
  iterate 4 refine z ?_
  refine ok_weak (σ' := ⟨[(4, .one (.key 30))], [], [(30, some (kcOf false (bytesD (appU x n))))]⟩) (weak_sub ⟨rfl, trivial⟩ trivial ⟨(congrArg (fun l : List UInt8 => some (some (KC.mk false 5 1 l.length (l.flatMap eByte)))) (by first | exact (appU_out hno).symm | exact (uv_end hr ho d2))), trivial⟩ rfl) ?_
  iterate 2 refine z ?_
  refine fin1 (res_tmp rfl) ?_
  exact ⟨rfl, rfl⟩
 ·skip
  have hr := inr_of c1
  iterate 4 refine z ?_
  refine ok_loop (ι := Nat × List UInt8) (fun zz => ⟨[(1, .one (.dv [] (.int .i64 ((zz.1 : Int))))), (4, .one .nil), (5, .one (.key 30))], [], [(30, some (kcOf false (.sl 5 1 (zz.2.length) (zz.2.flatMap eByte))))]⟩) (fun zz => zz.2 ++ uvL zz.1 = x ++ uvL n.toNat ∧ zz.1 ≤ 1000000000000) (fun zz => zz.1) ((n.toNat, x)) ?_ (weak_sub ⟨(congrArg (fun z : Int => some (SV.one (CV.dv [] (DV.int .i64 z)))) (show n = ((n.toNat : Nat) : Int) by omega)), rfl, rfl, trivial⟩ trivial ⟨rfl, trivial⟩ rfl) (fun zz hx => ?_)
  ·exact ⟨rfl, by dsimp only; omega⟩
  obtain ⟨m, o⟩ := zz
  replace hx : o ++ uvL m = x ++ uvL n.toNat ∧ m ≤ 1000000000000 := hx
  obtain ⟨ho, hm⟩ := hx
  have hl := congrArg List.length ho
  rw [List.length_append, List.length_append] at hl
  have hl2 := uv_len (n := n.toNat) (by omega)
  show Ok _ _ _ _ _ (⟨[(1, .one (.dv [] (.int .i64 ((m : Int))))), (4, .one .nil), (5, .one (.key 30))], [], [(30, some (kcOf false (.sl 5 1 (o.length) (o.flatMap eByte))))]⟩ : St)
  iterate 5 refine z ?_
  refine yQ rfl (fun c2 => ?_) fun c2 => ?_
  ·skip
   have d2 := of_decide_eq_true c2
   iterate 6 refine z ?_
   refine yO rfl rfl (pu_remN rfl (ev_tmp rfl) (ev_int (inR_lit rfl)) (by omega) (by omega)) rfl ?_
   refine z ?_
   refine yO rfl rfl (pu_convI hT rfl rfl rfl (ev_tmp rfl)) rfl ?_
   refine o_build1 (k := 19) (js := []) hT rfl rfl rfl rfl rfl rfl rfl rfl rfl (ev_tmp rfl) rfl rfl (ow_cons' (ow_dv rfl) ow_nil rfl) (by decide) (by decide) rfl rfl ?_
   simp only [killT, killB, SV.kill, CV.kill, kk, Nat.reduceBEq]
   refine o_appK (k := 30) (j := 19) (cs := (o ++ [UInt8.ofNat (m % 128 + 128)]).flatMap eByte) (n := (o ++ [UInt8.ofNat (m % 128 + 128)]).length) hT rfl rfl rfl rfl rfl rfl rfl (ev_tmp rfl) rfl rfl rfl (ev_tmp rfl) rfl rfl (by decide) (by dsimp only [kcOf]; omega) (by dsimp only [kcOf]; omega) (by simp) (app_byte (by omega)) ?_
   simp only [killT, killB, SV.kill, CV.kill, kk, Nat.reduceBEq]
   iterate 2 refine z ?_
   refine ok_region ?_
   refine z ?_
   refine yO rfl rfl (pu_quoN rfl (ev_tmp rfl) (ev_int (inR_lit rfl)) (by omega) (by omega)) rfl ?_
   refine z ?_
   refine ops_nil ?_
   iterate 2 refine z ?_
   refine ⟨(m / 128, o ++ [UInt8.ofNat (m % 128 + 128)]), ?_, ?_, weak_sub ⟨rfl, rfl, rfl, trivial⟩ trivial ⟨rfl, trivial⟩ rfl⟩
   ·exact ⟨uv_step ho d2, by dsimp only; omega⟩
   ·dsimp only; omega
  ·skip
   have d2 := of_decide_eq_false c2
   iterate 8 refine z ?_
   refine yO rfl rfl (pu_convI hT rfl rfl rfl (ev_tmp rfl)) rfl ?_
   refine o_build1 (k := 26) (js := []) hT rfl rfl rfl rfl rfl rfl rfl rfl rfl (ev_tmp rfl) rfl rfl (ow_cons' (ow_dv rfl) ow_nil rfl) (by decide) (by decide) rfl rfl ?_
   simp only [killT, killB, SV.kill, CV.kill, kk, Nat.reduceBEq]
   refine o_appK (k := 30) (j := 26) (cs := (o ++ [UInt8.ofNat m]).flatMap eByte) (n := (o ++ [UInt8.ofNat m]).length) hT rfl rfl rfl rfl rfl rfl rfl (ev_tmp rfl) rfl rfl rfl (ev_tmp rfl) rfl rfl (by decide) (by dsimp only [kcOf]; omega) (by dsimp only [kcOf]; omega) (by simp) (app_byte rfl) ?_
   simp only [killT, killB, SV.kill, CV.kill, kk, Nat.reduceBEq]
   iterate 2 refine z ?_
   refine ok_weak (σ' := ⟨[(4, .one (.key 30))], [], [(30, some (kcOf false (bytesD (appU x n))))]⟩) (weak_sub ⟨rfl, trivial⟩ trivial ⟨(congrArg (fun l : List UInt8 => some (some (KC.mk false 5 1 l.length (l.flatMap eByte)))) (by first | exact (appU_out hno).symm | exact (uv_end hr ho d2))), trivial⟩ rfl) ?_
   refine z ?_
   refine fin1 (res_tmp rfl) ?_
   exact ⟨rfl, rfl⟩
theorem ok_impl_AppendBytes {x y : List UInt8} (hb : x.length ≤ 1099511627776) (hb2 : y.length ≤ 1099511627776) : KFn Tryz.prog 19 [.one (.dv [] (bytesD (x))), .one (.dv [] (bytesD (y)))] (.one (.key 8030)) [(8030, some (kcOf false (bytesD (appU x (y.length : Int) ++ y))))] := by
 refine ⟨fn_intro Tryz.func19 rfl Tryz.ntmps19 Tryz.results19 rfl (fun C => ?_)⟩
 have hal := appU_len x (y.length : Int)
 refine ok_fact (x := .tmp 0) (ev_tmp rfl) fun f0 => ?_
 refine ok_fact (x := .tmp 1) (ev_tmp rfl) fun f1 => ?_
 iterate 7 refine z ?_
 refine zK 8000 Tryz.call16 ?_ (hf := ok_impl_AppendUvarint (x := x) (n := (y.length : Int)) (by omega))
 refine z ?_
 refine o_appV (k := 8030) (cs := (appU x (y.length : Int) ++ y).flatMap eByte) (n := (appU x (y.length : Int) ++ y).length) hT rfl rfl rfl rfl rfl rfl rfl (ev_tmp rfl) rfl rfl rfl (ev_tmp rfl) (plain_flat (fun _ => rfl) _) (by dsimp only [kcOf, KC.old]; omega) (by dsimp only [kcOf, KC.old]; omega) (by simp [kcOf, KC.old]) (by rw [List.flatMap_append]; rfl) ?_
 simp only [killT, killB, SV.kill, CV.kill, kk, Nat.reduceBEq]
 iterate 2 refine z ?_
 refine ok_weak (σ' := ⟨[(4, .one (.key 8030))], [], [(8030, some (kcOf false (bytesD (appU x (y.length : Int) ++ y))))]⟩) (weak_sub ⟨rfl, trivial⟩ trivial ⟨rfl, trivial⟩ rfl) ?_
 refine z ?_
 refine fin1 (res_tmp rfl) ?_
 exact ⟨rfl, rfl⟩
theorem ok_spec_AppendUvarint {x : List UInt8} {n : Int} (hb : x.length ≤ 2199023255552) : KFn Tryz.prog 45 [.one (.dv [] (bytesD (x))), .one (.dv [] (.int .i64 (n)))] (.one (.key 6)) [(6, some (kcOf false (bytesD (appU x n))))] := by
 refine ⟨fn_intro Tryz.func45 rfl Tryz.ntmps45 Tryz.results45 rfl (fun C => ?_)⟩
 refine ok_fact (x := .tmp 0) (ev_tmp rfl) fun f0 => ?_
 refine ok_fact (x := .tmp 1) (ev_tmp rfl) fun f1 => ?_
 iterate 4 refine z ?_
 refine o_build0 (k := 6) hT rfl rfl rfl rfl rfl rfl rfl rfl ?_
 refine z ?_
 refine o_appV (k := 6) (cs := (x).flatMap eByte) (n := (x).length) hT rfl rfl rfl rfl rfl rfl rfl (ev_tmp rfl) rfl rfl rfl (ev_tmp rfl) (plain_flat (fun _ => rfl) _) (by first | (dsimp only [kcOf]; omega) | omega) (by first | (dsimp only [kcOf]; omega) | omega) (Nat.zero_add _) (rfl) ?_
 simp only [killT, killB, SV.kill, CV.kill, kk, Nat.reduceBEq]
 iterate 5 refine z ?_
 refine zC Tryz.call20 ?_ (hf := ok_spec_l1In)
 iterate 2 refine z ?_
 refine yQ rfl (fun c1 => ?_) fun c1 => ?_
 ·skip
  have hno := inr_no c1
  iterate 4 refine z ?_
  refine ok_weak (σ' := ⟨[(4, .one (.key 6))], [], [(6, some (kcOf false (bytesD (appU x n))))]⟩) (weak_sub ⟨rfl, trivial⟩ trivial ⟨(congrArg (fun l : List UInt8 => some (some (KC.mk false 5 1 l.length (l.flatMap eByte)))) (by first | exact (appU_out hno).symm | exact (uv_end hr ho (by omega)))), trivial⟩ rfl) ?_
  iterate 2 refine z ?_
  refine fin1 (res_tmp rfl) ?_
  exact ⟨rfl, rfl⟩
 ·skip
  have hr := inr_of c1
  iterate 4 refine z ?_
  refine ok_loop (ι := Nat × List UInt8) (fun zz => ⟨[(1, .one (.dv [] (.int .i64 ((zz.1 : Int))))), (4, .one .nil), (5, .one (.key 6))], [], [(6, some (kcOf false (.sl 5 1 (zz.2.length) (zz.2.flatMap eByte))))]⟩) (fun zz => zz.2 ++ uvL zz.1 = x ++ uvL n.toNat ∧ zz.1 ≤ 1000000000000) (fun zz => zz.1) ((n.toNat, x)) ?_ (weak_sub ⟨(congrArg (fun z : Int => some (SV.one (CV.dv [] (DV.int .i64 z)))) (show n = ((n.toNat : Nat) : Int) by omega)), rfl, rfl, trivial⟩ trivial ⟨rfl, trivial⟩ rfl) (fun zz hx => ?_)
  ·exact ⟨rfl, by dsimp only; omega⟩
  obtain ⟨m, o⟩ := zz
  replace hx : o ++ uvL m = x ++ uvL n.toNat ∧ m ≤ 1000000000000 := hx
  obtain ⟨ho, hm⟩ := hx
  have hl := congrArg List.length ho
  rw [List.length_append, List.length_append] at hl
  have hl2 := uv_len (n := n.toNat) (by omega)
  show Ok _ _ _ _ _ (⟨[(1, .one (.dv [] (.int .i64 ((m : Int))))), (4, .one .nil), (5, .one (.key 6))], [], [(6, some (kcOf false (.sl 5 1 (o.length) (o.flatMap eByte))))]⟩ : St)
  iterate 5 refine z ?_
  refine yQ rfl (fun c2 => ?_) fun c2 => ?_
  ·skip
   have d2 := of_decide_eq_true c2
   iterate 6 refine z ?_
   refine yO rfl rfl (pu_andR rfl (ev_tmp rfl) (ev_int (inR_lit rfl)) (and127 (by omega) (by omega)) (inR64 (by omega) (by omega))) rfl ?_
   refine yO rfl rfl (pu_orR rfl (ev_tmp rfl) (ev_int (inR_lit rfl)) (or128 (by omega) (by omega)) (inR64 (by omega) (by omega))) rfl ?_
   refine yO rfl rfl (pu_convI hT rfl rfl rfl (ev_tmp rfl)) rfl ?_
   refine o_build1 (k := 20) (js := []) hT rfl rfl rfl rfl rfl rfl rfl rfl rfl (ev_tmp rfl) rfl rfl (ow_cons' (ow_dv rfl) ow_nil rfl) (by decide) (by decide) rfl rfl ?_
   simp only [killT, killB, SV.kill, CV.kill, kk, Nat.reduceBEq]
   refine o_appK (k := 6) (j := 20) (cs := (o ++ [UInt8.ofNat (m % 128 + 128)]).flatMap eByte) (n := (o ++ [UInt8.ofNat (m % 128 + 128)]).length) hT rfl rfl rfl rfl rfl rfl rfl (ev_tmp rfl) rfl rfl rfl (ev_tmp rfl) rfl rfl (by decide) (by dsimp only [kcOf]; omega) (by dsimp only [kcOf]; omega) (by simp) (app_byte (by omega)) ?_
   simp only [killT, killB, SV.kill, CV.kill, kk, Nat.reduceBEq]
   iterate 2 refine z ?_
   refine ok_region ?_
   refine z ?_
   refine yO rfl rfl (pu_shrN rfl (ev_tmp rfl) (ev_int (inR_lit rfl)) (by omega) (by omega) (by show _ ≤ 64; omega)) rfl ?_
   refine z ?_
   refine ops_nil ?_
   iterate 2 refine z ?_
   refine ⟨(m / 128, o ++ [UInt8.ofNat (m % 128 + 128)]), ?_, ?_, weak_sub ⟨(congrArg (fun z : Int => some (SV.one (CV.dv [] (DV.int .i64 z)))) (show ((m : Int) / (2 ^ (7 : Int).toNat : Nat)) = ((m / 128 : Nat) : Int) by rw [show (2 ^ (7 : Int).toNat : Nat) = 128 from rfl]; omega)), rfl, rfl, trivial⟩ trivial ⟨rfl, trivial⟩ rfl⟩
   ·exact ⟨uv_step ho (by omega), by dsimp only; omega⟩
   ·dsimp only; omega
  ·skip
   have d2 := of_decide_eq_false c2
   iterate 8 refine z ?_
   refine yO rfl rfl (pu_convI hT rfl rfl rfl (ev_tmp rfl)) rfl ?_
   refine o_build1 (k := 27) (js := []) hT rfl rfl rfl rfl rfl rfl rfl rfl rfl (ev_tmp rfl) rfl rfl (ow_cons' (ow_dv rfl) ow_nil rfl) (by decide) (by decide) rfl rfl ?_
   simp only [killT, killB, SV.kill, CV.kill, kk, Nat.reduceBEq]
   refine o_appK (k := 6) (j := 27) (cs := (o ++ [UInt8.ofNat m]).flatMap eByte) (n := (o ++ [UInt8.ofNat m]).length) hT rfl rfl rfl rfl rfl rfl rfl (ev_tmp rfl) rfl rfl rfl (ev_tmp rfl) rfl rfl (by decide) (by dsimp only [kcOf]; omega) (by dsimp only [kcOf]; omega) (by simp) (app_byte rfl) ?_
   simp only [killT, killB, SV.kill, CV.kill, kk, Nat.reduceBEq]
   iterate 2 refine z ?_
   refine ok_weak (σ' := ⟨[(4, .one (.key 6))], [], [(6, some (kcOf false (bytesD (appU x n))))]⟩) (weak_sub ⟨rfl, trivial⟩ trivial ⟨(congrArg (fun l : List UInt8 => some (some (KC.mk false 5 1 l.length (l.flatMap eByte)))) (by first | exact (appU_out hno).symm | exact (uv_end hr ho (by omega)))), trivial⟩ rfl) ?_
   refine z ?_
   refine fin1 (res_tmp rfl) ?_
   exact ⟨rfl, rfl⟩
theorem ok_spec_AppendBytes {x y : List UInt8} (hb : x.length ≤ 1099511627776) (hb2 : y.length ≤ 1099511627776) : KFn Tryz.prog 46 [.one (.dv [] (bytesD (x))), .one (.dv [] (bytesD (y)))] (.one (.key 8006)) [(8006, some (kcOf false (bytesD (appU x (y.length : Int) ++ y))))] := by
 refine ⟨fn_intro Tryz.func46 rfl Tryz.ntmps46 Tryz.results46 rfl (fun C => ?_)⟩
 have hal := appU_len x (y.length : Int)
 refine ok_fact (x := .tmp 0) (ev_tmp rfl) fun f0 => ?_
 refine ok_fact (x := .tmp 1) (ev_tmp rfl) fun f1 => ?_
 iterate 7 refine z ?_
 refine zK 8000 Tryz.call45 ?_ (hf := ok_spec_AppendUvarint (x := x) (n := (y.length : Int)) (by omega))
 refine z ?_
 refine o_appV (k := 8006) (cs := (appU x (y.length : Int) ++ y).flatMap eByte) (n := (appU x (y.length : Int) ++ y).length) hT rfl rfl rfl rfl rfl rfl rfl (ev_tmp rfl) rfl rfl rfl (ev_tmp rfl) (plain_flat (fun _ => rfl) _) (by dsimp only [kcOf, KC.old]; omega) (by dsimp only [kcOf, KC.old]; omega) (by simp [kcOf, KC.old]) (by rw [List.flatMap_append]; rfl) ?_
 simp only [killT, killB, SV.kill, CV.kill, kk, Nat.reduceBEq]
 iterate 2 refine z ?_
 refine ok_weak (σ' := ⟨[(4, .one (.key 8006))], [], [(8006, some (kcOf false (bytesD (appU x (y.length : Int) ++ y))))]⟩) (weak_sub ⟨rfl, trivial⟩ trivial ⟨rfl, trivial⟩ rfl) ?_
 refine z ?_
 refine fin1 (res_tmp rfl) ?_
 exact ⟨rfl, rfl⟩
end Go.Proofs.YtoigmlbidpocnaaGreat

namespace Go.Proofs.YtoigmlbidpocnaaGreat
open Go.RowKit
open Go.Proofs
set_option linter.unusedVariables false
set_option linter.unusedSimpArgs false

def be6 (n : Nat) : List UInt8 := (List.range 6).map fun j => UInt8.ofNat (n / 2 ^ (8 * (5 - j)))
def keyN (k : KeyT) : Nat := (k.2.1 + 1000000000000).toNat
def encK (k : KeyT) : List UInt8 := if isKey k then (UInt8.ofNat k.1.toNat :: (if k.1 = 2 then [] else be6 (keyN k))) ++ k.2.2.data.toList else []
theorem be6_len (n : Nat) : (be6 n).length = 6 := by simp [be6]
theorem be6_succ {n j : Nat} (h : j < 6) : (be6 n).take (j + 1) = (be6 n).take j ++ [UInt8.ofNat (n / 2 ^ (8 * (5 - j)))] := by
 rw [List.take_add_one]
 congr 1
 simp [be6, h]
theorem key_rng {k : KeyT} (h : isKey k = true) : (1 ≤ k.1 ∧ k.1 ≤ 3) ∧ (-1000000000000 ≤ k.2.1 ∧ k.2.1 ≤ 1000000000000) ∧ k.2.2.size ≤ 12 := by
 simp only [isKey, kText, Bool.and_eq_true, decide_eq_true_eq] at h
 omega
theorem encK_bad {k : KeyT} (h : isKey k = false) : encK k = [] := by rw [encK, h]; rfl
theorem encK_txt {k : KeyT} (h : isKey k = true) (h2 : k.1 = 2) : encK k = [UInt8.ofNat k.1.toNat] ++ k.2.2.data.toList := by rw [encK, if_pos h, if_pos h2]
theorem encK_num {k : KeyT} {j : Nat} (h : isKey k = true) (h2 : ¬ k.1 = 2) (hj : 6 ≤ j) : encK k = (UInt8.ofNat k.1.toNat :: (be6 (keyN k)).take j) ++ k.2.2.data.toList := by
 rw [encK, if_pos h, if_neg h2, List.take_of_length_le (by rw [be6_len]; exact hj)]
theorem encK_end {k : KeyT} {j : Nat} (h : isKey k = true) (hj : k.1 = 2 → j = 0) (hc : (decide ((0 : Int) ≤ 5 - (j : Int)) && !decide (k.1 = 2)) = false) : encK k = (UInt8.ofNat k.1.toNat :: (be6 (keyN k)).take j) ++ k.2.2.data.toList := by
 by_cases h2 : k.1 = 2
 ·rw [hj h2, encK_txt h h2]; rfl
 ·rw [decide_eq_false h2] at hc
  exact encK_num h h2 (by have h3 := hc; simp at h3; omega)
theorem encK_len (k : KeyT) : (encK k).length ≤ 19 := by
 unfold encK
 split
 ·rename_i h
  have h1 := (key_rng h).2.2
  have h2 : k.2.2.data.toList.length ≤ 12 := h1
  split
  ·simp only [List.length_append, List.length_cons, List.length_nil]; omega
  ·simp only [List.length_append, List.length_cons, be6_len]; omega
 ·simp
theorem pow_sh (j : Nat) (hj : j < 6) : (2 ^ (8 * (5 - (j : Int))).toNat : Nat) = 2 ^ (8 * (5 - j)) := by
 rw [show (8 * (5 - (j : Int))).toNat = 8 * (5 - j) by omega]
theorem key_byte {k : KeyT} {j : Nat} (h : isKey k = true) (hj : j < 6) : (k.2.1 + 1000000000000) / ((2 ^ (8 * (5 - (j : Int))).toNat : Nat) : Int) = ((keyN k / 2 ^ (8 * (5 - j)) : Nat) : Int) := by
 have h1 := (key_rng h).2.1
 rw [pow_sh j hj, show k.2.1 + 1000000000000 = ((keyN k : Nat) : Int) by unfold keyN; omega, Int.natCast_ediv]
theorem key_byteQ {k : KeyT} {j : Nat} (h : isKey k = true) (hj : j < 6) : ∃ q : Nat, (k.2.1 + 1000000000000) / ((2 ^ (8 * (5 - (j : Int))).toNat : Nat) : Int) = (q : Int) ∧ q ≤ 2000000000000 := by
 have h1 := (key_rng h).2.1
 exact ⟨_, key_byte h hj, Nat.le_trans (Nat.div_le_self _ _) (by unfold keyN; omega)⟩
theorem be_step {k : KeyT} {j : Nat} {z : Int} (h : isKey k = true) (hj : j < 6) (hz : z = (k.2.1 + 1000000000000) / ((2 ^ (8 * (5 - (j : Int))).toNat : Nat) : Int)) :
  (UInt8.ofNat k.1.toNat :: (be6 (keyN k)).take j).flatMap eByte ++ [DV.int .u8 (IntKind.u8.wrap z)] = (UInt8.ofNat k.1.toNat :: (be6 (keyN k)).take (j + 1)).flatMap eByte := by
 rw [key_byte h hj] at hz
 rw [app_byte hz, be6_succ hj]; rfl
theorem u8_and (z : Int) : IntKind.u8.wrap (z % 256) = IntKind.u8.wrap z := by simp [IntKind.wrap, IntKind.signed, IntKind.bits]
theorem byte_hd {k : KeyT} (h : isKey k = true) : [DV.int .u8 (IntKind.u8.wrap k.1)] = (UInt8.ofNat k.1.toNat :: (be6 (keyN k)).take 0).flatMap eByte := by
 have h1 := (key_rng h).1
 exact app_byte (o := []) (m := k.1.toNat) (by omega)
def encRN (r : RecT) : Nat → List UInt8
 | 0 => appU [] (r.length : Int)
 | k + 1 => appU (appU (encRN r k) ((r.getD (k : Int).toNat default).1.data.toList.length : Int) ++ (r.getD (k : Int).toNat default).1.data.toList) (r.getD (k : Int).toNat default).2
def encR (r : RecT) : List UInt8 := if isRec r then encRN r r.length else []
theorem encR_bad {r : RecT} (h : isRec r = false) : encR r = [] := by rw [encR, h]; rfl
theorem encR_ok {r : RecT} {k : Nat} (h : isRec r = true) (hk : k = r.length) : encR r = encRN r k := by rw [encR, if_pos h, hk]
theorem name_size {s : Str} (h : isName s = true) : 1 ≤ s.size ∧ s.size ≤ 8 := by
 simp only [isName, Bool.and_eq_true, decide_eq_true_eq] at h; omega
theorem rec_fld {r : RecT} {k : Nat} (h : isRec r = true) (hk : k < r.length) : isName (r.getD (k : Int).toNat default).1 = true ∧ 0 ≤ (r.getD (k : Int).toNat default).2 ∧ (r.getD (k : Int).toNat default).2 ≤ 1000000000 := by
 simp only [isRec, Bool.and_eq_true, List.all_eq_true] at h
 have h1 := h.1 k (List.mem_range.2 hk)
 unfold recBad at h1
 simp only [Bool.not_or, Bool.not_not, Bool.and_eq_true, decide_eq_true_eq] at h1
 exact ⟨h1.1.1, h1.1.2.1, h1.1.2.2⟩
theorem rec_len {r : RecT} (h : isRec r = true) : r.length ≤ 6 := by
 simp only [isRec, Bool.and_eq_true, decide_eq_true_eq] at h; omega
theorem encRN_len {r : RecT} (h : isRec r = true) : ∀ k, k ≤ r.length → (encRN r k).length ≤ 6 + 20 * k
 | 0, _ => by have := appU_len [] (r.length : Int); simpa [encRN] using this
 | k + 1, hk => by
  have ih := encRN_len h k (by omega)
  have h1 := name_size (rec_fld h (show k < r.length by omega)).1
  have h1 : (r.getD (k : Int).toNat default).1.data.toList.length ≤ 8 := h1.2
  have h2 := appU_len (encRN r k) ((r.getD (k : Int).toNat default).1.data.toList.length : Int)
  have h3 := appU_len (appU (encRN r k) ((r.getD (k : Int).toNat default).1.data.toList.length : Int) ++ (r.getD (k : Int).toNat default).1.data.toList) (r.getD (k : Int).toNat default).2
  rw [List.length_append] at h3
  rw [encRN]
  omega
theorem encR_len (r : RecT) : (encR r).length ≤ 126 := by
 unfold encR
 split
 ·rename_i h
  have h1 := encRN_len h r.length (Nat.le_refl _)
  have h2 := rec_len h
  omega
 ·simp
theorem ok_impl_EncodeKey {k : KeyT}  : KFn Tryz.prog 17 [.agg [(.dv [] (.int .i64 (k.1))), (.dv [] (.int .i64 (k.2.1))), (.dv [] (.str (k.2.2)))]] (.one (.key 12)) [(12, some (kcOf false (bytesD (encK k))))] := by
 refine ⟨fn_intro Tryz.func17 rfl Tryz.ntmps17 Tryz.results17 rfl (fun C => ?_)⟩
 refine yF 0 0 rfl rfl fun f0_0 => ?_
 refine yF 0 1 rfl rfl fun f0_1 => ?_
 refine yF 0 2 rfl rfl fun f0_2 => ?_
 iterate 7 refine z ?_
 refine zC Tryz.call42 ?_ (hf := ok_impl_IsKey (k := k) )
 iterate 2 refine z ?_
 refine yQ rfl (fun c1 => ?_) fun c1 => ?_
 ·skip
  have hk0 : isKey k = false := by simpa using c1
  refine z ?_
  refine o_build0 (k := 12) hT rfl rfl rfl rfl rfl rfl rfl rfl ?_
  iterate 2 refine z ?_
  refine ok_weak (σ' := ⟨[(2, .one (.key 12))], [], [(12, some (kcOf false (bytesD (encK k))))]⟩) (weak_sub ⟨rfl, trivial⟩ trivial ⟨(by first | exact congrArg (fun l : List UInt8 => some (some (KC.mk false 5 1 l.length (l.flatMap eByte)))) (show ([] : List UInt8) = encK k from (encK_bad hk0).symm) | rfl), trivial⟩ rfl) ?_
  iterate 2 refine z ?_
  refine fin1 (res_tmp rfl) ?_
  exact ⟨rfl, rfl⟩
 ·skip
  have hk : isKey k = true := by simpa using c1
  have hrg := key_rng hk
  iterate 5 refine z ?_
  refine yO rfl rfl (pu_convI hT rfl rfl rfl (ev_tmp rfl)) rfl ?_
  refine o_build1 (k := 12) (js := []) hT rfl rfl rfl rfl rfl rfl rfl rfl rfl (ev_tmp rfl) rfl rfl (ow_cons' (ow_dv rfl) ow_nil rfl) (by decide) (by decide) rfl rfl ?_
  simp only [killT, killB, SV.kill, CV.kill, kk, Nat.reduceBEq]
  iterate 8 refine z ?_
  refine yQ rfl (fun c2 => ?_) fun c2 => ?_
  ·skip
   have hn2 : ¬ k.1 = 2 := by simpa using c2
   have d2 := nd_t c2
   iterate 4 refine z ?_
   refine ok_loop (ι := Nat) (fun zz => ⟨[(1, .box 1 0), (2, .one .nil), (3, .one (.key 12)), (4, .one (.dv [] (.int .i64 (5 - (zz : Int)))))], [(1, 29, [(.dv [] (.int .i64 (k.1))), (.dv [] (.int .i64 (k.2.1))), (.dv [] (.str (k.2.2)))])], [(12, some (kcOf false (.sl 5 1 ((UInt8.ofNat k.1.toNat :: (be6 (keyN k)).take zz).length) ((UInt8.ofNat k.1.toNat :: (be6 (keyN k)).take zz).flatMap eByte))))]⟩) (fun zz => zz ≤ 6) (fun zz => 6 - zz) (0) ?_ (weak_sub ⟨rfl, rfl, rfl, rfl, trivial⟩ ⟨rfl, trivial⟩ ⟨(congrArg (fun cs => some (some (KC.mk false 5 1 1 cs))) (byte_hd hk)), trivial⟩ rfl) (fun zz hx => ?_)
   ·omega
   obtain ⟨j, rfl⟩ : ∃ v, v = zz := ⟨_, rfl⟩
   replace hx : j ≤ 6 := hx
   show Ok _ _ _ _ _ (⟨[(1, .box 1 0), (2, .one .nil), (3, .one (.key 12)), (4, .one (.dv [] (.int .i64 (5 - (j : Int)))))], [(1, 29, [(.dv [] (.int .i64 (k.1))), (.dv [] (.int .i64 (k.2.1))), (.dv [] (.str (k.2.2)))])], [(12, some (kcOf false (.sl 5 1 ((UInt8.ofNat k.1.toNat :: (be6 (keyN k)).take j).length) ((UInt8.ofNat k.1.toNat :: (be6 (keyN k)).take j).flatMap eByte))))]⟩ : St)
   iterate 5 refine z ?_
   refine yQ rfl (fun c3 => ?_) fun c3 => ?_
   ·skip
    have d3 := of_decide_eq_true c3
    have hj6 : j < 6 := by omega
    iterate 4 refine z ?_
    refine ok_region ?_
    iterate 5 refine z ?_
    refine yO rfl rfl (pu_mulR rfl (ev_int (inR_lit rfl)) (ev_tmp rfl) (inR64 (by omega) (by omega))) rfl ?_
    refine yO rfl rfl (pu_shrN rfl (ev_tmp rfl) (ev_tmp rfl) (by omega) (by omega) (by show _ ≤ 64; omega)) rfl ?_
    refine yO rfl rfl (pu_convI hT rfl rfl rfl (ev_tmp rfl)) rfl ?_
    refine o_build1 (k := 28) (js := []) hT rfl rfl rfl rfl rfl rfl rfl rfl rfl (ev_tmp rfl) rfl rfl (ow_cons' (ow_dv rfl) ow_nil rfl) (by decide) (by decide) rfl rfl ?_
    simp only [killT, killB, SV.kill, CV.kill, kk, Nat.reduceBEq]
    refine o_appK (k := 12) (j := 28) (cs := (UInt8.ofNat k.1.toNat :: (be6 (keyN k)).take (j + 1)).flatMap eByte) (n := (UInt8.ofNat k.1.toNat :: (be6 (keyN k)).take (j + 1)).length) hT rfl rfl rfl rfl rfl rfl rfl (ev_tmp rfl) rfl rfl rfl (ev_tmp rfl) rfl rfl (by decide) (by dsimp only [kcOf]; simp only [List.length_cons, List.length_take]; omega) (by dsimp only [kcOf]; simp only [List.length_cons, List.length_take]; omega) (by rw [be6_succ hj6]; simp) (be_step hk hj6 rfl) ?_
    simp only [killT, killB, SV.kill, CV.kill, kk, Nat.reduceBEq]
    refine z ?_
    refine ops_nil ?_
    iterate 2 refine z ?_
    refine ok_region ?_
    iterate 4 refine z ?_
    refine ⟨j + 1, ?_, ?_, weak_sub ⟨rfl, rfl, rfl, (eqSlotI (by omega)), trivial⟩ ⟨rfl, trivial⟩ ⟨rfl, trivial⟩ rfl⟩
    ·omega
    ·omega
   ·skip
    have d3 := of_decide_eq_false c3
    iterate 9 refine z ?_
    refine o_appS (k := 12) (cs := (encK k).flatMap eByte) (n := (encK k).length) hT rfl rfl rfl rfl rfl rfl (by kernel_rfl) rfl (ev_tmp rfl) rfl rfl rfl (ev_tmp rfl) (by dsimp only [kcOf]; have := be6_len (keyN k); have h12 := hrg.2.2; try simp only [List.length_cons, List.length_take]; omega) (by rw [encK_num hk hn2 (show 6 ≤ j by omega), List.length_append] <;> rfl) (by rw [encK_num hk hn2 (show 6 ≤ j by omega), List.flatMap_append] <;> rfl) ?_
    simp only [killT, killB, SV.kill, CV.kill, kk, Nat.reduceBEq]
    iterate 2 refine z ?_
    refine ok_weak (σ' := ⟨[(2, .one (.key 12))], [], [(12, some (kcOf false (bytesD (encK k))))]⟩) (weak_sub ⟨rfl, trivial⟩ trivial ⟨(by first | exact congrArg (fun l : List UInt8 => some (some (KC.mk false 5 1 l.length (l.flatMap eByte)))) (show ([] : List UInt8) = encK k from (encK_bad hk0).symm) | rfl), trivial⟩ rfl) ?_
    refine z ?_
    refine fin1 (res_tmp rfl) ?_
    exact ⟨rfl, rfl⟩
  ·skip
   have hn2 : k.1 = 2 := by simpa using c2
   have d2 := nd_f c2
   iterate 6 refine z ?_
   refine o_appS (k := 12) (cs := (encK k).flatMap eByte) (n := (encK k).length) hT rfl rfl rfl rfl rfl rfl (by kernel_rfl) rfl (ev_tmp rfl) rfl rfl rfl (ev_tmp rfl) (by dsimp only [kcOf]; have h12 := hrg.2.2; omega) (by rw [encK_txt hk hn2, List.length_append] <;> rfl) (by rw [encK_txt hk hn2, List.flatMap_append]; exact congrArg (fun z => z ++ _) (byte_hd hk)) ?_
   simp only [killT, killB, SV.kill, CV.kill, kk, Nat.reduceBEq]
   iterate 2 refine z ?_
   refine ok_weak (σ' := ⟨[(2, .one (.key 12))], [], [(12, some (kcOf false (bytesD (encK k))))]⟩) (weak_sub ⟨rfl, trivial⟩ trivial ⟨(by first | exact congrArg (fun l : List UInt8 => some (some (KC.mk false 5 1 l.length (l.flatMap eByte)))) (show ([] : List UInt8) = encK k from (encK_bad hk0).symm) | rfl), trivial⟩ rfl) ?_
   refine z ?_
   refine fin1 (res_tmp rfl) ?_
   exact ⟨rfl, rfl⟩
theorem ok_spec_EncodeKey {k : KeyT}  : KFn Tryz.prog 47 [.agg [(.dv [] (.int .i64 (k.1))), (.dv [] (.int .i64 (k.2.1))), (.dv [] (.str (k.2.2)))]] (.one (.key 12)) [(12, some (kcOf false (bytesD (encK k))))] := by
 refine ⟨fn_intro Tryz.func47 rfl Tryz.ntmps47 Tryz.results47 rfl (fun C => ?_)⟩
 refine yF 0 0 rfl rfl fun f0_0 => ?_
 refine yF 0 1 rfl rfl fun f0_1 => ?_
 refine yF 0 2 rfl rfl fun f0_2 => ?_
 iterate 7 refine z ?_
 refine zC Tryz.call8 ?_ (hf := ok_spec_IsKey (k := k) )
 iterate 2 refine z ?_
 refine yQ rfl (fun c1 => ?_) fun c1 => ?_
 ·skip
  have hk0 : isKey k = false := by simpa using c1
  refine z ?_
  refine o_build0 (k := 12) hT rfl rfl rfl rfl rfl rfl rfl rfl ?_
  iterate 2 refine z ?_
  refine ok_weak (σ' := ⟨[(2, .one (.key 12))], [], [(12, some (kcOf false (bytesD (encK k))))]⟩) (weak_sub ⟨rfl, trivial⟩ trivial ⟨(by first | exact congrArg (fun l : List UInt8 => some (some (KC.mk false 5 1 l.length (l.flatMap eByte)))) (show ([] : List UInt8) = encK k from (encK_bad hk0).symm) | rfl), trivial⟩ rfl) ?_
  iterate 2 refine z ?_
  refine fin1 (res_tmp rfl) ?_
  exact ⟨rfl, rfl⟩
 ·skip
  have hk : isKey k = true := by simpa using c1
  have hrg := key_rng hk
  iterate 5 refine z ?_
  refine yO rfl rfl (pu_convI hT rfl rfl rfl (ev_tmp rfl)) rfl ?_
  refine o_build1 (k := 12) (js := []) hT rfl rfl rfl rfl rfl rfl rfl rfl rfl (ev_tmp rfl) rfl rfl (ow_cons' (ow_dv rfl) ow_nil rfl) (by decide) (by decide) rfl rfl ?_
  simp only [killT, killB, SV.kill, CV.kill, kk, Nat.reduceBEq]
  iterate 7 refine z ?_
  refine ok_loop (ι := Nat) (fun zz => ⟨[(1, .box 1 0), (2, .one .nil), (3, .one (.key 12)), (4, .one (.dv [] (.int .i64 (5 - (zz : Int)))))], [(1, 29, [(.dv [] (.int .i64 (k.1))), (.dv [] (.int .i64 (k.2.1))), (.dv [] (.str (k.2.2)))])], [(12, some (kcOf false (.sl 5 1 ((UInt8.ofNat k.1.toNat :: (be6 (keyN k)).take zz).length) ((UInt8.ofNat k.1.toNat :: (be6 (keyN k)).take zz).flatMap eByte))))]⟩) (fun zz => zz ≤ 6 ∧ (k.1 = 2 → zz = 0)) (fun zz => 6 - zz) (0) ?_ (weak_sub ⟨rfl, rfl, rfl, rfl, trivial⟩ ⟨rfl, trivial⟩ ⟨(congrArg (fun cs => some (some (KC.mk false 5 1 1 cs))) (byte_hd hk)), trivial⟩ rfl) (fun zz hx => ?_)
  ·exact ⟨by omega, fun _ => rfl⟩
  obtain ⟨j, rfl⟩ : ∃ v, v = zz := ⟨_, rfl⟩
  replace hx : j ≤ 6 ∧ (k.1 = 2 → j = 0) := hx
  obtain ⟨hj, hj2⟩ := hx
  show Ok _ _ _ _ _ (⟨[(1, .box 1 0), (2, .one .nil), (3, .one (.key 12)), (4, .one (.dv [] (.int .i64 (5 - (j : Int)))))], [(1, 29, [(.dv [] (.int .i64 (k.1))), (.dv [] (.int .i64 (k.2.1))), (.dv [] (.str (k.2.2)))])], [(12, some (kcOf false (.sl 5 1 ((UInt8.ofNat k.1.toNat :: (be6 (keyN k)).take j).length) ((UInt8.ofNat k.1.toNat :: (be6 (keyN k)).take j).flatMap eByte))))]⟩ : St)
  iterate 10 refine z ?_
  refine yQ rfl (fun c2 => ?_) fun c2 => ?_
  ·skip
   have hj6 : j < 6 := by have := (Bool.and_eq_true _ _ ▸ c2 : _ ∧ _).1; have := of_decide_eq_true this; omega
   have hn2 : ¬ k.1 = 2 := by have := (Bool.and_eq_true _ _ ▸ c2 : _ ∧ _).2; simpa using this
   obtain ⟨q, hq, hqk⟩ := key_byteQ hk hj6
   iterate 4 refine z ?_
   refine ok_region ?_
   iterate 5 refine z ?_
   refine yO rfl rfl (pu_mulR rfl (ev_int (inR_lit rfl)) (ev_tmp rfl) (inR64 (by omega) (by omega))) rfl ?_
   refine yO rfl rfl (pu_shrN rfl (ev_tmp rfl) (ev_tmp rfl) (by omega) (by omega) (by show _ ≤ 64; omega)) rfl ?_
   refine yO rfl rfl (pu_andR rfl (ev_tmp rfl) (ev_int (inR_lit rfl)) (and255 (by omega) (by omega)) (inR64 (by omega) (by omega))) rfl ?_
   refine yO rfl rfl (pu_convI hT rfl rfl rfl (ev_tmp rfl)) rfl ?_
   refine o_build1 (k := 31) (js := []) hT rfl rfl rfl rfl rfl rfl rfl rfl rfl (ev_tmp rfl) rfl rfl (ow_cons' (ow_dv rfl) ow_nil rfl) (by decide) (by decide) rfl rfl ?_
   simp only [killT, killB, SV.kill, CV.kill, kk, Nat.reduceBEq]
   refine o_appK (k := 12) (j := 31) (cs := (UInt8.ofNat k.1.toNat :: (be6 (keyN k)).take (j + 1)).flatMap eByte) (n := (UInt8.ofNat k.1.toNat :: (be6 (keyN k)).take (j + 1)).length) hT rfl rfl rfl rfl rfl rfl rfl (ev_tmp rfl) rfl rfl rfl (ev_tmp rfl) rfl rfl (by decide) (by dsimp only [kcOf]; simp only [List.length_cons, List.length_take]; omega) (by dsimp only [kcOf]; simp only [List.length_cons, List.length_take]; omega) (by rw [be6_succ hj6]; simp) (by rw [u8_and]; exact be_step hk hj6 rfl) ?_
   simp only [killT, killB, SV.kill, CV.kill, kk, Nat.reduceBEq]
   refine z ?_
   refine ops_nil ?_
   iterate 2 refine z ?_
   refine ok_region ?_
   iterate 4 refine z ?_
   refine ⟨j + 1, ?_, ?_, weak_sub ⟨rfl, rfl, rfl, (eqSlotI (by omega)), trivial⟩ ⟨rfl, trivial⟩ ⟨rfl, trivial⟩ rfl⟩
   ·exact ⟨by omega, fun h => absurd h hn2⟩
   ·omega
  ·skip
   iterate 9 refine z ?_
   refine o_convSB (k := 36) hT rfl rfl rfl rfl rfl rfl rfl (ev_tmp rfl) rfl ?_
   refine o_appK (k := 12) (j := 36) (cs := (encK k).flatMap eByte) (n := (encK k).length) hT rfl rfl rfl rfl rfl rfl rfl (ev_tmp rfl) rfl rfl rfl (ev_tmp rfl) rfl rfl (by decide) (by dsimp only [kcOf, KC.old]; have := be6_len (keyN k); have h12 : k.2.2.data.toList.length ≤ 12 := hrg.2.2; simp only [List.length_cons, List.length_take]; omega) (by dsimp only [kcOf, KC.old]; have := be6_len (keyN k); have h12 : k.2.2.data.toList.length ≤ 12 := hrg.2.2; simp only [List.length_cons, List.length_take]; omega) (by rw [encK_end hk hj2 c2, List.length_append] <;> rfl) (by rw [encK_end hk hj2 c2, List.flatMap_append] <;> rfl) ?_
   simp only [killT, killB, SV.kill, CV.kill, kk, Nat.reduceBEq]
   iterate 2 refine z ?_
   refine ok_weak (σ' := ⟨[(2, .one (.key 12))], [], [(12, some (kcOf false (bytesD (encK k))))]⟩) (weak_sub ⟨rfl, trivial⟩ trivial ⟨(by first | exact congrArg (fun l : List UInt8 => some (some (KC.mk false 5 1 l.length (l.flatMap eByte)))) (show ([] : List UInt8) = encK k from (encK_bad hk0).symm) | rfl), trivial⟩ rfl) ?_
   refine z ?_
   refine fin1 (res_tmp rfl) ?_
   exact ⟨rfl, rfl⟩
theorem ok_impl_EncodeRecord {r : RecT}  : KFn Tryz.prog 18 [.agg [(.dv [] (fieldsD (r)))]] (.one (.key 500)) [(500, some (kcOf false (bytesD (encR r))))] := by
 refine ⟨fn_intro Tryz.func18 rfl Tryz.ntmps18 Tryz.results18 rfl (fun C => ?_)⟩
 refine yF 0 0 rfl rfl fun f0_0 => ?_
 iterate 7 refine z ?_
 refine zC Tryz.call43 ?_ (hf := ok_impl_IsRecord (r := r) )
 iterate 2 refine z ?_
 refine yQ rfl (fun c1 => ?_) fun c1 => ?_
 ·skip
  have hk0 : isRec r = false := by simpa using c1
  refine z ?_
  refine o_build0 (k := 500) hT rfl rfl rfl rfl rfl rfl rfl rfl ?_
  iterate 2 refine z ?_
  refine ok_weak (σ' := ⟨[(2, .one (.key 500))], [], [(500, some (kcOf false (bytesD (encR r))))]⟩) (weak_sub ⟨rfl, trivial⟩ trivial ⟨(by first | exact congrArg (fun l : List UInt8 => some (some (KC.mk false 5 1 l.length (l.flatMap eByte)))) (show ([] : List UInt8) = encR r from (encR_bad hk0).symm) | exact congrArg (fun l : List UInt8 => some (some (KC.mk false 5 1 l.length (l.flatMap eByte)))) (encR_ok hk (by omega)).symm), trivial⟩ rfl) ?_
  iterate 2 refine z ?_
  refine fin1 (res_tmp rfl) ?_
  exact ⟨rfl, rfl⟩
 ·skip
  have hk : isRec r = true := by simpa using c1
  have hrl := rec_len hk
  iterate 6 refine z ?_
  refine o_callK 470 rfl rfl rfl Tryz.call16 (ok_impl_AppendUvarint (x := []) (n := (r.length : Int)) (by simp)) (as_cons ev_nil (ag_one (ac_nil' rfl rfl)) (as_cons (ev_tmp rfl) (ag_one ac_dv) as_nil)) rfl rfl rfl ?_
  iterate 10 refine z ?_
  refine ok_loop (ι := Nat) (fun zz => ⟨[(2, .one .nil), (3, .one (.key 500)), (15, .one (.dv [] (fieldsD (r)))), (16, .one (.dv [] (.int .i64 ((((r)).length : Int))))), (17, .one (.dv [] (.int .i64 ((zz : Int)))))], [], [(500, some (kcOf false (.sl 5 1 ((encRN r zz).length) ((encRN r zz).flatMap eByte))))]⟩) (fun zz => zz ≤ r.length) (fun zz => r.length - zz) (0) ?_ (weak_sub ⟨rfl, rfl, rfl, rfl, rfl, trivial⟩ trivial ⟨rfl, trivial⟩ rfl) (fun zz hx => ?_)
  ·exact Nat.zero_le _
  obtain ⟨k, rfl⟩ : ∃ v, v = zz := ⟨_, rfl⟩
  replace hx : k ≤ r.length := hx
  show Ok _ _ _ _ _ (⟨[(2, .one .nil), (3, .one (.key 500)), (15, .one (.dv [] (fieldsD (r)))), (16, .one (.dv [] (.int .i64 ((((r)).length : Int))))), (17, .one (.dv [] (.int .i64 ((k : Int)))))], [], [(500, some (kcOf false (.sl 5 1 ((encRN r k).length) ((encRN r k).flatMap eByte))))]⟩ : St)
  iterate 3 refine z ?_
  refine ok_seq ?_
  refine yQ rfl (fun c2 => ?_) fun c2 => ?_
  ·skip
   have d2 := of_decide_eq_true c2
   have hkl : k < r.length := by omega
   have hf := rec_fld hk hkl
   have hns := (name_size hf.1).2
   have hns2 : (r.getD (k : Int).toNat default).1.data.toList.length ≤ 8 := hns
   have hel := encRN_len hk k (by omega)
   have hel2 := appU_len (encRN r k) ((r.getD (k : Int).toNat default).1.data.toList.length : Int)
   iterate 10 refine z ?_
   refine ok_regionD (oB := [5]) (oK := [500]) (by kernel_rfl) rfl rfl ?_
   refine zD 0 ?_
   refine zD 1 ?_
   refine zD 2 ?_
   refine zD 5 ?_
   refine zD 6 ?_
   refine d_convSB (k := 24) 3 hT rfl (by kernel_rfl) rfl rfl rfl rfl rfl rfl rfl (ev_tmp rfl) rfl rfl rfl ?_
   refine d_callK 25000 4 rfl (by kernel_rfl) rfl rfl rfl Tryz.call19 (ok_impl_AppendBytes (x := (encRN r k)) (y := (r.getD (k : Int).toNat default).1.data.toList) (by omega) (by omega)) (as_cons (ev_tmp rfl) (ag_one (ac_key' rfl rfl)) (as_cons (ev_tmp rfl) (ag_one (ac_key' rfl rfl)) as_nil)) rfl rfl rfl rfl rfl ?_
   refine d_callK 472 7 rfl (by kernel_rfl) rfl rfl rfl Tryz.call16 (ok_impl_AppendUvarint (x := appU (encRN r k) ((r.getD (k : Int).toNat default).1.data.toList.length : Int) ++ (r.getD (k : Int).toNat default).1.data.toList) (n := (r.getD (k : Int).toNat default).2) (by rw [List.length_append]; omega)) (as_cons (ev_tmp rfl) (ag_one (ac_key' rfl rfl)) (as_cons (ev_tmp rfl) (ag_one ac_dv) as_nil)) rfl rfl rfl rfl rfl ?_
   refine zD 8 ?_
   refine d_done (by kernel_rfl) ?_
   iterate 2 refine z ?_
   refine ok_weak (weak_swap (s := 3) (k := 502) (k' := 500) rfl rfl rfl (by decide) rfl) ?_
   simp only [killT, killB, SV.kill, CV.kill, kk, Nat.reduceBEq]
   refine ok_region ?_
   iterate 3 refine z ?_
   refine ⟨k + 1, ?_, ?_, weak_sub ⟨rfl, rfl, rfl, rfl, rfl, trivial⟩ trivial ⟨rfl, trivial⟩ rfl⟩
   ·omega
   ·omega
  ·skip
   have d2 := of_decide_eq_false c2
   iterate 9 refine z ?_
   refine ok_weak (σ' := ⟨[(2, .one (.key 500))], [], [(500, some (kcOf false (bytesD (encR r))))]⟩) (weak_sub ⟨rfl, trivial⟩ trivial ⟨(by first | exact congrArg (fun l : List UInt8 => some (some (KC.mk false 5 1 l.length (l.flatMap eByte)))) (show ([] : List UInt8) = encR r from (encR_bad hk0).symm) | exact congrArg (fun l : List UInt8 => some (some (KC.mk false 5 1 l.length (l.flatMap eByte)))) (encR_ok hk (by omega)).symm), trivial⟩ rfl) ?_
   refine z ?_
   refine fin1 (res_tmp rfl) ?_
   exact ⟨rfl, rfl⟩
theorem ok_spec_EncodeRecord {r : RecT}  : KFn Tryz.prog 48 [.agg [(.dv [] (fieldsD (r)))]] (.one (.key 500)) [(500, some (kcOf false (bytesD (encR r))))] := by
 refine ⟨fn_intro Tryz.func48 rfl Tryz.ntmps48 Tryz.results48 rfl (fun C => ?_)⟩
 refine yF 0 0 rfl rfl fun f0_0 => ?_
 iterate 7 refine z ?_
 refine zC Tryz.call22 ?_ (hf := ok_spec_IsRecord (r := r) )
 iterate 2 refine z ?_
 refine yQ rfl (fun c1 => ?_) fun c1 => ?_
 ·skip
  have hk0 : isRec r = false := by simpa using c1
  refine z ?_
  refine o_build0 (k := 500) hT rfl rfl rfl rfl rfl rfl rfl rfl ?_
  iterate 2 refine z ?_
  refine ok_weak (σ' := ⟨[(2, .one (.key 500))], [], [(500, some (kcOf false (bytesD (encR r))))]⟩) (weak_sub ⟨rfl, trivial⟩ trivial ⟨(by first | exact congrArg (fun l : List UInt8 => some (some (KC.mk false 5 1 l.length (l.flatMap eByte)))) (show ([] : List UInt8) = encR r from (encR_bad hk0).symm) | exact congrArg (fun l : List UInt8 => some (some (KC.mk false 5 1 l.length (l.flatMap eByte)))) (encR_ok hk (by omega)).symm), trivial⟩ rfl) ?_
  iterate 2 refine z ?_
  refine fin1 (res_tmp rfl) ?_
  exact ⟨rfl, rfl⟩
 ·skip
  have hk : isRec r = true := by simpa using c1
  have hrl := rec_len hk
  iterate 3 refine z ?_
  refine o_build0 (k := 9) hT rfl rfl rfl rfl rfl rfl rfl rfl ?_
  iterate 3 refine z ?_
  refine o_callK 494 rfl rfl rfl Tryz.call45 (ok_spec_AppendUvarint (x := []) (n := (r.length : Int)) (by simp)) (as_cons (ev_tmp rfl) (ag_one (ac_key' rfl rfl)) (as_cons (ev_tmp rfl) (ag_one ac_dv) as_nil)) rfl rfl rfl ?_
  iterate 7 refine z ?_
  refine ok_loop (ι := Nat) (fun zz => ⟨[(1, .box 1 0), (2, .one .nil), (3, .one (.key 500)), (4, .one (.dv [] (.int .i64 ((zz : Int)))))], [(1, 32, [(.dv [] (fieldsD (r)))])], [(500, some (kcOf false (.sl 5 1 ((encRN r zz).length) ((encRN r zz).flatMap eByte))))]⟩) (fun zz => zz ≤ r.length) (fun zz => r.length - zz) (0) ?_ (weak_sub ⟨rfl, rfl, rfl, rfl, trivial⟩ ⟨rfl, trivial⟩ ⟨rfl, trivial⟩ rfl) (fun zz hx => ?_)
  ·exact Nat.zero_le _
  obtain ⟨k, rfl⟩ : ∃ v, v = zz := ⟨_, rfl⟩
  replace hx : k ≤ r.length := hx
  show Ok _ _ _ _ _ (⟨[(1, .box 1 0), (2, .one .nil), (3, .one (.key 500)), (4, .one (.dv [] (.int .i64 ((k : Int)))))], [(1, 32, [(.dv [] (fieldsD (r)))])], [(500, some (kcOf false (.sl 5 1 ((encRN r k).length) ((encRN r k).flatMap eByte))))]⟩ : St)
  iterate 8 refine z ?_
  refine yQ rfl (fun c2 => ?_) fun c2 => ?_
  ·skip
   have d2 := of_decide_eq_true c2
   have hkl : k < r.length := by omega
   have hf := rec_fld hk hkl
   have hns := (name_size hf.1).2
   have hns2 : (r.getD (k : Int).toNat default).1.data.toList.length ≤ 8 := hns
   have hel := encRN_len hk k (by omega)
   have hel2 := appU_len (encRN r k) ((r.getD (k : Int).toNat default).1.data.toList.length : Int)
   iterate 4 refine z ?_
   refine ok_regionD (oB := [1]) (oK := [500]) (by kernel_rfl) rfl rfl ?_
   refine zD 0 ?_
   refine zD 1 ?_
   refine zD 2 ?_
   refine zD 3 ?_
   refine zD 4 ?_
   refine zD 5 ?_
   refine zD 6 ?_
   refine zD 9 ?_
   refine zD 10 ?_
   refine zD 11 ?_
   refine zD 12 ?_
   refine zD 13 ?_
   refine zD 14 ?_
   refine d_convSB (k := 28) 7 hT rfl (by kernel_rfl) rfl rfl rfl rfl rfl rfl rfl (ev_tmp rfl) rfl rfl rfl ?_
   refine d_callK 29000 8 rfl (by kernel_rfl) rfl rfl rfl Tryz.call46 (ok_spec_AppendBytes (x := (encRN r k)) (y := (r.getD (k : Int).toNat default).1.data.toList) (by omega) (by omega)) (as_cons (ev_tmp rfl) (ag_one (ac_key' rfl rfl)) (as_cons (ev_tmp rfl) (ag_one (ac_key' rfl rfl)) as_nil)) rfl rfl rfl rfl rfl ?_
   refine d_callK 496 15 rfl (by kernel_rfl) rfl rfl rfl Tryz.call45 (ok_spec_AppendUvarint (x := appU (encRN r k) ((r.getD (k : Int).toNat default).1.data.toList.length : Int) ++ (r.getD (k : Int).toNat default).1.data.toList) (n := (r.getD (k : Int).toNat default).2) (by rw [List.length_append]; omega)) (as_cons (ev_tmp rfl) (ag_one (ac_key' rfl rfl)) (as_cons (ev_tmp rfl) (ag_one ac_dv) as_nil)) rfl rfl rfl rfl rfl ?_
   refine zD 16 ?_
   refine d_done (by kernel_rfl) ?_
   iterate 2 refine z ?_
   refine ok_weak (weak_swap (s := 3) (k := 502) (k' := 500) rfl rfl rfl (by decide) rfl) ?_
   simp only [killT, killB, SV.kill, CV.kill, kk, Nat.reduceBEq]
   refine ok_region ?_
   iterate 4 refine z ?_
   refine ⟨k + 1, ?_, ?_, weak_sub ⟨rfl, rfl, rfl, rfl, trivial⟩ ⟨rfl, trivial⟩ ⟨rfl, trivial⟩ rfl⟩
   ·omega
   ·omega
  ·skip
   have d2 := of_decide_eq_false c2
   iterate 9 refine z ?_
   refine ok_weak (σ' := ⟨[(2, .one (.key 500))], [], [(500, some (kcOf false (bytesD (encR r))))]⟩) (weak_sub ⟨rfl, trivial⟩ trivial ⟨(by first | exact congrArg (fun l : List UInt8 => some (some (KC.mk false 5 1 l.length (l.flatMap eByte)))) (show ([] : List UInt8) = encR r from (encR_bad hk0).symm) | exact congrArg (fun l : List UInt8 => some (some (KC.mk false 5 1 l.length (l.flatMap eByte)))) (encR_ok hk (by omega)).symm), trivial⟩ rfl) ?_
   refine z ?_
   refine fin1 (res_tmp rfl) ?_
   exact ⟨rfl, rfl⟩
end Go.Proofs.YtoigmlbidpocnaaGreat

namespace Go.Proofs.YtoigmlbidpocnaaGreat
open Go.RowKit
open Go.Proofs
set_option linter.unusedVariables false
set_option linter.unusedSimpArgs false

@[reducible] def bytessD (xs : List (List UInt8)) : DV := listD 0 1 (fun x => [bytesD x]) xs
def areB (l : List OpT) : Bool := l.all isOpB && decide ((l.length : Int) ≤ 6)
def appB (b y : List UInt8) : List UInt8 := appU b (y.length : Int) ++ y
def partsO (o : OpT) : List (List UInt8) := [o.2.1.data.toList, encK o.2.2.1, encR o.2.2.2.1, o.2.2.2.2.data.toList]
def opPart (b : List UInt8) (o : OpT) : Nat → List UInt8
 | 0 => appU b o.1
 | j + 1 => appB (opPart b o j) ((partsO o).getD (j : Int).toNat default)
def encON (l : List OpT) : Nat → List UInt8
 | 0 => appU [] (l.length : Int)
 | k + 1 => opPart (encON l k) (l.getD (k : Int).toNat default) 4
def encO (l : List OpT) : List UInt8 := if areB l then encON l l.length else []
theorem encO_bad {l : List OpT} (h : areB l = false) : encO l = [] := by rw [encO, h]; rfl
theorem encO_ok {l : List OpT} {k : Nat} (h : areB l = true) (hk : k = l.length) : encO l = encON l k := by rw [encO, if_pos h, hk]
theorem are_no {l : List OpT} {k : Nat} (hk : k < l.length) (h : isOpB (l.getD (k : Int).toNat default) = false) : areB l = false := by
 unfold areB
 have : l.all isOpB = false := by
  rw [List.all_eq_false]
  refine ⟨l[k], List.getElem_mem hk, ?_⟩
  rw [getD_at hk] at h
  simpa using h
 rw [this]; rfl
theorem are_yes {l : List OpT} {k : Nat} (h : (l.take k).all isOpB = true) (hk : l.length ≤ k) : areB l = decide ((l.length : Int) ≤ 6) := by
 rw [List.take_of_length_le hk] at h
 unfold areB
 rw [h, Bool.true_and]
theorem are_step {l : List OpT} {k : Nat} (h : (l.take k).all isOpB = true) (hk : k < l.length) (h2 : isOpB (l.getD (k : Int).toNat default) = true) : (l.take (k + 1)).all isOpB = true := by
 rw [List.take_succ_eq_append_getElem hk, List.all_append, h]
 rw [getD_at hk] at h2
 simpa using h2
theorem op_rng {o : OpT} (h : isOpB o = true) : o.2.1.data.toList.length ≤ 8 ∧ o.2.2.2.2.data.toList.length ≤ 8 := by
 simp only [isOpB, Bool.and_eq_true, Bool.or_eq_true] at h
 have h1 := name_size h.1.1.1.2
 refine ⟨h1.2, ?_⟩
 rcases h.2 with h2 | h2
 ·exact (name_size h2.2).2
 ·have h3 : o.2.2.2.2.data.toList = [] := by
   have := h2.2
   simpa [sEq, ByteArray.toList_eq] using this
  rw [h3]; simp
theorem are_op {l : List OpT} {k : Nat} (h : areB l = true) (hk : k < l.length) : isOpB (l.getD (k : Int).toNat default) = true := by
 simp only [areB, Bool.and_eq_true, List.all_eq_true] at h
 rw [getD_at hk]
 exact h.1 _ (List.getElem_mem hk)
theorem are_len {l : List OpT} (h : areB l = true) : l.length ≤ 6 := by
 simp only [areB, Bool.and_eq_true, decide_eq_true_eq] at h; omega
theorem appB_len (b y : List UInt8) : (appB b y).length ≤ b.length + 6 + y.length := by
 have := appU_len b (y.length : Int)
 rw [appB, List.length_append]; omega
theorem part_len {o : OpT} (h : isOpB o = true) (j : Nat) : ((partsO o).getD (j : Int).toNat default).length ≤ 126 := by
 have h1 := op_rng h
 have h2 := encK_len o.2.2.1
 have h3 := encR_len o.2.2.2.1
 match j with
 | 0 => show o.2.1.data.toList.length ≤ 126; omega
 | 1 => show (encK o.2.2.1).length ≤ 126; omega
 | 2 => exact h3
 | 3 => show o.2.2.2.2.data.toList.length ≤ 126; omega
 | n + 4 => rw [Int.toNat_natCast]; simp [partsO]; exact Nat.zero_le 126
theorem opPart_len {b : List UInt8} {o : OpT} (h : isOpB o = true) : ∀ j, (opPart b o j).length ≤ b.length + 6 + 132 * j
 | 0 => by have := appU_len b o.1; simpa [opPart] using this
 | j + 1 => by
  have ih := opPart_len (b := b) h j
  have h1 := appB_len (opPart b o j) ((partsO o).getD (j : Int).toNat default)
  have h2 := part_len h j
  rw [opPart]; omega
theorem encON_len {l : List OpT} : ∀ k, k ≤ l.length → (l.take k).all isOpB = true → (encON l k).length ≤ 6 + 534 * k
 | 0, _, _ => by have := appU_len [] (l.length : Int); simpa [encON] using this
 | k + 1, hk, h => by
  have h0 : (l.take k).all isOpB = true ∧ isOpB (l.getD (k : Int).toNat default) = true := by
   rw [List.take_succ_eq_append_getElem (by omega), List.all_append, Bool.and_eq_true] at h
   refine ⟨h.1, ?_⟩
   rw [getD_at (by omega)]
   simpa using h.2
  have ih := encON_len k (by omega) h0.1
  have h1 := opPart_len (b := encON l k) h0.2 4
  have e : encON l (k + 1) = opPart (encON l k) (l.getD (k : Int).toNat default) 4 := rfl
  rw [e]
  refine Nat.le_trans h1 ?_
  clear h1 e
  omega
theorem encON_lenV {l : List OpT} {k : Nat} (h : areB l = true) (hk : k ≤ l.length) : (encON l k).length ≤ 6 + 534 * k := by
 refine encON_len k hk ?_
 simp only [areB, Bool.and_eq_true] at h
 rw [List.all_eq_true] at h ⊢
 exact fun x hx => h.1 x (List.mem_of_mem_take hx)
theorem encO_len (l : List OpT) : (encO l).length ≤ 3210 := by
 unfold encO
 split
 ·rename_i h
  have h1 := encON_lenV h (Nat.le_refl _)
  have h2 := are_len h
  omega
 ·simp

theorem ok_impl_areOps {l : List OpT}  : PFn Tryz.prog 15 [.one (.dv [] (opsD (l)))] (.one (.dv [] (.bool (areB l)))) := by
 refine ⟨fn_intro Tryz.func15 rfl Tryz.ntmps15 Tryz.results15 rfl (fun C => ?_)⟩
 refine ok_fact (x := .tmp 0) (ev_tmp rfl) fun f0 => ?_
 iterate 10 refine z ?_
 refine ok_loop (ι := Nat) (fun zz => ⟨[(0, .one (.dv [] (opsD (l)))), (5, .one (.dv [] (opsD (l)))), (6, .one (.dv [] (.int .i64 ((((l)).length : Int))))), (7, .one (.dv [] (.int .i64 ((zz : Int)))))], [], []⟩) (fun zz => zz ≤ l.length ∧ (l.take zz).all isOpB = true) (fun zz => l.length - zz) (0) ?_ (weak_sub ⟨rfl, rfl, rfl, rfl, trivial⟩ trivial trivial rfl) (fun zz hx => ?_)
 ·exact ⟨Nat.zero_le _, rfl⟩
 obtain ⟨k, rfl⟩ : ∃ v, v = zz := ⟨_, rfl⟩
 replace hx : k ≤ l.length ∧ (l.take k).all isOpB = true := hx
 obtain ⟨hk, hall⟩ := hx
 show Ok _ _ _ _ _ (⟨[(0, .one (.dv [] (opsD (l)))), (5, .one (.dv [] (opsD (l)))), (6, .one (.dv [] (.int .i64 ((((l)).length : Int))))), (7, .one (.dv [] (.int .i64 ((k : Int)))))], [], []⟩ : St)
 iterate 3 refine z ?_
 refine ok_seq ?_
 refine yQ rfl (fun c1 => ?_) fun c1 => ?_
 ·skip
  have d1 := of_decide_eq_true c1
  iterate 12 refine z ?_
  refine zC Tryz.call39 ?_ (hf := ok_impl_IsOp (x := (((l)).getD ((k : Int)).toNat default)) )
  iterate 2 refine z ?_
  refine yQ rfl (fun c2 => ?_) fun c2 => ?_
  ·skip
   iterate 10 refine z ?_
   exact (are_no (k := k) (by omega) (by simpa using c2)).symm
  ·skip
   iterate 3 refine z ?_
   refine ok_region ?_
   iterate 3 refine z ?_
   refine ⟨k + 1, ?_, ?_, weak_sub ⟨rfl, rfl, rfl, rfl, trivial⟩ trivial trivial rfl⟩
   ·exact ⟨by omega, are_step hall (by omega) (by simpa using c2)⟩
   ·omega
 ·skip
  have d1 := of_decide_eq_false c1
  iterate 13 refine z ?_
  exact (are_yes hall (by omega)).symm
theorem ok_impl_EncodeOps {l : List OpT}  : KFn Tryz.prog 6 [.one (.dv [] (opsD (l)))] (.one (.key 900500)) [(900500, some (kcOf false (bytesD (encO l))))] := by
 refine ⟨fn_intro Tryz.func6 rfl Tryz.ntmps6 Tryz.results6 rfl (fun C => ?_)⟩
 refine ok_fact (x := .tmp 0) (ev_tmp rfl) fun f0 => ?_
 iterate 6 refine z ?_
 refine zC Tryz.call15 ?_ (hf := ok_impl_areOps (l := l) )
 iterate 2 refine z ?_
 refine yQ rfl (fun c1 => ?_) fun c1 => ?_
 ·skip
  have hk0 : areB l = false := by simpa using c1
  refine z ?_
  refine o_build0 (k := 900500) hT rfl rfl rfl rfl rfl rfl rfl rfl ?_
  iterate 2 refine z ?_
  refine ok_weak (σ' := ⟨[(2, .one (.key 900500))], [], [(900500, some (kcOf false (bytesD (encO l))))]⟩) (weak_sub ⟨rfl, trivial⟩ trivial ⟨(by first | exact congrArg (fun l : List UInt8 => some (some (KC.mk false 5 1 l.length (l.flatMap eByte)))) (show ([] : List UInt8) = encO l from (encO_bad hk0).symm) | exact congrArg (fun l : List UInt8 => some (some (KC.mk false 5 1 l.length (l.flatMap eByte)))) (encO_ok hk1 (by omega)).symm), trivial⟩ rfl) ?_
  iterate 2 refine z ?_
  refine fin1 (res_tmp rfl) ?_
  exact ⟨rfl, rfl⟩
 ·skip
  have hk1 : areB l = true := by simpa using c1
  have hll := are_len hk1
  iterate 5 refine z ?_
  refine o_callK 900470 rfl rfl rfl Tryz.call16 (ok_impl_AppendUvarint (x := []) (n := (l.length : Int)) (by simp)) (as_cons ev_nil (ag_one (ac_nil' rfl rfl)) (as_cons (ev_tmp rfl) (ag_one ac_dv) as_nil)) rfl rfl rfl ?_
  iterate 9 refine z ?_
  refine ok_loop (ι := Nat) (fun zz => ⟨[(2, .one .nil), (3, .one (.key 900500)), (15, .one (.dv [] (opsD (l)))), (16, .one (.dv [] (.int .i64 ((((l)).length : Int))))), (17, .one (.dv [] (.int .i64 ((zz : Int)))))], [], [(900500, some (kcOf false (.sl 5 1 ((encON l zz).length) ((encON l zz).flatMap eByte))))]⟩) (fun zz => zz ≤ l.length) (fun zz => l.length - zz) (0) ?_ (weak_sub ⟨rfl, rfl, rfl, rfl, rfl, trivial⟩ trivial ⟨rfl, trivial⟩ rfl) (fun zz hx => ?_)
  ·exact Nat.zero_le _
  obtain ⟨k, rfl⟩ : ∃ v, v = zz := ⟨_, rfl⟩
  replace hx : k ≤ l.length := hx
  have hk := hx
  show Ok _ _ _ _ _ (⟨[(2, .one .nil), (3, .one (.key 900500)), (15, .one (.dv [] (opsD (l)))), (16, .one (.dv [] (.int .i64 ((((l)).length : Int))))), (17, .one (.dv [] (.int .i64 ((k : Int)))))], [], [(900500, some (kcOf false (.sl 5 1 ((encON l k).length) ((encON l k).flatMap eByte))))]⟩ : St)
  iterate 3 refine z ?_
  refine ok_seq ?_
  refine yQ rfl (fun c2 => ?_) fun c2 => ?_
  ·skip
   have d2 := of_decide_eq_true c2
   have hkl : k < l.length := by omega
   have hop := are_op hk1 hkl
   have hrg := op_rng hop
   have hek := encK_len (l.getD (k : Int).toNat default).2.2.1
   have her := encR_len (l.getD (k : Int).toNat default).2.2.2.1
   have hen := encON_lenV hk1 hk
   iterate 14 refine z ?_
   refine o_callK 900471 rfl rfl rfl Tryz.call16 (ok_impl_AppendUvarint (x := (encON l k)) (n := (l.getD (k : Int).toNat default).1) (by omega)) (as_cons (ev_tmp rfl) (ag_one (ac_key' rfl rfl)) (as_cons (ev_tmp rfl) (ag_one ac_dv) as_nil)) rfl rfl rfl ?_
   iterate 2 refine z ?_
   refine ok_cutS (σ' := ⟨[(2, .one .nil), (3, .one (.key 900501)), (5, .box 5 0), (15, .one (.dv [] (opsD (l)))), (16, .one (.dv [] (.int .i64 ((((l)).length : Int))))), (17, .one (.dv [] (.int .i64 ((k : Int))))), (37, .one (.key 37)), (38, .one (.dv [] (.int .i64 (((4) : Int))))), (39, .one (.dv [] (.int .i64 (0))))], [(5, 34, [(.dv [] (.int .i64 ((((l)).getD ((k : Int)).toNat default).1))), (.dv [] (.str ((((l)).getD ((k : Int)).toNat default).2.1))), (.dv [] (.int .i64 ((((l)).getD ((k : Int)).toNat default).2.2.1.1))), (.dv [] (.int .i64 ((((l)).getD ((k : Int)).toNat default).2.2.1.2.1))), (.dv [] (.str ((((l)).getD ((k : Int)).toNat default).2.2.1.2.2))), (.dv [] (fieldsD ((((l)).getD ((k : Int)).toNat default).2.2.2.1))), (.dv [] (.str ((((l)).getD ((k : Int)).toNat default).2.2.2.2)))])], [(37, some (kcOf false (.sl 22 1 (4) ([.sl 1000005 1 (((((l)).getD ((k : Int)).toNat default).2.1).data.toList.length) (((((l)).getD ((k : Int)).toNat default).2.1).data.toList.flatMap eByte), bytesD (encK ((((l)).getD ((k : Int)).toNat default).2.2.1)), bytesD (encR ((((l)).getD ((k : Int)).toNat default).2.2.2.1)), .sl 1000005 1 (((((l)).getD ((k : Int)).toNat default).2.2.2.2).data.toList.length) (((((l)).getD ((k : Int)).toNat default).2.2.2.2).data.toList.flatMap eByte)])))), (900500, some (kcOf false (.sl 5 1 ((encON l k).length) ((encON l k).flatMap eByte)))), (900501, some (kcOf false (bytesD (opPart (encON l k) (l.getD (k : Int).toNat default) 0))))]⟩) ?_ ?_
   ·skip
    refine ok_regionD (oB := [5]) (oK := [900500, 900501]) (by kernel_rfl) rfl rfl ?_
    refine zD 0 ?_
    refine zD 1 ?_
    refine zD 3 ?_
    refine zD 4 ?_
    refine zD 6 ?_
    refine zD 7 ?_
    refine zD 9 ?_
    refine zD 10 ?_
    refine zD 14 ?_
    refine d_split 2 [5, 11] (by kernel_rfl) ⟨?_, ?_, ?_, trivial⟩
    ·skip
     refine j_convSB (k := 27) 2 hT rfl rfl rfl rfl rfl rfl rfl rfl (ev_tmp rfl) rfl rfl rfl ?_
     refine d_split 5 [11] (by kernel_rfl) ⟨?_, ?_, trivial⟩
     ·skip
      refine j_callK 900498 5 rfl rfl rfl rfl Tryz.call17 (ok_impl_EncodeKey (k := (((l)).getD ((k : Int)).toNat default).2.2.1) ) (as_cons (ev_tmp rfl) (ag_agg (ag_cons ac_dv (ag_cons ac_dv (ag_cons ac_dv ag_nil)))) as_nil) rfl rfl rfl rfl rfl ?_
      refine d_split 8 [11] (by kernel_rfl) ⟨?_, ?_, trivial⟩
      ·skip
       refine j_callK 900011 8 rfl rfl rfl rfl Tryz.call18 (ok_impl_EncodeRecord (r := (((l)).getD ((k : Int)).toNat default).2.2.2.1) ) (as_cons (ev_tmp rfl) (ag_agg (ag_cons ac_dv ag_nil)) as_nil) rfl rfl rfl rfl rfl ?_
       refine d_convSB (k := 36) 11 hT rfl (by kernel_rfl) rfl rfl rfl rfl rfl rfl rfl (ev_tmp rfl) rfl rfl rfl ?_
       refine d_buildN (k := 37) (js := [27, 900510, 900511, 36]) 12 hT rfl (by kernel_rfl) rfl rfl rfl rfl rfl rfl rfl rfl rfl rfl rfl (ep_cons (ev_tmp rfl) rfl rfl rfl (ep_cons (ev_tmp rfl) rfl rfl rfl (ep_cons (ev_tmp rfl) rfl rfl rfl (ep_cons (ev_tmp rfl) rfl rfl rfl ep_nil)))) (ow_cons' (ow_key rfl) (ow_cons' (ow_key rfl) (ow_cons' (ow_key rfl) (ow_cons' (ow_key rfl) ow_nil rfl) rfl) rfl) rfl) (by decide) (by decide) rfl rfl rfl rfl ?_
       simp only [killT, killB, SV.kill, CV.kill, kk, Nat.reduceBEq]
       refine d_take 13 rfl (by kernel_rfl) rfl rfl (pu_lenKn (n := (4)) hT rfl rfl (ev_tmp rfl) rfl rfl) rfl rfl rfl rfl ?_
       refine d_done (by kernel_rfl) ?_
       exact then_n (weak_sub ⟨rfl, rfl, rfl, rfl, rfl, rfl, rfl, rfl, rfl, trivial⟩ ⟨rfl, trivial⟩ ⟨rfl, rfl, rfl, trivial⟩ rfl)
      ·skip
       refine j_convSB (k := 36) 11 hT rfl rfl rfl rfl rfl rfl rfl rfl (ev_tmp rfl) rfl rfl rfl ?_
       refine d_callK 900011 8 rfl (by kernel_rfl) rfl rfl rfl Tryz.call18 (ok_impl_EncodeRecord (r := (((l)).getD ((k : Int)).toNat default).2.2.2.1) ) (as_cons (ev_tmp rfl) (ag_agg (ag_cons ac_dv ag_nil)) as_nil) rfl rfl rfl rfl rfl ?_
       refine d_buildN (k := 37) (js := [27, 900510, 900511, 36]) 12 hT rfl (by kernel_rfl) rfl rfl rfl rfl rfl rfl rfl rfl rfl rfl rfl (ep_cons (ev_tmp rfl) rfl rfl rfl (ep_cons (ev_tmp rfl) rfl rfl rfl (ep_cons (ev_tmp rfl) rfl rfl rfl (ep_cons (ev_tmp rfl) rfl rfl rfl ep_nil)))) (ow_cons' (ow_key rfl) (ow_cons' (ow_key rfl) (ow_cons' (ow_key rfl) (ow_cons' (ow_key rfl) ow_nil rfl) rfl) rfl) rfl) (by decide) (by decide) rfl rfl rfl rfl ?_
       simp only [killT, killB, SV.kill, CV.kill, kk, Nat.reduceBEq]
       refine d_take 13 rfl (by kernel_rfl) rfl rfl (pu_lenKn (n := (4)) hT rfl rfl (ev_tmp rfl) rfl rfl) rfl rfl rfl rfl ?_
       refine d_done (by kernel_rfl) ?_
       exact then_n (weak_sub ⟨rfl, rfl, rfl, rfl, rfl, rfl, rfl, rfl, rfl, trivial⟩ ⟨rfl, trivial⟩ ⟨rfl, rfl, rfl, trivial⟩ rfl)
     ·skip
      refine j_convSB (k := 36) 11 hT rfl rfl rfl rfl rfl rfl rfl rfl (ev_tmp rfl) rfl rfl rfl ?_
      refine d_callK 900498 5 rfl (by kernel_rfl) rfl rfl rfl Tryz.call17 (ok_impl_EncodeKey (k := (((l)).getD ((k : Int)).toNat default).2.2.1) ) (as_cons (ev_tmp rfl) (ag_agg (ag_cons ac_dv (ag_cons ac_dv (ag_cons ac_dv ag_nil)))) as_nil) rfl rfl rfl rfl rfl ?_
      refine d_callK 900011 8 rfl (by kernel_rfl) rfl rfl rfl Tryz.call18 (ok_impl_EncodeRecord (r := (((l)).getD ((k : Int)).toNat default).2.2.2.1) ) (as_cons (ev_tmp rfl) (ag_agg (ag_cons ac_dv ag_nil)) as_nil) rfl rfl rfl rfl rfl ?_
      refine d_buildN (k := 37) (js := [27, 900510, 900511, 36]) 12 hT rfl (by kernel_rfl) rfl rfl rfl rfl rfl rfl rfl rfl rfl rfl rfl (ep_cons (ev_tmp rfl) rfl rfl rfl (ep_cons (ev_tmp rfl) rfl rfl rfl (ep_cons (ev_tmp rfl) rfl rfl rfl (ep_cons (ev_tmp rfl) rfl rfl rfl ep_nil)))) (ow_cons' (ow_key rfl) (ow_cons' (ow_key rfl) (ow_cons' (ow_key rfl) (ow_cons' (ow_key rfl) ow_nil rfl) rfl) rfl) rfl) (by decide) (by decide) rfl rfl rfl rfl ?_
      simp only [killT, killB, SV.kill, CV.kill, kk, Nat.reduceBEq]
      refine d_take 13 rfl (by kernel_rfl) rfl rfl (pu_lenKn (n := (4)) hT rfl rfl (ev_tmp rfl) rfl rfl) rfl rfl rfl rfl ?_
      refine d_done (by kernel_rfl) ?_
      exact then_n (weak_sub ⟨rfl, rfl, rfl, rfl, rfl, rfl, rfl, rfl, rfl, trivial⟩ ⟨rfl, trivial⟩ ⟨rfl, rfl, rfl, trivial⟩ rfl)
    ·skip
     refine j_callK 900498 5 rfl rfl rfl rfl Tryz.call17 (ok_impl_EncodeKey (k := (((l)).getD ((k : Int)).toNat default).2.2.1) ) (as_cons (ev_tmp rfl) (ag_agg (ag_cons ac_dv (ag_cons ac_dv (ag_cons ac_dv ag_nil)))) as_nil) rfl rfl rfl rfl rfl ?_
     refine d_split 2 [8, 11] (by kernel_rfl) ⟨?_, ?_, ?_, trivial⟩
     ·skip
      refine j_convSB (k := 27) 2 hT rfl rfl rfl rfl rfl rfl rfl rfl (ev_tmp rfl) rfl rfl rfl ?_
      refine d_split 8 [11] (by kernel_rfl) ⟨?_, ?_, trivial⟩
      ·skip
       refine j_callK 900011 8 rfl rfl rfl rfl Tryz.call18 (ok_impl_EncodeRecord (r := (((l)).getD ((k : Int)).toNat default).2.2.2.1) ) (as_cons (ev_tmp rfl) (ag_agg (ag_cons ac_dv ag_nil)) as_nil) rfl rfl rfl rfl rfl ?_
       refine d_convSB (k := 36) 11 hT rfl (by kernel_rfl) rfl rfl rfl rfl rfl rfl rfl (ev_tmp rfl) rfl rfl rfl ?_
       refine d_buildN (k := 37) (js := [27, 900510, 900511, 36]) 12 hT rfl (by kernel_rfl) rfl rfl rfl rfl rfl rfl rfl rfl rfl rfl rfl (ep_cons (ev_tmp rfl) rfl rfl rfl (ep_cons (ev_tmp rfl) rfl rfl rfl (ep_cons (ev_tmp rfl) rfl rfl rfl (ep_cons (ev_tmp rfl) rfl rfl rfl ep_nil)))) (ow_cons' (ow_key rfl) (ow_cons' (ow_key rfl) (ow_cons' (ow_key rfl) (ow_cons' (ow_key rfl) ow_nil rfl) rfl) rfl) rfl) (by decide) (by decide) rfl rfl rfl rfl ?_
       simp only [killT, killB, SV.kill, CV.kill, kk, Nat.reduceBEq]
       refine d_take 13 rfl (by kernel_rfl) rfl rfl (pu_lenKn (n := (4)) hT rfl rfl (ev_tmp rfl) rfl rfl) rfl rfl rfl rfl ?_
       refine d_done (by kernel_rfl) ?_
       exact then_n (weak_sub ⟨rfl, rfl, rfl, rfl, rfl, rfl, rfl, rfl, rfl, trivial⟩ ⟨rfl, trivial⟩ ⟨rfl, rfl, rfl, trivial⟩ rfl)
      ·skip
       refine j_convSB (k := 36) 11 hT rfl rfl rfl rfl rfl rfl rfl rfl (ev_tmp rfl) rfl rfl rfl ?_
       refine d_callK 900011 8 rfl (by kernel_rfl) rfl rfl rfl Tryz.call18 (ok_impl_EncodeRecord (r := (((l)).getD ((k : Int)).toNat default).2.2.2.1) ) (as_cons (ev_tmp rfl) (ag_agg (ag_cons ac_dv ag_nil)) as_nil) rfl rfl rfl rfl rfl ?_
       refine d_buildN (k := 37) (js := [27, 900510, 900511, 36]) 12 hT rfl (by kernel_rfl) rfl rfl rfl rfl rfl rfl rfl rfl rfl rfl rfl (ep_cons (ev_tmp rfl) rfl rfl rfl (ep_cons (ev_tmp rfl) rfl rfl rfl (ep_cons (ev_tmp rfl) rfl rfl rfl (ep_cons (ev_tmp rfl) rfl rfl rfl ep_nil)))) (ow_cons' (ow_key rfl) (ow_cons' (ow_key rfl) (ow_cons' (ow_key rfl) (ow_cons' (ow_key rfl) ow_nil rfl) rfl) rfl) rfl) (by decide) (by decide) rfl rfl rfl rfl ?_
       simp only [killT, killB, SV.kill, CV.kill, kk, Nat.reduceBEq]
       refine d_take 13 rfl (by kernel_rfl) rfl rfl (pu_lenKn (n := (4)) hT rfl rfl (ev_tmp rfl) rfl rfl) rfl rfl rfl rfl ?_
       refine d_done (by kernel_rfl) ?_
       exact then_n (weak_sub ⟨rfl, rfl, rfl, rfl, rfl, rfl, rfl, rfl, rfl, trivial⟩ ⟨rfl, trivial⟩ ⟨rfl, rfl, rfl, trivial⟩ rfl)
     ·skip
      refine j_callK 900011 8 rfl rfl rfl rfl Tryz.call18 (ok_impl_EncodeRecord (r := (((l)).getD ((k : Int)).toNat default).2.2.2.1) ) (as_cons (ev_tmp rfl) (ag_agg (ag_cons ac_dv ag_nil)) as_nil) rfl rfl rfl rfl rfl ?_
      refine d_split 2 [11] (by kernel_rfl) ⟨?_, ?_, trivial⟩
      ·skip
       refine j_convSB (k := 27) 2 hT rfl rfl rfl rfl rfl rfl rfl rfl (ev_tmp rfl) rfl rfl rfl ?_
       refine d_convSB (k := 36) 11 hT rfl (by kernel_rfl) rfl rfl rfl rfl rfl rfl rfl (ev_tmp rfl) rfl rfl rfl ?_
       refine d_buildN (k := 37) (js := [27, 900510, 900511, 36]) 12 hT rfl (by kernel_rfl) rfl rfl rfl rfl rfl rfl rfl rfl rfl rfl rfl (ep_cons (ev_tmp rfl) rfl rfl rfl (ep_cons (ev_tmp rfl) rfl rfl rfl (ep_cons (ev_tmp rfl) rfl rfl rfl (ep_cons (ev_tmp rfl) rfl rfl rfl ep_nil)))) (ow_cons' (ow_key rfl) (ow_cons' (ow_key rfl) (ow_cons' (ow_key rfl) (ow_cons' (ow_key rfl) ow_nil rfl) rfl) rfl) rfl) (by decide) (by decide) rfl rfl rfl rfl ?_
       simp only [killT, killB, SV.kill, CV.kill, kk, Nat.reduceBEq]
       refine d_take 13 rfl (by kernel_rfl) rfl rfl (pu_lenKn (n := (4)) hT rfl rfl (ev_tmp rfl) rfl rfl) rfl rfl rfl rfl ?_
       refine d_done (by kernel_rfl) ?_
       exact then_n (weak_sub ⟨rfl, rfl, rfl, rfl, rfl, rfl, rfl, rfl, rfl, trivial⟩ ⟨rfl, trivial⟩ ⟨rfl, rfl, rfl, trivial⟩ rfl)
      ·skip
       refine j_convSB (k := 36) 11 hT rfl rfl rfl rfl rfl rfl rfl rfl (ev_tmp rfl) rfl rfl rfl ?_
       refine d_convSB (k := 27) 2 hT rfl (by kernel_rfl) rfl rfl rfl rfl rfl rfl rfl (ev_tmp rfl) rfl rfl rfl ?_
       refine d_buildN (k := 37) (js := [27, 900510, 900511, 36]) 12 hT rfl (by kernel_rfl) rfl rfl rfl rfl rfl rfl rfl rfl rfl rfl rfl (ep_cons (ev_tmp rfl) rfl rfl rfl (ep_cons (ev_tmp rfl) rfl rfl rfl (ep_cons (ev_tmp rfl) rfl rfl rfl (ep_cons (ev_tmp rfl) rfl rfl rfl ep_nil)))) (ow_cons' (ow_key rfl) (ow_cons' (ow_key rfl) (ow_cons' (ow_key rfl) (ow_cons' (ow_key rfl) ow_nil rfl) rfl) rfl) rfl) (by decide) (by decide) rfl rfl rfl rfl ?_
       simp only [killT, killB, SV.kill, CV.kill, kk, Nat.reduceBEq]
       refine d_take 13 rfl (by kernel_rfl) rfl rfl (pu_lenKn (n := (4)) hT rfl rfl (ev_tmp rfl) rfl rfl) rfl rfl rfl rfl ?_
       refine d_done (by kernel_rfl) ?_
       exact then_n (weak_sub ⟨rfl, rfl, rfl, rfl, rfl, rfl, rfl, rfl, rfl, trivial⟩ ⟨rfl, trivial⟩ ⟨rfl, rfl, rfl, trivial⟩ rfl)
     ·skip
      refine j_convSB (k := 36) 11 hT rfl rfl rfl rfl rfl rfl rfl rfl (ev_tmp rfl) rfl rfl rfl ?_
      refine d_split 2 [8] (by kernel_rfl) ⟨?_, ?_, trivial⟩
      ·skip
       refine j_convSB (k := 27) 2 hT rfl rfl rfl rfl rfl rfl rfl rfl (ev_tmp rfl) rfl rfl rfl ?_
       refine d_callK 900011 8 rfl (by kernel_rfl) rfl rfl rfl Tryz.call18 (ok_impl_EncodeRecord (r := (((l)).getD ((k : Int)).toNat default).2.2.2.1) ) (as_cons (ev_tmp rfl) (ag_agg (ag_cons ac_dv ag_nil)) as_nil) rfl rfl rfl rfl rfl ?_
       refine d_buildN (k := 37) (js := [27, 900510, 900511, 36]) 12 hT rfl (by kernel_rfl) rfl rfl rfl rfl rfl rfl rfl rfl rfl rfl rfl (ep_cons (ev_tmp rfl) rfl rfl rfl (ep_cons (ev_tmp rfl) rfl rfl rfl (ep_cons (ev_tmp rfl) rfl rfl rfl (ep_cons (ev_tmp rfl) rfl rfl rfl ep_nil)))) (ow_cons' (ow_key rfl) (ow_cons' (ow_key rfl) (ow_cons' (ow_key rfl) (ow_cons' (ow_key rfl) ow_nil rfl) rfl) rfl) rfl) (by decide) (by decide) rfl rfl rfl rfl ?_
       simp only [killT, killB, SV.kill, CV.kill, kk, Nat.reduceBEq]
       refine d_take 13 rfl (by kernel_rfl) rfl rfl (pu_lenKn (n := (4)) hT rfl rfl (ev_tmp rfl) rfl rfl) rfl rfl rfl rfl ?_
       refine d_done (by kernel_rfl) ?_
       exact then_n (weak_sub ⟨rfl, rfl, rfl, rfl, rfl, rfl, rfl, rfl, rfl, trivial⟩ ⟨rfl, trivial⟩ ⟨rfl, rfl, rfl, trivial⟩ rfl)
      ·skip
       refine j_callK 900011 8 rfl rfl rfl rfl Tryz.call18 (ok_impl_EncodeRecord (r := (((l)).getD ((k : Int)).toNat default).2.2.2.1) ) (as_cons (ev_tmp rfl) (ag_agg (ag_cons ac_dv ag_nil)) as_nil) rfl rfl rfl rfl rfl ?_
       refine d_convSB (k := 27) 2 hT rfl (by kernel_rfl) rfl rfl rfl rfl rfl rfl rfl (ev_tmp rfl) rfl rfl rfl ?_
       refine d_buildN (k := 37) (js := [27, 900510, 900511, 36]) 12 hT rfl (by kernel_rfl) rfl rfl rfl rfl rfl rfl rfl rfl rfl rfl rfl (ep_cons (ev_tmp rfl) rfl rfl rfl (ep_cons (ev_tmp rfl) rfl rfl rfl (ep_cons (ev_tmp rfl) rfl rfl rfl (ep_cons (ev_tmp rfl) rfl rfl rfl ep_nil)))) (ow_cons' (ow_key rfl) (ow_cons' (ow_key rfl) (ow_cons' (ow_key rfl) (ow_cons' (ow_key rfl) ow_nil rfl) rfl) rfl) rfl) (by decide) (by decide) rfl rfl rfl rfl ?_
       simp only [killT, killB, SV.kill, CV.kill, kk, Nat.reduceBEq]
       refine d_take 13 rfl (by kernel_rfl) rfl rfl (pu_lenKn (n := (4)) hT rfl rfl (ev_tmp rfl) rfl rfl) rfl rfl rfl rfl ?_
       refine d_done (by kernel_rfl) ?_
       exact then_n (weak_sub ⟨rfl, rfl, rfl, rfl, rfl, rfl, rfl, rfl, rfl, trivial⟩ ⟨rfl, trivial⟩ ⟨rfl, rfl, rfl, trivial⟩ rfl)
    ·skip
     refine j_convSB (k := 36) 11 hT rfl rfl rfl rfl rfl rfl rfl rfl (ev_tmp rfl) rfl rfl rfl ?_
     refine d_split 2 [5] (by kernel_rfl) ⟨?_, ?_, trivial⟩
     ·skip
      refine j_convSB (k := 27) 2 hT rfl rfl rfl rfl rfl rfl rfl rfl (ev_tmp rfl) rfl rfl rfl ?_
      refine d_callK 900498 5 rfl (by kernel_rfl) rfl rfl rfl Tryz.call17 (ok_impl_EncodeKey (k := (((l)).getD ((k : Int)).toNat default).2.2.1) ) (as_cons (ev_tmp rfl) (ag_agg (ag_cons ac_dv (ag_cons ac_dv (ag_cons ac_dv ag_nil)))) as_nil) rfl rfl rfl rfl rfl ?_
      refine d_callK 900011 8 rfl (by kernel_rfl) rfl rfl rfl Tryz.call18 (ok_impl_EncodeRecord (r := (((l)).getD ((k : Int)).toNat default).2.2.2.1) ) (as_cons (ev_tmp rfl) (ag_agg (ag_cons ac_dv ag_nil)) as_nil) rfl rfl rfl rfl rfl ?_
      refine d_buildN (k := 37) (js := [27, 900510, 900511, 36]) 12 hT rfl (by kernel_rfl) rfl rfl rfl rfl rfl rfl rfl rfl rfl rfl rfl (ep_cons (ev_tmp rfl) rfl rfl rfl (ep_cons (ev_tmp rfl) rfl rfl rfl (ep_cons (ev_tmp rfl) rfl rfl rfl (ep_cons (ev_tmp rfl) rfl rfl rfl ep_nil)))) (ow_cons' (ow_key rfl) (ow_cons' (ow_key rfl) (ow_cons' (ow_key rfl) (ow_cons' (ow_key rfl) ow_nil rfl) rfl) rfl) rfl) (by decide) (by decide) rfl rfl rfl rfl ?_
      simp only [killT, killB, SV.kill, CV.kill, kk, Nat.reduceBEq]
      refine d_take 13 rfl (by kernel_rfl) rfl rfl (pu_lenKn (n := (4)) hT rfl rfl (ev_tmp rfl) rfl rfl) rfl rfl rfl rfl ?_
      refine d_done (by kernel_rfl) ?_
      exact then_n (weak_sub ⟨rfl, rfl, rfl, rfl, rfl, rfl, rfl, rfl, rfl, trivial⟩ ⟨rfl, trivial⟩ ⟨rfl, rfl, rfl, trivial⟩ rfl)
     ·skip
      refine j_callK 900498 5 rfl rfl rfl rfl Tryz.call17 (ok_impl_EncodeKey (k := (((l)).getD ((k : Int)).toNat default).2.2.1) ) (as_cons (ev_tmp rfl) (ag_agg (ag_cons ac_dv (ag_cons ac_dv (ag_cons ac_dv ag_nil)))) as_nil) rfl rfl rfl rfl rfl ?_
      refine d_split 2 [8] (by kernel_rfl) ⟨?_, ?_, trivial⟩
      ·skip
       refine j_convSB (k := 27) 2 hT rfl rfl rfl rfl rfl rfl rfl rfl (ev_tmp rfl) rfl rfl rfl ?_
       refine d_callK 900011 8 rfl (by kernel_rfl) rfl rfl rfl Tryz.call18 (ok_impl_EncodeRecord (r := (((l)).getD ((k : Int)).toNat default).2.2.2.1) ) (as_cons (ev_tmp rfl) (ag_agg (ag_cons ac_dv ag_nil)) as_nil) rfl rfl rfl rfl rfl ?_
       refine d_buildN (k := 37) (js := [27, 900510, 900511, 36]) 12 hT rfl (by kernel_rfl) rfl rfl rfl rfl rfl rfl rfl rfl rfl rfl rfl (ep_cons (ev_tmp rfl) rfl rfl rfl (ep_cons (ev_tmp rfl) rfl rfl rfl (ep_cons (ev_tmp rfl) rfl rfl rfl (ep_cons (ev_tmp rfl) rfl rfl rfl ep_nil)))) (ow_cons' (ow_key rfl) (ow_cons' (ow_key rfl) (ow_cons' (ow_key rfl) (ow_cons' (ow_key rfl) ow_nil rfl) rfl) rfl) rfl) (by decide) (by decide) rfl rfl rfl rfl ?_
       simp only [killT, killB, SV.kill, CV.kill, kk, Nat.reduceBEq]
       refine d_take 13 rfl (by kernel_rfl) rfl rfl (pu_lenKn (n := (4)) hT rfl rfl (ev_tmp rfl) rfl rfl) rfl rfl rfl rfl ?_
       refine d_done (by kernel_rfl) ?_
       exact then_n (weak_sub ⟨rfl, rfl, rfl, rfl, rfl, rfl, rfl, rfl, rfl, trivial⟩ ⟨rfl, trivial⟩ ⟨rfl, rfl, rfl, trivial⟩ rfl)
      ·skip
       refine j_callK 900011 8 rfl rfl rfl rfl Tryz.call18 (ok_impl_EncodeRecord (r := (((l)).getD ((k : Int)).toNat default).2.2.2.1) ) (as_cons (ev_tmp rfl) (ag_agg (ag_cons ac_dv ag_nil)) as_nil) rfl rfl rfl rfl rfl ?_
       refine d_convSB (k := 27) 2 hT rfl (by kernel_rfl) rfl rfl rfl rfl rfl rfl rfl (ev_tmp rfl) rfl rfl rfl ?_
       refine d_buildN (k := 37) (js := [27, 900510, 900511, 36]) 12 hT rfl (by kernel_rfl) rfl rfl rfl rfl rfl rfl rfl rfl rfl rfl rfl (ep_cons (ev_tmp rfl) rfl rfl rfl (ep_cons (ev_tmp rfl) rfl rfl rfl (ep_cons (ev_tmp rfl) rfl rfl rfl (ep_cons (ev_tmp rfl) rfl rfl rfl ep_nil)))) (ow_cons' (ow_key rfl) (ow_cons' (ow_key rfl) (ow_cons' (ow_key rfl) (ow_cons' (ow_key rfl) ow_nil rfl) rfl) rfl) rfl) (by decide) (by decide) rfl rfl rfl rfl ?_
       simp only [killT, killB, SV.kill, CV.kill, kk, Nat.reduceBEq]
       refine d_take 13 rfl (by kernel_rfl) rfl rfl (pu_lenKn (n := (4)) hT rfl rfl (ev_tmp rfl) rfl rfl) rfl rfl rfl rfl ?_
       refine d_done (by kernel_rfl) ?_
       exact then_n (weak_sub ⟨rfl, rfl, rfl, rfl, rfl, rfl, rfl, rfl, rfl, trivial⟩ ⟨rfl, trivial⟩ ⟨rfl, rfl, rfl, trivial⟩ rfl)
   refine z ?_
   refine ok_weak (weak_view (d := 37) (dd := bytessD (partsO (l.getD (k : Int).toNat default))) rfl rfl (ds_sl (dss_cons ds_ty (dss_cons ds_ty (dss_cons ds_ty (dss_cons ds_ty dss_nil)))))) ?_
   refine ok_loop (ι := Nat) (fun zz => ⟨[(2, .one .nil), (3, .one (.key 900501)), (15, .one (.dv [] (opsD (l)))), (16, .one (.dv [] (.int .i64 ((((l)).length : Int))))), (17, .one (.dv [] (.int .i64 ((k : Int))))), (37, .one (.dv [37] (bytessD (partsO (l.getD (k : Int).toNat default))))), (38, .one (.dv [] (.int .i64 (((4) : Int))))), (39, .one (.dv [] (.int .i64 ((zz : Int)))))], [], [(37, some (kcOf false (.sl 22 1 (4) ([.sl 1000005 1 (((((l)).getD ((k : Int)).toNat default).2.1).data.toList.length) (((((l)).getD ((k : Int)).toNat default).2.1).data.toList.flatMap eByte), bytesD (encK ((((l)).getD ((k : Int)).toNat default).2.2.1)), bytesD (encR ((((l)).getD ((k : Int)).toNat default).2.2.2.1)), .sl 1000005 1 (((((l)).getD ((k : Int)).toNat default).2.2.2.2).data.toList.length) (((((l)).getD ((k : Int)).toNat default).2.2.2.2).data.toList.flatMap eByte)])))), (900500, some (kcOf false (.sl 5 1 ((encON l k).length) ((encON l k).flatMap eByte)))), (900501, some (kcOf false (.sl 5 1 ((opPart (encON l k) (l.getD (k : Int).toNat default) zz).length) ((opPart (encON l k) (l.getD (k : Int).toNat default) zz).flatMap eByte))))]⟩) (fun zz => zz ≤ 4) (fun zz => 4 - zz) (0) ?_ (weak_sub ⟨rfl, rfl, rfl, rfl, rfl, rfl, rfl, rfl, trivial⟩ trivial ⟨rfl, rfl, rfl, trivial⟩ rfl) (fun zz hx => ?_)
   ·exact Nat.zero_le _
   obtain ⟨j, rfl⟩ : ∃ v, v = zz := ⟨_, rfl⟩
   replace hx : j ≤ 4 := hx
   have hj := hx
   show Ok _ _ _ _ _ (⟨[(2, .one .nil), (3, .one (.key 900501)), (15, .one (.dv [] (opsD (l)))), (16, .one (.dv [] (.int .i64 ((((l)).length : Int))))), (17, .one (.dv [] (.int .i64 ((k : Int))))), (37, .one (.dv [37] (bytessD (partsO (l.getD (k : Int).toNat default))))), (38, .one (.dv [] (.int .i64 (((4) : Int))))), (39, .one (.dv [] (.int .i64 ((j : Int)))))], [], [(37, some (kcOf false (.sl 22 1 (4) ([.sl 1000005 1 (((((l)).getD ((k : Int)).toNat default).2.1).data.toList.length) (((((l)).getD ((k : Int)).toNat default).2.1).data.toList.flatMap eByte), bytesD (encK ((((l)).getD ((k : Int)).toNat default).2.2.1)), bytesD (encR ((((l)).getD ((k : Int)).toNat default).2.2.2.1)), .sl 1000005 1 (((((l)).getD ((k : Int)).toNat default).2.2.2.2).data.toList.length) (((((l)).getD ((k : Int)).toNat default).2.2.2.2).data.toList.flatMap eByte)])))), (900500, some (kcOf false (.sl 5 1 ((encON l k).length) ((encON l k).flatMap eByte)))), (900501, some (kcOf false (.sl 5 1 ((opPart (encON l k) (l.getD (k : Int).toNat default) j).length) ((opPart (encON l k) (l.getD (k : Int).toNat default) j).flatMap eByte))))]⟩ : St)
   iterate 3 refine z ?_
   refine ok_seq ?_
   refine yQ rfl (fun c3 => ?_) fun c3 => ?_
   ·skip
    have d3 := of_decide_eq_true c3
    have hj4 : j < 4 := by omega
    have hpn : (partsO (l.getD (k : Int).toNat default)).length = 4 := rfl
    have hpl := part_len hop j
    have hol := opPart_len (b := (encON l k)) hop j
    iterate 9 refine z ?_
    refine ok_region ?_
    iterate 2 refine z ?_
    refine o_callK 892472 rfl rfl rfl Tryz.call19 (ok_impl_AppendBytes (x := (opPart (encON l k) (l.getD (k : Int).toNat default) j)) (y := (partsO (l.getD (k : Int).toNat default)).getD (j : Int).toNat default) (by omega) (by omega)) (as_cons (ev_tmp rfl) (ag_one (ac_key' rfl rfl)) (as_cons (ev_tmp rfl) (ag_one ac_dv) as_nil)) rfl rfl rfl ?_
    refine z ?_
    refine ops_nil ?_
    iterate 2 refine z ?_
    refine ok_weak (weak_swap (s := 3) (k := 900502) (k' := 900501) rfl rfl rfl (by decide) rfl) ?_
    simp only [killT, killB, SV.kill, CV.kill, kk, Nat.reduceBEq]
    refine ok_region ?_
    iterate 3 refine z ?_
    refine ⟨j + 1, ?_, ?_, weak_sub ⟨rfl, rfl, rfl, rfl, rfl, rfl, rfl, rfl, trivial⟩ trivial ⟨rfl, rfl, rfl, trivial⟩ rfl⟩
    ·omega
    ·omega
   ·skip
    have d3 := of_decide_eq_false c3
    have hj4 : j = 4 := by omega
    iterate 6 refine z ?_
    refine ok_weak (weak_swap (s := 3) (k := 900501) (k' := 900500) rfl rfl rfl (by decide) rfl) ?_
    simp only [killT, killB, SV.kill, CV.kill, kk, Nat.reduceBEq]
    refine ok_region ?_
    iterate 3 refine z ?_
    refine ⟨k + 1, ?_, ?_, weak_sub ⟨rfl, rfl, rfl, rfl, rfl, trivial⟩ trivial ⟨(by rw [hj4]; rfl), trivial⟩ rfl⟩
    ·omega
    ·omega
  ·skip
   have d2 := of_decide_eq_false c2
   iterate 9 refine z ?_
   refine ok_weak (σ' := ⟨[(2, .one (.key 900500))], [], [(900500, some (kcOf false (bytesD (encO l))))]⟩) (weak_sub ⟨rfl, trivial⟩ trivial ⟨(by first | exact congrArg (fun l : List UInt8 => some (some (KC.mk false 5 1 l.length (l.flatMap eByte)))) (show ([] : List UInt8) = encO l from (encO_bad hk0).symm) | exact congrArg (fun l : List UInt8 => some (some (KC.mk false 5 1 l.length (l.flatMap eByte)))) (encO_ok hk1 (by omega)).symm), trivial⟩ rfl) ?_
   refine z ?_
   refine fin1 (res_tmp rfl) ?_
   exact ⟨rfl, rfl⟩
theorem ok_spec_EncodeOps {l : List OpT} (hb : l.length ≤ 1048576) : KFn Tryz.prog 30 [.one (.dv [] (opsD (l)))] (.one (.key 900500)) [(900500, some (kcOf false (bytesD (encO l))))] := by
 refine ⟨fn_intro Tryz.func30 rfl Tryz.ntmps30 Tryz.results30 rfl (fun C => ?_)⟩
 refine ok_fact (x := .tmp 0) (ev_tmp rfl) fun f0 => ?_
 iterate 4 refine z ?_
 refine o_build0 (k := 5) hT rfl rfl rfl rfl rfl rfl rfl rfl ?_
 iterate 2 refine z ?_
 refine o_callK 900494 rfl rfl rfl Tryz.call45 (ok_spec_AppendUvarint (x := []) (n := (l.length : Int)) (by simp)) (as_cons (ev_tmp rfl) (ag_one (ac_key' rfl rfl)) (as_cons (ev_tmp rfl) (ag_one ac_dv) as_nil)) rfl rfl rfl ?_
 iterate 7 refine z ?_
 refine ok_loop (ι := Nat) (fun zz => ⟨[(0, .one (.dv [] (opsD (l)))), (3, .one (.key 900500)), (4, .one (.dv [] (.int .i64 ((zz : Int)))))], [], [(900500, some (kcOf false (.sl 5 1 ((encON l zz).length) ((encON l zz).flatMap eByte))))]⟩) (fun zz => zz ≤ l.length ∧ (l.take zz).all isOpB = true) (fun zz => l.length - zz) (0) ?_ (weak_sub ⟨rfl, rfl, rfl, trivial⟩ trivial ⟨rfl, trivial⟩ rfl) (fun zz hx => ?_)
 ·exact ⟨Nat.zero_le _, rfl⟩
 obtain ⟨k, rfl⟩ : ∃ v, v = zz := ⟨_, rfl⟩
 replace hx : k ≤ l.length ∧ (l.take k).all isOpB = true := hx
 obtain ⟨hk, hall⟩ := hx
 show Ok _ _ _ _ _ (⟨[(0, .one (.dv [] (opsD (l)))), (3, .one (.key 900500)), (4, .one (.dv [] (.int .i64 ((k : Int)))))], [], [(900500, some (kcOf false (.sl 5 1 ((encON l k).length) ((encON l k).flatMap eByte))))]⟩ : St)
 iterate 7 refine z ?_
 refine yQ rfl (fun c1 => ?_) fun c1 => ?_
 ·skip
  have d1 := of_decide_eq_true c1
  iterate 10 refine z ?_
  refine zC Tryz.call7 ?_ (hf := ok_spec_IsOp (x := (((l)).getD ((k : Int)).toNat default)) )
  iterate 2 refine z ?_
  refine yQ rfl (fun c2 => ?_) fun c2 => ?_
  ·skip
   have hkl : k < l.length := by omega
   have hk0 : areB l = false := are_no hkl (by simpa using c2)
   refine ok_seq ?_
   refine ok_weak (σ' := ⟨[], [], []⟩) (weak_sub trivial trivial trivial rfl) ?_
   refine ok_region ?_
   refine o_build0 (k := 900500) hT rfl rfl rfl rfl rfl rfl rfl rfl ?_
   iterate 2 refine z ?_
   refine ok_weak (σ' := ⟨[(2, .one (.key 900500))], [], [(900500, some (kcOf false (bytesD (encO l))))]⟩) (weak_sub ⟨rfl, trivial⟩ trivial ⟨(by first | exact congrArg (fun l : List UInt8 => some (some (KC.mk false 5 1 l.length (l.flatMap eByte)))) (show ([] : List UInt8) = encO l from (encO_bad hk0).symm) | exact congrArg (fun l : List UInt8 => some (some (KC.mk false 5 1 l.length (l.flatMap eByte)))) (encO_ok hk1 (by omega)).symm), trivial⟩ rfl) ?_
   iterate 7 refine z ?_
   refine fin1 (res_tmp rfl) ?_
   exact ⟨rfl, rfl⟩
  ·skip
   have hkl : k < l.length := by omega
   have hop := (by simpa using c2 : isOpB (l.getD (k : Int).toNat default) = true)
   have hrg := op_rng hop
   have hek := encK_len (l.getD (k : Int).toNat default).2.2.1
   have her := encR_len (l.getD (k : Int).toNat default).2.2.2.1
   have hen := encON_len k hk hall
   have hl0 := opPart_len (b := (encON l k)) hop 0
   have hl1 := opPart_len (b := (encON l k)) hop 1
   have hl2 := opPart_len (b := (encON l k)) hop 2
   have hl3 := opPart_len (b := (encON l k)) hop 3
   iterate 2 refine z ?_
   refine ok_cutS (σ' := ⟨[(0, .one (.dv [] (opsD (l)))), (3, .one (.key 900502)), (4, .one (.dv [] (.int .i64 ((k : Int)))))], [], [(900500, some (kcOf false (.sl 5 1 ((encON l k).length) ((encON l k).flatMap eByte)))), (900502, some (kcOf false (bytesD (opPart (encON l k) (l.getD (k : Int).toNat default) 1))))]⟩) ?_ ?_
   ·skip
    refine ok_regionD (oB := []) (oK := [900500]) (by kernel_rfl) rfl rfl ?_
    refine zD 0 ?_
    refine zD 1 ?_
    refine zD 2 ?_
    refine zD 3 ?_
    refine zD 4 ?_
    refine zD 5 ?_
    refine zD 7 ?_
    refine zD 8 ?_
    refine zD 9 ?_
    refine zD 10 ?_
    refine zD 11 ?_
    refine d_split 6 [12] (by kernel_rfl) ⟨?_, ?_, trivial⟩
    ·skip
     refine j_callK 900495 6 rfl rfl rfl rfl Tryz.call45 (ok_spec_AppendUvarint (x := (encON l k)) (n := (l.getD (k : Int).toNat default).1) (by omega)) (as_cons (ev_tmp rfl) (ag_one (ac_key' rfl rfl)) (as_cons (ev_tmp rfl) (ag_one ac_dv) as_nil)) rfl rfl rfl rfl rfl ?_
     refine d_convSB (k := 34) 12 hT rfl (by kernel_rfl) rfl rfl rfl rfl rfl rfl rfl (ev_tmp rfl) rfl rfl rfl ?_
     refine d_callK 892496 13 rfl (by kernel_rfl) rfl rfl rfl Tryz.call46 (ok_spec_AppendBytes (x := opPart (encON l k) (l.getD (k : Int).toNat default) 0) (y := (l.getD (k : Int).toNat default).2.1.data.toList) (by omega) (by omega)) (as_cons (ev_tmp rfl) (ag_one (ac_key' rfl rfl)) (as_cons (ev_tmp rfl) (ag_one (ac_key' rfl rfl)) as_nil)) rfl rfl rfl rfl rfl ?_
     refine zD 14 ?_
     refine d_done (by kernel_rfl) ?_
     exact then_n (weak_sub ⟨rfl, rfl, rfl, trivial⟩ trivial ⟨rfl, rfl, trivial⟩ rfl)
    ·skip
     refine j_convSB (k := 34) 12 hT rfl rfl rfl rfl rfl rfl rfl rfl (ev_tmp rfl) rfl rfl rfl ?_
     refine d_callK 900495 6 rfl (by kernel_rfl) rfl rfl rfl Tryz.call45 (ok_spec_AppendUvarint (x := (encON l k)) (n := (l.getD (k : Int).toNat default).1) (by omega)) (as_cons (ev_tmp rfl) (ag_one (ac_key' rfl rfl)) (as_cons (ev_tmp rfl) (ag_one ac_dv) as_nil)) rfl rfl rfl rfl rfl ?_
     refine d_callK 892496 13 rfl (by kernel_rfl) rfl rfl rfl Tryz.call46 (ok_spec_AppendBytes (x := opPart (encON l k) (l.getD (k : Int).toNat default) 0) (y := (l.getD (k : Int).toNat default).2.1.data.toList) (by omega) (by omega)) (as_cons (ev_tmp rfl) (ag_one (ac_key' rfl rfl)) (as_cons (ev_tmp rfl) (ag_one (ac_key' rfl rfl)) as_nil)) rfl rfl rfl rfl rfl ?_
     refine zD 14 ?_
     refine d_done (by kernel_rfl) ?_
     exact then_n (weak_sub ⟨rfl, rfl, rfl, trivial⟩ trivial ⟨rfl, rfl, trivial⟩ rfl)
   refine ok_seq ?_
   refine ok_regionD (oB := []) (oK := [900500, 900502]) (by kernel_rfl) rfl rfl ?_
   refine zD 0 ?_
   refine zD 1 ?_
   refine zD 2 ?_
   refine zD 3 ?_
   refine zD 4 ?_
   refine zD 5 ?_
   refine zD 8 ?_
   refine zD 9 ?_
   refine zD 10 ?_
   refine zD 11 ?_
   refine zD 12 ?_
   refine d_callK 900491 6 rfl (by kernel_rfl) rfl rfl rfl Tryz.call47 (ok_spec_EncodeKey (k := (((l)).getD ((k : Int)).toNat default).2.2.1) ) (as_cons (ev_tmp rfl) (ag_agg (ag_cons ac_dv (ag_cons ac_dv (ag_cons ac_dv ag_nil)))) as_nil) rfl rfl rfl rfl rfl ?_
   refine d_callK 892498 7 rfl (by kernel_rfl) rfl rfl rfl Tryz.call46 (ok_spec_AppendBytes (x := opPart (encON l k) (l.getD (k : Int).toNat default) 1) (y := encK (l.getD (k : Int).toNat default).2.2.1) (by omega) (by omega)) (as_cons (ev_tmp rfl) (ag_one (ac_key' rfl rfl)) (as_cons (ev_tmp rfl) (ag_one (ac_key' rfl rfl)) as_nil)) rfl rfl rfl rfl rfl ?_
   refine d_callK 900005 13 rfl (by kernel_rfl) rfl rfl rfl Tryz.call48 (ok_spec_EncodeRecord (r := (((l)).getD ((k : Int)).toNat default).2.2.2.1) ) (as_cons (ev_tmp rfl) (ag_agg (ag_cons ac_dv ag_nil)) as_nil) rfl rfl rfl rfl rfl ?_
   refine d_callK 892500 14 rfl (by kernel_rfl) rfl rfl rfl Tryz.call46 (ok_spec_AppendBytes (x := opPart (encON l k) (l.getD (k : Int).toNat default) 2) (y := encR (l.getD (k : Int).toNat default).2.2.2.1) (by omega) (by omega)) (as_cons (ev_tmp rfl) (ag_one (ac_key' rfl rfl)) (as_cons (ev_tmp rfl) (ag_one (ac_key' rfl rfl)) as_nil)) rfl rfl rfl rfl rfl ?_
   refine zD 15 ?_
   refine d_done (by kernel_rfl) ?_
   refine z ?_
   refine ok_region ?_
   iterate 6 refine z ?_
   refine o_convSB (k := 57) hT rfl rfl rfl rfl rfl rfl rfl (ev_tmp rfl) rfl ?_
   refine o_callK 892501 rfl rfl rfl Tryz.call46 (ok_spec_AppendBytes (x := opPart (encON l k) (l.getD (k : Int).toNat default) 3) (y := (l.getD (k : Int).toNat default).2.2.2.2.data.toList) (by omega) (by omega)) (as_cons (ev_tmp rfl) (ag_one (ac_key' rfl rfl)) (as_cons (ev_tmp rfl) (ag_one (ac_key' rfl rfl)) as_nil)) rfl rfl rfl ?_
   refine z ?_
   refine ops_nil ?_
   iterate 2 refine z ?_
   refine ok_weak (weak_swap (s := 3) (k := 900507) (k' := 900500) rfl rfl rfl (by decide) rfl) ?_
   simp only [killT, killB, SV.kill, CV.kill, kk, Nat.reduceBEq]
   refine ok_region ?_
   iterate 4 refine z ?_
   refine ⟨k + 1, ?_, ?_, weak_sub ⟨rfl, rfl, rfl, trivial⟩ trivial ⟨rfl, trivial⟩ rfl⟩
   ·exact ⟨by omega, are_step hall hkl hop⟩
   ·omega
 ·skip
  have d1 := of_decide_eq_false c1
  iterate 11 refine z ?_
  refine yQ rfl (fun c3 => ?_) fun c3 => ?_
  ·skip
   have d3 := of_decide_eq_true c3
   have hk0 : areB l = false := by rw [are_yes hall (by omega)]; exact decide_eq_false (by omega)
   refine ok_seq ?_
   refine ok_weak (σ' := ⟨[], [], []⟩) (weak_sub trivial trivial trivial rfl) ?_
   refine ok_region ?_
   refine o_build0 (k := 900500) hT rfl rfl rfl rfl rfl rfl rfl rfl ?_
   iterate 2 refine z ?_
   refine ok_weak (σ' := ⟨[(2, .one (.key 900500))], [], [(900500, some (kcOf false (bytesD (encO l))))]⟩) (weak_sub ⟨rfl, trivial⟩ trivial ⟨(by first | exact congrArg (fun l : List UInt8 => some (some (KC.mk false 5 1 l.length (l.flatMap eByte)))) (show ([] : List UInt8) = encO l from (encO_bad hk0).symm) | exact congrArg (fun l : List UInt8 => some (some (KC.mk false 5 1 l.length (l.flatMap eByte)))) (encO_ok hk1 (by omega)).symm), trivial⟩ rfl) ?_
   iterate 2 refine z ?_
   refine fin1 (res_tmp rfl) ?_
   exact ⟨rfl, rfl⟩
  ·skip
   have d3 := of_decide_eq_false c3
   have hk1 : areB l = true := by rw [are_yes hall (by omega)]; exact decide_eq_true (by omega)
   iterate 6 refine z ?_
   refine ok_weak (σ' := ⟨[(2, .one (.key 900500))], [], [(900500, some (kcOf false (bytesD (encO l))))]⟩) (weak_sub ⟨rfl, trivial⟩ trivial ⟨(by first | exact congrArg (fun l : List UInt8 => some (some (KC.mk false 5 1 l.length (l.flatMap eByte)))) (show ([] : List UInt8) = encO l from (encO_bad hk0).symm) | exact congrArg (fun l : List UInt8 => some (some (KC.mk false 5 1 l.length (l.flatMap eByte)))) (encO_ok hk1 (by omega)).symm), trivial⟩ rfl) ?_
   refine z ?_
   refine fin1 (res_tmp rfl) ?_
   exact ⟨rfl, rfl⟩
end Go.Proofs.YtoigmlbidpocnaaGreat

namespace Go.Proofs.YtoigmlbidpocnaaGreat
open Go.RowKit
open Go.Proofs
set_option linter.unusedVariables false
set_option linter.unusedSimpArgs false

theorem sEq_comm (a b : Str) : sEq a b = sEq b a := by unfold sEq; rw [Bool.eq_iff_iff, beq_iff_eq, beq_iff_eq]; exact ⟨Eq.symm, Eq.symm⟩
theorem eqDef_comm (a b : DefT) : eqDefB a b = eqDefB b a := by unfold eqDefB; rw [sEq_comm a.1, sEq_comm a.2]
theorem findI_ge {α : Type} {p : α → Bool} : ∀ (xs : List α) (i : Int), 0 ≤ i → xs.any p = true → i ≤ findI p xs i
 | [], _, _, h => by simp at h
 | x :: xs, i, hi, h => by
  rw [findI]
  split
  ·omega
  ·rename_i hp
   rw [List.any_cons] at h
   have hp' : p x = false := by simpa using hp
   rw [hp', Bool.false_or] at h
   have := findI_ge xs (i + 1) (by omega) h
   omega
theorem findI_nil {α : Type} {p : α → Bool} : ∀ (xs : List α) (i : Int), xs.any p = false → findI p xs i = -1
 | [], _, _ => rfl
 | x :: xs, i, h => by
  simp only [List.any_cons, Bool.or_eq_false_iff] at h
  rw [findI, if_neg (by rw [h.1]; simp)]
  exact findI_nil xs (i + 1) h.2
theorem findI_any {α : Type} {p : α → Bool} (xs : List α) : decide (0 ≤ findI p xs 0) = xs.any p := by
 cases h : xs.any p with
 | true => exact decide_eq_true (findI_ge xs 0 (by omega) h)
 | false => rw [findI_nil xs 0 h]; rfl
def stBad (d : DbT) (k : Nat) : Bool := !isSto (d.2.2.1.getD (k : Int).toNat default) || (decide ((0 : Int) < (k : Int)) && (sLt (d.2.2.1.getD (k : Int).toNat default).1 (d.2.2.1.getD ((k : Int) - 1).toNat default).1 || sEq (d.2.2.1.getD (k : Int).toNat default).1 (d.2.2.1.getD ((k : Int) - 1).toNat default).1))
def stBadS (d : DbT) (k : Nat) : Bool := !isSto (d.2.2.1.getD (k : Int).toNat default) || (decide ((0 : Int) < (k : Int)) && !sLt (d.2.2.1.getD ((k : Int) - 1).toNat default).1 (d.2.2.1.getD (k : Int).toNat default).1)
theorem stBadS_eq (d : DbT) (k : Nat) : stBadS d k = stBad d k := by unfold stBadS stBad; rw [sLe_eq]
@[reducible] def fndS (d : DbT) (n : Str) : Int := findI (hasName n) d.2.2.1 0
def faultIn (d : DbT) (x : DefT) : Bool := (ufRes x.2 (idxN x.2 (d.2.2.1.getD (fndS d x.1).toNat default).2.1 (d.2.2.1.getD (fndS d x.1).toNat default).2.1.length)).2.2
def unBad (d : DbT) (k : Nat) : Bool := ((decide (fndS d (d.2.2.2.getD (k : Int).toNat default).1 < 0) || !isName (d.2.2.2.getD (k : Int).toNat default).2) || (d.2.2.2.take (k : Int).toNat).any (eqDefB (d.2.2.2.getD (k : Int).toNat default))) || faultIn d (d.2.2.2.getD (k : Int).toNat default)
def dbHead (d : DbT) : Bool := ((isName d.1 && (decide (0 ≤ d.2.1) && decide (d.2.1 ≤ 1000))) && decide ((d.2.2.1.length : Int) ≤ 4)) && decide ((d.2.2.2.length : Int) ≤ 4)
def dbSt (d : DbT) : Bool := (List.range d.2.2.1.length).all (fun i => !stBad d i)
def dbUn (d : DbT) : Bool := (List.range d.2.2.2.length).all (fun i => !unBad d i)
def isDb (d : DbT) : Bool := dbHead d && (dbSt d && dbUn d)
theorem sto_w {s : StoreT} (h : isSto s = true) : wStore s ≤ 1000 * 1000 := by
 have h0 := h
 simp only [isSto, Bool.and_eq_true, List.all_eq_true, decide_eq_true_eq] at h
 obtain ⟨h1, ⟨h2, h3⟩, h4⟩ := h
 have h5 := name_size h2
 have h6 : ∀ x ∈ s.2.1, wItem x ≤ 70 := fun x hx => by
  obtain ⟨i, hi, rfl⟩ := List.mem_iff_getElem.1 hx
  have h7 := h1 i (List.mem_range.2 hi)
  unfold stoBad at h7
  rw [getD_at hi] at h7
  simp only [Bool.not_or, Bool.not_not, Bool.and_eq_true] at h7
  have h8 := (key_rng h7.1.1).2.2
  have h9 := h7.1.2
  have h10 := rec_len h9
  have h11 : wSum wField s.2.1[i].2 ≤ 8 * s.2.1[i].2.length := by
   have key : ∀ r : RecT, (∀ f ∈ r, f.1.size ≤ 8) → wSum wField r ≤ 8 * r.length := by
    intro r
    induction r with
    | nil => intro _; simp [wSum]
    | cons f r ih =>
     intro hf
     have k1 := ih (fun g hg => hf g (by simp [hg]))
     have k2 := hf f (by simp)
     have k3 : wField f = f.1.size := rfl
     simp only [wSum, List.map_cons, List.sum_cons, List.length_cons] at *
     omega
   refine key _ (fun f hf => ?_)
   obtain ⟨j, hj, rfl⟩ := List.mem_iff_getElem.1 hf
   have := (name_size (rec_fld h9 hj).1).2
   rwa [getD_at hj] at this
  have h12 : wItem s.2.1[i] = s.2.1[i].1.2.2.size + wRecord s.2.1[i].2 := rfl
  have h13 : wRecord s.2.1[i].2 = s.2.1[i].2.length + wSum wField s.2.1[i].2 := rfl
  omega
 have h7 : wSum wItem s.2.1 ≤ 70 * s.2.1.length := by
  have key : ∀ l : List ItemT, (∀ x ∈ l, wItem x ≤ 70) → wSum wItem l ≤ 70 * l.length := by
   intro l
   induction l with
   | nil => intro _; simp [wSum]
   | cons x l ih =>
    intro hx
    have k1 := ih (fun g hg => hx g (by simp [hg]))
    have k2 := hx x (by simp)
    simp only [wSum, List.map_cons, List.sum_cons, List.length_cons] at *
    omega
  exact key _ h6
 have h8 : wStore s = s.1.size + (s.2.1.length + wSum wItem s.2.1) := rfl
 omega
theorem db_sto {d : DbT} {i : Int} (h : dbSt d = true) (h0 : 0 ≤ i) (h1 : i < d.2.2.1.length) : isSto (d.2.2.1.getD i.toNat default) = true := by
 simp only [dbSt, List.all_eq_true] at h
 have h2 := h i.toNat (List.mem_range.2 (by omega))
 unfold stBad at h2
 rw [Int.toNat_natCast] at h2
 simp only [Bool.not_or, Bool.not_not, Bool.and_eq_true] at h2
 exact h2.1
theorem fndS_lt (d : DbT) (n : Str) : fndS d n < d.2.2.1.length := by
 rcases findI_lt (p := hasName n) d.2.2.1 0 (by omega) with h1 | h1
 ·unfold fndS; omega
 ·unfold fndS; omega
theorem isDb_st {d : DbT} {k : Nat} (hk : k < d.2.2.1.length) (h : stBad d k = true) : isDb d = false := by
 have : dbSt d = false := rall_no hk (by rw [h]; rfl)
 rw [isDb, this]; simp
theorem isDb_un {d : DbT} {k : Nat} (hk : k < d.2.2.2.length) (h : unBad d k = true) : isDb d = false := by
 have : dbUn d = false := rall_no hk (by rw [h]; rfl)
 rw [isDb, this]; simp
theorem un_go {d : DbT} {k j : Nat} (hj : j = k) (h1 : (decide (findI (hasName (d.2.2.2.getD (k : Int).toNat default).1) d.2.2.1 0 < 0) || !isName (d.2.2.2.getD (k : Int).toNat default).2) = false)
  (h3 : (d.2.2.2.take j).any (eqDefB (d.2.2.2.getD (k : Int).toNat default)) = false) (h2 : faultIn d (d.2.2.2.getD (k : Int).toNat default) = false) : (!unBad d k) = true := by
 subst hj
 have h4 : (d.2.2.2.take ((j : Nat) : Int).toNat).any (eqDefB (d.2.2.2.getD (j : Int).toNat default)) = false := h3
 rw [unBad, h1, h4, h2]; rfl
theorem un_dup {d : DbT} {k j : Nat} (hj : j < k) (hk : k < d.2.2.2.length) (h : eqDefB (d.2.2.2.getD (j : Int).toNat default) (d.2.2.2.getD (k : Int).toNat default) = true) : unBad d k = true := by
 have h4 : (d.2.2.2.take ((k : Nat) : Int).toNat).any (eqDefB (d.2.2.2.getD (k : Int).toNat default)) = true := by
  refine any_yes (k := j) (d := default) (by rw [List.length_take, Int.toNat_natCast]; omega) ?_
  rw [take_getD (by omega), eqDef_comm]; exact h
 rw [unBad, h4]; simp
theorem isDb_yes {d : DbT} (h1 : dbSt d = true) (h2 : dbUn d = true) : isDb d = dbHead d := by rw [isDb, h1, h2]; simp

theorem ok_spec_IsDatabase {x : DbT}  : PFn Tryz.prog 100 [.agg [(.dv [] (.str (x.1))), (.dv [] (.int .i64 (x.2.1))), (.dv [] (storesD (x.2.2.1))), (.dv [] (defsD (x.2.2.2)))]] (.one (.dv [] (.bool (isDb x)))) := by
 refine ⟨fn_intro Tryz.func100 rfl Tryz.ntmps100 Tryz.results100 rfl (fun C => ?_)⟩
 refine yF 0 0 rfl rfl fun f0_0 => ?_
 refine yF 0 1 rfl rfl fun f0_1 => ?_
 refine yF 0 2 rfl rfl fun f0_2 => ?_
 refine yF 0 3 rfl rfl fun f0_3 => ?_
 iterate 9 refine z ?_
 refine ok_loop (ι := Nat) (fun zz => ⟨[(1, .box 1 0), (3, .one (.dv [] (.int .i64 ((zz : Int)))))], [(1, 73, [(.dv [] (.str (x.1))), (.dv [] (.int .i64 (x.2.1))), (.dv [] (storesD (x.2.2.1))), (.dv [] (defsD (x.2.2.2)))])], []⟩) (fun zz => zz ≤ x.2.2.1.length ∧ (List.range zz).all (fun i => !stBad x i) = true) (fun zz => x.2.2.1.length - zz) (0) ?_ (weak_sub ⟨rfl, rfl, trivial⟩ ⟨rfl, trivial⟩ trivial rfl) (fun zz hx => ?_)
 ·exact ⟨Nat.zero_le _, rfl⟩
 obtain ⟨k, rfl⟩ : ∃ v, v = zz := ⟨_, rfl⟩
 replace hx : k ≤ x.2.2.1.length ∧ (List.range k).all (fun i => !stBad x i) = true := hx
 obtain ⟨hk, hall⟩ := hx
 show Ok _ _ _ _ _ (⟨[(1, .box 1 0), (3, .one (.dv [] (.int .i64 ((k : Int)))))], [(1, 73, [(.dv [] (.str (x.1))), (.dv [] (.int .i64 (x.2.1))), (.dv [] (storesD (x.2.2.1))), (.dv [] (defsD (x.2.2.2)))])], []⟩ : St)
 iterate 8 refine z ?_
 refine yQ rfl (fun c1 => ?_) fun c1 => ?_
 ·skip
  have d1 := of_decide_eq_true c1
  iterate 4 refine z ?_
  refine ok_seq ?_
  refine ok_regionD (oB := [1]) (oK := []) (by kernel_rfl) rfl rfl ?_
  refine zD 0 ?_
  refine zD 1 ?_
  refine zD 2 ?_
  refine zD 3 ?_
  refine zD 4 ?_
  refine d_call 5 rfl (by kernel_rfl) rfl rfl rfl Tryz.call90 (ok_spec_IsStore (s := (((x.2.2.1)).getD ((k : Int)).toNat default)) ) (as_cons (ev_tmp rfl) (ag_agg (ag_cons ac_dv (ag_cons ac_dv (ag_cons ac_dv ag_nil)))) as_nil) rfl rfl rfl rfl ?_
  refine zD 6 ?_
  refine zD 7 ?_
  refine zDG 8 ?_
  refine zDG 9 ?_
  refine zDG 10 ?_
  refine zDG 11 ?_
  refine zDG 12 ?_
  refine zDG 13 ?_
  refine zDG 14 ?_
  refine zDG 15 ?_
  refine zDG 16 ?_
  refine zDG 17 ?_
  refine zDG 18 ?_
  refine zDG 19 ?_
  refine zDG 20 ?_
  refine zDG 21 ?_
  refine zDG 22 ?_
  refine zDG 23 ?_
  refine zDG 24 ?_
  refine zDG 25 ?_
  refine zD 26 ?_
  refine d_done (by kernel_rfl) ?_
  refine z ?_
  refine yQ rfl (fun c2 => ?_) fun c2 => ?_
  ·skip
   iterate 10 refine z ?_
   exact (isDb_st (k := k) (by omega) (by rw [← stBadS_eq]; exact c2)).symm
  ·skip
   iterate 3 refine z ?_
   refine ok_region ?_
   iterate 4 refine z ?_
   refine ⟨k + 1, ?_, ?_, weak_sub ⟨rfl, rfl, trivial⟩ ⟨rfl, trivial⟩ trivial rfl⟩
   ·exact ⟨by omega, rall_succ hall (by have h : stBadS x k = false := c2; rw [stBadS_eq] at h; simpa using h)⟩
   ·omega
 ·skip
  have d1 := of_decide_eq_false c1
  obtain rfl : k = x.2.2.1.length := by omega
  have hst : dbSt x = true := hall
  clear hall hk
  iterate 10 refine z ?_
  refine ok_loop (ι := Nat) (fun zz => ⟨[(1, .box 1 0), (4, .one (.dv [] (.int .i64 ((zz : Int)))))], [(1, 73, [(.dv [] (.str (x.1))), (.dv [] (.int .i64 (x.2.1))), (.dv [] (storesD (x.2.2.1))), (.dv [] (defsD (x.2.2.2)))])], []⟩) (fun zz => zz ≤ x.2.2.2.length ∧ (List.range zz).all (fun i => !unBad x i) = true) (fun zz => x.2.2.2.length - zz) (0) ?_ (weak_sub ⟨rfl, rfl, trivial⟩ ⟨rfl, trivial⟩ trivial rfl) (fun zz hx => ?_)
  ·exact ⟨Nat.zero_le _, rfl⟩
  obtain ⟨k, rfl⟩ : ∃ v, v = zz := ⟨_, rfl⟩
  replace hx : k ≤ x.2.2.2.length ∧ (List.range k).all (fun i => !unBad x i) = true := hx
  obtain ⟨hk2, hall2⟩ := hx
  show Ok _ _ _ _ _ (⟨[(1, .box 1 0), (4, .one (.dv [] (.int .i64 ((k : Int)))))], [(1, 73, [(.dv [] (.str (x.1))), (.dv [] (.int .i64 (x.2.1))), (.dv [] (storesD (x.2.2.1))), (.dv [] (defsD (x.2.2.2)))])], []⟩ : St)
  iterate 8 refine z ?_
  refine yQ rfl (fun c3 => ?_) fun c3 => ?_
  ·skip
   have d3 := of_decide_eq_true c3
   iterate 4 refine z ?_
   refine ok_seq ?_
   refine ok_regionD (oB := [1]) (oK := []) (by kernel_rfl) rfl rfl ?_
   refine zD 0 ?_
   refine zD 1 ?_
   refine zD 2 ?_
   refine zD 3 ?_
   refine zD 4 ?_
   refine zD 5 ?_
   refine zD 6 ?_
   refine d_call 7 rfl (by kernel_rfl) rfl rfl rfl Tryz.call97 (ok_spec_FindStore (x := x) (n := (x.2.2.2.getD (k : Int).toNat default).1)) (as_cons (ev_tmp rfl) (ag_agg (ag_cons ac_dv (ag_cons ac_dv (ag_cons ac_dv (ag_cons ac_dv ag_nil))))) (as_cons (ev_tmp rfl) (ag_one ac_dv) as_nil)) rfl rfl rfl rfl ?_
   refine zD 8 ?_
   refine d_done (by kernel_rfl) ?_
   iterate 12 refine z ?_
   refine o_callG (gd_bool rfl rfl rfl rfl rfl) rfl rfl Tryz.call21 (ok_spec_IsName (s := (((x.2.2.2)).getD ((k : Int)).toNat default).2) ) (fun hg => (as_cons (ev_opt rfl hg) (ag_one ac_dv) as_nil)) rfl rfl ?_
   iterate 3 refine z ?_
   refine yQ rfl (fun c4 => ?_) fun c4 => ?_
   ·skip
    iterate 11 refine z ?_
    exact (isDb_un (k := k) (by omega) (by have h3 : (decide (findI (hasName (x.2.2.2.getD (k : Int).toNat default).1) x.2.2.1 0 < 0) || !isName (x.2.2.2.getD (k : Int).toNat default).2) = true := c4; rw [unBad, h3]; rfl)).symm
   ·skip
    have hfl : findI (hasName (x.2.2.2.getD (k : Int).toNat default).1) x.2.2.1 0 < x.2.2.1.length := fndS_lt x (x.2.2.2.getD (k : Int).toNat default).1
    have hf0 : 0 ≤ findI (hasName (x.2.2.2.getD (k : Int).toNat default).1) x.2.2.1 0 := by have h := c4; simp only [Bool.or_eq_false_iff, decide_eq_false_iff_not] at h; omega
    have hsw := sto_w (db_sto hst hf0 hfl)
    iterate 2 refine z ?_
    refine ok_seq ?_
    refine ok_seq ?_
    refine ok_regionD (oB := [1]) (oK := []) (by kernel_rfl) rfl rfl ?_
    refine zD 0 ?_
    refine zD 1 ?_
    refine zD 2 ?_
    refine zD 3 ?_
    refine zD 4 ?_
    refine zD 5 ?_
    refine zD 6 ?_
    refine zD 7 ?_
    refine zD 8 ?_
    refine zD 9 ?_
    refine zD 10 ?_
    refine d_vars (A := [(16, 6, 29, _), (17, 7, 29, _)]) hT ⟨⟨_, _, rfl⟩, rfl, ⟨⟨_, _, rfl⟩, rfl, trivial⟩⟩ ?_
    refine a_call 11 rfl (by kernel_rfl) rfl rfl rfl (vok hT ⟨⟨_, _, rfl⟩, rfl, ⟨⟨_, _, rfl⟩, rfl, trivial⟩⟩ (by kernel_rfl) (by kernel_rfl)) (vok hT ⟨⟨_, _, rfl⟩, rfl, ⟨⟨_, _, rfl⟩, rfl, trivial⟩⟩ (by kernel_rfl) (by kernel_rfl)) rfl Tryz.call106 (ok_spec_UniqueFault (x := (x.2.2.1.getD (findI (hasName (x.2.2.2.getD (k : Int).toNat default).1) x.2.2.1 0).toNat default)) (f := (x.2.2.2.getD (k : Int).toNat default).2) (by omega)) (as_cons (ev_tmp rfl) (ag_agg (ag_cons ac_dv (ag_cons ac_dv (ag_cons ac_dv ag_nil)))) (as_cons (ev_tmp rfl) (ag_one ac_dv) as_nil)) rfl rfl rfl rfl ?_
    refine a_take 12 rfl (by kernel_rfl) rfl rfl rfl (vok hT ⟨⟨_, _, rfl⟩, rfl, ⟨⟨_, _, rfl⟩, rfl, trivial⟩⟩ (by kernel_rfl) (by kernel_rfl)) (vok hT ⟨⟨_, _, rfl⟩, rfl, ⟨⟨_, _, rfl⟩, rfl, trivial⟩⟩ (by kernel_rfl) (by kernel_rfl)) (pu_move (.inl rfl) (ev_tmp rfl)) rfl rfl rfl rfl ?_
    refine a_takeX 13 rfl (by kernel_rfl) rfl rfl rfl rfl (vok hT ⟨⟨_, _, rfl⟩, rfl, ⟨⟨_, _, rfl⟩, rfl, trivial⟩⟩ (by kernel_rfl) (by kernel_rfl)) (vok hT ⟨⟨_, _, rfl⟩, rfl, ⟨⟨_, _, rfl⟩, rfl, trivial⟩⟩ (by kernel_rfl) (by kernel_rfl)) (pu_extractA rfl (ev_tmp rfl) rfl) rfl rfl ?_
    refine a_takeX 14 rfl (by kernel_rfl) rfl rfl rfl rfl (vok hT ⟨⟨_, _, rfl⟩, rfl, ⟨⟨_, _, rfl⟩, rfl, trivial⟩⟩ (by kernel_rfl) (by kernel_rfl)) (vok hT ⟨⟨_, _, rfl⟩, rfl, ⟨⟨_, _, rfl⟩, rfl, trivial⟩⟩ (by kernel_rfl) (by kernel_rfl)) (pu_extractA rfl (ev_tmp rfl) rfl) rfl rfl ?_
    refine a_takeX 15 rfl (by kernel_rfl) rfl rfl rfl rfl (vok hT ⟨⟨_, _, rfl⟩, rfl, ⟨⟨_, _, rfl⟩, rfl, trivial⟩⟩ (by kernel_rfl) (by kernel_rfl)) (vok hT ⟨⟨_, _, rfl⟩, rfl, ⟨⟨_, _, rfl⟩, rfl, trivial⟩⟩ (by kernel_rfl) (by kernel_rfl)) (pu_extract1 rfl (ev_tmp rfl) rfl) rfl rfl ?_
    refine a_exit1 (vok hT ⟨⟨_, _, rfl⟩, rfl, ⟨⟨_, _, rfl⟩, rfl, trivial⟩⟩ (by kernel_rfl) (by kernel_rfl)) rfl rfl (by kernel_rfl) ?_
    dsimp only [addT, addB]
    refine d_chain [18, 19, 20] rfl rfl (by kernel_rfl) ?_
    iterate 7 refine z ?_
    refine yQ rfl (fun c5 => ?_) fun c5 => ?_
    ·skip
     iterate 11 refine z ?_
     exact (isDb_un (k := k) (by omega) (by have h2 : faultIn x (x.2.2.2.getD (k : Int).toNat default) = true := c5; rw [unBad, h2]; simp)).symm
    ·skip
     iterate 6 refine z ?_
     refine ok_loop (ι := Nat) (fun zz => ⟨[(1, .box 1 0), (4, .one (.dv [] (.int .i64 ((k : Int))))), (9, .one (.dv [] (.int .i64 ((zz : Int)))))], [(1, 73, [(.dv [] (.str (x.1))), (.dv [] (.int .i64 (x.2.1))), (.dv [] (storesD (x.2.2.1))), (.dv [] (defsD (x.2.2.2)))])], []⟩) (fun zz => zz ≤ k ∧ (x.2.2.2.take zz).any (eqDefB (x.2.2.2.getD (k : Int).toNat default)) = false) (fun zz => k - zz) (0) ?_ (weak_sub ⟨rfl, rfl, rfl, trivial⟩ ⟨rfl, trivial⟩ trivial rfl) (fun zz hx => ?_)
     ·exact ⟨Nat.zero_le _, rfl⟩
     obtain ⟨j, rfl⟩ : ∃ v, v = zz := ⟨_, rfl⟩
     replace hx : j ≤ k ∧ (x.2.2.2.take j).any (eqDefB (x.2.2.2.getD (k : Int).toNat default)) = false := hx
     obtain ⟨hj, hall3⟩ := hx
     show Ok _ _ _ _ _ (⟨[(1, .box 1 0), (4, .one (.dv [] (.int .i64 ((k : Int))))), (9, .one (.dv [] (.int .i64 ((j : Int)))))], [(1, 73, [(.dv [] (.str (x.1))), (.dv [] (.int .i64 (x.2.1))), (.dv [] (storesD (x.2.2.1))), (.dv [] (defsD (x.2.2.2)))])], []⟩ : St)
     iterate 6 refine z ?_
     refine yQ rfl (fun c6 => ?_) fun c6 => ?_
     ·skip
      have d6 := of_decide_eq_true c6
      iterate 4 refine z ?_
      refine ok_seq ?_
      refine ok_regionD (oB := [1]) (oK := []) (by kernel_rfl) rfl rfl ?_
      refine zD 0 ?_
      refine zD 1 ?_
      refine zD 2 ?_
      refine zD 3 ?_
      refine zD 4 ?_
      refine zD 5 ?_
      refine zD 6 ?_
      refine zD 7 ?_
      refine zD 8 ?_
      refine zD 9 ?_
      refine d_take 10 rfl (by kernel_rfl) rfl rfl (pu_cmpA rfl (ev_tmp rfl) (ev_tmp rfl) rfl rfl Tryz.eqGuardType113 (eql_Def _ _ _ _)) rfl rfl rfl rfl ?_
      refine d_done (by kernel_rfl) ?_
      refine z ?_
      refine yQ rfl (fun c7 => ?_) fun c7 => ?_
      ·skip
       iterate 14 refine z ?_
       exact (isDb_un (k := k) (by omega) (un_dup (j := j) (by omega) (by omega) c7)).symm
      ·skip
       iterate 3 refine z ?_
       refine ok_region ?_
       iterate 4 refine z ?_
       refine ⟨j + 1, ?_, ?_, weak_sub ⟨rfl, rfl, rfl, trivial⟩ ⟨rfl, trivial⟩ trivial rfl⟩
       ·exact ⟨by omega, any_step (d := default) hall3 (by omega) (by rw [eqDef_comm]; exact c7)⟩
       ·omega
     ·skip
      have d6 := of_decide_eq_false c6
      iterate 6 refine z ?_
      refine ok_region ?_
      iterate 4 refine z ?_
      refine ⟨k + 1, ?_, ?_, weak_sub ⟨rfl, rfl, trivial⟩ ⟨rfl, trivial⟩ trivial rfl⟩
      ·exact ⟨by omega, rall_succ hall2 (un_go (j := j) (by omega) c4 hall3 c5)⟩
      ·omega
  ·skip
   have d3 := of_decide_eq_false c3
   iterate 8 refine z ?_
   refine zC Tryz.call21 ?_ (hf := ok_spec_IsName (s := x.1) )
   iterate 3 refine z ?_
   refine o_callG (gd_bool rfl rfl rfl rfl rfl) rfl rfl Tryz.call20 (ok_spec_l1In (n := x.2.1) (lo := 0) (hi := 1000) ) (fun hg => (as_cons (ev_opt rfl hg) (ag_one ac_dv) (as_cons (ev_int (inR_lit rfl)) (ag_one ac_dv) (as_cons (ev_int (inR_lit rfl)) (ag_one ac_dv) as_nil)))) rfl rfl ?_
   iterate 17 refine z ?_
   obtain rfl : k = x.2.2.2.length := by omega
   rw [isDb_yes hst hall2]; rfl
end Go.Proofs.YtoigmlbidpocnaaGreat

namespace Go.Proofs.YtoigmlbidpocnaaGreat
open Go.RowKit
open Go.Proofs
set_option linter.unusedVariables false
set_option linter.unusedSimpArgs false

theorem take_csG {α : Type} [Inhabited α] {enc : α → List DV} {xs : List α} {k : Nat} (hk : k < xs.length) : (xs.take k).flatMap enc ++ enc (xs.getD (k : Int).toNat default) = (xs.take (k + 1)).flatMap enc ∧ (xs.take k).length + 1 = (xs.take (k + 1)).length := by
 have e : xs.getD (k : Int).toNat default = xs[k] := by simp [List.getD, List.getElem?_eq_getElem hk]
 rw [List.take_add_one, List.getElem?_eq_getElem hk, e]
 simp only [Option.toList_some, List.flatMap_append, List.flatMap_cons, List.flatMap_nil, List.append_nil, List.length_append, List.length_singleton]
 exact ⟨trivial, trivial⟩
theorem ok_spec_l8Copy {x : DbT} (hb : wDatabase x ≤ 1099511627776) : KFn Tryz.prog 96 [.agg [(.dv [] (.str (x.1))), (.dv [] (.int .i64 (x.2.1))), (.dv [] (storesD (x.2.2.1))), (.dv [] (defsD (x.2.2.2)))]] (.agg [(.dv [] (.str (x.1))), (.dv [] (.int .i64 (x.2.1))), (.key 31), (.key 900)]) [(31, some (kcOf false (storesD (x.2.2.1)))), (900, some (kcOf false (defsD (x.2.2.2))))] := by
 refine ⟨fn_intro Tryz.func96 rfl Tryz.ntmps96 Tryz.results96 rfl (fun C => ?_)⟩
 have hwd : wDatabase x = x.1.size + wList wStore x.2.2.1 + wList wIndexDef x.2.2.2 := rfl
 have hwl : wList wStore x.2.2.1 = x.2.2.1.length + wSum wStore x.2.2.1 := rfl
 have hwi : wList wIndexDef x.2.2.2 = x.2.2.2.length + wSum wIndexDef x.2.2.2 := rfl
 refine yF 0 0 rfl rfl fun f0_0 => ?_
 refine yF 0 1 rfl rfl fun f0_1 => ?_
 refine yF 0 2 rfl rfl fun f0_2 => ?_
 refine yF 0 3 rfl rfl fun f0_3 => ?_
 iterate 4 refine z ?_
 refine ok_cutS (σ' := ⟨[(1, .box 1 0), (2, .box 2 0), (3, .box 3 0)], [(1, 73, [(.dv [] (.str (x.1))), (.dv [] (.int .i64 (x.2.1))), (.dv [] (storesD (x.2.2.1))), (.dv [] (defsD (x.2.2.2)))]), (2, 73, [(.dv [] (.str (ByteArray.empty))), (.dv [] (.int .i64 (0))), .nil, .nil]), (3, 73, [(.dv [] (.str (x.1))), (.dv [] (.int .i64 (x.2.1))), .nil, (.key 900)])], [(900, some (kcOf false (.sl 113 2 ((x.2.2.2).length) ((x.2.2.2).flatMap eDef))))]⟩) ?_ ?_
 ·skip
  refine ok_regionH [0, 1, 2, 3, 4, 5, 6, 7, 8, 9] (oB := [1, 2]) (oK := []) (by kernel_rfl) rfl rfl ?_
  refine n_start ?_
  refine zN 0 ?_
  refine zN 1 ?_
  refine zN 2 ?_
  refine zN 3 ?_
  refine zN 5 ?_
  refine zN 6 ?_
  refine n_split 4 [9] (by kernel_rfl) ⟨?_, ?_, trivial⟩
  ·skip
   refine nj_build0 (k := 900) 4 hT rfl rfl rfl rfl rfl rfl rfl rfl rfl rfl rfl rfl ?_
   refine n_split 7 [9] (by kernel_rfl) ⟨?_, ?_, trivial⟩
   ·skip
    refine nj_appV (k := 900) (cs := (x.2.2.2).flatMap eDef) (n := (x.2.2.2).length) 7 hT rfl rfl rfl rfl rfl rfl rfl rfl (ev_tmp rfl) rfl rfl rfl (ev_tmp rfl) (plain_flat (fun _ => rfl) _) (by first | (dsimp only [kcOf]; omega) | omega) (by first | (dsimp only [kcOf]; omega) | omega) (Nat.zero_add _) (rfl) rfl rfl ?_
    simp only [killT, killB, SV.kill, CV.kill, kk, Nat.reduceBEq]
    refine n_take 8 rfl (by kernel_rfl) rfl rfl (pu_build hT hB rfl rfl rfl (bp_cons (ev_tmp rfl) rfl rfl rfl rfl rfl (bp_cons (ev_tmp rfl) rfl rfl rfl rfl rfl (bp_cons (ev_tmp rfl) rfl rfl rfl rfl rfl bp_nil)))) rfl rfl rfl rfl ?_
    refine n_split 9 [] (by kernel_rfl) ⟨?_, trivial⟩
    ·skip
     refine nj_alloc 9 hT rfl rfl rfl rfl rfl rfl rfl rfl rfl rfl ?_
     refine n_split 10 [] (by kernel_rfl) ⟨?_, trivial⟩
     ·skip
      refine nj_last 10 rfl rfl (by kernel_rfl) (ef_storeBox hT rfl rfl rfl (ev_tmp rfl) (ev_tmp rfl) rfl rfl rfl rfl rfl rfl) (by kernel_rfl) ?_
      exact then_n (weak_sub ⟨rfl, rfl, rfl, trivial⟩ ⟨rfl, rfl, rfl, trivial⟩ ⟨rfl, trivial⟩ rfl)
   ·skip
    refine nj_alloc 9 hT rfl rfl rfl rfl rfl rfl rfl rfl rfl rfl ?_
    refine n_split 7 [] (by kernel_rfl) ⟨?_, trivial⟩
    ·skip
     refine nj_appV (k := 900) (cs := (x.2.2.2).flatMap eDef) (n := (x.2.2.2).length) 7 hT rfl rfl rfl rfl rfl rfl rfl rfl (ev_tmp rfl) rfl rfl rfl (ev_tmp rfl) (plain_flat (fun _ => rfl) _) (by first | (dsimp only [kcOf]; omega) | omega) (by first | (dsimp only [kcOf]; omega) | omega) (Nat.zero_add _) (rfl) rfl rfl ?_
     simp only [killT, killB, SV.kill, CV.kill, kk, Nat.reduceBEq]
     refine n_take 8 rfl (by kernel_rfl) rfl rfl (pu_build hT hB rfl rfl rfl (bp_cons (ev_tmp rfl) rfl rfl rfl rfl rfl (bp_cons (ev_tmp rfl) rfl rfl rfl rfl rfl (bp_cons (ev_tmp rfl) rfl rfl rfl rfl rfl bp_nil)))) rfl rfl rfl rfl ?_
     refine n_split 10 [] (by kernel_rfl) ⟨?_, trivial⟩
     ·skip
      refine nj_last 10 rfl rfl (by kernel_rfl) (ef_storeBox hT rfl rfl rfl (ev_tmp rfl) (ev_tmp rfl) rfl rfl rfl rfl rfl rfl) (by kernel_rfl) ?_
      exact then_n (weak_sub ⟨rfl, rfl, rfl, trivial⟩ ⟨rfl, rfl, rfl, trivial⟩ ⟨rfl, trivial⟩ rfl)
  ·skip
   refine nj_alloc 9 hT rfl rfl rfl rfl rfl rfl rfl rfl rfl rfl ?_
   refine n_split 4 [] (by kernel_rfl) ⟨?_, trivial⟩
   ·skip
    refine nj_build0 (k := 900) 4 hT rfl rfl rfl rfl rfl rfl rfl rfl rfl rfl rfl rfl ?_
    refine n_split 7 [] (by kernel_rfl) ⟨?_, trivial⟩
    ·skip
     refine nj_appV (k := 900) (cs := (x.2.2.2).flatMap eDef) (n := (x.2.2.2).length) 7 hT rfl rfl rfl rfl rfl rfl rfl rfl (ev_tmp rfl) rfl rfl rfl (ev_tmp rfl) (plain_flat (fun _ => rfl) _) (by first | (dsimp only [kcOf]; omega) | omega) (by first | (dsimp only [kcOf]; omega) | omega) (Nat.zero_add _) (rfl) rfl rfl ?_
     simp only [killT, killB, SV.kill, CV.kill, kk, Nat.reduceBEq]
     refine n_take 8 rfl (by kernel_rfl) rfl rfl (pu_build hT hB rfl rfl rfl (bp_cons (ev_tmp rfl) rfl rfl rfl rfl rfl (bp_cons (ev_tmp rfl) rfl rfl rfl rfl rfl (bp_cons (ev_tmp rfl) rfl rfl rfl rfl rfl bp_nil)))) rfl rfl rfl rfl ?_
     refine n_split 10 [] (by kernel_rfl) ⟨?_, trivial⟩
     ·skip
      refine nj_last 10 rfl rfl (by kernel_rfl) (ef_storeBox hT rfl rfl rfl (ev_tmp rfl) (ev_tmp rfl) rfl rfl rfl rfl rfl rfl) (by kernel_rfl) ?_
      exact then_n (weak_sub ⟨rfl, rfl, rfl, trivial⟩ ⟨rfl, rfl, rfl, trivial⟩ ⟨rfl, trivial⟩ rfl)
 refine ok_seq ?_
 refine ok_seq ?_
 refine ok_weak (weak_nilB 31 (b := 3) (i := 2) (e := 110) (sz := 3) rfl rfl rfl rfl rfl) ?_
 simp only [killT, killB, SV.kill, CV.kill, kk, Nat.reduceBEq]
 refine ok_region ?_
 iterate 3 refine z ?_
 refine ok_loop (ι := Nat) (fun zz => ⟨[(1, .box 1 0), (2, .box 2 0), (3, .box 3 0), (4, .one (.dv [] (.int .i64 ((zz : Int)))))], [(1, 73, [(.dv [] (.str (x.1))), (.dv [] (.int .i64 (x.2.1))), (.dv [] (storesD (x.2.2.1))), (.dv [] (defsD (x.2.2.2)))]), (2, 73, [(.dv [] (.str (ByteArray.empty))), (.dv [] (.int .i64 (0))), .nil, .nil]), (3, 73, [(.dv [] (.str (x.1))), (.dv [] (.int .i64 (x.2.1))), (.key 31), (.key 900)])], [(31, some (kcOf false (.sl 110 3 ((x.2.2.1.take zz).length) ((x.2.2.1.take zz).flatMap eStore)))), (900, some (kcOf false (.sl 113 2 ((x.2.2.2).length) ((x.2.2.2).flatMap eDef))))]⟩) (fun zz => zz ≤ x.2.2.1.length) (fun zz => x.2.2.1.length - zz) (0) ?_ (weak_sub ⟨rfl, rfl, rfl, rfl, trivial⟩ ⟨rfl, rfl, rfl, trivial⟩ ⟨rfl, rfl, trivial⟩ rfl) (fun zz hx => ?_)
 ·exact Nat.zero_le _
 obtain ⟨k, rfl⟩ : ∃ v, v = zz := ⟨_, rfl⟩
 replace hx : k ≤ x.2.2.1.length := hx
 have hw := fun h => wSum_succ wStore x.2.2.1 k h
 show Ok _ _ _ _ _ (⟨[(1, .box 1 0), (2, .box 2 0), (3, .box 3 0), (4, .one (.dv [] (.int .i64 ((k : Int)))))], [(1, 73, [(.dv [] (.str (x.1))), (.dv [] (.int .i64 (x.2.1))), (.dv [] (storesD (x.2.2.1))), (.dv [] (defsD (x.2.2.2)))]), (2, 73, [(.dv [] (.str (ByteArray.empty))), (.dv [] (.int .i64 (0))), .nil, .nil]), (3, 73, [(.dv [] (.str (x.1))), (.dv [] (.int .i64 (x.2.1))), (.key 31), (.key 900)])], [(31, some (kcOf false (.sl 110 3 ((x.2.2.1.take k).length) ((x.2.2.1.take k).flatMap eStore)))), (900, some (kcOf false (.sl 113 2 ((x.2.2.2).length) ((x.2.2.2).flatMap eDef))))]⟩ : St)
 iterate 8 refine z ?_
 refine yQ rfl (fun c1 => ?_) fun c1 => ?_
 ·skip
  have d1 := of_decide_eq_true c1
  have hk2 : k < x.2.2.1.length := by omega
  obtain ⟨hw1, hw2⟩ := hw hk2
  iterate 4 refine z ?_
  refine ok_regionH [0, 1, 2, 3, 4, 5, 6, 7, 8] (oB := [1, 2, 3]) (oK := [31, 900]) (by kernel_rfl) rfl rfl ?_
  refine zD 0 ?_
  refine zD 1 ?_
  refine zD 2 ?_
  refine zD 3 ?_
  refine zD 4 ?_
  refine zD 5 ?_
  refine zD 6 ?_
  refine d_callK 28000 7 rfl (by kernel_rfl) rfl rfl rfl Tryz.call102 (ok_spec_l6Copy (x := (((x.2.2.1)).getD ((k : Int)).toNat default)) (by omega)) (as_cons (ev_tmp rfl) (ag_agg (ag_cons ac_dv (ag_cons ac_dv (ag_cons ac_dv ag_nil)))) as_nil) rfl rfl rfl rfl rfl ?_
  refine d_build1 (k := 29) (js := [28030]) 8 hT rfl (by kernel_rfl) rfl rfl rfl rfl rfl rfl rfl rfl rfl (ev_tmp rfl) rfl rfl (ow_cons' (ow_dv rfl) (ow_cons' (ow_key rfl) (ow_cons' (ow_dv rfl) ow_nil rfl) rfl) rfl) (by decide) (by decide) rfl rfl (by decide) ?_
  simp only [killT, killB, SV.kill, CV.kill, kk, Nat.reduceBEq]
  refine d_chain [9, 10, 11] rfl rfl (by kernel_rfl) ?_
  refine o_appK (k := 31) (j := 29) (cs := (x.2.2.1.take (k + 1)).flatMap eStore) (n := (x.2.2.1.take (k + 1)).length) hT rfl rfl rfl rfl rfl rfl rfl (ev_tmp rfl) rfl rfl rfl (ev_tmp rfl) rfl rfl (by decide) (by dsimp only [kcOf]; simp only [List.length_take]; omega) (by dsimp only [kcOf]; simp only [List.length_take]; omega) ((take_csG (enc := eStore) hk2).2) ((take_csG (enc := eStore) hk2).1) ?_
  simp only [killT, killB, SV.kill, CV.kill, kk, Nat.reduceBEq]
  iterate 2 refine z ?_
  refine ops_nil ?_
  iterate 2 refine z ?_
  refine ok_region ?_
  iterate 4 refine z ?_
  refine ⟨k + 1, ?_, ?_, weak_sub ⟨rfl, rfl, rfl, rfl, trivial⟩ ⟨rfl, rfl, rfl, trivial⟩ ⟨rfl, rfl, trivial⟩ rfl⟩
  ·omega
  ·omega
 ·skip
  have d1 := of_decide_eq_false c1
  iterate 9 refine z ?_
  refine ok_weak (σ' := ⟨[(2, .box 2 0)], [(2, 73, [(.dv [] (.str (x.1))), (.dv [] (.int .i64 (x.2.1))), (.key 31), (.key 900)])], [(31, some (kcOf false (storesD (x.2.2.1)))), (900, some (kcOf false (defsD (x.2.2.2))))]⟩) (weak_sub ⟨rfl, trivial⟩ ⟨rfl, trivial⟩ ⟨(congrArg (fun l : List (StoreT) => some (some (KC.mk false 110 3 l.length (l.flatMap eStore)))) (List.take_of_length_le (by omega))), rfl, trivial⟩ rfl) ?_
  refine z ?_
  refine fin1 (res_cell hT rfl rfl rfl rfl) ?_
  exact ⟨rfl, rfl⟩
end Go.Proofs.YtoigmlbidpocnaaGreat

namespace Go.Proofs.YtoigmlbidpocnaaGreat
open Go.RowKit
open Go.Proofs
set_option linter.unusedVariables false
set_option linter.unusedSimpArgs false

section
variable {α : Type} {enc : α → List DV} {sz : Nat} {q : α → Bool} {x : List α}
theorem fl_len (hs : ∀ y, (enc y).length = sz) : ∀ xs : List α, (xs.flatMap enc).length = xs.length * sz
 | [] => by simp
 | y :: xs => by rw [List.flatMap_cons, List.length_append, fl_len hs xs, hs, List.length_cons, Nat.add_mul, Nat.one_mul, Nat.add_comm]
theorem findI_cases {p : α → Bool} {d : α} : ∀ (xs : List α) (i : Int), 0 ≤ i → (findI p xs i = -1 ∧ xs.any p = false) ∨ ∃ m, m < xs.length ∧ findI p xs i = i + (m : Int) ∧ (xs.take m).any p = false ∧ p (xs.getD m d) = true
 | [], i, h => .inl ⟨rfl, rfl⟩
 | y :: xs, i, h => by
  rw [findI]
  by_cases hp : p y = true
  ·rw [if_pos hp]
   exact .inr ⟨0, by simp, by simp, by simp, by simpa using hp⟩
  ·rw [if_neg hp]
   rcases findI_cases (p := p) (d := d) xs (i + 1) (by omega) with ⟨h1, h2⟩ | ⟨m, h1, h2, h3, h4⟩
   ·exact .inl ⟨h1, by simp [h2, hp]⟩
   ·exact .inr ⟨m + 1, by simpa using h1, by rw [h2]; omega, by simp [h3, hp], by simpa using h4⟩
end
end Go.Proofs.YtoigmlbidpocnaaGreat

namespace Go.Proofs.YtoigmlbidpocnaaGreat
open Go.RowKit
open Go.Proofs
set_option linter.unusedVariables false
set_option linter.unusedSimpArgs false

theorem bl_irr : ∀ x : List UInt8, Op.bytesLess x x = false
 | [] => rfl
 | a :: x => by simp [Op.bytesLess, bl_irr x]
theorem bl_trans : ∀ x y z : List UInt8, Op.bytesLess x y = true → Op.bytesLess y z = true → Op.bytesLess x z = true
 | x, [], z, h, _ => by cases x <;> simp [Op.bytesLess] at h
 | x, b :: y, [], _, h => by simp [Op.bytesLess] at h
 | [], b :: y, c :: z, _, _ => rfl
 | a :: x, b :: y, c :: z, h1, h2 => by
  simp only [Op.bytesLess, Bool.or_eq_true, decide_eq_true_eq, Bool.and_eq_true, beq_iff_eq] at h1 h2 ⊢
  rcases h1 with h1 | ⟨rfl, h1⟩
  ·rcases h2 with h2 | ⟨rfl, h2⟩
   ·exact .inl (UInt8.lt_trans h1 h2)
   ·exact .inl h1
  ·rcases h2 with h2 | ⟨rfl, h2⟩
   ·exact .inl h2
   ·exact .inr ⟨rfl, bl_trans x y z h1 h2⟩
def posF (n : Str) : RecT → Nat
 | [] => 0
 | y :: ys => if sLt y.1 n then posF n ys + 1 else 0
def setV (l : RecT) (i : Nat) (v : Int) : RecT := l.set i ((l.getD i default).1, v)
def insF (l : RecT) (j : Nat) (y : FieldT) : RecT := l.take j ++ y :: l.drop j
def hitF (n : Str) (r : RecT) : Bool := decide (posF n r < r.length) && sEq (r.getD (posF n r) default).1 n
def setF0 (r : RecT) (n : Str) (v : Int) : RecT := if hitF n r then setV r (posF n r) v else insF r (posF n r) (n, v)
def setF (r : RecT) (n : Str) (v : Int) : RecT × Bool := if !isRec r || !isRec (setF0 r n v) then (r, false) else (setF0 r n v, true)
theorem setF_no {r o : RecT} {n : Str} {v : Int} (ho : isRec r = true → o = setF0 r n v) (h : (!isRec r || !isRec o) = true) : setF r n v = (r, false) := by
 unfold setF
 by_cases hr : isRec r = true
 ·rw [← ho hr, if_pos h]
 ·rw [if_pos (by simp [hr])]
theorem setF_yes {r o : RecT} {n : Str} {v : Int} (ho : isRec r = true → o = setF0 r n v) (h : (!isRec r || !isRec o) = false) : setF r n v = (o, true) := by
 have hr : isRec r = true := by cases hh : isRec r <;> simp_all
 rw [setF, ← ho hr, if_neg (by rw [h]; simp)]
theorem dropF_cons {l : RecT} {j : Nat} (h : j < l.length) : l.drop j = l.getD j default :: l.drop (j + 1) := by
 rw [List.drop_eq_getElem_cons h]
 simp [List.getD, List.getElem?_eq_getElem h]
theorem hit_spec {r : RecT} {n : Str} {v : Int} {j : Nat} (hj : posF n r = j) (h : (decide ((j : Int) < (r.length : Int)) && sEq (r.getD (j : Int).toNat default).1 n) = true) : setV r j v = setF0 r n v := by
 have hh : hitF n r = true := by
  rw [Bool.and_eq_true, decide_eq_true_eq, Int.toNat_natCast] at h
  unfold hitF; rw [hj, h.2, decide_eq_true (by omega)]; rfl
 rw [setF0, if_pos hh, hj]
theorem miss_spec {r : RecT} {n : Str} {v : Int} {j : Nat} (hj : posF n r = j) (h : (decide ((j : Int) < (r.length : Int)) && sEq (r.getD (j : Int).toNat default).1 n) = false) : insF r j (n, v) = setF0 r n v := by
 have hh : hitF n r = false := by
  rw [Int.toNat_natCast] at h
  unfold hitF; rw [hj]
  by_cases hl : j < r.length
  ·rw [decide_eq_true (by omega : (j : Int) < (r.length : Int))] at h; rw [decide_eq_true hl]; exact h
  ·rw [decide_eq_false hl]; rfl
 rw [setF0, if_neg (by rw [hh]; simp), hj]
theorem posF_step {n : Str} {l : RecT} {j : Nat} (hp : posF n l = j + posF n (l.drop j)) (h : (decide ((j : Int) < (l.length : Int)) && sLt (l.getD (j : Int).toNat default).1 n) = true) : j < l.length ∧ posF n l = (j + 1) + posF n (l.drop (j + 1)) := by
 obtain ⟨h1, h2⟩ := (Bool.and_eq_true _ _ ▸ h : _ ∧ _)
 have h1 := of_decide_eq_true h1
 rw [Int.toNat_natCast] at h2
 have h3 : j < l.length := by omega
 refine ⟨h3, ?_⟩
 rw [hp, dropF_cons h3, posF, if_pos h2]
 omega
theorem posF_stop {n : Str} {l : RecT} {j : Nat} (hj : j ≤ l.length) (hp : posF n l = j + posF n (l.drop j)) (h : (decide ((j : Int) < (l.length : Int)) && sLt (l.getD (j : Int).toNat default).1 n) = false) : posF n l = j := by
 rcases Nat.lt_or_ge j l.length with h3 | h3
 ·rw [decide_eq_true (by omega : (j : Int) < (l.length : Int)), Bool.true_and, Int.toNat_natCast] at h
  rw [hp, dropF_cons h3, posF, if_neg (by rw [h]; simp)]
  omega
 ·rw [hp, List.drop_eq_nil_of_le h3, posF]; omega
theorem len2 (l : RecT) : (l.flatMap eField).length = l.length * 2 := fl_len (enc := eField) (sz := 2) (fun _ => rfl) l
theorem setV_len {l : RecT} {i : Nat} {v : Int} : (setV l i v).length = l.length := by simp [setV]
theorem setR_setV {l : RecT} {i : Nat} {v : Int} (hi : i < l.length) : setR (i * 2 + 1) [DV.int .i64 v] (l.flatMap eField) = (setV l i v).flatMap eField := by
 have e : l.flatMap eField = (l.take i).flatMap eField ++ (eField (l.getD i default) ++ (l.drop (i + 1)).flatMap eField) := by
  rw [← List.flatMap_cons, ← dropF_cons hi, ← List.flatMap_append, List.take_append_drop]
 have e2 : (setV l i v).flatMap eField = (l.take i).flatMap eField ++ (eField ((l.getD i default).1, v) ++ (l.drop (i + 1)).flatMap eField) := by
  rw [setV, List.set_eq_take_append_cons_drop, if_pos hi, List.flatMap_append, List.flatMap_cons]
 have hl : ((l.take i).flatMap eField).length = i * 2 := by rw [len2, List.length_take]; omega
 rw [e, e2]
 exact setR_mid (pre := (l.take i).flatMap eField) (B := eField (l.getD i default)) (B' := eField ((l.getD i default).1, v)) (post := (l.drop (i + 1)).flatMap eField) (m := i * 2) (off := i * 2 + 1) (j := 1) hl rfl rfl (Nat.le_refl _)
theorem ok_spec_SetField {r : RecT} {n : Str} {v : Int} (hb : r.length ≤ 1099511627776) : KFn Tryz.prog 81 [.agg [(.dv [] (fieldsD (r)))], .one (.dv [] (.str (n))), .one (.dv [] (.int .i64 (v)))] (.tup [(true, [(.key 9001)]), (false, [(.dv [] (.bool ((setF r n v).2)))])]) [(9001, some (kcOf false (fieldsD ((setF r n v).1))))] := by
 refine ⟨fn_intro Tryz.func81 rfl Tryz.ntmps81 Tryz.results81 rfl (fun C => ?_)⟩
 refine yF 0 0 rfl rfl fun f0_0 => ?_
 refine ok_fact (x := .tmp 1) (ev_tmp rfl) fun f1 => ?_
 refine ok_fact (x := .tmp 2) (ev_tmp rfl) fun f2 => ?_
 iterate 7 refine z ?_
 refine zK 8998 Tryz.call93 ?_ (hf := ok_spec_l5Copy (x := r) (by omega))
 iterate 8 refine z ?_
 refine ok_loop (ι := Nat) (fun zz => ⟨[(1, .one (.dv [] (.str (n)))), (2, .one (.dv [] (.int .i64 (v)))), (3, .box 3 0), (6, .box 6 0), (7, .one (.dv [] (.bool (false)))), (8, .box 8 0), (9, .one (.dv [] (.int .i64 ((zz : Int)))))], [(3, 32, [(.dv [] (fieldsD (r)))]), (6, 32, [.nil]), (8, 32, [(.key 9001)])], [(9001, some (kcOf false (.sl 77 2 (r.length) (r.flatMap eField))))]⟩) (fun zz => zz ≤ r.length ∧ posF n r = zz + posF n (r.drop zz)) (fun zz => r.length - zz) (0) ?_ (weak_sub ⟨rfl, rfl, rfl, rfl, rfl, rfl, rfl, trivial⟩ ⟨rfl, rfl, rfl, trivial⟩ ⟨rfl, trivial⟩ rfl) (fun zz hx => ?_)
 ·exact ⟨Nat.zero_le _, by simp⟩
 obtain ⟨j, rfl⟩ : ∃ v, v = zz := ⟨_, rfl⟩
 replace hx : j ≤ r.length ∧ posF n r = j + posF n (r.drop j) := hx
 obtain ⟨hj, hp⟩ := hx
 show Ok _ _ _ _ _ (⟨[(1, .one (.dv [] (.str (n)))), (2, .one (.dv [] (.int .i64 (v)))), (3, .box 3 0), (6, .box 6 0), (7, .one (.dv [] (.bool (false)))), (8, .box 8 0), (9, .one (.dv [] (.int .i64 ((j : Int)))))], [(3, 32, [(.dv [] (fieldsD (r)))]), (6, 32, [.nil]), (8, 32, [(.key 9001)])], [(9001, some (kcOf false (.sl 77 2 (r.length) (r.flatMap eField))))]⟩ : St)
 iterate 18 refine z ?_
 refine yQ rfl (fun c1 => ?_) fun c1 => ?_
 ·skip
  have hst := posF_step hp c1
  have hst1 := hst.1
  iterate 3 refine z ?_
  refine ok_region ?_
  iterate 3 refine z ?_
  refine ops_nil ?_
  iterate 2 refine z ?_
  refine ⟨j + 1, ?_, ?_, weak_sub ⟨rfl, rfl, rfl, rfl, rfl, rfl, rfl, trivial⟩ ⟨rfl, rfl, rfl, trivial⟩ ⟨rfl, trivial⟩ rfl⟩
  ·exact ⟨by omega, hst.2⟩
  ·omega
 ·skip
  have hpos := posF_stop hj hp c1
  iterate 23 refine z ?_
  refine yQ rfl (fun c2 => ?_) fun c2 => ?_
  ·skip
   have hlt : j < r.length := by have h8 := c2; rw [Bool.and_eq_true, decide_eq_true_eq] at h8; omega
   refine ok_region ?_
   iterate 4 refine z ?_
   refine yO rfl rfl (pu_indexK (i := j) hT rfl rfl rfl (ev_tmp rfl) rfl (ev_tmp rfl) rfl (by show _ < (r.length); omega)) rfl ?_
   refine z ?_
   refine o_storeE (js := []) (cs := (setV r j v).flatMap eField) hT rfl rfl rfl rfl (ev_tmp rfl) (ev_tmp rfl) rfl rfl rfl rfl (ow_cons' (ow_dv rfl) ow_nil rfl) (by decide) (by decide) rfl (by show _ ≤ List.length (r.flatMap eField); rw [len2]; omega) (setR_setV (by omega)) ?_
   simp only [killT, killB, SV.kill, CV.kill, kk, Nat.reduceBEq]
   refine z ?_
   refine ok_seq ?_
   refine ok_seq ?_
   refine ok_weak (weak_eq (k := 9001) (c' := kcOf false (fieldsD (setV r j v))) rfl (congrArg (fun m => KC.mk false 77 2 m ((setV r j v).flatMap eField)) setV_len.symm) rfl) ?_
   refine ok_region ?_
   refine z ?_
   refine zC Tryz.call22 ?_ (hf := ok_spec_IsRecord (r := r) )
   iterate 3 refine z ?_
   refine o_callG (gd_bool rfl rfl rfl rfl rfl) rfl rfl Tryz.call22 (ok_spec_IsRecord (r := setV r j v) ) (fun hg => (as_cons (ev_opt rfl hg) (ag_agg (ag_cons (ac_key' rfl rfl) ag_nil)) as_nil)) rfl rfl ?_
   iterate 3 refine z ?_
   refine yQ rfl (fun c3 => ?_) fun c3 => ?_
   ·skip
    refine ok_seq ?_
    refine ok_weak (σ' := ⟨[(3, .box 3 0), (6, .box 6 0), (7, .one (.dv [] (.bool (false))))], [(3, 32, [(.dv [] (fieldsD (r)))]), (6, 32, [.nil])], []⟩) (weak_sub ⟨rfl, rfl, rfl, trivial⟩ ⟨rfl, rfl, trivial⟩ trivial rfl) ?_
    refine ok_region ?_
    refine z ?_
    refine zK 8998 Tryz.call93 ?_ (hf := ok_spec_l5Copy (x := r) (by omega))
    iterate 3 refine z ?_
    rw [setF_no (fun _ => hit_spec hpos c2) c3]
    refine ok_weak (σ' := ⟨[(6, .box 6 0), (7, .one (.dv [] (.bool (false))))], [(6, 32, [(.key 9001)])], [(9001, some (kcOf false (fieldsD (r))))]⟩) (weak_sub ⟨rfl, rfl, trivial⟩ ⟨rfl, trivial⟩ ⟨rfl, trivial⟩ rfl) ?_
    iterate 2 refine z ?_
    refine fin2 (res_cell hT rfl rfl rfl rfl) (res_tmp rfl) rfl rfl ?_
    first | exact ⟨rfl, rfl⟩ | skip
   ·skip
    iterate 7 refine z ?_
    rw [setF_yes (fun _ => hit_spec hpos c2) c3]
    refine ok_weak (σ' := ⟨[(6, .box 6 0), (7, .one (.dv [] (.bool (true))))], [(6, 32, [(.key 9001)])], [(9001, some (kcOf false (fieldsD (setV r j v))))]⟩) (weak_sub ⟨rfl, rfl, trivial⟩ ⟨rfl, trivial⟩ ⟨rfl, trivial⟩ rfl) ?_
    refine z ?_
    refine fin2 (res_cell hT rfl rfl rfl rfl) (res_tmp rfl) rfl rfl ?_
    first | exact ⟨rfl, rfl⟩ | skip
  ·skip
   refine ok_cutT (σ' := ⟨[(3, .box 3 0), (6, .box 6 0), (7, .one (.dv [] (.bool (false)))), (8, .box 8 0)], [(3, 32, [(.dv [] (fieldsD (r)))]), (6, 32, [.nil]), (8, 32, [(.key 9050)])], [(9001, some (kcOf false (.sl 77 2 (r.length) (r.flatMap eField)))), (9050, some (kcOf false (.sl 77 2 ((insF r j (n, v)).length) ((insF r j (n, v)).flatMap eField))))]⟩) ?_ ?_
   ·skip
    refine ok_regionH [0, 1, 2, 3, 4, 5, 6, 7, 8, 9, 10, 11, 12, 13, 14, 15, 16] (oB := [3, 6, 8]) (oK := [9001]) (by kernel_rfl) rfl rfl ?_
    refine n_start ?_
    refine zN 1 ?_
    refine zN 2 ?_
    refine zN 3 ?_
    refine n_take 4 rfl (by kernel_rfl) rfl rfl (pu_sliceH hT rfl rfl rfl (ev_tmp rfl) (ev_tmp rfl) (fun _ => rfl) (by omega) (by omega)) rfl rfl rfl rfl ?_
    refine zN 6 ?_
    refine zN 7 ?_
    refine n_take 8 rfl (by kernel_rfl) rfl rfl (pu_build hT hB rfl rfl rfl (bp_cons (ev_tmp rfl) rfl rfl rfl rfl rfl (bp_cons (ev_tmp rfl) rfl rfl rfl rfl rfl bp_nil))) rfl rfl rfl rfl ?_
    refine zN 11 ?_
    refine zN 12 ?_
    refine zN 13 ?_
    refine n_take 14 rfl (by kernel_rfl) rfl rfl (pu_sliceL hT rfl rfl rfl (ev_tmp rfl) (ev_tmp rfl) (fun _ => rfl) (by omega) (by omega)) rfl rfl rfl rfl ?_
    refine n_split 0 [9] (by kernel_rfl) ⟨?_, ?_, trivial⟩
    ·skip
     refine nj_build0 (k := 9050) 0 hT rfl rfl rfl rfl rfl rfl rfl rfl rfl rfl rfl rfl ?_
     refine n_split 5 [9] (by kernel_rfl) ⟨?_, ?_, trivial⟩
     ·skip
      refine nj_appV (k := 9050) (cs := (r.take j).flatMap eField) (n := (r.take j).length) 5 hT rfl rfl rfl rfl rfl rfl rfl rfl (ev_tmp rfl) rfl rfl rfl (ev_tmp rfl) (plain_flat (fun _ => rfl) _) (by dsimp only [kcOf]; simp only [List.length_take]; omega) (by dsimp only [kcOf]; simp only [List.length_take]; omega) (Nat.zero_add _) (rfl) rfl rfl ?_
      simp only [killT, killB, SV.kill, CV.kill, kk, Nat.reduceBEq]
      refine n_split 9 [] (by kernel_rfl) ⟨?_, trivial⟩
      ·skip
       refine nj_buildN (k := 9059) (js := []) 9 hT rfl rfl rfl rfl rfl rfl rfl rfl rfl rfl rfl rfl (ep_cons (ev_tmp rfl) rfl rfl rfl ep_nil) (ow_cons' (ow_dv rfl) (ow_cons' (ow_dv rfl) ow_nil rfl) rfl) (by decide) (by decide) rfl rfl rfl rfl rfl ?_
       simp only [killT, killB, SV.kill, CV.kill, kk, Nat.reduceBEq]
       refine n_split 10 [] (by kernel_rfl) ⟨?_, trivial⟩
       ·skip
        refine nj_appV (k := 9050) (cs := ((r.take j) ++ [(n, v)]).flatMap eField) (n := ((r.take j) ++ [(n, v)]).length) (m := 1) (ds := [.str (n), .int .i64 (v)]) 10 hT rfl rfl rfl rfl rfl rfl rfl rfl (ev_tmp rfl) rfl rfl rfl (ev_keyv' (ev_tmp rfl) rfl rfl) rfl (by dsimp only [kcOf]; simp only [List.length_take]; omega) (by dsimp only [kcOf]; simp only [List.length_take]; omega) (by simp) (by rw [List.flatMap_append]; rfl) rfl rfl ?_
        simp only [killT, killB, SV.kill, CV.kill, kk, Nat.reduceBEq]
        refine n_split 15 [] (by kernel_rfl) ⟨?_, trivial⟩
        ·skip
         refine nj_appV (k := 9050) (cs := (insF r j (n, v)).flatMap eField) (n := (insF r j (n, v)).length) 15 hT rfl rfl rfl rfl rfl rfl rfl rfl (ev_tmp rfl) rfl rfl rfl (ev_tmp rfl) (plain_flat (fun _ => rfl) _) (by dsimp only [kcOf]; simp only [List.length_append, List.length_take, List.length_drop, List.length_singleton]; omega) (by dsimp only [kcOf]; simp only [List.length_append, List.length_take, List.length_drop, List.length_singleton]; omega) (by simp [insF]; omega) (by rw [← List.flatMap_append, insF, List.append_assoc]; rfl) rfl rfl ?_
         simp only [killT, killB, SV.kill, CV.kill, kk, Nat.reduceBEq]
         refine zN 16 ?_
         refine n_split 17 [] (by kernel_rfl) ⟨?_, trivial⟩
         ·skip
          refine nj_last 17 rfl rfl (by kernel_rfl) (ef_storeBox hT rfl rfl rfl (ev_tmp rfl) (ev_tmp rfl) rfl rfl rfl rfl rfl rfl) (by kernel_rfl) ?_
          exact then_n (weak_sub ⟨rfl, rfl, rfl, rfl, trivial⟩ ⟨rfl, rfl, rfl, trivial⟩ ⟨rfl, rfl, trivial⟩ rfl)
     ·skip
      refine nj_buildN (k := 9059) (js := []) 9 hT rfl rfl rfl rfl rfl rfl rfl rfl rfl rfl rfl rfl (ep_cons (ev_tmp rfl) rfl rfl rfl ep_nil) (ow_cons' (ow_dv rfl) (ow_cons' (ow_dv rfl) ow_nil rfl) rfl) (by decide) (by decide) rfl rfl rfl rfl rfl ?_
      simp only [killT, killB, SV.kill, CV.kill, kk, Nat.reduceBEq]
      refine n_split 5 [] (by kernel_rfl) ⟨?_, trivial⟩
      ·skip
       refine nj_appV (k := 9050) (cs := (r.take j).flatMap eField) (n := (r.take j).length) 5 hT rfl rfl rfl rfl rfl rfl rfl rfl (ev_tmp rfl) rfl rfl rfl (ev_tmp rfl) (plain_flat (fun _ => rfl) _) (by dsimp only [kcOf]; simp only [List.length_take]; omega) (by dsimp only [kcOf]; simp only [List.length_take]; omega) (Nat.zero_add _) (rfl) rfl rfl ?_
       simp only [killT, killB, SV.kill, CV.kill, kk, Nat.reduceBEq]
       refine n_split 10 [] (by kernel_rfl) ⟨?_, trivial⟩
       ·skip
        refine nj_appV (k := 9050) (cs := ((r.take j) ++ [(n, v)]).flatMap eField) (n := ((r.take j) ++ [(n, v)]).length) (m := 1) (ds := [.str (n), .int .i64 (v)]) 10 hT rfl rfl rfl rfl rfl rfl rfl rfl (ev_tmp rfl) rfl rfl rfl (ev_keyv' (ev_tmp rfl) rfl rfl) rfl (by dsimp only [kcOf]; simp only [List.length_take]; omega) (by dsimp only [kcOf]; simp only [List.length_take]; omega) (by simp) (by rw [List.flatMap_append]; rfl) rfl rfl ?_
        simp only [killT, killB, SV.kill, CV.kill, kk, Nat.reduceBEq]
        refine n_split 15 [] (by kernel_rfl) ⟨?_, trivial⟩
        ·skip
         refine nj_appV (k := 9050) (cs := (insF r j (n, v)).flatMap eField) (n := (insF r j (n, v)).length) 15 hT rfl rfl rfl rfl rfl rfl rfl rfl (ev_tmp rfl) rfl rfl rfl (ev_tmp rfl) (plain_flat (fun _ => rfl) _) (by dsimp only [kcOf]; simp only [List.length_append, List.length_take, List.length_drop, List.length_singleton]; omega) (by dsimp only [kcOf]; simp only [List.length_append, List.length_take, List.length_drop, List.length_singleton]; omega) (by simp [insF]; omega) (by rw [← List.flatMap_append, insF, List.append_assoc]; rfl) rfl rfl ?_
         simp only [killT, killB, SV.kill, CV.kill, kk, Nat.reduceBEq]
         refine zN 16 ?_
         refine n_split 17 [] (by kernel_rfl) ⟨?_, trivial⟩
         ·skip
          refine nj_last 17 rfl rfl (by kernel_rfl) (ef_storeBox hT rfl rfl rfl (ev_tmp rfl) (ev_tmp rfl) rfl rfl rfl rfl rfl rfl) (by kernel_rfl) ?_
          exact then_n (weak_sub ⟨rfl, rfl, rfl, rfl, trivial⟩ ⟨rfl, rfl, rfl, trivial⟩ ⟨rfl, rfl, trivial⟩ rfl)
    ·skip
     refine nj_buildN (k := 9059) (js := []) 9 hT rfl rfl rfl rfl rfl rfl rfl rfl rfl rfl rfl rfl (ep_cons (ev_tmp rfl) rfl rfl rfl ep_nil) (ow_cons' (ow_dv rfl) (ow_cons' (ow_dv rfl) ow_nil rfl) rfl) (by decide) (by decide) rfl rfl rfl rfl rfl ?_
     simp only [killT, killB, SV.kill, CV.kill, kk, Nat.reduceBEq]
     refine n_split 0 [] (by kernel_rfl) ⟨?_, trivial⟩
     ·skip
      refine nj_build0 (k := 9050) 0 hT rfl rfl rfl rfl rfl rfl rfl rfl rfl rfl rfl rfl ?_
      refine n_split 5 [] (by kernel_rfl) ⟨?_, trivial⟩
      ·skip
       refine nj_appV (k := 9050) (cs := (r.take j).flatMap eField) (n := (r.take j).length) 5 hT rfl rfl rfl rfl rfl rfl rfl rfl (ev_tmp rfl) rfl rfl rfl (ev_tmp rfl) (plain_flat (fun _ => rfl) _) (by dsimp only [kcOf]; simp only [List.length_take]; omega) (by dsimp only [kcOf]; simp only [List.length_take]; omega) (Nat.zero_add _) (rfl) rfl rfl ?_
       simp only [killT, killB, SV.kill, CV.kill, kk, Nat.reduceBEq]
       refine n_split 10 [] (by kernel_rfl) ⟨?_, trivial⟩
       ·skip
        refine nj_appV (k := 9050) (cs := ((r.take j) ++ [(n, v)]).flatMap eField) (n := ((r.take j) ++ [(n, v)]).length) (m := 1) (ds := [.str (n), .int .i64 (v)]) 10 hT rfl rfl rfl rfl rfl rfl rfl rfl (ev_tmp rfl) rfl rfl rfl (ev_keyv' (ev_tmp rfl) rfl rfl) rfl (by dsimp only [kcOf]; simp only [List.length_take]; omega) (by dsimp only [kcOf]; simp only [List.length_take]; omega) (by simp) (by rw [List.flatMap_append]; rfl) rfl rfl ?_
        simp only [killT, killB, SV.kill, CV.kill, kk, Nat.reduceBEq]
        refine n_split 15 [] (by kernel_rfl) ⟨?_, trivial⟩
        ·skip
         refine nj_appV (k := 9050) (cs := (insF r j (n, v)).flatMap eField) (n := (insF r j (n, v)).length) 15 hT rfl rfl rfl rfl rfl rfl rfl rfl (ev_tmp rfl) rfl rfl rfl (ev_tmp rfl) (plain_flat (fun _ => rfl) _) (by dsimp only [kcOf]; simp only [List.length_append, List.length_take, List.length_drop, List.length_singleton]; omega) (by dsimp only [kcOf]; simp only [List.length_append, List.length_take, List.length_drop, List.length_singleton]; omega) (by simp [insF]; omega) (by rw [← List.flatMap_append, insF, List.append_assoc]; rfl) rfl rfl ?_
         simp only [killT, killB, SV.kill, CV.kill, kk, Nat.reduceBEq]
         refine zN 16 ?_
         refine n_split 17 [] (by kernel_rfl) ⟨?_, trivial⟩
         ·skip
          refine nj_last 17 rfl rfl (by kernel_rfl) (ef_storeBox hT rfl rfl rfl (ev_tmp rfl) (ev_tmp rfl) rfl rfl rfl rfl rfl rfl) (by kernel_rfl) ?_
          exact then_n (weak_sub ⟨rfl, rfl, rfl, rfl, trivial⟩ ⟨rfl, rfl, rfl, trivial⟩ ⟨rfl, rfl, trivial⟩ rfl)
   refine ok_seq ?_
   refine ok_seq ?_
   refine ok_weak (weak_swapB (b := 8) (i := 0) (k := 9050) (k' := 9001) rfl rfl rfl rfl (by decide) rfl rfl) ?_
   simp only [killT, killB, SV.kill, CV.kill, kk, Nat.reduceBEq]
   refine ok_weak (weak_eq (k := 9001) (c' := kcOf false (fieldsD (insF r j (n, v)))) rfl (rfl) rfl) ?_
   refine ok_region ?_
   refine z ?_
   refine zC Tryz.call22 ?_ (hf := ok_spec_IsRecord (r := r) )
   iterate 3 refine z ?_
   refine o_callG (gd_bool rfl rfl rfl rfl rfl) rfl rfl Tryz.call22 (ok_spec_IsRecord (r := insF r j (n, v)) ) (fun hg => (as_cons (ev_opt rfl hg) (ag_agg (ag_cons (ac_key' rfl rfl) ag_nil)) as_nil)) rfl rfl ?_
   iterate 3 refine z ?_
   refine yQ rfl (fun c4 => ?_) fun c4 => ?_
   ·skip
    refine ok_seq ?_
    refine ok_weak (σ' := ⟨[(3, .box 3 0), (6, .box 6 0), (7, .one (.dv [] (.bool (false))))], [(3, 32, [(.dv [] (fieldsD (r)))]), (6, 32, [.nil])], []⟩) (weak_sub ⟨rfl, rfl, rfl, trivial⟩ ⟨rfl, rfl, trivial⟩ trivial rfl) ?_
    refine ok_region ?_
    refine z ?_
    refine zK 8998 Tryz.call93 ?_ (hf := ok_spec_l5Copy (x := r) (by omega))
    iterate 3 refine z ?_
    rw [setF_no (fun _ => miss_spec hpos c2) c4]
    refine ok_weak (σ' := ⟨[(6, .box 6 0), (7, .one (.dv [] (.bool (false))))], [(6, 32, [(.key 9001)])], [(9001, some (kcOf false (fieldsD (r))))]⟩) (weak_sub ⟨rfl, rfl, trivial⟩ ⟨rfl, trivial⟩ ⟨rfl, trivial⟩ rfl) ?_
    iterate 2 refine z ?_
    refine fin2 (res_cell hT rfl rfl rfl rfl) (res_tmp rfl) rfl rfl ?_
    first | exact ⟨rfl, rfl⟩ | skip
   ·skip
    iterate 7 refine z ?_
    rw [setF_yes (fun _ => miss_spec hpos c2) c4]
    refine ok_weak (σ' := ⟨[(6, .box 6 0), (7, .one (.dv [] (.bool (true))))], [(6, 32, [(.key 9001)])], [(9001, some (kcOf false (fieldsD (insF r j (n, v)))))]⟩) (weak_sub ⟨rfl, rfl, trivial⟩ ⟨rfl, trivial⟩ ⟨rfl, trivial⟩ rfl) ?_
    refine z ?_
    refine fin2 (res_cell hT rfl rfl rfl rfl) (res_tmp rfl) rfl rfl ?_
    first | exact ⟨rfl, rfl⟩ | skip
end Go.Proofs.YtoigmlbidpocnaaGreat

namespace Go.Proofs.YtoigmlbidpocnaaGreat
open Go.RowKit
open Go.Proofs
set_option linter.unusedVariables false
set_option linter.unusedSimpArgs false

def recAt (x : StoreT) (k : KeyT) : RecT := if 0 ≤ fndK x k then (x.2.1.getD (fndK x k).toNat default).2 else []
def incRec (r : RecT) (f : Str) : RecT × Bool := setF r f ((getF r f).1 + 1)
def same (x : StoreT) (o : OpT) : Bool := decide (o.1 = 4) || (!decide (o.1 = 1) && !decide (o.1 = 2) && !decide (o.1 = 3) && !decide (o.1 = 5) && !(incRec (recAt x o.2.2.1) o.2.2.2.2).2)
section
variable {x : StoreT} {o : OpT}
end
section
variable {x : StoreT} {o : OpT}
end

end Go.Proofs.YtoigmlbidpocnaaGreat

namespace Go.Proofs.YtoigmlbidpocnaaGreat
open Go.RowKit
open Go.Proofs
set_option linter.unusedVariables false
set_option linter.unusedSimpArgs false

theorem el_le {α : Type} {enc : α → List DV} {sz : Nat} {xs : List α} {i : Nat} (hs : ∀ y, (enc y).length = sz) (hi : i < xs.length) : i * sz + sz ≤ (xs.flatMap enc).length := by
 rw [fl_len hs]
 have : (i + 1) * sz ≤ xs.length * sz := Nat.mul_le_mul_right _ hi
 rw [Nat.add_mul, Nat.one_mul] at this
 exact this
section
variable {α : Type} {enc : α → List DV} {sz : Nat} {xs : List α} {i : Nat} [Inhabited α]
theorem el_set (hs : ∀ y, (enc y).length = sz) (hi : i < xs.length) (y : α) : setR (i * sz) (enc y) (xs.flatMap enc) = (xs.set i y).flatMap enc := by
 have e : xs.flatMap enc = (xs.take i).flatMap enc ++ (enc (xs.getD i default) ++ (xs.drop (i + 1)).flatMap enc) := by
  have e : xs.drop i = xs.getD i default :: xs.drop (i + 1) := by rw [List.drop_eq_getElem_cons hi]; simp [List.getD, List.getElem?_eq_getElem hi]
  rw [← List.flatMap_cons, ← e, ← List.flatMap_append, List.take_append_drop]
 rw [e, setR_mid3 (by rw [fl_len hs, List.length_take]; congr 1; omega) (by rw [hs, hs]), List.set_eq_take_append_cons_drop, if_pos hi, List.flatMap_append, List.flatMap_cons]
end
end Go.Proofs.YtoigmlbidpocnaaGreat

namespace Go.Proofs.YtoigmlbidpocnaaGreat
open Go.RowKit
open Go.Proofs
set_option linter.unusedVariables false
set_option linter.unusedSimpArgs false

theorem sto_name {s : StoreT} (h : isSto s = true) : s.1.size ≤ 8 := by
 simp only [isSto, Bool.and_eq_true] at h
 have := h.2.1.1
 simp only [isName, Bool.and_eq_true, decide_eq_true_eq] at this
 omega
end Go.Proofs.YtoigmlbidpocnaaGreat

