/-
  Contracts of the program's functions for the statements Stores, by the rules of the logic. Conditions: none but those in the theorems.
-/
import Derived.Test.YtmnimdnmedldgaaU2
set_option maxHeartbeats 4000000
set_option maxRecDepth 100000
namespace Go.Proofs.Ytmnimdnmedldgaa
open Go.RowKit
open Go.Proofs
set_option linter.unusedVariables false
set_option linter.unusedSimpArgs false
theorem ok_impl_InRange {n lo hi : Int}  : PFn Try.prog 79 [.one (.dv [] (.int .i64 (n))), .one (.dv [] (.int .i64 (lo))), .one (.dv [] (.int .i64 (hi)))] (.one (.dv [] (.bool (decide (lo ≤ n) && decide (n ≤ hi))))) := by
 refine ⟨fn_intro Try.func79 rfl Try.ntmps79 Try.results79 rfl (fun C => ?_)⟩
 refine ok_fact (x := .tmp 0) (ev_tmp rfl) fun f0 => ?_
 refine ok_fact (x := .tmp 1) (ev_tmp rfl) fun f1 => ?_
 refine ok_fact (x := .tmp 2) (ev_tmp rfl) fun f2 => ?_
 iterate 16 refine z ?_
 rfl
theorem ok_spec_l1In {n lo hi : Int}  : PFn Try.prog 43 [.one (.dv [] (.int .i64 (n))), .one (.dv [] (.int .i64 (lo))), .one (.dv [] (.int .i64 (hi)))] (.one (.dv [] (.bool (decide (lo ≤ n) && decide (n ≤ hi))))) := by
 refine ⟨fn_intro Try.func43 rfl Try.ntmps43 Try.results43 rfl (fun C => ?_)⟩
 refine ok_fact (x := .tmp 0) (ev_tmp rfl) fun f0 => ?_
 refine ok_fact (x := .tmp 1) (ev_tmp rfl) fun f1 => ?_
 refine ok_fact (x := .tmp 2) (ev_tmp rfl) fun f2 => ?_
 iterate 16 refine z ?_
 rfl

theorem take_all {α : Type} {p : α → Bool} {l : List α} {k : Nat} {d : α} (h : (l.take k).all p = true) (hk : k < l.length) (hp : p (l.getD k d) = true) : (l.take (k + 1)).all p = true := by
 rw [List.take_succ_eq_append_getElem hk, List.all_append, h]
 simp only [List.all_cons, List.all_nil, Bool.and_true, Bool.true_and]
 simpa [List.getD, List.getElem?_eq_getElem hk] using hp
theorem all_no {α : Type} {p : α → Bool} {l : List α} {k : Nat} {d : α} (hk : k < l.length) (hp : p (l.getD k d) = false) : l.all p = false := by
 rw [List.all_eq_false]
 refine ⟨l[k], List.getElem_mem hk, ?_⟩
 simpa [List.getD, List.getElem?_eq_getElem hk] using hp
theorem all_yes {α : Type} {p : α → Bool} {l : List α} {k : Nat} (h : (l.take k).all p = true) (hk : l.length ≤ k) : l.all p = true := by rwa [List.take_of_length_le hk] at h
theorem size_len (s : ByteArray) : s.data.toList.length = s.size := rfl
def kch (b : UInt8) : Bool := (decide ((97 : Int) ≤ (b.toNat : Int)) && decide ((b.toNat : Int) ≤ 122)) || (decide ((48 : Int) ≤ (b.toNat : Int)) && decide ((b.toNat : Int) ≤ 57))
def kText (s : Str) : Bool := s.data.toList.all kch && decide ((s.size : Int) ≤ 12)
def wch (sl : Bool) (b : UInt8) : Bool := (decide ((97 : Int) ≤ (b.toNat : Int)) && decide ((b.toNat : Int) ≤ 122)) || (sl && decide ((b.toNat : Int) = 47))
theorem kch_spec (b : UInt8) : ((decide ((b.toNat : Int) < 97) || decide ((122 : Int) < (b.toNat : Int))) && (decide ((b.toNat : Int) < 48) || decide ((57 : Int) < (b.toNat : Int)))) = !kch b := by
 unfold kch
 generalize (b.toNat : Int) = z
 by_cases h1 : z < 97 <;> by_cases h2 : 122 < z <;> by_cases h3 : z < 48 <;> by_cases h4 : 57 < z <;> simp [h1, h2, h3, h4] <;> omega

theorem ok_impl_isKeyText {s : Str}  : PFn Try.prog 99 [.one (.dv [] (.str (s)))] (.one (.dv [] (.bool (kText s)))) := by
 refine ⟨fn_intro Try.func99 rfl Try.ntmps99 Try.results99 rfl (fun C => ?_)⟩
 refine ok_fact (x := .tmp 0) (ev_tmp rfl) fun f0 => ?_
 iterate 8 refine z ?_
 refine ok_loop (ι := Nat) (fun zz => ⟨[(0, .one (.dv [] (.str (s)))), (3, .one (.dv [] (.int .i64 ((zz : Int)))))], [], []⟩) (fun zz => zz ≤ s.size ∧ (s.data.toList.take zz).all kch = true) (fun zz => s.size - zz) (0) ?_ (weak_sub ⟨rfl, rfl, trivial⟩ trivial trivial rfl) (fun zz hx => ?_)
 ·exact ⟨Nat.zero_le _, rfl⟩
 obtain ⟨k, rfl⟩ : ∃ v, v = zz := ⟨_, rfl⟩
 replace hx : k ≤ s.size ∧ (s.data.toList.take k).all kch = true := hx
 obtain ⟨hk, hall⟩ := hx
 show Ok _ _ _ _ _ (⟨[(0, .one (.dv [] (.str (s)))), (3, .one (.dv [] (.int .i64 ((k : Int)))))], [], []⟩ : St)
 iterate 7 refine z ?_
 refine yQ rfl (fun c1 => ?_) fun c1 => ?_
 ·skip
  have d1 := of_decide_eq_true c1
  iterate 29 refine z ?_
  refine yQ rfl (fun c2 => ?_) fun c2 => ?_
  ·skip
   iterate 10 refine z ?_
   rw [kText, all_no (k := k) (d := 0) (by rw [size_len]; omega) (by have h : (!kch (s.data.toList.getD k 0)) = true := c2; simpa using h)]; rfl
  ·skip
   iterate 3 refine z ?_
   refine ok_region ?_
   iterate 4 refine z ?_
   refine ⟨k + 1, ?_, ?_, weak_sub ⟨rfl, rfl, trivial⟩ trivial trivial rfl⟩
   ·exact ⟨by omega, take_all (d := 0) hall (by rw [size_len]; omega) (by have h : (!kch (s.data.toList.getD k 0)) = false := c2; simpa using h)⟩
   ·omega
 ·skip
  have d1 := of_decide_eq_false c1
  iterate 13 refine z ?_
  rw [kText, all_yes hall (by rw [size_len]; omega)]; rfl
theorem ok_spec_l4Text {s : Str}  : PFn Try.prog 81 [.one (.dv [] (.str (s)))] (.one (.dv [] (.bool (kText s)))) := by
 refine ⟨fn_intro Try.func81 rfl Try.ntmps81 Try.results81 rfl (fun C => ?_)⟩
 refine ok_fact (x := .tmp 0) (ev_tmp rfl) fun f0 => ?_
 iterate 8 refine z ?_
 refine ok_loop (ι := Nat) (fun zz => ⟨[(0, .one (.dv [] (.str (s)))), (3, .one (.dv [] (.int .i64 ((zz : Int)))))], [], []⟩) (fun zz => zz ≤ s.size ∧ (s.data.toList.take zz).all kch = true) (fun zz => s.size - zz) (0) ?_ (weak_sub ⟨rfl, rfl, trivial⟩ trivial trivial rfl) (fun zz hx => ?_)
 ·exact ⟨Nat.zero_le _, rfl⟩
 obtain ⟨k, rfl⟩ : ∃ v, v = zz := ⟨_, rfl⟩
 replace hx : k ≤ s.size ∧ (s.data.toList.take k).all kch = true := hx
 obtain ⟨hk, hall⟩ := hx
 show Ok _ _ _ _ _ (⟨[(0, .one (.dv [] (.str (s)))), (3, .one (.dv [] (.int .i64 ((k : Int)))))], [], []⟩ : St)
 iterate 7 refine z ?_
 refine yQ rfl (fun c1 => ?_) fun c1 => ?_
 ·skip
  have d1 := of_decide_eq_true c1
  iterate 28 refine z ?_
  refine yQ rfl (fun c2 => ?_) fun c2 => ?_
  ·skip
   iterate 10 refine z ?_
   rw [kText, all_no (k := k) (d := 0) (by rw [size_len]; omega) (by have h := (kch_spec (s.data.toList.getD k 0)).symm.trans c2; simpa using h)]; rfl
  ·skip
   iterate 3 refine z ?_
   refine ok_region ?_
   iterate 4 refine z ?_
   refine ⟨k + 1, ?_, ?_, weak_sub ⟨rfl, rfl, trivial⟩ trivial trivial rfl⟩
   ·exact ⟨by omega, take_all (d := 0) hall (by rw [size_len]; omega) (by have h := (kch_spec (s.data.toList.getD k 0)).symm.trans c2; simpa using h)⟩
   ·omega
 ·skip
  have d1 := of_decide_eq_false c1
  iterate 13 refine z ?_
  rw [kText, all_yes hall (by rw [size_len]; omega)]; rfl
end Go.Proofs.Ytmnimdnmedldgaa

namespace Go.Proofs.Ytmnimdnmedldgaa
open Go.RowKit
open Go.Proofs
set_option linter.unusedVariables false
set_option linter.unusedSimpArgs false

def isKey (k : KeyT) : Bool := (decide (1 ≤ k.1) && decide (k.1 ≤ 3)) && (decide (-1000000000000 ≤ k.2.1) && decide (k.2.1 ≤ 1000000000000)) && kText k.2.2 && !(decide (k.1 = 2) && !decide (k.2.1 = 0)) && !(decide (k.1 = 1) && !sEq k.2.2 (ByteArray.mk #[]))
def isName (s : Str) : Bool := s.data.toList.all (wch false) && (decide (1 ≤ (s.size : Int)) && decide ((s.size : Int) ≤ 8))
theorem wch_spec (b : UInt8) : (decide ((b.toNat : Int) < 97) || decide ((122 : Int) < (b.toNat : Int))) = !wch false b := by
 unfold wch
 generalize (b.toNat : Int) = z
 by_cases h1 : z < 97 <;> by_cases h2 : 122 < z <;> simp [h1, h2] <;> omega

theorem ok_impl_IsKey {k : KeyT}  : PFn Try.prog 71 [.agg [(.dv [] (.int .i64 (k.1))), (.dv [] (.int .i64 (k.2.1))), (.dv [] (.str (k.2.2)))]] (.one (.dv [] (.bool (isKey k)))) := by
 refine ⟨fn_intro Try.func71 rfl Try.ntmps71 Try.results71 rfl (fun C => ?_)⟩
 refine yF 0 0 rfl rfl fun f0_0 => ?_
 refine yF 0 1 rfl rfl fun f0_1 => ?_
 refine yF 0 2 rfl rfl fun f0_2 => ?_
 iterate 8 refine z ?_
 refine zC Try.call79 ?_ (hf := ok_impl_InRange)
 iterate 4 refine z ?_
 refine o_callG (gd_bool rfl rfl rfl rfl rfl) rfl rfl Try.call79 ok_impl_InRange (fun hg => (as_cons (ev_opt rfl hg) (ag_one ac_dv) (as_cons (ev_int (inR_lit rfl)) (ag_one ac_dv) (as_cons (ev_int (inR_lit rfl)) (ag_one ac_dv) as_nil)))) rfl rfl ?_
 iterate 5 refine z ?_
 refine o_callG (gd_bool rfl rfl rfl rfl rfl) rfl rfl Try.call99 ok_impl_isKeyText (fun hg => (as_cons (ev_opt rfl hg) (ag_one ac_dv) as_nil)) rfl rfl ?_
 iterate 3 refine z ?_
 refine yQ rfl (fun c1 => ?_) fun c1 => ?_
 ·skip
  iterate 6 refine z ?_
  grind [isKey]
 ·skip
  iterate 27 refine z ?_
  grind [isKey]
theorem ok_spec_IsKey {k : KeyT}  : PFn Try.prog 40 [.agg [(.dv [] (.int .i64 (k.1))), (.dv [] (.int .i64 (k.2.1))), (.dv [] (.str (k.2.2)))]] (.one (.dv [] (.bool (isKey k)))) := by
 refine ⟨fn_intro Try.func40 rfl Try.ntmps40 Try.results40 rfl (fun C => ?_)⟩
 refine yF 0 0 rfl rfl fun f0_0 => ?_
 refine yF 0 1 rfl rfl fun f0_1 => ?_
 refine yF 0 2 rfl rfl fun f0_2 => ?_
 iterate 7 refine z ?_
 refine zC Try.call43 ?_ (hf := ok_spec_l1In)
 iterate 3 refine z ?_
 refine o_callG (gd_bool rfl rfl rfl rfl rfl) rfl rfl Try.call43 ok_spec_l1In (fun hg => (as_cons (ev_opt rfl hg) (ag_one ac_dv) (as_cons (ev_int (inR_lit rfl)) (ag_one ac_dv) (as_cons (ev_int (inR_lit rfl)) (ag_one ac_dv) as_nil)))) rfl rfl ?_
 iterate 14 refine z ?_
 refine o_callG (gd_bool rfl rfl rfl rfl rfl) rfl rfl Try.call81 ok_spec_l4Text (fun hg => (as_cons (ev_opt rfl hg) (ag_one ac_dv) as_nil)) rfl rfl ?_
 iterate 15 refine z ?_
 grind [isKey]
theorem ok_impl_isWord {s : Str} {m : Int} {sl : Bool}  : PFn Try.prog 100 [.one (.dv [] (.str (s))), .one (.dv [] (.int .i64 (m))), .one (.dv [] (.bool (sl)))] (.one (.dv [] (.bool (s.data.toList.all (wch sl) && (decide (1 ≤ (s.size : Int)) && decide ((s.size : Int) ≤ m)))))) := by
 refine ⟨fn_intro Try.func100 rfl Try.ntmps100 Try.results100 rfl (fun C => ?_)⟩
 refine ok_fact (x := .tmp 0) (ev_tmp rfl) fun f0 => ?_
 refine ok_fact (x := .tmp 1) (ev_tmp rfl) fun f1 => ?_
 iterate 8 refine z ?_
 refine ok_loop (ι := Nat) (fun zz => ⟨[(0, .one (.dv [] (.str (s)))), (1, .one (.dv [] (.int .i64 (m)))), (2, .one (.dv [] (.bool (sl)))), (7, .one (.dv [] (.int .i64 ((zz : Int)))))], [], []⟩) (fun zz => zz ≤ s.size ∧ (s.data.toList.take zz).all (wch sl) = true) (fun zz => s.size - zz) (0) ?_ (weak_sub ⟨rfl, rfl, rfl, rfl, trivial⟩ trivial trivial rfl) (fun zz hx => ?_)
 ·exact ⟨Nat.zero_le _, rfl⟩
 obtain ⟨k, rfl⟩ : ∃ v, v = zz := ⟨_, rfl⟩
 replace hx : k ≤ s.size ∧ (s.data.toList.take k).all (wch sl) = true := hx
 obtain ⟨hk, hall⟩ := hx
 show Ok _ _ _ _ _ (⟨[(0, .one (.dv [] (.str (s)))), (1, .one (.dv [] (.int .i64 (m)))), (2, .one (.dv [] (.bool (sl)))), (7, .one (.dv [] (.int .i64 ((k : Int)))))], [], []⟩ : St)
 iterate 7 refine z ?_
 refine yQ rfl (fun c1 => ?_) fun c1 => ?_
 ·skip
  have d1 := of_decide_eq_true c1
  iterate 26 refine z ?_
  refine yQ rfl (fun c2 => ?_) fun c2 => ?_
  ·skip
   iterate 10 refine z ?_
   rw [all_no (k := k) (d := 0) (by rw [size_len]; omega) (by have h : (!wch sl (s.data.toList.getD k 0)) = true := c2; simpa using h)]; rfl
  ·skip
   iterate 3 refine z ?_
   refine ok_region ?_
   iterate 4 refine z ?_
   refine ⟨k + 1, ?_, ?_, weak_sub ⟨rfl, rfl, rfl, rfl, trivial⟩ trivial trivial rfl⟩
   ·exact ⟨by omega, take_all (d := 0) hall (by rw [size_len]; omega) (by have h : (!wch sl (s.data.toList.getD k 0)) = false := c2; simpa using h)⟩
   ·omega
 ·skip
  have d1 := of_decide_eq_false c1
  iterate 9 refine z ?_
  refine zC Try.call79 ?_ (hf := ok_impl_InRange)
  iterate 4 refine z ?_
  rw [all_yes hall (by rw [size_len]; omega)]; rfl
theorem ok_impl_IsName {s : Str}  : PFn Try.prog 78 [.one (.dv [] (.str (s)))] (.one (.dv [] (.bool (isName s)))) := by
 refine ⟨fn_intro Try.func78 rfl Try.ntmps78 Try.results78 rfl (fun C => ?_)⟩
 refine ok_fact (x := .tmp 0) (ev_tmp rfl) fun f0 => ?_
 iterate 5 refine z ?_
 refine zC Try.call100 ?_ (hf := ok_impl_isWord)
 iterate 4 refine z ?_
 rfl
theorem ok_spec_IsName {s : Str}  : PFn Try.prog 42 [.one (.dv [] (.str (s)))] (.one (.dv [] (.bool (isName s)))) := by
 refine ⟨fn_intro Try.func42 rfl Try.ntmps42 Try.results42 rfl (fun C => ?_)⟩
 refine ok_fact (x := .tmp 0) (ev_tmp rfl) fun f0 => ?_
 iterate 8 refine z ?_
 refine ok_loop (ι := Nat) (fun zz => ⟨[(0, .one (.dv [] (.str (s)))), (3, .one (.dv [] (.int .i64 ((zz : Int)))))], [], []⟩) (fun zz => zz ≤ s.size ∧ (s.data.toList.take zz).all (wch false) = true) (fun zz => s.size - zz) (0) ?_ (weak_sub ⟨rfl, rfl, trivial⟩ trivial trivial rfl) (fun zz hx => ?_)
 ·exact ⟨Nat.zero_le _, rfl⟩
 obtain ⟨k, rfl⟩ : ∃ v, v = zz := ⟨_, rfl⟩
 replace hx : k ≤ s.size ∧ (s.data.toList.take k).all (wch false) = true := hx
 obtain ⟨hk, hall⟩ := hx
 show Ok _ _ _ _ _ (⟨[(0, .one (.dv [] (.str (s)))), (3, .one (.dv [] (.int .i64 ((k : Int)))))], [], []⟩ : St)
 iterate 7 refine z ?_
 refine yQ rfl (fun c1 => ?_) fun c1 => ?_
 ·skip
  have d1 := of_decide_eq_true c1
  iterate 16 refine z ?_
  refine yQ rfl (fun c2 => ?_) fun c2 => ?_
  ·skip
   iterate 10 refine z ?_
   rw [isName, all_no (k := k) (d := 0) (by rw [size_len]; omega) (by have h := (wch_spec (s.data.toList.getD k 0)).symm.trans c2; simpa using h)]; rfl
  ·skip
   iterate 3 refine z ?_
   refine ok_region ?_
   iterate 4 refine z ?_
   refine ⟨k + 1, ?_, ?_, weak_sub ⟨rfl, rfl, trivial⟩ trivial trivial rfl⟩
   ·exact ⟨by omega, take_all (d := 0) hall (by rw [size_len]; omega) (by have h := (wch_spec (s.data.toList.getD k 0)).symm.trans c2; simpa using h)⟩
   ·omega
 ·skip
  have d1 := of_decide_eq_false c1
  iterate 8 refine z ?_
  refine zC Try.call43 ?_ (hf := ok_spec_l1In)
  iterate 4 refine z ?_
  rw [isName, all_yes hall (by rw [size_len]; omega)]; rfl
end Go.Proofs.Ytmnimdnmedldgaa

namespace Go.Proofs.Ytmnimdnmedldgaa
open Go.RowKit
open Go.Proofs
set_option linter.unusedVariables false
set_option linter.unusedSimpArgs false

theorem bl_total : ∀ (x y : List UInt8), (Op.bytesLess x y || (x == y)) = !Op.bytesLess y x
 | [], [] => rfl
 | [], _ :: _ => rfl
 | _ :: _, [] => rfl
 | a :: x, b :: y => by
  have ih := bl_total x y
  simp only [Op.bytesLess]
  rcases Nat.lt_trichotomy a.toNat b.toNat with h | h | h
  ·have h1 : a < b := h
   have h2 : ¬ b < a := by intro h'; have : b.toNat < a.toNat := h'; omega
   have h3 : ¬ a = b := by rintro rfl; omega
   have h4 : ¬ b = a := fun e => h3 e.symm
   simp [h1, h2, h3, h4]
  ·have e : a = b := UInt8.toNat_inj.1 h
   subst e
   simpa using ih
  ·have h1 : b < a := h
   have h2 : ¬ a < b := by intro h'; have : a.toNat < b.toNat := h'; omega
   have h3 : ¬ a = b := by rintro rfl; omega
   have h4 : ¬ b = a := fun e => h3 e.symm
   simp [h1, h2, h3, h4]
theorem sLe_eq (a b : Str) : (sLt a b || sEq a b) = !sLt b a := bl_total _ _
theorem rall_succ {p : Nat → Bool} {k : Nat} (h : (List.range k).all p = true) (hp : p k = true) : (List.range (k + 1)).all p = true := by
 rw [List.range_succ, List.all_append, h]; simpa using hp
theorem rall_no {p : Nat → Bool} {k n : Nat} (hk : k < n) (hp : p k = false) : (List.range n).all p = false := by
 rw [List.all_eq_false]; exact ⟨k, List.mem_range.2 hk, by simpa using hp⟩
def recBad (r : RecT) (i : Nat) : Bool := (!isName (r.getD (i : Int).toNat default).1 || !(decide ((0 : Int) ≤ (r.getD (i : Int).toNat default).2) && decide ((r.getD (i : Int).toNat default).2 ≤ 1000000000))) ||
 (decide ((0 : Int) < (i : Int)) && (sLt (r.getD (i : Int).toNat default).1 (r.getD ((i : Int) - 1).toNat default).1 || sEq (r.getD (i : Int).toNat default).1 (r.getD ((i : Int) - 1).toNat default).1))
def isRec (r : RecT) : Bool := (List.range r.length).all (fun i => !recBad r i) && decide ((r.length : Int) ≤ 6)
def recBadS (r : RecT) (i : Nat) : Bool := (!isName (r.getD (i : Int).toNat default).1 || !(decide ((0 : Int) ≤ (r.getD (i : Int).toNat default).2) && decide ((r.getD (i : Int).toNat default).2 ≤ 1000000000))) ||
 (decide ((0 : Int) < (i : Int)) && !sLt (r.getD ((i : Int) - 1).toNat default).1 (r.getD (i : Int).toNat default).1)
theorem recBadS_eq (r : RecT) (i : Nat) : recBadS r i = recBad r i := by unfold recBadS recBad; rw [sLe_eq]

theorem ok_impl_IsRecord {r : RecT}  : PFn Try.prog 77 [.agg [(.dv [] (fieldsD (r)))]] (.one (.dv [] (.bool (isRec r)))) := by
 refine ⟨fn_intro Try.func77 rfl Try.ntmps77 Try.results77 rfl (fun C => ?_)⟩
 refine yF 0 0 rfl rfl fun f0_0 => ?_
 iterate 12 refine z ?_
 refine ok_loop (ι := Nat) (fun zz => ⟨[(1, .box 1 0), (6, .one (.dv [] (fieldsD (r)))), (7, .one (.dv [] (.int .i64 ((((r)).length : Int))))), (8, .one (.dv [] (.int .i64 ((zz : Int)))))], [(1, 40, [(.dv [] (fieldsD (r)))])], []⟩) (fun zz => zz ≤ r.length ∧ (List.range zz).all (fun i => !recBad r i) = true) (fun zz => r.length - zz) (0) ?_ (weak_sub ⟨rfl, rfl, rfl, rfl, trivial⟩ ⟨rfl, trivial⟩ trivial rfl) (fun zz hx => ?_)
 ·exact ⟨Nat.zero_le _, rfl⟩
 obtain ⟨k, rfl⟩ : ∃ v, v = zz := ⟨_, rfl⟩
 replace hx : k ≤ r.length ∧ (List.range k).all (fun i => !recBad r i) = true := hx
 obtain ⟨hk, hall⟩ := hx
 show Ok _ _ _ _ _ (⟨[(1, .box 1 0), (6, .one (.dv [] (fieldsD (r)))), (7, .one (.dv [] (.int .i64 ((((r)).length : Int))))), (8, .one (.dv [] (.int .i64 ((k : Int)))))], [(1, 40, [(.dv [] (fieldsD (r)))])], []⟩ : St)
 iterate 3 refine z ?_
 refine ok_seq ?_
 refine yQ rfl (fun c1 => ?_) fun c1 => ?_
 ·skip
  have d1 := of_decide_eq_true c1
  iterate 12 refine z ?_
  refine ok_seq ?_
  refine ok_regionD (oB := [1, 4]) (oK := []) (by kernel_rfl) rfl rfl ?_
  refine zD 0 ?_
  refine zD 1 ?_
  refine d_call 2 rfl (by kernel_rfl) rfl rfl rfl Try.call78 ok_impl_IsName (as_cons (ev_tmp rfl) (ag_one ac_dv) as_nil) rfl rfl rfl rfl ?_
  refine zD 3 ?_
  refine zD 4 ?_
  refine zDG 5 ?_
  refine zDG 6 ?_
  refine d_callG 7 rfl (by kernel_rfl) (gd_bool rfl rfl rfl rfl rfl) rfl rfl Try.call79 ok_impl_InRange (fun hg => (as_cons (ev_opt rfl hg) (ag_one ac_dv) (as_cons (ev_int (inR_lit rfl)) (ag_one ac_dv) (as_cons (ev_int (inR_lit rfl)) (ag_one ac_dv) as_nil)))) rfl rfl ?_
  refine zDG 8 ?_
  refine zD 9 ?_
  refine zD 10 ?_
  refine zDG 11 ?_
  refine zDG 12 ?_
  refine zDG 13 ?_
  refine zDG 14 ?_
  refine zDG 15 ?_
  refine zDG 16 ?_
  refine zDG 17 ?_
  refine zDG 18 ?_
  refine zDG 19 ?_
  refine zDG 20 ?_
  refine zDG 21 ?_
  refine zDG 22 ?_
  refine zDG 23 ?_
  refine zDG 24 ?_
  refine zD 25 ?_
  refine d_done (by kernel_rfl) ?_
  refine z ?_
  refine yQ rfl (fun c2 => ?_) fun c2 => ?_
  ·skip
   iterate 10 refine z ?_
   rw [isRec, rall_no (k := k) (by omega) (by have h : recBad r k = true := c2; simpa using h)]; rfl
  ·skip
   iterate 3 refine z ?_
   refine ok_region ?_
   iterate 3 refine z ?_
   refine ⟨k + 1, ?_, ?_, weak_sub ⟨rfl, rfl, rfl, rfl, trivial⟩ ⟨rfl, trivial⟩ trivial rfl⟩
   ·exact ⟨by omega, rall_succ hall (by have h : recBad r k = false := c2; simpa using h)⟩
   ·omega
 ·skip
  have d1 := of_decide_eq_false c1
  iterate 14 refine z ?_
  obtain rfl : k = r.length := by omega
  rw [isRec, hall]; rfl
theorem ok_spec_IsRecord {r : RecT}  : PFn Try.prog 41 [.agg [(.dv [] (fieldsD (r)))]] (.one (.dv [] (.bool (isRec r)))) := by
 refine ⟨fn_intro Try.func41 rfl Try.ntmps41 Try.results41 rfl (fun C => ?_)⟩
 refine yF 0 0 rfl rfl fun f0_0 => ?_
 iterate 9 refine z ?_
 refine ok_loop (ι := Nat) (fun zz => ⟨[(1, .box 1 0), (3, .one (.dv [] (.int .i64 ((zz : Int)))))], [(1, 40, [(.dv [] (fieldsD (r)))])], []⟩) (fun zz => zz ≤ r.length ∧ (List.range zz).all (fun i => !recBad r i) = true) (fun zz => r.length - zz) (0) ?_ (weak_sub ⟨rfl, rfl, trivial⟩ ⟨rfl, trivial⟩ trivial rfl) (fun zz hx => ?_)
 ·exact ⟨Nat.zero_le _, rfl⟩
 obtain ⟨k, rfl⟩ : ∃ v, v = zz := ⟨_, rfl⟩
 replace hx : k ≤ r.length ∧ (List.range k).all (fun i => !recBad r i) = true := hx
 obtain ⟨hk, hall⟩ := hx
 show Ok _ _ _ _ _ (⟨[(1, .box 1 0), (3, .one (.dv [] (.int .i64 ((k : Int)))))], [(1, 40, [(.dv [] (fieldsD (r)))])], []⟩ : St)
 iterate 8 refine z ?_
 refine yQ rfl (fun c1 => ?_) fun c1 => ?_
 ·skip
  have d1 := of_decide_eq_true c1
  iterate 4 refine z ?_
  refine ok_seq ?_
  refine ok_regionD (oB := [1]) (oK := []) (by kernel_rfl) rfl rfl ?_
  refine zD 0 ?_
  refine zD 1 ?_
  refine zD 2 ?_
  refine zD 3 ?_
  refine zD 4 ?_
  refine zD 5 ?_
  refine d_call 6 rfl (by kernel_rfl) rfl rfl rfl Try.call42 ok_spec_IsName (as_cons (ev_tmp rfl) (ag_one ac_dv) as_nil) rfl rfl rfl rfl ?_
  refine zD 7 ?_
  refine zD 8 ?_
  refine zDG 9 ?_
  refine zDG 10 ?_
  refine zDG 11 ?_
  refine zDG 12 ?_
  refine zDG 13 ?_
  refine zDG 14 ?_
  refine d_callG 15 rfl (by kernel_rfl) (gd_bool rfl rfl rfl rfl rfl) rfl rfl Try.call43 ok_spec_l1In (fun hg => (as_cons (ev_opt rfl hg) (ag_one ac_dv) (as_cons (ev_int (inR_lit rfl)) (ag_one ac_dv) (as_cons (ev_int (inR_lit rfl)) (ag_one ac_dv) as_nil)))) rfl rfl ?_
  refine zDG 16 ?_
  refine zD 17 ?_
  refine zD 18 ?_
  refine zDG 19 ?_
  refine zDG 20 ?_
  refine zDG 21 ?_
  refine zDG 22 ?_
  refine zDG 23 ?_
  refine zDG 24 ?_
  refine zDG 25 ?_
  refine zDG 26 ?_
  refine zDG 27 ?_
  refine zDG 28 ?_
  refine zDG 29 ?_
  refine zDG 30 ?_
  refine zDG 31 ?_
  refine zDG 32 ?_
  refine zDG 33 ?_
  refine zDG 34 ?_
  refine zDG 35 ?_
  refine zDG 36 ?_
  refine zD 37 ?_
  refine d_done (by kernel_rfl) ?_
  refine z ?_
  refine yQ rfl (fun c2 => ?_) fun c2 => ?_
  ·skip
   iterate 10 refine z ?_
   rw [isRec, rall_no (k := k) (by omega) (by have h : recBadS r k = true := c2; rw [recBadS_eq] at h; simpa using h)]; rfl
  ·skip
   iterate 3 refine z ?_
   refine ok_region ?_
   iterate 4 refine z ?_
   refine ⟨k + 1, ?_, ?_, weak_sub ⟨rfl, rfl, trivial⟩ ⟨rfl, trivial⟩ trivial rfl⟩
   ·exact ⟨by omega, rall_succ hall (by have h : recBadS r k = false := c2; rw [recBadS_eq] at h; simpa using h)⟩
   ·omega
 ·skip
  have d1 := of_decide_eq_false c1
  iterate 14 refine z ?_
  obtain rfl : k = r.length := by omega
  rw [isRec, hall]; rfl
end Go.Proofs.Ytmnimdnmedldgaa

namespace Go.Proofs.Ytmnimdnmedldgaa
open Go.RowKit
open Go.Proofs
set_option linter.unusedVariables false
set_option linter.unusedSimpArgs false

def wSum {α : Type} (w : α → Nat) (xs : List α) : Nat := (xs.map w).sum
def wList {α : Type} (w : α → Nat) (xs : List α) : Nat := xs.length + wSum w xs
theorem wSum_app {α : Type} (w : α → Nat) (xs ys : List α) : wSum w (xs ++ ys) = wSum w xs + wSum w ys := by simp [wSum]
theorem wSum_le {α : Type} (w : α → Nat) (xs : List α) (k : Nat) : wSum w (xs.take k) ≤ wSum w xs := by
 have h := wSum_app w (xs.take k) (xs.drop k)
 rw [List.take_append_drop] at h
 omega
theorem wSum_succ {α : Type} [Inhabited α] (w : α → Nat) (xs : List α) (k : Nat) (h : k < xs.length) : wSum w (xs.take (k + 1)) = wSum w (xs.take k) + w (xs.getD (k : Int).toNat default) ∧ wSum w (xs.take (k + 1)) ≤ wSum w xs := by
 refine ⟨?_, wSum_le w xs _⟩
 have : xs.take (k + 1) = xs.take k ++ [xs.getD k default] := by
  rw [List.take_add_one, List.getElem?_eq_getElem h]; simp [List.getD, List.getElem?_eq_getElem h]
 rw [this, wSum_app]
 simp [wSum]
def wKey (x : KeyT) : Nat := (x.2.2).size
def wField (x : FieldT) : Nat := (x.1).size
def wRecord (x : RecT) : Nat := wList wField (x)
def wItem (x : ItemT) : Nat := wKey (x.1) + wRecord (x.2)
def wStore (x : StoreT) : Nat := (x.1).size + wList wItem (x.2.1)
end Go.Proofs.Ytmnimdnmedldgaa

namespace Go.Proofs.Ytmnimdnmedldgaa
open Go.RowKit
open Go.Proofs
set_option linter.unusedVariables false
set_option linter.unusedSimpArgs false

def eqL {α : Type} [Inhabited α] (p : α → α → Bool) (xs ys : List α) : Bool := decide ((xs.length : Int) = (ys.length : Int)) && (List.range xs.length).all (fun i => p (xs.getD (i : Int).toNat default) (ys.getD (i : Int).toNat default))
theorem eqL_len {α : Type} [Inhabited α] {p : α → α → Bool} {xs ys : List α} (h : ¬ (xs.length : Int) = (ys.length : Int)) : eqL p xs ys = false := by simp only [eqL, decide_eq_false h, Bool.false_and]
theorem eqL_no {α : Type} [Inhabited α] {p : α → α → Bool} {xs ys : List α} {k : Nat} (hk : k < xs.length) (h : p (xs.getD (k : Int).toNat default) (ys.getD (k : Int).toNat default) = false) : eqL p xs ys = false := by
 unfold eqL
 rw [rall_no (p := fun i => p (xs.getD (i : Int).toNat default) (ys.getD (i : Int).toNat default)) hk h, Bool.and_false]
theorem eqL_yes {α : Type} [Inhabited α] {p : α → α → Bool} {xs ys : List α} {k : Nat} (hl : (xs.length : Int) = (ys.length : Int)) (h : (List.range k).all (fun i => p (xs.getD (i : Int).toNat default) (ys.getD (i : Int).toNat default)) = true) (hk : k = xs.length) : eqL p xs ys = true := by
 subst hk
 unfold eqL
 rw [h, decide_eq_true hl]; rfl
def eqFld (f g : FieldT) : Bool := sEq f.1 g.1 && decide (f.2 = g.2)
def eqRec (r s : RecT) : Bool := eqL eqFld r s
def eqKeyB (k l : KeyT) : Bool := decide (k.1 = l.1) && (decide (k.2.1 = l.2.1) && sEq k.2.2 l.2.2)
def eqItemB (x y : ItemT) : Bool := eqKeyB x.1 y.1 && eqRec x.2 y.2
def eqStoreB (s t : StoreT) : Bool := (sEq s.1 t.1 && decide (s.2.2 = t.2.2)) && eqL eqItemB s.2.1 t.2.1
theorem ok_slices_Equal_Field {x y : List (FieldT)}  : PFn Try.prog 76 [.one (.dv [] (fieldsD (x))), .one (.dv [] (fieldsD (y)))] (.one (.dv [] (.bool (eqL eqFld x y)))) := by
 refine ⟨fn_intro Try.func76 rfl Try.ntmps76 Try.results76 rfl (fun C => ?_)⟩
 refine ok_fact (x := .tmp 0) (ev_tmp rfl) fun f0 => ?_
 refine ok_fact (x := .tmp 1) (ev_tmp rfl) fun f1 => ?_
 iterate 11 refine z ?_
 refine yQ rfl (fun c1 => ?_) fun c1 => ?_
 ·skip
  have d1 := nd_t c1
  iterate 6 refine z ?_
  exact (eqL_len d1).symm
 ·skip
  have d1 := nd_f c1
  iterate 9 refine z ?_
  refine ok_loop (ι := Nat) (fun zz => ⟨[(0, .one (.dv [] (fieldsD (x)))), (1, .one (.dv [] (fieldsD (y)))), (12, .one (.dv [] (.int .i64 ((((x)).length : Int))))), (13, .one (.dv [] (.int .i64 ((zz : Int)))))], [], []⟩) (fun zz => zz ≤ x.length ∧ (List.range zz).all (fun i => eqFld (x.getD (i : Int).toNat default) (y.getD (i : Int).toNat default)) = true) (fun zz => x.length - zz) (0) ?_ (weak_sub ⟨rfl, rfl, rfl, rfl, trivial⟩ trivial trivial rfl) (fun zz hx => ?_)
  ·exact ⟨Nat.zero_le _, rfl⟩
  obtain ⟨k, rfl⟩ : ∃ v, v = zz := ⟨_, rfl⟩
  replace hx : k ≤ x.length ∧ (List.range k).all (fun i => eqFld (x.getD (i : Int).toNat default) (y.getD (i : Int).toNat default)) = true := hx
  obtain ⟨hk, hall⟩ := hx
  show Ok _ _ _ _ _ (⟨[(0, .one (.dv [] (fieldsD (x)))), (1, .one (.dv [] (fieldsD (y)))), (12, .one (.dv [] (.int .i64 ((((x)).length : Int))))), (13, .one (.dv [] (.int .i64 ((k : Int)))))], [], []⟩ : St)
  iterate 3 refine z ?_
  refine ok_seq ?_
  refine yQ rfl (fun c2 => ?_) fun c2 => ?_
  ·skip
   have d2 := of_decide_eq_true c2
   iterate 8 refine z ?_
   refine ok_seq ?_
   refine ok_regionD (oB := []) (oK := []) (by kernel_rfl) rfl rfl ?_
   refine zD 0 ?_
   refine zD 1 ?_
   refine zD 2 ?_
   refine zD 3 ?_
   refine zD 4 ?_
   refine zD 5 ?_
   refine zD 6 ?_
   refine zD 7 ?_
   refine d_take 8 rfl (by kernel_rfl) rfl rfl (pu_cmpA rfl (ev_tmp rfl) (ev_tmp rfl) rfl rfl Try.eqGuardType91 (neq_Field _ _ _ _)) rfl rfl rfl rfl ?_
   refine d_done (by kernel_rfl) ?_
   refine z ?_
   refine yQ rfl (fun c3 => ?_) fun c3 => ?_
   ·skip
    iterate 10 refine z ?_
    exact (eqL_no (k := k) (by omega) (by have h := c3; grind [eqFld])).symm
   ·skip
    iterate 3 refine z ?_
    refine ok_region ?_
    iterate 3 refine z ?_
    refine ⟨k + 1, ?_, ?_, weak_sub ⟨rfl, rfl, rfl, rfl, trivial⟩ trivial trivial rfl⟩
    ·exact ⟨by omega, rall_succ hall (by have h := c3; grind [eqFld])⟩
    ·omega
  ·skip
   have d2 := of_decide_eq_false c2
   iterate 10 refine z ?_
   exact (eqL_yes d1 hall (by omega)).symm
theorem ok_impl_EqualRecords {x y : RecT}  : PFn Try.prog 36 [.agg [(.dv [] (fieldsD (x)))], .agg [(.dv [] (fieldsD (y)))]] (.one (.dv [] (.bool (eqRec x y)))) := by
 refine ⟨fn_intro Try.func36 rfl Try.ntmps36 Try.results36 rfl (fun C => ?_)⟩
 refine yF 0 0 rfl rfl fun f0_0 => ?_
 refine yF 1 0 rfl rfl fun f1_0 => ?_
 iterate 10 refine z ?_
 refine zC Try.call76 ?_ (hf := ok_slices_Equal_Field)
 iterate 4 refine z ?_
 rfl
end Go.Proofs.Ytmnimdnmedldgaa

namespace Go.Proofs.Ytmnimdnmedldgaa
open Go.RowKit
open Go.Proofs
set_option linter.unusedVariables false
set_option linter.unusedSimpArgs false

def findI {α : Type} (p : α → Bool) : List α → Int → Int
 | [], _ => -1
 | x :: xs, i => if p x then i else findI p xs (i + 1)
theorem findI_skip {α : Type} {p : α → Bool} : ∀ {xs : List α} {k : Nat} {i : Int}, (xs.take k).any p = false → k ≤ xs.length → findI p xs i = findI p (xs.drop k) (i + k)
 | xs, 0, i, _, _ => by simp
 | [], k + 1, i, _, hk => by simp at hk
 | x :: xs, k + 1, i, h, hk => by
  simp only [List.take_succ_cons, List.any_cons, Bool.or_eq_false_iff] at h
  rw [findI, h.1, List.drop_succ_cons]
  simp only [Bool.false_eq_true, if_false]
  rw [findI_skip h.2 (by simpa using hk)]
  congr 1; omega
theorem findI_at {α : Type} {p : α → Bool} {xs : List α} {k : Nat} {d : α} (h : (xs.take k).any p = false) (hk : k < xs.length) (hp : p (xs.getD k d) = true) : findI p xs 0 = (k : Int) := by
 rw [findI_skip h (by omega), List.drop_eq_getElem_cons hk, findI]
 have : p xs[k] = true := by simpa [List.getD, List.getElem?_eq_getElem hk] using hp
 rw [if_pos this]; omega
theorem findI_none {α : Type} {p : α → Bool} {xs : List α} {k : Nat} (h : (xs.take k).any p = false) (hk : k = xs.length) : findI p xs 0 = -1 := by
 rw [findI_skip h (by omega), hk, List.drop_length]; rfl
theorem any_stepI {α : Type} {p : α → Bool} {l : List α} {k : Nat} {d : α} (h : (l.take k).any p = false) (hk : k < l.length) (hp : p (l.getD k d) = false) : (l.take (k + 1)).any p = false := by
 rw [List.take_succ_eq_append_getElem hk, List.any_append, h]
 simp only [List.any_cons, List.any_nil, Bool.or_false, Bool.false_or]
 simpa [List.getD, List.getElem?_eq_getElem hk] using hp
end Go.Proofs.Ytmnimdnmedldgaa

namespace Go.Proofs.Ytmnimdnmedldgaa
open Go.RowKit
open Go.Proofs
set_option linter.unusedVariables false
set_option linter.unusedSimpArgs false
theorem ok_impl_equalItems {x y : ItemT}  : PFn Try.prog 56 [.agg [(.dv [] (.int .i64 (x.1.1))), (.dv [] (.int .i64 (x.1.2.1))), (.dv [] (.str (x.1.2.2))), (.dv [] (fieldsD (x.2)))], .agg [(.dv [] (.int .i64 (y.1.1))), (.dv [] (.int .i64 (y.1.2.1))), (.dv [] (.str (y.1.2.2))), (.dv [] (fieldsD (y.2)))]] (.one (.dv [] (.bool (eqItemB x y)))) := by
 refine ⟨fn_intro Try.func56 rfl Try.ntmps56 Try.results56 rfl (fun C => ?_)⟩
 refine yF 0 0 rfl rfl fun f0_0 => ?_
 refine yF 0 1 rfl rfl fun f0_1 => ?_
 refine yF 0 2 rfl rfl fun f0_2 => ?_
 refine yF 0 3 rfl rfl fun f0_3 => ?_
 refine yF 1 0 rfl rfl fun f1_0 => ?_
 refine yF 1 1 rfl rfl fun f1_1 => ?_
 refine yF 1 2 rfl rfl fun f1_2 => ?_
 refine yF 1 3 rfl rfl fun f1_3 => ?_
 iterate 10 refine z ?_
 refine yO rfl rfl (pu_cmpA rfl (ev_tmp rfl) (ev_tmp rfl) rfl rfl Try.eqGuardType28 (eql_Key _ _ _ _ _ _)) rfl ?_
 iterate 5 refine z ?_
 refine o_callG (gd_bool rfl rfl rfl rfl rfl) rfl rfl Try.call36 ok_impl_EqualRecords (fun hg => (as_cons (ev_opt rfl hg) (ag_agg (ag_cons ac_dv ag_nil)) (as_cons (ev_opt rfl hg) (ag_agg (ag_cons ac_dv ag_nil)) as_nil))) rfl rfl ?_
 iterate 5 refine z ?_
 rfl
theorem ok_slices_EqualFunc_Item {x y : List (ItemT)}  : PFn Try.prog 55 [.one (.dv [] (itemsD (x))), .one (.dv [] (itemsD (y))), .fn 56 []] (.one (.dv [] (.bool (eqL eqItemB x y)))) := by
 refine ⟨fn_intro Try.func55 rfl Try.ntmps55 Try.results55 rfl (fun C => ?_)⟩
 refine ok_fact (x := .tmp 0) (ev_tmp rfl) fun f0 => ?_
 refine ok_fact (x := .tmp 1) (ev_tmp rfl) fun f1 => ?_
 iterate 11 refine z ?_
 refine yQ rfl (fun c1 => ?_) fun c1 => ?_
 ·skip
  have d1 := nd_t c1
  iterate 6 refine z ?_
  exact (eqL_len d1).symm
 ·skip
  have d1 := nd_f c1
  iterate 9 refine z ?_
  refine ok_loop (ι := Nat) (fun zz => ⟨[(1, .one (.dv [] (itemsD (y)))), (2, .fn 56 []), (15, .one (.dv [] (itemsD (x)))), (16, .one (.dv [] (.int .i64 ((((x)).length : Int))))), (17, .one (.dv [] (.int .i64 ((zz : Int)))))], [], []⟩) (fun zz => zz ≤ x.length ∧ (List.range zz).all (fun i => eqItemB (x.getD (i : Int).toNat default) (y.getD (i : Int).toNat default)) = true) (fun zz => x.length - zz) (0) ?_ (weak_sub ⟨rfl, rfl, rfl, rfl, rfl, trivial⟩ trivial trivial rfl) (fun zz hx => ?_)
  ·exact ⟨Nat.zero_le _, rfl⟩
  obtain ⟨k, rfl⟩ : ∃ v, v = zz := ⟨_, rfl⟩
  replace hx : k ≤ x.length ∧ (List.range k).all (fun i => eqItemB (x.getD (i : Int).toNat default) (y.getD (i : Int).toNat default)) = true := hx
  obtain ⟨hk, hall⟩ := hx
  show Ok _ _ _ _ _ (⟨[(1, .one (.dv [] (itemsD (y)))), (2, .fn 56 []), (15, .one (.dv [] (itemsD (x)))), (16, .one (.dv [] (.int .i64 ((((x)).length : Int))))), (17, .one (.dv [] (.int .i64 ((k : Int)))))], [], []⟩ : St)
  iterate 3 refine z ?_
  refine ok_seq ?_
  refine yQ rfl (fun c2 => ?_) fun c2 => ?_
  ·skip
   have d2 := of_decide_eq_true c2
   iterate 24 refine z ?_
   refine o_callV rfl rfl rfl (ev_tmp rfl) Try.call56 ok_impl_equalItems (as_cons (ev_tmp rfl) (ag_agg (ag_cons ac_dv (ag_cons ac_dv (ag_cons ac_dv (ag_cons ac_dv ag_nil))))) (as_cons (ev_tmp rfl) (ag_agg (ag_cons ac_dv (ag_cons ac_dv (ag_cons ac_dv (ag_cons ac_dv ag_nil))))) as_nil)) rfl rfl ?_
   iterate 2 refine z ?_
   refine yQ rfl (fun c3 => ?_) fun c3 => ?_
   ·skip
    iterate 10 refine z ?_
    exact (eqL_no (k := k) (by omega) (by have h := c3; simpa using h)).symm
   ·skip
    iterate 3 refine z ?_
    refine ok_region ?_
    iterate 3 refine z ?_
    refine ⟨k + 1, ?_, ?_, weak_sub ⟨rfl, rfl, rfl, rfl, rfl, trivial⟩ trivial trivial rfl⟩
    ·exact ⟨by omega, rall_succ hall (by have h := c3; simpa using h)⟩
    ·omega
  ·skip
   have d2 := of_decide_eq_false c2
   iterate 10 refine z ?_
   exact (eqL_yes d1 hall (by omega)).symm
theorem ok_impl_EqualStores {x y : StoreT}  : PFn Try.prog 18 [.agg [(.dv [] (.str (x.1))), (.dv [] (itemsD (x.2.1))), (.dv [] (.int .i64 (x.2.2)))], .agg [(.dv [] (.str (y.1))), (.dv [] (itemsD (y.2.1))), (.dv [] (.int .i64 (y.2.2)))]] (.one (.dv [] (.bool (eqStoreB x y)))) := by
 refine ⟨fn_intro Try.func18 rfl Try.ntmps18 Try.results18 rfl (fun C => ?_)⟩
 refine yF 0 0 rfl rfl fun f0_0 => ?_
 refine yF 0 1 rfl rfl fun f0_1 => ?_
 refine yF 0 2 rfl rfl fun f0_2 => ?_
 refine yF 1 0 rfl rfl fun f1_0 => ?_
 refine yF 1 1 rfl rfl fun f1_1 => ?_
 refine yF 1 2 rfl rfl fun f1_2 => ?_
 iterate 23 refine z ?_
 refine o_callG (gd_bool rfl rfl rfl rfl rfl) rfl rfl Try.call55 ok_slices_EqualFunc_Item (fun hg => (as_cons (ev_opt rfl hg) (ag_one ac_dv) (as_cons (ev_opt rfl hg) (ag_one ac_dv) (as_cons ev_func a_fn as_nil)))) rfl rfl ?_
 iterate 5 refine z ?_
 rfl
end Go.Proofs.Ytmnimdnmedldgaa

namespace Go.Proofs.Ytmnimdnmedldgaa
open Go.RowKit
open Go.Proofs
set_option linter.unusedVariables false
set_option linter.unusedSimpArgs false

theorem findI_lt {α : Type} {p : α → Bool} : ∀ (xs : List α) (i : Int), 0 ≤ i → findI p xs i < i + xs.length ∨ findI p xs i = -1
 | [], i, h => .inr rfl
 | x :: xs, i, h => by
  rw [findI]
  split
  ·left; simp; omega
  ·rcases findI_lt (p := p) xs (i + 1) (by omega) with h1 | h1
   ·left; simp only [List.length_cons]; omega
   ·exact .inr h1
theorem item_len (x : ItemT) : x.2.length ≤ wItem x := by unfold wItem wRecord wList; omega
theorem ok_impl_copyRecord {x : RecT} (hb : x.length ≤ 1099511627776) : KFn Try.prog 72 [.agg [(.dv [] (fieldsD (x)))]] (.agg [(.key 3)]) [(3, some (kcOf false (fieldsD (x))))] := by
 refine ⟨fn_intro Try.func72 rfl Try.ntmps72 Try.results72 rfl (fun C => ?_)⟩
 refine yF 0 0 rfl rfl fun f0_0 => ?_
 iterate 5 refine z ?_
 refine o_build0 (k := 3) hT rfl rfl rfl rfl rfl rfl rfl rfl ?_
 iterate 2 refine z ?_
 refine o_appV (k := 3) (cs := (x).flatMap eField) (n := (x).length) hT rfl rfl rfl rfl rfl rfl rfl (ev_tmp rfl) rfl rfl rfl (ev_tmp rfl) (plain_flat (fun _ => rfl) _) (by first | (dsimp only [kcOf]; omega) | omega) (by first | (dsimp only [kcOf]; omega) | omega) (Nat.zero_add _) (rfl) ?_
 simp only [killT, killB, SV.kill, CV.kill, kk, Nat.reduceBEq]
 refine yO rfl rfl (pu_build hT hB rfl rfl rfl (bp_cons (ev_tmp rfl) rfl rfl rfl rfl rfl bp_nil)) rfl ?_
 iterate 2 refine z ?_
 refine ok_weak (σ' := ⟨[(2, .box 2 0)], [(2, 40, [(.key 3)])], [(3, some (kcOf false (fieldsD (x))))]⟩) (weak_sub ⟨rfl, trivial⟩ ⟨rfl, trivial⟩ ⟨rfl, trivial⟩ rfl) ?_
 refine z ?_
 refine fin1 (res_cell hT rfl rfl rfl rfl) ?_
 exact ⟨rfl, rfl⟩
theorem ok_spec_l5Copy {x : RecT} (hb : x.length ≤ 1099511627776) : KFn Try.prog 75 [.agg [(.dv [] (fieldsD (x)))]] (.agg [(.key 3)]) [(3, some (kcOf false (fieldsD (x))))] := by
 refine ⟨fn_intro Try.func75 rfl Try.ntmps75 Try.results75 rfl (fun C => ?_)⟩
 refine yF 0 0 rfl rfl fun f0_0 => ?_
 iterate 5 refine z ?_
 refine o_build0 (k := 3) hT rfl rfl rfl rfl rfl rfl rfl rfl ?_
 iterate 2 refine z ?_
 refine o_appV (k := 3) (cs := (x).flatMap eField) (n := (x).length) hT rfl rfl rfl rfl rfl rfl rfl (ev_tmp rfl) rfl rfl rfl (ev_tmp rfl) (plain_flat (fun _ => rfl) _) (by first | (dsimp only [kcOf]; omega) | omega) (by first | (dsimp only [kcOf]; omega) | omega) (Nat.zero_add _) (rfl) ?_
 simp only [killT, killB, SV.kill, CV.kill, kk, Nat.reduceBEq]
 refine yO rfl rfl (pu_build hT hB rfl rfl rfl (bp_cons (ev_tmp rfl) rfl rfl rfl rfl rfl bp_nil)) rfl ?_
 iterate 2 refine z ?_
 refine ok_weak (σ' := ⟨[(2, .box 2 0)], [(2, 40, [(.key 3)])], [(3, some (kcOf false (fieldsD (x))))]⟩) (weak_sub ⟨rfl, trivial⟩ ⟨rfl, trivial⟩ ⟨rfl, trivial⟩ rfl) ?_
 refine z ?_
 refine fin1 (res_cell hT rfl rfl rfl rfl) ?_
 exact ⟨rfl, rfl⟩
theorem ok_impl_copyItem {x : ItemT} (hb : x.2.length ≤ 1099511627776) : KFn Try.prog 50 [.agg [(.dv [] (.int .i64 (x.1.1))), (.dv [] (.int .i64 (x.1.2.1))), (.dv [] (.str (x.1.2.2))), (.dv [] (fieldsD (x.2)))]] (.agg [(.dv [] (.int .i64 (x.1.1))), (.dv [] (.int .i64 (x.1.2.1))), (.dv [] (.str (x.1.2.2))), (.key 7003)]) [(7003, some (kcOf false (fieldsD (x.2))))] := by
 refine ⟨fn_intro Try.func50 rfl Try.ntmps50 Try.results50 rfl (fun C => ?_)⟩
 refine yF 0 0 rfl rfl fun f0_0 => ?_
 refine yF 0 1 rfl rfl fun f0_1 => ?_
 refine yF 0 2 rfl rfl fun f0_2 => ?_
 refine yF 0 3 rfl rfl fun f0_3 => ?_
 iterate 4 refine z ?_
 refine ok_seq ?_
 refine ok_regionD (oB := [1, 2]) (oK := []) (by kernel_rfl) rfl rfl ?_
 refine zD 0 ?_
 refine zD 1 ?_
 refine zD 2 ?_
 refine zD 3 ?_
 refine d_callK 7000 4 rfl (by kernel_rfl) rfl rfl rfl Try.call72 (ok_impl_copyRecord (by omega)) (as_cons (ev_tmp rfl) (ag_agg (ag_cons ac_dv ag_nil)) as_nil) rfl rfl rfl rfl rfl ?_
 refine d_take 5 rfl (by kernel_rfl) rfl rfl (pu_build hT hB rfl rfl rfl (bp_cons (ev_tmp rfl) rfl rfl rfl rfl rfl (bp_cons (ev_tmp rfl) rfl rfl rfl rfl rfl bp_nil))) rfl rfl rfl rfl ?_
 refine d_last 6 rfl (by kernel_rfl) rfl (by kernel_rfl) (ef_storeBox hT rfl rfl rfl (ev_tmp rfl) (ev_tmp rfl) rfl rfl rfl rfl rfl rfl) (by kernel_rfl) ?_
 refine z ?_
 refine ok_weak (σ' := ⟨[(2, .box 2 0)], [(2, 42, [(.dv [] (.int .i64 (x.1.1))), (.dv [] (.int .i64 (x.1.2.1))), (.dv [] (.str (x.1.2.2))), (.key 7003)])], [(7003, some (kcOf false (fieldsD (x.2))))]⟩) (weak_sub ⟨rfl, trivial⟩ ⟨rfl, trivial⟩ ⟨rfl, trivial⟩ rfl) ?_
 refine z ?_
 refine fin1 (res_cell hT rfl rfl rfl rfl) ?_
 exact ⟨rfl, rfl⟩
theorem ok_spec_l6Item {x : ItemT} (hb : x.2.length ≤ 1099511627776) : KFn Try.prog 44 [.agg [(.dv [] (.int .i64 (x.1.1))), (.dv [] (.int .i64 (x.1.2.1))), (.dv [] (.str (x.1.2.2))), (.dv [] (fieldsD (x.2)))]] (.agg [(.dv [] (.int .i64 (x.1.1))), (.dv [] (.int .i64 (x.1.2.1))), (.dv [] (.str (x.1.2.2))), (.key 7003)]) [(7003, some (kcOf false (fieldsD (x.2))))] := by
 refine ⟨fn_intro Try.func44 rfl Try.ntmps44 Try.results44 rfl (fun C => ?_)⟩
 refine yF 0 0 rfl rfl fun f0_0 => ?_
 refine yF 0 1 rfl rfl fun f0_1 => ?_
 refine yF 0 2 rfl rfl fun f0_2 => ?_
 refine yF 0 3 rfl rfl fun f0_3 => ?_
 iterate 4 refine z ?_
 refine ok_seq ?_
 refine ok_regionD (oB := [1, 2]) (oK := []) (by kernel_rfl) rfl rfl ?_
 refine zD 0 ?_
 refine zD 1 ?_
 refine zD 2 ?_
 refine zD 3 ?_
 refine d_callK 7000 4 rfl (by kernel_rfl) rfl rfl rfl Try.call75 (ok_spec_l5Copy (by omega)) (as_cons (ev_tmp rfl) (ag_agg (ag_cons ac_dv ag_nil)) as_nil) rfl rfl rfl rfl rfl ?_
 refine d_take 5 rfl (by kernel_rfl) rfl rfl (pu_build hT hB rfl rfl rfl (bp_cons (ev_tmp rfl) rfl rfl rfl rfl rfl (bp_cons (ev_tmp rfl) rfl rfl rfl rfl rfl bp_nil))) rfl rfl rfl rfl ?_
 refine d_last 6 rfl (by kernel_rfl) rfl (by kernel_rfl) (ef_storeBox hT rfl rfl rfl (ev_tmp rfl) (ev_tmp rfl) rfl rfl rfl rfl rfl rfl) (by kernel_rfl) ?_
 refine z ?_
 refine ok_weak (σ' := ⟨[(2, .box 2 0)], [(2, 42, [(.dv [] (.int .i64 (x.1.1))), (.dv [] (.int .i64 (x.1.2.1))), (.dv [] (.str (x.1.2.2))), (.key 7003)])], [(7003, some (kcOf false (fieldsD (x.2))))]⟩) (weak_sub ⟨rfl, trivial⟩ ⟨rfl, trivial⟩ ⟨rfl, trivial⟩ rfl) ?_
 refine z ?_
 refine fin1 (res_cell hT rfl rfl rfl rfl) ?_
 exact ⟨rfl, rfl⟩
end Go.Proofs.Ytmnimdnmedldgaa

namespace Go.Proofs.Ytmnimdnmedldgaa
open Go.RowKit
open Go.Proofs
set_option linter.unusedVariables false
set_option linter.unusedSimpArgs false

theorem getD_at {α : Type} [Inhabited α] {xs : List α} {j : Nat} (h : j < xs.length) : xs.getD (j : Int).toNat default = xs[j] := by simp [List.getD, List.getElem?_eq_getElem h]
end Go.Proofs.Ytmnimdnmedldgaa

namespace Go.Proofs.Ytmnimdnmedldgaa
open Go.RowKit
open Go.Proofs
set_option linter.unusedVariables false
set_option linter.unusedSimpArgs false

def sgnI (a b : Int) : Int := if a < b then -1 else if b < a then 1 else 0
def cmpK (a b : KeyT) : Int := if !isKey a || !isKey b then 0 else if ¬ a.1 = b.1 then sgnI a.1 b.1 else if ¬ a.2.1 = b.2.1 then sgnI a.2.1 b.2.1 else sgnS a.2.2 b.2.2
def signB (a b : Bool) : Int := if a then -1 else if b then 1 else 0
theorem sgnI_zero {a b : Int} : sgnI a b = 0 ↔ a = b := by unfold sgnI; split <;> (try split) <;> omega
theorem cmpK_bad {a b : KeyT} (h : (!isKey a || !isKey b) = true) : cmpK a b = 0 := by rw [cmpK, if_pos h]
theorem cmpK_kind {a b : KeyT} (h : (!isKey a || !isKey b) = false) (h1 : ¬ a.1 = b.1) : cmpK a b = sgnI a.1 b.1 := by rw [cmpK, if_neg (by rw [h]; simp), if_pos h1]
theorem cmpK_num {a b : KeyT} (h : (!isKey a || !isKey b) = false) (h1 : a.1 = b.1) (h2 : ¬ a.2.1 = b.2.1) : cmpK a b = sgnI a.2.1 b.2.1 := by rw [cmpK, if_neg (by rw [h]; simp), if_neg (by simp [h1]), if_pos h2]
theorem cmpK_text {a b : KeyT} (h : (!isKey a || !isKey b) = false) (h1 : a.1 = b.1) (h2 : a.2.1 = b.2.1) : cmpK a b = sgnS a.2.2 b.2.2 := by rw [cmpK, if_neg (by rw [h]; simp), if_neg (by simp [h1]), if_neg (by simp [h2])]
theorem sLe_not (a b : Str) : (!(sLt a b || sEq a b)) = sLt b a := by rw [sLe_eq, Bool.not_not]
theorem sgnI_swap (a b : Int) : sgnI a b = - sgnI b a := by unfold sgnI; split <;> split <;> (try split) <;> omega
theorem sgnS_swap (a b : Str) : sgnS a b = - sgnS b a := by
 unfold sgnS
 cases h1 : sLt a b <;> cases h2 : sLt b a <;> simp
 have h := sLe_eq a b
 rw [h1, h2] at h
 simp at h
theorem cmpK_swap (a b : KeyT) : cmpK a b = - cmpK b a := by
 by_cases h : (!isKey a || !isKey b) = true
 ·rw [cmpK_bad h, cmpK_bad (by rw [Bool.or_comm]; exact h)]; rfl
 ·have h : (!isKey a || !isKey b) = false := by simpa using h
  have h' : (!isKey b || !isKey a) = false := by rw [Bool.or_comm]; exact h
  by_cases h1 : a.1 = b.1
  ·by_cases h2 : a.2.1 = b.2.1
   ·rw [cmpK_text h h1 h2, cmpK_text h' h1.symm h2.symm, sgnS_swap]
   ·rw [cmpK_num h h1 h2, cmpK_num h' h1.symm (fun e => h2 e.symm), sgnI_swap]
  ·rw [cmpK_kind h h1, cmpK_kind h' (fun e => h1 e.symm), sgnI_swap]
theorem ok_spec_l4Sign {x y : Bool}  : PFn Try.prog 67 [.one (.dv [] (.bool (x))), .one (.dv [] (.bool (y)))] (.one (.dv [] (.int .i64 (signB x y)))) := by
 refine ⟨fn_intro Try.func67 rfl Try.ntmps67 Try.results67 rfl (fun C => ?_)⟩
 iterate 7 refine z ?_
 refine yQ rfl (fun c1 => ?_) fun c1 => ?_
 ·skip
  iterate 6 refine z ?_
  rw [signB, if_pos c1]
 ·skip
  iterate 6 refine z ?_
  refine yQ rfl (fun c2 => ?_) fun c2 => ?_
  ·skip
   iterate 6 refine z ?_
   rw [signB, if_neg (by rw [c1]; simp), if_pos c2]
  ·skip
   iterate 7 refine z ?_
   rw [signB, if_neg (by rw [c1]; simp), if_neg (by rw [c2]; simp)]
theorem ok_impl_compareInts {x y : Int}  : PFn Try.prog 89 [.one (.dv [] (.int .i64 (x))), .one (.dv [] (.int .i64 (y)))] (.one (.dv [] (.int .i64 (sgnI x y)))) := by
 refine ⟨fn_intro Try.func89 rfl Try.ntmps89 Try.results89 rfl (fun C => ?_)⟩
 refine ok_fact (x := .tmp 0) (ev_tmp rfl) fun f0 => ?_
 refine ok_fact (x := .tmp 1) (ev_tmp rfl) fun f1 => ?_
 iterate 11 refine z ?_
 refine yQ rfl (fun c1 => ?_) fun c1 => ?_
 ·skip
  have d1 := of_decide_eq_true c1
  iterate 7 refine z ?_
  rw [sgnI, if_pos d1]
 ·skip
  have d1 := of_decide_eq_false c1
  iterate 6 refine z ?_
  refine yQ rfl (fun c2 => ?_) fun c2 => ?_
  ·skip
   have d2 := of_decide_eq_true c2
   iterate 7 refine z ?_
   rw [sgnI, if_neg d1, if_pos d2]
  ·skip
   have d2 := of_decide_eq_false c2
   iterate 8 refine z ?_
   rw [sgnI, if_neg d1, if_neg d2]
theorem ok_impl_CompareKeys {x y : KeyT}  : PFn Try.prog 48 [.agg [(.dv [] (.int .i64 (x.1))), (.dv [] (.int .i64 (x.2.1))), (.dv [] (.str (x.2.2)))], .agg [(.dv [] (.int .i64 (y.1))), (.dv [] (.int .i64 (y.2.1))), (.dv [] (.str (y.2.2)))]] (.one (.dv [] (.int .i64 (cmpK x y)))) := by
 refine ⟨fn_intro Try.func48 rfl Try.ntmps48 Try.results48 rfl (fun C => ?_)⟩
 refine yF 0 0 rfl rfl fun f0_0 => ?_
 refine yF 0 1 rfl rfl fun f0_1 => ?_
 refine yF 0 2 rfl rfl fun f0_2 => ?_
 refine yF 1 0 rfl rfl fun f1_0 => ?_
 refine yF 1 1 rfl rfl fun f1_1 => ?_
 refine yF 1 2 rfl rfl fun f1_2 => ?_
 iterate 8 refine z ?_
 refine zC Try.call71 ?_ (hf := ok_impl_IsKey)
 iterate 3 refine z ?_
 refine o_callG (gd_bool rfl rfl rfl rfl rfl) rfl rfl Try.call71 ok_impl_IsKey (fun hg => (as_cons (ev_opt rfl hg) (ag_agg (ag_cons ac_dv (ag_cons ac_dv (ag_cons ac_dv ag_nil)))) as_nil)) rfl rfl ?_
 iterate 3 refine z ?_
 refine yQ rfl (fun c1 => ?_) fun c1 => ?_
 ·skip
  iterate 6 refine z ?_
  rw [cmpK_bad c1]
 ·skip
  iterate 8 refine z ?_
  refine zC Try.call89 ?_ (hf := ok_impl_compareInts)
  iterate 6 refine z ?_
  refine yQ rfl (fun c2 => ?_) fun c2 => ?_
  ·skip
   have d2 := nd_t c2
   iterate 7 refine z ?_
   rw [cmpK_kind c1 (fun e => d2 (sgnI_zero.2 e))]
  ·skip
   have d2 := nd_f c2
   iterate 8 refine z ?_
   refine zC Try.call89 ?_ (hf := ok_impl_compareInts)
   iterate 6 refine z ?_
   refine yQ rfl (fun c3 => ?_) fun c3 => ?_
   ·skip
    have d3 := nd_t c3
    iterate 7 refine z ?_
    rw [cmpK_num c1 (sgnI_zero.1 d2) (fun e => d3 (sgnI_zero.2 e))]
   ·skip
    have d3 := nd_f c3
    iterate 7 refine z ?_
    refine zC Try.call90 ?_ (hf := ok_strings_Compare)
    iterate 4 refine z ?_
    rw [cmpK_text c1 (sgnI_zero.1 d2) (sgnI_zero.1 d3)]
theorem ok_spec_CompareKeys {x y : KeyT}  : PFn Try.prog 27 [.agg [(.dv [] (.int .i64 (x.1))), (.dv [] (.int .i64 (x.2.1))), (.dv [] (.str (x.2.2)))], .agg [(.dv [] (.int .i64 (y.1))), (.dv [] (.int .i64 (y.2.1))), (.dv [] (.str (y.2.2)))]] (.one (.dv [] (.int .i64 (cmpK x y)))) := by
 refine ⟨fn_intro Try.func27 rfl Try.ntmps27 Try.results27 rfl (fun C => ?_)⟩
 refine yF 0 0 rfl rfl fun f0_0 => ?_
 refine yF 0 1 rfl rfl fun f0_1 => ?_
 refine yF 0 2 rfl rfl fun f0_2 => ?_
 refine yF 1 0 rfl rfl fun f1_0 => ?_
 refine yF 1 1 rfl rfl fun f1_1 => ?_
 refine yF 1 2 rfl rfl fun f1_2 => ?_
 iterate 8 refine z ?_
 refine zC Try.call40 ?_ (hf := ok_spec_IsKey)
 iterate 3 refine z ?_
 refine o_callG (gd_bool rfl rfl rfl rfl rfl) rfl rfl Try.call40 ok_spec_IsKey (fun hg => (as_cons (ev_opt rfl hg) (ag_agg (ag_cons ac_dv (ag_cons ac_dv (ag_cons ac_dv ag_nil)))) as_nil)) rfl rfl ?_
 iterate 3 refine z ?_
 refine yQ rfl (fun c1 => ?_) fun c1 => ?_
 ·skip
  iterate 6 refine z ?_
  rw [cmpK_bad c1]
 ·skip
  iterate 10 refine z ?_
  refine yQ rfl (fun c2 => ?_) fun c2 => ?_
  ·skip
   have d2 := nd_t c2
   iterate 6 refine z ?_
   refine zC Try.call67 ?_ (hf := ok_spec_l4Sign)
   iterate 5 refine z ?_
   rw [cmpK_kind c1 d2]; unfold signB sgnI; split <;> split <;> simp_all <;> omega
  ·skip
   have d2 := nd_f c2
   iterate 10 refine z ?_
   refine yQ rfl (fun c3 => ?_) fun c3 => ?_
   ·skip
    have d3 := nd_t c3
    iterate 6 refine z ?_
    refine zC Try.call67 ?_ (hf := ok_spec_l4Sign)
    iterate 5 refine z ?_
    rw [cmpK_num c1 d2 d3]; unfold signB sgnI; split <;> split <;> simp_all <;> omega
   ·skip
    have d3 := nd_f c3
    iterate 13 refine z ?_
    refine zC Try.call67 ?_ (hf := ok_spec_l4Sign)
    iterate 4 refine z ?_
    rw [cmpK_text c1 d2 d3, sLe_not]; unfold signB sgnS; rfl
end Go.Proofs.Ytmnimdnmedldgaa

namespace Go.Proofs.Ytmnimdnmedldgaa
open Go.RowKit
open Go.Proofs
set_option linter.unusedVariables false
set_option linter.unusedSimpArgs false

def insI (o : List ItemT) (j : Nat) (y : ItemT) : List ItemT := o.take j ++ [y] ++ o.drop j
theorem insI_len {o : List ItemT} {j : Nat} {y : ItemT} : (insI o j y).length = o.length + 1 := by simp only [insI, List.length_append, List.length_take, List.length_drop, List.length_singleton]; omega
theorem take_flat {α : Type} {enc : α → List DV} {sz : Nat} (hs : ∀ x, (enc x).length = sz) : ∀ (n : Nat) (xs : List α), (xs.flatMap enc).take (n * sz) = (xs.take n).flatMap enc ∧ (xs.flatMap enc).drop (n * sz) = (xs.drop n).flatMap enc
 | 0, xs => by simp
 | n + 1, [] => by simp
 | n + 1, x :: xs => by
  obtain ⟨h1, h2⟩ := take_flat hs n xs
  rw [List.flatMap_cons, Nat.add_mul, Nat.one_mul, Nat.add_comm (n * sz) sz, ← hs x, List.take_length_add_append, List.take_succ_cons, List.flatMap_cons, hs x, h1, List.drop_succ_cons, ← h2]
  exact ⟨rfl, by rw [← hs x, List.drop_length_add_append]⟩
theorem insL_items {o : List ItemT} {j : Nat} {y : ItemT} : insL (o.flatMap eItem) (((j : Nat) : Int).toNat * 4) (eItem y) = (insI o j y).flatMap eItem := by
 obtain ⟨h1, h2⟩ := take_flat (enc := eItem) (sz := 4) (fun _ => rfl) j o
 rw [insL, Int.toNat_natCast, h1, h2, insI, List.flatMap_append, List.flatMap_append, List.flatMap_cons, List.flatMap_nil, List.append_nil]
theorem sub_lo {o : List ItemT} {j : Nat} : ([] : List DV) ++ sub (0 * 4) ((((j : Nat) : Int).toNat - 0) * 4) (o.flatMap eItem) = (o.take j).flatMap eItem := by
 obtain ⟨h1, h2⟩ := take_flat (enc := eItem) (sz := 4) (fun _ => rfl) j o
 rw [Int.toNat_natCast, Nat.sub_zero, Nat.zero_mul, sub, List.drop_zero, List.nil_append, h1]
theorem holed_lo {o : List ItemT} {j : Nat} : holed (o.flatMap eItem) (0 * 4) ((((j : Nat) : Int).toNat - 0) * 4) = List.replicate (j * 4) .hole ++ (o.drop j).flatMap eItem := by
 obtain ⟨h1, h2⟩ := take_flat (enc := eItem) (sz := 4) (fun _ => rfl) j o
 rw [Int.toNat_natCast, Nat.sub_zero, Nat.zero_mul, holed, List.drop_zero, h2]; rfl
theorem sub_hi {o : List ItemT} {j : Nat} {el : ItemT} (hj : j ≤ o.length) : (o.take j ++ [el]).flatMap eItem ++ sub (((j : Nat) : Int).toNat * 4) ((o.length - ((j : Nat) : Int).toNat) * 4) (List.replicate (j * 4) .hole ++ (o.drop j).flatMap eItem) = (insI o j el).flatMap eItem := by
 have hl : ((o.drop j).flatMap eItem).length = (o.length - j) * 4 := by
  have : ∀ l : List ItemT, (l.flatMap eItem).length = l.length * 4 := fun l => by
   induction l with
   | nil => rfl
   | cons x l ih => rw [List.flatMap_cons, List.length_append, ih, List.length_cons]; show 4 + l.length * 4 = (l.length + 1) * 4; omega
  rw [this, List.length_drop]
 have e : (List.replicate (j * 4) DV.hole ++ (o.drop j).flatMap eItem).drop (j * 4) = (o.drop j).flatMap eItem := by
  have h := List.drop_left (l₁ := List.replicate (j * 4) DV.hole) (l₂ := (o.drop j).flatMap eItem)
  rwa [List.length_replicate] at h
 rw [Int.toNat_natCast, sub, e, List.take_of_length_le (l := (o.drop j).flatMap eItem) (by rw [hl]; exact Nat.le_refl _)]
 simp only [insI, List.flatMap_append]

end Go.Proofs.Ytmnimdnmedldgaa

namespace Go.Proofs.Ytmnimdnmedldgaa
open Go.RowKit
open Go.Proofs
set_option linter.unusedVariables false
set_option linter.unusedSimpArgs false

theorem insI_w {o : List ItemT} {j : Nat} {y : ItemT} : wSum wItem (insI o j y) = wSum wItem o + wItem y := by
 have h : wSum wItem (o.take j ++ o.drop j) = wSum wItem o := by rw [List.take_append_drop]
 simp only [wSum, insI, List.map_append, List.sum_append, List.map_cons, List.map_nil, List.sum_cons, List.sum_nil] at h ⊢
 omega
end Go.Proofs.Ytmnimdnmedldgaa

namespace Go.Proofs.Ytmnimdnmedldgaa
open Go.RowKit
open Go.Proofs
set_option linter.unusedVariables false
set_option linter.unusedSimpArgs false

def stoBad (s : StoreT) (i : Nat) : Bool := (!isKey (s.2.1.getD (i : Int).toNat default).1 || !isRec (s.2.1.getD (i : Int).toNat default).2) ||
 (decide ((0 : Int) < (i : Int)) && decide (0 ≤ cmpK (s.2.1.getD ((i : Int) - 1).toNat default).1 (s.2.1.getD (i : Int).toNat default).1))
def isSto (s : StoreT) : Bool := (List.range s.2.1.length).all (fun i => !stoBad s i) && (isName s.1 && decide ((s.2.1.length : Int) ≤ 16) && (decide ((0 : Int) ≤ s.2.2) && decide (s.2.2 ≤ 1000000)))
def kEq (a b : KeyT) : Bool := decide (a.1 = b.1) && (decide (a.2.1 = b.2.1) && sEq a.2.2 b.2.2)
def fndK (x : StoreT) (k : KeyT) : Int := findI (fun y : ItemT => kEq y.1 k) x.2.1 0
theorem take_cs1 {xs : List ItemT} {k : Nat} (hk : k < xs.length) : (xs.take k).flatMap eItem ++ eItem (xs.getD (k : Int).toNat default) = (xs.take (k + 1)).flatMap eItem ∧ (xs.take k).length + 1 = (xs.take (k + 1)).length := by
 have e : xs.getD (k : Int).toNat default = xs[k] := by simp [List.getD, List.getElem?_eq_getElem hk]
 rw [List.take_add_one, List.getElem?_eq_getElem hk, e]
 simp only [Option.toList_some, List.flatMap_append, List.flatMap_cons, List.flatMap_nil, List.append_nil, List.length_append, List.length_singleton]
 exact ⟨trivial, trivial⟩

theorem ok_impl_IsStore {s : StoreT}  : PFn Try.prog 37 [.agg [(.dv [] (.str (s.1))), (.dv [] (itemsD (s.2.1))), (.dv [] (.int .i64 (s.2.2)))]] (.one (.dv [] (.bool (isSto s)))) := by
 refine ⟨fn_intro Try.func37 rfl Try.ntmps37 Try.results37 rfl (fun C => ?_)⟩
 refine yF 0 0 rfl rfl fun f0_0 => ?_
 refine yF 0 1 rfl rfl fun f0_1 => ?_
 refine yF 0 2 rfl rfl fun f0_2 => ?_
 iterate 12 refine z ?_
 refine ok_loop (ι := Nat) (fun zz => ⟨[(1, .box 1 0), (6, .one (.dv [] (itemsD (s.2.1)))), (7, .one (.dv [] (.int .i64 ((((s.2.1)).length : Int))))), (8, .one (.dv [] (.int .i64 ((zz : Int)))))], [(1, 26, [(.dv [] (.str (s.1))), (.dv [] (itemsD (s.2.1))), (.dv [] (.int .i64 (s.2.2)))])], []⟩) (fun zz => zz ≤ s.2.1.length ∧ (List.range zz).all (fun i => !stoBad s i) = true) (fun zz => s.2.1.length - zz) (0) ?_ (weak_sub ⟨rfl, rfl, rfl, rfl, trivial⟩ ⟨rfl, trivial⟩ trivial rfl) (fun zz hx => ?_)
 ·exact ⟨Nat.zero_le _, rfl⟩
 obtain ⟨k, rfl⟩ : ∃ v, v = zz := ⟨_, rfl⟩
 replace hx : k ≤ s.2.1.length ∧ (List.range k).all (fun i => !stoBad s i) = true := hx
 obtain ⟨hk, hall⟩ := hx
 show Ok _ _ _ _ _ (⟨[(1, .box 1 0), (6, .one (.dv [] (itemsD (s.2.1)))), (7, .one (.dv [] (.int .i64 ((((s.2.1)).length : Int))))), (8, .one (.dv [] (.int .i64 ((k : Int)))))], [(1, 26, [(.dv [] (.str (s.1))), (.dv [] (itemsD (s.2.1))), (.dv [] (.int .i64 (s.2.2)))])], []⟩ : St)
 iterate 3 refine z ?_
 refine ok_seq ?_
 refine yQ rfl (fun c1 => ?_) fun c1 => ?_
 ·skip
  have d1 := of_decide_eq_true c1
  iterate 12 refine z ?_
  refine ok_seq ?_
  refine ok_regionD (oB := [1, 4]) (oK := []) (by kernel_rfl) rfl rfl ?_
  refine zD 0 ?_
  refine zD 1 ?_
  refine d_call 2 rfl (by kernel_rfl) rfl rfl rfl Try.call71 ok_impl_IsKey (as_cons (ev_tmp rfl) (ag_agg (ag_cons ac_dv (ag_cons ac_dv (ag_cons ac_dv ag_nil)))) as_nil) rfl rfl rfl rfl ?_
  refine zD 3 ?_
  refine zD 4 ?_
  refine zDG 5 ?_
  refine zDG 6 ?_
  refine d_callG 7 rfl (by kernel_rfl) (gd_bool rfl rfl rfl rfl rfl) rfl rfl Try.call77 ok_impl_IsRecord (fun hg => (as_cons (ev_opt rfl hg) (ag_agg (ag_cons ac_dv ag_nil)) as_nil)) rfl rfl ?_
  refine zDG 8 ?_
  refine zD 9 ?_
  refine zD 10 ?_
  refine zDG 11 ?_
  refine zDG 12 ?_
  refine zDG 13 ?_
  refine zDG 14 ?_
  refine zDG 15 ?_
  refine zDG 16 ?_
  refine zDG 17 ?_
  refine zDG 18 ?_
  refine zDG 19 ?_
  refine zDG 20 ?_
  refine zDG 21 ?_
  refine zDG 22 ?_
  refine d_callG 23 rfl (by kernel_rfl) (gd_opt rfl rfl rfl rfl rfl) rfl rfl Try.call48 ok_impl_CompareKeys (fun hg => (as_cons (ev_opt rfl hg) (ag_agg (ag_cons ac_dv (ag_cons ac_dv (ag_cons ac_dv ag_nil)))) (as_cons (ev_opt rfl hg) (ag_agg (ag_cons ac_dv (ag_cons ac_dv (ag_cons ac_dv ag_nil)))) as_nil))) rfl rfl ?_
  refine zDG 24 ?_
  refine zDG 25 ?_
  refine zD 26 ?_
  refine d_done (by kernel_rfl) ?_
  refine z ?_
  refine yQ rfl (fun c2 => ?_) fun c2 => ?_
  ·skip
   iterate 10 refine z ?_
   rw [isSto, rall_no (k := k) (by omega) (by have h : stoBad s k = true := c2; simpa using h)]; rfl
  ·skip
   iterate 3 refine z ?_
   refine ok_region ?_
   iterate 3 refine z ?_
   refine ⟨k + 1, ?_, ?_, weak_sub ⟨rfl, rfl, rfl, rfl, trivial⟩ ⟨rfl, trivial⟩ trivial rfl⟩
   ·exact ⟨by omega, rall_succ hall (by have h : stoBad s k = false := c2; simpa using h)⟩
   ·omega
 ·skip
  have d1 := of_decide_eq_false c1
  iterate 8 refine z ?_
  refine zC Try.call78 ?_ (hf := ok_impl_IsName)
  iterate 9 refine z ?_
  refine o_callG (gd_bool rfl rfl rfl rfl rfl) rfl rfl Try.call79 ok_impl_InRange (fun hg => (as_cons (ev_opt rfl hg) (ag_one ac_dv) (as_cons (ev_int (inR_lit rfl)) (ag_one ac_dv) (as_cons (ev_int (inR_lit rfl)) (ag_one ac_dv) as_nil)))) rfl rfl ?_
  iterate 5 refine z ?_
  obtain rfl : k = s.2.1.length := by omega
  rw [isSto, hall]; rfl
theorem ok_spec_IsStore {s : StoreT}  : PFn Try.prog 9 [.agg [(.dv [] (.str (s.1))), (.dv [] (itemsD (s.2.1))), (.dv [] (.int .i64 (s.2.2)))]] (.one (.dv [] (.bool (isSto s)))) := by
 refine ⟨fn_intro Try.func9 rfl Try.ntmps9 Try.results9 rfl (fun C => ?_)⟩
 refine yF 0 0 rfl rfl fun f0_0 => ?_
 refine yF 0 1 rfl rfl fun f0_1 => ?_
 refine yF 0 2 rfl rfl fun f0_2 => ?_
 iterate 9 refine z ?_
 refine ok_loop (ι := Nat) (fun zz => ⟨[(1, .box 1 0), (3, .one (.dv [] (.int .i64 ((zz : Int)))))], [(1, 26, [(.dv [] (.str (s.1))), (.dv [] (itemsD (s.2.1))), (.dv [] (.int .i64 (s.2.2)))])], []⟩) (fun zz => zz ≤ s.2.1.length ∧ (List.range zz).all (fun i => !stoBad s i) = true) (fun zz => s.2.1.length - zz) (0) ?_ (weak_sub ⟨rfl, rfl, trivial⟩ ⟨rfl, trivial⟩ trivial rfl) (fun zz hx => ?_)
 ·exact ⟨Nat.zero_le _, rfl⟩
 obtain ⟨k, rfl⟩ : ∃ v, v = zz := ⟨_, rfl⟩
 replace hx : k ≤ s.2.1.length ∧ (List.range k).all (fun i => !stoBad s i) = true := hx
 obtain ⟨hk, hall⟩ := hx
 show Ok _ _ _ _ _ (⟨[(1, .box 1 0), (3, .one (.dv [] (.int .i64 ((k : Int)))))], [(1, 26, [(.dv [] (.str (s.1))), (.dv [] (itemsD (s.2.1))), (.dv [] (.int .i64 (s.2.2)))])], []⟩ : St)
 iterate 8 refine z ?_
 refine yQ rfl (fun c1 => ?_) fun c1 => ?_
 ·skip
  have d1 := of_decide_eq_true c1
  iterate 4 refine z ?_
  refine ok_seq ?_
  refine ok_regionD (oB := [1]) (oK := []) (by kernel_rfl) rfl rfl ?_
  refine zD 0 ?_
  refine zD 1 ?_
  refine zD 2 ?_
  refine zD 3 ?_
  refine zD 4 ?_
  refine zD 5 ?_
  refine d_call 6 rfl (by kernel_rfl) rfl rfl rfl Try.call40 ok_spec_IsKey (as_cons (ev_tmp rfl) (ag_agg (ag_cons ac_dv (ag_cons ac_dv (ag_cons ac_dv ag_nil)))) as_nil) rfl rfl rfl rfl ?_
  refine zD 7 ?_
  refine zD 8 ?_
  refine zDG 9 ?_
  refine zDG 10 ?_
  refine zDG 11 ?_
  refine zDG 12 ?_
  refine zDG 13 ?_
  refine zDG 14 ?_
  refine d_callG 15 rfl (by kernel_rfl) (gd_bool rfl rfl rfl rfl rfl) rfl rfl Try.call41 ok_spec_IsRecord (fun hg => (as_cons (ev_opt rfl hg) (ag_agg (ag_cons ac_dv ag_nil)) as_nil)) rfl rfl ?_
  refine zDG 16 ?_
  refine zD 17 ?_
  refine zD 18 ?_
  refine zDG 19 ?_
  refine zDG 20 ?_
  refine zDG 21 ?_
  refine zDG 22 ?_
  refine zDG 23 ?_
  refine zDG 24 ?_
  refine zDG 25 ?_
  refine zDG 26 ?_
  refine zDG 27 ?_
  refine zDG 28 ?_
  refine zDG 29 ?_
  refine zDG 30 ?_
  refine zDG 31 ?_
  refine zDG 32 ?_
  refine zDG 33 ?_
  refine zDG 34 ?_
  refine d_callG 35 rfl (by kernel_rfl) (gd_opt rfl rfl rfl rfl rfl) rfl rfl Try.call27 ok_spec_CompareKeys (fun hg => (as_cons (ev_opt rfl hg) (ag_agg (ag_cons ac_dv (ag_cons ac_dv (ag_cons ac_dv ag_nil)))) (as_cons (ev_opt rfl hg) (ag_agg (ag_cons ac_dv (ag_cons ac_dv (ag_cons ac_dv ag_nil)))) as_nil))) rfl rfl ?_
  refine zDG 36 ?_
  refine zDG 37 ?_
  refine zD 38 ?_
  refine d_done (by kernel_rfl) ?_
  refine z ?_
  refine yQ rfl (fun c2 => ?_) fun c2 => ?_
  ·skip
   iterate 10 refine z ?_
   rw [isSto, rall_no (k := k) (by omega) (by have h : stoBad s k = true := c2; simpa using h)]; rfl
  ·skip
   iterate 3 refine z ?_
   refine ok_region ?_
   iterate 4 refine z ?_
   refine ⟨k + 1, ?_, ?_, weak_sub ⟨rfl, rfl, trivial⟩ ⟨rfl, trivial⟩ trivial rfl⟩
   ·exact ⟨by omega, rall_succ hall (by have h : stoBad s k = false := c2; simpa using h)⟩
   ·omega
 ·skip
  have d1 := of_decide_eq_false c1
  iterate 8 refine z ?_
  refine zC Try.call42 ?_ (hf := ok_spec_IsName)
  iterate 9 refine z ?_
  refine o_callG (gd_bool rfl rfl rfl rfl rfl) rfl rfl Try.call43 ok_spec_l1In (fun hg => (as_cons (ev_opt rfl hg) (ag_one ac_dv) (as_cons (ev_int (inR_lit rfl)) (ag_one ac_dv) (as_cons (ev_int (inR_lit rfl)) (ag_one ac_dv) as_nil)))) rfl rfl ?_
  iterate 5 refine z ?_
  obtain rfl : k = s.2.1.length := by omega
  rw [isSto, hall]; rfl
theorem ok_impl_FindItem_1 {y : ItemT} {k : KeyT}  : PFn Try.prog 58 [.agg [(.dv [] (.int .i64 (y.1.1))), (.dv [] (.int .i64 (y.1.2.1))), (.dv [] (.str (y.1.2.2))), (.dv [] (fieldsD (y.2)))], .ref [] [.int .i64 (k.1), .int .i64 (k.2.1), .str (k.2.2)]] (.one (.dv [] (.bool (kEq y.1 k)))) := by
 refine ⟨fn_intro Try.func58 rfl Try.ntmps58 Try.results58 rfl (fun C => ?_)⟩
 refine yF 0 0 rfl rfl fun f0_0 => ?_
 refine yF 0 1 rfl rfl fun f0_1 => ?_
 refine yF 0 2 rfl rfl fun f0_2 => ?_
 refine yF 0 3 rfl rfl fun f0_3 => ?_
 iterate 8 refine z ?_
 refine yO rfl rfl (pu_cmpA rfl (ev_tmp rfl) (ev_tmp rfl) rfl rfl Try.eqGuardType28 (eql_Key _ _ _ _ _ _)) rfl ?_
 iterate 4 refine z ?_
 rfl
theorem ok_slices_IndexFunc_Item {x : List ItemT} {k : KeyT}  : PFn Try.prog 57 [.one (.dv [] (itemsD (x))), .fn 58 [[.int .i64 (k.1), .int .i64 (k.2.1), .str (k.2.2)]]] (.one (.dv [] (.int .i64 (findI (fun y : ItemT => kEq y.1 k) x 0)))) := by
 refine ⟨fn_intro Try.func57 rfl Try.ntmps57 Try.results57 rfl (fun C => ?_)⟩
 refine ok_fact (x := .tmp 0) (ev_tmp rfl) fun f0 => ?_
 iterate 10 refine z ?_
 refine ok_loop (ι := Nat) (fun zz => ⟨[(0, .one (.dv [] (itemsD (x)))), (1, .fn 58 [[.int .i64 (k.1), .int .i64 (k.2.1), .str (k.2.2)]]), (7, .one (.dv [] (.int .i64 ((((x)).length : Int))))), (8, .one (.dv [] (.int .i64 ((zz : Int)))))], [], []⟩) (fun zz => zz ≤ x.length ∧ (x.take zz).any (fun y : ItemT => kEq y.1 k) = false) (fun zz => x.length - zz) (0) ?_ (weak_sub ⟨rfl, rfl, rfl, rfl, trivial⟩ trivial trivial rfl) (fun zz hx => ?_)
 ·exact ⟨Nat.zero_le _, rfl⟩
 obtain ⟨n, rfl⟩ : ∃ v, v = zz := ⟨_, rfl⟩
 replace hx : n ≤ x.length ∧ (x.take n).any (fun y : ItemT => kEq y.1 k) = false := hx
 obtain ⟨hk, hall⟩ := hx
 show Ok _ _ _ _ _ (⟨[(0, .one (.dv [] (itemsD (x)))), (1, .fn 58 [[.int .i64 (k.1), .int .i64 (k.2.1), .str (k.2.2)]]), (7, .one (.dv [] (.int .i64 ((((x)).length : Int))))), (8, .one (.dv [] (.int .i64 ((n : Int)))))], [], []⟩ : St)
 iterate 3 refine z ?_
 refine ok_seq ?_
 refine yQ rfl (fun c1 => ?_) fun c1 => ?_
 ·skip
  have d1 := of_decide_eq_true c1
  iterate 14 refine z ?_
  refine o_callV rfl rfl rfl (ev_tmp rfl) Try.call58 ok_impl_FindItem_1 (as_cons (ev_tmp rfl) (ag_agg (ag_cons ac_dv (ag_cons ac_dv (ag_cons ac_dv (ag_cons ac_dv ag_nil))))) as_nil) rfl rfl ?_
  refine z ?_
  refine yQ rfl (fun c2 => ?_) fun c2 => ?_
  ·skip
   iterate 11 refine z ?_
   exact (findI_at (p := fun y : ItemT => kEq y.1 k) (d := default) hall (by omega) c2).symm
  ·skip
   iterate 3 refine z ?_
   refine ok_region ?_
   iterate 3 refine z ?_
   refine ⟨n + 1, ?_, ?_, weak_sub ⟨rfl, rfl, rfl, rfl, trivial⟩ trivial trivial rfl⟩
   ·exact ⟨by omega, any_stepI (d := default) hall (by omega) c2⟩
   ·omega
 ·skip
  have d1 := of_decide_eq_false c1
  iterate 10 refine z ?_
  exact (findI_none (p := fun y : ItemT => kEq y.1 k) hall (by omega)).symm
theorem ok_impl_FindItem {x : StoreT} {k : KeyT}  : PFn Try.prog 20 [.agg [(.dv [] (.str (x.1))), (.dv [] (itemsD (x.2.1))), (.dv [] (.int .i64 (x.2.2)))], .agg [(.dv [] (.int .i64 (k.1))), (.dv [] (.int .i64 (k.2.1))), (.dv [] (.str (k.2.2)))]] (.one (.dv [] (.int .i64 (fndK x k)))) := by
 refine ⟨fn_intro Try.func20 rfl Try.ntmps20 Try.results20 rfl (fun C => ?_)⟩
 refine yF 0 0 rfl rfl fun f0_0 => ?_
 refine yF 0 1 rfl rfl fun f0_1 => ?_
 refine yF 0 2 rfl rfl fun f0_2 => ?_
 refine yF 1 0 rfl rfl fun f1_0 => ?_
 refine yF 1 1 rfl rfl fun f1_1 => ?_
 refine yF 1 2 rfl rfl fun f1_2 => ?_
 iterate 8 refine z ?_
 refine yO rfl rfl (pu_clo1 rfl (ev_tmp rfl)) rfl ?_
 refine o_call rfl rfl rfl Try.call57 ok_slices_IndexFunc_Item (as_cons (ev_tmp rfl) (ag_one ac_dv) (as_cons (ev_tmp rfl) (a_clo (clo_cons rfl rfl clo_nil)) as_nil)) rfl rfl ?_
 iterate 4 refine z ?_
 rfl
theorem ok_spec_FindItem {x : StoreT} {k : KeyT}  : PFn Try.prog 74 [.agg [(.dv [] (.str (x.1))), (.dv [] (itemsD (x.2.1))), (.dv [] (.int .i64 (x.2.2)))], .agg [(.dv [] (.int .i64 (k.1))), (.dv [] (.int .i64 (k.2.1))), (.dv [] (.str (k.2.2)))]] (.one (.dv [] (.int .i64 (fndK x k)))) := by
 refine ⟨fn_intro Try.func74 rfl Try.ntmps74 Try.results74 rfl (fun C => ?_)⟩
 refine yF 0 0 rfl rfl fun f0_0 => ?_
 refine yF 0 1 rfl rfl fun f0_1 => ?_
 refine yF 0 2 rfl rfl fun f0_2 => ?_
 refine yF 1 0 rfl rfl fun f1_0 => ?_
 refine yF 1 1 rfl rfl fun f1_1 => ?_
 refine yF 1 2 rfl rfl fun f1_2 => ?_
 iterate 10 refine z ?_
 refine ok_loop (ι := Nat) (fun zz => ⟨[(2, .box 2 0), (3, .box 3 0), (5, .one (.dv [] (.int .i64 ((zz : Int)))))], [(2, 26, [(.dv [] (.str (x.1))), (.dv [] (itemsD (x.2.1))), (.dv [] (.int .i64 (x.2.2)))]), (3, 28, [(.dv [] (.int .i64 (k.1))), (.dv [] (.int .i64 (k.2.1))), (.dv [] (.str (k.2.2)))])], []⟩) (fun zz => zz ≤ x.2.1.length ∧ (x.2.1.take zz).any (fun y : ItemT => kEq y.1 k) = false) (fun zz => x.2.1.length - zz) (0) ?_ (weak_sub ⟨rfl, rfl, rfl, trivial⟩ ⟨rfl, rfl, trivial⟩ trivial rfl) (fun zz hx => ?_)
 ·exact ⟨Nat.zero_le _, rfl⟩
 obtain ⟨n, rfl⟩ : ∃ v, v = zz := ⟨_, rfl⟩
 replace hx : n ≤ x.2.1.length ∧ (x.2.1.take n).any (fun y : ItemT => kEq y.1 k) = false := hx
 obtain ⟨hk, hall⟩ := hx
 show Ok _ _ _ _ _ (⟨[(2, .box 2 0), (3, .box 3 0), (5, .one (.dv [] (.int .i64 ((n : Int)))))], [(2, 26, [(.dv [] (.str (x.1))), (.dv [] (itemsD (x.2.1))), (.dv [] (.int .i64 (x.2.2)))]), (3, 28, [(.dv [] (.int .i64 (k.1))), (.dv [] (.int .i64 (k.2.1))), (.dv [] (.str (k.2.2)))])], []⟩ : St)
 iterate 8 refine z ?_
 refine yQ rfl (fun c1 => ?_) fun c1 => ?_
 ·skip
  have d1 := of_decide_eq_true c1
  iterate 4 refine z ?_
  refine ok_seq ?_
  refine ok_regionD (oB := [2, 3]) (oK := []) (by kernel_rfl) rfl rfl ?_
  refine zD 0 ?_
  refine zD 1 ?_
  refine zD 2 ?_
  refine zD 3 ?_
  refine zD 4 ?_
  refine zD 5 ?_
  refine zD 6 ?_
  refine d_take 7 rfl (by kernel_rfl) rfl rfl (pu_cmpA rfl (ev_tmp rfl) (ev_tmp rfl) rfl rfl Try.eqGuardType28 (eql_Key _ _ _ _ _ _)) rfl rfl rfl rfl ?_
  refine d_done (by kernel_rfl) ?_
  refine z ?_
  refine yQ rfl (fun c2 => ?_) fun c2 => ?_
  ·skip
   iterate 11 refine z ?_
   exact (findI_at (p := fun y : ItemT => kEq y.1 k) (d := default) hall (by omega) c2).symm
  ·skip
   iterate 3 refine z ?_
   refine ok_region ?_
   iterate 4 refine z ?_
   refine ⟨n + 1, ?_, ?_, weak_sub ⟨rfl, rfl, rfl, trivial⟩ ⟨rfl, rfl, trivial⟩ trivial rfl⟩
   ·exact ⟨by omega, any_stepI (d := default) hall (by omega) c2⟩
   ·omega
 ·skip
  have d1 := of_decide_eq_false c1
  iterate 10 refine z ?_
  exact (findI_none (p := fun y : ItemT => kEq y.1 k) hall (by omega)).symm
theorem ok_impl_copyStore {x : StoreT} (hb : wStore x ≤ 1099511627776) : KFn Try.prog 52 [.agg [(.dv [] (.str (x.1))), (.dv [] (itemsD (x.2.1))), (.dv [] (.int .i64 (x.2.2)))]] (.agg [(.dv [] (.str (x.1))), (.key 30), (.dv [] (.int .i64 (x.2.2)))]) [(30, some (kcOf false (itemsD (x.2.1))))] := by
 refine ⟨fn_intro Try.func52 rfl Try.ntmps52 Try.results52 rfl (fun C => ?_)⟩
 refine yF 0 0 rfl rfl fun f0_0 => ?_
 refine yF 0 1 rfl rfl fun f0_1 => ?_
 refine yF 0 2 rfl rfl fun f0_2 => ?_
 iterate 9 refine z ?_
 refine yO rfl rfl (pu_build hT hB rfl rfl rfl (bp_cons (ev_tmp rfl) rfl rfl rfl rfl rfl (bp_cons (ev_tmp rfl) rfl rfl rfl rfl rfl bp_nil))) rfl ?_
 iterate 3 refine z ?_
 refine ok_seq ?_
 refine ok_seq ?_
 refine ok_weak (weak_nilB 30 (b := 3) (i := 1) (e := 42) (sz := 4) rfl rfl rfl rfl rfl) ?_
 simp only [killT, killB, SV.kill, CV.kill, kk, Nat.reduceBEq]
 refine ok_region ?_
 iterate 6 refine z ?_
 refine ok_loop (ι := Nat) (fun zz => ⟨[(2, .box 2 0), (3, .box 3 0), (12, .one (.dv [] (itemsD (x.2.1)))), (13, .one (.dv [] (.int .i64 ((((x.2.1)).length : Int))))), (14, .one (.dv [] (.int .i64 ((zz : Int)))))], [(2, 26, [(.dv [] (.str (ByteArray.empty))), .nil, (.dv [] (.int .i64 (0)))]), (3, 26, [(.dv [] (.str (x.1))), (.key 30), (.dv [] (.int .i64 (x.2.2)))])], [(30, some (kcOf false (.sl 42 4 ((x.2.1.take zz).length) ((x.2.1.take zz).flatMap eItem))))]⟩) (fun zz => zz ≤ x.2.1.length) (fun zz => x.2.1.length - zz) (0) ?_ (weak_sub ⟨rfl, rfl, rfl, rfl, rfl, trivial⟩ ⟨rfl, rfl, trivial⟩ ⟨rfl, trivial⟩ rfl) (fun zz hx => ?_)
 ·exact Nat.zero_le _
 obtain ⟨k, rfl⟩ : ∃ v, v = zz := ⟨_, rfl⟩
 replace hx : k ≤ x.2.1.length := hx
 have hw := fun h => wSum_succ wItem x.2.1 k h
 show Ok _ _ _ _ _ (⟨[(2, .box 2 0), (3, .box 3 0), (12, .one (.dv [] (itemsD (x.2.1)))), (13, .one (.dv [] (.int .i64 ((((x.2.1)).length : Int))))), (14, .one (.dv [] (.int .i64 ((k : Int)))))], [(2, 26, [(.dv [] (.str (ByteArray.empty))), .nil, (.dv [] (.int .i64 (0)))]), (3, 26, [(.dv [] (.str (x.1))), (.key 30), (.dv [] (.int .i64 (x.2.2)))])], [(30, some (kcOf false (.sl 42 4 ((x.2.1.take k).length) ((x.2.1.take k).flatMap eItem))))]⟩ : St)
 iterate 3 refine z ?_
 refine ok_seq ?_
 refine yQ rfl (fun c1 => ?_) fun c1 => ?_
 ·skip
  have d1 := of_decide_eq_true c1
  have hk2 : k < x.2.1.length := by omega
  have hlen : x.2.1.length ≤ 1099511627776 := by have h3 : wStore x = x.1.size + (x.2.1.length + wSum wItem x.2.1) := rfl; omega
  have hrec : wItem (x.2.1.getD (k : Int).toNat default) ≤ 1099511627776 := by have := hw hk2; have h3 : wStore x = x.1.size + (x.2.1.length + wSum wItem x.2.1) := rfl; omega
  iterate 10 refine z ?_
  refine ok_regionH [0, 1, 2, 3, 4] (oB := [2, 3, 5]) (oK := [30]) (by kernel_rfl) rfl rfl ?_
  refine zD 0 ?_
  refine zD 1 ?_
  refine zD 2 ?_
  refine d_callK 21000 3 rfl (by kernel_rfl) rfl rfl rfl Try.call50 (ok_impl_copyItem (by first | omega | exact Nat.le_trans (item_len _) hrec | exact Nat.le_trans (item_len _) (Nat.le_trans hrec (by decide)))) (as_cons (ev_tmp rfl) (ag_agg (ag_cons ac_dv (ag_cons ac_dv (ag_cons ac_dv (ag_cons ac_dv ag_nil))))) as_nil) rfl rfl rfl rfl rfl ?_
  refine d_build1 (k := 22) (js := [28003]) 4 hT rfl (by kernel_rfl) rfl rfl rfl rfl rfl rfl rfl rfl rfl (ev_tmp rfl) rfl rfl (ow_cons' (ow_dv rfl) (ow_cons' (ow_dv rfl) (ow_cons' (ow_dv rfl) (ow_cons' (ow_key rfl) ow_nil rfl) rfl) rfl) rfl) (by decide) (by decide) rfl rfl (by decide) ?_
  simp only [killT, killB, SV.kill, CV.kill, kk, Nat.reduceBEq]
  refine d_chain [5, 6, 7] rfl rfl (by kernel_rfl) ?_
  refine o_appK (k := 30) (j := 22) (cs := (x.2.1.take (k + 1)).flatMap eItem) (n := (x.2.1.take (k + 1)).length) hT rfl rfl rfl rfl rfl rfl rfl (ev_tmp rfl) rfl rfl rfl (ev_tmp rfl) rfl rfl (by decide) (by dsimp only [kcOf]; simp only [List.length_take]; omega) (by dsimp only [kcOf]; simp only [List.length_take]; omega) ((take_cs1 hk2).2) ((take_cs1 hk2).1) ?_
  simp only [killT, killB, SV.kill, CV.kill, kk, Nat.reduceBEq]
  iterate 2 refine z ?_
  refine ops_nil ?_
  iterate 2 refine z ?_
  refine ok_region ?_
  iterate 3 refine z ?_
  refine ⟨k + 1, ?_, ?_, weak_sub ⟨rfl, rfl, rfl, rfl, rfl, trivial⟩ ⟨rfl, rfl, trivial⟩ ⟨rfl, trivial⟩ rfl⟩
  ·omega
  ·omega
 ·skip
  have d1 := of_decide_eq_false c1
  iterate 9 refine z ?_
  refine ok_weak (σ' := ⟨[(2, .box 2 0)], [(2, 26, [(.dv [] (.str (x.1))), (.key 30), (.dv [] (.int .i64 (x.2.2)))])], [(30, some (kcOf false (itemsD (x.2.1))))]⟩) (weak_sub ⟨rfl, trivial⟩ ⟨rfl, trivial⟩ ⟨(congrArg (fun l : List ItemT => some (some (KC.mk false 42 4 l.length (l.flatMap eItem)))) (List.take_of_length_le (by omega))), trivial⟩ rfl) ?_
  refine z ?_
  refine fin1 (res_cell hT rfl rfl rfl rfl) ?_
  exact ⟨rfl, rfl⟩
theorem ok_spec_l6Copy {x : StoreT} (hb : wStore x ≤ 1099511627776) : KFn Try.prog 73 [.agg [(.dv [] (.str (x.1))), (.dv [] (itemsD (x.2.1))), (.dv [] (.int .i64 (x.2.2)))]] (.agg [(.dv [] (.str (x.1))), (.key 30), (.dv [] (.int .i64 (x.2.2)))]) [(30, some (kcOf false (itemsD (x.2.1))))] := by
 refine ⟨fn_intro Try.func73 rfl Try.ntmps73 Try.results73 rfl (fun C => ?_)⟩
 refine yF 0 0 rfl rfl fun f0_0 => ?_
 refine yF 0 1 rfl rfl fun f0_1 => ?_
 refine yF 0 2 rfl rfl fun f0_2 => ?_
 iterate 9 refine z ?_
 refine yO rfl rfl (pu_build hT hB rfl rfl rfl (bp_cons (ev_tmp rfl) rfl rfl rfl rfl rfl (bp_cons (ev_tmp rfl) rfl rfl rfl rfl rfl bp_nil))) rfl ?_
 iterate 3 refine z ?_
 refine ok_seq ?_
 refine ok_seq ?_
 refine ok_weak (weak_nilB 30 (b := 3) (i := 1) (e := 42) (sz := 4) rfl rfl rfl rfl rfl) ?_
 simp only [killT, killB, SV.kill, CV.kill, kk, Nat.reduceBEq]
 refine ok_region ?_
 iterate 3 refine z ?_
 refine ok_loop (ι := Nat) (fun zz => ⟨[(1, .box 1 0), (2, .box 2 0), (3, .box 3 0), (4, .one (.dv [] (.int .i64 ((zz : Int)))))], [(1, 26, [(.dv [] (.str (x.1))), (.dv [] (itemsD (x.2.1))), (.dv [] (.int .i64 (x.2.2)))]), (2, 26, [(.dv [] (.str (ByteArray.empty))), .nil, (.dv [] (.int .i64 (0)))]), (3, 26, [(.dv [] (.str (x.1))), (.key 30), (.dv [] (.int .i64 (x.2.2)))])], [(30, some (kcOf false (.sl 42 4 ((x.2.1.take zz).length) ((x.2.1.take zz).flatMap eItem))))]⟩) (fun zz => zz ≤ x.2.1.length) (fun zz => x.2.1.length - zz) (0) ?_ (weak_sub ⟨rfl, rfl, rfl, rfl, trivial⟩ ⟨rfl, rfl, rfl, trivial⟩ ⟨rfl, trivial⟩ rfl) (fun zz hx => ?_)
 ·exact Nat.zero_le _
 obtain ⟨k, rfl⟩ : ∃ v, v = zz := ⟨_, rfl⟩
 replace hx : k ≤ x.2.1.length := hx
 have hw := fun h => wSum_succ wItem x.2.1 k h
 show Ok _ _ _ _ _ (⟨[(1, .box 1 0), (2, .box 2 0), (3, .box 3 0), (4, .one (.dv [] (.int .i64 ((k : Int)))))], [(1, 26, [(.dv [] (.str (x.1))), (.dv [] (itemsD (x.2.1))), (.dv [] (.int .i64 (x.2.2)))]), (2, 26, [(.dv [] (.str (ByteArray.empty))), .nil, (.dv [] (.int .i64 (0)))]), (3, 26, [(.dv [] (.str (x.1))), (.key 30), (.dv [] (.int .i64 (x.2.2)))])], [(30, some (kcOf false (.sl 42 4 ((x.2.1.take k).length) ((x.2.1.take k).flatMap eItem))))]⟩ : St)
 iterate 8 refine z ?_
 refine yQ rfl (fun c1 => ?_) fun c1 => ?_
 ·skip
  have d1 := of_decide_eq_true c1
  have hk2 : k < x.2.1.length := by omega
  have hlen : x.2.1.length ≤ 1099511627776 := by have h3 : wStore x = x.1.size + (x.2.1.length + wSum wItem x.2.1) := rfl; omega
  have hrec : wItem (x.2.1.getD (k : Int).toNat default) ≤ 1099511627776 := by have := hw hk2; have h3 : wStore x = x.1.size + (x.2.1.length + wSum wItem x.2.1) := rfl; omega
  iterate 4 refine z ?_
  refine ok_regionH [0, 1, 2, 3, 4, 5, 6, 7, 8] (oB := [1, 2, 3]) (oK := [30]) (by kernel_rfl) rfl rfl ?_
  refine zD 0 ?_
  refine zD 1 ?_
  refine zD 2 ?_
  refine zD 3 ?_
  refine zD 4 ?_
  refine zD 5 ?_
  refine zD 6 ?_
  refine d_callK 24000 7 rfl (by kernel_rfl) rfl rfl rfl Try.call44 (ok_spec_l6Item (by first | omega | exact Nat.le_trans (item_len _) hrec | exact Nat.le_trans (item_len _) (Nat.le_trans hrec (by decide)))) (as_cons (ev_tmp rfl) (ag_agg (ag_cons ac_dv (ag_cons ac_dv (ag_cons ac_dv (ag_cons ac_dv ag_nil))))) as_nil) rfl rfl rfl rfl rfl ?_
  refine d_build1 (k := 25) (js := [31003]) 8 hT rfl (by kernel_rfl) rfl rfl rfl rfl rfl rfl rfl rfl rfl (ev_tmp rfl) rfl rfl (ow_cons' (ow_dv rfl) (ow_cons' (ow_dv rfl) (ow_cons' (ow_dv rfl) (ow_cons' (ow_key rfl) ow_nil rfl) rfl) rfl) rfl) (by decide) (by decide) rfl rfl (by decide) ?_
  simp only [killT, killB, SV.kill, CV.kill, kk, Nat.reduceBEq]
  refine d_chain [9, 10, 11] rfl rfl (by kernel_rfl) ?_
  refine o_appK (k := 30) (j := 25) (cs := (x.2.1.take (k + 1)).flatMap eItem) (n := (x.2.1.take (k + 1)).length) hT rfl rfl rfl rfl rfl rfl rfl (ev_tmp rfl) rfl rfl rfl (ev_tmp rfl) rfl rfl (by decide) (by dsimp only [kcOf]; simp only [List.length_take]; omega) (by dsimp only [kcOf]; simp only [List.length_take]; omega) ((take_cs1 hk2).2) ((take_cs1 hk2).1) ?_
  simp only [killT, killB, SV.kill, CV.kill, kk, Nat.reduceBEq]
  iterate 2 refine z ?_
  refine ops_nil ?_
  iterate 2 refine z ?_
  refine ok_region ?_
  iterate 4 refine z ?_
  refine ⟨k + 1, ?_, ?_, weak_sub ⟨rfl, rfl, rfl, rfl, trivial⟩ ⟨rfl, rfl, rfl, trivial⟩ ⟨rfl, trivial⟩ rfl⟩
  ·omega
  ·omega
 ·skip
  have d1 := of_decide_eq_false c1
  iterate 9 refine z ?_
  refine ok_weak (σ' := ⟨[(2, .box 2 0)], [(2, 26, [(.dv [] (.str (x.1))), (.key 30), (.dv [] (.int .i64 (x.2.2)))])], [(30, some (kcOf false (itemsD (x.2.1))))]⟩) (weak_sub ⟨rfl, trivial⟩ ⟨rfl, trivial⟩ ⟨(congrArg (fun l : List ItemT => some (some (KC.mk false 42 4 l.length (l.flatMap eItem)))) (List.take_of_length_le (by omega))), trivial⟩ rfl) ?_
  refine z ?_
  refine fin1 (res_cell hT rfl rfl rfl rfl) ?_
  exact ⟨rfl, rfl⟩
end Go.Proofs.Ytmnimdnmedldgaa

namespace Go.Proofs.Ytmnimdnmedldgaa
open Go.RowKit
open Go.Proofs
set_option linter.unusedVariables false
set_option linter.unusedSimpArgs false

def posK (k : KeyT) : List ItemT → Nat
 | [] => 0
 | y :: ys => if cmpK y.1 k < 0 then posK k ys + 1 else 0
def setI (l : List ItemT) (i : Nat) (r : RecT) : List ItemT := l.set i ((l.getD i default).1, r)
def autoP (x : StoreT) (k : KeyT) : Int := if decide (k.1 = 1) && (decide (x.2.2 + 1 ≤ k.2.1) && decide (k.2.1 ≤ 1000000)) then k.2.1 else x.2.2
def putN (x : StoreT) (k : KeyT) (r : RecT) : StoreT × Bool :=
 if !isSto x || !isKey k || !isRec r then (x, false)
 else if 0 ≤ fndK x k then ((x.1, setI x.2.1 (fndK x k).toNat r, x.2.2), true)
 else if 16 ≤ x.2.1.length then (x, false)
 else ((x.1, insI x.2.1 (posK k x.2.1) (k, r), autoP x k), true)
theorem fndK_lt {x : StoreT} {k : KeyT} (h : 0 ≤ fndK x k) : fndK x k < x.2.1.length := by
 rcases findI_lt (p := fun y : ItemT => kEq y.1 k) x.2.1 0 (by omega) with h1 | h1
 ·unfold fndK; omega
 ·unfold fndK at h; omega
theorem put_bad {x : StoreT} {k : KeyT} {r : RecT} (h : (!isSto x || !isKey k) = true) : putN x k r = (x, false) := by
 rw [putN, if_pos (by rw [h]; rfl)]
theorem setI_len {l : List ItemT} {i : Nat} {r : RecT} : (setI l i r).length = l.length := by simp [setI]
theorem len4 (l : List ItemT) : (l.flatMap eItem).length = l.length * 4 := by
 induction l with
 | nil => rfl
 | cons x l ih => rw [List.flatMap_cons, List.length_append, ih, List.length_cons]; show 4 + l.length * 4 = (l.length + 1) * 4; omega
theorem drop_cons {l : List ItemT} {j : Nat} (h : j < l.length) : l.drop j = l.getD j default :: l.drop (j + 1) := by
 rw [List.drop_eq_getElem_cons h]
 simp [List.getD, List.getElem?_eq_getElem h]
theorem posK_step {k : KeyT} {l : List ItemT} {j : Nat} (hp : posK k l = j + posK k (l.drop j)) (h : (decide ((j : Int) < (l.length : Int)) && decide (cmpK (l.getD (j : Int).toNat default).1 k < 0)) = true) : j < l.length ∧ posK k l = (j + 1) + posK k (l.drop (j + 1)) := by
 obtain ⟨h1, h2⟩ := (Bool.and_eq_true _ _ ▸ h : _ ∧ _)
 have h1 := of_decide_eq_true h1
 have h2 := of_decide_eq_true h2
 rw [Int.toNat_natCast] at h2
 have h3 : j < l.length := by omega
 refine ⟨h3, ?_⟩
 rw [hp, drop_cons h3, posK, if_pos h2]
 omega
theorem posK_stop {k : KeyT} {l : List ItemT} {j : Nat} (hj : j ≤ l.length) (hp : posK k l = j + posK k (l.drop j)) (h : (decide ((j : Int) < (l.length : Int)) && decide (cmpK (l.getD (j : Int).toNat default).1 k < 0)) = false) : posK k l = j := by
 rcases Nat.lt_or_ge j l.length with h3 | h3
 ·rw [decide_eq_true (by omega : (j : Int) < (l.length : Int)), Bool.true_and] at h
  have h2 := of_decide_eq_false h
  rw [Int.toNat_natCast] at h2
  rw [hp, drop_cons h3, posK, if_neg h2]
  omega
 ·rw [hp, List.drop_eq_nil_of_le h3, posK]; omega
theorem setR_set {l : List ItemT} {i : Nat} {r : RecT} (hi : i < l.length) : setR (i * 4 + 3) [fieldsD r] (l.flatMap eItem) = (setI l i r).flatMap eItem := by
 obtain ⟨h1, h2⟩ := take_flat (enc := eItem) (sz := 4) (fun _ => rfl) i l
 have e : l.flatMap eItem = (l.take i).flatMap eItem ++ (eItem (l.getD i default) ++ (l.drop (i + 1)).flatMap eItem) := by
  rw [← List.flatMap_cons, ← drop_cons hi, ← List.flatMap_append, List.take_append_drop]
 have e2 : (setI l i r).flatMap eItem = (l.take i).flatMap eItem ++ (eItem ((l.getD i default).1, r) ++ (l.drop (i + 1)).flatMap eItem) := by
  rw [setI, List.set_eq_take_append_cons_drop, if_pos hi, List.flatMap_append, List.flatMap_cons]
 have hl : ((l.take i).flatMap eItem).length = i * 4 := by rw [len4, List.length_take]; omega
 rw [e, e2]
 exact setR_mid (pre := (l.take i).flatMap eItem) (B := eItem (l.getD i default)) (B' := eItem ((l.getD i default).1, r)) (post := (l.drop (i + 1)).flatMap eItem) (m := i * 4) (off := i * 4 + 3) (j := 3) hl rfl rfl (Nat.le_refl _)
def relP (p : Option KeyT) (k : KeyT) : Bool := match p with | none => true | some q => decide (cmpK q k < 0)
def okL : Option KeyT → List ItemT → Bool
 | _, [] => true
 | p, y :: ys => isKey y.1 && isRec y.2 && relP p y.1 && okL (some y.1) ys
def badP (p : Option KeyT) (l : List ItemT) (i : Nat) : Bool := (!isKey (l.getD i default).1 || !isRec (l.getD i default).2) || !(relP (if i = 0 then p else some (l.getD (i - 1) default).1) (l.getD i default).1)
theorem okL_eq : ∀ (l : List ItemT) (p : Option KeyT), okL p l = (List.range l.length).all (fun i => !badP p l i)
 | [], _ => rfl
 | y :: ys, p => by
  rw [okL, okL_eq ys (some y.1), List.length_cons, List.range_succ_eq_map, List.all_cons, List.all_map]
  congr 1
  ·simp [badP]
  ·congr 1
   funext i
   cases i with
   | zero => simp [badP]
   | succ i => simp [badP]
theorem isSto_eq (s : StoreT) : isSto s = (okL none s.2.1 && (isName s.1 && decide ((s.2.1.length : Int) ≤ 16) && (decide ((0 : Int) ≤ s.2.2) && decide (s.2.2 ≤ 1000000)))) := by
 rw [isSto, okL_eq]
 congr 2
 funext i
 cases i with
 | zero => simp [stoBad, badP, relP]
 | succ i =>
  have e : (((i + 1 : Nat) : Int) - 1).toNat = i := by omega
  have e2 : (((i + 1 : Nat) : Int)).toNat = i + 1 := by omega
  have e3 : decide ((0 : Int) < ((i + 1 : Nat) : Int)) = true := decide_eq_true (by omega)
  simp only [stoBad, badP, relP, e, e2, e3, Bool.true_and, Nat.succ_ne_zero, if_false, Nat.add_sub_cancel]
  congr 2
  by_cases h : cmpK (s.2.1.getD i default).1 (s.2.1.getD (i + 1) default).1 < 0
  ·rw [decide_eq_true h, decide_eq_false (by omega)]; rfl
  ·rw [decide_eq_false h, decide_eq_true (by omega)]; rfl
theorem sgnS_zero {a b : Str} (h : sgnS a b = 0) : sEq a b = true := by
 have e := sLe_eq a b
 unfold sgnS at h
 cases h1 : sLt a b <;> cases h2 : sLt b a <;> simp_all
theorem cmpK_zero {a b : KeyT} (ha : isKey a = true) (hb : isKey b = true) (h : cmpK a b = 0) : kEq a b = true := by
 have hg : (!isKey a || !isKey b) = false := by rw [ha, hb]; rfl
 by_cases h1 : a.1 = b.1
 ·by_cases h2 : a.2.1 = b.2.1
  ·rw [cmpK_text hg h1 h2] at h
   rw [kEq, decide_eq_true h1, decide_eq_true h2, sgnS_zero h]; rfl
  ·rw [cmpK_num hg h1 h2] at h; exact absurd (sgnI_zero.1 h) h2
 ·rw [cmpK_kind hg h1] at h; exact absurd (sgnI_zero.1 h) h1
theorem okL_ins {k : KeyT} {r : RecT} (hk : isKey k = true) : ∀ (l : List ItemT) (p : Option KeyT), okL p l = true → l.any (fun y : ItemT => kEq y.1 k) = false → relP p k = true → okL p (insI l (posK k l) (k, r)) = isRec r
 | [], p, _, _, hp => by simp [insI, posK, okL, hk, hp]
 | y :: ys, p, hl, hn, hp => by
  simp only [okL, Bool.and_eq_true] at hl
  obtain ⟨⟨⟨h1, h2⟩, h3⟩, h4⟩ := hl
  simp only [List.any_cons, Bool.or_eq_false_iff] at hn
  by_cases hc : cmpK y.1 k < 0
  ·have ih := okL_ins (r := r) hk ys (some y.1) h4 hn.2 (by simpa [relP] using hc)
   rw [posK, if_pos hc]
   have e : insI (y :: ys) (posK k ys + 1) (k, r) = y :: insI ys (posK k ys) (k, r) := by simp [insI]
   rw [e, okL, h1, h2, h3, ih]; rfl
  ·rw [posK, if_neg hc]
   have e : insI (y :: ys) 0 (k, r) = (k, r) :: y :: ys := by simp [insI]
   have h0 : ¬ cmpK y.1 k = 0 := fun h => by
    have := cmpK_zero h1 hk h
    rw [hn.1] at this; cases this
   have hs := cmpK_swap k y.1
   rw [e, okL, okL, hk, hp, h1, h2, h4]
   have : relP (some k) y.1 = true := by simp only [relP, decide_eq_true_eq]; omega
   rw [this]; simp
theorem okL_set {r : RecT} : ∀ (l : List ItemT) (p : Option KeyT) (i : Nat), okL p l = true → i < l.length → okL p (setI l i r) = isRec r
 | [], _, _, _, h => by simp at h
 | y :: ys, p, 0, hl, _ => by
  simp only [okL, Bool.and_eq_true] at hl
  obtain ⟨⟨⟨h1, h2⟩, h3⟩, h4⟩ := hl
  simp [setI, okL, h1, h3, h4]
 | y :: ys, p, i + 1, hl, h => by
  simp only [okL, Bool.and_eq_true] at hl
  obtain ⟨⟨⟨h1, h2⟩, h3⟩, h4⟩ := hl
  have ih := okL_set (r := r) ys (some y.1) i h4 (by simpa using h)
  have e : setI (y :: ys) (i + 1) r = y :: setI ys i r := by simp [setI]
  rw [e, okL, h1, h2, h3, ih]; rfl
theorem findI_neg {α : Type} {p : α → Bool} : ∀ (xs : List α) (i : Int), 0 ≤ i → findI p xs i < 0 → xs.any p = false
 | [], _, _, _ => rfl
 | x :: xs, i, hi, h => by
  rw [findI] at h
  split at h
  ·omega
  ·rename_i hp
   rw [List.any_cons, findI_neg xs (i + 1) (by omega) h]
   simpa using hp
theorem sto_set {x : StoreT} {i : Nat} {r : RecT} (hs : isSto x = true) (hi : i < x.2.1.length) : isSto (x.1, setI x.2.1 i r, x.2.2) = isRec r := by
 rw [isSto_eq] at hs ⊢
 simp only [Bool.and_eq_true] at hs
 obtain ⟨h1, ⟨h2, h3⟩, h4, h5⟩ := hs
 simp only [setI_len, okL_set _ _ _ h1 hi, h2, h3, h4, h5, Bool.and_self, Bool.and_true]
theorem sto_ins {x : StoreT} {k : KeyT} {r : RecT} {a : Int} (hs : isSto x = true) (hk : isKey k = true) (hf : fndK x k < 0) (ha : 0 ≤ a ∧ a ≤ 1000000) : isSto (x.1, insI x.2.1 (posK k x.2.1) (k, r), a) = (isRec r && decide (x.2.1.length < 16)) := by
 rw [isSto_eq] at hs ⊢
 simp only [Bool.and_eq_true] at hs
 obtain ⟨h1, ⟨h2, h3⟩, h4, h5⟩ := hs
 simp only [insI_len, okL_ins hk _ _ h1 (findI_neg _ 0 (by omega) hf) rfl, h2, decide_eq_true ha.1, decide_eq_true ha.2, Bool.and_self, Bool.and_true, Bool.true_and]
 congr 1
 exact decide_eq_decide.2 (by omega)
theorem not_or_f {a b : Bool} (h : (!a || !b) = false) : a = true ∧ b = true := by cases a <;> cases b <;> simp_all
theorem put_set_no {x : StoreT} {k : KeyT} {r : RecT} (h : (!isSto x || !isKey k) = false) (hf : 0 ≤ fndK x k) (ho : (!isSto (x.1, setI x.2.1 (fndK x k).toNat r, x.2.2)) = true) : putN x k r = (x, false) := by
 obtain ⟨h1, h2⟩ := not_or_f h
 have hl := fndK_lt hf
 rw [sto_set h1 (by omega)] at ho
 rw [putN, if_pos (by rw [ho]; simp)]
theorem put_set_yes {x : StoreT} {k : KeyT} {r : RecT} (h : (!isSto x || !isKey k) = false) (hf : 0 ≤ fndK x k) (ho : (!isSto (x.1, setI x.2.1 (fndK x k).toNat r, x.2.2)) = false) : putN x k r = ((x.1, setI x.2.1 (fndK x k).toNat r, x.2.2), true) := by
 obtain ⟨h1, h2⟩ := not_or_f h
 have hl := fndK_lt hf
 rw [sto_set h1 (by omega)] at ho
 rw [putN, if_neg (by rw [h, ho]; simp), if_pos hf]
theorem auto_ok {x : StoreT} {k : KeyT} (hs : isSto x = true) : 0 ≤ autoP x k ∧ autoP x k ≤ 1000000 := by
 rw [isSto_eq] at hs
 simp only [Bool.and_eq_true, decide_eq_true_eq] at hs
 unfold autoP
 split
 ·rename_i h
  simp only [Bool.and_eq_true, decide_eq_true_eq] at h
  omega
 ·omega
theorem auto_yes {x : StoreT} {k : KeyT} (h : (decide (k.1 = 1) && decide (x.2.2 < k.2.1) && decide (k.2.1 ≤ 1000000)) = true) : k.2.1 = autoP x k := by
 simp only [Bool.and_eq_true, decide_eq_true_eq] at h
 rw [autoP, if_pos (by simp only [Bool.and_eq_true, decide_eq_true_eq]; omega)]
theorem auto_no {x : StoreT} {k : KeyT} (h : (decide (k.1 = 1) && decide (x.2.2 < k.2.1) && decide (k.2.1 ≤ 1000000)) = false) : x.2.2 = autoP x k := by
 rw [autoP, if_neg]
 intro h2
 simp only [Bool.and_eq_true, decide_eq_true_eq] at h2
 rw [decide_eq_true h2.1, decide_eq_true (by omega : x.2.2 < k.2.1), decide_eq_true h2.2.2] at h
 cases h
theorem put_ins_no {x : StoreT} {k : KeyT} {r : RecT} {j : Nat} {a : Int} (h : (!isSto x || !isKey k) = false) (hf : ¬ 0 ≤ fndK x k) (hj : posK k x.2.1 = j) (ha : a = autoP x k) (ho : (!isSto (x.1, insI x.2.1 j (k, r), a)) = true) : putN x k r = (x, false) := by
 obtain ⟨h1, h2⟩ := not_or_f h
 subst hj; subst ha
 rw [sto_ins h1 h2 (by omega) (auto_ok h1)] at ho
 rw [putN]
 split
 ·rfl
 ·rename_i h3
  rw [if_pos]
  rw [h, Bool.false_or] at h3
  have h4 : isRec r = true := by simpa using h3
  rw [h4, Bool.true_and] at ho
  simpa using ho
theorem put_ins_yes {x : StoreT} {k : KeyT} {r : RecT} {j : Nat} {a : Int} (h : (!isSto x || !isKey k) = false) (hf : ¬ 0 ≤ fndK x k) (hj : posK k x.2.1 = j) (ha : a = autoP x k) (ho : (!isSto (x.1, insI x.2.1 j (k, r), a)) = false) : putN x k r = ((x.1, insI x.2.1 j (k, r), a), true) := by
 obtain ⟨h1, h2⟩ := not_or_f h
 subst hj; subst ha
 rw [sto_ins h1 h2 (by omega) (auto_ok h1)] at ho
 have ho' : isRec r = true ∧ x.2.1.length < 16 := by
  simpa using ho
 rw [putN, if_neg (by rw [h, ho'.1]; simp), if_neg hf, if_neg (by omega)]

theorem ok_impl_PutItem {x : StoreT} {k : KeyT} {r : RecT} (hb : wStore x ≤ 1048576) (hb2 : r.length ≤ 1048576) : KFn Try.prog 33 [.agg [(.dv [] (.str (x.1))), (.dv [] (itemsD (x.2.1))), (.dv [] (.int .i64 (x.2.2)))], .agg [(.dv [] (.int .i64 (k.1))), (.dv [] (.int .i64 (k.2.1))), (.dv [] (.str (k.2.2)))], .agg [(.dv [] (fieldsD (r)))]] (.tup [(true, [(.dv [] (.str ((putN x k r).1.1))), (.key 9001), (.dv [] (.int .i64 ((putN x k r).1.2.2)))]), (false, [(.dv [] (.bool ((putN x k r).2)))])]) [(9001, some (kcOf false (itemsD ((putN x k r).1.2.1))))] := by
 refine ⟨fn_intro Try.func33 rfl Try.ntmps33 Try.results33 rfl (fun C => ?_)⟩
 have hlen : x.2.1.length ≤ 1048576 := by have h3 : wStore x = x.1.size + (x.2.1.length + wSum wItem x.2.1) := rfl; omega
 refine yF 0 0 rfl rfl fun f0_0 => ?_
 refine yF 0 1 rfl rfl fun f0_1 => ?_
 refine yF 0 2 rfl rfl fun f0_2 => ?_
 refine yF 1 0 rfl rfl fun f1_0 => ?_
 refine yF 1 1 rfl rfl fun f1_1 => ?_
 refine yF 1 2 rfl rfl fun f1_2 => ?_
 refine yF 2 0 rfl rfl fun f2_0 => ?_
 iterate 10 refine z ?_
 refine zC Try.call37 ?_ (hf := ok_impl_IsStore (s := x))
 iterate 3 refine z ?_
 refine o_callG (gd_bool rfl rfl rfl rfl rfl) rfl rfl Try.call71 ok_impl_IsKey (fun hg => (as_cons (ev_opt rfl hg) (ag_agg (ag_cons ac_dv (ag_cons ac_dv (ag_cons ac_dv ag_nil)))) as_nil)) rfl rfl ?_
 iterate 3 refine z ?_
 refine yQ rfl (fun c1 => ?_) fun c1 => ?_
 ·skip
  iterate 2 refine z ?_
  refine zK 8971 Try.call52 ?_ (hf := ok_impl_copyStore (x := x) (by omega))
  iterate 3 refine z ?_
  rw [put_bad c1]
  refine ok_weak (σ' := ⟨[(6, .box 6 0), (7, .one (.dv [] (.bool (false))))], [(6, 26, [(.dv [] (.str ((x).1))), (.key 9001), (.dv [] (.int .i64 ((x).2.2)))])], [(9001, some (kcOf false (itemsD (x.2.1))))]⟩) (weak_sub ⟨rfl, rfl, trivial⟩ ⟨rfl, trivial⟩ ⟨rfl, trivial⟩ rfl) ?_
  iterate 2 refine z ?_
  refine fin2 (res_cell hT rfl rfl rfl rfl) (res_tmp rfl) rfl rfl ?_
  first | exact ⟨rfl, rfl⟩ | skip
 ·skip
  iterate 4 refine z ?_
  refine zK 8971 Try.call52 ?_ (hf := ok_impl_copyStore (x := x) (by omega))
  iterate 7 refine z ?_
  refine zC Try.call20 ?_ (hf := ok_impl_FindItem)
  iterate 6 refine z ?_
  refine yQ rfl (fun c2 => ?_) fun c2 => ?_
  ·skip
   have d2 := of_decide_eq_true c2
   have hlt := fndK_lt d2
   refine ok_regionD (oB := [3, 4, 5, 6, 8]) (oK := [9001]) (by kernel_rfl) rfl rfl ?_
   refine zD 0 ?_
   refine zD 1 ?_
   refine zD 2 ?_
   refine zD 3 ?_
   refine d_callK 9000 4 rfl (by kernel_rfl) rfl rfl rfl Try.call72 (ok_impl_copyRecord (by omega)) (as_cons (ev_tmp rfl) (ag_agg (ag_cons ac_dv ag_nil)) as_nil) rfl rfl rfl rfl rfl ?_
   refine d_take 5 rfl (by kernel_rfl) rfl rfl (pu_indexK (i := (fndK (x) (k)).toNat) hT rfl rfl rfl (ev_tmp rfl) rfl (ev_tmp rfl) (by omega) (by show _ < ((x.2.1)).length; omega)) rfl rfl rfl rfl ?_
   refine zD 6 ?_
   refine d_chain [7] rfl rfl (by kernel_rfl) ?_
   refine o_storeE (js := [9003]) (cs := (setI x.2.1 (fndK x k).toNat r).flatMap eItem) hT rfl rfl rfl rfl (ev_tmp rfl) (ev_tmp rfl) rfl rfl rfl rfl (ow_cons' (ow_key rfl) ow_nil rfl) (by decide) (by decide) rfl (by show _ ≤ List.length ((x.2.1).flatMap eItem); rw [len4]; omega) (setR_set (by omega)) ?_
   simp only [killT, killB, SV.kill, CV.kill, kk, Nat.reduceBEq]
   refine z ?_
   refine ok_seq ?_
   refine ok_seq ?_
   refine ok_weak (weak_eq (k := 9001) (c' := kcOf false (itemsD (setI x.2.1 (fndK x k).toNat r))) rfl (congrArg (fun n => KC.mk false 42 4 n ((setI x.2.1 (fndK x k).toNat r).flatMap eItem)) setI_len.symm) rfl) ?_
   refine ok_region ?_
   refine z ?_
   refine o_call rfl rfl rfl Try.call37 (ok_impl_IsStore (s := (x.1, setI x.2.1 (fndK x k).toNat r, x.2.2))) (as_cons (ev_tmp rfl) (ag_agg (ag_cons ac_dv (ag_cons (ac_key' rfl rfl) (ag_cons ac_dv ag_nil)))) as_nil) rfl rfl ?_
   iterate 2 refine z ?_
   refine yQ rfl (fun c3 => ?_) fun c3 => ?_
   ·skip
    refine ok_seq ?_
    refine ok_weak (σ' := ⟨[(3, .box 3 0), (6, .box 6 0), (7, .one (.dv [] (.bool (false))))], [(3, 26, [(.dv [] (.str (x.1))), (.dv [] (itemsD (x.2.1))), (.dv [] (.int .i64 (x.2.2)))]), (6, 26, [(.dv [] (.str (ByteArray.empty))), .nil, (.dv [] (.int .i64 (0)))])], []⟩) (weak_sub ⟨rfl, rfl, rfl, trivial⟩ ⟨rfl, rfl, trivial⟩ trivial rfl) ?_
    refine ok_region ?_
    refine z ?_
    refine zK 8971 Try.call52 ?_ (hf := ok_impl_copyStore (x := x) (by omega))
    iterate 3 refine z ?_
    rw [put_set_no c1 d2 c3]
    refine ok_weak (σ' := ⟨[(6, .box 6 0), (7, .one (.dv [] (.bool (false))))], [(6, 26, [(.dv [] (.str ((x).1))), (.key 9001), (.dv [] (.int .i64 ((x).2.2)))])], [(9001, some (kcOf false (itemsD (x.2.1))))]⟩) (weak_sub ⟨rfl, rfl, trivial⟩ ⟨rfl, trivial⟩ ⟨rfl, trivial⟩ rfl) ?_
    iterate 2 refine z ?_
    refine fin2 (res_cell hT rfl rfl rfl rfl) (res_tmp rfl) rfl rfl ?_
    first | exact ⟨rfl, rfl⟩ | skip
   ·skip
    iterate 7 refine z ?_
    rw [put_set_yes c1 d2 c3]
    refine ok_weak (σ' := ⟨[(6, .box 6 0), (7, .one (.dv [] (.bool (true))))], [(6, 26, [(.dv [] (.str ((x).1))), (.key 9001), (.dv [] (.int .i64 ((x).2.2)))])], [(9001, some (kcOf false (itemsD (setI x.2.1 (fndK x k).toNat r))))]⟩) (weak_sub ⟨rfl, rfl, trivial⟩ ⟨rfl, trivial⟩ ⟨rfl, trivial⟩ rfl) ?_
    refine z ?_
    refine fin2 (res_cell hT rfl rfl rfl rfl) (res_tmp rfl) rfl rfl ?_
    first | exact ⟨rfl, rfl⟩ | skip
  ·skip
   have d2 := of_decide_eq_false c2
   iterate 5 refine z ?_
   refine ok_loop (ι := Nat) (fun zz => ⟨[(3, .box 3 0), (4, .box 4 0), (5, .box 5 0), (6, .box 6 0), (7, .one (.dv [] (.bool (false)))), (8, .box 8 0), (10, .one (.dv [] (.int .i64 ((zz : Int)))))], [(3, 26, [(.dv [] (.str (x.1))), (.dv [] (itemsD (x.2.1))), (.dv [] (.int .i64 (x.2.2)))]), (4, 28, [(.dv [] (.int .i64 (k.1))), (.dv [] (.int .i64 (k.2.1))), (.dv [] (.str (k.2.2)))]), (5, 40, [(.dv [] (fieldsD (r)))]), (6, 26, [(.dv [] (.str (ByteArray.empty))), .nil, (.dv [] (.int .i64 (0)))]), (8, 26, [(.dv [] (.str ((x).1))), (.key 9001), (.dv [] (.int .i64 ((x).2.2)))])], [(9001, some (kcOf false (.sl 42 4 (x.2.1.length) (x.2.1.flatMap eItem))))]⟩) (fun zz => zz ≤ x.2.1.length ∧ posK k x.2.1 = zz + posK k (x.2.1.drop zz)) (fun zz => x.2.1.length - zz) (0) ?_ (weak_sub ⟨rfl, rfl, rfl, rfl, rfl, rfl, rfl, trivial⟩ ⟨rfl, rfl, rfl, rfl, rfl, trivial⟩ ⟨rfl, trivial⟩ rfl) (fun zz hx => ?_)
   ·exact ⟨Nat.zero_le _, by simp⟩
   obtain ⟨j, rfl⟩ : ∃ v, v = zz := ⟨_, rfl⟩
   replace hx : j ≤ x.2.1.length ∧ posK k x.2.1 = j + posK k (x.2.1.drop j) := hx
   obtain ⟨hj, hp⟩ := hx
   show Ok _ _ _ _ _ (⟨[(3, .box 3 0), (4, .box 4 0), (5, .box 5 0), (6, .box 6 0), (7, .one (.dv [] (.bool (false)))), (8, .box 8 0), (10, .one (.dv [] (.int .i64 ((j : Int)))))], [(3, 26, [(.dv [] (.str (x.1))), (.dv [] (itemsD (x.2.1))), (.dv [] (.int .i64 (x.2.2)))]), (4, 28, [(.dv [] (.int .i64 (k.1))), (.dv [] (.int .i64 (k.2.1))), (.dv [] (.str (k.2.2)))]), (5, 40, [(.dv [] (fieldsD (r)))]), (6, 26, [(.dv [] (.str (ByteArray.empty))), .nil, (.dv [] (.int .i64 (0)))]), (8, 26, [(.dv [] (.str ((x).1))), (.key 9001), (.dv [] (.int .i64 ((x).2.2)))])], [(9001, some (kcOf false (.sl 42 4 (x.2.1.length) (x.2.1.flatMap eItem))))]⟩ : St)
   refine ok_seq ?_
   refine ok_seq ?_
   refine ok_regionD (oB := [3, 4, 5, 6, 8]) (oK := [9001]) (by kernel_rfl) rfl rfl ?_
   refine zD 0 ?_
   refine zD 1 ?_
   refine d_take 2 rfl (by kernel_rfl) rfl rfl (pu_view (dd := itemsD x.2.1) (pu_loadBox1 hT rfl rfl (ev_tmp rfl) rfl rfl) rfl rfl) rfl rfl rfl rfl ?_
   refine zD 3 ?_
   refine zD 4 ?_
   refine zD 5 ?_
   refine zDG 6 ?_
   refine d_takeG 7 rfl (by kernel_rfl) (gd_bool rfl rfl rfl rfl rfl) rfl (fun hg => pu_view (dd := itemsD x.2.1) (pu_loadBox1 hT rfl rfl (ev_opt rfl hg) rfl rfl) rfl rfl) rfl rfl rfl rfl ?_
   refine zDG 8 ?_
   refine zDG 9 ?_
   refine zDG 10 ?_
   refine zDG 11 ?_
   refine zDG 12 ?_
   refine d_callG 13 rfl (by kernel_rfl) (gd_bool rfl rfl rfl rfl rfl) rfl rfl Try.call48 ok_impl_CompareKeys (fun hg => (as_cons (ev_opt rfl hg) (ag_agg (ag_cons ac_dv (ag_cons ac_dv (ag_cons ac_dv ag_nil)))) (as_cons (ev_opt rfl hg) (ag_agg (ag_cons ac_dv (ag_cons ac_dv (ag_cons ac_dv ag_nil)))) as_nil))) rfl rfl ?_
   refine zDG 14 ?_
   refine zD 15 ?_
   refine d_done (by kernel_rfl) ?_
   refine z ?_
   refine yQ rfl (fun c4 => ?_) fun c4 => ?_
   ·skip
    have hst := posK_step hp c4
    have hst1 := hst.1
    iterate 3 refine z ?_
    refine ok_region ?_
    iterate 3 refine z ?_
    refine ops_nil ?_
    iterate 2 refine z ?_
    refine ⟨j + 1, ?_, ?_, weak_sub ⟨rfl, rfl, rfl, rfl, rfl, rfl, rfl, trivial⟩ ⟨rfl, rfl, rfl, rfl, rfl, trivial⟩ ⟨rfl, trivial⟩ rfl⟩
    ·exact ⟨by omega, hst.2⟩
    ·omega
   ·skip
    have hpos := posK_stop hj hp c4
    iterate 5 refine z ?_
    refine ok_seq ?_
    refine ok_regionH [0, 1, 2, 3, 4, 5, 6, 7] (oB := [3, 4, 5, 6, 8]) (oK := [9001]) (by kernel_rfl) rfl rfl ?_
    refine zD 0 ?_
    refine zD 1 ?_
    refine zD 2 ?_
    refine zD 3 ?_
    refine zD 4 ?_
    refine d_callK 9000 5 rfl (by kernel_rfl) rfl rfl rfl Try.call72 (ok_impl_copyRecord (by omega)) (as_cons (ev_tmp rfl) (ag_agg (ag_cons ac_dv ag_nil)) as_nil) rfl rfl rfl rfl rfl ?_
    refine d_take 6 rfl (by kernel_rfl) rfl rfl (pu_build hT hB rfl rfl rfl (bp_cons (ev_tmp rfl) rfl rfl rfl rfl rfl (bp_cons (ev_tmp rfl) rfl rfl rfl rfl rfl bp_nil))) rfl rfl rfl rfl ?_
    refine d_build1 (k := 60) (js := [9003]) 7 hT rfl (by kernel_rfl) rfl rfl rfl rfl rfl rfl rfl rfl rfl (ev_tmp rfl) rfl rfl (ow_cons' (ow_dv rfl) (ow_cons' (ow_dv rfl) (ow_cons' (ow_dv rfl) (ow_cons' (ow_key rfl) ow_nil rfl) rfl) rfl) rfl) (by decide) (by decide) rfl rfl (by decide) ?_
    simp only [killT, killB, SV.kill, CV.kill, kk, Nat.reduceBEq]
    refine d_chain [8, 9, 10] rfl rfl (by kernel_rfl) ?_
    refine o_insert (k := 9001) (j := 60) (cs := (insI x.2.1 j (k, r)).flatMap eItem) (n := (insI x.2.1 j (k, r)).length) (insOk_Item rfl rfl (by decide)) rfl rfl Try.call66 rfl rfl (ev_tmp rfl) rfl rfl rfl (ev_tmp rfl) (by omega) (by dsimp only [kcOf]; omega) (ev_tmp rfl) rfl rfl rfl rfl (by decide) (by dsimp only [kcOf]; omega) (by dsimp only [kcOf]; omega) (by rw [insI_len]) (insL_items (o := x.2.1) (j := j) (y := (k, r))) ?_
    simp only [killT, killB, SV.kill, CV.kill, kk, Nat.reduceBEq]
    iterate 20 refine z ?_
    refine yQ rfl (fun c5 => ?_) fun c5 => ?_
    ·skip
     refine ok_region ?_
     iterate 5 refine z ?_
     refine ok_seq ?_
     refine ok_seq ?_
     refine ok_weak (weak_eq (k := 9001) (c' := kcOf false (itemsD (insI x.2.1 j (k, r)))) rfl (rfl) rfl) ?_
     refine ok_region ?_
     refine z ?_
     refine o_call rfl rfl rfl Try.call37 (ok_impl_IsStore (s := (x.1, insI x.2.1 j (k, r), k.2.1))) (as_cons (ev_tmp rfl) (ag_agg (ag_cons ac_dv (ag_cons (ac_key' rfl rfl) (ag_cons ac_dv ag_nil)))) as_nil) rfl rfl ?_
     iterate 2 refine z ?_
     refine yQ rfl (fun c6 => ?_) fun c6 => ?_
     ·skip
      refine ok_seq ?_
      refine ok_weak (σ' := ⟨[(3, .box 3 0), (6, .box 6 0), (7, .one (.dv [] (.bool (false))))], [(3, 26, [(.dv [] (.str (x.1))), (.dv [] (itemsD (x.2.1))), (.dv [] (.int .i64 (x.2.2)))]), (6, 26, [(.dv [] (.str (ByteArray.empty))), .nil, (.dv [] (.int .i64 (0)))])], []⟩) (weak_sub ⟨rfl, rfl, rfl, trivial⟩ ⟨rfl, rfl, trivial⟩ trivial rfl) ?_
      refine ok_region ?_
      refine z ?_
      refine zK 8971 Try.call52 ?_ (hf := ok_impl_copyStore (x := x) (by omega))
      iterate 3 refine z ?_
      rw [put_ins_no c1 d2 hpos (auto_yes c5) c6]
      refine ok_weak (σ' := ⟨[(6, .box 6 0), (7, .one (.dv [] (.bool (false))))], [(6, 26, [(.dv [] (.str ((x).1))), (.key 9001), (.dv [] (.int .i64 ((x).2.2)))])], [(9001, some (kcOf false (itemsD (x.2.1))))]⟩) (weak_sub ⟨rfl, rfl, trivial⟩ ⟨rfl, trivial⟩ ⟨rfl, trivial⟩ rfl) ?_
      iterate 2 refine z ?_
      refine fin2 (res_cell hT rfl rfl rfl rfl) (res_tmp rfl) rfl rfl ?_
      first | exact ⟨rfl, rfl⟩ | skip
     ·skip
      iterate 7 refine z ?_
      rw [put_ins_yes c1 d2 hpos (auto_yes c5) c6]
      refine ok_weak (σ' := ⟨[(6, .box 6 0), (7, .one (.dv [] (.bool (true))))], [(6, 26, [(.dv [] (.str ((x).1))), (.key 9001), (.dv [] (.int .i64 (k.2.1)))])], [(9001, some (kcOf false (itemsD (insI x.2.1 j (k, r)))))]⟩) (weak_sub ⟨rfl, rfl, trivial⟩ ⟨rfl, trivial⟩ ⟨rfl, trivial⟩ rfl) ?_
      refine z ?_
      refine fin2 (res_cell hT rfl rfl rfl rfl) (res_tmp rfl) rfl rfl ?_
      first | exact ⟨rfl, rfl⟩ | skip
    ·skip
     iterate 2 refine z ?_
     refine ok_seq ?_
     refine ok_seq ?_
     refine ok_weak (weak_eq (k := 9001) (c' := kcOf false (itemsD (insI x.2.1 j (k, r)))) rfl (rfl) rfl) ?_
     refine ok_region ?_
     refine z ?_
     refine o_call rfl rfl rfl Try.call37 (ok_impl_IsStore (s := (x.1, insI x.2.1 j (k, r), x.2.2))) (as_cons (ev_tmp rfl) (ag_agg (ag_cons ac_dv (ag_cons (ac_key' rfl rfl) (ag_cons ac_dv ag_nil)))) as_nil) rfl rfl ?_
     iterate 2 refine z ?_
     refine yQ rfl (fun c7 => ?_) fun c7 => ?_
     ·skip
      refine ok_seq ?_
      refine ok_weak (σ' := ⟨[(3, .box 3 0), (6, .box 6 0), (7, .one (.dv [] (.bool (false))))], [(3, 26, [(.dv [] (.str (x.1))), (.dv [] (itemsD (x.2.1))), (.dv [] (.int .i64 (x.2.2)))]), (6, 26, [(.dv [] (.str (ByteArray.empty))), .nil, (.dv [] (.int .i64 (0)))])], []⟩) (weak_sub ⟨rfl, rfl, rfl, trivial⟩ ⟨rfl, rfl, trivial⟩ trivial rfl) ?_
      refine ok_region ?_
      refine z ?_
      refine zK 8971 Try.call52 ?_ (hf := ok_impl_copyStore (x := x) (by omega))
      iterate 3 refine z ?_
      rw [put_ins_no c1 d2 hpos (auto_no c5) c7]
      refine ok_weak (σ' := ⟨[(6, .box 6 0), (7, .one (.dv [] (.bool (false))))], [(6, 26, [(.dv [] (.str ((x).1))), (.key 9001), (.dv [] (.int .i64 ((x).2.2)))])], [(9001, some (kcOf false (itemsD (x.2.1))))]⟩) (weak_sub ⟨rfl, rfl, trivial⟩ ⟨rfl, trivial⟩ ⟨rfl, trivial⟩ rfl) ?_
      iterate 2 refine z ?_
      refine fin2 (res_cell hT rfl rfl rfl rfl) (res_tmp rfl) rfl rfl ?_
      first | exact ⟨rfl, rfl⟩ | skip
     ·skip
      iterate 7 refine z ?_
      rw [put_ins_yes c1 d2 hpos (auto_no c5) c7]
      refine ok_weak (σ' := ⟨[(6, .box 6 0), (7, .one (.dv [] (.bool (true))))], [(6, 26, [(.dv [] (.str ((x).1))), (.key 9001), (.dv [] (.int .i64 ((x).2.2)))])], [(9001, some (kcOf false (itemsD (insI x.2.1 j (k, r)))))]⟩) (weak_sub ⟨rfl, rfl, trivial⟩ ⟨rfl, trivial⟩ ⟨rfl, trivial⟩ rfl) ?_
      refine z ?_
      refine fin2 (res_cell hT rfl rfl rfl rfl) (res_tmp rfl) rfl rfl ?_
      first | exact ⟨rfl, rfl⟩ | skip
end Go.Proofs.Ytmnimdnmedldgaa

namespace Go.Proofs.Ytmnimdnmedldgaa
open Go.RowKit
open Go.Proofs
set_option linter.unusedVariables false
set_option linter.unusedSimpArgs false

theorem sto_auto {x : StoreT} {b c : Bool} (h : (!isSto x || b || c) = false) : 0 ≤ x.2.2 ∧ x.2.2 ≤ 1000000 := by
 have hs : isSto x = true := by cases hh : isSto x <;> simp_all
 rw [isSto_eq] at hs
 simp only [Bool.and_eq_true, decide_eq_true_eq] at hs
 omega
theorem put_f {x : StoreT} {k : KeyT} {r : RecT} (h : (!isSto x || !isKey k || !isRec r) = false) (hf : 0 ≤ fndK x k) : putN x k r = ((x.1, setI x.2.1 (fndK x k).toNat r, x.2.2), true) := by
 rw [putN, if_neg (by rw [h]; simp), if_pos hf]
theorem put_l {x : StoreT} {k : KeyT} {r : RecT} (h : (!isSto x || !isKey k || !isRec r) = false) (hf : ¬ 0 ≤ fndK x k) (hl : (16 : Int) ≤ (x.2.1.length : Int)) : putN x k r = (x, false) := by
 rw [putN, if_neg (by rw [h]; simp), if_neg hf, if_pos (by omega)]
theorem put_i {x : StoreT} {k : KeyT} {r : RecT} {j : Nat} {a : Int} (h : (!isSto x || !isKey k || !isRec r) = false) (hf : ¬ 0 ≤ fndK x k) (hl : ¬ (16 : Int) ≤ (x.2.1.length : Int)) (hj : posK k x.2.1 = j) (ha : a = autoP x k) : putN x k r = ((x.1, insI x.2.1 j (k, r), a), true) := by
 subst hj; subst ha
 rw [putN, if_neg (by rw [h]; simp), if_neg hf, if_neg (by omega)]
theorem auto_y {x : StoreT} {k : KeyT} (h : (decide (k.1 = 1) && (decide (x.2.2 + 1 ≤ k.2.1) && decide (k.2.1 ≤ 1000000))) = true) : k.2.1 = autoP x k := by rw [autoP, if_pos h]
theorem auto_n {x : StoreT} {k : KeyT} (h : (decide (k.1 = 1) && (decide (x.2.2 + 1 ≤ k.2.1) && decide (k.2.1 ≤ 1000000))) = false) : x.2.2 = autoP x k := by rw [autoP, if_neg (by rw [h]; simp)]

theorem ok_spec_PutItem {x : StoreT} {k : KeyT} {r : RecT} (hb : wStore x ≤ 1048576) (hb2 : r.length ≤ 1048576) : KFn Try.prog 35 [.agg [(.dv [] (.str (x.1))), (.dv [] (itemsD (x.2.1))), (.dv [] (.int .i64 (x.2.2)))], .agg [(.dv [] (.int .i64 (k.1))), (.dv [] (.int .i64 (k.2.1))), (.dv [] (.str (k.2.2)))], .agg [(.dv [] (fieldsD (r)))]] (.tup [(true, [(.dv [] (.str ((putN x k r).1.1))), (.key 9001), (.dv [] (.int .i64 ((putN x k r).1.2.2)))]), (false, [(.dv [] (.bool ((putN x k r).2)))])]) [(9001, some (kcOf false (itemsD ((putN x k r).1.2.1))))] := by
 refine ⟨fn_intro Try.func35 rfl Try.ntmps35 Try.results35 rfl (fun C => ?_)⟩
 have hlen : x.2.1.length ≤ 1048576 := by have h3 : wStore x = x.1.size + (x.2.1.length + wSum wItem x.2.1) := rfl; omega
 refine yF 0 0 rfl rfl fun f0_0 => ?_
 refine yF 0 1 rfl rfl fun f0_1 => ?_
 refine yF 0 2 rfl rfl fun f0_2 => ?_
 refine yF 1 0 rfl rfl fun f1_0 => ?_
 refine yF 1 1 rfl rfl fun f1_1 => ?_
 refine yF 1 2 rfl rfl fun f1_2 => ?_
 refine yF 2 0 rfl rfl fun f2_0 => ?_
 iterate 10 refine z ?_
 refine zC Try.call9 ?_ (hf := ok_spec_IsStore (s := x))
 iterate 3 refine z ?_
 refine o_callG (gd_bool rfl rfl rfl rfl rfl) rfl rfl Try.call40 ok_spec_IsKey (fun hg => (as_cons (ev_opt rfl hg) (ag_agg (ag_cons ac_dv (ag_cons ac_dv (ag_cons ac_dv ag_nil)))) as_nil)) rfl rfl ?_
 iterate 4 refine z ?_
 refine o_callG (gd_bool rfl rfl rfl rfl rfl) rfl rfl Try.call41 ok_spec_IsRecord (fun hg => (as_cons (ev_opt rfl hg) (ag_agg (ag_cons ac_dv ag_nil)) as_nil)) rfl rfl ?_
 iterate 3 refine z ?_
 refine yQ rfl (fun c1 => ?_) fun c1 => ?_
 ·skip
  iterate 2 refine z ?_
  refine zK 8971 Try.call73 ?_ (hf := ok_spec_l6Copy (x := x) (by omega))
  iterate 3 refine z ?_
  rw [putN, if_pos c1]
  refine ok_weak (σ' := ⟨[(6, .box 6 0), (7, .one (.dv [] (.bool (false))))], [(6, 26, [(.dv [] (.str ((x).1))), (.key 9001), (.dv [] (.int .i64 ((x).2.2)))])], [(9001, some (kcOf false (itemsD (x.2.1))))]⟩) (weak_sub ⟨rfl, rfl, trivial⟩ ⟨rfl, trivial⟩ ⟨rfl, trivial⟩ rfl) ?_
  iterate 2 refine z ?_
  refine fin2 (res_cell hT rfl rfl rfl rfl) (res_tmp rfl) rfl rfl ?_
  first | exact ⟨rfl, rfl⟩ | skip
 ·skip
  have hau := sto_auto c1
  iterate 4 refine z ?_
  refine zK 8971 Try.call73 ?_ (hf := ok_spec_l6Copy (x := x) (by omega))
  iterate 7 refine z ?_
  refine zC Try.call74 ?_ (hf := ok_spec_FindItem)
  iterate 6 refine z ?_
  refine yQ rfl (fun c2 => ?_) fun c2 => ?_
  ·skip
   have d2 := of_decide_eq_true c2
   have hlt := fndK_lt d2
   refine ok_seq ?_
   refine ok_regionD (oB := [3, 4, 5, 6, 8]) (oK := [9001]) (by kernel_rfl) rfl rfl ?_
   refine zD 0 ?_
   refine zD 1 ?_
   refine zD 2 ?_
   refine zD 3 ?_
   refine d_callK 9000 4 rfl (by kernel_rfl) rfl rfl rfl Try.call75 (ok_spec_l5Copy (by omega)) (as_cons (ev_tmp rfl) (ag_agg (ag_cons ac_dv ag_nil)) as_nil) rfl rfl rfl rfl rfl ?_
   refine d_take 5 rfl (by kernel_rfl) rfl rfl (pu_indexK (i := (fndK (x) (k)).toNat) hT rfl rfl rfl (ev_tmp rfl) rfl (ev_tmp rfl) (by omega) (by show _ < ((x.2.1)).length; omega)) rfl rfl rfl rfl ?_
   refine zD 6 ?_
   refine d_chain [7] rfl rfl (by kernel_rfl) ?_
   refine o_storeE (js := [9003]) (cs := (setI x.2.1 (fndK x k).toNat r).flatMap eItem) hT rfl rfl rfl rfl (ev_tmp rfl) (ev_tmp rfl) rfl rfl rfl rfl (ow_cons' (ow_key rfl) ow_nil rfl) (by decide) (by decide) rfl (by show _ ≤ List.length ((x.2.1).flatMap eItem); rw [len4]; omega) (setR_set (by omega)) ?_
   simp only [killT, killB, SV.kill, CV.kill, kk, Nat.reduceBEq]
   refine z ?_
   refine ok_seq ?_
   refine ok_weak (weak_eq (k := 9001) (c' := kcOf false (itemsD (setI x.2.1 (fndK x k).toNat r))) rfl (congrArg (fun n => KC.mk false 42 4 n ((setI x.2.1 (fndK x k).toNat r).flatMap eItem)) setI_len.symm) rfl) ?_
   refine ok_region ?_
   iterate 4 refine z ?_
   rw [put_f c1 d2]
   refine ok_weak (σ' := ⟨[(6, .box 6 0), (7, .one (.dv [] (.bool (true))))], [(6, 26, [(.dv [] (.str ((x).1))), (.key 9001), (.dv [] (.int .i64 ((x).2.2)))])], [(9001, some (kcOf false (itemsD (setI x.2.1 (fndK x k).toNat r))))]⟩) (weak_sub ⟨rfl, rfl, trivial⟩ ⟨rfl, trivial⟩ ⟨rfl, trivial⟩ rfl) ?_
   iterate 2 refine z ?_
   refine fin2 (res_cell hT rfl rfl rfl rfl) (res_tmp rfl) rfl rfl ?_
   first | exact ⟨rfl, rfl⟩ | skip
  ·skip
   have d2 := of_decide_eq_false c2
   iterate 9 refine z ?_
   refine yQ rfl (fun c3 => ?_) fun c3 => ?_
   ·skip
    have d3 := of_decide_eq_true c3
    iterate 5 refine z ?_
    rw [put_l c1 d2 d3]
    refine ok_weak (σ' := ⟨[(6, .box 6 0), (7, .one (.dv [] (.bool (false))))], [(6, 26, [(.dv [] (.str ((x).1))), (.key 9001), (.dv [] (.int .i64 ((x).2.2)))])], [(9001, some (kcOf false (itemsD (x.2.1))))]⟩) (weak_sub ⟨rfl, rfl, trivial⟩ ⟨rfl, trivial⟩ ⟨rfl, trivial⟩ rfl) ?_
    iterate 2 refine z ?_
    refine fin2 (res_cell hT rfl rfl rfl rfl) (res_tmp rfl) rfl rfl ?_
    first | exact ⟨rfl, rfl⟩ | skip
   ·skip
    have d3 := of_decide_eq_false c3
    iterate 7 refine z ?_
    refine ok_loop (ι := Nat) (fun zz => ⟨[(3, .box 3 0), (4, .box 4 0), (5, .box 5 0), (6, .box 6 0), (7, .one (.dv [] (.bool (false)))), (8, .box 8 0), (10, .one (.dv [] (.int .i64 ((zz : Int)))))], [(3, 26, [(.dv [] (.str (x.1))), (.dv [] (itemsD (x.2.1))), (.dv [] (.int .i64 (x.2.2)))]), (4, 28, [(.dv [] (.int .i64 (k.1))), (.dv [] (.int .i64 (k.2.1))), (.dv [] (.str (k.2.2)))]), (5, 40, [(.dv [] (fieldsD (r)))]), (6, 26, [(.dv [] (.str (ByteArray.empty))), .nil, (.dv [] (.int .i64 (0)))]), (8, 26, [(.dv [] (.str ((x).1))), (.key 9001), (.dv [] (.int .i64 ((x).2.2)))])], [(9001, some (kcOf false (.sl 42 4 (x.2.1.length) (x.2.1.flatMap eItem))))]⟩) (fun zz => zz ≤ x.2.1.length ∧ posK k x.2.1 = zz + posK k (x.2.1.drop zz)) (fun zz => x.2.1.length - zz) (0) ?_ (weak_sub ⟨rfl, rfl, rfl, rfl, rfl, rfl, rfl, trivial⟩ ⟨rfl, rfl, rfl, rfl, rfl, trivial⟩ ⟨rfl, trivial⟩ rfl) (fun zz hx => ?_)
    ·exact ⟨Nat.zero_le _, by simp⟩
    obtain ⟨j, rfl⟩ : ∃ v, v = zz := ⟨_, rfl⟩
    replace hx : j ≤ x.2.1.length ∧ posK k x.2.1 = j + posK k (x.2.1.drop j) := hx
    obtain ⟨hj, hp⟩ := hx
    show Ok _ _ _ _ _ (⟨[(3, .box 3 0), (4, .box 4 0), (5, .box 5 0), (6, .box 6 0), (7, .one (.dv [] (.bool (false)))), (8, .box 8 0), (10, .one (.dv [] (.int .i64 ((j : Int)))))], [(3, 26, [(.dv [] (.str (x.1))), (.dv [] (itemsD (x.2.1))), (.dv [] (.int .i64 (x.2.2)))]), (4, 28, [(.dv [] (.int .i64 (k.1))), (.dv [] (.int .i64 (k.2.1))), (.dv [] (.str (k.2.2)))]), (5, 40, [(.dv [] (fieldsD (r)))]), (6, 26, [(.dv [] (.str (ByteArray.empty))), .nil, (.dv [] (.int .i64 (0)))]), (8, 26, [(.dv [] (.str ((x).1))), (.key 9001), (.dv [] (.int .i64 ((x).2.2)))])], [(9001, some (kcOf false (.sl 42 4 (x.2.1.length) (x.2.1.flatMap eItem))))]⟩ : St)
    refine ok_seq ?_
    refine ok_seq ?_
    refine ok_regionD (oB := [3, 4, 5, 6, 8]) (oK := [9001]) (by kernel_rfl) rfl rfl ?_
    refine zD 0 ?_
    refine zD 1 ?_
    refine zD 2 ?_
    refine zD 3 ?_
    refine zD 4 ?_
    refine zD 5 ?_
    refine zDG 6 ?_
    refine zDG 7 ?_
    refine zDG 8 ?_
    refine zDG 9 ?_
    refine zDG 10 ?_
    refine zDG 11 ?_
    refine zDG 12 ?_
    refine d_callG 13 rfl (by kernel_rfl) (gd_bool rfl rfl rfl rfl rfl) rfl rfl Try.call27 ok_spec_CompareKeys (fun hg => (as_cons (ev_opt rfl hg) (ag_agg (ag_cons ac_dv (ag_cons ac_dv (ag_cons ac_dv ag_nil)))) (as_cons (ev_opt rfl hg) (ag_agg (ag_cons ac_dv (ag_cons ac_dv (ag_cons ac_dv ag_nil)))) as_nil))) rfl rfl ?_
    refine zDG 14 ?_
    refine zD 15 ?_
    refine d_done (by kernel_rfl) ?_
    refine z ?_
    refine yQ rfl (fun c4 => ?_) fun c4 => ?_
    ·skip
     have hst := posK_step hp c4
     have hst1 := hst.1
     iterate 3 refine z ?_
     refine ok_region ?_
     iterate 3 refine z ?_
     refine ops_nil ?_
     iterate 2 refine z ?_
     refine ⟨j + 1, ?_, ?_, weak_sub ⟨rfl, rfl, rfl, rfl, rfl, rfl, rfl, trivial⟩ ⟨rfl, rfl, rfl, rfl, rfl, trivial⟩ ⟨rfl, trivial⟩ rfl⟩
     ·exact ⟨by omega, hst.2⟩
     ·omega
    ·skip
     have hpos := posK_stop hj hp c4
     iterate 6 refine z ?_
     refine o_build0 (k := 65) hT rfl rfl rfl rfl rfl rfl rfl rfl ?_
     iterate 3 refine z ?_
     refine o_appSubB (b8 := 8) (i8 := 1) (k := 65) (j := 9001) (s := 67) (n := (x.2.1.take j).length) (cs := (x.2.1.take j).flatMap eItem) (c2s := List.replicate (j * 4) .hole ++ (x.2.1.drop j).flatMap eItem) hT rfl rfl rfl (sl_h hT rfl rfl rfl (ev_tmp rfl) rfl (ev_tmp rfl) (by omega) (by dsimp only [kcOf]; omega)) rfl rfl rfl rfl rfl rfl rfl (ev_tmp rfl) rfl rfl rfl rfl rfl rfl (by decide) rfl rfl ⟨rfl, rfl⟩ (by omega) (by dsimp only [kcOf]; omega) (by dsimp only [kcOf]; omega) (by dsimp only [kcOf]; omega) (by rw [List.length_take, Nat.min_eq_left (by omega)]; simp) (sub_lo) (holed_lo) rfl rfl rfl ?_
     simp only [killT, killB, SV.kill, CV.kill, kk, Nat.reduceBEq]
     iterate 2 refine z ?_
     refine ok_seq ?_
     refine ok_regionH [0, 1, 2, 3, 4, 5] (oB := [3, 4, 5, 6, 8]) (oK := [65, 9001]) (by kernel_rfl) rfl rfl ?_
     refine zD 0 ?_
     refine zD 1 ?_
     refine zD 2 ?_
     refine d_callK 9000 3 rfl (by kernel_rfl) rfl rfl rfl Try.call75 (ok_spec_l5Copy (by omega)) (as_cons (ev_tmp rfl) (ag_agg (ag_cons ac_dv ag_nil)) as_nil) rfl rfl rfl rfl rfl ?_
     refine d_take 4 rfl (by kernel_rfl) rfl rfl (pu_build hT hB rfl rfl rfl (bp_cons (ev_tmp rfl) rfl rfl rfl rfl rfl (bp_cons (ev_tmp rfl) rfl rfl rfl rfl rfl bp_nil))) rfl rfl rfl rfl ?_
     refine d_build1 (k := 76) (js := [9003]) 5 hT rfl (by kernel_rfl) rfl rfl rfl rfl rfl rfl rfl rfl rfl (ev_tmp rfl) rfl rfl (ow_cons' (ow_dv rfl) (ow_cons' (ow_dv rfl) (ow_cons' (ow_dv rfl) (ow_cons' (ow_key rfl) ow_nil rfl) rfl) rfl) rfl) (by decide) (by decide) rfl rfl (by decide) ?_
     simp only [killT, killB, SV.kill, CV.kill, kk, Nat.reduceBEq]
     refine d_chain [6, 7] rfl rfl (by kernel_rfl) ?_
     refine o_appK (k := 65) (j := 76) (cs := (x.2.1.take j ++ [(k, r)]).flatMap eItem) (n := (x.2.1.take j ++ [(k, r)]).length) hT rfl rfl rfl rfl rfl rfl rfl (ev_tmp rfl) rfl rfl rfl (ev_tmp rfl) rfl rfl (by decide) (by dsimp only [kcOf]; simp only [List.length_take]; omega) (by dsimp only [kcOf]; simp only [List.length_take]; omega) (by simp) (by rw [List.flatMap_append]; rfl) ?_
     simp only [killT, killB, SV.kill, CV.kill, kk, Nat.reduceBEq]
     iterate 7 refine z ?_
     refine o_appSub (k := 65) (j := 9001) (s := 80) (n := (insI x.2.1 j (k, r)).length) (cs := (insI x.2.1 j (k, r)).flatMap eItem) (c2s := _) hT rfl rfl rfl (sl_l hT rfl rfl rfl (ev_tmp rfl) rfl (ev_tmp rfl) (by omega) (by dsimp only [kcOf]; omega)) rfl rfl rfl rfl rfl rfl rfl (ev_tmp rfl) rfl rfl rfl rfl rfl rfl (by decide) rfl rfl ⟨rfl, rfl⟩ (by dsimp only [kcOf]; omega) (by dsimp only [kcOf]; omega) (by dsimp only [kcOf]; simp only [List.length_append, List.length_take, List.length_singleton]; omega) (by dsimp only [kcOf]; simp only [List.length_append, List.length_take, List.length_singleton]; omega) (by rw [insI_len]; simp; omega) (sub_hi hj) (rfl) ?_
     simp only [killT, killB, SV.kill, CV.kill, kk, Nat.reduceBEq]
     iterate 14 refine z ?_
     refine o_callG (gd_bool rfl rfl rfl rfl rfl) rfl rfl Try.call43 ok_spec_l1In (fun hg => (as_cons (ev_opt rfl hg) (ag_one ac_dv) (as_cons (ev_opt rfl hg) (ag_one ac_dv) (as_cons (ev_int (inR_lit rfl)) (ag_one ac_dv) as_nil)))) rfl rfl ?_
     iterate 2 refine z ?_
     refine yQ rfl (fun c5 => ?_) fun c5 => ?_
     ·skip
      refine ok_region ?_
      iterate 5 refine z ?_
      refine ok_seq ?_
      refine ok_weak (weak_swapB (b := 8) (i := 1) (k := 65) (k' := 9001) rfl rfl rfl rfl (by decide) rfl rfl) ?_
      simp only [killT, killB, SV.kill, CV.kill, kk, Nat.reduceBEq]
      refine ok_region ?_
      iterate 4 refine z ?_
      rw [put_i c1 d2 d3 hpos (auto_y c5)]
      refine ok_weak (σ' := ⟨[(6, .box 6 0), (7, .one (.dv [] (.bool (true))))], [(6, 26, [(.dv [] (.str ((x).1))), (.key 9001), (.dv [] (.int .i64 (k.2.1)))])], [(9001, some (kcOf false (itemsD (insI x.2.1 j (k, r)))))]⟩) (weak_sub ⟨rfl, rfl, trivial⟩ ⟨rfl, trivial⟩ ⟨rfl, trivial⟩ rfl) ?_
      refine z ?_
      refine fin2 (res_cell hT rfl rfl rfl rfl) (res_tmp rfl) rfl rfl ?_
      first | exact ⟨rfl, rfl⟩ | skip
     ·skip
      iterate 2 refine z ?_
      refine ok_seq ?_
      refine ok_weak (weak_swapB (b := 8) (i := 1) (k := 65) (k' := 9001) rfl rfl rfl rfl (by decide) rfl rfl) ?_
      simp only [killT, killB, SV.kill, CV.kill, kk, Nat.reduceBEq]
      refine ok_region ?_
      iterate 4 refine z ?_
      rw [put_i c1 d2 d3 hpos (auto_n c5)]
      refine ok_weak (σ' := ⟨[(6, .box 6 0), (7, .one (.dv [] (.bool (true))))], [(6, 26, [(.dv [] (.str ((x).1))), (.key 9001), (.dv [] (.int .i64 ((x).2.2)))])], [(9001, some (kcOf false (itemsD (insI x.2.1 j (k, r)))))]⟩) (weak_sub ⟨rfl, rfl, trivial⟩ ⟨rfl, trivial⟩ ⟨rfl, trivial⟩ rfl) ?_
      refine z ?_
      refine fin2 (res_cell hT rfl rfl rfl rfl) (res_tmp rfl) rfl rfl ?_
      first | exact ⟨rfl, rfl⟩ | skip
end Go.Proofs.Ytmnimdnmedldgaa

namespace Go.Proofs.Ytmnimdnmedldgaa
open Go.RowKit
open Go.Proofs
set_option linter.unusedVariables false
set_option linter.unusedSimpArgs false

theorem setI_w {l : List ItemT} {i : Nat} {r : RecT} (hi : i < l.length) : wSum wItem (setI l i r) ≤ wSum wItem l + wRecord r := by
 have e : l = l.take i ++ l.getD i default :: l.drop (i + 1) := by rw [← drop_cons hi, List.take_append_drop]
 have e2 : setI l i r = l.take i ++ ((l.getD i default).1, r) :: l.drop (i + 1) := by rw [setI, List.set_eq_take_append_cons_drop, if_pos hi]
 have h1 : wSum wItem l = wSum wItem (l.take i) + (wItem (l.getD i default) + wSum wItem (l.drop (i + 1))) := by
  conv => lhs; rw [e]
  simp [wSum]
 have h2 : wSum wItem (setI l i r) = wSum wItem (l.take i) + (wItem ((l.getD i default).1, r) + wSum wItem (l.drop (i + 1))) := by
  rw [e2]; simp [wSum]
 have h3 : wItem ((l.getD i default).1, r) = wKey (l.getD i default).1 + wRecord r := rfl
 have h4 : wItem (l.getD i default) = wKey (l.getD i default).1 + wRecord (l.getD i default).2 := rfl
 omega
theorem putN_w (x : StoreT) (k : KeyT) (r : RecT) : wStore (putN x k r).1 ≤ wStore x + wKey k + wRecord r + 1 := by
 have hx : wStore x = x.1.size + (x.2.1.length + wSum wItem x.2.1) := rfl
 unfold putN
 split
 ·show wStore x ≤ _; omega
 ·split
  ·rename_i h
   have hl := fndK_lt h
   have h2 := setI_w (l := x.2.1) (i := (fndK x k).toNat) (r := r) (by omega)
   have h3 : wStore (x.1, setI x.2.1 (fndK x k).toNat r, x.2.2) = x.1.size + ((setI x.2.1 (fndK x k).toNat r).length + wSum wItem (setI x.2.1 (fndK x k).toNat r)) := rfl
   rw [setI_len] at h3
   show wStore (x.1, setI x.2.1 (fndK x k).toNat r, x.2.2) ≤ _
   omega
  ·split
   ·show wStore x ≤ _; omega
   ·have h2 := insI_w (o := x.2.1) (j := posK k x.2.1) (y := (k, r))
    have h3 : wStore (x.1, insI x.2.1 (posK k x.2.1) (k, r), autoP x k) = x.1.size + ((insI x.2.1 (posK k x.2.1) (k, r)).length + wSum wItem (insI x.2.1 (posK k x.2.1) (k, r))) := rfl
    have h4 : wItem (k, r) = wKey k + wRecord r := rfl
    rw [insI_len] at h3
    show wStore (x.1, insI x.2.1 (posK k x.2.1) (k, r), autoP x k) ≤ _
    omega

end Go.Proofs.Ytmnimdnmedldgaa

namespace Go.Proofs.Ytmnimdnmedldgaa
open Go.RowKit
open Go.Proofs
set_option linter.unusedVariables false
set_option linter.unusedSimpArgs false

def addN (x : StoreT) (k : KeyT) (r : RecT) : StoreT × Bool := if 0 ≤ fndK x k then (x, false) else putN x k r
theorem add_yes {x : StoreT} {k : KeyT} {r : RecT} (h : 0 ≤ fndK x k) : addN x k r = (x, false) := if_pos h
theorem add_no {x : StoreT} {k : KeyT} {r : RecT} (h : ¬ 0 ≤ fndK x k) : addN x k r = putN x k r := if_neg h
theorem addN_w (x : StoreT) (k : KeyT) (r : RecT) : wStore (addN x k r).1 ≤ wStore x + wKey k + wRecord r + 1 := by
 have := putN_w x k r
 unfold addN
 split
 ·show wStore x ≤ _; omega
 ·exact this

theorem ok_impl_AddItem {x : StoreT} {k : KeyT} {r : RecT} (hb : wStore x ≤ 1048576) (hb2 : r.length ≤ 1048576) : KFn Try.prog 34 [.agg [(.dv [] (.str (x.1))), (.dv [] (itemsD (x.2.1))), (.dv [] (.int .i64 (x.2.2)))], .agg [(.dv [] (.int .i64 (k.1))), (.dv [] (.int .i64 (k.2.1))), (.dv [] (.str (k.2.2)))], .agg [(.dv [] (fieldsD (r)))]] (.tup [(true, [(.dv [] (.str ((addN x k r).1.1))), (.key 9001), (.dv [] (.int .i64 ((addN x k r).1.2.2)))]), (false, [(.dv [] (.bool ((addN x k r).2)))])]) [(9001, some (kcOf false (itemsD ((addN x k r).1.2.1))))] := by
 refine ⟨fn_intro Try.func34 rfl Try.ntmps34 Try.results34 rfl (fun C => ?_)⟩
 refine yF 0 0 rfl rfl fun f0_0 => ?_
 refine yF 0 1 rfl rfl fun f0_1 => ?_
 refine yF 0 2 rfl rfl fun f0_2 => ?_
 refine yF 1 0 rfl rfl fun f1_0 => ?_
 refine yF 1 1 rfl rfl fun f1_1 => ?_
 refine yF 1 2 rfl rfl fun f1_2 => ?_
 refine yF 2 0 rfl rfl fun f2_0 => ?_
 iterate 11 refine z ?_
 refine zC Try.call20 ?_ (hf := ok_impl_FindItem)
 iterate 2 refine z ?_
 refine yQ rfl (fun c1 => ?_) fun c1 => ?_
 ·skip
  have d1 := of_decide_eq_true c1
  iterate 2 refine z ?_
  refine zK 8971 Try.call52 ?_ (hf := ok_impl_copyStore (x := x) (by omega))
  iterate 3 refine z ?_
  rw [add_yes d1]
  refine ok_weak (σ' := ⟨[(6, .box 6 0), (7, .one (.dv [] (.bool (false))))], [(6, 26, [(.dv [] (.str ((x).1))), (.key 9001), (.dv [] (.int .i64 ((x).2.2)))])], [(9001, some (kcOf false (itemsD (x.2.1))))]⟩) (weak_sub ⟨rfl, rfl, trivial⟩ ⟨rfl, trivial⟩ ⟨rfl, trivial⟩ rfl) ?_
  iterate 2 refine z ?_
  refine fin2 (res_cell hT rfl rfl rfl rfl) (res_tmp rfl) rfl rfl ?_
  first | exact ⟨rfl, rfl⟩ | skip
 ·skip
  have d1 := of_decide_eq_false c1
  iterate 6 refine z ?_
  refine zK 0 Try.call33 ?_ (hf := ok_impl_PutItem (x := x) (k := k) (r := r) (by omega) (by omega))
  iterate 5 refine z ?_
  rw [add_no d1]
  refine ok_weak (σ' := ⟨[(6, .box 6 0), (7, .one (.dv [] (.bool ((putN (x) (k) (r)).2))))], [(6, 26, [(.dv [] (.str ((putN (x) (k) (r)).1.1))), (.key 9001), (.dv [] (.int .i64 ((putN (x) (k) (r)).1.2.2)))])], [(9001, some (kcOf false (itemsD ((putN x k r).1.2.1))))]⟩) (weak_sub ⟨rfl, rfl, trivial⟩ ⟨rfl, trivial⟩ ⟨rfl, trivial⟩ rfl) ?_
  refine z ?_
  refine fin2 (res_cell hT rfl rfl rfl rfl) (res_tmp rfl) rfl rfl ?_
  first | exact ⟨rfl, rfl⟩ | skip
theorem ok_spec_AddItem {x : StoreT} {k : KeyT} {r : RecT} (hb : wStore x ≤ 1048576) (hb2 : r.length ≤ 1048576) : KFn Try.prog 80 [.agg [(.dv [] (.str (x.1))), (.dv [] (itemsD (x.2.1))), (.dv [] (.int .i64 (x.2.2)))], .agg [(.dv [] (.int .i64 (k.1))), (.dv [] (.int .i64 (k.2.1))), (.dv [] (.str (k.2.2)))], .agg [(.dv [] (fieldsD (r)))]] (.tup [(true, [(.dv [] (.str ((addN x k r).1.1))), (.key 9001), (.dv [] (.int .i64 ((addN x k r).1.2.2)))]), (false, [(.dv [] (.bool ((addN x k r).2)))])]) [(9001, some (kcOf false (itemsD ((addN x k r).1.2.1))))] := by
 refine ⟨fn_intro Try.func80 rfl Try.ntmps80 Try.results80 rfl (fun C => ?_)⟩
 refine yF 0 0 rfl rfl fun f0_0 => ?_
 refine yF 0 1 rfl rfl fun f0_1 => ?_
 refine yF 0 2 rfl rfl fun f0_2 => ?_
 refine yF 1 0 rfl rfl fun f1_0 => ?_
 refine yF 1 1 rfl rfl fun f1_1 => ?_
 refine yF 1 2 rfl rfl fun f1_2 => ?_
 refine yF 2 0 rfl rfl fun f2_0 => ?_
 iterate 11 refine z ?_
 refine zC Try.call74 ?_ (hf := ok_spec_FindItem)
 iterate 2 refine z ?_
 refine yQ rfl (fun c1 => ?_) fun c1 => ?_
 ·skip
  have d1 := of_decide_eq_true c1
  iterate 2 refine z ?_
  refine zK 8971 Try.call73 ?_ (hf := ok_spec_l6Copy (x := x) (by omega))
  iterate 3 refine z ?_
  rw [add_yes d1]
  refine ok_weak (σ' := ⟨[(6, .box 6 0), (7, .one (.dv [] (.bool (false))))], [(6, 26, [(.dv [] (.str ((x).1))), (.key 9001), (.dv [] (.int .i64 ((x).2.2)))])], [(9001, some (kcOf false (itemsD (x.2.1))))]⟩) (weak_sub ⟨rfl, rfl, trivial⟩ ⟨rfl, trivial⟩ ⟨rfl, trivial⟩ rfl) ?_
  iterate 2 refine z ?_
  refine fin2 (res_cell hT rfl rfl rfl rfl) (res_tmp rfl) rfl rfl ?_
  first | exact ⟨rfl, rfl⟩ | skip
 ·skip
  have d1 := of_decide_eq_false c1
  iterate 6 refine z ?_
  refine zK 0 Try.call35 ?_ (hf := ok_spec_PutItem (x := x) (k := k) (r := r) (by omega) (by omega))
  iterate 5 refine z ?_
  rw [add_no d1]
  refine ok_weak (σ' := ⟨[(6, .box 6 0), (7, .one (.dv [] (.bool ((putN (x) (k) (r)).2))))], [(6, 26, [(.dv [] (.str ((putN (x) (k) (r)).1.1))), (.key 9001), (.dv [] (.int .i64 ((putN (x) (k) (r)).1.2.2)))])], [(9001, some (kcOf false (itemsD ((putN x k r).1.2.1))))]⟩) (weak_sub ⟨rfl, rfl, trivial⟩ ⟨rfl, trivial⟩ ⟨rfl, trivial⟩ rfl) ?_
  refine z ?_
  refine fin2 (res_cell hT rfl rfl rfl rfl) (res_tmp rfl) rfl rfl ?_
  first | exact ⟨rfl, rfl⟩ | skip
end Go.Proofs.Ytmnimdnmedldgaa

namespace Go.Proofs.Ytmnimdnmedldgaa
open Go.RowKit
open Go.Proofs
set_option linter.unusedVariables false
set_option linter.unusedSimpArgs false

def keyA (x : StoreT) : KeyT := (1, x.2.2 + 1, ByteArray.empty)
def autoN (x : StoreT) (r : RecT) : StoreT × KeyT × Bool :=
 if (1000000 : Int) ≤ x.2.2 then (x, (0, 0, ByteArray.empty), false)
 else if (addN x (keyA x) r).2 then ((addN x (keyA x) r).1, keyA x, true) else (x, (0, 0, ByteArray.empty), false)
theorem putN_f {x : StoreT} {k : KeyT} {r : RecT} (h : (putN x k r).2 = false) : (putN x k r).1 = x := by
 unfold putN at h ⊢
 split
 ·rfl
 ·rename_i h1
  rw [if_neg h1] at h
  split
  ·rename_i h2; rw [if_pos h2] at h; cases h
  ·rename_i h2
   rw [if_neg h2] at h
   split
   ·rfl
   ·rename_i h3; rw [if_neg h3] at h; cases h
theorem addN_f {x : StoreT} {k : KeyT} {r : RecT} (h : (addN x k r).2 = false) : (addN x k r).1 = x := by
 unfold addN at h ⊢
 split
 ·rfl
 ·rename_i h1; rw [if_neg h1] at h; exact putN_f h
theorem auto_full {x : StoreT} {r : RecT} (h : (1000000 : Int) ≤ x.2.2) : autoN x r = (x, (0, 0, ByteArray.empty), false) := if_pos h
theorem auto_bad {x : StoreT} {r : RecT} (h : ¬ (1000000 : Int) ≤ x.2.2) (h2 : (!(addN x (keyA x) r).2) = true) : autoN x r = ((addN x (keyA x) r).1, (0, 0, ByteArray.empty), false) := by
 have h3 : (addN x (keyA x) r).2 = false := by simpa using h2
 rw [autoN, if_neg h, if_neg (by rw [h3]; simp), addN_f h3]
theorem auto_bad2 {x : StoreT} {r : RecT} (h : ¬ (1000000 : Int) ≤ x.2.2) (h2 : (!(addN x (keyA x) r).2) = true) : autoN x r = (x, (0, 0, ByteArray.empty), false) := by
 have h3 : (addN x (keyA x) r).2 = false := by simpa using h2
 rw [autoN, if_neg h, if_neg (by rw [h3]; simp)]
theorem auto_good {x : StoreT} {r : RecT} (h : ¬ (1000000 : Int) ≤ x.2.2) (h2 : (!(addN x (keyA x) r).2) = false) : autoN x r = ((addN x (keyA x) r).1, keyA x, true) := by
 rw [autoN, if_neg h, if_pos (by simpa using h2)]
theorem autoN_w (x : StoreT) (r : RecT) : wStore (autoN x r).1 ≤ wStore x + wRecord r + 1 := by
 have := addN_w x (keyA x) r
 have e : wKey (keyA x) = 0 := rfl
 unfold autoN
 split
 ·show wStore x ≤ _; omega
 ·split
  ·show wStore (addN x (keyA x) r).1 ≤ _; omega
  ·show wStore x ≤ _; omega

theorem ok_impl_AutoItem {x : StoreT} {r : RecT} (hb : wStore x ≤ 1048576) (hb2 : r.length ≤ 1048576) : KFn Try.prog 38 [.agg [(.dv [] (.str (x.1))), (.dv [] (itemsD (x.2.1))), (.dv [] (.int .i64 (x.2.2)))], .agg [(.dv [] (fieldsD (r)))]] (.tup [(true, [(.dv [] (.str ((autoN x r).1.1))), (.key 9001), (.dv [] (.int .i64 ((autoN x r).1.2.2)))]), (true, [(.dv [] (.int .i64 ((autoN x r).2.1.1))), (.dv [] (.int .i64 ((autoN x r).2.1.2.1))), (.dv [] (.str ((autoN x r).2.1.2.2)))]), (false, [(.dv [] (.bool ((autoN x r).2.2)))])]) [(9001, some (kcOf false (itemsD ((autoN x r).1.2.1))))] := by
 refine ⟨fn_intro Try.func38 rfl Try.ntmps38 Try.results38 rfl (fun C => ?_)⟩
 refine yF 0 0 rfl rfl fun f0_0 => ?_
 refine yF 0 1 rfl rfl fun f0_1 => ?_
 refine yF 0 2 rfl rfl fun f0_2 => ?_
 refine yF 1 0 rfl rfl fun f1_0 => ?_
 iterate 13 refine z ?_
 refine yQ rfl (fun c1 => ?_) fun c1 => ?_
 ·skip
  have d1 := of_decide_eq_true c1
  iterate 2 refine z ?_
  refine zK 8971 Try.call52 ?_ (hf := ok_impl_copyStore (x := x) (by omega))
  refine yO rfl rfl (pu_build hT hB rfl rfl rfl bp_nil) rfl ?_
  iterate 4 refine z ?_
  rw [auto_full d1]
  refine ok_weak (σ' := ⟨[(4, .box 4 0), (5, .box 5 0), (6, .one (.dv [] (.bool (false))))], [(4, 26, [(.dv [] (.str ((x).1))), (.key 9001), (.dv [] (.int .i64 ((x).2.2)))]), (5, 28, [(.dv [] (.int .i64 (0))), (.dv [] (.int .i64 (0))), (.dv [] (.str (ByteArray.empty)))])], [(9001, some (kcOf false (itemsD (x.2.1))))]⟩) (weak_sub ⟨rfl, rfl, rfl, trivial⟩ ⟨rfl, rfl, trivial⟩ ⟨rfl, trivial⟩ rfl) ?_
  iterate 2 refine z ?_
  refine fin3 (res_cell hT rfl rfl rfl rfl) (res_cell hT rfl rfl rfl rfl) (res_tmp rfl) rfl rfl rfl ?_
  first | exact ⟨rfl, rfl⟩ | skip
 ·skip
  have d1 := of_decide_eq_false c1
  iterate 6 refine z ?_
  refine yO rfl rfl (pu_build hT hB rfl rfl rfl (bp_cons (ev_int (inR_lit rfl)) rfl rfl rfl rfl rfl (bp_cons (ev_tmp rfl) rfl rfl rfl rfl rfl bp_nil))) rfl ?_
  iterate 7 refine z ?_
  refine zK 0 Try.call34 ?_ (hf := ok_impl_AddItem (x := x) (k := keyA x) (r := r) (by omega) (by omega))
  iterate 12 refine z ?_
  refine yQ rfl (fun c2 => ?_) fun c2 => ?_
  ·skip
   iterate 2 refine z ?_
   refine yO rfl rfl (pu_build hT hB rfl rfl rfl bp_nil) rfl ?_
   iterate 4 refine z ?_
   rw [auto_bad d1 c2]
   refine ok_weak (σ' := ⟨[(4, .box 4 0), (5, .box 5 0), (6, .one (.dv [] (.bool (false))))], [(4, 26, [(.dv [] (.str ((addN (x) (keyA x) (r)).1.1))), (.key 9001), (.dv [] (.int .i64 ((addN (x) (keyA x) (r)).1.2.2)))]), (5, 28, [(.dv [] (.int .i64 (0))), (.dv [] (.int .i64 (0))), (.dv [] (.str (ByteArray.empty)))])], [(9001, some (kcOf false (itemsD ((addN x (keyA x) r).1.2.1))))]⟩) (weak_sub ⟨rfl, rfl, rfl, trivial⟩ ⟨rfl, rfl, trivial⟩ ⟨rfl, trivial⟩ rfl) ?_
   iterate 2 refine z ?_
   refine fin3 (res_cell hT rfl rfl rfl rfl) (res_cell hT rfl rfl rfl rfl) (res_tmp rfl) rfl rfl rfl ?_
   first | exact ⟨rfl, rfl⟩ | skip
  ·skip
   iterate 2 refine z ?_
   refine ok_seq ?_
   refine ok_regionW 4 (oB := [2, 3, 5, 7, 8]) (oK := [9001]) (by kernel_rfl) rfl rfl ?_
   refine w_take 0 rfl (by kernel_rfl) rfl rfl (pu_loadBoxA hT rfl rfl (ev_tmp rfl) rfl rfl) rfl rfl rfl rfl rfl ?_
   refine w_take 1 rfl (by kernel_rfl) rfl rfl (pu_loadBoxA hT rfl rfl (ev_tmp rfl) rfl rfl) rfl rfl rfl rfl rfl ?_
   refine w_store 2 rfl (by kernel_rfl) rfl hT rfl rfl rfl (ev_tmp rfl) (ev_tmp rfl) rfl rfl rfl rfl rfl rfl ?_
   refine w_chain [3, 4] rfl rfl (by kernel_rfl) ?_
   iterate 3 refine z ?_
   rw [auto_good d1 c2]
   refine ok_weak (σ' := ⟨[(4, .box 4 0), (5, .box 5 0), (6, .one (.dv [] (.bool (true))))], [(4, 26, [(.dv [] (.str ((addN (x) (keyA x) (r)).1.1))), (.key 9001), (.dv [] (.int .i64 ((addN (x) (keyA x) (r)).1.2.2)))]), (5, 28, [(.dv [] (.int .i64 (1))), (.dv [] (.int .i64 ((x.2.2) + (1)))), (.dv [] (.str (ByteArray.empty)))])], [(9001, some (kcOf false (itemsD ((addN x (keyA x) r).1.2.1))))]⟩) (weak_sub ⟨rfl, rfl, rfl, trivial⟩ ⟨rfl, rfl, trivial⟩ ⟨rfl, trivial⟩ rfl) ?_
   refine z ?_
   refine fin3 (res_cell hT rfl rfl rfl rfl) (res_cell hT rfl rfl rfl rfl) (res_tmp rfl) rfl rfl rfl ?_
   first | exact ⟨rfl, rfl⟩ | skip
theorem ok_spec_AutoItem {x : StoreT} {r : RecT} (hb : wStore x ≤ 1048576) (hb2 : r.length ≤ 1048576) : KFn Try.prog 39 [.agg [(.dv [] (.str (x.1))), (.dv [] (itemsD (x.2.1))), (.dv [] (.int .i64 (x.2.2)))], .agg [(.dv [] (fieldsD (r)))]] (.tup [(true, [(.dv [] (.str ((autoN x r).1.1))), (.key 9001), (.dv [] (.int .i64 ((autoN x r).1.2.2)))]), (true, [(.dv [] (.int .i64 ((autoN x r).2.1.1))), (.dv [] (.int .i64 ((autoN x r).2.1.2.1))), (.dv [] (.str ((autoN x r).2.1.2.2)))]), (false, [(.dv [] (.bool ((autoN x r).2.2)))])]) [(9001, some (kcOf false (itemsD ((autoN x r).1.2.1))))] := by
 refine ⟨fn_intro Try.func39 rfl Try.ntmps39 Try.results39 rfl (fun C => ?_)⟩
 refine yF 0 0 rfl rfl fun f0_0 => ?_
 refine yF 0 1 rfl rfl fun f0_1 => ?_
 refine yF 0 2 rfl rfl fun f0_2 => ?_
 refine yF 1 0 rfl rfl fun f1_0 => ?_
 iterate 13 refine z ?_
 refine yQ rfl (fun c1 => ?_) fun c1 => ?_
 ·skip
  have d1 := of_decide_eq_true c1
  iterate 2 refine z ?_
  refine zK 8971 Try.call73 ?_ (hf := ok_spec_l6Copy (x := x) (by omega))
  refine yO rfl rfl (pu_build hT hB rfl rfl rfl bp_nil) rfl ?_
  iterate 4 refine z ?_
  rw [auto_full d1]
  refine ok_weak (σ' := ⟨[(4, .box 4 0), (5, .box 5 0), (6, .one (.dv [] (.bool (false))))], [(4, 26, [(.dv [] (.str ((x).1))), (.key 9001), (.dv [] (.int .i64 ((x).2.2)))]), (5, 28, [(.dv [] (.int .i64 (0))), (.dv [] (.int .i64 (0))), (.dv [] (.str (ByteArray.empty)))])], [(9001, some (kcOf false (itemsD (x.2.1))))]⟩) (weak_sub ⟨rfl, rfl, rfl, trivial⟩ ⟨rfl, rfl, trivial⟩ ⟨rfl, trivial⟩ rfl) ?_
  iterate 2 refine z ?_
  refine fin3 (res_cell hT rfl rfl rfl rfl) (res_cell hT rfl rfl rfl rfl) (res_tmp rfl) rfl rfl rfl ?_
  first | exact ⟨rfl, rfl⟩ | skip
 ·skip
  have d1 := of_decide_eq_false c1
  iterate 6 refine z ?_
  refine yO rfl rfl (pu_build hT hB rfl rfl rfl (bp_cons (ev_int (inR_lit rfl)) rfl rfl rfl rfl rfl (bp_cons (ev_tmp rfl) rfl rfl rfl rfl rfl bp_nil))) rfl ?_
  iterate 7 refine z ?_
  refine zK 0 Try.call80 ?_ (hf := ok_spec_AddItem (x := x) (k := keyA x) (r := r) (by omega) (by omega))
  iterate 12 refine z ?_
  refine yQ rfl (fun c2 => ?_) fun c2 => ?_
  ·skip
   refine ok_seq ?_
   refine ok_weak (σ' := ⟨[(2, .box 2 0), (4, .box 4 0), (5, .box 5 0), (6, .one (.dv [] (.bool (false))))], [(2, 26, [(.dv [] (.str (x.1))), (.dv [] (itemsD (x.2.1))), (.dv [] (.int .i64 (x.2.2)))]), (4, 26, [(.dv [] (.str (ByteArray.empty))), .nil, (.dv [] (.int .i64 (0)))]), (5, 28, [(.dv [] (.int .i64 (0))), (.dv [] (.int .i64 (0))), (.dv [] (.str (ByteArray.empty)))])], []⟩) (weak_sub ⟨rfl, rfl, rfl, rfl, trivial⟩ ⟨rfl, rfl, rfl, trivial⟩ trivial rfl) ?_
   refine ok_region ?_
   refine z ?_
   refine zK 8971 Try.call73 ?_ (hf := ok_spec_l6Copy (x := x) (by omega))
   refine yO rfl rfl (pu_build hT hB rfl rfl rfl bp_nil) rfl ?_
   iterate 4 refine z ?_
   rw [auto_bad2 d1 c2]
   refine ok_weak (σ' := ⟨[(4, .box 4 0), (5, .box 5 0), (6, .one (.dv [] (.bool (false))))], [(4, 26, [(.dv [] (.str ((x).1))), (.key 9001), (.dv [] (.int .i64 ((x).2.2)))]), (5, 28, [(.dv [] (.int .i64 (0))), (.dv [] (.int .i64 (0))), (.dv [] (.str (ByteArray.empty)))])], [(9001, some (kcOf false (itemsD (x.2.1))))]⟩) (weak_sub ⟨rfl, rfl, rfl, trivial⟩ ⟨rfl, rfl, trivial⟩ ⟨rfl, trivial⟩ rfl) ?_
   iterate 2 refine z ?_
   refine fin3 (res_cell hT rfl rfl rfl rfl) (res_cell hT rfl rfl rfl rfl) (res_tmp rfl) rfl rfl rfl ?_
   first | exact ⟨rfl, rfl⟩ | skip
  ·skip
   iterate 2 refine z ?_
   refine ok_seq ?_
   refine ok_regionW 4 (oB := [2, 3, 5, 7, 8]) (oK := [9001]) (by kernel_rfl) rfl rfl ?_
   refine w_take 0 rfl (by kernel_rfl) rfl rfl (pu_loadBoxA hT rfl rfl (ev_tmp rfl) rfl rfl) rfl rfl rfl rfl rfl ?_
   refine w_take 1 rfl (by kernel_rfl) rfl rfl (pu_loadBoxA hT rfl rfl (ev_tmp rfl) rfl rfl) rfl rfl rfl rfl rfl ?_
   refine w_store 2 rfl (by kernel_rfl) rfl hT rfl rfl rfl (ev_tmp rfl) (ev_tmp rfl) rfl rfl rfl rfl rfl rfl ?_
   refine w_chain [3, 4] rfl rfl (by kernel_rfl) ?_
   iterate 3 refine z ?_
   rw [auto_good d1 c2]
   refine ok_weak (σ' := ⟨[(4, .box 4 0), (5, .box 5 0), (6, .one (.dv [] (.bool (true))))], [(4, 26, [(.dv [] (.str ((addN (x) (keyA x) (r)).1.1))), (.key 9001), (.dv [] (.int .i64 ((addN (x) (keyA x) (r)).1.2.2)))]), (5, 28, [(.dv [] (.int .i64 (1))), (.dv [] (.int .i64 ((x.2.2) + (1)))), (.dv [] (.str (ByteArray.empty)))])], [(9001, some (kcOf false (itemsD ((addN x (keyA x) r).1.2.1))))]⟩) (weak_sub ⟨rfl, rfl, rfl, trivial⟩ ⟨rfl, rfl, trivial⟩ ⟨rfl, trivial⟩ rfl) ?_
   refine z ?_
   refine fin3 (res_cell hT rfl rfl rfl rfl) (res_cell hT rfl rfl rfl rfl) (res_tmp rfl) rfl rfl rfl ?_
   first | exact ⟨rfl, rfl⟩ | skip
end Go.Proofs.Ytmnimdnmedldgaa

namespace Go.Proofs.Ytmnimdnmedldgaa
open Go.RowKit
open Go.Proofs
set_option linter.unusedVariables false
set_option linter.unusedSimpArgs false

theorem key_rng {k : KeyT} (h : isKey k = true) : (1 ≤ k.1 ∧ k.1 ≤ 3) ∧ (-1000000000000 ≤ k.2.1 ∧ k.2.1 ≤ 1000000000000) ∧ k.2.2.size ≤ 12 := by
 simp only [isKey, kText, Bool.and_eq_true, decide_eq_true_eq] at h
 omega
theorem name_size {s : Str} (h : isName s = true) : 1 ≤ s.size ∧ s.size ≤ 8 := by
 simp only [isName, Bool.and_eq_true, decide_eq_true_eq] at h; omega
theorem rec_fld {r : RecT} {k : Nat} (h : isRec r = true) (hk : k < r.length) : isName (r.getD (k : Int).toNat default).1 = true ∧ 0 ≤ (r.getD (k : Int).toNat default).2 ∧ (r.getD (k : Int).toNat default).2 ≤ 1000000000 := by
 simp only [isRec, Bool.and_eq_true, List.all_eq_true] at h
 have h1 := h.1 k (List.mem_range.2 hk)
 unfold recBad at h1
 simp only [Bool.not_or, Bool.not_not, Bool.and_eq_true, decide_eq_true_eq] at h1
 exact ⟨h1.1.1, h1.1.2.1, h1.1.2.2⟩
theorem rec_len {r : RecT} (h : isRec r = true) : r.length ≤ 6 := by
 simp only [isRec, Bool.and_eq_true, decide_eq_true_eq] at h; omega
end Go.Proofs.Ytmnimdnmedldgaa

namespace Go.Proofs.Ytmnimdnmedldgaa
open Go.RowKit
open Go.Proofs
set_option linter.unusedVariables false
set_option linter.unusedSimpArgs false

section
variable {α : Type} {enc : α → List DV} {sz : Nat} {q : α → Bool} {x : List α}
theorem fl_len (hs : ∀ y, (enc y).length = sz) : ∀ xs : List α, (xs.flatMap enc).length = xs.length * sz
 | [] => by simp
 | y :: xs => by rw [List.flatMap_cons, List.length_append, fl_len hs xs, hs, List.length_cons, Nat.add_mul, Nat.one_mul, Nat.add_comm]
theorem findI_cases {p : α → Bool} {d : α} : ∀ (xs : List α) (i : Int), 0 ≤ i → (findI p xs i = -1 ∧ xs.any p = false) ∨ ∃ m, m < xs.length ∧ findI p xs i = i + (m : Int) ∧ (xs.take m).any p = false ∧ p (xs.getD m d) = true
 | [], i, h => .inl ⟨rfl, rfl⟩
 | y :: xs, i, h => by
  rw [findI]
  by_cases hp : p y = true
  ·rw [if_pos hp]
   exact .inr ⟨0, by simp, by simp, by simp, by simpa using hp⟩
  ·rw [if_neg hp]
   rcases findI_cases (p := p) (d := d) xs (i + 1) (by omega) with ⟨h1, h2⟩ | ⟨m, h1, h2, h3, h4⟩
   ·exact .inl ⟨h1, by simp [h2, hp]⟩
   ·exact .inr ⟨m + 1, by simpa using h1, by rw [h2]; omega, by simp [h3, hp], by simpa using h4⟩
end
end Go.Proofs.Ytmnimdnmedldgaa

namespace Go.Proofs.Ytmnimdnmedldgaa
open Go.RowKit
open Go.Proofs
set_option linter.unusedVariables false
set_option linter.unusedSimpArgs false

theorem bl_trans : ∀ x y z : List UInt8, Op.bytesLess x y = true → Op.bytesLess y z = true → Op.bytesLess x z = true
 | x, [], z, h, _ => by cases x <;> simp [Op.bytesLess] at h
 | x, b :: y, [], _, h => by simp [Op.bytesLess] at h
 | [], b :: y, c :: z, _, _ => rfl
 | a :: x, b :: y, c :: z, h1, h2 => by
  simp only [Op.bytesLess, Bool.or_eq_true, decide_eq_true_eq, Bool.and_eq_true, beq_iff_eq] at h1 h2 ⊢
  rcases h1 with h1 | ⟨rfl, h1⟩
  ·rcases h2 with h2 | ⟨rfl, h2⟩
   ·exact .inl (UInt8.lt_trans h1 h2)
   ·exact .inl h1
  ·rcases h2 with h2 | ⟨rfl, h2⟩
   ·exact .inl h2
   ·exact .inr ⟨rfl, bl_trans x y z h1 h2⟩
def posF (n : Str) : RecT → Nat
 | [] => 0
 | y :: ys => if sLt y.1 n then posF n ys + 1 else 0
def setV (l : RecT) (i : Nat) (v : Int) : RecT := l.set i ((l.getD i default).1, v)
def insF (l : RecT) (j : Nat) (y : FieldT) : RecT := l.take j ++ y :: l.drop j
def hitF (n : Str) (r : RecT) : Bool := decide (posF n r < r.length) && sEq (r.getD (posF n r) default).1 n
def setF0 (r : RecT) (n : Str) (v : Int) : RecT := if hitF n r then setV r (posF n r) v else insF r (posF n r) (n, v)
def setF (r : RecT) (n : Str) (v : Int) : RecT × Bool := if !isRec r || !isRec (setF0 r n v) then (r, false) else (setF0 r n v, true)
theorem setF_no {r o : RecT} {n : Str} {v : Int} (ho : isRec r = true → o = setF0 r n v) (h : (!isRec r || !isRec o) = true) : setF r n v = (r, false) := by
 unfold setF
 by_cases hr : isRec r = true
 ·rw [← ho hr, if_pos h]
 ·rw [if_pos (by simp [hr])]
theorem setF_yes {r o : RecT} {n : Str} {v : Int} (ho : isRec r = true → o = setF0 r n v) (h : (!isRec r || !isRec o) = false) : setF r n v = (o, true) := by
 have hr : isRec r = true := by cases hh : isRec r <;> simp_all
 rw [setF, ← ho hr, if_neg (by rw [h]; simp)]
theorem dropF_cons {l : RecT} {j : Nat} (h : j < l.length) : l.drop j = l.getD j default :: l.drop (j + 1) := by
 rw [List.drop_eq_getElem_cons h]
 simp [List.getD, List.getElem?_eq_getElem h]
theorem hit_spec {r : RecT} {n : Str} {v : Int} {j : Nat} (hj : posF n r = j) (h : (decide ((j : Int) < (r.length : Int)) && sEq (r.getD (j : Int).toNat default).1 n) = true) : setV r j v = setF0 r n v := by
 have hh : hitF n r = true := by
  rw [Bool.and_eq_true, decide_eq_true_eq, Int.toNat_natCast] at h
  unfold hitF; rw [hj, h.2, decide_eq_true (by omega)]; rfl
 rw [setF0, if_pos hh, hj]
theorem miss_spec {r : RecT} {n : Str} {v : Int} {j : Nat} (hj : posF n r = j) (h : (decide ((j : Int) < (r.length : Int)) && sEq (r.getD (j : Int).toNat default).1 n) = false) : insF r j (n, v) = setF0 r n v := by
 have hh : hitF n r = false := by
  rw [Int.toNat_natCast] at h
  unfold hitF; rw [hj]
  by_cases hl : j < r.length
  ·rw [decide_eq_true (by omega : (j : Int) < (r.length : Int))] at h; rw [decide_eq_true hl]; exact h
  ·rw [decide_eq_false hl]; rfl
 rw [setF0, if_neg (by rw [hh]; simp), hj]
theorem posF_step {n : Str} {l : RecT} {j : Nat} (hp : posF n l = j + posF n (l.drop j)) (h : (decide ((j : Int) < (l.length : Int)) && sLt (l.getD (j : Int).toNat default).1 n) = true) : j < l.length ∧ posF n l = (j + 1) + posF n (l.drop (j + 1)) := by
 obtain ⟨h1, h2⟩ := (Bool.and_eq_true _ _ ▸ h : _ ∧ _)
 have h1 := of_decide_eq_true h1
 rw [Int.toNat_natCast] at h2
 have h3 : j < l.length := by omega
 refine ⟨h3, ?_⟩
 rw [hp, dropF_cons h3, posF, if_pos h2]
 omega
theorem posF_stop {n : Str} {l : RecT} {j : Nat} (hj : j ≤ l.length) (hp : posF n l = j + posF n (l.drop j)) (h : (decide ((j : Int) < (l.length : Int)) && sLt (l.getD (j : Int).toNat default).1 n) = false) : posF n l = j := by
 rcases Nat.lt_or_ge j l.length with h3 | h3
 ·rw [decide_eq_true (by omega : (j : Int) < (l.length : Int)), Bool.true_and, Int.toNat_natCast] at h
  rw [hp, dropF_cons h3, posF, if_neg (by rw [h]; simp)]
  omega
 ·rw [hp, List.drop_eq_nil_of_le h3, posF]; omega
theorem len2 (l : RecT) : (l.flatMap eField).length = l.length * 2 := fl_len (enc := eField) (sz := 2) (fun _ => rfl) l
theorem setV_len {l : RecT} {i : Nat} {v : Int} : (setV l i v).length = l.length := by simp [setV]
theorem setR_setV {l : RecT} {i : Nat} {v : Int} (hi : i < l.length) : setR (i * 2 + 1) [DV.int .i64 v] (l.flatMap eField) = (setV l i v).flatMap eField := by
 have e : l.flatMap eField = (l.take i).flatMap eField ++ (eField (l.getD i default) ++ (l.drop (i + 1)).flatMap eField) := by
  rw [← List.flatMap_cons, ← dropF_cons hi, ← List.flatMap_append, List.take_append_drop]
 have e2 : (setV l i v).flatMap eField = (l.take i).flatMap eField ++ (eField ((l.getD i default).1, v) ++ (l.drop (i + 1)).flatMap eField) := by
  rw [setV, List.set_eq_take_append_cons_drop, if_pos hi, List.flatMap_append, List.flatMap_cons]
 have hl : ((l.take i).flatMap eField).length = i * 2 := by rw [len2, List.length_take]; omega
 rw [e, e2]
 exact setR_mid (pre := (l.take i).flatMap eField) (B := eField (l.getD i default)) (B' := eField ((l.getD i default).1, v)) (post := (l.drop (i + 1)).flatMap eField) (m := i * 2) (off := i * 2 + 1) (j := 1) hl rfl rfl (Nat.le_refl _)
theorem ok_spec_SetField {r : RecT} {n : Str} {v : Int} (hb : r.length ≤ 1099511627776) : KFn Try.prog 98 [.agg [(.dv [] (fieldsD (r)))], .one (.dv [] (.str (n))), .one (.dv [] (.int .i64 (v)))] (.tup [(true, [(.key 9001)]), (false, [(.dv [] (.bool ((setF r n v).2)))])]) [(9001, some (kcOf false (fieldsD ((setF r n v).1))))] := by
 refine ⟨fn_intro Try.func98 rfl Try.ntmps98 Try.results98 rfl (fun C => ?_)⟩
 refine yF 0 0 rfl rfl fun f0_0 => ?_
 refine ok_fact (x := .tmp 1) (ev_tmp rfl) fun f1 => ?_
 refine ok_fact (x := .tmp 2) (ev_tmp rfl) fun f2 => ?_
 iterate 7 refine z ?_
 refine zK 8998 Try.call75 ?_ (hf := ok_spec_l5Copy (x := r) (by omega))
 iterate 8 refine z ?_
 refine ok_loop (ι := Nat) (fun zz => ⟨[(1, .one (.dv [] (.str (n)))), (2, .one (.dv [] (.int .i64 (v)))), (3, .box 3 0), (6, .box 6 0), (7, .one (.dv [] (.bool (false)))), (8, .box 8 0), (9, .one (.dv [] (.int .i64 ((zz : Int)))))], [(3, 40, [(.dv [] (fieldsD (r)))]), (6, 40, [.nil]), (8, 40, [(.key 9001)])], [(9001, some (kcOf false (.sl 91 2 (r.length) (r.flatMap eField))))]⟩) (fun zz => zz ≤ r.length ∧ posF n r = zz + posF n (r.drop zz)) (fun zz => r.length - zz) (0) ?_ (weak_sub ⟨rfl, rfl, rfl, rfl, rfl, rfl, rfl, trivial⟩ ⟨rfl, rfl, rfl, trivial⟩ ⟨rfl, trivial⟩ rfl) (fun zz hx => ?_)
 ·exact ⟨Nat.zero_le _, by simp⟩
 obtain ⟨j, rfl⟩ : ∃ v, v = zz := ⟨_, rfl⟩
 replace hx : j ≤ r.length ∧ posF n r = j + posF n (r.drop j) := hx
 obtain ⟨hj, hp⟩ := hx
 show Ok _ _ _ _ _ (⟨[(1, .one (.dv [] (.str (n)))), (2, .one (.dv [] (.int .i64 (v)))), (3, .box 3 0), (6, .box 6 0), (7, .one (.dv [] (.bool (false)))), (8, .box 8 0), (9, .one (.dv [] (.int .i64 ((j : Int)))))], [(3, 40, [(.dv [] (fieldsD (r)))]), (6, 40, [.nil]), (8, 40, [(.key 9001)])], [(9001, some (kcOf false (.sl 91 2 (r.length) (r.flatMap eField))))]⟩ : St)
 iterate 18 refine z ?_
 refine yQ rfl (fun c1 => ?_) fun c1 => ?_
 ·skip
  have hst := posF_step hp c1
  have hst1 := hst.1
  iterate 3 refine z ?_
  refine ok_region ?_
  iterate 3 refine z ?_
  refine ops_nil ?_
  iterate 2 refine z ?_
  refine ⟨j + 1, ?_, ?_, weak_sub ⟨rfl, rfl, rfl, rfl, rfl, rfl, rfl, trivial⟩ ⟨rfl, rfl, rfl, trivial⟩ ⟨rfl, trivial⟩ rfl⟩
  ·exact ⟨by omega, hst.2⟩
  ·omega
 ·skip
  have hpos := posF_stop hj hp c1
  iterate 23 refine z ?_
  refine yQ rfl (fun c2 => ?_) fun c2 => ?_
  ·skip
   have hlt : j < r.length := by have h8 := c2; rw [Bool.and_eq_true, decide_eq_true_eq] at h8; omega
   refine ok_region ?_
   iterate 4 refine z ?_
   refine yO rfl rfl (pu_indexK (i := j) hT rfl rfl rfl (ev_tmp rfl) rfl (ev_tmp rfl) rfl (by show _ < (r.length); omega)) rfl ?_
   refine z ?_
   refine o_storeE (js := []) (cs := (setV r j v).flatMap eField) hT rfl rfl rfl rfl (ev_tmp rfl) (ev_tmp rfl) rfl rfl rfl rfl (ow_cons' (ow_dv rfl) ow_nil rfl) (by decide) (by decide) rfl (by show _ ≤ List.length (r.flatMap eField); rw [len2]; omega) (setR_setV (by omega)) ?_
   simp only [killT, killB, SV.kill, CV.kill, kk, Nat.reduceBEq]
   refine z ?_
   refine ok_seq ?_
   refine ok_seq ?_
   refine ok_weak (weak_eq (k := 9001) (c' := kcOf false (fieldsD (setV r j v))) rfl (congrArg (fun m => KC.mk false 91 2 m ((setV r j v).flatMap eField)) setV_len.symm) rfl) ?_
   refine ok_region ?_
   refine z ?_
   refine zC Try.call41 ?_ (hf := ok_spec_IsRecord (r := r) )
   iterate 3 refine z ?_
   refine o_callG (gd_bool rfl rfl rfl rfl rfl) rfl rfl Try.call41 (ok_spec_IsRecord (r := setV r j v) ) (fun hg => (as_cons (ev_opt rfl hg) (ag_agg (ag_cons (ac_key' rfl rfl) ag_nil)) as_nil)) rfl rfl ?_
   iterate 3 refine z ?_
   refine yQ rfl (fun c3 => ?_) fun c3 => ?_
   ·skip
    refine ok_seq ?_
    refine ok_weak (σ' := ⟨[(3, .box 3 0), (6, .box 6 0), (7, .one (.dv [] (.bool (false))))], [(3, 40, [(.dv [] (fieldsD (r)))]), (6, 40, [.nil])], []⟩) (weak_sub ⟨rfl, rfl, rfl, trivial⟩ ⟨rfl, rfl, trivial⟩ trivial rfl) ?_
    refine ok_region ?_
    refine z ?_
    refine zK 8998 Try.call75 ?_ (hf := ok_spec_l5Copy (x := r) (by omega))
    iterate 3 refine z ?_
    rw [setF_no (fun _ => hit_spec hpos c2) c3]
    refine ok_weak (σ' := ⟨[(6, .box 6 0), (7, .one (.dv [] (.bool (false))))], [(6, 40, [(.key 9001)])], [(9001, some (kcOf false (fieldsD (r))))]⟩) (weak_sub ⟨rfl, rfl, trivial⟩ ⟨rfl, trivial⟩ ⟨rfl, trivial⟩ rfl) ?_
    iterate 2 refine z ?_
    refine fin2 (res_cell hT rfl rfl rfl rfl) (res_tmp rfl) rfl rfl ?_
    first | exact ⟨rfl, rfl⟩ | skip
   ·skip
    iterate 7 refine z ?_
    rw [setF_yes (fun _ => hit_spec hpos c2) c3]
    refine ok_weak (σ' := ⟨[(6, .box 6 0), (7, .one (.dv [] (.bool (true))))], [(6, 40, [(.key 9001)])], [(9001, some (kcOf false (fieldsD (setV r j v))))]⟩) (weak_sub ⟨rfl, rfl, trivial⟩ ⟨rfl, trivial⟩ ⟨rfl, trivial⟩ rfl) ?_
    refine z ?_
    refine fin2 (res_cell hT rfl rfl rfl rfl) (res_tmp rfl) rfl rfl ?_
    first | exact ⟨rfl, rfl⟩ | skip
  ·skip
   refine ok_cutT (σ' := ⟨[(3, .box 3 0), (6, .box 6 0), (7, .one (.dv [] (.bool (false)))), (8, .box 8 0)], [(3, 40, [(.dv [] (fieldsD (r)))]), (6, 40, [.nil]), (8, 40, [(.key 9050)])], [(9001, some (kcOf false (.sl 91 2 (r.length) (r.flatMap eField)))), (9050, some (kcOf false (.sl 91 2 ((insF r j (n, v)).length) ((insF r j (n, v)).flatMap eField))))]⟩) ?_ ?_
   ·skip
    refine ok_regionH [0, 1, 2, 3, 4, 5, 6, 7, 8, 9, 10, 11, 12, 13, 14, 15, 16] (oB := [3, 6, 8]) (oK := [9001]) (by kernel_rfl) rfl rfl ?_
    refine n_start ?_
    refine zN 1 ?_
    refine zN 2 ?_
    refine zN 3 ?_
    refine n_take 4 rfl (by kernel_rfl) rfl rfl (pu_sliceH hT rfl rfl rfl (ev_tmp rfl) (ev_tmp rfl) (fun _ => rfl) (by omega) (by omega)) rfl rfl rfl rfl ?_
    refine zN 6 ?_
    refine zN 7 ?_
    refine n_take 8 rfl (by kernel_rfl) rfl rfl (pu_build hT hB rfl rfl rfl (bp_cons (ev_tmp rfl) rfl rfl rfl rfl rfl (bp_cons (ev_tmp rfl) rfl rfl rfl rfl rfl bp_nil))) rfl rfl rfl rfl ?_
    refine zN 11 ?_
    refine zN 12 ?_
    refine zN 13 ?_
    refine n_take 14 rfl (by kernel_rfl) rfl rfl (pu_sliceL hT rfl rfl rfl (ev_tmp rfl) (ev_tmp rfl) (fun _ => rfl) (by omega) (by omega)) rfl rfl rfl rfl ?_
    refine n_split 0 [9] (by kernel_rfl) ⟨?_, ?_, trivial⟩
    ·skip
     refine nj_build0 (k := 9050) 0 hT rfl rfl rfl rfl rfl rfl rfl rfl rfl rfl rfl rfl ?_
     refine n_split 5 [9] (by kernel_rfl) ⟨?_, ?_, trivial⟩
     ·skip
      refine nj_appV (k := 9050) (cs := (r.take j).flatMap eField) (n := (r.take j).length) 5 hT rfl rfl rfl rfl rfl rfl rfl rfl (ev_tmp rfl) rfl rfl rfl (ev_tmp rfl) (plain_flat (fun _ => rfl) _) (by dsimp only [kcOf]; simp only [List.length_take]; omega) (by dsimp only [kcOf]; simp only [List.length_take]; omega) (Nat.zero_add _) (rfl) rfl rfl ?_
      simp only [killT, killB, SV.kill, CV.kill, kk, Nat.reduceBEq]
      refine n_split 9 [] (by kernel_rfl) ⟨?_, trivial⟩
      ·skip
       refine nj_buildN (k := 9059) (js := []) 9 hT rfl rfl rfl rfl rfl rfl rfl rfl rfl rfl rfl rfl (ep_cons (ev_tmp rfl) rfl rfl rfl ep_nil) (ow_cons' (ow_dv rfl) (ow_cons' (ow_dv rfl) ow_nil rfl) rfl) (by decide) (by decide) rfl rfl rfl rfl rfl ?_
       simp only [killT, killB, SV.kill, CV.kill, kk, Nat.reduceBEq]
       refine n_split 10 [] (by kernel_rfl) ⟨?_, trivial⟩
       ·skip
        refine nj_appV (k := 9050) (cs := ((r.take j) ++ [(n, v)]).flatMap eField) (n := ((r.take j) ++ [(n, v)]).length) (m := 1) (ds := [.str (n), .int .i64 (v)]) 10 hT rfl rfl rfl rfl rfl rfl rfl rfl (ev_tmp rfl) rfl rfl rfl (ev_keyv' (ev_tmp rfl) rfl rfl) rfl (by dsimp only [kcOf]; simp only [List.length_take]; omega) (by dsimp only [kcOf]; simp only [List.length_take]; omega) (by simp) (by rw [List.flatMap_append]; rfl) rfl rfl ?_
        simp only [killT, killB, SV.kill, CV.kill, kk, Nat.reduceBEq]
        refine n_split 15 [] (by kernel_rfl) ⟨?_, trivial⟩
        ·skip
         refine nj_appV (k := 9050) (cs := (insF r j (n, v)).flatMap eField) (n := (insF r j (n, v)).length) 15 hT rfl rfl rfl rfl rfl rfl rfl rfl (ev_tmp rfl) rfl rfl rfl (ev_tmp rfl) (plain_flat (fun _ => rfl) _) (by dsimp only [kcOf]; simp only [List.length_append, List.length_take, List.length_drop, List.length_singleton]; omega) (by dsimp only [kcOf]; simp only [List.length_append, List.length_take, List.length_drop, List.length_singleton]; omega) (by simp [insF]; omega) (by rw [← List.flatMap_append, insF, List.append_assoc]; rfl) rfl rfl ?_
         simp only [killT, killB, SV.kill, CV.kill, kk, Nat.reduceBEq]
         refine zN 16 ?_
         refine n_split 17 [] (by kernel_rfl) ⟨?_, trivial⟩
         ·skip
          refine nj_last 17 rfl rfl (by kernel_rfl) (ef_storeBox hT rfl rfl rfl (ev_tmp rfl) (ev_tmp rfl) rfl rfl rfl rfl rfl rfl) (by kernel_rfl) ?_
          exact then_n (weak_sub ⟨rfl, rfl, rfl, rfl, trivial⟩ ⟨rfl, rfl, rfl, trivial⟩ ⟨rfl, rfl, trivial⟩ rfl)
     ·skip
      refine nj_buildN (k := 9059) (js := []) 9 hT rfl rfl rfl rfl rfl rfl rfl rfl rfl rfl rfl rfl (ep_cons (ev_tmp rfl) rfl rfl rfl ep_nil) (ow_cons' (ow_dv rfl) (ow_cons' (ow_dv rfl) ow_nil rfl) rfl) (by decide) (by decide) rfl rfl rfl rfl rfl ?_
      simp only [killT, killB, SV.kill, CV.kill, kk, Nat.reduceBEq]
      refine n_split 5 [] (by kernel_rfl) ⟨?_, trivial⟩
      ·skip
       refine nj_appV (k := 9050) (cs := (r.take j).flatMap eField) (n := (r.take j).length) 5 hT rfl rfl rfl rfl rfl rfl rfl rfl (ev_tmp rfl) rfl rfl rfl (ev_tmp rfl) (plain_flat (fun _ => rfl) _) (by dsimp only [kcOf]; simp only [List.length_take]; omega) (by dsimp only [kcOf]; simp only [List.length_take]; omega) (Nat.zero_add _) (rfl) rfl rfl ?_
       simp only [killT, killB, SV.kill, CV.kill, kk, Nat.reduceBEq]
       refine n_split 10 [] (by kernel_rfl) ⟨?_, trivial⟩
       ·skip
        refine nj_appV (k := 9050) (cs := ((r.take j) ++ [(n, v)]).flatMap eField) (n := ((r.take j) ++ [(n, v)]).length) (m := 1) (ds := [.str (n), .int .i64 (v)]) 10 hT rfl rfl rfl rfl rfl rfl rfl rfl (ev_tmp rfl) rfl rfl rfl (ev_keyv' (ev_tmp rfl) rfl rfl) rfl (by dsimp only [kcOf]; simp only [List.length_take]; omega) (by dsimp only [kcOf]; simp only [List.length_take]; omega) (by simp) (by rw [List.flatMap_append]; rfl) rfl rfl ?_
        simp only [killT, killB, SV.kill, CV.kill, kk, Nat.reduceBEq]
        refine n_split 15 [] (by kernel_rfl) ⟨?_, trivial⟩
        ·skip
         refine nj_appV (k := 9050) (cs := (insF r j (n, v)).flatMap eField) (n := (insF r j (n, v)).length) 15 hT rfl rfl rfl rfl rfl rfl rfl rfl (ev_tmp rfl) rfl rfl rfl (ev_tmp rfl) (plain_flat (fun _ => rfl) _) (by dsimp only [kcOf]; simp only [List.length_append, List.length_take, List.length_drop, List.length_singleton]; omega) (by dsimp only [kcOf]; simp only [List.length_append, List.length_take, List.length_drop, List.length_singleton]; omega) (by simp [insF]; omega) (by rw [← List.flatMap_append, insF, List.append_assoc]; rfl) rfl rfl ?_
         simp only [killT, killB, SV.kill, CV.kill, kk, Nat.reduceBEq]
         refine zN 16 ?_
         refine n_split 17 [] (by kernel_rfl) ⟨?_, trivial⟩
         ·skip
          refine nj_last 17 rfl rfl (by kernel_rfl) (ef_storeBox hT rfl rfl rfl (ev_tmp rfl) (ev_tmp rfl) rfl rfl rfl rfl rfl rfl) (by kernel_rfl) ?_
          exact then_n (weak_sub ⟨rfl, rfl, rfl, rfl, trivial⟩ ⟨rfl, rfl, rfl, trivial⟩ ⟨rfl, rfl, trivial⟩ rfl)
    ·skip
     refine nj_buildN (k := 9059) (js := []) 9 hT rfl rfl rfl rfl rfl rfl rfl rfl rfl rfl rfl rfl (ep_cons (ev_tmp rfl) rfl rfl rfl ep_nil) (ow_cons' (ow_dv rfl) (ow_cons' (ow_dv rfl) ow_nil rfl) rfl) (by decide) (by decide) rfl rfl rfl rfl rfl ?_
     simp only [killT, killB, SV.kill, CV.kill, kk, Nat.reduceBEq]
     refine n_split 0 [] (by kernel_rfl) ⟨?_, trivial⟩
     ·skip
      refine nj_build0 (k := 9050) 0 hT rfl rfl rfl rfl rfl rfl rfl rfl rfl rfl rfl rfl ?_
      refine n_split 5 [] (by kernel_rfl) ⟨?_, trivial⟩
      ·skip
       refine nj_appV (k := 9050) (cs := (r.take j).flatMap eField) (n := (r.take j).length) 5 hT rfl rfl rfl rfl rfl rfl rfl rfl (ev_tmp rfl) rfl rfl rfl (ev_tmp rfl) (plain_flat (fun _ => rfl) _) (by dsimp only [kcOf]; simp only [List.length_take]; omega) (by dsimp only [kcOf]; simp only [List.length_take]; omega) (Nat.zero_add _) (rfl) rfl rfl ?_
       simp only [killT, killB, SV.kill, CV.kill, kk, Nat.reduceBEq]
       refine n_split 10 [] (by kernel_rfl) ⟨?_, trivial⟩
       ·skip
        refine nj_appV (k := 9050) (cs := ((r.take j) ++ [(n, v)]).flatMap eField) (n := ((r.take j) ++ [(n, v)]).length) (m := 1) (ds := [.str (n), .int .i64 (v)]) 10 hT rfl rfl rfl rfl rfl rfl rfl rfl (ev_tmp rfl) rfl rfl rfl (ev_keyv' (ev_tmp rfl) rfl rfl) rfl (by dsimp only [kcOf]; simp only [List.length_take]; omega) (by dsimp only [kcOf]; simp only [List.length_take]; omega) (by simp) (by rw [List.flatMap_append]; rfl) rfl rfl ?_
        simp only [killT, killB, SV.kill, CV.kill, kk, Nat.reduceBEq]
        refine n_split 15 [] (by kernel_rfl) ⟨?_, trivial⟩
        ·skip
         refine nj_appV (k := 9050) (cs := (insF r j (n, v)).flatMap eField) (n := (insF r j (n, v)).length) 15 hT rfl rfl rfl rfl rfl rfl rfl rfl (ev_tmp rfl) rfl rfl rfl (ev_tmp rfl) (plain_flat (fun _ => rfl) _) (by dsimp only [kcOf]; simp only [List.length_append, List.length_take, List.length_drop, List.length_singleton]; omega) (by dsimp only [kcOf]; simp only [List.length_append, List.length_take, List.length_drop, List.length_singleton]; omega) (by simp [insF]; omega) (by rw [← List.flatMap_append, insF, List.append_assoc]; rfl) rfl rfl ?_
         simp only [killT, killB, SV.kill, CV.kill, kk, Nat.reduceBEq]
         refine zN 16 ?_
         refine n_split 17 [] (by kernel_rfl) ⟨?_, trivial⟩
         ·skip
          refine nj_last 17 rfl rfl (by kernel_rfl) (ef_storeBox hT rfl rfl rfl (ev_tmp rfl) (ev_tmp rfl) rfl rfl rfl rfl rfl rfl) (by kernel_rfl) ?_
          exact then_n (weak_sub ⟨rfl, rfl, rfl, rfl, trivial⟩ ⟨rfl, rfl, rfl, trivial⟩ ⟨rfl, rfl, trivial⟩ rfl)
   refine ok_seq ?_
   refine ok_seq ?_
   refine ok_weak (weak_swapB (b := 8) (i := 0) (k := 9050) (k' := 9001) rfl rfl rfl rfl (by decide) rfl rfl) ?_
   simp only [killT, killB, SV.kill, CV.kill, kk, Nat.reduceBEq]
   refine ok_weak (weak_eq (k := 9001) (c' := kcOf false (fieldsD (insF r j (n, v)))) rfl (rfl) rfl) ?_
   refine ok_region ?_
   refine z ?_
   refine zC Try.call41 ?_ (hf := ok_spec_IsRecord (r := r) )
   iterate 3 refine z ?_
   refine o_callG (gd_bool rfl rfl rfl rfl rfl) rfl rfl Try.call41 (ok_spec_IsRecord (r := insF r j (n, v)) ) (fun hg => (as_cons (ev_opt rfl hg) (ag_agg (ag_cons (ac_key' rfl rfl) ag_nil)) as_nil)) rfl rfl ?_
   iterate 3 refine z ?_
   refine yQ rfl (fun c4 => ?_) fun c4 => ?_
   ·skip
    refine ok_seq ?_
    refine ok_weak (σ' := ⟨[(3, .box 3 0), (6, .box 6 0), (7, .one (.dv [] (.bool (false))))], [(3, 40, [(.dv [] (fieldsD (r)))]), (6, 40, [.nil])], []⟩) (weak_sub ⟨rfl, rfl, rfl, trivial⟩ ⟨rfl, rfl, trivial⟩ trivial rfl) ?_
    refine ok_region ?_
    refine z ?_
    refine zK 8998 Try.call75 ?_ (hf := ok_spec_l5Copy (x := r) (by omega))
    iterate 3 refine z ?_
    rw [setF_no (fun _ => miss_spec hpos c2) c4]
    refine ok_weak (σ' := ⟨[(6, .box 6 0), (7, .one (.dv [] (.bool (false))))], [(6, 40, [(.key 9001)])], [(9001, some (kcOf false (fieldsD (r))))]⟩) (weak_sub ⟨rfl, rfl, trivial⟩ ⟨rfl, trivial⟩ ⟨rfl, trivial⟩ rfl) ?_
    iterate 2 refine z ?_
    refine fin2 (res_cell hT rfl rfl rfl rfl) (res_tmp rfl) rfl rfl ?_
    first | exact ⟨rfl, rfl⟩ | skip
   ·skip
    iterate 7 refine z ?_
    rw [setF_yes (fun _ => miss_spec hpos c2) c4]
    refine ok_weak (σ' := ⟨[(6, .box 6 0), (7, .one (.dv [] (.bool (true))))], [(6, 40, [(.key 9001)])], [(9001, some (kcOf false (fieldsD (insF r j (n, v)))))]⟩) (weak_sub ⟨rfl, rfl, trivial⟩ ⟨rfl, trivial⟩ ⟨rfl, trivial⟩ rfl) ?_
    refine z ?_
    refine fin2 (res_cell hT rfl rfl rfl rfl) (res_tmp rfl) rfl rfl ?_
    first | exact ⟨rfl, rfl⟩ | skip
end Go.Proofs.Ytmnimdnmedldgaa

namespace Go.Proofs.Ytmnimdnmedldgaa
open Go.RowKit
open Go.Proofs
set_option linter.unusedVariables false
set_option linter.unusedSimpArgs false

theorem kEq_self (k : KeyT) : kEq k k = true := by simp [kEq, sEq]
theorem kEq_eq {a b : KeyT} (h : kEq a b = true) : a = b := by
 simp only [kEq, sEq, Bool.and_eq_true, decide_eq_true_eq, beq_iff_eq] at h
 exact Prod.ext h.1 (Prod.ext h.2.1 (by
  have := h.2.2
  rw [toList_data, toList_data] at this
  exact ByteArray.ext (Array.toList_inj.1 this)))
theorem findI_key {k : KeyT} : ∀ (l : List ItemT) (i : Int), findI (fun y : ItemT => kEq y.1 k) l i = findI (fun q : KeyT => kEq q k) (l.map Prod.fst) i
 | [], _ => rfl
 | x :: l, i => by rw [List.map_cons, findI, findI, findI_key l (i + 1)]
theorem setI_keys {l : List ItemT} {i : Nat} {r : RecT} : (setI l i r).map Prod.fst = l.map Prod.fst := by
 apply List.ext_getElem?
 intro j
 rw [setI, List.getElem?_map, List.getElem?_set, List.getElem?_map]
 by_cases h : i = j
 ·subst h
  by_cases h2 : i < l.length
  ·simp [h2, List.getD]
  ·simp [h2]
 ·simp [h]
theorem findI_app {α : Type} {p : α → Bool} : ∀ (a : List α) {y : α} {b : List α} (i : Int), a.any p = false → p y = true → findI p (a ++ y :: b) i = i + (a.length : Int)
 | [], y, b, i, _, hy => by rw [List.nil_append, findI, if_pos hy]; simp
 | x :: a, y, b, i, ha, hy => by
  simp only [List.any_cons, Bool.or_eq_false_iff] at ha
  rw [List.cons_append, findI, if_neg (by rw [ha.1]; simp), findI_app a (i + 1) ha.2 hy, List.length_cons]
  omega
theorem posK_le (k : KeyT) : ∀ l : List ItemT, posK k l ≤ l.length
 | [] => Nat.le_refl _
 | y :: ys => by have := posK_le k ys; rw [posK]; split <;> simp only [List.length_cons] <;> omega
theorem put_cases {x : StoreT} {k : KeyT} {r : RecT} (h : (putN x k r).2 = true) : isSto x = true ∧ isKey k = true ∧ isRec r = true ∧
  ((0 ≤ fndK x k ∧ putN x k r = ((x.1, setI x.2.1 (fndK x k).toNat r, x.2.2), true)) ∨ (fndK x k < 0 ∧ x.2.1.length < 16 ∧ putN x k r = ((x.1, insI x.2.1 (posK k x.2.1) (k, r), autoP x k), true))) := by
 unfold putN at h ⊢
 split at h
 ·cases h
 ·rename_i h1
  have h1' : isSto x = true ∧ isKey k = true ∧ isRec r = true := by
   revert h1; cases isSto x <;> cases isKey k <;> cases isRec r <;> simp
  refine ⟨h1'.1, h1'.2.1, h1'.2.2, ?_⟩
  rw [if_neg h1]
  split at h
  ·rename_i h2
   exact .inl ⟨h2, by rw [if_pos h2]⟩
  ·rename_i h2
   split at h
   ·cases h
   ·rename_i h3
    exact .inr ⟨by omega, by omega, by rw [if_neg h2, if_neg h3]⟩
theorem put_find {x : StoreT} {k : KeyT} {r : RecT} (h : (putN x k r).2 = true) : 0 ≤ fndK (putN x k r).1 k ∧ fndK (putN x k r).1 k < (putN x k r).1.2.1.length ∧ ((putN x k r).1.2.1.getD (fndK (putN x k r).1 k).toNat default).2 = r := by
 obtain ⟨_, _, _, ⟨h1, h2⟩ | ⟨h1, h3, h2⟩⟩ := put_cases h
 ·rw [h2]
  have e : fndK (x.1, setI x.2.1 (fndK x k).toNat r, x.2.2) k = fndK x k := by
   show findI _ (setI x.2.1 (fndK x k).toNat r) 0 = findI _ x.2.1 0
   rw [findI_key, setI_keys, ← findI_key]
  have h4 := fndK_lt h1
  dsimp only
  rw [e]
  refine ⟨h1, by rw [setI_len]; exact h4, ?_⟩
  have h5 : (fndK x k).toNat < x.2.1.length := by omega
  simp [setI, List.getD, h5]
 ·rw [h2]
  have hn : x.2.1.any (fun y : ItemT => kEq y.1 k) = false := findI_neg _ 0 (by omega) h1
  have hp := posK_le k x.2.1
  have e : fndK (x.1, insI x.2.1 (posK k x.2.1) (k, r), autoP x k) k = (posK k x.2.1 : Int) := by
   show findI _ (insI x.2.1 (posK k x.2.1) (k, r)) 0 = _
   unfold insI
   rw [List.append_assoc, List.singleton_append, findI_app (p := fun y : ItemT => kEq y.1 k) _ 0 ?_ (kEq_self k), List.length_take]
   ·omega
   ·rw [List.any_eq_false] at hn ⊢
    exact fun y hy => hn y (List.mem_of_mem_take hy)
  dsimp only
  rw [e]
  refine ⟨by omega, by rw [insI_len]; omega, ?_⟩
  have h5 : (x.2.1.take (posK k x.2.1)).length = posK k x.2.1 := by rw [List.length_take]; omega
  rw [Int.toNat_natCast]
  unfold insI
  rw [List.append_assoc, List.singleton_append, List.getD_eq_getElem?_getD, List.getElem?_append_right (by omega), h5, Nat.sub_self]
  rfl
theorem put_sto {x : StoreT} {k : KeyT} {r : RecT} (h : (putN x k r).2 = true) : isSto (putN x k r).1 = true := by
 obtain ⟨hs, hk, hr, ⟨h1, h2⟩ | ⟨h1, h3, h2⟩⟩ := put_cases h
 ·rw [h2]; dsimp only
  have h4 := fndK_lt h1
  rw [sto_set hs (by omega), hr]
 ·rw [h2]; dsimp only
  rw [sto_ins hs hk h1 (auto_ok hs), hr]; simpa using h3
theorem putN_sto {x : StoreT} {k : KeyT} {r : RecT} (h : isSto x = true) : isSto (putN x k r).1 = true := by
 cases h2 : (putN x k r).2 with
 | true => exact put_sto h2
 | false => rw [putN_f h2]; exact h
theorem putN_name (x : StoreT) (k : KeyT) (r : RecT) : (putN x k r).1.1 = x.1 := by
 cases h2 : (putN x k r).2 with
 | true => obtain ⟨_, _, _, ⟨_, h⟩ | ⟨_, _, h⟩⟩ := put_cases h2 <;> rw [h]
 | false => rw [putN_f h2]
theorem put_auto {x : StoreT} {k : KeyT} {r : RecT} : x.2.2 ≤ (putN x k r).1.2.2 := by
 cases h2 : (putN x k r).2 with
 | true =>
  obtain ⟨_, _, _, ⟨_, h⟩ | ⟨_, _, h⟩⟩ := put_cases h2 <;> rw [h]
  ·exact Int.le_refl _
  ·dsimp only
   unfold autoP
   split
   ·rename_i h3
    simp only [Bool.and_eq_true, decide_eq_true_eq] at h3
    omega
   ·omega
 | false => rw [putN_f h2]; exact Int.le_refl _
theorem add_two {x : StoreT} {k : KeyT} {r : RecT} : (addN x k r).2 = ((putN x k r).2 && decide (fndK x k < 0)) := by
 unfold addN
 split
 ·rename_i h; rw [decide_eq_false (by omega), Bool.and_false]
 ·rename_i h; rw [decide_eq_true (by omega), Bool.and_true]
theorem auto_law {x : StoreT} {r : RecT} (h : (autoN x r).2.2 = true) : (autoN x r).2.1 = keyA x ∧ fndK x (keyA x) < 0 ∧ 0 ≤ fndK (autoN x r).1 (keyA x) ∧ (autoN x r).1.2.1.length = x.2.1.length + 1 ∧ x.2.2 < 1000000 := by
 unfold autoN at h ⊢
 split at h
 ·cases h
 ·rename_i h1
  rw [if_neg h1]
  split at h
  ·rename_i h2
   rw [if_pos h2]
   have h3 := h2
   rw [add_two, Bool.and_eq_true, decide_eq_true_eq] at h3
   have e : addN x (keyA x) r = putN x (keyA x) r := if_neg (by omega)
   dsimp only
   rw [e]
   refine ⟨rfl, h3.2, (put_find h3.1).1, ?_, by omega⟩
   obtain ⟨_, _, _, ⟨h4, _⟩ | ⟨_, _, h5⟩⟩ := put_cases h3.1
   ·omega
   ·rw [h5]; exact insI_len
  ·cases h
/-! ### deletions -/
end Go.Proofs.Ytmnimdnmedldgaa

namespace Go.Proofs.Ytmnimdnmedldgaa
open Go.RowKit
open Go.Proofs
set_option linter.unusedVariables false
set_option linter.unusedSimpArgs false

theorem sgnI_neg {a b : Int} : sgnI a b < 0 ↔ a < b := by unfold sgnI; split <;> (try split) <;> omega
theorem sgnS_neg {a b : Str} : sgnS a b < 0 ↔ sLt a b = true := by
 unfold sgnS
 split
 ·rename_i h; simp [h]
 ·rename_i h; split <;> simp [h]
theorem cmp_lt {a b : KeyT} (h : cmpK a b < 0) : isKey a = true ∧ isKey b = true ∧ (a.1 < b.1 ∨ (a.1 = b.1 ∧ (a.2.1 < b.2.1 ∨ (a.2.1 = b.2.1 ∧ sLt a.2.2 b.2.2 = true)))) := by
 by_cases hk : (!isKey a || !isKey b) = true
 ·rw [cmpK_bad hk] at h; omega
 ·have hk : (!isKey a || !isKey b) = false := by simpa using hk
  obtain ⟨ha, hb⟩ := not_or_f hk
  refine ⟨ha, hb, ?_⟩
  by_cases h1 : a.1 = b.1
  ·by_cases h2 : a.2.1 = b.2.1
   ·rw [cmpK_text hk h1 h2, sgnS_neg] at h; exact .inr ⟨h1, .inr ⟨h2, h⟩⟩
   ·rw [cmpK_num hk h1 h2, sgnI_neg] at h; exact .inr ⟨h1, .inl h⟩
  ·rw [cmpK_kind hk h1, sgnI_neg] at h; exact .inl h
theorem lt_cmp {a b : KeyT} (ha : isKey a = true) (hb : isKey b = true) (h : a.1 < b.1 ∨ (a.1 = b.1 ∧ (a.2.1 < b.2.1 ∨ (a.2.1 = b.2.1 ∧ sLt a.2.2 b.2.2 = true)))) : cmpK a b < 0 := by
 have hk : (!isKey a || !isKey b) = false := by rw [ha, hb]; rfl
 rcases h with h | ⟨h1, h | ⟨h2, h⟩⟩
 ·rw [cmpK_kind hk (by omega), sgnI_neg]; exact h
 ·rw [cmpK_num hk h1 (by omega), sgnI_neg]; exact h
 ·rw [cmpK_text hk h1 h2, sgnS_neg]; exact h
theorem cmp_trans {a b c : KeyT} (h1 : cmpK a b < 0) (h2 : cmpK b c < 0) : cmpK a c < 0 := by
 obtain ⟨ha, hb, k1⟩ := cmp_lt h1
 obtain ⟨_, hc, k2⟩ := cmp_lt h2
 refine lt_cmp ha hc ?_
 rcases k1 with k1 | ⟨e1, k1 | ⟨e2, k1⟩⟩ <;> rcases k2 with k2 | ⟨f1, k2 | ⟨f2, k2⟩⟩
 ·exact .inl (by omega)
 ·exact .inl (by omega)
 ·exact .inl (by omega)
 ·exact .inl (by omega)
 ·exact .inr ⟨by omega, .inl (by omega)⟩
 ·exact .inr ⟨by omega, .inl (by omega)⟩
 ·exact .inl (by omega)
 ·exact .inr ⟨by omega, .inl (by omega)⟩
 ·exact .inr ⟨by omega, .inr ⟨by omega, (bl_trans _ _ _ k1 k2)⟩⟩
abbrev Srt (l : List ItemT) : Prop := l.Pairwise fun a b => cmpK a.1 b.1 < 0
theorem okL_srt : ∀ (l : List ItemT) (p : Option KeyT), okL p l = true → Srt l ∧ (∀ q, p = some q → ∀ y ∈ l, cmpK q y.1 < 0) ∧ ∀ y ∈ l, isKey y.1 = true
 | [], _, _ => ⟨List.Pairwise.nil, by simp, by simp⟩
 | x :: l, p, h => by
  simp only [okL, Bool.and_eq_true] at h
  obtain ⟨i1, i2, i3⟩ := okL_srt l (some x.1) (by first | exact h.2 | exact h.1.2)
  have hx : relP p x.1 = true := by first | exact h.1.2 | exact h.1.1.2 | exact h.2.1 | grind
  have hkx : isKey x.1 = true := by first | exact h.1.1.1 | exact h.1.1 | grind
  refine ⟨List.pairwise_cons.2 ⟨i2 _ rfl, i1⟩, ?_, ?_⟩
  ·rintro q rfl y hy
   have hq : cmpK q x.1 < 0 := by simpa [relP] using hx
   rcases List.mem_cons.1 hy with rfl | hy
   ·exact hq
   ·exact cmp_trans hq (i2 _ rfl y hy)
  ·intro y hy
   rcases List.mem_cons.1 hy with rfl | hy
   ·exact hkx
   ·exact i3 y hy
theorem sto_srt {s : StoreT} (h : isSto s = true) : Srt s.2.1 ∧ (∀ y ∈ s.2.1, isKey y.1 = true) ∧ s.2.1.length ≤ 16 := by
 rw [isSto_eq] at h
 simp only [Bool.and_eq_true, decide_eq_true_eq] at h
 obtain ⟨h1, _, h3⟩ := okL_srt _ _ h.1
 exact ⟨h1, h3, by omega⟩
/-! ### walks of a cursor -/
end Go.Proofs.Ytmnimdnmedldgaa

namespace Go.Proofs.Ytmnimdnmedldgaa
open Go.RowKit
open Go.Proofs
set_option linter.unusedVariables false
set_option linter.unusedSimpArgs false

theorem rem_rng {a n : Int} (ha : 0 ≤ a) (hn : 0 < n) : 0 ≤ a % n ∧ a % n < n := ⟨Int.emod_nonneg a (by omega), Int.emod_lt_of_pos a hn⟩
theorem getD_memI {l : List Int} {x : Int} (h0 : 0 ≤ x) (h1 : x < (l.length : Int)) : l.getD x.toNat default ∈ l := by
 rw [List.getD_eq_getElem?_getD, List.getElem?_eq_getElem (by omega)]; exact List.getElem_mem _
theorem getD_memS {l : List Str} {x : Int} (h0 : 0 ≤ x) (h1 : x < (l.length : Int)) : l.getD x.toNat default ∈ l := by
 rw [List.getD_eq_getElem?_getD, List.getElem?_eq_getElem (by omega)]; exact List.getElem_mem _

theorem ok_spec_l1New {code : List UInt8} (hc : code.length ≤ 1048576) : NFn Try.prog 45 102 (bytesD (code)) (fun zz : Int × Int => 0 ≤ zz.1) (fun zz : Int × Int => [.dv [] (.int .i64 (zz.1)), .dv [] (.int .i64 (zz.2))]) := by
 refine ⟨fn_intro Try.func45 rfl Try.ntmps45 Try.results45 rfl (fun C => ?_)⟩
 refine z ?_
 refine yO rfl rfl (pu_move (.inr rfl) ev_any) rfl ?_
 iterate 3 refine z ?_
 refine yO rfl rfl (pu_lenV hT rfl rfl (ev_argv (ev_tmp rfl))) rfl ?_
 iterate 8 refine z ?_
 refine ok_loop (ι := Int × Int) (fun zz => ⟨[(0, .one (.arg 0 (bytesD (code)))), (2, .one .any), (3, .one (.dv [] (.int .i64 (zz.1)))), (4, .one (.dv [] (.int .i64 (zz.2))))], [], []⟩) (fun zz => 0 ≤ zz.2) (fun zz => (code.length - zz.2).toNat) ((193017 + (code.length : Int), 0)) ?_ (weak_sub ⟨rfl, rfl, rfl, rfl, trivial⟩ trivial trivial rfl) (fun zz hx => ?_)
 ·exact Int.le_refl _
 obtain ⟨h, i⟩ := zz
 replace hx : 0 ≤ i := hx
 show Ok _ _ _ _ _ (⟨[(0, .one (.arg 0 (bytesD (code)))), (2, .one .any), (3, .one (.dv [] (.int .i64 (h)))), (4, .one (.dv [] (.int .i64 (i))))], [], []⟩ : St)
 iterate 4 refine z ?_
 refine yO rfl rfl (pu_lenV hT rfl rfl (ev_argv (ev_tmp rfl))) rfl ?_
 iterate 6 refine z ?_
 refine yQ rfl (fun c1 => ?_) fun c1 => ?_
 ·skip
  simp only [Bool.and_eq_true, decide_eq_true_eq] at c1
  iterate 4 refine z ?_
  refine ok_region ?_
  refine z ?_
  refine yO rfl rfl (pu_mul rfl (ev_tmp rfl) (ev_int (inR_lit rfl))) rfl ?_
  iterate 2 refine z ?_
  refine yO rfl rfl (pu_indexD hT rfl rfl rfl (ev_argv (ev_tmp rfl)) (ev_tmp rfl) (fun _ => rfl) (by omega) (by omega)) rfl ?_
  refine z ?_
  refine yO rfl rfl (pu_convI hT rfl rfl rfl (ev_tmp rfl)) rfl ?_
  refine yO rfl rfl (pu_add rfl (ev_tmp rfl) (ev_tmp rfl)) rfl ?_
  refine yO rfl rfl (pu_add rfl (ev_tmp rfl) (ev_int (inR_lit rfl))) rfl ?_
  refine yO rfl rfl (pu_andZ rfl (ev_tmp rfl) (ev_int (inR_lit rfl))) rfl ?_
  refine z ?_
  refine ops_nil ?_
  generalize bits .and .i64 (IntKind.i64.wrap ((IntKind.i64.wrap ((IntKind.i64.wrap ((h) * (137))) + (IntKind.i64.wrap ((((((code)).getD (i).toNat default)).toNat : Int))))) + (11))) (1073741823) = z27
  iterate 2 refine z ?_
  refine ok_region ?_
  iterate 4 refine z ?_
  refine ⟨(z27, i + 1), ?_, ?_, weak_sub ⟨rfl, rfl, rfl, rfl, trivial⟩ trivial trivial rfl⟩
  ·show 0 ≤ i + 1; omega
  ·dsimp only; omega
 ·skip
  iterate 8 refine z ?_
  refine yO rfl rfl (pu_build hT hB rfl rfl rfl (bp_cons (ev_tmp rfl) rfl rfl rfl rfl rfl (bp_cons (ev_tmp rfl) rfl rfl rfl rfl rfl bp_nil))) rfl ?_
  iterate 4 refine z ?_
  refine fin1 (res_tmp rfl) ⟨(0, h), 31, ?_, rfl, rfl⟩
  exact Int.le_refl _
theorem ok_spec_l1Byte {code : List UInt8} {i h : Int} (hc : code.length ≤ 1048576) (hi : 0 ≤ i) : BFn Try.prog 102 [] 102 (bytesD (code)) [.dv [] (.int .i64 (i)), .dv [] (.int .i64 (h))] (fun zz : Int × Int × Int => 0 ≤ zz.1 ∧ zz.1 ≤ 255 ∧ 0 ≤ zz.2.1) (fun zz : Int × Int × Int => .one (.dv [] (.int .i64 (zz.1)))) (fun zz : Int × Int × Int => []) (fun zz : Int × Int × Int => [.dv [] (.int .i64 (zz.2.1)), .dv [] (.int .i64 (zz.2.2))]) := by
 refine ⟨fn_introS Try.func102 rfl Try.ntmps102 Try.results102 rfl (fun C => ?_)⟩
 iterate 4 refine z ?_
 refine yO rfl rfl (pu_move (.inl rfl) (ev_abox (ev_tmp rfl))) rfl ?_
 refine yO rfl rfl (pu_move (.inl rfl) (ev_abox (ev_tmp rfl))) rfl ?_
 refine yO rfl rfl (pu_nilB rfl (ev_tmp rfl)) rfl ?_
 iterate 2 refine z ?_
 refine yO rfl rfl (pu_mul rfl (ev_tmp rfl) (ev_int (inR_lit rfl))) rfl ?_
 refine yO rfl rfl (pu_add rfl (ev_tmp rfl) (ev_int (inR_lit rfl))) rfl ?_
 refine yO rfl rfl (pu_nilB rfl (ev_tmp rfl)) rfl ?_
 iterate 2 refine z ?_
 refine ops_nil ?_
 generalize IntKind.i64.wrap ((IntKind.i64.wrap ((h) * (6364136223846793005))) + (1442695040888963407)) = z10
 refine z ?_
 refine ok_seq ?_
 refine ok_regionD (oB := [0]) (oK := []) (by kernel_rfl) rfl rfl ?_
 refine d_take 0 rfl (by kernel_rfl) rfl rfl (pu_move (.inl rfl) (ev_abox (ev_tmp rfl))) rfl rfl rfl rfl ?_
 refine d_take 1 rfl (by kernel_rfl) rfl rfl (pu_nilB rfl (ev_tmp rfl)) rfl rfl rfl rfl ?_
 refine zD 2 ?_
 refine zD 3 ?_
 refine d_take 4 rfl (by kernel_rfl) rfl rfl (pu_shrZ rfl (ev_tmp rfl) (ev_int (inR_lit rfl)) (by omega) (by decide)) rfl rfl rfl rfl ?_
 refine d_take 5 rfl (by kernel_rfl) rfl rfl (pu_move (.inl rfl) (ev_abox (ev_tmp rfl))) rfl rfl rfl rfl ?_
 refine d_take 6 rfl (by kernel_rfl) rfl rfl (pu_nilB rfl (ev_tmp rfl)) rfl rfl rfl rfl ?_
 refine zD 7 ?_
 refine zD 8 ?_
 refine d_take 9 rfl (by kernel_rfl) rfl rfl (pu_shrZ rfl (ev_tmp rfl) (ev_int (inR_lit rfl)) (by omega) (by decide)) rfl rfl rfl rfl ?_
 refine d_take 10 rfl (by kernel_rfl) rfl rfl (pu_xorZ rfl (ev_tmp rfl) (ev_tmp rfl)) rfl rfl rfl rfl ?_
 refine d_take 11 rfl (by kernel_rfl) rfl rfl (pu_andZ rfl (ev_tmp rfl) (ev_int (inR_lit rfl))) rfl rfl rfl rfl ?_
 refine zD 12 ?_
 refine d_done (by kernel_rfl) ?_
 have q24 := and255_rng (bits .xor .i64 ((z10) / (2 ^ (33 : Int).toNat : Nat)) ((z10) / (2 ^ (47 : Int).toNat : Nat)))
 generalize bits .and .i64 (bits .xor .i64 ((z10) / (2 ^ (33 : Int).toNat : Nat)) ((z10) / (2 ^ (47 : Int).toNat : Nat))) (255) = z24 at *
 refine z ?_
 refine ok_seq ?_
 refine ok_seq ?_
 refine ok_regionD (oB := [0]) (oK := []) (by kernel_rfl) rfl rfl ?_
 refine d_take 0 rfl (by kernel_rfl) rfl rfl (pu_move (.inl rfl) (ev_abox (ev_tmp rfl))) rfl rfl rfl rfl ?_
 refine d_take 1 rfl (by kernel_rfl) rfl rfl (pu_nilB rfl (ev_tmp rfl)) rfl rfl rfl rfl ?_
 refine zD 2 ?_
 refine zD 3 ?_
 refine d_take 4 rfl (by kernel_rfl) rfl rfl (pu_move (.inl rfl) (ev_abox (ev_tmp rfl))) rfl rfl rfl rfl ?_
 refine d_take 5 rfl (by kernel_rfl) rfl rfl (pu_nilB rfl (ev_tmp rfl)) rfl rfl rfl rfl ?_
 refine zD 6 ?_
 refine zD 7 ?_
 refine d_take 8 rfl (by kernel_rfl) rfl rfl (pu_lenV hT rfl rfl (ev_argv (ev_tmp rfl))) rfl rfl rfl rfl ?_
 refine zD 9 ?_
 refine d_done (by kernel_rfl) ?_
 refine z ?_
 refine yQ rfl (fun c1 => ?_) fun c1 => ?_
 ·skip
  have d1 := of_decide_eq_true c1
  refine ok_seq ?_
  refine ok_regionD (oB := [0]) (oK := []) (by kernel_rfl) rfl rfl ?_
  refine zD 0 ?_
  refine d_take 1 rfl (by kernel_rfl) rfl rfl (pu_move (.inl rfl) (ev_abox (ev_tmp rfl))) rfl rfl rfl rfl ?_
  refine d_take 2 rfl (by kernel_rfl) rfl rfl (pu_nilB rfl (ev_tmp rfl)) rfl rfl rfl rfl ?_
  refine zD 3 ?_
  refine zD 4 ?_
  refine d_take 5 rfl (by kernel_rfl) rfl rfl (pu_move (.inl rfl) (ev_abox (ev_tmp rfl))) rfl rfl rfl rfl ?_
  refine d_take 6 rfl (by kernel_rfl) rfl rfl (pu_nilB rfl (ev_tmp rfl)) rfl rfl rfl rfl ?_
  refine zD 7 ?_
  refine zD 8 ?_
  refine d_take 9 rfl (by kernel_rfl) rfl rfl (pu_indexD hT rfl rfl rfl (ev_argv (ev_tmp rfl)) (ev_tmp rfl) (fun _ => rfl) (by omega) (by omega)) rfl rfl rfl rfl ?_
  refine zD 10 ?_
  refine d_take 11 rfl (by kernel_rfl) rfl rfl (pu_convI hT rfl rfl rfl (ev_tmp rfl)) rfl rfl rfl rfl ?_
  refine d_take 12 rfl (by kernel_rfl) rfl rfl (pu_add rfl (ev_tmp rfl) (ev_tmp rfl)) rfl rfl rfl rfl ?_
  refine d_take 13 rfl (by kernel_rfl) rfl rfl (pu_andZ rfl (ev_tmp rfl) (ev_int (inR_lit rfl))) rfl rfl rfl rfl ?_
  refine zD 14 ?_
  refine d_done (by kernel_rfl) ?_
  have q48 : 0 ≤ bits .and .i64 (IntKind.i64.wrap ((z24) + (IntKind.i64.wrap ((((((code)).getD (i).toNat default)).toNat : Int))))) (255) ∧ _ := and255_rng _
  generalize bits .and .i64 (IntKind.i64.wrap ((z24) + (IntKind.i64.wrap ((((((code)).getD (i).toNat default)).toNat : Int))))) (255) = z48 at *
  refine z ?_
  refine ok_region ?_
  refine yO rfl rfl (pu_move (.inl rfl) (ev_abox (ev_tmp rfl))) rfl ?_
  refine yO rfl rfl (pu_move (.inl rfl) (ev_abox (ev_tmp rfl))) rfl ?_
  refine yO rfl rfl (pu_nilB rfl (ev_tmp rfl)) rfl ?_
  iterate 3 refine z ?_
  refine yO rfl rfl (pu_nilB rfl (ev_tmp rfl)) rfl ?_
  iterate 7 refine z ?_
  refine ok_weak (σ' := ⟨[(2, .one (.dv [] (.int .i64 (z48)))), (0, .abox 0)], [(0, 102, [(.arg 900001 (bytesD (code))), (.dv [] (.int .i64 ((i) + (1)))), (.dv [] (.int .i64 (z10)))])], []⟩) (weak_sub ⟨rfl, rfl, trivial⟩ ⟨rfl, trivial⟩ trivial rfl) ?_
  refine z ?_
  refine fin1 (res_tmp rfl) ⟨((z48), (i) + (1), z10), ?_, rfl, rfl, rfl, rfl⟩
  try dsimp only
  omega
 ·skip
  have d1 := of_decide_eq_false c1
  iterate 6 refine z ?_
  refine ok_weak (σ' := ⟨[(2, .one (.dv [] (.int .i64 (z24)))), (0, .abox 0)], [(0, 102, [(.arg 900001 (bytesD (code))), (.dv [] (.int .i64 (i))), (.dv [] (.int .i64 (z10)))])], []⟩) (weak_sub ⟨rfl, rfl, trivial⟩ ⟨rfl, trivial⟩ trivial rfl) ?_
  refine z ?_
  refine fin1 (res_tmp rfl) ⟨((z24), i, z10), ?_, rfl, rfl, rfl, rfl⟩
  try dsimp only
  omega
theorem ok_spec_l1Below {code : List UInt8} {i h : Int} {n : Int} (hc : code.length ≤ 1048576) (hi : 0 ≤ i)  : BFn Try.prog 83 [.one (.dv [] (.int .i64 (n)))] 102 (bytesD (code)) [.dv [] (.int .i64 (i)), .dv [] (.int .i64 (h))] (fun zz : Int × Int × Int => 0 ≤ zz.1 ∧ (0 < n → zz.1 < n) ∧ 0 ≤ zz.2.1) (fun zz : Int × Int × Int => .one (.dv [] (.int .i64 (zz.1)))) (fun zz : Int × Int × Int => []) (fun zz : Int × Int × Int => [.dv [] (.int .i64 (zz.2.1)), .dv [] (.int .i64 (zz.2.2))]) := by
 refine ⟨fn_introS Try.func83 rfl Try.ntmps83 Try.results83 rfl (fun C => ?_)⟩
 refine ok_fact (x := .tmp 1) (ev_tmp rfl) fun f1 => ?_
 iterate 8 refine z ?_
 refine yQ rfl (fun c1 => ?_) fun c1 => ?_
 ·skip
  have d1 := of_decide_eq_true c1
  iterate 3 refine z ?_
  refine ok_weak (σ' := ⟨[(4, .one (.dv [] (.int .i64 (0)))), (0, .abox 0)], [(0, 102, [(.arg 900001 (bytesD (code))), (.dv [] (.int .i64 (i))), (.dv [] (.int .i64 (h)))])], []⟩) (weak_sub ⟨rfl, rfl, trivial⟩ ⟨rfl, trivial⟩ trivial rfl) ?_
  iterate 2 refine z ?_
  refine fin1 (res_tmp rfl) ⟨((0), i, h), ?_, rfl, rfl, rfl, rfl⟩
  try dsimp only
  exact ⟨by omega, by omega, hi⟩
 ·skip
  have d1 := of_decide_eq_false c1
  iterate 7 refine z ?_
  refine yQ rfl (fun c2 => ?_) fun c2 => ?_
  ·skip
   have d2 := of_decide_eq_true c2
   refine z ?_
   refine yO rfl rfl (pu_move (.inl rfl) (ev_abox (ev_tmp rfl))) rfl ?_
   refine o_callB 13000 rfl rfl rfl Try.call102 (ok_spec_l1Byte (code := code) (i := i) (h := h) (by omega) (by omega)) (ev_tmp rfl) rfl ac_arg rfl (fun _ => rfl) ad_nil rfl (fun _ => rfl) (fun _ => rfl) (fun zz hz13 => ?_)
   obtain ⟨e13, i13, h13⟩ := zz
   replace hz13 : 0 ≤ e13 ∧ e13 ≤ 255 ∧ 0 ≤ i13 := hz13
   refine z ?_
   refine yO rfl rfl (pu_remN rfl (ev_tmp rfl) (ev_tmp rfl) (by omega) (by omega)) rfl ?_
   iterate 2 refine z ?_
   refine ok_weak (σ' := ⟨[(4, .one (.dv [] (.int .i64 ((e13) % (n))))), (0, .abox 0)], [(0, 102, [(.arg 900001 (bytesD (code))), (.dv [] (.int .i64 (i13))), (.dv [] (.int .i64 (h13)))])], []⟩) (weak_sub ⟨rfl, rfl, trivial⟩ ⟨rfl, trivial⟩ trivial rfl) ?_
   iterate 2 refine z ?_
   refine fin1 (res_tmp rfl) ⟨(((e13) % (n)), i13, h13), ?_, rfl, rfl, rfl, rfl⟩
   try dsimp only
   have := rem_rng (a := e13) (n := n) (by omega) (by omega)
   exact ⟨this.1, fun _ => this.2, by omega⟩
  ·skip
   have d2 := of_decide_eq_false c2
   iterate 3 refine z ?_
   refine yO rfl rfl (pu_move (.inl rfl) (ev_abox (ev_tmp rfl))) rfl ?_
   refine o_callB 17000 rfl rfl rfl Try.call102 (ok_spec_l1Byte (code := code) (i := i) (h := h) (by omega) (by omega)) (ev_tmp rfl) rfl ac_arg rfl (fun _ => rfl) ad_nil rfl (fun _ => rfl) (fun _ => rfl) (fun zz hz17 => ?_)
   obtain ⟨e17, i17, h17⟩ := zz
   replace hz17 : 0 ≤ e17 ∧ e17 ≤ 255 ∧ 0 ≤ i17 := hz17
   iterate 3 refine z ?_
   refine yO rfl rfl (pu_move (.inl rfl) (ev_abox (ev_tmp rfl))) rfl ?_
   refine o_callB 19000 rfl rfl rfl Try.call102 (ok_spec_l1Byte (code := code) (i := i17) (h := h17) (by omega) (by omega)) (ev_tmp rfl) rfl ac_arg rfl (fun _ => rfl) ad_nil rfl (fun _ => rfl) (fun _ => rfl) (fun zz hz19 => ?_)
   obtain ⟨e19, i19, h19⟩ := zz
   replace hz19 : 0 ≤ e19 ∧ e19 ≤ 255 ∧ 0 ≤ i19 := hz19
   iterate 3 refine z ?_
   refine yO rfl rfl (pu_move (.inl rfl) (ev_abox (ev_tmp rfl))) rfl ?_
   refine o_callB 21000 rfl rfl rfl Try.call102 (ok_spec_l1Byte (code := code) (i := i19) (h := h19) (by omega) (by omega)) (ev_tmp rfl) rfl ac_arg rfl (fun _ => rfl) ad_nil rfl (fun _ => rfl) (fun _ => rfl) (fun zz hz21 => ?_)
   obtain ⟨e21, i21, h21⟩ := zz
   replace hz21 : 0 ≤ e21 ∧ e21 ≤ 255 ∧ 0 ≤ i21 := hz21
   iterate 4 refine z ?_
   refine yO rfl rfl (pu_mulR rfl (ev_tmp rfl) (ev_int (inR_lit rfl)) (inR64 (by omega) (by omega))) rfl ?_
   refine z ?_
   refine yO rfl rfl (pu_mulR rfl (ev_tmp rfl) (ev_int (inR_lit rfl)) (inR64 (by omega) (by omega))) rfl ?_
   iterate 4 refine z ?_
   refine yO rfl rfl (pu_remN rfl (ev_tmp rfl) (ev_tmp rfl) (by omega) (by omega)) rfl ?_
   iterate 2 refine z ?_
   refine ok_weak (σ' := ⟨[(4, .one (.dv [] (.int .i64 (((((e17) * (65536)) + ((e19) * (256))) + (e21)) % (n))))), (0, .abox 0)], [(0, 102, [(.arg 900001 (bytesD (code))), (.dv [] (.int .i64 (i21))), (.dv [] (.int .i64 (h21)))])], []⟩) (weak_sub ⟨rfl, rfl, trivial⟩ ⟨rfl, trivial⟩ trivial rfl) ?_
   refine z ?_
   refine fin1 (res_tmp rfl) ⟨((((((e17) * (65536)) + ((e19) * (256))) + (e21)) % (n)), i21, h21), ?_, rfl, rfl, rfl, rfl⟩
   try dsimp only
   have := rem_rng (a := e17 * 65536 + e19 * 256 + e21) (n := n) (by omega) (by omega)
   exact ⟨this.1, fun _ => this.2, by omega⟩
theorem ok_spec_l1Once {code : List UInt8} {i h : Int} {n : Int} (hc : code.length ≤ 1048576) (hi : 0 ≤ i)  : BFn Try.prog 87 [.one (.dv [] (.int .i64 (n)))] 102 (bytesD (code)) [.dv [] (.int .i64 (i)), .dv [] (.int .i64 (h))] (fun zz : Bool × Int × Int => 0 ≤ zz.2.1) (fun zz : Bool × Int × Int => .one (.dv [] (.bool (zz.1)))) (fun zz : Bool × Int × Int => []) (fun zz : Bool × Int × Int => [.dv [] (.int .i64 (zz.2.1)), .dv [] (.int .i64 (zz.2.2))]) := by
 refine ⟨fn_introS Try.func87 rfl Try.ntmps87 Try.results87 rfl (fun C => ?_)⟩
 refine ok_fact (x := .tmp 1) (ev_tmp rfl) fun f1 => ?_
 iterate 4 refine z ?_
 refine yO rfl rfl (pu_move (.inl rfl) (ev_abox (ev_tmp rfl))) rfl ?_
 refine z ?_
 refine o_callB 7000 rfl rfl rfl Try.call83 (ok_spec_l1Below (code := code) (i := i) (h := h) (n := n) (by omega) (by omega) ) (ev_tmp rfl) rfl ac_arg rfl (fun _ => rfl) (ad_cons (ev_tmp rfl) (ag_one ac_dv) rfl ad_nil) rfl (fun _ => rfl) (fun _ => rfl) (fun zz hz7 => ?_)
 obtain ⟨e7, i7, h7⟩ := zz
 replace hz7 : 0 ≤ e7 ∧ (0 < (n) → e7 < (n)) ∧ 0 ≤ i7 := hz7
 iterate 3 refine z ?_
 refine ok_weak (σ' := ⟨[(4, .one (.dv [] (.bool (decide ((e7) = (0)))))), (0, .abox 0)], [(0, 102, [(.arg 900001 (bytesD (code))), (.dv [] (.int .i64 (i7))), (.dv [] (.int .i64 (h7)))])], []⟩) (weak_sub ⟨rfl, rfl, trivial⟩ ⟨rfl, trivial⟩ trivial rfl) ?_
 refine z ?_
 refine fin1 (res_tmp rfl) ⟨((decide ((e7) = (0))), i7, h7), ?_, rfl, rfl, rfl, rfl⟩
 try dsimp only
 omega
theorem ok_spec_l1Int {code : List UInt8} {i h : Int} {l : List Int} (hc : code.length ≤ 1048576) (hi : 0 ≤ i) (hl : 0 < l.length) : BFn Try.prog 85 [.one (.dv [] (intsD (l)))] 102 (bytesD (code)) [.dv [] (.int .i64 (i)), .dv [] (.int .i64 (h))] (fun zz : Int × Int × Int => zz.1 ∈ l ∧ 0 ≤ zz.2.1) (fun zz : Int × Int × Int => .one (.dv [] (.int .i64 (zz.1)))) (fun zz : Int × Int × Int => []) (fun zz : Int × Int × Int => [.dv [] (.int .i64 (zz.2.1)), .dv [] (.int .i64 (zz.2.2))]) := by
 refine ⟨fn_introS Try.func85 rfl Try.ntmps85 Try.results85 rfl (fun C => ?_)⟩
 refine ok_fact (x := .tmp 1) (ev_tmp rfl) fun f1 => ?_
 iterate 5 refine z ?_
 refine yO rfl rfl (pu_move (.inl rfl) (ev_abox (ev_tmp rfl))) rfl ?_
 iterate 2 refine z ?_
 refine o_callB 9000 rfl rfl rfl Try.call83 (ok_spec_l1Below (code := code) (i := i) (h := h) (n := (((l)).length : Int)) (by omega) (by omega) ) (ev_tmp rfl) rfl ac_arg rfl (fun _ => rfl) (ad_cons (ev_tmp rfl) (ag_one ac_dv) rfl ad_nil) rfl (fun _ => rfl) (fun _ => rfl) (fun zz hz9 => ?_)
 obtain ⟨e9, i9, h9⟩ := zz
 replace hz9 : 0 ≤ e9 ∧ (0 < ((((l)).length : Int)) → e9 < ((((l)).length : Int))) ∧ 0 ≤ i9 := hz9
 have hl := hz9.2.1 (by omega)
 iterate 4 refine z ?_
 refine ok_weak (σ' := ⟨[(4, .one (.dv [] (.int .i64 ((((l)).getD (e9).toNat default))))), (0, .abox 0)], [(0, 102, [(.arg 900001 (bytesD (code))), (.dv [] (.int .i64 (i9))), (.dv [] (.int .i64 (h9)))])], []⟩) (weak_sub ⟨rfl, rfl, trivial⟩ ⟨rfl, trivial⟩ trivial rfl) ?_
 refine z ?_
 refine fin1 (res_tmp rfl) ⟨(((((l)).getD (e9).toNat default)), i9, h9), ?_, rfl, rfl, rfl, rfl⟩
 try dsimp only
 exact ⟨getD_memI (by omega) (by omega), by omega⟩
theorem ok_spec_l1Str {code : List UInt8} {i h : Int} {l : List Str} (hc : code.length ≤ 1048576) (hi : 0 ≤ i) (hl : 0 < l.length) : BFn Try.prog 84 [.one (.dv [] (strsD (l)))] 102 (bytesD (code)) [.dv [] (.int .i64 (i)), .dv [] (.int .i64 (h))] (fun zz : Str × Int × Int => zz.1 ∈ l ∧ 0 ≤ zz.2.1) (fun zz : Str × Int × Int => .one (.dv [] (.str (zz.1)))) (fun zz : Str × Int × Int => []) (fun zz : Str × Int × Int => [.dv [] (.int .i64 (zz.2.1)), .dv [] (.int .i64 (zz.2.2))]) := by
 refine ⟨fn_introS Try.func84 rfl Try.ntmps84 Try.results84 rfl (fun C => ?_)⟩
 refine ok_fact (x := .tmp 1) (ev_tmp rfl) fun f1 => ?_
 iterate 5 refine z ?_
 refine yO rfl rfl (pu_move (.inl rfl) (ev_abox (ev_tmp rfl))) rfl ?_
 iterate 2 refine z ?_
 refine o_callB 9000 rfl rfl rfl Try.call83 (ok_spec_l1Below (code := code) (i := i) (h := h) (n := (((l)).length : Int)) (by omega) (by omega) ) (ev_tmp rfl) rfl ac_arg rfl (fun _ => rfl) (ad_cons (ev_tmp rfl) (ag_one ac_dv) rfl ad_nil) rfl (fun _ => rfl) (fun _ => rfl) (fun zz hz9 => ?_)
 obtain ⟨e9, i9, h9⟩ := zz
 replace hz9 : 0 ≤ e9 ∧ (0 < ((((l)).length : Int)) → e9 < ((((l)).length : Int))) ∧ 0 ≤ i9 := hz9
 have hl := hz9.2.1 (by omega)
 iterate 4 refine z ?_
 refine ok_weak (σ' := ⟨[(4, .one (.dv [] (.str ((((l)).getD (e9).toNat default))))), (0, .abox 0)], [(0, 102, [(.arg 900001 (bytesD (code))), (.dv [] (.int .i64 (i9))), (.dv [] (.int .i64 (h9)))])], []⟩) (weak_sub ⟨rfl, rfl, trivial⟩ ⟨rfl, trivial⟩ trivial rfl) ?_
 refine z ?_
 refine fin1 (res_tmp rfl) ⟨(((((l)).getD (e9).toNat default)), i9, h9), ?_, rfl, rfl, rfl, rfl⟩
 try dsimp only
 exact ⟨getD_memS (by omega) (by omega), by omega⟩
end Go.Proofs.Ytmnimdnmedldgaa

namespace Go.Proofs.Ytmnimdnmedldgaa
open Go.RowKit
open Go.Proofs
set_option linter.unusedVariables false
set_option linter.unusedSimpArgs false

def smallK (k : KeyT) : Prop := k.2.1 ≤ 256 ∨ 1000000 < k.2.1
theorem kText_of {l : List Str} (h : l.all kText = true) {s : Str} (hs : s ∈ l) : kText s = true := List.all_eq_true.1 h s hs
theorem name_of {l : List Str} (h : l.all isName = true) {s : Str} (hs : s ∈ l) : isName s = true := List.all_eq_true.1 h s hs
theorem size_of {l : List Str} (n : Nat) (h : l.all (fun s => decide (s.size ≤ n)) = true) {s : Str} (hs : s ∈ l) : s.size ≤ n := by simpa using List.all_eq_true.1 h s hs
theorem rng_of {l : List Int} (a b : Int) (h : l.all (fun x => decide (a ≤ x) && decide (x ≤ b)) = true) {x : Int} (hx : x ∈ l) : a ≤ x ∧ x ≤ b := by simpa using List.all_eq_true.1 h x hx
theorem key_num {n : Int} (h : -1000000000000 ≤ n ∧ n ≤ 1000000000000) : isKey (1, n, ByteArray.empty) = true := by
 have ht : kText ByteArray.empty = true := by decide +kernel
 have he : sEq ByteArray.empty ByteArray.empty = true := by decide +kernel
 have he2 : (ByteArray.mk #[] : ByteArray) = ByteArray.empty := rfl
 simp [isKey, ht, h.1, h.2, he, he2]
theorem key_txt {s : Str} (h : kText s = true) : isKey (2, 0, s) = true := by simp [isKey, h]
theorem key_pair {n : Int} {s : Str} (h : -1000000000000 ≤ n ∧ n ≤ 1000000000000) (hs : kText s = true) : isKey (3, n, s) = true := by simp [isKey, hs, h.1, h.2]
theorem key_size {k : KeyT} (h : isKey k = true) : k.2.2.size ≤ 12 := (key_rng h).2.2
theorem setF_rec {r : RecT} {n : Str} {v : Int} (h : isRec r = true) : isRec (setF r n v).1 = true := by
 unfold setF
 split
 ·exact h
 ·rename_i h1
  simp only [Bool.or_eq_true, Bool.not_eq_true', not_or, Bool.not_eq_false] at h1
  exact h1.2
theorem rec_w {r : RecT} (h : isRec r = true) : wRecord r ≤ 54 := by
 have h10 := rec_len h
 have h11 : wSum wField r ≤ 8 * r.length := by
  have key : ∀ r : RecT, (∀ f ∈ r, f.1.size ≤ 8) → wSum wField r ≤ 8 * r.length := by
   intro r
   induction r with
   | nil => intro _; simp [wSum]
   | cons f r ih =>
    intro hf
    have k1 := ih (fun g hg => hf g (by simp [hg]))
    have k2 := hf f (by simp)
    have k3 : wField f = f.1.size := rfl
    simp only [wSum, List.map_cons, List.sum_cons, List.length_cons] at *
    omega
  refine key _ (fun f hf => ?_)
  obtain ⟨j, hj, rfl⟩ := List.mem_iff_getElem.1 hf
  have := (name_size (rec_fld h hj).1).2
  rwa [getD_at hj] at this
 have h13 : wRecord r = r.length + wSum wField r := rfl
 omega

theorem ok_spec_l4Number {code : List UInt8} {i h : Int} (hc : code.length ≤ 1048576) (hi : 0 ≤ i) : BFn Try.prog 108 [] 102 (bytesD (code)) [.dv [] (.int .i64 (i)), .dv [] (.int .i64 (h))] (fun zz : Int × Int × Int => (-1000000000000 ≤ zz.1 ∧ zz.1 ≤ 1000000000000) ∧ (zz.1 ≤ 256 ∨ 1000000 < zz.1) ∧ 0 ≤ zz.2.1) (fun zz : Int × Int × Int => .one (.dv [] (.int .i64 (zz.1)))) (fun zz : Int × Int × Int => []) (fun zz : Int × Int × Int => [.dv [] (.int .i64 (zz.2.1)), .dv [] (.int .i64 (zz.2.2))]) := by
 refine ⟨fn_introS Try.func108 rfl Try.ntmps108 Try.results108 rfl (fun C => ?_)⟩
 iterate 4 refine z ?_
 refine yO rfl rfl (pu_move (.inl rfl) (ev_abox (ev_tmp rfl))) rfl ?_
 refine yO rfl rfl (pu_move (.inl rfl) (ev_abox (ev_tmp rfl))) rfl ?_
 refine o_callB 5000 rfl rfl rfl Try.call83 (ok_spec_l1Below (code := code) (i := i) (h := h) (n := 9) (by omega) (by omega) ) (ev_tmp rfl) rfl ac_arg rfl (fun _ => rfl) (ad_cons (ev_int (inR_lit rfl)) (ag_one ac_dv) rfl ad_nil) rfl (fun _ => rfl) (fun _ => rfl) (fun zz hz5 => ?_)
 obtain ⟨e5, i5, h5⟩ := zz
 replace hz5 : 0 ≤ e5 ∧ (0 < (9 : Int) → e5 < (9 : Int)) ∧ 0 ≤ i5 := hz5
 refine o_buildN (k := 6) (js := []) hT rfl rfl rfl rfl rfl rfl rfl rfl rfl rfl rfl (ep_cons (ev_int (inR_lit rfl)) rfl rfl rfl (ep_cons (ev_int (inR_lit rfl)) rfl rfl rfl (ep_cons (ev_int (inR_lit rfl)) rfl rfl rfl (ep_cons (ev_int (inR_lit rfl)) rfl rfl rfl (ep_cons (ev_int (inR_lit rfl)) rfl rfl rfl (ep_cons (ev_int (inR_lit rfl)) rfl rfl rfl (ep_cons (ev_int (inR_lit rfl)) rfl rfl rfl (ep_cons (ev_int (inR_lit rfl)) rfl rfl rfl (ep_cons (ev_tmp rfl) rfl rfl rfl ep_nil))))))))) (ow_cons' (ow_dv rfl) (ow_cons' (ow_dv rfl) (ow_cons' (ow_dv rfl) (ow_cons' (ow_dv rfl) (ow_cons' (ow_dv rfl) (ow_cons' (ow_dv rfl) (ow_cons' (ow_dv rfl) (ow_cons' (ow_dv rfl) (ow_cons' (ow_dv rfl) ow_nil rfl) rfl) rfl) rfl) rfl) rfl) rfl) rfl) rfl) (by decide) (by decide) rfl rfl ?_
 simp only [killT, killB, SV.kill, CV.kill, kk, Nat.reduceBEq]
 refine o_callB 7000 rfl rfl rfl Try.call85 (ok_spec_l1Int (code := code) (i := i5) (h := h5) (l := [0, 1, 2, -1, 255, 256, -1000000000000, 1000000000000, e5]) (by omega) (by omega) (by exact Nat.succ_pos _)) (ev_tmp rfl) rfl ac_arg rfl (fun _ => rfl) (ad_cons (ev_tmp rfl) (ag_one (ac_key' rfl rfl)) rfl ad_nil) rfl (fun _ => rfl) (fun _ => rfl) (fun zz hz7 => ?_)
 obtain ⟨e7, i7, h7⟩ := zz
 replace hz7 : e7 ∈ ([0, 1, 2, -1, 255, 256, -1000000000000, 1000000000000, e5]) ∧ 0 ≤ i7 := hz7
 iterate 2 refine z ?_
 refine ok_weak (σ' := ⟨[(2, .one (.dv [] (.int .i64 (e7)))), (0, .abox 0)], [(0, 102, [(.arg 900001 (bytesD (code))), (.dv [] (.int .i64 (i7))), (.dv [] (.int .i64 (h7)))])], []⟩) (weak_sub ⟨rfl, rfl, trivial⟩ ⟨rfl, trivial⟩ trivial rfl) ?_
 refine z ?_
 refine fin1 (res_tmp rfl) ⟨((e7), i7, h7), ?_, rfl, rfl, rfl, rfl⟩
 try dsimp only
 refine ⟨?_, ?_, by omega⟩
 all_goals have h9 := hz5.2.1 (by omega)
 all_goals have h8 := hz7.1
 all_goals simp only [List.mem_cons, List.not_mem_nil, or_false] at h8
 all_goals omega
theorem ok_spec_l4Key {code : List UInt8} {i h : Int} (hc : code.length ≤ 1048576) (hi : 0 ≤ i) : BFn Try.prog 101 [] 102 (bytesD (code)) [.dv [] (.int .i64 (i)), .dv [] (.int .i64 (h))] (fun zz : KeyT × Int × Int => isKey zz.1 = true ∧ smallK zz.1 ∧ 0 ≤ zz.2.1) (fun zz : KeyT × Int × Int => .agg [(.dv [] (.int .i64 (zz.1.1))), (.dv [] (.int .i64 (zz.1.2.1))), (.dv [] (.str (zz.1.2.2)))]) (fun zz : KeyT × Int × Int => []) (fun zz : KeyT × Int × Int => [.dv [] (.int .i64 (zz.2.1)), .dv [] (.int .i64 (zz.2.2))]) := by
 refine ⟨fn_introS Try.func101 rfl Try.ntmps101 Try.results101 rfl (fun C => ?_)⟩
 iterate 4 refine z ?_
 refine yO rfl rfl (pu_move (.inl rfl) (ev_abox (ev_tmp rfl))) rfl ?_
 refine o_buildN (k := 5) (js := []) hT rfl rfl rfl rfl rfl rfl rfl rfl rfl rfl rfl (ep_cons (ev_str (str_lit rfl)) rfl rfl rfl (ep_cons (ev_str (str_lit rfl)) rfl rfl rfl (ep_cons (ev_str (str_lit rfl)) rfl rfl rfl (ep_cons (ev_str (str_lit rfl)) rfl rfl rfl (ep_cons (ev_str (str_lit rfl)) rfl rfl rfl (ep_cons (ev_str (str_lit rfl)) rfl rfl rfl ep_nil)))))) (ow_cons' (ow_dv rfl) (ow_cons' (ow_dv rfl) (ow_cons' (ow_dv rfl) (ow_cons' (ow_dv rfl) (ow_cons' (ow_dv rfl) (ow_cons' (ow_dv rfl) ow_nil rfl) rfl) rfl) rfl) rfl) rfl) (by decide) (by decide) rfl rfl ?_
 simp only [killT, killB, SV.kill, CV.kill, kk, Nat.reduceBEq]
 refine o_callB 6000 rfl rfl rfl Try.call84 (ok_spec_l1Str (code := code) (i := i) (h := h) (l := [ByteArray.mk #[], ByteArray.mk #[97], ByteArray.mk #[97, 98], ByteArray.mk #[98], ByteArray.mk #[122, 57], ByteArray.mk #[97, 98, 99, 100, 101, 102, 103, 104, 105, 106, 107, 108]]) (by omega) (by omega) (by exact Nat.succ_pos _)) (ev_tmp rfl) rfl ac_arg rfl (fun _ => rfl) (ad_cons (ev_tmp rfl) (ag_one (ac_key' rfl rfl)) rfl ad_nil) rfl (fun _ => rfl) (fun _ => rfl) (fun zz hz6 => ?_)
 obtain ⟨e6, i6, h6⟩ := zz
 replace hz6 : e6 ∈ ([ByteArray.mk #[], ByteArray.mk #[97], ByteArray.mk #[97, 98], ByteArray.mk #[98], ByteArray.mk #[122, 57], ByteArray.mk #[97, 98, 99, 100, 101, 102, 103, 104, 105, 106, 107, 108]]) ∧ 0 ≤ i6 := hz6
 iterate 4 refine z ?_
 refine yO rfl rfl (pu_move (.inl rfl) (ev_abox (ev_tmp rfl))) rfl ?_
 refine o_callB 8000 rfl rfl rfl Try.call83 (ok_spec_l1Below (code := code) (i := i6) (h := h6) (n := 3) (by omega) (by omega) ) (ev_tmp rfl) rfl ac_arg rfl (fun _ => rfl) (ad_cons (ev_int (inR_lit rfl)) (ag_one ac_dv) rfl ad_nil) rfl (fun _ => rfl) (fun _ => rfl) (fun zz hz8 => ?_)
 obtain ⟨e8, i8, h8⟩ := zz
 replace hz8 : 0 ≤ e8 ∧ (0 < (3 : Int) → e8 < (3 : Int)) ∧ 0 ≤ i8 := hz8
 iterate 6 refine z ?_
 refine yQ rfl (fun c1 => ?_) fun c1 => ?_
 ·skip
  have d1 := of_decide_eq_true c1
  iterate 2 refine z ?_
  refine yO rfl rfl (pu_build hT hB rfl rfl rfl (bp_cons (ev_int (inR_lit rfl)) rfl rfl rfl rfl rfl (bp_cons (ev_tmp rfl) rfl rfl rfl rfl rfl bp_nil))) rfl ?_
  iterate 2 refine z ?_
  refine ok_weak (σ' := ⟨[(2, .box 2 0), (0, .abox 0)], [(2, 28, [(.dv [] (.int .i64 (2))), (.dv [] (.int .i64 (0))), (.dv [] (.str (e6)))]), (0, 102, [(.arg 900001 (bytesD (code))), (.dv [] (.int .i64 (i8))), (.dv [] (.int .i64 (h8)))])], []⟩) (weak_sub ⟨rfl, rfl, trivial⟩ ⟨rfl, rfl, trivial⟩ trivial rfl) ?_
  iterate 3 refine z ?_
  refine fin1 (res_cell hT rfl rfl rfl rfl) ⟨(((2), ((0), (e6))), i8, h8), ?_, rfl, rfl, rfl, rfl⟩
  try dsimp only
  exact ⟨key_txt (kText_of (l := [ByteArray.mk #[], ByteArray.mk #[97], ByteArray.mk #[97, 98], ByteArray.mk #[98], ByteArray.mk #[122, 57], ByteArray.mk #[97, 98, 99, 100, 101, 102, 103, 104, 105, 106, 107, 108]]) (by decide +kernel) hz6.1), .inl (by dsimp only; omega), by omega⟩
 ·skip
  have d1 := of_decide_eq_false c1
  iterate 4 refine z ?_
  refine yQ rfl (fun c2 => ?_) fun c2 => ?_
  ·skip
   have d2 := of_decide_eq_true c2
   refine z ?_
   refine yO rfl rfl (pu_move (.inl rfl) (ev_abox (ev_tmp rfl))) rfl ?_
   refine o_callB 16000 rfl rfl rfl Try.call108 (ok_spec_l4Number (code := code) (i := i8) (h := h8) (by omega) (by omega)) (ev_tmp rfl) rfl ac_arg rfl (fun _ => rfl) ad_nil rfl (fun _ => rfl) (fun _ => rfl) (fun zz hz16 => ?_)
   obtain ⟨e16, i16, h16⟩ := zz
   replace hz16 : (-1000000000000 ≤ e16 ∧ e16 ≤ 1000000000000) ∧ (e16 ≤ 256 ∨ 1000000 < e16) ∧ 0 ≤ i16 := hz16
   refine z ?_
   refine yO rfl rfl (pu_build hT hB rfl rfl rfl (bp_cons (ev_int (inR_lit rfl)) rfl rfl rfl rfl rfl (bp_cons (ev_tmp rfl) rfl rfl rfl rfl rfl (bp_cons (ev_tmp rfl) rfl rfl rfl rfl rfl bp_nil)))) rfl ?_
   iterate 2 refine z ?_
   refine ok_weak (σ' := ⟨[(2, .box 2 0), (0, .abox 0)], [(2, 28, [(.dv [] (.int .i64 (3))), (.dv [] (.int .i64 (e16))), (.dv [] (.str (e6)))]), (0, 102, [(.arg 900001 (bytesD (code))), (.dv [] (.int .i64 (i16))), (.dv [] (.int .i64 (h16)))])], []⟩) (weak_sub ⟨rfl, rfl, trivial⟩ ⟨rfl, rfl, trivial⟩ trivial rfl) ?_
   iterate 3 refine z ?_
   refine fin1 (res_cell hT rfl rfl rfl rfl) ⟨(((3), ((e16), (e6))), i16, h16), ?_, rfl, rfl, rfl, rfl⟩
   try dsimp only
   exact ⟨key_pair hz16.1 (kText_of (l := [ByteArray.mk #[], ByteArray.mk #[97], ByteArray.mk #[97, 98], ByteArray.mk #[98], ByteArray.mk #[122, 57], ByteArray.mk #[97, 98, 99, 100, 101, 102, 103, 104, 105, 106, 107, 108]]) (by decide +kernel) hz6.1), hz16.2.1, by omega⟩
  ·skip
   have d2 := of_decide_eq_false c2
   iterate 4 refine z ?_
   refine yO rfl rfl (pu_move (.inl rfl) (ev_abox (ev_tmp rfl))) rfl ?_
   refine o_callB 20000 rfl rfl rfl Try.call108 (ok_spec_l4Number (code := code) (i := i8) (h := h8) (by omega) (by omega)) (ev_tmp rfl) rfl ac_arg rfl (fun _ => rfl) ad_nil rfl (fun _ => rfl) (fun _ => rfl) (fun zz hz20 => ?_)
   obtain ⟨e20, i20, h20⟩ := zz
   replace hz20 : (-1000000000000 ≤ e20 ∧ e20 ≤ 1000000000000) ∧ (e20 ≤ 256 ∨ 1000000 < e20) ∧ 0 ≤ i20 := hz20
   refine yO rfl rfl (pu_build hT hB rfl rfl rfl (bp_cons (ev_int (inR_lit rfl)) rfl rfl rfl rfl rfl (bp_cons (ev_tmp rfl) rfl rfl rfl rfl rfl bp_nil))) rfl ?_
   iterate 2 refine z ?_
   refine ok_weak (σ' := ⟨[(2, .box 2 0), (0, .abox 0)], [(2, 28, [(.dv [] (.int .i64 (1))), (.dv [] (.int .i64 (e20))), (.dv [] (.str (ByteArray.empty)))]), (0, 102, [(.arg 900001 (bytesD (code))), (.dv [] (.int .i64 (i20))), (.dv [] (.int .i64 (h20)))])], []⟩) (weak_sub ⟨rfl, rfl, trivial⟩ ⟨rfl, rfl, trivial⟩ trivial rfl) ?_
   refine z ?_
   refine fin1 (res_cell hT rfl rfl rfl rfl) ⟨(((1), ((e20), (ByteArray.empty))), i20, h20), ?_, rfl, rfl, rfl, rfl⟩
   try dsimp only
   exact ⟨key_num hz20.1, hz20.2.1, by omega⟩
theorem ok_spec_l4Small {code : List UInt8} {i h : Int} (hc : code.length ≤ 1048576) (hi : 0 ≤ i) : BFn Try.prog 88 [] 102 (bytesD (code)) [.dv [] (.int .i64 (i)), .dv [] (.int .i64 (h))] (fun zz : KeyT × Int × Int => isKey zz.1 = true ∧ smallK zz.1 ∧ 0 ≤ zz.2.1) (fun zz : KeyT × Int × Int => .agg [(.dv [] (.int .i64 (zz.1.1))), (.dv [] (.int .i64 (zz.1.2.1))), (.dv [] (.str (zz.1.2.2)))]) (fun zz : KeyT × Int × Int => []) (fun zz : KeyT × Int × Int => [.dv [] (.int .i64 (zz.2.1)), .dv [] (.int .i64 (zz.2.2))]) := by
 refine ⟨fn_introS Try.func88 rfl Try.ntmps88 Try.results88 rfl (fun C => ?_)⟩
 iterate 4 refine z ?_
 refine yO rfl rfl (pu_move (.inl rfl) (ev_abox (ev_tmp rfl))) rfl ?_
 refine o_callB 4000 rfl rfl rfl Try.call83 (ok_spec_l1Below (code := code) (i := i) (h := h) (n := 6) (by omega) (by omega) ) (ev_tmp rfl) rfl ac_arg rfl (fun _ => rfl) (ad_cons (ev_int (inR_lit rfl)) (ag_one ac_dv) rfl ad_nil) rfl (fun _ => rfl) (fun _ => rfl) (fun zz hz4 => ?_)
 obtain ⟨e4, i4, h4⟩ := zz
 replace hz4 : 0 ≤ e4 ∧ (0 < (6 : Int) → e4 < (6 : Int)) ∧ 0 ≤ i4 := hz4
 refine yO rfl rfl (pu_build hT hB rfl rfl rfl (bp_cons (ev_int (inR_lit rfl)) rfl rfl rfl rfl rfl (bp_cons (ev_tmp rfl) rfl rfl rfl rfl rfl bp_nil))) rfl ?_
 iterate 2 refine z ?_
 refine ok_weak (σ' := ⟨[(2, .box 2 0), (0, .abox 0)], [(2, 28, [(.dv [] (.int .i64 (1))), (.dv [] (.int .i64 (e4))), (.dv [] (.str (ByteArray.empty)))]), (0, 102, [(.arg 900001 (bytesD (code))), (.dv [] (.int .i64 (i4))), (.dv [] (.int .i64 (h4)))])], []⟩) (weak_sub ⟨rfl, rfl, trivial⟩ ⟨rfl, rfl, trivial⟩ trivial rfl) ?_
 refine z ?_
 refine fin1 (res_cell hT rfl rfl rfl rfl) ⟨(((1), ((e4), (ByteArray.empty))), i4, h4), ?_, rfl, rfl, rfl, rfl⟩
 try dsimp only
 have h9 := hz4.2.1 (by omega)
 exact ⟨key_num (by omega), .inl (by dsimp only; omega), by omega⟩
theorem ok_spec_l4Any {code : List UInt8} {i h : Int} (hc : code.length ≤ 1048576) (hi : 0 ≤ i) : BFn Try.prog 86 [] 102 (bytesD (code)) [.dv [] (.int .i64 (i)), .dv [] (.int .i64 (h))] (fun zz : KeyT × Int × Int => zz.1.2.2.size ≤ 13 ∧ 0 ≤ zz.2.1) (fun zz : KeyT × Int × Int => .agg [(.dv [] (.int .i64 (zz.1.1))), (.dv [] (.int .i64 (zz.1.2.1))), (.dv [] (.str (zz.1.2.2)))]) (fun zz : KeyT × Int × Int => []) (fun zz : KeyT × Int × Int => [.dv [] (.int .i64 (zz.2.1)), .dv [] (.int .i64 (zz.2.2))]) := by
 refine ⟨fn_introS Try.func86 rfl Try.ntmps86 Try.results86 rfl (fun C => ?_)⟩
 iterate 4 refine z ?_
 refine yO rfl rfl (pu_move (.inl rfl) (ev_abox (ev_tmp rfl))) rfl ?_
 refine o_callB 5000 rfl rfl rfl Try.call101 (ok_spec_l4Key (code := code) (i := i) (h := h) (by omega) (by omega)) (ev_tmp rfl) rfl ac_arg rfl (fun _ => rfl) ad_nil rfl (fun _ => rfl) (fun _ => rfl) (fun zz hz5 => ?_)
 obtain ⟨e5, i5, h5⟩ := zz
 replace hz5 : isKey e5 = true ∧ smallK e5 ∧ 0 ≤ i5 := hz5
 have hks := key_size hz5.1
 iterate 5 refine z ?_
 refine yO rfl rfl (pu_move (.inl rfl) (ev_abox (ev_tmp rfl))) rfl ?_
 refine o_callB 7000 rfl rfl rfl Try.call83 (ok_spec_l1Below (code := code) (i := i5) (h := h5) (n := 10) (by omega) (by omega) ) (ev_tmp rfl) rfl ac_arg rfl (fun _ => rfl) (ad_cons (ev_int (inR_lit rfl)) (ag_one ac_dv) rfl ad_nil) rfl (fun _ => rfl) (fun _ => rfl) (fun zz hz7 => ?_)
 obtain ⟨e7, i7, h7⟩ := zz
 replace hz7 : 0 ≤ e7 ∧ (0 < (10 : Int) → e7 < (10 : Int)) ∧ 0 ≤ i7 := hz7
 iterate 6 refine z ?_
 refine yQ rfl (fun c1 => ?_) fun c1 => ?_
 ·skip
  have d1 := of_decide_eq_true c1
  refine ok_region ?_
  refine yO rfl rfl (pu_move (.inl rfl) (ev_abox (ev_tmp rfl))) rfl ?_
  refine o_callB 11000 rfl rfl rfl Try.call83 (ok_spec_l1Below (code := code) (i := i7) (h := h7) (n := 5) (by omega) (by omega) ) (ev_tmp rfl) rfl ac_arg rfl (fun _ => rfl) (ad_cons (ev_int (inR_lit rfl)) (ag_one ac_dv) rfl ad_nil) rfl (fun _ => rfl) (fun _ => rfl) (fun zz hz11 => ?_)
  obtain ⟨e11, i11, h11⟩ := zz
  replace hz11 : 0 ≤ e11 ∧ (0 < (5 : Int) → e11 < (5 : Int)) ∧ 0 ≤ i11 := hz11
  iterate 2 refine z ?_
  refine ops_nil ?_
  iterate 6 refine z ?_
  refine ok_weak (σ' := ⟨[(2, .box 2 0), (0, .abox 0)], [(2, 28, [(.dv [] (.int .i64 (e11))), (.dv [] (.int .i64 (e5.2.1))), (.dv [] (.str (e5.2.2)))]), (0, 102, [(.arg 900001 (bytesD (code))), (.dv [] (.int .i64 (i11))), (.dv [] (.int .i64 (h11)))])], []⟩) (weak_sub ⟨rfl, rfl, trivial⟩ ⟨rfl, rfl, trivial⟩ trivial rfl) ?_
  refine z ?_
  refine fin1 (res_cell hT rfl rfl rfl rfl) ⟨(((e11), ((e5.2.1), (e5.2.2))), i11, h11), ?_, rfl, rfl, rfl, rfl⟩
  try dsimp only
  exact ⟨by omega, by omega⟩
 ·skip
  have d1 := of_decide_eq_false c1
  iterate 4 refine z ?_
  refine yQ rfl (fun c2 => ?_) fun c2 => ?_
  ·skip
   have d2 := of_decide_eq_true c2
   refine ok_region ?_
   refine yO rfl rfl (pu_move (.inl rfl) (ev_abox (ev_tmp rfl))) rfl ?_
   refine o_buildN (k := 16) (js := []) hT rfl rfl rfl rfl rfl rfl rfl rfl rfl rfl rfl (ep_cons (ev_int (inR_lit rfl)) rfl rfl rfl (ep_cons (ev_int (inR_lit rfl)) rfl rfl rfl (ep_cons (ev_int (inR_lit rfl)) rfl rfl rfl ep_nil))) (ow_cons' (ow_dv rfl) (ow_cons' (ow_dv rfl) (ow_cons' (ow_dv rfl) ow_nil rfl) rfl) rfl) (by decide) (by decide) rfl rfl ?_
   simp only [killT, killB, SV.kill, CV.kill, kk, Nat.reduceBEq]
   refine o_callB 17000 rfl rfl rfl Try.call85 (ok_spec_l1Int (code := code) (i := i7) (h := h7) (l := [-1000000000001, 1000000000001, 5]) (by omega) (by omega) (by exact Nat.succ_pos _)) (ev_tmp rfl) rfl ac_arg rfl (fun _ => rfl) (ad_cons (ev_tmp rfl) (ag_one (ac_key' rfl rfl)) rfl ad_nil) rfl (fun _ => rfl) (fun _ => rfl) (fun zz hz17 => ?_)
   obtain ⟨e17, i17, h17⟩ := zz
   replace hz17 : e17 ∈ ([-1000000000001, 1000000000001, 5]) ∧ 0 ≤ i17 := hz17
   iterate 2 refine z ?_
   refine ops_nil ?_
   iterate 6 refine z ?_
   refine ok_weak (σ' := ⟨[(2, .box 2 0), (0, .abox 0)], [(2, 28, [(.dv [] (.int .i64 (e5.1))), (.dv [] (.int .i64 (e17))), (.dv [] (.str (e5.2.2)))]), (0, 102, [(.arg 900001 (bytesD (code))), (.dv [] (.int .i64 (i17))), (.dv [] (.int .i64 (h17)))])], []⟩) (weak_sub ⟨rfl, rfl, trivial⟩ ⟨rfl, rfl, trivial⟩ trivial rfl) ?_
   refine z ?_
   refine fin1 (res_cell hT rfl rfl rfl rfl) ⟨(((e5.1), ((e17), (e5.2.2))), i17, h17), ?_, rfl, rfl, rfl, rfl⟩
   try dsimp only
   exact ⟨by omega, by omega⟩
  ·skip
   have d2 := of_decide_eq_false c2
   iterate 4 refine z ?_
   refine yQ rfl (fun c3 => ?_) fun c3 => ?_
   ·skip
    have d3 := of_decide_eq_true c3
    refine ok_region ?_
    refine yO rfl rfl (pu_move (.inl rfl) (ev_abox (ev_tmp rfl))) rfl ?_
    refine o_buildN (k := 22) (js := []) hT rfl rfl rfl rfl rfl rfl rfl rfl rfl rfl rfl (ep_cons (ev_str (str_lit rfl)) rfl rfl rfl (ep_cons (ev_str (str_lit rfl)) rfl rfl rfl (ep_cons (ev_str (str_lit rfl)) rfl rfl rfl (ep_cons (ev_str (str_lit rfl)) rfl rfl rfl ep_nil)))) (ow_cons' (ow_dv rfl) (ow_cons' (ow_dv rfl) (ow_cons' (ow_dv rfl) (ow_cons' (ow_dv rfl) ow_nil rfl) rfl) rfl) rfl) (by decide) (by decide) rfl rfl ?_
    simp only [killT, killB, SV.kill, CV.kill, kk, Nat.reduceBEq]
    refine o_callB 23000 rfl rfl rfl Try.call84 (ok_spec_l1Str (code := code) (i := i7) (h := h7) (l := [ByteArray.mk #[65], ByteArray.mk #[97, 32, 98], ByteArray.mk #[97, 98, 99, 100, 101, 102, 103, 104, 105, 106, 107, 108, 109], ByteArray.mk #[120, 39]]) (by omega) (by omega) (by exact Nat.succ_pos _)) (ev_tmp rfl) rfl ac_arg rfl (fun _ => rfl) (ad_cons (ev_tmp rfl) (ag_one (ac_key' rfl rfl)) rfl ad_nil) rfl (fun _ => rfl) (fun _ => rfl) (fun zz hz23 => ?_)
    obtain ⟨e23, i23, h23⟩ := zz
    replace hz23 : e23 ∈ ([ByteArray.mk #[65], ByteArray.mk #[97, 32, 98], ByteArray.mk #[97, 98, 99, 100, 101, 102, 103, 104, 105, 106, 107, 108, 109], ByteArray.mk #[120, 39]]) ∧ 0 ≤ i23 := hz23
    iterate 2 refine z ?_
    refine ops_nil ?_
    iterate 6 refine z ?_
    refine ok_weak (σ' := ⟨[(2, .box 2 0), (0, .abox 0)], [(2, 28, [(.dv [] (.int .i64 (e5.1))), (.dv [] (.int .i64 (e5.2.1))), (.dv [] (.str (e23)))]), (0, 102, [(.arg 900001 (bytesD (code))), (.dv [] (.int .i64 (i23))), (.dv [] (.int .i64 (h23)))])], []⟩) (weak_sub ⟨rfl, rfl, trivial⟩ ⟨rfl, rfl, trivial⟩ trivial rfl) ?_
    refine z ?_
    refine fin1 (res_cell hT rfl rfl rfl rfl) ⟨(((e5.1), ((e5.2.1), (e23))), i23, h23), ?_, rfl, rfl, rfl, rfl⟩
    try dsimp only
    exact ⟨size_of 13 (by decide +kernel) hz23.1, by omega⟩
   ·skip
    have d3 := of_decide_eq_false c3
    iterate 7 refine z ?_
    refine ok_weak (σ' := ⟨[(2, .box 2 0), (0, .abox 0)], [(2, 28, [(.dv [] (.int .i64 (e5.1))), (.dv [] (.int .i64 (e5.2.1))), (.dv [] (.str (e5.2.2)))]), (0, 102, [(.arg 900001 (bytesD (code))), (.dv [] (.int .i64 (i7))), (.dv [] (.int .i64 (h7)))])], []⟩) (weak_sub ⟨rfl, rfl, trivial⟩ ⟨rfl, rfl, trivial⟩ trivial rfl) ?_
    refine z ?_
    refine fin1 (res_cell hT rfl rfl rfl rfl) ⟨(((e5.1), ((e5.2.1), (e5.2.2))), i7, h7), ?_, rfl, rfl, rfl, rfl⟩
    try dsimp only
    exact ⟨by omega, by omega⟩
theorem ok_spec_l5Name {code : List UInt8} {i h : Int} (hc : code.length ≤ 1048576) (hi : 0 ≤ i) : BFn Try.prog 63 [] 102 (bytesD (code)) [.dv [] (.int .i64 (i)), .dv [] (.int .i64 (h))] (fun zz : Str × Int × Int => isName zz.1 = true ∧ 0 ≤ zz.2.1) (fun zz : Str × Int × Int => .one (.dv [] (.str (zz.1)))) (fun zz : Str × Int × Int => []) (fun zz : Str × Int × Int => [.dv [] (.int .i64 (zz.2.1)), .dv [] (.int .i64 (zz.2.2))]) := by
 refine ⟨fn_introS Try.func63 rfl Try.ntmps63 Try.results63 rfl (fun C => ?_)⟩
 iterate 4 refine z ?_
 refine yO rfl rfl (pu_move (.inl rfl) (ev_abox (ev_tmp rfl))) rfl ?_
 refine o_buildN (k := 4) (js := []) hT rfl rfl rfl rfl rfl rfl rfl rfl rfl rfl rfl (ep_cons (ev_str (str_lit rfl)) rfl rfl rfl (ep_cons (ev_str (str_lit rfl)) rfl rfl rfl (ep_cons (ev_str (str_lit rfl)) rfl rfl rfl (ep_cons (ev_str (str_lit rfl)) rfl rfl rfl (ep_cons (ev_str (str_lit rfl)) rfl rfl rfl ep_nil))))) (ow_cons' (ow_dv rfl) (ow_cons' (ow_dv rfl) (ow_cons' (ow_dv rfl) (ow_cons' (ow_dv rfl) (ow_cons' (ow_dv rfl) ow_nil rfl) rfl) rfl) rfl) rfl) (by decide) (by decide) rfl rfl ?_
 simp only [killT, killB, SV.kill, CV.kill, kk, Nat.reduceBEq]
 refine o_callB 5000 rfl rfl rfl Try.call84 (ok_spec_l1Str (code := code) (i := i) (h := h) (l := [ByteArray.mk #[97], ByteArray.mk #[98], ByteArray.mk #[99], ByteArray.mk #[100, 111, 110, 101], ByteArray.mk #[116, 105, 116, 108, 101]]) (by omega) (by omega) (by exact Nat.succ_pos _)) (ev_tmp rfl) rfl ac_arg rfl (fun _ => rfl) (ad_cons (ev_tmp rfl) (ag_one (ac_key' rfl rfl)) rfl ad_nil) rfl (fun _ => rfl) (fun _ => rfl) (fun zz hz5 => ?_)
 obtain ⟨e5, i5, h5⟩ := zz
 replace hz5 : e5 ∈ ([ByteArray.mk #[97], ByteArray.mk #[98], ByteArray.mk #[99], ByteArray.mk #[100, 111, 110, 101], ByteArray.mk #[116, 105, 116, 108, 101]]) ∧ 0 ≤ i5 := hz5
 iterate 2 refine z ?_
 refine ok_weak (σ' := ⟨[(2, .one (.dv [] (.str (e5)))), (0, .abox 0)], [(0, 102, [(.arg 900001 (bytesD (code))), (.dv [] (.int .i64 (i5))), (.dv [] (.int .i64 (h5)))])], []⟩) (weak_sub ⟨rfl, rfl, trivial⟩ ⟨rfl, trivial⟩ trivial rfl) ?_
 refine z ?_
 refine fin1 (res_tmp rfl) ⟨((e5), i5, h5), ?_, rfl, rfl, rfl, rfl⟩
 try dsimp only
 exact ⟨name_of (l := [ByteArray.mk #[97], ByteArray.mk #[98], ByteArray.mk #[99], ByteArray.mk #[100, 111, 110, 101], ByteArray.mk #[116, 105, 116, 108, 101]]) (by decide +kernel) hz5.1, by omega⟩
theorem ok_spec_l5Record {code : List UInt8} {i h : Int} (hc : code.length ≤ 1048576) (hi : 0 ≤ i) : BFn Try.prog 97 [] 102 (bytesD (code)) [.dv [] (.int .i64 (i)), .dv [] (.int .i64 (h))] (fun zz : RecT × Int × Int => isRec zz.1 = true ∧ 0 ≤ zz.2.1) (fun zz : RecT × Int × Int => .agg [(.key 9001)]) (fun zz : RecT × Int × Int => [(9001, some (kcOf false (fieldsD (zz.1))))]) (fun zz : RecT × Int × Int => [.dv [] (.int .i64 (zz.2.1)), .dv [] (.int .i64 (zz.2.2))]) := by
 refine ⟨fn_introS Try.func97 rfl Try.ntmps97 Try.results97 rfl (fun C => ?_)⟩
 iterate 4 refine z ?_
 refine yO rfl rfl (pu_build hT hB rfl rfl rfl bp_nil) rfl ?_
 iterate 3 refine z ?_
 refine ok_seq ?_
 refine ok_seq ?_
 refine ok_weak (weak_nilB 9001 (b := 3) (i := 0) (e := 91) (sz := 2) rfl rfl rfl rfl rfl) ?_
 simp only [killT, killB, SV.kill, CV.kill, kk, Nat.reduceBEq]
 refine ok_region ?_
 refine yO rfl rfl (pu_move (.inl rfl) (ev_abox (ev_tmp rfl))) rfl ?_
 refine o_callB 7000 rfl rfl rfl Try.call83 (ok_spec_l1Below (code := code) (i := i) (h := h) (n := 4) (by omega) (by omega) ) (ev_tmp rfl) rfl ac_arg rfl (fun _ => rfl) (ad_cons (ev_int (inR_lit rfl)) (ag_one ac_dv) rfl ad_nil) rfl (fun _ => rfl) (fun _ => rfl) (fun zz hz7 => ?_)
 obtain ⟨e7, i7, h7⟩ := zz
 replace hz7 : 0 ≤ e7 ∧ (0 < (4 : Int) → e7 < (4 : Int)) ∧ 0 ≤ i7 := hz7
 iterate 3 refine z ?_
 refine ok_loop (ι := Int × RecT × Int × Int) (fun zz => ⟨[(0, .abox 0), (2, .box 2 0), (3, .box 3 0), (4, .one (.dv [] (.int .i64 (zz.1))))], [(0, 102, [(.arg 900001 (bytesD (code))), (.dv [] (.int .i64 (zz.2.2.1))), (.dv [] (.int .i64 (zz.2.2.2)))]), (2, 40, [.nil]), (3, 40, [(.key 9001)])], [(9001, some (kcOf false (.sl 91 2 (zz.2.1.length) (zz.2.1.flatMap eField))))]⟩) (fun zz => isRec zz.2.1 = true ∧ 0 ≤ zz.2.2.1 ∧ zz.1 ≤ 9) (fun zz => zz.1.toNat) ((e7, [], i7, h7)) ?_ (weak_sub ⟨rfl, rfl, rfl, rfl, trivial⟩ ⟨rfl, rfl, rfl, trivial⟩ ⟨rfl, trivial⟩ rfl) (fun zz hx => ?_)
 ·exact ⟨rfl, by dsimp only; omega, by dsimp only; omega⟩
 obtain ⟨n, r, ci, ch⟩ := zz
 replace hx : isRec r = true ∧ 0 ≤ ci ∧ n ≤ 9 := hx
 obtain ⟨hr, hci, hn9⟩ := hx
 show Ok _ _ _ _ _ (⟨[(0, .abox 0), (2, .box 2 0), (3, .box 3 0), (4, .one (.dv [] (.int .i64 (n))))], [(0, 102, [(.arg 900001 (bytesD (code))), (.dv [] (.int .i64 (ci))), (.dv [] (.int .i64 (ch)))]), (2, 40, [.nil]), (3, 40, [(.key 9001)])], [(9001, some (kcOf false (.sl 91 2 (r.length) (r.flatMap eField))))]⟩ : St)
 iterate 5 refine z ?_
 refine yQ rfl (fun c1 => ?_) fun c1 => ?_
 ·skip
  have d1 := of_decide_eq_true c1
  iterate 4 refine z ?_
  refine ok_regionL [0] [0, 1, 2, 3, 4, 5, 6] (oB := [2, 3]) (oK := [9001]) (by kernel_rfl) rfl rfl ?_
  refine l_take 0 rfl (by kernel_rfl) rfl rfl (pu_loadBoxA hT rfl rfl (ev_tmp rfl) rfl rfl) rfl rfl rfl rfl rfl ?_
  refine l_take 1 rfl (by kernel_rfl) rfl rfl (pu_move (.inl rfl) (ev_abox (ev_tmp rfl))) rfl rfl rfl rfl rfl ?_
  refine l_take 3 rfl (by kernel_rfl) rfl rfl (pu_move (.inl rfl) (ev_abox (ev_tmp rfl))) rfl rfl rfl rfl rfl ?_
  refine l_split 2 [] (by kernel_rfl) ⟨?_, trivial⟩
  refine y_callB 15000 2 rfl rfl rfl rfl rfl Try.call63 (ok_spec_l5Name (code := code) (i := ci) (h := ch) (by omega) (by omega)) (ev_tmp rfl) rfl ac_arg rfl (fun _ => rfl) ad_nil rfl (fun _ => rfl) (fun _ => rfl) rfl (fun zz hz15 => ?_)
  obtain ⟨e15, i15, h15⟩ := zz
  replace hz15 : isName e15 = true ∧ 0 ≤ i15 := hz15
  refine l_split 4 [] (by kernel_rfl) ⟨?_, trivial⟩
  refine y_callB 17000 4 rfl rfl rfl rfl rfl Try.call83 (ok_spec_l1Below (code := code) (i := i15) (h := h15) (n := 5) (by omega) (by omega) ) (ev_tmp rfl) rfl ac_arg rfl (fun _ => rfl) (ad_cons (ev_int (inR_lit rfl)) (ag_one ac_dv) rfl ad_nil) rfl (fun _ => rfl) (fun _ => rfl) rfl (fun zz hz17 => ?_)
  obtain ⟨e17, i17, h17⟩ := zz
  replace hz17 : 0 ≤ e17 ∧ (0 < (5 : Int) → e17 < (5 : Int)) ∧ 0 ≤ i17 := hz17
  refine l_split 5 [] (by kernel_rfl) ⟨?_, trivial⟩
  refine y_callK 500 5 rfl rfl rfl rfl Try.call98 (ok_spec_SetField (r := r) (n := e15) (v := e17) (by have := rec_len hr; omega)) (as_cons (ev_tmp rfl) (ag_agg (ag_cons (ac_key' rfl rfl) ag_nil)) (as_cons (ev_tmp rfl) (ag_one ac_dv) (as_cons (ev_tmp rfl) (ag_one ac_dv) as_nil))) rfl rfl rfl rfl rfl rfl ?_
  refine l_take 6 rfl (by kernel_rfl) rfl rfl (pu_move (.inl rfl) (ev_tmp rfl)) rfl rfl rfl rfl rfl ?_
  refine l_takeX 7 rfl (by kernel_rfl) rfl rfl rfl (pu_extractA rfl (ev_tmp rfl) rfl) rfl rfl ?_
  refine l_takeX 8 rfl (by kernel_rfl) rfl rfl rfl (pu_extract1 rfl (ev_tmp rfl) rfl) rfl rfl ?_
  refine l_chain [9] rfl rfl (by kernel_rfl) ?_
  refine z ?_
  refine ops_nil ?_
  iterate 2 refine z ?_
  refine ok_region ?_
  iterate 4 refine z ?_
  refine ⟨(n - 1, (setF r e15 e17).1, i17, h17), ?_, ?_, weak_then (weak_swapB (b := 3) (i := 0) (k := 9501) (k' := 9001) rfl rfl rfl rfl (by simp) rfl rfl) (weak_sub ⟨rfl, rfl, rfl, rfl, trivial⟩ ⟨rfl, rfl, rfl, trivial⟩ ⟨rfl, trivial⟩ rfl)⟩
  ·exact ⟨setF_rec hr, by dsimp only; omega, by dsimp only; omega⟩
  ·dsimp only; omega
 ·skip
  have d1 := of_decide_eq_false c1
  iterate 9 refine z ?_
  refine ok_weak (σ' := ⟨[(2, .box 2 0), (0, .abox 0)], [(2, 40, [(.key 9001)]), (0, 102, [(.arg 900001 (bytesD (code))), (.dv [] (.int .i64 (ci))), (.dv [] (.int .i64 (ch)))])], [(9001, some (kcOf false (.sl 91 2 (r.length) (r.flatMap eField))))]⟩) (weak_sub ⟨rfl, rfl, trivial⟩ ⟨rfl, rfl, trivial⟩ ⟨rfl, trivial⟩ rfl) ?_
  refine z ?_
  refine fin1 (res_cell hT rfl rfl rfl rfl) ⟨((r), ci, ch), ?_, rfl, rfl, rfl, rfl⟩
  try dsimp only
  exact ⟨hr, by omega⟩
end Go.Proofs.Ytmnimdnmedldgaa

