/-
  Contracts of the program's functions for the statements DecodeOps, by the rules of the logic. Conditions: none but those in the theorems.
-/
import Derived.Test.YtlogahkchenpdaaU2
set_option maxHeartbeats 4000000
set_option maxRecDepth 100000
namespace Go.Proofs.Ytlogahkchenpdaa
open Go.RowKit
open Go.Proofs
set_option linter.unusedVariables false
set_option linter.unusedSimpArgs false
theorem ok_impl_InRange {n lo hi : Int}  : PFn Try.prog 98 [.one (.dv [] (.int .i64 (n))), .one (.dv [] (.int .i64 (lo))), .one (.dv [] (.int .i64 (hi)))] (.one (.dv [] (.bool (decide (lo ≤ n) && decide (n ≤ hi))))) := by
 refine ⟨fn_intro Try.func98 rfl Try.ntmps98 Try.results98 rfl (fun C => ?_)⟩
 refine ok_fact (x := .tmp 0) (ev_tmp rfl) fun f0 => ?_
 refine ok_fact (x := .tmp 1) (ev_tmp rfl) fun f1 => ?_
 refine ok_fact (x := .tmp 2) (ev_tmp rfl) fun f2 => ?_
 iterate 16 refine z ?_
 rfl
theorem ok_spec_l1In {n lo hi : Int}  : PFn Try.prog 96 [.one (.dv [] (.int .i64 (n))), .one (.dv [] (.int .i64 (lo))), .one (.dv [] (.int .i64 (hi)))] (.one (.dv [] (.bool (decide (lo ≤ n) && decide (n ≤ hi))))) := by
 refine ⟨fn_intro Try.func96 rfl Try.ntmps96 Try.results96 rfl (fun C => ?_)⟩
 refine ok_fact (x := .tmp 0) (ev_tmp rfl) fun f0 => ?_
 refine ok_fact (x := .tmp 1) (ev_tmp rfl) fun f1 => ?_
 refine ok_fact (x := .tmp 2) (ev_tmp rfl) fun f2 => ?_
 iterate 16 refine z ?_
 rfl

theorem take_all {α : Type} {p : α → Bool} {l : List α} {k : Nat} {d : α} (h : (l.take k).all p = true) (hk : k < l.length) (hp : p (l.getD k d) = true) : (l.take (k + 1)).all p = true := by
 rw [List.take_succ_eq_append_getElem hk, List.all_append, h]
 simp only [List.all_cons, List.all_nil, Bool.and_true, Bool.true_and]
 simpa [List.getD, List.getElem?_eq_getElem hk] using hp
theorem all_no {α : Type} {p : α → Bool} {l : List α} {k : Nat} {d : α} (hk : k < l.length) (hp : p (l.getD k d) = false) : l.all p = false := by
 rw [List.all_eq_false]
 refine ⟨l[k], List.getElem_mem hk, ?_⟩
 simpa [List.getD, List.getElem?_eq_getElem hk] using hp
theorem all_yes {α : Type} {p : α → Bool} {l : List α} {k : Nat} (h : (l.take k).all p = true) (hk : l.length ≤ k) : l.all p = true := by rwa [List.take_of_length_le hk] at h
theorem size_len (s : ByteArray) : s.data.toList.length = s.size := rfl
def kch (b : UInt8) : Bool := (decide ((97 : Int) ≤ (b.toNat : Int)) && decide ((b.toNat : Int) ≤ 122)) || (decide ((48 : Int) ≤ (b.toNat : Int)) && decide ((b.toNat : Int) ≤ 57))
def kText (s : Str) : Bool := s.data.toList.all kch && decide ((s.size : Int) ≤ 12)
def wch (sl : Bool) (b : UInt8) : Bool := (decide ((97 : Int) ≤ (b.toNat : Int)) && decide ((b.toNat : Int) ≤ 122)) || (sl && decide ((b.toNat : Int) = 47))
theorem kch_spec (b : UInt8) : ((decide ((b.toNat : Int) < 97) || decide ((122 : Int) < (b.toNat : Int))) && (decide ((b.toNat : Int) < 48) || decide ((57 : Int) < (b.toNat : Int)))) = !kch b := by
 unfold kch
 generalize (b.toNat : Int) = z
 by_cases h1 : z < 97 <;> by_cases h2 : 122 < z <;> by_cases h3 : z < 48 <;> by_cases h4 : 57 < z <;> simp [h1, h2, h3, h4] <;> omega

theorem ok_impl_isKeyText {s : Str}  : PFn Try.prog 167 [.one (.dv [] (.str (s)))] (.one (.dv [] (.bool (kText s)))) := by
 refine ⟨fn_intro Try.func167 rfl Try.ntmps167 Try.results167 rfl (fun C => ?_)⟩
 refine ok_fact (x := .tmp 0) (ev_tmp rfl) fun f0 => ?_
 iterate 8 refine z ?_
 refine ok_loop (ι := Nat) (fun zz => ⟨[(0, .one (.dv [] (.str (s)))), (3, .one (.dv [] (.int .i64 ((zz : Int)))))], [], []⟩) (fun zz => zz ≤ s.size ∧ (s.data.toList.take zz).all kch = true) (fun zz => s.size - zz) (0) ?_ (weak_sub ⟨rfl, rfl, trivial⟩ trivial trivial rfl) (fun zz hx => ?_)
 ·exact ⟨Nat.zero_le _, rfl⟩
 obtain ⟨k, rfl⟩ : ∃ v, v = zz := ⟨_, rfl⟩
 replace hx : k ≤ s.size ∧ (s.data.toList.take k).all kch = true := hx
 obtain ⟨hk, hall⟩ := hx
 show Ok _ _ _ _ _ (⟨[(0, .one (.dv [] (.str (s)))), (3, .one (.dv [] (.int .i64 ((k : Int)))))], [], []⟩ : St)
 iterate 7 refine z ?_
 refine yQ rfl (fun c1 => ?_) fun c1 => ?_
 ·skip
  have d1 := of_decide_eq_true c1
  iterate 29 refine z ?_
  refine yQ rfl (fun c2 => ?_) fun c2 => ?_
  ·skip
   iterate 10 refine z ?_
   rw [kText, all_no (k := k) (d := 0) (by rw [size_len]; omega) (by have h : (!kch (s.data.toList.getD k 0)) = true := c2; simpa using h)]; rfl
  ·skip
   iterate 3 refine z ?_
   refine ok_region ?_
   iterate 4 refine z ?_
   refine ⟨k + 1, ?_, ?_, weak_sub ⟨rfl, rfl, trivial⟩ trivial trivial rfl⟩
   ·exact ⟨by omega, take_all (d := 0) hall (by rw [size_len]; omega) (by have h : (!kch (s.data.toList.getD k 0)) = false := c2; simpa using h)⟩
   ·omega
 ·skip
  have d1 := of_decide_eq_false c1
  iterate 13 refine z ?_
  rw [kText, all_yes hall (by rw [size_len]; omega)]; rfl
theorem ok_spec_l4Text {s : Str}  : PFn Try.prog 165 [.one (.dv [] (.str (s)))] (.one (.dv [] (.bool (kText s)))) := by
 refine ⟨fn_intro Try.func165 rfl Try.ntmps165 Try.results165 rfl (fun C => ?_)⟩
 refine ok_fact (x := .tmp 0) (ev_tmp rfl) fun f0 => ?_
 iterate 8 refine z ?_
 refine ok_loop (ι := Nat) (fun zz => ⟨[(0, .one (.dv [] (.str (s)))), (3, .one (.dv [] (.int .i64 ((zz : Int)))))], [], []⟩) (fun zz => zz ≤ s.size ∧ (s.data.toList.take zz).all kch = true) (fun zz => s.size - zz) (0) ?_ (weak_sub ⟨rfl, rfl, trivial⟩ trivial trivial rfl) (fun zz hx => ?_)
 ·exact ⟨Nat.zero_le _, rfl⟩
 obtain ⟨k, rfl⟩ : ∃ v, v = zz := ⟨_, rfl⟩
 replace hx : k ≤ s.size ∧ (s.data.toList.take k).all kch = true := hx
 obtain ⟨hk, hall⟩ := hx
 show Ok _ _ _ _ _ (⟨[(0, .one (.dv [] (.str (s)))), (3, .one (.dv [] (.int .i64 ((k : Int)))))], [], []⟩ : St)
 iterate 7 refine z ?_
 refine yQ rfl (fun c1 => ?_) fun c1 => ?_
 ·skip
  have d1 := of_decide_eq_true c1
  iterate 28 refine z ?_
  refine yQ rfl (fun c2 => ?_) fun c2 => ?_
  ·skip
   iterate 10 refine z ?_
   rw [kText, all_no (k := k) (d := 0) (by rw [size_len]; omega) (by have h := (kch_spec (s.data.toList.getD k 0)).symm.trans c2; simpa using h)]; rfl
  ·skip
   iterate 3 refine z ?_
   refine ok_region ?_
   iterate 4 refine z ?_
   refine ⟨k + 1, ?_, ?_, weak_sub ⟨rfl, rfl, trivial⟩ trivial trivial rfl⟩
   ·exact ⟨by omega, take_all (d := 0) hall (by rw [size_len]; omega) (by have h := (kch_spec (s.data.toList.getD k 0)).symm.trans c2; simpa using h)⟩
   ·omega
 ·skip
  have d1 := of_decide_eq_false c1
  iterate 13 refine z ?_
  rw [kText, all_yes hall (by rw [size_len]; omega)]; rfl
end Go.Proofs.Ytlogahkchenpdaa

namespace Go.Proofs.Ytlogahkchenpdaa
open Go.RowKit
open Go.Proofs
set_option linter.unusedVariables false
set_option linter.unusedSimpArgs false

def isKey (k : KeyT) : Bool := (decide (1 ≤ k.1) && decide (k.1 ≤ 3)) && (decide (-1000000000000 ≤ k.2.1) && decide (k.2.1 ≤ 1000000000000)) && kText k.2.2 && !(decide (k.1 = 2) && !decide (k.2.1 = 0)) && !(decide (k.1 = 1) && !sEq k.2.2 (ByteArray.mk #[]))
def isName (s : Str) : Bool := s.data.toList.all (wch false) && (decide (1 ≤ (s.size : Int)) && decide ((s.size : Int) ≤ 8))
theorem wch_spec (b : UInt8) : (decide ((b.toNat : Int) < 97) || decide ((122 : Int) < (b.toNat : Int))) = !wch false b := by
 unfold wch
 generalize (b.toNat : Int) = z
 by_cases h1 : z < 97 <;> by_cases h2 : 122 < z <;> simp [h1, h2] <;> omega

theorem ok_impl_IsKey {k : KeyT}  : PFn Try.prog 126 [.agg [(.dv [] (.int .i64 (k.1))), (.dv [] (.int .i64 (k.2.1))), (.dv [] (.str (k.2.2)))]] (.one (.dv [] (.bool (isKey k)))) := by
 refine ⟨fn_intro Try.func126 rfl Try.ntmps126 Try.results126 rfl (fun C => ?_)⟩
 refine yF 0 0 rfl rfl fun f0_0 => ?_
 refine yF 0 1 rfl rfl fun f0_1 => ?_
 refine yF 0 2 rfl rfl fun f0_2 => ?_
 iterate 8 refine z ?_
 refine zC Try.call98 ?_ (hf := ok_impl_InRange)
 iterate 4 refine z ?_
 refine o_callG (gd_bool rfl rfl rfl rfl rfl) rfl rfl Try.call98 ok_impl_InRange (fun hg => (as_cons (ev_opt rfl hg) (ag_one ac_dv) (as_cons (ev_int (inR_lit rfl)) (ag_one ac_dv) (as_cons (ev_int (inR_lit rfl)) (ag_one ac_dv) as_nil)))) rfl rfl ?_
 iterate 5 refine z ?_
 refine o_callG (gd_bool rfl rfl rfl rfl rfl) rfl rfl Try.call167 ok_impl_isKeyText (fun hg => (as_cons (ev_opt rfl hg) (ag_one ac_dv) as_nil)) rfl rfl ?_
 iterate 3 refine z ?_
 refine yQ rfl (fun c1 => ?_) fun c1 => ?_
 ·skip
  iterate 6 refine z ?_
  grind [isKey]
 ·skip
  iterate 27 refine z ?_
  grind [isKey]
theorem ok_spec_IsKey {k : KeyT}  : PFn Try.prog 120 [.agg [(.dv [] (.int .i64 (k.1))), (.dv [] (.int .i64 (k.2.1))), (.dv [] (.str (k.2.2)))]] (.one (.dv [] (.bool (isKey k)))) := by
 refine ⟨fn_intro Try.func120 rfl Try.ntmps120 Try.results120 rfl (fun C => ?_)⟩
 refine yF 0 0 rfl rfl fun f0_0 => ?_
 refine yF 0 1 rfl rfl fun f0_1 => ?_
 refine yF 0 2 rfl rfl fun f0_2 => ?_
 iterate 7 refine z ?_
 refine zC Try.call96 ?_ (hf := ok_spec_l1In)
 iterate 3 refine z ?_
 refine o_callG (gd_bool rfl rfl rfl rfl rfl) rfl rfl Try.call96 ok_spec_l1In (fun hg => (as_cons (ev_opt rfl hg) (ag_one ac_dv) (as_cons (ev_int (inR_lit rfl)) (ag_one ac_dv) (as_cons (ev_int (inR_lit rfl)) (ag_one ac_dv) as_nil)))) rfl rfl ?_
 iterate 14 refine z ?_
 refine o_callG (gd_bool rfl rfl rfl rfl rfl) rfl rfl Try.call165 ok_spec_l4Text (fun hg => (as_cons (ev_opt rfl hg) (ag_one ac_dv) as_nil)) rfl rfl ?_
 iterate 15 refine z ?_
 grind [isKey]
theorem ok_impl_isWord {s : Str} {m : Int} {sl : Bool}  : PFn Try.prog 147 [.one (.dv [] (.str (s))), .one (.dv [] (.int .i64 (m))), .one (.dv [] (.bool (sl)))] (.one (.dv [] (.bool (s.data.toList.all (wch sl) && (decide (1 ≤ (s.size : Int)) && decide ((s.size : Int) ≤ m)))))) := by
 refine ⟨fn_intro Try.func147 rfl Try.ntmps147 Try.results147 rfl (fun C => ?_)⟩
 refine ok_fact (x := .tmp 0) (ev_tmp rfl) fun f0 => ?_
 refine ok_fact (x := .tmp 1) (ev_tmp rfl) fun f1 => ?_
 iterate 8 refine z ?_
 refine ok_loop (ι := Nat) (fun zz => ⟨[(0, .one (.dv [] (.str (s)))), (1, .one (.dv [] (.int .i64 (m)))), (2, .one (.dv [] (.bool (sl)))), (7, .one (.dv [] (.int .i64 ((zz : Int)))))], [], []⟩) (fun zz => zz ≤ s.size ∧ (s.data.toList.take zz).all (wch sl) = true) (fun zz => s.size - zz) (0) ?_ (weak_sub ⟨rfl, rfl, rfl, rfl, trivial⟩ trivial trivial rfl) (fun zz hx => ?_)
 ·exact ⟨Nat.zero_le _, rfl⟩
 obtain ⟨k, rfl⟩ : ∃ v, v = zz := ⟨_, rfl⟩
 replace hx : k ≤ s.size ∧ (s.data.toList.take k).all (wch sl) = true := hx
 obtain ⟨hk, hall⟩ := hx
 show Ok _ _ _ _ _ (⟨[(0, .one (.dv [] (.str (s)))), (1, .one (.dv [] (.int .i64 (m)))), (2, .one (.dv [] (.bool (sl)))), (7, .one (.dv [] (.int .i64 ((k : Int)))))], [], []⟩ : St)
 iterate 7 refine z ?_
 refine yQ rfl (fun c1 => ?_) fun c1 => ?_
 ·skip
  have d1 := of_decide_eq_true c1
  iterate 26 refine z ?_
  refine yQ rfl (fun c2 => ?_) fun c2 => ?_
  ·skip
   iterate 10 refine z ?_
   rw [all_no (k := k) (d := 0) (by rw [size_len]; omega) (by have h : (!wch sl (s.data.toList.getD k 0)) = true := c2; simpa using h)]; rfl
  ·skip
   iterate 3 refine z ?_
   refine ok_region ?_
   iterate 4 refine z ?_
   refine ⟨k + 1, ?_, ?_, weak_sub ⟨rfl, rfl, rfl, rfl, trivial⟩ trivial trivial rfl⟩
   ·exact ⟨by omega, take_all (d := 0) hall (by rw [size_len]; omega) (by have h : (!wch sl (s.data.toList.getD k 0)) = false := c2; simpa using h)⟩
   ·omega
 ·skip
  have d1 := of_decide_eq_false c1
  iterate 9 refine z ?_
  refine zC Try.call98 ?_ (hf := ok_impl_InRange)
  iterate 4 refine z ?_
  rw [all_yes hall (by rw [size_len]; omega)]; rfl
theorem ok_impl_IsName {s : Str}  : PFn Try.prog 97 [.one (.dv [] (.str (s)))] (.one (.dv [] (.bool (isName s)))) := by
 refine ⟨fn_intro Try.func97 rfl Try.ntmps97 Try.results97 rfl (fun C => ?_)⟩
 refine ok_fact (x := .tmp 0) (ev_tmp rfl) fun f0 => ?_
 iterate 5 refine z ?_
 refine zC Try.call147 ?_ (hf := ok_impl_isWord)
 iterate 4 refine z ?_
 rfl
theorem ok_spec_IsName {s : Str}  : PFn Try.prog 94 [.one (.dv [] (.str (s)))] (.one (.dv [] (.bool (isName s)))) := by
 refine ⟨fn_intro Try.func94 rfl Try.ntmps94 Try.results94 rfl (fun C => ?_)⟩
 refine ok_fact (x := .tmp 0) (ev_tmp rfl) fun f0 => ?_
 iterate 8 refine z ?_
 refine ok_loop (ι := Nat) (fun zz => ⟨[(0, .one (.dv [] (.str (s)))), (3, .one (.dv [] (.int .i64 ((zz : Int)))))], [], []⟩) (fun zz => zz ≤ s.size ∧ (s.data.toList.take zz).all (wch false) = true) (fun zz => s.size - zz) (0) ?_ (weak_sub ⟨rfl, rfl, trivial⟩ trivial trivial rfl) (fun zz hx => ?_)
 ·exact ⟨Nat.zero_le _, rfl⟩
 obtain ⟨k, rfl⟩ : ∃ v, v = zz := ⟨_, rfl⟩
 replace hx : k ≤ s.size ∧ (s.data.toList.take k).all (wch false) = true := hx
 obtain ⟨hk, hall⟩ := hx
 show Ok _ _ _ _ _ (⟨[(0, .one (.dv [] (.str (s)))), (3, .one (.dv [] (.int .i64 ((k : Int)))))], [], []⟩ : St)
 iterate 7 refine z ?_
 refine yQ rfl (fun c1 => ?_) fun c1 => ?_
 ·skip
  have d1 := of_decide_eq_true c1
  iterate 16 refine z ?_
  refine yQ rfl (fun c2 => ?_) fun c2 => ?_
  ·skip
   iterate 10 refine z ?_
   rw [isName, all_no (k := k) (d := 0) (by rw [size_len]; omega) (by have h := (wch_spec (s.data.toList.getD k 0)).symm.trans c2; simpa using h)]; rfl
  ·skip
   iterate 3 refine z ?_
   refine ok_region ?_
   iterate 4 refine z ?_
   refine ⟨k + 1, ?_, ?_, weak_sub ⟨rfl, rfl, trivial⟩ trivial trivial rfl⟩
   ·exact ⟨by omega, take_all (d := 0) hall (by rw [size_len]; omega) (by have h := (wch_spec (s.data.toList.getD k 0)).symm.trans c2; simpa using h)⟩
   ·omega
 ·skip
  have d1 := of_decide_eq_false c1
  iterate 8 refine z ?_
  refine zC Try.call96 ?_ (hf := ok_spec_l1In)
  iterate 4 refine z ?_
  rw [isName, all_yes hall (by rw [size_len]; omega)]; rfl
end Go.Proofs.Ytlogahkchenpdaa

namespace Go.Proofs.Ytlogahkchenpdaa
open Go.RowKit
open Go.Proofs
set_option linter.unusedVariables false
set_option linter.unusedSimpArgs false

theorem bl_total : ∀ (x y : List UInt8), (Op.bytesLess x y || (x == y)) = !Op.bytesLess y x
 | [], [] => rfl
 | [], _ :: _ => rfl
 | _ :: _, [] => rfl
 | a :: x, b :: y => by
  have ih := bl_total x y
  simp only [Op.bytesLess]
  rcases Nat.lt_trichotomy a.toNat b.toNat with h | h | h
  ·have h1 : a < b := h
   have h2 : ¬ b < a := by intro h'; have : b.toNat < a.toNat := h'; omega
   have h3 : ¬ a = b := by rintro rfl; omega
   have h4 : ¬ b = a := fun e => h3 e.symm
   simp [h1, h2, h3, h4]
  ·have e : a = b := UInt8.toNat_inj.1 h
   subst e
   simpa using ih
  ·have h1 : b < a := h
   have h2 : ¬ a < b := by intro h'; have : a.toNat < b.toNat := h'; omega
   have h3 : ¬ a = b := by rintro rfl; omega
   have h4 : ¬ b = a := fun e => h3 e.symm
   simp [h1, h2, h3, h4]
theorem sLe_eq (a b : Str) : (sLt a b || sEq a b) = !sLt b a := bl_total _ _
theorem rall_succ {p : Nat → Bool} {k : Nat} (h : (List.range k).all p = true) (hp : p k = true) : (List.range (k + 1)).all p = true := by
 rw [List.range_succ, List.all_append, h]; simpa using hp
theorem rall_no {p : Nat → Bool} {k n : Nat} (hk : k < n) (hp : p k = false) : (List.range n).all p = false := by
 rw [List.all_eq_false]; exact ⟨k, List.mem_range.2 hk, by simpa using hp⟩
def recBad (r : RecT) (i : Nat) : Bool := (!isName (r.getD (i : Int).toNat default).1 || !(decide ((0 : Int) ≤ (r.getD (i : Int).toNat default).2) && decide ((r.getD (i : Int).toNat default).2 ≤ 1000000000))) ||
 (decide ((0 : Int) < (i : Int)) && (sLt (r.getD (i : Int).toNat default).1 (r.getD ((i : Int) - 1).toNat default).1 || sEq (r.getD (i : Int).toNat default).1 (r.getD ((i : Int) - 1).toNat default).1))
def isRec (r : RecT) : Bool := (List.range r.length).all (fun i => !recBad r i) && decide ((r.length : Int) ≤ 6)
def recBadS (r : RecT) (i : Nat) : Bool := (!isName (r.getD (i : Int).toNat default).1 || !(decide ((0 : Int) ≤ (r.getD (i : Int).toNat default).2) && decide ((r.getD (i : Int).toNat default).2 ≤ 1000000000))) ||
 (decide ((0 : Int) < (i : Int)) && !sLt (r.getD ((i : Int) - 1).toNat default).1 (r.getD (i : Int).toNat default).1)
theorem recBadS_eq (r : RecT) (i : Nat) : recBadS r i = recBad r i := by unfold recBadS recBad; rw [sLe_eq]

theorem ok_impl_IsRecord {r : RecT}  : PFn Try.prog 127 [.agg [(.dv [] (fieldsD (r)))]] (.one (.dv [] (.bool (isRec r)))) := by
 refine ⟨fn_intro Try.func127 rfl Try.ntmps127 Try.results127 rfl (fun C => ?_)⟩
 refine yF 0 0 rfl rfl fun f0_0 => ?_
 iterate 12 refine z ?_
 refine ok_loop (ι := Nat) (fun zz => ⟨[(1, .box 1 0), (6, .one (.dv [] (fieldsD (r)))), (7, .one (.dv [] (.int .i64 ((((r)).length : Int))))), (8, .one (.dv [] (.int .i64 ((zz : Int)))))], [(1, 100, [(.dv [] (fieldsD (r)))])], []⟩) (fun zz => zz ≤ r.length ∧ (List.range zz).all (fun i => !recBad r i) = true) (fun zz => r.length - zz) (0) ?_ (weak_sub ⟨rfl, rfl, rfl, rfl, trivial⟩ ⟨rfl, trivial⟩ trivial rfl) (fun zz hx => ?_)
 ·exact ⟨Nat.zero_le _, rfl⟩
 obtain ⟨k, rfl⟩ : ∃ v, v = zz := ⟨_, rfl⟩
 replace hx : k ≤ r.length ∧ (List.range k).all (fun i => !recBad r i) = true := hx
 obtain ⟨hk, hall⟩ := hx
 show Ok _ _ _ _ _ (⟨[(1, .box 1 0), (6, .one (.dv [] (fieldsD (r)))), (7, .one (.dv [] (.int .i64 ((((r)).length : Int))))), (8, .one (.dv [] (.int .i64 ((k : Int)))))], [(1, 100, [(.dv [] (fieldsD (r)))])], []⟩ : St)
 iterate 3 refine z ?_
 refine ok_seq ?_
 refine yQ rfl (fun c1 => ?_) fun c1 => ?_
 ·skip
  have d1 := of_decide_eq_true c1
  iterate 12 refine z ?_
  refine ok_seq ?_
  refine ok_regionD (oB := [1, 4]) (oK := []) (by kernel_rfl) rfl rfl ?_
  refine zD 0 ?_
  refine zD 1 ?_
  refine d_call 2 rfl (by kernel_rfl) rfl rfl rfl Try.call97 ok_impl_IsName (as_cons (ev_tmp rfl) (ag_one ac_dv) as_nil) rfl rfl rfl rfl ?_
  refine zD 3 ?_
  refine zD 4 ?_
  refine zDG 5 ?_
  refine zDG 6 ?_
  refine d_callG 7 rfl (by kernel_rfl) (gd_bool rfl rfl rfl rfl rfl) rfl rfl Try.call98 ok_impl_InRange (fun hg => (as_cons (ev_opt rfl hg) (ag_one ac_dv) (as_cons (ev_int (inR_lit rfl)) (ag_one ac_dv) (as_cons (ev_int (inR_lit rfl)) (ag_one ac_dv) as_nil)))) rfl rfl ?_
  refine zDG 8 ?_
  refine zD 9 ?_
  refine zD 10 ?_
  refine zDG 11 ?_
  refine zDG 12 ?_
  refine zDG 13 ?_
  refine zDG 14 ?_
  refine zDG 15 ?_
  refine zDG 16 ?_
  refine zDG 17 ?_
  refine zDG 18 ?_
  refine zDG 19 ?_
  refine zDG 20 ?_
  refine zDG 21 ?_
  refine zDG 22 ?_
  refine zDG 23 ?_
  refine zDG 24 ?_
  refine zD 25 ?_
  refine d_done (by kernel_rfl) ?_
  refine z ?_
  refine yQ rfl (fun c2 => ?_) fun c2 => ?_
  ·skip
   iterate 10 refine z ?_
   rw [isRec, rall_no (k := k) (by omega) (by have h : recBad r k = true := c2; simpa using h)]; rfl
  ·skip
   iterate 3 refine z ?_
   refine ok_region ?_
   iterate 3 refine z ?_
   refine ⟨k + 1, ?_, ?_, weak_sub ⟨rfl, rfl, rfl, rfl, trivial⟩ ⟨rfl, trivial⟩ trivial rfl⟩
   ·exact ⟨by omega, rall_succ hall (by have h : recBad r k = false := c2; simpa using h)⟩
   ·omega
 ·skip
  have d1 := of_decide_eq_false c1
  iterate 14 refine z ?_
  obtain rfl : k = r.length := by omega
  rw [isRec, hall]; rfl
theorem ok_spec_IsRecord {r : RecT}  : PFn Try.prog 121 [.agg [(.dv [] (fieldsD (r)))]] (.one (.dv [] (.bool (isRec r)))) := by
 refine ⟨fn_intro Try.func121 rfl Try.ntmps121 Try.results121 rfl (fun C => ?_)⟩
 refine yF 0 0 rfl rfl fun f0_0 => ?_
 iterate 9 refine z ?_
 refine ok_loop (ι := Nat) (fun zz => ⟨[(1, .box 1 0), (3, .one (.dv [] (.int .i64 ((zz : Int)))))], [(1, 100, [(.dv [] (fieldsD (r)))])], []⟩) (fun zz => zz ≤ r.length ∧ (List.range zz).all (fun i => !recBad r i) = true) (fun zz => r.length - zz) (0) ?_ (weak_sub ⟨rfl, rfl, trivial⟩ ⟨rfl, trivial⟩ trivial rfl) (fun zz hx => ?_)
 ·exact ⟨Nat.zero_le _, rfl⟩
 obtain ⟨k, rfl⟩ : ∃ v, v = zz := ⟨_, rfl⟩
 replace hx : k ≤ r.length ∧ (List.range k).all (fun i => !recBad r i) = true := hx
 obtain ⟨hk, hall⟩ := hx
 show Ok _ _ _ _ _ (⟨[(1, .box 1 0), (3, .one (.dv [] (.int .i64 ((k : Int)))))], [(1, 100, [(.dv [] (fieldsD (r)))])], []⟩ : St)
 iterate 8 refine z ?_
 refine yQ rfl (fun c1 => ?_) fun c1 => ?_
 ·skip
  have d1 := of_decide_eq_true c1
  iterate 4 refine z ?_
  refine ok_seq ?_
  refine ok_regionD (oB := [1]) (oK := []) (by kernel_rfl) rfl rfl ?_
  refine zD 0 ?_
  refine zD 1 ?_
  refine zD 2 ?_
  refine zD 3 ?_
  refine zD 4 ?_
  refine zD 5 ?_
  refine d_call 6 rfl (by kernel_rfl) rfl rfl rfl Try.call94 ok_spec_IsName (as_cons (ev_tmp rfl) (ag_one ac_dv) as_nil) rfl rfl rfl rfl ?_
  refine zD 7 ?_
  refine zD 8 ?_
  refine zDG 9 ?_
  refine zDG 10 ?_
  refine zDG 11 ?_
  refine zDG 12 ?_
  refine zDG 13 ?_
  refine zDG 14 ?_
  refine d_callG 15 rfl (by kernel_rfl) (gd_bool rfl rfl rfl rfl rfl) rfl rfl Try.call96 ok_spec_l1In (fun hg => (as_cons (ev_opt rfl hg) (ag_one ac_dv) (as_cons (ev_int (inR_lit rfl)) (ag_one ac_dv) (as_cons (ev_int (inR_lit rfl)) (ag_one ac_dv) as_nil)))) rfl rfl ?_
  refine zDG 16 ?_
  refine zD 17 ?_
  refine zD 18 ?_
  refine zDG 19 ?_
  refine zDG 20 ?_
  refine zDG 21 ?_
  refine zDG 22 ?_
  refine zDG 23 ?_
  refine zDG 24 ?_
  refine zDG 25 ?_
  refine zDG 26 ?_
  refine zDG 27 ?_
  refine zDG 28 ?_
  refine zDG 29 ?_
  refine zDG 30 ?_
  refine zDG 31 ?_
  refine zDG 32 ?_
  refine zDG 33 ?_
  refine zDG 34 ?_
  refine zDG 35 ?_
  refine zDG 36 ?_
  refine zD 37 ?_
  refine d_done (by kernel_rfl) ?_
  refine z ?_
  refine yQ rfl (fun c2 => ?_) fun c2 => ?_
  ·skip
   iterate 10 refine z ?_
   rw [isRec, rall_no (k := k) (by omega) (by have h : recBadS r k = true := c2; rw [recBadS_eq] at h; simpa using h)]; rfl
  ·skip
   iterate 3 refine z ?_
   refine ok_region ?_
   iterate 4 refine z ?_
   refine ⟨k + 1, ?_, ?_, weak_sub ⟨rfl, rfl, trivial⟩ ⟨rfl, trivial⟩ trivial rfl⟩
   ·exact ⟨by omega, rall_succ hall (by have h : recBadS r k = false := c2; rw [recBadS_eq] at h; simpa using h)⟩
   ·omega
 ·skip
  have d1 := of_decide_eq_false c1
  iterate 14 refine z ?_
  obtain rfl : k = r.length := by omega
  rw [isRec, hall]; rfl
end Go.Proofs.Ytlogahkchenpdaa

namespace Go.Proofs.Ytlogahkchenpdaa
open Go.RowKit
open Go.Proofs
set_option linter.unusedVariables false
set_option linter.unusedSimpArgs false

def szR (left : Int) (w : Nat) : Int := if (w : Int) ≤ left then left - (w : Int) else -1
def wSum {α : Type} (w : α → Nat) (xs : List α) : Nat := (xs.map w).sum
def wList {α : Type} (w : α → Nat) (xs : List α) : Nat := xs.length + wSum w xs
theorem wSum_app {α : Type} (w : α → Nat) (xs ys : List α) : wSum w (xs ++ ys) = wSum w xs + wSum w ys := by simp [wSum]
theorem wSum_le {α : Type} (w : α → Nat) (xs : List α) (k : Nat) : wSum w (xs.take k) ≤ wSum w xs := by
 have h := wSum_app w (xs.take k) (xs.drop k)
 rw [List.take_append_drop] at h
 omega
theorem wSum_succ {α : Type} [Inhabited α] (w : α → Nat) (xs : List α) (k : Nat) (h : k < xs.length) : wSum w (xs.take (k + 1)) = wSum w (xs.take k) + w (xs.getD (k : Int).toNat default) ∧ wSum w (xs.take (k + 1)) ≤ wSum w xs := by
 refine ⟨?_, wSum_le w xs _⟩
 have : xs.take (k + 1) = xs.take k ++ [xs.getD k default] := by
  rw [List.take_add_one, List.getElem?_eq_getElem h]; simp [List.getD, List.getElem?_eq_getElem h]
 rw [this, wSum_app]
 simp [wSum]
theorem wSum_all {α : Type} (w : α → Nat) (xs : List α) (k : Nat) (h : xs.length ≤ k) : wSum w (xs.take k) = wSum w xs := by rw [List.take_of_length_le h]
theorem szR_nn {l : Int} {w : Nat} (h : ¬ szR l w < 0) : (w : Int) ≤ l ∧ szR l w = l - w := by unfold szR at h ⊢; split at h <;> simp_all
theorem szR_n {l : Int} {w : Nat} (h : szR l w < 0) (h0 : 0 ≤ l := by omega) : l < (w : Int) := by unfold szR at h; split at h <;> omega
def wKey (x : KeyT) : Nat := (x.2.2).size
def wField (x : FieldT) : Nat := (x.1).size
def wRecord (x : RecT) : Nat := wList wField (x)
def wItem (x : ItemT) : Nat := wKey (x.1) + wRecord (x.2)
def wStore (x : StoreT) : Nat := (x.1).size + wList wItem (x.2.1)
def wIndexDef (x : DefT) : Nat := (x.1).size + (x.2).size
def wDatabase (x : DbT) : Nat := (x.1).size + wList wStore (x.2.2.1) + wList wIndexDef (x.2.2.2)
def wOp (x : OpT) : Nat := (x.2.1).size + wKey (x.2.2.1) + wRecord (x.2.2.2.1) + (x.2.2.2.2).size
def wTx (x : TxT) : Nat := wList wOp (x.2.1) + wList wStore (x.2.2.2.2)
def wTxQueue (x : List TxT) : Nat := wList wTx (x)
theorem ok_laws_eqKey {x : KeyT}  : PFn Try.prog 128 [.agg [(.dv [] (.int .i64 (x.1))), (.dv [] (.int .i64 (x.2.1))), (.dv [] (.str (x.2.2)))], .agg [(.dv [] (.int .i64 (x.1))), (.dv [] (.int .i64 (x.2.1))), (.dv [] (.str (x.2.2)))]] (.one (.dv [] (.bool (true)))) := by
 refine ⟨fn_intro Try.func128 rfl Try.ntmps128 Try.results128 rfl (fun C => ?_)⟩
 refine yF 0 0 rfl rfl fun f0_0 => ?_
 refine yF 0 1 rfl rfl fun f0_1 => ?_
 refine yF 0 2 rfl rfl fun f0_2 => ?_
 refine yF 1 0 rfl rfl fun f1_0 => ?_
 refine yF 1 1 rfl rfl fun f1_1 => ?_
 refine yF 1 2 rfl rfl fun f1_2 => ?_
 iterate 13 refine z ?_
 refine yQ rfl (fun c1 => ?_) fun c1 => ?_
 ·skip
  have d1 := nd_t c1
  iterate 6 refine z ?_
  first | rfl | (exfalso; simp_all [sEq])
 ·skip
  have d1 := nd_f c1
  iterate 10 refine z ?_
  refine yQ rfl (fun c2 => ?_) fun c2 => ?_
  ·skip
   have d2 := nd_t c2
   iterate 6 refine z ?_
   first | rfl | (exfalso; simp_all [sEq])
  ·skip
   have d2 := nd_f c2
   iterate 10 refine z ?_
   refine yQ rfl (fun c3 => ?_) fun c3 => ?_
   ·skip
    iterate 6 refine z ?_
    first | rfl | (exfalso; simp_all [sEq])
   ·skip
    iterate 7 refine z ?_
    first | rfl | (exfalso; simp_all [sEq])
theorem ok_laws_eqField {x : FieldT}  : PFn Try.prog 190 [.agg [(.dv [] (.str (x.1))), (.dv [] (.int .i64 (x.2)))], .agg [(.dv [] (.str (x.1))), (.dv [] (.int .i64 (x.2)))]] (.one (.dv [] (.bool (true)))) := by
 refine ⟨fn_intro Try.func190 rfl Try.ntmps190 Try.results190 rfl (fun C => ?_)⟩
 refine yF 0 0 rfl rfl fun f0_0 => ?_
 refine yF 0 1 rfl rfl fun f0_1 => ?_
 refine yF 1 0 rfl rfl fun f1_0 => ?_
 refine yF 1 1 rfl rfl fun f1_1 => ?_
 iterate 13 refine z ?_
 refine yQ rfl (fun c1 => ?_) fun c1 => ?_
 ·skip
  iterate 6 refine z ?_
  first | rfl | (exfalso; simp_all [sEq])
 ·skip
  iterate 10 refine z ?_
  refine yQ rfl (fun c2 => ?_) fun c2 => ?_
  ·skip
   have d2 := nd_t c2
   iterate 6 refine z ?_
   first | rfl | (exfalso; simp_all [sEq])
  ·skip
   have d2 := nd_f c2
   iterate 7 refine z ?_
   first | rfl | (exfalso; simp_all [sEq])
theorem ok_laws_eqFieldS {x : List (FieldT)}  : PFn Try.prog 168 [.one (.dv [] (fieldsD (x))), .one (.dv [] (fieldsD (x)))] (.one (.dv [] (.bool (true)))) := by
 refine ⟨fn_intro Try.func168 rfl Try.ntmps168 Try.results168 rfl (fun C => ?_)⟩
 refine ok_fact (x := .tmp 0) (ev_tmp rfl) fun f0 => ?_
 refine ok_fact (x := .tmp 1) (ev_tmp rfl) fun f1 => ?_
 iterate 11 refine z ?_
 refine yQ rfl (fun c1 => ?_) fun c1 => ?_
 ·skip
  have d1 := nd_t c1
  iterate 6 refine z ?_
  first | rfl | (exfalso; simp_all [sEq])
 ·skip
  have d1 := nd_f c1
  iterate 7 refine z ?_
  refine ok_loop (ι := Nat) (fun zz => ⟨[(0, .one (.dv [] (fieldsD (x)))), (1, .one (.dv [] (fieldsD (x)))), (5, .one (.dv [] (.int .i64 ((zz : Int)))))], [], []⟩) (fun zz => zz ≤ x.length) (fun zz => x.length - zz) (0) ?_ (weak_sub ⟨rfl, rfl, rfl, trivial⟩ trivial trivial rfl) (fun zz hx => ?_)
  ·exact Nat.zero_le _
  obtain ⟨k, rfl⟩ : ∃ v, v = zz := ⟨_, rfl⟩
  replace hx : k ≤ x.length := hx
  show Ok _ _ _ _ _ (⟨[(0, .one (.dv [] (fieldsD (x)))), (1, .one (.dv [] (fieldsD (x)))), (5, .one (.dv [] (.int .i64 ((k : Int)))))], [], []⟩ : St)
  iterate 7 refine z ?_
  refine yQ rfl (fun c2 => ?_) fun c2 => ?_
  ·skip
   have d2 := of_decide_eq_true c2
   iterate 4 refine z ?_
   refine ok_seq ?_
   refine ok_regionD (oB := []) (oK := []) (by kernel_rfl) rfl rfl ?_
   refine zD 0 ?_
   refine zD 1 ?_
   refine zD 2 ?_
   refine zD 3 ?_
   refine zD 4 ?_
   refine zD 5 ?_
   refine zD 6 ?_
   refine zD 7 ?_
   refine d_call 8 rfl (by kernel_rfl) rfl rfl rfl Try.call190 ok_laws_eqField (as_cons (ev_tmp rfl) (ag_agg (ag_cons ac_dv (ag_cons ac_dv ag_nil))) (as_cons (ev_tmp rfl) (ag_agg (ag_cons ac_dv (ag_cons ac_dv ag_nil))) as_nil)) rfl rfl rfl rfl ?_
   refine zD 9 ?_
   refine d_done (by kernel_rfl) ?_
   refine z ?_
   refine yQ rfl (fun c3 => ?_) fun c3 => ?_
   ·skip
    iterate 10 refine z ?_
    first | rfl | (exfalso; simp_all [sEq])
   ·skip
    iterate 3 refine z ?_
    refine ok_region ?_
    iterate 4 refine z ?_
    refine ⟨k + 1, ?_, ?_, weak_sub ⟨rfl, rfl, rfl, trivial⟩ trivial trivial rfl⟩
    ·omega
    ·omega
  ·skip
   have d2 := of_decide_eq_false c2
   iterate 10 refine z ?_
   first | rfl | (exfalso; simp_all [sEq])
theorem ok_laws_eqRecord {x : RecT}  : PFn Try.prog 129 [.agg [(.dv [] (fieldsD (x)))], .agg [(.dv [] (fieldsD (x)))]] (.one (.dv [] (.bool (true)))) := by
 refine ⟨fn_intro Try.func129 rfl Try.ntmps129 Try.results129 rfl (fun C => ?_)⟩
 refine yF 0 0 rfl rfl fun f0_0 => ?_
 refine yF 1 0 rfl rfl fun f1_0 => ?_
 iterate 11 refine z ?_
 refine zC Try.call168 ?_ (hf := ok_laws_eqFieldS)
 iterate 2 refine z ?_
 refine yQ rfl (fun c1 => ?_) fun c1 => ?_
 ·skip
  iterate 6 refine z ?_
  first | rfl | (exfalso; simp_all [sEq])
 ·skip
  iterate 7 refine z ?_
  first | rfl | (exfalso; simp_all [sEq])
theorem ok_laws_eqOp {x : OpT}  : PFn Try.prog 70 [.agg [(.dv [] (.int .i64 (x.1))), (.dv [] (.str (x.2.1))), (.dv [] (.int .i64 (x.2.2.1.1))), (.dv [] (.int .i64 (x.2.2.1.2.1))), (.dv [] (.str (x.2.2.1.2.2))), (.dv [] (fieldsD (x.2.2.2.1))), (.dv [] (.str (x.2.2.2.2)))], .agg [(.dv [] (.int .i64 (x.1))), (.dv [] (.str (x.2.1))), (.dv [] (.int .i64 (x.2.2.1.1))), (.dv [] (.int .i64 (x.2.2.1.2.1))), (.dv [] (.str (x.2.2.1.2.2))), (.dv [] (fieldsD (x.2.2.2.1))), (.dv [] (.str (x.2.2.2.2)))]] (.one (.dv [] (.bool (true)))) := by
 refine ⟨fn_intro Try.func70 rfl Try.ntmps70 Try.results70 rfl (fun C => ?_)⟩
 refine yF 0 0 rfl rfl fun f0_0 => ?_
 refine yF 0 1 rfl rfl fun f0_1 => ?_
 refine yF 0 2 rfl rfl fun f0_2 => ?_
 refine yF 0 3 rfl rfl fun f0_3 => ?_
 refine yF 0 4 rfl rfl fun f0_4 => ?_
 refine yF 0 5 rfl rfl fun f0_5 => ?_
 refine yF 0 6 rfl rfl fun f0_6 => ?_
 refine yF 1 0 rfl rfl fun f1_0 => ?_
 refine yF 1 1 rfl rfl fun f1_1 => ?_
 refine yF 1 2 rfl rfl fun f1_2 => ?_
 refine yF 1 3 rfl rfl fun f1_3 => ?_
 refine yF 1 4 rfl rfl fun f1_4 => ?_
 refine yF 1 5 rfl rfl fun f1_5 => ?_
 refine yF 1 6 rfl rfl fun f1_6 => ?_
 iterate 13 refine z ?_
 refine yQ rfl (fun c1 => ?_) fun c1 => ?_
 ·skip
  have d1 := nd_t c1
  iterate 6 refine z ?_
  first | rfl | (exfalso; simp_all [sEq])
 ·skip
  have d1 := nd_f c1
  iterate 10 refine z ?_
  refine yQ rfl (fun c2 => ?_) fun c2 => ?_
  ·skip
   iterate 6 refine z ?_
   first | rfl | (exfalso; simp_all [sEq])
  ·skip
   iterate 8 refine z ?_
   refine zC Try.call128 ?_ (hf := ok_laws_eqKey)
   iterate 2 refine z ?_
   refine yQ rfl (fun c3 => ?_) fun c3 => ?_
   ·skip
    iterate 6 refine z ?_
    first | rfl | (exfalso; simp_all [sEq])
   ·skip
    iterate 8 refine z ?_
    refine zC Try.call129 ?_ (hf := ok_laws_eqRecord)
    iterate 2 refine z ?_
    refine yQ rfl (fun c4 => ?_) fun c4 => ?_
    ·skip
     iterate 6 refine z ?_
     first | rfl | (exfalso; simp_all [sEq])
    ·skip
     iterate 10 refine z ?_
     refine yQ rfl (fun c5 => ?_) fun c5 => ?_
     ·skip
      iterate 6 refine z ?_
      first | rfl | (exfalso; simp_all [sEq])
     ·skip
      iterate 7 refine z ?_
      first | rfl | (exfalso; simp_all [sEq])
end Go.Proofs.Ytlogahkchenpdaa

namespace Go.Proofs.Ytlogahkchenpdaa
open Go.RowKit
open Go.Proofs
set_option linter.unusedVariables false
set_option linter.unusedSimpArgs false
theorem ok_laws_eqOpS {x : List (OpT)}  : PFn Try.prog 26 [.one (.dv [] (opsD (x))), .one (.dv [] (opsD (x)))] (.one (.dv [] (.bool (true)))) := by
 refine ⟨fn_intro Try.func26 rfl Try.ntmps26 Try.results26 rfl (fun C => ?_)⟩
 refine ok_fact (x := .tmp 0) (ev_tmp rfl) fun f0 => ?_
 refine ok_fact (x := .tmp 1) (ev_tmp rfl) fun f1 => ?_
 iterate 11 refine z ?_
 refine yQ rfl (fun c1 => ?_) fun c1 => ?_
 ·skip
  have d1 := nd_t c1
  iterate 6 refine z ?_
  first | rfl | (exfalso; simp_all [sEq])
 ·skip
  have d1 := nd_f c1
  iterate 7 refine z ?_
  refine ok_loop (ι := Nat) (fun zz => ⟨[(0, .one (.dv [] (opsD (x)))), (1, .one (.dv [] (opsD (x)))), (5, .one (.dv [] (.int .i64 ((zz : Int)))))], [], []⟩) (fun zz => zz ≤ x.length) (fun zz => x.length - zz) (0) ?_ (weak_sub ⟨rfl, rfl, rfl, trivial⟩ trivial trivial rfl) (fun zz hx => ?_)
  ·exact Nat.zero_le _
  obtain ⟨k, rfl⟩ : ∃ v, v = zz := ⟨_, rfl⟩
  replace hx : k ≤ x.length := hx
  show Ok _ _ _ _ _ (⟨[(0, .one (.dv [] (opsD (x)))), (1, .one (.dv [] (opsD (x)))), (5, .one (.dv [] (.int .i64 ((k : Int)))))], [], []⟩ : St)
  iterate 7 refine z ?_
  refine yQ rfl (fun c2 => ?_) fun c2 => ?_
  ·skip
   have d2 := of_decide_eq_true c2
   iterate 4 refine z ?_
   refine ok_seq ?_
   refine ok_regionD (oB := []) (oK := []) (by kernel_rfl) rfl rfl ?_
   refine zD 0 ?_
   refine zD 1 ?_
   refine zD 2 ?_
   refine zD 3 ?_
   refine zD 4 ?_
   refine zD 5 ?_
   refine zD 6 ?_
   refine zD 7 ?_
   refine d_call 8 rfl (by kernel_rfl) rfl rfl rfl Try.call70 ok_laws_eqOp (as_cons (ev_tmp rfl) (ag_agg (ag_cons ac_dv (ag_cons ac_dv (ag_cons ac_dv (ag_cons ac_dv (ag_cons ac_dv (ag_cons ac_dv (ag_cons ac_dv ag_nil)))))))) (as_cons (ev_tmp rfl) (ag_agg (ag_cons ac_dv (ag_cons ac_dv (ag_cons ac_dv (ag_cons ac_dv (ag_cons ac_dv (ag_cons ac_dv (ag_cons ac_dv ag_nil)))))))) as_nil)) rfl rfl rfl rfl ?_
   refine zD 9 ?_
   refine d_done (by kernel_rfl) ?_
   refine z ?_
   refine yQ rfl (fun c3 => ?_) fun c3 => ?_
   ·skip
    iterate 10 refine z ?_
    first | rfl | (exfalso; simp_all [sEq])
   ·skip
    iterate 3 refine z ?_
    refine ok_region ?_
    iterate 4 refine z ?_
    refine ⟨k + 1, ?_, ?_, weak_sub ⟨rfl, rfl, rfl, trivial⟩ trivial trivial rfl⟩
    ·omega
    ·omega
  ·skip
   have d2 := of_decide_eq_false c2
   iterate 10 refine z ?_
   first | rfl | (exfalso; simp_all [sEq])
end Go.Proofs.Ytlogahkchenpdaa

namespace Go.Proofs.Ytlogahkchenpdaa
open Go.RowKit
open Go.Proofs
set_option linter.unusedVariables false
set_option linter.unusedSimpArgs false
theorem ok_laws_toByteS {x : List UInt8} (hb : x.length ≤ 1048576) : KFn Try.prog 31 [.one (.dv [] (bytesD (x)))] (.one (.key 7)) [(7, some (kcOf false (bytesD (x))))] := by
 refine ⟨fn_intro Try.func31 rfl Try.ntmps31 Try.results31 rfl (fun C => ?_)⟩
 refine ok_fact (x := .tmp 0) (ev_tmp rfl) fun f0 => ?_
 iterate 6 refine z ?_
 refine o_make (k := 7) (n := ((x)).length) (zd := [.int .u8 (0)]) (cs := fillD eByte [.int .u8 (0)] x 0) hT rfl rfl rfl rfl rfl rfl (ev_tmp rfl) (ev_tmp rfl) rfl rfl rfl (by omega) rfl rfl fillD_zero ?_
 iterate 7 refine z ?_
 refine ok_loop (ι := Nat) (fun zz => ⟨[(0, .one (.dv [] (bytesD (x)))), (3, .one (.key 7)), (4, .one (.dv [] (.int .i64 ((zz : Int)))))], [], [(7, some (kcOf false (.sl 5 1 ((x).length) (fillD eByte [.int .u8 (0)] x zz))))]⟩) (fun zz => zz ≤ x.length) (fun zz => x.length - zz) (0) ?_ (weak_sub ⟨rfl, rfl, rfl, trivial⟩ trivial ⟨rfl, trivial⟩ rfl) (fun zz hx => ?_)
 ·exact Nat.zero_le _
 obtain ⟨k, rfl⟩ : ∃ v, v = zz := ⟨_, rfl⟩
 replace hx : k ≤ x.length := hx
 show Ok _ _ _ _ _ (⟨[(0, .one (.dv [] (bytesD (x)))), (3, .one (.key 7)), (4, .one (.dv [] (.int .i64 ((k : Int)))))], [], [(7, some (kcOf false (.sl 5 1 ((x).length) (fillD eByte [.int .u8 (0)] x k))))]⟩ : St)
 iterate 7 refine z ?_
 refine yQ rfl (fun c1 => ?_) fun c1 => ?_
 ·skip
  have d1 := of_decide_eq_true c1
  iterate 4 refine z ?_
  refine ok_region ?_
  iterate 6 refine z ?_
  refine yO rfl rfl (pu_indexK (i := k) hT rfl rfl rfl (ev_tmp rfl) rfl (ev_tmp rfl) rfl (by show _ < ((x).length); omega)) rfl ?_
  refine o_storeE (js := []) (cs := fillD eByte [.int .u8 (0)] x (k + 1)) hT rfl rfl rfl rfl (ev_tmp rfl) (ev_tmp rfl) rfl rfl rfl rfl (ow_cons' (ow_dv rfl) ow_nil rfl) (by decide) (by decide) rfl (by show _ ≤ List.length (fillD eByte [.int .u8 (0)] x k); rw [fillD_len (sz := 1) (fun _ => rfl) rfl]; omega) (fillD_succ (sz := 1) (fun _ => rfl) rfl (by omega) rfl) ?_
  simp only [killT, killB, SV.kill, CV.kill, kk, Nat.reduceBEq]
  refine ops_nil ?_
  iterate 2 refine z ?_
  refine ok_region ?_
  iterate 4 refine z ?_
  refine ⟨k + 1, ?_, ?_, weak_sub ⟨rfl, rfl, rfl, trivial⟩ trivial ⟨rfl, trivial⟩ rfl⟩
  ·omega
  ·omega
 ·skip
  have d1 := of_decide_eq_false c1
  iterate 9 refine z ?_
  refine ok_weak (σ' := ⟨[(2, .one (.key 7))], [], [(7, some (kcOf false (bytesD (x))))]⟩) (weak_sub ⟨rfl, trivial⟩ trivial ⟨(congrArg (fun cs => some (some (KC.mk false 5 1 x.length cs))) (fillD_all (by omega))), trivial⟩ rfl) ?_
  refine z ?_
  refine fin1 (res_tmp rfl) ?_
  exact ⟨rfl, rfl⟩
theorem ok_laws_eqByteS {x : List UInt8}  : PFn Try.prog 25 [.one (.dv [] (bytesD (x))), .one (.dv [] (bytesD (x)))] (.one (.dv [] (.bool (true)))) := by
 refine ⟨fn_intro Try.func25 rfl Try.ntmps25 Try.results25 rfl (fun C => ?_)⟩
 refine ok_fact (x := .tmp 0) (ev_tmp rfl) fun f0 => ?_
 refine ok_fact (x := .tmp 1) (ev_tmp rfl) fun f1 => ?_
 iterate 11 refine z ?_
 refine yQ rfl (fun c1 => ?_) fun c1 => ?_
 ·skip
  have d1 := nd_t c1
  iterate 6 refine z ?_
  first | rfl | (exfalso; simp_all)
 ·skip
  have d1 := nd_f c1
  iterate 7 refine z ?_
  refine ok_loop (ι := Nat) (fun zz => ⟨[(0, .one (.dv [] (bytesD (x)))), (1, .one (.dv [] (bytesD (x)))), (5, .one (.dv [] (.int .i64 ((zz : Int)))))], [], []⟩) (fun zz => zz ≤ x.length) (fun zz => x.length - zz) (0) ?_ (weak_sub ⟨rfl, rfl, rfl, trivial⟩ trivial trivial rfl) (fun zz hx => ?_)
  ·exact Nat.zero_le _
  obtain ⟨k, rfl⟩ : ∃ v, v = zz := ⟨_, rfl⟩
  replace hx : k ≤ x.length := hx
  show Ok _ _ _ _ _ (⟨[(0, .one (.dv [] (bytesD (x)))), (1, .one (.dv [] (bytesD (x)))), (5, .one (.dv [] (.int .i64 ((k : Int)))))], [], []⟩ : St)
  iterate 7 refine z ?_
  refine yQ rfl (fun c2 => ?_) fun c2 => ?_
  ·skip
   have d2 := of_decide_eq_true c2
   iterate 4 refine z ?_
   refine ok_seq ?_
   refine ok_regionD (oB := []) (oK := []) (by kernel_rfl) rfl rfl ?_
   refine zD 0 ?_
   refine zD 1 ?_
   refine zD 2 ?_
   refine zD 3 ?_
   refine zD 4 ?_
   refine zD 5 ?_
   refine zD 6 ?_
   refine zD 7 ?_
   refine zD 8 ?_
   refine d_done (by kernel_rfl) ?_
   refine z ?_
   refine yQ rfl (fun c3 => ?_) fun c3 => ?_
   ·skip
    have d3 := nd_t c3
    iterate 10 refine z ?_
    first | rfl | (exfalso; simp_all)
   ·skip
    have d3 := nd_f c3
    iterate 3 refine z ?_
    refine ok_region ?_
    iterate 4 refine z ?_
    refine ⟨k + 1, ?_, ?_, weak_sub ⟨rfl, rfl, rfl, trivial⟩ trivial trivial rfl⟩
    ·omega
    ·omega
  ·skip
   have d2 := of_decide_eq_false c2
   iterate 10 refine z ?_
   first | rfl | (exfalso; simp_all)
end Go.Proofs.Ytlogahkchenpdaa

namespace Go.Proofs.Ytlogahkchenpdaa
open Go.RowKit
open Go.Proofs
set_option linter.unusedVariables false
set_option linter.unusedSimpArgs false

def isOpB (o : OpT) : Bool := (decide (1 ≤ o.1) && decide (o.1 ≤ 6)) && isName o.2.1 && (decide (o.1 = 5) || isKey o.2.2.1) && isRec o.2.2.2.1 && ((decide (o.1 = 6) && isName o.2.2.2.2) || (!decide (o.1 = 6) && sEq o.2.2.2.2 (ByteArray.mk #[])))
theorem ok_impl_IsOp {x : OpT}  : PFn Try.prog 124 [.agg [(.dv [] (.int .i64 (x.1))), (.dv [] (.str (x.2.1))), (.dv [] (.int .i64 (x.2.2.1.1))), (.dv [] (.int .i64 (x.2.2.1.2.1))), (.dv [] (.str (x.2.2.1.2.2))), (.dv [] (fieldsD (x.2.2.2.1))), (.dv [] (.str (x.2.2.2.2)))]] (.one (.dv [] (.bool (isOpB x)))) := by
 refine ⟨fn_intro Try.func124 rfl Try.ntmps124 Try.results124 rfl (fun C => ?_)⟩
 refine yF 0 0 rfl rfl fun f0_0 => ?_
 refine yF 0 1 rfl rfl fun f0_1 => ?_
 refine yF 0 2 rfl rfl fun f0_2 => ?_
 refine yF 0 3 rfl rfl fun f0_3 => ?_
 refine yF 0 4 rfl rfl fun f0_4 => ?_
 refine yF 0 5 rfl rfl fun f0_5 => ?_
 refine yF 0 6 rfl rfl fun f0_6 => ?_
 iterate 8 refine z ?_
 refine zC Try.call98 ?_ (hf := ok_impl_InRange)
 iterate 4 refine z ?_
 refine o_callG (gd_bool rfl rfl rfl rfl rfl) rfl rfl Try.call97 ok_impl_IsName (fun hg => (as_cons (ev_opt rfl hg) (ag_one ac_dv) as_nil)) rfl rfl ?_
 iterate 9 refine z ?_
 refine o_callG (gd_opt rfl rfl rfl rfl rfl) rfl rfl Try.call126 ok_impl_IsKey (fun hg => (as_cons (ev_opt rfl hg) (ag_agg (ag_cons ac_dv (ag_cons ac_dv (ag_cons ac_dv ag_nil)))) as_nil)) rfl rfl ?_
 iterate 6 refine z ?_
 refine o_callG (gd_bool rfl rfl rfl rfl rfl) rfl rfl Try.call127 ok_impl_IsRecord (fun hg => (as_cons (ev_opt rfl hg) (ag_agg (ag_cons ac_dv ag_nil)) as_nil)) rfl rfl ?_
 iterate 3 refine z ?_
 refine yQ rfl (fun c1 => ?_) fun c1 => ?_
 ·skip
  iterate 6 refine z ?_
  grind [isOpB]
 ·skip
  iterate 8 refine z ?_
  refine yQ rfl (fun c2 => ?_) fun c2 => ?_
  ·skip
   have d2 := of_decide_eq_true c2
   iterate 3 refine z ?_
   refine zC Try.call97 ?_ (hf := ok_impl_IsName)
   iterate 5 refine z ?_
   grind [isOpB]
  ·skip
   have d2 := of_decide_eq_false c2
   iterate 10 refine z ?_
   grind [isOpB]
theorem ok_spec_IsOp {x : OpT}  : PFn Try.prog 60 [.agg [(.dv [] (.int .i64 (x.1))), (.dv [] (.str (x.2.1))), (.dv [] (.int .i64 (x.2.2.1.1))), (.dv [] (.int .i64 (x.2.2.1.2.1))), (.dv [] (.str (x.2.2.1.2.2))), (.dv [] (fieldsD (x.2.2.2.1))), (.dv [] (.str (x.2.2.2.2)))]] (.one (.dv [] (.bool (isOpB x)))) := by
 refine ⟨fn_intro Try.func60 rfl Try.ntmps60 Try.results60 rfl (fun C => ?_)⟩
 refine yF 0 0 rfl rfl fun f0_0 => ?_
 refine yF 0 1 rfl rfl fun f0_1 => ?_
 refine yF 0 2 rfl rfl fun f0_2 => ?_
 refine yF 0 3 rfl rfl fun f0_3 => ?_
 refine yF 0 4 rfl rfl fun f0_4 => ?_
 refine yF 0 5 rfl rfl fun f0_5 => ?_
 refine yF 0 6 rfl rfl fun f0_6 => ?_
 iterate 7 refine z ?_
 refine zC Try.call96 ?_ (hf := ok_spec_l1In)
 iterate 3 refine z ?_
 refine o_callG (gd_bool rfl rfl rfl rfl rfl) rfl rfl Try.call94 ok_spec_IsName (fun hg => (as_cons (ev_opt rfl hg) (ag_one ac_dv) as_nil)) rfl rfl ?_
 iterate 8 refine z ?_
 refine o_callG (gd_opt rfl rfl rfl rfl rfl) rfl rfl Try.call120 ok_spec_IsKey (fun hg => (as_cons (ev_opt rfl hg) (ag_agg (ag_cons ac_dv (ag_cons ac_dv (ag_cons ac_dv ag_nil)))) as_nil)) rfl rfl ?_
 iterate 5 refine z ?_
 refine o_callG (gd_bool rfl rfl rfl rfl rfl) rfl rfl Try.call121 ok_spec_IsRecord (fun hg => (as_cons (ev_opt rfl hg) (ag_agg (ag_cons ac_dv ag_nil)) as_nil)) rfl rfl ?_
 iterate 8 refine z ?_
 refine o_callG (gd_opt rfl rfl rfl rfl rfl) rfl rfl Try.call94 ok_spec_IsName (fun hg => (as_cons (ev_opt rfl hg) (ag_one ac_dv) as_nil)) rfl rfl ?_
 iterate 16 refine z ?_
 grind [isOpB]
end Go.Proofs.Ytlogahkchenpdaa

namespace Go.Proofs.Ytlogahkchenpdaa
open Go.RowKit
open Go.Proofs
set_option linter.unusedVariables false
set_option linter.unusedSimpArgs false

def eqL {α : Type} [Inhabited α] (p : α → α → Bool) (xs ys : List α) : Bool := decide ((xs.length : Int) = (ys.length : Int)) && (List.range xs.length).all (fun i => p (xs.getD (i : Int).toNat default) (ys.getD (i : Int).toNat default))
theorem eqL_len {α : Type} [Inhabited α] {p : α → α → Bool} {xs ys : List α} (h : ¬ (xs.length : Int) = (ys.length : Int)) : eqL p xs ys = false := by simp only [eqL, decide_eq_false h, Bool.false_and]
theorem eqL_no {α : Type} [Inhabited α] {p : α → α → Bool} {xs ys : List α} {k : Nat} (hk : k < xs.length) (h : p (xs.getD (k : Int).toNat default) (ys.getD (k : Int).toNat default) = false) : eqL p xs ys = false := by
 unfold eqL
 rw [rall_no (p := fun i => p (xs.getD (i : Int).toNat default) (ys.getD (i : Int).toNat default)) hk h, Bool.and_false]
theorem eqL_yes {α : Type} [Inhabited α] {p : α → α → Bool} {xs ys : List α} {k : Nat} (hl : (xs.length : Int) = (ys.length : Int)) (h : (List.range k).all (fun i => p (xs.getD (i : Int).toNat default) (ys.getD (i : Int).toNat default)) = true) (hk : k = xs.length) : eqL p xs ys = true := by
 subst hk
 unfold eqL
 rw [h, decide_eq_true hl]; rfl
def eqByteB (b c : UInt8) : Bool := decide ((b.toNat : Int) = (c.toNat : Int))

end Go.Proofs.Ytlogahkchenpdaa

namespace Go.Proofs.Ytlogahkchenpdaa
open Go.RowKit
open Go.Proofs
set_option linter.unusedVariables false
set_option linter.unusedSimpArgs false

theorem eqByte_iff {x y : UInt8} : eqByteB x y = decide (x = y) := by
 unfold eqByteB
 by_cases h : x = y
 ·simp [h]
 ·have : ¬ ((x.toNat : Int) = (y.toNat : Int)) := fun e => h (UInt8.toNat_inj.1 (by omega))
  simp [h, this]
theorem eqL_cons {α : Type} [Inhabited α] {p : α → α → Bool} {x y : α} {xs ys : List α} : eqL p (x :: xs) (y :: ys) = (p x y && eqL p xs ys) := by
 unfold eqL
 rw [List.length_cons, List.length_cons, List.range_succ_eq_map, List.all_cons, List.all_map]
 have e : decide (((xs.length + 1 : Nat) : Int) = ((ys.length + 1 : Nat) : Int)) = decide ((xs.length : Int) = (ys.length : Int)) := by
  by_cases h : xs.length = ys.length
  ·simp [h]
  ·have h1 : ¬ ((xs.length + 1 : Nat) : Int) = ((ys.length + 1 : Nat) : Int) := by omega
   have h2 : ¬ (xs.length : Int) = (ys.length : Int) := by omega
   simp only [h1, h2]
 rw [e]
 simp only [Function.comp_def, Int.toNat_natCast, List.getD_cons_zero, List.getD_cons_succ]
 cases p x y <;> cases decide ((xs.length : Int) = (ys.length : Int)) <;> simp
theorem eqBytes_sEq : ∀ (x y : List UInt8), eqL eqByteB x y = sEq (strOf x) (strOf y) := by
 have e : ∀ x y : List UInt8, sEq (strOf x) (strOf y) = (x == y) := fun x y => by
  unfold sEq
  rw [ByteArray.toList_eq, ByteArray.toList_eq, strOf_list, strOf_list]
 intro x
 induction x with
 | nil =>
  intro y
  rw [e]
  cases y with
  | nil => rfl
  | cons b y => simp [eqL]; omega
 | cons a x ih =>
  intro y
  cases y with
  | nil => rw [e]; simp [eqL]; omega
  | cons b y =>
   rw [eqL_cons, ih, e, e, eqByte_iff]
   by_cases h : a = b <;> simp [h]

theorem ok_slices_Equal_byte {x y : List (UInt8)}  : PFn Try.prog 133 [.one (.dv [] (bytesD (x))), .one (.dv [] (bytesD (y)))] (.one (.dv [] (.bool (eqL eqByteB x y)))) := by
 refine ⟨fn_intro Try.func133 rfl Try.ntmps133 Try.results133 rfl (fun C => ?_)⟩
 refine ok_fact (x := .tmp 0) (ev_tmp rfl) fun f0 => ?_
 refine ok_fact (x := .tmp 1) (ev_tmp rfl) fun f1 => ?_
 iterate 11 refine z ?_
 refine yQ rfl (fun c1 => ?_) fun c1 => ?_
 ·skip
  have d1 := nd_t c1
  iterate 6 refine z ?_
  exact (eqL_len d1).symm
 ·skip
  have d1 := nd_f c1
  iterate 9 refine z ?_
  refine ok_loop (ι := Nat) (fun zz => ⟨[(0, .one (.dv [] (bytesD (x)))), (1, .one (.dv [] (bytesD (y)))), (12, .one (.dv [] (.int .i64 ((((x)).length : Int))))), (13, .one (.dv [] (.int .i64 ((zz : Int)))))], [], []⟩) (fun zz => zz ≤ x.length ∧ (List.range zz).all (fun i => eqByteB (x.getD (i : Int).toNat default) (y.getD (i : Int).toNat default)) = true) (fun zz => x.length - zz) (0) ?_ (weak_sub ⟨rfl, rfl, rfl, rfl, trivial⟩ trivial trivial rfl) (fun zz hx => ?_)
  ·exact ⟨Nat.zero_le _, rfl⟩
  obtain ⟨k, rfl⟩ : ∃ v, v = zz := ⟨_, rfl⟩
  replace hx : k ≤ x.length ∧ (List.range k).all (fun i => eqByteB (x.getD (i : Int).toNat default) (y.getD (i : Int).toNat default)) = true := hx
  obtain ⟨hk, hall⟩ := hx
  show Ok _ _ _ _ _ (⟨[(0, .one (.dv [] (bytesD (x)))), (1, .one (.dv [] (bytesD (y)))), (12, .one (.dv [] (.int .i64 ((((x)).length : Int))))), (13, .one (.dv [] (.int .i64 ((k : Int)))))], [], []⟩ : St)
  iterate 3 refine z ?_
  refine ok_seq ?_
  refine yQ rfl (fun c2 => ?_) fun c2 => ?_
  ·skip
   have d2 := of_decide_eq_true c2
   iterate 8 refine z ?_
   refine ok_seq ?_
   refine ok_regionD (oB := []) (oK := []) (by kernel_rfl) rfl rfl ?_
   refine zD 0 ?_
   refine zD 1 ?_
   refine zD 2 ?_
   refine zD 3 ?_
   refine zD 4 ?_
   refine zD 5 ?_
   refine zD 6 ?_
   refine zD 7 ?_
   refine zD 8 ?_
   refine d_done (by kernel_rfl) ?_
   refine z ?_
   refine yQ rfl (fun c3 => ?_) fun c3 => ?_
   ·skip
    have d3 := nd_t c3
    iterate 10 refine z ?_
    exact (eqL_no (k := k) (by omega) (by have h := c3; simpa [eqByteB] using h)).symm
   ·skip
    have d3 := nd_f c3
    iterate 3 refine z ?_
    refine ok_region ?_
    iterate 3 refine z ?_
    refine ⟨k + 1, ?_, ?_, weak_sub ⟨rfl, rfl, rfl, rfl, trivial⟩ trivial trivial rfl⟩
    ·exact ⟨by omega, rall_succ hall (by have h := c3; simpa [eqByteB] using h)⟩
    ·omega
  ·skip
   have d2 := of_decide_eq_false c2
   iterate 10 refine z ?_
   exact (eqL_yes d1 hall (by omega)).symm
theorem ok_impl_EqualBytes {x y : List UInt8}  : PFn Try.prog 80 [.one (.dv [] (bytesD (x))), .one (.dv [] (bytesD (y)))] (.one (.dv [] (.bool (eqL eqByteB x y)))) := by
 refine ⟨fn_intro Try.func80 rfl Try.ntmps80 Try.results80 rfl (fun C => ?_)⟩
 refine ok_fact (x := .tmp 0) (ev_tmp rfl) fun f0 => ?_
 refine ok_fact (x := .tmp 1) (ev_tmp rfl) fun f1 => ?_
 iterate 6 refine z ?_
 refine zC Try.call133 ?_ (hf := ok_slices_Equal_byte)
 iterate 4 refine z ?_
 rfl
theorem ok_spec_EqualBytes {x y : List UInt8}  : PFn Try.prog 75 [.one (.dv [] (bytesD (x))), .one (.dv [] (bytesD (y)))] (.one (.dv [] (.bool (eqL eqByteB x y)))) := by
 refine ⟨fn_intro Try.func75 rfl Try.ntmps75 Try.results75 rfl (fun C => ?_)⟩
 refine ok_fact (x := .tmp 0) (ev_tmp rfl) fun f0 => ?_
 refine ok_fact (x := .tmp 1) (ev_tmp rfl) fun f1 => ?_
 iterate 5 refine z ?_
 refine yO rfl rfl (pu_convBS hT rfl rfl rfl rfl (ev_tmp rfl)) rfl ?_
 refine z ?_
 refine yO rfl rfl (pu_convBS hT rfl rfl rfl rfl (ev_tmp rfl)) rfl ?_
 iterate 5 refine z ?_
 exact (eqBytes_sEq x y).symm
end Go.Proofs.Ytlogahkchenpdaa

namespace Go.Proofs.Ytlogahkchenpdaa
open Go.RowKit
open Go.Proofs
set_option linter.unusedVariables false
set_option linter.unusedSimpArgs false

theorem eqSlotI {k : IntKind} {a b : Int} (h : a = b) : some (SV.one (CV.dv [] (DV.int k a))) = some (SV.one (CV.dv [] (DV.int k b))) := by rw [h]
def mkL {α : Type} (m : α → Int → α) (c : α → Nat) : List α → Int → List α
 | [], _ => []
 | x :: xs, k => m x k :: mkL m c xs (k + (c x : Int))
theorem mkL_len {α : Type} {m : α → Int → α} {c : α → Nat} : ∀ (xs : List α) (k : Int), (mkL m c xs k).length = xs.length
 | [], _ => rfl
 | x :: xs, k => by rw [mkL, List.length_cons, mkL_len xs, List.length_cons]
theorem mkL_app {α : Type} {m : α → Int → α} {c : α → Nat} : ∀ (xs ys : List α) (k : Int), mkL m c (xs ++ ys) k = mkL m c xs k ++ mkL m c ys (k + (wSum c xs : Int))
 | [], ys, k => by simp [mkL, wSum]
 | x :: xs, ys, k => by
  rw [List.cons_append, mkL, mkL_app xs ys, mkL, List.cons_append]
  congr 3
  have : wSum c (x :: xs) = c x + wSum c xs := by simp [wSum]
  omega
theorem getD_at {α : Type} [Inhabited α] {xs : List α} {j : Nat} (h : j < xs.length) : xs.getD (j : Int).toNat default = xs[j] := by simp [List.getD, List.getElem?_eq_getElem h]
theorem mkL_succ {α : Type} [Inhabited α] {m : α → Int → α} {c : α → Nat} {xs : List α} {j : Nat} {k : Int} (h : j < xs.length) : mkL m c (xs.take (j + 1)) k = mkL m c (xs.take j) k ++ [m (xs.getD (j : Int).toNat default) (k + (wSum c (xs.take j) : Int))] := by
 rw [List.take_add_one, List.getElem?_eq_getElem h, mkL_app, getD_at h]; rfl
theorem mkL_getD {α : Type} [Inhabited α] {m : α → Int → α} {c : α → Nat} {xs : List α} {j : Nat} {k : Int} (h : j < xs.length) : (mkL m c xs k).getD (j : Int).toNat default = m (xs.getD (j : Int).toNat default) (k + (wSum c (xs.take j) : Int)) := by
 have e : mkL m c xs k = mkL m c (xs.take (j + 1)) k ++ mkL m c (xs.drop (j + 1)) (k + (wSum c (xs.take (j + 1)) : Int)) := by rw [← mkL_app, List.take_append_drop]
 rw [e, mkL_succ h]
 have hl : (mkL m c (xs.take j) k).length = j := by rw [mkL_len, List.length_take]; omega
 have : (j : Int).toNat = j := by omega
 rw [List.getD, List.append_assoc, List.getElem?_append_right (by omega), show (j : Int).toNat - (mkL m c (xs.take j) k).length = 0 by omega]
 rfl
theorem drop_flat {α : Type} [Inhabited α] {enc : α → List DV} {xs : List α} {j : Nat} (h : j < xs.length) : (xs.drop j).flatMap enc = enc (xs.getD (j : Int).toNat default) ++ (xs.drop (j + 1)).flatMap enc := by
 rw [List.drop_eq_getElem_cons h, List.flatMap_cons, getD_at h]
theorem mk_open {α : Type} [Inhabited α] {enc : α → List DV} {A : List DV} {xs : List α} {j : Nat} (h : j < xs.length) : A ++ (xs.drop j).flatMap enc = mid A (enc (xs.getD (j : Int).toNat default)) ((xs.drop (j + 1)).flatMap enc) := by rw [drop_flat h]; rfl
theorem mk_close {α : Type} [Inhabited α] {m : α → Int → α} {c : α → Nat} {enc : α → List DV} {B C : List DV} {xs : List α} {j : Nat} {k : Int} (h : j < xs.length) (hB : B = enc (m (xs.getD (j : Int).toNat default) (k + (wSum c (xs.take j) : Int)))) : mid ((mkL m c (xs.take j) k).flatMap enc) B C = (mkL m c (xs.take (j + 1)) k).flatMap enc ++ C := by
 unfold mid
 rw [mkL_succ h, List.flatMap_append, hB]; simp
theorem mk_fin {α : Type} {m : α → Int → α} {c : α → Nat} {enc : α → List DV} {e sz : Nat} {xs : List α} {j : Nat} {k : Int} (h : xs.length ≤ j) : some (some (KC.mk true e sz xs.length ((mkL m c (xs.take j) k).flatMap enc ++ (xs.drop j).flatMap enc))) = some (some (kcOf true (listD e sz enc (mkL m c xs k)))) := by
 rw [List.take_of_length_le h, List.drop_eq_nil_of_le h]
 simp only [listD, kcOf, mkL_len, List.flatMap_nil, List.append_nil]
theorem mk_pre {α : Type} {m : α → Int → α} {c : α → Nat} {enc : α → List DV} {sz : Nat} (hs : ∀ x, (enc x).length = sz) {xs : List α} {j : Nat} {k : Int} (h : j ≤ xs.length) : ((mkL m c (xs.take j) k).flatMap enc).length = j * sz := by
 rw [flat_len hs, mkL_len, List.length_take, Nat.min_eq_left h]
theorem wSum_bound {α : Type} {c w : α → Nat} (h : ∀ x, c x ≤ 8 * (1 + w x)) : ∀ xs : List α, wSum c xs ≤ 8 * wList w xs
 | [] => by simp [wSum, wList]
 | x :: xs => by
  have := wSum_bound h xs
  have := h x
  simp only [wSum, wList, List.map_cons, List.sum_cons, List.length_cons] at *
  omega
theorem wSum_ge {α : Type} {c : α → Nat} (h : ∀ x, 1 ≤ c x) : ∀ xs : List α, xs.length ≤ wSum c xs
 | [] => by simp [wSum]
 | x :: xs => by
  have := wSum_ge h xs
  have := h x
  simp only [wSum, List.map_cons, List.sum_cons, List.length_cons] at *
  omega
theorem wSum_const {α : Type} {n : Nat} : ∀ xs : List α, wSum (fun _ => n) xs = n * xs.length
 | [] => by simp [wSum]
 | x :: xs => by
  have := wSum_const (n := n) xs
  simp only [wSum, List.map_cons, List.sum_cons, List.length_cons] at *
  rw [Nat.mul_add]; omega
def mDig (k : Nat) (out : Str) : Str := if k = 0 then out else mDig (k / 10) (strOf [UInt8.ofNat (IntKind.u8.wrap (48 + (k : Int) % 10)).toNat] ++ out)
termination_by k
theorem mDig_go {k : Nat} {out : Str} (h : 0 < (k : Int)) : mDig (k / 10) (strOf [UInt8.ofNat (IntKind.u8.wrap (48 + (k : Int) % 10)).toNat] ++ out) = mDig k out := by rw [mDig.eq_def k out, if_neg (by omega)]
theorem mDig_end {k : Nat} {out : Str} (h : ¬ 0 < (k : Int)) : mDig k out = out := by rw [mDig.eq_def k out, if_pos (by omega)]
def mText (k : Int) : Str := if k ≤ 0 then ByteArray.mk #[109, 48] else ByteArray.mk #[109] ++ mDig k.toNat (ByteArray.mk #[])

def mkByte (_ : UInt8) (k : Int) : UInt8 := UInt8.ofNat (k % 256).toNat
def cByte (_ : UInt8) : Nat := 1
def mkField (x : FieldT) (k : Int) : FieldT := (mText (k), (k) + (1))
def cField (x : FieldT) : Nat := 2
theorem cField_le (x : FieldT) : cField x ≤ 8 * (1 + wField x) := by
 simp only [cField]
 omega
theorem ok_laws_markText {k : Int} (hk : k ≤ 9000000000000000000) : PFn Try.prog 71 [.one (.dv [] (.int .i64 (k)))] (.one (.dv [] (.str (mText k)))) := by
 refine ⟨fn_intro Try.func71 rfl Try.ntmps71 Try.results71 rfl (fun C => ?_)⟩
 refine ok_fact (x := .tmp 0) (ev_tmp rfl) fun f0 => ?_
 iterate 8 refine z ?_
 refine yQ rfl (fun c1 => ?_) fun c1 => ?_
 ·skip
  have d1 := of_decide_eq_true c1
  iterate 6 refine z ?_
  rw [mText, if_pos d1]
 ·skip
  have d1 := of_decide_eq_false c1
  iterate 7 refine z ?_
  refine ok_loop (ι := Nat × Str) (fun zz => ⟨[(0, .one (.dv [] (.int .i64 ((zz.1 : Int))))), (2, .one (.dv [] (.str (ByteArray.mk #[])))), (3, .one (.dv [] (.str (zz.2))))], [], []⟩) (fun zz => mDig zz.1 zz.2 = mDig k.toNat (ByteArray.mk #[]) ∧ zz.2.size + zz.1 ≤ k.toNat) (fun zz => zz.1) ((k.toNat, ByteArray.mk #[])) ?_ (weak_sub ⟨(eqSlotI (by show k = ((k.toNat : Nat) : Int); omega)), rfl, rfl, trivial⟩ trivial trivial rfl) (fun zz hx => ?_)
  ·exact ⟨rfl, by show 0 + _ ≤ _; omega⟩
  obtain ⟨n, out⟩ := zz
  replace hx : mDig n out = mDig k.toNat (ByteArray.mk #[]) ∧ out.size + n ≤ k.toNat := hx
  obtain ⟨hd, hs⟩ := hx
  show Ok _ _ _ _ _ (⟨[(0, .one (.dv [] (.int .i64 ((n : Int))))), (2, .one (.dv [] (.str (ByteArray.mk #[])))), (3, .one (.dv [] (.str (out))))], [], []⟩ : St)
  iterate 5 refine z ?_
  refine yQ rfl (fun c2 => ?_) fun c2 => ?_
  ·skip
   have d2 := of_decide_eq_true c2
   have hs1 : (strOf [UInt8.ofNat (IntKind.u8.wrap (48 + (n : Int) % 10)).toNat]).size = 1 := rfl
   iterate 5 refine z ?_
   refine yO rfl rfl (pu_remN rfl (ev_tmp rfl) (ev_int (inR_lit rfl)) (by omega) (by omega)) rfl ?_
   refine z ?_
   refine yO rfl rfl (pu_convI hT rfl rfl rfl (ev_tmp rfl)) rfl ?_
   refine o_build1 (k := 12) (js := []) hT rfl rfl rfl rfl rfl rfl rfl rfl rfl (ev_tmp rfl) rfl rfl (ow_cons' (ow_dv rfl) ow_nil rfl) (by decide) (by decide) rfl rfl ?_
   simp only [killT, killB, SV.kill, CV.kill, kk, Nat.reduceBEq]
   refine yO rfl rfl (pu_convB1 (b := UInt8.ofNat (IntKind.u8.wrap ((48) + (((n : Int)) % (10)))).toNat) hT rfl rfl rfl rfl (ev_keyv (c := ⟨false, 5, 1, 1, [.int .u8 (IntKind.u8.wrap ((48) + (((n : Int)) % (10))))]⟩) (ev_tmp rfl) rfl) (wrap_u8 _)) rfl ?_
   refine z ?_
   refine yO rfl rfl (pu_sadd rfl (ev_tmp rfl) (ev_tmp rfl) (by omega)) rfl ?_
   iterate 2 refine z ?_
   refine ok_region ?_
   refine z ?_
   refine yO rfl rfl (pu_quoN rfl (ev_tmp rfl) (ev_int (inR_lit rfl)) (by omega) (by omega)) rfl ?_
   refine z ?_
   refine ops_nil ?_
   iterate 2 refine z ?_
   refine ⟨(n / 10, strOf [UInt8.ofNat (IntKind.u8.wrap (48 + (n : Int) % 10)).toNat] ++ out), ?_, ?_, weak_sub ⟨rfl, rfl, rfl, trivial⟩ trivial trivial rfl⟩
   ·exact ⟨(mDig_go d2).trans hd, by rw [ByteArray.size_append, hs1]; dsimp only; omega⟩
   ·dsimp only; omega
  ·skip
   have d2 := of_decide_eq_false c2
   have hs9 : (ByteArray.mk #[109]).size = 1 := rfl
   iterate 7 refine z ?_
   refine yO rfl rfl (pu_sadd rfl (ev_str (str_lit rfl)) (ev_tmp rfl) (by omega)) rfl ?_
   iterate 4 refine z ?_
   rw [mText, if_neg d1, ← hd, mDig_end d2]
theorem ok_laws_markFieldS {x : List (FieldT)} {k : Int} (h0 : 0 ≤ k) (h1 : k + (wSum cField x : Int) ≤ 4611686018427387904) : WFn Try.prog 72 [.one (.key 0), .one (.dv [] (.int .i64 (k)))] (.one (.dv [] (.int .i64 (k + (wSum cField x : Int))))) [(0, kcOf true (.sl 161 2 (x.length) (x.flatMap eField)))] [(0, kcOf true (fieldsD (mkL mkField cField x k)))] := by
 refine ⟨fn_intro Try.func72 rfl Try.ntmps72 Try.results72 rfl (fun C => ?_)⟩
 have hln : x.length ≤ wSum cField x := wSum_ge (fun _ => by simp only [cField]; omega) x
 refine ok_fact (x := .tmp 1) (ev_tmp rfl) fun f1 => ?_
 iterate 8 refine z ?_
 refine ok_loop (ι := Nat) (fun zz => ⟨[(0, .one (.key 0)), (1, .one (.dv [] (.int .i64 (k + (wSum cField (x.take zz) : Int))))), (4, .one (.dv [] (.int .i64 (0)))), (5, .one (.dv [] (.int .i64 ((zz : Int)))))], [], [(0, some ⟨true, 161, 2, x.length, (mkL mkField cField (x.take zz) k).flatMap eField ++ (x.drop zz).flatMap eField⟩)]⟩) (fun zz => zz ≤ x.length) (fun zz => x.length - zz) (0) ?_ (weak_sub ⟨rfl, (eqSlotI (by simp [wSum])), rfl, rfl, trivial⟩ trivial ⟨rfl, trivial⟩ rfl) (fun zz hx => ?_)
 ·exact Nat.zero_le _
 obtain ⟨j, rfl⟩ : ∃ v, v = zz := ⟨_, rfl⟩
 replace hx : j ≤ x.length := hx
 have hw := fun h => wSum_succ cField x j h
 show Ok _ _ _ _ _ (⟨[(0, .one (.key 0)), (1, .one (.dv [] (.int .i64 (k + (wSum cField (x.take j) : Int))))), (4, .one (.dv [] (.int .i64 (0)))), (5, .one (.dv [] (.int .i64 ((j : Int)))))], [], [(0, some ⟨true, 161, 2, x.length, (mkL mkField cField (x.take j) k).flatMap eField ++ (x.drop j).flatMap eField⟩)]⟩ : St)
 iterate 4 refine z ?_
 refine yO rfl rfl (pu_lenKn (n := (x.length)) hT rfl rfl (ev_tmp rfl) rfl rfl) rfl ?_
 iterate 2 refine z ?_
 refine yQ rfl (fun c1 => ?_) fun c1 => ?_
 ·skip
  have d1 := of_decide_eq_true c1
  have hj : j < x.length := by omega
  obtain ⟨hw1, hw2⟩ := hw hj
  have hc : cField (x.getD (j : Int).toNat default) = 2 := rfl
  refine ok_kcs (k := 0) (cs' := mid ((mkL mkField cField (x.take j) k).flatMap eField) [.str ((x.getD (j : Int).toNat default).1), .int .i64 ((x.getD (j : Int).toNat default).2)] ((x.drop (j + 1)).flatMap eField)) rfl (mk_open hj) ?_
  iterate 8 refine z ?_
  refine zC Try.call71 ?_ (hf := ok_laws_markText (by omega))
  refine yO rfl rfl (pu_indexK (i := j) hT rfl rfl rfl (ev_tmp rfl) rfl (ev_tmp rfl) rfl (by show _ < (x.length); omega)) rfl ?_
  refine z ?_
  refine o_storeE (js := []) (cs := mid ((mkL mkField cField (x.take j) k).flatMap eField) [.str (mText (k + (wSum cField (x.take j) : Int))), .int .i64 ((x.getD (j : Int).toNat default).2)] ((x.drop (j + 1)).flatMap eField)) hT rfl rfl rfl rfl (ev_tmp rfl) (ev_tmp rfl) rfl rfl rfl rfl (ow_cons' (ow_dv rfl) ow_nil rfl) (by decide) (by decide) rfl (le_mid (off := (j * 2 + 0)) (n := 1) (j := 0) (mk_pre (sz := 2) (fun _ => rfl) (Nat.le_of_lt hj)) (by omega) (Nat.le_of_ble_eq_true rfl)) (setR_mid (off := (j * 2 + 0)) (j := 0) (mk_pre (sz := 2) (fun _ => rfl) (Nat.le_of_lt hj)) (by omega) rfl (Nat.le_of_ble_eq_true rfl)) ?_
  simp only [killT, killB, SV.kill, CV.kill, kk, Nat.reduceBEq]
  iterate 10 refine z ?_
  refine yO rfl rfl (pu_indexK (i := j) hT rfl rfl rfl (ev_tmp rfl) rfl (ev_tmp rfl) rfl (by show _ < (x.length); omega)) rfl ?_
  refine z ?_
  refine o_storeE (js := []) (cs := mid ((mkL mkField cField (x.take j) k).flatMap eField) [.str (mText (k + (wSum cField (x.take j) : Int))), .int .i64 ((k + (wSum cField (x.take j) : Int)) + (1))] ((x.drop (j + 1)).flatMap eField)) hT rfl rfl rfl rfl (ev_tmp rfl) (ev_tmp rfl) rfl rfl rfl rfl (ow_cons' (ow_dv rfl) ow_nil rfl) (by decide) (by decide) rfl (le_mid (off := (j * 2 + 1)) (n := 1) (j := 1) (mk_pre (sz := 2) (fun _ => rfl) (Nat.le_of_lt hj)) (by omega) (Nat.le_of_ble_eq_true rfl)) (setR_mid (off := (j * 2 + 1)) (j := 1) (mk_pre (sz := 2) (fun _ => rfl) (Nat.le_of_lt hj)) (by omega) rfl (Nat.le_of_ble_eq_true rfl)) ?_
  simp only [killT, killB, SV.kill, CV.kill, kk, Nat.reduceBEq]
  refine z ?_
  refine ok_region ?_
  iterate 3 refine z ?_
  refine ops_nil ?_
  iterate 2 refine z ?_
  refine ok_region ?_
  iterate 4 refine z ?_
  refine ⟨j + 1, ?_, ?_, weak_sub ⟨rfl, (eqSlotI (by omega)), rfl, rfl, trivial⟩ trivial ⟨(congrArg (fun cs => some (some (KC.mk true 161 2 x.length cs))) (mk_close (by omega) (by rfl))), trivial⟩ rfl⟩
  ·omega
  ·omega
 ·skip
  have d1 := of_decide_eq_false c1
  iterate 9 refine z ?_
  refine ok_weak (σ' := ⟨[(4, .one (.dv [] (.int .i64 (k + (wSum cField (x.take j) : Int)))))], [], [(0, some (kcOf true (fieldsD (mkL mkField cField x k))))]⟩) (weak_sub ⟨rfl, trivial⟩ trivial ⟨(mk_fin (by omega)), trivial⟩ rfl) ?_
  refine z ?_
  refine fin1 (res_tmp rfl) ⟨eqI ?_, w1_ok rfl⟩
  have hq := wSum_all cField x j (by omega); omega
theorem ok_laws_heldFieldS {x y : List (FieldT)} {k : Int} (hy : y = mkL mkField cField x k) (h0 : 0 ≤ k) (h1 : k + (wSum cField x : Int) ≤ 4611686018427387904) : PFn Try.prog 81 [.one (.dv [] (fieldsD (y))), .one (.dv [] (.int .i64 (k)))] (.one (.dv [] (.int .i64 (k + (wSum cField x : Int))))) := by
 refine ⟨fn_intro Try.func81 rfl Try.ntmps81 Try.results81 rfl (fun C => ?_)⟩
 refine ok_fact (x := .tmp 0) (ev_tmp rfl) fun f0 => ?_
 refine ok_fact (x := .tmp 1) (ev_tmp rfl) fun f1 => ?_
 iterate 8 refine z ?_
 refine ok_loop (ι := Nat) (fun zz => ⟨[(0, .one (.dv [] (fieldsD (y)))), (1, .one (.dv [] (.int .i64 (k + (wSum cField (x.take zz) : Int))))), (5, .one (.dv [] (.int .i64 ((zz : Int)))))], [], []⟩) (fun zz => zz ≤ x.length) (fun zz => x.length - zz) (0) ?_ (weak_sub ⟨rfl, (eqSlotI (by simp [wSum])), rfl, trivial⟩ trivial trivial rfl) (fun zz hx => ?_)
 ·exact Nat.zero_le _
 obtain ⟨j, rfl⟩ : ∃ v, v = zz := ⟨_, rfl⟩
 replace hx : j ≤ x.length := hx
 have hw := fun h => wSum_succ cField x j h
 have hyl : y.length = x.length := by rw [hy, mkL_len]
 show Ok _ _ _ _ _ (⟨[(0, .one (.dv [] (fieldsD (y)))), (1, .one (.dv [] (.int .i64 (k + (wSum cField (x.take j) : Int))))), (5, .one (.dv [] (.int .i64 ((j : Int)))))], [], []⟩ : St)
 iterate 7 refine z ?_
 refine yQ rfl (fun c1 => ?_) fun c1 => ?_
 ·skip
  have d1 := of_decide_eq_true c1
  have hj : j < x.length := by omega
  obtain ⟨hw1, hw2⟩ := hw hj
  have hc : cField (x.getD (j : Int).toNat default) = 2 := rfl
  have he : y.getD (j : Int).toNat default = mkField (x.getD (j : Int).toNat default) (k + (wSum cField (x.take j) : Int)) := by rw [hy]; exact mkL_getD hj
  iterate 4 refine z ?_
  refine ok_seq ?_
  refine ok_seq ?_
  refine ok_regionD (oB := []) (oK := []) (by kernel_rfl) rfl rfl ?_
  refine zD 0 ?_
  refine zD 1 ?_
  refine zD 2 ?_
  refine zD 3 ?_
  refine zD 4 ?_
  refine zD 5 ?_
  refine d_call 6 rfl (by kernel_rfl) rfl rfl rfl Try.call71 (ok_laws_markText (by omega)) (as_cons (ev_tmp rfl) (ag_one ac_dv) as_nil) rfl rfl rfl rfl ?_
  refine zD 7 ?_
  refine d_done (by kernel_rfl) ?_
  refine z ?_
  refine yQ rfl (fun c2 => ?_) fun c2 => ?_
  ·skip
   iterate 11 refine z ?_
   exfalso; rw [he] at c2; simp [mkField, sEq] at c2
  ·skip
   iterate 17 refine z ?_
   refine yQ rfl (fun c3 => ?_) fun c3 => ?_
   ·skip
    have d3 := nd_t c3
    iterate 11 refine z ?_
    exfalso; rw [he] at c3; simp [mkField, sEq] at c3
   ·skip
    have d3 := nd_f c3
    iterate 2 refine z ?_
    refine ok_region ?_
    iterate 3 refine z ?_
    refine ops_nil ?_
    iterate 2 refine z ?_
    refine ok_region ?_
    iterate 4 refine z ?_
    refine ⟨j + 1, ?_, ?_, weak_sub ⟨rfl, (eqSlotI (by omega)), rfl, trivial⟩ trivial trivial rfl⟩
    ·omega
    ·omega
 ·skip
  have d1 := of_decide_eq_false c1
  iterate 11 refine z ?_
  have hq := wSum_all cField x j (by omega); omega
end Go.Proofs.Ytlogahkchenpdaa

namespace Go.Proofs.Ytlogahkchenpdaa
open Go.RowKit
open Go.Proofs
set_option linter.unusedVariables false
set_option linter.unusedSimpArgs false

def uvL (n : Nat) : List UInt8 := if h : n < 128 then [UInt8.ofNat n] else UInt8.ofNat (n % 128 + 128) :: uvL (n / 128)
termination_by n
decreasing_by omega
theorem uvL_lt {n : Nat} (h : n < 128) : uvL n = [UInt8.ofNat n] := by rw [uvL, dif_pos h]
theorem uvL_ge {n : Nat} (h : ¬ n < 128) : uvL n = UInt8.ofNat (n % 128 + 128) :: uvL (n / 128) := by rw [uvL, dif_neg h]
def appU (b : List UInt8) (n : Int) : List UInt8 := if 0 ≤ n ∧ n ≤ 1000000000000 then b ++ uvL n.toNat else b
theorem inr_of {n : Int} (h : (!(decide (0 ≤ n) && decide (n ≤ 1000000000000))) = false) : 0 ≤ n ∧ n ≤ 1000000000000 := by simpa using h
theorem inr_no {n : Int} (h : (!(decide (0 ≤ n) && decide (n ≤ 1000000000000))) = true) : ¬ (0 ≤ n ∧ n ≤ 1000000000000) := fun h2 => by
 rw [decide_eq_true h2.1, decide_eq_true h2.2] at h; cases h
theorem appU_in {b : List UInt8} {n : Int} (h : 0 ≤ n ∧ n ≤ 1000000000000) : appU b n = b ++ uvL n.toNat := if_pos h
theorem appU_out {b : List UInt8} {n : Int} (h : ¬ (0 ≤ n ∧ n ≤ 1000000000000)) : appU b n = b := if_neg h
theorem uvL_len : ∀ (k n : Nat), n < 128 ^ (k + 1) → (uvL n).length ≤ k + 1
 | 0, n, h => by rw [uvL_lt (by simpa using h)]; simp
 | k + 1, n, h => by
  by_cases h1 : n < 128
  ·rw [uvL_lt h1]; simp
  ·rw [uvL_ge h1, List.length_cons]
   have := uvL_len k (n / 128) (by rw [Nat.pow_succ] at h; omega)
   omega
theorem uv_len {n : Nat} (h : n ≤ 1000000000000) : (uvL n).length ≤ 6 := uvL_len 5 n (by omega)
theorem appU_len (b : List UInt8) (n : Int) : (appU b n).length ≤ b.length + 6 := by
 unfold appU
 split
 ·rename_i h
  have := uv_len (n := n.toNat) (by omega)
  rw [List.length_append]; omega
 ·omega
theorem uv_step {o x : List UInt8} {m n : Nat} (ho : o ++ uvL m = x ++ uvL n) (h : (128 : Int) ≤ (m : Int)) : (o ++ [UInt8.ofNat (m % 128 + 128)]) ++ uvL (m / 128) = x ++ uvL n := by
 rw [← ho, uvL_ge (n := m) (by omega)]; simp
theorem uv_end {x o : List UInt8} {n : Int} {m : Nat} (hr : 0 ≤ n ∧ n ≤ 1000000000000) (ho : o ++ uvL m = x ++ uvL n.toNat) (h : ¬ (128 : Int) ≤ (m : Int)) : o ++ [UInt8.ofNat m] = appU x n := by
 rw [appU_in hr, ← ho, uvL_lt (n := m) (by omega)]
theorem byte_of {m : Nat} (z : Int) (hz : z = (m : Int)) : IntKind.u8.wrap z = ((UInt8.ofNat m).toNat : Int) := by
 subst hz
 simp [IntKind.wrap, IntKind.signed, IntKind.bits]
theorem app_byte {o : List UInt8} {m : Nat} {z : Int} (hz : z = (m : Int)) : o.flatMap eByte ++ [DV.int .u8 (IntKind.u8.wrap z)] = (o ++ [UInt8.ofNat m]).flatMap eByte := by
 rw [List.flatMap_append, byte_of z hz]; rfl

theorem ok_impl_copyBytes {x : List UInt8} (hb : x.length ≤ 4398046511104) : KFn Try.prog 125 [.one (.dv [] (bytesD (x)))] (.one (.key 3)) [(3, some (kcOf false (bytesD (x))))] := by
 refine ⟨fn_intro Try.func125 rfl Try.ntmps125 Try.results125 rfl (fun C => ?_)⟩
 refine ok_fact (x := .tmp 0) (ev_tmp rfl) fun f0 => ?_
 iterate 4 refine z ?_
 refine o_build0 (k := 3) hT rfl rfl rfl rfl rfl rfl rfl rfl ?_
 refine z ?_
 refine o_appV (k := 3) (cs := (x).flatMap eByte) (n := (x).length) hT rfl rfl rfl rfl rfl rfl rfl (ev_tmp rfl) rfl rfl rfl (ev_tmp rfl) (plain_flat (fun _ => rfl) _) (by first | (dsimp only [kcOf]; omega) | omega) (by first | (dsimp only [kcOf]; omega) | omega) (Nat.zero_add _) (rfl) ?_
 simp only [killT, killB, SV.kill, CV.kill, kk, Nat.reduceBEq]
 iterate 2 refine z ?_
 refine ok_weak (σ' := ⟨[(2, .one (.key 3))], [], [(3, some (kcOf false (bytesD (x))))]⟩) (weak_sub ⟨rfl, trivial⟩ trivial ⟨rfl, trivial⟩ rfl) ?_
 refine z ?_
 refine fin1 (res_tmp rfl) ?_
 exact ⟨rfl, rfl⟩
theorem ok_impl_AppendUvarint {x : List UInt8} {n : Int} (hb : x.length ≤ 2199023255552) : KFn Try.prog 66 [.one (.dv [] (bytesD (x))), .one (.dv [] (.int .i64 (n)))] (.one (.key 30)) [(30, some (kcOf false (bytesD (appU x n))))] := by
 refine ⟨fn_intro Try.func66 rfl Try.ntmps66 Try.results66 rfl (fun C => ?_)⟩
 refine ok_fact (x := .tmp 0) (ev_tmp rfl) fun f0 => ?_
 refine ok_fact (x := .tmp 1) (ev_tmp rfl) fun f1 => ?_
 iterate 5 refine z ?_
 refine zK 27 Try.call125 ?_ (hf := ok_impl_copyBytes (x := x) (by omega))
 iterate 5 refine z ?_
 refine zC Try.call98 ?_ (hf := ok_impl_InRange)
 iterate 2 refine z ?_
 refine yQ rfl (fun c1 => ?_) fun c1 => ?_
 ·skip
  have hno := inr_no c1
  iterate 4 refine z ?_
  refine ok_weak (σ' := ⟨[(4, .one (.key 30))], [], [(30, some (kcOf false (bytesD (appU x n))))]⟩) (weak_sub ⟨rfl, trivial⟩ trivial ⟨(congrArg (fun l : List UInt8 => some (some (KC.mk false 5 1 l.length (l.flatMap eByte)))) (by first | exact (appU_out hno).symm | exact (uv_end hr ho d2))), trivial⟩ rfl) ?_
  iterate 2 refine z ?_
  refine fin1 (res_tmp rfl) ?_
  exact ⟨rfl, rfl⟩
 ·skip
  have hr := inr_of c1
  iterate 4 refine z ?_
  refine ok_loop (ι := Nat × List UInt8) (fun zz => ⟨[(1, .one (.dv [] (.int .i64 ((zz.1 : Int))))), (4, .one .nil), (5, .one (.key 30))], [], [(30, some (kcOf false (.sl 5 1 (zz.2.length) (zz.2.flatMap eByte))))]⟩) (fun zz => zz.2 ++ uvL zz.1 = x ++ uvL n.toNat ∧ zz.1 ≤ 1000000000000) (fun zz => zz.1) ((n.toNat, x)) ?_ (weak_sub ⟨(congrArg (fun z : Int => some (SV.one (CV.dv [] (DV.int .i64 z)))) (show n = ((n.toNat : Nat) : Int) by omega)), rfl, rfl, trivial⟩ trivial ⟨rfl, trivial⟩ rfl) (fun zz hx => ?_)
  ·exact ⟨rfl, by dsimp only; omega⟩
  obtain ⟨m, o⟩ := zz
  replace hx : o ++ uvL m = x ++ uvL n.toNat ∧ m ≤ 1000000000000 := hx
  obtain ⟨ho, hm⟩ := hx
  have hl := congrArg List.length ho
  rw [List.length_append, List.length_append] at hl
  have hl2 := uv_len (n := n.toNat) (by omega)
  show Ok _ _ _ _ _ (⟨[(1, .one (.dv [] (.int .i64 ((m : Int))))), (4, .one .nil), (5, .one (.key 30))], [], [(30, some (kcOf false (.sl 5 1 (o.length) (o.flatMap eByte))))]⟩ : St)
  iterate 5 refine z ?_
  refine yQ rfl (fun c2 => ?_) fun c2 => ?_
  ·skip
   have d2 := of_decide_eq_true c2
   iterate 6 refine z ?_
   refine yO rfl rfl (pu_remN rfl (ev_tmp rfl) (ev_int (inR_lit rfl)) (by omega) (by omega)) rfl ?_
   refine z ?_
   refine yO rfl rfl (pu_convI hT rfl rfl rfl (ev_tmp rfl)) rfl ?_
   refine o_build1 (k := 19) (js := []) hT rfl rfl rfl rfl rfl rfl rfl rfl rfl (ev_tmp rfl) rfl rfl (ow_cons' (ow_dv rfl) ow_nil rfl) (by decide) (by decide) rfl rfl ?_
   simp only [killT, killB, SV.kill, CV.kill, kk, Nat.reduceBEq]
   refine o_appK (k := 30) (j := 19) (cs := (o ++ [UInt8.ofNat (m % 128 + 128)]).flatMap eByte) (n := (o ++ [UInt8.ofNat (m % 128 + 128)]).length) hT rfl rfl rfl rfl rfl rfl rfl (ev_tmp rfl) rfl rfl rfl (ev_tmp rfl) rfl rfl (by decide) (by dsimp only [kcOf]; omega) (by dsimp only [kcOf]; omega) (by simp) (app_byte (by omega)) ?_
   simp only [killT, killB, SV.kill, CV.kill, kk, Nat.reduceBEq]
   iterate 2 refine z ?_
   refine ok_region ?_
   refine z ?_
   refine yO rfl rfl (pu_quoN rfl (ev_tmp rfl) (ev_int (inR_lit rfl)) (by omega) (by omega)) rfl ?_
   refine z ?_
   refine ops_nil ?_
   iterate 2 refine z ?_
   refine ⟨(m / 128, o ++ [UInt8.ofNat (m % 128 + 128)]), ?_, ?_, weak_sub ⟨rfl, rfl, rfl, trivial⟩ trivial ⟨rfl, trivial⟩ rfl⟩
   ·exact ⟨uv_step ho d2, by dsimp only; omega⟩
   ·dsimp only; omega
  ·skip
   have d2 := of_decide_eq_false c2
   iterate 8 refine z ?_
   refine yO rfl rfl (pu_convI hT rfl rfl rfl (ev_tmp rfl)) rfl ?_
   refine o_build1 (k := 26) (js := []) hT rfl rfl rfl rfl rfl rfl rfl rfl rfl (ev_tmp rfl) rfl rfl (ow_cons' (ow_dv rfl) ow_nil rfl) (by decide) (by decide) rfl rfl ?_
   simp only [killT, killB, SV.kill, CV.kill, kk, Nat.reduceBEq]
   refine o_appK (k := 30) (j := 26) (cs := (o ++ [UInt8.ofNat m]).flatMap eByte) (n := (o ++ [UInt8.ofNat m]).length) hT rfl rfl rfl rfl rfl rfl rfl (ev_tmp rfl) rfl rfl rfl (ev_tmp rfl) rfl rfl (by decide) (by dsimp only [kcOf]; omega) (by dsimp only [kcOf]; omega) (by simp) (app_byte rfl) ?_
   simp only [killT, killB, SV.kill, CV.kill, kk, Nat.reduceBEq]
   iterate 2 refine z ?_
   refine ok_weak (σ' := ⟨[(4, .one (.key 30))], [], [(30, some (kcOf false (bytesD (appU x n))))]⟩) (weak_sub ⟨rfl, trivial⟩ trivial ⟨(congrArg (fun l : List UInt8 => some (some (KC.mk false 5 1 l.length (l.flatMap eByte)))) (by first | exact (appU_out hno).symm | exact (uv_end hr ho d2))), trivial⟩ rfl) ?_
   refine z ?_
   refine fin1 (res_tmp rfl) ?_
   exact ⟨rfl, rfl⟩
theorem ok_impl_AppendBytes {x y : List UInt8} (hb : x.length ≤ 1099511627776) (hb2 : y.length ≤ 1099511627776) : KFn Try.prog 69 [.one (.dv [] (bytesD (x))), .one (.dv [] (bytesD (y)))] (.one (.key 8030)) [(8030, some (kcOf false (bytesD (appU x (y.length : Int) ++ y))))] := by
 refine ⟨fn_intro Try.func69 rfl Try.ntmps69 Try.results69 rfl (fun C => ?_)⟩
 have hal := appU_len x (y.length : Int)
 refine ok_fact (x := .tmp 0) (ev_tmp rfl) fun f0 => ?_
 refine ok_fact (x := .tmp 1) (ev_tmp rfl) fun f1 => ?_
 iterate 7 refine z ?_
 refine zK 8000 Try.call66 ?_ (hf := ok_impl_AppendUvarint (x := x) (n := (y.length : Int)) (by omega))
 refine z ?_
 refine o_appV (k := 8030) (cs := (appU x (y.length : Int) ++ y).flatMap eByte) (n := (appU x (y.length : Int) ++ y).length) hT rfl rfl rfl rfl rfl rfl rfl (ev_tmp rfl) rfl rfl rfl (ev_tmp rfl) (plain_flat (fun _ => rfl) _) (by dsimp only [kcOf, KC.old]; omega) (by dsimp only [kcOf, KC.old]; omega) (by simp [kcOf, KC.old]) (by rw [List.flatMap_append]; rfl) ?_
 simp only [killT, killB, SV.kill, CV.kill, kk, Nat.reduceBEq]
 iterate 2 refine z ?_
 refine ok_weak (σ' := ⟨[(4, .one (.key 8030))], [], [(8030, some (kcOf false (bytesD (appU x (y.length : Int) ++ y))))]⟩) (weak_sub ⟨rfl, trivial⟩ trivial ⟨rfl, trivial⟩ rfl) ?_
 refine z ?_
 refine fin1 (res_tmp rfl) ?_
 exact ⟨rfl, rfl⟩
theorem ok_spec_AppendUvarint {x : List UInt8} {n : Int} (hb : x.length ≤ 2199023255552) : KFn Try.prog 59 [.one (.dv [] (bytesD (x))), .one (.dv [] (.int .i64 (n)))] (.one (.key 6)) [(6, some (kcOf false (bytesD (appU x n))))] := by
 refine ⟨fn_intro Try.func59 rfl Try.ntmps59 Try.results59 rfl (fun C => ?_)⟩
 refine ok_fact (x := .tmp 0) (ev_tmp rfl) fun f0 => ?_
 refine ok_fact (x := .tmp 1) (ev_tmp rfl) fun f1 => ?_
 iterate 4 refine z ?_
 refine o_build0 (k := 6) hT rfl rfl rfl rfl rfl rfl rfl rfl ?_
 refine z ?_
 refine o_appV (k := 6) (cs := (x).flatMap eByte) (n := (x).length) hT rfl rfl rfl rfl rfl rfl rfl (ev_tmp rfl) rfl rfl rfl (ev_tmp rfl) (plain_flat (fun _ => rfl) _) (by first | (dsimp only [kcOf]; omega) | omega) (by first | (dsimp only [kcOf]; omega) | omega) (Nat.zero_add _) (rfl) ?_
 simp only [killT, killB, SV.kill, CV.kill, kk, Nat.reduceBEq]
 iterate 5 refine z ?_
 refine zC Try.call96 ?_ (hf := ok_spec_l1In)
 iterate 2 refine z ?_
 refine yQ rfl (fun c1 => ?_) fun c1 => ?_
 ·skip
  have hno := inr_no c1
  iterate 4 refine z ?_
  refine ok_weak (σ' := ⟨[(4, .one (.key 6))], [], [(6, some (kcOf false (bytesD (appU x n))))]⟩) (weak_sub ⟨rfl, trivial⟩ trivial ⟨(congrArg (fun l : List UInt8 => some (some (KC.mk false 5 1 l.length (l.flatMap eByte)))) (by first | exact (appU_out hno).symm | exact (uv_end hr ho (by omega)))), trivial⟩ rfl) ?_
  iterate 2 refine z ?_
  refine fin1 (res_tmp rfl) ?_
  exact ⟨rfl, rfl⟩
 ·skip
  have hr := inr_of c1
  iterate 4 refine z ?_
  refine ok_loop (ι := Nat × List UInt8) (fun zz => ⟨[(1, .one (.dv [] (.int .i64 ((zz.1 : Int))))), (4, .one .nil), (5, .one (.key 6))], [], [(6, some (kcOf false (.sl 5 1 (zz.2.length) (zz.2.flatMap eByte))))]⟩) (fun zz => zz.2 ++ uvL zz.1 = x ++ uvL n.toNat ∧ zz.1 ≤ 1000000000000) (fun zz => zz.1) ((n.toNat, x)) ?_ (weak_sub ⟨(congrArg (fun z : Int => some (SV.one (CV.dv [] (DV.int .i64 z)))) (show n = ((n.toNat : Nat) : Int) by omega)), rfl, rfl, trivial⟩ trivial ⟨rfl, trivial⟩ rfl) (fun zz hx => ?_)
  ·exact ⟨rfl, by dsimp only; omega⟩
  obtain ⟨m, o⟩ := zz
  replace hx : o ++ uvL m = x ++ uvL n.toNat ∧ m ≤ 1000000000000 := hx
  obtain ⟨ho, hm⟩ := hx
  have hl := congrArg List.length ho
  rw [List.length_append, List.length_append] at hl
  have hl2 := uv_len (n := n.toNat) (by omega)
  show Ok _ _ _ _ _ (⟨[(1, .one (.dv [] (.int .i64 ((m : Int))))), (4, .one .nil), (5, .one (.key 6))], [], [(6, some (kcOf false (.sl 5 1 (o.length) (o.flatMap eByte))))]⟩ : St)
  iterate 5 refine z ?_
  refine yQ rfl (fun c2 => ?_) fun c2 => ?_
  ·skip
   have d2 := of_decide_eq_true c2
   iterate 6 refine z ?_
   refine yO rfl rfl (pu_andR rfl (ev_tmp rfl) (ev_int (inR_lit rfl)) (and127 (by omega) (by omega)) (inR64 (by omega) (by omega))) rfl ?_
   refine yO rfl rfl (pu_orR rfl (ev_tmp rfl) (ev_int (inR_lit rfl)) (or128 (by omega) (by omega)) (inR64 (by omega) (by omega))) rfl ?_
   refine yO rfl rfl (pu_convI hT rfl rfl rfl (ev_tmp rfl)) rfl ?_
   refine o_build1 (k := 20) (js := []) hT rfl rfl rfl rfl rfl rfl rfl rfl rfl (ev_tmp rfl) rfl rfl (ow_cons' (ow_dv rfl) ow_nil rfl) (by decide) (by decide) rfl rfl ?_
   simp only [killT, killB, SV.kill, CV.kill, kk, Nat.reduceBEq]
   refine o_appK (k := 6) (j := 20) (cs := (o ++ [UInt8.ofNat (m % 128 + 128)]).flatMap eByte) (n := (o ++ [UInt8.ofNat (m % 128 + 128)]).length) hT rfl rfl rfl rfl rfl rfl rfl (ev_tmp rfl) rfl rfl rfl (ev_tmp rfl) rfl rfl (by decide) (by dsimp only [kcOf]; omega) (by dsimp only [kcOf]; omega) (by simp) (app_byte (by omega)) ?_
   simp only [killT, killB, SV.kill, CV.kill, kk, Nat.reduceBEq]
   iterate 2 refine z ?_
   refine ok_region ?_
   refine z ?_
   refine yO rfl rfl (pu_shrN rfl (ev_tmp rfl) (ev_int (inR_lit rfl)) (by omega) (by omega) (by show _ ≤ 64; omega)) rfl ?_
   refine z ?_
   refine ops_nil ?_
   iterate 2 refine z ?_
   refine ⟨(m / 128, o ++ [UInt8.ofNat (m % 128 + 128)]), ?_, ?_, weak_sub ⟨(congrArg (fun z : Int => some (SV.one (CV.dv [] (DV.int .i64 z)))) (show ((m : Int) / (2 ^ (7 : Int).toNat : Nat)) = ((m / 128 : Nat) : Int) by rw [show (2 ^ (7 : Int).toNat : Nat) = 128 from rfl]; omega)), rfl, rfl, trivial⟩ trivial ⟨rfl, trivial⟩ rfl⟩
   ·exact ⟨uv_step ho (by omega), by dsimp only; omega⟩
   ·dsimp only; omega
  ·skip
   have d2 := of_decide_eq_false c2
   iterate 8 refine z ?_
   refine yO rfl rfl (pu_convI hT rfl rfl rfl (ev_tmp rfl)) rfl ?_
   refine o_build1 (k := 27) (js := []) hT rfl rfl rfl rfl rfl rfl rfl rfl rfl (ev_tmp rfl) rfl rfl (ow_cons' (ow_dv rfl) ow_nil rfl) (by decide) (by decide) rfl rfl ?_
   simp only [killT, killB, SV.kill, CV.kill, kk, Nat.reduceBEq]
   refine o_appK (k := 6) (j := 27) (cs := (o ++ [UInt8.ofNat m]).flatMap eByte) (n := (o ++ [UInt8.ofNat m]).length) hT rfl rfl rfl rfl rfl rfl rfl (ev_tmp rfl) rfl rfl rfl (ev_tmp rfl) rfl rfl (by decide) (by dsimp only [kcOf]; omega) (by dsimp only [kcOf]; omega) (by simp) (app_byte rfl) ?_
   simp only [killT, killB, SV.kill, CV.kill, kk, Nat.reduceBEq]
   iterate 2 refine z ?_
   refine ok_weak (σ' := ⟨[(4, .one (.key 6))], [], [(6, some (kcOf false (bytesD (appU x n))))]⟩) (weak_sub ⟨rfl, trivial⟩ trivial ⟨(congrArg (fun l : List UInt8 => some (some (KC.mk false 5 1 l.length (l.flatMap eByte)))) (by first | exact (appU_out hno).symm | exact (uv_end hr ho (by omega)))), trivial⟩ rfl) ?_
   refine z ?_
   refine fin1 (res_tmp rfl) ?_
   exact ⟨rfl, rfl⟩
theorem ok_spec_AppendBytes {x y : List UInt8} (hb : x.length ≤ 1099511627776) (hb2 : y.length ≤ 1099511627776) : KFn Try.prog 61 [.one (.dv [] (bytesD (x))), .one (.dv [] (bytesD (y)))] (.one (.key 8006)) [(8006, some (kcOf false (bytesD (appU x (y.length : Int) ++ y))))] := by
 refine ⟨fn_intro Try.func61 rfl Try.ntmps61 Try.results61 rfl (fun C => ?_)⟩
 have hal := appU_len x (y.length : Int)
 refine ok_fact (x := .tmp 0) (ev_tmp rfl) fun f0 => ?_
 refine ok_fact (x := .tmp 1) (ev_tmp rfl) fun f1 => ?_
 iterate 7 refine z ?_
 refine zK 8000 Try.call59 ?_ (hf := ok_spec_AppendUvarint (x := x) (n := (y.length : Int)) (by omega))
 refine z ?_
 refine o_appV (k := 8006) (cs := (appU x (y.length : Int) ++ y).flatMap eByte) (n := (appU x (y.length : Int) ++ y).length) hT rfl rfl rfl rfl rfl rfl rfl (ev_tmp rfl) rfl rfl rfl (ev_tmp rfl) (plain_flat (fun _ => rfl) _) (by dsimp only [kcOf, KC.old]; omega) (by dsimp only [kcOf, KC.old]; omega) (by simp [kcOf, KC.old]) (by rw [List.flatMap_append]; rfl) ?_
 simp only [killT, killB, SV.kill, CV.kill, kk, Nat.reduceBEq]
 iterate 2 refine z ?_
 refine ok_weak (σ' := ⟨[(4, .one (.key 8006))], [], [(8006, some (kcOf false (bytesD (appU x (y.length : Int) ++ y))))]⟩) (weak_sub ⟨rfl, trivial⟩ trivial ⟨rfl, trivial⟩ rfl) ?_
 refine z ?_
 refine fin1 (res_tmp rfl) ?_
 exact ⟨rfl, rfl⟩
end Go.Proofs.Ytlogahkchenpdaa

namespace Go.Proofs.Ytlogahkchenpdaa
open Go.RowKit
open Go.Proofs
set_option linter.unusedVariables false
set_option linter.unusedSimpArgs false

def be6 (n : Nat) : List UInt8 := (List.range 6).map fun j => UInt8.ofNat (n / 2 ^ (8 * (5 - j)))
def keyN (k : KeyT) : Nat := (k.2.1 + 1000000000000).toNat
def encK (k : KeyT) : List UInt8 := if isKey k then (UInt8.ofNat k.1.toNat :: (if k.1 = 2 then [] else be6 (keyN k))) ++ k.2.2.data.toList else []
theorem be6_len (n : Nat) : (be6 n).length = 6 := by simp [be6]
theorem be6_succ {n j : Nat} (h : j < 6) : (be6 n).take (j + 1) = (be6 n).take j ++ [UInt8.ofNat (n / 2 ^ (8 * (5 - j)))] := by
 rw [List.take_add_one]
 congr 1
 simp [be6, h]
theorem key_rng {k : KeyT} (h : isKey k = true) : (1 ≤ k.1 ∧ k.1 ≤ 3) ∧ (-1000000000000 ≤ k.2.1 ∧ k.2.1 ≤ 1000000000000) ∧ k.2.2.size ≤ 12 := by
 simp only [isKey, kText, Bool.and_eq_true, decide_eq_true_eq] at h
 omega
theorem encK_bad {k : KeyT} (h : isKey k = false) : encK k = [] := by rw [encK, h]; rfl
theorem encK_txt {k : KeyT} (h : isKey k = true) (h2 : k.1 = 2) : encK k = [UInt8.ofNat k.1.toNat] ++ k.2.2.data.toList := by rw [encK, if_pos h, if_pos h2]
theorem encK_num {k : KeyT} {j : Nat} (h : isKey k = true) (h2 : ¬ k.1 = 2) (hj : 6 ≤ j) : encK k = (UInt8.ofNat k.1.toNat :: (be6 (keyN k)).take j) ++ k.2.2.data.toList := by
 rw [encK, if_pos h, if_neg h2, List.take_of_length_le (by rw [be6_len]; exact hj)]
theorem encK_end {k : KeyT} {j : Nat} (h : isKey k = true) (hj : k.1 = 2 → j = 0) (hc : (decide ((0 : Int) ≤ 5 - (j : Int)) && !decide (k.1 = 2)) = false) : encK k = (UInt8.ofNat k.1.toNat :: (be6 (keyN k)).take j) ++ k.2.2.data.toList := by
 by_cases h2 : k.1 = 2
 ·rw [hj h2, encK_txt h h2]; rfl
 ·rw [decide_eq_false h2] at hc
  exact encK_num h h2 (by have h3 := hc; simp at h3; omega)
theorem encK_len (k : KeyT) : (encK k).length ≤ 19 := by
 unfold encK
 split
 ·rename_i h
  have h1 := (key_rng h).2.2
  have h2 : k.2.2.data.toList.length ≤ 12 := h1
  split
  ·simp only [List.length_append, List.length_cons, List.length_nil]; omega
  ·simp only [List.length_append, List.length_cons, be6_len]; omega
 ·simp
theorem pow_sh (j : Nat) (hj : j < 6) : (2 ^ (8 * (5 - (j : Int))).toNat : Nat) = 2 ^ (8 * (5 - j)) := by
 rw [show (8 * (5 - (j : Int))).toNat = 8 * (5 - j) by omega]
theorem key_byte {k : KeyT} {j : Nat} (h : isKey k = true) (hj : j < 6) : (k.2.1 + 1000000000000) / ((2 ^ (8 * (5 - (j : Int))).toNat : Nat) : Int) = ((keyN k / 2 ^ (8 * (5 - j)) : Nat) : Int) := by
 have h1 := (key_rng h).2.1
 rw [pow_sh j hj, show k.2.1 + 1000000000000 = ((keyN k : Nat) : Int) by unfold keyN; omega, Int.natCast_ediv]
theorem key_byteQ {k : KeyT} {j : Nat} (h : isKey k = true) (hj : j < 6) : ∃ q : Nat, (k.2.1 + 1000000000000) / ((2 ^ (8 * (5 - (j : Int))).toNat : Nat) : Int) = (q : Int) ∧ q ≤ 2000000000000 := by
 have h1 := (key_rng h).2.1
 exact ⟨_, key_byte h hj, Nat.le_trans (Nat.div_le_self _ _) (by unfold keyN; omega)⟩
theorem be_step {k : KeyT} {j : Nat} {z : Int} (h : isKey k = true) (hj : j < 6) (hz : z = (k.2.1 + 1000000000000) / ((2 ^ (8 * (5 - (j : Int))).toNat : Nat) : Int)) :
  (UInt8.ofNat k.1.toNat :: (be6 (keyN k)).take j).flatMap eByte ++ [DV.int .u8 (IntKind.u8.wrap z)] = (UInt8.ofNat k.1.toNat :: (be6 (keyN k)).take (j + 1)).flatMap eByte := by
 rw [key_byte h hj] at hz
 rw [app_byte hz, be6_succ hj]; rfl
theorem u8_and (z : Int) : IntKind.u8.wrap (z % 256) = IntKind.u8.wrap z := by simp [IntKind.wrap, IntKind.signed, IntKind.bits]
theorem byte_hd {k : KeyT} (h : isKey k = true) : [DV.int .u8 (IntKind.u8.wrap k.1)] = (UInt8.ofNat k.1.toNat :: (be6 (keyN k)).take 0).flatMap eByte := by
 have h1 := (key_rng h).1
 exact app_byte (o := []) (m := k.1.toNat) (by omega)
def encRN (r : RecT) : Nat → List UInt8
 | 0 => appU [] (r.length : Int)
 | k + 1 => appU (appU (encRN r k) ((r.getD (k : Int).toNat default).1.data.toList.length : Int) ++ (r.getD (k : Int).toNat default).1.data.toList) (r.getD (k : Int).toNat default).2
def encR (r : RecT) : List UInt8 := if isRec r then encRN r r.length else []
theorem encR_bad {r : RecT} (h : isRec r = false) : encR r = [] := by rw [encR, h]; rfl
theorem encR_ok {r : RecT} {k : Nat} (h : isRec r = true) (hk : k = r.length) : encR r = encRN r k := by rw [encR, if_pos h, hk]
theorem name_size {s : Str} (h : isName s = true) : 1 ≤ s.size ∧ s.size ≤ 8 := by
 simp only [isName, Bool.and_eq_true, decide_eq_true_eq] at h; omega
theorem rec_fld {r : RecT} {k : Nat} (h : isRec r = true) (hk : k < r.length) : isName (r.getD (k : Int).toNat default).1 = true ∧ 0 ≤ (r.getD (k : Int).toNat default).2 ∧ (r.getD (k : Int).toNat default).2 ≤ 1000000000 := by
 simp only [isRec, Bool.and_eq_true, List.all_eq_true] at h
 have h1 := h.1 k (List.mem_range.2 hk)
 unfold recBad at h1
 simp only [Bool.not_or, Bool.not_not, Bool.and_eq_true, decide_eq_true_eq] at h1
 exact ⟨h1.1.1, h1.1.2.1, h1.1.2.2⟩
theorem rec_len {r : RecT} (h : isRec r = true) : r.length ≤ 6 := by
 simp only [isRec, Bool.and_eq_true, decide_eq_true_eq] at h; omega
theorem encRN_len {r : RecT} (h : isRec r = true) : ∀ k, k ≤ r.length → (encRN r k).length ≤ 6 + 20 * k
 | 0, _ => by have := appU_len [] (r.length : Int); simpa [encRN] using this
 | k + 1, hk => by
  have ih := encRN_len h k (by omega)
  have h1 := name_size (rec_fld h (show k < r.length by omega)).1
  have h1 : (r.getD (k : Int).toNat default).1.data.toList.length ≤ 8 := h1.2
  have h2 := appU_len (encRN r k) ((r.getD (k : Int).toNat default).1.data.toList.length : Int)
  have h3 := appU_len (appU (encRN r k) ((r.getD (k : Int).toNat default).1.data.toList.length : Int) ++ (r.getD (k : Int).toNat default).1.data.toList) (r.getD (k : Int).toNat default).2
  rw [List.length_append] at h3
  rw [encRN]
  omega
theorem encR_len (r : RecT) : (encR r).length ≤ 126 := by
 unfold encR
 split
 ·rename_i h
  have h1 := encRN_len h r.length (Nat.le_refl _)
  have h2 := rec_len h
  omega
 ·simp
theorem ok_impl_EncodeKey {k : KeyT}  : KFn Try.prog 67 [.agg [(.dv [] (.int .i64 (k.1))), (.dv [] (.int .i64 (k.2.1))), (.dv [] (.str (k.2.2)))]] (.one (.key 12)) [(12, some (kcOf false (bytesD (encK k))))] := by
 refine ⟨fn_intro Try.func67 rfl Try.ntmps67 Try.results67 rfl (fun C => ?_)⟩
 refine yF 0 0 rfl rfl fun f0_0 => ?_
 refine yF 0 1 rfl rfl fun f0_1 => ?_
 refine yF 0 2 rfl rfl fun f0_2 => ?_
 iterate 7 refine z ?_
 refine zC Try.call126 ?_ (hf := ok_impl_IsKey (k := k) )
 iterate 2 refine z ?_
 refine yQ rfl (fun c1 => ?_) fun c1 => ?_
 ·skip
  have hk0 : isKey k = false := by simpa using c1
  refine z ?_
  refine o_build0 (k := 12) hT rfl rfl rfl rfl rfl rfl rfl rfl ?_
  iterate 2 refine z ?_
  refine ok_weak (σ' := ⟨[(2, .one (.key 12))], [], [(12, some (kcOf false (bytesD (encK k))))]⟩) (weak_sub ⟨rfl, trivial⟩ trivial ⟨(by first | exact congrArg (fun l : List UInt8 => some (some (KC.mk false 5 1 l.length (l.flatMap eByte)))) (show ([] : List UInt8) = encK k from (encK_bad hk0).symm) | rfl), trivial⟩ rfl) ?_
  iterate 2 refine z ?_
  refine fin1 (res_tmp rfl) ?_
  exact ⟨rfl, rfl⟩
 ·skip
  have hk : isKey k = true := by simpa using c1
  have hrg := key_rng hk
  iterate 5 refine z ?_
  refine yO rfl rfl (pu_convI hT rfl rfl rfl (ev_tmp rfl)) rfl ?_
  refine o_build1 (k := 12) (js := []) hT rfl rfl rfl rfl rfl rfl rfl rfl rfl (ev_tmp rfl) rfl rfl (ow_cons' (ow_dv rfl) ow_nil rfl) (by decide) (by decide) rfl rfl ?_
  simp only [killT, killB, SV.kill, CV.kill, kk, Nat.reduceBEq]
  iterate 8 refine z ?_
  refine yQ rfl (fun c2 => ?_) fun c2 => ?_
  ·skip
   have hn2 : ¬ k.1 = 2 := by simpa using c2
   have d2 := nd_t c2
   iterate 4 refine z ?_
   refine ok_loop (ι := Nat) (fun zz => ⟨[(1, .box 1 0), (2, .one .nil), (3, .one (.key 12)), (4, .one (.dv [] (.int .i64 (5 - (zz : Int)))))], [(1, 97, [(.dv [] (.int .i64 (k.1))), (.dv [] (.int .i64 (k.2.1))), (.dv [] (.str (k.2.2)))])], [(12, some (kcOf false (.sl 5 1 ((UInt8.ofNat k.1.toNat :: (be6 (keyN k)).take zz).length) ((UInt8.ofNat k.1.toNat :: (be6 (keyN k)).take zz).flatMap eByte))))]⟩) (fun zz => zz ≤ 6) (fun zz => 6 - zz) (0) ?_ (weak_sub ⟨rfl, rfl, rfl, rfl, trivial⟩ ⟨rfl, trivial⟩ ⟨(congrArg (fun cs => some (some (KC.mk false 5 1 1 cs))) (byte_hd hk)), trivial⟩ rfl) (fun zz hx => ?_)
   ·omega
   obtain ⟨j, rfl⟩ : ∃ v, v = zz := ⟨_, rfl⟩
   replace hx : j ≤ 6 := hx
   show Ok _ _ _ _ _ (⟨[(1, .box 1 0), (2, .one .nil), (3, .one (.key 12)), (4, .one (.dv [] (.int .i64 (5 - (j : Int)))))], [(1, 97, [(.dv [] (.int .i64 (k.1))), (.dv [] (.int .i64 (k.2.1))), (.dv [] (.str (k.2.2)))])], [(12, some (kcOf false (.sl 5 1 ((UInt8.ofNat k.1.toNat :: (be6 (keyN k)).take j).length) ((UInt8.ofNat k.1.toNat :: (be6 (keyN k)).take j).flatMap eByte))))]⟩ : St)
   iterate 5 refine z ?_
   refine yQ rfl (fun c3 => ?_) fun c3 => ?_
   ·skip
    have d3 := of_decide_eq_true c3
    have hj6 : j < 6 := by omega
    iterate 4 refine z ?_
    refine ok_region ?_
    iterate 5 refine z ?_
    refine yO rfl rfl (pu_mulR rfl (ev_int (inR_lit rfl)) (ev_tmp rfl) (inR64 (by omega) (by omega))) rfl ?_
    refine yO rfl rfl (pu_shrN rfl (ev_tmp rfl) (ev_tmp rfl) (by omega) (by omega) (by show _ ≤ 64; omega)) rfl ?_
    refine yO rfl rfl (pu_convI hT rfl rfl rfl (ev_tmp rfl)) rfl ?_
    refine o_build1 (k := 28) (js := []) hT rfl rfl rfl rfl rfl rfl rfl rfl rfl (ev_tmp rfl) rfl rfl (ow_cons' (ow_dv rfl) ow_nil rfl) (by decide) (by decide) rfl rfl ?_
    simp only [killT, killB, SV.kill, CV.kill, kk, Nat.reduceBEq]
    refine o_appK (k := 12) (j := 28) (cs := (UInt8.ofNat k.1.toNat :: (be6 (keyN k)).take (j + 1)).flatMap eByte) (n := (UInt8.ofNat k.1.toNat :: (be6 (keyN k)).take (j + 1)).length) hT rfl rfl rfl rfl rfl rfl rfl (ev_tmp rfl) rfl rfl rfl (ev_tmp rfl) rfl rfl (by decide) (by dsimp only [kcOf]; simp only [List.length_cons, List.length_take]; omega) (by dsimp only [kcOf]; simp only [List.length_cons, List.length_take]; omega) (by rw [be6_succ hj6]; simp) (be_step hk hj6 rfl) ?_
    simp only [killT, killB, SV.kill, CV.kill, kk, Nat.reduceBEq]
    refine z ?_
    refine ops_nil ?_
    iterate 2 refine z ?_
    refine ok_region ?_
    iterate 4 refine z ?_
    refine ⟨j + 1, ?_, ?_, weak_sub ⟨rfl, rfl, rfl, (eqSlotI (by omega)), trivial⟩ ⟨rfl, trivial⟩ ⟨rfl, trivial⟩ rfl⟩
    ·omega
    ·omega
   ·skip
    have d3 := of_decide_eq_false c3
    iterate 9 refine z ?_
    refine o_appS (k := 12) (cs := (encK k).flatMap eByte) (n := (encK k).length) hT rfl rfl rfl rfl rfl rfl (by kernel_rfl) rfl (ev_tmp rfl) rfl rfl rfl (ev_tmp rfl) (by dsimp only [kcOf]; have := be6_len (keyN k); have h12 := hrg.2.2; try simp only [List.length_cons, List.length_take]; omega) (by rw [encK_num hk hn2 (show 6 ≤ j by omega), List.length_append] <;> rfl) (by rw [encK_num hk hn2 (show 6 ≤ j by omega), List.flatMap_append] <;> rfl) ?_
    simp only [killT, killB, SV.kill, CV.kill, kk, Nat.reduceBEq]
    iterate 2 refine z ?_
    refine ok_weak (σ' := ⟨[(2, .one (.key 12))], [], [(12, some (kcOf false (bytesD (encK k))))]⟩) (weak_sub ⟨rfl, trivial⟩ trivial ⟨(by first | exact congrArg (fun l : List UInt8 => some (some (KC.mk false 5 1 l.length (l.flatMap eByte)))) (show ([] : List UInt8) = encK k from (encK_bad hk0).symm) | rfl), trivial⟩ rfl) ?_
    refine z ?_
    refine fin1 (res_tmp rfl) ?_
    exact ⟨rfl, rfl⟩
  ·skip
   have hn2 : k.1 = 2 := by simpa using c2
   have d2 := nd_f c2
   iterate 6 refine z ?_
   refine o_appS (k := 12) (cs := (encK k).flatMap eByte) (n := (encK k).length) hT rfl rfl rfl rfl rfl rfl (by kernel_rfl) rfl (ev_tmp rfl) rfl rfl rfl (ev_tmp rfl) (by dsimp only [kcOf]; have h12 := hrg.2.2; omega) (by rw [encK_txt hk hn2, List.length_append] <;> rfl) (by rw [encK_txt hk hn2, List.flatMap_append]; exact congrArg (fun z => z ++ _) (byte_hd hk)) ?_
   simp only [killT, killB, SV.kill, CV.kill, kk, Nat.reduceBEq]
   iterate 2 refine z ?_
   refine ok_weak (σ' := ⟨[(2, .one (.key 12))], [], [(12, some (kcOf false (bytesD (encK k))))]⟩) (weak_sub ⟨rfl, trivial⟩ trivial ⟨(by first | exact congrArg (fun l : List UInt8 => some (some (KC.mk false 5 1 l.length (l.flatMap eByte)))) (show ([] : List UInt8) = encK k from (encK_bad hk0).symm) | rfl), trivial⟩ rfl) ?_
   refine z ?_
   refine fin1 (res_tmp rfl) ?_
   exact ⟨rfl, rfl⟩
theorem ok_spec_EncodeKey {k : KeyT}  : KFn Try.prog 62 [.agg [(.dv [] (.int .i64 (k.1))), (.dv [] (.int .i64 (k.2.1))), (.dv [] (.str (k.2.2)))]] (.one (.key 12)) [(12, some (kcOf false (bytesD (encK k))))] := by
 refine ⟨fn_intro Try.func62 rfl Try.ntmps62 Try.results62 rfl (fun C => ?_)⟩
 refine yF 0 0 rfl rfl fun f0_0 => ?_
 refine yF 0 1 rfl rfl fun f0_1 => ?_
 refine yF 0 2 rfl rfl fun f0_2 => ?_
 iterate 7 refine z ?_
 refine zC Try.call120 ?_ (hf := ok_spec_IsKey (k := k) )
 iterate 2 refine z ?_
 refine yQ rfl (fun c1 => ?_) fun c1 => ?_
 ·skip
  have hk0 : isKey k = false := by simpa using c1
  refine z ?_
  refine o_build0 (k := 12) hT rfl rfl rfl rfl rfl rfl rfl rfl ?_
  iterate 2 refine z ?_
  refine ok_weak (σ' := ⟨[(2, .one (.key 12))], [], [(12, some (kcOf false (bytesD (encK k))))]⟩) (weak_sub ⟨rfl, trivial⟩ trivial ⟨(by first | exact congrArg (fun l : List UInt8 => some (some (KC.mk false 5 1 l.length (l.flatMap eByte)))) (show ([] : List UInt8) = encK k from (encK_bad hk0).symm) | rfl), trivial⟩ rfl) ?_
  iterate 2 refine z ?_
  refine fin1 (res_tmp rfl) ?_
  exact ⟨rfl, rfl⟩
 ·skip
  have hk : isKey k = true := by simpa using c1
  have hrg := key_rng hk
  iterate 5 refine z ?_
  refine yO rfl rfl (pu_convI hT rfl rfl rfl (ev_tmp rfl)) rfl ?_
  refine o_build1 (k := 12) (js := []) hT rfl rfl rfl rfl rfl rfl rfl rfl rfl (ev_tmp rfl) rfl rfl (ow_cons' (ow_dv rfl) ow_nil rfl) (by decide) (by decide) rfl rfl ?_
  simp only [killT, killB, SV.kill, CV.kill, kk, Nat.reduceBEq]
  iterate 7 refine z ?_
  refine ok_loop (ι := Nat) (fun zz => ⟨[(1, .box 1 0), (2, .one .nil), (3, .one (.key 12)), (4, .one (.dv [] (.int .i64 (5 - (zz : Int)))))], [(1, 97, [(.dv [] (.int .i64 (k.1))), (.dv [] (.int .i64 (k.2.1))), (.dv [] (.str (k.2.2)))])], [(12, some (kcOf false (.sl 5 1 ((UInt8.ofNat k.1.toNat :: (be6 (keyN k)).take zz).length) ((UInt8.ofNat k.1.toNat :: (be6 (keyN k)).take zz).flatMap eByte))))]⟩) (fun zz => zz ≤ 6 ∧ (k.1 = 2 → zz = 0)) (fun zz => 6 - zz) (0) ?_ (weak_sub ⟨rfl, rfl, rfl, rfl, trivial⟩ ⟨rfl, trivial⟩ ⟨(congrArg (fun cs => some (some (KC.mk false 5 1 1 cs))) (byte_hd hk)), trivial⟩ rfl) (fun zz hx => ?_)
  ·exact ⟨by omega, fun _ => rfl⟩
  obtain ⟨j, rfl⟩ : ∃ v, v = zz := ⟨_, rfl⟩
  replace hx : j ≤ 6 ∧ (k.1 = 2 → j = 0) := hx
  obtain ⟨hj, hj2⟩ := hx
  show Ok _ _ _ _ _ (⟨[(1, .box 1 0), (2, .one .nil), (3, .one (.key 12)), (4, .one (.dv [] (.int .i64 (5 - (j : Int)))))], [(1, 97, [(.dv [] (.int .i64 (k.1))), (.dv [] (.int .i64 (k.2.1))), (.dv [] (.str (k.2.2)))])], [(12, some (kcOf false (.sl 5 1 ((UInt8.ofNat k.1.toNat :: (be6 (keyN k)).take j).length) ((UInt8.ofNat k.1.toNat :: (be6 (keyN k)).take j).flatMap eByte))))]⟩ : St)
  iterate 10 refine z ?_
  refine yQ rfl (fun c2 => ?_) fun c2 => ?_
  ·skip
   have hj6 : j < 6 := by have := (Bool.and_eq_true _ _ ▸ c2 : _ ∧ _).1; have := of_decide_eq_true this; omega
   have hn2 : ¬ k.1 = 2 := by have := (Bool.and_eq_true _ _ ▸ c2 : _ ∧ _).2; simpa using this
   obtain ⟨q, hq, hqk⟩ := key_byteQ hk hj6
   iterate 4 refine z ?_
   refine ok_region ?_
   iterate 5 refine z ?_
   refine yO rfl rfl (pu_mulR rfl (ev_int (inR_lit rfl)) (ev_tmp rfl) (inR64 (by omega) (by omega))) rfl ?_
   refine yO rfl rfl (pu_shrN rfl (ev_tmp rfl) (ev_tmp rfl) (by omega) (by omega) (by show _ ≤ 64; omega)) rfl ?_
   refine yO rfl rfl (pu_andR rfl (ev_tmp rfl) (ev_int (inR_lit rfl)) (and255 (by omega) (by omega)) (inR64 (by omega) (by omega))) rfl ?_
   refine yO rfl rfl (pu_convI hT rfl rfl rfl (ev_tmp rfl)) rfl ?_
   refine o_build1 (k := 31) (js := []) hT rfl rfl rfl rfl rfl rfl rfl rfl rfl (ev_tmp rfl) rfl rfl (ow_cons' (ow_dv rfl) ow_nil rfl) (by decide) (by decide) rfl rfl ?_
   simp only [killT, killB, SV.kill, CV.kill, kk, Nat.reduceBEq]
   refine o_appK (k := 12) (j := 31) (cs := (UInt8.ofNat k.1.toNat :: (be6 (keyN k)).take (j + 1)).flatMap eByte) (n := (UInt8.ofNat k.1.toNat :: (be6 (keyN k)).take (j + 1)).length) hT rfl rfl rfl rfl rfl rfl rfl (ev_tmp rfl) rfl rfl rfl (ev_tmp rfl) rfl rfl (by decide) (by dsimp only [kcOf]; simp only [List.length_cons, List.length_take]; omega) (by dsimp only [kcOf]; simp only [List.length_cons, List.length_take]; omega) (by rw [be6_succ hj6]; simp) (by rw [u8_and]; exact be_step hk hj6 rfl) ?_
   simp only [killT, killB, SV.kill, CV.kill, kk, Nat.reduceBEq]
   refine z ?_
   refine ops_nil ?_
   iterate 2 refine z ?_
   refine ok_region ?_
   iterate 4 refine z ?_
   refine ⟨j + 1, ?_, ?_, weak_sub ⟨rfl, rfl, rfl, (eqSlotI (by omega)), trivial⟩ ⟨rfl, trivial⟩ ⟨rfl, trivial⟩ rfl⟩
   ·exact ⟨by omega, fun h => absurd h hn2⟩
   ·omega
  ·skip
   iterate 9 refine z ?_
   refine o_convSB (k := 36) hT rfl rfl rfl rfl rfl rfl rfl (ev_tmp rfl) rfl ?_
   refine o_appK (k := 12) (j := 36) (cs := (encK k).flatMap eByte) (n := (encK k).length) hT rfl rfl rfl rfl rfl rfl rfl (ev_tmp rfl) rfl rfl rfl (ev_tmp rfl) rfl rfl (by decide) (by dsimp only [kcOf, KC.old]; have := be6_len (keyN k); have h12 : k.2.2.data.toList.length ≤ 12 := hrg.2.2; simp only [List.length_cons, List.length_take]; omega) (by dsimp only [kcOf, KC.old]; have := be6_len (keyN k); have h12 : k.2.2.data.toList.length ≤ 12 := hrg.2.2; simp only [List.length_cons, List.length_take]; omega) (by rw [encK_end hk hj2 c2, List.length_append] <;> rfl) (by rw [encK_end hk hj2 c2, List.flatMap_append] <;> rfl) ?_
   simp only [killT, killB, SV.kill, CV.kill, kk, Nat.reduceBEq]
   iterate 2 refine z ?_
   refine ok_weak (σ' := ⟨[(2, .one (.key 12))], [], [(12, some (kcOf false (bytesD (encK k))))]⟩) (weak_sub ⟨rfl, trivial⟩ trivial ⟨(by first | exact congrArg (fun l : List UInt8 => some (some (KC.mk false 5 1 l.length (l.flatMap eByte)))) (show ([] : List UInt8) = encK k from (encK_bad hk0).symm) | rfl), trivial⟩ rfl) ?_
   refine z ?_
   refine fin1 (res_tmp rfl) ?_
   exact ⟨rfl, rfl⟩
theorem ok_impl_EncodeRecord {r : RecT}  : KFn Try.prog 68 [.agg [(.dv [] (fieldsD (r)))]] (.one (.key 500)) [(500, some (kcOf false (bytesD (encR r))))] := by
 refine ⟨fn_intro Try.func68 rfl Try.ntmps68 Try.results68 rfl (fun C => ?_)⟩
 refine yF 0 0 rfl rfl fun f0_0 => ?_
 iterate 7 refine z ?_
 refine zC Try.call127 ?_ (hf := ok_impl_IsRecord (r := r) )
 iterate 2 refine z ?_
 refine yQ rfl (fun c1 => ?_) fun c1 => ?_
 ·skip
  have hk0 : isRec r = false := by simpa using c1
  refine z ?_
  refine o_build0 (k := 500) hT rfl rfl rfl rfl rfl rfl rfl rfl ?_
  iterate 2 refine z ?_
  refine ok_weak (σ' := ⟨[(2, .one (.key 500))], [], [(500, some (kcOf false (bytesD (encR r))))]⟩) (weak_sub ⟨rfl, trivial⟩ trivial ⟨(by first | exact congrArg (fun l : List UInt8 => some (some (KC.mk false 5 1 l.length (l.flatMap eByte)))) (show ([] : List UInt8) = encR r from (encR_bad hk0).symm) | exact congrArg (fun l : List UInt8 => some (some (KC.mk false 5 1 l.length (l.flatMap eByte)))) (encR_ok hk (by omega)).symm), trivial⟩ rfl) ?_
  iterate 2 refine z ?_
  refine fin1 (res_tmp rfl) ?_
  exact ⟨rfl, rfl⟩
 ·skip
  have hk : isRec r = true := by simpa using c1
  have hrl := rec_len hk
  iterate 6 refine z ?_
  refine o_callK 470 rfl rfl rfl Try.call66 (ok_impl_AppendUvarint (x := []) (n := (r.length : Int)) (by simp)) (as_cons ev_nil (ag_one (ac_nil' rfl rfl)) (as_cons (ev_tmp rfl) (ag_one ac_dv) as_nil)) rfl rfl rfl ?_
  iterate 10 refine z ?_
  refine ok_loop (ι := Nat) (fun zz => ⟨[(2, .one .nil), (3, .one (.key 500)), (15, .one (.dv [] (fieldsD (r)))), (16, .one (.dv [] (.int .i64 ((((r)).length : Int))))), (17, .one (.dv [] (.int .i64 ((zz : Int)))))], [], [(500, some (kcOf false (.sl 5 1 ((encRN r zz).length) ((encRN r zz).flatMap eByte))))]⟩) (fun zz => zz ≤ r.length) (fun zz => r.length - zz) (0) ?_ (weak_sub ⟨rfl, rfl, rfl, rfl, rfl, trivial⟩ trivial ⟨rfl, trivial⟩ rfl) (fun zz hx => ?_)
  ·exact Nat.zero_le _
  obtain ⟨k, rfl⟩ : ∃ v, v = zz := ⟨_, rfl⟩
  replace hx : k ≤ r.length := hx
  show Ok _ _ _ _ _ (⟨[(2, .one .nil), (3, .one (.key 500)), (15, .one (.dv [] (fieldsD (r)))), (16, .one (.dv [] (.int .i64 ((((r)).length : Int))))), (17, .one (.dv [] (.int .i64 ((k : Int)))))], [], [(500, some (kcOf false (.sl 5 1 ((encRN r k).length) ((encRN r k).flatMap eByte))))]⟩ : St)
  iterate 3 refine z ?_
  refine ok_seq ?_
  refine yQ rfl (fun c2 => ?_) fun c2 => ?_
  ·skip
   have d2 := of_decide_eq_true c2
   have hkl : k < r.length := by omega
   have hf := rec_fld hk hkl
   have hns := (name_size hf.1).2
   have hns2 : (r.getD (k : Int).toNat default).1.data.toList.length ≤ 8 := hns
   have hel := encRN_len hk k (by omega)
   have hel2 := appU_len (encRN r k) ((r.getD (k : Int).toNat default).1.data.toList.length : Int)
   iterate 10 refine z ?_
   refine ok_regionD (oB := [5]) (oK := [500]) (by kernel_rfl) rfl rfl ?_
   refine zD 0 ?_
   refine zD 1 ?_
   refine zD 2 ?_
   refine zD 5 ?_
   refine zD 6 ?_
   refine d_convSB (k := 24) 3 hT rfl (by kernel_rfl) rfl rfl rfl rfl rfl rfl rfl (ev_tmp rfl) rfl rfl rfl ?_
   refine d_callK 25000 4 rfl (by kernel_rfl) rfl rfl rfl Try.call69 (ok_impl_AppendBytes (x := (encRN r k)) (y := (r.getD (k : Int).toNat default).1.data.toList) (by omega) (by omega)) (as_cons (ev_tmp rfl) (ag_one (ac_key' rfl rfl)) (as_cons (ev_tmp rfl) (ag_one (ac_key' rfl rfl)) as_nil)) rfl rfl rfl rfl rfl ?_
   refine d_callK 472 7 rfl (by kernel_rfl) rfl rfl rfl Try.call66 (ok_impl_AppendUvarint (x := appU (encRN r k) ((r.getD (k : Int).toNat default).1.data.toList.length : Int) ++ (r.getD (k : Int).toNat default).1.data.toList) (n := (r.getD (k : Int).toNat default).2) (by rw [List.length_append]; omega)) (as_cons (ev_tmp rfl) (ag_one (ac_key' rfl rfl)) (as_cons (ev_tmp rfl) (ag_one ac_dv) as_nil)) rfl rfl rfl rfl rfl ?_
   refine zD 8 ?_
   refine d_done (by kernel_rfl) ?_
   iterate 2 refine z ?_
   refine ok_weak (weak_swap (s := 3) (k := 502) (k' := 500) rfl rfl rfl (by decide) rfl) ?_
   simp only [killT, killB, SV.kill, CV.kill, kk, Nat.reduceBEq]
   refine ok_region ?_
   iterate 3 refine z ?_
   refine ⟨k + 1, ?_, ?_, weak_sub ⟨rfl, rfl, rfl, rfl, rfl, trivial⟩ trivial ⟨rfl, trivial⟩ rfl⟩
   ·omega
   ·omega
  ·skip
   have d2 := of_decide_eq_false c2
   iterate 9 refine z ?_
   refine ok_weak (σ' := ⟨[(2, .one (.key 500))], [], [(500, some (kcOf false (bytesD (encR r))))]⟩) (weak_sub ⟨rfl, trivial⟩ trivial ⟨(by first | exact congrArg (fun l : List UInt8 => some (some (KC.mk false 5 1 l.length (l.flatMap eByte)))) (show ([] : List UInt8) = encR r from (encR_bad hk0).symm) | exact congrArg (fun l : List UInt8 => some (some (KC.mk false 5 1 l.length (l.flatMap eByte)))) (encR_ok hk (by omega)).symm), trivial⟩ rfl) ?_
   refine z ?_
   refine fin1 (res_tmp rfl) ?_
   exact ⟨rfl, rfl⟩
theorem ok_spec_EncodeRecord {r : RecT}  : KFn Try.prog 63 [.agg [(.dv [] (fieldsD (r)))]] (.one (.key 500)) [(500, some (kcOf false (bytesD (encR r))))] := by
 refine ⟨fn_intro Try.func63 rfl Try.ntmps63 Try.results63 rfl (fun C => ?_)⟩
 refine yF 0 0 rfl rfl fun f0_0 => ?_
 iterate 7 refine z ?_
 refine zC Try.call121 ?_ (hf := ok_spec_IsRecord (r := r) )
 iterate 2 refine z ?_
 refine yQ rfl (fun c1 => ?_) fun c1 => ?_
 ·skip
  have hk0 : isRec r = false := by simpa using c1
  refine z ?_
  refine o_build0 (k := 500) hT rfl rfl rfl rfl rfl rfl rfl rfl ?_
  iterate 2 refine z ?_
  refine ok_weak (σ' := ⟨[(2, .one (.key 500))], [], [(500, some (kcOf false (bytesD (encR r))))]⟩) (weak_sub ⟨rfl, trivial⟩ trivial ⟨(by first | exact congrArg (fun l : List UInt8 => some (some (KC.mk false 5 1 l.length (l.flatMap eByte)))) (show ([] : List UInt8) = encR r from (encR_bad hk0).symm) | exact congrArg (fun l : List UInt8 => some (some (KC.mk false 5 1 l.length (l.flatMap eByte)))) (encR_ok hk (by omega)).symm), trivial⟩ rfl) ?_
  iterate 2 refine z ?_
  refine fin1 (res_tmp rfl) ?_
  exact ⟨rfl, rfl⟩
 ·skip
  have hk : isRec r = true := by simpa using c1
  have hrl := rec_len hk
  iterate 3 refine z ?_
  refine o_build0 (k := 9) hT rfl rfl rfl rfl rfl rfl rfl rfl ?_
  iterate 3 refine z ?_
  refine o_callK 494 rfl rfl rfl Try.call59 (ok_spec_AppendUvarint (x := []) (n := (r.length : Int)) (by simp)) (as_cons (ev_tmp rfl) (ag_one (ac_key' rfl rfl)) (as_cons (ev_tmp rfl) (ag_one ac_dv) as_nil)) rfl rfl rfl ?_
  iterate 7 refine z ?_
  refine ok_loop (ι := Nat) (fun zz => ⟨[(1, .box 1 0), (2, .one .nil), (3, .one (.key 500)), (4, .one (.dv [] (.int .i64 ((zz : Int)))))], [(1, 100, [(.dv [] (fieldsD (r)))])], [(500, some (kcOf false (.sl 5 1 ((encRN r zz).length) ((encRN r zz).flatMap eByte))))]⟩) (fun zz => zz ≤ r.length) (fun zz => r.length - zz) (0) ?_ (weak_sub ⟨rfl, rfl, rfl, rfl, trivial⟩ ⟨rfl, trivial⟩ ⟨rfl, trivial⟩ rfl) (fun zz hx => ?_)
  ·exact Nat.zero_le _
  obtain ⟨k, rfl⟩ : ∃ v, v = zz := ⟨_, rfl⟩
  replace hx : k ≤ r.length := hx
  show Ok _ _ _ _ _ (⟨[(1, .box 1 0), (2, .one .nil), (3, .one (.key 500)), (4, .one (.dv [] (.int .i64 ((k : Int)))))], [(1, 100, [(.dv [] (fieldsD (r)))])], [(500, some (kcOf false (.sl 5 1 ((encRN r k).length) ((encRN r k).flatMap eByte))))]⟩ : St)
  iterate 8 refine z ?_
  refine yQ rfl (fun c2 => ?_) fun c2 => ?_
  ·skip
   have d2 := of_decide_eq_true c2
   have hkl : k < r.length := by omega
   have hf := rec_fld hk hkl
   have hns := (name_size hf.1).2
   have hns2 : (r.getD (k : Int).toNat default).1.data.toList.length ≤ 8 := hns
   have hel := encRN_len hk k (by omega)
   have hel2 := appU_len (encRN r k) ((r.getD (k : Int).toNat default).1.data.toList.length : Int)
   iterate 4 refine z ?_
   refine ok_regionD (oB := [1]) (oK := [500]) (by kernel_rfl) rfl rfl ?_
   refine zD 0 ?_
   refine zD 1 ?_
   refine zD 2 ?_
   refine zD 3 ?_
   refine zD 4 ?_
   refine zD 5 ?_
   refine zD 6 ?_
   refine zD 9 ?_
   refine zD 10 ?_
   refine zD 11 ?_
   refine zD 12 ?_
   refine zD 13 ?_
   refine zD 14 ?_
   refine d_convSB (k := 28) 7 hT rfl (by kernel_rfl) rfl rfl rfl rfl rfl rfl rfl (ev_tmp rfl) rfl rfl rfl ?_
   refine d_callK 29000 8 rfl (by kernel_rfl) rfl rfl rfl Try.call61 (ok_spec_AppendBytes (x := (encRN r k)) (y := (r.getD (k : Int).toNat default).1.data.toList) (by omega) (by omega)) (as_cons (ev_tmp rfl) (ag_one (ac_key' rfl rfl)) (as_cons (ev_tmp rfl) (ag_one (ac_key' rfl rfl)) as_nil)) rfl rfl rfl rfl rfl ?_
   refine d_callK 496 15 rfl (by kernel_rfl) rfl rfl rfl Try.call59 (ok_spec_AppendUvarint (x := appU (encRN r k) ((r.getD (k : Int).toNat default).1.data.toList.length : Int) ++ (r.getD (k : Int).toNat default).1.data.toList) (n := (r.getD (k : Int).toNat default).2) (by rw [List.length_append]; omega)) (as_cons (ev_tmp rfl) (ag_one (ac_key' rfl rfl)) (as_cons (ev_tmp rfl) (ag_one ac_dv) as_nil)) rfl rfl rfl rfl rfl ?_
   refine zD 16 ?_
   refine d_done (by kernel_rfl) ?_
   iterate 2 refine z ?_
   refine ok_weak (weak_swap (s := 3) (k := 502) (k' := 500) rfl rfl rfl (by decide) rfl) ?_
   simp only [killT, killB, SV.kill, CV.kill, kk, Nat.reduceBEq]
   refine ok_region ?_
   iterate 4 refine z ?_
   refine ⟨k + 1, ?_, ?_, weak_sub ⟨rfl, rfl, rfl, rfl, trivial⟩ ⟨rfl, trivial⟩ ⟨rfl, trivial⟩ rfl⟩
   ·omega
   ·omega
  ·skip
   have d2 := of_decide_eq_false c2
   iterate 9 refine z ?_
   refine ok_weak (σ' := ⟨[(2, .one (.key 500))], [], [(500, some (kcOf false (bytesD (encR r))))]⟩) (weak_sub ⟨rfl, trivial⟩ trivial ⟨(by first | exact congrArg (fun l : List UInt8 => some (some (KC.mk false 5 1 l.length (l.flatMap eByte)))) (show ([] : List UInt8) = encR r from (encR_bad hk0).symm) | exact congrArg (fun l : List UInt8 => some (some (KC.mk false 5 1 l.length (l.flatMap eByte)))) (encR_ok hk (by omega)).symm), trivial⟩ rfl) ?_
   refine z ?_
   refine fin1 (res_tmp rfl) ?_
   exact ⟨rfl, rfl⟩
end Go.Proofs.Ytlogahkchenpdaa

namespace Go.Proofs.Ytlogahkchenpdaa
open Go.RowKit
open Go.Proofs
set_option linter.unusedVariables false
set_option linter.unusedSimpArgs false
def mkOp (x : OpT) (k : Int) : OpT := (k, mText ((k) + (1)), (((k) + (1)) + (1), (((k) + (1)) + (1)) + (1), mText (((((k) + (1)) + (1)) + (1)) + (1))), mkL mkField cField (x.2.2.2.1) ((((((k) + (1)) + (1)) + (1)) + (1)) + (1)), mText (((((((k) + (1)) + (1)) + (1)) + (1)) + (1)) + (wSum cField (x.2.2.2.1) : Int)))
def cOp (x : OpT) : Nat := 6 + wSum cField (x.2.2.2.1)
theorem cOp_le (x : OpT) : cOp x ≤ 8 * (1 + wOp x) := by
 have h5 := wSum_bound cField_le (x.2.2.2.1)
 simp only [cOp, wOp, wKey, wRecord]
 omega
theorem u8_mk (z : Int) (h : 0 ≤ z) : IntKind.u8.wrap z = ((UInt8.ofNat (z % 256).toNat).toNat : Int) := by
 simp [IntKind.wrap, IntKind.signed, IntKind.bits]
 omega
theorem ok_laws_markByteS {x : List (UInt8)} {k : Int} (h0 : 0 ≤ k) (h1 : k + (wSum cByte x : Int) ≤ 4611686018427387904) : WFn Try.prog 28 [.one (.key 0), .one (.dv [] (.int .i64 (k)))] (.one (.dv [] (.int .i64 (k + (wSum cByte x : Int))))) [(0, kcOf true (.sl 5 1 (x.length) (x.flatMap eByte)))] [(0, kcOf true (bytesD (mkL mkByte cByte x k)))] := by
 refine ⟨fn_intro Try.func28 rfl Try.ntmps28 Try.results28 rfl (fun C => ?_)⟩
 have hln : x.length ≤ wSum cByte x := wSum_ge (fun _ => by simp only [cByte]; omega) x
 refine ok_fact (x := .tmp 1) (ev_tmp rfl) fun f1 => ?_
 iterate 8 refine z ?_
 refine ok_loop (ι := Nat) (fun zz => ⟨[(0, .one (.key 0)), (1, .one (.dv [] (.int .i64 (k + (wSum cByte (x.take zz) : Int))))), (4, .one (.dv [] (.int .i64 (0)))), (5, .one (.dv [] (.int .i64 ((zz : Int)))))], [], [(0, some ⟨true, 5, 1, x.length, (mkL mkByte cByte (x.take zz) k).flatMap eByte ++ (x.drop zz).flatMap eByte⟩)]⟩) (fun zz => zz ≤ x.length) (fun zz => x.length - zz) (0) ?_ (weak_sub ⟨rfl, (eqSlotI (by simp [wSum])), rfl, rfl, trivial⟩ trivial ⟨rfl, trivial⟩ rfl) (fun zz hx => ?_)
 ·exact Nat.zero_le _
 obtain ⟨j, rfl⟩ : ∃ v, v = zz := ⟨_, rfl⟩
 replace hx : j ≤ x.length := hx
 have hw := fun h => wSum_succ cByte x j h
 show Ok _ _ _ _ _ (⟨[(0, .one (.key 0)), (1, .one (.dv [] (.int .i64 (k + (wSum cByte (x.take j) : Int))))), (4, .one (.dv [] (.int .i64 (0)))), (5, .one (.dv [] (.int .i64 ((j : Int)))))], [], [(0, some ⟨true, 5, 1, x.length, (mkL mkByte cByte (x.take j) k).flatMap eByte ++ (x.drop j).flatMap eByte⟩)]⟩ : St)
 iterate 4 refine z ?_
 refine yO rfl rfl (pu_lenKn (n := (x.length)) hT rfl rfl (ev_tmp rfl) rfl rfl) rfl ?_
 iterate 2 refine z ?_
 refine yQ rfl (fun c1 => ?_) fun c1 => ?_
 ·skip
  have d1 := of_decide_eq_true c1
  have hj : j < x.length := by omega
  obtain ⟨hw1, hw2⟩ := hw hj
  have hc : cByte (x.getD (j : Int).toNat default) = 1 := rfl
  refine ok_kcs (k := 0) (cs' := mid ((mkL mkByte cByte (x.take j) k).flatMap eByte) [.int .u8 ((((x.getD (j : Int).toNat default)).toNat : Int))] ((x.drop (j + 1)).flatMap eByte)) rfl (mk_open hj) ?_
  iterate 8 refine z ?_
  refine yO rfl rfl (pu_convI hT rfl rfl rfl (ev_tmp rfl)) rfl ?_
  refine yO rfl rfl (pu_indexK (i := j) hT rfl rfl rfl (ev_tmp rfl) rfl (ev_tmp rfl) rfl (by show _ < (x.length); omega)) rfl ?_
  refine o_storeE (js := []) (cs := mid ((mkL mkByte cByte (x.take j) k).flatMap eByte) [.int .u8 (IntKind.u8.wrap (k + (wSum cByte (x.take j) : Int)))] ((x.drop (j + 1)).flatMap eByte)) hT rfl rfl rfl rfl (ev_tmp rfl) (ev_tmp rfl) rfl rfl rfl rfl (ow_cons' (ow_dv rfl) ow_nil rfl) (by decide) (by decide) rfl (le_mid (off := j * 1) (n := 1) (j := 0) (mk_pre (sz := 1) (fun _ => rfl) (Nat.le_of_lt hj)) (by omega) (Nat.le_of_ble_eq_true rfl)) (setR_mid (off := j * 1) (j := 0) (mk_pre (sz := 1) (fun _ => rfl) (Nat.le_of_lt hj)) (by omega) rfl (Nat.le_of_ble_eq_true rfl)) ?_
  simp only [killT, killB, SV.kill, CV.kill, kk, Nat.reduceBEq]
  refine z ?_
  refine ok_region ?_
  iterate 3 refine z ?_
  refine ops_nil ?_
  iterate 2 refine z ?_
  refine ok_region ?_
  iterate 4 refine z ?_
  refine ⟨j + 1, ?_, ?_, weak_sub ⟨rfl, (eqSlotI (by omega)), rfl, rfl, trivial⟩ trivial ⟨(congrArg (fun cs => some (some (KC.mk true 5 1 x.length cs))) (mk_close (by omega) (congrArg (fun z => [DV.int .u8 z]) (u8_mk _ (by omega))))), trivial⟩ rfl⟩
  ·omega
  ·omega
 ·skip
  have d1 := of_decide_eq_false c1
  iterate 9 refine z ?_
  refine ok_weak (σ' := ⟨[(4, .one (.dv [] (.int .i64 (k + (wSum cByte (x.take j) : Int)))))], [], [(0, some (kcOf true (bytesD (mkL mkByte cByte x k))))]⟩) (weak_sub ⟨rfl, trivial⟩ trivial ⟨(mk_fin (by omega)), trivial⟩ rfl) ?_
  refine z ?_
  refine fin1 (res_tmp rfl) ⟨eqI ?_, w1_ok rfl⟩
  have hq := wSum_all cByte x j (by omega); omega
theorem ok_laws_markOpS {x : List (OpT)} {k : Int} (h0 : 0 ≤ k) (h1 : k + (wSum cOp x : Int) ≤ 4611686018427387904) : WFn Try.prog 27 [.one (.key 0), .one (.dv [] (.int .i64 (k)))] (.one (.dv [] (.int .i64 (k + (wSum cOp x : Int))))) [(0, kcOf true (.sl 102 7 (x.length) (x.flatMap eOp)))] [(0, kcOf true (opsD (mkL mkOp cOp x k)))] := by
 refine ⟨fn_intro Try.func27 rfl Try.ntmps27 Try.results27 rfl (fun C => ?_)⟩
 have hln : x.length ≤ wSum cOp x := wSum_ge (fun _ => by simp only [cOp]; omega) x
 refine ok_fact (x := .tmp 1) (ev_tmp rfl) fun f1 => ?_
 iterate 8 refine z ?_
 refine ok_loop (ι := Nat) (fun zz => ⟨[(0, .one (.key 0)), (1, .one (.dv [] (.int .i64 (k + (wSum cOp (x.take zz) : Int))))), (4, .one (.dv [] (.int .i64 (0)))), (5, .one (.dv [] (.int .i64 ((zz : Int)))))], [], [(0, some ⟨true, 102, 7, x.length, (mkL mkOp cOp (x.take zz) k).flatMap eOp ++ (x.drop zz).flatMap eOp⟩)]⟩) (fun zz => zz ≤ x.length) (fun zz => x.length - zz) (0) ?_ (weak_sub ⟨rfl, (eqSlotI (by simp [wSum])), rfl, rfl, trivial⟩ trivial ⟨rfl, trivial⟩ rfl) (fun zz hx => ?_)
 ·exact Nat.zero_le _
 obtain ⟨j, rfl⟩ : ∃ v, v = zz := ⟨_, rfl⟩
 replace hx : j ≤ x.length := hx
 have hw := fun h => wSum_succ cOp x j h
 show Ok _ _ _ _ _ (⟨[(0, .one (.key 0)), (1, .one (.dv [] (.int .i64 (k + (wSum cOp (x.take j) : Int))))), (4, .one (.dv [] (.int .i64 (0)))), (5, .one (.dv [] (.int .i64 ((j : Int)))))], [], [(0, some ⟨true, 102, 7, x.length, (mkL mkOp cOp (x.take j) k).flatMap eOp ++ (x.drop j).flatMap eOp⟩)]⟩ : St)
 iterate 4 refine z ?_
 refine yO rfl rfl (pu_lenKn (n := (x.length)) hT rfl rfl (ev_tmp rfl) rfl rfl) rfl ?_
 iterate 2 refine z ?_
 refine yQ rfl (fun c1 => ?_) fun c1 => ?_
 ·skip
  have d1 := of_decide_eq_true c1
  have hj : j < x.length := by omega
  obtain ⟨hw1, hw2⟩ := hw hj
  have hc : cOp (x.getD (j : Int).toNat default) = 6 + wSum cField ((x.getD (j : Int).toNat default).2.2.2.1) := rfl
  refine ok_kcs (k := 0) (cs' := mid ((mkL mkOp cOp (x.take j) k).flatMap eOp) [.int .i64 ((x.getD (j : Int).toNat default).1), .str ((x.getD (j : Int).toNat default).2.1), .int .i64 ((x.getD (j : Int).toNat default).2.2.1.1), .int .i64 ((x.getD (j : Int).toNat default).2.2.1.2.1), .str ((x.getD (j : Int).toNat default).2.2.1.2.2), fieldsD ((x.getD (j : Int).toNat default).2.2.2.1), .str ((x.getD (j : Int).toNat default).2.2.2.2)] ((x.drop (j + 1)).flatMap eOp)) rfl (mk_open hj) ?_
  iterate 8 refine z ?_
  refine yO rfl rfl (pu_indexK (i := j) hT rfl rfl rfl (ev_tmp rfl) rfl (ev_tmp rfl) rfl (by show _ < (x.length); omega)) rfl ?_
  refine z ?_
  refine o_storeE (js := []) (cs := mid ((mkL mkOp cOp (x.take j) k).flatMap eOp) [.int .i64 (k + (wSum cOp (x.take j) : Int)), .str ((x.getD (j : Int).toNat default).2.1), .int .i64 ((x.getD (j : Int).toNat default).2.2.1.1), .int .i64 ((x.getD (j : Int).toNat default).2.2.1.2.1), .str ((x.getD (j : Int).toNat default).2.2.1.2.2), fieldsD ((x.getD (j : Int).toNat default).2.2.2.1), .str ((x.getD (j : Int).toNat default).2.2.2.2)] ((x.drop (j + 1)).flatMap eOp)) hT rfl rfl rfl rfl (ev_tmp rfl) (ev_tmp rfl) rfl rfl rfl rfl (ow_cons' (ow_dv rfl) ow_nil rfl) (by decide) (by decide) rfl (le_mid (off := (j * 7 + 0)) (n := 1) (j := 0) (mk_pre (sz := 7) (fun _ => rfl) (Nat.le_of_lt hj)) (by omega) (Nat.le_of_ble_eq_true rfl)) (setR_mid (off := (j * 7 + 0)) (j := 0) (mk_pre (sz := 7) (fun _ => rfl) (Nat.le_of_lt hj)) (by omega) rfl (Nat.le_of_ble_eq_true rfl)) ?_
  simp only [killT, killB, SV.kill, CV.kill, kk, Nat.reduceBEq]
  iterate 10 refine z ?_
  refine zC Try.call71 ?_ (hf := ok_laws_markText (by omega))
  refine yO rfl rfl (pu_indexK (i := j) hT rfl rfl rfl (ev_tmp rfl) rfl (ev_tmp rfl) rfl (by show _ < (x.length); omega)) rfl ?_
  refine z ?_
  refine o_storeE (js := []) (cs := mid ((mkL mkOp cOp (x.take j) k).flatMap eOp) [.int .i64 (k + (wSum cOp (x.take j) : Int)), .str (mText ((k + (wSum cOp (x.take j) : Int)) + (1))), .int .i64 ((x.getD (j : Int).toNat default).2.2.1.1), .int .i64 ((x.getD (j : Int).toNat default).2.2.1.2.1), .str ((x.getD (j : Int).toNat default).2.2.1.2.2), fieldsD ((x.getD (j : Int).toNat default).2.2.2.1), .str ((x.getD (j : Int).toNat default).2.2.2.2)] ((x.drop (j + 1)).flatMap eOp)) hT rfl rfl rfl rfl (ev_tmp rfl) (ev_tmp rfl) rfl rfl rfl rfl (ow_cons' (ow_dv rfl) ow_nil rfl) (by decide) (by decide) rfl (le_mid (off := (j * 7 + 1)) (n := 1) (j := 1) (mk_pre (sz := 7) (fun _ => rfl) (Nat.le_of_lt hj)) (by omega) (Nat.le_of_ble_eq_true rfl)) (setR_mid (off := (j * 7 + 1)) (j := 1) (mk_pre (sz := 7) (fun _ => rfl) (Nat.le_of_lt hj)) (by omega) rfl (Nat.le_of_ble_eq_true rfl)) ?_
  simp only [killT, killB, SV.kill, CV.kill, kk, Nat.reduceBEq]
  iterate 10 refine z ?_
  refine yO rfl rfl (pu_indexK (i := j) hT rfl rfl rfl (ev_tmp rfl) rfl (ev_tmp rfl) rfl (by show _ < (x.length); omega)) rfl ?_
  iterate 2 refine z ?_
  refine o_storeE (js := []) (cs := mid ((mkL mkOp cOp (x.take j) k).flatMap eOp) [.int .i64 (k + (wSum cOp (x.take j) : Int)), .str (mText ((k + (wSum cOp (x.take j) : Int)) + (1))), .int .i64 (((k + (wSum cOp (x.take j) : Int)) + (1)) + (1)), .int .i64 ((x.getD (j : Int).toNat default).2.2.1.2.1), .str ((x.getD (j : Int).toNat default).2.2.1.2.2), fieldsD ((x.getD (j : Int).toNat default).2.2.2.1), .str ((x.getD (j : Int).toNat default).2.2.2.2)] ((x.drop (j + 1)).flatMap eOp)) hT rfl rfl rfl rfl (ev_tmp rfl) (ev_tmp rfl) rfl rfl rfl rfl (ow_cons' (ow_dv rfl) ow_nil rfl) (by decide) (by decide) rfl (le_mid (off := ((j * 7 + 2) + 0)) (n := 1) (j := 2) (mk_pre (sz := 7) (fun _ => rfl) (Nat.le_of_lt hj)) (by omega) (Nat.le_of_ble_eq_true rfl)) (setR_mid (off := ((j * 7 + 2) + 0)) (j := 2) (mk_pre (sz := 7) (fun _ => rfl) (Nat.le_of_lt hj)) (by omega) rfl (Nat.le_of_ble_eq_true rfl)) ?_
  simp only [killT, killB, SV.kill, CV.kill, kk, Nat.reduceBEq]
  iterate 10 refine z ?_
  refine yO rfl rfl (pu_indexK (i := j) hT rfl rfl rfl (ev_tmp rfl) rfl (ev_tmp rfl) rfl (by show _ < (x.length); omega)) rfl ?_
  iterate 2 refine z ?_
  refine o_storeE (js := []) (cs := mid ((mkL mkOp cOp (x.take j) k).flatMap eOp) [.int .i64 (k + (wSum cOp (x.take j) : Int)), .str (mText ((k + (wSum cOp (x.take j) : Int)) + (1))), .int .i64 (((k + (wSum cOp (x.take j) : Int)) + (1)) + (1)), .int .i64 ((((k + (wSum cOp (x.take j) : Int)) + (1)) + (1)) + (1)), .str ((x.getD (j : Int).toNat default).2.2.1.2.2), fieldsD ((x.getD (j : Int).toNat default).2.2.2.1), .str ((x.getD (j : Int).toNat default).2.2.2.2)] ((x.drop (j + 1)).flatMap eOp)) hT rfl rfl rfl rfl (ev_tmp rfl) (ev_tmp rfl) rfl rfl rfl rfl (ow_cons' (ow_dv rfl) ow_nil rfl) (by decide) (by decide) rfl (le_mid (off := ((j * 7 + 2) + 1)) (n := 1) (j := 3) (mk_pre (sz := 7) (fun _ => rfl) (Nat.le_of_lt hj)) (by omega) (Nat.le_of_ble_eq_true rfl)) (setR_mid (off := ((j * 7 + 2) + 1)) (j := 3) (mk_pre (sz := 7) (fun _ => rfl) (Nat.le_of_lt hj)) (by omega) rfl (Nat.le_of_ble_eq_true rfl)) ?_
  simp only [killT, killB, SV.kill, CV.kill, kk, Nat.reduceBEq]
  iterate 10 refine z ?_
  refine zC Try.call71 ?_ (hf := ok_laws_markText (by omega))
  refine yO rfl rfl (pu_indexK (i := j) hT rfl rfl rfl (ev_tmp rfl) rfl (ev_tmp rfl) rfl (by show _ < (x.length); omega)) rfl ?_
  iterate 2 refine z ?_
  refine o_storeE (js := []) (cs := mid ((mkL mkOp cOp (x.take j) k).flatMap eOp) [.int .i64 (k + (wSum cOp (x.take j) : Int)), .str (mText ((k + (wSum cOp (x.take j) : Int)) + (1))), .int .i64 (((k + (wSum cOp (x.take j) : Int)) + (1)) + (1)), .int .i64 ((((k + (wSum cOp (x.take j) : Int)) + (1)) + (1)) + (1)), .str (mText (((((k + (wSum cOp (x.take j) : Int)) + (1)) + (1)) + (1)) + (1))), fieldsD ((x.getD (j : Int).toNat default).2.2.2.1), .str ((x.getD (j : Int).toNat default).2.2.2.2)] ((x.drop (j + 1)).flatMap eOp)) hT rfl rfl rfl rfl (ev_tmp rfl) (ev_tmp rfl) rfl rfl rfl rfl (ow_cons' (ow_dv rfl) ow_nil rfl) (by decide) (by decide) rfl (le_mid (off := ((j * 7 + 2) + 2)) (n := 1) (j := 4) (mk_pre (sz := 7) (fun _ => rfl) (Nat.le_of_lt hj)) (by omega) (Nat.le_of_ble_eq_true rfl)) (setR_mid (off := ((j * 7 + 2) + 2)) (j := 4) (mk_pre (sz := 7) (fun _ => rfl) (Nat.le_of_lt hj)) (by omega) rfl (Nat.le_of_ble_eq_true rfl)) ?_
  simp only [killT, killB, SV.kill, CV.kill, kk, Nat.reduceBEq]
  iterate 9 refine z ?_
  refine yO rfl rfl (pu_indexK (i := j) hT rfl rfl rfl (ev_tmp rfl) rfl (ev_tmp rfl) rfl (by show _ < (x.length); omega)) rfl ?_
  iterate 2 refine z ?_
  refine yO rfl rfl (pu_loadE1 hT rfl rfl (ev_tmp rfl) rfl (get_mid (off := ((j * 7 + 5) + 0)) (j := 5) (mk_pre (sz := 7) (fun _ => rfl) (Nat.le_of_lt hj)) (by omega) rfl)) rfl ?_
  refine z ?_
  refine o_callN (t := 57) (ccs := mid ((mkL mkOp cOp (x.take j) k).flatMap eOp) [.int .i64 (k + (wSum cOp (x.take j) : Int)), .str (mText ((k + (wSum cOp (x.take j) : Int)) + (1))), .int .i64 (((k + (wSum cOp (x.take j) : Int)) + (1)) + (1)), .int .i64 ((((k + (wSum cOp (x.take j) : Int)) + (1)) + (1)) + (1)), .str (mText (((((k + (wSum cOp (x.take j) : Int)) + (1)) + (1)) + (1)) + (1))), fieldsD (mkL mkField cField ((x.getD (j : Int).toNat default).2.2.2.1) ((((((k + (wSum cOp (x.take j) : Int)) + (1)) + (1)) + (1)) + (1)) + (1))), .str ((x.getD (j : Int).toNat default).2.2.2.2)] ((x.drop (j + 1)).flatMap eOp)) 5059 rfl rfl rfl Try.call72 (ok_laws_markFieldS (by omega) (by omega)) rfl rfl (get_mid (off := ((j * 7 + 5) + 0)) (j := 5) (mk_pre (sz := 7) (fun _ => rfl) (Nat.le_of_lt hj)) (by omega) rfl) rfl (aw_cons (ev_tmp rfl) (aw_one (awc_key rfl)) (aw_cons (ev_tmp rfl) (aw_one (awc_dv rfl)) aw_nil)) rfl rfl (set_mid (off := ((j * 7 + 5) + 0)) (j := 5) (mk_pre (sz := 7) (fun _ => rfl) (Nat.le_of_lt hj)) (by omega) rfl (Nat.lt_of_lt_of_le (Nat.lt_succ_self _) (Nat.le_of_ble_eq_true rfl))) ?_
  simp only [killT, killB, SV.kill, CV.kill, kk, Nat.reduceBEq]
  iterate 6 refine z ?_
  refine zC Try.call71 ?_ (hf := ok_laws_markText (by omega))
  refine yO rfl rfl (pu_indexK (i := j) hT rfl rfl rfl (ev_tmp rfl) rfl (ev_tmp rfl) rfl (by show _ < (x.length); omega)) rfl ?_
  refine z ?_
  refine o_storeE (js := []) (cs := mid ((mkL mkOp cOp (x.take j) k).flatMap eOp) [.int .i64 (k + (wSum cOp (x.take j) : Int)), .str (mText ((k + (wSum cOp (x.take j) : Int)) + (1))), .int .i64 (((k + (wSum cOp (x.take j) : Int)) + (1)) + (1)), .int .i64 ((((k + (wSum cOp (x.take j) : Int)) + (1)) + (1)) + (1)), .str (mText (((((k + (wSum cOp (x.take j) : Int)) + (1)) + (1)) + (1)) + (1))), fieldsD (mkL mkField cField ((x.getD (j : Int).toNat default).2.2.2.1) ((((((k + (wSum cOp (x.take j) : Int)) + (1)) + (1)) + (1)) + (1)) + (1))), .str (mText (((((((k + (wSum cOp (x.take j) : Int)) + (1)) + (1)) + (1)) + (1)) + (1)) + (wSum cField ((x.getD (j : Int).toNat default).2.2.2.1) : Int)))] ((x.drop (j + 1)).flatMap eOp)) hT rfl rfl rfl rfl (ev_tmp rfl) (ev_tmp rfl) rfl rfl rfl rfl (ow_cons' (ow_dv rfl) ow_nil rfl) (by decide) (by decide) rfl (le_mid (off := (j * 7 + 6)) (n := 1) (j := 6) (mk_pre (sz := 7) (fun _ => rfl) (Nat.le_of_lt hj)) (by omega) (Nat.le_of_ble_eq_true rfl)) (setR_mid (off := (j * 7 + 6)) (j := 6) (mk_pre (sz := 7) (fun _ => rfl) (Nat.le_of_lt hj)) (by omega) rfl (Nat.le_of_ble_eq_true rfl)) ?_
  simp only [killT, killB, SV.kill, CV.kill, kk, Nat.reduceBEq]
  refine z ?_
  refine ok_region ?_
  iterate 3 refine z ?_
  refine ops_nil ?_
  iterate 2 refine z ?_
  refine ok_region ?_
  iterate 4 refine z ?_
  refine ⟨j + 1, ?_, ?_, weak_sub ⟨rfl, (eqSlotI (by omega)), rfl, rfl, trivial⟩ trivial ⟨(congrArg (fun cs => some (some (KC.mk true 102 7 x.length cs))) (mk_close (by omega) (by rfl))), trivial⟩ rfl⟩
  ·omega
  ·omega
 ·skip
  have d1 := of_decide_eq_false c1
  iterate 9 refine z ?_
  refine ok_weak (σ' := ⟨[(4, .one (.dv [] (.int .i64 (k + (wSum cOp (x.take j) : Int)))))], [], [(0, some (kcOf true (opsD (mkL mkOp cOp x k))))]⟩) (weak_sub ⟨rfl, trivial⟩ trivial ⟨(mk_fin (by omega)), trivial⟩ rfl) ?_
  refine z ?_
  refine fin1 (res_tmp rfl) ⟨eqI ?_, w1_ok rfl⟩
  have hq := wSum_all cOp x j (by omega); omega
theorem ok_laws_heldOpS {x y : List (OpT)} {k : Int} (hy : y = mkL mkOp cOp x k) (h0 : 0 ≤ k) (h1 : k + (wSum cOp x : Int) ≤ 4611686018427387904) : PFn Try.prog 33 [.one (.dv [] (opsD (y))), .one (.dv [] (.int .i64 (k)))] (.one (.dv [] (.int .i64 (k + (wSum cOp x : Int))))) := by
 refine ⟨fn_intro Try.func33 rfl Try.ntmps33 Try.results33 rfl (fun C => ?_)⟩
 refine ok_fact (x := .tmp 0) (ev_tmp rfl) fun f0 => ?_
 refine ok_fact (x := .tmp 1) (ev_tmp rfl) fun f1 => ?_
 iterate 8 refine z ?_
 refine ok_loop (ι := Nat) (fun zz => ⟨[(0, .one (.dv [] (opsD (y)))), (1, .one (.dv [] (.int .i64 (k + (wSum cOp (x.take zz) : Int))))), (5, .one (.dv [] (.int .i64 ((zz : Int)))))], [], []⟩) (fun zz => zz ≤ x.length) (fun zz => x.length - zz) (0) ?_ (weak_sub ⟨rfl, (eqSlotI (by simp [wSum])), rfl, trivial⟩ trivial trivial rfl) (fun zz hx => ?_)
 ·exact Nat.zero_le _
 obtain ⟨j, rfl⟩ : ∃ v, v = zz := ⟨_, rfl⟩
 replace hx : j ≤ x.length := hx
 have hw := fun h => wSum_succ cOp x j h
 have hyl : y.length = x.length := by rw [hy, mkL_len]
 show Ok _ _ _ _ _ (⟨[(0, .one (.dv [] (opsD (y)))), (1, .one (.dv [] (.int .i64 (k + (wSum cOp (x.take j) : Int))))), (5, .one (.dv [] (.int .i64 ((j : Int)))))], [], []⟩ : St)
 iterate 7 refine z ?_
 refine yQ rfl (fun c1 => ?_) fun c1 => ?_
 ·skip
  have d1 := of_decide_eq_true c1
  have hj : j < x.length := by omega
  obtain ⟨hw1, hw2⟩ := hw hj
  have hc : cOp (x.getD (j : Int).toNat default) = 6 + wSum cField ((x.getD (j : Int).toNat default).2.2.2.1) := rfl
  have he : y.getD (j : Int).toNat default = mkOp (x.getD (j : Int).toNat default) (k + (wSum cOp (x.take j) : Int)) := by rw [hy]; exact mkL_getD hj
  iterate 14 refine z ?_
  refine yQ rfl (fun c2 => ?_) fun c2 => ?_
  ·skip
   have d2 := nd_t c2
   iterate 11 refine z ?_
   exfalso; rw [he] at c2; simp [mkOp, sEq] at c2
  ·skip
   have d2 := nd_f c2
   iterate 7 refine z ?_
   refine ok_seq ?_
   refine ok_seq ?_
   refine ok_regionD (oB := []) (oK := []) (by kernel_rfl) rfl rfl ?_
   refine zD 0 ?_
   refine zD 1 ?_
   refine zD 2 ?_
   refine zD 3 ?_
   refine zD 4 ?_
   refine zD 5 ?_
   refine d_call 6 rfl (by kernel_rfl) rfl rfl rfl Try.call71 (ok_laws_markText (by omega)) (as_cons (ev_tmp rfl) (ag_one ac_dv) as_nil) rfl rfl rfl rfl ?_
   refine zD 7 ?_
   refine d_done (by kernel_rfl) ?_
   refine z ?_
   refine yQ rfl (fun c3 => ?_) fun c3 => ?_
   ·skip
    iterate 11 refine z ?_
    exfalso; rw [he] at c3; simp [mkOp, sEq] at c3
   ·skip
    iterate 18 refine z ?_
    refine yQ rfl (fun c4 => ?_) fun c4 => ?_
    ·skip
     have d4 := nd_t c4
     iterate 11 refine z ?_
     exfalso; rw [he] at c4; simp [mkOp, sEq] at c4
    ·skip
     have d4 := nd_f c4
     iterate 18 refine z ?_
     refine yQ rfl (fun c5 => ?_) fun c5 => ?_
     ·skip
      have d5 := nd_t c5
      iterate 11 refine z ?_
      exfalso; rw [he] at c5; simp [mkOp, sEq] at c5
     ·skip
      have d5 := nd_f c5
      iterate 7 refine z ?_
      refine ok_seq ?_
      refine ok_seq ?_
      refine ok_regionD (oB := []) (oK := []) (by kernel_rfl) rfl rfl ?_
      refine zD 0 ?_
      refine zD 1 ?_
      refine zD 2 ?_
      refine zD 3 ?_
      refine zD 4 ?_
      refine zD 5 ?_
      refine zD 6 ?_
      refine d_call 7 rfl (by kernel_rfl) rfl rfl rfl Try.call71 (ok_laws_markText (by omega)) (as_cons (ev_tmp rfl) (ag_one ac_dv) as_nil) rfl rfl rfl rfl ?_
      refine zD 8 ?_
      refine d_done (by kernel_rfl) ?_
      refine z ?_
      refine yQ rfl (fun c6 => ?_) fun c6 => ?_
      ·skip
       iterate 11 refine z ?_
       exfalso; rw [he] at c6; simp [mkOp, sEq] at c6
      ·skip
       iterate 15 refine z ?_
       refine zC Try.call81 ?_ (hf := ok_laws_heldFieldS (x := (x.getD (j : Int).toNat default).2.2.2.1) (by rw [he]; rfl) (by omega) (by omega))
       iterate 7 refine z ?_
       refine yQ rfl (fun c7 => ?_) fun c7 => ?_
       ·skip
        have d7 := of_decide_eq_true c7
        iterate 11 refine z ?_
        exfalso; omega
       ·skip
        have d7 := of_decide_eq_false c7
        iterate 2 refine z ?_
        refine ok_seq ?_
        refine ok_seq ?_
        refine ok_regionD (oB := []) (oK := []) (by kernel_rfl) rfl rfl ?_
        refine zD 0 ?_
        refine zD 1 ?_
        refine zD 2 ?_
        refine zD 3 ?_
        refine zD 4 ?_
        refine zD 5 ?_
        refine d_call 6 rfl (by kernel_rfl) rfl rfl rfl Try.call71 (ok_laws_markText (by omega)) (as_cons (ev_tmp rfl) (ag_one ac_dv) as_nil) rfl rfl rfl rfl ?_
        refine zD 7 ?_
        refine d_done (by kernel_rfl) ?_
        refine z ?_
        refine yQ rfl (fun c8 => ?_) fun c8 => ?_
        ·skip
         iterate 11 refine z ?_
         exfalso; rw [he] at c8; simp [mkOp, sEq] at c8
        ·skip
         iterate 2 refine z ?_
         refine ok_region ?_
         iterate 3 refine z ?_
         refine ops_nil ?_
         iterate 2 refine z ?_
         refine ok_region ?_
         iterate 4 refine z ?_
         refine ⟨j + 1, ?_, ?_, weak_sub ⟨rfl, (eqSlotI (by omega)), rfl, trivial⟩ trivial trivial rfl⟩
         ·omega
         ·omega
 ·skip
  have d1 := of_decide_eq_false c1
  iterate 11 refine z ?_
  have hq := wSum_all cOp x j (by omega); omega
end Go.Proofs.Ytlogahkchenpdaa

namespace Go.Proofs.Ytlogahkchenpdaa
open Go.RowKit
open Go.Proofs
set_option linter.unusedVariables false
set_option linter.unusedSimpArgs false

@[reducible] def bytessD (xs : List (List UInt8)) : DV := listD 0 1 (fun x => [bytesD x]) xs
def areB (l : List OpT) : Bool := l.all isOpB && decide ((l.length : Int) ≤ 6)
def appB (b y : List UInt8) : List UInt8 := appU b (y.length : Int) ++ y
def partsO (o : OpT) : List (List UInt8) := [o.2.1.data.toList, encK o.2.2.1, encR o.2.2.2.1, o.2.2.2.2.data.toList]
def opPart (b : List UInt8) (o : OpT) : Nat → List UInt8
 | 0 => appU b o.1
 | j + 1 => appB (opPart b o j) ((partsO o).getD (j : Int).toNat default)
def encON (l : List OpT) : Nat → List UInt8
 | 0 => appU [] (l.length : Int)
 | k + 1 => opPart (encON l k) (l.getD (k : Int).toNat default) 4
def encO (l : List OpT) : List UInt8 := if areB l then encON l l.length else []
theorem encO_bad {l : List OpT} (h : areB l = false) : encO l = [] := by rw [encO, h]; rfl
theorem encO_ok {l : List OpT} {k : Nat} (h : areB l = true) (hk : k = l.length) : encO l = encON l k := by rw [encO, if_pos h, hk]
theorem are_no {l : List OpT} {k : Nat} (hk : k < l.length) (h : isOpB (l.getD (k : Int).toNat default) = false) : areB l = false := by
 unfold areB
 have : l.all isOpB = false := by
  rw [List.all_eq_false]
  refine ⟨l[k], List.getElem_mem hk, ?_⟩
  rw [getD_at hk] at h
  simpa using h
 rw [this]; rfl
theorem are_yes {l : List OpT} {k : Nat} (h : (l.take k).all isOpB = true) (hk : l.length ≤ k) : areB l = decide ((l.length : Int) ≤ 6) := by
 rw [List.take_of_length_le hk] at h
 unfold areB
 rw [h, Bool.true_and]
theorem are_step {l : List OpT} {k : Nat} (h : (l.take k).all isOpB = true) (hk : k < l.length) (h2 : isOpB (l.getD (k : Int).toNat default) = true) : (l.take (k + 1)).all isOpB = true := by
 rw [List.take_succ_eq_append_getElem hk, List.all_append, h]
 rw [getD_at hk] at h2
 simpa using h2
theorem op_rng {o : OpT} (h : isOpB o = true) : o.2.1.data.toList.length ≤ 8 ∧ o.2.2.2.2.data.toList.length ≤ 8 := by
 simp only [isOpB, Bool.and_eq_true, Bool.or_eq_true] at h
 have h1 := name_size h.1.1.1.2
 refine ⟨h1.2, ?_⟩
 rcases h.2 with h2 | h2
 ·exact (name_size h2.2).2
 ·have h3 : o.2.2.2.2.data.toList = [] := by
   have := h2.2
   simpa [sEq, ByteArray.toList_eq] using this
  rw [h3]; simp
theorem are_op {l : List OpT} {k : Nat} (h : areB l = true) (hk : k < l.length) : isOpB (l.getD (k : Int).toNat default) = true := by
 simp only [areB, Bool.and_eq_true, List.all_eq_true] at h
 rw [getD_at hk]
 exact h.1 _ (List.getElem_mem hk)
theorem are_len {l : List OpT} (h : areB l = true) : l.length ≤ 6 := by
 simp only [areB, Bool.and_eq_true, decide_eq_true_eq] at h; omega
theorem appB_len (b y : List UInt8) : (appB b y).length ≤ b.length + 6 + y.length := by
 have := appU_len b (y.length : Int)
 rw [appB, List.length_append]; omega
theorem part_len {o : OpT} (h : isOpB o = true) (j : Nat) : ((partsO o).getD (j : Int).toNat default).length ≤ 126 := by
 have h1 := op_rng h
 have h2 := encK_len o.2.2.1
 have h3 := encR_len o.2.2.2.1
 match j with
 | 0 => show o.2.1.data.toList.length ≤ 126; omega
 | 1 => show (encK o.2.2.1).length ≤ 126; omega
 | 2 => exact h3
 | 3 => show o.2.2.2.2.data.toList.length ≤ 126; omega
 | n + 4 => rw [Int.toNat_natCast]; simp [partsO]; exact Nat.zero_le 126
theorem opPart_len {b : List UInt8} {o : OpT} (h : isOpB o = true) : ∀ j, (opPart b o j).length ≤ b.length + 6 + 132 * j
 | 0 => by have := appU_len b o.1; simpa [opPart] using this
 | j + 1 => by
  have ih := opPart_len (b := b) h j
  have h1 := appB_len (opPart b o j) ((partsO o).getD (j : Int).toNat default)
  have h2 := part_len h j
  rw [opPart]; omega
theorem encON_len {l : List OpT} : ∀ k, k ≤ l.length → (l.take k).all isOpB = true → (encON l k).length ≤ 6 + 534 * k
 | 0, _, _ => by have := appU_len [] (l.length : Int); simpa [encON] using this
 | k + 1, hk, h => by
  have h0 : (l.take k).all isOpB = true ∧ isOpB (l.getD (k : Int).toNat default) = true := by
   rw [List.take_succ_eq_append_getElem (by omega), List.all_append, Bool.and_eq_true] at h
   refine ⟨h.1, ?_⟩
   rw [getD_at (by omega)]
   simpa using h.2
  have ih := encON_len k (by omega) h0.1
  have h1 := opPart_len (b := encON l k) h0.2 4
  have e : encON l (k + 1) = opPart (encON l k) (l.getD (k : Int).toNat default) 4 := rfl
  rw [e]
  refine Nat.le_trans h1 ?_
  clear h1 e
  omega
theorem encON_lenV {l : List OpT} {k : Nat} (h : areB l = true) (hk : k ≤ l.length) : (encON l k).length ≤ 6 + 534 * k := by
 refine encON_len k hk ?_
 simp only [areB, Bool.and_eq_true] at h
 rw [List.all_eq_true] at h ⊢
 exact fun x hx => h.1 x (List.mem_of_mem_take hx)
theorem ok_impl_areOps {l : List OpT}  : PFn Try.prog 65 [.one (.dv [] (opsD (l)))] (.one (.dv [] (.bool (areB l)))) := by
 refine ⟨fn_intro Try.func65 rfl Try.ntmps65 Try.results65 rfl (fun C => ?_)⟩
 refine ok_fact (x := .tmp 0) (ev_tmp rfl) fun f0 => ?_
 iterate 10 refine z ?_
 refine ok_loop (ι := Nat) (fun zz => ⟨[(0, .one (.dv [] (opsD (l)))), (5, .one (.dv [] (opsD (l)))), (6, .one (.dv [] (.int .i64 ((((l)).length : Int))))), (7, .one (.dv [] (.int .i64 ((zz : Int)))))], [], []⟩) (fun zz => zz ≤ l.length ∧ (l.take zz).all isOpB = true) (fun zz => l.length - zz) (0) ?_ (weak_sub ⟨rfl, rfl, rfl, rfl, trivial⟩ trivial trivial rfl) (fun zz hx => ?_)
 ·exact ⟨Nat.zero_le _, rfl⟩
 obtain ⟨k, rfl⟩ : ∃ v, v = zz := ⟨_, rfl⟩
 replace hx : k ≤ l.length ∧ (l.take k).all isOpB = true := hx
 obtain ⟨hk, hall⟩ := hx
 show Ok _ _ _ _ _ (⟨[(0, .one (.dv [] (opsD (l)))), (5, .one (.dv [] (opsD (l)))), (6, .one (.dv [] (.int .i64 ((((l)).length : Int))))), (7, .one (.dv [] (.int .i64 ((k : Int)))))], [], []⟩ : St)
 iterate 3 refine z ?_
 refine ok_seq ?_
 refine yQ rfl (fun c1 => ?_) fun c1 => ?_
 ·skip
  have d1 := of_decide_eq_true c1
  iterate 12 refine z ?_
  refine zC Try.call124 ?_ (hf := ok_impl_IsOp (x := (((l)).getD ((k : Int)).toNat default)) )
  iterate 2 refine z ?_
  refine yQ rfl (fun c2 => ?_) fun c2 => ?_
  ·skip
   iterate 10 refine z ?_
   exact (are_no (k := k) (by omega) (by simpa using c2)).symm
  ·skip
   iterate 3 refine z ?_
   refine ok_region ?_
   iterate 3 refine z ?_
   refine ⟨k + 1, ?_, ?_, weak_sub ⟨rfl, rfl, rfl, rfl, trivial⟩ trivial trivial rfl⟩
   ·exact ⟨by omega, are_step hall (by omega) (by simpa using c2)⟩
   ·omega
 ·skip
  have d1 := of_decide_eq_false c1
  iterate 13 refine z ?_
  exact (are_yes hall (by omega)).symm
theorem ok_impl_EncodeOps {l : List OpT}  : KFn Try.prog 24 [.one (.dv [] (opsD (l)))] (.one (.key 900500)) [(900500, some (kcOf false (bytesD (encO l))))] := by
 refine ⟨fn_intro Try.func24 rfl Try.ntmps24 Try.results24 rfl (fun C => ?_)⟩
 refine ok_fact (x := .tmp 0) (ev_tmp rfl) fun f0 => ?_
 iterate 6 refine z ?_
 refine zC Try.call65 ?_ (hf := ok_impl_areOps (l := l) )
 iterate 2 refine z ?_
 refine yQ rfl (fun c1 => ?_) fun c1 => ?_
 ·skip
  have hk0 : areB l = false := by simpa using c1
  refine z ?_
  refine o_build0 (k := 900500) hT rfl rfl rfl rfl rfl rfl rfl rfl ?_
  iterate 2 refine z ?_
  refine ok_weak (σ' := ⟨[(2, .one (.key 900500))], [], [(900500, some (kcOf false (bytesD (encO l))))]⟩) (weak_sub ⟨rfl, trivial⟩ trivial ⟨(by first | exact congrArg (fun l : List UInt8 => some (some (KC.mk false 5 1 l.length (l.flatMap eByte)))) (show ([] : List UInt8) = encO l from (encO_bad hk0).symm) | exact congrArg (fun l : List UInt8 => some (some (KC.mk false 5 1 l.length (l.flatMap eByte)))) (encO_ok hk1 (by omega)).symm), trivial⟩ rfl) ?_
  iterate 2 refine z ?_
  refine fin1 (res_tmp rfl) ?_
  exact ⟨rfl, rfl⟩
 ·skip
  have hk1 : areB l = true := by simpa using c1
  have hll := are_len hk1
  iterate 5 refine z ?_
  refine o_callK 900470 rfl rfl rfl Try.call66 (ok_impl_AppendUvarint (x := []) (n := (l.length : Int)) (by simp)) (as_cons ev_nil (ag_one (ac_nil' rfl rfl)) (as_cons (ev_tmp rfl) (ag_one ac_dv) as_nil)) rfl rfl rfl ?_
  iterate 9 refine z ?_
  refine ok_loop (ι := Nat) (fun zz => ⟨[(2, .one .nil), (3, .one (.key 900500)), (15, .one (.dv [] (opsD (l)))), (16, .one (.dv [] (.int .i64 ((((l)).length : Int))))), (17, .one (.dv [] (.int .i64 ((zz : Int)))))], [], [(900500, some (kcOf false (.sl 5 1 ((encON l zz).length) ((encON l zz).flatMap eByte))))]⟩) (fun zz => zz ≤ l.length) (fun zz => l.length - zz) (0) ?_ (weak_sub ⟨rfl, rfl, rfl, rfl, rfl, trivial⟩ trivial ⟨rfl, trivial⟩ rfl) (fun zz hx => ?_)
  ·exact Nat.zero_le _
  obtain ⟨k, rfl⟩ : ∃ v, v = zz := ⟨_, rfl⟩
  replace hx : k ≤ l.length := hx
  have hk := hx
  show Ok _ _ _ _ _ (⟨[(2, .one .nil), (3, .one (.key 900500)), (15, .one (.dv [] (opsD (l)))), (16, .one (.dv [] (.int .i64 ((((l)).length : Int))))), (17, .one (.dv [] (.int .i64 ((k : Int)))))], [], [(900500, some (kcOf false (.sl 5 1 ((encON l k).length) ((encON l k).flatMap eByte))))]⟩ : St)
  iterate 3 refine z ?_
  refine ok_seq ?_
  refine yQ rfl (fun c2 => ?_) fun c2 => ?_
  ·skip
   have d2 := of_decide_eq_true c2
   have hkl : k < l.length := by omega
   have hop := are_op hk1 hkl
   have hrg := op_rng hop
   have hek := encK_len (l.getD (k : Int).toNat default).2.2.1
   have her := encR_len (l.getD (k : Int).toNat default).2.2.2.1
   have hen := encON_lenV hk1 hk
   iterate 14 refine z ?_
   refine o_callK 900471 rfl rfl rfl Try.call66 (ok_impl_AppendUvarint (x := (encON l k)) (n := (l.getD (k : Int).toNat default).1) (by omega)) (as_cons (ev_tmp rfl) (ag_one (ac_key' rfl rfl)) (as_cons (ev_tmp rfl) (ag_one ac_dv) as_nil)) rfl rfl rfl ?_
   iterate 2 refine z ?_
   refine ok_cutS (σ' := ⟨[(2, .one .nil), (3, .one (.key 900501)), (5, .box 5 0), (15, .one (.dv [] (opsD (l)))), (16, .one (.dv [] (.int .i64 ((((l)).length : Int))))), (17, .one (.dv [] (.int .i64 ((k : Int))))), (37, .one (.key 37)), (38, .one (.dv [] (.int .i64 (((4) : Int))))), (39, .one (.dv [] (.int .i64 (0))))], [(5, 102, [(.dv [] (.int .i64 ((((l)).getD ((k : Int)).toNat default).1))), (.dv [] (.str ((((l)).getD ((k : Int)).toNat default).2.1))), (.dv [] (.int .i64 ((((l)).getD ((k : Int)).toNat default).2.2.1.1))), (.dv [] (.int .i64 ((((l)).getD ((k : Int)).toNat default).2.2.1.2.1))), (.dv [] (.str ((((l)).getD ((k : Int)).toNat default).2.2.1.2.2))), (.dv [] (fieldsD ((((l)).getD ((k : Int)).toNat default).2.2.2.1))), (.dv [] (.str ((((l)).getD ((k : Int)).toNat default).2.2.2.2)))])], [(37, some (kcOf false (.sl 35 1 (4) ([.sl 1000005 1 (((((l)).getD ((k : Int)).toNat default).2.1).data.toList.length) (((((l)).getD ((k : Int)).toNat default).2.1).data.toList.flatMap eByte), bytesD (encK ((((l)).getD ((k : Int)).toNat default).2.2.1)), bytesD (encR ((((l)).getD ((k : Int)).toNat default).2.2.2.1)), .sl 1000005 1 (((((l)).getD ((k : Int)).toNat default).2.2.2.2).data.toList.length) (((((l)).getD ((k : Int)).toNat default).2.2.2.2).data.toList.flatMap eByte)])))), (900500, some (kcOf false (.sl 5 1 ((encON l k).length) ((encON l k).flatMap eByte)))), (900501, some (kcOf false (bytesD (opPart (encON l k) (l.getD (k : Int).toNat default) 0))))]⟩) ?_ ?_
   ·skip
    refine ok_regionD (oB := [5]) (oK := [900500, 900501]) (by kernel_rfl) rfl rfl ?_
    refine zD 0 ?_
    refine zD 1 ?_
    refine zD 3 ?_
    refine zD 4 ?_
    refine zD 6 ?_
    refine zD 7 ?_
    refine zD 9 ?_
    refine zD 10 ?_
    refine zD 14 ?_
    refine d_split 2 [5, 11] (by kernel_rfl) ⟨?_, ?_, ?_, trivial⟩
    ·skip
     refine j_convSB (k := 27) 2 hT rfl rfl rfl rfl rfl rfl rfl rfl (ev_tmp rfl) rfl rfl rfl ?_
     refine d_split 5 [11] (by kernel_rfl) ⟨?_, ?_, trivial⟩
     ·skip
      refine j_callK 900498 5 rfl rfl rfl rfl Try.call67 (ok_impl_EncodeKey (k := (((l)).getD ((k : Int)).toNat default).2.2.1) ) (as_cons (ev_tmp rfl) (ag_agg (ag_cons ac_dv (ag_cons ac_dv (ag_cons ac_dv ag_nil)))) as_nil) rfl rfl rfl rfl rfl ?_
      refine d_split 8 [11] (by kernel_rfl) ⟨?_, ?_, trivial⟩
      ·skip
       refine j_callK 900011 8 rfl rfl rfl rfl Try.call68 (ok_impl_EncodeRecord (r := (((l)).getD ((k : Int)).toNat default).2.2.2.1) ) (as_cons (ev_tmp rfl) (ag_agg (ag_cons ac_dv ag_nil)) as_nil) rfl rfl rfl rfl rfl ?_
       refine d_convSB (k := 36) 11 hT rfl (by kernel_rfl) rfl rfl rfl rfl rfl rfl rfl (ev_tmp rfl) rfl rfl rfl ?_
       refine d_buildN (k := 37) (js := [27, 900510, 900511, 36]) 12 hT rfl (by kernel_rfl) rfl rfl rfl rfl rfl rfl rfl rfl rfl rfl rfl (ep_cons (ev_tmp rfl) rfl rfl rfl (ep_cons (ev_tmp rfl) rfl rfl rfl (ep_cons (ev_tmp rfl) rfl rfl rfl (ep_cons (ev_tmp rfl) rfl rfl rfl ep_nil)))) (ow_cons' (ow_key rfl) (ow_cons' (ow_key rfl) (ow_cons' (ow_key rfl) (ow_cons' (ow_key rfl) ow_nil rfl) rfl) rfl) rfl) (by decide) (by decide) rfl rfl rfl rfl ?_
       simp only [killT, killB, SV.kill, CV.kill, kk, Nat.reduceBEq]
       refine d_take 13 rfl (by kernel_rfl) rfl rfl (pu_lenKn (n := (4)) hT rfl rfl (ev_tmp rfl) rfl rfl) rfl rfl rfl rfl ?_
       refine d_done (by kernel_rfl) ?_
       exact then_n (weak_sub ⟨rfl, rfl, rfl, rfl, rfl, rfl, rfl, rfl, rfl, trivial⟩ ⟨rfl, trivial⟩ ⟨rfl, rfl, rfl, trivial⟩ rfl)
      ·skip
       refine j_convSB (k := 36) 11 hT rfl rfl rfl rfl rfl rfl rfl rfl (ev_tmp rfl) rfl rfl rfl ?_
       refine d_callK 900011 8 rfl (by kernel_rfl) rfl rfl rfl Try.call68 (ok_impl_EncodeRecord (r := (((l)).getD ((k : Int)).toNat default).2.2.2.1) ) (as_cons (ev_tmp rfl) (ag_agg (ag_cons ac_dv ag_nil)) as_nil) rfl rfl rfl rfl rfl ?_
       refine d_buildN (k := 37) (js := [27, 900510, 900511, 36]) 12 hT rfl (by kernel_rfl) rfl rfl rfl rfl rfl rfl rfl rfl rfl rfl rfl (ep_cons (ev_tmp rfl) rfl rfl rfl (ep_cons (ev_tmp rfl) rfl rfl rfl (ep_cons (ev_tmp rfl) rfl rfl rfl (ep_cons (ev_tmp rfl) rfl rfl rfl ep_nil)))) (ow_cons' (ow_key rfl) (ow_cons' (ow_key rfl) (ow_cons' (ow_key rfl) (ow_cons' (ow_key rfl) ow_nil rfl) rfl) rfl) rfl) (by decide) (by decide) rfl rfl rfl rfl ?_
       simp only [killT, killB, SV.kill, CV.kill, kk, Nat.reduceBEq]
       refine d_take 13 rfl (by kernel_rfl) rfl rfl (pu_lenKn (n := (4)) hT rfl rfl (ev_tmp rfl) rfl rfl) rfl rfl rfl rfl ?_
       refine d_done (by kernel_rfl) ?_
       exact then_n (weak_sub ⟨rfl, rfl, rfl, rfl, rfl, rfl, rfl, rfl, rfl, trivial⟩ ⟨rfl, trivial⟩ ⟨rfl, rfl, rfl, trivial⟩ rfl)
     ·skip
      refine j_convSB (k := 36) 11 hT rfl rfl rfl rfl rfl rfl rfl rfl (ev_tmp rfl) rfl rfl rfl ?_
      refine d_callK 900498 5 rfl (by kernel_rfl) rfl rfl rfl Try.call67 (ok_impl_EncodeKey (k := (((l)).getD ((k : Int)).toNat default).2.2.1) ) (as_cons (ev_tmp rfl) (ag_agg (ag_cons ac_dv (ag_cons ac_dv (ag_cons ac_dv ag_nil)))) as_nil) rfl rfl rfl rfl rfl ?_
      refine d_callK 900011 8 rfl (by kernel_rfl) rfl rfl rfl Try.call68 (ok_impl_EncodeRecord (r := (((l)).getD ((k : Int)).toNat default).2.2.2.1) ) (as_cons (ev_tmp rfl) (ag_agg (ag_cons ac_dv ag_nil)) as_nil) rfl rfl rfl rfl rfl ?_
      refine d_buildN (k := 37) (js := [27, 900510, 900511, 36]) 12 hT rfl (by kernel_rfl) rfl rfl rfl rfl rfl rfl rfl rfl rfl rfl rfl (ep_cons (ev_tmp rfl) rfl rfl rfl (ep_cons (ev_tmp rfl) rfl rfl rfl (ep_cons (ev_tmp rfl) rfl rfl rfl (ep_cons (ev_tmp rfl) rfl rfl rfl ep_nil)))) (ow_cons' (ow_key rfl) (ow_cons' (ow_key rfl) (ow_cons' (ow_key rfl) (ow_cons' (ow_key rfl) ow_nil rfl) rfl) rfl) rfl) (by decide) (by decide) rfl rfl rfl rfl ?_
      simp only [killT, killB, SV.kill, CV.kill, kk, Nat.reduceBEq]
      refine d_take 13 rfl (by kernel_rfl) rfl rfl (pu_lenKn (n := (4)) hT rfl rfl (ev_tmp rfl) rfl rfl) rfl rfl rfl rfl ?_
      refine d_done (by kernel_rfl) ?_
      exact then_n (weak_sub ⟨rfl, rfl, rfl, rfl, rfl, rfl, rfl, rfl, rfl, trivial⟩ ⟨rfl, trivial⟩ ⟨rfl, rfl, rfl, trivial⟩ rfl)
    ·skip
     refine j_callK 900498 5 rfl rfl rfl rfl Try.call67 (ok_impl_EncodeKey (k := (((l)).getD ((k : Int)).toNat default).2.2.1) ) (as_cons (ev_tmp rfl) (ag_agg (ag_cons ac_dv (ag_cons ac_dv (ag_cons ac_dv ag_nil)))) as_nil) rfl rfl rfl rfl rfl ?_
     refine d_split 2 [8, 11] (by kernel_rfl) ⟨?_, ?_, ?_, trivial⟩
     ·skip
      refine j_convSB (k := 27) 2 hT rfl rfl rfl rfl rfl rfl rfl rfl (ev_tmp rfl) rfl rfl rfl ?_
      refine d_split 8 [11] (by kernel_rfl) ⟨?_, ?_, trivial⟩
      ·skip
       refine j_callK 900011 8 rfl rfl rfl rfl Try.call68 (ok_impl_EncodeRecord (r := (((l)).getD ((k : Int)).toNat default).2.2.2.1) ) (as_cons (ev_tmp rfl) (ag_agg (ag_cons ac_dv ag_nil)) as_nil) rfl rfl rfl rfl rfl ?_
       refine d_convSB (k := 36) 11 hT rfl (by kernel_rfl) rfl rfl rfl rfl rfl rfl rfl (ev_tmp rfl) rfl rfl rfl ?_
       refine d_buildN (k := 37) (js := [27, 900510, 900511, 36]) 12 hT rfl (by kernel_rfl) rfl rfl rfl rfl rfl rfl rfl rfl rfl rfl rfl (ep_cons (ev_tmp rfl) rfl rfl rfl (ep_cons (ev_tmp rfl) rfl rfl rfl (ep_cons (ev_tmp rfl) rfl rfl rfl (ep_cons (ev_tmp rfl) rfl rfl rfl ep_nil)))) (ow_cons' (ow_key rfl) (ow_cons' (ow_key rfl) (ow_cons' (ow_key rfl) (ow_cons' (ow_key rfl) ow_nil rfl) rfl) rfl) rfl) (by decide) (by decide) rfl rfl rfl rfl ?_
       simp only [killT, killB, SV.kill, CV.kill, kk, Nat.reduceBEq]
       refine d_take 13 rfl (by kernel_rfl) rfl rfl (pu_lenKn (n := (4)) hT rfl rfl (ev_tmp rfl) rfl rfl) rfl rfl rfl rfl ?_
       refine d_done (by kernel_rfl) ?_
       exact then_n (weak_sub ⟨rfl, rfl, rfl, rfl, rfl, rfl, rfl, rfl, rfl, trivial⟩ ⟨rfl, trivial⟩ ⟨rfl, rfl, rfl, trivial⟩ rfl)
      ·skip
       refine j_convSB (k := 36) 11 hT rfl rfl rfl rfl rfl rfl rfl rfl (ev_tmp rfl) rfl rfl rfl ?_
       refine d_callK 900011 8 rfl (by kernel_rfl) rfl rfl rfl Try.call68 (ok_impl_EncodeRecord (r := (((l)).getD ((k : Int)).toNat default).2.2.2.1) ) (as_cons (ev_tmp rfl) (ag_agg (ag_cons ac_dv ag_nil)) as_nil) rfl rfl rfl rfl rfl ?_
       refine d_buildN (k := 37) (js := [27, 900510, 900511, 36]) 12 hT rfl (by kernel_rfl) rfl rfl rfl rfl rfl rfl rfl rfl rfl rfl rfl (ep_cons (ev_tmp rfl) rfl rfl rfl (ep_cons (ev_tmp rfl) rfl rfl rfl (ep_cons (ev_tmp rfl) rfl rfl rfl (ep_cons (ev_tmp rfl) rfl rfl rfl ep_nil)))) (ow_cons' (ow_key rfl) (ow_cons' (ow_key rfl) (ow_cons' (ow_key rfl) (ow_cons' (ow_key rfl) ow_nil rfl) rfl) rfl) rfl) (by decide) (by decide) rfl rfl rfl rfl ?_
       simp only [killT, killB, SV.kill, CV.kill, kk, Nat.reduceBEq]
       refine d_take 13 rfl (by kernel_rfl) rfl rfl (pu_lenKn (n := (4)) hT rfl rfl (ev_tmp rfl) rfl rfl) rfl rfl rfl rfl ?_
       refine d_done (by kernel_rfl) ?_
       exact then_n (weak_sub ⟨rfl, rfl, rfl, rfl, rfl, rfl, rfl, rfl, rfl, trivial⟩ ⟨rfl, trivial⟩ ⟨rfl, rfl, rfl, trivial⟩ rfl)
     ·skip
      refine j_callK 900011 8 rfl rfl rfl rfl Try.call68 (ok_impl_EncodeRecord (r := (((l)).getD ((k : Int)).toNat default).2.2.2.1) ) (as_cons (ev_tmp rfl) (ag_agg (ag_cons ac_dv ag_nil)) as_nil) rfl rfl rfl rfl rfl ?_
      refine d_split 2 [11] (by kernel_rfl) ⟨?_, ?_, trivial⟩
      ·skip
       refine j_convSB (k := 27) 2 hT rfl rfl rfl rfl rfl rfl rfl rfl (ev_tmp rfl) rfl rfl rfl ?_
       refine d_convSB (k := 36) 11 hT rfl (by kernel_rfl) rfl rfl rfl rfl rfl rfl rfl (ev_tmp rfl) rfl rfl rfl ?_
       refine d_buildN (k := 37) (js := [27, 900510, 900511, 36]) 12 hT rfl (by kernel_rfl) rfl rfl rfl rfl rfl rfl rfl rfl rfl rfl rfl (ep_cons (ev_tmp rfl) rfl rfl rfl (ep_cons (ev_tmp rfl) rfl rfl rfl (ep_cons (ev_tmp rfl) rfl rfl rfl (ep_cons (ev_tmp rfl) rfl rfl rfl ep_nil)))) (ow_cons' (ow_key rfl) (ow_cons' (ow_key rfl) (ow_cons' (ow_key rfl) (ow_cons' (ow_key rfl) ow_nil rfl) rfl) rfl) rfl) (by decide) (by decide) rfl rfl rfl rfl ?_
       simp only [killT, killB, SV.kill, CV.kill, kk, Nat.reduceBEq]
       refine d_take 13 rfl (by kernel_rfl) rfl rfl (pu_lenKn (n := (4)) hT rfl rfl (ev_tmp rfl) rfl rfl) rfl rfl rfl rfl ?_
       refine d_done (by kernel_rfl) ?_
       exact then_n (weak_sub ⟨rfl, rfl, rfl, rfl, rfl, rfl, rfl, rfl, rfl, trivial⟩ ⟨rfl, trivial⟩ ⟨rfl, rfl, rfl, trivial⟩ rfl)
      ·skip
       refine j_convSB (k := 36) 11 hT rfl rfl rfl rfl rfl rfl rfl rfl (ev_tmp rfl) rfl rfl rfl ?_
       refine d_convSB (k := 27) 2 hT rfl (by kernel_rfl) rfl rfl rfl rfl rfl rfl rfl (ev_tmp rfl) rfl rfl rfl ?_
       refine d_buildN (k := 37) (js := [27, 900510, 900511, 36]) 12 hT rfl (by kernel_rfl) rfl rfl rfl rfl rfl rfl rfl rfl rfl rfl rfl (ep_cons (ev_tmp rfl) rfl rfl rfl (ep_cons (ev_tmp rfl) rfl rfl rfl (ep_cons (ev_tmp rfl) rfl rfl rfl (ep_cons (ev_tmp rfl) rfl rfl rfl ep_nil)))) (ow_cons' (ow_key rfl) (ow_cons' (ow_key rfl) (ow_cons' (ow_key rfl) (ow_cons' (ow_key rfl) ow_nil rfl) rfl) rfl) rfl) (by decide) (by decide) rfl rfl rfl rfl ?_
       simp only [killT, killB, SV.kill, CV.kill, kk, Nat.reduceBEq]
       refine d_take 13 rfl (by kernel_rfl) rfl rfl (pu_lenKn (n := (4)) hT rfl rfl (ev_tmp rfl) rfl rfl) rfl rfl rfl rfl ?_
       refine d_done (by kernel_rfl) ?_
       exact then_n (weak_sub ⟨rfl, rfl, rfl, rfl, rfl, rfl, rfl, rfl, rfl, trivial⟩ ⟨rfl, trivial⟩ ⟨rfl, rfl, rfl, trivial⟩ rfl)
     ·skip
      refine j_convSB (k := 36) 11 hT rfl rfl rfl rfl rfl rfl rfl rfl (ev_tmp rfl) rfl rfl rfl ?_
      refine d_split 2 [8] (by kernel_rfl) ⟨?_, ?_, trivial⟩
      ·skip
       refine j_convSB (k := 27) 2 hT rfl rfl rfl rfl rfl rfl rfl rfl (ev_tmp rfl) rfl rfl rfl ?_
       refine d_callK 900011 8 rfl (by kernel_rfl) rfl rfl rfl Try.call68 (ok_impl_EncodeRecord (r := (((l)).getD ((k : Int)).toNat default).2.2.2.1) ) (as_cons (ev_tmp rfl) (ag_agg (ag_cons ac_dv ag_nil)) as_nil) rfl rfl rfl rfl rfl ?_
       refine d_buildN (k := 37) (js := [27, 900510, 900511, 36]) 12 hT rfl (by kernel_rfl) rfl rfl rfl rfl rfl rfl rfl rfl rfl rfl rfl (ep_cons (ev_tmp rfl) rfl rfl rfl (ep_cons (ev_tmp rfl) rfl rfl rfl (ep_cons (ev_tmp rfl) rfl rfl rfl (ep_cons (ev_tmp rfl) rfl rfl rfl ep_nil)))) (ow_cons' (ow_key rfl) (ow_cons' (ow_key rfl) (ow_cons' (ow_key rfl) (ow_cons' (ow_key rfl) ow_nil rfl) rfl) rfl) rfl) (by decide) (by decide) rfl rfl rfl rfl ?_
       simp only [killT, killB, SV.kill, CV.kill, kk, Nat.reduceBEq]
       refine d_take 13 rfl (by kernel_rfl) rfl rfl (pu_lenKn (n := (4)) hT rfl rfl (ev_tmp rfl) rfl rfl) rfl rfl rfl rfl ?_
       refine d_done (by kernel_rfl) ?_
       exact then_n (weak_sub ⟨rfl, rfl, rfl, rfl, rfl, rfl, rfl, rfl, rfl, trivial⟩ ⟨rfl, trivial⟩ ⟨rfl, rfl, rfl, trivial⟩ rfl)
      ·skip
       refine j_callK 900011 8 rfl rfl rfl rfl Try.call68 (ok_impl_EncodeRecord (r := (((l)).getD ((k : Int)).toNat default).2.2.2.1) ) (as_cons (ev_tmp rfl) (ag_agg (ag_cons ac_dv ag_nil)) as_nil) rfl rfl rfl rfl rfl ?_
       refine d_convSB (k := 27) 2 hT rfl (by kernel_rfl) rfl rfl rfl rfl rfl rfl rfl (ev_tmp rfl) rfl rfl rfl ?_
       refine d_buildN (k := 37) (js := [27, 900510, 900511, 36]) 12 hT rfl (by kernel_rfl) rfl rfl rfl rfl rfl rfl rfl rfl rfl rfl rfl (ep_cons (ev_tmp rfl) rfl rfl rfl (ep_cons (ev_tmp rfl) rfl rfl rfl (ep_cons (ev_tmp rfl) rfl rfl rfl (ep_cons (ev_tmp rfl) rfl rfl rfl ep_nil)))) (ow_cons' (ow_key rfl) (ow_cons' (ow_key rfl) (ow_cons' (ow_key rfl) (ow_cons' (ow_key rfl) ow_nil rfl) rfl) rfl) rfl) (by decide) (by decide) rfl rfl rfl rfl ?_
       simp only [killT, killB, SV.kill, CV.kill, kk, Nat.reduceBEq]
       refine d_take 13 rfl (by kernel_rfl) rfl rfl (pu_lenKn (n := (4)) hT rfl rfl (ev_tmp rfl) rfl rfl) rfl rfl rfl rfl ?_
       refine d_done (by kernel_rfl) ?_
       exact then_n (weak_sub ⟨rfl, rfl, rfl, rfl, rfl, rfl, rfl, rfl, rfl, trivial⟩ ⟨rfl, trivial⟩ ⟨rfl, rfl, rfl, trivial⟩ rfl)
    ·skip
     refine j_convSB (k := 36) 11 hT rfl rfl rfl rfl rfl rfl rfl rfl (ev_tmp rfl) rfl rfl rfl ?_
     refine d_split 2 [5] (by kernel_rfl) ⟨?_, ?_, trivial⟩
     ·skip
      refine j_convSB (k := 27) 2 hT rfl rfl rfl rfl rfl rfl rfl rfl (ev_tmp rfl) rfl rfl rfl ?_
      refine d_callK 900498 5 rfl (by kernel_rfl) rfl rfl rfl Try.call67 (ok_impl_EncodeKey (k := (((l)).getD ((k : Int)).toNat default).2.2.1) ) (as_cons (ev_tmp rfl) (ag_agg (ag_cons ac_dv (ag_cons ac_dv (ag_cons ac_dv ag_nil)))) as_nil) rfl rfl rfl rfl rfl ?_
      refine d_callK 900011 8 rfl (by kernel_rfl) rfl rfl rfl Try.call68 (ok_impl_EncodeRecord (r := (((l)).getD ((k : Int)).toNat default).2.2.2.1) ) (as_cons (ev_tmp rfl) (ag_agg (ag_cons ac_dv ag_nil)) as_nil) rfl rfl rfl rfl rfl ?_
      refine d_buildN (k := 37) (js := [27, 900510, 900511, 36]) 12 hT rfl (by kernel_rfl) rfl rfl rfl rfl rfl rfl rfl rfl rfl rfl rfl (ep_cons (ev_tmp rfl) rfl rfl rfl (ep_cons (ev_tmp rfl) rfl rfl rfl (ep_cons (ev_tmp rfl) rfl rfl rfl (ep_cons (ev_tmp rfl) rfl rfl rfl ep_nil)))) (ow_cons' (ow_key rfl) (ow_cons' (ow_key rfl) (ow_cons' (ow_key rfl) (ow_cons' (ow_key rfl) ow_nil rfl) rfl) rfl) rfl) (by decide) (by decide) rfl rfl rfl rfl ?_
      simp only [killT, killB, SV.kill, CV.kill, kk, Nat.reduceBEq]
      refine d_take 13 rfl (by kernel_rfl) rfl rfl (pu_lenKn (n := (4)) hT rfl rfl (ev_tmp rfl) rfl rfl) rfl rfl rfl rfl ?_
      refine d_done (by kernel_rfl) ?_
      exact then_n (weak_sub ⟨rfl, rfl, rfl, rfl, rfl, rfl, rfl, rfl, rfl, trivial⟩ ⟨rfl, trivial⟩ ⟨rfl, rfl, rfl, trivial⟩ rfl)
     ·skip
      refine j_callK 900498 5 rfl rfl rfl rfl Try.call67 (ok_impl_EncodeKey (k := (((l)).getD ((k : Int)).toNat default).2.2.1) ) (as_cons (ev_tmp rfl) (ag_agg (ag_cons ac_dv (ag_cons ac_dv (ag_cons ac_dv ag_nil)))) as_nil) rfl rfl rfl rfl rfl ?_
      refine d_split 2 [8] (by kernel_rfl) ⟨?_, ?_, trivial⟩
      ·skip
       refine j_convSB (k := 27) 2 hT rfl rfl rfl rfl rfl rfl rfl rfl (ev_tmp rfl) rfl rfl rfl ?_
       refine d_callK 900011 8 rfl (by kernel_rfl) rfl rfl rfl Try.call68 (ok_impl_EncodeRecord (r := (((l)).getD ((k : Int)).toNat default).2.2.2.1) ) (as_cons (ev_tmp rfl) (ag_agg (ag_cons ac_dv ag_nil)) as_nil) rfl rfl rfl rfl rfl ?_
       refine d_buildN (k := 37) (js := [27, 900510, 900511, 36]) 12 hT rfl (by kernel_rfl) rfl rfl rfl rfl rfl rfl rfl rfl rfl rfl rfl (ep_cons (ev_tmp rfl) rfl rfl rfl (ep_cons (ev_tmp rfl) rfl rfl rfl (ep_cons (ev_tmp rfl) rfl rfl rfl (ep_cons (ev_tmp rfl) rfl rfl rfl ep_nil)))) (ow_cons' (ow_key rfl) (ow_cons' (ow_key rfl) (ow_cons' (ow_key rfl) (ow_cons' (ow_key rfl) ow_nil rfl) rfl) rfl) rfl) (by decide) (by decide) rfl rfl rfl rfl ?_
       simp only [killT, killB, SV.kill, CV.kill, kk, Nat.reduceBEq]
       refine d_take 13 rfl (by kernel_rfl) rfl rfl (pu_lenKn (n := (4)) hT rfl rfl (ev_tmp rfl) rfl rfl) rfl rfl rfl rfl ?_
       refine d_done (by kernel_rfl) ?_
       exact then_n (weak_sub ⟨rfl, rfl, rfl, rfl, rfl, rfl, rfl, rfl, rfl, trivial⟩ ⟨rfl, trivial⟩ ⟨rfl, rfl, rfl, trivial⟩ rfl)
      ·skip
       refine j_callK 900011 8 rfl rfl rfl rfl Try.call68 (ok_impl_EncodeRecord (r := (((l)).getD ((k : Int)).toNat default).2.2.2.1) ) (as_cons (ev_tmp rfl) (ag_agg (ag_cons ac_dv ag_nil)) as_nil) rfl rfl rfl rfl rfl ?_
       refine d_convSB (k := 27) 2 hT rfl (by kernel_rfl) rfl rfl rfl rfl rfl rfl rfl (ev_tmp rfl) rfl rfl rfl ?_
       refine d_buildN (k := 37) (js := [27, 900510, 900511, 36]) 12 hT rfl (by kernel_rfl) rfl rfl rfl rfl rfl rfl rfl rfl rfl rfl rfl (ep_cons (ev_tmp rfl) rfl rfl rfl (ep_cons (ev_tmp rfl) rfl rfl rfl (ep_cons (ev_tmp rfl) rfl rfl rfl (ep_cons (ev_tmp rfl) rfl rfl rfl ep_nil)))) (ow_cons' (ow_key rfl) (ow_cons' (ow_key rfl) (ow_cons' (ow_key rfl) (ow_cons' (ow_key rfl) ow_nil rfl) rfl) rfl) rfl) (by decide) (by decide) rfl rfl rfl rfl ?_
       simp only [killT, killB, SV.kill, CV.kill, kk, Nat.reduceBEq]
       refine d_take 13 rfl (by kernel_rfl) rfl rfl (pu_lenKn (n := (4)) hT rfl rfl (ev_tmp rfl) rfl rfl) rfl rfl rfl rfl ?_
       refine d_done (by kernel_rfl) ?_
       exact then_n (weak_sub ⟨rfl, rfl, rfl, rfl, rfl, rfl, rfl, rfl, rfl, trivial⟩ ⟨rfl, trivial⟩ ⟨rfl, rfl, rfl, trivial⟩ rfl)
   refine z ?_
   refine ok_weak (weak_view (d := 37) (dd := bytessD (partsO (l.getD (k : Int).toNat default))) rfl rfl (ds_sl (dss_cons ds_ty (dss_cons ds_ty (dss_cons ds_ty (dss_cons ds_ty dss_nil)))))) ?_
   refine ok_loop (ι := Nat) (fun zz => ⟨[(2, .one .nil), (3, .one (.key 900501)), (15, .one (.dv [] (opsD (l)))), (16, .one (.dv [] (.int .i64 ((((l)).length : Int))))), (17, .one (.dv [] (.int .i64 ((k : Int))))), (37, .one (.dv [37] (bytessD (partsO (l.getD (k : Int).toNat default))))), (38, .one (.dv [] (.int .i64 (((4) : Int))))), (39, .one (.dv [] (.int .i64 ((zz : Int)))))], [], [(37, some (kcOf false (.sl 35 1 (4) ([.sl 1000005 1 (((((l)).getD ((k : Int)).toNat default).2.1).data.toList.length) (((((l)).getD ((k : Int)).toNat default).2.1).data.toList.flatMap eByte), bytesD (encK ((((l)).getD ((k : Int)).toNat default).2.2.1)), bytesD (encR ((((l)).getD ((k : Int)).toNat default).2.2.2.1)), .sl 1000005 1 (((((l)).getD ((k : Int)).toNat default).2.2.2.2).data.toList.length) (((((l)).getD ((k : Int)).toNat default).2.2.2.2).data.toList.flatMap eByte)])))), (900500, some (kcOf false (.sl 5 1 ((encON l k).length) ((encON l k).flatMap eByte)))), (900501, some (kcOf false (.sl 5 1 ((opPart (encON l k) (l.getD (k : Int).toNat default) zz).length) ((opPart (encON l k) (l.getD (k : Int).toNat default) zz).flatMap eByte))))]⟩) (fun zz => zz ≤ 4) (fun zz => 4 - zz) (0) ?_ (weak_sub ⟨rfl, rfl, rfl, rfl, rfl, rfl, rfl, rfl, trivial⟩ trivial ⟨rfl, rfl, rfl, trivial⟩ rfl) (fun zz hx => ?_)
   ·exact Nat.zero_le _
   obtain ⟨j, rfl⟩ : ∃ v, v = zz := ⟨_, rfl⟩
   replace hx : j ≤ 4 := hx
   have hj := hx
   show Ok _ _ _ _ _ (⟨[(2, .one .nil), (3, .one (.key 900501)), (15, .one (.dv [] (opsD (l)))), (16, .one (.dv [] (.int .i64 ((((l)).length : Int))))), (17, .one (.dv [] (.int .i64 ((k : Int))))), (37, .one (.dv [37] (bytessD (partsO (l.getD (k : Int).toNat default))))), (38, .one (.dv [] (.int .i64 (((4) : Int))))), (39, .one (.dv [] (.int .i64 ((j : Int)))))], [], [(37, some (kcOf false (.sl 35 1 (4) ([.sl 1000005 1 (((((l)).getD ((k : Int)).toNat default).2.1).data.toList.length) (((((l)).getD ((k : Int)).toNat default).2.1).data.toList.flatMap eByte), bytesD (encK ((((l)).getD ((k : Int)).toNat default).2.2.1)), bytesD (encR ((((l)).getD ((k : Int)).toNat default).2.2.2.1)), .sl 1000005 1 (((((l)).getD ((k : Int)).toNat default).2.2.2.2).data.toList.length) (((((l)).getD ((k : Int)).toNat default).2.2.2.2).data.toList.flatMap eByte)])))), (900500, some (kcOf false (.sl 5 1 ((encON l k).length) ((encON l k).flatMap eByte)))), (900501, some (kcOf false (.sl 5 1 ((opPart (encON l k) (l.getD (k : Int).toNat default) j).length) ((opPart (encON l k) (l.getD (k : Int).toNat default) j).flatMap eByte))))]⟩ : St)
   iterate 3 refine z ?_
   refine ok_seq ?_
   refine yQ rfl (fun c3 => ?_) fun c3 => ?_
   ·skip
    have d3 := of_decide_eq_true c3
    have hj4 : j < 4 := by omega
    have hpn : (partsO (l.getD (k : Int).toNat default)).length = 4 := rfl
    have hpl := part_len hop j
    have hol := opPart_len (b := (encON l k)) hop j
    iterate 9 refine z ?_
    refine ok_region ?_
    iterate 2 refine z ?_
    refine o_callK 892472 rfl rfl rfl Try.call69 (ok_impl_AppendBytes (x := (opPart (encON l k) (l.getD (k : Int).toNat default) j)) (y := (partsO (l.getD (k : Int).toNat default)).getD (j : Int).toNat default) (by omega) (by omega)) (as_cons (ev_tmp rfl) (ag_one (ac_key' rfl rfl)) (as_cons (ev_tmp rfl) (ag_one ac_dv) as_nil)) rfl rfl rfl ?_
    refine z ?_
    refine ops_nil ?_
    iterate 2 refine z ?_
    refine ok_weak (weak_swap (s := 3) (k := 900502) (k' := 900501) rfl rfl rfl (by decide) rfl) ?_
    simp only [killT, killB, SV.kill, CV.kill, kk, Nat.reduceBEq]
    refine ok_region ?_
    iterate 3 refine z ?_
    refine ⟨j + 1, ?_, ?_, weak_sub ⟨rfl, rfl, rfl, rfl, rfl, rfl, rfl, rfl, trivial⟩ trivial ⟨rfl, rfl, rfl, trivial⟩ rfl⟩
    ·omega
    ·omega
   ·skip
    have d3 := of_decide_eq_false c3
    have hj4 : j = 4 := by omega
    iterate 6 refine z ?_
    refine ok_weak (weak_swap (s := 3) (k := 900501) (k' := 900500) rfl rfl rfl (by decide) rfl) ?_
    simp only [killT, killB, SV.kill, CV.kill, kk, Nat.reduceBEq]
    refine ok_region ?_
    iterate 3 refine z ?_
    refine ⟨k + 1, ?_, ?_, weak_sub ⟨rfl, rfl, rfl, rfl, rfl, trivial⟩ trivial ⟨(by rw [hj4]; rfl), trivial⟩ rfl⟩
    ·omega
    ·omega
  ·skip
   have d2 := of_decide_eq_false c2
   iterate 9 refine z ?_
   refine ok_weak (σ' := ⟨[(2, .one (.key 900500))], [], [(900500, some (kcOf false (bytesD (encO l))))]⟩) (weak_sub ⟨rfl, trivial⟩ trivial ⟨(by first | exact congrArg (fun l : List UInt8 => some (some (KC.mk false 5 1 l.length (l.flatMap eByte)))) (show ([] : List UInt8) = encO l from (encO_bad hk0).symm) | exact congrArg (fun l : List UInt8 => some (some (KC.mk false 5 1 l.length (l.flatMap eByte)))) (encO_ok hk1 (by omega)).symm), trivial⟩ rfl) ?_
   refine z ?_
   refine fin1 (res_tmp rfl) ?_
   exact ⟨rfl, rfl⟩
theorem ok_spec_EncodeOps {l : List OpT} (hb : l.length ≤ 1048576) : KFn Try.prog 22 [.one (.dv [] (opsD (l)))] (.one (.key 900500)) [(900500, some (kcOf false (bytesD (encO l))))] := by
 refine ⟨fn_intro Try.func22 rfl Try.ntmps22 Try.results22 rfl (fun C => ?_)⟩
 refine ok_fact (x := .tmp 0) (ev_tmp rfl) fun f0 => ?_
 iterate 4 refine z ?_
 refine o_build0 (k := 5) hT rfl rfl rfl rfl rfl rfl rfl rfl ?_
 iterate 2 refine z ?_
 refine o_callK 900494 rfl rfl rfl Try.call59 (ok_spec_AppendUvarint (x := []) (n := (l.length : Int)) (by simp)) (as_cons (ev_tmp rfl) (ag_one (ac_key' rfl rfl)) (as_cons (ev_tmp rfl) (ag_one ac_dv) as_nil)) rfl rfl rfl ?_
 iterate 7 refine z ?_
 refine ok_loop (ι := Nat) (fun zz => ⟨[(0, .one (.dv [] (opsD (l)))), (3, .one (.key 900500)), (4, .one (.dv [] (.int .i64 ((zz : Int)))))], [], [(900500, some (kcOf false (.sl 5 1 ((encON l zz).length) ((encON l zz).flatMap eByte))))]⟩) (fun zz => zz ≤ l.length ∧ (l.take zz).all isOpB = true) (fun zz => l.length - zz) (0) ?_ (weak_sub ⟨rfl, rfl, rfl, trivial⟩ trivial ⟨rfl, trivial⟩ rfl) (fun zz hx => ?_)
 ·exact ⟨Nat.zero_le _, rfl⟩
 obtain ⟨k, rfl⟩ : ∃ v, v = zz := ⟨_, rfl⟩
 replace hx : k ≤ l.length ∧ (l.take k).all isOpB = true := hx
 obtain ⟨hk, hall⟩ := hx
 show Ok _ _ _ _ _ (⟨[(0, .one (.dv [] (opsD (l)))), (3, .one (.key 900500)), (4, .one (.dv [] (.int .i64 ((k : Int)))))], [], [(900500, some (kcOf false (.sl 5 1 ((encON l k).length) ((encON l k).flatMap eByte))))]⟩ : St)
 iterate 7 refine z ?_
 refine yQ rfl (fun c1 => ?_) fun c1 => ?_
 ·skip
  have d1 := of_decide_eq_true c1
  iterate 10 refine z ?_
  refine zC Try.call60 ?_ (hf := ok_spec_IsOp (x := (((l)).getD ((k : Int)).toNat default)) )
  iterate 2 refine z ?_
  refine yQ rfl (fun c2 => ?_) fun c2 => ?_
  ·skip
   have hkl : k < l.length := by omega
   have hk0 : areB l = false := are_no hkl (by simpa using c2)
   refine ok_seq ?_
   refine ok_weak (σ' := ⟨[], [], []⟩) (weak_sub trivial trivial trivial rfl) ?_
   refine ok_region ?_
   refine o_build0 (k := 900500) hT rfl rfl rfl rfl rfl rfl rfl rfl ?_
   iterate 2 refine z ?_
   refine ok_weak (σ' := ⟨[(2, .one (.key 900500))], [], [(900500, some (kcOf false (bytesD (encO l))))]⟩) (weak_sub ⟨rfl, trivial⟩ trivial ⟨(by first | exact congrArg (fun l : List UInt8 => some (some (KC.mk false 5 1 l.length (l.flatMap eByte)))) (show ([] : List UInt8) = encO l from (encO_bad hk0).symm) | exact congrArg (fun l : List UInt8 => some (some (KC.mk false 5 1 l.length (l.flatMap eByte)))) (encO_ok hk1 (by omega)).symm), trivial⟩ rfl) ?_
   iterate 7 refine z ?_
   refine fin1 (res_tmp rfl) ?_
   exact ⟨rfl, rfl⟩
  ·skip
   have hkl : k < l.length := by omega
   have hop := (by simpa using c2 : isOpB (l.getD (k : Int).toNat default) = true)
   have hrg := op_rng hop
   have hek := encK_len (l.getD (k : Int).toNat default).2.2.1
   have her := encR_len (l.getD (k : Int).toNat default).2.2.2.1
   have hen := encON_len k hk hall
   have hl0 := opPart_len (b := (encON l k)) hop 0
   have hl1 := opPart_len (b := (encON l k)) hop 1
   have hl2 := opPart_len (b := (encON l k)) hop 2
   have hl3 := opPart_len (b := (encON l k)) hop 3
   iterate 2 refine z ?_
   refine ok_cutS (σ' := ⟨[(0, .one (.dv [] (opsD (l)))), (3, .one (.key 900502)), (4, .one (.dv [] (.int .i64 ((k : Int)))))], [], [(900500, some (kcOf false (.sl 5 1 ((encON l k).length) ((encON l k).flatMap eByte)))), (900502, some (kcOf false (bytesD (opPart (encON l k) (l.getD (k : Int).toNat default) 1))))]⟩) ?_ ?_
   ·skip
    refine ok_regionD (oB := []) (oK := [900500]) (by kernel_rfl) rfl rfl ?_
    refine zD 0 ?_
    refine zD 1 ?_
    refine zD 2 ?_
    refine zD 3 ?_
    refine zD 4 ?_
    refine zD 5 ?_
    refine zD 7 ?_
    refine zD 8 ?_
    refine zD 9 ?_
    refine zD 10 ?_
    refine zD 11 ?_
    refine d_split 6 [12] (by kernel_rfl) ⟨?_, ?_, trivial⟩
    ·skip
     refine j_callK 900495 6 rfl rfl rfl rfl Try.call59 (ok_spec_AppendUvarint (x := (encON l k)) (n := (l.getD (k : Int).toNat default).1) (by omega)) (as_cons (ev_tmp rfl) (ag_one (ac_key' rfl rfl)) (as_cons (ev_tmp rfl) (ag_one ac_dv) as_nil)) rfl rfl rfl rfl rfl ?_
     refine d_convSB (k := 34) 12 hT rfl (by kernel_rfl) rfl rfl rfl rfl rfl rfl rfl (ev_tmp rfl) rfl rfl rfl ?_
     refine d_callK 892496 13 rfl (by kernel_rfl) rfl rfl rfl Try.call61 (ok_spec_AppendBytes (x := opPart (encON l k) (l.getD (k : Int).toNat default) 0) (y := (l.getD (k : Int).toNat default).2.1.data.toList) (by omega) (by omega)) (as_cons (ev_tmp rfl) (ag_one (ac_key' rfl rfl)) (as_cons (ev_tmp rfl) (ag_one (ac_key' rfl rfl)) as_nil)) rfl rfl rfl rfl rfl ?_
     refine zD 14 ?_
     refine d_done (by kernel_rfl) ?_
     exact then_n (weak_sub ⟨rfl, rfl, rfl, trivial⟩ trivial ⟨rfl, rfl, trivial⟩ rfl)
    ·skip
     refine j_convSB (k := 34) 12 hT rfl rfl rfl rfl rfl rfl rfl rfl (ev_tmp rfl) rfl rfl rfl ?_
     refine d_callK 900495 6 rfl (by kernel_rfl) rfl rfl rfl Try.call59 (ok_spec_AppendUvarint (x := (encON l k)) (n := (l.getD (k : Int).toNat default).1) (by omega)) (as_cons (ev_tmp rfl) (ag_one (ac_key' rfl rfl)) (as_cons (ev_tmp rfl) (ag_one ac_dv) as_nil)) rfl rfl rfl rfl rfl ?_
     refine d_callK 892496 13 rfl (by kernel_rfl) rfl rfl rfl Try.call61 (ok_spec_AppendBytes (x := opPart (encON l k) (l.getD (k : Int).toNat default) 0) (y := (l.getD (k : Int).toNat default).2.1.data.toList) (by omega) (by omega)) (as_cons (ev_tmp rfl) (ag_one (ac_key' rfl rfl)) (as_cons (ev_tmp rfl) (ag_one (ac_key' rfl rfl)) as_nil)) rfl rfl rfl rfl rfl ?_
     refine zD 14 ?_
     refine d_done (by kernel_rfl) ?_
     exact then_n (weak_sub ⟨rfl, rfl, rfl, trivial⟩ trivial ⟨rfl, rfl, trivial⟩ rfl)
   refine ok_seq ?_
   refine ok_regionD (oB := []) (oK := [900500, 900502]) (by kernel_rfl) rfl rfl ?_
   refine zD 0 ?_
   refine zD 1 ?_
   refine zD 2 ?_
   refine zD 3 ?_
   refine zD 4 ?_
   refine zD 5 ?_
   refine zD 8 ?_
   refine zD 9 ?_
   refine zD 10 ?_
   refine zD 11 ?_
   refine zD 12 ?_
   refine d_callK 900491 6 rfl (by kernel_rfl) rfl rfl rfl Try.call62 (ok_spec_EncodeKey (k := (((l)).getD ((k : Int)).toNat default).2.2.1) ) (as_cons (ev_tmp rfl) (ag_agg (ag_cons ac_dv (ag_cons ac_dv (ag_cons ac_dv ag_nil)))) as_nil) rfl rfl rfl rfl rfl ?_
   refine d_callK 892498 7 rfl (by kernel_rfl) rfl rfl rfl Try.call61 (ok_spec_AppendBytes (x := opPart (encON l k) (l.getD (k : Int).toNat default) 1) (y := encK (l.getD (k : Int).toNat default).2.2.1) (by omega) (by omega)) (as_cons (ev_tmp rfl) (ag_one (ac_key' rfl rfl)) (as_cons (ev_tmp rfl) (ag_one (ac_key' rfl rfl)) as_nil)) rfl rfl rfl rfl rfl ?_
   refine d_callK 900005 13 rfl (by kernel_rfl) rfl rfl rfl Try.call63 (ok_spec_EncodeRecord (r := (((l)).getD ((k : Int)).toNat default).2.2.2.1) ) (as_cons (ev_tmp rfl) (ag_agg (ag_cons ac_dv ag_nil)) as_nil) rfl rfl rfl rfl rfl ?_
   refine d_callK 892500 14 rfl (by kernel_rfl) rfl rfl rfl Try.call61 (ok_spec_AppendBytes (x := opPart (encON l k) (l.getD (k : Int).toNat default) 2) (y := encR (l.getD (k : Int).toNat default).2.2.2.1) (by omega) (by omega)) (as_cons (ev_tmp rfl) (ag_one (ac_key' rfl rfl)) (as_cons (ev_tmp rfl) (ag_one (ac_key' rfl rfl)) as_nil)) rfl rfl rfl rfl rfl ?_
   refine zD 15 ?_
   refine d_done (by kernel_rfl) ?_
   refine z ?_
   refine ok_region ?_
   iterate 6 refine z ?_
   refine o_convSB (k := 57) hT rfl rfl rfl rfl rfl rfl rfl (ev_tmp rfl) rfl ?_
   refine o_callK 892501 rfl rfl rfl Try.call61 (ok_spec_AppendBytes (x := opPart (encON l k) (l.getD (k : Int).toNat default) 3) (y := (l.getD (k : Int).toNat default).2.2.2.2.data.toList) (by omega) (by omega)) (as_cons (ev_tmp rfl) (ag_one (ac_key' rfl rfl)) (as_cons (ev_tmp rfl) (ag_one (ac_key' rfl rfl)) as_nil)) rfl rfl rfl ?_
   refine z ?_
   refine ops_nil ?_
   iterate 2 refine z ?_
   refine ok_weak (weak_swap (s := 3) (k := 900507) (k' := 900500) rfl rfl rfl (by decide) rfl) ?_
   simp only [killT, killB, SV.kill, CV.kill, kk, Nat.reduceBEq]
   refine ok_region ?_
   iterate 4 refine z ?_
   refine ⟨k + 1, ?_, ?_, weak_sub ⟨rfl, rfl, rfl, trivial⟩ trivial ⟨rfl, trivial⟩ rfl⟩
   ·exact ⟨by omega, are_step hall hkl hop⟩
   ·omega
 ·skip
  have d1 := of_decide_eq_false c1
  iterate 11 refine z ?_
  refine yQ rfl (fun c3 => ?_) fun c3 => ?_
  ·skip
   have d3 := of_decide_eq_true c3
   have hk0 : areB l = false := by rw [are_yes hall (by omega)]; exact decide_eq_false (by omega)
   refine ok_seq ?_
   refine ok_weak (σ' := ⟨[], [], []⟩) (weak_sub trivial trivial trivial rfl) ?_
   refine ok_region ?_
   refine o_build0 (k := 900500) hT rfl rfl rfl rfl rfl rfl rfl rfl ?_
   iterate 2 refine z ?_
   refine ok_weak (σ' := ⟨[(2, .one (.key 900500))], [], [(900500, some (kcOf false (bytesD (encO l))))]⟩) (weak_sub ⟨rfl, trivial⟩ trivial ⟨(by first | exact congrArg (fun l : List UInt8 => some (some (KC.mk false 5 1 l.length (l.flatMap eByte)))) (show ([] : List UInt8) = encO l from (encO_bad hk0).symm) | exact congrArg (fun l : List UInt8 => some (some (KC.mk false 5 1 l.length (l.flatMap eByte)))) (encO_ok hk1 (by omega)).symm), trivial⟩ rfl) ?_
   iterate 2 refine z ?_
   refine fin1 (res_tmp rfl) ?_
   exact ⟨rfl, rfl⟩
  ·skip
   have d3 := of_decide_eq_false c3
   have hk1 : areB l = true := by rw [are_yes hall (by omega)]; exact decide_eq_true (by omega)
   iterate 6 refine z ?_
   refine ok_weak (σ' := ⟨[(2, .one (.key 900500))], [], [(900500, some (kcOf false (bytesD (encO l))))]⟩) (weak_sub ⟨rfl, trivial⟩ trivial ⟨(by first | exact congrArg (fun l : List UInt8 => some (some (KC.mk false 5 1 l.length (l.flatMap eByte)))) (show ([] : List UInt8) = encO l from (encO_bad hk0).symm) | exact congrArg (fun l : List UInt8 => some (some (KC.mk false 5 1 l.length (l.flatMap eByte)))) (encO_ok hk1 (by omega)).symm), trivial⟩ rfl) ?_
   refine z ?_
   refine fin1 (res_tmp rfl) ?_
   exact ⟨rfl, rfl⟩
end Go.Proofs.Ytlogahkchenpdaa

namespace Go.Proofs.Ytlogahkchenpdaa
open Go.RowKit
open Go.Proofs
set_option linter.unusedVariables false
set_option linter.unusedSimpArgs false

theorem uvL_pos (n : Nat) : 0 < (uvL n).length := by
 by_cases h : n < 128
 ·rw [uvL_lt h]; simp
 ·rw [uvL_ge h]; simp
theorem rf_small (f k acc n : Nat) (r : List UInt8) (h : n < 128) (hz : 0 < k → 0 < n) (hm : acc + n * 2 ^ (7 * k) ≤ 1000000000000) :
  rdF (f + 1) k acc (UInt8.ofNat n :: r) = some (acc + n * 2 ^ (7 * k), k + 1) := by
 have h1 : (UInt8.ofNat n).toNat = n := by simp; omega
 have h2 : n % 128 = n := Nat.mod_eq_of_lt h
 unfold rdF
 rw [h1, h2, if_pos h, if_neg (by omega)]
theorem rf_big (f k acc n : Nat) (r : List UInt8) : rdF (f + 1) k acc (UInt8.ofNat (n % 128 + 128) :: r) = rdF f (k + 1) (acc + (n % 128) * 2 ^ (7 * k)) r := by
 have h1 : (UInt8.ofNat (n % 128 + 128)).toNat = n % 128 + 128 := by simp; omega
 conv => lhs; unfold rdF
 rw [h1, if_neg (by omega), show (n % 128 + 128) % 128 = n % 128 by omega]
theorem splitP (n k : Nat) : n * 2 ^ (7 * k) = (n % 128) * 2 ^ (7 * k) + (n / 128) * 2 ^ (7 * (k + 1)) := by
 rw [show 7 * (k + 1) = 7 + 7 * k by omega, Nat.pow_add, ← Nat.mul_assoc, ← Nat.add_mul]
 congr 1
 omega
theorem rf_uv : ∀ (f k acc n : Nat) (r : List UInt8), (uvL n).length ≤ f → (0 < k → 0 < n) → acc + n * 2 ^ (7 * k) ≤ 1000000000000 →
  rdF f k acc (uvL n ++ r) = some (acc + n * 2 ^ (7 * k), k + (uvL n).length)
 | 0, k, acc, n, r, h, _, _ => by have := uvL_pos n; omega
 | f + 1, k, acc, n, r, h, hz, hm => by
  by_cases h1 : n < 128
  ·rw [uvL_lt h1, List.singleton_append, rf_small f k acc n r h1 hz hm]; rfl
  ·rw [uvL_ge h1] at h ⊢
   rw [List.cons_append, rf_big, rf_uv f (k + 1) _ (n / 128) r (by simpa using h) (by omega) (by rw [Nat.add_assoc, ← splitP]; exact hm), Nat.add_assoc, ← splitP]
   simp only [List.length_cons, Option.some.injEq, Prod.mk.injEq, true_and]
   omega
theorem uvL_six {n : Nat} (hn : n ≤ 1000000000000) : (uvL n).length ≤ 6 := uvL_len 5 n (by omega)
theorem rU_uv {b : List UInt8} {p n : Nat} {r : List UInt8} (h : b.drop p = uvL n ++ r) (hn : n ≤ 1000000000000) : rdU b (p : Int) = some (n, (uvL n).length) ∧ b.drop (p + (uvL n).length) = r ∧ p + (uvL n).length ≤ b.length := by
 have h0 := uvL_pos n
 have hl : (b.drop p).length = (uvL n).length + r.length := by rw [h, List.length_append]
 rw [List.length_drop] at hl
 refine ⟨?_, ?_, by omega⟩
 ·unfold rdU
  rw [if_pos (by omega), Int.toNat_natCast, h, rf_uv 6 0 0 n r (uvL_six hn) (by omega) (by simpa using hn)]
  simp
 ·rw [← List.drop_drop, h, List.drop_left]
theorem rf_canon : ∀ (f k acc : Nat) (l : List UInt8) (v m : Nat), rdF f k acc l = some (v, m) → ∃ n r, v = acc + n * 2 ^ (7 * k) ∧ l = uvL n ++ r ∧ m = k + (uvL n).length ∧ (0 < k → 0 < n)
 | 0, _, _, _, _, _, h => by simp [rdF] at h
 | _ + 1, _, _, [], _, _, h => by simp [rdF] at h
 | f + 1, k, acc, x :: r, v, m, h => by
  unfold rdF at h
  split at h
  ·rename_i hx
   split at h
   ·cases h
   ·rename_i h2
    simp only [Option.some.injEq, Prod.mk.injEq] at h
    have e1 : x.toNat % 128 = x.toNat := Nat.mod_eq_of_lt hx
    refine ⟨x.toNat, r, by rw [← h.1, e1], ?_, ?_, by omega⟩
    ·rw [uvL_lt hx]; simp
    ·rw [uvL_lt hx, ← h.2]; rfl
  ·rename_i hx
   obtain ⟨n, s, h1, h2, h3, h4⟩ := rf_canon f (k + 1) _ r v m h
   have hxl := x.toNat_lt
   have hn := h4 (by omega)
   have e1 : (x.toNat % 128 + n * 128) % 128 = x.toNat % 128 := by omega
   have e2 : (x.toNat % 128 + n * 128) / 128 = n := by omega
   have e3 : ¬ x.toNat % 128 + n * 128 < 128 := by omega
   refine ⟨x.toNat % 128 + n * 128, s, ?_, ?_, ?_, by omega⟩
   ·rw [h1, splitP (x.toNat % 128 + n * 128) k, e1, e2, Nat.add_assoc]
   ·rw [uvL_ge e3, e1, e2, List.cons_append, ← h2]
    congr 1
    have : x.toNat % 128 + 128 = x.toNat := by omega
    rw [this]; simp
   ·rw [uvL_ge e3, e2, h3, List.length_cons]; omega
theorem rU_canon {b : List UInt8} {off : Int} {v k : Nat} (h : rdU b off = some (v, k)) : ∃ p : Nat, off = (p : Int) ∧ b.drop p = uvL v ++ b.drop (p + k) ∧ p + k ≤ b.length ∧ v ≤ 1000000000000 ∧ k = (uvL v).length := by
 obtain ⟨o, p, h1, h2, h3, h4, h5⟩ := rdU_some h
 unfold rdU at h
 split at h
 ·obtain ⟨n, r, g1, g2, g3, _⟩ := rf_canon _ _ _ _ _ _ h
  have e : v = n := by simpa using g1
  subst e
  have e2 : k = (uvL v).length := by omega
  rw [h1, Int.toNat_natCast] at g2
  refine ⟨o, h1, ?_, by omega, h5, e2⟩
  rw [← List.drop_drop, g2, e2, List.drop_left]
 ·cases h
theorem rB_uv {b : List UInt8} {p : Nat} {d r : List UInt8} {m : Int} (h : b.drop p = uvL d.length ++ d ++ r) (hd : d.length ≤ 1000000000000) (hm : (d.length : Int) ≤ m) : rdB b (p : Int) m = some (d, p + (uvL d.length).length + d.length) ∧ b.drop (p + (uvL d.length).length + d.length) = r ∧ p + (uvL d.length).length + d.length ≤ b.length := by
 rw [List.append_assoc] at h
 obtain ⟨h1, h2, h3⟩ := rU_uv h hd
 have hl : (b.drop (p + (uvL d.length).length)).length = d.length + r.length := by rw [h2, List.length_append]
 rw [List.length_drop] at hl
 refine ⟨?_, ?_, by omega⟩
 ·unfold rdB
  rw [h1]
  simp only [Int.toNat_natCast]
  rw [if_pos ⟨hm, by omega⟩, h2, List.take_left]
 ·rw [← List.drop_drop, h2, List.drop_left]
theorem rB_canon {b : List UInt8} {off m : Int} {d : List UInt8} {q : Nat} (h : rdB b off m = some (d, q)) : ∃ p : Nat, off = (p : Int) ∧ b.drop p = uvL d.length ++ (d ++ b.drop q) ∧ q ≤ b.length ∧ (d.length : Int) ≤ m ∧ d.length ≤ 1000000000000 ∧ p < q := by
 unfold rdB at h
 split at h
 ·cases h
 ·rename_i v k hu
  obtain ⟨p, h1, h2, h3, h4, h5⟩ := rU_canon hu
  split at h
  ·rename_i hc
   subst h1
   simp only [Option.some.injEq, Prod.mk.injEq, Int.toNat_natCast] at h hc
   obtain ⟨rfl, rfl⟩ := h
   have hl : ((b.drop (p + k)).take v).length = v := by rw [List.length_take, List.length_drop]; omega
   refine ⟨p, rfl, ?_, by omega, by omega, by omega, by have := uvL_pos v; omega⟩
   rw [hl, h2, ← List.drop_drop (i := v), List.take_append_drop]
  ·cases h
theorem strOf_data (s : Str) : strOf s.data.toList = s := by simp [strOf]
theorem eqL_bytes (x y : List UInt8) : eqL eqByteB x y = decide (x = y) := by
 by_cases h : x = y
 ·subst h
  rw [decide_eq_true rfl]
  refine eqL_yes (k := x.length) rfl ?_ rfl
  rw [List.all_eq_true]
  intro i _
  simp [eqByteB]
 ·rw [decide_eq_false h]
  cases he : eqL eqByteB x y with
  | false => rfl
  | true =>
   exfalso
   apply h
   simp only [eqL, Bool.and_eq_true, decide_eq_true_eq, List.all_eq_true] at he
   have hl : x.length = y.length := by omega
   apply List.ext_getElem hl
   intro i h1 h2
   have := he.2 i (List.mem_range.2 h1)
   rw [getD_at h1, getD_at h2] at this
   simp only [eqByteB, decide_eq_true_eq] at this
   exact UInt8.toNat_inj.1 (by omega)

end Go.Proofs.Ytlogahkchenpdaa

namespace Go.Proofs.Ytlogahkchenpdaa
open Go.RowKit
open Go.Proofs
set_option linter.unusedVariables false
set_option linter.unusedSimpArgs false

def num6 (l : List UInt8) : Nat := l.foldl (fun n x => n * 256 + x.toNat) 0
theorem num6_snoc (l : List UInt8) (x : UInt8) : num6 (l ++ [x]) = num6 l * 256 + x.toNat := by simp [num6]
theorem take_snocB {l : List UInt8} {k : Nat} (h : k < l.length) : l.take (k + 1) = l.take k ++ [l.getD (k : Int).toNat default] := by
 rw [List.take_add_one, List.getElem?_eq_getElem h, getD_at h]; rfl
theorem num6_step {l : List UInt8} {k : Nat} (h : k < l.length) : num6 (l.take (k + 1)) = num6 (l.take k) * 256 + (l.getD (k : Int).toNat default).toNat := by rw [take_snocB h, num6_snoc]
theorem num6_lt (l : List UInt8) : num6 l < 256 ^ l.length := by
 have key : ∀ (n : Nat) (l : List UInt8), l.length = n → num6 l < 256 ^ n := by
  intro n
  induction n with
  | zero => intro l h; have : l = [] := List.eq_nil_of_length_eq_zero h; subst this; simp [num6]
  | succ n ih =>
   intro l h
   have h1 := ih (l.take n) (by rw [List.length_take]; omega)
   have e : l = l.take n ++ [l.getD (n : Int).toNat default] := by rw [← take_snocB (by omega), List.take_of_length_le (by omega)]
   rw [e, num6_snoc, Nat.pow_succ]
   have := (l.getD (n : Int).toNat default).toNat_lt
   omega
 exact key _ l rfl
theorem be6_num6 {l : List UInt8} (h : l.length = 6) : be6 (num6 l) = l := by
 match l, h with
 | [a, b, c, d, e, f], _ =>
  have ha := a.toNat_lt; have hb := b.toNat_lt; have hc := c.toNat_lt; have hd := d.toNat_lt; have he := e.toNat_lt; have hf := f.toNat_lt
  have e1 : num6 [a, b, c, d, e, f] = ((((a.toNat * 256 + b.toNat) * 256 + c.toNat) * 256 + d.toNat) * 256 + e.toNat) * 256 + f.toNat := by simp [num6]
  rw [e1]
  have r : List.range 6 = [0, 1, 2, 3, 4, 5] := rfl
  unfold be6
  rw [r]
  simp only [List.map_cons, List.map_nil, List.cons.injEq, and_true]
  refine ⟨?_, ?_, ?_, ?_, ?_, ?_⟩ <;> apply UInt8.toNat_inj.1 <;> simp <;> omega
def kOf (b : List UInt8) : KeyT := if ((b.getD 0 default).toNat : Int) = 2 then (2, 0, strOf (b.drop 1)) else (((b.getD 0 default).toNat : Int), (num6 ((b.drop 1).take 6) : Int) - 1000000000000, strOf ((b.drop 1).drop 6))
def decK (b : List UInt8) : KeyT × Bool :=
 if b.length = 0 then ((0, 0, ByteArray.empty), false)
 else if ¬ ((b.getD 0 default).toNat : Int) = 2 ∧ b.length < 7 then ((0, 0, ByteArray.empty), false)
 else if isKey (kOf b) = true then (kOf b, true) else ((0, 0, ByteArray.empty), false)
theorem hd_tl {b : List UInt8} (h : b.length ≠ 0) : b.getD 0 default :: b.drop 1 = b := by
 match b, h with
 | x :: xs, _ => rfl
theorem of_byte (x : UInt8) : UInt8.ofNat ((x.toNat : Int)).toNat = x := by rw [Int.toNat_natCast]; simp
theorem encK_kOf {b : List UInt8} (h : b.length ≠ 0) (h7 : ((b.getD 0 default).toNat : Int) = 2 ∨ 7 ≤ b.length) : (encK (kOf b) = b) ↔ isKey (kOf b) = true := by
 constructor
 ·intro e
  cases hk : isKey (kOf b) with
  | true => rfl
  | false => rw [encK_bad hk] at e; rw [← e] at h; simp at h
 ·intro hk
  by_cases h2 : ((b.getD 0 default).toNat : Int) = 2
  ·have e : kOf b = (((b.getD 0 default).toNat : Int), 0, strOf (b.drop 1)) := by rw [kOf, if_pos h2, h2]
   rw [e] at hk ⊢
   rw [encK_txt hk h2]
   simp only [of_byte, strOf_list]
   exact hd_tl h
  ·have e : kOf b = (((b.getD 0 default).toNat : Int), (num6 ((b.drop 1).take 6) : Int) - 1000000000000, strOf ((b.drop 1).drop 6)) := by rw [kOf, if_neg h2]
   have h7' : 7 ≤ b.length := h7.resolve_left h2
   have hl : ((b.drop 1).take 6).length = 6 := by rw [List.length_take, List.length_drop]; omega
   rw [e] at hk ⊢
   rw [encK_num (j := 6) hk h2 (Nat.le_refl _)]
   have e2 : keyN (((b.getD 0 default).toNat : Int), (num6 ((b.drop 1).take 6) : Int) - 1000000000000, strOf ((b.drop 1).drop 6)) = num6 ((b.drop 1).take 6) := by
    show ((num6 ((b.drop 1).take 6) : Int) - 1000000000000 + 1000000000000).toNat = _
    omega
   rw [e2, be6_num6 hl, List.take_of_length_le (l := (b.drop 1).take 6) (i := 6) (by rw [hl]; exact Nat.le_refl _)]
   simp only [of_byte, strOf_list]
   rw [List.cons_append, List.take_append_drop]
   exact hd_tl h
theorem kOf_txt {b : List UInt8} (h : ((b.getD 0 default).toNat : Int) = 2) : (((b.getD (0 : Int).toNat default).toNat : Int), (0 : Int), strOf (b.drop 1)) = kOf b := by
 rw [kOf, if_pos h]
 show ((((b.getD 0 default).toNat : Int)), _, _) = _
 rw [h]
theorem kOf_num {b r : List UInt8} {acc : Nat} (h : ¬ ((b.getD 0 default).toNat : Int) = 2) (hf : acc = num6 ((b.drop (1 : Int).toNat).take (6 : Int).toNat)) (hr : r = (b.drop 1).drop 6) : (((b.getD (0 : Int).toNat default).toNat : Int), (acc : Int) - 1000000000000, strOf r) = kOf b := by
 subst hf; subst hr
 rw [kOf, if_neg h]; rfl
theorem decK_nil {b : List UInt8} (h : b.length = 0) : decK b = ((0, 0, ByteArray.empty), false) := by rw [decK, if_pos h]
theorem decK_short {b : List UInt8} (h : ¬ ((b.getD 0 default).toNat : Int) = 2) (h7 : b.length < 7) : decK b = ((0, 0, ByteArray.empty), false) := by
 unfold decK
 split
 ·rfl
 ·rw [if_pos ⟨h, h7⟩]
theorem decK_ok {b : List UInt8} {k : KeyT} (h : b.length ≠ 0) (h7 : ((b.getD 0 default).toNat : Int) = 2 ∨ 7 ≤ b.length) (hk : k = kOf b) (hi : isKey k = true) : decK b = (k, true) := by
 subst hk
 rw [decK, if_neg h, if_neg (by omega), if_pos hi]
theorem decK_bad {b : List UInt8} {k : KeyT} (h : b.length ≠ 0) (h7 : ((b.getD 0 default).toNat : Int) = 2 ∨ 7 ≤ b.length) (hk : k = kOf b) (hi : isKey k = false) : decK b = ((0, 0, ByteArray.empty), false) := by
 subst hk
 rw [decK, if_neg h, if_neg (by omega), if_neg (by rw [hi]; simp)]
theorem eq_isKey {b : List UInt8} {k : KeyT} {c : Bool} (h : b.length ≠ 0) (h7 : ((b.getD 0 default).toNat : Int) = 2 ∨ 7 ≤ b.length) (hk : k = kOf b) (hc : (!eqL eqByteB (encK k) b) = c) : isKey k = !c := by
 subst hk
 rw [eqL_bytes] at hc
 have := encK_kOf h h7
 cases hi : isKey (kOf b) with
 | true => rw [hi] at this; rw [← hc, decide_eq_true (this.2 rfl)]; rfl
 | false => rw [hi] at this; rw [← hc, decide_eq_false (fun e => absurd (this.1 e) (by simp))]; rfl
theorem wrapB (x : UInt8) : IntKind.i64.wrap ((x.toNat : Nat) : Int) = ((x.toNat : Nat) : Int) := by
 have := x.toNat_lt
 rw [IntKind.wrap_i64]; omega
theorem xs_get {b : List UInt8} {k : Nat} (hk : k < 6) (h7 : 7 ≤ b.length) : b.getD ((k : Int) + 1).toNat default = ((b.drop (1 : Int).toNat).take (6 : Int).toNat).getD (k : Int).toNat default := by
 rw [show ((k : Int) + 1).toNat = k + 1 by omega, Int.toNat_natCast, show (1 : Int).toNat = 1 from rfl, show (6 : Int).toNat = 6 from rfl]
 simp only [List.getD, List.getElem?_take, List.getElem?_drop]
 rw [if_pos hk, Nat.add_comm 1 k]
theorem or_add8 {a x : Nat} (hx : x < 256) (ha : a < 1099511627776) : bits .or .i64 ((a : Int) * 256) (x : Int) = ((a * 256 + x : Nat) : Int) := by
 have h3 := Nat.two_pow_add_eq_or_of_lt (i := 8) (by omega : x < 2 ^ 8) a
 rw [show (a : Int) * 256 = ((a * 256 : Nat) : Int) by omega, or_nat (a * 256) x (by omega) (by omega), Nat.mul_comm a 256, show (256 : Nat) = 2 ^ 8 from rfl, ← h3]
theorem num_le {l : List UInt8} {k : Nat} (h : k < 6) : num6 (l.take k) < 1099511627776 := by
 have h1 := num6_lt (l.take k)
 have h2 : 256 ^ (l.take k).length ≤ 256 ^ 5 := Nat.pow_le_pow_right (by omega) (by rw [List.length_take]; omega)
 omega
theorem shl8 {a : Nat} (h : a < 1099511627776) : IntKind.i64.wrap ((a : Int) * ((2 ^ (8 : Int).toNat : Nat) : Int)) = (a : Int) * 256 := by
 rw [show ((2 ^ (8 : Int).toNat : Nat) : Int) = 256 from rfl, IntKind.wrap_i64]; omega

theorem ok_impl_DecodeKey {b : List UInt8} (hb : b.length ≤ 16777216) : PFn Try.prog 78 [.one (.dv [] (bytesD (b)))] (.tup [(true, [(.dv [] (.int .i64 ((decK b).1.1))), (.dv [] (.int .i64 ((decK b).1.2.1))), (.dv [] (.str ((decK b).1.2.2)))]), (false, [(.dv [] (.bool ((decK b).2)))])]) := by
 refine ⟨fn_intro Try.func78 rfl Try.ntmps78 Try.results78 rfl (fun C => ?_)⟩
 refine ok_fact (x := .tmp 0) (ev_tmp rfl) fun f0 => ?_
 iterate 10 refine z ?_
 refine yQ rfl (fun c1 => ?_) fun c1 => ?_
 ·skip
  have d1 := of_decide_eq_true c1
  refine z ?_
  refine yO rfl rfl (pu_build hT hB rfl rfl rfl bp_nil) rfl ?_
  iterate 5 refine z ?_
  refine fin2 (res_cell hT rfl rfl rfl rfl) (res_tmp rfl) rfl rfl ?_
  rw [decK_nil (by omega)]
  rfl
 ·skip
  have d1 := of_decide_eq_false c1
  have hne : b.length ≠ 0 := by omega
  have hdl : (b.drop (1 : Int).toNat).length = b.length - 1 := List.length_drop ..
  iterate 6 refine z ?_
  refine yO rfl rfl (pu_eqI (pu_convI hT rfl rfl rfl (ev_tmp rfl)) (wrapB _)) rfl ?_
  refine yO rfl rfl (pu_build hT hB rfl rfl rfl (bp_cons (ev_tmp rfl) rfl rfl rfl rfl rfl bp_nil)) rfl ?_
  iterate 5 refine z ?_
  refine yO rfl rfl (pu_sliceL hT rfl rfl rfl (ev_tmp rfl) (ev_int (inR_lit rfl)) (fun _ => rfl) (by omega) (by omega)) rfl ?_
  iterate 8 refine z ?_
  refine yQ rfl (fun c2 => ?_) fun c2 => ?_
  ·skip
   have d2 := nd_t c2
   iterate 6 refine z ?_
   refine yQ rfl (fun c3 => ?_) fun c3 => ?_
   ·skip
    have d3 := of_decide_eq_true c3
    refine z ?_
    refine yO rfl rfl (pu_build hT hB rfl rfl rfl bp_nil) rfl ?_
    iterate 6 refine z ?_
    refine fin2 (res_cell hT rfl rfl rfl rfl) (res_tmp rfl) rfl rfl ?_
    rw [decK_short (show ¬ ((b.getD 0 default).toNat : Int) = 2 from d2) (by omega)]
    rfl
   ·skip
    have d3 := of_decide_eq_false c3
    have hxl : ((b.drop (1 : Int).toNat).take (6 : Int).toNat).length = 6 := by rw [List.length_take]; show min 6 (b.drop 1).length = 6; rw [List.length_drop]; omega
    iterate 8 refine z ?_
    refine yO rfl rfl (pu_sliceH hT rfl rfl rfl (ev_tmp rfl) (ev_int (inR_lit rfl)) (fun _ => rfl) (by omega) (by omega)) rfl ?_
    iterate 4 refine z ?_
    refine ok_loop (ι := Nat × Nat) (fun zz => ⟨[(0, .one (.dv [] (bytesD (b)))), (2, .box 2 0), (3, .one (.dv [] (.bool (false)))), (4, .box 4 0), (5, .one (.dv [] (bytesD (((b)).drop ((1 : Int)).toNat)))), (6, .one (.dv [] (.int .i64 ((zz.2 : Int))))), (28, .one (.dv [] (bytesD (((((b)).drop ((1 : Int)).toNat)).take ((6 : Int)).toNat)))), (29, .one (.dv [] (.int .i64 ((((((((b)).drop ((1 : Int)).toNat)).take ((6 : Int)).toNat)).length : Int))))), (30, .one (.dv [] (.int .i64 ((zz.1 : Int)))))], [(2, 97, [(.dv [] (.int .i64 (0))), (.dv [] (.int .i64 (0))), (.dv [] (.str (ByteArray.empty)))]), (4, 97, [(.dv [] (.int .i64 (((b.getD (0 : Int).toNat default).toNat : Int)))), (.dv [] (.int .i64 (0))), (.dv [] (.str (ByteArray.empty)))])], []⟩) (fun zz => zz.1 ≤ 6 ∧ zz.2 = num6 (((b.drop (1 : Int).toNat).take (6 : Int).toNat).take zz.1)) (fun zz => 6 - zz.1) ((0, 0)) ?_ (weak_sub ⟨rfl, rfl, rfl, rfl, rfl, rfl, rfl, rfl, rfl, trivial⟩ ⟨rfl, rfl, trivial⟩ trivial rfl) (fun zz hx => ?_)
    ·exact ⟨Nat.zero_le _, rfl⟩
    obtain ⟨k, acc⟩ := zz
    replace hx : k ≤ 6 ∧ acc = num6 (((b.drop (1 : Int).toNat).take (6 : Int).toNat).take k) := hx
    obtain ⟨hk, ha⟩ := hx
    show Ok _ _ _ _ _ (⟨[(0, .one (.dv [] (bytesD (b)))), (2, .box 2 0), (3, .one (.dv [] (.bool (false)))), (4, .box 4 0), (5, .one (.dv [] (bytesD (((b)).drop ((1 : Int)).toNat)))), (6, .one (.dv [] (.int .i64 ((acc : Int))))), (28, .one (.dv [] (bytesD (((((b)).drop ((1 : Int)).toNat)).take ((6 : Int)).toNat)))), (29, .one (.dv [] (.int .i64 ((((((((b)).drop ((1 : Int)).toNat)).take ((6 : Int)).toNat)).length : Int))))), (30, .one (.dv [] (.int .i64 ((k : Int)))))], [(2, 97, [(.dv [] (.int .i64 (0))), (.dv [] (.int .i64 (0))), (.dv [] (.str (ByteArray.empty)))]), (4, 97, [(.dv [] (.int .i64 (((b.getD (0 : Int).toNat default).toNat : Int)))), (.dv [] (.int .i64 (0))), (.dv [] (.str (ByteArray.empty)))])], []⟩ : St)
    iterate 3 refine z ?_
    refine ok_seq ?_
    refine yQ rfl (fun c4 => ?_) fun c4 => ?_
    ·skip
     have d4 := of_decide_eq_true c4
     have hk6 : k < 6 := by omega
     have hac : acc < 1099511627776 := by rw [ha]; exact num_le hk6
     have hst := num6_step (l := ((b.drop (1 : Int).toNat).take (6 : Int).toNat)) (k := k) (by omega)
     rw [← ha] at hst
     have hxb := (((b.drop (1 : Int).toNat).take (6 : Int).toNat).getD (k : Int).toNat default).toNat_lt
     iterate 9 refine z ?_
     refine ok_region ?_
     refine z ?_
     refine yO rfl rfl (pu_eqI (pu_shlW rfl (ev_tmp rfl) (ev_int (inR_lit rfl)) (by omega) (by show _ ≤ 64; omega)) (shl8 hac)) rfl ?_
     refine z ?_
     refine yO rfl rfl (pu_eqI (pu_convI hT rfl rfl rfl (ev_tmp rfl)) (wrapB _)) rfl ?_
     iterate 2 refine z ?_
     refine ops_nil ?_
     iterate 2 refine z ?_
     refine ok_region ?_
     iterate 3 refine z ?_
     refine ⟨(k + 1, num6 (((b.drop (1 : Int).toNat).take (6 : Int).toNat).take (k + 1))), ?_, ?_, weak_sub ⟨rfl, rfl, rfl, rfl, rfl, (eqSlotI (by omega)), rfl, rfl, rfl, trivial⟩ ⟨rfl, rfl, trivial⟩ trivial rfl⟩
     ·exact ⟨by dsimp only; omega, rfl⟩
     ·dsimp only; omega
    ·skip
     have d4 := of_decide_eq_false c4
     have hke : k = 6 := by omega
     have hfin : acc = num6 ((b.drop (1 : Int).toNat).take (6 : Int).toNat) := by rw [ha, List.take_of_length_le (by omega)]
     have hfb := num6_lt ((b.drop (1 : Int).toNat).take (6 : Int).toNat)
     rw [hxl, ← hfin] at hfb
     iterate 11 refine z ?_
     refine ok_region ?_
     refine z ?_
     refine yO rfl rfl (pu_sliceL hT rfl rfl rfl (ev_tmp rfl) (ev_int (inR_lit rfl)) (fun _ => rfl) (by omega) (by omega)) rfl ?_
     iterate 4 refine z ?_
     refine yO rfl rfl (pu_convBS hT rfl rfl rfl rfl (ev_tmp rfl)) rfl ?_
     iterate 6 refine z ?_
     refine zK 49000 Try.call67 ?_ (hf := ok_impl_EncodeKey (k := (((b.getD (0 : Int).toNat default).toNat : Int), (acc : Int) - 1000000000000, strOf ((b.drop 1).drop 6))))
     refine z ?_
     refine o_call rfl rfl rfl Try.call80 (ok_impl_EqualBytes (y := b) ) (as_cons (ev_tmp rfl) (ag_one (ac_key' rfl rfl)) (as_cons (ev_tmp rfl) (ag_one ac_dv) as_nil)) rfl rfl ?_
     iterate 2 refine z ?_
     refine yQ rfl (fun c5 => ?_) fun c5 => ?_
     ·skip
      refine z ?_
      refine yO rfl rfl (pu_build hT hB rfl rfl rfl bp_nil) rfl ?_
      iterate 5 refine z ?_
      refine fin2 (res_cell hT rfl rfl rfl rfl) (res_tmp rfl) rfl rfl ?_
      rw [decK_bad (k := (((b.getD (0 : Int).toNat default).toNat : Int), (acc : Int) - 1000000000000, strOf ((b.drop 1).drop 6))) hne (.inr (by omega)) (kOf_num d2 hfin (by first | rfl | (rw [List.drop_drop]; rfl) | (rw [List.drop_drop]))) (eq_isKey hne (.inr (by omega)) (kOf_num d2 hfin (by first | rfl | (rw [List.drop_drop]; rfl) | (rw [List.drop_drop]))) c5)]
      rfl
     ·skip
      iterate 8 refine z ?_
      refine fin2 (res_cell hT rfl rfl rfl rfl) (res_tmp rfl) rfl rfl ?_
      rw [decK_ok (k := (((b.getD (0 : Int).toNat default).toNat : Int), (acc : Int) - 1000000000000, strOf ((b.drop 1).drop 6))) hne (.inr (by omega)) (kOf_num d2 hfin (by first | rfl | (rw [List.drop_drop]; rfl) | (rw [List.drop_drop]))) (eq_isKey hne (.inr (by omega)) (kOf_num d2 hfin (by first | rfl | (rw [List.drop_drop]; rfl) | (rw [List.drop_drop]))) c5)]
      rfl
  ·skip
   have d2 := nd_f c2
   iterate 4 refine z ?_
   refine yO rfl rfl (pu_convBS hT rfl rfl rfl rfl (ev_tmp rfl)) rfl ?_
   iterate 6 refine z ?_
   refine zK 50000 Try.call67 ?_ (hf := ok_impl_EncodeKey (k := (((b.getD (0 : Int).toNat default).toNat : Int), (0 : Int), strOf (b.drop 1))))
   refine z ?_
   refine o_call rfl rfl rfl Try.call80 (ok_impl_EqualBytes (y := b) ) (as_cons (ev_tmp rfl) (ag_one (ac_key' rfl rfl)) (as_cons (ev_tmp rfl) (ag_one ac_dv) as_nil)) rfl rfl ?_
   iterate 2 refine z ?_
   refine yQ rfl (fun c6 => ?_) fun c6 => ?_
   ·skip
    refine z ?_
    refine yO rfl rfl (pu_build hT hB rfl rfl rfl bp_nil) rfl ?_
    iterate 5 refine z ?_
    refine fin2 (res_cell hT rfl rfl rfl rfl) (res_tmp rfl) rfl rfl ?_
    have d2' : ((b.getD 0 default).toNat : Int) = 2 := by
     have h8 := c2
     rw [Bool.not_eq_false'] at h8
     exact of_decide_eq_true h8
    rw [decK_bad (k := (((b.getD (0 : Int).toNat default).toNat : Int), (0 : Int), strOf (b.drop 1))) hne (.inl d2') (kOf_txt d2') (eq_isKey hne (.inl d2') (kOf_txt d2') c6)]
    rfl
   ·skip
    iterate 8 refine z ?_
    refine fin2 (res_cell hT rfl rfl rfl rfl) (res_tmp rfl) rfl rfl ?_
    have d2' : ((b.getD 0 default).toNat : Int) = 2 := by
     have h8 := c2
     rw [Bool.not_eq_false'] at h8
     exact of_decide_eq_true h8
    rw [decK_ok (k := (((b.getD (0 : Int).toNat default).toNat : Int), (0 : Int), strOf (b.drop 1))) hne (.inl d2') (kOf_txt d2') (eq_isKey hne (.inl d2') (kOf_txt d2') c6)]
    rfl
theorem ok_spec_DecodeKey {b : List UInt8} (hb : b.length ≤ 16777216) : PFn Try.prog 131 [.one (.dv [] (bytesD (b)))] (.tup [(true, [(.dv [] (.int .i64 ((decK b).1.1))), (.dv [] (.int .i64 ((decK b).1.2.1))), (.dv [] (.str ((decK b).1.2.2)))]), (false, [(.dv [] (.bool ((decK b).2)))])]) := by
 refine ⟨fn_intro Try.func131 rfl Try.ntmps131 Try.results131 rfl (fun C => ?_)⟩
 refine ok_fact (x := .tmp 0) (ev_tmp rfl) fun f0 => ?_
 iterate 10 refine z ?_
 refine yQ rfl (fun c1 => ?_) fun c1 => ?_
 ·skip
  have d1 := of_decide_eq_true c1
  refine z ?_
  refine yO rfl rfl (pu_build hT hB rfl rfl rfl bp_nil) rfl ?_
  iterate 5 refine z ?_
  refine fin2 (res_cell hT rfl rfl rfl rfl) (res_tmp rfl) rfl rfl ?_
  rw [decK_nil (by omega)]
  rfl
 ·skip
  have d1 := of_decide_eq_false c1
  have hne : b.length ≠ 0 := by omega
  iterate 6 refine z ?_
  refine yO rfl rfl (pu_eqI (pu_convI hT rfl rfl rfl (ev_tmp rfl)) (wrapB _)) rfl ?_
  refine yO rfl rfl (pu_build hT hB rfl rfl rfl (bp_cons (ev_tmp rfl) rfl rfl rfl rfl rfl bp_nil)) rfl ?_
  iterate 12 refine z ?_
  refine yQ rfl (fun c2 => ?_) fun c2 => ?_
  ·skip
   have d2 := nd_t c2
   iterate 6 refine z ?_
   refine yQ rfl (fun c3 => ?_) fun c3 => ?_
   ·skip
    have d3 := of_decide_eq_true c3
    refine z ?_
    refine yO rfl rfl (pu_build hT hB rfl rfl rfl bp_nil) rfl ?_
    iterate 6 refine z ?_
    refine fin2 (res_cell hT rfl rfl rfl rfl) (res_tmp rfl) rfl rfl ?_
    rw [decK_short (show ¬ ((b.getD 0 default).toNat : Int) = 2 from d2) (by omega)]
    rfl
   ·skip
    have d3 := of_decide_eq_false c3
    have hxl : ((b.drop (1 : Int).toNat).take (6 : Int).toNat).length = 6 := by rw [List.length_take]; show min 6 (b.drop 1).length = 6; rw [List.length_drop]; omega
    iterate 10 refine z ?_
    refine ok_loop (ι := Nat × Nat) (fun zz => ⟨[(0, .one (.dv [] (bytesD (b)))), (2, .box 2 0), (3, .one (.dv [] (.bool (false)))), (4, .box 4 0), (5, .one (.dv [] (.int .i64 (1)))), (6, .one (.dv [] (.int .i64 ((zz.2 : Int))))), (7, .one (.dv [] (.int .i64 (((zz.1 : Int) + 1)))))], [(2, 97, [(.dv [] (.int .i64 (0))), (.dv [] (.int .i64 (0))), (.dv [] (.str (ByteArray.empty)))]), (4, 97, [(.dv [] (.int .i64 (((b.getD (0 : Int).toNat default).toNat : Int)))), (.dv [] (.int .i64 (0))), (.dv [] (.str (ByteArray.empty)))])], []⟩) (fun zz => zz.1 ≤ 6 ∧ zz.2 = num6 (((b.drop (1 : Int).toNat).take (6 : Int).toNat).take zz.1)) (fun zz => 6 - zz.1) ((0, 0)) ?_ (weak_sub ⟨rfl, rfl, rfl, rfl, rfl, rfl, (eqSlotI (by rfl)), trivial⟩ ⟨rfl, rfl, trivial⟩ trivial rfl) (fun zz hx => ?_)
    ·exact ⟨Nat.zero_le _, rfl⟩
    obtain ⟨k, acc⟩ := zz
    replace hx : k ≤ 6 ∧ acc = num6 (((b.drop (1 : Int).toNat).take (6 : Int).toNat).take k) := hx
    obtain ⟨hk, ha⟩ := hx
    show Ok _ _ _ _ _ (⟨[(0, .one (.dv [] (bytesD (b)))), (2, .box 2 0), (3, .one (.dv [] (.bool (false)))), (4, .box 4 0), (5, .one (.dv [] (.int .i64 (1)))), (6, .one (.dv [] (.int .i64 ((acc : Int))))), (7, .one (.dv [] (.int .i64 (((k : Int) + 1)))))], [(2, 97, [(.dv [] (.int .i64 (0))), (.dv [] (.int .i64 (0))), (.dv [] (.str (ByteArray.empty)))]), (4, 97, [(.dv [] (.int .i64 (((b.getD (0 : Int).toNat default).toNat : Int)))), (.dv [] (.int .i64 (0))), (.dv [] (.str (ByteArray.empty)))])], []⟩ : St)
    iterate 5 refine z ?_
    refine yQ rfl (fun c4 => ?_) fun c4 => ?_
    ·skip
     have d4 := of_decide_eq_true c4
     have hk6 : k < 6 := by omega
     have hac : acc < 1099511627776 := by rw [ha]; exact num_le hk6
     have hst := num6_step (l := ((b.drop (1 : Int).toNat).take (6 : Int).toNat)) (k := k) (by omega)
     rw [← ha] at hst
     have hxb := (((b.drop (1 : Int).toNat).take (6 : Int).toNat).getD (k : Int).toNat default).toNat_lt
     iterate 4 refine z ?_
     refine ok_region ?_
     refine z ?_
     refine yO rfl rfl (pu_eqI (pu_shlW rfl (ev_tmp rfl) (ev_int (inR_lit rfl)) (by omega) (by show _ ≤ 64; omega)) (shl8 hac)) rfl ?_
     iterate 4 refine z ?_
     refine yO rfl rfl (pu_eqI (pu_convI hT rfl rfl rfl (ev_tmp rfl)) (by rw [wrapB, xs_get hk6 (by omega)])) rfl ?_
     refine yO rfl rfl (pu_eqI (pu_orR rfl (ev_tmp rfl) (ev_tmp rfl) rfl ((by rw [or_add8 hxb hac]; exact inR64 (by omega) (by omega)))) (or_add8 hxb hac)) rfl ?_
     refine z ?_
     refine ops_nil ?_
     iterate 2 refine z ?_
     refine ok_region ?_
     iterate 4 refine z ?_
     refine ⟨(k + 1, num6 (((b.drop (1 : Int).toNat).take (6 : Int).toNat).take (k + 1))), ?_, ?_, weak_sub ⟨rfl, rfl, rfl, rfl, rfl, (eqSlotI (by omega)), (eqSlotI (by omega)), trivial⟩ ⟨rfl, rfl, trivial⟩ trivial rfl⟩
     ·exact ⟨by dsimp only; omega, rfl⟩
     ·dsimp only; omega
    ·skip
     have d4 := of_decide_eq_false c4
     have hke : k = 6 := by omega
     have hfin : acc = num6 ((b.drop (1 : Int).toNat).take (6 : Int).toNat) := by rw [ha, List.take_of_length_le (by omega)]
     have hfb := num6_lt ((b.drop (1 : Int).toNat).take (6 : Int).toNat)
     rw [hxl, ← hfin] at hfb
     iterate 11 refine z ?_
     refine ok_region ?_
     iterate 5 refine z ?_
     refine yO rfl rfl (pu_sliceL hT rfl rfl rfl (ev_tmp rfl) (ev_tmp rfl) (fun _ => rfl) (by omega) (by omega)) rfl ?_
     refine yO rfl rfl (pu_convBS hT rfl rfl rfl rfl (ev_tmp rfl)) rfl ?_
     iterate 6 refine z ?_
     refine zC Try.call120 ?_ (hf := ok_spec_IsKey (k := (((b.getD (0 : Int).toNat default).toNat : Int), (acc : Int) - 1000000000000, strOf (b.drop 7))))
     iterate 2 refine z ?_
     refine yQ rfl (fun c5 => ?_) fun c5 => ?_
     ·skip
      refine z ?_
      refine yO rfl rfl (pu_build hT hB rfl rfl rfl bp_nil) rfl ?_
      iterate 5 refine z ?_
      refine fin2 (res_cell hT rfl rfl rfl rfl) (res_tmp rfl) rfl rfl ?_
      rw [decK_bad (k := (((b.getD (0 : Int).toNat default).toNat : Int), (acc : Int) - 1000000000000, strOf (b.drop 7))) hne (.inr (by omega)) (kOf_num d2 hfin (by first | rfl | (rw [List.drop_drop]; rfl) | (rw [List.drop_drop]))) (by simpa using c5)]
      rfl
     ·skip
      iterate 8 refine z ?_
      refine fin2 (res_cell hT rfl rfl rfl rfl) (res_tmp rfl) rfl rfl ?_
      rw [decK_ok (k := (((b.getD (0 : Int).toNat default).toNat : Int), (acc : Int) - 1000000000000, strOf (b.drop 7))) hne (.inr (by omega)) (kOf_num d2 hfin (by first | rfl | (rw [List.drop_drop]; rfl) | (rw [List.drop_drop]))) (by simpa using c5)]
      rfl
  ·skip
   have d2 := nd_f c2
   iterate 5 refine z ?_
   refine yO rfl rfl (pu_sliceL hT rfl rfl rfl (ev_tmp rfl) (ev_tmp rfl) (fun _ => rfl) (by omega) (by omega)) rfl ?_
   refine yO rfl rfl (pu_convBS hT rfl rfl rfl rfl (ev_tmp rfl)) rfl ?_
   iterate 6 refine z ?_
   refine zC Try.call120 ?_ (hf := ok_spec_IsKey (k := (((b.getD (0 : Int).toNat default).toNat : Int), (0 : Int), strOf (b.drop 1))))
   iterate 2 refine z ?_
   refine yQ rfl (fun c6 => ?_) fun c6 => ?_
   ·skip
    refine z ?_
    refine yO rfl rfl (pu_build hT hB rfl rfl rfl bp_nil) rfl ?_
    iterate 5 refine z ?_
    refine fin2 (res_cell hT rfl rfl rfl rfl) (res_tmp rfl) rfl rfl ?_
    have d2' : ((b.getD 0 default).toNat : Int) = 2 := by
     have h8 := c2
     rw [Bool.not_eq_false'] at h8
     exact of_decide_eq_true h8
    rw [decK_bad (k := (((b.getD (0 : Int).toNat default).toNat : Int), (0 : Int), strOf (b.drop 1))) hne (.inl d2') (kOf_txt d2') (by simpa using c6)]
    rfl
   ·skip
    iterate 8 refine z ?_
    refine fin2 (res_cell hT rfl rfl rfl rfl) (res_tmp rfl) rfl rfl ?_
    have d2' : ((b.getD 0 default).toNat : Int) = 2 := by
     have h8 := c2
     rw [Bool.not_eq_false'] at h8
     exact of_decide_eq_true h8
    rw [decK_ok (k := (((b.getD (0 : Int).toNat default).toNat : Int), (0 : Int), strOf (b.drop 1))) hne (.inl d2') (kOf_txt d2') (by simpa using c6)]
    rfl
end Go.Proofs.Ytlogahkchenpdaa

namespace Go.Proofs.Ytlogahkchenpdaa
open Go.RowKit
open Go.Proofs
set_option linter.unusedVariables false
set_option linter.unusedSimpArgs false

def rdFs (b : List UInt8) : Nat → Int → RecT → Option (RecT × Int)
 | 0, p, r => some (r, p)
 | n + 1, p, r => if (!(rdB b p 8).isSome || !uvK b (rbP (rdB b p 8))) = true then none else rdFs b n (uvP b (rbP (rdB b p 8))) (r ++ [(strOf (headB (rdB b p 8)), uvV b (rbP (rdB b p 8)))])
def l5R (b : List UInt8) (at0 : Int) : RecT × Int × Bool := if (!uvK b at0 || decide (6 < uvV b at0)) = true then ([], 0, false) else match rdFs b (uvV b at0).toNat (uvP b at0) [] with
 | none => ([], 0, false)
 | some (r, p) => (r, p, isRec r)
def decR (b : List UInt8) : RecT × Bool := if (!(l5R b 0).2.2 || !decide ((l5R b 0).2.1 = (b.length : Int))) = true then ([], false) else ((l5R b 0).1, true)
section
variable {b : List UInt8} {at0 p : Int} {r : RecT} {k n : Nat}
theorem fs_go (hk : k < n) (hc : (!(rdB b p 8).isSome || !uvK b (rbP (rdB b p 8))) = false) : rdFs b (n - k) p r = rdFs b (n - (k + 1)) (uvP b (rbP (rdB b p 8))) (r ++ [(strOf (headB (rdB b p 8)), uvV b (rbP (rdB b p 8)))]) := by
 rw [show n - k = (n - (k + 1)) + 1 by omega, rdFs, if_neg (by rw [hc]; simp)]
theorem fs_no (hk : k < n) (hc : (!(rdB b p 8).isSome || !uvK b (rbP (rdB b p 8))) = true) : rdFs b (n - k) p r = none := by
 rw [show n - k = (n - (k + 1)) + 1 by omega, rdFs, if_pos hc]
theorem fs_end (hk : ¬ k < n) : rdFs b (n - k) p r = some (r, p) := by rw [show n - k = 0 by omega, rdFs]
theorem l5_bad (h : (!uvK b at0 || decide (6 < uvV b at0)) = true) : l5R b at0 = ([], 0, false) := by rw [l5R, if_pos h]
theorem l5_none (h : (!uvK b at0 || decide (6 < uvV b at0)) = false) (h2 : rdFs b (uvV b at0).toNat (uvP b at0) [] = none) : l5R b at0 = ([], 0, false) := by rw [l5R, if_neg (by rw [h]; simp), h2]
theorem l5_some (h : (!uvK b at0 || decide (6 < uvV b at0)) = false) (h2 : rdFs b (uvV b at0).toNat (uvP b at0) [] = some (r, p)) : l5R b at0 = (r, p, isRec r) := by rw [l5R, if_neg (by rw [h]; simp), h2]
end
def encF (f : FieldT) : List UInt8 := uvL f.1.data.toList.length ++ (f.1.data.toList ++ uvL f.2.toNat)
def inF (f : FieldT) : Prop := 0 ≤ f.2 ∧ f.2 ≤ 1000000000000 ∧ f.1.data.toList.length ≤ 1000000000000
theorem uvK_canon {b : List UInt8} {off : Int} (h : uvK b off = true) : ∃ (q v k : Nat), rdU b off = some (v, k) ∧ off = (q : Int) ∧ uvV b off = (v : Int) ∧ uvP b off = ((q + k : Nat) : Int) ∧ b.drop q = uvL v ++ b.drop (q + k) ∧ q + k ≤ b.length ∧ v ≤ 1000000000000 := by
 unfold uvK at h
 obtain ⟨⟨v, k⟩, hr⟩ := Option.isSome_iff_exists.1 h
 obtain ⟨q, h1, h2, h3, h4, _⟩ := rU_canon hr
 refine ⟨q, v, k, hr, h1, ?_, ?_, h2, h3, h4⟩
 ·unfold uvV; rw [hr]
 ·unfold uvP; rw [hr, h1]; simp
theorem rb_canon {b : List UInt8} {off m : Int} (h : (rdB b off m).isSome = true) : ∃ (p q : Nat) (d : List UInt8), rdB b off m = some (d, q) ∧ off = (p : Int) ∧ b.drop p = uvL d.length ++ (d ++ b.drop q) ∧ q ≤ b.length ∧ (d.length : Int) ≤ m ∧ d.length ≤ 1000000000000 := by
 obtain ⟨⟨d, q⟩, hr⟩ := Option.isSome_iff_exists.1 h
 obtain ⟨p, h1, h2, h3, h4, h5, _⟩ := rB_canon hr
 exact ⟨p, q, d, hr, h1, h2, h3, h4, h5⟩
theorem fs_canon {b : List UInt8} : ∀ (n : Nat) (q : Nat) (r r' : RecT) (p' : Int), q ≤ b.length → rdFs b n (q : Int) r = some (r', p') → ∃ (s : RecT) (q' : Nat), r' = r ++ s ∧ s.length = n ∧ p' = (q' : Int) ∧ b.drop q = s.flatMap encF ++ b.drop q' ∧ q' ≤ b.length ∧ ∀ f ∈ s, inF f
 | 0, q, r, r', p', hq, h => by
  simp only [rdFs, Option.some.injEq, Prod.mk.injEq] at h
  exact ⟨[], q, by simp [h.1], rfl, h.2.symm, by simp, hq, by simp⟩
 | n + 1, q, r, r', p', hq, h => by
  rw [rdFs] at h
  split at h
  ·cases h
  ·rename_i hc
   simp only [Bool.or_eq_true, Bool.not_eq_true', not_or, Bool.not_eq_false] at hc
   obtain ⟨q0, q1, d, e1, e2, e3, e4, e5, e6⟩ := rb_canon hc.1
   have e0 : q0 = q := by omega
   subst e0
   rw [e1] at hc h
   simp only [rbP, headB] at hc h
   obtain ⟨q2, v, k, g1, g2, g3, g4, g5, g6, g7⟩ := uvK_canon hc.2
   have g0 : q2 = q1 := by omega
   subst g0
   rw [g3, g4] at h
   obtain ⟨s, q', s1, s2, s3, s4, s5, s6⟩ := fs_canon n (q2 + k) _ r' p' g6 h
   refine ⟨(strOf d, (v : Int)) :: s, q', by rw [s1]; simp, by simp [s2], s3, ?_, s5, ?_⟩
   ·rw [e3, g5, s4, List.flatMap_cons]
    simp only [encF, strOf_list, Int.toNat_natCast, List.append_assoc]
   ·intro f hf
    rcases List.mem_cons.1 hf with rfl | hf
    ·exact ⟨by simp, by simp only; omega, by simp only [strOf_list]; exact e6⟩
    ·exact s6 f hf
theorem encRN_flat {r : RecT} (hr : ∀ f ∈ r, inF f) (hl : r.length ≤ 1000000000000) : ∀ k, k ≤ r.length → encRN r k = uvL r.length ++ (r.take k).flatMap encF
 | 0, _ => by rw [encRN, appU_in (by omega)]; simp
 | k + 1, h => by
  have hk : k < r.length := by omega
  have hm : r.getD (k : Int).toNat default ∈ r := by rw [getD_at hk]; exact List.getElem_mem hk
  obtain ⟨h1, h2, h3⟩ := hr _ hm
  rw [encRN, encRN_flat hr hl k (by omega), appU_in (n := ((r.getD (k : Int).toNat default).1.data.toList.length : Int)) (by omega), appU_in ⟨h1, h2⟩]
  rw [List.take_add_one, List.getElem?_eq_getElem hk, ← getD_at hk]
  simp only [Option.toList_some, List.flatMap_append, List.flatMap_cons, List.flatMap_nil, List.append_nil, encF, List.append_assoc, Int.toNat_natCast]
theorem rec_iff {b : List UInt8} {r : RecT} {p : Int} (h : (!uvK b 0 || decide (6 < uvV b 0)) = false) (h2 : rdFs b (uvV b 0).toNat (uvP b 0) [] = some (r, p)) : (encR r = b) ↔ (isRec r = true ∧ p = (b.length : Int)) := by
 simp only [Bool.or_eq_false_iff, Bool.not_eq_false', decide_eq_false_iff_not] at h
 obtain ⟨q, v, k, g1, g2, g3, g4, g5, g6, g7⟩ := uvK_canon h.1
 obtain rfl : q = 0 := by omega
 rw [g3, g4] at h2
 rw [g3] at h
 obtain ⟨s, q', s1, s2, s3, s4, s5, s6⟩ := fs_canon _ _ _ _ _ g6 h2
 rw [List.nil_append] at s1
 subst s1
 have s2' : r.length = v := by rw [s2]; omega
 have e : b = encRN r r.length ++ b.drop q' := by
  rw [encRN_flat s6 (by omega) r.length (Nat.le_refl _), List.take_length, s2', List.append_assoc, ← s4, ← g5]; rfl
 have hne : b ≠ [] := by
  intro hb
  have := uvL_pos v
  rw [hb] at g5
  have h9 := congrArg List.length g5
  simp only [List.drop_nil, List.length_append, List.length_nil] at h9
  omega
 constructor
 ·intro h3
  cases hr : isRec r with
  | false => rw [encR_bad hr] at h3; exact absurd h3.symm hne
  | true =>
   rw [encR_ok hr rfl] at h3
   refine ⟨rfl, ?_⟩
   have h9 := congrArg List.length e
   rw [h3, List.length_append, List.length_drop] at h9
   omega
 ·rintro ⟨hr, hp⟩
  have hq : b.drop q' = [] := List.drop_eq_nil_of_le (by omega)
  rw [encR_ok hr rfl]
  rw [hq, List.append_nil] at e
  exact e.symm
theorem decR_bad {b : List UInt8} (h : (!uvK b 0 || decide (6 < uvV b 0)) = true) : decR b = ([], false) := by rw [decR, l5_bad h]; rfl
theorem decR_none {b : List UInt8} (h : (!uvK b 0 || decide (6 < uvV b 0)) = false) (h2 : rdFs b (uvV b 0).toNat (uvP b 0) [] = none) : decR b = ([], false) := by rw [decR, l5_none h h2]; rfl
theorem decR_no {b : List UInt8} {r : RecT} {p : Int} (h : (!uvK b 0 || decide (6 < uvV b 0)) = false) (h2 : rdFs b (uvV b 0).toNat (uvP b 0) [] = some (r, p)) (h3 : (!eqL eqByteB (encR r) b) = true) : decR b = ([], false) := by
 rw [eqL_bytes, Bool.not_eq_true', decide_eq_false_iff_not, rec_iff h h2] at h3
 rw [decR, l5_some h h2, if_pos]
 simp only [Bool.or_eq_true, Bool.not_eq_true', decide_eq_false_iff_not]
 cases hr : isRec r with
 | false => exact .inl rfl
 | true => exact .inr (fun e => h3 ⟨hr, e⟩)
theorem decR_yes {b : List UInt8} {r : RecT} {p : Int} (h : (!uvK b 0 || decide (6 < uvV b 0)) = false) (h2 : rdFs b (uvV b 0).toNat (uvP b 0) [] = some (r, p)) (h3 : (!eqL eqByteB (encR r) b) = false) : decR b = (r, true) := by
 rw [eqL_bytes, Bool.not_eq_false', decide_eq_true_eq, rec_iff h h2] at h3
 rw [decR, l5_some h h2, if_neg]
 simp only [Bool.or_eq_true, Bool.not_eq_true', decide_eq_false_iff_not, not_or]
 exact ⟨by rw [h3.1]; simp, fun e => e h3.2⟩

theorem ok_impl_DecodeRecord {b : List UInt8} (hb : b.length ≤ 16777216) : KFn Try.prog 79 [.one (.dv [] (bytesD (b)))] (.tup [(true, [(.key 9001)]), (false, [(.dv [] (.bool ((decR b).2)))])]) [(9001, some (kcOf false (fieldsD ((decR b).1))))] := by
 refine ⟨fn_intro Try.func79 rfl Try.ntmps79 Try.results79 rfl (fun C => ?_)⟩
 refine ok_fact (x := .tmp 0) (ev_tmp rfl) fun f0 => ?_
 iterate 6 refine z ?_
 refine zC Try.call76 ?_ (hf := ok_impl_ReadUvarint (b := b) (off := 0) (by omega))
 iterate 17 refine z ?_
 refine yQ rfl (fun c1 => ?_) fun c1 => ?_
 ·skip
  refine z ?_
  refine yO rfl rfl (pu_build hT hB rfl rfl rfl bp_nil) rfl ?_
  iterate 3 refine z ?_
  rw [decR_bad c1]
  refine ok_weak (weak_nilB 9001 (b := 2) (i := 0) (e := 161) (sz := 2) rfl rfl rfl rfl rfl) ?_
  refine ok_weak (σ' := ⟨[(2, .box 2 0), (3, .one (.dv [] (.bool (false))))], [(2, 100, [(.key 9001)])], [(9001, some (kcOf false (fieldsD ([]))))]⟩) (weak_sub ⟨rfl, rfl, trivial⟩ ⟨rfl, trivial⟩ ⟨rfl, trivial⟩ rfl) ?_
  iterate 2 refine z ?_
  refine fin2 (res_cell hT rfl rfl rfl rfl) (res_tmp rfl) rfl rfl ?_
  first | exact ⟨rfl, rfl⟩ | skip
 ·skip
  have hub := uv_bds b 0
  have hn6 : uvV b 0 ≤ 6 := by have h8 := c1; simp only [Bool.or_eq_false_iff, decide_eq_false_iff_not] at h8; omega
  iterate 3 refine z ?_
  refine yO rfl rfl (pu_build hT hB rfl rfl rfl bp_nil) rfl ?_
  iterate 3 refine z ?_
  refine ok_seq ?_
  refine ok_seq ?_
  refine ok_weak (weak_nilB 9001 (b := 7) (i := 0) (e := 161) (sz := 2) rfl rfl rfl rfl rfl) ?_
  simp only [killT, killB, SV.kill, CV.kill, kk, Nat.reduceBEq]
  refine ok_region ?_
  iterate 3 refine z ?_
  refine ok_loop (ι := Nat × Int × RecT) (fun zz => ⟨[(0, .one (.dv [] (bytesD (b)))), (2, .box 2 0), (4, .one (.dv [] (.int .i64 (uvV (b) (0))))), (5, .one (.dv [] (.int .i64 (zz.2.1)))), (7, .box 7 0), (8, .one (.dv [] (.int .i64 ((zz.1 : Int)))))], [(2, 100, [.nil]), (7, 100, [(.key 9001)])], [(9001, some (kcOf false (.sl 161 2 (zz.2.2.length) (zz.2.2.flatMap eField))))]⟩) (fun zz => zz.1 ≤ (uvV b 0).toNat ∧ rdFs b (uvV b 0).toNat (uvP b 0) [] = rdFs b ((uvV b 0).toNat - zz.1) zz.2.1 zz.2.2 ∧ zz.2.2.length = zz.1) (fun zz => (uvV b 0).toNat - zz.1) ((0, uvP b 0, [])) ?_ (weak_sub ⟨rfl, rfl, rfl, rfl, rfl, rfl, trivial⟩ ⟨rfl, rfl, trivial⟩ ⟨rfl, trivial⟩ rfl) (fun zz hx => ?_)
  ·exact ⟨Nat.zero_le _, rfl, rfl⟩
  obtain ⟨k, p, r⟩ := zz
  replace hx : k ≤ (uvV b 0).toNat ∧ rdFs b (uvV b 0).toNat (uvP b 0) [] = rdFs b ((uvV b 0).toNat - k) p r ∧ r.length = k := hx
  obtain ⟨hk, hi, hl⟩ := hx
  show Ok _ _ _ _ _ (⟨[(0, .one (.dv [] (bytesD (b)))), (2, .box 2 0), (4, .one (.dv [] (.int .i64 (uvV (b) (0))))), (5, .one (.dv [] (.int .i64 (p)))), (7, .box 7 0), (8, .one (.dv [] (.int .i64 ((k : Int)))))], [(2, 100, [.nil]), (7, 100, [(.key 9001)])], [(9001, some (kcOf false (.sl 161 2 (r.length) (r.flatMap eField))))]⟩ : St)
  iterate 6 refine z ?_
  refine yQ rfl (fun c2 => ?_) fun c2 => ?_
  ·skip
   have d2 := of_decide_eq_true c2
   have hk2 : k < (uvV b 0).toNat := by omega
   iterate 7 refine z ?_
   refine zK 700 Try.call77 ?_ (hf := ok_impl_ReadBytes (b := b) (off := p) (m := 8) (by omega))
   iterate 11 refine z ?_
   refine zC Try.call76 ?_ (hf := ok_impl_ReadUvarint (b := b) (off := rbP (rdB b p 8)) (by omega))
   iterate 17 refine z ?_
   refine yQ rfl (fun c3 => ?_) fun c3 => ?_
   ·skip
    refine ok_seq ?_
    refine ok_weak (σ' := ⟨[(0, .one (.dv [] (bytesD (b)))), (2, .box 2 0)], [(2, 100, [.nil])], []⟩) (weak_sub ⟨rfl, rfl, trivial⟩ ⟨rfl, trivial⟩ trivial rfl) ?_
    refine ok_region ?_
    refine yO rfl rfl (pu_build hT hB rfl rfl rfl bp_nil) rfl ?_
    iterate 3 refine z ?_
    rw [decR_none c1 (hi.trans (fs_no hk2 c3))]
    refine ok_weak (weak_nilB 9001 (b := 2) (i := 0) (e := 161) (sz := 2) rfl rfl rfl rfl rfl) ?_
    refine ok_weak (σ' := ⟨[(2, .box 2 0), (3, .one (.dv [] (.bool (false))))], [(2, 100, [(.key 9001)])], [(9001, some (kcOf false (fieldsD ([]))))]⟩) (weak_sub ⟨rfl, rfl, trivial⟩ ⟨rfl, trivial⟩ ⟨rfl, trivial⟩ rfl) ?_
    iterate 7 refine z ?_
    refine fin2 (res_cell hT rfl rfl rfl rfl) (res_tmp rfl) rfl rfl ?_
    first | exact ⟨rfl, rfl⟩ | skip
   ·skip
    have hc3 := c3
    iterate 6 refine z ?_
    refine yO rfl rfl (pu_convBS (K := [700]) (e := 5) (xs := (headB (rdB (b) (p) (8)))) hT rfl rfl rfl rfl (ev_keyv (k := 700) (c := kcOf false (bytesD (headB (rdB (b) (p) (8))))) (ev_tmp rfl) rfl)) rfl ?_
    refine z ?_
    refine yO rfl rfl (pu_build hT hB rfl rfl rfl (bp_cons (ev_tmp rfl) rfl rfl rfl rfl rfl (bp_cons (ev_tmp rfl) rfl rfl rfl rfl rfl bp_nil))) rfl ?_
    refine o_build1 (k := 61) (js := []) hT rfl rfl rfl rfl rfl rfl rfl rfl rfl (ev_tmp rfl) rfl rfl (ow_cons' (ow_dv rfl) (ow_cons' (ow_dv rfl) ow_nil rfl) rfl) (by decide) (by decide) rfl rfl ?_
    simp only [killT, killB, SV.kill, CV.kill, kk, Nat.reduceBEq]
    refine o_appK (k := 9001) (j := 61) (cs := (r ++ [(strOf (headB (rdB b p 8)), uvV b (rbP (rdB b p 8)))]).flatMap eField) (n := (r ++ [(strOf (headB (rdB b p 8)), uvV b (rbP (rdB b p 8)))]).length) hT rfl rfl rfl rfl rfl rfl rfl (ev_tmp rfl) rfl rfl rfl (ev_tmp rfl) rfl rfl (by decide) (by dsimp only [kcOf, KC.old]; omega) (by dsimp only [kcOf, KC.old]; omega) (by rw [List.length_append]; rfl) (by rw [List.flatMap_append]; rfl) ?_
    simp only [killT, killB, SV.kill, CV.kill, kk, Nat.reduceBEq]
    iterate 3 refine z ?_
    refine ok_region ?_
    iterate 2 refine z ?_
    refine ops_nil ?_
    iterate 2 refine z ?_
    refine ok_region ?_
    iterate 4 refine z ?_
    refine ⟨(k + 1, uvP b (rbP (rdB b p 8)), (r ++ [(strOf (headB (rdB b p 8)), uvV b (rbP (rdB b p 8)))])), ?_, ?_, weak_sub ⟨rfl, rfl, rfl, rfl, rfl, rfl, trivial⟩ ⟨rfl, rfl, trivial⟩ ⟨rfl, trivial⟩ rfl⟩
    ·exact ⟨by dsimp only; omega, hi.trans (fs_go hk2 hc3), by show (r ++ _).length = k + 1; rw [List.length_append, hl]; rfl⟩
    ·dsimp only; omega
  ·skip
   have d2 := of_decide_eq_false c2
   have hfe := hi.trans (fs_end (by omega))
   iterate 8 refine z ?_
   refine o_callK 300 rfl rfl rfl Try.call68 (ok_impl_EncodeRecord (r := r)) (as_cons (ev_tmp rfl) (ag_agg (ag_cons (ac_key' rfl rfl) ag_nil)) as_nil) rfl rfl rfl ?_
   refine z ?_
   refine o_call rfl rfl rfl Try.call80 (ok_impl_EqualBytes (x := encR (r)) (y := b) ) (as_cons (ev_tmp rfl) (ag_one (ac_key' rfl rfl)) (as_cons (ev_tmp rfl) (ag_one ac_dv) as_nil)) rfl rfl ?_
   iterate 2 refine z ?_
   refine yQ rfl (fun c4 => ?_) fun c4 => ?_
   ·skip
    refine ok_seq ?_
    refine ok_weak (σ' := ⟨[(0, .one (.dv [] (bytesD (b)))), (2, .box 2 0)], [(2, 100, [.nil])], []⟩) (weak_sub ⟨rfl, rfl, trivial⟩ ⟨rfl, trivial⟩ trivial rfl) ?_
    refine ok_region ?_
    refine yO rfl rfl (pu_build hT hB rfl rfl rfl bp_nil) rfl ?_
    iterate 3 refine z ?_
    rw [decR_no c1 hfe c4]
    refine ok_weak (weak_nilB 9001 (b := 2) (i := 0) (e := 161) (sz := 2) rfl rfl rfl rfl rfl) ?_
    refine ok_weak (σ' := ⟨[(2, .box 2 0), (3, .one (.dv [] (.bool (false))))], [(2, 100, [(.key 9001)])], [(9001, some (kcOf false (fieldsD ([]))))]⟩) (weak_sub ⟨rfl, rfl, trivial⟩ ⟨rfl, trivial⟩ ⟨rfl, trivial⟩ rfl) ?_
    iterate 2 refine z ?_
    refine fin2 (res_cell hT rfl rfl rfl rfl) (res_tmp rfl) rfl rfl ?_
    first | exact ⟨rfl, rfl⟩ | skip
   ·skip
    iterate 7 refine z ?_
    rw [decR_yes c1 hfe c4]
    refine ok_weak (σ' := ⟨[(2, .box 2 0), (3, .one (.dv [] (.bool (true))))], [(2, 100, [(.key 9001)])], [(9001, some (kcOf false (fieldsD (r))))]⟩) (weak_sub ⟨rfl, rfl, trivial⟩ ⟨rfl, trivial⟩ ⟨rfl, trivial⟩ rfl) ?_
    refine z ?_
    refine fin2 (res_cell hT rfl rfl rfl rfl) (res_tmp rfl) rfl rfl ?_
    first | exact ⟨rfl, rfl⟩ | skip
theorem ok_spec_l5Read {b : List UInt8} {at0 : Int} (hb : b.length ≤ 16777216) : KFn Try.prog 169 [.one (.dv [] (bytesD (b))), .one (.dv [] (.int .i64 (at0)))] (.tup [(true, [(.key 9001)]), (false, [(.dv [] (.int .i64 ((l5R b at0).2.1)))]), (false, [(.dv [] (.bool ((l5R b at0).2.2)))])]) [(9001, some (kcOf false (fieldsD ((l5R b at0).1))))] := by
 refine ⟨fn_intro Try.func169 rfl Try.ntmps169 Try.results169 rfl (fun C => ?_)⟩
 refine ok_fact (x := .tmp 0) (ev_tmp rfl) fun f0 => ?_
 refine ok_fact (x := .tmp 1) (ev_tmp rfl) fun f1 => ?_
 iterate 8 refine z ?_
 refine zC Try.call73 ?_ (hf := ok_spec_ReadUvarint (b := b) (off := at0) (by omega))
 iterate 17 refine z ?_
 refine yQ rfl (fun c1 => ?_) fun c1 => ?_
 ·skip
  refine z ?_
  refine yO rfl rfl (pu_build hT hB rfl rfl rfl bp_nil) rfl ?_
  iterate 4 refine z ?_
  rw [l5_bad c1]
  refine ok_weak (weak_nilB 9001 (b := 4) (i := 0) (e := 161) (sz := 2) rfl rfl rfl rfl rfl) ?_
  refine ok_weak (σ' := ⟨[(4, .box 4 0), (5, .one (.dv [] (.int .i64 (0)))), (6, .one (.dv [] (.bool (false))))], [(4, 100, [(.key 9001)])], [(9001, some (kcOf false (fieldsD ([]))))]⟩) (weak_sub ⟨rfl, rfl, rfl, trivial⟩ ⟨rfl, trivial⟩ ⟨rfl, trivial⟩ rfl) ?_
  iterate 2 refine z ?_
  refine fin3 (res_cell hT rfl rfl rfl rfl) (res_tmp rfl) (res_tmp rfl) rfl rfl rfl ?_
  first | exact ⟨rfl, rfl⟩ | skip
 ·skip
  have hub := uv_bds b at0
  have hn6 : uvV b at0 ≤ 6 := by have h8 := c1; simp only [Bool.or_eq_false_iff, decide_eq_false_iff_not] at h8; omega
  iterate 3 refine z ?_
  refine yO rfl rfl (pu_build hT hB rfl rfl rfl bp_nil) rfl ?_
  iterate 3 refine z ?_
  refine ok_seq ?_
  refine ok_seq ?_
  refine ok_weak (weak_nilB 9001 (b := 10) (i := 0) (e := 161) (sz := 2) rfl rfl rfl rfl rfl) ?_
  simp only [killT, killB, SV.kill, CV.kill, kk, Nat.reduceBEq]
  refine ok_region ?_
  iterate 3 refine z ?_
  refine ok_loop (ι := Nat × Int × RecT) (fun zz => ⟨[(0, .one (.dv [] (bytesD (b)))), (4, .box 4 0), (7, .one (.dv [] (.int .i64 (uvV (b) (at0))))), (8, .one (.dv [] (.int .i64 (zz.2.1)))), (10, .box 10 0), (11, .one (.dv [] (.int .i64 ((zz.1 : Int)))))], [(4, 100, [.nil]), (10, 100, [(.key 9001)])], [(9001, some (kcOf false (.sl 161 2 (zz.2.2.length) (zz.2.2.flatMap eField))))]⟩) (fun zz => zz.1 ≤ (uvV b at0).toNat ∧ rdFs b (uvV b at0).toNat (uvP b at0) [] = rdFs b ((uvV b at0).toNat - zz.1) zz.2.1 zz.2.2 ∧ zz.2.2.length = zz.1) (fun zz => (uvV b at0).toNat - zz.1) ((0, uvP b at0, [])) ?_ (weak_sub ⟨rfl, rfl, rfl, rfl, rfl, rfl, trivial⟩ ⟨rfl, rfl, trivial⟩ ⟨rfl, trivial⟩ rfl) (fun zz hx => ?_)
  ·exact ⟨Nat.zero_le _, rfl, rfl⟩
  obtain ⟨k, p, r⟩ := zz
  replace hx : k ≤ (uvV b at0).toNat ∧ rdFs b (uvV b at0).toNat (uvP b at0) [] = rdFs b ((uvV b at0).toNat - k) p r ∧ r.length = k := hx
  obtain ⟨hk, hi, hl⟩ := hx
  show Ok _ _ _ _ _ (⟨[(0, .one (.dv [] (bytesD (b)))), (4, .box 4 0), (7, .one (.dv [] (.int .i64 (uvV (b) (at0))))), (8, .one (.dv [] (.int .i64 (p)))), (10, .box 10 0), (11, .one (.dv [] (.int .i64 ((k : Int)))))], [(4, 100, [.nil]), (10, 100, [(.key 9001)])], [(9001, some (kcOf false (.sl 161 2 (r.length) (r.flatMap eField))))]⟩ : St)
  iterate 6 refine z ?_
  refine yQ rfl (fun c2 => ?_) fun c2 => ?_
  ·skip
   have d2 := of_decide_eq_true c2
   have hk2 : k < (uvV b at0).toNat := by omega
   iterate 7 refine z ?_
   refine zK 700 Try.call130 ?_ (hf := ok_spec_ReadBytes (b := b) (off := p) (m := 8) (by omega))
   iterate 13 refine z ?_
   refine yQ rfl (fun c3 => ?_) fun c3 => ?_
   ·skip
    have hc3 : (!(rdB b p 8).isSome || !uvK b (rbP (rdB b p 8))) = true := by rw [c3]; rfl
    refine ok_seq ?_
    refine ok_weak (σ' := ⟨[(0, .one (.dv [] (bytesD (b)))), (4, .box 4 0)], [(4, 100, [.nil])], []⟩) (weak_sub ⟨rfl, rfl, trivial⟩ ⟨rfl, trivial⟩ trivial rfl) ?_
    refine ok_region ?_
    refine yO rfl rfl (pu_build hT hB rfl rfl rfl bp_nil) rfl ?_
    iterate 4 refine z ?_
    rw [l5_none c1 (hi.trans (fs_no hk2 hc3))]
    refine ok_weak (weak_nilB 9001 (b := 4) (i := 0) (e := 161) (sz := 2) rfl rfl rfl rfl rfl) ?_
    refine ok_weak (σ' := ⟨[(4, .box 4 0), (5, .one (.dv [] (.int .i64 (0)))), (6, .one (.dv [] (.bool (false))))], [(4, 100, [(.key 9001)])], [(9001, some (kcOf false (fieldsD ([]))))]⟩) (weak_sub ⟨rfl, rfl, rfl, trivial⟩ ⟨rfl, trivial⟩ ⟨rfl, trivial⟩ rfl) ?_
    iterate 7 refine z ?_
    refine fin3 (res_cell hT rfl rfl rfl rfl) (res_tmp rfl) (res_tmp rfl) rfl rfl rfl ?_
    first | exact ⟨rfl, rfl⟩ | skip
   ·skip
    iterate 5 refine z ?_
    refine zC Try.call73 ?_ (hf := ok_spec_ReadUvarint (b := b) (off := rbP (rdB b p 8)) (by omega))
    iterate 13 refine z ?_
    refine yQ rfl (fun c4 => ?_) fun c4 => ?_
    ·skip
     have hc3 : (!(rdB b p 8).isSome || !uvK b (rbP (rdB b p 8))) = true := by rw [c4]; simp
     refine ok_seq ?_
     refine ok_weak (σ' := ⟨[(0, .one (.dv [] (bytesD (b)))), (4, .box 4 0)], [(4, 100, [.nil])], []⟩) (weak_sub ⟨rfl, rfl, trivial⟩ ⟨rfl, trivial⟩ trivial rfl) ?_
     refine ok_region ?_
     refine yO rfl rfl (pu_build hT hB rfl rfl rfl bp_nil) rfl ?_
     iterate 4 refine z ?_
     rw [l5_none c1 (hi.trans (fs_no hk2 hc3))]
     refine ok_weak (weak_nilB 9001 (b := 4) (i := 0) (e := 161) (sz := 2) rfl rfl rfl rfl rfl) ?_
     refine ok_weak (σ' := ⟨[(4, .box 4 0), (5, .one (.dv [] (.int .i64 (0)))), (6, .one (.dv [] (.bool (false))))], [(4, 100, [(.key 9001)])], [(9001, some (kcOf false (fieldsD ([]))))]⟩) (weak_sub ⟨rfl, rfl, rfl, trivial⟩ ⟨rfl, trivial⟩ ⟨rfl, trivial⟩ rfl) ?_
     iterate 7 refine z ?_
     refine fin3 (res_cell hT rfl rfl rfl rfl) (res_tmp rfl) (res_tmp rfl) rfl rfl rfl ?_
     first | exact ⟨rfl, rfl⟩ | skip
    ·skip
     have hc3 : (!(rdB b p 8).isSome || !uvK b (rbP (rdB b p 8))) = false := by rw [c3, c4]; rfl
     iterate 6 refine z ?_
     refine yO rfl rfl (pu_convBS (K := [700]) (e := 5) (xs := (headB (rdB (b) (p) (8)))) hT rfl rfl rfl rfl (ev_keyv (k := 700) (c := kcOf false (bytesD (headB (rdB (b) (p) (8))))) (ev_tmp rfl) rfl)) rfl ?_
     refine z ?_
     refine yO rfl rfl (pu_build hT hB rfl rfl rfl (bp_cons (ev_tmp rfl) rfl rfl rfl rfl rfl (bp_cons (ev_tmp rfl) rfl rfl rfl rfl rfl bp_nil))) rfl ?_
     refine o_build1 (k := 64) (js := []) hT rfl rfl rfl rfl rfl rfl rfl rfl rfl (ev_tmp rfl) rfl rfl (ow_cons' (ow_dv rfl) (ow_cons' (ow_dv rfl) ow_nil rfl) rfl) (by decide) (by decide) rfl rfl ?_
     simp only [killT, killB, SV.kill, CV.kill, kk, Nat.reduceBEq]
     refine o_appK (k := 9001) (j := 64) (cs := (r ++ [(strOf (headB (rdB b p 8)), uvV b (rbP (rdB b p 8)))]).flatMap eField) (n := (r ++ [(strOf (headB (rdB b p 8)), uvV b (rbP (rdB b p 8)))]).length) hT rfl rfl rfl rfl rfl rfl rfl (ev_tmp rfl) rfl rfl rfl (ev_tmp rfl) rfl rfl (by decide) (by dsimp only [kcOf, KC.old]; omega) (by dsimp only [kcOf, KC.old]; omega) (by rw [List.length_append]; rfl) (by rw [List.flatMap_append]; rfl) ?_
     simp only [killT, killB, SV.kill, CV.kill, kk, Nat.reduceBEq]
     iterate 3 refine z ?_
     refine ok_region ?_
     iterate 2 refine z ?_
     refine ops_nil ?_
     iterate 2 refine z ?_
     refine ok_region ?_
     iterate 4 refine z ?_
     refine ⟨(k + 1, uvP b (rbP (rdB b p 8)), (r ++ [(strOf (headB (rdB b p 8)), uvV b (rbP (rdB b p 8)))])), ?_, ?_, weak_sub ⟨rfl, rfl, rfl, rfl, rfl, rfl, trivial⟩ ⟨rfl, rfl, trivial⟩ ⟨rfl, trivial⟩ rfl⟩
     ·exact ⟨by dsimp only; omega, hi.trans (fs_go hk2 hc3), by show (r ++ _).length = k + 1; rw [List.length_append, hl]; rfl⟩
     ·dsimp only; omega
  ·skip
   have d2 := of_decide_eq_false c2
   have hfe := hi.trans (fs_end (by omega))
   iterate 5 refine z ?_
   refine ok_seq ?_
   refine ok_regionX 4 [0, 1, 2, 3, 4] (oB := [10]) (oK := [9001]) (by kernel_rfl) rfl rfl ?_
   refine x_take 0 rfl (by kernel_rfl) rfl rfl (pu_loadBoxA hT rfl rfl (ev_tmp rfl) rfl rfl) rfl rfl rfl rfl rfl ?_
   refine x_take 1 rfl (by kernel_rfl) rfl rfl (pu_move (.inl rfl) (ev_tmp rfl)) rfl rfl rfl rfl rfl ?_
   refine x_take 2 rfl (by kernel_rfl) rfl rfl (pu_loadBoxA hT rfl rfl (ev_tmp rfl) rfl rfl) rfl rfl rfl rfl rfl ?_
   refine x_call 3 rfl (by kernel_rfl) rfl rfl rfl Try.call121 (ok_spec_IsRecord (r := r)) (as_cons (ev_tmp rfl) (ag_agg (ag_cons (ac_key' rfl rfl) ag_nil)) as_nil) rfl rfl rfl rfl rfl ?_
   refine x_store 4 rfl (by kernel_rfl) rfl hT rfl rfl rfl (ev_tmp rfl) (ev_tmp rfl) rfl rfl rfl rfl rfl rfl ?_
   refine x_chain [5, 6] rfl rfl (by kernel_rfl) ?_
   iterate 3 refine z ?_
   rw [l5_some c1 hfe]
   refine ok_weak (σ' := ⟨[(4, .box 4 0), (5, .one (.dv [] (.int .i64 (p)))), (6, .one (.dv [] (.bool (isRec (r)))))], [(4, 100, [(.key 9001)])], [(9001, some (kcOf false (fieldsD (r))))]⟩) (weak_sub ⟨rfl, rfl, rfl, trivial⟩ ⟨rfl, trivial⟩ ⟨rfl, trivial⟩ rfl) ?_
   refine z ?_
   refine fin3 (res_cell hT rfl rfl rfl rfl) (res_tmp rfl) (res_tmp rfl) rfl rfl rfl ?_
   first | exact ⟨rfl, rfl⟩ | skip
theorem ok_spec_DecodeRecord {b : List UInt8} (hb : b.length ≤ 16777216) : KFn Try.prog 132 [.one (.dv [] (bytesD (b)))] (.tup [(true, [(.key 9001)]), (false, [(.dv [] (.bool ((decR b).2)))])]) [(9001, some (kcOf false (fieldsD ((decR b).1))))] := by
 refine ⟨fn_intro Try.func132 rfl Try.ntmps132 Try.results132 rfl (fun C => ?_)⟩
 refine ok_fact (x := .tmp 0) (ev_tmp rfl) fun f0 => ?_
 iterate 6 refine z ?_
 refine zK 0 Try.call169 ?_ (hf := ok_spec_l5Read (b := b) (at0 := 0) (by omega))
 iterate 20 refine z ?_
 refine yQ rfl (fun c1 => ?_) fun c1 => ?_
 ·skip
  refine ok_seq ?_
  refine ok_weak (σ' := ⟨[(0, .one (.dv [] (bytesD (b)))), (2, .box 2 0), (3, .one (.dv [] (.bool (false))))], [(2, 100, [.nil])], []⟩) (weak_sub ⟨rfl, rfl, rfl, trivial⟩ ⟨rfl, trivial⟩ trivial rfl) ?_
  refine ok_region ?_
  refine yO rfl rfl (pu_build hT hB rfl rfl rfl bp_nil) rfl ?_
  iterate 3 refine z ?_
  rw [decR, if_pos c1]
  refine ok_weak (weak_nilB 9001 (b := 2) (i := 0) (e := 161) (sz := 2) rfl rfl rfl rfl rfl) ?_
  refine ok_weak (σ' := ⟨[(2, .box 2 0), (3, .one (.dv [] (.bool (false))))], [(2, 100, [(.key 9001)])], [(9001, some (kcOf false (fieldsD ([]))))]⟩) (weak_sub ⟨rfl, rfl, trivial⟩ ⟨rfl, trivial⟩ ⟨rfl, trivial⟩ rfl) ?_
  iterate 2 refine z ?_
  refine fin2 (res_cell hT rfl rfl rfl rfl) (res_tmp rfl) rfl rfl ?_
  first | exact ⟨rfl, rfl⟩ | skip
 ·skip
  iterate 7 refine z ?_
  rw [decR, if_neg (by rw [c1]; simp)]
  refine ok_weak (σ' := ⟨[(2, .box 2 0), (3, .one (.dv [] (.bool (true))))], [(2, 100, [(.key 9001)])], [(9001, some (kcOf false (fieldsD ((l5R b 0).1))))]⟩) (weak_sub ⟨rfl, rfl, trivial⟩ ⟨rfl, trivial⟩ ⟨rfl, trivial⟩ rfl) ?_
  refine z ?_
  refine fin2 (res_cell hT rfl rfl rfl rfl) (res_tmp rfl) rfl rfl ?_
  first | exact ⟨rfl, rfl⟩ | skip
end Go.Proofs.Ytlogahkchenpdaa

namespace Go.Proofs.Ytlogahkchenpdaa
open Go.RowKit
open Go.Proofs
set_option linter.unusedVariables false
set_option linter.unusedSimpArgs false

section
variable (b : List UInt8) (l1 l2 l3 l4 p : Int)
@[reducible] def ox1 : Option (List UInt8 × Nat) := rdB b (uvP b p) l1
@[reducible] def ox2 : Option (List UInt8 × Nat) := rdB b (rbP (ox1 b l1 p)) l2
@[reducible] def ox3 : Option (List UInt8 × Nat) := rdB b (rbP (ox2 b l1 l2 p)) l3
@[reducible] def ox4 : Option (List UInt8 × Nat) := rdB b (rbP (ox3 b l1 l2 l3 p)) l4
def opBad : Bool := (((!uvK b p || !(ox1 b l1 p).isSome) || !(ox2 b l1 l2 p).isSome) || !(ox3 b l1 l2 l3 p).isSome) || !(ox4 b l1 l2 l3 l4 p).isSome
@[reducible] def opVal : OpT := (uvV b p, strOf (headB (ox1 b l1 p)), (decK (headB (ox2 b l1 l2 p))).1, (decR (headB (ox3 b l1 l2 l3 p))).1, strOf (headB (ox4 b l1 l2 l3 l4 p)))
def l9R : OpT × Int × Bool := if opBad b l1 l2 l3 l4 p = true then ((0, ByteArray.empty, (0, 0, ByteArray.empty), [], ByteArray.empty), 0, false) else (opVal b l1 l2 l3 l4 p, rbP (ox4 b l1 l2 l3 l4 p), true)
end
def rdOs (b : List UInt8) (l1 l2 l3 l4 : Int) : Nat → Int → List OpT → Option (List OpT)
 | 0, _, l => some l
 | n + 1, p, l => if opBad b l1 l2 l3 l4 p = true then none else rdOs b l1 l2 l3 l4 n (rbP (ox4 b l1 l2 l3 l4 p)) (l ++ [opVal b l1 l2 l3 l4 p])
def decOL (b : List UInt8) (l1 l2 l3 l4 : Int) : List OpT × Bool := if (!uvK b 0 || decide (6 < uvV b 0)) = true then ([], false) else match rdOs b l1 l2 l3 l4 (uvV b 0).toNat (uvP b 0) [] with
 | none => ([], false)
 | some l => if encO l = b then (l, true) else ([], false)
def decO (b : List UInt8) : List OpT × Bool := decOL b 100 100 200 100
section
variable {b : List UInt8} {l1 l2 l3 l4 p : Int} {k n : Nat} {l : List OpT}
theorem os_go (hk : k < n) (hc : opBad b l1 l2 l3 l4 p = false) : rdOs b l1 l2 l3 l4 (n - k) p l = rdOs b l1 l2 l3 l4 (n - (k + 1)) (rbP (ox4 b l1 l2 l3 l4 p)) (l ++ [opVal b l1 l2 l3 l4 p]) := by
 rw [show n - k = (n - (k + 1)) + 1 by omega, rdOs, if_neg (by rw [hc]; simp)]
theorem os_go9 (hk : k < n) (hc : opBad b l1 l2 l3 l4 p = false) : rdOs b l1 l2 l3 l4 (n - k) p l = rdOs b l1 l2 l3 l4 (n - (k + 1)) (l9R b l1 l2 l3 l4 p).2.1 (l ++ [(l9R b l1 l2 l3 l4 p).1]) := by
 rw [os_go hk hc, l9R, if_neg (by rw [hc]; simp)]
theorem os_no (hk : k < n) (hc : opBad b l1 l2 l3 l4 p = true) : rdOs b l1 l2 l3 l4 (n - k) p l = none := by
 rw [show n - k = (n - (k + 1)) + 1 by omega, rdOs, if_pos hc]
theorem os_end (hk : ¬ k < n) : rdOs b l1 l2 l3 l4 (n - k) p l = some l := by rw [show n - k = 0 by omega, rdOs]
theorem decO_bad (h : (!uvK b 0 || decide (6 < uvV b 0)) = true) : decOL b l1 l2 l3 l4 = ([], false) := by rw [decOL, if_pos h]
theorem decO_none (h : (!uvK b 0 || decide (6 < uvV b 0)) = false) (h2 : rdOs b l1 l2 l3 l4 (uvV b 0).toNat (uvP b 0) [] = none) : decOL b l1 l2 l3 l4 = ([], false) := by rw [decOL, if_neg (by rw [h]; simp), h2]
theorem decO_no (h : (!uvK b 0 || decide (6 < uvV b 0)) = false) (h2 : rdOs b l1 l2 l3 l4 (uvV b 0).toNat (uvP b 0) [] = some l) (h3 : (!eqL eqByteB (encO l) b) = true) : decOL b l1 l2 l3 l4 = ([], false) := by
 rw [eqL_bytes, Bool.not_eq_true', decide_eq_false_iff_not] at h3
 rw [decOL, if_neg (by rw [h]; simp), h2]
 simp only
 rw [if_neg h3]
theorem decO_yes (h : (!uvK b 0 || decide (6 < uvV b 0)) = false) (h2 : rdOs b l1 l2 l3 l4 (uvV b 0).toNat (uvP b 0) [] = some l) (h3 : (!eqL eqByteB (encO l) b) = false) : decOL b l1 l2 l3 l4 = (l, true) := by
 rw [eqL_bytes, Bool.not_eq_false', decide_eq_true_eq] at h3
 rw [decOL, if_neg (by rw [h]; simp), h2]
 simp only
 rw [if_pos h3]
end
def encP (o : OpT) : List UInt8 := uvL o.1.toNat ++ (uvL o.2.1.data.toList.length ++ o.2.1.data.toList ++ (uvL (encK o.2.2.1).length ++ encK o.2.2.1 ++ (uvL (encR o.2.2.2.1).length ++ encR o.2.2.2.1 ++ (uvL o.2.2.2.2.data.toList.length ++ o.2.2.2.2.data.toList))))
def normO (o : OpT) : OpT := (o.1, o.2.1, (decK (encK o.2.2.1)).1, o.2.2.2.1, o.2.2.2.2)
theorem op_parts {o : OpT} (h : isOpB o = true) : o.2.1.data.toList.length ≤ 8 ∧ (encK o.2.2.1).length ≤ 19 ∧ (encR o.2.2.2.1).length ≤ 126 ∧ o.2.2.2.2.data.toList.length ≤ 8 ∧ 1 ≤ o.1 ∧ o.1 ≤ 6 ∧ isRec o.2.2.2.1 = true := by
 have h1 := op_rng h
 have h2 := encK_len o.2.2.1
 have h3 := encR_len o.2.2.2.1
 simp only [isOpB, Bool.and_eq_true, decide_eq_true_eq] at h
 exact ⟨h1.1, h2, h3, h1.2, h.1.1.1.1.1, h.1.1.1.1.2, h.1.2⟩
theorem opPart_enc {B : List UInt8} {o : OpT} (h : isOpB o = true) : opPart B o 4 = B ++ encP o := by
 obtain ⟨h1, h2, h3, h4, h5, h6, _⟩ := op_parts h
 have e : ∀ (X : List UInt8) (Y : List UInt8), Y.length ≤ 1000 → appB X Y = X ++ (uvL Y.length ++ Y) := fun X Y hY => by rw [appB, appU_in (by omega), Int.toNat_natCast, List.append_assoc]
 have p0 : (partsO o).getD ((0 : Nat) : Int).toNat default = o.2.1.data.toList := rfl
 have p1 : (partsO o).getD ((1 : Nat) : Int).toNat default = encK o.2.2.1 := rfl
 have p2 : (partsO o).getD ((2 : Nat) : Int).toNat default = encR o.2.2.2.1 := rfl
 have p3 : (partsO o).getD ((3 : Nat) : Int).toNat default = o.2.2.2.2.data.toList := rfl
 rw [opPart, opPart, opPart, opPart, opPart, p0, p1, p2, p3, e _ _ (by omega), e _ _ (by omega), e _ _ (by omega), e _ _ (by omega), appU_in (by omega)]
 simp only [encP, List.append_assoc]
theorem encON_enc {l : List OpT} (h : areB l = true) : ∀ k, k ≤ l.length → encON l k = uvL l.length ++ (l.take k).flatMap encP
 | 0, _ => by
  have := are_len h
  rw [encON, appU_in (by omega)]; simp
 | k + 1, hk => by
  have hk2 : k < l.length := by omega
  rw [encON, encON_enc h k (by omega), opPart_enc (are_op h hk2), List.take_add_one, List.getElem?_eq_getElem hk2, ← getD_at hk2]
  simp only [Option.toList_some, List.flatMap_append, List.flatMap_cons, List.flatMap_nil, List.append_nil, List.append_assoc]
theorem uvK_some {b : List UInt8} {off : Int} {v k : Nat} (h : rdU b off = some (v, k)) : uvK b off = true ∧ uvV b off = (v : Int) ∧ uvP b off = off + (k : Int) := by
 unfold uvK uvV uvP
 rw [h]
 exact ⟨rfl, rfl, rfl⟩
theorem fs_enc {b : List UInt8} : ∀ (s : RecT) (q : Nat) (r : RecT) (rest : List UInt8), (∀ f ∈ s, inF f ∧ f.1.data.toList.length ≤ 8) → q ≤ b.length → b.drop q = s.flatMap encF ++ rest → ∃ q' : Nat, rdFs b s.length (q : Int) r = some (r ++ s, (q' : Int)) ∧ b.drop q' = rest ∧ q' ≤ b.length
 | [], q, r, rest, _, hq, h => ⟨q, by simp [rdFs], by simpa using h, hq⟩
 | f :: s, q, r, rest, hs, hq, h => by
  obtain ⟨⟨f1, f2, f3⟩, f4⟩ := hs f (by simp)
  rw [List.flatMap_cons] at h
  have h' : b.drop q = uvL f.1.data.toList.length ++ f.1.data.toList ++ (uvL f.2.toNat ++ (s.flatMap encF ++ rest)) := by rw [h, encF]; simp only [List.append_assoc]
  obtain ⟨g1, g2, g3⟩ := rB_uv (m := 8) h' (by omega) (by omega)
  obtain ⟨k1, k2, k3⟩ := rU_uv g2 (by omega)
  obtain ⟨u1, u2, u3⟩ := uvK_some k1
  obtain ⟨q', r1, r2, r3⟩ := fs_enc s _ (r ++ [f]) rest (fun g hg => hs g (by simp [hg])) k3 k2
  refine ⟨q', ?_, r2, r3⟩
  have eP : rbP (rdB b (q : Int) 8) = ((q + (uvL f.1.data.toList.length).length + f.1.data.toList.length : Nat) : Int) := by rw [g1]; rfl
  have eH : headB (rdB b (q : Int) 8) = f.1.data.toList := by rw [g1]; rfl
  rw [List.length_cons, rdFs, eP, eH, u1, u2, u3, if_neg (by rw [g1]; simp), strOf_data, show ((f.2.toNat : Nat) : Int) = f.2 by omega]
  have : ((q + (uvL f.1.data.toList.length).length + f.1.data.toList.length : Nat) : Int) + ((uvL f.2.toNat).length : Int) = ((q + (uvL f.1.data.toList.length).length + f.1.data.toList.length + (uvL f.2.toNat).length : Nat) : Int) := by omega
  rw [this, r1]
  simp
theorem decR_encR {r : RecT} (h : isRec r = true) : decR (encR r) = (r, true) := by
 have hl : r.length ≤ 6 := by
  have h0 := h
  simp only [isRec, Bool.and_eq_true, decide_eq_true_eq] at h0; omega
 have hf : ∀ f ∈ r, inF f ∧ f.1.data.toList.length ≤ 8 := fun f hm => by
  obtain ⟨i, hi, rfl⟩ := List.mem_iff_getElem.1 hm
  have h1 := rec_fld h hi
  rw [getD_at hi] at h1
  have h2 := (name_size h1.1).2
  have h3 : r[i].1.data.toList.length ≤ 8 := h2
  exact ⟨⟨h1.2.1, by omega, by omega⟩, h3⟩
 have e : encR r = uvL r.length ++ r.flatMap encF := by
  rw [encR_ok h rfl, encRN_flat (fun f hm => (hf f hm).1) (by omega) r.length (Nat.le_refl _), List.take_length]
 obtain ⟨b, hb⟩ : ∃ b, b = encR r := ⟨_, rfl⟩
 rw [← hb]
 rw [← hb] at e
 have e0 : b.drop 0 = uvL r.length ++ r.flatMap encF := by rw [e]; rfl
 obtain ⟨k1, k2, k3⟩ := rU_uv e0 (by omega)
 obtain ⟨u1, u2, u3⟩ := uvK_some k1
 have e2 : b.drop (0 + (uvL r.length).length) = r.flatMap encF ++ [] := by rw [k2, List.append_nil]
 obtain ⟨q', r1, r2, r3⟩ := fs_enc r _ [] [] hf k3 e2
 have hc : (!uvK b 0 || decide (6 < uvV b 0)) = false := by
  have u1' : uvK b 0 = true := u1
  have u2' : uvV b 0 = (r.length : Int) := u2
  rw [u1', u2', decide_eq_false (by omega)]; rfl
 have h2 : rdFs b (uvV b 0).toNat (uvP b 0) [] = some (r, (q' : Int)) := by
  have u2' : uvV b 0 = (r.length : Int) := u2
  have u3' : uvP b 0 = ((0 + (uvL r.length).length : Nat) : Int) := by rw [show uvP b 0 = ((0 : Nat) : Int) + ((uvL r.length).length : Int) from u3]; omega
  rw [u2', u3', Int.toNat_natCast, r1, List.nil_append]
 have hq : q' = b.length := by
  have := congrArg List.length r2
  rw [List.length_drop, List.length_nil] at this; omega
 rw [decR, l5_some hc h2, if_neg]
 simp only [Bool.or_eq_true, Bool.not_eq_true', decide_eq_false_iff_not, not_or]
 exact ⟨by rw [h]; simp, fun e => e (by omega)⟩
theorem op_read {b : List UInt8} {q : Nat} {o : OpT} {rest : List UInt8} {l1 l2 l3 l4 : Int} (ho : isOpB o = true) (h : b.drop q = encP o ++ rest) (m1 : ∀ n : Nat, n ≤ 19 → n ≤ b.length → (n : Int) ≤ l1 ∧ (n : Int) ≤ l2 ∧ (n : Int) ≤ l4) (m3 : ∀ n : Nat, n ≤ 126 → n ≤ b.length → (n : Int) ≤ l3) :
  opBad b l1 l2 l3 l4 (q : Int) = false ∧ opVal b l1 l2 l3 l4 (q : Int) = normO o ∧ ∃ q' : Nat, rbP (ox4 b l1 l2 l3 l4 (q : Int)) = (q' : Int) ∧ b.drop q' = rest ∧ q' ≤ b.length := by
 obtain ⟨h1, h2, h3, h4, h5, h6, h7⟩ := op_parts ho
 rw [encP] at h
 simp only [List.append_assoc] at h
 obtain ⟨k1, k2, k3⟩ := rU_uv h (by omega)
 obtain ⟨u1, u2, u3⟩ := uvK_some k1
 have d2 := k2
 rw [← List.append_assoc] at d2
 have n1 : o.2.1.data.toList.length ≤ b.length := by have := congrArg List.length k2; simp only [List.length_drop, List.length_append] at this; omega
 obtain ⟨a1, a2, a3⟩ := rB_uv (m := l1) d2 (by omega) (m1 _ (by omega) n1).1
 have d3 := a2
 rw [← List.append_assoc] at d3
 have n2 : (encK o.2.2.1).length ≤ b.length := by have := congrArg List.length a2; simp only [List.length_drop, List.length_append] at this; omega
 obtain ⟨b1, b2, b3⟩ := rB_uv (m := l2) d3 (by omega) (m1 _ (by omega) n2).2.1
 have d4 := b2
 rw [← List.append_assoc] at d4
 have n3 : (encR o.2.2.2.1).length ≤ b.length := by have := congrArg List.length b2; simp only [List.length_drop, List.length_append] at this; omega
 obtain ⟨c1, c2, c3⟩ := rB_uv (m := l3) d4 (by omega) (m3 _ (by omega) n3)
 have d5 := c2
 rw [← List.append_assoc] at d5
 have n4 : o.2.2.2.2.data.toList.length ≤ b.length := by have := congrArg List.length c2; simp only [List.length_drop, List.length_append] at this; omega
 obtain ⟨e1, e2, e3⟩ := rB_uv (m := l4) d5 (by omega) (m1 _ (by omega) n4).2.2
 have x1 : ox1 b l1 (q : Int) = rdB b ((q + (uvL o.1.toNat).length : Nat) : Int) l1 := by
  show rdB b (uvP b (q : Int)) l1 = _
  rw [u3, show (q : Int) + ((uvL o.1.toNat).length : Int) = ((q + (uvL o.1.toNat).length : Nat) : Int) by omega]
 rw [a1] at x1
 have x2 : ox2 b l1 l2 (q : Int) = rdB b (rbP (ox1 b l1 (q : Int))) l2 := rfl
 rw [x1, show ∀ (d : List UInt8) (n : Nat), rbP (some (d, n)) = (n : Int) from fun _ _ => rfl, b1] at x2
 have x3 : ox3 b l1 l2 l3 (q : Int) = rdB b (rbP (ox2 b l1 l2 (q : Int))) l3 := rfl
 rw [x2, show ∀ (d : List UInt8) (n : Nat), rbP (some (d, n)) = (n : Int) from fun _ _ => rfl, c1] at x3
 have x4 : ox4 b l1 l2 l3 l4 (q : Int) = rdB b (rbP (ox3 b l1 l2 l3 (q : Int))) l4 := rfl
 rw [x3, show ∀ (d : List UInt8) (n : Nat), rbP (some (d, n)) = (n : Int) from fun _ _ => rfl, e1] at x4
 refine ⟨?_, ?_, ⟨_, ?_, e2, e3⟩⟩
 ·unfold opBad
  rw [x1, x2, x3, x4, u1]; rfl
 ·unfold opVal
  rw [x1, x2, x3, x4, u2]
  simp only [headB, strOf_data, decR_encR h7, normO]
  rw [show ((o.1.toNat : Nat) : Int) = o.1 by omega]
 ·rw [x4]; rfl
theorem os_enc {b : List UInt8} {l1 l2 l3 l4 : Int} (m1 : ∀ n : Nat, n ≤ 19 → n ≤ b.length → (n : Int) ≤ l1 ∧ (n : Int) ≤ l2 ∧ (n : Int) ≤ l4) (m3 : ∀ n : Nat, n ≤ 126 → n ≤ b.length → (n : Int) ≤ l3) : ∀ (s : List OpT) (q : Nat) (l : List OpT), (∀ o ∈ s, isOpB o = true) → b.drop q = s.flatMap encP → rdOs b l1 l2 l3 l4 s.length (q : Int) l = some (l ++ s.map normO)
 | [], q, l, _, _ => by simp [rdOs]
 | o :: s, q, l, hs, h => by
  rw [List.flatMap_cons] at h
  obtain ⟨g1, g2, q', g3, g4, _⟩ := op_read (hs o (by simp)) h m1 m3
  rw [List.length_cons, rdOs, g1, g2, g3, if_neg (by simp), os_enc m1 m3 s q' _ (fun x hx => hs x (by simp [hx])) g4]
  simp
theorem num6_be6 {n : Nat} (h : n < 281474976710656) : num6 (be6 n) = n := by
 have r : List.range 6 = [0, 1, 2, 3, 4, 5] := rfl
 unfold be6
 rw [r]
 simp [num6]
 omega
theorem decK_encK {k : KeyT} (h : isKey k = true) : decK (encK k) = (k, true) := by
 have hr := key_rng h
 have hb0 : (((encK k).getD 0 default).toNat : Int) = k.1 := by
  rw [encK, if_pos h]
  simp only [List.cons_append, List.getD_cons_zero]
  rw [show (UInt8.ofNat k.1.toNat).toNat = k.1.toNat % 256 by simp]
  omega
 have hne : (encK k).length ≠ 0 := by rw [encK, if_pos h]; simp
 have h7 : (((encK k).getD 0 default).toNat : Int) = 2 ∨ 7 ≤ (encK k).length := by
  rw [hb0]
  by_cases h2 : k.1 = 2
  ·exact .inl h2
  ·right
   rw [encK, if_pos h, if_neg h2]
   simp only [List.length_append, List.length_cons, be6_len]; omega
 have hk : k = kOf (encK k) := by
  rw [kOf]
  by_cases h2 : k.1 = 2
  ·rw [if_pos (by rw [hb0, h2])]
   have e : encK k = UInt8.ofNat k.1.toNat :: k.2.2.data.toList := by rw [encK, if_pos h, if_pos h2]; rfl
   have h0 : k.2.1 = 0 := by
    have h9 := h
    simp only [isKey, Bool.and_eq_true, h2] at h9
    have h10 := h9.1.2
    simpa using h10
   rw [e, List.drop_succ_cons, List.drop_zero, strOf_data]
   obtain ⟨a, b, c⟩ := k
   simp only at h2 h0 ⊢
   rw [h2, h0]
  ·rw [if_neg (by rw [hb0]; exact h2), hb0]
   have e : (encK k).drop 1 = be6 (keyN k) ++ k.2.2.data.toList := by rw [encK, if_pos h, if_neg h2]; rfl
   rw [e, List.take_left' (be6_len _), List.drop_left' (be6_len _), strOf_data, num6_be6 (by unfold keyN; omega)]
   have : ((keyN k : Nat) : Int) - 1000000000000 = k.2.1 := by unfold keyN; omega
   rw [this]
 exact decK_ok hne h7 hk h
theorem normO_enc {o : OpT} : encP (normO o) = encP o ∧ (isOpB o = true → isOpB (normO o) = true) := by
 cases hi : isKey o.2.2.1 with
 | false =>
  have e : decK (encK o.2.2.1) = ((0, 0, ByteArray.empty), false) := by rw [encK_bad hi]; exact decK_nil rfl
  refine ⟨?_, fun h => ?_⟩
  ·simp only [encP, normO, e, encK_bad hi]
   rw [encK_bad (by decide)]
  ·simp only [isOpB, normO, Bool.and_eq_true, Bool.or_eq_true, hi] at h ⊢
   refine ⟨⟨⟨h.1.1.1, ?_⟩, h.1.2⟩, h.2⟩
   rcases h.1.1.2 with h1 | h1
   ·exact .inl h1
   ·cases h1
 | true =>
  have e : normO o = o := by rw [normO, decK_encK hi]
  rw [e]
  exact ⟨rfl, fun h => h⟩
theorem norm_areB {l : List OpT} (h : areB l = true) : areB (l.map normO) = true := by
 simp only [areB, Bool.and_eq_true, List.all_eq_true, decide_eq_true_eq] at h ⊢
 refine ⟨fun x hx => ?_, by rw [List.length_map]; exact h.2⟩
 obtain ⟨o, ho, rfl⟩ := List.mem_map.1 hx
 exact normO_enc.2 (h.1 o ho)
theorem norm_encO {l : List OpT} (h : areB l = true) : encO (l.map normO) = encO l := by
 rw [encO_ok (norm_areB h) rfl, encO_ok h rfl, encON_enc (norm_areB h) _ (Nat.le_refl _), encON_enc h _ (Nat.le_refl _), List.take_length, List.take_length, List.length_map]
 congr 1
 induction l with
 | nil => rfl
 | cons o l ih =>
  rw [List.map_cons, List.flatMap_cons, List.flatMap_cons, normO_enc.1, ih]
  simp only [areB, Bool.and_eq_true, List.all_eq_true, decide_eq_true_eq, List.length_cons] at h ⊢
  exact ⟨fun x hx => h.1 x (by simp [hx]), by omega⟩
theorem decO_enc {l : List OpT} (h : areB l = true) {l1 l2 l3 l4 : Int} (m1 : ∀ n : Nat, n ≤ 19 → n ≤ (encO l).length → (n : Int) ≤ l1 ∧ (n : Int) ≤ l2 ∧ (n : Int) ≤ l4) (m3 : ∀ n : Nat, n ≤ 126 → n ≤ (encO l).length → (n : Int) ≤ l3) : decOL (encO l) l1 l2 l3 l4 = (l.map normO, true) := by
 have hl := are_len h
 have e : encO l = uvL l.length ++ l.flatMap encP := by rw [encO_ok h rfl, encON_enc h _ (Nat.le_refl _), List.take_length]
 obtain ⟨b, hb⟩ : ∃ b, b = encO l := ⟨_, rfl⟩
 have hn := norm_encO h
 rw [← hb] at m1 m3 e hn ⊢
 have e0 : b.drop 0 = uvL l.length ++ l.flatMap encP := by rw [e]; rfl
 obtain ⟨k1, k2, k3⟩ := rU_uv e0 (by omega)
 obtain ⟨u1, u2, u3⟩ := uvK_some k1
 have u1' : uvK b 0 = true := u1
 have u2' : uvV b 0 = (l.length : Int) := u2
 have u3' : uvP b 0 = ((0 + (uvL l.length).length : Nat) : Int) := by rw [show uvP b 0 = ((0 : Nat) : Int) + ((uvL l.length).length : Int) from u3]; omega
 have ho : ∀ o ∈ l, isOpB o = true := fun o ho => by
  simp only [areB, Bool.and_eq_true, List.all_eq_true] at h
  exact h.1 o ho
 have r1 := os_enc m1 m3 l _ [] ho k2
 rw [decOL, if_neg (by rw [u1', u2', decide_eq_false (by omega)]; simp), u2', u3', Int.toNat_natCast, r1]
 simp only [List.nil_append]
 rw [if_pos hn]
theorem decO_true {b : List UInt8} {l1 l2 l3 l4 : Int} {l : List OpT} (h : decOL b l1 l2 l3 l4 = (l, true)) : areB l = true ∧ encO l = b := by
 unfold decOL at h
 split at h
 ·cases h
 ·rename_i hc
  split at h
  ·cases h
  ·rename_i l' h2
   split at h
   ·rename_i h3
    simp only [Prod.mk.injEq, and_true] at h
    subst h
    refine ⟨?_, h3⟩
    cases ha : areB l' with
    | true => rfl
    | false =>
     rw [encO_bad ha] at h3
     subst h3
     exfalso
     apply hc
     have : uvK [] 0 = false := rfl
     rw [this]; rfl
   ·cases h
theorem decO_cases (b : List UInt8) (l1 l2 l3 l4 : Int) : decOL b l1 l2 l3 l4 = ([], false) ∨ ∃ l, decOL b l1 l2 l3 l4 = (l, true) := by
 unfold decOL
 split
 ·exact .inl rfl
 ·split
  ·exact .inl rfl
  ·split
   ·exact .inr ⟨_, rfl⟩
   ·exact .inl rfl
theorem decO_small {l : List OpT} (h : areB l = true) : decO (encO l) = (l.map normO, true) := decO_enc h (fun n h1 _ => by omega) (fun n h1 _ => by omega)
theorem decO_big {l : List OpT} (h : areB l = true) : decOL (encO l) ((encO l).length : Int) ((encO l).length : Int) ((encO l).length : Int) ((encO l).length : Int) = (l.map normO, true) := decO_enc h (fun n _ h1 => by omega) (fun n _ h1 => by omega)
theorem decO_eq (b : List UInt8) : decOL b (b.length : Int) (b.length : Int) (b.length : Int) (b.length : Int) = decO b := by
 rcases decO_cases b (b.length : Int) (b.length : Int) (b.length : Int) (b.length : Int) with h1 | ⟨l, h1⟩
 ·rcases decO_cases b 100 100 200 100 with h2 | ⟨l, h2⟩
  ·rw [h1, decO, h2]
  ·obtain ⟨h3, h4⟩ := decO_true h2
   subst h4
   rw [decO_big h3] at h1; simp at h1
 ·obtain ⟨h3, h4⟩ := decO_true h1
  subst h4
  rw [decO_big h3, decO_small h3]
theorem decK_size (b : List UInt8) : (decK b).1.2.2.size ≤ 12 := by
 unfold decK
 split
 ·show 0 ≤ 12; omega
 ·split
  ·show 0 ≤ 12; omega
  ·split
   ·rename_i h; exact (key_rng h).2.2
   ·show 0 ≤ 12; omega
theorem rec_w {r : RecT} (h : isRec r = true) : wRecord r ≤ 54 := by
 have hl : r.length ≤ 6 := by
  have h0 := h
  simp only [isRec, Bool.and_eq_true, decide_eq_true_eq] at h0; omega
 have key : ∀ s : RecT, (∀ f ∈ s, f.1.size ≤ 8) → wSum wField s ≤ 8 * s.length := by
  intro s
  induction s with
  | nil => intro _; simp [wSum]
  | cons f s ih =>
   intro hf
   have k1 := ih (fun g hg => hf g (by simp [hg]))
   have k2 := hf f (by simp)
   have k3 : wField f = f.1.size := rfl
   simp only [wSum, List.map_cons, List.sum_cons, List.length_cons] at *
   omega
 have h1 := key r (fun f hf => by
  obtain ⟨j, hj, rfl⟩ := List.mem_iff_getElem.1 hf
  have := (name_size (rec_fld h hj).1).2
  rwa [getD_at hj] at this)
 have h2 : wRecord r = r.length + wSum wField r := rfl
 omega
theorem decO_len (b : List UInt8) : (decO b).1.length ≤ 6 ∧ (∀ o ∈ (decO b).1, isOpB o = true) ∧ wList wOp (decO b).1 ≤ 600 := by
 rcases decO_cases b 100 100 200 100 with h | ⟨l, h⟩
 ·rw [decO, h]; simp [wList, wSum]
 ·obtain ⟨h3, h4⟩ := decO_true h
  subst h4
  have e := decO_small h3
  rw [e]
  have hn := norm_areB h3
  have hl := are_len hn
  have hv : ∀ o ∈ l.map normO, isOpB o = true := fun o ho => by
   simp only [areB, Bool.and_eq_true, List.all_eq_true] at hn
   exact hn.1 o ho
  refine ⟨hl, hv, ?_⟩
  have key : ∀ s : List OpT, (∀ o ∈ s, wOp o ≤ 90) → wSum wOp s ≤ 90 * s.length := by
   intro s
   induction s with
   | nil => intro _; simp [wSum]
   | cons f s ih =>
    intro hf
    have k1 := ih (fun g hg => hf g (by simp [hg]))
    have k2 := hf f (by simp)
    simp only [wSum, List.map_cons, List.sum_cons, List.length_cons] at *
    omega
  have h1 := key (l.map normO) (fun o ho => by
   have h5 := hv o ho
   obtain ⟨x, _, rfl⟩ := List.mem_map.1 ho
   have h6 : (normO x).2.2.1.2.2.size ≤ 12 := decK_size _
   obtain ⟨p1, _, _, p4, _, _, p7⟩ := op_parts h5
   have h7 := rec_w p7
   have p1' : (normO x).2.1.size ≤ 8 := p1
   have p4' : (normO x).2.2.2.2.size ≤ 8 := p4
   have h8 : wOp (normO x) = (normO x).2.1.size + (normO x).2.2.1.2.2.size + wRecord (normO x).2.2.2.1 + (normO x).2.2.2.2.size := rfl
   omega)
  have h2 : wList wOp (l.map normO) = (l.map normO).length + wSum wOp (l.map normO) := rfl
  show wList wOp (l.map normO) ≤ 600
  omega

end Go.Proofs.Ytlogahkchenpdaa

