/-
  Contracts of the program's functions for the statements RunOps, SerialRun, StepTx, by the rules of the logic. Conditions: none but those in the theorems.
-/
import Derived.Test.YtmgijbhikmjfjaaGreatU3
set_option maxHeartbeats 4000000
set_option maxRecDepth 100000
namespace Go.Proofs.YtmgijbhikmjfjaaGreat
open Go.RowKit
open Go.Proofs
set_option linter.unusedVariables false
set_option linter.unusedSimpArgs false
theorem ok_impl_InRange {n lo hi : Int}  : PFn Tryz.prog 73 [.one (.dv [] (.int .i64 (n))), .one (.dv [] (.int .i64 (lo))), .one (.dv [] (.int .i64 (hi)))] (.one (.dv [] (.bool (decide (lo ≤ n) && decide (n ≤ hi))))) := by
 refine ⟨fn_intro Tryz.func73 rfl Tryz.ntmps73 Tryz.results73 rfl (fun C => ?_)⟩
 refine ok_fact (x := .tmp 0) (ev_tmp rfl) fun f0 => ?_
 refine ok_fact (x := .tmp 1) (ev_tmp rfl) fun f1 => ?_
 refine ok_fact (x := .tmp 2) (ev_tmp rfl) fun f2 => ?_
 iterate 16 refine z ?_
 rfl
theorem ok_spec_l1In {n lo hi : Int}  : PFn Tryz.prog 70 [.one (.dv [] (.int .i64 (n))), .one (.dv [] (.int .i64 (lo))), .one (.dv [] (.int .i64 (hi)))] (.one (.dv [] (.bool (decide (lo ≤ n) && decide (n ≤ hi))))) := by
 refine ⟨fn_intro Tryz.func70 rfl Tryz.ntmps70 Tryz.results70 rfl (fun C => ?_)⟩
 refine ok_fact (x := .tmp 0) (ev_tmp rfl) fun f0 => ?_
 refine ok_fact (x := .tmp 1) (ev_tmp rfl) fun f1 => ?_
 refine ok_fact (x := .tmp 2) (ev_tmp rfl) fun f2 => ?_
 iterate 16 refine z ?_
 rfl

theorem take_all {α : Type} {p : α → Bool} {l : List α} {k : Nat} {d : α} (h : (l.take k).all p = true) (hk : k < l.length) (hp : p (l.getD k d) = true) : (l.take (k + 1)).all p = true := by
 rw [List.take_succ_eq_append_getElem hk, List.all_append, h]
 simp only [List.all_cons, List.all_nil, Bool.and_true, Bool.true_and]
 simpa [List.getD, List.getElem?_eq_getElem hk] using hp
theorem all_no {α : Type} {p : α → Bool} {l : List α} {k : Nat} {d : α} (hk : k < l.length) (hp : p (l.getD k d) = false) : l.all p = false := by
 rw [List.all_eq_false]
 refine ⟨l[k], List.getElem_mem hk, ?_⟩
 simpa [List.getD, List.getElem?_eq_getElem hk] using hp
theorem all_yes {α : Type} {p : α → Bool} {l : List α} {k : Nat} (h : (l.take k).all p = true) (hk : l.length ≤ k) : l.all p = true := by rwa [List.take_of_length_le hk] at h
theorem size_len (s : ByteArray) : s.data.toList.length = s.size := rfl
def kch (b : UInt8) : Bool := (decide ((97 : Int) ≤ (b.toNat : Int)) && decide ((b.toNat : Int) ≤ 122)) || (decide ((48 : Int) ≤ (b.toNat : Int)) && decide ((b.toNat : Int) ≤ 57))
def kText (s : Str) : Bool := s.data.toList.all kch && decide ((s.size : Int) ≤ 12)
def wch (sl : Bool) (b : UInt8) : Bool := (decide ((97 : Int) ≤ (b.toNat : Int)) && decide ((b.toNat : Int) ≤ 122)) || (sl && decide ((b.toNat : Int) = 47))
theorem kch_spec (b : UInt8) : ((decide ((b.toNat : Int) < 97) || decide ((122 : Int) < (b.toNat : Int))) && (decide ((b.toNat : Int) < 48) || decide ((57 : Int) < (b.toNat : Int)))) = !kch b := by
 unfold kch
 generalize (b.toNat : Int) = z
 by_cases h1 : z < 97 <;> by_cases h2 : 122 < z <;> by_cases h3 : z < 48 <;> by_cases h4 : 57 < z <;> simp [h1, h2, h3, h4] <;> omega

theorem ok_impl_isKeyText {s : Str}  : PFn Tryz.prog 136 [.one (.dv [] (.str (s)))] (.one (.dv [] (.bool (kText s)))) := by
 refine ⟨fn_intro Tryz.func136 rfl Tryz.ntmps136 Tryz.results136 rfl (fun C => ?_)⟩
 refine ok_fact (x := .tmp 0) (ev_tmp rfl) fun f0 => ?_
 iterate 8 refine z ?_
 refine ok_loop (ι := Nat) (fun zz => ⟨[(0, .one (.dv [] (.str (s)))), (3, .one (.dv [] (.int .i64 ((zz : Int)))))], [], []⟩) (fun zz => zz ≤ s.size ∧ (s.data.toList.take zz).all kch = true) (fun zz => s.size - zz) (0) ?_ (weak_sub ⟨rfl, rfl, trivial⟩ trivial trivial rfl) (fun zz hx => ?_)
 ·exact ⟨Nat.zero_le _, rfl⟩
 obtain ⟨k, rfl⟩ : ∃ v, v = zz := ⟨_, rfl⟩
 replace hx : k ≤ s.size ∧ (s.data.toList.take k).all kch = true := hx
 obtain ⟨hk, hall⟩ := hx
 show Ok _ _ _ _ _ (⟨[(0, .one (.dv [] (.str (s)))), (3, .one (.dv [] (.int .i64 ((k : Int)))))], [], []⟩ : St)
 iterate 7 refine z ?_
 refine yQ rfl (fun c1 => ?_) fun c1 => ?_
 ·skip
  have d1 := of_decide_eq_true c1
  iterate 29 refine z ?_
  refine yQ rfl (fun c2 => ?_) fun c2 => ?_
  ·skip
   iterate 10 refine z ?_
   rw [kText, all_no (k := k) (d := 0) (by rw [size_len]; omega) (by have h : (!kch (s.data.toList.getD k 0)) = true := c2; simpa using h)]; rfl
  ·skip
   iterate 3 refine z ?_
   refine ok_region ?_
   iterate 4 refine z ?_
   refine ⟨k + 1, ?_, ?_, weak_sub ⟨rfl, rfl, trivial⟩ trivial trivial rfl⟩
   ·exact ⟨by omega, take_all (d := 0) hall (by rw [size_len]; omega) (by have h : (!kch (s.data.toList.getD k 0)) = false := c2; simpa using h)⟩
   ·omega
 ·skip
  have d1 := of_decide_eq_false c1
  iterate 13 refine z ?_
  rw [kText, all_yes hall (by rw [size_len]; omega)]; rfl
theorem ok_spec_l4Text {s : Str}  : PFn Tryz.prog 126 [.one (.dv [] (.str (s)))] (.one (.dv [] (.bool (kText s)))) := by
 refine ⟨fn_intro Tryz.func126 rfl Tryz.ntmps126 Tryz.results126 rfl (fun C => ?_)⟩
 refine ok_fact (x := .tmp 0) (ev_tmp rfl) fun f0 => ?_
 iterate 8 refine z ?_
 refine ok_loop (ι := Nat) (fun zz => ⟨[(0, .one (.dv [] (.str (s)))), (3, .one (.dv [] (.int .i64 ((zz : Int)))))], [], []⟩) (fun zz => zz ≤ s.size ∧ (s.data.toList.take zz).all kch = true) (fun zz => s.size - zz) (0) ?_ (weak_sub ⟨rfl, rfl, trivial⟩ trivial trivial rfl) (fun zz hx => ?_)
 ·exact ⟨Nat.zero_le _, rfl⟩
 obtain ⟨k, rfl⟩ : ∃ v, v = zz := ⟨_, rfl⟩
 replace hx : k ≤ s.size ∧ (s.data.toList.take k).all kch = true := hx
 obtain ⟨hk, hall⟩ := hx
 show Ok _ _ _ _ _ (⟨[(0, .one (.dv [] (.str (s)))), (3, .one (.dv [] (.int .i64 ((k : Int)))))], [], []⟩ : St)
 iterate 7 refine z ?_
 refine yQ rfl (fun c1 => ?_) fun c1 => ?_
 ·skip
  have d1 := of_decide_eq_true c1
  iterate 28 refine z ?_
  refine yQ rfl (fun c2 => ?_) fun c2 => ?_
  ·skip
   iterate 10 refine z ?_
   rw [kText, all_no (k := k) (d := 0) (by rw [size_len]; omega) (by have h := (kch_spec (s.data.toList.getD k 0)).symm.trans c2; simpa using h)]; rfl
  ·skip
   iterate 3 refine z ?_
   refine ok_region ?_
   iterate 4 refine z ?_
   refine ⟨k + 1, ?_, ?_, weak_sub ⟨rfl, rfl, trivial⟩ trivial trivial rfl⟩
   ·exact ⟨by omega, take_all (d := 0) hall (by rw [size_len]; omega) (by have h := (kch_spec (s.data.toList.getD k 0)).symm.trans c2; simpa using h)⟩
   ·omega
 ·skip
  have d1 := of_decide_eq_false c1
  iterate 13 refine z ?_
  rw [kText, all_yes hall (by rw [size_len]; omega)]; rfl
end Go.Proofs.YtmgijbhikmjfjaaGreat

namespace Go.Proofs.YtmgijbhikmjfjaaGreat
open Go.RowKit
open Go.Proofs
set_option linter.unusedVariables false
set_option linter.unusedSimpArgs false

def isKey (k : KeyT) : Bool := (decide (1 ≤ k.1) && decide (k.1 ≤ 3)) && (decide (-1000000000000 ≤ k.2.1) && decide (k.2.1 ≤ 1000000000000)) && kText k.2.2 && !(decide (k.1 = 2) && !decide (k.2.1 = 0)) && !(decide (k.1 = 1) && !sEq k.2.2 (ByteArray.mk #[]))
def isName (s : Str) : Bool := s.data.toList.all (wch false) && (decide (1 ≤ (s.size : Int)) && decide ((s.size : Int) ≤ 8))
theorem wch_spec (b : UInt8) : (decide ((b.toNat : Int) < 97) || decide ((122 : Int) < (b.toNat : Int))) = !wch false b := by
 unfold wch
 generalize (b.toNat : Int) = z
 by_cases h1 : z < 97 <;> by_cases h2 : 122 < z <;> simp [h1, h2] <;> omega

theorem ok_impl_IsKey {k : KeyT}  : PFn Tryz.prog 99 [.agg [(.dv [] (.int .i64 (k.1))), (.dv [] (.int .i64 (k.2.1))), (.dv [] (.str (k.2.2)))]] (.one (.dv [] (.bool (isKey k)))) := by
 refine ⟨fn_intro Tryz.func99 rfl Tryz.ntmps99 Tryz.results99 rfl (fun C => ?_)⟩
 refine yF 0 0 rfl rfl fun f0_0 => ?_
 refine yF 0 1 rfl rfl fun f0_1 => ?_
 refine yF 0 2 rfl rfl fun f0_2 => ?_
 iterate 8 refine z ?_
 refine zC Tryz.call73 ?_ (hf := ok_impl_InRange)
 iterate 4 refine z ?_
 refine o_callG (gd_bool rfl rfl rfl rfl rfl) rfl rfl Tryz.call73 ok_impl_InRange (fun hg => (as_cons (ev_opt rfl hg) (ag_one ac_dv) (as_cons (ev_int (inR_lit rfl)) (ag_one ac_dv) (as_cons (ev_int (inR_lit rfl)) (ag_one ac_dv) as_nil)))) rfl rfl ?_
 iterate 5 refine z ?_
 refine o_callG (gd_bool rfl rfl rfl rfl rfl) rfl rfl Tryz.call136 ok_impl_isKeyText (fun hg => (as_cons (ev_opt rfl hg) (ag_one ac_dv) as_nil)) rfl rfl ?_
 iterate 3 refine z ?_
 refine yQ rfl (fun c1 => ?_) fun c1 => ?_
 ·skip
  iterate 6 refine z ?_
  grind [isKey]
 ·skip
  iterate 27 refine z ?_
  grind [isKey]
theorem ok_spec_IsKey {k : KeyT}  : PFn Tryz.prog 83 [.agg [(.dv [] (.int .i64 (k.1))), (.dv [] (.int .i64 (k.2.1))), (.dv [] (.str (k.2.2)))]] (.one (.dv [] (.bool (isKey k)))) := by
 refine ⟨fn_intro Tryz.func83 rfl Tryz.ntmps83 Tryz.results83 rfl (fun C => ?_)⟩
 refine yF 0 0 rfl rfl fun f0_0 => ?_
 refine yF 0 1 rfl rfl fun f0_1 => ?_
 refine yF 0 2 rfl rfl fun f0_2 => ?_
 iterate 7 refine z ?_
 refine zC Tryz.call70 ?_ (hf := ok_spec_l1In)
 iterate 3 refine z ?_
 refine o_callG (gd_bool rfl rfl rfl rfl rfl) rfl rfl Tryz.call70 ok_spec_l1In (fun hg => (as_cons (ev_opt rfl hg) (ag_one ac_dv) (as_cons (ev_int (inR_lit rfl)) (ag_one ac_dv) (as_cons (ev_int (inR_lit rfl)) (ag_one ac_dv) as_nil)))) rfl rfl ?_
 iterate 14 refine z ?_
 refine o_callG (gd_bool rfl rfl rfl rfl rfl) rfl rfl Tryz.call126 ok_spec_l4Text (fun hg => (as_cons (ev_opt rfl hg) (ag_one ac_dv) as_nil)) rfl rfl ?_
 iterate 15 refine z ?_
 grind [isKey]
theorem ok_impl_isWord {s : Str} {m : Int} {sl : Bool}  : PFn Tryz.prog 132 [.one (.dv [] (.str (s))), .one (.dv [] (.int .i64 (m))), .one (.dv [] (.bool (sl)))] (.one (.dv [] (.bool (s.data.toList.all (wch sl) && (decide (1 ≤ (s.size : Int)) && decide ((s.size : Int) ≤ m)))))) := by
 refine ⟨fn_intro Tryz.func132 rfl Tryz.ntmps132 Tryz.results132 rfl (fun C => ?_)⟩
 refine ok_fact (x := .tmp 0) (ev_tmp rfl) fun f0 => ?_
 refine ok_fact (x := .tmp 1) (ev_tmp rfl) fun f1 => ?_
 iterate 8 refine z ?_
 refine ok_loop (ι := Nat) (fun zz => ⟨[(0, .one (.dv [] (.str (s)))), (1, .one (.dv [] (.int .i64 (m)))), (2, .one (.dv [] (.bool (sl)))), (7, .one (.dv [] (.int .i64 ((zz : Int)))))], [], []⟩) (fun zz => zz ≤ s.size ∧ (s.data.toList.take zz).all (wch sl) = true) (fun zz => s.size - zz) (0) ?_ (weak_sub ⟨rfl, rfl, rfl, rfl, trivial⟩ trivial trivial rfl) (fun zz hx => ?_)
 ·exact ⟨Nat.zero_le _, rfl⟩
 obtain ⟨k, rfl⟩ : ∃ v, v = zz := ⟨_, rfl⟩
 replace hx : k ≤ s.size ∧ (s.data.toList.take k).all (wch sl) = true := hx
 obtain ⟨hk, hall⟩ := hx
 show Ok _ _ _ _ _ (⟨[(0, .one (.dv [] (.str (s)))), (1, .one (.dv [] (.int .i64 (m)))), (2, .one (.dv [] (.bool (sl)))), (7, .one (.dv [] (.int .i64 ((k : Int)))))], [], []⟩ : St)
 iterate 7 refine z ?_
 refine yQ rfl (fun c1 => ?_) fun c1 => ?_
 ·skip
  have d1 := of_decide_eq_true c1
  iterate 26 refine z ?_
  refine yQ rfl (fun c2 => ?_) fun c2 => ?_
  ·skip
   iterate 10 refine z ?_
   rw [all_no (k := k) (d := 0) (by rw [size_len]; omega) (by have h : (!wch sl (s.data.toList.getD k 0)) = true := c2; simpa using h)]; rfl
  ·skip
   iterate 3 refine z ?_
   refine ok_region ?_
   iterate 4 refine z ?_
   refine ⟨k + 1, ?_, ?_, weak_sub ⟨rfl, rfl, rfl, rfl, trivial⟩ trivial trivial rfl⟩
   ·exact ⟨by omega, take_all (d := 0) hall (by rw [size_len]; omega) (by have h : (!wch sl (s.data.toList.getD k 0)) = false := c2; simpa using h)⟩
   ·omega
 ·skip
  have d1 := of_decide_eq_false c1
  iterate 9 refine z ?_
  refine zC Tryz.call73 ?_ (hf := ok_impl_InRange)
  iterate 4 refine z ?_
  rw [all_yes hall (by rw [size_len]; omega)]; rfl
theorem ok_impl_IsName {s : Str}  : PFn Tryz.prog 95 [.one (.dv [] (.str (s)))] (.one (.dv [] (.bool (isName s)))) := by
 refine ⟨fn_intro Tryz.func95 rfl Tryz.ntmps95 Tryz.results95 rfl (fun C => ?_)⟩
 refine ok_fact (x := .tmp 0) (ev_tmp rfl) fun f0 => ?_
 iterate 5 refine z ?_
 refine zC Tryz.call132 ?_ (hf := ok_impl_isWord)
 iterate 4 refine z ?_
 rfl
theorem ok_spec_IsName {s : Str}  : PFn Tryz.prog 81 [.one (.dv [] (.str (s)))] (.one (.dv [] (.bool (isName s)))) := by
 refine ⟨fn_intro Tryz.func81 rfl Tryz.ntmps81 Tryz.results81 rfl (fun C => ?_)⟩
 refine ok_fact (x := .tmp 0) (ev_tmp rfl) fun f0 => ?_
 iterate 8 refine z ?_
 refine ok_loop (ι := Nat) (fun zz => ⟨[(0, .one (.dv [] (.str (s)))), (3, .one (.dv [] (.int .i64 ((zz : Int)))))], [], []⟩) (fun zz => zz ≤ s.size ∧ (s.data.toList.take zz).all (wch false) = true) (fun zz => s.size - zz) (0) ?_ (weak_sub ⟨rfl, rfl, trivial⟩ trivial trivial rfl) (fun zz hx => ?_)
 ·exact ⟨Nat.zero_le _, rfl⟩
 obtain ⟨k, rfl⟩ : ∃ v, v = zz := ⟨_, rfl⟩
 replace hx : k ≤ s.size ∧ (s.data.toList.take k).all (wch false) = true := hx
 obtain ⟨hk, hall⟩ := hx
 show Ok _ _ _ _ _ (⟨[(0, .one (.dv [] (.str (s)))), (3, .one (.dv [] (.int .i64 ((k : Int)))))], [], []⟩ : St)
 iterate 7 refine z ?_
 refine yQ rfl (fun c1 => ?_) fun c1 => ?_
 ·skip
  have d1 := of_decide_eq_true c1
  iterate 16 refine z ?_
  refine yQ rfl (fun c2 => ?_) fun c2 => ?_
  ·skip
   iterate 10 refine z ?_
   rw [isName, all_no (k := k) (d := 0) (by rw [size_len]; omega) (by have h := (wch_spec (s.data.toList.getD k 0)).symm.trans c2; simpa using h)]; rfl
  ·skip
   iterate 3 refine z ?_
   refine ok_region ?_
   iterate 4 refine z ?_
   refine ⟨k + 1, ?_, ?_, weak_sub ⟨rfl, rfl, trivial⟩ trivial trivial rfl⟩
   ·exact ⟨by omega, take_all (d := 0) hall (by rw [size_len]; omega) (by have h := (wch_spec (s.data.toList.getD k 0)).symm.trans c2; simpa using h)⟩
   ·omega
 ·skip
  have d1 := of_decide_eq_false c1
  iterate 8 refine z ?_
  refine zC Tryz.call70 ?_ (hf := ok_spec_l1In)
  iterate 4 refine z ?_
  rw [isName, all_yes hall (by rw [size_len]; omega)]; rfl
end Go.Proofs.YtmgijbhikmjfjaaGreat

namespace Go.Proofs.YtmgijbhikmjfjaaGreat
open Go.RowKit
open Go.Proofs
set_option linter.unusedVariables false
set_option linter.unusedSimpArgs false

theorem bl_total : ∀ (x y : List UInt8), (Op.bytesLess x y || (x == y)) = !Op.bytesLess y x
 | [], [] => rfl
 | [], _ :: _ => rfl
 | _ :: _, [] => rfl
 | a :: x, b :: y => by
  have ih := bl_total x y
  simp only [Op.bytesLess]
  rcases Nat.lt_trichotomy a.toNat b.toNat with h | h | h
  ·have h1 : a < b := h
   have h2 : ¬ b < a := by intro h'; have : b.toNat < a.toNat := h'; omega
   have h3 : ¬ a = b := by rintro rfl; omega
   have h4 : ¬ b = a := fun e => h3 e.symm
   simp [h1, h2, h3, h4]
  ·have e : a = b := UInt8.toNat_inj.1 h
   subst e
   simpa using ih
  ·have h1 : b < a := h
   have h2 : ¬ a < b := by intro h'; have : a.toNat < b.toNat := h'; omega
   have h3 : ¬ a = b := by rintro rfl; omega
   have h4 : ¬ b = a := fun e => h3 e.symm
   simp [h1, h2, h3, h4]
theorem sLe_eq (a b : Str) : (sLt a b || sEq a b) = !sLt b a := bl_total _ _
theorem rall_succ {p : Nat → Bool} {k : Nat} (h : (List.range k).all p = true) (hp : p k = true) : (List.range (k + 1)).all p = true := by
 rw [List.range_succ, List.all_append, h]; simpa using hp
theorem rall_no {p : Nat → Bool} {k n : Nat} (hk : k < n) (hp : p k = false) : (List.range n).all p = false := by
 rw [List.all_eq_false]; exact ⟨k, List.mem_range.2 hk, by simpa using hp⟩
def recBad (r : RecT) (i : Nat) : Bool := (!isName (r.getD (i : Int).toNat default).1 || !(decide ((0 : Int) ≤ (r.getD (i : Int).toNat default).2) && decide ((r.getD (i : Int).toNat default).2 ≤ 1000000000))) ||
 (decide ((0 : Int) < (i : Int)) && (sLt (r.getD (i : Int).toNat default).1 (r.getD ((i : Int) - 1).toNat default).1 || sEq (r.getD (i : Int).toNat default).1 (r.getD ((i : Int) - 1).toNat default).1))
def isRec (r : RecT) : Bool := (List.range r.length).all (fun i => !recBad r i) && decide ((r.length : Int) ≤ 6)
def recBadS (r : RecT) (i : Nat) : Bool := (!isName (r.getD (i : Int).toNat default).1 || !(decide ((0 : Int) ≤ (r.getD (i : Int).toNat default).2) && decide ((r.getD (i : Int).toNat default).2 ≤ 1000000000))) ||
 (decide ((0 : Int) < (i : Int)) && !sLt (r.getD ((i : Int) - 1).toNat default).1 (r.getD (i : Int).toNat default).1)
theorem recBadS_eq (r : RecT) (i : Nat) : recBadS r i = recBad r i := by unfold recBadS recBad; rw [sLe_eq]

theorem ok_impl_IsRecord {r : RecT}  : PFn Tryz.prog 100 [.agg [(.dv [] (fieldsD (r)))]] (.one (.dv [] (.bool (isRec r)))) := by
 refine ⟨fn_intro Tryz.func100 rfl Tryz.ntmps100 Tryz.results100 rfl (fun C => ?_)⟩
 refine yF 0 0 rfl rfl fun f0_0 => ?_
 iterate 12 refine z ?_
 refine ok_loop (ι := Nat) (fun zz => ⟨[(1, .box 1 0), (6, .one (.dv [] (fieldsD (r)))), (7, .one (.dv [] (.int .i64 ((((r)).length : Int))))), (8, .one (.dv [] (.int .i64 ((zz : Int)))))], [(1, 45, [(.dv [] (fieldsD (r)))])], []⟩) (fun zz => zz ≤ r.length ∧ (List.range zz).all (fun i => !recBad r i) = true) (fun zz => r.length - zz) (0) ?_ (weak_sub ⟨rfl, rfl, rfl, rfl, trivial⟩ ⟨rfl, trivial⟩ trivial rfl) (fun zz hx => ?_)
 ·exact ⟨Nat.zero_le _, rfl⟩
 obtain ⟨k, rfl⟩ : ∃ v, v = zz := ⟨_, rfl⟩
 replace hx : k ≤ r.length ∧ (List.range k).all (fun i => !recBad r i) = true := hx
 obtain ⟨hk, hall⟩ := hx
 show Ok _ _ _ _ _ (⟨[(1, .box 1 0), (6, .one (.dv [] (fieldsD (r)))), (7, .one (.dv [] (.int .i64 ((((r)).length : Int))))), (8, .one (.dv [] (.int .i64 ((k : Int)))))], [(1, 45, [(.dv [] (fieldsD (r)))])], []⟩ : St)
 iterate 3 refine z ?_
 refine ok_seq ?_
 refine yQ rfl (fun c1 => ?_) fun c1 => ?_
 ·skip
  have d1 := of_decide_eq_true c1
  iterate 12 refine z ?_
  refine ok_seq ?_
  refine ok_regionD (oB := [1, 4]) (oK := []) (by kernel_rfl) rfl rfl ?_
  refine zD 0 ?_
  refine zD 1 ?_
  refine d_call 2 rfl (by kernel_rfl) rfl rfl rfl Tryz.call95 ok_impl_IsName (as_cons (ev_tmp rfl) (ag_one ac_dv) as_nil) rfl rfl rfl rfl ?_
  refine zD 3 ?_
  refine zD 4 ?_
  refine zDG 5 ?_
  refine zDG 6 ?_
  refine d_callG 7 rfl (by kernel_rfl) (gd_bool rfl rfl rfl rfl rfl) rfl rfl Tryz.call73 ok_impl_InRange (fun hg => (as_cons (ev_opt rfl hg) (ag_one ac_dv) (as_cons (ev_int (inR_lit rfl)) (ag_one ac_dv) (as_cons (ev_int (inR_lit rfl)) (ag_one ac_dv) as_nil)))) rfl rfl ?_
  refine zDG 8 ?_
  refine zD 9 ?_
  refine zD 10 ?_
  refine zDG 11 ?_
  refine zDG 12 ?_
  refine zDG 13 ?_
  refine zDG 14 ?_
  refine zDG 15 ?_
  refine zDG 16 ?_
  refine zDG 17 ?_
  refine zDG 18 ?_
  refine zDG 19 ?_
  refine zDG 20 ?_
  refine zDG 21 ?_
  refine zDG 22 ?_
  refine zDG 23 ?_
  refine zDG 24 ?_
  refine zD 25 ?_
  refine d_done (by kernel_rfl) ?_
  refine z ?_
  refine yQ rfl (fun c2 => ?_) fun c2 => ?_
  ·skip
   iterate 10 refine z ?_
   rw [isRec, rall_no (k := k) (by omega) (by have h : recBad r k = true := c2; simpa using h)]; rfl
  ·skip
   iterate 3 refine z ?_
   refine ok_region ?_
   iterate 3 refine z ?_
   refine ⟨k + 1, ?_, ?_, weak_sub ⟨rfl, rfl, rfl, rfl, trivial⟩ ⟨rfl, trivial⟩ trivial rfl⟩
   ·exact ⟨by omega, rall_succ hall (by have h : recBad r k = false := c2; simpa using h)⟩
   ·omega
 ·skip
  have d1 := of_decide_eq_false c1
  iterate 14 refine z ?_
  obtain rfl : k = r.length := by omega
  rw [isRec, hall]; rfl
theorem ok_spec_IsRecord {r : RecT}  : PFn Tryz.prog 84 [.agg [(.dv [] (fieldsD (r)))]] (.one (.dv [] (.bool (isRec r)))) := by
 refine ⟨fn_intro Tryz.func84 rfl Tryz.ntmps84 Tryz.results84 rfl (fun C => ?_)⟩
 refine yF 0 0 rfl rfl fun f0_0 => ?_
 iterate 9 refine z ?_
 refine ok_loop (ι := Nat) (fun zz => ⟨[(1, .box 1 0), (3, .one (.dv [] (.int .i64 ((zz : Int)))))], [(1, 45, [(.dv [] (fieldsD (r)))])], []⟩) (fun zz => zz ≤ r.length ∧ (List.range zz).all (fun i => !recBad r i) = true) (fun zz => r.length - zz) (0) ?_ (weak_sub ⟨rfl, rfl, trivial⟩ ⟨rfl, trivial⟩ trivial rfl) (fun zz hx => ?_)
 ·exact ⟨Nat.zero_le _, rfl⟩
 obtain ⟨k, rfl⟩ : ∃ v, v = zz := ⟨_, rfl⟩
 replace hx : k ≤ r.length ∧ (List.range k).all (fun i => !recBad r i) = true := hx
 obtain ⟨hk, hall⟩ := hx
 show Ok _ _ _ _ _ (⟨[(1, .box 1 0), (3, .one (.dv [] (.int .i64 ((k : Int)))))], [(1, 45, [(.dv [] (fieldsD (r)))])], []⟩ : St)
 iterate 8 refine z ?_
 refine yQ rfl (fun c1 => ?_) fun c1 => ?_
 ·skip
  have d1 := of_decide_eq_true c1
  iterate 4 refine z ?_
  refine ok_seq ?_
  refine ok_regionD (oB := [1]) (oK := []) (by kernel_rfl) rfl rfl ?_
  refine zD 0 ?_
  refine zD 1 ?_
  refine zD 2 ?_
  refine zD 3 ?_
  refine zD 4 ?_
  refine zD 5 ?_
  refine d_call 6 rfl (by kernel_rfl) rfl rfl rfl Tryz.call81 ok_spec_IsName (as_cons (ev_tmp rfl) (ag_one ac_dv) as_nil) rfl rfl rfl rfl ?_
  refine zD 7 ?_
  refine zD 8 ?_
  refine zDG 9 ?_
  refine zDG 10 ?_
  refine zDG 11 ?_
  refine zDG 12 ?_
  refine zDG 13 ?_
  refine zDG 14 ?_
  refine d_callG 15 rfl (by kernel_rfl) (gd_bool rfl rfl rfl rfl rfl) rfl rfl Tryz.call70 ok_spec_l1In (fun hg => (as_cons (ev_opt rfl hg) (ag_one ac_dv) (as_cons (ev_int (inR_lit rfl)) (ag_one ac_dv) (as_cons (ev_int (inR_lit rfl)) (ag_one ac_dv) as_nil)))) rfl rfl ?_
  refine zDG 16 ?_
  refine zD 17 ?_
  refine zD 18 ?_
  refine zDG 19 ?_
  refine zDG 20 ?_
  refine zDG 21 ?_
  refine zDG 22 ?_
  refine zDG 23 ?_
  refine zDG 24 ?_
  refine zDG 25 ?_
  refine zDG 26 ?_
  refine zDG 27 ?_
  refine zDG 28 ?_
  refine zDG 29 ?_
  refine zDG 30 ?_
  refine zDG 31 ?_
  refine zDG 32 ?_
  refine zDG 33 ?_
  refine zDG 34 ?_
  refine zDG 35 ?_
  refine zDG 36 ?_
  refine zD 37 ?_
  refine d_done (by kernel_rfl) ?_
  refine z ?_
  refine yQ rfl (fun c2 => ?_) fun c2 => ?_
  ·skip
   iterate 10 refine z ?_
   rw [isRec, rall_no (k := k) (by omega) (by have h : recBadS r k = true := c2; rw [recBadS_eq] at h; simpa using h)]; rfl
  ·skip
   iterate 3 refine z ?_
   refine ok_region ?_
   iterate 4 refine z ?_
   refine ⟨k + 1, ?_, ?_, weak_sub ⟨rfl, rfl, trivial⟩ ⟨rfl, trivial⟩ trivial rfl⟩
   ·exact ⟨by omega, rall_succ hall (by have h : recBadS r k = false := c2; rw [recBadS_eq] at h; simpa using h)⟩
   ·omega
 ·skip
  have d1 := of_decide_eq_false c1
  iterate 14 refine z ?_
  obtain rfl : k = r.length := by omega
  rw [isRec, hall]; rfl
end Go.Proofs.YtmgijbhikmjfjaaGreat

namespace Go.Proofs.YtmgijbhikmjfjaaGreat
open Go.RowKit
open Go.Proofs
set_option linter.unusedVariables false
set_option linter.unusedSimpArgs false

def szR (left : Int) (w : Nat) : Int := if (w : Int) ≤ left then left - (w : Int) else -1
def wSum {α : Type} (w : α → Nat) (xs : List α) : Nat := (xs.map w).sum
def wList {α : Type} (w : α → Nat) (xs : List α) : Nat := xs.length + wSum w xs
theorem wSum_app {α : Type} (w : α → Nat) (xs ys : List α) : wSum w (xs ++ ys) = wSum w xs + wSum w ys := by simp [wSum]
theorem wSum_le {α : Type} (w : α → Nat) (xs : List α) (k : Nat) : wSum w (xs.take k) ≤ wSum w xs := by
 have h := wSum_app w (xs.take k) (xs.drop k)
 rw [List.take_append_drop] at h
 omega
theorem wSum_succ {α : Type} [Inhabited α] (w : α → Nat) (xs : List α) (k : Nat) (h : k < xs.length) : wSum w (xs.take (k + 1)) = wSum w (xs.take k) + w (xs.getD (k : Int).toNat default) ∧ wSum w (xs.take (k + 1)) ≤ wSum w xs := by
 refine ⟨?_, wSum_le w xs _⟩
 have : xs.take (k + 1) = xs.take k ++ [xs.getD k default] := by
  rw [List.take_add_one, List.getElem?_eq_getElem h]; simp [List.getD, List.getElem?_eq_getElem h]
 rw [this, wSum_app]
 simp [wSum]
theorem wSum_all {α : Type} (w : α → Nat) (xs : List α) (k : Nat) (h : xs.length ≤ k) : wSum w (xs.take k) = wSum w xs := by rw [List.take_of_length_le h]
theorem wList_len {α : Type} (w : α → Nat) (xs : List α) : xs.length ≤ wList w xs := by unfold wList; omega
theorem szR_nn {l : Int} {w : Nat} (h : ¬ szR l w < 0) : (w : Int) ≤ l ∧ szR l w = l - w := by unfold szR at h ⊢; split at h <;> simp_all
theorem szR_n {l : Int} {w : Nat} (h : szR l w < 0) (h0 : 0 ≤ l := by omega) : l < (w : Int) := by unfold szR at h; split at h <;> omega
theorem szR_cases (l : Int) (w : Nat) : ((w : Int) ≤ l ∧ szR l w = l - w) ∨ (l < w ∧ szR l w = -1) := by unfold szR; split <;> omega
def wKey (x : KeyT) : Nat := (x.2.2).size
def wField (x : FieldT) : Nat := (x.1).size
def wRecord (x : RecT) : Nat := wList wField (x)
def wItem (x : ItemT) : Nat := wKey (x.1) + wRecord (x.2)
def wStore (x : StoreT) : Nat := (x.1).size + wList wItem (x.2.1)
def wIndexDef (x : DefT) : Nat := (x.1).size + (x.2).size
def wDatabase (x : DbT) : Nat := (x.1).size + wList wStore (x.2.2.1) + wList wIndexDef (x.2.2.2)
def wOp (x : OpT) : Nat := (x.2.1).size + wKey (x.2.2.1) + wRecord (x.2.2.2.1) + (x.2.2.2.2).size
def wTx (x : TxT) : Nat := wList wOp (x.2.1) + wList wStore (x.2.2.2.2)
def wTxQueue (x : List TxT) : Nat := wList wTx (x)
theorem ok_laws_szKey {x : KeyT} {left : Int} (h0 : 0 ≤ left) (h1 : left ≤ 1048576) : PFn Tryz.prog 38 [.agg [(.dv [] (.int .i64 (x.1))), (.dv [] (.int .i64 (x.2.1))), (.dv [] (.str (x.2.2)))], .one (.dv [] (.int .i64 (left)))] (.one (.dv [] (.int .i64 (szR (left) (wKey x))))) := by
 refine ⟨fn_intro Tryz.func38 rfl Tryz.ntmps38 Tryz.results38 rfl (fun C => ?_)⟩
 refine yF 0 0 rfl rfl fun f0_0 => ?_
 refine yF 0 1 rfl rfl fun f0_1 => ?_
 refine yF 0 2 rfl rfl fun f0_2 => ?_
 refine ok_fact (x := .tmp 1) (ev_tmp rfl) fun f1 => ?_
 iterate 17 refine z ?_
 refine yQ rfl (fun c1 => ?_) fun c1 => ?_
 ·skip
  have d1 := of_decide_eq_true c1
  first | have q1 := szR_n d1 | skip
  iterate 6 refine z ?_
  have hh := szR_cases left (wKey x); simp only [wKey] at hh ⊢ <;> omega
 ·skip
  have d1 := of_decide_eq_false c1
  first | have q1 := szR_nn d1 | skip
  iterate 8 refine z ?_
  have hh := szR_cases left (wKey x); simp only [wKey] at hh ⊢ <;> omega
theorem ok_laws_szField {x : FieldT} {left : Int} (h0 : 0 ≤ left) (h1 : left ≤ 1048576) : PFn Tryz.prog 121 [.agg [(.dv [] (.str (x.1))), (.dv [] (.int .i64 (x.2)))], .one (.dv [] (.int .i64 (left)))] (.one (.dv [] (.int .i64 (szR (left) (wField x))))) := by
 refine ⟨fn_intro Tryz.func121 rfl Tryz.ntmps121 Tryz.results121 rfl (fun C => ?_)⟩
 refine yF 0 0 rfl rfl fun f0_0 => ?_
 refine yF 0 1 rfl rfl fun f0_1 => ?_
 refine ok_fact (x := .tmp 1) (ev_tmp rfl) fun f1 => ?_
 iterate 17 refine z ?_
 refine yQ rfl (fun c1 => ?_) fun c1 => ?_
 ·skip
  have d1 := of_decide_eq_true c1
  first | have q1 := szR_n d1 | skip
  iterate 6 refine z ?_
  have hh := szR_cases left (wField x); simp only [wField] at hh ⊢ <;> omega
 ·skip
  have d1 := of_decide_eq_false c1
  first | have q1 := szR_nn d1 | skip
  iterate 8 refine z ?_
  have hh := szR_cases left (wField x); simp only [wField] at hh ⊢ <;> omega
theorem ok_laws_szFieldS {x : List (FieldT)} {left : Int} (h0 : 0 ≤ left) (h1 : left ≤ 1048576) : PFn Tryz.prog 78 [.one (.dv [] (fieldsD (x))), .one (.dv [] (.int .i64 (left)))] (.one (.dv [] (.int .i64 (szR (left) (wList wField x))))) := by
 refine ⟨fn_intro Tryz.func78 rfl Tryz.ntmps78 Tryz.results78 rfl (fun C => ?_)⟩
 refine ok_fact (x := .tmp 0) (ev_tmp rfl) fun f0 => ?_
 refine ok_fact (x := .tmp 1) (ev_tmp rfl) fun f1 => ?_
 iterate 15 refine z ?_
 refine yQ rfl (fun c1 => ?_) fun c1 => ?_
 ·skip
  have d1 := of_decide_eq_true c1
  first | have q1 := szR_n d1 | skip
  iterate 6 refine z ?_
  have hh := szR_cases left (wList wField x); simp only [wList] at hh ⊢ <;> omega
 ·skip
  have d1 := of_decide_eq_false c1
  first | have q1 := szR_nn d1 | skip
  iterate 7 refine z ?_
  refine ok_loop (ι := Nat × Int) (fun zz => ⟨[(0, .one (.dv [] (fieldsD (x)))), (1, .one (.dv [] (.int .i64 (zz.2)))), (5, .one (.dv [] (.int .i64 ((zz.1 : Int)))))], [], []⟩) (fun zz => zz.1 ≤ x.length ∧ 0 ≤ zz.2 ∧ zz.2 + (wSum wField (x.take zz.1) : Int) = left - (x.length : Int)) (fun zz => x.length - zz.1) ((0, left - (x.length : Int))) ?_ (weak_sub ⟨rfl, rfl, rfl, trivial⟩ trivial trivial rfl) (fun zz hx => ?_)
  ·exact ⟨Nat.zero_le _, by omega, by simp [wSum]⟩
  obtain ⟨k, l⟩ := zz
  replace hx : k ≤ x.length ∧ 0 ≤ l ∧ l + (wSum wField (x.take k) : Int) = left - (x.length : Int) := hx
  obtain ⟨hk, hl, he⟩ := hx
  have hw := fun h => wSum_succ wField x k h
  show Ok _ _ _ _ _ (⟨[(0, .one (.dv [] (fieldsD (x)))), (1, .one (.dv [] (.int .i64 (l)))), (5, .one (.dv [] (.int .i64 ((k : Int)))))], [], []⟩ : St)
  iterate 7 refine z ?_
  refine yQ rfl (fun c2 => ?_) fun c2 => ?_
  ·skip
   have d2 := of_decide_eq_true c2
   first | have q2 := szR_n d2 | skip
   iterate 10 refine z ?_
   refine zC Tryz.call121 ?_ (hf := ok_laws_szField (by omega) (by omega))
   iterate 6 refine z ?_
   refine yQ rfl (fun c3 => ?_) fun c3 => ?_
   ·skip
    have d3 := of_decide_eq_true c3
    first | have q3 := szR_n d3 | skip
    iterate 10 refine z ?_
    have hw' := hw (by omega); have hh := szR_cases left (wList wField x); simp only [wList] at hh ⊢ <;> omega
   ·skip
    have d3 := of_decide_eq_false c3
    first | have q3 := szR_nn d3 | skip
    iterate 3 refine z ?_
    refine ok_region ?_
    iterate 4 refine z ?_
    refine ⟨(k + 1, szR l (wField (x.getD (k : Int).toNat default))), ?_, ?_, weak_sub ⟨rfl, rfl, rfl, trivial⟩ trivial trivial rfl⟩
    ·have hw' := hw (by omega)
     dsimp only
     exact ⟨by omega, by omega, by omega⟩
    ·omega
  ·skip
   have d2 := of_decide_eq_false c2
   first | have q2 := szR_nn d2 | skip
   iterate 11 refine z ?_
   have hw' := wSum_all wField x k (by omega); have hh := szR_cases left (wList wField x); simp only [wList] at hh ⊢ <;> omega
theorem ok_laws_szRecord {x : RecT} {left : Int} (h0 : 0 ≤ left) (h1 : left ≤ 1048576) : PFn Tryz.prog 39 [.agg [(.dv [] (fieldsD (x)))], .one (.dv [] (.int .i64 (left)))] (.one (.dv [] (.int .i64 (szR (left) (wRecord x))))) := by
 refine ⟨fn_intro Tryz.func39 rfl Tryz.ntmps39 Tryz.results39 rfl (fun C => ?_)⟩
 refine yF 0 0 rfl rfl fun f0_0 => ?_
 refine ok_fact (x := .tmp 1) (ev_tmp rfl) fun f1 => ?_
 iterate 8 refine z ?_
 refine zC Tryz.call78 ?_ (hf := ok_laws_szFieldS (by omega) (by omega))
 iterate 7 refine z ?_
 refine yQ rfl (fun c1 => ?_) fun c1 => ?_
 ·skip
  have d1 := of_decide_eq_true c1
  first | have q1 := szR_n d1 | skip
  iterate 6 refine z ?_
  have hh := szR_cases left (wRecord x); simp only [wRecord] at hh ⊢ <;> omega
 ·skip
  have d1 := of_decide_eq_false c1
  first | have q1 := szR_nn d1 | skip
  iterate 8 refine z ?_
  have hh := szR_cases left (wRecord x); simp only [wRecord] at hh ⊢ <;> omega
theorem ok_laws_szOp {x : OpT} {left : Int} (h0 : 0 ≤ left) (h1 : left ≤ 1048576) : PFn Tryz.prog 8 [.agg [(.dv [] (.int .i64 (x.1))), (.dv [] (.str (x.2.1))), (.dv [] (.int .i64 (x.2.2.1.1))), (.dv [] (.int .i64 (x.2.2.1.2.1))), (.dv [] (.str (x.2.2.1.2.2))), (.dv [] (fieldsD (x.2.2.2.1))), (.dv [] (.str (x.2.2.2.2)))], .one (.dv [] (.int .i64 (left)))] (.one (.dv [] (.int .i64 (szR (left) (wOp x))))) := by
 refine ⟨fn_intro Tryz.func8 rfl Tryz.ntmps8 Tryz.results8 rfl (fun C => ?_)⟩
 refine yF 0 0 rfl rfl fun f0_0 => ?_
 refine yF 0 1 rfl rfl fun f0_1 => ?_
 refine yF 0 2 rfl rfl fun f0_2 => ?_
 refine yF 0 3 rfl rfl fun f0_3 => ?_
 refine yF 0 4 rfl rfl fun f0_4 => ?_
 refine yF 0 5 rfl rfl fun f0_5 => ?_
 refine yF 0 6 rfl rfl fun f0_6 => ?_
 refine ok_fact (x := .tmp 1) (ev_tmp rfl) fun f1 => ?_
 iterate 17 refine z ?_
 refine yQ rfl (fun c1 => ?_) fun c1 => ?_
 ·skip
  have d1 := of_decide_eq_true c1
  first | have q1 := szR_n d1 | skip
  iterate 6 refine z ?_
  have hh := szR_cases left (wOp x); simp only [wOp] at hh ⊢ <;> omega
 ·skip
  have d1 := of_decide_eq_false c1
  first | have q1 := szR_nn d1 | skip
  iterate 6 refine z ?_
  refine zC Tryz.call38 ?_ (hf := ok_laws_szKey (by omega) (by omega))
  iterate 7 refine z ?_
  refine yQ rfl (fun c2 => ?_) fun c2 => ?_
  ·skip
   have d2 := of_decide_eq_true c2
   first | have q2 := szR_n d2 | skip
   iterate 6 refine z ?_
   have hh := szR_cases left (wOp x); simp only [wOp] at hh ⊢ <;> omega
  ·skip
   have d2 := of_decide_eq_false c2
   first | have q2 := szR_nn d2 | skip
   iterate 6 refine z ?_
   refine zC Tryz.call39 ?_ (hf := ok_laws_szRecord (by omega) (by omega))
   iterate 7 refine z ?_
   refine yQ rfl (fun c3 => ?_) fun c3 => ?_
   ·skip
    have d3 := of_decide_eq_true c3
    first | have q3 := szR_n d3 | skip
    iterate 6 refine z ?_
    have hh := szR_cases left (wOp x); simp only [wOp] at hh ⊢ <;> omega
   ·skip
    have d3 := of_decide_eq_false c3
    first | have q3 := szR_nn d3 | skip
    iterate 15 refine z ?_
    refine yQ rfl (fun c4 => ?_) fun c4 => ?_
    ·skip
     have d4 := of_decide_eq_true c4
     first | have q4 := szR_n d4 | skip
     iterate 6 refine z ?_
     have hh := szR_cases left (wOp x); simp only [wOp] at hh ⊢ <;> omega
    ·skip
     have d4 := of_decide_eq_false c4
     first | have q4 := szR_nn d4 | skip
     iterate 8 refine z ?_
     have hh := szR_cases left (wOp x); simp only [wOp] at hh ⊢ <;> omega
theorem ok_laws_toKey {x : KeyT}  : PFn Tryz.prog 47 [.agg [(.dv [] (.int .i64 (x.1))), (.dv [] (.int .i64 (x.2.1))), (.dv [] (.str (x.2.2)))]] (.agg [(.dv [] (.int .i64 (x.1))), (.dv [] (.int .i64 (x.2.1))), (.dv [] (.str (x.2.2)))]) := by
 refine ⟨fn_intro Tryz.func47 rfl Tryz.ntmps47 Tryz.results47 rfl (fun C => ?_)⟩
 refine yF 0 0 rfl rfl fun f0_0 => ?_
 refine yF 0 1 rfl rfl fun f0_1 => ?_
 refine yF 0 2 rfl rfl fun f0_2 => ?_
 iterate 30 refine z ?_
 refine fin1 (res_cell hT rfl rfl rfl rfl) ?_
 rfl
theorem ok_laws_toField {x : FieldT}  : PFn Tryz.prog 131 [.agg [(.dv [] (.str (x.1))), (.dv [] (.int .i64 (x.2)))]] (.agg [(.dv [] (.str (x.1))), (.dv [] (.int .i64 (x.2)))]) := by
 refine ⟨fn_intro Tryz.func131 rfl Tryz.ntmps131 Tryz.results131 rfl (fun C => ?_)⟩
 refine yF 0 0 rfl rfl fun f0_0 => ?_
 refine yF 0 1 rfl rfl fun f0_1 => ?_
 iterate 24 refine z ?_
 refine fin1 (res_cell hT rfl rfl rfl rfl) ?_
 rfl
theorem ok_laws_toFieldS {x : List (FieldT)} (hb : wList wField x ≤ 1048576) : KFn Tryz.prog 92 [.one (.dv [] (fieldsD (x)))] (.one (.key 7)) [(7, some (kcOf false (fieldsD (x))))] := by
 refine ⟨fn_intro Tryz.func92 rfl Tryz.ntmps92 Tryz.results92 rfl (fun C => ?_)⟩
 refine ok_fact (x := .tmp 0) (ev_tmp rfl) fun f0 => ?_
 iterate 6 refine z ?_
 refine o_make (k := 7) (n := ((x)).length) (zd := [.str (ByteArray.empty), .int .i64 (0)]) (cs := fillD eField [.str (ByteArray.empty), .int .i64 (0)] x 0) hT rfl rfl rfl rfl rfl rfl (ev_tmp rfl) (ev_tmp rfl) rfl rfl rfl (by have := wList_len wField x; omega) rfl rfl fillD_zero ?_
 iterate 7 refine z ?_
 refine ok_loop (ι := Nat) (fun zz => ⟨[(0, .one (.dv [] (fieldsD (x)))), (3, .one (.key 7)), (4, .one (.dv [] (.int .i64 ((zz : Int)))))], [], [(7, some (kcOf false (.sl 158 2 ((x).length) (fillD eField [.str (ByteArray.empty), .int .i64 (0)] x zz))))]⟩) (fun zz => zz ≤ x.length) (fun zz => x.length - zz) (0) ?_ (weak_sub ⟨rfl, rfl, rfl, trivial⟩ trivial ⟨rfl, trivial⟩ rfl) (fun zz hx => ?_)
 ·exact Nat.zero_le _
 obtain ⟨k, rfl⟩ : ∃ v, v = zz := ⟨_, rfl⟩
 replace hx : k ≤ x.length := hx
 have hw := fun h => wSum_succ wField x k h
 have hw2 := wSum_le wField x (k + 1)
 have hw3 : wList wField x = x.length + wSum wField x := rfl
 show Ok _ _ _ _ _ (⟨[(0, .one (.dv [] (fieldsD (x)))), (3, .one (.key 7)), (4, .one (.dv [] (.int .i64 ((k : Int)))))], [], [(7, some (kcOf false (.sl 158 2 ((x).length) (fillD eField [.str (ByteArray.empty), .int .i64 (0)] x k))))]⟩ : St)
 iterate 7 refine z ?_
 refine yQ rfl (fun c1 => ?_) fun c1 => ?_
 ·skip
  have d1 := of_decide_eq_true c1
  iterate 4 refine z ?_
  refine ok_region ?_
  iterate 6 refine z ?_
  refine zC Tryz.call131 ?_ (hf := ok_laws_toField)
  refine yO rfl rfl (pu_indexK (i := k) hT rfl rfl rfl (ev_tmp rfl) rfl (ev_tmp rfl) rfl (by show _ < ((x).length); omega)) rfl ?_
  refine o_storeE (js := []) (cs := fillD eField [.str (ByteArray.empty), .int .i64 (0)] x (k + 1)) hT rfl rfl rfl rfl (ev_tmp rfl) (ev_tmp rfl) rfl rfl rfl rfl (ow_cons' (ow_dv rfl) (ow_cons' (ow_dv rfl) ow_nil rfl) rfl) (by decide) (by decide) rfl (by show _ ≤ List.length (fillD eField [.str (ByteArray.empty), .int .i64 (0)] x k); rw [fillD_len (sz := 2) (fun _ => rfl) rfl]; omega) (fillD_succ (sz := 2) (fun _ => rfl) rfl (by omega) rfl) ?_
  simp only [killT, killB, SV.kill, CV.kill, kk, Nat.reduceBEq]
  refine ops_nil ?_
  iterate 2 refine z ?_
  refine ok_region ?_
  iterate 4 refine z ?_
  refine ⟨k + 1, ?_, ?_, weak_sub ⟨rfl, rfl, rfl, trivial⟩ trivial ⟨rfl, trivial⟩ rfl⟩
  ·omega
  ·omega
 ·skip
  have d1 := of_decide_eq_false c1
  iterate 9 refine z ?_
  refine ok_weak (σ' := ⟨[(2, .one (.key 7))], [], [(7, some (kcOf false (fieldsD (x))))]⟩) (weak_sub ⟨rfl, trivial⟩ trivial ⟨(congrArg (fun cs => some (some (KC.mk false 158 2 x.length cs))) (fillD_all (by omega))), trivial⟩ rfl) ?_
  refine z ?_
  refine fin1 (res_tmp rfl) ?_
  exact ⟨rfl, rfl⟩
theorem ok_laws_toRecord {x : RecT} (hb : wRecord x ≤ 1048576) : KFn Tryz.prog 48 [.agg [(.dv [] (fieldsD (x)))]] (.agg [(.key 6007)]) [(6007, some (kcOf false (fieldsD (x))))] := by
 refine ⟨fn_intro Tryz.func48 rfl Tryz.ntmps48 Tryz.results48 rfl (fun C => ?_)⟩
 refine yF 0 0 rfl rfl fun f0_0 => ?_
 iterate 10 refine z ?_
 refine zK 6000 Tryz.call92 ?_ (hf := ok_laws_toFieldS (by first | omega | (simp only [wKey, wField, wRecord, wItem, wStore, wIndexDef, wDatabase, wOp, wTx, wTxQueue] at hb ⊢; omega) | (have hq := hw (by omega); omega)))
 iterate 7 refine z ?_
 refine ok_weak (σ' := ⟨[(2, .box 2 0)], [(2, 45, [(.key 6007)])], [(6007, some (kcOf false (fieldsD (x))))]⟩) (weak_sub ⟨rfl, trivial⟩ ⟨rfl, trivial⟩ ⟨rfl, trivial⟩ rfl) ?_
 refine z ?_
 refine fin1 (res_cell hT rfl rfl rfl rfl) ?_
 exact ⟨rfl, rfl⟩
theorem ok_laws_toOp {x : OpT} (hb : wOp x ≤ 1048576) : KFn Tryz.prog 11 [.agg [(.dv [] (.int .i64 (x.1))), (.dv [] (.str (x.2.1))), (.dv [] (.int .i64 (x.2.2.1.1))), (.dv [] (.int .i64 (x.2.2.1.2.1))), (.dv [] (.str (x.2.2.1.2.2))), (.dv [] (fieldsD (x.2.2.2.1))), (.dv [] (.str (x.2.2.2.2)))]] (.agg [(.dv [] (.int .i64 (x.1))), (.dv [] (.str (x.2.1))), (.dv [] (.int .i64 (x.2.2.1.1))), (.dv [] (.int .i64 (x.2.2.1.2.1))), (.dv [] (.str (x.2.2.1.2.2))), (.key 22007), (.dv [] (.str (x.2.2.2.2)))]) [(22007, some (kcOf false (fieldsD (x.2.2.2.1))))] := by
 refine ⟨fn_intro Tryz.func11 rfl Tryz.ntmps11 Tryz.results11 rfl (fun C => ?_)⟩
 refine yF 0 0 rfl rfl fun f0_0 => ?_
 refine yF 0 1 rfl rfl fun f0_1 => ?_
 refine yF 0 2 rfl rfl fun f0_2 => ?_
 refine yF 0 3 rfl rfl fun f0_3 => ?_
 refine yF 0 4 rfl rfl fun f0_4 => ?_
 refine yF 0 5 rfl rfl fun f0_5 => ?_
 refine yF 0 6 rfl rfl fun f0_6 => ?_
 iterate 22 refine z ?_
 refine zC Tryz.call47 ?_ (hf := ok_laws_toKey)
 iterate 6 refine z ?_
 refine zK 16000 Tryz.call48 ?_ (hf := ok_laws_toRecord (by first | omega | (simp only [wKey, wField, wRecord, wItem, wStore, wIndexDef, wDatabase, wOp, wTx, wTxQueue] at hb ⊢; omega) | (have hq := hw (by omega); omega)))
 iterate 13 refine z ?_
 refine ok_weak (σ' := ⟨[(2, .box 2 0)], [(2, 47, [(.dv [] (.int .i64 (x.1))), (.dv [] (.str (x.2.1))), (.dv [] (.int .i64 (x.2.2.1.1))), (.dv [] (.int .i64 (x.2.2.1.2.1))), (.dv [] (.str (x.2.2.1.2.2))), (.key 22007), (.dv [] (.str (x.2.2.2.2)))])], [(22007, some (kcOf false (fieldsD (x.2.2.2.1))))]⟩) (weak_sub ⟨rfl, trivial⟩ ⟨rfl, trivial⟩ ⟨rfl, trivial⟩ rfl) ?_
 refine z ?_
 refine fin1 (res_cell hT rfl rfl rfl rfl) ?_
 exact ⟨rfl, rfl⟩
theorem ok_laws_eqKey {x : KeyT}  : PFn Tryz.prog 56 [.agg [(.dv [] (.int .i64 (x.1))), (.dv [] (.int .i64 (x.2.1))), (.dv [] (.str (x.2.2)))], .agg [(.dv [] (.int .i64 (x.1))), (.dv [] (.int .i64 (x.2.1))), (.dv [] (.str (x.2.2)))]] (.one (.dv [] (.bool (true)))) := by
 refine ⟨fn_intro Tryz.func56 rfl Tryz.ntmps56 Tryz.results56 rfl (fun C => ?_)⟩
 refine yF 0 0 rfl rfl fun f0_0 => ?_
 refine yF 0 1 rfl rfl fun f0_1 => ?_
 refine yF 0 2 rfl rfl fun f0_2 => ?_
 refine yF 1 0 rfl rfl fun f1_0 => ?_
 refine yF 1 1 rfl rfl fun f1_1 => ?_
 refine yF 1 2 rfl rfl fun f1_2 => ?_
 iterate 13 refine z ?_
 refine yQ rfl (fun c1 => ?_) fun c1 => ?_
 ·skip
  have d1 := nd_t c1
  iterate 6 refine z ?_
  first | rfl | (exfalso; simp_all [sEq])
 ·skip
  have d1 := nd_f c1
  iterate 10 refine z ?_
  refine yQ rfl (fun c2 => ?_) fun c2 => ?_
  ·skip
   have d2 := nd_t c2
   iterate 6 refine z ?_
   first | rfl | (exfalso; simp_all [sEq])
  ·skip
   have d2 := nd_f c2
   iterate 10 refine z ?_
   refine yQ rfl (fun c3 => ?_) fun c3 => ?_
   ·skip
    iterate 6 refine z ?_
    first | rfl | (exfalso; simp_all [sEq])
   ·skip
    iterate 7 refine z ?_
    first | rfl | (exfalso; simp_all [sEq])
theorem ok_laws_eqField {x : FieldT}  : PFn Tryz.prog 147 [.agg [(.dv [] (.str (x.1))), (.dv [] (.int .i64 (x.2)))], .agg [(.dv [] (.str (x.1))), (.dv [] (.int .i64 (x.2)))]] (.one (.dv [] (.bool (true)))) := by
 refine ⟨fn_intro Tryz.func147 rfl Tryz.ntmps147 Tryz.results147 rfl (fun C => ?_)⟩
 refine yF 0 0 rfl rfl fun f0_0 => ?_
 refine yF 0 1 rfl rfl fun f0_1 => ?_
 refine yF 1 0 rfl rfl fun f1_0 => ?_
 refine yF 1 1 rfl rfl fun f1_1 => ?_
 iterate 13 refine z ?_
 refine yQ rfl (fun c1 => ?_) fun c1 => ?_
 ·skip
  iterate 6 refine z ?_
  first | rfl | (exfalso; simp_all [sEq])
 ·skip
  iterate 10 refine z ?_
  refine yQ rfl (fun c2 => ?_) fun c2 => ?_
  ·skip
   have d2 := nd_t c2
   iterate 6 refine z ?_
   first | rfl | (exfalso; simp_all [sEq])
  ·skip
   have d2 := nd_f c2
   iterate 7 refine z ?_
   first | rfl | (exfalso; simp_all [sEq])
theorem ok_laws_eqFieldS {x : List (FieldT)}  : PFn Tryz.prog 109 [.one (.dv [] (fieldsD (x))), .one (.dv [] (fieldsD (x)))] (.one (.dv [] (.bool (true)))) := by
 refine ⟨fn_intro Tryz.func109 rfl Tryz.ntmps109 Tryz.results109 rfl (fun C => ?_)⟩
 refine ok_fact (x := .tmp 0) (ev_tmp rfl) fun f0 => ?_
 refine ok_fact (x := .tmp 1) (ev_tmp rfl) fun f1 => ?_
 iterate 11 refine z ?_
 refine yQ rfl (fun c1 => ?_) fun c1 => ?_
 ·skip
  have d1 := nd_t c1
  iterate 6 refine z ?_
  first | rfl | (exfalso; simp_all [sEq])
 ·skip
  have d1 := nd_f c1
  iterate 7 refine z ?_
  refine ok_loop (ι := Nat) (fun zz => ⟨[(0, .one (.dv [] (fieldsD (x)))), (1, .one (.dv [] (fieldsD (x)))), (5, .one (.dv [] (.int .i64 ((zz : Int)))))], [], []⟩) (fun zz => zz ≤ x.length) (fun zz => x.length - zz) (0) ?_ (weak_sub ⟨rfl, rfl, rfl, trivial⟩ trivial trivial rfl) (fun zz hx => ?_)
  ·exact Nat.zero_le _
  obtain ⟨k, rfl⟩ : ∃ v, v = zz := ⟨_, rfl⟩
  replace hx : k ≤ x.length := hx
  show Ok _ _ _ _ _ (⟨[(0, .one (.dv [] (fieldsD (x)))), (1, .one (.dv [] (fieldsD (x)))), (5, .one (.dv [] (.int .i64 ((k : Int)))))], [], []⟩ : St)
  iterate 7 refine z ?_
  refine yQ rfl (fun c2 => ?_) fun c2 => ?_
  ·skip
   have d2 := of_decide_eq_true c2
   iterate 4 refine z ?_
   refine ok_seq ?_
   refine ok_regionD (oB := []) (oK := []) (by kernel_rfl) rfl rfl ?_
   refine zD 0 ?_
   refine zD 1 ?_
   refine zD 2 ?_
   refine zD 3 ?_
   refine zD 4 ?_
   refine zD 5 ?_
   refine zD 6 ?_
   refine zD 7 ?_
   refine d_call 8 rfl (by kernel_rfl) rfl rfl rfl Tryz.call147 ok_laws_eqField (as_cons (ev_tmp rfl) (ag_agg (ag_cons ac_dv (ag_cons ac_dv ag_nil))) (as_cons (ev_tmp rfl) (ag_agg (ag_cons ac_dv (ag_cons ac_dv ag_nil))) as_nil)) rfl rfl rfl rfl ?_
   refine zD 9 ?_
   refine d_done (by kernel_rfl) ?_
   refine z ?_
   refine yQ rfl (fun c3 => ?_) fun c3 => ?_
   ·skip
    iterate 10 refine z ?_
    first | rfl | (exfalso; simp_all [sEq])
   ·skip
    iterate 3 refine z ?_
    refine ok_region ?_
    iterate 4 refine z ?_
    refine ⟨k + 1, ?_, ?_, weak_sub ⟨rfl, rfl, rfl, trivial⟩ trivial trivial rfl⟩
    ·omega
    ·omega
  ·skip
   have d2 := of_decide_eq_false c2
   iterate 10 refine z ?_
   first | rfl | (exfalso; simp_all [sEq])
theorem ok_laws_eqRecord {x : RecT}  : PFn Tryz.prog 57 [.agg [(.dv [] (fieldsD (x)))], .agg [(.dv [] (fieldsD (x)))]] (.one (.dv [] (.bool (true)))) := by
 refine ⟨fn_intro Tryz.func57 rfl Tryz.ntmps57 Tryz.results57 rfl (fun C => ?_)⟩
 refine yF 0 0 rfl rfl fun f0_0 => ?_
 refine yF 1 0 rfl rfl fun f1_0 => ?_
 iterate 11 refine z ?_
 refine zC Tryz.call109 ?_ (hf := ok_laws_eqFieldS)
 iterate 2 refine z ?_
 refine yQ rfl (fun c1 => ?_) fun c1 => ?_
 ·skip
  iterate 6 refine z ?_
  first | rfl | (exfalso; simp_all [sEq])
 ·skip
  iterate 7 refine z ?_
  first | rfl | (exfalso; simp_all [sEq])
theorem ok_laws_eqOp {x : OpT}  : PFn Tryz.prog 14 [.agg [(.dv [] (.int .i64 (x.1))), (.dv [] (.str (x.2.1))), (.dv [] (.int .i64 (x.2.2.1.1))), (.dv [] (.int .i64 (x.2.2.1.2.1))), (.dv [] (.str (x.2.2.1.2.2))), (.dv [] (fieldsD (x.2.2.2.1))), (.dv [] (.str (x.2.2.2.2)))], .agg [(.dv [] (.int .i64 (x.1))), (.dv [] (.str (x.2.1))), (.dv [] (.int .i64 (x.2.2.1.1))), (.dv [] (.int .i64 (x.2.2.1.2.1))), (.dv [] (.str (x.2.2.1.2.2))), (.dv [] (fieldsD (x.2.2.2.1))), (.dv [] (.str (x.2.2.2.2)))]] (.one (.dv [] (.bool (true)))) := by
 refine ⟨fn_intro Tryz.func14 rfl Tryz.ntmps14 Tryz.results14 rfl (fun C => ?_)⟩
 refine yF 0 0 rfl rfl fun f0_0 => ?_
 refine yF 0 1 rfl rfl fun f0_1 => ?_
 refine yF 0 2 rfl rfl fun f0_2 => ?_
 refine yF 0 3 rfl rfl fun f0_3 => ?_
 refine yF 0 4 rfl rfl fun f0_4 => ?_
 refine yF 0 5 rfl rfl fun f0_5 => ?_
 refine yF 0 6 rfl rfl fun f0_6 => ?_
 refine yF 1 0 rfl rfl fun f1_0 => ?_
 refine yF 1 1 rfl rfl fun f1_1 => ?_
 refine yF 1 2 rfl rfl fun f1_2 => ?_
 refine yF 1 3 rfl rfl fun f1_3 => ?_
 refine yF 1 4 rfl rfl fun f1_4 => ?_
 refine yF 1 5 rfl rfl fun f1_5 => ?_
 refine yF 1 6 rfl rfl fun f1_6 => ?_
 iterate 13 refine z ?_
 refine yQ rfl (fun c1 => ?_) fun c1 => ?_
 ·skip
  have d1 := nd_t c1
  iterate 6 refine z ?_
  first | rfl | (exfalso; simp_all [sEq])
 ·skip
  have d1 := nd_f c1
  iterate 10 refine z ?_
  refine yQ rfl (fun c2 => ?_) fun c2 => ?_
  ·skip
   iterate 6 refine z ?_
   first | rfl | (exfalso; simp_all [sEq])
  ·skip
   iterate 8 refine z ?_
   refine zC Tryz.call56 ?_ (hf := ok_laws_eqKey)
   iterate 2 refine z ?_
   refine yQ rfl (fun c3 => ?_) fun c3 => ?_
   ·skip
    iterate 6 refine z ?_
    first | rfl | (exfalso; simp_all [sEq])
   ·skip
    iterate 8 refine z ?_
    refine zC Tryz.call57 ?_ (hf := ok_laws_eqRecord)
    iterate 2 refine z ?_
    refine yQ rfl (fun c4 => ?_) fun c4 => ?_
    ·skip
     iterate 6 refine z ?_
     first | rfl | (exfalso; simp_all [sEq])
    ·skip
     iterate 10 refine z ?_
     refine yQ rfl (fun c5 => ?_) fun c5 => ?_
     ·skip
      iterate 6 refine z ?_
      first | rfl | (exfalso; simp_all [sEq])
     ·skip
      iterate 7 refine z ?_
      first | rfl | (exfalso; simp_all [sEq])
end Go.Proofs.YtmgijbhikmjfjaaGreat

namespace Go.Proofs.YtmgijbhikmjfjaaGreat
open Go.RowKit
open Go.Proofs
set_option linter.unusedVariables false
set_option linter.unusedSimpArgs false
theorem ok_laws_szOpS {x : List (OpT)} {left : Int} (h0 : 0 ≤ left) (h1 : left ≤ 1048576) : PFn Tryz.prog 18 [.one (.dv [] (opsD (x))), .one (.dv [] (.int .i64 (left)))] (.one (.dv [] (.int .i64 (szR (left) (wList wOp x))))) := by
 refine ⟨fn_intro Tryz.func18 rfl Tryz.ntmps18 Tryz.results18 rfl (fun C => ?_)⟩
 refine ok_fact (x := .tmp 0) (ev_tmp rfl) fun f0 => ?_
 refine ok_fact (x := .tmp 1) (ev_tmp rfl) fun f1 => ?_
 iterate 15 refine z ?_
 refine yQ rfl (fun c1 => ?_) fun c1 => ?_
 ·skip
  have d1 := of_decide_eq_true c1
  first | have q1 := szR_n d1 | skip
  iterate 6 refine z ?_
  have hh := szR_cases left (wList wOp x); simp only [wList] at hh ⊢ <;> omega
 ·skip
  have d1 := of_decide_eq_false c1
  first | have q1 := szR_nn d1 | skip
  iterate 7 refine z ?_
  refine ok_loop (ι := Nat × Int) (fun zz => ⟨[(0, .one (.dv [] (opsD (x)))), (1, .one (.dv [] (.int .i64 (zz.2)))), (5, .one (.dv [] (.int .i64 ((zz.1 : Int)))))], [], []⟩) (fun zz => zz.1 ≤ x.length ∧ 0 ≤ zz.2 ∧ zz.2 + (wSum wOp (x.take zz.1) : Int) = left - (x.length : Int)) (fun zz => x.length - zz.1) ((0, left - (x.length : Int))) ?_ (weak_sub ⟨rfl, rfl, rfl, trivial⟩ trivial trivial rfl) (fun zz hx => ?_)
  ·exact ⟨Nat.zero_le _, by omega, by simp [wSum]⟩
  obtain ⟨k, l⟩ := zz
  replace hx : k ≤ x.length ∧ 0 ≤ l ∧ l + (wSum wOp (x.take k) : Int) = left - (x.length : Int) := hx
  obtain ⟨hk, hl, he⟩ := hx
  have hw := fun h => wSum_succ wOp x k h
  show Ok _ _ _ _ _ (⟨[(0, .one (.dv [] (opsD (x)))), (1, .one (.dv [] (.int .i64 (l)))), (5, .one (.dv [] (.int .i64 ((k : Int)))))], [], []⟩ : St)
  iterate 7 refine z ?_
  refine yQ rfl (fun c2 => ?_) fun c2 => ?_
  ·skip
   have d2 := of_decide_eq_true c2
   first | have q2 := szR_n d2 | skip
   iterate 10 refine z ?_
   refine zC Tryz.call8 ?_ (hf := ok_laws_szOp (by omega) (by omega))
   iterate 6 refine z ?_
   refine yQ rfl (fun c3 => ?_) fun c3 => ?_
   ·skip
    have d3 := of_decide_eq_true c3
    first | have q3 := szR_n d3 | skip
    iterate 10 refine z ?_
    have hw' := hw (by omega); have hh := szR_cases left (wList wOp x); simp only [wList] at hh ⊢ <;> omega
   ·skip
    have d3 := of_decide_eq_false c3
    first | have q3 := szR_nn d3 | skip
    iterate 3 refine z ?_
    refine ok_region ?_
    iterate 4 refine z ?_
    refine ⟨(k + 1, szR l (wOp (x.getD (k : Int).toNat default))), ?_, ?_, weak_sub ⟨rfl, rfl, rfl, trivial⟩ trivial trivial rfl⟩
    ·have hw' := hw (by omega)
     dsimp only
     exact ⟨by omega, by omega, by omega⟩
    ·omega
  ·skip
   have d2 := of_decide_eq_false c2
   first | have q2 := szR_nn d2 | skip
   iterate 11 refine z ?_
   have hw' := wSum_all wOp x k (by omega); have hh := szR_cases left (wList wOp x); simp only [wList] at hh ⊢ <;> omega
theorem ok_laws_toOpS {x : List (OpT)} (hb : wList wOp x ≤ 1048576) : KFn Tryz.prog 20 [.one (.dv [] (opsD (x)))] (.one (.key 7)) [(7, some (kcOf false (opsD (x))))] := by
 refine ⟨fn_intro Tryz.func20 rfl Tryz.ntmps20 Tryz.results20 rfl (fun C => ?_)⟩
 refine ok_fact (x := .tmp 0) (ev_tmp rfl) fun f0 => ?_
 iterate 6 refine z ?_
 refine o_make (k := 7) (n := ((x)).length) (zd := [.int .i64 (0), .str (ByteArray.empty), .int .i64 (0), .int .i64 (0), .str (ByteArray.empty), .sl 158 2 0 [], .str (ByteArray.empty)]) (cs := fillD eOp [.int .i64 (0), .str (ByteArray.empty), .int .i64 (0), .int .i64 (0), .str (ByteArray.empty), .sl 158 2 0 [], .str (ByteArray.empty)] x 0) hT rfl rfl rfl rfl rfl rfl (ev_tmp rfl) (ev_tmp rfl) rfl rfl rfl (by have := wList_len wOp x; omega) rfl rfl fillD_zero ?_
 iterate 7 refine z ?_
 refine ok_loop (ι := Nat) (fun zz => ⟨[(0, .one (.dv [] (opsD (x)))), (3, .one (.key 7)), (4, .one (.dv [] (.int .i64 ((zz : Int)))))], [], [(7, some (kcOf false (.sl 47 7 ((x).length) (fillD eOp [.int .i64 (0), .str (ByteArray.empty), .int .i64 (0), .int .i64 (0), .str (ByteArray.empty), .sl 158 2 0 [], .str (ByteArray.empty)] x zz))))]⟩) (fun zz => zz ≤ x.length) (fun zz => x.length - zz) (0) ?_ (weak_sub ⟨rfl, rfl, rfl, trivial⟩ trivial ⟨rfl, trivial⟩ rfl) (fun zz hx => ?_)
 ·exact Nat.zero_le _
 obtain ⟨k, rfl⟩ : ∃ v, v = zz := ⟨_, rfl⟩
 replace hx : k ≤ x.length := hx
 have hw := fun h => wSum_succ wOp x k h
 have hw2 := wSum_le wOp x (k + 1)
 have hw3 : wList wOp x = x.length + wSum wOp x := rfl
 show Ok _ _ _ _ _ (⟨[(0, .one (.dv [] (opsD (x)))), (3, .one (.key 7)), (4, .one (.dv [] (.int .i64 ((k : Int)))))], [], [(7, some (kcOf false (.sl 47 7 ((x).length) (fillD eOp [.int .i64 (0), .str (ByteArray.empty), .int .i64 (0), .int .i64 (0), .str (ByteArray.empty), .sl 158 2 0 [], .str (ByteArray.empty)] x k))))]⟩ : St)
 iterate 7 refine z ?_
 refine yQ rfl (fun c1 => ?_) fun c1 => ?_
 ·skip
  have d1 := of_decide_eq_true c1
  iterate 4 refine z ?_
  refine ok_region ?_
  iterate 6 refine z ?_
  refine zK 20000 Tryz.call11 ?_ (hf := ok_laws_toOp (by first | omega | (simp only [wKey, wField, wRecord, wItem, wStore, wIndexDef, wDatabase, wOp, wTx, wTxQueue] at hb ⊢; omega) | (have hq := hw (by omega); omega)))
  refine yO rfl rfl (pu_indexK (i := k) hT rfl rfl rfl (ev_tmp rfl) rfl (ev_tmp rfl) rfl (by show _ < ((x).length); omega)) rfl ?_
  refine o_storeE (js := [42007]) (cs := fillD eOp [.int .i64 (0), .str (ByteArray.empty), .int .i64 (0), .int .i64 (0), .str (ByteArray.empty), .sl 158 2 0 [], .str (ByteArray.empty)] x (k + 1)) hT rfl rfl rfl rfl (ev_tmp rfl) (ev_tmp rfl) rfl rfl rfl rfl (ow_cons' (ow_dv rfl) (ow_cons' (ow_dv rfl) (ow_cons' (ow_dv rfl) (ow_cons' (ow_dv rfl) (ow_cons' (ow_dv rfl) (ow_cons' (ow_key rfl) (ow_cons' (ow_dv rfl) ow_nil rfl) rfl) rfl) rfl) rfl) rfl) rfl) (by decide) (by decide) rfl (by show _ ≤ List.length (fillD eOp [.int .i64 (0), .str (ByteArray.empty), .int .i64 (0), .int .i64 (0), .str (ByteArray.empty), .sl 158 2 0 [], .str (ByteArray.empty)] x k); rw [fillD_len (sz := 7) (fun _ => rfl) rfl]; omega) (fillD_succ (sz := 7) (fun _ => rfl) rfl (by omega) rfl) ?_
  simp only [killT, killB, SV.kill, CV.kill, kk, Nat.reduceBEq]
  refine ops_nil ?_
  iterate 2 refine z ?_
  refine ok_region ?_
  iterate 4 refine z ?_
  refine ⟨k + 1, ?_, ?_, weak_sub ⟨rfl, rfl, rfl, trivial⟩ trivial ⟨rfl, trivial⟩ rfl⟩
  ·omega
  ·omega
 ·skip
  have d1 := of_decide_eq_false c1
  iterate 9 refine z ?_
  refine ok_weak (σ' := ⟨[(2, .one (.key 7))], [], [(7, some (kcOf false (opsD (x))))]⟩) (weak_sub ⟨rfl, trivial⟩ trivial ⟨(congrArg (fun cs => some (some (KC.mk false 47 7 x.length cs))) (fillD_all (by omega))), trivial⟩ rfl) ?_
  refine z ?_
  refine fin1 (res_tmp rfl) ?_
  exact ⟨rfl, rfl⟩
theorem ok_laws_eqOpS {x : List (OpT)}  : PFn Tryz.prog 23 [.one (.dv [] (opsD (x))), .one (.dv [] (opsD (x)))] (.one (.dv [] (.bool (true)))) := by
 refine ⟨fn_intro Tryz.func23 rfl Tryz.ntmps23 Tryz.results23 rfl (fun C => ?_)⟩
 refine ok_fact (x := .tmp 0) (ev_tmp rfl) fun f0 => ?_
 refine ok_fact (x := .tmp 1) (ev_tmp rfl) fun f1 => ?_
 iterate 11 refine z ?_
 refine yQ rfl (fun c1 => ?_) fun c1 => ?_
 ·skip
  have d1 := nd_t c1
  iterate 6 refine z ?_
  first | rfl | (exfalso; simp_all [sEq])
 ·skip
  have d1 := nd_f c1
  iterate 7 refine z ?_
  refine ok_loop (ι := Nat) (fun zz => ⟨[(0, .one (.dv [] (opsD (x)))), (1, .one (.dv [] (opsD (x)))), (5, .one (.dv [] (.int .i64 ((zz : Int)))))], [], []⟩) (fun zz => zz ≤ x.length) (fun zz => x.length - zz) (0) ?_ (weak_sub ⟨rfl, rfl, rfl, trivial⟩ trivial trivial rfl) (fun zz hx => ?_)
  ·exact Nat.zero_le _
  obtain ⟨k, rfl⟩ : ∃ v, v = zz := ⟨_, rfl⟩
  replace hx : k ≤ x.length := hx
  show Ok _ _ _ _ _ (⟨[(0, .one (.dv [] (opsD (x)))), (1, .one (.dv [] (opsD (x)))), (5, .one (.dv [] (.int .i64 ((k : Int)))))], [], []⟩ : St)
  iterate 7 refine z ?_
  refine yQ rfl (fun c2 => ?_) fun c2 => ?_
  ·skip
   have d2 := of_decide_eq_true c2
   iterate 4 refine z ?_
   refine ok_seq ?_
   refine ok_regionD (oB := []) (oK := []) (by kernel_rfl) rfl rfl ?_
   refine zD 0 ?_
   refine zD 1 ?_
   refine zD 2 ?_
   refine zD 3 ?_
   refine zD 4 ?_
   refine zD 5 ?_
   refine zD 6 ?_
   refine zD 7 ?_
   refine d_call 8 rfl (by kernel_rfl) rfl rfl rfl Tryz.call14 ok_laws_eqOp (as_cons (ev_tmp rfl) (ag_agg (ag_cons ac_dv (ag_cons ac_dv (ag_cons ac_dv (ag_cons ac_dv (ag_cons ac_dv (ag_cons ac_dv (ag_cons ac_dv ag_nil)))))))) (as_cons (ev_tmp rfl) (ag_agg (ag_cons ac_dv (ag_cons ac_dv (ag_cons ac_dv (ag_cons ac_dv (ag_cons ac_dv (ag_cons ac_dv (ag_cons ac_dv ag_nil)))))))) as_nil)) rfl rfl rfl rfl ?_
   refine zD 9 ?_
   refine d_done (by kernel_rfl) ?_
   refine z ?_
   refine yQ rfl (fun c3 => ?_) fun c3 => ?_
   ·skip
    iterate 10 refine z ?_
    first | rfl | (exfalso; simp_all [sEq])
   ·skip
    iterate 3 refine z ?_
    refine ok_region ?_
    iterate 4 refine z ?_
    refine ⟨k + 1, ?_, ?_, weak_sub ⟨rfl, rfl, rfl, trivial⟩ trivial trivial rfl⟩
    ·omega
    ·omega
  ·skip
   have d2 := of_decide_eq_false c2
   iterate 10 refine z ?_
   first | rfl | (exfalso; simp_all [sEq])
end Go.Proofs.YtmgijbhikmjfjaaGreat

namespace Go.Proofs.YtmgijbhikmjfjaaGreat
open Go.RowKit
open Go.Proofs
set_option linter.unusedVariables false
set_option linter.unusedSimpArgs false
theorem ok_laws_szItem {x : ItemT} {left : Int} (h0 : 0 ≤ left) (h1 : left ≤ 1048576) : PFn Tryz.prog 150 [.agg [(.dv [] (.int .i64 (x.1.1))), (.dv [] (.int .i64 (x.1.2.1))), (.dv [] (.str (x.1.2.2))), (.dv [] (fieldsD (x.2)))], .one (.dv [] (.int .i64 (left)))] (.one (.dv [] (.int .i64 (szR (left) (wItem x))))) := by
 refine ⟨fn_intro Tryz.func150 rfl Tryz.ntmps150 Tryz.results150 rfl (fun C => ?_)⟩
 refine yF 0 0 rfl rfl fun f0_0 => ?_
 refine yF 0 1 rfl rfl fun f0_1 => ?_
 refine yF 0 2 rfl rfl fun f0_2 => ?_
 refine yF 0 3 rfl rfl fun f0_3 => ?_
 refine ok_fact (x := .tmp 1) (ev_tmp rfl) fun f1 => ?_
 iterate 8 refine z ?_
 refine zC Tryz.call38 ?_ (hf := ok_laws_szKey (by omega) (by omega))
 iterate 7 refine z ?_
 refine yQ rfl (fun c1 => ?_) fun c1 => ?_
 ·skip
  have d1 := of_decide_eq_true c1
  first | have q1 := szR_n d1 | skip
  iterate 6 refine z ?_
  have hh := szR_cases left (wItem x); simp only [wItem] at hh ⊢ <;> omega
 ·skip
  have d1 := of_decide_eq_false c1
  first | have q1 := szR_nn d1 | skip
  iterate 6 refine z ?_
  refine zC Tryz.call39 ?_ (hf := ok_laws_szRecord (by omega) (by omega))
  iterate 7 refine z ?_
  refine yQ rfl (fun c2 => ?_) fun c2 => ?_
  ·skip
   have d2 := of_decide_eq_true c2
   first | have q2 := szR_n d2 | skip
   iterate 6 refine z ?_
   have hh := szR_cases left (wItem x); simp only [wItem] at hh ⊢ <;> omega
  ·skip
   have d2 := of_decide_eq_false c2
   first | have q2 := szR_nn d2 | skip
   iterate 8 refine z ?_
   have hh := szR_cases left (wItem x); simp only [wItem] at hh ⊢ <;> omega
theorem ok_laws_szItemS {x : List (ItemT)} {left : Int} (h0 : 0 ≤ left) (h1 : left ≤ 1048576) : PFn Tryz.prog 120 [.one (.dv [] (itemsD (x))), .one (.dv [] (.int .i64 (left)))] (.one (.dv [] (.int .i64 (szR (left) (wList wItem x))))) := by
 refine ⟨fn_intro Tryz.func120 rfl Tryz.ntmps120 Tryz.results120 rfl (fun C => ?_)⟩
 refine ok_fact (x := .tmp 0) (ev_tmp rfl) fun f0 => ?_
 refine ok_fact (x := .tmp 1) (ev_tmp rfl) fun f1 => ?_
 iterate 15 refine z ?_
 refine yQ rfl (fun c1 => ?_) fun c1 => ?_
 ·skip
  have d1 := of_decide_eq_true c1
  first | have q1 := szR_n d1 | skip
  iterate 6 refine z ?_
  have hh := szR_cases left (wList wItem x); simp only [wList] at hh ⊢ <;> omega
 ·skip
  have d1 := of_decide_eq_false c1
  first | have q1 := szR_nn d1 | skip
  iterate 7 refine z ?_
  refine ok_loop (ι := Nat × Int) (fun zz => ⟨[(0, .one (.dv [] (itemsD (x)))), (1, .one (.dv [] (.int .i64 (zz.2)))), (5, .one (.dv [] (.int .i64 ((zz.1 : Int)))))], [], []⟩) (fun zz => zz.1 ≤ x.length ∧ 0 ≤ zz.2 ∧ zz.2 + (wSum wItem (x.take zz.1) : Int) = left - (x.length : Int)) (fun zz => x.length - zz.1) ((0, left - (x.length : Int))) ?_ (weak_sub ⟨rfl, rfl, rfl, trivial⟩ trivial trivial rfl) (fun zz hx => ?_)
  ·exact ⟨Nat.zero_le _, by omega, by simp [wSum]⟩
  obtain ⟨k, l⟩ := zz
  replace hx : k ≤ x.length ∧ 0 ≤ l ∧ l + (wSum wItem (x.take k) : Int) = left - (x.length : Int) := hx
  obtain ⟨hk, hl, he⟩ := hx
  have hw := fun h => wSum_succ wItem x k h
  show Ok _ _ _ _ _ (⟨[(0, .one (.dv [] (itemsD (x)))), (1, .one (.dv [] (.int .i64 (l)))), (5, .one (.dv [] (.int .i64 ((k : Int)))))], [], []⟩ : St)
  iterate 7 refine z ?_
  refine yQ rfl (fun c2 => ?_) fun c2 => ?_
  ·skip
   have d2 := of_decide_eq_true c2
   first | have q2 := szR_n d2 | skip
   iterate 10 refine z ?_
   refine zC Tryz.call150 ?_ (hf := ok_laws_szItem (by omega) (by omega))
   iterate 6 refine z ?_
   refine yQ rfl (fun c3 => ?_) fun c3 => ?_
   ·skip
    have d3 := of_decide_eq_true c3
    first | have q3 := szR_n d3 | skip
    iterate 10 refine z ?_
    have hw' := hw (by omega); have hh := szR_cases left (wList wItem x); simp only [wList] at hh ⊢ <;> omega
   ·skip
    have d3 := of_decide_eq_false c3
    first | have q3 := szR_nn d3 | skip
    iterate 3 refine z ?_
    refine ok_region ?_
    iterate 4 refine z ?_
    refine ⟨(k + 1, szR l (wItem (x.getD (k : Int).toNat default))), ?_, ?_, weak_sub ⟨rfl, rfl, rfl, trivial⟩ trivial trivial rfl⟩
    ·have hw' := hw (by omega)
     dsimp only
     exact ⟨by omega, by omega, by omega⟩
    ·omega
  ·skip
   have d2 := of_decide_eq_false c2
   first | have q2 := szR_nn d2 | skip
   iterate 11 refine z ?_
   have hw' := wSum_all wItem x k (by omega); have hh := szR_cases left (wList wItem x); simp only [wList] at hh ⊢ <;> omega
theorem ok_laws_szStore {x : StoreT} {left : Int} (h0 : 0 ≤ left) (h1 : left ≤ 1048576) : PFn Tryz.prog 76 [.agg [(.dv [] (.str (x.1))), (.dv [] (itemsD (x.2.1))), (.dv [] (.int .i64 (x.2.2)))], .one (.dv [] (.int .i64 (left)))] (.one (.dv [] (.int .i64 (szR (left) (wStore x))))) := by
 refine ⟨fn_intro Tryz.func76 rfl Tryz.ntmps76 Tryz.results76 rfl (fun C => ?_)⟩
 refine yF 0 0 rfl rfl fun f0_0 => ?_
 refine yF 0 1 rfl rfl fun f0_1 => ?_
 refine yF 0 2 rfl rfl fun f0_2 => ?_
 refine ok_fact (x := .tmp 1) (ev_tmp rfl) fun f1 => ?_
 iterate 17 refine z ?_
 refine yQ rfl (fun c1 => ?_) fun c1 => ?_
 ·skip
  have d1 := of_decide_eq_true c1
  first | have q1 := szR_n d1 | skip
  iterate 6 refine z ?_
  have hh := szR_cases left (wStore x); simp only [wStore] at hh ⊢ <;> omega
 ·skip
  have d1 := of_decide_eq_false c1
  first | have q1 := szR_nn d1 | skip
  iterate 6 refine z ?_
  refine zC Tryz.call120 ?_ (hf := ok_laws_szItemS (by omega) (by omega))
  iterate 7 refine z ?_
  refine yQ rfl (fun c2 => ?_) fun c2 => ?_
  ·skip
   have d2 := of_decide_eq_true c2
   first | have q2 := szR_n d2 | skip
   iterate 6 refine z ?_
   have hh := szR_cases left (wStore x); simp only [wStore] at hh ⊢ <;> omega
  ·skip
   have d2 := of_decide_eq_false c2
   first | have q2 := szR_nn d2 | skip
   iterate 8 refine z ?_
   have hh := szR_cases left (wStore x); simp only [wStore] at hh ⊢ <;> omega
theorem ok_laws_toItem {x : ItemT} (hb : wItem x ≤ 1048576) : KFn Tryz.prog 153 [.agg [(.dv [] (.int .i64 (x.1.1))), (.dv [] (.int .i64 (x.1.2.1))), (.dv [] (.str (x.1.2.2))), (.dv [] (fieldsD (x.2)))]] (.agg [(.dv [] (.int .i64 (x.1.1))), (.dv [] (.int .i64 (x.1.2.1))), (.dv [] (.str (x.1.2.2))), (.key 16007)]) [(16007, some (kcOf false (fieldsD (x.2))))] := by
 refine ⟨fn_intro Tryz.func153 rfl Tryz.ntmps153 Tryz.results153 rfl (fun C => ?_)⟩
 refine yF 0 0 rfl rfl fun f0_0 => ?_
 refine yF 0 1 rfl rfl fun f0_1 => ?_
 refine yF 0 2 rfl rfl fun f0_2 => ?_
 refine yF 0 3 rfl rfl fun f0_3 => ?_
 iterate 10 refine z ?_
 refine zC Tryz.call47 ?_ (hf := ok_laws_toKey)
 iterate 6 refine z ?_
 refine zK 10000 Tryz.call48 ?_ (hf := ok_laws_toRecord (by first | omega | (simp only [wKey, wField, wRecord, wItem, wStore, wIndexDef, wDatabase, wOp, wTx, wTxQueue] at hb ⊢; omega) | (have hq := hw (by omega); omega)))
 iterate 7 refine z ?_
 refine ok_weak (σ' := ⟨[(2, .box 2 0)], [(2, 141, [(.dv [] (.int .i64 (x.1.1))), (.dv [] (.int .i64 (x.1.2.1))), (.dv [] (.str (x.1.2.2))), (.key 16007)])], [(16007, some (kcOf false (fieldsD (x.2))))]⟩) (weak_sub ⟨rfl, trivial⟩ ⟨rfl, trivial⟩ ⟨rfl, trivial⟩ rfl) ?_
 refine z ?_
 refine fin1 (res_cell hT rfl rfl rfl rfl) ?_
 exact ⟨rfl, rfl⟩
theorem ok_laws_toItemS {x : List (ItemT)} (hb : wList wItem x ≤ 1048576) : KFn Tryz.prog 130 [.one (.dv [] (itemsD (x)))] (.one (.key 7)) [(7, some (kcOf false (itemsD (x))))] := by
 refine ⟨fn_intro Tryz.func130 rfl Tryz.ntmps130 Tryz.results130 rfl (fun C => ?_)⟩
 refine ok_fact (x := .tmp 0) (ev_tmp rfl) fun f0 => ?_
 iterate 6 refine z ?_
 refine o_make (k := 7) (n := ((x)).length) (zd := [.int .i64 (0), .int .i64 (0), .str (ByteArray.empty), .sl 158 2 0 []]) (cs := fillD eItem [.int .i64 (0), .int .i64 (0), .str (ByteArray.empty), .sl 158 2 0 []] x 0) hT rfl rfl rfl rfl rfl rfl (ev_tmp rfl) (ev_tmp rfl) rfl rfl rfl (by have := wList_len wItem x; omega) rfl rfl fillD_zero ?_
 iterate 7 refine z ?_
 refine ok_loop (ι := Nat) (fun zz => ⟨[(0, .one (.dv [] (itemsD (x)))), (3, .one (.key 7)), (4, .one (.dv [] (.int .i64 ((zz : Int)))))], [], [(7, some (kcOf false (.sl 141 4 ((x).length) (fillD eItem [.int .i64 (0), .int .i64 (0), .str (ByteArray.empty), .sl 158 2 0 []] x zz))))]⟩) (fun zz => zz ≤ x.length) (fun zz => x.length - zz) (0) ?_ (weak_sub ⟨rfl, rfl, rfl, trivial⟩ trivial ⟨rfl, trivial⟩ rfl) (fun zz hx => ?_)
 ·exact Nat.zero_le _
 obtain ⟨k, rfl⟩ : ∃ v, v = zz := ⟨_, rfl⟩
 replace hx : k ≤ x.length := hx
 have hw := fun h => wSum_succ wItem x k h
 have hw2 := wSum_le wItem x (k + 1)
 have hw3 : wList wItem x = x.length + wSum wItem x := rfl
 show Ok _ _ _ _ _ (⟨[(0, .one (.dv [] (itemsD (x)))), (3, .one (.key 7)), (4, .one (.dv [] (.int .i64 ((k : Int)))))], [], [(7, some (kcOf false (.sl 141 4 ((x).length) (fillD eItem [.int .i64 (0), .int .i64 (0), .str (ByteArray.empty), .sl 158 2 0 []] x k))))]⟩ : St)
 iterate 7 refine z ?_
 refine yQ rfl (fun c1 => ?_) fun c1 => ?_
 ·skip
  have d1 := of_decide_eq_true c1
  iterate 4 refine z ?_
  refine ok_region ?_
  iterate 6 refine z ?_
  refine zK 20000 Tryz.call153 ?_ (hf := ok_laws_toItem (by first | omega | (simp only [wKey, wField, wRecord, wItem, wStore, wIndexDef, wDatabase, wOp, wTx, wTxQueue] at hb ⊢; omega) | (have hq := hw (by omega); omega)))
  refine yO rfl rfl (pu_indexK (i := k) hT rfl rfl rfl (ev_tmp rfl) rfl (ev_tmp rfl) rfl (by show _ < ((x).length); omega)) rfl ?_
  refine o_storeE (js := [36007]) (cs := fillD eItem [.int .i64 (0), .int .i64 (0), .str (ByteArray.empty), .sl 158 2 0 []] x (k + 1)) hT rfl rfl rfl rfl (ev_tmp rfl) (ev_tmp rfl) rfl rfl rfl rfl (ow_cons' (ow_dv rfl) (ow_cons' (ow_dv rfl) (ow_cons' (ow_dv rfl) (ow_cons' (ow_key rfl) ow_nil rfl) rfl) rfl) rfl) (by decide) (by decide) rfl (by show _ ≤ List.length (fillD eItem [.int .i64 (0), .int .i64 (0), .str (ByteArray.empty), .sl 158 2 0 []] x k); rw [fillD_len (sz := 4) (fun _ => rfl) rfl]; omega) (fillD_succ (sz := 4) (fun _ => rfl) rfl (by omega) rfl) ?_
  simp only [killT, killB, SV.kill, CV.kill, kk, Nat.reduceBEq]
  refine ops_nil ?_
  iterate 2 refine z ?_
  refine ok_region ?_
  iterate 4 refine z ?_
  refine ⟨k + 1, ?_, ?_, weak_sub ⟨rfl, rfl, rfl, trivial⟩ trivial ⟨rfl, trivial⟩ rfl⟩
  ·omega
  ·omega
 ·skip
  have d1 := of_decide_eq_false c1
  iterate 9 refine z ?_
  refine ok_weak (σ' := ⟨[(2, .one (.key 7))], [], [(7, some (kcOf false (itemsD (x))))]⟩) (weak_sub ⟨rfl, trivial⟩ trivial ⟨(congrArg (fun cs => some (some (KC.mk false 141 4 x.length cs))) (fillD_all (by omega))), trivial⟩ rfl) ?_
  refine z ?_
  refine fin1 (res_tmp rfl) ?_
  exact ⟨rfl, rfl⟩
theorem ok_laws_toStore {x : StoreT} (hb : wStore x ≤ 1048576) : KFn Tryz.prog 90 [.agg [(.dv [] (.str (x.1))), (.dv [] (itemsD (x.2.1))), (.dv [] (.int .i64 (x.2.2)))]] (.agg [(.dv [] (.str (x.1))), (.key 9007), (.dv [] (.int .i64 (x.2.2)))]) [(9007, some (kcOf false (itemsD (x.2.1))))] := by
 refine ⟨fn_intro Tryz.func90 rfl Tryz.ntmps90 Tryz.results90 rfl (fun C => ?_)⟩
 refine yF 0 0 rfl rfl fun f0_0 => ?_
 refine yF 0 1 rfl rfl fun f0_1 => ?_
 refine yF 0 2 rfl rfl fun f0_2 => ?_
 iterate 16 refine z ?_
 refine zK 9000 Tryz.call130 ?_ (hf := ok_laws_toItemS (by first | omega | (simp only [wKey, wField, wRecord, wItem, wStore, wIndexDef, wDatabase, wOp, wTx, wTxQueue] at hb ⊢; omega) | (have hq := hw (by omega); omega)))
 iterate 13 refine z ?_
 refine ok_weak (σ' := ⟨[(2, .box 2 0)], [(2, 91, [(.dv [] (.str (x.1))), (.key 9007), (.dv [] (.int .i64 (x.2.2)))])], [(9007, some (kcOf false (itemsD (x.2.1))))]⟩) (weak_sub ⟨rfl, trivial⟩ ⟨rfl, trivial⟩ ⟨rfl, trivial⟩ rfl) ?_
 refine z ?_
 refine fin1 (res_cell hT rfl rfl rfl rfl) ?_
 exact ⟨rfl, rfl⟩
theorem ok_laws_eqItem {x : ItemT}  : PFn Tryz.prog 163 [.agg [(.dv [] (.int .i64 (x.1.1))), (.dv [] (.int .i64 (x.1.2.1))), (.dv [] (.str (x.1.2.2))), (.dv [] (fieldsD (x.2)))], .agg [(.dv [] (.int .i64 (x.1.1))), (.dv [] (.int .i64 (x.1.2.1))), (.dv [] (.str (x.1.2.2))), (.dv [] (fieldsD (x.2)))]] (.one (.dv [] (.bool (true)))) := by
 refine ⟨fn_intro Tryz.func163 rfl Tryz.ntmps163 Tryz.results163 rfl (fun C => ?_)⟩
 refine yF 0 0 rfl rfl fun f0_0 => ?_
 refine yF 0 1 rfl rfl fun f0_1 => ?_
 refine yF 0 2 rfl rfl fun f0_2 => ?_
 refine yF 0 3 rfl rfl fun f0_3 => ?_
 refine yF 1 0 rfl rfl fun f1_0 => ?_
 refine yF 1 1 rfl rfl fun f1_1 => ?_
 refine yF 1 2 rfl rfl fun f1_2 => ?_
 refine yF 1 3 rfl rfl fun f1_3 => ?_
 iterate 11 refine z ?_
 refine zC Tryz.call56 ?_ (hf := ok_laws_eqKey)
 iterate 2 refine z ?_
 refine yQ rfl (fun c1 => ?_) fun c1 => ?_
 ·skip
  iterate 6 refine z ?_
  first | rfl | (exfalso; simp_all [sEq])
 ·skip
  iterate 8 refine z ?_
  refine zC Tryz.call57 ?_ (hf := ok_laws_eqRecord)
  iterate 2 refine z ?_
  refine yQ rfl (fun c2 => ?_) fun c2 => ?_
  ·skip
   iterate 6 refine z ?_
   first | rfl | (exfalso; simp_all [sEq])
  ·skip
   iterate 7 refine z ?_
   first | rfl | (exfalso; simp_all [sEq])
theorem ok_laws_eqItemS {x : List (ItemT)}  : PFn Tryz.prog 146 [.one (.dv [] (itemsD (x))), .one (.dv [] (itemsD (x)))] (.one (.dv [] (.bool (true)))) := by
 refine ⟨fn_intro Tryz.func146 rfl Tryz.ntmps146 Tryz.results146 rfl (fun C => ?_)⟩
 refine ok_fact (x := .tmp 0) (ev_tmp rfl) fun f0 => ?_
 refine ok_fact (x := .tmp 1) (ev_tmp rfl) fun f1 => ?_
 iterate 11 refine z ?_
 refine yQ rfl (fun c1 => ?_) fun c1 => ?_
 ·skip
  have d1 := nd_t c1
  iterate 6 refine z ?_
  first | rfl | (exfalso; simp_all [sEq])
 ·skip
  have d1 := nd_f c1
  iterate 7 refine z ?_
  refine ok_loop (ι := Nat) (fun zz => ⟨[(0, .one (.dv [] (itemsD (x)))), (1, .one (.dv [] (itemsD (x)))), (5, .one (.dv [] (.int .i64 ((zz : Int)))))], [], []⟩) (fun zz => zz ≤ x.length) (fun zz => x.length - zz) (0) ?_ (weak_sub ⟨rfl, rfl, rfl, trivial⟩ trivial trivial rfl) (fun zz hx => ?_)
  ·exact Nat.zero_le _
  obtain ⟨k, rfl⟩ : ∃ v, v = zz := ⟨_, rfl⟩
  replace hx : k ≤ x.length := hx
  show Ok _ _ _ _ _ (⟨[(0, .one (.dv [] (itemsD (x)))), (1, .one (.dv [] (itemsD (x)))), (5, .one (.dv [] (.int .i64 ((k : Int)))))], [], []⟩ : St)
  iterate 7 refine z ?_
  refine yQ rfl (fun c2 => ?_) fun c2 => ?_
  ·skip
   have d2 := of_decide_eq_true c2
   iterate 4 refine z ?_
   refine ok_seq ?_
   refine ok_regionD (oB := []) (oK := []) (by kernel_rfl) rfl rfl ?_
   refine zD 0 ?_
   refine zD 1 ?_
   refine zD 2 ?_
   refine zD 3 ?_
   refine zD 4 ?_
   refine zD 5 ?_
   refine zD 6 ?_
   refine zD 7 ?_
   refine d_call 8 rfl (by kernel_rfl) rfl rfl rfl Tryz.call163 ok_laws_eqItem (as_cons (ev_tmp rfl) (ag_agg (ag_cons ac_dv (ag_cons ac_dv (ag_cons ac_dv (ag_cons ac_dv ag_nil))))) (as_cons (ev_tmp rfl) (ag_agg (ag_cons ac_dv (ag_cons ac_dv (ag_cons ac_dv (ag_cons ac_dv ag_nil))))) as_nil)) rfl rfl rfl rfl ?_
   refine zD 9 ?_
   refine d_done (by kernel_rfl) ?_
   refine z ?_
   refine yQ rfl (fun c3 => ?_) fun c3 => ?_
   ·skip
    iterate 10 refine z ?_
    first | rfl | (exfalso; simp_all [sEq])
   ·skip
    iterate 3 refine z ?_
    refine ok_region ?_
    iterate 4 refine z ?_
    refine ⟨k + 1, ?_, ?_, weak_sub ⟨rfl, rfl, rfl, trivial⟩ trivial trivial rfl⟩
    ·omega
    ·omega
  ·skip
   have d2 := of_decide_eq_false c2
   iterate 10 refine z ?_
   first | rfl | (exfalso; simp_all [sEq])
theorem ok_laws_eqStore {x : StoreT}  : PFn Tryz.prog 107 [.agg [(.dv [] (.str (x.1))), (.dv [] (itemsD (x.2.1))), (.dv [] (.int .i64 (x.2.2)))], .agg [(.dv [] (.str (x.1))), (.dv [] (itemsD (x.2.1))), (.dv [] (.int .i64 (x.2.2)))]] (.one (.dv [] (.bool (true)))) := by
 refine ⟨fn_intro Tryz.func107 rfl Tryz.ntmps107 Tryz.results107 rfl (fun C => ?_)⟩
 refine yF 0 0 rfl rfl fun f0_0 => ?_
 refine yF 0 1 rfl rfl fun f0_1 => ?_
 refine yF 0 2 rfl rfl fun f0_2 => ?_
 refine yF 1 0 rfl rfl fun f1_0 => ?_
 refine yF 1 1 rfl rfl fun f1_1 => ?_
 refine yF 1 2 rfl rfl fun f1_2 => ?_
 iterate 13 refine z ?_
 refine yQ rfl (fun c1 => ?_) fun c1 => ?_
 ·skip
  iterate 6 refine z ?_
  first | rfl | (exfalso; simp_all [sEq])
 ·skip
  iterate 8 refine z ?_
  refine zC Tryz.call146 ?_ (hf := ok_laws_eqItemS)
  iterate 2 refine z ?_
  refine yQ rfl (fun c2 => ?_) fun c2 => ?_
  ·skip
   iterate 6 refine z ?_
   first | rfl | (exfalso; simp_all [sEq])
  ·skip
   iterate 10 refine z ?_
   refine yQ rfl (fun c3 => ?_) fun c3 => ?_
   ·skip
    have d3 := nd_t c3
    iterate 6 refine z ?_
    first | rfl | (exfalso; simp_all [sEq])
   ·skip
    have d3 := nd_f c3
    iterate 7 refine z ?_
    first | rfl | (exfalso; simp_all [sEq])
end Go.Proofs.YtmgijbhikmjfjaaGreat

namespace Go.Proofs.YtmgijbhikmjfjaaGreat
open Go.RowKit
open Go.Proofs
set_option linter.unusedVariables false
set_option linter.unusedSimpArgs false
theorem ok_laws_szStoreS {x : List (StoreT)} {left : Int} (h0 : 0 ≤ left) (h1 : left ≤ 1048576) : PFn Tryz.prog 36 [.one (.dv [] (storesD (x))), .one (.dv [] (.int .i64 (left)))] (.one (.dv [] (.int .i64 (szR (left) (wList wStore x))))) := by
 refine ⟨fn_intro Tryz.func36 rfl Tryz.ntmps36 Tryz.results36 rfl (fun C => ?_)⟩
 refine ok_fact (x := .tmp 0) (ev_tmp rfl) fun f0 => ?_
 refine ok_fact (x := .tmp 1) (ev_tmp rfl) fun f1 => ?_
 iterate 15 refine z ?_
 refine yQ rfl (fun c1 => ?_) fun c1 => ?_
 ·skip
  have d1 := of_decide_eq_true c1
  first | have q1 := szR_n d1 | skip
  iterate 6 refine z ?_
  have hh := szR_cases left (wList wStore x); simp only [wList] at hh ⊢ <;> omega
 ·skip
  have d1 := of_decide_eq_false c1
  first | have q1 := szR_nn d1 | skip
  iterate 7 refine z ?_
  refine ok_loop (ι := Nat × Int) (fun zz => ⟨[(0, .one (.dv [] (storesD (x)))), (1, .one (.dv [] (.int .i64 (zz.2)))), (5, .one (.dv [] (.int .i64 ((zz.1 : Int)))))], [], []⟩) (fun zz => zz.1 ≤ x.length ∧ 0 ≤ zz.2 ∧ zz.2 + (wSum wStore (x.take zz.1) : Int) = left - (x.length : Int)) (fun zz => x.length - zz.1) ((0, left - (x.length : Int))) ?_ (weak_sub ⟨rfl, rfl, rfl, trivial⟩ trivial trivial rfl) (fun zz hx => ?_)
  ·exact ⟨Nat.zero_le _, by omega, by simp [wSum]⟩
  obtain ⟨k, l⟩ := zz
  replace hx : k ≤ x.length ∧ 0 ≤ l ∧ l + (wSum wStore (x.take k) : Int) = left - (x.length : Int) := hx
  obtain ⟨hk, hl, he⟩ := hx
  have hw := fun h => wSum_succ wStore x k h
  show Ok _ _ _ _ _ (⟨[(0, .one (.dv [] (storesD (x)))), (1, .one (.dv [] (.int .i64 (l)))), (5, .one (.dv [] (.int .i64 ((k : Int)))))], [], []⟩ : St)
  iterate 7 refine z ?_
  refine yQ rfl (fun c2 => ?_) fun c2 => ?_
  ·skip
   have d2 := of_decide_eq_true c2
   first | have q2 := szR_n d2 | skip
   iterate 10 refine z ?_
   refine zC Tryz.call76 ?_ (hf := ok_laws_szStore (by omega) (by omega))
   iterate 6 refine z ?_
   refine yQ rfl (fun c3 => ?_) fun c3 => ?_
   ·skip
    have d3 := of_decide_eq_true c3
    first | have q3 := szR_n d3 | skip
    iterate 10 refine z ?_
    have hw' := hw (by omega); have hh := szR_cases left (wList wStore x); simp only [wList] at hh ⊢ <;> omega
   ·skip
    have d3 := of_decide_eq_false c3
    first | have q3 := szR_nn d3 | skip
    iterate 3 refine z ?_
    refine ok_region ?_
    iterate 4 refine z ?_
    refine ⟨(k + 1, szR l (wStore (x.getD (k : Int).toNat default))), ?_, ?_, weak_sub ⟨rfl, rfl, rfl, trivial⟩ trivial trivial rfl⟩
    ·have hw' := hw (by omega)
     dsimp only
     exact ⟨by omega, by omega, by omega⟩
    ·omega
  ·skip
   have d2 := of_decide_eq_false c2
   first | have q2 := szR_nn d2 | skip
   iterate 11 refine z ?_
   have hw' := wSum_all wStore x k (by omega); have hh := szR_cases left (wList wStore x); simp only [wList] at hh ⊢ <;> omega
theorem ok_laws_toStoreS {x : List (StoreT)} (hb : wList wStore x ≤ 1048576) : KFn Tryz.prog 45 [.one (.dv [] (storesD (x)))] (.one (.key 7)) [(7, some (kcOf false (storesD (x))))] := by
 refine ⟨fn_intro Tryz.func45 rfl Tryz.ntmps45 Tryz.results45 rfl (fun C => ?_)⟩
 refine ok_fact (x := .tmp 0) (ev_tmp rfl) fun f0 => ?_
 iterate 6 refine z ?_
 refine o_make (k := 7) (n := ((x)).length) (zd := [.str (ByteArray.empty), .sl 141 4 0 [], .int .i64 (0)]) (cs := fillD eStore [.str (ByteArray.empty), .sl 141 4 0 [], .int .i64 (0)] x 0) hT rfl rfl rfl rfl rfl rfl (ev_tmp rfl) (ev_tmp rfl) rfl rfl rfl (by have := wList_len wStore x; omega) rfl rfl fillD_zero ?_
 iterate 7 refine z ?_
 refine ok_loop (ι := Nat) (fun zz => ⟨[(0, .one (.dv [] (storesD (x)))), (3, .one (.key 7)), (4, .one (.dv [] (.int .i64 ((zz : Int)))))], [], [(7, some (kcOf false (.sl 91 3 ((x).length) (fillD eStore [.str (ByteArray.empty), .sl 141 4 0 [], .int .i64 (0)] x zz))))]⟩) (fun zz => zz ≤ x.length) (fun zz => x.length - zz) (0) ?_ (weak_sub ⟨rfl, rfl, rfl, trivial⟩ trivial ⟨rfl, trivial⟩ rfl) (fun zz hx => ?_)
 ·exact Nat.zero_le _
 obtain ⟨k, rfl⟩ : ∃ v, v = zz := ⟨_, rfl⟩
 replace hx : k ≤ x.length := hx
 have hw := fun h => wSum_succ wStore x k h
 have hw2 := wSum_le wStore x (k + 1)
 have hw3 : wList wStore x = x.length + wSum wStore x := rfl
 show Ok _ _ _ _ _ (⟨[(0, .one (.dv [] (storesD (x)))), (3, .one (.key 7)), (4, .one (.dv [] (.int .i64 ((k : Int)))))], [], [(7, some (kcOf false (.sl 91 3 ((x).length) (fillD eStore [.str (ByteArray.empty), .sl 141 4 0 [], .int .i64 (0)] x k))))]⟩ : St)
 iterate 7 refine z ?_
 refine yQ rfl (fun c1 => ?_) fun c1 => ?_
 ·skip
  have d1 := of_decide_eq_true c1
  iterate 4 refine z ?_
  refine ok_region ?_
  iterate 6 refine z ?_
  refine zK 20000 Tryz.call90 ?_ (hf := ok_laws_toStore (by first | omega | (simp only [wKey, wField, wRecord, wItem, wStore, wIndexDef, wDatabase, wOp, wTx, wTxQueue] at hb ⊢; omega) | (have hq := hw (by omega); omega)))
  refine yO rfl rfl (pu_indexK (i := k) hT rfl rfl rfl (ev_tmp rfl) rfl (ev_tmp rfl) rfl (by show _ < ((x).length); omega)) rfl ?_
  refine o_storeE (js := [29007]) (cs := fillD eStore [.str (ByteArray.empty), .sl 141 4 0 [], .int .i64 (0)] x (k + 1)) hT rfl rfl rfl rfl (ev_tmp rfl) (ev_tmp rfl) rfl rfl rfl rfl (ow_cons' (ow_dv rfl) (ow_cons' (ow_key rfl) (ow_cons' (ow_dv rfl) ow_nil rfl) rfl) rfl) (by decide) (by decide) rfl (by show _ ≤ List.length (fillD eStore [.str (ByteArray.empty), .sl 141 4 0 [], .int .i64 (0)] x k); rw [fillD_len (sz := 3) (fun _ => rfl) rfl]; omega) (fillD_succ (sz := 3) (fun _ => rfl) rfl (by omega) rfl) ?_
  simp only [killT, killB, SV.kill, CV.kill, kk, Nat.reduceBEq]
  refine ops_nil ?_
  iterate 2 refine z ?_
  refine ok_region ?_
  iterate 4 refine z ?_
  refine ⟨k + 1, ?_, ?_, weak_sub ⟨rfl, rfl, rfl, trivial⟩ trivial ⟨rfl, trivial⟩ rfl⟩
  ·omega
  ·omega
 ·skip
  have d1 := of_decide_eq_false c1
  iterate 9 refine z ?_
  refine ok_weak (σ' := ⟨[(2, .one (.key 7))], [], [(7, some (kcOf false (storesD (x))))]⟩) (weak_sub ⟨rfl, trivial⟩ trivial ⟨(congrArg (fun cs => some (some (KC.mk false 91 3 x.length cs))) (fillD_all (by omega))), trivial⟩ rfl) ?_
  refine z ?_
  refine fin1 (res_tmp rfl) ?_
  exact ⟨rfl, rfl⟩
theorem ok_laws_eqStoreS {x : List (StoreT)}  : PFn Tryz.prog 54 [.one (.dv [] (storesD (x))), .one (.dv [] (storesD (x)))] (.one (.dv [] (.bool (true)))) := by
 refine ⟨fn_intro Tryz.func54 rfl Tryz.ntmps54 Tryz.results54 rfl (fun C => ?_)⟩
 refine ok_fact (x := .tmp 0) (ev_tmp rfl) fun f0 => ?_
 refine ok_fact (x := .tmp 1) (ev_tmp rfl) fun f1 => ?_
 iterate 11 refine z ?_
 refine yQ rfl (fun c1 => ?_) fun c1 => ?_
 ·skip
  have d1 := nd_t c1
  iterate 6 refine z ?_
  first | rfl | (exfalso; simp_all [sEq])
 ·skip
  have d1 := nd_f c1
  iterate 7 refine z ?_
  refine ok_loop (ι := Nat) (fun zz => ⟨[(0, .one (.dv [] (storesD (x)))), (1, .one (.dv [] (storesD (x)))), (5, .one (.dv [] (.int .i64 ((zz : Int)))))], [], []⟩) (fun zz => zz ≤ x.length) (fun zz => x.length - zz) (0) ?_ (weak_sub ⟨rfl, rfl, rfl, trivial⟩ trivial trivial rfl) (fun zz hx => ?_)
  ·exact Nat.zero_le _
  obtain ⟨k, rfl⟩ : ∃ v, v = zz := ⟨_, rfl⟩
  replace hx : k ≤ x.length := hx
  show Ok _ _ _ _ _ (⟨[(0, .one (.dv [] (storesD (x)))), (1, .one (.dv [] (storesD (x)))), (5, .one (.dv [] (.int .i64 ((k : Int)))))], [], []⟩ : St)
  iterate 7 refine z ?_
  refine yQ rfl (fun c2 => ?_) fun c2 => ?_
  ·skip
   have d2 := of_decide_eq_true c2
   iterate 4 refine z ?_
   refine ok_seq ?_
   refine ok_regionD (oB := []) (oK := []) (by kernel_rfl) rfl rfl ?_
   refine zD 0 ?_
   refine zD 1 ?_
   refine zD 2 ?_
   refine zD 3 ?_
   refine zD 4 ?_
   refine zD 5 ?_
   refine zD 6 ?_
   refine zD 7 ?_
   refine d_call 8 rfl (by kernel_rfl) rfl rfl rfl Tryz.call107 ok_laws_eqStore (as_cons (ev_tmp rfl) (ag_agg (ag_cons ac_dv (ag_cons ac_dv (ag_cons ac_dv ag_nil)))) (as_cons (ev_tmp rfl) (ag_agg (ag_cons ac_dv (ag_cons ac_dv (ag_cons ac_dv ag_nil)))) as_nil)) rfl rfl rfl rfl ?_
   refine zD 9 ?_
   refine d_done (by kernel_rfl) ?_
   refine z ?_
   refine yQ rfl (fun c3 => ?_) fun c3 => ?_
   ·skip
    iterate 10 refine z ?_
    first | rfl | (exfalso; simp_all [sEq])
   ·skip
    iterate 3 refine z ?_
    refine ok_region ?_
    iterate 4 refine z ?_
    refine ⟨k + 1, ?_, ?_, weak_sub ⟨rfl, rfl, rfl, trivial⟩ trivial trivial rfl⟩
    ·omega
    ·omega
  ·skip
   have d2 := of_decide_eq_false c2
   iterate 10 refine z ?_
   first | rfl | (exfalso; simp_all [sEq])
theorem ok_laws_szIndexDef {x : DefT} {left : Int} (h0 : 0 ≤ left) (h1 : left ≤ 1048576) : PFn Tryz.prog 77 [.agg [(.dv [] (.str (x.1))), (.dv [] (.str (x.2)))], .one (.dv [] (.int .i64 (left)))] (.one (.dv [] (.int .i64 (szR (left) (wIndexDef x))))) := by
 refine ⟨fn_intro Tryz.func77 rfl Tryz.ntmps77 Tryz.results77 rfl (fun C => ?_)⟩
 refine yF 0 0 rfl rfl fun f0_0 => ?_
 refine yF 0 1 rfl rfl fun f0_1 => ?_
 refine ok_fact (x := .tmp 1) (ev_tmp rfl) fun f1 => ?_
 iterate 17 refine z ?_
 refine yQ rfl (fun c1 => ?_) fun c1 => ?_
 ·skip
  have d1 := of_decide_eq_true c1
  first | have q1 := szR_n d1 | skip
  iterate 6 refine z ?_
  have hh := szR_cases left (wIndexDef x); simp only [wIndexDef] at hh ⊢ <;> omega
 ·skip
  have d1 := of_decide_eq_false c1
  first | have q1 := szR_nn d1 | skip
  iterate 15 refine z ?_
  refine yQ rfl (fun c2 => ?_) fun c2 => ?_
  ·skip
   have d2 := of_decide_eq_true c2
   first | have q2 := szR_n d2 | skip
   iterate 6 refine z ?_
   have hh := szR_cases left (wIndexDef x); simp only [wIndexDef] at hh ⊢ <;> omega
  ·skip
   have d2 := of_decide_eq_false c2
   first | have q2 := szR_nn d2 | skip
   iterate 8 refine z ?_
   have hh := szR_cases left (wIndexDef x); simp only [wIndexDef] at hh ⊢ <;> omega
theorem ok_laws_szIndexDefS {x : List (DefT)} {left : Int} (h0 : 0 ≤ left) (h1 : left ≤ 1048576) : PFn Tryz.prog 37 [.one (.dv [] (defsD (x))), .one (.dv [] (.int .i64 (left)))] (.one (.dv [] (.int .i64 (szR (left) (wList wIndexDef x))))) := by
 refine ⟨fn_intro Tryz.func37 rfl Tryz.ntmps37 Tryz.results37 rfl (fun C => ?_)⟩
 refine ok_fact (x := .tmp 0) (ev_tmp rfl) fun f0 => ?_
 refine ok_fact (x := .tmp 1) (ev_tmp rfl) fun f1 => ?_
 iterate 15 refine z ?_
 refine yQ rfl (fun c1 => ?_) fun c1 => ?_
 ·skip
  have d1 := of_decide_eq_true c1
  first | have q1 := szR_n d1 | skip
  iterate 6 refine z ?_
  have hh := szR_cases left (wList wIndexDef x); simp only [wList] at hh ⊢ <;> omega
 ·skip
  have d1 := of_decide_eq_false c1
  first | have q1 := szR_nn d1 | skip
  iterate 7 refine z ?_
  refine ok_loop (ι := Nat × Int) (fun zz => ⟨[(0, .one (.dv [] (defsD (x)))), (1, .one (.dv [] (.int .i64 (zz.2)))), (5, .one (.dv [] (.int .i64 ((zz.1 : Int)))))], [], []⟩) (fun zz => zz.1 ≤ x.length ∧ 0 ≤ zz.2 ∧ zz.2 + (wSum wIndexDef (x.take zz.1) : Int) = left - (x.length : Int)) (fun zz => x.length - zz.1) ((0, left - (x.length : Int))) ?_ (weak_sub ⟨rfl, rfl, rfl, trivial⟩ trivial trivial rfl) (fun zz hx => ?_)
  ·exact ⟨Nat.zero_le _, by omega, by simp [wSum]⟩
  obtain ⟨k, l⟩ := zz
  replace hx : k ≤ x.length ∧ 0 ≤ l ∧ l + (wSum wIndexDef (x.take k) : Int) = left - (x.length : Int) := hx
  obtain ⟨hk, hl, he⟩ := hx
  have hw := fun h => wSum_succ wIndexDef x k h
  show Ok _ _ _ _ _ (⟨[(0, .one (.dv [] (defsD (x)))), (1, .one (.dv [] (.int .i64 (l)))), (5, .one (.dv [] (.int .i64 ((k : Int)))))], [], []⟩ : St)
  iterate 7 refine z ?_
  refine yQ rfl (fun c2 => ?_) fun c2 => ?_
  ·skip
   have d2 := of_decide_eq_true c2
   first | have q2 := szR_n d2 | skip
   iterate 10 refine z ?_
   refine zC Tryz.call77 ?_ (hf := ok_laws_szIndexDef (by omega) (by omega))
   iterate 6 refine z ?_
   refine yQ rfl (fun c3 => ?_) fun c3 => ?_
   ·skip
    have d3 := of_decide_eq_true c3
    first | have q3 := szR_n d3 | skip
    iterate 10 refine z ?_
    have hw' := hw (by omega); have hh := szR_cases left (wList wIndexDef x); simp only [wList] at hh ⊢ <;> omega
   ·skip
    have d3 := of_decide_eq_false c3
    first | have q3 := szR_nn d3 | skip
    iterate 3 refine z ?_
    refine ok_region ?_
    iterate 4 refine z ?_
    refine ⟨(k + 1, szR l (wIndexDef (x.getD (k : Int).toNat default))), ?_, ?_, weak_sub ⟨rfl, rfl, rfl, trivial⟩ trivial trivial rfl⟩
    ·have hw' := hw (by omega)
     dsimp only
     exact ⟨by omega, by omega, by omega⟩
    ·omega
  ·skip
   have d2 := of_decide_eq_false c2
   first | have q2 := szR_nn d2 | skip
   iterate 11 refine z ?_
   have hw' := wSum_all wIndexDef x k (by omega); have hh := szR_cases left (wList wIndexDef x); simp only [wList] at hh ⊢ <;> omega
theorem ok_laws_toIndexDef {x : DefT}  : PFn Tryz.prog 91 [.agg [(.dv [] (.str (x.1))), (.dv [] (.str (x.2)))]] (.agg [(.dv [] (.str (x.1))), (.dv [] (.str (x.2)))]) := by
 refine ⟨fn_intro Tryz.func91 rfl Tryz.ntmps91 Tryz.results91 rfl (fun C => ?_)⟩
 refine yF 0 0 rfl rfl fun f0_0 => ?_
 refine yF 0 1 rfl rfl fun f0_1 => ?_
 iterate 24 refine z ?_
 refine fin1 (res_cell hT rfl rfl rfl rfl) ?_
 rfl
theorem ok_laws_toIndexDefS {x : List (DefT)} (hb : wList wIndexDef x ≤ 1048576) : KFn Tryz.prog 46 [.one (.dv [] (defsD (x)))] (.one (.key 7)) [(7, some (kcOf false (defsD (x))))] := by
 refine ⟨fn_intro Tryz.func46 rfl Tryz.ntmps46 Tryz.results46 rfl (fun C => ?_)⟩
 refine ok_fact (x := .tmp 0) (ev_tmp rfl) fun f0 => ?_
 iterate 6 refine z ?_
 refine o_make (k := 7) (n := ((x)).length) (zd := [.str (ByteArray.empty), .str (ByteArray.empty)]) (cs := fillD eDef [.str (ByteArray.empty), .str (ByteArray.empty)] x 0) hT rfl rfl rfl rfl rfl rfl (ev_tmp rfl) (ev_tmp rfl) rfl rfl rfl (by have := wList_len wIndexDef x; omega) rfl rfl fillD_zero ?_
 iterate 7 refine z ?_
 refine ok_loop (ι := Nat) (fun zz => ⟨[(0, .one (.dv [] (defsD (x)))), (3, .one (.key 7)), (4, .one (.dv [] (.int .i64 ((zz : Int)))))], [], [(7, some (kcOf false (.sl 127 2 ((x).length) (fillD eDef [.str (ByteArray.empty), .str (ByteArray.empty)] x zz))))]⟩) (fun zz => zz ≤ x.length) (fun zz => x.length - zz) (0) ?_ (weak_sub ⟨rfl, rfl, rfl, trivial⟩ trivial ⟨rfl, trivial⟩ rfl) (fun zz hx => ?_)
 ·exact Nat.zero_le _
 obtain ⟨k, rfl⟩ : ∃ v, v = zz := ⟨_, rfl⟩
 replace hx : k ≤ x.length := hx
 have hw := fun h => wSum_succ wIndexDef x k h
 have hw2 := wSum_le wIndexDef x (k + 1)
 have hw3 : wList wIndexDef x = x.length + wSum wIndexDef x := rfl
 show Ok _ _ _ _ _ (⟨[(0, .one (.dv [] (defsD (x)))), (3, .one (.key 7)), (4, .one (.dv [] (.int .i64 ((k : Int)))))], [], [(7, some (kcOf false (.sl 127 2 ((x).length) (fillD eDef [.str (ByteArray.empty), .str (ByteArray.empty)] x k))))]⟩ : St)
 iterate 7 refine z ?_
 refine yQ rfl (fun c1 => ?_) fun c1 => ?_
 ·skip
  have d1 := of_decide_eq_true c1
  iterate 4 refine z ?_
  refine ok_region ?_
  iterate 6 refine z ?_
  refine zC Tryz.call91 ?_ (hf := ok_laws_toIndexDef)
  refine yO rfl rfl (pu_indexK (i := k) hT rfl rfl rfl (ev_tmp rfl) rfl (ev_tmp rfl) rfl (by show _ < ((x).length); omega)) rfl ?_
  refine o_storeE (js := []) (cs := fillD eDef [.str (ByteArray.empty), .str (ByteArray.empty)] x (k + 1)) hT rfl rfl rfl rfl (ev_tmp rfl) (ev_tmp rfl) rfl rfl rfl rfl (ow_cons' (ow_dv rfl) (ow_cons' (ow_dv rfl) ow_nil rfl) rfl) (by decide) (by decide) rfl (by show _ ≤ List.length (fillD eDef [.str (ByteArray.empty), .str (ByteArray.empty)] x k); rw [fillD_len (sz := 2) (fun _ => rfl) rfl]; omega) (fillD_succ (sz := 2) (fun _ => rfl) rfl (by omega) rfl) ?_
  simp only [killT, killB, SV.kill, CV.kill, kk, Nat.reduceBEq]
  refine ops_nil ?_
  iterate 2 refine z ?_
  refine ok_region ?_
  iterate 4 refine z ?_
  refine ⟨k + 1, ?_, ?_, weak_sub ⟨rfl, rfl, rfl, trivial⟩ trivial ⟨rfl, trivial⟩ rfl⟩
  ·omega
  ·omega
 ·skip
  have d1 := of_decide_eq_false c1
  iterate 9 refine z ?_
  refine ok_weak (σ' := ⟨[(2, .one (.key 7))], [], [(7, some (kcOf false (defsD (x))))]⟩) (weak_sub ⟨rfl, trivial⟩ trivial ⟨(congrArg (fun cs => some (some (KC.mk false 127 2 x.length cs))) (fillD_all (by omega))), trivial⟩ rfl) ?_
  refine z ?_
  refine fin1 (res_tmp rfl) ?_
  exact ⟨rfl, rfl⟩
theorem ok_laws_eqIndexDef {x : DefT}  : PFn Tryz.prog 108 [.agg [(.dv [] (.str (x.1))), (.dv [] (.str (x.2)))], .agg [(.dv [] (.str (x.1))), (.dv [] (.str (x.2)))]] (.one (.dv [] (.bool (true)))) := by
 refine ⟨fn_intro Tryz.func108 rfl Tryz.ntmps108 Tryz.results108 rfl (fun C => ?_)⟩
 refine yF 0 0 rfl rfl fun f0_0 => ?_
 refine yF 0 1 rfl rfl fun f0_1 => ?_
 refine yF 1 0 rfl rfl fun f1_0 => ?_
 refine yF 1 1 rfl rfl fun f1_1 => ?_
 iterate 13 refine z ?_
 refine yQ rfl (fun c1 => ?_) fun c1 => ?_
 ·skip
  iterate 6 refine z ?_
  first | rfl | (exfalso; simp_all [sEq])
 ·skip
  iterate 10 refine z ?_
  refine yQ rfl (fun c2 => ?_) fun c2 => ?_
  ·skip
   iterate 6 refine z ?_
   first | rfl | (exfalso; simp_all [sEq])
  ·skip
   iterate 7 refine z ?_
   first | rfl | (exfalso; simp_all [sEq])
theorem ok_laws_eqIndexDefS {x : List (DefT)}  : PFn Tryz.prog 55 [.one (.dv [] (defsD (x))), .one (.dv [] (defsD (x)))] (.one (.dv [] (.bool (true)))) := by
 refine ⟨fn_intro Tryz.func55 rfl Tryz.ntmps55 Tryz.results55 rfl (fun C => ?_)⟩
 refine ok_fact (x := .tmp 0) (ev_tmp rfl) fun f0 => ?_
 refine ok_fact (x := .tmp 1) (ev_tmp rfl) fun f1 => ?_
 iterate 11 refine z ?_
 refine yQ rfl (fun c1 => ?_) fun c1 => ?_
 ·skip
  have d1 := nd_t c1
  iterate 6 refine z ?_
  first | rfl | (exfalso; simp_all [sEq])
 ·skip
  have d1 := nd_f c1
  iterate 7 refine z ?_
  refine ok_loop (ι := Nat) (fun zz => ⟨[(0, .one (.dv [] (defsD (x)))), (1, .one (.dv [] (defsD (x)))), (5, .one (.dv [] (.int .i64 ((zz : Int)))))], [], []⟩) (fun zz => zz ≤ x.length) (fun zz => x.length - zz) (0) ?_ (weak_sub ⟨rfl, rfl, rfl, trivial⟩ trivial trivial rfl) (fun zz hx => ?_)
  ·exact Nat.zero_le _
  obtain ⟨k, rfl⟩ : ∃ v, v = zz := ⟨_, rfl⟩
  replace hx : k ≤ x.length := hx
  show Ok _ _ _ _ _ (⟨[(0, .one (.dv [] (defsD (x)))), (1, .one (.dv [] (defsD (x)))), (5, .one (.dv [] (.int .i64 ((k : Int)))))], [], []⟩ : St)
  iterate 7 refine z ?_
  refine yQ rfl (fun c2 => ?_) fun c2 => ?_
  ·skip
   have d2 := of_decide_eq_true c2
   iterate 4 refine z ?_
   refine ok_seq ?_
   refine ok_regionD (oB := []) (oK := []) (by kernel_rfl) rfl rfl ?_
   refine zD 0 ?_
   refine zD 1 ?_
   refine zD 2 ?_
   refine zD 3 ?_
   refine zD 4 ?_
   refine zD 5 ?_
   refine zD 6 ?_
   refine zD 7 ?_
   refine d_call 8 rfl (by kernel_rfl) rfl rfl rfl Tryz.call108 ok_laws_eqIndexDef (as_cons (ev_tmp rfl) (ag_agg (ag_cons ac_dv (ag_cons ac_dv ag_nil))) (as_cons (ev_tmp rfl) (ag_agg (ag_cons ac_dv (ag_cons ac_dv ag_nil))) as_nil)) rfl rfl rfl rfl ?_
   refine zD 9 ?_
   refine d_done (by kernel_rfl) ?_
   refine z ?_
   refine yQ rfl (fun c3 => ?_) fun c3 => ?_
   ·skip
    iterate 10 refine z ?_
    first | rfl | (exfalso; simp_all [sEq])
   ·skip
    iterate 3 refine z ?_
    refine ok_region ?_
    iterate 4 refine z ?_
    refine ⟨k + 1, ?_, ?_, weak_sub ⟨rfl, rfl, rfl, trivial⟩ trivial trivial rfl⟩
    ·omega
    ·omega
  ·skip
   have d2 := of_decide_eq_false c2
   iterate 10 refine z ?_
   first | rfl | (exfalso; simp_all [sEq])
theorem ok_laws_szDatabase {x : DbT} {left : Int} (h0 : 0 ≤ left) (h1 : left ≤ 1048576) : PFn Tryz.prog 7 [.agg [(.dv [] (.str (x.1))), (.dv [] (.int .i64 (x.2.1))), (.dv [] (storesD (x.2.2.1))), (.dv [] (defsD (x.2.2.2)))], .one (.dv [] (.int .i64 (left)))] (.one (.dv [] (.int .i64 (szR (left) (wDatabase x))))) := by
 refine ⟨fn_intro Tryz.func7 rfl Tryz.ntmps7 Tryz.results7 rfl (fun C => ?_)⟩
 refine yF 0 0 rfl rfl fun f0_0 => ?_
 refine yF 0 1 rfl rfl fun f0_1 => ?_
 refine yF 0 2 rfl rfl fun f0_2 => ?_
 refine yF 0 3 rfl rfl fun f0_3 => ?_
 refine ok_fact (x := .tmp 1) (ev_tmp rfl) fun f1 => ?_
 iterate 17 refine z ?_
 refine yQ rfl (fun c1 => ?_) fun c1 => ?_
 ·skip
  have d1 := of_decide_eq_true c1
  first | have q1 := szR_n d1 | skip
  iterate 6 refine z ?_
  have hh := szR_cases left (wDatabase x); simp only [wDatabase] at hh ⊢ <;> omega
 ·skip
  have d1 := of_decide_eq_false c1
  first | have q1 := szR_nn d1 | skip
  iterate 6 refine z ?_
  refine zC Tryz.call36 ?_ (hf := ok_laws_szStoreS (by omega) (by omega))
  iterate 7 refine z ?_
  refine yQ rfl (fun c2 => ?_) fun c2 => ?_
  ·skip
   have d2 := of_decide_eq_true c2
   first | have q2 := szR_n d2 | skip
   iterate 6 refine z ?_
   have hh := szR_cases left (wDatabase x); simp only [wDatabase] at hh ⊢ <;> omega
  ·skip
   have d2 := of_decide_eq_false c2
   first | have q2 := szR_nn d2 | skip
   iterate 6 refine z ?_
   refine zC Tryz.call37 ?_ (hf := ok_laws_szIndexDefS (by omega) (by omega))
   iterate 7 refine z ?_
   refine yQ rfl (fun c3 => ?_) fun c3 => ?_
   ·skip
    have d3 := of_decide_eq_true c3
    first | have q3 := szR_n d3 | skip
    iterate 6 refine z ?_
    have hh := szR_cases left (wDatabase x); simp only [wDatabase] at hh ⊢ <;> omega
   ·skip
    have d3 := of_decide_eq_false c3
    first | have q3 := szR_nn d3 | skip
    iterate 8 refine z ?_
    have hh := szR_cases left (wDatabase x); simp only [wDatabase] at hh ⊢ <;> omega
theorem ok_laws_toDatabase {x : DbT} (hb : wDatabase x ≤ 1048576) : KFn Tryz.prog 10 [.agg [(.dv [] (.str (x.1))), (.dv [] (.int .i64 (x.2.1))), (.dv [] (storesD (x.2.2.1))), (.dv [] (defsD (x.2.2.2)))]] (.agg [(.dv [] (.str (x.1))), (.dv [] (.int .i64 (x.2.1))), (.key 12007), (.key 16007)]) [(12007, some (kcOf false (storesD (x.2.2.1)))), (16007, some (kcOf false (defsD (x.2.2.2))))] := by
 refine ⟨fn_intro Tryz.func10 rfl Tryz.ntmps10 Tryz.results10 rfl (fun C => ?_)⟩
 refine yF 0 0 rfl rfl fun f0_0 => ?_
 refine yF 0 1 rfl rfl fun f0_1 => ?_
 refine yF 0 2 rfl rfl fun f0_2 => ?_
 refine yF 0 3 rfl rfl fun f0_3 => ?_
 iterate 22 refine z ?_
 refine zK 12000 Tryz.call45 ?_ (hf := ok_laws_toStoreS (by first | omega | (simp only [wKey, wField, wRecord, wItem, wStore, wIndexDef, wDatabase, wOp, wTx, wTxQueue] at hb ⊢; omega) | (have hq := hw (by omega); omega)))
 iterate 6 refine z ?_
 refine zK 16000 Tryz.call46 ?_ (hf := ok_laws_toIndexDefS (by first | omega | (simp only [wKey, wField, wRecord, wItem, wStore, wIndexDef, wDatabase, wOp, wTx, wTxQueue] at hb ⊢; omega) | (have hq := hw (by omega); omega)))
 iterate 7 refine z ?_
 refine ok_weak (σ' := ⟨[(2, .box 2 0)], [(2, 38, [(.dv [] (.str (x.1))), (.dv [] (.int .i64 (x.2.1))), (.key 12007), (.key 16007)])], [(12007, some (kcOf false (storesD (x.2.2.1)))), (16007, some (kcOf false (defsD (x.2.2.2))))]⟩) (weak_sub ⟨rfl, trivial⟩ ⟨rfl, trivial⟩ ⟨rfl, rfl, trivial⟩ rfl) ?_
 refine z ?_
 refine fin1 (res_cell hT rfl rfl rfl rfl) ?_
 exact ⟨rfl, rfl⟩
theorem ok_laws_eqDatabase {x : DbT}  : PFn Tryz.prog 13 [.agg [(.dv [] (.str (x.1))), (.dv [] (.int .i64 (x.2.1))), (.dv [] (storesD (x.2.2.1))), (.dv [] (defsD (x.2.2.2)))], .agg [(.dv [] (.str (x.1))), (.dv [] (.int .i64 (x.2.1))), (.dv [] (storesD (x.2.2.1))), (.dv [] (defsD (x.2.2.2)))]] (.one (.dv [] (.bool (true)))) := by
 refine ⟨fn_intro Tryz.func13 rfl Tryz.ntmps13 Tryz.results13 rfl (fun C => ?_)⟩
 refine yF 0 0 rfl rfl fun f0_0 => ?_
 refine yF 0 1 rfl rfl fun f0_1 => ?_
 refine yF 0 2 rfl rfl fun f0_2 => ?_
 refine yF 0 3 rfl rfl fun f0_3 => ?_
 refine yF 1 0 rfl rfl fun f1_0 => ?_
 refine yF 1 1 rfl rfl fun f1_1 => ?_
 refine yF 1 2 rfl rfl fun f1_2 => ?_
 refine yF 1 3 rfl rfl fun f1_3 => ?_
 iterate 13 refine z ?_
 refine yQ rfl (fun c1 => ?_) fun c1 => ?_
 ·skip
  iterate 6 refine z ?_
  first | rfl | (exfalso; simp_all [sEq])
 ·skip
  iterate 10 refine z ?_
  refine yQ rfl (fun c2 => ?_) fun c2 => ?_
  ·skip
   have d2 := nd_t c2
   iterate 6 refine z ?_
   first | rfl | (exfalso; simp_all [sEq])
  ·skip
   have d2 := nd_f c2
   iterate 8 refine z ?_
   refine zC Tryz.call54 ?_ (hf := ok_laws_eqStoreS)
   iterate 2 refine z ?_
   refine yQ rfl (fun c3 => ?_) fun c3 => ?_
   ·skip
    iterate 6 refine z ?_
    first | rfl | (exfalso; simp_all [sEq])
   ·skip
    iterate 8 refine z ?_
    refine zC Tryz.call55 ?_ (hf := ok_laws_eqIndexDefS)
    iterate 2 refine z ?_
    refine yQ rfl (fun c4 => ?_) fun c4 => ?_
    ·skip
     iterate 6 refine z ?_
     first | rfl | (exfalso; simp_all [sEq])
    ·skip
     iterate 7 refine z ?_
     first | rfl | (exfalso; simp_all [sEq])
end Go.Proofs.YtmgijbhikmjfjaaGreat

namespace Go.Proofs.YtmgijbhikmjfjaaGreat
open Go.RowKit
open Go.Proofs
set_option linter.unusedVariables false
set_option linter.unusedSimpArgs false
theorem ok_laws_szTx {x : TxT} {left : Int} (h0 : 0 ≤ left) (h1 : left ≤ 1048576) : PFn Tryz.prog 112 [.agg [(.dv [] (.int .i64 (x.1))), (.dv [] (opsD (x.2.1))), (.dv [] (.int .i64 (x.2.2.1))), (.dv [] (.int .i64 (x.2.2.2.1))), (.dv [] (storesD (x.2.2.2.2)))], .one (.dv [] (.int .i64 (left)))] (.one (.dv [] (.int .i64 (szR (left) (wTx x))))) := by
 refine ⟨fn_intro Tryz.func112 rfl Tryz.ntmps112 Tryz.results112 rfl (fun C => ?_)⟩
 refine yF 0 0 rfl rfl fun f0_0 => ?_
 refine yF 0 1 rfl rfl fun f0_1 => ?_
 refine yF 0 2 rfl rfl fun f0_2 => ?_
 refine yF 0 3 rfl rfl fun f0_3 => ?_
 refine yF 0 4 rfl rfl fun f0_4 => ?_
 refine ok_fact (x := .tmp 1) (ev_tmp rfl) fun f1 => ?_
 iterate 8 refine z ?_
 refine zC Tryz.call18 ?_ (hf := ok_laws_szOpS (by omega) (by omega))
 iterate 7 refine z ?_
 refine yQ rfl (fun c1 => ?_) fun c1 => ?_
 ·skip
  have d1 := of_decide_eq_true c1
  first | have q1 := szR_n d1 | skip
  iterate 6 refine z ?_
  have hh := szR_cases left (wTx x); simp only [wTx] at hh ⊢ <;> omega
 ·skip
  have d1 := of_decide_eq_false c1
  first | have q1 := szR_nn d1 | skip
  iterate 6 refine z ?_
  refine zC Tryz.call36 ?_ (hf := ok_laws_szStoreS (by omega) (by omega))
  iterate 7 refine z ?_
  refine yQ rfl (fun c2 => ?_) fun c2 => ?_
  ·skip
   have d2 := of_decide_eq_true c2
   first | have q2 := szR_n d2 | skip
   iterate 6 refine z ?_
   have hh := szR_cases left (wTx x); simp only [wTx] at hh ⊢ <;> omega
  ·skip
   have d2 := of_decide_eq_false c2
   first | have q2 := szR_nn d2 | skip
   iterate 8 refine z ?_
   have hh := szR_cases left (wTx x); simp only [wTx] at hh ⊢ <;> omega
theorem ok_laws_szTxS {x : List (TxT)} {left : Int} (h0 : 0 ≤ left) (h1 : left ≤ 1048576) : PFn Tryz.prog 65 [.one (.dv [] (txsD (x))), .one (.dv [] (.int .i64 (left)))] (.one (.dv [] (.int .i64 (szR (left) (wList wTx x))))) := by
 refine ⟨fn_intro Tryz.func65 rfl Tryz.ntmps65 Tryz.results65 rfl (fun C => ?_)⟩
 refine ok_fact (x := .tmp 0) (ev_tmp rfl) fun f0 => ?_
 refine ok_fact (x := .tmp 1) (ev_tmp rfl) fun f1 => ?_
 iterate 15 refine z ?_
 refine yQ rfl (fun c1 => ?_) fun c1 => ?_
 ·skip
  have d1 := of_decide_eq_true c1
  first | have q1 := szR_n d1 | skip
  iterate 6 refine z ?_
  have hh := szR_cases left (wList wTx x); simp only [wList] at hh ⊢ <;> omega
 ·skip
  have d1 := of_decide_eq_false c1
  first | have q1 := szR_nn d1 | skip
  iterate 7 refine z ?_
  refine ok_loop (ι := Nat × Int) (fun zz => ⟨[(0, .one (.dv [] (txsD (x)))), (1, .one (.dv [] (.int .i64 (zz.2)))), (5, .one (.dv [] (.int .i64 ((zz.1 : Int)))))], [], []⟩) (fun zz => zz.1 ≤ x.length ∧ 0 ≤ zz.2 ∧ zz.2 + (wSum wTx (x.take zz.1) : Int) = left - (x.length : Int)) (fun zz => x.length - zz.1) ((0, left - (x.length : Int))) ?_ (weak_sub ⟨rfl, rfl, rfl, trivial⟩ trivial trivial rfl) (fun zz hx => ?_)
  ·exact ⟨Nat.zero_le _, by omega, by simp [wSum]⟩
  obtain ⟨k, l⟩ := zz
  replace hx : k ≤ x.length ∧ 0 ≤ l ∧ l + (wSum wTx (x.take k) : Int) = left - (x.length : Int) := hx
  obtain ⟨hk, hl, he⟩ := hx
  have hw := fun h => wSum_succ wTx x k h
  show Ok _ _ _ _ _ (⟨[(0, .one (.dv [] (txsD (x)))), (1, .one (.dv [] (.int .i64 (l)))), (5, .one (.dv [] (.int .i64 ((k : Int)))))], [], []⟩ : St)
  iterate 7 refine z ?_
  refine yQ rfl (fun c2 => ?_) fun c2 => ?_
  ·skip
   have d2 := of_decide_eq_true c2
   first | have q2 := szR_n d2 | skip
   iterate 10 refine z ?_
   refine zC Tryz.call112 ?_ (hf := ok_laws_szTx (by omega) (by omega))
   iterate 6 refine z ?_
   refine yQ rfl (fun c3 => ?_) fun c3 => ?_
   ·skip
    have d3 := of_decide_eq_true c3
    first | have q3 := szR_n d3 | skip
    iterate 10 refine z ?_
    have hw' := hw (by omega); have hh := szR_cases left (wList wTx x); simp only [wList] at hh ⊢ <;> omega
   ·skip
    have d3 := of_decide_eq_false c3
    first | have q3 := szR_nn d3 | skip
    iterate 3 refine z ?_
    refine ok_region ?_
    iterate 4 refine z ?_
    refine ⟨(k + 1, szR l (wTx (x.getD (k : Int).toNat default))), ?_, ?_, weak_sub ⟨rfl, rfl, rfl, trivial⟩ trivial trivial rfl⟩
    ·have hw' := hw (by omega)
     dsimp only
     exact ⟨by omega, by omega, by omega⟩
    ·omega
  ·skip
   have d2 := of_decide_eq_false c2
   first | have q2 := szR_nn d2 | skip
   iterate 11 refine z ?_
   have hw' := wSum_all wTx x k (by omega); have hh := szR_cases left (wList wTx x); simp only [wList] at hh ⊢ <;> omega
theorem ok_laws_szTxQueue {x : List TxT} {left : Int} (h0 : 0 ≤ left) (h1 : left ≤ 1048576) : PFn Tryz.prog 27 [.agg [(.dv [] (txsD (x)))], .one (.dv [] (.int .i64 (left)))] (.one (.dv [] (.int .i64 (szR (left) (wTxQueue x))))) := by
 refine ⟨fn_intro Tryz.func27 rfl Tryz.ntmps27 Tryz.results27 rfl (fun C => ?_)⟩
 refine yF 0 0 rfl rfl fun f0_0 => ?_
 refine ok_fact (x := .tmp 1) (ev_tmp rfl) fun f1 => ?_
 iterate 8 refine z ?_
 refine zC Tryz.call65 ?_ (hf := ok_laws_szTxS (by omega) (by omega))
 iterate 7 refine z ?_
 refine yQ rfl (fun c1 => ?_) fun c1 => ?_
 ·skip
  have d1 := of_decide_eq_true c1
  first | have q1 := szR_n d1 | skip
  iterate 6 refine z ?_
  have hh := szR_cases left (wTxQueue x); simp only [wTxQueue] at hh ⊢ <;> omega
 ·skip
  have d1 := of_decide_eq_false c1
  first | have q1 := szR_nn d1 | skip
  iterate 8 refine z ?_
  have hh := szR_cases left (wTxQueue x); simp only [wTxQueue] at hh ⊢ <;> omega
theorem ok_laws_toTx {x : TxT} (hb : wTx x ≤ 1048576) : KFn Tryz.prog 113 [.agg [(.dv [] (.int .i64 (x.1))), (.dv [] (opsD (x.2.1))), (.dv [] (.int .i64 (x.2.2.1))), (.dv [] (.int .i64 (x.2.2.2.1))), (.dv [] (storesD (x.2.2.2.2)))]] (.agg [(.dv [] (.int .i64 (x.1))), (.key 9007), (.dv [] (.int .i64 (x.2.2.1))), (.dv [] (.int .i64 (x.2.2.2.1))), (.key 19007)]) [(9007, some (kcOf false (opsD (x.2.1)))), (19007, some (kcOf false (storesD (x.2.2.2.2))))] := by
 refine ⟨fn_intro Tryz.func113 rfl Tryz.ntmps113 Tryz.results113 rfl (fun C => ?_)⟩
 refine yF 0 0 rfl rfl fun f0_0 => ?_
 refine yF 0 1 rfl rfl fun f0_1 => ?_
 refine yF 0 2 rfl rfl fun f0_2 => ?_
 refine yF 0 3 rfl rfl fun f0_3 => ?_
 refine yF 0 4 rfl rfl fun f0_4 => ?_
 iterate 16 refine z ?_
 refine zK 9000 Tryz.call20 ?_ (hf := ok_laws_toOpS (by first | omega | (simp only [wKey, wField, wRecord, wItem, wStore, wIndexDef, wDatabase, wOp, wTx, wTxQueue] at hb ⊢; omega) | (have hq := hw (by omega); omega)))
 iterate 18 refine z ?_
 refine zK 19000 Tryz.call45 ?_ (hf := ok_laws_toStoreS (by first | omega | (simp only [wKey, wField, wRecord, wItem, wStore, wIndexDef, wDatabase, wOp, wTx, wTxQueue] at hb ⊢; omega) | (have hq := hw (by omega); omega)))
 iterate 7 refine z ?_
 refine ok_weak (σ' := ⟨[(2, .box 2 0)], [(2, 109, [(.dv [] (.int .i64 (x.1))), (.key 9007), (.dv [] (.int .i64 (x.2.2.1))), (.dv [] (.int .i64 (x.2.2.2.1))), (.key 19007)])], [(9007, some (kcOf false (opsD (x.2.1)))), (19007, some (kcOf false (storesD (x.2.2.2.2))))]⟩) (weak_sub ⟨rfl, trivial⟩ ⟨rfl, trivial⟩ ⟨rfl, rfl, trivial⟩ rfl) ?_
 refine z ?_
 refine fin1 (res_cell hT rfl rfl rfl rfl) ?_
 exact ⟨rfl, rfl⟩
theorem ok_laws_toTxS {x : List (TxT)} (hb : wList wTx x ≤ 1048576) : KFn Tryz.prog 66 [.one (.dv [] (txsD (x)))] (.one (.key 7)) [(7, some (kcOf false (txsD (x))))] := by
 refine ⟨fn_intro Tryz.func66 rfl Tryz.ntmps66 Tryz.results66 rfl (fun C => ?_)⟩
 refine ok_fact (x := .tmp 0) (ev_tmp rfl) fun f0 => ?_
 iterate 6 refine z ?_
 refine o_make (k := 7) (n := ((x)).length) (zd := [.int .i64 (0), .sl 47 7 0 [], .int .i64 (0), .int .i64 (0), .sl 91 3 0 []]) (cs := fillD eTx [.int .i64 (0), .sl 47 7 0 [], .int .i64 (0), .int .i64 (0), .sl 91 3 0 []] x 0) hT rfl rfl rfl rfl rfl rfl (ev_tmp rfl) (ev_tmp rfl) rfl rfl rfl (by have := wList_len wTx x; omega) rfl rfl fillD_zero ?_
 iterate 7 refine z ?_
 refine ok_loop (ι := Nat) (fun zz => ⟨[(0, .one (.dv [] (txsD (x)))), (3, .one (.key 7)), (4, .one (.dv [] (.int .i64 ((zz : Int)))))], [], [(7, some (kcOf false (.sl 109 5 ((x).length) (fillD eTx [.int .i64 (0), .sl 47 7 0 [], .int .i64 (0), .int .i64 (0), .sl 91 3 0 []] x zz))))]⟩) (fun zz => zz ≤ x.length) (fun zz => x.length - zz) (0) ?_ (weak_sub ⟨rfl, rfl, rfl, trivial⟩ trivial ⟨rfl, trivial⟩ rfl) (fun zz hx => ?_)
 ·exact Nat.zero_le _
 obtain ⟨k, rfl⟩ : ∃ v, v = zz := ⟨_, rfl⟩
 replace hx : k ≤ x.length := hx
 have hw := fun h => wSum_succ wTx x k h
 have hw2 := wSum_le wTx x (k + 1)
 have hw3 : wList wTx x = x.length + wSum wTx x := rfl
 show Ok _ _ _ _ _ (⟨[(0, .one (.dv [] (txsD (x)))), (3, .one (.key 7)), (4, .one (.dv [] (.int .i64 ((k : Int)))))], [], [(7, some (kcOf false (.sl 109 5 ((x).length) (fillD eTx [.int .i64 (0), .sl 47 7 0 [], .int .i64 (0), .int .i64 (0), .sl 91 3 0 []] x k))))]⟩ : St)
 iterate 7 refine z ?_
 refine yQ rfl (fun c1 => ?_) fun c1 => ?_
 ·skip
  have d1 := of_decide_eq_true c1
  iterate 4 refine z ?_
  refine ok_region ?_
  iterate 6 refine z ?_
  refine zK 20000 Tryz.call113 ?_ (hf := ok_laws_toTx (by first | omega | (simp only [wKey, wField, wRecord, wItem, wStore, wIndexDef, wDatabase, wOp, wTx, wTxQueue] at hb ⊢; omega) | (have hq := hw (by omega); omega)))
  refine yO rfl rfl (pu_indexK (i := k) hT rfl rfl rfl (ev_tmp rfl) rfl (ev_tmp rfl) rfl (by show _ < ((x).length); omega)) rfl ?_
  refine o_storeE (js := [29007, 39007]) (cs := fillD eTx [.int .i64 (0), .sl 47 7 0 [], .int .i64 (0), .int .i64 (0), .sl 91 3 0 []] x (k + 1)) hT rfl rfl rfl rfl (ev_tmp rfl) (ev_tmp rfl) rfl rfl rfl rfl (ow_cons' (ow_dv rfl) (ow_cons' (ow_key rfl) (ow_cons' (ow_dv rfl) (ow_cons' (ow_dv rfl) (ow_cons' (ow_key rfl) ow_nil rfl) rfl) rfl) rfl) rfl) (by decide) (by decide) rfl (by show _ ≤ List.length (fillD eTx [.int .i64 (0), .sl 47 7 0 [], .int .i64 (0), .int .i64 (0), .sl 91 3 0 []] x k); rw [fillD_len (sz := 5) (fun _ => rfl) rfl]; omega) (fillD_succ (sz := 5) (fun _ => rfl) rfl (by omega) rfl) ?_
  simp only [killT, killB, SV.kill, CV.kill, kk, Nat.reduceBEq]
  refine ops_nil ?_
  iterate 2 refine z ?_
  refine ok_region ?_
  iterate 4 refine z ?_
  refine ⟨k + 1, ?_, ?_, weak_sub ⟨rfl, rfl, rfl, trivial⟩ trivial ⟨rfl, trivial⟩ rfl⟩
  ·omega
  ·omega
 ·skip
  have d1 := of_decide_eq_false c1
  iterate 9 refine z ?_
  refine ok_weak (σ' := ⟨[(2, .one (.key 7))], [], [(7, some (kcOf false (txsD (x))))]⟩) (weak_sub ⟨rfl, trivial⟩ trivial ⟨(congrArg (fun cs => some (some (KC.mk false 109 5 x.length cs))) (fillD_all (by omega))), trivial⟩ rfl) ?_
  refine z ?_
  refine fin1 (res_tmp rfl) ?_
  exact ⟨rfl, rfl⟩
theorem ok_laws_toTxQueue {x : List TxT} (hb : wTxQueue x ≤ 1048576) : KFn Tryz.prog 29 [.agg [(.dv [] (txsD (x)))]] (.agg [(.key 6007)]) [(6007, some (kcOf false (txsD (x))))] := by
 refine ⟨fn_intro Tryz.func29 rfl Tryz.ntmps29 Tryz.results29 rfl (fun C => ?_)⟩
 refine yF 0 0 rfl rfl fun f0_0 => ?_
 iterate 10 refine z ?_
 refine zK 6000 Tryz.call66 ?_ (hf := ok_laws_toTxS (by first | omega | (simp only [wKey, wField, wRecord, wItem, wStore, wIndexDef, wDatabase, wOp, wTx, wTxQueue] at hb ⊢; omega) | (have hq := hw (by omega); omega)))
 iterate 7 refine z ?_
 refine ok_weak (σ' := ⟨[(2, .box 2 0)], [(2, 73, [(.key 6007)])], [(6007, some (kcOf false (txsD (x))))]⟩) (weak_sub ⟨rfl, trivial⟩ ⟨rfl, trivial⟩ ⟨rfl, trivial⟩ rfl) ?_
 refine z ?_
 refine fin1 (res_cell hT rfl rfl rfl rfl) ?_
 exact ⟨rfl, rfl⟩
theorem ok_laws_eqTx {x : TxT}  : PFn Tryz.prog 114 [.agg [(.dv [] (.int .i64 (x.1))), (.dv [] (opsD (x.2.1))), (.dv [] (.int .i64 (x.2.2.1))), (.dv [] (.int .i64 (x.2.2.2.1))), (.dv [] (storesD (x.2.2.2.2)))], .agg [(.dv [] (.int .i64 (x.1))), (.dv [] (opsD (x.2.1))), (.dv [] (.int .i64 (x.2.2.1))), (.dv [] (.int .i64 (x.2.2.2.1))), (.dv [] (storesD (x.2.2.2.2)))]] (.one (.dv [] (.bool (true)))) := by
 refine ⟨fn_intro Tryz.func114 rfl Tryz.ntmps114 Tryz.results114 rfl (fun C => ?_)⟩
 refine yF 0 0 rfl rfl fun f0_0 => ?_
 refine yF 0 1 rfl rfl fun f0_1 => ?_
 refine yF 0 2 rfl rfl fun f0_2 => ?_
 refine yF 0 3 rfl rfl fun f0_3 => ?_
 refine yF 0 4 rfl rfl fun f0_4 => ?_
 refine yF 1 0 rfl rfl fun f1_0 => ?_
 refine yF 1 1 rfl rfl fun f1_1 => ?_
 refine yF 1 2 rfl rfl fun f1_2 => ?_
 refine yF 1 3 rfl rfl fun f1_3 => ?_
 refine yF 1 4 rfl rfl fun f1_4 => ?_
 iterate 13 refine z ?_
 refine yQ rfl (fun c1 => ?_) fun c1 => ?_
 ·skip
  have d1 := nd_t c1
  iterate 6 refine z ?_
  first | rfl | (exfalso; simp_all [sEq])
 ·skip
  have d1 := nd_f c1
  iterate 8 refine z ?_
  refine zC Tryz.call23 ?_ (hf := ok_laws_eqOpS)
  iterate 2 refine z ?_
  refine yQ rfl (fun c2 => ?_) fun c2 => ?_
  ·skip
   iterate 6 refine z ?_
   first | rfl | (exfalso; simp_all [sEq])
  ·skip
   iterate 10 refine z ?_
   refine yQ rfl (fun c3 => ?_) fun c3 => ?_
   ·skip
    have d3 := nd_t c3
    iterate 6 refine z ?_
    first | rfl | (exfalso; simp_all [sEq])
   ·skip
    have d3 := nd_f c3
    iterate 10 refine z ?_
    refine yQ rfl (fun c4 => ?_) fun c4 => ?_
    ·skip
     have d4 := nd_t c4
     iterate 6 refine z ?_
     first | rfl | (exfalso; simp_all [sEq])
    ·skip
     have d4 := nd_f c4
     iterate 8 refine z ?_
     refine zC Tryz.call54 ?_ (hf := ok_laws_eqStoreS)
     iterate 2 refine z ?_
     refine yQ rfl (fun c5 => ?_) fun c5 => ?_
     ·skip
      iterate 6 refine z ?_
      first | rfl | (exfalso; simp_all [sEq])
     ·skip
      iterate 7 refine z ?_
      first | rfl | (exfalso; simp_all [sEq])
theorem ok_laws_eqTxS {x : List (TxT)}  : PFn Tryz.prog 67 [.one (.dv [] (txsD (x))), .one (.dv [] (txsD (x)))] (.one (.dv [] (.bool (true)))) := by
 refine ⟨fn_intro Tryz.func67 rfl Tryz.ntmps67 Tryz.results67 rfl (fun C => ?_)⟩
 refine ok_fact (x := .tmp 0) (ev_tmp rfl) fun f0 => ?_
 refine ok_fact (x := .tmp 1) (ev_tmp rfl) fun f1 => ?_
 iterate 11 refine z ?_
 refine yQ rfl (fun c1 => ?_) fun c1 => ?_
 ·skip
  have d1 := nd_t c1
  iterate 6 refine z ?_
  first | rfl | (exfalso; simp_all [sEq])
 ·skip
  have d1 := nd_f c1
  iterate 7 refine z ?_
  refine ok_loop (ι := Nat) (fun zz => ⟨[(0, .one (.dv [] (txsD (x)))), (1, .one (.dv [] (txsD (x)))), (5, .one (.dv [] (.int .i64 ((zz : Int)))))], [], []⟩) (fun zz => zz ≤ x.length) (fun zz => x.length - zz) (0) ?_ (weak_sub ⟨rfl, rfl, rfl, trivial⟩ trivial trivial rfl) (fun zz hx => ?_)
  ·exact Nat.zero_le _
  obtain ⟨k, rfl⟩ : ∃ v, v = zz := ⟨_, rfl⟩
  replace hx : k ≤ x.length := hx
  show Ok _ _ _ _ _ (⟨[(0, .one (.dv [] (txsD (x)))), (1, .one (.dv [] (txsD (x)))), (5, .one (.dv [] (.int .i64 ((k : Int)))))], [], []⟩ : St)
  iterate 7 refine z ?_
  refine yQ rfl (fun c2 => ?_) fun c2 => ?_
  ·skip
   have d2 := of_decide_eq_true c2
   iterate 4 refine z ?_
   refine ok_seq ?_
   refine ok_regionD (oB := []) (oK := []) (by kernel_rfl) rfl rfl ?_
   refine zD 0 ?_
   refine zD 1 ?_
   refine zD 2 ?_
   refine zD 3 ?_
   refine zD 4 ?_
   refine zD 5 ?_
   refine zD 6 ?_
   refine zD 7 ?_
   refine d_call 8 rfl (by kernel_rfl) rfl rfl rfl Tryz.call114 ok_laws_eqTx (as_cons (ev_tmp rfl) (ag_agg (ag_cons ac_dv (ag_cons ac_dv (ag_cons ac_dv (ag_cons ac_dv (ag_cons ac_dv ag_nil)))))) (as_cons (ev_tmp rfl) (ag_agg (ag_cons ac_dv (ag_cons ac_dv (ag_cons ac_dv (ag_cons ac_dv (ag_cons ac_dv ag_nil)))))) as_nil)) rfl rfl rfl rfl ?_
   refine zD 9 ?_
   refine d_done (by kernel_rfl) ?_
   refine z ?_
   refine yQ rfl (fun c3 => ?_) fun c3 => ?_
   ·skip
    iterate 10 refine z ?_
    first | rfl | (exfalso; simp_all [sEq])
   ·skip
    iterate 3 refine z ?_
    refine ok_region ?_
    iterate 4 refine z ?_
    refine ⟨k + 1, ?_, ?_, weak_sub ⟨rfl, rfl, rfl, trivial⟩ trivial trivial rfl⟩
    ·omega
    ·omega
  ·skip
   have d2 := of_decide_eq_false c2
   iterate 10 refine z ?_
   first | rfl | (exfalso; simp_all [sEq])
theorem ok_laws_eqTxQueue {x : List TxT}  : PFn Tryz.prog 31 [.agg [(.dv [] (txsD (x)))], .agg [(.dv [] (txsD (x)))]] (.one (.dv [] (.bool (true)))) := by
 refine ⟨fn_intro Tryz.func31 rfl Tryz.ntmps31 Tryz.results31 rfl (fun C => ?_)⟩
 refine yF 0 0 rfl rfl fun f0_0 => ?_
 refine yF 1 0 rfl rfl fun f1_0 => ?_
 iterate 11 refine z ?_
 refine zC Tryz.call67 ?_ (hf := ok_laws_eqTxS)
 iterate 2 refine z ?_
 refine yQ rfl (fun c1 => ?_) fun c1 => ?_
 ·skip
  iterate 6 refine z ?_
  first | rfl | (exfalso; simp_all [sEq])
 ·skip
  iterate 7 refine z ?_
  first | rfl | (exfalso; simp_all [sEq])
end Go.Proofs.YtmgijbhikmjfjaaGreat

namespace Go.Proofs.YtmgijbhikmjfjaaGreat
open Go.RowKit
open Go.Proofs
set_option linter.unusedVariables false
set_option linter.unusedSimpArgs false

def isOpB (o : OpT) : Bool := (decide (1 ≤ o.1) && decide (o.1 ≤ 6)) && isName o.2.1 && (decide (o.1 = 5) || isKey o.2.2.1) && isRec o.2.2.2.1 && ((decide (o.1 = 6) && isName o.2.2.2.2) || (!decide (o.1 = 6) && sEq o.2.2.2.2 (ByteArray.mk #[])))
theorem any_step {α : Type} {p : α → Bool} {l : List α} {k : Nat} {d : α} (h : (l.take k).any p = false) (hk : k < l.length) (hp : p (l.getD k d) = false) : (l.take (k + 1)).any p = false := by
 rw [List.take_succ_eq_append_getElem hk, List.any_append, h]
 simp only [List.any_cons, List.any_nil, Bool.or_false, Bool.false_or]
 simpa [List.getD, List.getElem?_eq_getElem hk] using hp
theorem any_yes {α : Type} {p : α → Bool} {l : List α} {k : Nat} {d : α} (hk : k < l.length) (hp : p (l.getD k d) = true) : l.any p = true := by
 rw [List.any_eq_true]
 exact ⟨l[k], List.getElem_mem hk, by simpa [List.getD, List.getElem?_eq_getElem hk] using hp⟩
theorem ok_impl_IsOp {x : OpT}  : PFn Tryz.prog 52 [.agg [(.dv [] (.int .i64 (x.1))), (.dv [] (.str (x.2.1))), (.dv [] (.int .i64 (x.2.2.1.1))), (.dv [] (.int .i64 (x.2.2.1.2.1))), (.dv [] (.str (x.2.2.1.2.2))), (.dv [] (fieldsD (x.2.2.2.1))), (.dv [] (.str (x.2.2.2.2)))]] (.one (.dv [] (.bool (isOpB x)))) := by
 refine ⟨fn_intro Tryz.func52 rfl Tryz.ntmps52 Tryz.results52 rfl (fun C => ?_)⟩
 refine yF 0 0 rfl rfl fun f0_0 => ?_
 refine yF 0 1 rfl rfl fun f0_1 => ?_
 refine yF 0 2 rfl rfl fun f0_2 => ?_
 refine yF 0 3 rfl rfl fun f0_3 => ?_
 refine yF 0 4 rfl rfl fun f0_4 => ?_
 refine yF 0 5 rfl rfl fun f0_5 => ?_
 refine yF 0 6 rfl rfl fun f0_6 => ?_
 iterate 8 refine z ?_
 refine zC Tryz.call73 ?_ (hf := ok_impl_InRange)
 iterate 4 refine z ?_
 refine o_callG (gd_bool rfl rfl rfl rfl rfl) rfl rfl Tryz.call95 ok_impl_IsName (fun hg => (as_cons (ev_opt rfl hg) (ag_one ac_dv) as_nil)) rfl rfl ?_
 iterate 9 refine z ?_
 refine o_callG (gd_opt rfl rfl rfl rfl rfl) rfl rfl Tryz.call99 ok_impl_IsKey (fun hg => (as_cons (ev_opt rfl hg) (ag_agg (ag_cons ac_dv (ag_cons ac_dv (ag_cons ac_dv ag_nil)))) as_nil)) rfl rfl ?_
 iterate 6 refine z ?_
 refine o_callG (gd_bool rfl rfl rfl rfl rfl) rfl rfl Tryz.call100 ok_impl_IsRecord (fun hg => (as_cons (ev_opt rfl hg) (ag_agg (ag_cons ac_dv ag_nil)) as_nil)) rfl rfl ?_
 iterate 3 refine z ?_
 refine yQ rfl (fun c1 => ?_) fun c1 => ?_
 ·skip
  iterate 6 refine z ?_
  grind [isOpB]
 ·skip
  iterate 8 refine z ?_
  refine yQ rfl (fun c2 => ?_) fun c2 => ?_
  ·skip
   have d2 := of_decide_eq_true c2
   iterate 3 refine z ?_
   refine zC Tryz.call95 ?_ (hf := ok_impl_IsName)
   iterate 5 refine z ?_
   grind [isOpB]
  ·skip
   have d2 := of_decide_eq_false c2
   iterate 10 refine z ?_
   grind [isOpB]
theorem ok_spec_IsOp {x : OpT}  : PFn Tryz.prog 43 [.agg [(.dv [] (.int .i64 (x.1))), (.dv [] (.str (x.2.1))), (.dv [] (.int .i64 (x.2.2.1.1))), (.dv [] (.int .i64 (x.2.2.1.2.1))), (.dv [] (.str (x.2.2.1.2.2))), (.dv [] (fieldsD (x.2.2.2.1))), (.dv [] (.str (x.2.2.2.2)))]] (.one (.dv [] (.bool (isOpB x)))) := by
 refine ⟨fn_intro Tryz.func43 rfl Tryz.ntmps43 Tryz.results43 rfl (fun C => ?_)⟩
 refine yF 0 0 rfl rfl fun f0_0 => ?_
 refine yF 0 1 rfl rfl fun f0_1 => ?_
 refine yF 0 2 rfl rfl fun f0_2 => ?_
 refine yF 0 3 rfl rfl fun f0_3 => ?_
 refine yF 0 4 rfl rfl fun f0_4 => ?_
 refine yF 0 5 rfl rfl fun f0_5 => ?_
 refine yF 0 6 rfl rfl fun f0_6 => ?_
 iterate 7 refine z ?_
 refine zC Tryz.call70 ?_ (hf := ok_spec_l1In)
 iterate 3 refine z ?_
 refine o_callG (gd_bool rfl rfl rfl rfl rfl) rfl rfl Tryz.call81 ok_spec_IsName (fun hg => (as_cons (ev_opt rfl hg) (ag_one ac_dv) as_nil)) rfl rfl ?_
 iterate 8 refine z ?_
 refine o_callG (gd_opt rfl rfl rfl rfl rfl) rfl rfl Tryz.call83 ok_spec_IsKey (fun hg => (as_cons (ev_opt rfl hg) (ag_agg (ag_cons ac_dv (ag_cons ac_dv (ag_cons ac_dv ag_nil)))) as_nil)) rfl rfl ?_
 iterate 5 refine z ?_
 refine o_callG (gd_bool rfl rfl rfl rfl rfl) rfl rfl Tryz.call84 ok_spec_IsRecord (fun hg => (as_cons (ev_opt rfl hg) (ag_agg (ag_cons ac_dv ag_nil)) as_nil)) rfl rfl ?_
 iterate 8 refine z ?_
 refine o_callG (gd_opt rfl rfl rfl rfl rfl) rfl rfl Tryz.call81 ok_spec_IsName (fun hg => (as_cons (ev_opt rfl hg) (ag_one ac_dv) as_nil)) rfl rfl ?_
 iterate 16 refine z ?_
 grind [isOpB]
end Go.Proofs.YtmgijbhikmjfjaaGreat

namespace Go.Proofs.YtmgijbhikmjfjaaGreat
open Go.RowKit
open Go.Proofs
set_option linter.unusedVariables false
set_option linter.unusedSimpArgs false

def eqDefB (d e : DefT) : Bool := sEq d.1 e.1 && sEq d.2 e.2
end Go.Proofs.YtmgijbhikmjfjaaGreat

namespace Go.Proofs.YtmgijbhikmjfjaaGreat
open Go.RowKit
open Go.Proofs
set_option linter.unusedVariables false
set_option linter.unusedSimpArgs false

def findI {α : Type} (p : α → Bool) : List α → Int → Int
 | [], _ => -1
 | x :: xs, i => if p x then i else findI p xs (i + 1)
theorem findI_skip {α : Type} {p : α → Bool} : ∀ {xs : List α} {k : Nat} {i : Int}, (xs.take k).any p = false → k ≤ xs.length → findI p xs i = findI p (xs.drop k) (i + k)
 | xs, 0, i, _, _ => by simp
 | [], k + 1, i, _, hk => by simp at hk
 | x :: xs, k + 1, i, h, hk => by
  simp only [List.take_succ_cons, List.any_cons, Bool.or_eq_false_iff] at h
  rw [findI, h.1, List.drop_succ_cons]
  simp only [Bool.false_eq_true, if_false]
  rw [findI_skip h.2 (by simpa using hk)]
  congr 1; omega
theorem findI_at {α : Type} {p : α → Bool} {xs : List α} {k : Nat} {d : α} (h : (xs.take k).any p = false) (hk : k < xs.length) (hp : p (xs.getD k d) = true) : findI p xs 0 = (k : Int) := by
 rw [findI_skip h (by omega), List.drop_eq_getElem_cons hk, findI]
 have : p xs[k] = true := by simpa [List.getD, List.getElem?_eq_getElem hk] using hp
 rw [if_pos this]; omega
theorem findI_none {α : Type} {p : α → Bool} {xs : List α} {k : Nat} (h : (xs.take k).any p = false) (hk : k = xs.length) : findI p xs 0 = -1 := by
 rw [findI_skip h (by omega), hk, List.drop_length]; rfl
theorem any_stepI {α : Type} {p : α → Bool} {l : List α} {k : Nat} {d : α} (h : (l.take k).any p = false) (hk : k < l.length) (hp : p (l.getD k d) = false) : (l.take (k + 1)).any p = false := by
 rw [List.take_succ_eq_append_getElem hk, List.any_append, h]
 simp only [List.any_cons, List.any_nil, Bool.or_false, Bool.false_or]
 simpa [List.getD, List.getElem?_eq_getElem hk] using hp
def hasName (n : Str) (s : StoreT) : Bool := sEq s.1 n

theorem ok_impl_FindStore_1 {x : StoreT} {n : Str}  : PFn Tryz.prog 94 [.agg [(.dv [] (.str (x.1))), (.dv [] (itemsD (x.2.1))), (.dv [] (.int .i64 (x.2.2)))], .ref [] [.str (n)]] (.one (.dv [] (.bool (hasName n x)))) := by
 refine ⟨fn_intro Tryz.func94 rfl Tryz.ntmps94 Tryz.results94 rfl (fun C => ?_)⟩
 refine yF 0 0 rfl rfl fun f0_0 => ?_
 refine yF 0 1 rfl rfl fun f0_1 => ?_
 refine yF 0 2 rfl rfl fun f0_2 => ?_
 iterate 13 refine z ?_
 rfl
theorem ok_slices_IndexFunc_Store {x : List StoreT} {n : Str}  : PFn Tryz.prog 93 [.one (.dv [] (storesD (x))), .fn 94 [[.str (n)]]] (.one (.dv [] (.int .i64 (findI (hasName n) x 0)))) := by
 refine ⟨fn_intro Tryz.func93 rfl Tryz.ntmps93 Tryz.results93 rfl (fun C => ?_)⟩
 refine ok_fact (x := .tmp 0) (ev_tmp rfl) fun f0 => ?_
 iterate 10 refine z ?_
 refine ok_loop (ι := Nat) (fun zz => ⟨[(0, .one (.dv [] (storesD (x)))), (1, .fn 94 [[.str (n)]]), (7, .one (.dv [] (.int .i64 ((((x)).length : Int))))), (8, .one (.dv [] (.int .i64 ((zz : Int)))))], [], []⟩) (fun zz => zz ≤ x.length ∧ (x.take zz).any (hasName n) = false) (fun zz => x.length - zz) (0) ?_ (weak_sub ⟨rfl, rfl, rfl, rfl, trivial⟩ trivial trivial rfl) (fun zz hx => ?_)
 ·exact ⟨Nat.zero_le _, rfl⟩
 obtain ⟨k, rfl⟩ : ∃ v, v = zz := ⟨_, rfl⟩
 replace hx : k ≤ x.length ∧ (x.take k).any (hasName n) = false := hx
 obtain ⟨hk, hall⟩ := hx
 show Ok _ _ _ _ _ (⟨[(0, .one (.dv [] (storesD (x)))), (1, .fn 94 [[.str (n)]]), (7, .one (.dv [] (.int .i64 ((((x)).length : Int))))), (8, .one (.dv [] (.int .i64 ((k : Int)))))], [], []⟩ : St)
 iterate 3 refine z ?_
 refine ok_seq ?_
 refine yQ rfl (fun c1 => ?_) fun c1 => ?_
 ·skip
  have d1 := of_decide_eq_true c1
  iterate 14 refine z ?_
  refine o_callV rfl rfl rfl (ev_tmp rfl) Tryz.call94 ok_impl_FindStore_1 (as_cons (ev_tmp rfl) (ag_agg (ag_cons ac_dv (ag_cons ac_dv (ag_cons ac_dv ag_nil)))) as_nil) rfl rfl ?_
  refine z ?_
  refine yQ rfl (fun c2 => ?_) fun c2 => ?_
  ·skip
   iterate 11 refine z ?_
   exact (findI_at (p := hasName n) (d := default) hall (by omega) c2).symm
  ·skip
   iterate 3 refine z ?_
   refine ok_region ?_
   iterate 3 refine z ?_
   refine ⟨k + 1, ?_, ?_, weak_sub ⟨rfl, rfl, rfl, rfl, trivial⟩ trivial trivial rfl⟩
   ·exact ⟨by omega, any_stepI (d := default) hall (by omega) c2⟩
   ·omega
 ·skip
  have d1 := of_decide_eq_false c1
  iterate 10 refine z ?_
  exact (findI_none (p := hasName n) hall (by omega)).symm
theorem ok_impl_FindStore {x : DbT} {n : Str}  : PFn Tryz.prog 50 [.agg [(.dv [] (.str (x.1))), (.dv [] (.int .i64 (x.2.1))), (.dv [] (storesD (x.2.2.1))), (.dv [] (defsD (x.2.2.2)))], .one (.dv [] (.str (n)))] (.one (.dv [] (.int .i64 (findI (hasName n) x.2.2.1 0)))) := by
 refine ⟨fn_intro Tryz.func50 rfl Tryz.ntmps50 Tryz.results50 rfl (fun C => ?_)⟩
 refine yF 0 0 rfl rfl fun f0_0 => ?_
 refine yF 0 1 rfl rfl fun f0_1 => ?_
 refine yF 0 2 rfl rfl fun f0_2 => ?_
 refine yF 0 3 rfl rfl fun f0_3 => ?_
 refine ok_fact (x := .tmp 1) (ev_tmp rfl) fun f1 => ?_
 iterate 8 refine z ?_
 refine yO rfl rfl (pu_clo1 rfl (ev_tmp rfl)) rfl ?_
 refine o_call rfl rfl rfl Tryz.call93 ok_slices_IndexFunc_Store (as_cons (ev_tmp rfl) (ag_one ac_dv) (as_cons (ev_tmp rfl) (a_clo (clo_cons rfl rfl clo_nil)) as_nil)) rfl rfl ?_
 iterate 4 refine z ?_
 rfl
theorem ok_spec_FindStore {x : DbT} {n : Str}  : PFn Tryz.prog 41 [.agg [(.dv [] (.str (x.1))), (.dv [] (.int .i64 (x.2.1))), (.dv [] (storesD (x.2.2.1))), (.dv [] (defsD (x.2.2.2)))], .one (.dv [] (.str (n)))] (.one (.dv [] (.int .i64 (findI (hasName n) x.2.2.1 0)))) := by
 refine ⟨fn_intro Tryz.func41 rfl Tryz.ntmps41 Tryz.results41 rfl (fun C => ?_)⟩
 refine yF 0 0 rfl rfl fun f0_0 => ?_
 refine yF 0 1 rfl rfl fun f0_1 => ?_
 refine yF 0 2 rfl rfl fun f0_2 => ?_
 refine yF 0 3 rfl rfl fun f0_3 => ?_
 refine ok_fact (x := .tmp 1) (ev_tmp rfl) fun f1 => ?_
 iterate 9 refine z ?_
 refine ok_loop (ι := Nat) (fun zz => ⟨[(1, .one (.dv [] (.str (n)))), (2, .box 2 0), (5, .one (.dv [] (.int .i64 ((zz : Int)))))], [(2, 38, [(.dv [] (.str (x.1))), (.dv [] (.int .i64 (x.2.1))), (.dv [] (storesD (x.2.2.1))), (.dv [] (defsD (x.2.2.2)))])], []⟩) (fun zz => zz ≤ x.2.2.1.length ∧ (x.2.2.1.take zz).any (hasName n) = false) (fun zz => x.2.2.1.length - zz) (0) ?_ (weak_sub ⟨rfl, rfl, rfl, trivial⟩ ⟨rfl, trivial⟩ trivial rfl) (fun zz hx => ?_)
 ·exact ⟨Nat.zero_le _, rfl⟩
 obtain ⟨k, rfl⟩ : ∃ v, v = zz := ⟨_, rfl⟩
 replace hx : k ≤ x.2.2.1.length ∧ (x.2.2.1.take k).any (hasName n) = false := hx
 obtain ⟨hk, hall⟩ := hx
 show Ok _ _ _ _ _ (⟨[(1, .one (.dv [] (.str (n)))), (2, .box 2 0), (5, .one (.dv [] (.int .i64 ((k : Int)))))], [(2, 38, [(.dv [] (.str (x.1))), (.dv [] (.int .i64 (x.2.1))), (.dv [] (storesD (x.2.2.1))), (.dv [] (defsD (x.2.2.2)))])], []⟩ : St)
 iterate 8 refine z ?_
 refine yQ rfl (fun c1 => ?_) fun c1 => ?_
 ·skip
  have d1 := of_decide_eq_true c1
  iterate 14 refine z ?_
  refine yQ rfl (fun c2 => ?_) fun c2 => ?_
  ·skip
   iterate 11 refine z ?_
   exact (findI_at (p := hasName n) (d := default) hall (by omega) c2).symm
  ·skip
   iterate 3 refine z ?_
   refine ok_region ?_
   iterate 4 refine z ?_
   refine ⟨k + 1, ?_, ?_, weak_sub ⟨rfl, rfl, rfl, trivial⟩ ⟨rfl, trivial⟩ trivial rfl⟩
   ·exact ⟨by omega, any_stepI (d := default) hall (by omega) c2⟩
   ·omega
 ·skip
  have d1 := of_decide_eq_false c1
  iterate 10 refine z ?_
  exact (findI_none (p := hasName n) hall (by omega)).symm
end Go.Proofs.YtmgijbhikmjfjaaGreat

namespace Go.Proofs.YtmgijbhikmjfjaaGreat
open Go.RowKit
open Go.Proofs
set_option linter.unusedVariables false
set_option linter.unusedSimpArgs false

theorem take_getD {α : Type} {q : List α} {n k : Nat} {d : α} (h : k < n) : (q.take n).getD k d = q.getD k d := by simp [List.getD, List.getElem?_take, h]
end Go.Proofs.YtmgijbhikmjfjaaGreat

namespace Go.Proofs.YtmgijbhikmjfjaaGreat
open Go.RowKit
open Go.Proofs
set_option linter.unusedVariables false
set_option linter.unusedSimpArgs false

def fName (n : Str) (f : FieldT) : Bool := sEq f.1 n
def getF (r : RecT) (n : Str) : Int × Bool := if findI (fName n) r 0 < 0 then (0, false) else ((r.getD (findI (fName n) r 0).toNat default).2, true)
theorem findI_lt {α : Type} {p : α → Bool} : ∀ (xs : List α) (i : Int), 0 ≤ i → findI p xs i < i + xs.length ∨ findI p xs i = -1
 | [], i, h => .inr rfl
 | x :: xs, i, h => by
  rw [findI]
  split
  ·left; simp; omega
  ·rcases findI_lt (p := p) xs (i + 1) (by omega) with h1 | h1
   ·left; simp only [List.length_cons]; omega
   ·exact .inr h1
theorem getF_at {r : RecT} {n : Str} {k : Nat} (h : (r.take k).any (fName n) = false) (hk : k < r.length) (hp : fName n (r.getD k default) = true) : getF r n = ((r.getD (k : Int).toNat default).2, true) := by
 have := findI_at (p := fName n) (d := default) h hk hp
 rw [getF, this, if_neg (by omega)]
theorem getF_none {r : RecT} {n : Str} {k : Nat} (h : (r.take k).any (fName n) = false) (hk : k = r.length) : getF r n = (0, false) := by
 rw [getF, findI_none (p := fName n) h hk]; rfl
theorem filt_succ {p : ItemT → Bool} {xs : List ItemT} {k : Nat} (hk : k < xs.length) : (xs.take (k + 1)).filter p = (xs.take k).filter p ++ (if p (xs.getD (k : Int).toNat default) then [xs.getD (k : Int).toNat default] else []) := by
 rw [List.take_add_one, List.getElem?_eq_getElem hk, List.filter_append]
 have : xs.getD (k : Int).toNat default = xs[k] := by simp [List.getD, List.getElem?_eq_getElem hk]
 rw [this]
 simp only [Option.toList_some, List.filter_cons, List.filter_nil]
theorem item_len (x : ItemT) : x.2.length ≤ wItem x := by unfold wItem wRecord wList; omega
theorem ok_impl_fieldAt_1 {x : FieldT} {n : Str}  : PFn Tryz.prog 160 [.agg [(.dv [] (.str (x.1))), (.dv [] (.int .i64 (x.2)))], .ref [] [.str (n)]] (.one (.dv [] (.bool (fName n x)))) := by
 refine ⟨fn_intro Tryz.func160 rfl Tryz.ntmps160 Tryz.results160 rfl (fun C => ?_)⟩
 refine yF 0 0 rfl rfl fun f0_0 => ?_
 refine yF 0 1 rfl rfl fun f0_1 => ?_
 iterate 13 refine z ?_
 rfl
theorem ok_slices_IndexFunc_Field {x : RecT} {n : Str}  : PFn Tryz.prog 159 [.one (.dv [] (fieldsD (x))), .fn 160 [[.str (n)]]] (.one (.dv [] (.int .i64 (findI (fName n) x 0)))) := by
 refine ⟨fn_intro Tryz.func159 rfl Tryz.ntmps159 Tryz.results159 rfl (fun C => ?_)⟩
 refine ok_fact (x := .tmp 0) (ev_tmp rfl) fun f0 => ?_
 iterate 10 refine z ?_
 refine ok_loop (ι := Nat) (fun zz => ⟨[(0, .one (.dv [] (fieldsD (x)))), (1, .fn 160 [[.str (n)]]), (7, .one (.dv [] (.int .i64 ((((x)).length : Int))))), (8, .one (.dv [] (.int .i64 ((zz : Int)))))], [], []⟩) (fun zz => zz ≤ x.length ∧ (x.take zz).any (fName n) = false) (fun zz => x.length - zz) (0) ?_ (weak_sub ⟨rfl, rfl, rfl, rfl, trivial⟩ trivial trivial rfl) (fun zz hx => ?_)
 ·exact ⟨Nat.zero_le _, rfl⟩
 obtain ⟨k, rfl⟩ : ∃ v, v = zz := ⟨_, rfl⟩
 replace hx : k ≤ x.length ∧ (x.take k).any (fName n) = false := hx
 obtain ⟨hk, hall⟩ := hx
 show Ok _ _ _ _ _ (⟨[(0, .one (.dv [] (fieldsD (x)))), (1, .fn 160 [[.str (n)]]), (7, .one (.dv [] (.int .i64 ((((x)).length : Int))))), (8, .one (.dv [] (.int .i64 ((k : Int)))))], [], []⟩ : St)
 iterate 3 refine z ?_
 refine ok_seq ?_
 refine yQ rfl (fun c1 => ?_) fun c1 => ?_
 ·skip
  have d1 := of_decide_eq_true c1
  iterate 14 refine z ?_
  refine o_callV rfl rfl rfl (ev_tmp rfl) Tryz.call160 ok_impl_fieldAt_1 (as_cons (ev_tmp rfl) (ag_agg (ag_cons ac_dv (ag_cons ac_dv ag_nil))) as_nil) rfl rfl ?_
  refine z ?_
  refine yQ rfl (fun c2 => ?_) fun c2 => ?_
  ·skip
   iterate 11 refine z ?_
   exact (findI_at (p := fName n) (d := default) hall (by omega) c2).symm
  ·skip
   iterate 3 refine z ?_
   refine ok_region ?_
   iterate 3 refine z ?_
   refine ⟨k + 1, ?_, ?_, weak_sub ⟨rfl, rfl, rfl, rfl, trivial⟩ trivial trivial rfl⟩
   ·exact ⟨by omega, any_stepI (d := default) hall (by omega) c2⟩
   ·omega
 ·skip
  have d1 := of_decide_eq_false c1
  iterate 10 refine z ?_
  exact (findI_none (p := fName n) hall (by omega)).symm
theorem ok_impl_fieldAt {x : RecT} {n : Str}  : PFn Tryz.prog 144 [.agg [(.dv [] (fieldsD (x)))], .one (.dv [] (.str (n)))] (.one (.dv [] (.int .i64 (findI (fName n) x 0)))) := by
 refine ⟨fn_intro Tryz.func144 rfl Tryz.ntmps144 Tryz.results144 rfl (fun C => ?_)⟩
 refine yF 0 0 rfl rfl fun f0_0 => ?_
 refine ok_fact (x := .tmp 1) (ev_tmp rfl) fun f1 => ?_
 iterate 8 refine z ?_
 refine yO rfl rfl (pu_clo1 rfl (ev_tmp rfl)) rfl ?_
 refine o_call rfl rfl rfl Tryz.call159 ok_slices_IndexFunc_Field (as_cons (ev_tmp rfl) (ag_one ac_dv) (as_cons (ev_tmp rfl) (a_clo (clo_cons rfl rfl clo_nil)) as_nil)) rfl rfl ?_
 iterate 4 refine z ?_
 rfl
theorem ok_impl_GetField {x : RecT} {n : Str}  : PFn Tryz.prog 105 [.agg [(.dv [] (fieldsD (x)))], .one (.dv [] (.str (n)))] (.tup [(false, [(.dv [] (.int .i64 ((getF x n).1)))]), (false, [(.dv [] (.bool ((getF x n).2)))])]) := by
 refine ⟨fn_intro Tryz.func105 rfl Tryz.ntmps105 Tryz.results105 rfl (fun C => ?_)⟩
 refine yF 0 0 rfl rfl fun f0_0 => ?_
 refine ok_fact (x := .tmp 1) (ev_tmp rfl) fun f1 => ?_
 iterate 8 refine z ?_
 refine zC Tryz.call144 ?_ (hf := ok_impl_fieldAt)
 iterate 7 refine z ?_
 refine yQ rfl (fun c1 => ?_) fun c1 => ?_
 ·skip
  have d1 := of_decide_eq_true c1
  iterate 6 refine z ?_
  refine fin2 (res_tmp rfl) (res_tmp rfl) rfl rfl ?_
  have h : getF x n = (0, false) := by rw [getF, if_pos d1]
  rw [h] <;> rfl
 ·skip
  have d1 := of_decide_eq_false c1
  have hlt := findI_lt (p := fName n) x 0 (by omega)
  iterate 13 refine z ?_
  refine fin2 (res_tmp rfl) (res_tmp rfl) rfl rfl ?_
  have h : getF x n = ((x.getD (findI (fName n) x 0).toNat default).2, true) := by rw [getF, if_neg d1]
  rw [h] <;> rfl
theorem ok_spec_GetField {x : RecT} {n : Str}  : PFn Tryz.prog 125 [.agg [(.dv [] (fieldsD (x)))], .one (.dv [] (.str (n)))] (.tup [(false, [(.dv [] (.int .i64 ((getF x n).1)))]), (false, [(.dv [] (.bool ((getF x n).2)))])]) := by
 refine ⟨fn_intro Tryz.func125 rfl Tryz.ntmps125 Tryz.results125 rfl (fun C => ?_)⟩
 refine yF 0 0 rfl rfl fun f0_0 => ?_
 refine ok_fact (x := .tmp 1) (ev_tmp rfl) fun f1 => ?_
 iterate 10 refine z ?_
 refine ok_loop (ι := Nat) (fun zz => ⟨[(1, .one (.dv [] (.str (n)))), (2, .box 2 0), (6, .one (.dv [] (.int .i64 ((zz : Int)))))], [(2, 45, [(.dv [] (fieldsD (x)))])], []⟩) (fun zz => zz ≤ x.length ∧ (x.take zz).any (fName n) = false) (fun zz => x.length - zz) (0) ?_ (weak_sub ⟨rfl, rfl, rfl, trivial⟩ ⟨rfl, trivial⟩ trivial rfl) (fun zz hx => ?_)
 ·exact ⟨Nat.zero_le _, rfl⟩
 obtain ⟨k, rfl⟩ : ∃ v, v = zz := ⟨_, rfl⟩
 replace hx : k ≤ x.length ∧ (x.take k).any (fName n) = false := hx
 obtain ⟨hk, hall⟩ := hx
 show Ok _ _ _ _ _ (⟨[(1, .one (.dv [] (.str (n)))), (2, .box 2 0), (6, .one (.dv [] (.int .i64 ((k : Int)))))], [(2, 45, [(.dv [] (fieldsD (x)))])], []⟩ : St)
 iterate 8 refine z ?_
 refine yQ rfl (fun c1 => ?_) fun c1 => ?_
 ·skip
  have d1 := of_decide_eq_true c1
  iterate 14 refine z ?_
  refine yQ rfl (fun c2 => ?_) fun c2 => ?_
  ·skip
   iterate 16 refine z ?_
   refine fin2 (res_tmp rfl) (res_tmp rfl) rfl rfl ?_
   rw [getF_at hall (by omega) c2] <;> rfl
  ·skip
   iterate 3 refine z ?_
   refine ok_region ?_
   iterate 4 refine z ?_
   refine ⟨k + 1, ?_, ?_, weak_sub ⟨rfl, rfl, rfl, trivial⟩ ⟨rfl, trivial⟩ trivial rfl⟩
   ·exact ⟨by omega, any_stepI (d := default) hall (by omega) c2⟩
   ·omega
 ·skip
  have d1 := of_decide_eq_false c1
  iterate 10 refine z ?_
  refine fin2 (res_tmp rfl) (res_tmp rfl) rfl rfl ?_
  rw [getF_none hall (by omega)] <;> rfl
theorem ok_impl_copyRecord {x : RecT} (hb : x.length ≤ 1099511627776) : KFn Tryz.prog 139 [.agg [(.dv [] (fieldsD (x)))]] (.agg [(.key 3)]) [(3, some (kcOf false (fieldsD (x))))] := by
 refine ⟨fn_intro Tryz.func139 rfl Tryz.ntmps139 Tryz.results139 rfl (fun C => ?_)⟩
 refine yF 0 0 rfl rfl fun f0_0 => ?_
 iterate 5 refine z ?_
 refine o_build0 (k := 3) hT rfl rfl rfl rfl rfl rfl rfl rfl ?_
 iterate 2 refine z ?_
 refine o_appV (k := 3) (cs := (x).flatMap eField) (n := (x).length) hT rfl rfl rfl rfl rfl rfl rfl (ev_tmp rfl) rfl rfl rfl (ev_tmp rfl) (plain_flat (fun _ => rfl) _) (by first | (dsimp only [kcOf]; omega) | omega) (by first | (dsimp only [kcOf]; omega) | omega) (Nat.zero_add _) (rfl) ?_
 simp only [killT, killB, SV.kill, CV.kill, kk, Nat.reduceBEq]
 refine yO rfl rfl (pu_build hT hB rfl rfl rfl (bp_cons (ev_tmp rfl) rfl rfl rfl rfl rfl bp_nil)) rfl ?_
 iterate 2 refine z ?_
 refine ok_weak (σ' := ⟨[(2, .box 2 0)], [(2, 45, [(.key 3)])], [(3, some (kcOf false (fieldsD (x))))]⟩) (weak_sub ⟨rfl, trivial⟩ ⟨rfl, trivial⟩ ⟨rfl, trivial⟩ rfl) ?_
 refine z ?_
 refine fin1 (res_cell hT rfl rfl rfl rfl) ?_
 exact ⟨rfl, rfl⟩
theorem ok_spec_l5Copy {x : RecT} (hb : x.length ≤ 1099511627776) : KFn Tryz.prog 127 [.agg [(.dv [] (fieldsD (x)))]] (.agg [(.key 3)]) [(3, some (kcOf false (fieldsD (x))))] := by
 refine ⟨fn_intro Tryz.func127 rfl Tryz.ntmps127 Tryz.results127 rfl (fun C => ?_)⟩
 refine yF 0 0 rfl rfl fun f0_0 => ?_
 iterate 5 refine z ?_
 refine o_build0 (k := 3) hT rfl rfl rfl rfl rfl rfl rfl rfl ?_
 iterate 2 refine z ?_
 refine o_appV (k := 3) (cs := (x).flatMap eField) (n := (x).length) hT rfl rfl rfl rfl rfl rfl rfl (ev_tmp rfl) rfl rfl rfl (ev_tmp rfl) (plain_flat (fun _ => rfl) _) (by first | (dsimp only [kcOf]; omega) | omega) (by first | (dsimp only [kcOf]; omega) | omega) (Nat.zero_add _) (rfl) ?_
 simp only [killT, killB, SV.kill, CV.kill, kk, Nat.reduceBEq]
 refine yO rfl rfl (pu_build hT hB rfl rfl rfl (bp_cons (ev_tmp rfl) rfl rfl rfl rfl rfl bp_nil)) rfl ?_
 iterate 2 refine z ?_
 refine ok_weak (σ' := ⟨[(2, .box 2 0)], [(2, 45, [(.key 3)])], [(3, some (kcOf false (fieldsD (x))))]⟩) (weak_sub ⟨rfl, trivial⟩ ⟨rfl, trivial⟩ ⟨rfl, trivial⟩ rfl) ?_
 refine z ?_
 refine fin1 (res_cell hT rfl rfl rfl rfl) ?_
 exact ⟨rfl, rfl⟩
theorem ok_impl_copyItem {x : ItemT} (hb : x.2.length ≤ 1099511627776) : KFn Tryz.prog 118 [.agg [(.dv [] (.int .i64 (x.1.1))), (.dv [] (.int .i64 (x.1.2.1))), (.dv [] (.str (x.1.2.2))), (.dv [] (fieldsD (x.2)))]] (.agg [(.dv [] (.int .i64 (x.1.1))), (.dv [] (.int .i64 (x.1.2.1))), (.dv [] (.str (x.1.2.2))), (.key 7003)]) [(7003, some (kcOf false (fieldsD (x.2))))] := by
 refine ⟨fn_intro Tryz.func118 rfl Tryz.ntmps118 Tryz.results118 rfl (fun C => ?_)⟩
 refine yF 0 0 rfl rfl fun f0_0 => ?_
 refine yF 0 1 rfl rfl fun f0_1 => ?_
 refine yF 0 2 rfl rfl fun f0_2 => ?_
 refine yF 0 3 rfl rfl fun f0_3 => ?_
 iterate 4 refine z ?_
 refine ok_seq ?_
 refine ok_regionD (oB := [1, 2]) (oK := []) (by kernel_rfl) rfl rfl ?_
 refine zD 0 ?_
 refine zD 1 ?_
 refine zD 2 ?_
 refine zD 3 ?_
 refine d_callK 7000 4 rfl (by kernel_rfl) rfl rfl rfl Tryz.call139 (ok_impl_copyRecord (by omega)) (as_cons (ev_tmp rfl) (ag_agg (ag_cons ac_dv ag_nil)) as_nil) rfl rfl rfl rfl rfl ?_
 refine d_take 5 rfl (by kernel_rfl) rfl rfl (pu_build hT hB rfl rfl rfl (bp_cons (ev_tmp rfl) rfl rfl rfl rfl rfl (bp_cons (ev_tmp rfl) rfl rfl rfl rfl rfl bp_nil))) rfl rfl rfl rfl ?_
 refine d_last 6 rfl (by kernel_rfl) rfl (by kernel_rfl) (ef_storeBox hT rfl rfl rfl (ev_tmp rfl) (ev_tmp rfl) rfl rfl rfl rfl rfl rfl) (by kernel_rfl) ?_
 refine z ?_
 refine ok_weak (σ' := ⟨[(2, .box 2 0)], [(2, 141, [(.dv [] (.int .i64 (x.1.1))), (.dv [] (.int .i64 (x.1.2.1))), (.dv [] (.str (x.1.2.2))), (.key 7003)])], [(7003, some (kcOf false (fieldsD (x.2))))]⟩) (weak_sub ⟨rfl, trivial⟩ ⟨rfl, trivial⟩ ⟨rfl, trivial⟩ rfl) ?_
 refine z ?_
 refine fin1 (res_cell hT rfl rfl rfl rfl) ?_
 exact ⟨rfl, rfl⟩
theorem ok_spec_l6Item {x : ItemT} (hb : x.2.length ≤ 1099511627776) : KFn Tryz.prog 122 [.agg [(.dv [] (.int .i64 (x.1.1))), (.dv [] (.int .i64 (x.1.2.1))), (.dv [] (.str (x.1.2.2))), (.dv [] (fieldsD (x.2)))]] (.agg [(.dv [] (.int .i64 (x.1.1))), (.dv [] (.int .i64 (x.1.2.1))), (.dv [] (.str (x.1.2.2))), (.key 7003)]) [(7003, some (kcOf false (fieldsD (x.2))))] := by
 refine ⟨fn_intro Tryz.func122 rfl Tryz.ntmps122 Tryz.results122 rfl (fun C => ?_)⟩
 refine yF 0 0 rfl rfl fun f0_0 => ?_
 refine yF 0 1 rfl rfl fun f0_1 => ?_
 refine yF 0 2 rfl rfl fun f0_2 => ?_
 refine yF 0 3 rfl rfl fun f0_3 => ?_
 iterate 4 refine z ?_
 refine ok_seq ?_
 refine ok_regionD (oB := [1, 2]) (oK := []) (by kernel_rfl) rfl rfl ?_
 refine zD 0 ?_
 refine zD 1 ?_
 refine zD 2 ?_
 refine zD 3 ?_
 refine d_callK 7000 4 rfl (by kernel_rfl) rfl rfl rfl Tryz.call127 (ok_spec_l5Copy (by omega)) (as_cons (ev_tmp rfl) (ag_agg (ag_cons ac_dv ag_nil)) as_nil) rfl rfl rfl rfl rfl ?_
 refine d_take 5 rfl (by kernel_rfl) rfl rfl (pu_build hT hB rfl rfl rfl (bp_cons (ev_tmp rfl) rfl rfl rfl rfl rfl (bp_cons (ev_tmp rfl) rfl rfl rfl rfl rfl bp_nil))) rfl rfl rfl rfl ?_
 refine d_last 6 rfl (by kernel_rfl) rfl (by kernel_rfl) (ef_storeBox hT rfl rfl rfl (ev_tmp rfl) (ev_tmp rfl) rfl rfl rfl rfl rfl rfl) (by kernel_rfl) ?_
 refine z ?_
 refine ok_weak (σ' := ⟨[(2, .box 2 0)], [(2, 141, [(.dv [] (.int .i64 (x.1.1))), (.dv [] (.int .i64 (x.1.2.1))), (.dv [] (.str (x.1.2.2))), (.key 7003)])], [(7003, some (kcOf false (fieldsD (x.2))))]⟩) (weak_sub ⟨rfl, trivial⟩ ⟨rfl, trivial⟩ ⟨rfl, trivial⟩ rfl) ?_
 refine z ?_
 refine fin1 (res_cell hT rfl rfl rfl rfl) ?_
 exact ⟨rfl, rfl⟩
end Go.Proofs.YtmgijbhikmjfjaaGreat

namespace Go.Proofs.YtmgijbhikmjfjaaGreat
open Go.RowKit
open Go.Proofs
set_option linter.unusedVariables false
set_option linter.unusedSimpArgs false

theorem eqSlotI {k : IntKind} {a b : Int} (h : a = b) : some (SV.one (CV.dv [] (DV.int k a))) = some (SV.one (CV.dv [] (DV.int k b))) := by rw [h]
def mkL {α : Type} (m : α → Int → α) (c : α → Nat) : List α → Int → List α
 | [], _ => []
 | x :: xs, k => m x k :: mkL m c xs (k + (c x : Int))
theorem mkL_len {α : Type} {m : α → Int → α} {c : α → Nat} : ∀ (xs : List α) (k : Int), (mkL m c xs k).length = xs.length
 | [], _ => rfl
 | x :: xs, k => by rw [mkL, List.length_cons, mkL_len xs, List.length_cons]
theorem mkL_app {α : Type} {m : α → Int → α} {c : α → Nat} : ∀ (xs ys : List α) (k : Int), mkL m c (xs ++ ys) k = mkL m c xs k ++ mkL m c ys (k + (wSum c xs : Int))
 | [], ys, k => by simp [mkL, wSum]
 | x :: xs, ys, k => by
  rw [List.cons_append, mkL, mkL_app xs ys, mkL, List.cons_append]
  congr 3
  have : wSum c (x :: xs) = c x + wSum c xs := by simp [wSum]
  omega
theorem getD_at {α : Type} [Inhabited α] {xs : List α} {j : Nat} (h : j < xs.length) : xs.getD (j : Int).toNat default = xs[j] := by simp [List.getD, List.getElem?_eq_getElem h]
theorem mkL_succ {α : Type} [Inhabited α] {m : α → Int → α} {c : α → Nat} {xs : List α} {j : Nat} {k : Int} (h : j < xs.length) : mkL m c (xs.take (j + 1)) k = mkL m c (xs.take j) k ++ [m (xs.getD (j : Int).toNat default) (k + (wSum c (xs.take j) : Int))] := by
 rw [List.take_add_one, List.getElem?_eq_getElem h, mkL_app, getD_at h]; rfl
theorem mkL_getD {α : Type} [Inhabited α] {m : α → Int → α} {c : α → Nat} {xs : List α} {j : Nat} {k : Int} (h : j < xs.length) : (mkL m c xs k).getD (j : Int).toNat default = m (xs.getD (j : Int).toNat default) (k + (wSum c (xs.take j) : Int)) := by
 have e : mkL m c xs k = mkL m c (xs.take (j + 1)) k ++ mkL m c (xs.drop (j + 1)) (k + (wSum c (xs.take (j + 1)) : Int)) := by rw [← mkL_app, List.take_append_drop]
 rw [e, mkL_succ h]
 have hl : (mkL m c (xs.take j) k).length = j := by rw [mkL_len, List.length_take]; omega
 have : (j : Int).toNat = j := by omega
 rw [List.getD, List.append_assoc, List.getElem?_append_right (by omega), show (j : Int).toNat - (mkL m c (xs.take j) k).length = 0 by omega]
 rfl
theorem drop_flat {α : Type} [Inhabited α] {enc : α → List DV} {xs : List α} {j : Nat} (h : j < xs.length) : (xs.drop j).flatMap enc = enc (xs.getD (j : Int).toNat default) ++ (xs.drop (j + 1)).flatMap enc := by
 rw [List.drop_eq_getElem_cons h, List.flatMap_cons, getD_at h]
theorem mk_open {α : Type} [Inhabited α] {enc : α → List DV} {A : List DV} {xs : List α} {j : Nat} (h : j < xs.length) : A ++ (xs.drop j).flatMap enc = mid A (enc (xs.getD (j : Int).toNat default)) ((xs.drop (j + 1)).flatMap enc) := by rw [drop_flat h]; rfl
theorem mk_close {α : Type} [Inhabited α] {m : α → Int → α} {c : α → Nat} {enc : α → List DV} {B C : List DV} {xs : List α} {j : Nat} {k : Int} (h : j < xs.length) (hB : B = enc (m (xs.getD (j : Int).toNat default) (k + (wSum c (xs.take j) : Int)))) : mid ((mkL m c (xs.take j) k).flatMap enc) B C = (mkL m c (xs.take (j + 1)) k).flatMap enc ++ C := by
 unfold mid
 rw [mkL_succ h, List.flatMap_append, hB]; simp
theorem mk_fin {α : Type} {m : α → Int → α} {c : α → Nat} {enc : α → List DV} {e sz : Nat} {xs : List α} {j : Nat} {k : Int} (h : xs.length ≤ j) : some (some (KC.mk true e sz xs.length ((mkL m c (xs.take j) k).flatMap enc ++ (xs.drop j).flatMap enc))) = some (some (kcOf true (listD e sz enc (mkL m c xs k)))) := by
 rw [List.take_of_length_le h, List.drop_eq_nil_of_le h]
 simp only [listD, kcOf, mkL_len, List.flatMap_nil, List.append_nil]
theorem mk_pre {α : Type} {m : α → Int → α} {c : α → Nat} {enc : α → List DV} {sz : Nat} (hs : ∀ x, (enc x).length = sz) {xs : List α} {j : Nat} {k : Int} (h : j ≤ xs.length) : ((mkL m c (xs.take j) k).flatMap enc).length = j * sz := by
 rw [flat_len hs, mkL_len, List.length_take, Nat.min_eq_left h]
theorem wSum_bound {α : Type} {c w : α → Nat} (h : ∀ x, c x ≤ 8 * (1 + w x)) : ∀ xs : List α, wSum c xs ≤ 8 * wList w xs
 | [] => by simp [wSum, wList]
 | x :: xs => by
  have := wSum_bound h xs
  have := h x
  simp only [wSum, wList, List.map_cons, List.sum_cons, List.length_cons] at *
  omega
theorem wSum_ge {α : Type} {c : α → Nat} (h : ∀ x, 1 ≤ c x) : ∀ xs : List α, xs.length ≤ wSum c xs
 | [] => by simp [wSum]
 | x :: xs => by
  have := wSum_ge h xs
  have := h x
  simp only [wSum, List.map_cons, List.sum_cons, List.length_cons] at *
  omega
theorem wSum_const {α : Type} {n : Nat} : ∀ xs : List α, wSum (fun _ => n) xs = n * xs.length
 | [] => by simp [wSum]
 | x :: xs => by
  have := wSum_const (n := n) xs
  simp only [wSum, List.map_cons, List.sum_cons, List.length_cons] at *
  rw [Nat.mul_add]; omega
def mDig (k : Nat) (out : Str) : Str := if k = 0 then out else mDig (k / 10) (strOf [UInt8.ofNat (IntKind.u8.wrap (48 + (k : Int) % 10)).toNat] ++ out)
termination_by k
theorem mDig_go {k : Nat} {out : Str} (h : 0 < (k : Int)) : mDig (k / 10) (strOf [UInt8.ofNat (IntKind.u8.wrap (48 + (k : Int) % 10)).toNat] ++ out) = mDig k out := by rw [mDig.eq_def k out, if_neg (by omega)]
theorem mDig_end {k : Nat} {out : Str} (h : ¬ 0 < (k : Int)) : mDig k out = out := by rw [mDig.eq_def k out, if_pos (by omega)]
def mText (k : Int) : Str := if k ≤ 0 then ByteArray.mk #[109, 48] else ByteArray.mk #[109] ++ mDig k.toNat (ByteArray.mk #[])

def mkInt (_ : Int) (k : Int) : Int := k
def cInt (_ : Int) : Nat := 1
def mkField (x : FieldT) (k : Int) : FieldT := (mText (k), (k) + (1))
def cField (x : FieldT) : Nat := 2
theorem cField_le (x : FieldT) : cField x ≤ 8 * (1 + wField x) := by
 simp only [cField]
 omega
def mkItem (x : ItemT) (k : Int) : ItemT := ((k, (k) + (1), mText (((k) + (1)) + (1))), mkL mkField cField (x.2) ((((k) + (1)) + (1)) + (1)))
def cItem (x : ItemT) : Nat := 3 + wSum cField (x.2)
theorem cItem_le (x : ItemT) : cItem x ≤ 8 * (1 + wItem x) := by
 have h3 := wSum_bound cField_le (x.2)
 simp only [cItem, wItem, wKey, wRecord]
 omega
theorem ok_laws_markText {k : Int} (hk : k ≤ 9000000000000000000) : PFn Tryz.prog 63 [.one (.dv [] (.int .i64 (k)))] (.one (.dv [] (.str (mText k)))) := by
 refine ⟨fn_intro Tryz.func63 rfl Tryz.ntmps63 Tryz.results63 rfl (fun C => ?_)⟩
 refine ok_fact (x := .tmp 0) (ev_tmp rfl) fun f0 => ?_
 iterate 8 refine z ?_
 refine yQ rfl (fun c1 => ?_) fun c1 => ?_
 ·skip
  have d1 := of_decide_eq_true c1
  iterate 6 refine z ?_
  rw [mText, if_pos d1]
 ·skip
  have d1 := of_decide_eq_false c1
  iterate 7 refine z ?_
  refine ok_loop (ι := Nat × Str) (fun zz => ⟨[(0, .one (.dv [] (.int .i64 ((zz.1 : Int))))), (2, .one (.dv [] (.str (ByteArray.mk #[])))), (3, .one (.dv [] (.str (zz.2))))], [], []⟩) (fun zz => mDig zz.1 zz.2 = mDig k.toNat (ByteArray.mk #[]) ∧ zz.2.size + zz.1 ≤ k.toNat) (fun zz => zz.1) ((k.toNat, ByteArray.mk #[])) ?_ (weak_sub ⟨(eqSlotI (by show k = ((k.toNat : Nat) : Int); omega)), rfl, rfl, trivial⟩ trivial trivial rfl) (fun zz hx => ?_)
  ·exact ⟨rfl, by show 0 + _ ≤ _; omega⟩
  obtain ⟨n, out⟩ := zz
  replace hx : mDig n out = mDig k.toNat (ByteArray.mk #[]) ∧ out.size + n ≤ k.toNat := hx
  obtain ⟨hd, hs⟩ := hx
  show Ok _ _ _ _ _ (⟨[(0, .one (.dv [] (.int .i64 ((n : Int))))), (2, .one (.dv [] (.str (ByteArray.mk #[])))), (3, .one (.dv [] (.str (out))))], [], []⟩ : St)
  iterate 5 refine z ?_
  refine yQ rfl (fun c2 => ?_) fun c2 => ?_
  ·skip
   have d2 := of_decide_eq_true c2
   have hs1 : (strOf [UInt8.ofNat (IntKind.u8.wrap (48 + (n : Int) % 10)).toNat]).size = 1 := rfl
   iterate 5 refine z ?_
   refine yO rfl rfl (pu_remN rfl (ev_tmp rfl) (ev_int (inR_lit rfl)) (by omega) (by omega)) rfl ?_
   refine z ?_
   refine yO rfl rfl (pu_convI hT rfl rfl rfl (ev_tmp rfl)) rfl ?_
   refine o_build1 (k := 12) (js := []) hT rfl rfl rfl rfl rfl rfl rfl rfl rfl (ev_tmp rfl) rfl rfl (ow_cons' (ow_dv rfl) ow_nil rfl) (by decide) (by decide) rfl rfl ?_
   simp only [killT, killB, SV.kill, CV.kill, kk, Nat.reduceBEq]
   refine yO rfl rfl (pu_convB1 (b := UInt8.ofNat (IntKind.u8.wrap ((48) + (((n : Int)) % (10)))).toNat) hT rfl rfl rfl rfl (ev_keyv (c := ⟨false, 5, 1, 1, [.int .u8 (IntKind.u8.wrap ((48) + (((n : Int)) % (10))))]⟩) (ev_tmp rfl) rfl) (wrap_u8 _)) rfl ?_
   refine z ?_
   refine yO rfl rfl (pu_sadd rfl (ev_tmp rfl) (ev_tmp rfl) (by omega)) rfl ?_
   iterate 2 refine z ?_
   refine ok_region ?_
   refine z ?_
   refine yO rfl rfl (pu_quoN rfl (ev_tmp rfl) (ev_int (inR_lit rfl)) (by omega) (by omega)) rfl ?_
   refine z ?_
   refine ops_nil ?_
   iterate 2 refine z ?_
   refine ⟨(n / 10, strOf [UInt8.ofNat (IntKind.u8.wrap (48 + (n : Int) % 10)).toNat] ++ out), ?_, ?_, weak_sub ⟨rfl, rfl, rfl, trivial⟩ trivial trivial rfl⟩
   ·exact ⟨(mDig_go d2).trans hd, by rw [ByteArray.size_append, hs1]; dsimp only; omega⟩
   ·dsimp only; omega
  ·skip
   have d2 := of_decide_eq_false c2
   have hs9 : (ByteArray.mk #[109]).size = 1 := rfl
   iterate 7 refine z ?_
   refine yO rfl rfl (pu_sadd rfl (ev_str (str_lit rfl)) (ev_tmp rfl) (by omega)) rfl ?_
   iterate 4 refine z ?_
   rw [mText, if_neg d1, ← hd, mDig_end d2]
theorem ok_laws_markFieldS {x : List (FieldT)} {k : Int} (h0 : 0 ≤ k) (h1 : k + (wSum cField x : Int) ≤ 4611686018427387904) : WFn Tryz.prog 64 [.one (.key 0), .one (.dv [] (.int .i64 (k)))] (.one (.dv [] (.int .i64 (k + (wSum cField x : Int))))) [(0, kcOf true (.sl 158 2 (x.length) (x.flatMap eField)))] [(0, kcOf true (fieldsD (mkL mkField cField x k)))] := by
 refine ⟨fn_intro Tryz.func64 rfl Tryz.ntmps64 Tryz.results64 rfl (fun C => ?_)⟩
 have hln : x.length ≤ wSum cField x := wSum_ge (fun _ => by simp only [cField]; omega) x
 refine ok_fact (x := .tmp 1) (ev_tmp rfl) fun f1 => ?_
 iterate 8 refine z ?_
 refine ok_loop (ι := Nat) (fun zz => ⟨[(0, .one (.key 0)), (1, .one (.dv [] (.int .i64 (k + (wSum cField (x.take zz) : Int))))), (4, .one (.dv [] (.int .i64 (0)))), (5, .one (.dv [] (.int .i64 ((zz : Int)))))], [], [(0, some ⟨true, 158, 2, x.length, (mkL mkField cField (x.take zz) k).flatMap eField ++ (x.drop zz).flatMap eField⟩)]⟩) (fun zz => zz ≤ x.length) (fun zz => x.length - zz) (0) ?_ (weak_sub ⟨rfl, (eqSlotI (by simp [wSum])), rfl, rfl, trivial⟩ trivial ⟨rfl, trivial⟩ rfl) (fun zz hx => ?_)
 ·exact Nat.zero_le _
 obtain ⟨j, rfl⟩ : ∃ v, v = zz := ⟨_, rfl⟩
 replace hx : j ≤ x.length := hx
 have hw := fun h => wSum_succ cField x j h
 show Ok _ _ _ _ _ (⟨[(0, .one (.key 0)), (1, .one (.dv [] (.int .i64 (k + (wSum cField (x.take j) : Int))))), (4, .one (.dv [] (.int .i64 (0)))), (5, .one (.dv [] (.int .i64 ((j : Int)))))], [], [(0, some ⟨true, 158, 2, x.length, (mkL mkField cField (x.take j) k).flatMap eField ++ (x.drop j).flatMap eField⟩)]⟩ : St)
 iterate 4 refine z ?_
 refine yO rfl rfl (pu_lenKn (n := (x.length)) hT rfl rfl (ev_tmp rfl) rfl rfl) rfl ?_
 iterate 2 refine z ?_
 refine yQ rfl (fun c1 => ?_) fun c1 => ?_
 ·skip
  have d1 := of_decide_eq_true c1
  have hj : j < x.length := by omega
  obtain ⟨hw1, hw2⟩ := hw hj
  have hc : cField (x.getD (j : Int).toNat default) = 2 := rfl
  refine ok_kcs (k := 0) (cs' := mid ((mkL mkField cField (x.take j) k).flatMap eField) [.str ((x.getD (j : Int).toNat default).1), .int .i64 ((x.getD (j : Int).toNat default).2)] ((x.drop (j + 1)).flatMap eField)) rfl (mk_open hj) ?_
  iterate 8 refine z ?_
  refine zC Tryz.call63 ?_ (hf := ok_laws_markText (by omega))
  refine yO rfl rfl (pu_indexK (i := j) hT rfl rfl rfl (ev_tmp rfl) rfl (ev_tmp rfl) rfl (by show _ < (x.length); omega)) rfl ?_
  refine z ?_
  refine o_storeE (js := []) (cs := mid ((mkL mkField cField (x.take j) k).flatMap eField) [.str (mText (k + (wSum cField (x.take j) : Int))), .int .i64 ((x.getD (j : Int).toNat default).2)] ((x.drop (j + 1)).flatMap eField)) hT rfl rfl rfl rfl (ev_tmp rfl) (ev_tmp rfl) rfl rfl rfl rfl (ow_cons' (ow_dv rfl) ow_nil rfl) (by decide) (by decide) rfl (le_mid (off := (j * 2 + 0)) (n := 1) (j := 0) (mk_pre (sz := 2) (fun _ => rfl) (Nat.le_of_lt hj)) (by omega) (Nat.le_of_ble_eq_true rfl)) (setR_mid (off := (j * 2 + 0)) (j := 0) (mk_pre (sz := 2) (fun _ => rfl) (Nat.le_of_lt hj)) (by omega) rfl (Nat.le_of_ble_eq_true rfl)) ?_
  simp only [killT, killB, SV.kill, CV.kill, kk, Nat.reduceBEq]
  iterate 10 refine z ?_
  refine yO rfl rfl (pu_indexK (i := j) hT rfl rfl rfl (ev_tmp rfl) rfl (ev_tmp rfl) rfl (by show _ < (x.length); omega)) rfl ?_
  refine z ?_
  refine o_storeE (js := []) (cs := mid ((mkL mkField cField (x.take j) k).flatMap eField) [.str (mText (k + (wSum cField (x.take j) : Int))), .int .i64 ((k + (wSum cField (x.take j) : Int)) + (1))] ((x.drop (j + 1)).flatMap eField)) hT rfl rfl rfl rfl (ev_tmp rfl) (ev_tmp rfl) rfl rfl rfl rfl (ow_cons' (ow_dv rfl) ow_nil rfl) (by decide) (by decide) rfl (le_mid (off := (j * 2 + 1)) (n := 1) (j := 1) (mk_pre (sz := 2) (fun _ => rfl) (Nat.le_of_lt hj)) (by omega) (Nat.le_of_ble_eq_true rfl)) (setR_mid (off := (j * 2 + 1)) (j := 1) (mk_pre (sz := 2) (fun _ => rfl) (Nat.le_of_lt hj)) (by omega) rfl (Nat.le_of_ble_eq_true rfl)) ?_
  simp only [killT, killB, SV.kill, CV.kill, kk, Nat.reduceBEq]
  refine z ?_
  refine ok_region ?_
  iterate 3 refine z ?_
  refine ops_nil ?_
  iterate 2 refine z ?_
  refine ok_region ?_
  iterate 4 refine z ?_
  refine ⟨j + 1, ?_, ?_, weak_sub ⟨rfl, (eqSlotI (by omega)), rfl, rfl, trivial⟩ trivial ⟨(congrArg (fun cs => some (some (KC.mk true 158 2 x.length cs))) (mk_close (by omega) (by rfl))), trivial⟩ rfl⟩
  ·omega
  ·omega
 ·skip
  have d1 := of_decide_eq_false c1
  iterate 9 refine z ?_
  refine ok_weak (σ' := ⟨[(4, .one (.dv [] (.int .i64 (k + (wSum cField (x.take j) : Int)))))], [], [(0, some (kcOf true (fieldsD (mkL mkField cField x k))))]⟩) (weak_sub ⟨rfl, trivial⟩ trivial ⟨(mk_fin (by omega)), trivial⟩ rfl) ?_
  refine z ?_
  refine fin1 (res_tmp rfl) ⟨eqI ?_, w1_ok rfl⟩
  have hq := wSum_all cField x j (by omega); omega
theorem ok_laws_heldFieldS {x y : List (FieldT)} {k : Int} (hy : y = mkL mkField cField x k) (h0 : 0 ≤ k) (h1 : k + (wSum cField x : Int) ≤ 4611686018427387904) : PFn Tryz.prog 148 [.one (.dv [] (fieldsD (y))), .one (.dv [] (.int .i64 (k)))] (.one (.dv [] (.int .i64 (k + (wSum cField x : Int))))) := by
 refine ⟨fn_intro Tryz.func148 rfl Tryz.ntmps148 Tryz.results148 rfl (fun C => ?_)⟩
 refine ok_fact (x := .tmp 0) (ev_tmp rfl) fun f0 => ?_
 refine ok_fact (x := .tmp 1) (ev_tmp rfl) fun f1 => ?_
 iterate 8 refine z ?_
 refine ok_loop (ι := Nat) (fun zz => ⟨[(0, .one (.dv [] (fieldsD (y)))), (1, .one (.dv [] (.int .i64 (k + (wSum cField (x.take zz) : Int))))), (5, .one (.dv [] (.int .i64 ((zz : Int)))))], [], []⟩) (fun zz => zz ≤ x.length) (fun zz => x.length - zz) (0) ?_ (weak_sub ⟨rfl, (eqSlotI (by simp [wSum])), rfl, trivial⟩ trivial trivial rfl) (fun zz hx => ?_)
 ·exact Nat.zero_le _
 obtain ⟨j, rfl⟩ : ∃ v, v = zz := ⟨_, rfl⟩
 replace hx : j ≤ x.length := hx
 have hw := fun h => wSum_succ cField x j h
 have hyl : y.length = x.length := by rw [hy, mkL_len]
 show Ok _ _ _ _ _ (⟨[(0, .one (.dv [] (fieldsD (y)))), (1, .one (.dv [] (.int .i64 (k + (wSum cField (x.take j) : Int))))), (5, .one (.dv [] (.int .i64 ((j : Int)))))], [], []⟩ : St)
 iterate 7 refine z ?_
 refine yQ rfl (fun c1 => ?_) fun c1 => ?_
 ·skip
  have d1 := of_decide_eq_true c1
  have hj : j < x.length := by omega
  obtain ⟨hw1, hw2⟩ := hw hj
  have hc : cField (x.getD (j : Int).toNat default) = 2 := rfl
  have he : y.getD (j : Int).toNat default = mkField (x.getD (j : Int).toNat default) (k + (wSum cField (x.take j) : Int)) := by rw [hy]; exact mkL_getD hj
  iterate 4 refine z ?_
  refine ok_seq ?_
  refine ok_seq ?_
  refine ok_regionD (oB := []) (oK := []) (by kernel_rfl) rfl rfl ?_
  refine zD 0 ?_
  refine zD 1 ?_
  refine zD 2 ?_
  refine zD 3 ?_
  refine zD 4 ?_
  refine zD 5 ?_
  refine d_call 6 rfl (by kernel_rfl) rfl rfl rfl Tryz.call63 (ok_laws_markText (by omega)) (as_cons (ev_tmp rfl) (ag_one ac_dv) as_nil) rfl rfl rfl rfl ?_
  refine zD 7 ?_
  refine d_done (by kernel_rfl) ?_
  refine z ?_
  refine yQ rfl (fun c2 => ?_) fun c2 => ?_
  ·skip
   iterate 11 refine z ?_
   exfalso; rw [he] at c2; simp [mkField, sEq] at c2
  ·skip
   iterate 17 refine z ?_
   refine yQ rfl (fun c3 => ?_) fun c3 => ?_
   ·skip
    have d3 := nd_t c3
    iterate 11 refine z ?_
    exfalso; rw [he] at c3; simp [mkField, sEq] at c3
   ·skip
    have d3 := nd_f c3
    iterate 2 refine z ?_
    refine ok_region ?_
    iterate 3 refine z ?_
    refine ops_nil ?_
    iterate 2 refine z ?_
    refine ok_region ?_
    iterate 4 refine z ?_
    refine ⟨j + 1, ?_, ?_, weak_sub ⟨rfl, (eqSlotI (by omega)), rfl, trivial⟩ trivial trivial rfl⟩
    ·omega
    ·omega
 ·skip
  have d1 := of_decide_eq_false c1
  iterate 11 refine z ?_
  have hq := wSum_all cField x j (by omega); omega
theorem ok_laws_markItemS {x : List (ItemT)} {k : Int} (h0 : 0 ≤ k) (h1 : k + (wSum cItem x : Int) ≤ 4611686018427387904) : WFn Tryz.prog 110 [.one (.key 0), .one (.dv [] (.int .i64 (k)))] (.one (.dv [] (.int .i64 (k + (wSum cItem x : Int))))) [(0, kcOf true (.sl 141 4 (x.length) (x.flatMap eItem)))] [(0, kcOf true (itemsD (mkL mkItem cItem x k)))] := by
 refine ⟨fn_intro Tryz.func110 rfl Tryz.ntmps110 Tryz.results110 rfl (fun C => ?_)⟩
 have hln : x.length ≤ wSum cItem x := wSum_ge (fun _ => by simp only [cItem]; omega) x
 refine ok_fact (x := .tmp 1) (ev_tmp rfl) fun f1 => ?_
 iterate 8 refine z ?_
 refine ok_loop (ι := Nat) (fun zz => ⟨[(0, .one (.key 0)), (1, .one (.dv [] (.int .i64 (k + (wSum cItem (x.take zz) : Int))))), (4, .one (.dv [] (.int .i64 (0)))), (5, .one (.dv [] (.int .i64 ((zz : Int)))))], [], [(0, some ⟨true, 141, 4, x.length, (mkL mkItem cItem (x.take zz) k).flatMap eItem ++ (x.drop zz).flatMap eItem⟩)]⟩) (fun zz => zz ≤ x.length) (fun zz => x.length - zz) (0) ?_ (weak_sub ⟨rfl, (eqSlotI (by simp [wSum])), rfl, rfl, trivial⟩ trivial ⟨rfl, trivial⟩ rfl) (fun zz hx => ?_)
 ·exact Nat.zero_le _
 obtain ⟨j, rfl⟩ : ∃ v, v = zz := ⟨_, rfl⟩
 replace hx : j ≤ x.length := hx
 have hw := fun h => wSum_succ cItem x j h
 show Ok _ _ _ _ _ (⟨[(0, .one (.key 0)), (1, .one (.dv [] (.int .i64 (k + (wSum cItem (x.take j) : Int))))), (4, .one (.dv [] (.int .i64 (0)))), (5, .one (.dv [] (.int .i64 ((j : Int)))))], [], [(0, some ⟨true, 141, 4, x.length, (mkL mkItem cItem (x.take j) k).flatMap eItem ++ (x.drop j).flatMap eItem⟩)]⟩ : St)
 iterate 4 refine z ?_
 refine yO rfl rfl (pu_lenKn (n := (x.length)) hT rfl rfl (ev_tmp rfl) rfl rfl) rfl ?_
 iterate 2 refine z ?_
 refine yQ rfl (fun c1 => ?_) fun c1 => ?_
 ·skip
  have d1 := of_decide_eq_true c1
  have hj : j < x.length := by omega
  obtain ⟨hw1, hw2⟩ := hw hj
  have hc : cItem (x.getD (j : Int).toNat default) = 3 + wSum cField ((x.getD (j : Int).toNat default).2) := rfl
  refine ok_kcs (k := 0) (cs' := mid ((mkL mkItem cItem (x.take j) k).flatMap eItem) [.int .i64 ((x.getD (j : Int).toNat default).1.1), .int .i64 ((x.getD (j : Int).toNat default).1.2.1), .str ((x.getD (j : Int).toNat default).1.2.2), fieldsD ((x.getD (j : Int).toNat default).2)] ((x.drop (j + 1)).flatMap eItem)) rfl (mk_open hj) ?_
  iterate 8 refine z ?_
  refine yO rfl rfl (pu_indexK (i := j) hT rfl rfl rfl (ev_tmp rfl) rfl (ev_tmp rfl) rfl (by show _ < (x.length); omega)) rfl ?_
  iterate 2 refine z ?_
  refine o_storeE (js := []) (cs := mid ((mkL mkItem cItem (x.take j) k).flatMap eItem) [.int .i64 (k + (wSum cItem (x.take j) : Int)), .int .i64 ((x.getD (j : Int).toNat default).1.2.1), .str ((x.getD (j : Int).toNat default).1.2.2), fieldsD ((x.getD (j : Int).toNat default).2)] ((x.drop (j + 1)).flatMap eItem)) hT rfl rfl rfl rfl (ev_tmp rfl) (ev_tmp rfl) rfl rfl rfl rfl (ow_cons' (ow_dv rfl) ow_nil rfl) (by decide) (by decide) rfl (le_mid (off := ((j * 4 + 0) + 0)) (n := 1) (j := 0) (mk_pre (sz := 4) (fun _ => rfl) (Nat.le_of_lt hj)) (by omega) (Nat.le_of_ble_eq_true rfl)) (setR_mid (off := ((j * 4 + 0) + 0)) (j := 0) (mk_pre (sz := 4) (fun _ => rfl) (Nat.le_of_lt hj)) (by omega) rfl (Nat.le_of_ble_eq_true rfl)) ?_
  simp only [killT, killB, SV.kill, CV.kill, kk, Nat.reduceBEq]
  iterate 10 refine z ?_
  refine yO rfl rfl (pu_indexK (i := j) hT rfl rfl rfl (ev_tmp rfl) rfl (ev_tmp rfl) rfl (by show _ < (x.length); omega)) rfl ?_
  iterate 2 refine z ?_
  refine o_storeE (js := []) (cs := mid ((mkL mkItem cItem (x.take j) k).flatMap eItem) [.int .i64 (k + (wSum cItem (x.take j) : Int)), .int .i64 ((k + (wSum cItem (x.take j) : Int)) + (1)), .str ((x.getD (j : Int).toNat default).1.2.2), fieldsD ((x.getD (j : Int).toNat default).2)] ((x.drop (j + 1)).flatMap eItem)) hT rfl rfl rfl rfl (ev_tmp rfl) (ev_tmp rfl) rfl rfl rfl rfl (ow_cons' (ow_dv rfl) ow_nil rfl) (by decide) (by decide) rfl (le_mid (off := ((j * 4 + 0) + 1)) (n := 1) (j := 1) (mk_pre (sz := 4) (fun _ => rfl) (Nat.le_of_lt hj)) (by omega) (Nat.le_of_ble_eq_true rfl)) (setR_mid (off := ((j * 4 + 0) + 1)) (j := 1) (mk_pre (sz := 4) (fun _ => rfl) (Nat.le_of_lt hj)) (by omega) rfl (Nat.le_of_ble_eq_true rfl)) ?_
  simp only [killT, killB, SV.kill, CV.kill, kk, Nat.reduceBEq]
  iterate 10 refine z ?_
  refine zC Tryz.call63 ?_ (hf := ok_laws_markText (by omega))
  refine yO rfl rfl (pu_indexK (i := j) hT rfl rfl rfl (ev_tmp rfl) rfl (ev_tmp rfl) rfl (by show _ < (x.length); omega)) rfl ?_
  iterate 2 refine z ?_
  refine o_storeE (js := []) (cs := mid ((mkL mkItem cItem (x.take j) k).flatMap eItem) [.int .i64 (k + (wSum cItem (x.take j) : Int)), .int .i64 ((k + (wSum cItem (x.take j) : Int)) + (1)), .str (mText (((k + (wSum cItem (x.take j) : Int)) + (1)) + (1))), fieldsD ((x.getD (j : Int).toNat default).2)] ((x.drop (j + 1)).flatMap eItem)) hT rfl rfl rfl rfl (ev_tmp rfl) (ev_tmp rfl) rfl rfl rfl rfl (ow_cons' (ow_dv rfl) ow_nil rfl) (by decide) (by decide) rfl (le_mid (off := ((j * 4 + 0) + 2)) (n := 1) (j := 2) (mk_pre (sz := 4) (fun _ => rfl) (Nat.le_of_lt hj)) (by omega) (Nat.le_of_ble_eq_true rfl)) (setR_mid (off := ((j * 4 + 0) + 2)) (j := 2) (mk_pre (sz := 4) (fun _ => rfl) (Nat.le_of_lt hj)) (by omega) rfl (Nat.le_of_ble_eq_true rfl)) ?_
  simp only [killT, killB, SV.kill, CV.kill, kk, Nat.reduceBEq]
  iterate 6 refine z ?_
  refine ok_region ?_
  iterate 2 refine z ?_
  refine yO rfl rfl (pu_indexK (i := j) hT rfl rfl rfl (ev_tmp rfl) rfl (ev_tmp rfl) rfl (by show _ < (x.length); omega)) rfl ?_
  iterate 2 refine z ?_
  refine yO rfl rfl (pu_loadE1 hT rfl rfl (ev_tmp rfl) rfl (get_mid (off := ((j * 4 + 3) + 0)) (j := 3) (mk_pre (sz := 4) (fun _ => rfl) (Nat.le_of_lt hj)) (by omega) rfl)) rfl ?_
  refine z ?_
  refine o_callN (t := 42) (ccs := mid ((mkL mkItem cItem (x.take j) k).flatMap eItem) [.int .i64 (k + (wSum cItem (x.take j) : Int)), .int .i64 ((k + (wSum cItem (x.take j) : Int)) + (1)), .str (mText (((k + (wSum cItem (x.take j) : Int)) + (1)) + (1))), fieldsD (mkL mkField cField ((x.getD (j : Int).toNat default).2) ((((k + (wSum cItem (x.take j) : Int)) + (1)) + (1)) + (1)))] ((x.drop (j + 1)).flatMap eItem)) 5044 rfl rfl rfl Tryz.call64 (ok_laws_markFieldS (by omega) (by omega)) rfl rfl (get_mid (off := ((j * 4 + 3) + 0)) (j := 3) (mk_pre (sz := 4) (fun _ => rfl) (Nat.le_of_lt hj)) (by omega) rfl) rfl (aw_cons (ev_tmp rfl) (aw_one (awc_key rfl)) (aw_cons (ev_tmp rfl) (aw_one (awc_dv rfl)) aw_nil)) rfl rfl (set_mid (off := ((j * 4 + 3) + 0)) (j := 3) (mk_pre (sz := 4) (fun _ => rfl) (Nat.le_of_lt hj)) (by omega) rfl (Nat.lt_of_lt_of_le (Nat.lt_succ_self _) (Nat.le_of_ble_eq_true rfl))) ?_
  simp only [killT, killB, SV.kill, CV.kill, kk, Nat.reduceBEq]
  refine z ?_
  refine ops_nil ?_
  iterate 2 refine z ?_
  refine ok_region ?_
  iterate 4 refine z ?_
  refine ⟨j + 1, ?_, ?_, weak_sub ⟨rfl, (eqSlotI (by omega)), rfl, rfl, trivial⟩ trivial ⟨(congrArg (fun cs => some (some (KC.mk true 141 4 x.length cs))) (mk_close (by omega) (by rfl))), trivial⟩ rfl⟩
  ·omega
  ·omega
 ·skip
  have d1 := of_decide_eq_false c1
  iterate 9 refine z ?_
  refine ok_weak (σ' := ⟨[(4, .one (.dv [] (.int .i64 (k + (wSum cItem (x.take j) : Int)))))], [], [(0, some (kcOf true (itemsD (mkL mkItem cItem x k))))]⟩) (weak_sub ⟨rfl, trivial⟩ trivial ⟨(mk_fin (by omega)), trivial⟩ rfl) ?_
  refine z ?_
  refine fin1 (res_tmp rfl) ⟨eqI ?_, w1_ok rfl⟩
  have hq := wSum_all cItem x j (by omega); omega
theorem ok_laws_heldItemS {x y : List (ItemT)} {k : Int} (hy : y = mkL mkItem cItem x k) (h0 : 0 ≤ k) (h1 : k + (wSum cItem x : Int) ≤ 4611686018427387904) : PFn Tryz.prog 111 [.one (.dv [] (itemsD (y))), .one (.dv [] (.int .i64 (k)))] (.one (.dv [] (.int .i64 (k + (wSum cItem x : Int))))) := by
 refine ⟨fn_intro Tryz.func111 rfl Tryz.ntmps111 Tryz.results111 rfl (fun C => ?_)⟩
 refine ok_fact (x := .tmp 0) (ev_tmp rfl) fun f0 => ?_
 refine ok_fact (x := .tmp 1) (ev_tmp rfl) fun f1 => ?_
 iterate 8 refine z ?_
 refine ok_loop (ι := Nat) (fun zz => ⟨[(0, .one (.dv [] (itemsD (y)))), (1, .one (.dv [] (.int .i64 (k + (wSum cItem (x.take zz) : Int))))), (5, .one (.dv [] (.int .i64 ((zz : Int)))))], [], []⟩) (fun zz => zz ≤ x.length) (fun zz => x.length - zz) (0) ?_ (weak_sub ⟨rfl, (eqSlotI (by simp [wSum])), rfl, trivial⟩ trivial trivial rfl) (fun zz hx => ?_)
 ·exact Nat.zero_le _
 obtain ⟨j, rfl⟩ : ∃ v, v = zz := ⟨_, rfl⟩
 replace hx : j ≤ x.length := hx
 have hw := fun h => wSum_succ cItem x j h
 have hyl : y.length = x.length := by rw [hy, mkL_len]
 show Ok _ _ _ _ _ (⟨[(0, .one (.dv [] (itemsD (y)))), (1, .one (.dv [] (.int .i64 (k + (wSum cItem (x.take j) : Int))))), (5, .one (.dv [] (.int .i64 ((j : Int)))))], [], []⟩ : St)
 iterate 7 refine z ?_
 refine yQ rfl (fun c1 => ?_) fun c1 => ?_
 ·skip
  have d1 := of_decide_eq_true c1
  have hj : j < x.length := by omega
  obtain ⟨hw1, hw2⟩ := hw hj
  have hc : cItem (x.getD (j : Int).toNat default) = 3 + wSum cField ((x.getD (j : Int).toNat default).2) := rfl
  have he : y.getD (j : Int).toNat default = mkItem (x.getD (j : Int).toNat default) (k + (wSum cItem (x.take j) : Int)) := by rw [hy]; exact mkL_getD hj
  iterate 15 refine z ?_
  refine yQ rfl (fun c2 => ?_) fun c2 => ?_
  ·skip
   have d2 := nd_t c2
   iterate 11 refine z ?_
   exfalso; rw [he] at c2; simp [mkItem, sEq] at c2
  ·skip
   have d2 := nd_f c2
   iterate 18 refine z ?_
   refine yQ rfl (fun c3 => ?_) fun c3 => ?_
   ·skip
    have d3 := nd_t c3
    iterate 11 refine z ?_
    exfalso; rw [he] at c3; simp [mkItem, sEq] at c3
   ·skip
    have d3 := nd_f c3
    iterate 7 refine z ?_
    refine ok_seq ?_
    refine ok_seq ?_
    refine ok_regionD (oB := []) (oK := []) (by kernel_rfl) rfl rfl ?_
    refine zD 0 ?_
    refine zD 1 ?_
    refine zD 2 ?_
    refine zD 3 ?_
    refine zD 4 ?_
    refine zD 5 ?_
    refine zD 6 ?_
    refine d_call 7 rfl (by kernel_rfl) rfl rfl rfl Tryz.call63 (ok_laws_markText (by omega)) (as_cons (ev_tmp rfl) (ag_one ac_dv) as_nil) rfl rfl rfl rfl ?_
    refine zD 8 ?_
    refine d_done (by kernel_rfl) ?_
    refine z ?_
    refine yQ rfl (fun c4 => ?_) fun c4 => ?_
    ·skip
     iterate 11 refine z ?_
     exfalso; rw [he] at c4; simp [mkItem, sEq] at c4
    ·skip
     iterate 15 refine z ?_
     refine zC Tryz.call148 ?_ (hf := ok_laws_heldFieldS (x := (x.getD (j : Int).toNat default).2) (by rw [he]; rfl) (by omega) (by omega))
     iterate 6 refine z ?_
     refine yQ rfl (fun c5 => ?_) fun c5 => ?_
     ·skip
      have d5 := of_decide_eq_true c5
      iterate 10 refine z ?_
      exfalso; omega
     ·skip
      have d5 := of_decide_eq_false c5
      iterate 3 refine z ?_
      refine ok_region ?_
      iterate 4 refine z ?_
      refine ⟨j + 1, ?_, ?_, weak_sub ⟨rfl, (eqSlotI (by omega)), rfl, trivial⟩ trivial trivial rfl⟩
      ·omega
      ·omega
 ·skip
  have d1 := of_decide_eq_false c1
  iterate 11 refine z ?_
  have hq := wSum_all cItem x j (by omega); omega
end Go.Proofs.YtmgijbhikmjfjaaGreat

namespace Go.Proofs.YtmgijbhikmjfjaaGreat
open Go.RowKit
open Go.Proofs
set_option linter.unusedVariables false
set_option linter.unusedSimpArgs false
def mkStore (x : StoreT) (k : Int) : StoreT := (mText (k), mkL mkItem cItem (x.2.1) ((k) + (1)), ((k) + (1)) + (wSum cItem (x.2.1) : Int))
def cStore (x : StoreT) : Nat := 2 + wSum cItem (x.2.1)
theorem cStore_le (x : StoreT) : cStore x ≤ 8 * (1 + wStore x) := by
 have h1 := wSum_bound cItem_le (x.2.1)
 simp only [cStore, wStore]
 omega
theorem ok_laws_markStoreS {x : List (StoreT)} {k : Int} (h0 : 0 ≤ k) (h1 : k + (wSum cStore x : Int) ≤ 4611686018427387904) : WFn Tryz.prog 58 [.one (.key 0), .one (.dv [] (.int .i64 (k)))] (.one (.dv [] (.int .i64 (k + (wSum cStore x : Int))))) [(0, kcOf true (.sl 91 3 (x.length) (x.flatMap eStore)))] [(0, kcOf true (storesD (mkL mkStore cStore x k)))] := by
 refine ⟨fn_intro Tryz.func58 rfl Tryz.ntmps58 Tryz.results58 rfl (fun C => ?_)⟩
 have hln : x.length ≤ wSum cStore x := wSum_ge (fun _ => by simp only [cStore]; omega) x
 refine ok_fact (x := .tmp 1) (ev_tmp rfl) fun f1 => ?_
 iterate 8 refine z ?_
 refine ok_loop (ι := Nat) (fun zz => ⟨[(0, .one (.key 0)), (1, .one (.dv [] (.int .i64 (k + (wSum cStore (x.take zz) : Int))))), (4, .one (.dv [] (.int .i64 (0)))), (5, .one (.dv [] (.int .i64 ((zz : Int)))))], [], [(0, some ⟨true, 91, 3, x.length, (mkL mkStore cStore (x.take zz) k).flatMap eStore ++ (x.drop zz).flatMap eStore⟩)]⟩) (fun zz => zz ≤ x.length) (fun zz => x.length - zz) (0) ?_ (weak_sub ⟨rfl, (eqSlotI (by simp [wSum])), rfl, rfl, trivial⟩ trivial ⟨rfl, trivial⟩ rfl) (fun zz hx => ?_)
 ·exact Nat.zero_le _
 obtain ⟨j, rfl⟩ : ∃ v, v = zz := ⟨_, rfl⟩
 replace hx : j ≤ x.length := hx
 have hw := fun h => wSum_succ cStore x j h
 show Ok _ _ _ _ _ (⟨[(0, .one (.key 0)), (1, .one (.dv [] (.int .i64 (k + (wSum cStore (x.take j) : Int))))), (4, .one (.dv [] (.int .i64 (0)))), (5, .one (.dv [] (.int .i64 ((j : Int)))))], [], [(0, some ⟨true, 91, 3, x.length, (mkL mkStore cStore (x.take j) k).flatMap eStore ++ (x.drop j).flatMap eStore⟩)]⟩ : St)
 iterate 4 refine z ?_
 refine yO rfl rfl (pu_lenKn (n := (x.length)) hT rfl rfl (ev_tmp rfl) rfl rfl) rfl ?_
 iterate 2 refine z ?_
 refine yQ rfl (fun c1 => ?_) fun c1 => ?_
 ·skip
  have d1 := of_decide_eq_true c1
  have hj : j < x.length := by omega
  obtain ⟨hw1, hw2⟩ := hw hj
  have hc : cStore (x.getD (j : Int).toNat default) = 2 + wSum cItem ((x.getD (j : Int).toNat default).2.1) := rfl
  refine ok_kcs (k := 0) (cs' := mid ((mkL mkStore cStore (x.take j) k).flatMap eStore) [.str ((x.getD (j : Int).toNat default).1), itemsD ((x.getD (j : Int).toNat default).2.1), .int .i64 ((x.getD (j : Int).toNat default).2.2)] ((x.drop (j + 1)).flatMap eStore)) rfl (mk_open hj) ?_
  iterate 8 refine z ?_
  refine zC Tryz.call63 ?_ (hf := ok_laws_markText (by omega))
  refine yO rfl rfl (pu_indexK (i := j) hT rfl rfl rfl (ev_tmp rfl) rfl (ev_tmp rfl) rfl (by show _ < (x.length); omega)) rfl ?_
  refine z ?_
  refine o_storeE (js := []) (cs := mid ((mkL mkStore cStore (x.take j) k).flatMap eStore) [.str (mText (k + (wSum cStore (x.take j) : Int))), itemsD ((x.getD (j : Int).toNat default).2.1), .int .i64 ((x.getD (j : Int).toNat default).2.2)] ((x.drop (j + 1)).flatMap eStore)) hT rfl rfl rfl rfl (ev_tmp rfl) (ev_tmp rfl) rfl rfl rfl rfl (ow_cons' (ow_dv rfl) ow_nil rfl) (by decide) (by decide) rfl (le_mid (off := (j * 3 + 0)) (n := 1) (j := 0) (mk_pre (sz := 3) (fun _ => rfl) (Nat.le_of_lt hj)) (by omega) (Nat.le_of_ble_eq_true rfl)) (setR_mid (off := (j * 3 + 0)) (j := 0) (mk_pre (sz := 3) (fun _ => rfl) (Nat.le_of_lt hj)) (by omega) rfl (Nat.le_of_ble_eq_true rfl)) ?_
  simp only [killT, killB, SV.kill, CV.kill, kk, Nat.reduceBEq]
  iterate 9 refine z ?_
  refine yO rfl rfl (pu_indexK (i := j) hT rfl rfl rfl (ev_tmp rfl) rfl (ev_tmp rfl) rfl (by show _ < (x.length); omega)) rfl ?_
  refine z ?_
  refine yO rfl rfl (pu_loadE1 hT rfl rfl (ev_tmp rfl) rfl (get_mid (off := (j * 3 + 1)) (j := 1) (mk_pre (sz := 3) (fun _ => rfl) (Nat.le_of_lt hj)) (by omega) rfl)) rfl ?_
  refine z ?_
  refine o_callN (t := 24) (ccs := mid ((mkL mkStore cStore (x.take j) k).flatMap eStore) [.str (mText (k + (wSum cStore (x.take j) : Int))), itemsD (mkL mkItem cItem ((x.getD (j : Int).toNat default).2.1) ((k + (wSum cStore (x.take j) : Int)) + (1))), .int .i64 ((x.getD (j : Int).toNat default).2.2)] ((x.drop (j + 1)).flatMap eStore)) 5026 rfl rfl rfl Tryz.call110 (ok_laws_markItemS (by omega) (by omega)) rfl rfl (get_mid (off := (j * 3 + 1)) (j := 1) (mk_pre (sz := 3) (fun _ => rfl) (Nat.le_of_lt hj)) (by omega) rfl) rfl (aw_cons (ev_tmp rfl) (aw_one (awc_key rfl)) (aw_cons (ev_tmp rfl) (aw_one (awc_dv rfl)) aw_nil)) rfl rfl (set_mid (off := (j * 3 + 1)) (j := 1) (mk_pre (sz := 3) (fun _ => rfl) (Nat.le_of_lt hj)) (by omega) rfl (Nat.lt_of_lt_of_le (Nat.lt_succ_self _) (Nat.le_of_ble_eq_true rfl))) ?_
  simp only [killT, killB, SV.kill, CV.kill, kk, Nat.reduceBEq]
  iterate 6 refine z ?_
  refine yO rfl rfl (pu_indexK (i := j) hT rfl rfl rfl (ev_tmp rfl) rfl (ev_tmp rfl) rfl (by show _ < (x.length); omega)) rfl ?_
  refine z ?_
  refine o_storeE (js := []) (cs := mid ((mkL mkStore cStore (x.take j) k).flatMap eStore) [.str (mText (k + (wSum cStore (x.take j) : Int))), itemsD (mkL mkItem cItem ((x.getD (j : Int).toNat default).2.1) ((k + (wSum cStore (x.take j) : Int)) + (1))), .int .i64 (((k + (wSum cStore (x.take j) : Int)) + (1)) + (wSum cItem ((x.getD (j : Int).toNat default).2.1) : Int))] ((x.drop (j + 1)).flatMap eStore)) hT rfl rfl rfl rfl (ev_tmp rfl) (ev_tmp rfl) rfl rfl rfl rfl (ow_cons' (ow_dv rfl) ow_nil rfl) (by decide) (by decide) rfl (le_mid (off := (j * 3 + 2)) (n := 1) (j := 2) (mk_pre (sz := 3) (fun _ => rfl) (Nat.le_of_lt hj)) (by omega) (Nat.le_of_ble_eq_true rfl)) (setR_mid (off := (j * 3 + 2)) (j := 2) (mk_pre (sz := 3) (fun _ => rfl) (Nat.le_of_lt hj)) (by omega) rfl (Nat.le_of_ble_eq_true rfl)) ?_
  simp only [killT, killB, SV.kill, CV.kill, kk, Nat.reduceBEq]
  refine z ?_
  refine ok_region ?_
  iterate 3 refine z ?_
  refine ops_nil ?_
  iterate 2 refine z ?_
  refine ok_region ?_
  iterate 4 refine z ?_
  refine ⟨j + 1, ?_, ?_, weak_sub ⟨rfl, (eqSlotI (by omega)), rfl, rfl, trivial⟩ trivial ⟨(congrArg (fun cs => some (some (KC.mk true 91 3 x.length cs))) (mk_close (by omega) (by rfl))), trivial⟩ rfl⟩
  ·omega
  ·omega
 ·skip
  have d1 := of_decide_eq_false c1
  iterate 9 refine z ?_
  refine ok_weak (σ' := ⟨[(4, .one (.dv [] (.int .i64 (k + (wSum cStore (x.take j) : Int)))))], [], [(0, some (kcOf true (storesD (mkL mkStore cStore x k))))]⟩) (weak_sub ⟨rfl, trivial⟩ trivial ⟨(mk_fin (by omega)), trivial⟩ rfl) ?_
  refine z ?_
  refine fin1 (res_tmp rfl) ⟨eqI ?_, w1_ok rfl⟩
  have hq := wSum_all cStore x j (by omega); omega
theorem ok_laws_heldStoreS {x y : List (StoreT)} {k : Int} (hy : y = mkL mkStore cStore x k) (h0 : 0 ≤ k) (h1 : k + (wSum cStore x : Int) ≤ 4611686018427387904) : PFn Tryz.prog 61 [.one (.dv [] (storesD (y))), .one (.dv [] (.int .i64 (k)))] (.one (.dv [] (.int .i64 (k + (wSum cStore x : Int))))) := by
 refine ⟨fn_intro Tryz.func61 rfl Tryz.ntmps61 Tryz.results61 rfl (fun C => ?_)⟩
 refine ok_fact (x := .tmp 0) (ev_tmp rfl) fun f0 => ?_
 refine ok_fact (x := .tmp 1) (ev_tmp rfl) fun f1 => ?_
 iterate 8 refine z ?_
 refine ok_loop (ι := Nat) (fun zz => ⟨[(0, .one (.dv [] (storesD (y)))), (1, .one (.dv [] (.int .i64 (k + (wSum cStore (x.take zz) : Int))))), (5, .one (.dv [] (.int .i64 ((zz : Int)))))], [], []⟩) (fun zz => zz ≤ x.length) (fun zz => x.length - zz) (0) ?_ (weak_sub ⟨rfl, (eqSlotI (by simp [wSum])), rfl, trivial⟩ trivial trivial rfl) (fun zz hx => ?_)
 ·exact Nat.zero_le _
 obtain ⟨j, rfl⟩ : ∃ v, v = zz := ⟨_, rfl⟩
 replace hx : j ≤ x.length := hx
 have hw := fun h => wSum_succ cStore x j h
 have hyl : y.length = x.length := by rw [hy, mkL_len]
 show Ok _ _ _ _ _ (⟨[(0, .one (.dv [] (storesD (y)))), (1, .one (.dv [] (.int .i64 (k + (wSum cStore (x.take j) : Int))))), (5, .one (.dv [] (.int .i64 ((j : Int)))))], [], []⟩ : St)
 iterate 7 refine z ?_
 refine yQ rfl (fun c1 => ?_) fun c1 => ?_
 ·skip
  have d1 := of_decide_eq_true c1
  have hj : j < x.length := by omega
  obtain ⟨hw1, hw2⟩ := hw hj
  have hc : cStore (x.getD (j : Int).toNat default) = 2 + wSum cItem ((x.getD (j : Int).toNat default).2.1) := rfl
  have he : y.getD (j : Int).toNat default = mkStore (x.getD (j : Int).toNat default) (k + (wSum cStore (x.take j) : Int)) := by rw [hy]; exact mkL_getD hj
  iterate 4 refine z ?_
  refine ok_seq ?_
  refine ok_seq ?_
  refine ok_regionD (oB := []) (oK := []) (by kernel_rfl) rfl rfl ?_
  refine zD 0 ?_
  refine zD 1 ?_
  refine zD 2 ?_
  refine zD 3 ?_
  refine zD 4 ?_
  refine zD 5 ?_
  refine d_call 6 rfl (by kernel_rfl) rfl rfl rfl Tryz.call63 (ok_laws_markText (by omega)) (as_cons (ev_tmp rfl) (ag_one ac_dv) as_nil) rfl rfl rfl rfl ?_
  refine zD 7 ?_
  refine d_done (by kernel_rfl) ?_
  refine z ?_
  refine yQ rfl (fun c2 => ?_) fun c2 => ?_
  ·skip
   iterate 11 refine z ?_
   exfalso; rw [he] at c2; simp [mkStore, sEq] at c2
  ·skip
   iterate 14 refine z ?_
   refine zC Tryz.call111 ?_ (hf := ok_laws_heldItemS (x := (x.getD (j : Int).toNat default).2.1) (by rw [he]; rfl) (by omega) (by omega))
   iterate 7 refine z ?_
   refine yQ rfl (fun c3 => ?_) fun c3 => ?_
   ·skip
    have d3 := of_decide_eq_true c3
    iterate 11 refine z ?_
    exfalso; omega
   ·skip
    have d3 := of_decide_eq_false c3
    iterate 12 refine z ?_
    refine yQ rfl (fun c4 => ?_) fun c4 => ?_
    ·skip
     have d4 := nd_t c4
     iterate 11 refine z ?_
     exfalso; rw [he] at c4; simp [mkStore, sEq] at c4
    ·skip
     have d4 := nd_f c4
     iterate 2 refine z ?_
     refine ok_region ?_
     iterate 3 refine z ?_
     refine ops_nil ?_
     iterate 2 refine z ?_
     refine ok_region ?_
     iterate 4 refine z ?_
     refine ⟨j + 1, ?_, ?_, weak_sub ⟨rfl, (eqSlotI (by omega)), rfl, trivial⟩ trivial trivial rfl⟩
     ·omega
     ·omega
 ·skip
  have d1 := of_decide_eq_false c1
  iterate 11 refine z ?_
  have hq := wSum_all cStore x j (by omega); omega
end Go.Proofs.YtmgijbhikmjfjaaGreat

namespace Go.Proofs.YtmgijbhikmjfjaaGreat
open Go.RowKit
open Go.Proofs
set_option linter.unusedVariables false
set_option linter.unusedSimpArgs false

def sgnI (a b : Int) : Int := if a < b then -1 else if b < a then 1 else 0
def cmpK (a b : KeyT) : Int := if !isKey a || !isKey b then 0 else if ¬ a.1 = b.1 then sgnI a.1 b.1 else if ¬ a.2.1 = b.2.1 then sgnI a.2.1 b.2.1 else sgnS a.2.2 b.2.2
def signB (a b : Bool) : Int := if a then -1 else if b then 1 else 0
theorem sgnI_zero {a b : Int} : sgnI a b = 0 ↔ a = b := by unfold sgnI; split <;> (try split) <;> omega
theorem cmpK_bad {a b : KeyT} (h : (!isKey a || !isKey b) = true) : cmpK a b = 0 := by rw [cmpK, if_pos h]
theorem cmpK_kind {a b : KeyT} (h : (!isKey a || !isKey b) = false) (h1 : ¬ a.1 = b.1) : cmpK a b = sgnI a.1 b.1 := by rw [cmpK, if_neg (by rw [h]; simp), if_pos h1]
theorem cmpK_num {a b : KeyT} (h : (!isKey a || !isKey b) = false) (h1 : a.1 = b.1) (h2 : ¬ a.2.1 = b.2.1) : cmpK a b = sgnI a.2.1 b.2.1 := by rw [cmpK, if_neg (by rw [h]; simp), if_neg (by simp [h1]), if_pos h2]
theorem cmpK_text {a b : KeyT} (h : (!isKey a || !isKey b) = false) (h1 : a.1 = b.1) (h2 : a.2.1 = b.2.1) : cmpK a b = sgnS a.2.2 b.2.2 := by rw [cmpK, if_neg (by rw [h]; simp), if_neg (by simp [h1]), if_neg (by simp [h2])]
theorem sLe_not (a b : Str) : (!(sLt a b || sEq a b)) = sLt b a := by rw [sLe_eq, Bool.not_not]
def inRg (k : KeyT) (r : RangeT) : Bool := !((!isKey k || (r.1 && !isKey r.2.2.1)) || (r.2.1 && !isKey r.2.2.2)) && ((!r.1 || decide (cmpK r.2.2.1 k ≤ 0)) && (!r.2.1 || decide (cmpK k r.2.2.2 ≤ 0)))
theorem sgnI_swap (a b : Int) : sgnI a b = - sgnI b a := by unfold sgnI; split <;> split <;> (try split) <;> omega
theorem sgnS_swap (a b : Str) : sgnS a b = - sgnS b a := by
 unfold sgnS
 cases h1 : sLt a b <;> cases h2 : sLt b a <;> simp
 have h := sLe_eq a b
 rw [h1, h2] at h
 simp at h
theorem cmpK_swap (a b : KeyT) : cmpK a b = - cmpK b a := by
 by_cases h : (!isKey a || !isKey b) = true
 ·rw [cmpK_bad h, cmpK_bad (by rw [Bool.or_comm]; exact h)]; rfl
 ·have h : (!isKey a || !isKey b) = false := by simpa using h
  have h' : (!isKey b || !isKey a) = false := by rw [Bool.or_comm]; exact h
  by_cases h1 : a.1 = b.1
  ·by_cases h2 : a.2.1 = b.2.1
   ·rw [cmpK_text h h1 h2, cmpK_text h' h1.symm h2.symm, sgnS_swap]
   ·rw [cmpK_num h h1 h2, cmpK_num h' h1.symm (fun e => h2 e.symm), sgnI_swap]
  ·rw [cmpK_kind h h1, cmpK_kind h' (fun e => h1 e.symm), sgnI_swap]
theorem ok_spec_l4Sign {x y : Bool}  : PFn Tryz.prog 151 [.one (.dv [] (.bool (x))), .one (.dv [] (.bool (y)))] (.one (.dv [] (.int .i64 (signB x y)))) := by
 refine ⟨fn_intro Tryz.func151 rfl Tryz.ntmps151 Tryz.results151 rfl (fun C => ?_)⟩
 iterate 7 refine z ?_
 refine yQ rfl (fun c1 => ?_) fun c1 => ?_
 ·skip
  iterate 6 refine z ?_
  rw [signB, if_pos c1]
 ·skip
  iterate 6 refine z ?_
  refine yQ rfl (fun c2 => ?_) fun c2 => ?_
  ·skip
   iterate 6 refine z ?_
   rw [signB, if_neg (by rw [c1]; simp), if_pos c2]
  ·skip
   iterate 7 refine z ?_
   rw [signB, if_neg (by rw [c1]; simp), if_neg (by rw [c2]; simp)]
theorem ok_impl_compareInts {x y : Int}  : PFn Tryz.prog 154 [.one (.dv [] (.int .i64 (x))), .one (.dv [] (.int .i64 (y)))] (.one (.dv [] (.int .i64 (sgnI x y)))) := by
 refine ⟨fn_intro Tryz.func154 rfl Tryz.ntmps154 Tryz.results154 rfl (fun C => ?_)⟩
 refine ok_fact (x := .tmp 0) (ev_tmp rfl) fun f0 => ?_
 refine ok_fact (x := .tmp 1) (ev_tmp rfl) fun f1 => ?_
 iterate 11 refine z ?_
 refine yQ rfl (fun c1 => ?_) fun c1 => ?_
 ·skip
  have d1 := of_decide_eq_true c1
  iterate 7 refine z ?_
  rw [sgnI, if_pos d1]
 ·skip
  have d1 := of_decide_eq_false c1
  iterate 6 refine z ?_
  refine yQ rfl (fun c2 => ?_) fun c2 => ?_
  ·skip
   have d2 := of_decide_eq_true c2
   iterate 7 refine z ?_
   rw [sgnI, if_neg d1, if_pos d2]
  ·skip
   have d2 := of_decide_eq_false c2
   iterate 8 refine z ?_
   rw [sgnI, if_neg d1, if_neg d2]
theorem ok_impl_CompareKeys {x y : KeyT}  : PFn Tryz.prog 133 [.agg [(.dv [] (.int .i64 (x.1))), (.dv [] (.int .i64 (x.2.1))), (.dv [] (.str (x.2.2)))], .agg [(.dv [] (.int .i64 (y.1))), (.dv [] (.int .i64 (y.2.1))), (.dv [] (.str (y.2.2)))]] (.one (.dv [] (.int .i64 (cmpK x y)))) := by
 refine ⟨fn_intro Tryz.func133 rfl Tryz.ntmps133 Tryz.results133 rfl (fun C => ?_)⟩
 refine yF 0 0 rfl rfl fun f0_0 => ?_
 refine yF 0 1 rfl rfl fun f0_1 => ?_
 refine yF 0 2 rfl rfl fun f0_2 => ?_
 refine yF 1 0 rfl rfl fun f1_0 => ?_
 refine yF 1 1 rfl rfl fun f1_1 => ?_
 refine yF 1 2 rfl rfl fun f1_2 => ?_
 iterate 8 refine z ?_
 refine zC Tryz.call99 ?_ (hf := ok_impl_IsKey)
 iterate 3 refine z ?_
 refine o_callG (gd_bool rfl rfl rfl rfl rfl) rfl rfl Tryz.call99 ok_impl_IsKey (fun hg => (as_cons (ev_opt rfl hg) (ag_agg (ag_cons ac_dv (ag_cons ac_dv (ag_cons ac_dv ag_nil)))) as_nil)) rfl rfl ?_
 iterate 3 refine z ?_
 refine yQ rfl (fun c1 => ?_) fun c1 => ?_
 ·skip
  iterate 6 refine z ?_
  rw [cmpK_bad c1]
 ·skip
  iterate 8 refine z ?_
  refine zC Tryz.call154 ?_ (hf := ok_impl_compareInts)
  iterate 6 refine z ?_
  refine yQ rfl (fun c2 => ?_) fun c2 => ?_
  ·skip
   have d2 := nd_t c2
   iterate 7 refine z ?_
   rw [cmpK_kind c1 (fun e => d2 (sgnI_zero.2 e))]
  ·skip
   have d2 := nd_f c2
   iterate 8 refine z ?_
   refine zC Tryz.call154 ?_ (hf := ok_impl_compareInts)
   iterate 6 refine z ?_
   refine yQ rfl (fun c3 => ?_) fun c3 => ?_
   ·skip
    have d3 := nd_t c3
    iterate 7 refine z ?_
    rw [cmpK_num c1 (sgnI_zero.1 d2) (fun e => d3 (sgnI_zero.2 e))]
   ·skip
    have d3 := nd_f c3
    iterate 7 refine z ?_
    refine zC Tryz.call155 ?_ (hf := ok_strings_Compare)
    iterate 4 refine z ?_
    rw [cmpK_text c1 (sgnI_zero.1 d2) (sgnI_zero.1 d3)]
theorem ok_spec_CompareKeys {x y : KeyT}  : PFn Tryz.prog 123 [.agg [(.dv [] (.int .i64 (x.1))), (.dv [] (.int .i64 (x.2.1))), (.dv [] (.str (x.2.2)))], .agg [(.dv [] (.int .i64 (y.1))), (.dv [] (.int .i64 (y.2.1))), (.dv [] (.str (y.2.2)))]] (.one (.dv [] (.int .i64 (cmpK x y)))) := by
 refine ⟨fn_intro Tryz.func123 rfl Tryz.ntmps123 Tryz.results123 rfl (fun C => ?_)⟩
 refine yF 0 0 rfl rfl fun f0_0 => ?_
 refine yF 0 1 rfl rfl fun f0_1 => ?_
 refine yF 0 2 rfl rfl fun f0_2 => ?_
 refine yF 1 0 rfl rfl fun f1_0 => ?_
 refine yF 1 1 rfl rfl fun f1_1 => ?_
 refine yF 1 2 rfl rfl fun f1_2 => ?_
 iterate 8 refine z ?_
 refine zC Tryz.call83 ?_ (hf := ok_spec_IsKey)
 iterate 3 refine z ?_
 refine o_callG (gd_bool rfl rfl rfl rfl rfl) rfl rfl Tryz.call83 ok_spec_IsKey (fun hg => (as_cons (ev_opt rfl hg) (ag_agg (ag_cons ac_dv (ag_cons ac_dv (ag_cons ac_dv ag_nil)))) as_nil)) rfl rfl ?_
 iterate 3 refine z ?_
 refine yQ rfl (fun c1 => ?_) fun c1 => ?_
 ·skip
  iterate 6 refine z ?_
  rw [cmpK_bad c1]
 ·skip
  iterate 10 refine z ?_
  refine yQ rfl (fun c2 => ?_) fun c2 => ?_
  ·skip
   have d2 := nd_t c2
   iterate 6 refine z ?_
   refine zC Tryz.call151 ?_ (hf := ok_spec_l4Sign)
   iterate 5 refine z ?_
   rw [cmpK_kind c1 d2]; unfold signB sgnI; split <;> split <;> simp_all <;> omega
  ·skip
   have d2 := nd_f c2
   iterate 10 refine z ?_
   refine yQ rfl (fun c3 => ?_) fun c3 => ?_
   ·skip
    have d3 := nd_t c3
    iterate 6 refine z ?_
    refine zC Tryz.call151 ?_ (hf := ok_spec_l4Sign)
    iterate 5 refine z ?_
    rw [cmpK_num c1 d2 d3]; unfold signB sgnI; split <;> split <;> simp_all <;> omega
   ·skip
    have d3 := nd_f c3
    iterate 13 refine z ?_
    refine zC Tryz.call151 ?_ (hf := ok_spec_l4Sign)
    iterate 4 refine z ?_
    rw [cmpK_text c1 d2 d3, sLe_not]; unfold signB sgnS; rfl
theorem ok_impl_InRangeOf {x : KeyT} {y : RangeT}  : PFn Tryz.prog 143 [.agg [(.dv [] (.int .i64 (x.1))), (.dv [] (.int .i64 (x.2.1))), (.dv [] (.str (x.2.2)))], .agg [(.dv [] (.bool (y.1))), (.dv [] (.bool (y.2.1))), (.dv [] (.int .i64 (y.2.2.1.1))), (.dv [] (.int .i64 (y.2.2.1.2.1))), (.dv [] (.str (y.2.2.1.2.2))), (.dv [] (.int .i64 (y.2.2.2.1))), (.dv [] (.int .i64 (y.2.2.2.2.1))), (.dv [] (.str (y.2.2.2.2.2)))]] (.one (.dv [] (.bool (inRg x y)))) := by
 refine ⟨fn_intro Tryz.func143 rfl Tryz.ntmps143 Tryz.results143 rfl (fun C => ?_)⟩
 refine yF 0 0 rfl rfl fun f0_0 => ?_
 refine yF 0 1 rfl rfl fun f0_1 => ?_
 refine yF 0 2 rfl rfl fun f0_2 => ?_
 refine yF 1 2 rfl rfl fun f1_2 => ?_
 refine yF 1 3 rfl rfl fun f1_3 => ?_
 refine yF 1 4 rfl rfl fun f1_4 => ?_
 refine yF 1 5 rfl rfl fun f1_5 => ?_
 refine yF 1 6 rfl rfl fun f1_6 => ?_
 refine yF 1 7 rfl rfl fun f1_7 => ?_
 iterate 8 refine z ?_
 refine zC Tryz.call99 ?_ (hf := ok_impl_IsKey)
 iterate 7 refine z ?_
 refine o_callG (gd_opt rfl rfl rfl rfl rfl) rfl rfl Tryz.call99 ok_impl_IsKey (fun hg => (as_cons (ev_opt rfl hg) (ag_agg (ag_cons ac_dv (ag_cons ac_dv (ag_cons ac_dv ag_nil)))) as_nil)) rfl rfl ?_
 iterate 9 refine z ?_
 refine o_callG (gd_opt rfl rfl rfl rfl rfl) rfl rfl Tryz.call99 ok_impl_IsKey (fun hg => (as_cons (ev_opt rfl hg) (ag_agg (ag_cons ac_dv (ag_cons ac_dv (ag_cons ac_dv ag_nil)))) as_nil)) rfl rfl ?_
 iterate 4 refine z ?_
 refine yQ rfl (fun c1 => ?_) fun c1 => ?_
 ·skip
  iterate 6 refine z ?_
  unfold inRg; rw [c1]; rfl
 ·skip
  iterate 9 refine z ?_
  refine o_callG (gd_bool rfl rfl rfl rfl rfl) rfl rfl Tryz.call133 ok_impl_CompareKeys (fun hg => (as_cons (ev_opt rfl hg) (ag_agg (ag_cons ac_dv (ag_cons ac_dv (ag_cons ac_dv ag_nil)))) (as_cons (ev_opt rfl hg) (ag_agg (ag_cons ac_dv (ag_cons ac_dv (ag_cons ac_dv ag_nil)))) as_nil))) rfl rfl ?_
  iterate 10 refine z ?_
  refine o_callG (gd_opt rfl rfl rfl rfl rfl) rfl rfl Tryz.call133 ok_impl_CompareKeys (fun hg => (as_cons (ev_opt rfl hg) (ag_agg (ag_cons ac_dv (ag_cons ac_dv (ag_cons ac_dv ag_nil)))) (as_cons (ev_opt rfl hg) (ag_agg (ag_cons ac_dv (ag_cons ac_dv (ag_cons ac_dv ag_nil)))) as_nil))) rfl rfl ?_
  iterate 8 refine z ?_
  have h1 := cmpK_swap x y.2.2.1; have h2 := cmpK_swap x y.2.2.2; unfold inRg; rw [c1]; cases y.1 <;> cases y.2.1 <;> simp <;> grind
theorem ok_spec_InRangeOf {x : KeyT} {y : RangeT}  : PFn Tryz.prog 128 [.agg [(.dv [] (.int .i64 (x.1))), (.dv [] (.int .i64 (x.2.1))), (.dv [] (.str (x.2.2)))], .agg [(.dv [] (.bool (y.1))), (.dv [] (.bool (y.2.1))), (.dv [] (.int .i64 (y.2.2.1.1))), (.dv [] (.int .i64 (y.2.2.1.2.1))), (.dv [] (.str (y.2.2.1.2.2))), (.dv [] (.int .i64 (y.2.2.2.1))), (.dv [] (.int .i64 (y.2.2.2.2.1))), (.dv [] (.str (y.2.2.2.2.2)))]] (.one (.dv [] (.bool (inRg x y)))) := by
 refine ⟨fn_intro Tryz.func128 rfl Tryz.ntmps128 Tryz.results128 rfl (fun C => ?_)⟩
 refine yF 0 0 rfl rfl fun f0_0 => ?_
 refine yF 0 1 rfl rfl fun f0_1 => ?_
 refine yF 0 2 rfl rfl fun f0_2 => ?_
 refine yF 1 2 rfl rfl fun f1_2 => ?_
 refine yF 1 3 rfl rfl fun f1_3 => ?_
 refine yF 1 4 rfl rfl fun f1_4 => ?_
 refine yF 1 5 rfl rfl fun f1_5 => ?_
 refine yF 1 6 rfl rfl fun f1_6 => ?_
 refine yF 1 7 rfl rfl fun f1_7 => ?_
 iterate 8 refine z ?_
 refine zC Tryz.call83 ?_ (hf := ok_spec_IsKey)
 iterate 7 refine z ?_
 refine o_callG (gd_opt rfl rfl rfl rfl rfl) rfl rfl Tryz.call83 ok_spec_IsKey (fun hg => (as_cons (ev_opt rfl hg) (ag_agg (ag_cons ac_dv (ag_cons ac_dv (ag_cons ac_dv ag_nil)))) as_nil)) rfl rfl ?_
 iterate 9 refine z ?_
 refine o_callG (gd_opt rfl rfl rfl rfl rfl) rfl rfl Tryz.call83 ok_spec_IsKey (fun hg => (as_cons (ev_opt rfl hg) (ag_agg (ag_cons ac_dv (ag_cons ac_dv (ag_cons ac_dv ag_nil)))) as_nil)) rfl rfl ?_
 iterate 4 refine z ?_
 refine yQ rfl (fun c1 => ?_) fun c1 => ?_
 ·skip
  iterate 6 refine z ?_
  unfold inRg; rw [c1]; rfl
 ·skip
  iterate 10 refine z ?_
  refine o_callG (gd_bool rfl rfl rfl rfl rfl) rfl rfl Tryz.call123 ok_spec_CompareKeys (fun hg => (as_cons (ev_opt rfl hg) (ag_agg (ag_cons ac_dv (ag_cons ac_dv (ag_cons ac_dv ag_nil)))) (as_cons (ev_opt rfl hg) (ag_agg (ag_cons ac_dv (ag_cons ac_dv (ag_cons ac_dv ag_nil)))) as_nil))) rfl rfl ?_
  iterate 10 refine z ?_
  refine o_callG (gd_opt rfl rfl rfl rfl rfl) rfl rfl Tryz.call123 ok_spec_CompareKeys (fun hg => (as_cons (ev_opt rfl hg) (ag_agg (ag_cons ac_dv (ag_cons ac_dv (ag_cons ac_dv ag_nil)))) (as_cons (ev_opt rfl hg) (ag_agg (ag_cons ac_dv (ag_cons ac_dv (ag_cons ac_dv ag_nil)))) as_nil))) rfl rfl ?_
  iterate 7 refine z ?_
  have h1 := cmpK_swap x y.2.2.1; have h2 := cmpK_swap x y.2.2.2; unfold inRg; rw [c1]; cases y.1 <;> cases y.2.1 <;> simp <;> grind
end Go.Proofs.YtmgijbhikmjfjaaGreat

namespace Go.Proofs.YtmgijbhikmjfjaaGreat
open Go.RowKit
open Go.Proofs
set_option linter.unusedVariables false
set_option linter.unusedSimpArgs false

def bef (f : Str) (a b : ItemT) : Bool := decide ((getF a.2 f).1 < (getF b.2 f).1) || (decide ((getF a.2 f).1 = (getF b.2 f).1) && decide (cmpK a.1 b.1 < 0))
def posD (f : Str) (x : ItemT) (o : List ItemT) : Nat → Nat
 | 0 => 0
 | k + 1 => if bef f x (o.getD k default) then posD f x o k else k + 1
def insI (o : List ItemT) (j : Nat) (y : ItemT) : List ItemT := o.take j ++ [y] ++ o.drop j
def idxN (f : Str) (its : List ItemT) : Nat → List ItemT
 | 0 => []
 | k + 1 => if (getF (its.getD (k : Int).toNat default).2 f).2 then insI (idxN f its k) (posD f (its.getD (k : Int).toNat default) (idxN f its k) (idxN f its k).length) (its.getD (k : Int).toNat default) else idxN f its k
theorem insI_len {o : List ItemT} {j : Nat} {y : ItemT} : (insI o j y).length = o.length + 1 := by simp only [insI, List.length_append, List.length_take, List.length_drop, List.length_singleton]; omega
theorem idxN_len (f : Str) (its : List ItemT) : ∀ k, (idxN f its k).length ≤ k
 | 0 => Nat.le_refl _
 | k + 1 => by have := idxN_len f its k; rw [idxN]; split <;> (try rw [insI_len]) <;> omega
theorem idxN_yes {f : Str} {its : List ItemT} {k : Nat} (h : (getF (its.getD (k : Int).toNat default).2 f).2 = true) : idxN f its (k + 1) = insI (idxN f its k) (posD f (its.getD (k : Int).toNat default) (idxN f its k) (idxN f its k).length) (its.getD (k : Int).toNat default) := by rw [idxN, if_pos h]
theorem idxN_no {f : Str} {its : List ItemT} {k : Nat} (h : (getF (its.getD (k : Int).toNat default).2 f).2 = false) : idxN f its k = idxN f its (k + 1) := by rw [idxN, if_neg (by rw [h]; simp)]
theorem posD_step {f : Str} {x : ItemT} {o : List ItemT} {j : Nat} (h : (decide (0 < (j : Int)) && bef f x (o.getD ((j : Int) - 1).toNat default)) = true) : 0 < j ∧ posD f x o j = posD f x o (j - 1) := by
 obtain ⟨h1, h2⟩ := (Bool.and_eq_true _ _ ▸ h : _ ∧ _)
 have h1 := of_decide_eq_true h1
 cases j with
 | zero => simp at h1
 | succ k =>
  have e : (((k + 1 : Nat) : Int) - 1).toNat = k := by omega
  rw [e] at h2
  exact ⟨by omega, by rw [posD, if_pos h2]; rfl⟩
theorem posD_stop {f : Str} {x : ItemT} {o : List ItemT} {j : Nat} (h : (decide (0 < (j : Int)) && bef f x (o.getD ((j : Int) - 1).toNat default)) = false) : posD f x o j = j := by
 cases j with
 | zero => rfl
 | succ k =>
  have e : (((k + 1 : Nat) : Int) - 1).toNat = k := by omega
  rw [e, decide_eq_true (by omega : (0 : Int) < ((k + 1 : Nat) : Int)), Bool.true_and] at h
  rw [posD, if_neg (by rw [h]; simp)]
theorem take_flat {α : Type} {enc : α → List DV} {sz : Nat} (hs : ∀ x, (enc x).length = sz) : ∀ (n : Nat) (xs : List α), (xs.flatMap enc).take (n * sz) = (xs.take n).flatMap enc ∧ (xs.flatMap enc).drop (n * sz) = (xs.drop n).flatMap enc
 | 0, xs => by simp
 | n + 1, [] => by simp
 | n + 1, x :: xs => by
  obtain ⟨h1, h2⟩ := take_flat hs n xs
  rw [List.flatMap_cons, Nat.add_mul, Nat.one_mul, Nat.add_comm (n * sz) sz, ← hs x, List.take_length_add_append, List.take_succ_cons, List.flatMap_cons, hs x, h1, List.drop_succ_cons, ← h2]
  exact ⟨rfl, by rw [← hs x, List.drop_length_add_append]⟩
theorem insL_items {o : List ItemT} {j : Nat} {y : ItemT} : insL (o.flatMap eItem) (((j : Nat) : Int).toNat * 4) (eItem y) = (insI o j y).flatMap eItem := by
 obtain ⟨h1, h2⟩ := take_flat (enc := eItem) (sz := 4) (fun _ => rfl) j o
 rw [insL, Int.toNat_natCast, h1, h2, insI, List.flatMap_append, List.flatMap_append, List.flatMap_cons, List.flatMap_nil, List.append_nil]
theorem sub_lo {o : List ItemT} {j : Nat} : ([] : List DV) ++ sub (0 * 4) ((((j : Nat) : Int).toNat - 0) * 4) (o.flatMap eItem) = (o.take j).flatMap eItem := by
 obtain ⟨h1, h2⟩ := take_flat (enc := eItem) (sz := 4) (fun _ => rfl) j o
 rw [Int.toNat_natCast, Nat.sub_zero, Nat.zero_mul, sub, List.drop_zero, List.nil_append, h1]
theorem holed_lo {o : List ItemT} {j : Nat} : holed (o.flatMap eItem) (0 * 4) ((((j : Nat) : Int).toNat - 0) * 4) = List.replicate (j * 4) .hole ++ (o.drop j).flatMap eItem := by
 obtain ⟨h1, h2⟩ := take_flat (enc := eItem) (sz := 4) (fun _ => rfl) j o
 rw [Int.toNat_natCast, Nat.sub_zero, Nat.zero_mul, holed, List.drop_zero, h2]; rfl
theorem sub_hi {o : List ItemT} {j : Nat} {el : ItemT} (hj : j ≤ o.length) : (o.take j ++ [el]).flatMap eItem ++ sub (((j : Nat) : Int).toNat * 4) ((o.length - ((j : Nat) : Int).toNat) * 4) (List.replicate (j * 4) .hole ++ (o.drop j).flatMap eItem) = (insI o j el).flatMap eItem := by
 have hl : ((o.drop j).flatMap eItem).length = (o.length - j) * 4 := by
  have : ∀ l : List ItemT, (l.flatMap eItem).length = l.length * 4 := fun l => by
   induction l with
   | nil => rfl
   | cons x l ih => rw [List.flatMap_cons, List.length_append, ih, List.length_cons]; show 4 + l.length * 4 = (l.length + 1) * 4; omega
  rw [this, List.length_drop]
 have e : (List.replicate (j * 4) DV.hole ++ (o.drop j).flatMap eItem).drop (j * 4) = (o.drop j).flatMap eItem := by
  have h := List.drop_left (l₁ := List.replicate (j * 4) DV.hole) (l₂ := (o.drop j).flatMap eItem)
  rwa [List.length_replicate] at h
 rw [Int.toNat_natCast, sub, e, List.take_of_length_le (l := (o.drop j).flatMap eItem) (by rw [hl]; exact Nat.le_refl _)]
 simp only [insI, List.flatMap_append]

theorem ok_impl_fieldBefore {x y : ItemT} {f : Str}  : PFn Tryz.prog 156 [.agg [(.dv [] (.int .i64 (x.1.1))), (.dv [] (.int .i64 (x.1.2.1))), (.dv [] (.str (x.1.2.2))), (.dv [] (fieldsD (x.2)))], .agg [(.dv [] (.int .i64 (y.1.1))), (.dv [] (.int .i64 (y.1.2.1))), (.dv [] (.str (y.1.2.2))), (.dv [] (fieldsD (y.2)))], .one (.dv [] (.str (f)))] (.one (.dv [] (.bool (bef f x y)))) := by
 refine ⟨fn_intro Tryz.func156 rfl Tryz.ntmps156 Tryz.results156 rfl (fun C => ?_)⟩
 refine yF 0 0 rfl rfl fun f0_0 => ?_
 refine yF 0 1 rfl rfl fun f0_1 => ?_
 refine yF 0 2 rfl rfl fun f0_2 => ?_
 refine yF 0 3 rfl rfl fun f0_3 => ?_
 refine yF 1 0 rfl rfl fun f1_0 => ?_
 refine yF 1 1 rfl rfl fun f1_1 => ?_
 refine yF 1 2 rfl rfl fun f1_2 => ?_
 refine yF 1 3 rfl rfl fun f1_3 => ?_
 refine ok_fact (x := .tmp 2) (ev_tmp rfl) fun f2 => ?_
 iterate 9 refine z ?_
 refine zC Tryz.call105 ?_ (hf := ok_impl_GetField)
 iterate 10 refine z ?_
 refine zC Tryz.call105 ?_ (hf := ok_impl_GetField)
 iterate 19 refine z ?_
 refine o_callG (gd_opt rfl rfl rfl rfl rfl) rfl rfl Tryz.call133 ok_impl_CompareKeys (fun hg => (as_cons (ev_opt rfl hg) (ag_agg (ag_cons ac_dv (ag_cons ac_dv (ag_cons ac_dv ag_nil)))) (as_cons (ev_opt rfl hg) (ag_agg (ag_cons ac_dv (ag_cons ac_dv (ag_cons ac_dv ag_nil)))) as_nil))) rfl rfl ?_
 iterate 7 refine z ?_
 unfold bef; grind
theorem ok_impl_IndexOn {x : StoreT} {f : Str} (hb : wStore x ≤ 1048576) : KFn Tryz.prog 135 [.agg [(.dv [] (.str (x.1))), (.dv [] (itemsD (x.2.1))), (.dv [] (.int .i64 (x.2.2)))], .one (.dv [] (.str (f)))] (.one (.key 11)) [(11, some (kcOf false (itemsD (idxN f x.2.1 x.2.1.length))))] := by
 refine ⟨fn_intro Tryz.func135 rfl Tryz.ntmps135 Tryz.results135 rfl (fun C => ?_)⟩
 refine yF 0 0 rfl rfl fun f0_0 => ?_
 refine yF 0 1 rfl rfl fun f0_1 => ?_
 refine yF 0 2 rfl rfl fun f0_2 => ?_
 refine ok_fact (x := .tmp 1) (ev_tmp rfl) fun f1 => ?_
 iterate 5 refine z ?_
 refine o_build0 (k := 11) hT rfl rfl rfl rfl rfl rfl rfl rfl ?_
 iterate 10 refine z ?_
 refine ok_loop (ι := Nat) (fun zz => ⟨[(1, .one (.dv [] (.str (f)))), (4, .one .nil), (5, .one (.key 11)), (13, .one (.dv [] (itemsD (x.2.1)))), (14, .one (.dv [] (.int .i64 ((((x.2.1)).length : Int))))), (15, .one (.dv [] (.int .i64 ((zz : Int)))))], [], [(11, some (kcOf false (.sl 141 4 ((idxN f x.2.1 zz).length) ((idxN f x.2.1 zz).flatMap eItem))))]⟩) (fun zz => zz ≤ x.2.1.length) (fun zz => x.2.1.length - zz) (0) ?_ (weak_sub ⟨rfl, rfl, rfl, rfl, rfl, rfl, trivial⟩ trivial ⟨rfl, trivial⟩ rfl) (fun zz hx => ?_)
 ·exact Nat.zero_le _
 obtain ⟨k, rfl⟩ : ∃ v, v = zz := ⟨_, rfl⟩
 replace hx : k ≤ x.2.1.length := hx
 have hw := fun h => wSum_succ wItem x.2.1 k h
 have hol := idxN_len f x.2.1 k
 show Ok _ _ _ _ _ (⟨[(1, .one (.dv [] (.str (f)))), (4, .one .nil), (5, .one (.key 11)), (13, .one (.dv [] (itemsD (x.2.1)))), (14, .one (.dv [] (.int .i64 ((((x.2.1)).length : Int))))), (15, .one (.dv [] (.int .i64 ((k : Int)))))], [], [(11, some (kcOf false (.sl 141 4 ((idxN f x.2.1 k).length) ((idxN f x.2.1 k).flatMap eItem))))]⟩ : St)
 iterate 3 refine z ?_
 refine ok_seq ?_
 refine yQ rfl (fun c1 => ?_) fun c1 => ?_
 ·skip
  have d1 := of_decide_eq_true c1
  have hk2 : k < x.2.1.length := by omega
  have hlen : x.2.1.length ≤ 1048576 := by have h3 : wStore x = x.1.size + (x.2.1.length + wSum wItem x.2.1) := rfl; omega
  have hrec : wItem (x.2.1.getD (k : Int).toNat default) ≤ 1099511627776 := by have := hw hk2; have h3 : wStore x = x.1.size + (x.2.1.length + wSum wItem x.2.1) := rfl; omega
  iterate 15 refine z ?_
  refine zC Tryz.call105 ?_ (hf := ok_impl_GetField)
  iterate 10 refine z ?_
  refine yQ rfl (fun c2 => ?_) fun c2 => ?_
  ·skip
   iterate 4 refine z ?_
   refine ok_region ?_
   iterate 3 refine z ?_
   refine ⟨k + 1, ?_, ?_, weak_sub ⟨rfl, rfl, rfl, rfl, rfl, rfl, trivial⟩ trivial ⟨(congrArg (fun l : List ItemT => some (some (KC.mk false 141 4 l.length (l.flatMap eItem)))) (idxN_no (by simpa using c2))), trivial⟩ rfl⟩
   ·omega
   ·omega
  ·skip
   iterate 4 refine z ?_
   refine yO rfl rfl (pu_lenKn (n := ((idxN f x.2.1 k).length)) hT rfl rfl (ev_tmp rfl) rfl rfl) rfl ?_
   iterate 4 refine z ?_
   refine ok_loop (ι := Nat) (fun zz => ⟨[(1, .one (.dv [] (.str (f)))), (4, .one .nil), (5, .one (.key 11)), (7, .box 7 0), (10, .one (.dv [] (.int .i64 ((zz : Int))))), (13, .one (.dv [] (itemsD (x.2.1)))), (14, .one (.dv [] (.int .i64 ((((x.2.1)).length : Int))))), (15, .one (.dv [] (.int .i64 ((k : Int)))))], [(7, 141, [(.dv [] (.int .i64 ((((x.2.1)).getD ((k : Int)).toNat default).1.1))), (.dv [] (.int .i64 ((((x.2.1)).getD ((k : Int)).toNat default).1.2.1))), (.dv [] (.str ((((x.2.1)).getD ((k : Int)).toNat default).1.2.2))), (.dv [] (fieldsD ((((x.2.1)).getD ((k : Int)).toNat default).2)))])], [(11, some (kcOf false (.sl 141 4 ((idxN f x.2.1 k).length) ((idxN f x.2.1 k).flatMap eItem))))]⟩) (fun zz => zz ≤ (idxN f x.2.1 k).length ∧ posD f (x.2.1.getD (k : Int).toNat default) (idxN f x.2.1 k) (idxN f x.2.1 k).length = posD f (x.2.1.getD (k : Int).toNat default) (idxN f x.2.1 k) zz) (fun zz => zz) ((idxN f x.2.1 k).length) ?_ (weak_sub ⟨rfl, rfl, rfl, rfl, rfl, rfl, rfl, rfl, trivial⟩ ⟨rfl, trivial⟩ ⟨rfl, trivial⟩ rfl) (fun zz hx => ?_)
   ·exact ⟨Nat.le_refl _, rfl⟩
   obtain ⟨j, rfl⟩ : ∃ v, v = zz := ⟨_, rfl⟩
   replace hx : j ≤ (idxN f x.2.1 k).length ∧ posD f (x.2.1.getD (k : Int).toNat default) (idxN f x.2.1 k) (idxN f x.2.1 k).length = posD f (x.2.1.getD (k : Int).toNat default) (idxN f x.2.1 k) j := hx
   obtain ⟨hj, hp⟩ := hx
   show Ok _ _ _ _ _ (⟨[(1, .one (.dv [] (.str (f)))), (4, .one .nil), (5, .one (.key 11)), (7, .box 7 0), (10, .one (.dv [] (.int .i64 ((j : Int))))), (13, .one (.dv [] (itemsD (x.2.1)))), (14, .one (.dv [] (.int .i64 ((((x.2.1)).length : Int))))), (15, .one (.dv [] (.int .i64 ((k : Int)))))], [(7, 141, [(.dv [] (.int .i64 ((((x.2.1)).getD ((k : Int)).toNat default).1.1))), (.dv [] (.int .i64 ((((x.2.1)).getD ((k : Int)).toNat default).1.2.1))), (.dv [] (.str ((((x.2.1)).getD ((k : Int)).toNat default).1.2.2))), (.dv [] (fieldsD ((((x.2.1)).getD ((k : Int)).toNat default).2)))])], [(11, some (kcOf false (.sl 141 4 ((idxN f x.2.1 k).length) ((idxN f x.2.1 k).flatMap eItem))))]⟩ : St)
   refine ok_seq ?_
   refine ok_seq ?_
   refine ok_regionD (oB := [7]) (oK := [11]) (by kernel_rfl) rfl rfl ?_
   refine zD 0 ?_
   refine zD 1 ?_
   refine zD 2 ?_
   refine zDG 3 ?_
   refine d_takeG 4 rfl (by kernel_rfl) (gd_bool rfl rfl rfl rfl rfl) rfl (fun hg => pu_move (v := .one (.dv [11] (itemsD (idxN f x.2.1 k)))) (.inl rfl) (ev_keyv' (ev_tmp rfl) rfl rfl)) rfl rfl rfl rfl ?_
   refine zDG 5 ?_
   refine zDG 6 ?_
   refine zDG 7 ?_
   refine zDG 8 ?_
   refine zDG 9 ?_
   refine d_callG 10 rfl (by kernel_rfl) (gd_bool rfl rfl rfl rfl rfl) rfl rfl Tryz.call156 ok_impl_fieldBefore (fun hg => (as_cons (ev_opt rfl hg) (ag_agg (ag_cons ac_dv (ag_cons ac_dv (ag_cons ac_dv (ag_cons ac_dv ag_nil))))) (as_cons (ev_opt rfl hg) (ag_agg (ag_cons ac_dv (ag_cons ac_dv (ag_cons ac_dv (ag_cons ac_dv ag_nil))))) (as_cons (ev_opt rfl hg) (ag_one ac_dv) as_nil)))) rfl rfl ?_
   refine zD 11 ?_
   refine d_done (by kernel_rfl) ?_
   refine z ?_
   refine yQ rfl (fun c3 => ?_) fun c3 => ?_
   ·skip
    have hst := posD_step c3
    have hst1 := hst.1
    iterate 3 refine z ?_
    refine ok_region ?_
    iterate 3 refine z ?_
    refine ops_nil ?_
    iterate 2 refine z ?_
    refine ⟨j - 1, ?_, ?_, weak_sub ⟨rfl, rfl, rfl, rfl, (congrArg (fun z : Int => some (SV.one (CV.dv [] (DV.int .i64 z)))) (show ((j : Int) - 1) = ((j - 1 : Nat) : Int) by omega)), rfl, rfl, rfl, trivial⟩ ⟨rfl, trivial⟩ ⟨rfl, trivial⟩ rfl⟩
    ·exact ⟨by omega, hp.trans hst.2⟩
    ·omega
   ·skip
    have hpos := hp.trans (posD_stop c3)
    iterate 5 refine z ?_
    refine ok_region ?_
    iterate 3 refine z ?_
    refine zK 47000 Tryz.call118 ?_ (hf := ok_impl_copyItem (by first | omega | exact Nat.le_trans (item_len _) hrec))
    refine o_build1 (k := 48) (js := [54003]) hT rfl rfl rfl rfl rfl rfl rfl rfl rfl (ev_tmp rfl) rfl rfl (ow_cons' (ow_dv rfl) (ow_cons' (ow_dv rfl) (ow_cons' (ow_dv rfl) (ow_cons' (ow_key rfl) ow_nil rfl) rfl) rfl) rfl) (by decide) (by decide) rfl rfl ?_
    simp only [killT, killB, SV.kill, CV.kill, kk, Nat.reduceBEq]
    refine o_insert (k := 11) (j := 48) (cs := (idxN f x.2.1 (k + 1)).flatMap eItem) (n := (idxN f x.2.1 (k + 1)).length) (insOk_Item rfl rfl (by decide)) rfl rfl Tryz.call140 rfl rfl (ev_tmp rfl) rfl rfl rfl (ev_tmp rfl) (by omega) (by dsimp only [kcOf]; omega) (ev_tmp rfl) rfl rfl rfl rfl (by decide) (by dsimp only [kcOf]; omega) (by dsimp only [kcOf]; omega) (by rw [idxN_yes (by simpa using c2), insI_len]) (by rw [idxN_yes (by simpa using c2), hpos]; exact insL_items) ?_
    simp only [killT, killB, SV.kill, CV.kill, kk, Nat.reduceBEq]
    refine z ?_
    refine ops_nil ?_
    iterate 2 refine z ?_
    refine ok_region ?_
    iterate 3 refine z ?_
    refine ⟨k + 1, ?_, ?_, weak_sub ⟨rfl, rfl, rfl, rfl, rfl, rfl, trivial⟩ trivial ⟨rfl, trivial⟩ rfl⟩
    ·omega
    ·omega
 ·skip
  have d1 := of_decide_eq_false c1
  iterate 9 refine z ?_
  refine ok_weak (σ' := ⟨[(4, .one (.key 11))], [], [(11, some (kcOf false (itemsD (idxN f x.2.1 x.2.1.length))))]⟩) (weak_sub ⟨rfl, trivial⟩ trivial ⟨(congrArg (fun m : Nat => some (some (KC.mk false 141 4 (idxN f x.2.1 m).length ((idxN f x.2.1 m).flatMap eItem)))) (show k = x.2.1.length by omega)), trivial⟩ rfl) ?_
  refine z ?_
  refine fin1 (res_tmp rfl) ?_
  exact ⟨rfl, rfl⟩
theorem ok_spec_l7Less {x y : ItemT} {f : Str}  : PFn Tryz.prog 152 [.agg [(.dv [] (.int .i64 (x.1.1))), (.dv [] (.int .i64 (x.1.2.1))), (.dv [] (.str (x.1.2.2))), (.dv [] (fieldsD (x.2)))], .agg [(.dv [] (.int .i64 (y.1.1))), (.dv [] (.int .i64 (y.1.2.1))), (.dv [] (.str (y.1.2.2))), (.dv [] (fieldsD (y.2)))], .one (.dv [] (.str (f)))] (.one (.dv [] (.bool (bef f x y)))) := by
 refine ⟨fn_intro Tryz.func152 rfl Tryz.ntmps152 Tryz.results152 rfl (fun C => ?_)⟩
 refine yF 0 0 rfl rfl fun f0_0 => ?_
 refine yF 0 1 rfl rfl fun f0_1 => ?_
 refine yF 0 2 rfl rfl fun f0_2 => ?_
 refine yF 0 3 rfl rfl fun f0_3 => ?_
 refine yF 1 0 rfl rfl fun f1_0 => ?_
 refine yF 1 1 rfl rfl fun f1_1 => ?_
 refine yF 1 2 rfl rfl fun f1_2 => ?_
 refine yF 1 3 rfl rfl fun f1_3 => ?_
 refine ok_fact (x := .tmp 2) (ev_tmp rfl) fun f2 => ?_
 iterate 9 refine z ?_
 refine zC Tryz.call125 ?_ (hf := ok_spec_GetField)
 iterate 10 refine z ?_
 refine zC Tryz.call125 ?_ (hf := ok_spec_GetField)
 iterate 19 refine z ?_
 refine o_callG (gd_opt rfl rfl rfl rfl rfl) rfl rfl Tryz.call123 ok_spec_CompareKeys (fun hg => (as_cons (ev_opt rfl hg) (ag_agg (ag_cons ac_dv (ag_cons ac_dv (ag_cons ac_dv ag_nil)))) (as_cons (ev_opt rfl hg) (ag_agg (ag_cons ac_dv (ag_cons ac_dv (ag_cons ac_dv ag_nil)))) as_nil))) rfl rfl ?_
 iterate 7 refine z ?_
 unfold bef; grind
theorem ok_spec_IndexOn {x : StoreT} {f : Str} (hb : wStore x ≤ 1048576) : KFn Tryz.prog 124 [.agg [(.dv [] (.str (x.1))), (.dv [] (itemsD (x.2.1))), (.dv [] (.int .i64 (x.2.2)))], .one (.dv [] (.str (f)))] (.one (.key 11)) [(11, some (kcOf false (itemsD (idxN f x.2.1 x.2.1.length))))] := by
 refine ⟨fn_intro Tryz.func124 rfl Tryz.ntmps124 Tryz.results124 rfl (fun C => ?_)⟩
 refine yF 0 0 rfl rfl fun f0_0 => ?_
 refine yF 0 1 rfl rfl fun f0_1 => ?_
 refine yF 0 2 rfl rfl fun f0_2 => ?_
 refine ok_fact (x := .tmp 1) (ev_tmp rfl) fun f1 => ?_
 iterate 5 refine z ?_
 refine o_build0 (k := 11) hT rfl rfl rfl rfl rfl rfl rfl rfl ?_
 iterate 7 refine z ?_
 refine ok_loop (ι := Nat) (fun zz => ⟨[(1, .one (.dv [] (.str (f)))), (2, .box 2 0), (4, .one .nil), (5, .one (.key 11)), (6, .one (.dv [] (.int .i64 ((zz : Int)))))], [(2, 91, [(.dv [] (.str (x.1))), (.dv [] (itemsD (x.2.1))), (.dv [] (.int .i64 (x.2.2)))])], [(11, some (kcOf false (.sl 141 4 ((idxN f x.2.1 zz).length) ((idxN f x.2.1 zz).flatMap eItem))))]⟩) (fun zz => zz ≤ x.2.1.length) (fun zz => x.2.1.length - zz) (0) ?_ (weak_sub ⟨rfl, rfl, rfl, rfl, rfl, trivial⟩ ⟨rfl, trivial⟩ ⟨rfl, trivial⟩ rfl) (fun zz hx => ?_)
 ·exact Nat.zero_le _
 obtain ⟨k, rfl⟩ : ∃ v, v = zz := ⟨_, rfl⟩
 replace hx : k ≤ x.2.1.length := hx
 have hw := fun h => wSum_succ wItem x.2.1 k h
 have hol := idxN_len f x.2.1 k
 show Ok _ _ _ _ _ (⟨[(1, .one (.dv [] (.str (f)))), (2, .box 2 0), (4, .one .nil), (5, .one (.key 11)), (6, .one (.dv [] (.int .i64 ((k : Int)))))], [(2, 91, [(.dv [] (.str (x.1))), (.dv [] (itemsD (x.2.1))), (.dv [] (.int .i64 (x.2.2)))])], [(11, some (kcOf false (.sl 141 4 ((idxN f x.2.1 k).length) ((idxN f x.2.1 k).flatMap eItem))))]⟩ : St)
 iterate 8 refine z ?_
 refine yQ rfl (fun c1 => ?_) fun c1 => ?_
 ·skip
  have d1 := of_decide_eq_true c1
  have hk2 : k < x.2.1.length := by omega
  have hlen : x.2.1.length ≤ 1048576 := by have h3 : wStore x = x.1.size + (x.2.1.length + wSum wItem x.2.1) := rfl; omega
  have hrec : wItem (x.2.1.getD (k : Int).toNat default) ≤ 1099511627776 := by have := hw hk2; have h3 : wStore x = x.1.size + (x.2.1.length + wSum wItem x.2.1) := rfl; omega
  iterate 13 refine z ?_
  refine zC Tryz.call125 ?_ (hf := ok_spec_GetField)
  iterate 10 refine z ?_
  refine yQ rfl (fun c2 => ?_) fun c2 => ?_
  ·skip
   iterate 4 refine z ?_
   refine ok_region ?_
   iterate 4 refine z ?_
   refine ⟨k + 1, ?_, ?_, weak_sub ⟨rfl, rfl, rfl, rfl, rfl, trivial⟩ ⟨rfl, trivial⟩ ⟨(congrArg (fun l : List ItemT => some (some (KC.mk false 141 4 l.length (l.flatMap eItem)))) (idxN_no (by simpa using c2))), trivial⟩ rfl⟩
   ·omega
   ·omega
  ·skip
   iterate 4 refine z ?_
   refine yO rfl rfl (pu_lenKn (n := ((idxN f x.2.1 k).length)) hT rfl rfl (ev_tmp rfl) rfl rfl) rfl ?_
   iterate 4 refine z ?_
   refine ok_loop (ι := Nat) (fun zz => ⟨[(1, .one (.dv [] (.str (f)))), (2, .box 2 0), (4, .one .nil), (5, .one (.key 11)), (6, .one (.dv [] (.int .i64 ((k : Int))))), (9, .one (.dv [] (.int .i64 ((zz : Int)))))], [(2, 91, [(.dv [] (.str (x.1))), (.dv [] (itemsD (x.2.1))), (.dv [] (.int .i64 (x.2.2)))])], [(11, some (kcOf false (.sl 141 4 ((idxN f x.2.1 k).length) ((idxN f x.2.1 k).flatMap eItem))))]⟩) (fun zz => zz ≤ (idxN f x.2.1 k).length ∧ posD f (x.2.1.getD (k : Int).toNat default) (idxN f x.2.1 k) (idxN f x.2.1 k).length = posD f (x.2.1.getD (k : Int).toNat default) (idxN f x.2.1 k) zz) (fun zz => zz) ((idxN f x.2.1 k).length) ?_ (weak_sub ⟨rfl, rfl, rfl, rfl, rfl, rfl, trivial⟩ ⟨rfl, trivial⟩ ⟨rfl, trivial⟩ rfl) (fun zz hx => ?_)
   ·exact ⟨Nat.le_refl _, rfl⟩
   obtain ⟨j, rfl⟩ : ∃ v, v = zz := ⟨_, rfl⟩
   replace hx : j ≤ (idxN f x.2.1 k).length ∧ posD f (x.2.1.getD (k : Int).toNat default) (idxN f x.2.1 k) (idxN f x.2.1 k).length = posD f (x.2.1.getD (k : Int).toNat default) (idxN f x.2.1 k) j := hx
   obtain ⟨hj, hp⟩ := hx
   show Ok _ _ _ _ _ (⟨[(1, .one (.dv [] (.str (f)))), (2, .box 2 0), (4, .one .nil), (5, .one (.key 11)), (6, .one (.dv [] (.int .i64 ((k : Int))))), (9, .one (.dv [] (.int .i64 ((j : Int)))))], [(2, 91, [(.dv [] (.str (x.1))), (.dv [] (itemsD (x.2.1))), (.dv [] (.int .i64 (x.2.2)))])], [(11, some (kcOf false (.sl 141 4 ((idxN f x.2.1 k).length) ((idxN f x.2.1 k).flatMap eItem))))]⟩ : St)
   refine ok_seq ?_
   refine ok_seq ?_
   refine ok_regionD (oB := [2]) (oK := [11]) (by kernel_rfl) rfl rfl ?_
   refine zD 0 ?_
   refine zD 1 ?_
   refine zD 2 ?_
   refine zDG 3 ?_
   refine zDG 4 ?_
   refine zDG 5 ?_
   refine zDG 6 ?_
   refine zDG 7 ?_
   refine d_takeG 8 rfl (by kernel_rfl) (gd_bool rfl rfl rfl rfl rfl) rfl (fun hg => pu_move (v := .one (.dv [11] (itemsD (idxN f x.2.1 k)))) (.inl rfl) (ev_keyv' (ev_tmp rfl) rfl rfl)) rfl rfl rfl rfl ?_
   refine zDG 9 ?_
   refine zDG 10 ?_
   refine zDG 11 ?_
   refine zDG 12 ?_
   refine zDG 13 ?_
   refine d_callG 14 rfl (by kernel_rfl) (gd_bool rfl rfl rfl rfl rfl) rfl rfl Tryz.call152 ok_spec_l7Less (fun hg => (as_cons (ev_opt rfl hg) (ag_agg (ag_cons ac_dv (ag_cons ac_dv (ag_cons ac_dv (ag_cons ac_dv ag_nil))))) (as_cons (ev_opt rfl hg) (ag_agg (ag_cons ac_dv (ag_cons ac_dv (ag_cons ac_dv (ag_cons ac_dv ag_nil))))) (as_cons (ev_opt rfl hg) (ag_one ac_dv) as_nil)))) rfl rfl ?_
   refine zD 15 ?_
   refine d_done (by kernel_rfl) ?_
   refine z ?_
   refine yQ rfl (fun c3 => ?_) fun c3 => ?_
   ·skip
    have hst := posD_step c3
    have hst1 := hst.1
    iterate 3 refine z ?_
    refine ok_region ?_
    iterate 3 refine z ?_
    refine ops_nil ?_
    iterate 2 refine z ?_
    refine ⟨j - 1, ?_, ?_, weak_sub ⟨rfl, rfl, rfl, rfl, rfl, (congrArg (fun z : Int => some (SV.one (CV.dv [] (DV.int .i64 z)))) (show ((j : Int) - 1) = ((j - 1 : Nat) : Int) by omega)), trivial⟩ ⟨rfl, trivial⟩ ⟨rfl, trivial⟩ rfl⟩
    ·exact ⟨by omega, hp.trans hst.2⟩
    ·omega
   ·skip
    have hpos := hp.trans (posD_stop c3)
    iterate 6 refine z ?_
    refine o_build0 (k := 52) hT rfl rfl rfl rfl rfl rfl rfl rfl ?_
    iterate 2 refine z ?_
    refine o_appSub (k := 52) (j := 11) (s := 5) (n := ((idxN f x.2.1 k).take j).length) (cs := ((idxN f x.2.1 k).take j).flatMap eItem) (c2s := List.replicate (j * 4) .hole ++ ((idxN f x.2.1 k).drop j).flatMap eItem) hT rfl rfl rfl (sl_h hT rfl rfl rfl (ev_tmp rfl) rfl (ev_tmp rfl) (by omega) (by dsimp only [kcOf]; omega)) rfl rfl rfl rfl rfl rfl rfl (ev_tmp rfl) rfl rfl rfl rfl rfl rfl (by decide) rfl rfl ⟨rfl, rfl⟩ (by omega) (by dsimp only [kcOf]; omega) (by dsimp only [kcOf]; omega) (by dsimp only [kcOf]; omega) (by rw [List.length_take, Nat.min_eq_left (by omega)]; simp) (sub_lo) (holed_lo) ?_
    simp only [killT, killB, SV.kill, CV.kill, kk, Nat.reduceBEq]
    iterate 9 refine z ?_
    refine zK 63000 Tryz.call122 ?_ (hf := ok_spec_l6Item (by first | omega | exact Nat.le_trans (item_len _) hrec))
    refine o_build1 (k := 64) (js := [70003]) hT rfl rfl rfl rfl rfl rfl rfl rfl rfl (ev_tmp rfl) rfl rfl (ow_cons' (ow_dv rfl) (ow_cons' (ow_dv rfl) (ow_cons' (ow_dv rfl) (ow_cons' (ow_key rfl) ow_nil rfl) rfl) rfl) rfl) (by decide) (by decide) rfl rfl ?_
    simp only [killT, killB, SV.kill, CV.kill, kk, Nat.reduceBEq]
    refine o_appK (k := 52) (j := 64) (cs := ((idxN f x.2.1 k).take j ++ [(x.2.1.getD (k : Int).toNat default)]).flatMap eItem) (n := ((idxN f x.2.1 k).take j ++ [(x.2.1.getD (k : Int).toNat default)]).length) hT rfl rfl rfl rfl rfl rfl rfl (ev_tmp rfl) rfl rfl rfl (ev_tmp rfl) rfl rfl (by decide) (by dsimp only [kcOf]; simp only [List.length_take]; omega) (by dsimp only [kcOf]; simp only [List.length_take]; omega) (by simp) (by rw [List.flatMap_append]; rfl) ?_
    simp only [killT, killB, SV.kill, CV.kill, kk, Nat.reduceBEq]
    iterate 2 refine z ?_
    refine ok_region ?_
    iterate 3 refine z ?_
    refine o_appSub (k := 52) (j := 11) (s := 5) (n := (idxN f x.2.1 (k + 1)).length) (cs := (idxN f x.2.1 (k + 1)).flatMap eItem) (c2s := _) hT rfl rfl rfl (sl_l hT rfl rfl rfl (ev_tmp rfl) rfl (ev_tmp rfl) (by omega) (by dsimp only [kcOf]; omega)) rfl rfl rfl rfl rfl rfl rfl (ev_tmp rfl) rfl rfl rfl rfl rfl rfl (by decide) rfl rfl ⟨rfl, rfl⟩ (by dsimp only [kcOf]; omega) (by dsimp only [kcOf]; omega) (by dsimp only [kcOf]; simp only [List.length_append, List.length_take, List.length_singleton]; omega) (by dsimp only [kcOf]; simp only [List.length_append, List.length_take, List.length_singleton]; omega) (by rw [idxN_yes (by simpa using c2), insI_len]; simp; omega) (by rw [idxN_yes (by simpa using c2), hpos]; exact sub_hi hj) (rfl) ?_
    simp only [killT, killB, SV.kill, CV.kill, kk, Nat.reduceBEq]
    refine z ?_
    refine ops_nil ?_
    iterate 2 refine z ?_
    refine ok_weak (weak_swap (s := 5) (k := 52) (k' := 11) rfl rfl rfl (by decide) rfl) ?_
    simp only [killT, killB, SV.kill, CV.kill, kk, Nat.reduceBEq]
    refine ok_region ?_
    iterate 4 refine z ?_
    refine ⟨k + 1, ?_, ?_, weak_sub ⟨rfl, rfl, rfl, rfl, rfl, trivial⟩ ⟨rfl, trivial⟩ ⟨rfl, trivial⟩ rfl⟩
    ·omega
    ·omega
 ·skip
  have d1 := of_decide_eq_false c1
  iterate 9 refine z ?_
  refine ok_weak (σ' := ⟨[(4, .one (.key 11))], [], [(11, some (kcOf false (itemsD (idxN f x.2.1 x.2.1.length))))]⟩) (weak_sub ⟨rfl, trivial⟩ trivial ⟨(congrArg (fun m : Nat => some (some (KC.mk false 141 4 (idxN f x.2.1 m).length ((idxN f x.2.1 m).flatMap eItem)))) (show k = x.2.1.length by omega)), trivial⟩ rfl) ?_
  refine z ?_
  refine fin1 (res_tmp rfl) ?_
  exact ⟨rfl, rfl⟩
end Go.Proofs.YtmgijbhikmjfjaaGreat

namespace Go.Proofs.YtmgijbhikmjfjaaGreat
open Go.RowKit
open Go.Proofs
set_option linter.unusedVariables false
set_option linter.unusedSimpArgs false

def sameF (f : Str) (l : List ItemT) (k : Nat) : Bool := decide ((getF (l.getD (k - 1) default).2 f).1 = (getF (l.getD k default).2 f).1)
def ufN (f : Str) (l : List ItemT) : Nat → Option Nat
 | 0 => none
 | k + 1 => (ufN f l k).or (if 1 ≤ k ∧ sameF f l k = true then some k else none)
def ufRes (f : Str) (l : List ItemT) : KeyT × KeyT × Bool := match ufN f l l.length with
 | some m => ((l.getD (m - 1) default).1, (l.getD m default).1, true)
 | none => ((0, 0, ByteArray.empty), (0, 0, ByteArray.empty), false)
theorem ufN_mono {f : Str} {l : List ItemT} {k m : Nat} (h : ufN f l k = some m) : ∀ d, ufN f l (k + d) = some m
 | 0 => h
 | d + 1 => by rw [← Nat.add_assoc, ufN, ufN_mono h d]; rfl
theorem uf_hit {f : Str} {l : List ItemT} {k : Nat} (h : ufN f l k = none) (h1 : 1 ≤ k) (hk : k < l.length) (hs : sameF f l k = true) : ufRes f l = ((l.getD (k - 1) default).1, (l.getD k default).1, true) := by
 have h2 : ufN f l (k + 1) = some k := by rw [ufN, h, if_pos ⟨h1, hs⟩]; rfl
 have h3 := ufN_mono h2 (l.length - (k + 1))
 rw [show k + 1 + (l.length - (k + 1)) = l.length by omega] at h3
 rw [ufRes, h3]
theorem uf_no {f : Str} {l : List ItemT} (h : ufN f l l.length = none) : ufRes f l = ((0, 0, ByteArray.empty), (0, 0, ByteArray.empty), false) := by rw [ufRes, h]
theorem uf_step {f : Str} {l : List ItemT} {k : Nat} (h : ufN f l k = none) (hs : sameF f l k = false) : ufN f l (k + 1) = none := by rw [ufN, h, if_neg (by rw [hs]; simp)]; rfl
theorem same_of {f : Str} {l : List ItemT} {k : Nat} (h1 : 1 ≤ k) : (getF (l.getD ((k : Int) - 1).toNat default).2 f).1 = (getF (l.getD (k : Int).toNat default).2 f).1 ↔ sameF f l k = true := by
 rw [show ((k : Int) - 1).toNat = k - 1 by omega, Int.toNat_natCast, sameF, decide_eq_true_iff]
theorem same_not {f : Str} {l : List ItemT} {k : Nat} (h1 : 1 ≤ k) (h : ¬ (getF (l.getD ((k : Int) - 1).toNat default).2 f).1 = (getF (l.getD (k : Int).toNat default).2 f).1) : sameF f l k = false := by
 rw [same_of h1] at h; simpa using h
theorem uf_end {f : Str} {l : List ItemT} {k : Nat} (hu : ufN f l k = none) (hk : k ≤ 1 ∨ k ≤ l.length) (h : ¬ (k : Int) < (l.length : Int)) : ufN f l l.length = none := by
 by_cases e : l.length = k
 ·rw [e]; exact hu
 ·have : l.length = 0 := by omega
  rw [this]; rfl

theorem ok_impl_UniqueFault {x : StoreT} {f : Str} (hb : wStore x ≤ 1048576) : PFn Tryz.prog 98 [.agg [(.dv [] (.str (x.1))), (.dv [] (itemsD (x.2.1))), (.dv [] (.int .i64 (x.2.2)))], .one (.dv [] (.str (f)))] (.tup [(true, [(.dv [] (.int .i64 ((ufRes f (idxN f x.2.1 x.2.1.length)).1.1))), (.dv [] (.int .i64 ((ufRes f (idxN f x.2.1 x.2.1.length)).1.2.1))), (.dv [] (.str ((ufRes f (idxN f x.2.1 x.2.1.length)).1.2.2)))]), (true, [(.dv [] (.int .i64 ((ufRes f (idxN f x.2.1 x.2.1.length)).2.1.1))), (.dv [] (.int .i64 ((ufRes f (idxN f x.2.1 x.2.1.length)).2.1.2.1))), (.dv [] (.str ((ufRes f (idxN f x.2.1 x.2.1.length)).2.1.2.2)))]), (false, [(.dv [] (.bool ((ufRes f (idxN f x.2.1 x.2.1.length)).2.2)))])]) := by
 refine ⟨fn_intro Tryz.func98 rfl Tryz.ntmps98 Tryz.results98 rfl (fun C => ?_)⟩
 refine yF 0 0 rfl rfl fun f0_0 => ?_
 refine yF 0 1 rfl rfl fun f0_1 => ?_
 refine yF 0 2 rfl rfl fun f0_2 => ?_
 refine ok_fact (x := .tmp 1) (ev_tmp rfl) fun f1 => ?_
 iterate 9 refine z ?_
 refine zK 0 Tryz.call135 ?_ (hf := ok_impl_IndexOn (by omega))
 iterate 7 refine z ?_
 refine ok_loop (ι := Nat) (fun zz => ⟨[(1, .one (.dv [] (.str (f)))), (4, .box 4 0), (5, .box 5 0), (7, .one (.key 11)), (8, .one (.dv [] (.int .i64 ((zz : Int)))))], [(4, 42, [(.dv [] (.int .i64 (0))), (.dv [] (.int .i64 (0))), (.dv [] (.str (ByteArray.empty)))]), (5, 42, [(.dv [] (.int .i64 (0))), (.dv [] (.int .i64 (0))), (.dv [] (.str (ByteArray.empty)))])], [(11, some (kcOf false (.sl 141 4 ((idxN f x.2.1 x.2.1.length).length) ((idxN f x.2.1 x.2.1.length).flatMap eItem))))]⟩) (fun zz => 1 ≤ zz ∧ (zz ≤ 1 ∨ zz ≤ (idxN f x.2.1 x.2.1.length).length) ∧ ufN f (idxN f x.2.1 x.2.1.length) zz = none) (fun zz => (idxN f x.2.1 x.2.1.length).length - zz) (1) ?_ (weak_sub ⟨rfl, rfl, rfl, rfl, rfl, trivial⟩ ⟨rfl, rfl, trivial⟩ ⟨rfl, trivial⟩ rfl) (fun zz hx => ?_)
 ·exact ⟨Nat.le_refl _, .inl (Nat.le_refl _), rfl⟩
 obtain ⟨k, rfl⟩ : ∃ v, v = zz := ⟨_, rfl⟩
 replace hx : 1 ≤ k ∧ (k ≤ 1 ∨ k ≤ (idxN f x.2.1 x.2.1.length).length) ∧ ufN f (idxN f x.2.1 x.2.1.length) k = none := hx
 obtain ⟨h1, hk, hu⟩ := hx
 have hlw := idxN_len f x.2.1 x.2.1.length
 have hlen : x.2.1.length ≤ 1048576 := by have h3 : wStore x = x.1.size + (x.2.1.length + wSum wItem x.2.1) := rfl; omega
 show Ok _ _ _ _ _ (⟨[(1, .one (.dv [] (.str (f)))), (4, .box 4 0), (5, .box 5 0), (7, .one (.key 11)), (8, .one (.dv [] (.int .i64 ((k : Int)))))], [(4, 42, [(.dv [] (.int .i64 (0))), (.dv [] (.int .i64 (0))), (.dv [] (.str (ByteArray.empty)))]), (5, 42, [(.dv [] (.int .i64 (0))), (.dv [] (.int .i64 (0))), (.dv [] (.str (ByteArray.empty)))])], [(11, some (kcOf false (.sl 141 4 ((idxN f x.2.1 x.2.1.length).length) ((idxN f x.2.1 x.2.1.length).flatMap eItem))))]⟩ : St)
 iterate 3 refine z ?_
 refine yO rfl rfl (pu_move (v := .one (.dv [11] (itemsD (idxN f x.2.1 x.2.1.length)))) (.inl rfl) (ev_keyv' (ev_tmp rfl) rfl rfl)) rfl ?_
 iterate 3 refine z ?_
 refine yQ rfl (fun c1 => ?_) fun c1 => ?_
 ·skip
  have d1 := of_decide_eq_true c1
  iterate 5 refine z ?_
  refine yO rfl rfl (pu_move (v := .one (.dv [11] (itemsD (idxN f x.2.1 x.2.1.length)))) (.inl rfl) (ev_keyv' (ev_tmp rfl) rfl rfl)) rfl ?_
  iterate 6 refine z ?_
  refine zC Tryz.call105 ?_ (hf := ok_impl_GetField)
  iterate 7 refine z ?_
  refine yO rfl rfl (pu_move (v := .one (.dv [11] (itemsD (idxN f x.2.1 x.2.1.length)))) (.inl rfl) (ev_keyv' (ev_tmp rfl) rfl rfl)) rfl ?_
  iterate 5 refine z ?_
  refine zC Tryz.call105 ?_ (hf := ok_impl_GetField)
  iterate 11 refine z ?_
  refine yQ rfl (fun c2 => ?_) fun c2 => ?_
  ·skip
   have d2 := of_decide_eq_true c2
   refine ok_seq ?_
   refine ok_regionW 4 (oB := [5]) (oK := [11]) (by kernel_rfl) rfl rfl ?_
   refine w_take 0 rfl (by kernel_rfl) rfl rfl (pu_move (v := .one (.dv [11] (itemsD (idxN f x.2.1 x.2.1.length)))) (.inl rfl) (ev_keyv' (ev_tmp rfl) rfl rfl)) rfl rfl rfl rfl rfl ?_
   refine w_take 1 rfl (by kernel_rfl) rfl rfl (pu_move (.inl rfl) (ev_tmp rfl)) rfl rfl rfl rfl rfl ?_
   refine w_take 2 rfl (by kernel_rfl) rfl rfl (pu_subR rfl (ev_tmp rfl) (ev_int (inR_lit rfl)) (inR64 (by omega) (by omega))) rfl rfl rfl rfl rfl ?_
   refine w_take 3 rfl (by kernel_rfl) rfl rfl (pu_indexD hT rfl rfl rfl (ev_tmp rfl) (ev_tmp rfl) (fun _ => rfl) (by omega) (by omega)) rfl rfl rfl rfl rfl ?_
   refine w_take 4 rfl (by kernel_rfl) rfl rfl (pu_fieldRef hT rfl rfl rfl (ev_tmp rfl)) rfl rfl rfl rfl rfl ?_
   refine w_take 5 rfl (by kernel_rfl) rfl rfl (pu_loadRefA hT rfl rfl (ev_tmp rfl) rfl) rfl rfl rfl rfl rfl ?_
   refine w_take 6 rfl (by kernel_rfl) rfl rfl (pu_move (v := .one (.dv [11] (itemsD (idxN f x.2.1 x.2.1.length)))) (.inl rfl) (ev_keyv' (ev_tmp rfl) rfl rfl)) rfl rfl rfl rfl rfl ?_
   refine w_take 7 rfl (by kernel_rfl) rfl rfl (pu_move (.inl rfl) (ev_tmp rfl)) rfl rfl rfl rfl rfl ?_
   refine w_take 8 rfl (by kernel_rfl) rfl rfl (pu_indexD hT rfl rfl rfl (ev_tmp rfl) (ev_tmp rfl) (fun _ => rfl) (by omega) (by omega)) rfl rfl rfl rfl rfl ?_
   refine w_take 9 rfl (by kernel_rfl) rfl rfl (pu_fieldRef hT rfl rfl rfl (ev_tmp rfl)) rfl rfl rfl rfl rfl ?_
   refine w_take 10 rfl (by kernel_rfl) rfl rfl (pu_loadRefA hT rfl rfl (ev_tmp rfl) rfl) rfl rfl rfl rfl rfl ?_
   refine w_store 11 rfl (by kernel_rfl) rfl hT rfl rfl rfl (ev_tmp rfl) (ev_tmp rfl) rfl rfl rfl rfl rfl rfl ?_
   refine w_chain [12, 13] rfl rfl (by kernel_rfl) ?_
   iterate 9 refine z ?_
   refine fin3 (res_cell hT rfl rfl rfl rfl) (res_cell hT rfl rfl rfl rfl) (res_tmp rfl) rfl rfl rfl ?_
   rw [uf_hit hu h1 (by omega) ((same_of h1).1 d2), show ((k : Int) - 1).toNat = k - 1 by omega] <;> rfl
  ·skip
   have d2 := of_decide_eq_false c2
   iterate 3 refine z ?_
   refine ok_region ?_
   iterate 4 refine z ?_
   refine ⟨k + 1, ?_, ?_, weak_sub ⟨rfl, rfl, rfl, rfl, rfl, trivial⟩ ⟨rfl, rfl, trivial⟩ ⟨rfl, trivial⟩ rfl⟩
   ·exact ⟨by omega, .inr (by omega), uf_step hu (same_not h1 d2)⟩
   ·omega
 ·skip
  have d1 := of_decide_eq_false c1
  iterate 6 refine z ?_
  refine yO rfl rfl (pu_build hT hB rfl rfl rfl bp_nil) rfl ?_
  refine yO rfl rfl (pu_build hT hB rfl rfl rfl bp_nil) rfl ?_
  iterate 5 refine z ?_
  refine fin3 (res_cell hT rfl rfl rfl rfl) (res_cell hT rfl rfl rfl rfl) (res_tmp rfl) rfl rfl rfl ?_
  rw [uf_no (uf_end hu hk d1)] <;> rfl
theorem ok_spec_UniqueFault {x : StoreT} {f : Str} (hb : wStore x ≤ 1048576) : PFn Tryz.prog 82 [.agg [(.dv [] (.str (x.1))), (.dv [] (itemsD (x.2.1))), (.dv [] (.int .i64 (x.2.2)))], .one (.dv [] (.str (f)))] (.tup [(true, [(.dv [] (.int .i64 ((ufRes f (idxN f x.2.1 x.2.1.length)).1.1))), (.dv [] (.int .i64 ((ufRes f (idxN f x.2.1 x.2.1.length)).1.2.1))), (.dv [] (.str ((ufRes f (idxN f x.2.1 x.2.1.length)).1.2.2)))]), (true, [(.dv [] (.int .i64 ((ufRes f (idxN f x.2.1 x.2.1.length)).2.1.1))), (.dv [] (.int .i64 ((ufRes f (idxN f x.2.1 x.2.1.length)).2.1.2.1))), (.dv [] (.str ((ufRes f (idxN f x.2.1 x.2.1.length)).2.1.2.2)))]), (false, [(.dv [] (.bool ((ufRes f (idxN f x.2.1 x.2.1.length)).2.2)))])]) := by
 refine ⟨fn_intro Tryz.func82 rfl Tryz.ntmps82 Tryz.results82 rfl (fun C => ?_)⟩
 refine yF 0 0 rfl rfl fun f0_0 => ?_
 refine yF 0 1 rfl rfl fun f0_1 => ?_
 refine yF 0 2 rfl rfl fun f0_2 => ?_
 refine ok_fact (x := .tmp 1) (ev_tmp rfl) fun f1 => ?_
 iterate 9 refine z ?_
 refine zK 0 Tryz.call124 ?_ (hf := ok_spec_IndexOn (by omega))
 iterate 7 refine z ?_
 refine ok_loop (ι := Nat) (fun zz => ⟨[(1, .one (.dv [] (.str (f)))), (4, .box 4 0), (5, .box 5 0), (7, .one (.key 11)), (8, .one (.dv [] (.int .i64 ((zz : Int)))))], [(4, 42, [(.dv [] (.int .i64 (0))), (.dv [] (.int .i64 (0))), (.dv [] (.str (ByteArray.empty)))]), (5, 42, [(.dv [] (.int .i64 (0))), (.dv [] (.int .i64 (0))), (.dv [] (.str (ByteArray.empty)))])], [(11, some (kcOf false (.sl 141 4 ((idxN f x.2.1 x.2.1.length).length) ((idxN f x.2.1 x.2.1.length).flatMap eItem))))]⟩) (fun zz => 1 ≤ zz ∧ (zz ≤ 1 ∨ zz ≤ (idxN f x.2.1 x.2.1.length).length) ∧ ufN f (idxN f x.2.1 x.2.1.length) zz = none) (fun zz => (idxN f x.2.1 x.2.1.length).length - zz) (1) ?_ (weak_sub ⟨rfl, rfl, rfl, rfl, rfl, trivial⟩ ⟨rfl, rfl, trivial⟩ ⟨rfl, trivial⟩ rfl) (fun zz hx => ?_)
 ·exact ⟨Nat.le_refl _, .inl (Nat.le_refl _), rfl⟩
 obtain ⟨k, rfl⟩ : ∃ v, v = zz := ⟨_, rfl⟩
 replace hx : 1 ≤ k ∧ (k ≤ 1 ∨ k ≤ (idxN f x.2.1 x.2.1.length).length) ∧ ufN f (idxN f x.2.1 x.2.1.length) k = none := hx
 obtain ⟨h1, hk, hu⟩ := hx
 have hlw := idxN_len f x.2.1 x.2.1.length
 have hlen : x.2.1.length ≤ 1048576 := by have h3 : wStore x = x.1.size + (x.2.1.length + wSum wItem x.2.1) := rfl; omega
 show Ok _ _ _ _ _ (⟨[(1, .one (.dv [] (.str (f)))), (4, .box 4 0), (5, .box 5 0), (7, .one (.key 11)), (8, .one (.dv [] (.int .i64 ((k : Int)))))], [(4, 42, [(.dv [] (.int .i64 (0))), (.dv [] (.int .i64 (0))), (.dv [] (.str (ByteArray.empty)))]), (5, 42, [(.dv [] (.int .i64 (0))), (.dv [] (.int .i64 (0))), (.dv [] (.str (ByteArray.empty)))])], [(11, some (kcOf false (.sl 141 4 ((idxN f x.2.1 x.2.1.length).length) ((idxN f x.2.1 x.2.1.length).flatMap eItem))))]⟩ : St)
 iterate 3 refine z ?_
 refine yO rfl rfl (pu_move (v := .one (.dv [11] (itemsD (idxN f x.2.1 x.2.1.length)))) (.inl rfl) (ev_keyv' (ev_tmp rfl) rfl rfl)) rfl ?_
 iterate 3 refine z ?_
 refine yQ rfl (fun c1 => ?_) fun c1 => ?_
 ·skip
  have d1 := of_decide_eq_true c1
  iterate 5 refine z ?_
  refine yO rfl rfl (pu_move (v := .one (.dv [11] (itemsD (idxN f x.2.1 x.2.1.length)))) (.inl rfl) (ev_keyv' (ev_tmp rfl) rfl rfl)) rfl ?_
  iterate 6 refine z ?_
  refine zC Tryz.call125 ?_ (hf := ok_spec_GetField)
  iterate 7 refine z ?_
  refine yO rfl rfl (pu_move (v := .one (.dv [11] (itemsD (idxN f x.2.1 x.2.1.length)))) (.inl rfl) (ev_keyv' (ev_tmp rfl) rfl rfl)) rfl ?_
  iterate 5 refine z ?_
  refine zC Tryz.call125 ?_ (hf := ok_spec_GetField)
  iterate 11 refine z ?_
  refine yQ rfl (fun c2 => ?_) fun c2 => ?_
  ·skip
   have d2 := of_decide_eq_true c2
   refine ok_seq ?_
   refine ok_regionW 4 (oB := [5]) (oK := [11]) (by kernel_rfl) rfl rfl ?_
   refine w_take 0 rfl (by kernel_rfl) rfl rfl (pu_move (v := .one (.dv [11] (itemsD (idxN f x.2.1 x.2.1.length)))) (.inl rfl) (ev_keyv' (ev_tmp rfl) rfl rfl)) rfl rfl rfl rfl rfl ?_
   refine w_take 1 rfl (by kernel_rfl) rfl rfl (pu_move (.inl rfl) (ev_tmp rfl)) rfl rfl rfl rfl rfl ?_
   refine w_take 2 rfl (by kernel_rfl) rfl rfl (pu_subR rfl (ev_tmp rfl) (ev_int (inR_lit rfl)) (inR64 (by omega) (by omega))) rfl rfl rfl rfl rfl ?_
   refine w_take 3 rfl (by kernel_rfl) rfl rfl (pu_indexD hT rfl rfl rfl (ev_tmp rfl) (ev_tmp rfl) (fun _ => rfl) (by omega) (by omega)) rfl rfl rfl rfl rfl ?_
   refine w_take 4 rfl (by kernel_rfl) rfl rfl (pu_fieldRef hT rfl rfl rfl (ev_tmp rfl)) rfl rfl rfl rfl rfl ?_
   refine w_take 5 rfl (by kernel_rfl) rfl rfl (pu_loadRefA hT rfl rfl (ev_tmp rfl) rfl) rfl rfl rfl rfl rfl ?_
   refine w_take 6 rfl (by kernel_rfl) rfl rfl (pu_move (v := .one (.dv [11] (itemsD (idxN f x.2.1 x.2.1.length)))) (.inl rfl) (ev_keyv' (ev_tmp rfl) rfl rfl)) rfl rfl rfl rfl rfl ?_
   refine w_take 7 rfl (by kernel_rfl) rfl rfl (pu_move (.inl rfl) (ev_tmp rfl)) rfl rfl rfl rfl rfl ?_
   refine w_take 8 rfl (by kernel_rfl) rfl rfl (pu_indexD hT rfl rfl rfl (ev_tmp rfl) (ev_tmp rfl) (fun _ => rfl) (by omega) (by omega)) rfl rfl rfl rfl rfl ?_
   refine w_take 9 rfl (by kernel_rfl) rfl rfl (pu_fieldRef hT rfl rfl rfl (ev_tmp rfl)) rfl rfl rfl rfl rfl ?_
   refine w_take 10 rfl (by kernel_rfl) rfl rfl (pu_loadRefA hT rfl rfl (ev_tmp rfl) rfl) rfl rfl rfl rfl rfl ?_
   refine w_store 11 rfl (by kernel_rfl) rfl hT rfl rfl rfl (ev_tmp rfl) (ev_tmp rfl) rfl rfl rfl rfl rfl rfl ?_
   refine w_chain [12, 13] rfl rfl (by kernel_rfl) ?_
   iterate 9 refine z ?_
   refine fin3 (res_cell hT rfl rfl rfl rfl) (res_cell hT rfl rfl rfl rfl) (res_tmp rfl) rfl rfl rfl ?_
   rw [uf_hit hu h1 (by omega) ((same_of h1).1 d2), show ((k : Int) - 1).toNat = k - 1 by omega] <;> rfl
  ·skip
   have d2 := of_decide_eq_false c2
   iterate 3 refine z ?_
   refine ok_region ?_
   iterate 4 refine z ?_
   refine ⟨k + 1, ?_, ?_, weak_sub ⟨rfl, rfl, rfl, rfl, rfl, trivial⟩ ⟨rfl, rfl, trivial⟩ ⟨rfl, trivial⟩ rfl⟩
   ·exact ⟨by omega, .inr (by omega), uf_step hu (same_not h1 d2)⟩
   ·omega
 ·skip
  have d1 := of_decide_eq_false c1
  iterate 6 refine z ?_
  refine yO rfl rfl (pu_build hT hB rfl rfl rfl bp_nil) rfl ?_
  refine yO rfl rfl (pu_build hT hB rfl rfl rfl bp_nil) rfl ?_
  iterate 5 refine z ?_
  refine fin3 (res_cell hT rfl rfl rfl rfl) (res_cell hT rfl rfl rfl rfl) (res_tmp rfl) rfl rfl rfl ?_
  rw [uf_no (uf_end hu hk d1)] <;> rfl
end Go.Proofs.YtmgijbhikmjfjaaGreat

namespace Go.Proofs.YtmgijbhikmjfjaaGreat
open Go.RowKit
open Go.Proofs
set_option linter.unusedVariables false
set_option linter.unusedSimpArgs false

def stoBad (s : StoreT) (i : Nat) : Bool := (!isKey (s.2.1.getD (i : Int).toNat default).1 || !isRec (s.2.1.getD (i : Int).toNat default).2) ||
 (decide ((0 : Int) < (i : Int)) && decide (0 ≤ cmpK (s.2.1.getD ((i : Int) - 1).toNat default).1 (s.2.1.getD (i : Int).toNat default).1))
def isSto (s : StoreT) : Bool := (List.range s.2.1.length).all (fun i => !stoBad s i) && (isName s.1 && decide ((s.2.1.length : Int) ≤ 16) && (decide ((0 : Int) ≤ s.2.2) && decide (s.2.2 ≤ 1000000)))
def kEq (a b : KeyT) : Bool := decide (a.1 = b.1) && (decide (a.2.1 = b.2.1) && sEq a.2.2 b.2.2)
def fndK (x : StoreT) (k : KeyT) : Int := findI (fun y : ItemT => kEq y.1 k) x.2.1 0
theorem take_cs1 {xs : List ItemT} {k : Nat} (hk : k < xs.length) : (xs.take k).flatMap eItem ++ eItem (xs.getD (k : Int).toNat default) = (xs.take (k + 1)).flatMap eItem ∧ (xs.take k).length + 1 = (xs.take (k + 1)).length := by
 have e : xs.getD (k : Int).toNat default = xs[k] := by simp [List.getD, List.getElem?_eq_getElem hk]
 rw [List.take_add_one, List.getElem?_eq_getElem hk, e]
 simp only [Option.toList_some, List.flatMap_append, List.flatMap_cons, List.flatMap_nil, List.append_nil, List.length_append, List.length_singleton]
 exact ⟨trivial, trivial⟩

theorem ok_impl_IsStore {s : StoreT}  : PFn Tryz.prog 96 [.agg [(.dv [] (.str (s.1))), (.dv [] (itemsD (s.2.1))), (.dv [] (.int .i64 (s.2.2)))]] (.one (.dv [] (.bool (isSto s)))) := by
 refine ⟨fn_intro Tryz.func96 rfl Tryz.ntmps96 Tryz.results96 rfl (fun C => ?_)⟩
 refine yF 0 0 rfl rfl fun f0_0 => ?_
 refine yF 0 1 rfl rfl fun f0_1 => ?_
 refine yF 0 2 rfl rfl fun f0_2 => ?_
 iterate 12 refine z ?_
 refine ok_loop (ι := Nat) (fun zz => ⟨[(1, .box 1 0), (6, .one (.dv [] (itemsD (s.2.1)))), (7, .one (.dv [] (.int .i64 ((((s.2.1)).length : Int))))), (8, .one (.dv [] (.int .i64 ((zz : Int)))))], [(1, 91, [(.dv [] (.str (s.1))), (.dv [] (itemsD (s.2.1))), (.dv [] (.int .i64 (s.2.2)))])], []⟩) (fun zz => zz ≤ s.2.1.length ∧ (List.range zz).all (fun i => !stoBad s i) = true) (fun zz => s.2.1.length - zz) (0) ?_ (weak_sub ⟨rfl, rfl, rfl, rfl, trivial⟩ ⟨rfl, trivial⟩ trivial rfl) (fun zz hx => ?_)
 ·exact ⟨Nat.zero_le _, rfl⟩
 obtain ⟨k, rfl⟩ : ∃ v, v = zz := ⟨_, rfl⟩
 replace hx : k ≤ s.2.1.length ∧ (List.range k).all (fun i => !stoBad s i) = true := hx
 obtain ⟨hk, hall⟩ := hx
 show Ok _ _ _ _ _ (⟨[(1, .box 1 0), (6, .one (.dv [] (itemsD (s.2.1)))), (7, .one (.dv [] (.int .i64 ((((s.2.1)).length : Int))))), (8, .one (.dv [] (.int .i64 ((k : Int)))))], [(1, 91, [(.dv [] (.str (s.1))), (.dv [] (itemsD (s.2.1))), (.dv [] (.int .i64 (s.2.2)))])], []⟩ : St)
 iterate 3 refine z ?_
 refine ok_seq ?_
 refine yQ rfl (fun c1 => ?_) fun c1 => ?_
 ·skip
  have d1 := of_decide_eq_true c1
  iterate 12 refine z ?_
  refine ok_seq ?_
  refine ok_regionD (oB := [1, 4]) (oK := []) (by kernel_rfl) rfl rfl ?_
  refine zD 0 ?_
  refine zD 1 ?_
  refine d_call 2 rfl (by kernel_rfl) rfl rfl rfl Tryz.call99 ok_impl_IsKey (as_cons (ev_tmp rfl) (ag_agg (ag_cons ac_dv (ag_cons ac_dv (ag_cons ac_dv ag_nil)))) as_nil) rfl rfl rfl rfl ?_
  refine zD 3 ?_
  refine zD 4 ?_
  refine zDG 5 ?_
  refine zDG 6 ?_
  refine d_callG 7 rfl (by kernel_rfl) (gd_bool rfl rfl rfl rfl rfl) rfl rfl Tryz.call100 ok_impl_IsRecord (fun hg => (as_cons (ev_opt rfl hg) (ag_agg (ag_cons ac_dv ag_nil)) as_nil)) rfl rfl ?_
  refine zDG 8 ?_
  refine zD 9 ?_
  refine zD 10 ?_
  refine zDG 11 ?_
  refine zDG 12 ?_
  refine zDG 13 ?_
  refine zDG 14 ?_
  refine zDG 15 ?_
  refine zDG 16 ?_
  refine zDG 17 ?_
  refine zDG 18 ?_
  refine zDG 19 ?_
  refine zDG 20 ?_
  refine zDG 21 ?_
  refine zDG 22 ?_
  refine d_callG 23 rfl (by kernel_rfl) (gd_opt rfl rfl rfl rfl rfl) rfl rfl Tryz.call133 ok_impl_CompareKeys (fun hg => (as_cons (ev_opt rfl hg) (ag_agg (ag_cons ac_dv (ag_cons ac_dv (ag_cons ac_dv ag_nil)))) (as_cons (ev_opt rfl hg) (ag_agg (ag_cons ac_dv (ag_cons ac_dv (ag_cons ac_dv ag_nil)))) as_nil))) rfl rfl ?_
  refine zDG 24 ?_
  refine zDG 25 ?_
  refine zD 26 ?_
  refine d_done (by kernel_rfl) ?_
  refine z ?_
  refine yQ rfl (fun c2 => ?_) fun c2 => ?_
  ·skip
   iterate 10 refine z ?_
   rw [isSto, rall_no (k := k) (by omega) (by have h : stoBad s k = true := c2; simpa using h)]; rfl
  ·skip
   iterate 3 refine z ?_
   refine ok_region ?_
   iterate 3 refine z ?_
   refine ⟨k + 1, ?_, ?_, weak_sub ⟨rfl, rfl, rfl, rfl, trivial⟩ ⟨rfl, trivial⟩ trivial rfl⟩
   ·exact ⟨by omega, rall_succ hall (by have h : stoBad s k = false := c2; simpa using h)⟩
   ·omega
 ·skip
  have d1 := of_decide_eq_false c1
  iterate 8 refine z ?_
  refine zC Tryz.call95 ?_ (hf := ok_impl_IsName)
  iterate 9 refine z ?_
  refine o_callG (gd_bool rfl rfl rfl rfl rfl) rfl rfl Tryz.call73 ok_impl_InRange (fun hg => (as_cons (ev_opt rfl hg) (ag_one ac_dv) (as_cons (ev_int (inR_lit rfl)) (ag_one ac_dv) (as_cons (ev_int (inR_lit rfl)) (ag_one ac_dv) as_nil)))) rfl rfl ?_
  iterate 5 refine z ?_
  obtain rfl : k = s.2.1.length := by omega
  rw [isSto, hall]; rfl
theorem ok_spec_IsStore {s : StoreT}  : PFn Tryz.prog 80 [.agg [(.dv [] (.str (s.1))), (.dv [] (itemsD (s.2.1))), (.dv [] (.int .i64 (s.2.2)))]] (.one (.dv [] (.bool (isSto s)))) := by
 refine ⟨fn_intro Tryz.func80 rfl Tryz.ntmps80 Tryz.results80 rfl (fun C => ?_)⟩
 refine yF 0 0 rfl rfl fun f0_0 => ?_
 refine yF 0 1 rfl rfl fun f0_1 => ?_
 refine yF 0 2 rfl rfl fun f0_2 => ?_
 iterate 9 refine z ?_
 refine ok_loop (ι := Nat) (fun zz => ⟨[(1, .box 1 0), (3, .one (.dv [] (.int .i64 ((zz : Int)))))], [(1, 91, [(.dv [] (.str (s.1))), (.dv [] (itemsD (s.2.1))), (.dv [] (.int .i64 (s.2.2)))])], []⟩) (fun zz => zz ≤ s.2.1.length ∧ (List.range zz).all (fun i => !stoBad s i) = true) (fun zz => s.2.1.length - zz) (0) ?_ (weak_sub ⟨rfl, rfl, trivial⟩ ⟨rfl, trivial⟩ trivial rfl) (fun zz hx => ?_)
 ·exact ⟨Nat.zero_le _, rfl⟩
 obtain ⟨k, rfl⟩ : ∃ v, v = zz := ⟨_, rfl⟩
 replace hx : k ≤ s.2.1.length ∧ (List.range k).all (fun i => !stoBad s i) = true := hx
 obtain ⟨hk, hall⟩ := hx
 show Ok _ _ _ _ _ (⟨[(1, .box 1 0), (3, .one (.dv [] (.int .i64 ((k : Int)))))], [(1, 91, [(.dv [] (.str (s.1))), (.dv [] (itemsD (s.2.1))), (.dv [] (.int .i64 (s.2.2)))])], []⟩ : St)
 iterate 8 refine z ?_
 refine yQ rfl (fun c1 => ?_) fun c1 => ?_
 ·skip
  have d1 := of_decide_eq_true c1
  iterate 4 refine z ?_
  refine ok_seq ?_
  refine ok_regionD (oB := [1]) (oK := []) (by kernel_rfl) rfl rfl ?_
  refine zD 0 ?_
  refine zD 1 ?_
  refine zD 2 ?_
  refine zD 3 ?_
  refine zD 4 ?_
  refine zD 5 ?_
  refine d_call 6 rfl (by kernel_rfl) rfl rfl rfl Tryz.call83 ok_spec_IsKey (as_cons (ev_tmp rfl) (ag_agg (ag_cons ac_dv (ag_cons ac_dv (ag_cons ac_dv ag_nil)))) as_nil) rfl rfl rfl rfl ?_
  refine zD 7 ?_
  refine zD 8 ?_
  refine zDG 9 ?_
  refine zDG 10 ?_
  refine zDG 11 ?_
  refine zDG 12 ?_
  refine zDG 13 ?_
  refine zDG 14 ?_
  refine d_callG 15 rfl (by kernel_rfl) (gd_bool rfl rfl rfl rfl rfl) rfl rfl Tryz.call84 ok_spec_IsRecord (fun hg => (as_cons (ev_opt rfl hg) (ag_agg (ag_cons ac_dv ag_nil)) as_nil)) rfl rfl ?_
  refine zDG 16 ?_
  refine zD 17 ?_
  refine zD 18 ?_
  refine zDG 19 ?_
  refine zDG 20 ?_
  refine zDG 21 ?_
  refine zDG 22 ?_
  refine zDG 23 ?_
  refine zDG 24 ?_
  refine zDG 25 ?_
  refine zDG 26 ?_
  refine zDG 27 ?_
  refine zDG 28 ?_
  refine zDG 29 ?_
  refine zDG 30 ?_
  refine zDG 31 ?_
  refine zDG 32 ?_
  refine zDG 33 ?_
  refine zDG 34 ?_
  refine d_callG 35 rfl (by kernel_rfl) (gd_opt rfl rfl rfl rfl rfl) rfl rfl Tryz.call123 ok_spec_CompareKeys (fun hg => (as_cons (ev_opt rfl hg) (ag_agg (ag_cons ac_dv (ag_cons ac_dv (ag_cons ac_dv ag_nil)))) (as_cons (ev_opt rfl hg) (ag_agg (ag_cons ac_dv (ag_cons ac_dv (ag_cons ac_dv ag_nil)))) as_nil))) rfl rfl ?_
  refine zDG 36 ?_
  refine zDG 37 ?_
  refine zD 38 ?_
  refine d_done (by kernel_rfl) ?_
  refine z ?_
  refine yQ rfl (fun c2 => ?_) fun c2 => ?_
  ·skip
   iterate 10 refine z ?_
   rw [isSto, rall_no (k := k) (by omega) (by have h : stoBad s k = true := c2; simpa using h)]; rfl
  ·skip
   iterate 3 refine z ?_
   refine ok_region ?_
   iterate 4 refine z ?_
   refine ⟨k + 1, ?_, ?_, weak_sub ⟨rfl, rfl, trivial⟩ ⟨rfl, trivial⟩ trivial rfl⟩
   ·exact ⟨by omega, rall_succ hall (by have h : stoBad s k = false := c2; simpa using h)⟩
   ·omega
 ·skip
  have d1 := of_decide_eq_false c1
  iterate 8 refine z ?_
  refine zC Tryz.call81 ?_ (hf := ok_spec_IsName)
  iterate 9 refine z ?_
  refine o_callG (gd_bool rfl rfl rfl rfl rfl) rfl rfl Tryz.call70 ok_spec_l1In (fun hg => (as_cons (ev_opt rfl hg) (ag_one ac_dv) (as_cons (ev_int (inR_lit rfl)) (ag_one ac_dv) (as_cons (ev_int (inR_lit rfl)) (ag_one ac_dv) as_nil)))) rfl rfl ?_
  iterate 5 refine z ?_
  obtain rfl : k = s.2.1.length := by omega
  rw [isSto, hall]; rfl
theorem ok_impl_FindItem_1 {y : ItemT} {k : KeyT}  : PFn Tryz.prog 138 [.agg [(.dv [] (.int .i64 (y.1.1))), (.dv [] (.int .i64 (y.1.2.1))), (.dv [] (.str (y.1.2.2))), (.dv [] (fieldsD (y.2)))], .ref [] [.int .i64 (k.1), .int .i64 (k.2.1), .str (k.2.2)]] (.one (.dv [] (.bool (kEq y.1 k)))) := by
 refine ⟨fn_intro Tryz.func138 rfl Tryz.ntmps138 Tryz.results138 rfl (fun C => ?_)⟩
 refine yF 0 0 rfl rfl fun f0_0 => ?_
 refine yF 0 1 rfl rfl fun f0_1 => ?_
 refine yF 0 2 rfl rfl fun f0_2 => ?_
 refine yF 0 3 rfl rfl fun f0_3 => ?_
 iterate 8 refine z ?_
 refine yO rfl rfl (pu_cmpA rfl (ev_tmp rfl) (ev_tmp rfl) rfl rfl Tryz.eqGuardType42 (eql_Key _ _ _ _ _ _)) rfl ?_
 iterate 4 refine z ?_
 rfl
theorem ok_slices_IndexFunc_Item {x : List ItemT} {k : KeyT}  : PFn Tryz.prog 137 [.one (.dv [] (itemsD (x))), .fn 138 [[.int .i64 (k.1), .int .i64 (k.2.1), .str (k.2.2)]]] (.one (.dv [] (.int .i64 (findI (fun y : ItemT => kEq y.1 k) x 0)))) := by
 refine ⟨fn_intro Tryz.func137 rfl Tryz.ntmps137 Tryz.results137 rfl (fun C => ?_)⟩
 refine ok_fact (x := .tmp 0) (ev_tmp rfl) fun f0 => ?_
 iterate 10 refine z ?_
 refine ok_loop (ι := Nat) (fun zz => ⟨[(0, .one (.dv [] (itemsD (x)))), (1, .fn 138 [[.int .i64 (k.1), .int .i64 (k.2.1), .str (k.2.2)]]), (7, .one (.dv [] (.int .i64 ((((x)).length : Int))))), (8, .one (.dv [] (.int .i64 ((zz : Int)))))], [], []⟩) (fun zz => zz ≤ x.length ∧ (x.take zz).any (fun y : ItemT => kEq y.1 k) = false) (fun zz => x.length - zz) (0) ?_ (weak_sub ⟨rfl, rfl, rfl, rfl, trivial⟩ trivial trivial rfl) (fun zz hx => ?_)
 ·exact ⟨Nat.zero_le _, rfl⟩
 obtain ⟨n, rfl⟩ : ∃ v, v = zz := ⟨_, rfl⟩
 replace hx : n ≤ x.length ∧ (x.take n).any (fun y : ItemT => kEq y.1 k) = false := hx
 obtain ⟨hk, hall⟩ := hx
 show Ok _ _ _ _ _ (⟨[(0, .one (.dv [] (itemsD (x)))), (1, .fn 138 [[.int .i64 (k.1), .int .i64 (k.2.1), .str (k.2.2)]]), (7, .one (.dv [] (.int .i64 ((((x)).length : Int))))), (8, .one (.dv [] (.int .i64 ((n : Int)))))], [], []⟩ : St)
 iterate 3 refine z ?_
 refine ok_seq ?_
 refine yQ rfl (fun c1 => ?_) fun c1 => ?_
 ·skip
  have d1 := of_decide_eq_true c1
  iterate 14 refine z ?_
  refine o_callV rfl rfl rfl (ev_tmp rfl) Tryz.call138 ok_impl_FindItem_1 (as_cons (ev_tmp rfl) (ag_agg (ag_cons ac_dv (ag_cons ac_dv (ag_cons ac_dv (ag_cons ac_dv ag_nil))))) as_nil) rfl rfl ?_
  refine z ?_
  refine yQ rfl (fun c2 => ?_) fun c2 => ?_
  ·skip
   iterate 11 refine z ?_
   exact (findI_at (p := fun y : ItemT => kEq y.1 k) (d := default) hall (by omega) c2).symm
  ·skip
   iterate 3 refine z ?_
   refine ok_region ?_
   iterate 3 refine z ?_
   refine ⟨n + 1, ?_, ?_, weak_sub ⟨rfl, rfl, rfl, rfl, trivial⟩ trivial trivial rfl⟩
   ·exact ⟨by omega, any_stepI (d := default) hall (by omega) c2⟩
   ·omega
 ·skip
  have d1 := of_decide_eq_false c1
  iterate 10 refine z ?_
  exact (findI_none (p := fun y : ItemT => kEq y.1 k) hall (by omega)).symm
theorem ok_impl_FindItem {x : StoreT} {k : KeyT}  : PFn Tryz.prog 101 [.agg [(.dv [] (.str (x.1))), (.dv [] (itemsD (x.2.1))), (.dv [] (.int .i64 (x.2.2)))], .agg [(.dv [] (.int .i64 (k.1))), (.dv [] (.int .i64 (k.2.1))), (.dv [] (.str (k.2.2)))]] (.one (.dv [] (.int .i64 (fndK x k)))) := by
 refine ⟨fn_intro Tryz.func101 rfl Tryz.ntmps101 Tryz.results101 rfl (fun C => ?_)⟩
 refine yF 0 0 rfl rfl fun f0_0 => ?_
 refine yF 0 1 rfl rfl fun f0_1 => ?_
 refine yF 0 2 rfl rfl fun f0_2 => ?_
 refine yF 1 0 rfl rfl fun f1_0 => ?_
 refine yF 1 1 rfl rfl fun f1_1 => ?_
 refine yF 1 2 rfl rfl fun f1_2 => ?_
 iterate 8 refine z ?_
 refine yO rfl rfl (pu_clo1 rfl (ev_tmp rfl)) rfl ?_
 refine o_call rfl rfl rfl Tryz.call137 ok_slices_IndexFunc_Item (as_cons (ev_tmp rfl) (ag_one ac_dv) (as_cons (ev_tmp rfl) (a_clo (clo_cons rfl rfl clo_nil)) as_nil)) rfl rfl ?_
 iterate 4 refine z ?_
 rfl
theorem ok_spec_FindItem {x : StoreT} {k : KeyT}  : PFn Tryz.prog 88 [.agg [(.dv [] (.str (x.1))), (.dv [] (itemsD (x.2.1))), (.dv [] (.int .i64 (x.2.2)))], .agg [(.dv [] (.int .i64 (k.1))), (.dv [] (.int .i64 (k.2.1))), (.dv [] (.str (k.2.2)))]] (.one (.dv [] (.int .i64 (fndK x k)))) := by
 refine ⟨fn_intro Tryz.func88 rfl Tryz.ntmps88 Tryz.results88 rfl (fun C => ?_)⟩
 refine yF 0 0 rfl rfl fun f0_0 => ?_
 refine yF 0 1 rfl rfl fun f0_1 => ?_
 refine yF 0 2 rfl rfl fun f0_2 => ?_
 refine yF 1 0 rfl rfl fun f1_0 => ?_
 refine yF 1 1 rfl rfl fun f1_1 => ?_
 refine yF 1 2 rfl rfl fun f1_2 => ?_
 iterate 10 refine z ?_
 refine ok_loop (ι := Nat) (fun zz => ⟨[(2, .box 2 0), (3, .box 3 0), (5, .one (.dv [] (.int .i64 ((zz : Int)))))], [(2, 91, [(.dv [] (.str (x.1))), (.dv [] (itemsD (x.2.1))), (.dv [] (.int .i64 (x.2.2)))]), (3, 42, [(.dv [] (.int .i64 (k.1))), (.dv [] (.int .i64 (k.2.1))), (.dv [] (.str (k.2.2)))])], []⟩) (fun zz => zz ≤ x.2.1.length ∧ (x.2.1.take zz).any (fun y : ItemT => kEq y.1 k) = false) (fun zz => x.2.1.length - zz) (0) ?_ (weak_sub ⟨rfl, rfl, rfl, trivial⟩ ⟨rfl, rfl, trivial⟩ trivial rfl) (fun zz hx => ?_)
 ·exact ⟨Nat.zero_le _, rfl⟩
 obtain ⟨n, rfl⟩ : ∃ v, v = zz := ⟨_, rfl⟩
 replace hx : n ≤ x.2.1.length ∧ (x.2.1.take n).any (fun y : ItemT => kEq y.1 k) = false := hx
 obtain ⟨hk, hall⟩ := hx
 show Ok _ _ _ _ _ (⟨[(2, .box 2 0), (3, .box 3 0), (5, .one (.dv [] (.int .i64 ((n : Int)))))], [(2, 91, [(.dv [] (.str (x.1))), (.dv [] (itemsD (x.2.1))), (.dv [] (.int .i64 (x.2.2)))]), (3, 42, [(.dv [] (.int .i64 (k.1))), (.dv [] (.int .i64 (k.2.1))), (.dv [] (.str (k.2.2)))])], []⟩ : St)
 iterate 8 refine z ?_
 refine yQ rfl (fun c1 => ?_) fun c1 => ?_
 ·skip
  have d1 := of_decide_eq_true c1
  iterate 4 refine z ?_
  refine ok_seq ?_
  refine ok_regionD (oB := [2, 3]) (oK := []) (by kernel_rfl) rfl rfl ?_
  refine zD 0 ?_
  refine zD 1 ?_
  refine zD 2 ?_
  refine zD 3 ?_
  refine zD 4 ?_
  refine zD 5 ?_
  refine zD 6 ?_
  refine d_take 7 rfl (by kernel_rfl) rfl rfl (pu_cmpA rfl (ev_tmp rfl) (ev_tmp rfl) rfl rfl Tryz.eqGuardType42 (eql_Key _ _ _ _ _ _)) rfl rfl rfl rfl ?_
  refine d_done (by kernel_rfl) ?_
  refine z ?_
  refine yQ rfl (fun c2 => ?_) fun c2 => ?_
  ·skip
   iterate 11 refine z ?_
   exact (findI_at (p := fun y : ItemT => kEq y.1 k) (d := default) hall (by omega) c2).symm
  ·skip
   iterate 3 refine z ?_
   refine ok_region ?_
   iterate 4 refine z ?_
   refine ⟨n + 1, ?_, ?_, weak_sub ⟨rfl, rfl, rfl, trivial⟩ ⟨rfl, rfl, trivial⟩ trivial rfl⟩
   ·exact ⟨by omega, any_stepI (d := default) hall (by omega) c2⟩
   ·omega
 ·skip
  have d1 := of_decide_eq_false c1
  iterate 10 refine z ?_
  exact (findI_none (p := fun y : ItemT => kEq y.1 k) hall (by omega)).symm
theorem ok_impl_copyStore {x : StoreT} (hb : wStore x ≤ 1099511627776) : KFn Tryz.prog 74 [.agg [(.dv [] (.str (x.1))), (.dv [] (itemsD (x.2.1))), (.dv [] (.int .i64 (x.2.2)))]] (.agg [(.dv [] (.str (x.1))), (.key 30), (.dv [] (.int .i64 (x.2.2)))]) [(30, some (kcOf false (itemsD (x.2.1))))] := by
 refine ⟨fn_intro Tryz.func74 rfl Tryz.ntmps74 Tryz.results74 rfl (fun C => ?_)⟩
 refine yF 0 0 rfl rfl fun f0_0 => ?_
 refine yF 0 1 rfl rfl fun f0_1 => ?_
 refine yF 0 2 rfl rfl fun f0_2 => ?_
 iterate 9 refine z ?_
 refine yO rfl rfl (pu_build hT hB rfl rfl rfl (bp_cons (ev_tmp rfl) rfl rfl rfl rfl rfl (bp_cons (ev_tmp rfl) rfl rfl rfl rfl rfl bp_nil))) rfl ?_
 iterate 3 refine z ?_
 refine ok_seq ?_
 refine ok_seq ?_
 refine ok_weak (weak_nilB 30 (b := 3) (i := 1) (e := 141) (sz := 4) rfl rfl rfl rfl rfl) ?_
 simp only [killT, killB, SV.kill, CV.kill, kk, Nat.reduceBEq]
 refine ok_region ?_
 iterate 6 refine z ?_
 refine ok_loop (ι := Nat) (fun zz => ⟨[(2, .box 2 0), (3, .box 3 0), (12, .one (.dv [] (itemsD (x.2.1)))), (13, .one (.dv [] (.int .i64 ((((x.2.1)).length : Int))))), (14, .one (.dv [] (.int .i64 ((zz : Int)))))], [(2, 91, [(.dv [] (.str (ByteArray.empty))), .nil, (.dv [] (.int .i64 (0)))]), (3, 91, [(.dv [] (.str (x.1))), (.key 30), (.dv [] (.int .i64 (x.2.2)))])], [(30, some (kcOf false (.sl 141 4 ((x.2.1.take zz).length) ((x.2.1.take zz).flatMap eItem))))]⟩) (fun zz => zz ≤ x.2.1.length) (fun zz => x.2.1.length - zz) (0) ?_ (weak_sub ⟨rfl, rfl, rfl, rfl, rfl, trivial⟩ ⟨rfl, rfl, trivial⟩ ⟨rfl, trivial⟩ rfl) (fun zz hx => ?_)
 ·exact Nat.zero_le _
 obtain ⟨k, rfl⟩ : ∃ v, v = zz := ⟨_, rfl⟩
 replace hx : k ≤ x.2.1.length := hx
 have hw := fun h => wSum_succ wItem x.2.1 k h
 show Ok _ _ _ _ _ (⟨[(2, .box 2 0), (3, .box 3 0), (12, .one (.dv [] (itemsD (x.2.1)))), (13, .one (.dv [] (.int .i64 ((((x.2.1)).length : Int))))), (14, .one (.dv [] (.int .i64 ((k : Int)))))], [(2, 91, [(.dv [] (.str (ByteArray.empty))), .nil, (.dv [] (.int .i64 (0)))]), (3, 91, [(.dv [] (.str (x.1))), (.key 30), (.dv [] (.int .i64 (x.2.2)))])], [(30, some (kcOf false (.sl 141 4 ((x.2.1.take k).length) ((x.2.1.take k).flatMap eItem))))]⟩ : St)
 iterate 3 refine z ?_
 refine ok_seq ?_
 refine yQ rfl (fun c1 => ?_) fun c1 => ?_
 ·skip
  have d1 := of_decide_eq_true c1
  have hk2 : k < x.2.1.length := by omega
  have hlen : x.2.1.length ≤ 1099511627776 := by have h3 : wStore x = x.1.size + (x.2.1.length + wSum wItem x.2.1) := rfl; omega
  have hrec : wItem (x.2.1.getD (k : Int).toNat default) ≤ 1099511627776 := by have := hw hk2; have h3 : wStore x = x.1.size + (x.2.1.length + wSum wItem x.2.1) := rfl; omega
  iterate 10 refine z ?_
  refine ok_regionH [0, 1, 2, 3, 4] (oB := [2, 3, 5]) (oK := [30]) (by kernel_rfl) rfl rfl ?_
  refine zD 0 ?_
  refine zD 1 ?_
  refine zD 2 ?_
  refine d_callK 21000 3 rfl (by kernel_rfl) rfl rfl rfl Tryz.call118 (ok_impl_copyItem (by first | omega | exact Nat.le_trans (item_len _) hrec)) (as_cons (ev_tmp rfl) (ag_agg (ag_cons ac_dv (ag_cons ac_dv (ag_cons ac_dv (ag_cons ac_dv ag_nil))))) as_nil) rfl rfl rfl rfl rfl ?_
  refine d_build1 (k := 22) (js := [28003]) 4 hT rfl (by kernel_rfl) rfl rfl rfl rfl rfl rfl rfl rfl rfl (ev_tmp rfl) rfl rfl (ow_cons' (ow_dv rfl) (ow_cons' (ow_dv rfl) (ow_cons' (ow_dv rfl) (ow_cons' (ow_key rfl) ow_nil rfl) rfl) rfl) rfl) (by decide) (by decide) rfl rfl (by decide) ?_
  simp only [killT, killB, SV.kill, CV.kill, kk, Nat.reduceBEq]
  refine d_chain [5, 6, 7] rfl rfl (by kernel_rfl) ?_
  refine o_appK (k := 30) (j := 22) (cs := (x.2.1.take (k + 1)).flatMap eItem) (n := (x.2.1.take (k + 1)).length) hT rfl rfl rfl rfl rfl rfl rfl (ev_tmp rfl) rfl rfl rfl (ev_tmp rfl) rfl rfl (by decide) (by dsimp only [kcOf]; simp only [List.length_take]; omega) (by dsimp only [kcOf]; simp only [List.length_take]; omega) ((take_cs1 hk2).2) ((take_cs1 hk2).1) ?_
  simp only [killT, killB, SV.kill, CV.kill, kk, Nat.reduceBEq]
  iterate 2 refine z ?_
  refine ops_nil ?_
  iterate 2 refine z ?_
  refine ok_region ?_
  iterate 3 refine z ?_
  refine ⟨k + 1, ?_, ?_, weak_sub ⟨rfl, rfl, rfl, rfl, rfl, trivial⟩ ⟨rfl, rfl, trivial⟩ ⟨rfl, trivial⟩ rfl⟩
  ·omega
  ·omega
 ·skip
  have d1 := of_decide_eq_false c1
  iterate 9 refine z ?_
  refine ok_weak (σ' := ⟨[(2, .box 2 0)], [(2, 91, [(.dv [] (.str (x.1))), (.key 30), (.dv [] (.int .i64 (x.2.2)))])], [(30, some (kcOf false (itemsD (x.2.1))))]⟩) (weak_sub ⟨rfl, trivial⟩ ⟨rfl, trivial⟩ ⟨(congrArg (fun l : List ItemT => some (some (KC.mk false 141 4 l.length (l.flatMap eItem)))) (List.take_of_length_le (by omega))), trivial⟩ rfl) ?_
  refine z ?_
  refine fin1 (res_cell hT rfl rfl rfl rfl) ?_
  exact ⟨rfl, rfl⟩
theorem ok_spec_l6Copy {x : StoreT} (hb : wStore x ≤ 1099511627776) : KFn Tryz.prog 79 [.agg [(.dv [] (.str (x.1))), (.dv [] (itemsD (x.2.1))), (.dv [] (.int .i64 (x.2.2)))]] (.agg [(.dv [] (.str (x.1))), (.key 30), (.dv [] (.int .i64 (x.2.2)))]) [(30, some (kcOf false (itemsD (x.2.1))))] := by
 refine ⟨fn_intro Tryz.func79 rfl Tryz.ntmps79 Tryz.results79 rfl (fun C => ?_)⟩
 refine yF 0 0 rfl rfl fun f0_0 => ?_
 refine yF 0 1 rfl rfl fun f0_1 => ?_
 refine yF 0 2 rfl rfl fun f0_2 => ?_
 iterate 9 refine z ?_
 refine yO rfl rfl (pu_build hT hB rfl rfl rfl (bp_cons (ev_tmp rfl) rfl rfl rfl rfl rfl (bp_cons (ev_tmp rfl) rfl rfl rfl rfl rfl bp_nil))) rfl ?_
 iterate 3 refine z ?_
 refine ok_seq ?_
 refine ok_seq ?_
 refine ok_weak (weak_nilB 30 (b := 3) (i := 1) (e := 141) (sz := 4) rfl rfl rfl rfl rfl) ?_
 simp only [killT, killB, SV.kill, CV.kill, kk, Nat.reduceBEq]
 refine ok_region ?_
 iterate 3 refine z ?_
 refine ok_loop (ι := Nat) (fun zz => ⟨[(1, .box 1 0), (2, .box 2 0), (3, .box 3 0), (4, .one (.dv [] (.int .i64 ((zz : Int)))))], [(1, 91, [(.dv [] (.str (x.1))), (.dv [] (itemsD (x.2.1))), (.dv [] (.int .i64 (x.2.2)))]), (2, 91, [(.dv [] (.str (ByteArray.empty))), .nil, (.dv [] (.int .i64 (0)))]), (3, 91, [(.dv [] (.str (x.1))), (.key 30), (.dv [] (.int .i64 (x.2.2)))])], [(30, some (kcOf false (.sl 141 4 ((x.2.1.take zz).length) ((x.2.1.take zz).flatMap eItem))))]⟩) (fun zz => zz ≤ x.2.1.length) (fun zz => x.2.1.length - zz) (0) ?_ (weak_sub ⟨rfl, rfl, rfl, rfl, trivial⟩ ⟨rfl, rfl, rfl, trivial⟩ ⟨rfl, trivial⟩ rfl) (fun zz hx => ?_)
 ·exact Nat.zero_le _
 obtain ⟨k, rfl⟩ : ∃ v, v = zz := ⟨_, rfl⟩
 replace hx : k ≤ x.2.1.length := hx
 have hw := fun h => wSum_succ wItem x.2.1 k h
 show Ok _ _ _ _ _ (⟨[(1, .box 1 0), (2, .box 2 0), (3, .box 3 0), (4, .one (.dv [] (.int .i64 ((k : Int)))))], [(1, 91, [(.dv [] (.str (x.1))), (.dv [] (itemsD (x.2.1))), (.dv [] (.int .i64 (x.2.2)))]), (2, 91, [(.dv [] (.str (ByteArray.empty))), .nil, (.dv [] (.int .i64 (0)))]), (3, 91, [(.dv [] (.str (x.1))), (.key 30), (.dv [] (.int .i64 (x.2.2)))])], [(30, some (kcOf false (.sl 141 4 ((x.2.1.take k).length) ((x.2.1.take k).flatMap eItem))))]⟩ : St)
 iterate 8 refine z ?_
 refine yQ rfl (fun c1 => ?_) fun c1 => ?_
 ·skip
  have d1 := of_decide_eq_true c1
  have hk2 : k < x.2.1.length := by omega
  have hlen : x.2.1.length ≤ 1099511627776 := by have h3 : wStore x = x.1.size + (x.2.1.length + wSum wItem x.2.1) := rfl; omega
  have hrec : wItem (x.2.1.getD (k : Int).toNat default) ≤ 1099511627776 := by have := hw hk2; have h3 : wStore x = x.1.size + (x.2.1.length + wSum wItem x.2.1) := rfl; omega
  iterate 4 refine z ?_
  refine ok_regionH [0, 1, 2, 3, 4, 5, 6, 7, 8] (oB := [1, 2, 3]) (oK := [30]) (by kernel_rfl) rfl rfl ?_
  refine zD 0 ?_
  refine zD 1 ?_
  refine zD 2 ?_
  refine zD 3 ?_
  refine zD 4 ?_
  refine zD 5 ?_
  refine zD 6 ?_
  refine d_callK 24000 7 rfl (by kernel_rfl) rfl rfl rfl Tryz.call122 (ok_spec_l6Item (by first | omega | exact Nat.le_trans (item_len _) hrec)) (as_cons (ev_tmp rfl) (ag_agg (ag_cons ac_dv (ag_cons ac_dv (ag_cons ac_dv (ag_cons ac_dv ag_nil))))) as_nil) rfl rfl rfl rfl rfl ?_
  refine d_build1 (k := 25) (js := [31003]) 8 hT rfl (by kernel_rfl) rfl rfl rfl rfl rfl rfl rfl rfl rfl (ev_tmp rfl) rfl rfl (ow_cons' (ow_dv rfl) (ow_cons' (ow_dv rfl) (ow_cons' (ow_dv rfl) (ow_cons' (ow_key rfl) ow_nil rfl) rfl) rfl) rfl) (by decide) (by decide) rfl rfl (by decide) ?_
  simp only [killT, killB, SV.kill, CV.kill, kk, Nat.reduceBEq]
  refine d_chain [9, 10, 11] rfl rfl (by kernel_rfl) ?_
  refine o_appK (k := 30) (j := 25) (cs := (x.2.1.take (k + 1)).flatMap eItem) (n := (x.2.1.take (k + 1)).length) hT rfl rfl rfl rfl rfl rfl rfl (ev_tmp rfl) rfl rfl rfl (ev_tmp rfl) rfl rfl (by decide) (by dsimp only [kcOf]; simp only [List.length_take]; omega) (by dsimp only [kcOf]; simp only [List.length_take]; omega) ((take_cs1 hk2).2) ((take_cs1 hk2).1) ?_
  simp only [killT, killB, SV.kill, CV.kill, kk, Nat.reduceBEq]
  iterate 2 refine z ?_
  refine ops_nil ?_
  iterate 2 refine z ?_
  refine ok_region ?_
  iterate 4 refine z ?_
  refine ⟨k + 1, ?_, ?_, weak_sub ⟨rfl, rfl, rfl, rfl, trivial⟩ ⟨rfl, rfl, rfl, trivial⟩ ⟨rfl, trivial⟩ rfl⟩
  ·omega
  ·omega
 ·skip
  have d1 := of_decide_eq_false c1
  iterate 9 refine z ?_
  refine ok_weak (σ' := ⟨[(2, .box 2 0)], [(2, 91, [(.dv [] (.str (x.1))), (.key 30), (.dv [] (.int .i64 (x.2.2)))])], [(30, some (kcOf false (itemsD (x.2.1))))]⟩) (weak_sub ⟨rfl, trivial⟩ ⟨rfl, trivial⟩ ⟨(congrArg (fun l : List ItemT => some (some (KC.mk false 141 4 l.length (l.flatMap eItem)))) (List.take_of_length_le (by omega))), trivial⟩ rfl) ?_
  refine z ?_
  refine fin1 (res_cell hT rfl rfl rfl rfl) ?_
  exact ⟨rfl, rfl⟩
end Go.Proofs.YtmgijbhikmjfjaaGreat

