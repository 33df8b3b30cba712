/-
  Contracts of the program's functions for the statements Transactions, by the rules of the logic. Conditions: none but those in the theorems.
-/
import Derived.Test.YtjkpoekgnmgofaaGreatU3
set_option maxHeartbeats 4000000
set_option maxRecDepth 100000
namespace Go.Proofs.YtjkpoekgnmgofaaGreat
open Go.RowKit
open Go.Proofs
set_option linter.unusedVariables false
set_option linter.unusedSimpArgs false
theorem ok_impl_InRange {n lo hi : Int}  : PFn Tryz.prog 25 [.one (.dv [] (.int .i64 (n))), .one (.dv [] (.int .i64 (lo))), .one (.dv [] (.int .i64 (hi)))] (.one (.dv [] (.bool (decide (lo ≤ n) && decide (n ≤ hi))))) := by
 refine ⟨fn_intro Tryz.func25 rfl Tryz.ntmps25 Tryz.results25 rfl (fun C => ?_)⟩
 refine ok_fact (x := .tmp 0) (ev_tmp rfl) fun f0 => ?_
 refine ok_fact (x := .tmp 1) (ev_tmp rfl) fun f1 => ?_
 refine ok_fact (x := .tmp 2) (ev_tmp rfl) fun f2 => ?_
 iterate 16 refine z ?_
 rfl
theorem ok_spec_l1In {n lo hi : Int}  : PFn Tryz.prog 59 [.one (.dv [] (.int .i64 (n))), .one (.dv [] (.int .i64 (lo))), .one (.dv [] (.int .i64 (hi)))] (.one (.dv [] (.bool (decide (lo ≤ n) && decide (n ≤ hi))))) := by
 refine ⟨fn_intro Tryz.func59 rfl Tryz.ntmps59 Tryz.results59 rfl (fun C => ?_)⟩
 refine ok_fact (x := .tmp 0) (ev_tmp rfl) fun f0 => ?_
 refine ok_fact (x := .tmp 1) (ev_tmp rfl) fun f1 => ?_
 refine ok_fact (x := .tmp 2) (ev_tmp rfl) fun f2 => ?_
 iterate 16 refine z ?_
 rfl

theorem take_all {α : Type} {p : α → Bool} {l : List α} {k : Nat} {d : α} (h : (l.take k).all p = true) (hk : k < l.length) (hp : p (l.getD k d) = true) : (l.take (k + 1)).all p = true := by
 rw [List.take_succ_eq_append_getElem hk, List.all_append, h]
 simp only [List.all_cons, List.all_nil, Bool.and_true, Bool.true_and]
 simpa [List.getD, List.getElem?_eq_getElem hk] using hp
theorem all_no {α : Type} {p : α → Bool} {l : List α} {k : Nat} {d : α} (hk : k < l.length) (hp : p (l.getD k d) = false) : l.all p = false := by
 rw [List.all_eq_false]
 refine ⟨l[k], List.getElem_mem hk, ?_⟩
 simpa [List.getD, List.getElem?_eq_getElem hk] using hp
theorem all_yes {α : Type} {p : α → Bool} {l : List α} {k : Nat} (h : (l.take k).all p = true) (hk : l.length ≤ k) : l.all p = true := by rwa [List.take_of_length_le hk] at h
theorem size_len (s : ByteArray) : s.data.toList.length = s.size := rfl
def kch (b : UInt8) : Bool := (decide ((97 : Int) ≤ (b.toNat : Int)) && decide ((b.toNat : Int) ≤ 122)) || (decide ((48 : Int) ≤ (b.toNat : Int)) && decide ((b.toNat : Int) ≤ 57))
def kText (s : Str) : Bool := s.data.toList.all kch && decide ((s.size : Int) ≤ 12)
def wch (sl : Bool) (b : UInt8) : Bool := (decide ((97 : Int) ≤ (b.toNat : Int)) && decide ((b.toNat : Int) ≤ 122)) || (sl && decide ((b.toNat : Int) = 47))
theorem kch_spec (b : UInt8) : ((decide ((b.toNat : Int) < 97) || decide ((122 : Int) < (b.toNat : Int))) && (decide ((b.toNat : Int) < 48) || decide ((57 : Int) < (b.toNat : Int)))) = !kch b := by
 unfold kch
 generalize (b.toNat : Int) = z
 by_cases h1 : z < 97 <;> by_cases h2 : 122 < z <;> by_cases h3 : z < 48 <;> by_cases h4 : 57 < z <;> simp [h1, h2, h3, h4] <;> omega

theorem ok_impl_isKeyText {s : Str}  : PFn Tryz.prog 119 [.one (.dv [] (.str (s)))] (.one (.dv [] (.bool (kText s)))) := by
 refine ⟨fn_intro Tryz.func119 rfl Tryz.ntmps119 Tryz.results119 rfl (fun C => ?_)⟩
 refine ok_fact (x := .tmp 0) (ev_tmp rfl) fun f0 => ?_
 iterate 8 refine z ?_
 refine ok_loop (ι := Nat) (fun zz => ⟨[(0, .one (.dv [] (.str (s)))), (3, .one (.dv [] (.int .i64 ((zz : Int)))))], [], []⟩) (fun zz => zz ≤ s.size ∧ (s.data.toList.take zz).all kch = true) (fun zz => s.size - zz) (0) ?_ (weak_sub ⟨rfl, rfl, trivial⟩ trivial trivial rfl) (fun zz hx => ?_)
 ·exact ⟨Nat.zero_le _, rfl⟩
 obtain ⟨k, rfl⟩ : ∃ v, v = zz := ⟨_, rfl⟩
 replace hx : k ≤ s.size ∧ (s.data.toList.take k).all kch = true := hx
 obtain ⟨hk, hall⟩ := hx
 show Ok _ _ _ _ _ (⟨[(0, .one (.dv [] (.str (s)))), (3, .one (.dv [] (.int .i64 ((k : Int)))))], [], []⟩ : St)
 iterate 7 refine z ?_
 refine yQ rfl (fun c1 => ?_) fun c1 => ?_
 ·skip
  have d1 := of_decide_eq_true c1
  iterate 29 refine z ?_
  refine yQ rfl (fun c2 => ?_) fun c2 => ?_
  ·skip
   iterate 10 refine z ?_
   rw [kText, all_no (k := k) (d := 0) (by rw [size_len]; omega) (by have h : (!kch (s.data.toList.getD k 0)) = true := c2; simpa using h)]; rfl
  ·skip
   iterate 3 refine z ?_
   refine ok_region ?_
   iterate 4 refine z ?_
   refine ⟨k + 1, ?_, ?_, weak_sub ⟨rfl, rfl, trivial⟩ trivial trivial rfl⟩
   ·exact ⟨by omega, take_all (d := 0) hall (by rw [size_len]; omega) (by have h : (!kch (s.data.toList.getD k 0)) = false := c2; simpa using h)⟩
   ·omega
 ·skip
  have d1 := of_decide_eq_false c1
  iterate 13 refine z ?_
  rw [kText, all_yes hall (by rw [size_len]; omega)]; rfl
theorem ok_spec_l4Text {s : Str}  : PFn Tryz.prog 132 [.one (.dv [] (.str (s)))] (.one (.dv [] (.bool (kText s)))) := by
 refine ⟨fn_intro Tryz.func132 rfl Tryz.ntmps132 Tryz.results132 rfl (fun C => ?_)⟩
 refine ok_fact (x := .tmp 0) (ev_tmp rfl) fun f0 => ?_
 iterate 8 refine z ?_
 refine ok_loop (ι := Nat) (fun zz => ⟨[(0, .one (.dv [] (.str (s)))), (3, .one (.dv [] (.int .i64 ((zz : Int)))))], [], []⟩) (fun zz => zz ≤ s.size ∧ (s.data.toList.take zz).all kch = true) (fun zz => s.size - zz) (0) ?_ (weak_sub ⟨rfl, rfl, trivial⟩ trivial trivial rfl) (fun zz hx => ?_)
 ·exact ⟨Nat.zero_le _, rfl⟩
 obtain ⟨k, rfl⟩ : ∃ v, v = zz := ⟨_, rfl⟩
 replace hx : k ≤ s.size ∧ (s.data.toList.take k).all kch = true := hx
 obtain ⟨hk, hall⟩ := hx
 show Ok _ _ _ _ _ (⟨[(0, .one (.dv [] (.str (s)))), (3, .one (.dv [] (.int .i64 ((k : Int)))))], [], []⟩ : St)
 iterate 7 refine z ?_
 refine yQ rfl (fun c1 => ?_) fun c1 => ?_
 ·skip
  have d1 := of_decide_eq_true c1
  iterate 28 refine z ?_
  refine yQ rfl (fun c2 => ?_) fun c2 => ?_
  ·skip
   iterate 10 refine z ?_
   rw [kText, all_no (k := k) (d := 0) (by rw [size_len]; omega) (by have h := (kch_spec (s.data.toList.getD k 0)).symm.trans c2; simpa using h)]; rfl
  ·skip
   iterate 3 refine z ?_
   refine ok_region ?_
   iterate 4 refine z ?_
   refine ⟨k + 1, ?_, ?_, weak_sub ⟨rfl, rfl, trivial⟩ trivial trivial rfl⟩
   ·exact ⟨by omega, take_all (d := 0) hall (by rw [size_len]; omega) (by have h := (kch_spec (s.data.toList.getD k 0)).symm.trans c2; simpa using h)⟩
   ·omega
 ·skip
  have d1 := of_decide_eq_false c1
  iterate 13 refine z ?_
  rw [kText, all_yes hall (by rw [size_len]; omega)]; rfl
end Go.Proofs.YtjkpoekgnmgofaaGreat

namespace Go.Proofs.YtjkpoekgnmgofaaGreat
open Go.RowKit
open Go.Proofs
set_option linter.unusedVariables false
set_option linter.unusedSimpArgs false

def isKey (k : KeyT) : Bool := (decide (1 ≤ k.1) && decide (k.1 ≤ 3)) && (decide (-1000000000000 ≤ k.2.1) && decide (k.2.1 ≤ 1000000000000)) && kText k.2.2 && !(decide (k.1 = 2) && !decide (k.2.1 = 0)) && !(decide (k.1 = 1) && !sEq k.2.2 (ByteArray.mk #[]))
def isName (s : Str) : Bool := s.data.toList.all (wch false) && (decide (1 ≤ (s.size : Int)) && decide ((s.size : Int) ≤ 8))
theorem wch_spec (b : UInt8) : (decide ((b.toNat : Int) < 97) || decide ((122 : Int) < (b.toNat : Int))) = !wch false b := by
 unfold wch
 generalize (b.toNat : Int) = z
 by_cases h1 : z < 97 <;> by_cases h2 : 122 < z <;> simp [h1, h2] <;> omega

theorem ok_impl_IsKey {k : KeyT}  : PFn Tryz.prog 75 [.agg [(.dv [] (.int .i64 (k.1))), (.dv [] (.int .i64 (k.2.1))), (.dv [] (.str (k.2.2)))]] (.one (.dv [] (.bool (isKey k)))) := by
 refine ⟨fn_intro Tryz.func75 rfl Tryz.ntmps75 Tryz.results75 rfl (fun C => ?_)⟩
 refine yF 0 0 rfl rfl fun f0_0 => ?_
 refine yF 0 1 rfl rfl fun f0_1 => ?_
 refine yF 0 2 rfl rfl fun f0_2 => ?_
 iterate 8 refine z ?_
 refine zC Tryz.call25 ?_ (hf := ok_impl_InRange)
 iterate 4 refine z ?_
 refine o_callG (gd_bool rfl rfl rfl rfl rfl) rfl rfl Tryz.call25 ok_impl_InRange (fun hg => (as_cons (ev_opt rfl hg) (ag_one ac_dv) (as_cons (ev_int (inR_lit rfl)) (ag_one ac_dv) (as_cons (ev_int (inR_lit rfl)) (ag_one ac_dv) as_nil)))) rfl rfl ?_
 iterate 5 refine z ?_
 refine o_callG (gd_bool rfl rfl rfl rfl rfl) rfl rfl Tryz.call119 ok_impl_isKeyText (fun hg => (as_cons (ev_opt rfl hg) (ag_one ac_dv) as_nil)) rfl rfl ?_
 iterate 3 refine z ?_
 refine yQ rfl (fun c1 => ?_) fun c1 => ?_
 ·skip
  iterate 6 refine z ?_
  grind [isKey]
 ·skip
  iterate 27 refine z ?_
  grind [isKey]
theorem ok_spec_IsKey {k : KeyT}  : PFn Tryz.prog 89 [.agg [(.dv [] (.int .i64 (k.1))), (.dv [] (.int .i64 (k.2.1))), (.dv [] (.str (k.2.2)))]] (.one (.dv [] (.bool (isKey k)))) := by
 refine ⟨fn_intro Tryz.func89 rfl Tryz.ntmps89 Tryz.results89 rfl (fun C => ?_)⟩
 refine yF 0 0 rfl rfl fun f0_0 => ?_
 refine yF 0 1 rfl rfl fun f0_1 => ?_
 refine yF 0 2 rfl rfl fun f0_2 => ?_
 iterate 7 refine z ?_
 refine zC Tryz.call59 ?_ (hf := ok_spec_l1In)
 iterate 3 refine z ?_
 refine o_callG (gd_bool rfl rfl rfl rfl rfl) rfl rfl Tryz.call59 ok_spec_l1In (fun hg => (as_cons (ev_opt rfl hg) (ag_one ac_dv) (as_cons (ev_int (inR_lit rfl)) (ag_one ac_dv) (as_cons (ev_int (inR_lit rfl)) (ag_one ac_dv) as_nil)))) rfl rfl ?_
 iterate 14 refine z ?_
 refine o_callG (gd_bool rfl rfl rfl rfl rfl) rfl rfl Tryz.call132 ok_spec_l4Text (fun hg => (as_cons (ev_opt rfl hg) (ag_one ac_dv) as_nil)) rfl rfl ?_
 iterate 15 refine z ?_
 grind [isKey]
theorem ok_impl_isWord {s : Str} {m : Int} {sl : Bool}  : PFn Tryz.prog 84 [.one (.dv [] (.str (s))), .one (.dv [] (.int .i64 (m))), .one (.dv [] (.bool (sl)))] (.one (.dv [] (.bool (s.data.toList.all (wch sl) && (decide (1 ≤ (s.size : Int)) && decide ((s.size : Int) ≤ m)))))) := by
 refine ⟨fn_intro Tryz.func84 rfl Tryz.ntmps84 Tryz.results84 rfl (fun C => ?_)⟩
 refine ok_fact (x := .tmp 0) (ev_tmp rfl) fun f0 => ?_
 refine ok_fact (x := .tmp 1) (ev_tmp rfl) fun f1 => ?_
 iterate 8 refine z ?_
 refine ok_loop (ι := Nat) (fun zz => ⟨[(0, .one (.dv [] (.str (s)))), (1, .one (.dv [] (.int .i64 (m)))), (2, .one (.dv [] (.bool (sl)))), (7, .one (.dv [] (.int .i64 ((zz : Int)))))], [], []⟩) (fun zz => zz ≤ s.size ∧ (s.data.toList.take zz).all (wch sl) = true) (fun zz => s.size - zz) (0) ?_ (weak_sub ⟨rfl, rfl, rfl, rfl, trivial⟩ trivial trivial rfl) (fun zz hx => ?_)
 ·exact ⟨Nat.zero_le _, rfl⟩
 obtain ⟨k, rfl⟩ : ∃ v, v = zz := ⟨_, rfl⟩
 replace hx : k ≤ s.size ∧ (s.data.toList.take k).all (wch sl) = true := hx
 obtain ⟨hk, hall⟩ := hx
 show Ok _ _ _ _ _ (⟨[(0, .one (.dv [] (.str (s)))), (1, .one (.dv [] (.int .i64 (m)))), (2, .one (.dv [] (.bool (sl)))), (7, .one (.dv [] (.int .i64 ((k : Int)))))], [], []⟩ : St)
 iterate 7 refine z ?_
 refine yQ rfl (fun c1 => ?_) fun c1 => ?_
 ·skip
  have d1 := of_decide_eq_true c1
  iterate 26 refine z ?_
  refine yQ rfl (fun c2 => ?_) fun c2 => ?_
  ·skip
   iterate 10 refine z ?_
   rw [all_no (k := k) (d := 0) (by rw [size_len]; omega) (by have h : (!wch sl (s.data.toList.getD k 0)) = true := c2; simpa using h)]; rfl
  ·skip
   iterate 3 refine z ?_
   refine ok_region ?_
   iterate 4 refine z ?_
   refine ⟨k + 1, ?_, ?_, weak_sub ⟨rfl, rfl, rfl, rfl, trivial⟩ trivial trivial rfl⟩
   ·exact ⟨by omega, take_all (d := 0) hall (by rw [size_len]; omega) (by have h : (!wch sl (s.data.toList.getD k 0)) = false := c2; simpa using h)⟩
   ·omega
 ·skip
  have d1 := of_decide_eq_false c1
  iterate 9 refine z ?_
  refine zC Tryz.call25 ?_ (hf := ok_impl_InRange)
  iterate 4 refine z ?_
  rw [all_yes hall (by rw [size_len]; omega)]; rfl
theorem ok_impl_IsName {s : Str}  : PFn Tryz.prog 50 [.one (.dv [] (.str (s)))] (.one (.dv [] (.bool (isName s)))) := by
 refine ⟨fn_intro Tryz.func50 rfl Tryz.ntmps50 Tryz.results50 rfl (fun C => ?_)⟩
 refine ok_fact (x := .tmp 0) (ev_tmp rfl) fun f0 => ?_
 iterate 5 refine z ?_
 refine zC Tryz.call84 ?_ (hf := ok_impl_isWord)
 iterate 4 refine z ?_
 rfl
theorem ok_spec_IsName {s : Str}  : PFn Tryz.prog 57 [.one (.dv [] (.str (s)))] (.one (.dv [] (.bool (isName s)))) := by
 refine ⟨fn_intro Tryz.func57 rfl Tryz.ntmps57 Tryz.results57 rfl (fun C => ?_)⟩
 refine ok_fact (x := .tmp 0) (ev_tmp rfl) fun f0 => ?_
 iterate 8 refine z ?_
 refine ok_loop (ι := Nat) (fun zz => ⟨[(0, .one (.dv [] (.str (s)))), (3, .one (.dv [] (.int .i64 ((zz : Int)))))], [], []⟩) (fun zz => zz ≤ s.size ∧ (s.data.toList.take zz).all (wch false) = true) (fun zz => s.size - zz) (0) ?_ (weak_sub ⟨rfl, rfl, trivial⟩ trivial trivial rfl) (fun zz hx => ?_)
 ·exact ⟨Nat.zero_le _, rfl⟩
 obtain ⟨k, rfl⟩ : ∃ v, v = zz := ⟨_, rfl⟩
 replace hx : k ≤ s.size ∧ (s.data.toList.take k).all (wch false) = true := hx
 obtain ⟨hk, hall⟩ := hx
 show Ok _ _ _ _ _ (⟨[(0, .one (.dv [] (.str (s)))), (3, .one (.dv [] (.int .i64 ((k : Int)))))], [], []⟩ : St)
 iterate 7 refine z ?_
 refine yQ rfl (fun c1 => ?_) fun c1 => ?_
 ·skip
  have d1 := of_decide_eq_true c1
  iterate 16 refine z ?_
  refine yQ rfl (fun c2 => ?_) fun c2 => ?_
  ·skip
   iterate 10 refine z ?_
   rw [isName, all_no (k := k) (d := 0) (by rw [size_len]; omega) (by have h := (wch_spec (s.data.toList.getD k 0)).symm.trans c2; simpa using h)]; rfl
  ·skip
   iterate 3 refine z ?_
   refine ok_region ?_
   iterate 4 refine z ?_
   refine ⟨k + 1, ?_, ?_, weak_sub ⟨rfl, rfl, trivial⟩ trivial trivial rfl⟩
   ·exact ⟨by omega, take_all (d := 0) hall (by rw [size_len]; omega) (by have h := (wch_spec (s.data.toList.getD k 0)).symm.trans c2; simpa using h)⟩
   ·omega
 ·skip
  have d1 := of_decide_eq_false c1
  iterate 8 refine z ?_
  refine zC Tryz.call59 ?_ (hf := ok_spec_l1In)
  iterate 4 refine z ?_
  rw [isName, all_yes hall (by rw [size_len]; omega)]; rfl
end Go.Proofs.YtjkpoekgnmgofaaGreat

namespace Go.Proofs.YtjkpoekgnmgofaaGreat
open Go.RowKit
open Go.Proofs
set_option linter.unusedVariables false
set_option linter.unusedSimpArgs false

theorem bl_total : ∀ (x y : List UInt8), (Op.bytesLess x y || (x == y)) = !Op.bytesLess y x
 | [], [] => rfl
 | [], _ :: _ => rfl
 | _ :: _, [] => rfl
 | a :: x, b :: y => by
  have ih := bl_total x y
  simp only [Op.bytesLess]
  rcases Nat.lt_trichotomy a.toNat b.toNat with h | h | h
  ·have h1 : a < b := h
   have h2 : ¬ b < a := by intro h'; have : b.toNat < a.toNat := h'; omega
   have h3 : ¬ a = b := by rintro rfl; omega
   have h4 : ¬ b = a := fun e => h3 e.symm
   simp [h1, h2, h3, h4]
  ·have e : a = b := UInt8.toNat_inj.1 h
   subst e
   simpa using ih
  ·have h1 : b < a := h
   have h2 : ¬ a < b := by intro h'; have : a.toNat < b.toNat := h'; omega
   have h3 : ¬ a = b := by rintro rfl; omega
   have h4 : ¬ b = a := fun e => h3 e.symm
   simp [h1, h2, h3, h4]
theorem sLe_eq (a b : Str) : (sLt a b || sEq a b) = !sLt b a := bl_total _ _
theorem rall_succ {p : Nat → Bool} {k : Nat} (h : (List.range k).all p = true) (hp : p k = true) : (List.range (k + 1)).all p = true := by
 rw [List.range_succ, List.all_append, h]; simpa using hp
theorem rall_no {p : Nat → Bool} {k n : Nat} (hk : k < n) (hp : p k = false) : (List.range n).all p = false := by
 rw [List.all_eq_false]; exact ⟨k, List.mem_range.2 hk, by simpa using hp⟩
def recBad (r : RecT) (i : Nat) : Bool := (!isName (r.getD (i : Int).toNat default).1 || !(decide ((0 : Int) ≤ (r.getD (i : Int).toNat default).2) && decide ((r.getD (i : Int).toNat default).2 ≤ 1000000000))) ||
 (decide ((0 : Int) < (i : Int)) && (sLt (r.getD (i : Int).toNat default).1 (r.getD ((i : Int) - 1).toNat default).1 || sEq (r.getD (i : Int).toNat default).1 (r.getD ((i : Int) - 1).toNat default).1))
def isRec (r : RecT) : Bool := (List.range r.length).all (fun i => !recBad r i) && decide ((r.length : Int) ≤ 6)
def recBadS (r : RecT) (i : Nat) : Bool := (!isName (r.getD (i : Int).toNat default).1 || !(decide ((0 : Int) ≤ (r.getD (i : Int).toNat default).2) && decide ((r.getD (i : Int).toNat default).2 ≤ 1000000000))) ||
 (decide ((0 : Int) < (i : Int)) && !sLt (r.getD ((i : Int) - 1).toNat default).1 (r.getD (i : Int).toNat default).1)
theorem recBadS_eq (r : RecT) (i : Nat) : recBadS r i = recBad r i := by unfold recBadS recBad; rw [sLe_eq]

theorem ok_impl_IsRecord {r : RecT}  : PFn Tryz.prog 76 [.agg [(.dv [] (fieldsD (r)))]] (.one (.dv [] (.bool (isRec r)))) := by
 refine ⟨fn_intro Tryz.func76 rfl Tryz.ntmps76 Tryz.results76 rfl (fun C => ?_)⟩
 refine yF 0 0 rfl rfl fun f0_0 => ?_
 iterate 12 refine z ?_
 refine ok_loop (ι := Nat) (fun zz => ⟨[(1, .box 1 0), (6, .one (.dv [] (fieldsD (r)))), (7, .one (.dv [] (.int .i64 ((((r)).length : Int))))), (8, .one (.dv [] (.int .i64 ((zz : Int)))))], [(1, 66, [(.dv [] (fieldsD (r)))])], []⟩) (fun zz => zz ≤ r.length ∧ (List.range zz).all (fun i => !recBad r i) = true) (fun zz => r.length - zz) (0) ?_ (weak_sub ⟨rfl, rfl, rfl, rfl, trivial⟩ ⟨rfl, trivial⟩ trivial rfl) (fun zz hx => ?_)
 ·exact ⟨Nat.zero_le _, rfl⟩
 obtain ⟨k, rfl⟩ : ∃ v, v = zz := ⟨_, rfl⟩
 replace hx : k ≤ r.length ∧ (List.range k).all (fun i => !recBad r i) = true := hx
 obtain ⟨hk, hall⟩ := hx
 show Ok _ _ _ _ _ (⟨[(1, .box 1 0), (6, .one (.dv [] (fieldsD (r)))), (7, .one (.dv [] (.int .i64 ((((r)).length : Int))))), (8, .one (.dv [] (.int .i64 ((k : Int)))))], [(1, 66, [(.dv [] (fieldsD (r)))])], []⟩ : St)
 iterate 3 refine z ?_
 refine ok_seq ?_
 refine yQ rfl (fun c1 => ?_) fun c1 => ?_
 ·skip
  have d1 := of_decide_eq_true c1
  iterate 12 refine z ?_
  refine ok_seq ?_
  refine ok_regionD (oB := [1, 4]) (oK := []) (by kernel_rfl) rfl rfl ?_
  refine zD 0 ?_
  refine zD 1 ?_
  refine d_call 2 rfl (by kernel_rfl) rfl rfl rfl Tryz.call50 ok_impl_IsName (as_cons (ev_tmp rfl) (ag_one ac_dv) as_nil) rfl rfl rfl rfl ?_
  refine zD 3 ?_
  refine zD 4 ?_
  refine zDG 5 ?_
  refine zDG 6 ?_
  refine d_callG 7 rfl (by kernel_rfl) (gd_bool rfl rfl rfl rfl rfl) rfl rfl Tryz.call25 ok_impl_InRange (fun hg => (as_cons (ev_opt rfl hg) (ag_one ac_dv) (as_cons (ev_int (inR_lit rfl)) (ag_one ac_dv) (as_cons (ev_int (inR_lit rfl)) (ag_one ac_dv) as_nil)))) rfl rfl ?_
  refine zDG 8 ?_
  refine zD 9 ?_
  refine zD 10 ?_
  refine zDG 11 ?_
  refine zDG 12 ?_
  refine zDG 13 ?_
  refine zDG 14 ?_
  refine zDG 15 ?_
  refine zDG 16 ?_
  refine zDG 17 ?_
  refine zDG 18 ?_
  refine zDG 19 ?_
  refine zDG 20 ?_
  refine zDG 21 ?_
  refine zDG 22 ?_
  refine zDG 23 ?_
  refine zDG 24 ?_
  refine zD 25 ?_
  refine d_done (by kernel_rfl) ?_
  refine z ?_
  refine yQ rfl (fun c2 => ?_) fun c2 => ?_
  ·skip
   iterate 10 refine z ?_
   rw [isRec, rall_no (k := k) (by omega) (by have h : recBad r k = true := c2; simpa using h)]; rfl
  ·skip
   iterate 3 refine z ?_
   refine ok_region ?_
   iterate 3 refine z ?_
   refine ⟨k + 1, ?_, ?_, weak_sub ⟨rfl, rfl, rfl, rfl, trivial⟩ ⟨rfl, trivial⟩ trivial rfl⟩
   ·exact ⟨by omega, rall_succ hall (by have h : recBad r k = false := c2; simpa using h)⟩
   ·omega
 ·skip
  have d1 := of_decide_eq_false c1
  iterate 14 refine z ?_
  obtain rfl : k = r.length := by omega
  rw [isRec, hall]; rfl
theorem ok_spec_IsRecord {r : RecT}  : PFn Tryz.prog 90 [.agg [(.dv [] (fieldsD (r)))]] (.one (.dv [] (.bool (isRec r)))) := by
 refine ⟨fn_intro Tryz.func90 rfl Tryz.ntmps90 Tryz.results90 rfl (fun C => ?_)⟩
 refine yF 0 0 rfl rfl fun f0_0 => ?_
 iterate 9 refine z ?_
 refine ok_loop (ι := Nat) (fun zz => ⟨[(1, .box 1 0), (3, .one (.dv [] (.int .i64 ((zz : Int)))))], [(1, 66, [(.dv [] (fieldsD (r)))])], []⟩) (fun zz => zz ≤ r.length ∧ (List.range zz).all (fun i => !recBad r i) = true) (fun zz => r.length - zz) (0) ?_ (weak_sub ⟨rfl, rfl, trivial⟩ ⟨rfl, trivial⟩ trivial rfl) (fun zz hx => ?_)
 ·exact ⟨Nat.zero_le _, rfl⟩
 obtain ⟨k, rfl⟩ : ∃ v, v = zz := ⟨_, rfl⟩
 replace hx : k ≤ r.length ∧ (List.range k).all (fun i => !recBad r i) = true := hx
 obtain ⟨hk, hall⟩ := hx
 show Ok _ _ _ _ _ (⟨[(1, .box 1 0), (3, .one (.dv [] (.int .i64 ((k : Int)))))], [(1, 66, [(.dv [] (fieldsD (r)))])], []⟩ : St)
 iterate 8 refine z ?_
 refine yQ rfl (fun c1 => ?_) fun c1 => ?_
 ·skip
  have d1 := of_decide_eq_true c1
  iterate 4 refine z ?_
  refine ok_seq ?_
  refine ok_regionD (oB := [1]) (oK := []) (by kernel_rfl) rfl rfl ?_
  refine zD 0 ?_
  refine zD 1 ?_
  refine zD 2 ?_
  refine zD 3 ?_
  refine zD 4 ?_
  refine zD 5 ?_
  refine d_call 6 rfl (by kernel_rfl) rfl rfl rfl Tryz.call57 ok_spec_IsName (as_cons (ev_tmp rfl) (ag_one ac_dv) as_nil) rfl rfl rfl rfl ?_
  refine zD 7 ?_
  refine zD 8 ?_
  refine zDG 9 ?_
  refine zDG 10 ?_
  refine zDG 11 ?_
  refine zDG 12 ?_
  refine zDG 13 ?_
  refine zDG 14 ?_
  refine d_callG 15 rfl (by kernel_rfl) (gd_bool rfl rfl rfl rfl rfl) rfl rfl Tryz.call59 ok_spec_l1In (fun hg => (as_cons (ev_opt rfl hg) (ag_one ac_dv) (as_cons (ev_int (inR_lit rfl)) (ag_one ac_dv) (as_cons (ev_int (inR_lit rfl)) (ag_one ac_dv) as_nil)))) rfl rfl ?_
  refine zDG 16 ?_
  refine zD 17 ?_
  refine zD 18 ?_
  refine zDG 19 ?_
  refine zDG 20 ?_
  refine zDG 21 ?_
  refine zDG 22 ?_
  refine zDG 23 ?_
  refine zDG 24 ?_
  refine zDG 25 ?_
  refine zDG 26 ?_
  refine zDG 27 ?_
  refine zDG 28 ?_
  refine zDG 29 ?_
  refine zDG 30 ?_
  refine zDG 31 ?_
  refine zDG 32 ?_
  refine zDG 33 ?_
  refine zDG 34 ?_
  refine zDG 35 ?_
  refine zDG 36 ?_
  refine zD 37 ?_
  refine d_done (by kernel_rfl) ?_
  refine z ?_
  refine yQ rfl (fun c2 => ?_) fun c2 => ?_
  ·skip
   iterate 10 refine z ?_
   rw [isRec, rall_no (k := k) (by omega) (by have h : recBadS r k = true := c2; rw [recBadS_eq] at h; simpa using h)]; rfl
  ·skip
   iterate 3 refine z ?_
   refine ok_region ?_
   iterate 4 refine z ?_
   refine ⟨k + 1, ?_, ?_, weak_sub ⟨rfl, rfl, trivial⟩ ⟨rfl, trivial⟩ trivial rfl⟩
   ·exact ⟨by omega, rall_succ hall (by have h : recBadS r k = false := c2; rw [recBadS_eq] at h; simpa using h)⟩
   ·omega
 ·skip
  have d1 := of_decide_eq_false c1
  iterate 14 refine z ?_
  obtain rfl : k = r.length := by omega
  rw [isRec, hall]; rfl
end Go.Proofs.YtjkpoekgnmgofaaGreat

namespace Go.Proofs.YtjkpoekgnmgofaaGreat
open Go.RowKit
open Go.Proofs
set_option linter.unusedVariables false
set_option linter.unusedSimpArgs false

def wSum {α : Type} (w : α → Nat) (xs : List α) : Nat := (xs.map w).sum
def wList {α : Type} (w : α → Nat) (xs : List α) : Nat := xs.length + wSum w xs
theorem wSum_app {α : Type} (w : α → Nat) (xs ys : List α) : wSum w (xs ++ ys) = wSum w xs + wSum w ys := by simp [wSum]
theorem wSum_le {α : Type} (w : α → Nat) (xs : List α) (k : Nat) : wSum w (xs.take k) ≤ wSum w xs := by
 have h := wSum_app w (xs.take k) (xs.drop k)
 rw [List.take_append_drop] at h
 omega
theorem wSum_succ {α : Type} [Inhabited α] (w : α → Nat) (xs : List α) (k : Nat) (h : k < xs.length) : wSum w (xs.take (k + 1)) = wSum w (xs.take k) + w (xs.getD (k : Int).toNat default) ∧ wSum w (xs.take (k + 1)) ≤ wSum w xs := by
 refine ⟨?_, wSum_le w xs _⟩
 have : xs.take (k + 1) = xs.take k ++ [xs.getD k default] := by
  rw [List.take_add_one, List.getElem?_eq_getElem h]; simp [List.getD, List.getElem?_eq_getElem h]
 rw [this, wSum_app]
 simp [wSum]
def wKey (x : KeyT) : Nat := (x.2.2).size
def wField (x : FieldT) : Nat := (x.1).size
def wRecord (x : RecT) : Nat := wList wField (x)
def wItem (x : ItemT) : Nat := wKey (x.1) + wRecord (x.2)
def wStore (x : StoreT) : Nat := (x.1).size + wList wItem (x.2.1)
def wIndexDef (x : DefT) : Nat := (x.1).size + (x.2).size
def wDatabase (x : DbT) : Nat := (x.1).size + wList wStore (x.2.2.1) + wList wIndexDef (x.2.2.2)
def wOp (x : OpT) : Nat := (x.2.1).size + wKey (x.2.2.1) + wRecord (x.2.2.2.1) + (x.2.2.2.2).size
def wTx (x : TxT) : Nat := wList wOp (x.2.1) + wList wStore (x.2.2.2.2)
def wTxQueue (x : List TxT) : Nat := wList wTx (x)
end Go.Proofs.YtjkpoekgnmgofaaGreat

namespace Go.Proofs.YtjkpoekgnmgofaaGreat
open Go.RowKit
open Go.Proofs
set_option linter.unusedVariables false
set_option linter.unusedSimpArgs false
def isWr (o : OpT) : Bool := (decide (1 ≤ o.1) && decide (o.1 ≤ 6)) && !decide (o.1 = 4)
theorem ok_impl_IsWrite {x : OpT}  : PFn Tryz.prog 23 [.agg [(.dv [] (.int .i64 (x.1))), (.dv [] (.str (x.2.1))), (.dv [] (.int .i64 (x.2.2.1.1))), (.dv [] (.int .i64 (x.2.2.1.2.1))), (.dv [] (.str (x.2.2.1.2.2))), (.dv [] (fieldsD (x.2.2.2.1))), (.dv [] (.str (x.2.2.2.2)))]] (.one (.dv [] (.bool (isWr x)))) := by
 refine ⟨fn_intro Tryz.func23 rfl Tryz.ntmps23 Tryz.results23 rfl (fun C => ?_)⟩
 refine yF 0 0 rfl rfl fun f0_0 => ?_
 refine yF 0 1 rfl rfl fun f0_1 => ?_
 refine yF 0 2 rfl rfl fun f0_2 => ?_
 refine yF 0 3 rfl rfl fun f0_3 => ?_
 refine yF 0 4 rfl rfl fun f0_4 => ?_
 refine yF 0 5 rfl rfl fun f0_5 => ?_
 refine yF 0 6 rfl rfl fun f0_6 => ?_
 iterate 7 refine z ?_
 refine zC Tryz.call25 ?_ (hf := ok_impl_InRange)
 iterate 9 refine z ?_
 first | rfl | grind [isWr]
end Go.Proofs.YtjkpoekgnmgofaaGreat

namespace Go.Proofs.YtjkpoekgnmgofaaGreat
open Go.RowKit
open Go.Proofs
set_option linter.unusedVariables false
set_option linter.unusedSimpArgs false

def isOpB (o : OpT) : Bool := (decide (1 ≤ o.1) && decide (o.1 ≤ 6)) && isName o.2.1 && (decide (o.1 = 5) || isKey o.2.2.1) && isRec o.2.2.2.1 && ((decide (o.1 = 6) && isName o.2.2.2.2) || (!decide (o.1 = 6) && sEq o.2.2.2.2 (ByteArray.mk #[])))
theorem any_step {α : Type} {p : α → Bool} {l : List α} {k : Nat} {d : α} (h : (l.take k).any p = false) (hk : k < l.length) (hp : p (l.getD k d) = false) : (l.take (k + 1)).any p = false := by
 rw [List.take_succ_eq_append_getElem hk, List.any_append, h]
 simp only [List.any_cons, List.any_nil, Bool.or_false, Bool.false_or]
 simpa [List.getD, List.getElem?_eq_getElem hk] using hp
theorem any_yes {α : Type} {p : α → Bool} {l : List α} {k : Nat} {d : α} (hk : k < l.length) (hp : p (l.getD k d) = true) : l.any p = true := by
 rw [List.any_eq_true]
 exact ⟨l[k], List.getElem_mem hk, by simpa [List.getD, List.getElem?_eq_getElem hk] using hp⟩
theorem any_no {α : Type} {p : α → Bool} {l : List α} {k : Nat} (h : (l.take k).any p = false) (hk : l.length ≤ k) : l.any p = false := by
 rwa [List.take_of_length_le hk] at h
def conf2 (x y : OpT) : Bool := sEq x.2.1 y.2.1 && (isWr x || isWr y)
def conf (a b : List OpT) : Bool := a.any fun x => b.any (conf2 x)

theorem ok_impl_IsOp {x : OpT}  : PFn Tryz.prog 46 [.agg [(.dv [] (.int .i64 (x.1))), (.dv [] (.str (x.2.1))), (.dv [] (.int .i64 (x.2.2.1.1))), (.dv [] (.int .i64 (x.2.2.1.2.1))), (.dv [] (.str (x.2.2.1.2.2))), (.dv [] (fieldsD (x.2.2.2.1))), (.dv [] (.str (x.2.2.2.2)))]] (.one (.dv [] (.bool (isOpB x)))) := by
 refine ⟨fn_intro Tryz.func46 rfl Tryz.ntmps46 Tryz.results46 rfl (fun C => ?_)⟩
 refine yF 0 0 rfl rfl fun f0_0 => ?_
 refine yF 0 1 rfl rfl fun f0_1 => ?_
 refine yF 0 2 rfl rfl fun f0_2 => ?_
 refine yF 0 3 rfl rfl fun f0_3 => ?_
 refine yF 0 4 rfl rfl fun f0_4 => ?_
 refine yF 0 5 rfl rfl fun f0_5 => ?_
 refine yF 0 6 rfl rfl fun f0_6 => ?_
 iterate 8 refine z ?_
 refine zC Tryz.call25 ?_ (hf := ok_impl_InRange)
 iterate 4 refine z ?_
 refine o_callG (gd_bool rfl rfl rfl rfl rfl) rfl rfl Tryz.call50 ok_impl_IsName (fun hg => (as_cons (ev_opt rfl hg) (ag_one ac_dv) as_nil)) rfl rfl ?_
 iterate 9 refine z ?_
 refine o_callG (gd_opt rfl rfl rfl rfl rfl) rfl rfl Tryz.call75 ok_impl_IsKey (fun hg => (as_cons (ev_opt rfl hg) (ag_agg (ag_cons ac_dv (ag_cons ac_dv (ag_cons ac_dv ag_nil)))) as_nil)) rfl rfl ?_
 iterate 6 refine z ?_
 refine o_callG (gd_bool rfl rfl rfl rfl rfl) rfl rfl Tryz.call76 ok_impl_IsRecord (fun hg => (as_cons (ev_opt rfl hg) (ag_agg (ag_cons ac_dv ag_nil)) as_nil)) rfl rfl ?_
 iterate 3 refine z ?_
 refine yQ rfl (fun c1 => ?_) fun c1 => ?_
 ·skip
  iterate 6 refine z ?_
  grind [isOpB]
 ·skip
  iterate 8 refine z ?_
  refine yQ rfl (fun c2 => ?_) fun c2 => ?_
  ·skip
   have d2 := of_decide_eq_true c2
   iterate 3 refine z ?_
   refine zC Tryz.call50 ?_ (hf := ok_impl_IsName)
   iterate 5 refine z ?_
   grind [isOpB]
  ·skip
   have d2 := of_decide_eq_false c2
   iterate 10 refine z ?_
   grind [isOpB]
theorem ok_spec_IsOp {x : OpT}  : PFn Tryz.prog 60 [.agg [(.dv [] (.int .i64 (x.1))), (.dv [] (.str (x.2.1))), (.dv [] (.int .i64 (x.2.2.1.1))), (.dv [] (.int .i64 (x.2.2.1.2.1))), (.dv [] (.str (x.2.2.1.2.2))), (.dv [] (fieldsD (x.2.2.2.1))), (.dv [] (.str (x.2.2.2.2)))]] (.one (.dv [] (.bool (isOpB x)))) := by
 refine ⟨fn_intro Tryz.func60 rfl Tryz.ntmps60 Tryz.results60 rfl (fun C => ?_)⟩
 refine yF 0 0 rfl rfl fun f0_0 => ?_
 refine yF 0 1 rfl rfl fun f0_1 => ?_
 refine yF 0 2 rfl rfl fun f0_2 => ?_
 refine yF 0 3 rfl rfl fun f0_3 => ?_
 refine yF 0 4 rfl rfl fun f0_4 => ?_
 refine yF 0 5 rfl rfl fun f0_5 => ?_
 refine yF 0 6 rfl rfl fun f0_6 => ?_
 iterate 7 refine z ?_
 refine zC Tryz.call59 ?_ (hf := ok_spec_l1In)
 iterate 3 refine z ?_
 refine o_callG (gd_bool rfl rfl rfl rfl rfl) rfl rfl Tryz.call57 ok_spec_IsName (fun hg => (as_cons (ev_opt rfl hg) (ag_one ac_dv) as_nil)) rfl rfl ?_
 iterate 8 refine z ?_
 refine o_callG (gd_opt rfl rfl rfl rfl rfl) rfl rfl Tryz.call89 ok_spec_IsKey (fun hg => (as_cons (ev_opt rfl hg) (ag_agg (ag_cons ac_dv (ag_cons ac_dv (ag_cons ac_dv ag_nil)))) as_nil)) rfl rfl ?_
 iterate 5 refine z ?_
 refine o_callG (gd_bool rfl rfl rfl rfl rfl) rfl rfl Tryz.call90 ok_spec_IsRecord (fun hg => (as_cons (ev_opt rfl hg) (ag_agg (ag_cons ac_dv ag_nil)) as_nil)) rfl rfl ?_
 iterate 8 refine z ?_
 refine o_callG (gd_opt rfl rfl rfl rfl rfl) rfl rfl Tryz.call57 ok_spec_IsName (fun hg => (as_cons (ev_opt rfl hg) (ag_one ac_dv) as_nil)) rfl rfl ?_
 iterate 16 refine z ?_
 grind [isOpB]
theorem ok_impl_Conflicts {a b : List OpT}  : PFn Tryz.prog 9 [.one (.dv [] (opsD (a))), .one (.dv [] (opsD (b)))] (.one (.dv [] (.bool (conf a b)))) := by
 refine ⟨fn_intro Tryz.func9 rfl Tryz.ntmps9 Tryz.results9 rfl (fun C => ?_)⟩
 refine ok_fact (x := .tmp 0) (ev_tmp rfl) fun f0 => ?_
 refine ok_fact (x := .tmp 1) (ev_tmp rfl) fun f1 => ?_
 iterate 10 refine z ?_
 refine ok_loop (ι := Nat) (fun zz => ⟨[(1, .one (.dv [] (opsD (b)))), (9, .one (.dv [] (opsD (a)))), (10, .one (.dv [] (.int .i64 ((((a)).length : Int))))), (11, .one (.dv [] (.int .i64 ((zz : Int)))))], [], []⟩) (fun zz => zz ≤ a.length ∧ (a.take zz).any (fun x => b.any (conf2 x)) = false) (fun zz => a.length - zz) (0) ?_ (weak_sub ⟨rfl, rfl, rfl, rfl, trivial⟩ trivial trivial rfl) (fun zz hx => ?_)
 ·exact ⟨Nat.zero_le _, rfl⟩
 obtain ⟨i, rfl⟩ : ∃ v, v = zz := ⟨_, rfl⟩
 replace hx : i ≤ a.length ∧ (a.take i).any (fun x => b.any (conf2 x)) = false := hx
 obtain ⟨hi, hall⟩ := hx
 show Ok _ _ _ _ _ (⟨[(1, .one (.dv [] (opsD (b)))), (9, .one (.dv [] (opsD (a)))), (10, .one (.dv [] (.int .i64 ((((a)).length : Int))))), (11, .one (.dv [] (.int .i64 ((i : Int)))))], [], []⟩ : St)
 iterate 3 refine z ?_
 refine ok_seq ?_
 refine yQ rfl (fun c1 => ?_) fun c1 => ?_
 ·skip
  have d1 := of_decide_eq_true c1
  iterate 16 refine z ?_
  refine ok_loop (ι := Nat) (fun zz => ⟨[(1, .one (.dv [] (opsD (b)))), (6, .box 6 0), (9, .one (.dv [] (opsD (a)))), (10, .one (.dv [] (.int .i64 ((((a)).length : Int))))), (11, .one (.dv [] (.int .i64 ((i : Int))))), (15, .one (.dv [] (opsD (b)))), (16, .one (.dv [] (.int .i64 ((((b)).length : Int))))), (17, .one (.dv [] (.int .i64 ((zz : Int)))))], [(6, 68, [(.dv [] (.int .i64 ((((a)).getD ((i : Int)).toNat default).1))), (.dv [] (.str ((((a)).getD ((i : Int)).toNat default).2.1))), (.dv [] (.int .i64 ((((a)).getD ((i : Int)).toNat default).2.2.1.1))), (.dv [] (.int .i64 ((((a)).getD ((i : Int)).toNat default).2.2.1.2.1))), (.dv [] (.str ((((a)).getD ((i : Int)).toNat default).2.2.1.2.2))), (.dv [] (fieldsD ((((a)).getD ((i : Int)).toNat default).2.2.2.1))), (.dv [] (.str ((((a)).getD ((i : Int)).toNat default).2.2.2.2)))])], []⟩) (fun zz => zz ≤ b.length ∧ (b.take zz).any (conf2 (a.getD (i : Int).toNat default)) = false) (fun zz => b.length - zz) (0) ?_ (weak_sub ⟨rfl, rfl, rfl, rfl, rfl, rfl, rfl, rfl, trivial⟩ ⟨rfl, trivial⟩ trivial rfl) (fun zz hx => ?_)
  ·exact ⟨Nat.zero_le _, rfl⟩
  obtain ⟨j, rfl⟩ : ∃ v, v = zz := ⟨_, rfl⟩
  replace hx : j ≤ b.length ∧ (b.take j).any (conf2 (a.getD (i : Int).toNat default)) = false := hx
  obtain ⟨hj, hall2⟩ := hx
  show Ok _ _ _ _ _ (⟨[(1, .one (.dv [] (opsD (b)))), (6, .box 6 0), (9, .one (.dv [] (opsD (a)))), (10, .one (.dv [] (.int .i64 ((((a)).length : Int))))), (11, .one (.dv [] (.int .i64 ((i : Int))))), (15, .one (.dv [] (opsD (b)))), (16, .one (.dv [] (.int .i64 ((((b)).length : Int))))), (17, .one (.dv [] (.int .i64 ((j : Int)))))], [(6, 68, [(.dv [] (.int .i64 ((((a)).getD ((i : Int)).toNat default).1))), (.dv [] (.str ((((a)).getD ((i : Int)).toNat default).2.1))), (.dv [] (.int .i64 ((((a)).getD ((i : Int)).toNat default).2.2.1.1))), (.dv [] (.int .i64 ((((a)).getD ((i : Int)).toNat default).2.2.1.2.1))), (.dv [] (.str ((((a)).getD ((i : Int)).toNat default).2.2.1.2.2))), (.dv [] (fieldsD ((((a)).getD ((i : Int)).toNat default).2.2.2.1))), (.dv [] (.str ((((a)).getD ((i : Int)).toNat default).2.2.2.2)))])], []⟩ : St)
  iterate 3 refine z ?_
  refine ok_seq ?_
  refine yQ rfl (fun c2 => ?_) fun c2 => ?_
  ·skip
   have d2 := of_decide_eq_true c2
   iterate 18 refine z ?_
   refine o_callG (gd_bool rfl rfl rfl rfl rfl) rfl rfl Tryz.call23 ok_impl_IsWrite (fun hg => (as_cons (ev_opt rfl hg) (ag_agg (ag_cons ac_dv (ag_cons ac_dv (ag_cons ac_dv (ag_cons ac_dv (ag_cons ac_dv (ag_cons ac_dv (ag_cons ac_dv ag_nil)))))))) as_nil)) rfl rfl ?_
   iterate 2 refine z ?_
   refine o_callG (gd_opt rfl rfl rfl rfl rfl) rfl rfl Tryz.call23 ok_impl_IsWrite (fun hg => (as_cons (ev_opt rfl hg) (ag_agg (ag_cons ac_dv (ag_cons ac_dv (ag_cons ac_dv (ag_cons ac_dv (ag_cons ac_dv (ag_cons ac_dv (ag_cons ac_dv ag_nil)))))))) as_nil)) rfl rfl ?_
   iterate 3 refine z ?_
   refine yQ rfl (fun c3 => ?_) fun c3 => ?_
   ·skip
    iterate 14 refine z ?_
    have h1 : b.any (conf2 (a.getD i default)) = true := any_yes (k := j) (d := default) (by omega) c3
    have h2 : a.any (fun x => b.any (conf2 x)) = true := any_yes (k := i) (d := default) (by omega) h1
    exact h2.symm
   ·skip
    iterate 3 refine z ?_
    refine ok_region ?_
    iterate 3 refine z ?_
    refine ⟨j + 1, ?_, ?_, weak_sub ⟨rfl, rfl, rfl, rfl, rfl, rfl, rfl, rfl, trivial⟩ ⟨rfl, trivial⟩ trivial rfl⟩
    ·exact ⟨by omega, any_step (d := default) hall2 (by omega) (by first | exact c3 | exact c4 | exact c2)⟩
    ·omega
  ·skip
   have d2 := of_decide_eq_false c2
   iterate 6 refine z ?_
   refine ok_region ?_
   iterate 3 refine z ?_
   refine ⟨i + 1, ?_, ?_, weak_sub ⟨rfl, rfl, rfl, rfl, trivial⟩ trivial trivial rfl⟩
   ·exact ⟨by omega, any_step (d := default) hall (by omega) (any_no hall2 (by omega))⟩
   ·omega
 ·skip
  have d1 := of_decide_eq_false c1
  iterate 10 refine z ?_
  exact (any_no (k := i) hall (by omega)).symm
end Go.Proofs.YtjkpoekgnmgofaaGreat

namespace Go.Proofs.YtjkpoekgnmgofaaGreat
open Go.RowKit
open Go.Proofs
set_option linter.unusedVariables false
set_option linter.unusedSimpArgs false

def eqL {α : Type} [Inhabited α] (p : α → α → Bool) (xs ys : List α) : Bool := decide ((xs.length : Int) = (ys.length : Int)) && (List.range xs.length).all (fun i => p (xs.getD (i : Int).toNat default) (ys.getD (i : Int).toNat default))
theorem eqL_len {α : Type} [Inhabited α] {p : α → α → Bool} {xs ys : List α} (h : ¬ (xs.length : Int) = (ys.length : Int)) : eqL p xs ys = false := by simp only [eqL, decide_eq_false h, Bool.false_and]
theorem eqL_no {α : Type} [Inhabited α] {p : α → α → Bool} {xs ys : List α} {k : Nat} (hk : k < xs.length) (h : p (xs.getD (k : Int).toNat default) (ys.getD (k : Int).toNat default) = false) : eqL p xs ys = false := by
 unfold eqL
 rw [rall_no (p := fun i => p (xs.getD (i : Int).toNat default) (ys.getD (i : Int).toNat default)) hk h, Bool.and_false]
theorem eqL_yes {α : Type} [Inhabited α] {p : α → α → Bool} {xs ys : List α} {k : Nat} (hl : (xs.length : Int) = (ys.length : Int)) (h : (List.range k).all (fun i => p (xs.getD (i : Int).toNat default) (ys.getD (i : Int).toNat default)) = true) (hk : k = xs.length) : eqL p xs ys = true := by
 subst hk
 unfold eqL
 rw [h, decide_eq_true hl]; rfl
def eqFld (f g : FieldT) : Bool := sEq f.1 g.1 && decide (f.2 = g.2)
def eqRec (r s : RecT) : Bool := eqL eqFld r s
def eqKeyB (k l : KeyT) : Bool := decide (k.1 = l.1) && (decide (k.2.1 = l.2.1) && sEq k.2.2 l.2.2)
def eqItemB (x y : ItemT) : Bool := eqKeyB x.1 y.1 && eqRec x.2 y.2
def eqStoreB (s t : StoreT) : Bool := (sEq s.1 t.1 && decide (s.2.2 = t.2.2)) && eqL eqItemB s.2.1 t.2.1
def eqDefB (d e : DefT) : Bool := sEq d.1 e.1 && sEq d.2 e.2
def eqDbB (d e : DbT) : Bool := ((sEq d.1 e.1 && decide (d.2.1 = e.2.1)) && eqL eqStoreB d.2.2.1 e.2.2.1) && eqL eqDefB d.2.2.2 e.2.2.2
theorem ok_slices_Equal_Field {x y : List (FieldT)}  : PFn Tryz.prog 128 [.one (.dv [] (fieldsD (x))), .one (.dv [] (fieldsD (y)))] (.one (.dv [] (.bool (eqL eqFld x y)))) := by
 refine ⟨fn_intro Tryz.func128 rfl Tryz.ntmps128 Tryz.results128 rfl (fun C => ?_)⟩
 refine ok_fact (x := .tmp 0) (ev_tmp rfl) fun f0 => ?_
 refine ok_fact (x := .tmp 1) (ev_tmp rfl) fun f1 => ?_
 iterate 11 refine z ?_
 refine yQ rfl (fun c1 => ?_) fun c1 => ?_
 ·skip
  have d1 := nd_t c1
  iterate 6 refine z ?_
  exact (eqL_len d1).symm
 ·skip
  have d1 := nd_f c1
  iterate 9 refine z ?_
  refine ok_loop (ι := Nat) (fun zz => ⟨[(0, .one (.dv [] (fieldsD (x)))), (1, .one (.dv [] (fieldsD (y)))), (12, .one (.dv [] (.int .i64 ((((x)).length : Int))))), (13, .one (.dv [] (.int .i64 ((zz : Int)))))], [], []⟩) (fun zz => zz ≤ x.length ∧ (List.range zz).all (fun i => eqFld (x.getD (i : Int).toNat default) (y.getD (i : Int).toNat default)) = true) (fun zz => x.length - zz) (0) ?_ (weak_sub ⟨rfl, rfl, rfl, rfl, trivial⟩ trivial trivial rfl) (fun zz hx => ?_)
  ·exact ⟨Nat.zero_le _, rfl⟩
  obtain ⟨k, rfl⟩ : ∃ v, v = zz := ⟨_, rfl⟩
  replace hx : k ≤ x.length ∧ (List.range k).all (fun i => eqFld (x.getD (i : Int).toNat default) (y.getD (i : Int).toNat default)) = true := hx
  obtain ⟨hk, hall⟩ := hx
  show Ok _ _ _ _ _ (⟨[(0, .one (.dv [] (fieldsD (x)))), (1, .one (.dv [] (fieldsD (y)))), (12, .one (.dv [] (.int .i64 ((((x)).length : Int))))), (13, .one (.dv [] (.int .i64 ((k : Int)))))], [], []⟩ : St)
  iterate 3 refine z ?_
  refine ok_seq ?_
  refine yQ rfl (fun c2 => ?_) fun c2 => ?_
  ·skip
   have d2 := of_decide_eq_true c2
   iterate 8 refine z ?_
   refine ok_seq ?_
   refine ok_regionD (oB := []) (oK := []) (by kernel_rfl) rfl rfl ?_
   refine zD 0 ?_
   refine zD 1 ?_
   refine zD 2 ?_
   refine zD 3 ?_
   refine zD 4 ?_
   refine zD 5 ?_
   refine zD 6 ?_
   refine zD 7 ?_
   refine d_take 8 rfl (by kernel_rfl) rfl rfl (pu_cmpA rfl (ev_tmp rfl) (ev_tmp rfl) rfl rfl Tryz.eqGuardType137 (neq_Field _ _ _ _)) rfl rfl rfl rfl ?_
   refine d_done (by kernel_rfl) ?_
   refine z ?_
   refine yQ rfl (fun c3 => ?_) fun c3 => ?_
   ·skip
    iterate 10 refine z ?_
    exact (eqL_no (k := k) (by omega) (by have h := c3; grind [eqFld])).symm
   ·skip
    iterate 3 refine z ?_
    refine ok_region ?_
    iterate 3 refine z ?_
    refine ⟨k + 1, ?_, ?_, weak_sub ⟨rfl, rfl, rfl, rfl, trivial⟩ trivial trivial rfl⟩
    ·exact ⟨by omega, rall_succ hall (by have h := c3; grind [eqFld])⟩
    ·omega
  ·skip
   have d2 := of_decide_eq_false c2
   iterate 10 refine z ?_
   exact (eqL_yes d1 hall (by omega)).symm
theorem ok_impl_EqualRecords {x y : RecT}  : PFn Tryz.prog 83 [.agg [(.dv [] (fieldsD (x)))], .agg [(.dv [] (fieldsD (y)))]] (.one (.dv [] (.bool (eqRec x y)))) := by
 refine ⟨fn_intro Tryz.func83 rfl Tryz.ntmps83 Tryz.results83 rfl (fun C => ?_)⟩
 refine yF 0 0 rfl rfl fun f0_0 => ?_
 refine yF 1 0 rfl rfl fun f1_0 => ?_
 iterate 10 refine z ?_
 refine zC Tryz.call128 ?_ (hf := ok_slices_Equal_Field)
 iterate 4 refine z ?_
 rfl
end Go.Proofs.YtjkpoekgnmgofaaGreat

namespace Go.Proofs.YtjkpoekgnmgofaaGreat
open Go.RowKit
open Go.Proofs
set_option linter.unusedVariables false
set_option linter.unusedSimpArgs false

def findI {α : Type} (p : α → Bool) : List α → Int → Int
 | [], _ => -1
 | x :: xs, i => if p x then i else findI p xs (i + 1)
theorem findI_skip {α : Type} {p : α → Bool} : ∀ {xs : List α} {k : Nat} {i : Int}, (xs.take k).any p = false → k ≤ xs.length → findI p xs i = findI p (xs.drop k) (i + k)
 | xs, 0, i, _, _ => by simp
 | [], k + 1, i, _, hk => by simp at hk
 | x :: xs, k + 1, i, h, hk => by
  simp only [List.take_succ_cons, List.any_cons, Bool.or_eq_false_iff] at h
  rw [findI, h.1, List.drop_succ_cons]
  simp only [Bool.false_eq_true, if_false]
  rw [findI_skip h.2 (by simpa using hk)]
  congr 1; omega
theorem findI_at {α : Type} {p : α → Bool} {xs : List α} {k : Nat} {d : α} (h : (xs.take k).any p = false) (hk : k < xs.length) (hp : p (xs.getD k d) = true) : findI p xs 0 = (k : Int) := by
 rw [findI_skip h (by omega), List.drop_eq_getElem_cons hk, findI]
 have : p xs[k] = true := by simpa [List.getD, List.getElem?_eq_getElem hk] using hp
 rw [if_pos this]; omega
theorem findI_none {α : Type} {p : α → Bool} {xs : List α} {k : Nat} (h : (xs.take k).any p = false) (hk : k = xs.length) : findI p xs 0 = -1 := by
 rw [findI_skip h (by omega), hk, List.drop_length]; rfl
theorem any_stepI {α : Type} {p : α → Bool} {l : List α} {k : Nat} {d : α} (h : (l.take k).any p = false) (hk : k < l.length) (hp : p (l.getD k d) = false) : (l.take (k + 1)).any p = false := by
 rw [List.take_succ_eq_append_getElem hk, List.any_append, h]
 simp only [List.any_cons, List.any_nil, Bool.or_false, Bool.false_or]
 simpa [List.getD, List.getElem?_eq_getElem hk] using hp
def hasName (n : Str) (s : StoreT) : Bool := sEq s.1 n

theorem ok_impl_FindStore_1 {x : StoreT} {n : Str}  : PFn Tryz.prog 44 [.agg [(.dv [] (.str (x.1))), (.dv [] (itemsD (x.2.1))), (.dv [] (.int .i64 (x.2.2)))], .ref [] [.str (n)]] (.one (.dv [] (.bool (hasName n x)))) := by
 refine ⟨fn_intro Tryz.func44 rfl Tryz.ntmps44 Tryz.results44 rfl (fun C => ?_)⟩
 refine yF 0 0 rfl rfl fun f0_0 => ?_
 refine yF 0 1 rfl rfl fun f0_1 => ?_
 refine yF 0 2 rfl rfl fun f0_2 => ?_
 iterate 13 refine z ?_
 rfl
theorem ok_slices_IndexFunc_Store {x : List StoreT} {n : Str}  : PFn Tryz.prog 43 [.one (.dv [] (storesD (x))), .fn 44 [[.str (n)]]] (.one (.dv [] (.int .i64 (findI (hasName n) x 0)))) := by
 refine ⟨fn_intro Tryz.func43 rfl Tryz.ntmps43 Tryz.results43 rfl (fun C => ?_)⟩
 refine ok_fact (x := .tmp 0) (ev_tmp rfl) fun f0 => ?_
 iterate 10 refine z ?_
 refine ok_loop (ι := Nat) (fun zz => ⟨[(0, .one (.dv [] (storesD (x)))), (1, .fn 44 [[.str (n)]]), (7, .one (.dv [] (.int .i64 ((((x)).length : Int))))), (8, .one (.dv [] (.int .i64 ((zz : Int)))))], [], []⟩) (fun zz => zz ≤ x.length ∧ (x.take zz).any (hasName n) = false) (fun zz => x.length - zz) (0) ?_ (weak_sub ⟨rfl, rfl, rfl, rfl, trivial⟩ trivial trivial rfl) (fun zz hx => ?_)
 ·exact ⟨Nat.zero_le _, rfl⟩
 obtain ⟨k, rfl⟩ : ∃ v, v = zz := ⟨_, rfl⟩
 replace hx : k ≤ x.length ∧ (x.take k).any (hasName n) = false := hx
 obtain ⟨hk, hall⟩ := hx
 show Ok _ _ _ _ _ (⟨[(0, .one (.dv [] (storesD (x)))), (1, .fn 44 [[.str (n)]]), (7, .one (.dv [] (.int .i64 ((((x)).length : Int))))), (8, .one (.dv [] (.int .i64 ((k : Int)))))], [], []⟩ : St)
 iterate 3 refine z ?_
 refine ok_seq ?_
 refine yQ rfl (fun c1 => ?_) fun c1 => ?_
 ·skip
  have d1 := of_decide_eq_true c1
  iterate 14 refine z ?_
  refine o_callV rfl rfl rfl (ev_tmp rfl) Tryz.call44 ok_impl_FindStore_1 (as_cons (ev_tmp rfl) (ag_agg (ag_cons ac_dv (ag_cons ac_dv (ag_cons ac_dv ag_nil)))) as_nil) rfl rfl ?_
  refine z ?_
  refine yQ rfl (fun c2 => ?_) fun c2 => ?_
  ·skip
   iterate 11 refine z ?_
   exact (findI_at (p := hasName n) (d := default) hall (by omega) c2).symm
  ·skip
   iterate 3 refine z ?_
   refine ok_region ?_
   iterate 3 refine z ?_
   refine ⟨k + 1, ?_, ?_, weak_sub ⟨rfl, rfl, rfl, rfl, trivial⟩ trivial trivial rfl⟩
   ·exact ⟨by omega, any_stepI (d := default) hall (by omega) c2⟩
   ·omega
 ·skip
  have d1 := of_decide_eq_false c1
  iterate 10 refine z ?_
  exact (findI_none (p := hasName n) hall (by omega)).symm
theorem ok_impl_FindStore {x : DbT} {n : Str}  : PFn Tryz.prog 21 [.agg [(.dv [] (.str (x.1))), (.dv [] (.int .i64 (x.2.1))), (.dv [] (storesD (x.2.2.1))), (.dv [] (defsD (x.2.2.2)))], .one (.dv [] (.str (n)))] (.one (.dv [] (.int .i64 (findI (hasName n) x.2.2.1 0)))) := by
 refine ⟨fn_intro Tryz.func21 rfl Tryz.ntmps21 Tryz.results21 rfl (fun C => ?_)⟩
 refine yF 0 0 rfl rfl fun f0_0 => ?_
 refine yF 0 1 rfl rfl fun f0_1 => ?_
 refine yF 0 2 rfl rfl fun f0_2 => ?_
 refine yF 0 3 rfl rfl fun f0_3 => ?_
 refine ok_fact (x := .tmp 1) (ev_tmp rfl) fun f1 => ?_
 iterate 8 refine z ?_
 refine yO rfl rfl (pu_clo1 rfl (ev_tmp rfl)) rfl ?_
 refine o_call rfl rfl rfl Tryz.call43 ok_slices_IndexFunc_Store (as_cons (ev_tmp rfl) (ag_one ac_dv) (as_cons (ev_tmp rfl) (a_clo (clo_cons rfl rfl clo_nil)) as_nil)) rfl rfl ?_
 iterate 4 refine z ?_
 rfl
theorem ok_spec_FindStore {x : DbT} {n : Str}  : PFn Tryz.prog 56 [.agg [(.dv [] (.str (x.1))), (.dv [] (.int .i64 (x.2.1))), (.dv [] (storesD (x.2.2.1))), (.dv [] (defsD (x.2.2.2)))], .one (.dv [] (.str (n)))] (.one (.dv [] (.int .i64 (findI (hasName n) x.2.2.1 0)))) := by
 refine ⟨fn_intro Tryz.func56 rfl Tryz.ntmps56 Tryz.results56 rfl (fun C => ?_)⟩
 refine yF 0 0 rfl rfl fun f0_0 => ?_
 refine yF 0 1 rfl rfl fun f0_1 => ?_
 refine yF 0 2 rfl rfl fun f0_2 => ?_
 refine yF 0 3 rfl rfl fun f0_3 => ?_
 refine ok_fact (x := .tmp 1) (ev_tmp rfl) fun f1 => ?_
 iterate 9 refine z ?_
 refine ok_loop (ι := Nat) (fun zz => ⟨[(1, .one (.dv [] (.str (n)))), (2, .box 2 0), (5, .one (.dv [] (.int .i64 ((zz : Int)))))], [(2, 27, [(.dv [] (.str (x.1))), (.dv [] (.int .i64 (x.2.1))), (.dv [] (storesD (x.2.2.1))), (.dv [] (defsD (x.2.2.2)))])], []⟩) (fun zz => zz ≤ x.2.2.1.length ∧ (x.2.2.1.take zz).any (hasName n) = false) (fun zz => x.2.2.1.length - zz) (0) ?_ (weak_sub ⟨rfl, rfl, rfl, trivial⟩ ⟨rfl, trivial⟩ trivial rfl) (fun zz hx => ?_)
 ·exact ⟨Nat.zero_le _, rfl⟩
 obtain ⟨k, rfl⟩ : ∃ v, v = zz := ⟨_, rfl⟩
 replace hx : k ≤ x.2.2.1.length ∧ (x.2.2.1.take k).any (hasName n) = false := hx
 obtain ⟨hk, hall⟩ := hx
 show Ok _ _ _ _ _ (⟨[(1, .one (.dv [] (.str (n)))), (2, .box 2 0), (5, .one (.dv [] (.int .i64 ((k : Int)))))], [(2, 27, [(.dv [] (.str (x.1))), (.dv [] (.int .i64 (x.2.1))), (.dv [] (storesD (x.2.2.1))), (.dv [] (defsD (x.2.2.2)))])], []⟩ : St)
 iterate 8 refine z ?_
 refine yQ rfl (fun c1 => ?_) fun c1 => ?_
 ·skip
  have d1 := of_decide_eq_true c1
  iterate 14 refine z ?_
  refine yQ rfl (fun c2 => ?_) fun c2 => ?_
  ·skip
   iterate 11 refine z ?_
   exact (findI_at (p := hasName n) (d := default) hall (by omega) c2).symm
  ·skip
   iterate 3 refine z ?_
   refine ok_region ?_
   iterate 4 refine z ?_
   refine ⟨k + 1, ?_, ?_, weak_sub ⟨rfl, rfl, rfl, trivial⟩ ⟨rfl, trivial⟩ trivial rfl⟩
   ·exact ⟨by omega, any_stepI (d := default) hall (by omega) c2⟩
   ·omega
 ·skip
  have d1 := of_decide_eq_false c1
  iterate 10 refine z ?_
  exact (findI_none (p := hasName n) hall (by omega)).symm
end Go.Proofs.YtjkpoekgnmgofaaGreat

namespace Go.Proofs.YtjkpoekgnmgofaaGreat
open Go.RowKit
open Go.Proofs
set_option linter.unusedVariables false
set_option linter.unusedSimpArgs false
theorem ok_impl_equalItems {x y : ItemT}  : PFn Tryz.prog 49 [.agg [(.dv [] (.int .i64 (x.1.1))), (.dv [] (.int .i64 (x.1.2.1))), (.dv [] (.str (x.1.2.2))), (.dv [] (fieldsD (x.2)))], .agg [(.dv [] (.int .i64 (y.1.1))), (.dv [] (.int .i64 (y.1.2.1))), (.dv [] (.str (y.1.2.2))), (.dv [] (fieldsD (y.2)))]] (.one (.dv [] (.bool (eqItemB x y)))) := by
 refine ⟨fn_intro Tryz.func49 rfl Tryz.ntmps49 Tryz.results49 rfl (fun C => ?_)⟩
 refine yF 0 0 rfl rfl fun f0_0 => ?_
 refine yF 0 1 rfl rfl fun f0_1 => ?_
 refine yF 0 2 rfl rfl fun f0_2 => ?_
 refine yF 0 3 rfl rfl fun f0_3 => ?_
 refine yF 1 0 rfl rfl fun f1_0 => ?_
 refine yF 1 1 rfl rfl fun f1_1 => ?_
 refine yF 1 2 rfl rfl fun f1_2 => ?_
 refine yF 1 3 rfl rfl fun f1_3 => ?_
 iterate 10 refine z ?_
 refine yO rfl rfl (pu_cmpA rfl (ev_tmp rfl) (ev_tmp rfl) rfl rfl Tryz.eqGuardType63 (eql_Key _ _ _ _ _ _)) rfl ?_
 iterate 5 refine z ?_
 refine o_callG (gd_bool rfl rfl rfl rfl rfl) rfl rfl Tryz.call83 ok_impl_EqualRecords (fun hg => (as_cons (ev_opt rfl hg) (ag_agg (ag_cons ac_dv ag_nil)) (as_cons (ev_opt rfl hg) (ag_agg (ag_cons ac_dv ag_nil)) as_nil))) rfl rfl ?_
 iterate 5 refine z ?_
 rfl
theorem ok_slices_EqualFunc_Item {x y : List (ItemT)}  : PFn Tryz.prog 48 [.one (.dv [] (itemsD (x))), .one (.dv [] (itemsD (y))), .fn 49 []] (.one (.dv [] (.bool (eqL eqItemB x y)))) := by
 refine ⟨fn_intro Tryz.func48 rfl Tryz.ntmps48 Tryz.results48 rfl (fun C => ?_)⟩
 refine ok_fact (x := .tmp 0) (ev_tmp rfl) fun f0 => ?_
 refine ok_fact (x := .tmp 1) (ev_tmp rfl) fun f1 => ?_
 iterate 11 refine z ?_
 refine yQ rfl (fun c1 => ?_) fun c1 => ?_
 ·skip
  have d1 := nd_t c1
  iterate 6 refine z ?_
  exact (eqL_len d1).symm
 ·skip
  have d1 := nd_f c1
  iterate 9 refine z ?_
  refine ok_loop (ι := Nat) (fun zz => ⟨[(1, .one (.dv [] (itemsD (y)))), (2, .fn 49 []), (15, .one (.dv [] (itemsD (x)))), (16, .one (.dv [] (.int .i64 ((((x)).length : Int))))), (17, .one (.dv [] (.int .i64 ((zz : Int)))))], [], []⟩) (fun zz => zz ≤ x.length ∧ (List.range zz).all (fun i => eqItemB (x.getD (i : Int).toNat default) (y.getD (i : Int).toNat default)) = true) (fun zz => x.length - zz) (0) ?_ (weak_sub ⟨rfl, rfl, rfl, rfl, rfl, trivial⟩ trivial trivial rfl) (fun zz hx => ?_)
  ·exact ⟨Nat.zero_le _, rfl⟩
  obtain ⟨k, rfl⟩ : ∃ v, v = zz := ⟨_, rfl⟩
  replace hx : k ≤ x.length ∧ (List.range k).all (fun i => eqItemB (x.getD (i : Int).toNat default) (y.getD (i : Int).toNat default)) = true := hx
  obtain ⟨hk, hall⟩ := hx
  show Ok _ _ _ _ _ (⟨[(1, .one (.dv [] (itemsD (y)))), (2, .fn 49 []), (15, .one (.dv [] (itemsD (x)))), (16, .one (.dv [] (.int .i64 ((((x)).length : Int))))), (17, .one (.dv [] (.int .i64 ((k : Int)))))], [], []⟩ : St)
  iterate 3 refine z ?_
  refine ok_seq ?_
  refine yQ rfl (fun c2 => ?_) fun c2 => ?_
  ·skip
   have d2 := of_decide_eq_true c2
   iterate 24 refine z ?_
   refine o_callV rfl rfl rfl (ev_tmp rfl) Tryz.call49 ok_impl_equalItems (as_cons (ev_tmp rfl) (ag_agg (ag_cons ac_dv (ag_cons ac_dv (ag_cons ac_dv (ag_cons ac_dv ag_nil))))) (as_cons (ev_tmp rfl) (ag_agg (ag_cons ac_dv (ag_cons ac_dv (ag_cons ac_dv (ag_cons ac_dv ag_nil))))) as_nil)) rfl rfl ?_
   iterate 2 refine z ?_
   refine yQ rfl (fun c3 => ?_) fun c3 => ?_
   ·skip
    iterate 10 refine z ?_
    exact (eqL_no (k := k) (by omega) (by have h := c3; simpa using h)).symm
   ·skip
    iterate 3 refine z ?_
    refine ok_region ?_
    iterate 3 refine z ?_
    refine ⟨k + 1, ?_, ?_, weak_sub ⟨rfl, rfl, rfl, rfl, rfl, trivial⟩ trivial trivial rfl⟩
    ·exact ⟨by omega, rall_succ hall (by have h := c3; simpa using h)⟩
    ·omega
  ·skip
   have d2 := of_decide_eq_false c2
   iterate 10 refine z ?_
   exact (eqL_yes d1 hall (by omega)).symm
theorem ok_impl_EqualStores {x y : StoreT}  : PFn Tryz.prog 28 [.agg [(.dv [] (.str (x.1))), (.dv [] (itemsD (x.2.1))), (.dv [] (.int .i64 (x.2.2)))], .agg [(.dv [] (.str (y.1))), (.dv [] (itemsD (y.2.1))), (.dv [] (.int .i64 (y.2.2)))]] (.one (.dv [] (.bool (eqStoreB x y)))) := by
 refine ⟨fn_intro Tryz.func28 rfl Tryz.ntmps28 Tryz.results28 rfl (fun C => ?_)⟩
 refine yF 0 0 rfl rfl fun f0_0 => ?_
 refine yF 0 1 rfl rfl fun f0_1 => ?_
 refine yF 0 2 rfl rfl fun f0_2 => ?_
 refine yF 1 0 rfl rfl fun f1_0 => ?_
 refine yF 1 1 rfl rfl fun f1_1 => ?_
 refine yF 1 2 rfl rfl fun f1_2 => ?_
 iterate 23 refine z ?_
 refine o_callG (gd_bool rfl rfl rfl rfl rfl) rfl rfl Tryz.call48 ok_slices_EqualFunc_Item (fun hg => (as_cons (ev_opt rfl hg) (ag_one ac_dv) (as_cons (ev_opt rfl hg) (ag_one ac_dv) (as_cons ev_func a_fn as_nil)))) rfl rfl ?_
 iterate 5 refine z ?_
 rfl
theorem ok_slices_EqualFunc_Store {x y : List (StoreT)}  : PFn Tryz.prog 27 [.one (.dv [] (storesD (x))), .one (.dv [] (storesD (y))), .fn 28 []] (.one (.dv [] (.bool (eqL eqStoreB x y)))) := by
 refine ⟨fn_intro Tryz.func27 rfl Tryz.ntmps27 Tryz.results27 rfl (fun C => ?_)⟩
 refine ok_fact (x := .tmp 0) (ev_tmp rfl) fun f0 => ?_
 refine ok_fact (x := .tmp 1) (ev_tmp rfl) fun f1 => ?_
 iterate 11 refine z ?_
 refine yQ rfl (fun c1 => ?_) fun c1 => ?_
 ·skip
  have d1 := nd_t c1
  iterate 6 refine z ?_
  exact (eqL_len d1).symm
 ·skip
  have d1 := nd_f c1
  iterate 9 refine z ?_
  refine ok_loop (ι := Nat) (fun zz => ⟨[(1, .one (.dv [] (storesD (y)))), (2, .fn 28 []), (15, .one (.dv [] (storesD (x)))), (16, .one (.dv [] (.int .i64 ((((x)).length : Int))))), (17, .one (.dv [] (.int .i64 ((zz : Int)))))], [], []⟩) (fun zz => zz ≤ x.length ∧ (List.range zz).all (fun i => eqStoreB (x.getD (i : Int).toNat default) (y.getD (i : Int).toNat default)) = true) (fun zz => x.length - zz) (0) ?_ (weak_sub ⟨rfl, rfl, rfl, rfl, rfl, trivial⟩ trivial trivial rfl) (fun zz hx => ?_)
  ·exact ⟨Nat.zero_le _, rfl⟩
  obtain ⟨k, rfl⟩ : ∃ v, v = zz := ⟨_, rfl⟩
  replace hx : k ≤ x.length ∧ (List.range k).all (fun i => eqStoreB (x.getD (i : Int).toNat default) (y.getD (i : Int).toNat default)) = true := hx
  obtain ⟨hk, hall⟩ := hx
  show Ok _ _ _ _ _ (⟨[(1, .one (.dv [] (storesD (y)))), (2, .fn 28 []), (15, .one (.dv [] (storesD (x)))), (16, .one (.dv [] (.int .i64 ((((x)).length : Int))))), (17, .one (.dv [] (.int .i64 ((k : Int)))))], [], []⟩ : St)
  iterate 3 refine z ?_
  refine ok_seq ?_
  refine yQ rfl (fun c2 => ?_) fun c2 => ?_
  ·skip
   have d2 := of_decide_eq_true c2
   iterate 24 refine z ?_
   refine o_callV rfl rfl rfl (ev_tmp rfl) Tryz.call28 ok_impl_EqualStores (as_cons (ev_tmp rfl) (ag_agg (ag_cons ac_dv (ag_cons ac_dv (ag_cons ac_dv ag_nil)))) (as_cons (ev_tmp rfl) (ag_agg (ag_cons ac_dv (ag_cons ac_dv (ag_cons ac_dv ag_nil)))) as_nil)) rfl rfl ?_
   iterate 2 refine z ?_
   refine yQ rfl (fun c3 => ?_) fun c3 => ?_
   ·skip
    iterate 10 refine z ?_
    exact (eqL_no (k := k) (by omega) (by have h := c3; simpa using h)).symm
   ·skip
    iterate 3 refine z ?_
    refine ok_region ?_
    iterate 3 refine z ?_
    refine ⟨k + 1, ?_, ?_, weak_sub ⟨rfl, rfl, rfl, rfl, rfl, trivial⟩ trivial trivial rfl⟩
    ·exact ⟨by omega, rall_succ hall (by have h := c3; simpa using h)⟩
    ·omega
  ·skip
   have d2 := of_decide_eq_false c2
   iterate 10 refine z ?_
   exact (eqL_yes d1 hall (by omega)).symm
theorem ok_slices_Equal_IndexDef {x y : List (DefT)}  : PFn Tryz.prog 29 [.one (.dv [] (defsD (x))), .one (.dv [] (defsD (y)))] (.one (.dv [] (.bool (eqL eqDefB x y)))) := by
 refine ⟨fn_intro Tryz.func29 rfl Tryz.ntmps29 Tryz.results29 rfl (fun C => ?_)⟩
 refine ok_fact (x := .tmp 0) (ev_tmp rfl) fun f0 => ?_
 refine ok_fact (x := .tmp 1) (ev_tmp rfl) fun f1 => ?_
 iterate 11 refine z ?_
 refine yQ rfl (fun c1 => ?_) fun c1 => ?_
 ·skip
  have d1 := nd_t c1
  iterate 6 refine z ?_
  exact (eqL_len d1).symm
 ·skip
  have d1 := nd_f c1
  iterate 9 refine z ?_
  refine ok_loop (ι := Nat) (fun zz => ⟨[(0, .one (.dv [] (defsD (x)))), (1, .one (.dv [] (defsD (y)))), (12, .one (.dv [] (.int .i64 ((((x)).length : Int))))), (13, .one (.dv [] (.int .i64 ((zz : Int)))))], [], []⟩) (fun zz => zz ≤ x.length ∧ (List.range zz).all (fun i => eqDefB (x.getD (i : Int).toNat default) (y.getD (i : Int).toNat default)) = true) (fun zz => x.length - zz) (0) ?_ (weak_sub ⟨rfl, rfl, rfl, rfl, trivial⟩ trivial trivial rfl) (fun zz hx => ?_)
  ·exact ⟨Nat.zero_le _, rfl⟩
  obtain ⟨k, rfl⟩ : ∃ v, v = zz := ⟨_, rfl⟩
  replace hx : k ≤ x.length ∧ (List.range k).all (fun i => eqDefB (x.getD (i : Int).toNat default) (y.getD (i : Int).toNat default)) = true := hx
  obtain ⟨hk, hall⟩ := hx
  show Ok _ _ _ _ _ (⟨[(0, .one (.dv [] (defsD (x)))), (1, .one (.dv [] (defsD (y)))), (12, .one (.dv [] (.int .i64 ((((x)).length : Int))))), (13, .one (.dv [] (.int .i64 ((k : Int)))))], [], []⟩ : St)
  iterate 3 refine z ?_
  refine ok_seq ?_
  refine yQ rfl (fun c2 => ?_) fun c2 => ?_
  ·skip
   have d2 := of_decide_eq_true c2
   iterate 8 refine z ?_
   refine ok_seq ?_
   refine ok_regionD (oB := []) (oK := []) (by kernel_rfl) rfl rfl ?_
   refine zD 0 ?_
   refine zD 1 ?_
   refine zD 2 ?_
   refine zD 3 ?_
   refine zD 4 ?_
   refine zD 5 ?_
   refine zD 6 ?_
   refine zD 7 ?_
   refine d_take 8 rfl (by kernel_rfl) rfl rfl (pu_cmpA rfl (ev_tmp rfl) (ev_tmp rfl) rfl rfl Tryz.eqGuardType78 (neq_Def _ _ _ _)) rfl rfl rfl rfl ?_
   refine d_done (by kernel_rfl) ?_
   refine z ?_
   refine yQ rfl (fun c3 => ?_) fun c3 => ?_
   ·skip
    iterate 10 refine z ?_
    exact (eqL_no (k := k) (by omega) (by have h := c3; grind [eqDefB])).symm
   ·skip
    iterate 3 refine z ?_
    refine ok_region ?_
    iterate 3 refine z ?_
    refine ⟨k + 1, ?_, ?_, weak_sub ⟨rfl, rfl, rfl, rfl, trivial⟩ trivial trivial rfl⟩
    ·exact ⟨by omega, rall_succ hall (by have h := c3; grind [eqDefB])⟩
    ·omega
  ·skip
   have d2 := of_decide_eq_false c2
   iterate 10 refine z ?_
   exact (eqL_yes d1 hall (by omega)).symm
theorem ok_impl_EqualDatabases {x y : DbT}  : PFn Tryz.prog 11 [.agg [(.dv [] (.str (x.1))), (.dv [] (.int .i64 (x.2.1))), (.dv [] (storesD (x.2.2.1))), (.dv [] (defsD (x.2.2.2)))], .agg [(.dv [] (.str (y.1))), (.dv [] (.int .i64 (y.2.1))), (.dv [] (storesD (y.2.2.1))), (.dv [] (defsD (y.2.2.2)))]] (.one (.dv [] (.bool (eqDbB x y)))) := by
 refine ⟨fn_intro Tryz.func11 rfl Tryz.ntmps11 Tryz.results11 rfl (fun C => ?_)⟩
 refine yF 0 0 rfl rfl fun f0_0 => ?_
 refine yF 0 1 rfl rfl fun f0_1 => ?_
 refine yF 0 2 rfl rfl fun f0_2 => ?_
 refine yF 0 3 rfl rfl fun f0_3 => ?_
 refine yF 1 0 rfl rfl fun f1_0 => ?_
 refine yF 1 1 rfl rfl fun f1_1 => ?_
 refine yF 1 2 rfl rfl fun f1_2 => ?_
 refine yF 1 3 rfl rfl fun f1_3 => ?_
 iterate 23 refine z ?_
 refine o_callG (gd_bool rfl rfl rfl rfl rfl) rfl rfl Tryz.call27 ok_slices_EqualFunc_Store (fun hg => (as_cons (ev_opt rfl hg) (ag_one ac_dv) (as_cons (ev_opt rfl hg) (ag_one ac_dv) (as_cons ev_func a_fn as_nil)))) rfl rfl ?_
 iterate 6 refine z ?_
 refine o_callG (gd_bool rfl rfl rfl rfl rfl) rfl rfl Tryz.call29 ok_slices_Equal_IndexDef (fun hg => (as_cons (ev_opt rfl hg) (ag_one ac_dv) (as_cons (ev_opt rfl hg) (ag_one ac_dv) as_nil))) rfl rfl ?_
 iterate 5 refine z ?_
 rfl
end Go.Proofs.YtjkpoekgnmgofaaGreat

namespace Go.Proofs.YtjkpoekgnmgofaaGreat
open Go.RowKit
open Go.Proofs
set_option linter.unusedVariables false
set_option linter.unusedSimpArgs false

def blocks (q : List TxT) (i : Int) (t : TxT) : Bool := (decide (t.2.2.2.1 = 0) || decide (t.2.2.2.1 = 1)) && conf t.2.1 (q.getD i.toNat default).2.1
def canS (q : List TxT) (i : Int) : Bool := ((decide (0 ≤ i) && decide (i < (q.length : Int))) && decide ((q.getD i.toNat default).2.2.2.1 = 0)) && !(q.take i.toNat).any (blocks q i)
theorem take_getD {α : Type} {q : List α} {n k : Nat} {d : α} (h : k < n) : (q.take n).getD k d = q.getD k d := by simp [List.getD, List.getElem?_take, h]
theorem ok_impl_CanStart {q : List TxT} {i : Int}  : PFn Tryz.prog 7 [.agg [(.dv [] (txsD (q)))], .one (.dv [] (.int .i64 (i)))] (.one (.dv [] (.bool (canS q i)))) := by
 refine ⟨fn_intro Tryz.func7 rfl Tryz.ntmps7 Tryz.results7 rfl (fun C => ?_)⟩
 refine yF 0 0 rfl rfl fun f0_0 => ?_
 refine ok_fact (x := .tmp 1) (ev_tmp rfl) fun f1 => ?_
 iterate 25 refine z ?_
 refine yQ rfl (fun c1 => ?_) fun c1 => ?_
 ·skip
  iterate 6 refine z ?_
  have h := c1; grind [canS]
 ·skip
  have e1 : 0 ≤ i ∧ i < (q.length : Int) := by grind
  have e2 : (q.take i.toNat).length = i.toNat := by rw [List.length_take]; omega
  iterate 7 refine z ?_
  refine yO rfl rfl (pu_sliceH hT rfl rfl rfl (ev_tmp rfl) (ev_tmp rfl) (fun _ => rfl) (by omega) (by omega)) rfl ?_
  iterate 4 refine z ?_
  refine ok_loop (ι := Nat) (fun zz => ⟨[(1, .one (.dv [] (.int .i64 (i)))), (2, .box 2 0), (28, .one (.dv [] (txsD (((q)).take (i).toNat)))), (29, .one (.dv [] (.int .i64 ((((((q)).take (i).toNat)).length : Int))))), (30, .one (.dv [] (.int .i64 ((zz : Int)))))], [(2, 30, [(.dv [] (txsD (q)))])], []⟩) (fun zz => zz ≤ i.toNat ∧ ((q.take i.toNat).take zz).any (blocks q i) = false) (fun zz => i.toNat - zz) (0) ?_ (weak_sub ⟨rfl, rfl, rfl, rfl, rfl, trivial⟩ ⟨rfl, trivial⟩ trivial rfl) (fun zz hx => ?_)
  ·exact ⟨Nat.zero_le _, by simp⟩
  obtain ⟨k, rfl⟩ : ∃ v, v = zz := ⟨_, rfl⟩
  replace hx : k ≤ i.toNat ∧ ((q.take i.toNat).take k).any (blocks q i) = false := hx
  obtain ⟨hk, hall⟩ := hx
  show Ok _ _ _ _ _ (⟨[(1, .one (.dv [] (.int .i64 (i)))), (2, .box 2 0), (28, .one (.dv [] (txsD (((q)).take (i).toNat)))), (29, .one (.dv [] (.int .i64 ((((((q)).take (i).toNat)).length : Int))))), (30, .one (.dv [] (.int .i64 ((k : Int)))))], [(2, 30, [(.dv [] (txsD (q)))])], []⟩ : St)
  iterate 3 refine z ?_
  refine ok_seq ?_
  refine yQ rfl (fun c2 => ?_) fun c2 => ?_
  ·skip
   have d2 := of_decide_eq_true c2
   iterate 10 refine z ?_
   refine ok_seq ?_
   refine ok_regionD (oB := [2, 6]) (oK := []) (by kernel_rfl) rfl rfl ?_
   refine zD 0 ?_
   refine zD 1 ?_
   refine zD 2 ?_
   refine zD 3 ?_
   refine zDG 4 ?_
   refine zDG 5 ?_
   refine zDG 6 ?_
   refine zD 7 ?_
   refine zD 8 ?_
   refine zDG 9 ?_
   refine zDG 10 ?_
   refine zDG 11 ?_
   refine zDG 12 ?_
   refine zDG 13 ?_
   refine zDG 14 ?_
   refine zDG 15 ?_
   refine zDG 16 ?_
   refine d_callG 17 rfl (by kernel_rfl) (gd_bool rfl rfl rfl rfl rfl) rfl rfl Tryz.call9 ok_impl_Conflicts (fun hg => (as_cons (ev_opt rfl hg) (ag_one ac_dv) (as_cons (ev_opt rfl hg) (ag_one ac_dv) as_nil))) rfl rfl ?_
   refine zD 18 ?_
   refine d_done (by kernel_rfl) ?_
   refine z ?_
   refine yQ rfl (fun c3 => ?_) fun c3 => ?_
   ·skip
    iterate 10 refine z ?_
    have h2 : (q.take i.toNat).any (blocks q i) = true := any_yes (k := k) (d := default) (by rw [e2]; omega) (c3)
    rw [canS, h2]; simp
   ·skip
    iterate 3 refine z ?_
    refine ok_region ?_
    iterate 3 refine z ?_
    refine ⟨k + 1, ?_, ?_, weak_sub ⟨rfl, rfl, rfl, rfl, rfl, trivial⟩ ⟨rfl, trivial⟩ trivial rfl⟩
    ·exact ⟨by omega, any_step (d := default) hall (by rw [e2]; omega) (c3)⟩
    ·omega
  ·skip
   have d2 := of_decide_eq_false c2
   iterate 10 refine z ?_
   have h2 : (q.take i.toNat).any (blocks q i) = false := any_no (k := k) hall (by rw [e2]; omega)
   rw [canS, h2]; have h := c1; clear hall h2; grind
end Go.Proofs.YtjkpoekgnmgofaaGreat

namespace Go.Proofs.YtjkpoekgnmgofaaGreat
open Go.RowKit
open Go.Proofs
set_option linter.unusedVariables false
set_option linter.unusedSimpArgs false

def fName (n : Str) (f : FieldT) : Bool := sEq f.1 n
def getF (r : RecT) (n : Str) : Int × Bool := if findI (fName n) r 0 < 0 then (0, false) else ((r.getD (findI (fName n) r 0).toNat default).2, true)
theorem findI_lt {α : Type} {p : α → Bool} : ∀ (xs : List α) (i : Int), 0 ≤ i → findI p xs i < i + xs.length ∨ findI p xs i = -1
 | [], i, h => .inr rfl
 | x :: xs, i, h => by
  rw [findI]
  split
  ·left; simp; omega
  ·rcases findI_lt (p := p) xs (i + 1) (by omega) with h1 | h1
   ·left; simp only [List.length_cons]; omega
   ·exact .inr h1
theorem getF_at {r : RecT} {n : Str} {k : Nat} (h : (r.take k).any (fName n) = false) (hk : k < r.length) (hp : fName n (r.getD k default) = true) : getF r n = ((r.getD (k : Int).toNat default).2, true) := by
 have := findI_at (p := fName n) (d := default) h hk hp
 rw [getF, this, if_neg (by omega)]
theorem getF_none {r : RecT} {n : Str} {k : Nat} (h : (r.take k).any (fName n) = false) (hk : k = r.length) : getF r n = (0, false) := by
 rw [getF, findI_none (p := fName n) h hk]; rfl
theorem item_len (x : ItemT) : x.2.length ≤ wItem x := by unfold wItem wRecord wList; omega
theorem ok_impl_fieldAt_1 {x : FieldT} {n : Str}  : PFn Tryz.prog 147 [.agg [(.dv [] (.str (x.1))), (.dv [] (.int .i64 (x.2)))], .ref [] [.str (n)]] (.one (.dv [] (.bool (fName n x)))) := by
 refine ⟨fn_intro Tryz.func147 rfl Tryz.ntmps147 Tryz.results147 rfl (fun C => ?_)⟩
 refine yF 0 0 rfl rfl fun f0_0 => ?_
 refine yF 0 1 rfl rfl fun f0_1 => ?_
 iterate 13 refine z ?_
 rfl
theorem ok_slices_IndexFunc_Field {x : RecT} {n : Str}  : PFn Tryz.prog 146 [.one (.dv [] (fieldsD (x))), .fn 147 [[.str (n)]]] (.one (.dv [] (.int .i64 (findI (fName n) x 0)))) := by
 refine ⟨fn_intro Tryz.func146 rfl Tryz.ntmps146 Tryz.results146 rfl (fun C => ?_)⟩
 refine ok_fact (x := .tmp 0) (ev_tmp rfl) fun f0 => ?_
 iterate 10 refine z ?_
 refine ok_loop (ι := Nat) (fun zz => ⟨[(0, .one (.dv [] (fieldsD (x)))), (1, .fn 147 [[.str (n)]]), (7, .one (.dv [] (.int .i64 ((((x)).length : Int))))), (8, .one (.dv [] (.int .i64 ((zz : Int)))))], [], []⟩) (fun zz => zz ≤ x.length ∧ (x.take zz).any (fName n) = false) (fun zz => x.length - zz) (0) ?_ (weak_sub ⟨rfl, rfl, rfl, rfl, trivial⟩ trivial trivial rfl) (fun zz hx => ?_)
 ·exact ⟨Nat.zero_le _, rfl⟩
 obtain ⟨k, rfl⟩ : ∃ v, v = zz := ⟨_, rfl⟩
 replace hx : k ≤ x.length ∧ (x.take k).any (fName n) = false := hx
 obtain ⟨hk, hall⟩ := hx
 show Ok _ _ _ _ _ (⟨[(0, .one (.dv [] (fieldsD (x)))), (1, .fn 147 [[.str (n)]]), (7, .one (.dv [] (.int .i64 ((((x)).length : Int))))), (8, .one (.dv [] (.int .i64 ((k : Int)))))], [], []⟩ : St)
 iterate 3 refine z ?_
 refine ok_seq ?_
 refine yQ rfl (fun c1 => ?_) fun c1 => ?_
 ·skip
  have d1 := of_decide_eq_true c1
  iterate 14 refine z ?_
  refine o_callV rfl rfl rfl (ev_tmp rfl) Tryz.call147 ok_impl_fieldAt_1 (as_cons (ev_tmp rfl) (ag_agg (ag_cons ac_dv (ag_cons ac_dv ag_nil))) as_nil) rfl rfl ?_
  refine z ?_
  refine yQ rfl (fun c2 => ?_) fun c2 => ?_
  ·skip
   iterate 11 refine z ?_
   exact (findI_at (p := fName n) (d := default) hall (by omega) c2).symm
  ·skip
   iterate 3 refine z ?_
   refine ok_region ?_
   iterate 3 refine z ?_
   refine ⟨k + 1, ?_, ?_, weak_sub ⟨rfl, rfl, rfl, rfl, trivial⟩ trivial trivial rfl⟩
   ·exact ⟨by omega, any_stepI (d := default) hall (by omega) c2⟩
   ·omega
 ·skip
  have d1 := of_decide_eq_false c1
  iterate 10 refine z ?_
  exact (findI_none (p := fName n) hall (by omega)).symm
theorem ok_impl_fieldAt {x : RecT} {n : Str}  : PFn Tryz.prog 126 [.agg [(.dv [] (fieldsD (x)))], .one (.dv [] (.str (n)))] (.one (.dv [] (.int .i64 (findI (fName n) x 0)))) := by
 refine ⟨fn_intro Tryz.func126 rfl Tryz.ntmps126 Tryz.results126 rfl (fun C => ?_)⟩
 refine yF 0 0 rfl rfl fun f0_0 => ?_
 refine ok_fact (x := .tmp 1) (ev_tmp rfl) fun f1 => ?_
 iterate 8 refine z ?_
 refine yO rfl rfl (pu_clo1 rfl (ev_tmp rfl)) rfl ?_
 refine o_call rfl rfl rfl Tryz.call146 ok_slices_IndexFunc_Field (as_cons (ev_tmp rfl) (ag_one ac_dv) (as_cons (ev_tmp rfl) (a_clo (clo_cons rfl rfl clo_nil)) as_nil)) rfl rfl ?_
 iterate 4 refine z ?_
 rfl
theorem ok_impl_GetField {x : RecT} {n : Str}  : PFn Tryz.prog 81 [.agg [(.dv [] (fieldsD (x)))], .one (.dv [] (.str (n)))] (.tup [(false, [(.dv [] (.int .i64 ((getF x n).1)))]), (false, [(.dv [] (.bool ((getF x n).2)))])]) := by
 refine ⟨fn_intro Tryz.func81 rfl Tryz.ntmps81 Tryz.results81 rfl (fun C => ?_)⟩
 refine yF 0 0 rfl rfl fun f0_0 => ?_
 refine ok_fact (x := .tmp 1) (ev_tmp rfl) fun f1 => ?_
 iterate 8 refine z ?_
 refine zC Tryz.call126 ?_ (hf := ok_impl_fieldAt)
 iterate 7 refine z ?_
 refine yQ rfl (fun c1 => ?_) fun c1 => ?_
 ·skip
  have d1 := of_decide_eq_true c1
  iterate 6 refine z ?_
  refine fin2 (res_tmp rfl) (res_tmp rfl) rfl rfl ?_
  have h : getF x n = (0, false) := by rw [getF, if_pos d1]
  rw [h] <;> rfl
 ·skip
  have d1 := of_decide_eq_false c1
  have hlt := findI_lt (p := fName n) x 0 (by omega)
  iterate 13 refine z ?_
  refine fin2 (res_tmp rfl) (res_tmp rfl) rfl rfl ?_
  have h : getF x n = ((x.getD (findI (fName n) x 0).toNat default).2, true) := by rw [getF, if_neg d1]
  rw [h] <;> rfl
theorem ok_spec_GetField {x : RecT} {n : Str}  : PFn Tryz.prog 93 [.agg [(.dv [] (fieldsD (x)))], .one (.dv [] (.str (n)))] (.tup [(false, [(.dv [] (.int .i64 ((getF x n).1)))]), (false, [(.dv [] (.bool ((getF x n).2)))])]) := by
 refine ⟨fn_intro Tryz.func93 rfl Tryz.ntmps93 Tryz.results93 rfl (fun C => ?_)⟩
 refine yF 0 0 rfl rfl fun f0_0 => ?_
 refine ok_fact (x := .tmp 1) (ev_tmp rfl) fun f1 => ?_
 iterate 10 refine z ?_
 refine ok_loop (ι := Nat) (fun zz => ⟨[(1, .one (.dv [] (.str (n)))), (2, .box 2 0), (6, .one (.dv [] (.int .i64 ((zz : Int)))))], [(2, 66, [(.dv [] (fieldsD (x)))])], []⟩) (fun zz => zz ≤ x.length ∧ (x.take zz).any (fName n) = false) (fun zz => x.length - zz) (0) ?_ (weak_sub ⟨rfl, rfl, rfl, trivial⟩ ⟨rfl, trivial⟩ trivial rfl) (fun zz hx => ?_)
 ·exact ⟨Nat.zero_le _, rfl⟩
 obtain ⟨k, rfl⟩ : ∃ v, v = zz := ⟨_, rfl⟩
 replace hx : k ≤ x.length ∧ (x.take k).any (fName n) = false := hx
 obtain ⟨hk, hall⟩ := hx
 show Ok _ _ _ _ _ (⟨[(1, .one (.dv [] (.str (n)))), (2, .box 2 0), (6, .one (.dv [] (.int .i64 ((k : Int)))))], [(2, 66, [(.dv [] (fieldsD (x)))])], []⟩ : St)
 iterate 8 refine z ?_
 refine yQ rfl (fun c1 => ?_) fun c1 => ?_
 ·skip
  have d1 := of_decide_eq_true c1
  iterate 14 refine z ?_
  refine yQ rfl (fun c2 => ?_) fun c2 => ?_
  ·skip
   iterate 16 refine z ?_
   refine fin2 (res_tmp rfl) (res_tmp rfl) rfl rfl ?_
   rw [getF_at hall (by omega) c2] <;> rfl
  ·skip
   iterate 3 refine z ?_
   refine ok_region ?_
   iterate 4 refine z ?_
   refine ⟨k + 1, ?_, ?_, weak_sub ⟨rfl, rfl, rfl, trivial⟩ ⟨rfl, trivial⟩ trivial rfl⟩
   ·exact ⟨by omega, any_stepI (d := default) hall (by omega) c2⟩
   ·omega
 ·skip
  have d1 := of_decide_eq_false c1
  iterate 10 refine z ?_
  refine fin2 (res_tmp rfl) (res_tmp rfl) rfl rfl ?_
  rw [getF_none hall (by omega)] <;> rfl
theorem ok_impl_copyRecord {x : RecT} (hb : x.length ≤ 1099511627776) : KFn Tryz.prog 74 [.agg [(.dv [] (fieldsD (x)))]] (.agg [(.key 3)]) [(3, some (kcOf false (fieldsD (x))))] := by
 refine ⟨fn_intro Tryz.func74 rfl Tryz.ntmps74 Tryz.results74 rfl (fun C => ?_)⟩
 refine yF 0 0 rfl rfl fun f0_0 => ?_
 iterate 5 refine z ?_
 refine o_build0 (k := 3) hT rfl rfl rfl rfl rfl rfl rfl rfl ?_
 iterate 2 refine z ?_
 refine o_appV (k := 3) (cs := (x).flatMap eField) (n := (x).length) hT rfl rfl rfl rfl rfl rfl rfl (ev_tmp rfl) rfl rfl rfl (ev_tmp rfl) (plain_flat (fun _ => rfl) _) (by first | (dsimp only [kcOf]; omega) | omega) (by first | (dsimp only [kcOf]; omega) | omega) (Nat.zero_add _) (rfl) ?_
 simp only [killT, killB, SV.kill, CV.kill, kk, Nat.reduceBEq]
 refine yO rfl rfl (pu_build hT hB rfl rfl rfl (bp_cons (ev_tmp rfl) rfl rfl rfl rfl rfl bp_nil)) rfl ?_
 iterate 2 refine z ?_
 refine ok_weak (σ' := ⟨[(2, .box 2 0)], [(2, 66, [(.key 3)])], [(3, some (kcOf false (fieldsD (x))))]⟩) (weak_sub ⟨rfl, trivial⟩ ⟨rfl, trivial⟩ ⟨rfl, trivial⟩ rfl) ?_
 refine z ?_
 refine fin1 (res_cell hT rfl rfl rfl rfl) ?_
 exact ⟨rfl, rfl⟩
theorem ok_spec_l5Copy {x : RecT} (hb : x.length ≤ 1099511627776) : KFn Tryz.prog 107 [.agg [(.dv [] (fieldsD (x)))]] (.agg [(.key 3)]) [(3, some (kcOf false (fieldsD (x))))] := by
 refine ⟨fn_intro Tryz.func107 rfl Tryz.ntmps107 Tryz.results107 rfl (fun C => ?_)⟩
 refine yF 0 0 rfl rfl fun f0_0 => ?_
 iterate 5 refine z ?_
 refine o_build0 (k := 3) hT rfl rfl rfl rfl rfl rfl rfl rfl ?_
 iterate 2 refine z ?_
 refine o_appV (k := 3) (cs := (x).flatMap eField) (n := (x).length) hT rfl rfl rfl rfl rfl rfl rfl (ev_tmp rfl) rfl rfl rfl (ev_tmp rfl) (plain_flat (fun _ => rfl) _) (by first | (dsimp only [kcOf]; omega) | omega) (by first | (dsimp only [kcOf]; omega) | omega) (Nat.zero_add _) (rfl) ?_
 simp only [killT, killB, SV.kill, CV.kill, kk, Nat.reduceBEq]
 refine yO rfl rfl (pu_build hT hB rfl rfl rfl (bp_cons (ev_tmp rfl) rfl rfl rfl rfl rfl bp_nil)) rfl ?_
 iterate 2 refine z ?_
 refine ok_weak (σ' := ⟨[(2, .box 2 0)], [(2, 66, [(.key 3)])], [(3, some (kcOf false (fieldsD (x))))]⟩) (weak_sub ⟨rfl, trivial⟩ ⟨rfl, trivial⟩ ⟨rfl, trivial⟩ rfl) ?_
 refine z ?_
 refine fin1 (res_cell hT rfl rfl rfl rfl) ?_
 exact ⟨rfl, rfl⟩
theorem ok_impl_copyItem {x : ItemT} (hb : x.2.length ≤ 1099511627776) : KFn Tryz.prog 45 [.agg [(.dv [] (.int .i64 (x.1.1))), (.dv [] (.int .i64 (x.1.2.1))), (.dv [] (.str (x.1.2.2))), (.dv [] (fieldsD (x.2)))]] (.agg [(.dv [] (.int .i64 (x.1.1))), (.dv [] (.int .i64 (x.1.2.1))), (.dv [] (.str (x.1.2.2))), (.key 7003)]) [(7003, some (kcOf false (fieldsD (x.2))))] := by
 refine ⟨fn_intro Tryz.func45 rfl Tryz.ntmps45 Tryz.results45 rfl (fun C => ?_)⟩
 refine yF 0 0 rfl rfl fun f0_0 => ?_
 refine yF 0 1 rfl rfl fun f0_1 => ?_
 refine yF 0 2 rfl rfl fun f0_2 => ?_
 refine yF 0 3 rfl rfl fun f0_3 => ?_
 iterate 4 refine z ?_
 refine ok_seq ?_
 refine ok_regionD (oB := [1, 2]) (oK := []) (by kernel_rfl) rfl rfl ?_
 refine zD 0 ?_
 refine zD 1 ?_
 refine zD 2 ?_
 refine zD 3 ?_
 refine d_callK 7000 4 rfl (by kernel_rfl) rfl rfl rfl Tryz.call74 (ok_impl_copyRecord (by omega)) (as_cons (ev_tmp rfl) (ag_agg (ag_cons ac_dv ag_nil)) as_nil) rfl rfl rfl rfl rfl ?_
 refine d_take 5 rfl (by kernel_rfl) rfl rfl (pu_build hT hB rfl rfl rfl (bp_cons (ev_tmp rfl) rfl rfl rfl rfl rfl (bp_cons (ev_tmp rfl) rfl rfl rfl rfl rfl bp_nil))) rfl rfl rfl rfl ?_
 refine d_last 6 rfl (by kernel_rfl) rfl (by kernel_rfl) (ef_storeBox hT rfl rfl rfl (ev_tmp rfl) (ev_tmp rfl) rfl rfl rfl rfl rfl rfl) (by kernel_rfl) ?_
 refine z ?_
 refine ok_weak (σ' := ⟨[(2, .box 2 0)], [(2, 93, [(.dv [] (.int .i64 (x.1.1))), (.dv [] (.int .i64 (x.1.2.1))), (.dv [] (.str (x.1.2.2))), (.key 7003)])], [(7003, some (kcOf false (fieldsD (x.2))))]⟩) (weak_sub ⟨rfl, trivial⟩ ⟨rfl, trivial⟩ ⟨rfl, trivial⟩ rfl) ?_
 refine z ?_
 refine fin1 (res_cell hT rfl rfl rfl rfl) ?_
 exact ⟨rfl, rfl⟩
theorem ok_spec_l6Item {x : ItemT} (hb : x.2.length ≤ 1099511627776) : KFn Tryz.prog 88 [.agg [(.dv [] (.int .i64 (x.1.1))), (.dv [] (.int .i64 (x.1.2.1))), (.dv [] (.str (x.1.2.2))), (.dv [] (fieldsD (x.2)))]] (.agg [(.dv [] (.int .i64 (x.1.1))), (.dv [] (.int .i64 (x.1.2.1))), (.dv [] (.str (x.1.2.2))), (.key 7003)]) [(7003, some (kcOf false (fieldsD (x.2))))] := by
 refine ⟨fn_intro Tryz.func88 rfl Tryz.ntmps88 Tryz.results88 rfl (fun C => ?_)⟩
 refine yF 0 0 rfl rfl fun f0_0 => ?_
 refine yF 0 1 rfl rfl fun f0_1 => ?_
 refine yF 0 2 rfl rfl fun f0_2 => ?_
 refine yF 0 3 rfl rfl fun f0_3 => ?_
 iterate 4 refine z ?_
 refine ok_seq ?_
 refine ok_regionD (oB := [1, 2]) (oK := []) (by kernel_rfl) rfl rfl ?_
 refine zD 0 ?_
 refine zD 1 ?_
 refine zD 2 ?_
 refine zD 3 ?_
 refine d_callK 7000 4 rfl (by kernel_rfl) rfl rfl rfl Tryz.call107 (ok_spec_l5Copy (by omega)) (as_cons (ev_tmp rfl) (ag_agg (ag_cons ac_dv ag_nil)) as_nil) rfl rfl rfl rfl rfl ?_
 refine d_take 5 rfl (by kernel_rfl) rfl rfl (pu_build hT hB rfl rfl rfl (bp_cons (ev_tmp rfl) rfl rfl rfl rfl rfl (bp_cons (ev_tmp rfl) rfl rfl rfl rfl rfl bp_nil))) rfl rfl rfl rfl ?_
 refine d_last 6 rfl (by kernel_rfl) rfl (by kernel_rfl) (ef_storeBox hT rfl rfl rfl (ev_tmp rfl) (ev_tmp rfl) rfl rfl rfl rfl rfl rfl) (by kernel_rfl) ?_
 refine z ?_
 refine ok_weak (σ' := ⟨[(2, .box 2 0)], [(2, 93, [(.dv [] (.int .i64 (x.1.1))), (.dv [] (.int .i64 (x.1.2.1))), (.dv [] (.str (x.1.2.2))), (.key 7003)])], [(7003, some (kcOf false (fieldsD (x.2))))]⟩) (weak_sub ⟨rfl, trivial⟩ ⟨rfl, trivial⟩ ⟨rfl, trivial⟩ rfl) ?_
 refine z ?_
 refine fin1 (res_cell hT rfl rfl rfl rfl) ?_
 exact ⟨rfl, rfl⟩
end Go.Proofs.YtjkpoekgnmgofaaGreat

namespace Go.Proofs.YtjkpoekgnmgofaaGreat
open Go.RowKit
open Go.Proofs
set_option linter.unusedVariables false
set_option linter.unusedSimpArgs false

theorem getD_at {α : Type} [Inhabited α] {xs : List α} {j : Nat} (h : j < xs.length) : xs.getD (j : Int).toNat default = xs[j] := by simp [List.getD, List.getElem?_eq_getElem h]
end Go.Proofs.YtjkpoekgnmgofaaGreat

namespace Go.Proofs.YtjkpoekgnmgofaaGreat
open Go.RowKit
open Go.Proofs
set_option linter.unusedVariables false
set_option linter.unusedSimpArgs false

def sgnI (a b : Int) : Int := if a < b then -1 else if b < a then 1 else 0
def cmpK (a b : KeyT) : Int := if !isKey a || !isKey b then 0 else if ¬ a.1 = b.1 then sgnI a.1 b.1 else if ¬ a.2.1 = b.2.1 then sgnI a.2.1 b.2.1 else sgnS a.2.2 b.2.2
def signB (a b : Bool) : Int := if a then -1 else if b then 1 else 0
theorem sgnI_zero {a b : Int} : sgnI a b = 0 ↔ a = b := by unfold sgnI; split <;> (try split) <;> omega
theorem cmpK_bad {a b : KeyT} (h : (!isKey a || !isKey b) = true) : cmpK a b = 0 := by rw [cmpK, if_pos h]
theorem cmpK_kind {a b : KeyT} (h : (!isKey a || !isKey b) = false) (h1 : ¬ a.1 = b.1) : cmpK a b = sgnI a.1 b.1 := by rw [cmpK, if_neg (by rw [h]; simp), if_pos h1]
theorem cmpK_num {a b : KeyT} (h : (!isKey a || !isKey b) = false) (h1 : a.1 = b.1) (h2 : ¬ a.2.1 = b.2.1) : cmpK a b = sgnI a.2.1 b.2.1 := by rw [cmpK, if_neg (by rw [h]; simp), if_neg (by simp [h1]), if_pos h2]
theorem cmpK_text {a b : KeyT} (h : (!isKey a || !isKey b) = false) (h1 : a.1 = b.1) (h2 : a.2.1 = b.2.1) : cmpK a b = sgnS a.2.2 b.2.2 := by rw [cmpK, if_neg (by rw [h]; simp), if_neg (by simp [h1]), if_neg (by simp [h2])]
theorem sLe_not (a b : Str) : (!(sLt a b || sEq a b)) = sLt b a := by rw [sLe_eq, Bool.not_not]
def inRg (k : KeyT) (r : RangeT) : Bool := !((!isKey k || (r.1 && !isKey r.2.2.1)) || (r.2.1 && !isKey r.2.2.2)) && ((!r.1 || decide (cmpK r.2.2.1 k ≤ 0)) && (!r.2.1 || decide (cmpK k r.2.2.2 ≤ 0)))
theorem sgnI_swap (a b : Int) : sgnI a b = - sgnI b a := by unfold sgnI; split <;> split <;> (try split) <;> omega
theorem sgnS_swap (a b : Str) : sgnS a b = - sgnS b a := by
 unfold sgnS
 cases h1 : sLt a b <;> cases h2 : sLt b a <;> simp
 have h := sLe_eq a b
 rw [h1, h2] at h
 simp at h
theorem cmpK_swap (a b : KeyT) : cmpK a b = - cmpK b a := by
 by_cases h : (!isKey a || !isKey b) = true
 ·rw [cmpK_bad h, cmpK_bad (by rw [Bool.or_comm]; exact h)]; rfl
 ·have h : (!isKey a || !isKey b) = false := by simpa using h
  have h' : (!isKey b || !isKey a) = false := by rw [Bool.or_comm]; exact h
  by_cases h1 : a.1 = b.1
  ·by_cases h2 : a.2.1 = b.2.1
   ·rw [cmpK_text h h1 h2, cmpK_text h' h1.symm h2.symm, sgnS_swap]
   ·rw [cmpK_num h h1 h2, cmpK_num h' h1.symm (fun e => h2 e.symm), sgnI_swap]
  ·rw [cmpK_kind h h1, cmpK_kind h' (fun e => h1 e.symm), sgnI_swap]
theorem ok_spec_l4Sign {x y : Bool}  : PFn Tryz.prog 133 [.one (.dv [] (.bool (x))), .one (.dv [] (.bool (y)))] (.one (.dv [] (.int .i64 (signB x y)))) := by
 refine ⟨fn_intro Tryz.func133 rfl Tryz.ntmps133 Tryz.results133 rfl (fun C => ?_)⟩
 iterate 7 refine z ?_
 refine yQ rfl (fun c1 => ?_) fun c1 => ?_
 ·skip
  iterate 6 refine z ?_
  rw [signB, if_pos c1]
 ·skip
  iterate 6 refine z ?_
  refine yQ rfl (fun c2 => ?_) fun c2 => ?_
  ·skip
   iterate 6 refine z ?_
   rw [signB, if_neg (by rw [c1]; simp), if_pos c2]
  ·skip
   iterate 7 refine z ?_
   rw [signB, if_neg (by rw [c1]; simp), if_neg (by rw [c2]; simp)]
theorem ok_impl_compareInts {x y : Int}  : PFn Tryz.prog 129 [.one (.dv [] (.int .i64 (x))), .one (.dv [] (.int .i64 (y)))] (.one (.dv [] (.int .i64 (sgnI x y)))) := by
 refine ⟨fn_intro Tryz.func129 rfl Tryz.ntmps129 Tryz.results129 rfl (fun C => ?_)⟩
 refine ok_fact (x := .tmp 0) (ev_tmp rfl) fun f0 => ?_
 refine ok_fact (x := .tmp 1) (ev_tmp rfl) fun f1 => ?_
 iterate 11 refine z ?_
 refine yQ rfl (fun c1 => ?_) fun c1 => ?_
 ·skip
  have d1 := of_decide_eq_true c1
  iterate 7 refine z ?_
  rw [sgnI, if_pos d1]
 ·skip
  have d1 := of_decide_eq_false c1
  iterate 6 refine z ?_
  refine yQ rfl (fun c2 => ?_) fun c2 => ?_
  ·skip
   have d2 := of_decide_eq_true c2
   iterate 7 refine z ?_
   rw [sgnI, if_neg d1, if_pos d2]
  ·skip
   have d2 := of_decide_eq_false c2
   iterate 8 refine z ?_
   rw [sgnI, if_neg d1, if_neg d2]
theorem ok_impl_CompareKeys {x y : KeyT}  : PFn Tryz.prog 85 [.agg [(.dv [] (.int .i64 (x.1))), (.dv [] (.int .i64 (x.2.1))), (.dv [] (.str (x.2.2)))], .agg [(.dv [] (.int .i64 (y.1))), (.dv [] (.int .i64 (y.2.1))), (.dv [] (.str (y.2.2)))]] (.one (.dv [] (.int .i64 (cmpK x y)))) := by
 refine ⟨fn_intro Tryz.func85 rfl Tryz.ntmps85 Tryz.results85 rfl (fun C => ?_)⟩
 refine yF 0 0 rfl rfl fun f0_0 => ?_
 refine yF 0 1 rfl rfl fun f0_1 => ?_
 refine yF 0 2 rfl rfl fun f0_2 => ?_
 refine yF 1 0 rfl rfl fun f1_0 => ?_
 refine yF 1 1 rfl rfl fun f1_1 => ?_
 refine yF 1 2 rfl rfl fun f1_2 => ?_
 iterate 8 refine z ?_
 refine zC Tryz.call75 ?_ (hf := ok_impl_IsKey)
 iterate 3 refine z ?_
 refine o_callG (gd_bool rfl rfl rfl rfl rfl) rfl rfl Tryz.call75 ok_impl_IsKey (fun hg => (as_cons (ev_opt rfl hg) (ag_agg (ag_cons ac_dv (ag_cons ac_dv (ag_cons ac_dv ag_nil)))) as_nil)) rfl rfl ?_
 iterate 3 refine z ?_
 refine yQ rfl (fun c1 => ?_) fun c1 => ?_
 ·skip
  iterate 6 refine z ?_
  rw [cmpK_bad c1]
 ·skip
  iterate 8 refine z ?_
  refine zC Tryz.call129 ?_ (hf := ok_impl_compareInts)
  iterate 6 refine z ?_
  refine yQ rfl (fun c2 => ?_) fun c2 => ?_
  ·skip
   have d2 := nd_t c2
   iterate 7 refine z ?_
   rw [cmpK_kind c1 (fun e => d2 (sgnI_zero.2 e))]
  ·skip
   have d2 := nd_f c2
   iterate 8 refine z ?_
   refine zC Tryz.call129 ?_ (hf := ok_impl_compareInts)
   iterate 6 refine z ?_
   refine yQ rfl (fun c3 => ?_) fun c3 => ?_
   ·skip
    have d3 := nd_t c3
    iterate 7 refine z ?_
    rw [cmpK_num c1 (sgnI_zero.1 d2) (fun e => d3 (sgnI_zero.2 e))]
   ·skip
    have d3 := nd_f c3
    iterate 7 refine z ?_
    refine zC Tryz.call130 ?_ (hf := ok_strings_Compare)
    iterate 4 refine z ?_
    rw [cmpK_text c1 (sgnI_zero.1 d2) (sgnI_zero.1 d3)]
theorem ok_spec_CompareKeys {x y : KeyT}  : PFn Tryz.prog 91 [.agg [(.dv [] (.int .i64 (x.1))), (.dv [] (.int .i64 (x.2.1))), (.dv [] (.str (x.2.2)))], .agg [(.dv [] (.int .i64 (y.1))), (.dv [] (.int .i64 (y.2.1))), (.dv [] (.str (y.2.2)))]] (.one (.dv [] (.int .i64 (cmpK x y)))) := by
 refine ⟨fn_intro Tryz.func91 rfl Tryz.ntmps91 Tryz.results91 rfl (fun C => ?_)⟩
 refine yF 0 0 rfl rfl fun f0_0 => ?_
 refine yF 0 1 rfl rfl fun f0_1 => ?_
 refine yF 0 2 rfl rfl fun f0_2 => ?_
 refine yF 1 0 rfl rfl fun f1_0 => ?_
 refine yF 1 1 rfl rfl fun f1_1 => ?_
 refine yF 1 2 rfl rfl fun f1_2 => ?_
 iterate 8 refine z ?_
 refine zC Tryz.call89 ?_ (hf := ok_spec_IsKey)
 iterate 3 refine z ?_
 refine o_callG (gd_bool rfl rfl rfl rfl rfl) rfl rfl Tryz.call89 ok_spec_IsKey (fun hg => (as_cons (ev_opt rfl hg) (ag_agg (ag_cons ac_dv (ag_cons ac_dv (ag_cons ac_dv ag_nil)))) as_nil)) rfl rfl ?_
 iterate 3 refine z ?_
 refine yQ rfl (fun c1 => ?_) fun c1 => ?_
 ·skip
  iterate 6 refine z ?_
  rw [cmpK_bad c1]
 ·skip
  iterate 10 refine z ?_
  refine yQ rfl (fun c2 => ?_) fun c2 => ?_
  ·skip
   have d2 := nd_t c2
   iterate 6 refine z ?_
   refine zC Tryz.call133 ?_ (hf := ok_spec_l4Sign)
   iterate 5 refine z ?_
   rw [cmpK_kind c1 d2]; unfold signB sgnI; split <;> split <;> simp_all <;> omega
  ·skip
   have d2 := nd_f c2
   iterate 10 refine z ?_
   refine yQ rfl (fun c3 => ?_) fun c3 => ?_
   ·skip
    have d3 := nd_t c3
    iterate 6 refine z ?_
    refine zC Tryz.call133 ?_ (hf := ok_spec_l4Sign)
    iterate 5 refine z ?_
    rw [cmpK_num c1 d2 d3]; unfold signB sgnI; split <;> split <;> simp_all <;> omega
   ·skip
    have d3 := nd_f c3
    iterate 13 refine z ?_
    refine zC Tryz.call133 ?_ (hf := ok_spec_l4Sign)
    iterate 4 refine z ?_
    rw [cmpK_text c1 d2 d3, sLe_not]; unfold signB sgnS; rfl
theorem ok_impl_InRangeOf {x : KeyT} {y : RangeT}  : PFn Tryz.prog 125 [.agg [(.dv [] (.int .i64 (x.1))), (.dv [] (.int .i64 (x.2.1))), (.dv [] (.str (x.2.2)))], .agg [(.dv [] (.bool (y.1))), (.dv [] (.bool (y.2.1))), (.dv [] (.int .i64 (y.2.2.1.1))), (.dv [] (.int .i64 (y.2.2.1.2.1))), (.dv [] (.str (y.2.2.1.2.2))), (.dv [] (.int .i64 (y.2.2.2.1))), (.dv [] (.int .i64 (y.2.2.2.2.1))), (.dv [] (.str (y.2.2.2.2.2)))]] (.one (.dv [] (.bool (inRg x y)))) := by
 refine ⟨fn_intro Tryz.func125 rfl Tryz.ntmps125 Tryz.results125 rfl (fun C => ?_)⟩
 refine yF 0 0 rfl rfl fun f0_0 => ?_
 refine yF 0 1 rfl rfl fun f0_1 => ?_
 refine yF 0 2 rfl rfl fun f0_2 => ?_
 refine yF 1 2 rfl rfl fun f1_2 => ?_
 refine yF 1 3 rfl rfl fun f1_3 => ?_
 refine yF 1 4 rfl rfl fun f1_4 => ?_
 refine yF 1 5 rfl rfl fun f1_5 => ?_
 refine yF 1 6 rfl rfl fun f1_6 => ?_
 refine yF 1 7 rfl rfl fun f1_7 => ?_
 iterate 8 refine z ?_
 refine zC Tryz.call75 ?_ (hf := ok_impl_IsKey)
 iterate 7 refine z ?_
 refine o_callG (gd_opt rfl rfl rfl rfl rfl) rfl rfl Tryz.call75 ok_impl_IsKey (fun hg => (as_cons (ev_opt rfl hg) (ag_agg (ag_cons ac_dv (ag_cons ac_dv (ag_cons ac_dv ag_nil)))) as_nil)) rfl rfl ?_
 iterate 9 refine z ?_
 refine o_callG (gd_opt rfl rfl rfl rfl rfl) rfl rfl Tryz.call75 ok_impl_IsKey (fun hg => (as_cons (ev_opt rfl hg) (ag_agg (ag_cons ac_dv (ag_cons ac_dv (ag_cons ac_dv ag_nil)))) as_nil)) rfl rfl ?_
 iterate 4 refine z ?_
 refine yQ rfl (fun c1 => ?_) fun c1 => ?_
 ·skip
  iterate 6 refine z ?_
  unfold inRg; rw [c1]; rfl
 ·skip
  iterate 9 refine z ?_
  refine o_callG (gd_bool rfl rfl rfl rfl rfl) rfl rfl Tryz.call85 ok_impl_CompareKeys (fun hg => (as_cons (ev_opt rfl hg) (ag_agg (ag_cons ac_dv (ag_cons ac_dv (ag_cons ac_dv ag_nil)))) (as_cons (ev_opt rfl hg) (ag_agg (ag_cons ac_dv (ag_cons ac_dv (ag_cons ac_dv ag_nil)))) as_nil))) rfl rfl ?_
  iterate 10 refine z ?_
  refine o_callG (gd_opt rfl rfl rfl rfl rfl) rfl rfl Tryz.call85 ok_impl_CompareKeys (fun hg => (as_cons (ev_opt rfl hg) (ag_agg (ag_cons ac_dv (ag_cons ac_dv (ag_cons ac_dv ag_nil)))) (as_cons (ev_opt rfl hg) (ag_agg (ag_cons ac_dv (ag_cons ac_dv (ag_cons ac_dv ag_nil)))) as_nil))) rfl rfl ?_
  iterate 8 refine z ?_
  have h1 := cmpK_swap x y.2.2.1; have h2 := cmpK_swap x y.2.2.2; unfold inRg; rw [c1]; cases y.1 <;> cases y.2.1 <;> simp <;> grind
end Go.Proofs.YtjkpoekgnmgofaaGreat

namespace Go.Proofs.YtjkpoekgnmgofaaGreat
open Go.RowKit
open Go.Proofs
set_option linter.unusedVariables false
set_option linter.unusedSimpArgs false

def bef (f : Str) (a b : ItemT) : Bool := decide ((getF a.2 f).1 < (getF b.2 f).1) || (decide ((getF a.2 f).1 = (getF b.2 f).1) && decide (cmpK a.1 b.1 < 0))
def posD (f : Str) (x : ItemT) (o : List ItemT) : Nat → Nat
 | 0 => 0
 | k + 1 => if bef f x (o.getD k default) then posD f x o k else k + 1
def insI (o : List ItemT) (j : Nat) (y : ItemT) : List ItemT := o.take j ++ [y] ++ o.drop j
def idxN (f : Str) (its : List ItemT) : Nat → List ItemT
 | 0 => []
 | k + 1 => if (getF (its.getD (k : Int).toNat default).2 f).2 then insI (idxN f its k) (posD f (its.getD (k : Int).toNat default) (idxN f its k) (idxN f its k).length) (its.getD (k : Int).toNat default) else idxN f its k
theorem insI_len {o : List ItemT} {j : Nat} {y : ItemT} : (insI o j y).length = o.length + 1 := by simp only [insI, List.length_append, List.length_take, List.length_drop, List.length_singleton]; omega
theorem idxN_len (f : Str) (its : List ItemT) : ∀ k, (idxN f its k).length ≤ k
 | 0 => Nat.le_refl _
 | k + 1 => by have := idxN_len f its k; rw [idxN]; split <;> (try rw [insI_len]) <;> omega
theorem idxN_yes {f : Str} {its : List ItemT} {k : Nat} (h : (getF (its.getD (k : Int).toNat default).2 f).2 = true) : idxN f its (k + 1) = insI (idxN f its k) (posD f (its.getD (k : Int).toNat default) (idxN f its k) (idxN f its k).length) (its.getD (k : Int).toNat default) := by rw [idxN, if_pos h]
theorem idxN_no {f : Str} {its : List ItemT} {k : Nat} (h : (getF (its.getD (k : Int).toNat default).2 f).2 = false) : idxN f its k = idxN f its (k + 1) := by rw [idxN, if_neg (by rw [h]; simp)]
theorem posD_step {f : Str} {x : ItemT} {o : List ItemT} {j : Nat} (h : (decide (0 < (j : Int)) && bef f x (o.getD ((j : Int) - 1).toNat default)) = true) : 0 < j ∧ posD f x o j = posD f x o (j - 1) := by
 obtain ⟨h1, h2⟩ := (Bool.and_eq_true _ _ ▸ h : _ ∧ _)
 have h1 := of_decide_eq_true h1
 cases j with
 | zero => simp at h1
 | succ k =>
  have e : (((k + 1 : Nat) : Int) - 1).toNat = k := by omega
  rw [e] at h2
  exact ⟨by omega, by rw [posD, if_pos h2]; rfl⟩
theorem posD_stop {f : Str} {x : ItemT} {o : List ItemT} {j : Nat} (h : (decide (0 < (j : Int)) && bef f x (o.getD ((j : Int) - 1).toNat default)) = false) : posD f x o j = j := by
 cases j with
 | zero => rfl
 | succ k =>
  have e : (((k + 1 : Nat) : Int) - 1).toNat = k := by omega
  rw [e, decide_eq_true (by omega : (0 : Int) < ((k + 1 : Nat) : Int)), Bool.true_and] at h
  rw [posD, if_neg (by rw [h]; simp)]
theorem take_flat {α : Type} {enc : α → List DV} {sz : Nat} (hs : ∀ x, (enc x).length = sz) : ∀ (n : Nat) (xs : List α), (xs.flatMap enc).take (n * sz) = (xs.take n).flatMap enc ∧ (xs.flatMap enc).drop (n * sz) = (xs.drop n).flatMap enc
 | 0, xs => by simp
 | n + 1, [] => by simp
 | n + 1, x :: xs => by
  obtain ⟨h1, h2⟩ := take_flat hs n xs
  rw [List.flatMap_cons, Nat.add_mul, Nat.one_mul, Nat.add_comm (n * sz) sz, ← hs x, List.take_length_add_append, List.take_succ_cons, List.flatMap_cons, hs x, h1, List.drop_succ_cons, ← h2]
  exact ⟨rfl, by rw [← hs x, List.drop_length_add_append]⟩
theorem insL_items {o : List ItemT} {j : Nat} {y : ItemT} : insL (o.flatMap eItem) (((j : Nat) : Int).toNat * 4) (eItem y) = (insI o j y).flatMap eItem := by
 obtain ⟨h1, h2⟩ := take_flat (enc := eItem) (sz := 4) (fun _ => rfl) j o
 rw [insL, Int.toNat_natCast, h1, h2, insI, List.flatMap_append, List.flatMap_append, List.flatMap_cons, List.flatMap_nil, List.append_nil]
theorem sub_lo {o : List ItemT} {j : Nat} : ([] : List DV) ++ sub (0 * 4) ((((j : Nat) : Int).toNat - 0) * 4) (o.flatMap eItem) = (o.take j).flatMap eItem := by
 obtain ⟨h1, h2⟩ := take_flat (enc := eItem) (sz := 4) (fun _ => rfl) j o
 rw [Int.toNat_natCast, Nat.sub_zero, Nat.zero_mul, sub, List.drop_zero, List.nil_append, h1]
theorem holed_lo {o : List ItemT} {j : Nat} : holed (o.flatMap eItem) (0 * 4) ((((j : Nat) : Int).toNat - 0) * 4) = List.replicate (j * 4) .hole ++ (o.drop j).flatMap eItem := by
 obtain ⟨h1, h2⟩ := take_flat (enc := eItem) (sz := 4) (fun _ => rfl) j o
 rw [Int.toNat_natCast, Nat.sub_zero, Nat.zero_mul, holed, List.drop_zero, h2]; rfl
theorem sub_hi {o : List ItemT} {j : Nat} {el : ItemT} (hj : j ≤ o.length) : (o.take j ++ [el]).flatMap eItem ++ sub (((j : Nat) : Int).toNat * 4) ((o.length - ((j : Nat) : Int).toNat) * 4) (List.replicate (j * 4) .hole ++ (o.drop j).flatMap eItem) = (insI o j el).flatMap eItem := by
 have hl : ((o.drop j).flatMap eItem).length = (o.length - j) * 4 := by
  have : ∀ l : List ItemT, (l.flatMap eItem).length = l.length * 4 := fun l => by
   induction l with
   | nil => rfl
   | cons x l ih => rw [List.flatMap_cons, List.length_append, ih, List.length_cons]; show 4 + l.length * 4 = (l.length + 1) * 4; omega
  rw [this, List.length_drop]
 have e : (List.replicate (j * 4) DV.hole ++ (o.drop j).flatMap eItem).drop (j * 4) = (o.drop j).flatMap eItem := by
  have h := List.drop_left (l₁ := List.replicate (j * 4) DV.hole) (l₂ := (o.drop j).flatMap eItem)
  rwa [List.length_replicate] at h
 rw [Int.toNat_natCast, sub, e, List.take_of_length_le (l := (o.drop j).flatMap eItem) (by rw [hl]; exact Nat.le_refl _)]
 simp only [insI, List.flatMap_append]

theorem ok_impl_fieldBefore {x y : ItemT} {f : Str}  : PFn Tryz.prog 131 [.agg [(.dv [] (.int .i64 (x.1.1))), (.dv [] (.int .i64 (x.1.2.1))), (.dv [] (.str (x.1.2.2))), (.dv [] (fieldsD (x.2)))], .agg [(.dv [] (.int .i64 (y.1.1))), (.dv [] (.int .i64 (y.1.2.1))), (.dv [] (.str (y.1.2.2))), (.dv [] (fieldsD (y.2)))], .one (.dv [] (.str (f)))] (.one (.dv [] (.bool (bef f x y)))) := by
 refine ⟨fn_intro Tryz.func131 rfl Tryz.ntmps131 Tryz.results131 rfl (fun C => ?_)⟩
 refine yF 0 0 rfl rfl fun f0_0 => ?_
 refine yF 0 1 rfl rfl fun f0_1 => ?_
 refine yF 0 2 rfl rfl fun f0_2 => ?_
 refine yF 0 3 rfl rfl fun f0_3 => ?_
 refine yF 1 0 rfl rfl fun f1_0 => ?_
 refine yF 1 1 rfl rfl fun f1_1 => ?_
 refine yF 1 2 rfl rfl fun f1_2 => ?_
 refine yF 1 3 rfl rfl fun f1_3 => ?_
 refine ok_fact (x := .tmp 2) (ev_tmp rfl) fun f2 => ?_
 iterate 9 refine z ?_
 refine zC Tryz.call81 ?_ (hf := ok_impl_GetField)
 iterate 10 refine z ?_
 refine zC Tryz.call81 ?_ (hf := ok_impl_GetField)
 iterate 19 refine z ?_
 refine o_callG (gd_opt rfl rfl rfl rfl rfl) rfl rfl Tryz.call85 ok_impl_CompareKeys (fun hg => (as_cons (ev_opt rfl hg) (ag_agg (ag_cons ac_dv (ag_cons ac_dv (ag_cons ac_dv ag_nil)))) (as_cons (ev_opt rfl hg) (ag_agg (ag_cons ac_dv (ag_cons ac_dv (ag_cons ac_dv ag_nil)))) as_nil))) rfl rfl ?_
 iterate 7 refine z ?_
 unfold bef; grind
theorem ok_impl_IndexOn {x : StoreT} {f : Str} (hb : wStore x ≤ 1048576) : KFn Tryz.prog 87 [.agg [(.dv [] (.str (x.1))), (.dv [] (itemsD (x.2.1))), (.dv [] (.int .i64 (x.2.2)))], .one (.dv [] (.str (f)))] (.one (.key 11)) [(11, some (kcOf false (itemsD (idxN f x.2.1 x.2.1.length))))] := by
 refine ⟨fn_intro Tryz.func87 rfl Tryz.ntmps87 Tryz.results87 rfl (fun C => ?_)⟩
 refine yF 0 0 rfl rfl fun f0_0 => ?_
 refine yF 0 1 rfl rfl fun f0_1 => ?_
 refine yF 0 2 rfl rfl fun f0_2 => ?_
 refine ok_fact (x := .tmp 1) (ev_tmp rfl) fun f1 => ?_
 iterate 5 refine z ?_
 refine o_build0 (k := 11) hT rfl rfl rfl rfl rfl rfl rfl rfl ?_
 iterate 10 refine z ?_
 refine ok_loop (ι := Nat) (fun zz => ⟨[(1, .one (.dv [] (.str (f)))), (4, .one .nil), (5, .one (.key 11)), (13, .one (.dv [] (itemsD (x.2.1)))), (14, .one (.dv [] (.int .i64 ((((x.2.1)).length : Int))))), (15, .one (.dv [] (.int .i64 ((zz : Int)))))], [], [(11, some (kcOf false (.sl 93 4 ((idxN f x.2.1 zz).length) ((idxN f x.2.1 zz).flatMap eItem))))]⟩) (fun zz => zz ≤ x.2.1.length) (fun zz => x.2.1.length - zz) (0) ?_ (weak_sub ⟨rfl, rfl, rfl, rfl, rfl, rfl, trivial⟩ trivial ⟨rfl, trivial⟩ rfl) (fun zz hx => ?_)
 ·exact Nat.zero_le _
 obtain ⟨k, rfl⟩ : ∃ v, v = zz := ⟨_, rfl⟩
 replace hx : k ≤ x.2.1.length := hx
 have hw := fun h => wSum_succ wItem x.2.1 k h
 have hol := idxN_len f x.2.1 k
 show Ok _ _ _ _ _ (⟨[(1, .one (.dv [] (.str (f)))), (4, .one .nil), (5, .one (.key 11)), (13, .one (.dv [] (itemsD (x.2.1)))), (14, .one (.dv [] (.int .i64 ((((x.2.1)).length : Int))))), (15, .one (.dv [] (.int .i64 ((k : Int)))))], [], [(11, some (kcOf false (.sl 93 4 ((idxN f x.2.1 k).length) ((idxN f x.2.1 k).flatMap eItem))))]⟩ : St)
 iterate 3 refine z ?_
 refine ok_seq ?_
 refine yQ rfl (fun c1 => ?_) fun c1 => ?_
 ·skip
  have d1 := of_decide_eq_true c1
  have hk2 : k < x.2.1.length := by omega
  have hlen : x.2.1.length ≤ 1048576 := by have h3 : wStore x = x.1.size + (x.2.1.length + wSum wItem x.2.1) := rfl; omega
  have hrec : wItem (x.2.1.getD (k : Int).toNat default) ≤ 1099511627776 := by have := hw hk2; have h3 : wStore x = x.1.size + (x.2.1.length + wSum wItem x.2.1) := rfl; omega
  iterate 15 refine z ?_
  refine zC Tryz.call81 ?_ (hf := ok_impl_GetField)
  iterate 10 refine z ?_
  refine yQ rfl (fun c2 => ?_) fun c2 => ?_
  ·skip
   iterate 4 refine z ?_
   refine ok_region ?_
   iterate 3 refine z ?_
   refine ⟨k + 1, ?_, ?_, weak_sub ⟨rfl, rfl, rfl, rfl, rfl, rfl, trivial⟩ trivial ⟨(congrArg (fun l : List ItemT => some (some (KC.mk false 93 4 l.length (l.flatMap eItem)))) (idxN_no (by simpa using c2))), trivial⟩ rfl⟩
   ·omega
   ·omega
  ·skip
   iterate 4 refine z ?_
   refine yO rfl rfl (pu_lenKn (n := ((idxN f x.2.1 k).length)) hT rfl rfl (ev_tmp rfl) rfl rfl) rfl ?_
   iterate 4 refine z ?_
   refine ok_loop (ι := Nat) (fun zz => ⟨[(1, .one (.dv [] (.str (f)))), (4, .one .nil), (5, .one (.key 11)), (7, .box 7 0), (10, .one (.dv [] (.int .i64 ((zz : Int))))), (13, .one (.dv [] (itemsD (x.2.1)))), (14, .one (.dv [] (.int .i64 ((((x.2.1)).length : Int))))), (15, .one (.dv [] (.int .i64 ((k : Int)))))], [(7, 93, [(.dv [] (.int .i64 ((((x.2.1)).getD ((k : Int)).toNat default).1.1))), (.dv [] (.int .i64 ((((x.2.1)).getD ((k : Int)).toNat default).1.2.1))), (.dv [] (.str ((((x.2.1)).getD ((k : Int)).toNat default).1.2.2))), (.dv [] (fieldsD ((((x.2.1)).getD ((k : Int)).toNat default).2)))])], [(11, some (kcOf false (.sl 93 4 ((idxN f x.2.1 k).length) ((idxN f x.2.1 k).flatMap eItem))))]⟩) (fun zz => zz ≤ (idxN f x.2.1 k).length ∧ posD f (x.2.1.getD (k : Int).toNat default) (idxN f x.2.1 k) (idxN f x.2.1 k).length = posD f (x.2.1.getD (k : Int).toNat default) (idxN f x.2.1 k) zz) (fun zz => zz) ((idxN f x.2.1 k).length) ?_ (weak_sub ⟨rfl, rfl, rfl, rfl, rfl, rfl, rfl, rfl, trivial⟩ ⟨rfl, trivial⟩ ⟨rfl, trivial⟩ rfl) (fun zz hx => ?_)
   ·exact ⟨Nat.le_refl _, rfl⟩
   obtain ⟨j, rfl⟩ : ∃ v, v = zz := ⟨_, rfl⟩
   replace hx : j ≤ (idxN f x.2.1 k).length ∧ posD f (x.2.1.getD (k : Int).toNat default) (idxN f x.2.1 k) (idxN f x.2.1 k).length = posD f (x.2.1.getD (k : Int).toNat default) (idxN f x.2.1 k) j := hx
   obtain ⟨hj, hp⟩ := hx
   show Ok _ _ _ _ _ (⟨[(1, .one (.dv [] (.str (f)))), (4, .one .nil), (5, .one (.key 11)), (7, .box 7 0), (10, .one (.dv [] (.int .i64 ((j : Int))))), (13, .one (.dv [] (itemsD (x.2.1)))), (14, .one (.dv [] (.int .i64 ((((x.2.1)).length : Int))))), (15, .one (.dv [] (.int .i64 ((k : Int)))))], [(7, 93, [(.dv [] (.int .i64 ((((x.2.1)).getD ((k : Int)).toNat default).1.1))), (.dv [] (.int .i64 ((((x.2.1)).getD ((k : Int)).toNat default).1.2.1))), (.dv [] (.str ((((x.2.1)).getD ((k : Int)).toNat default).1.2.2))), (.dv [] (fieldsD ((((x.2.1)).getD ((k : Int)).toNat default).2)))])], [(11, some (kcOf false (.sl 93 4 ((idxN f x.2.1 k).length) ((idxN f x.2.1 k).flatMap eItem))))]⟩ : St)
   refine ok_seq ?_
   refine ok_seq ?_
   refine ok_regionD (oB := [7]) (oK := [11]) (by kernel_rfl) rfl rfl ?_
   refine zD 0 ?_
   refine zD 1 ?_
   refine zD 2 ?_
   refine zDG 3 ?_
   refine d_takeG 4 rfl (by kernel_rfl) (gd_bool rfl rfl rfl rfl rfl) rfl (fun hg => pu_move (v := .one (.dv [11] (itemsD (idxN f x.2.1 k)))) (.inl rfl) (ev_keyv' (ev_tmp rfl) rfl rfl)) rfl rfl rfl rfl ?_
   refine zDG 5 ?_
   refine zDG 6 ?_
   refine zDG 7 ?_
   refine zDG 8 ?_
   refine zDG 9 ?_
   refine d_callG 10 rfl (by kernel_rfl) (gd_bool rfl rfl rfl rfl rfl) rfl rfl Tryz.call131 ok_impl_fieldBefore (fun hg => (as_cons (ev_opt rfl hg) (ag_agg (ag_cons ac_dv (ag_cons ac_dv (ag_cons ac_dv (ag_cons ac_dv ag_nil))))) (as_cons (ev_opt rfl hg) (ag_agg (ag_cons ac_dv (ag_cons ac_dv (ag_cons ac_dv (ag_cons ac_dv ag_nil))))) (as_cons (ev_opt rfl hg) (ag_one ac_dv) as_nil)))) rfl rfl ?_
   refine zD 11 ?_
   refine d_done (by kernel_rfl) ?_
   refine z ?_
   refine yQ rfl (fun c3 => ?_) fun c3 => ?_
   ·skip
    have hst := posD_step c3
    have hst1 := hst.1
    iterate 3 refine z ?_
    refine ok_region ?_
    iterate 3 refine z ?_
    refine ops_nil ?_
    iterate 2 refine z ?_
    refine ⟨j - 1, ?_, ?_, weak_sub ⟨rfl, rfl, rfl, rfl, (congrArg (fun z : Int => some (SV.one (CV.dv [] (DV.int .i64 z)))) (show ((j : Int) - 1) = ((j - 1 : Nat) : Int) by omega)), rfl, rfl, rfl, trivial⟩ ⟨rfl, trivial⟩ ⟨rfl, trivial⟩ rfl⟩
    ·exact ⟨by omega, hp.trans hst.2⟩
    ·omega
   ·skip
    have hpos := hp.trans (posD_stop c3)
    iterate 5 refine z ?_
    refine ok_region ?_
    iterate 3 refine z ?_
    refine zK 47000 Tryz.call45 ?_ (hf := ok_impl_copyItem (by first | omega | exact Nat.le_trans (item_len _) hrec | exact Nat.le_trans (item_len _) (Nat.le_trans hrec (by decide))))
    refine o_build1 (k := 48) (js := [54003]) hT rfl rfl rfl rfl rfl rfl rfl rfl rfl (ev_tmp rfl) rfl rfl (ow_cons' (ow_dv rfl) (ow_cons' (ow_dv rfl) (ow_cons' (ow_dv rfl) (ow_cons' (ow_key rfl) ow_nil rfl) rfl) rfl) rfl) (by decide) (by decide) rfl rfl ?_
    simp only [killT, killB, SV.kill, CV.kill, kk, Nat.reduceBEq]
    refine o_insert (k := 11) (j := 48) (cs := (idxN f x.2.1 (k + 1)).flatMap eItem) (n := (idxN f x.2.1 (k + 1)).length) (insOk_Item rfl rfl (by decide)) rfl rfl Tryz.call122 rfl rfl (ev_tmp rfl) rfl rfl rfl (ev_tmp rfl) (by omega) (by dsimp only [kcOf]; omega) (ev_tmp rfl) rfl rfl rfl rfl (by decide) (by dsimp only [kcOf]; omega) (by dsimp only [kcOf]; omega) (by rw [idxN_yes (by simpa using c2), insI_len]) (by rw [idxN_yes (by simpa using c2), hpos]; exact insL_items) ?_
    simp only [killT, killB, SV.kill, CV.kill, kk, Nat.reduceBEq]
    refine z ?_
    refine ops_nil ?_
    iterate 2 refine z ?_
    refine ok_region ?_
    iterate 3 refine z ?_
    refine ⟨k + 1, ?_, ?_, weak_sub ⟨rfl, rfl, rfl, rfl, rfl, rfl, trivial⟩ trivial ⟨rfl, trivial⟩ rfl⟩
    ·omega
    ·omega
 ·skip
  have d1 := of_decide_eq_false c1
  iterate 9 refine z ?_
  refine ok_weak (σ' := ⟨[(4, .one (.key 11))], [], [(11, some (kcOf false (itemsD (idxN f x.2.1 x.2.1.length))))]⟩) (weak_sub ⟨rfl, trivial⟩ trivial ⟨(congrArg (fun m : Nat => some (some (KC.mk false 93 4 (idxN f x.2.1 m).length ((idxN f x.2.1 m).flatMap eItem)))) (show k = x.2.1.length by omega)), trivial⟩ rfl) ?_
  refine z ?_
  refine fin1 (res_tmp rfl) ?_
  exact ⟨rfl, rfl⟩
theorem ok_spec_l7Less {x y : ItemT} {f : Str}  : PFn Tryz.prog 134 [.agg [(.dv [] (.int .i64 (x.1.1))), (.dv [] (.int .i64 (x.1.2.1))), (.dv [] (.str (x.1.2.2))), (.dv [] (fieldsD (x.2)))], .agg [(.dv [] (.int .i64 (y.1.1))), (.dv [] (.int .i64 (y.1.2.1))), (.dv [] (.str (y.1.2.2))), (.dv [] (fieldsD (y.2)))], .one (.dv [] (.str (f)))] (.one (.dv [] (.bool (bef f x y)))) := by
 refine ⟨fn_intro Tryz.func134 rfl Tryz.ntmps134 Tryz.results134 rfl (fun C => ?_)⟩
 refine yF 0 0 rfl rfl fun f0_0 => ?_
 refine yF 0 1 rfl rfl fun f0_1 => ?_
 refine yF 0 2 rfl rfl fun f0_2 => ?_
 refine yF 0 3 rfl rfl fun f0_3 => ?_
 refine yF 1 0 rfl rfl fun f1_0 => ?_
 refine yF 1 1 rfl rfl fun f1_1 => ?_
 refine yF 1 2 rfl rfl fun f1_2 => ?_
 refine yF 1 3 rfl rfl fun f1_3 => ?_
 refine ok_fact (x := .tmp 2) (ev_tmp rfl) fun f2 => ?_
 iterate 9 refine z ?_
 refine zC Tryz.call93 ?_ (hf := ok_spec_GetField)
 iterate 10 refine z ?_
 refine zC Tryz.call93 ?_ (hf := ok_spec_GetField)
 iterate 19 refine z ?_
 refine o_callG (gd_opt rfl rfl rfl rfl rfl) rfl rfl Tryz.call91 ok_spec_CompareKeys (fun hg => (as_cons (ev_opt rfl hg) (ag_agg (ag_cons ac_dv (ag_cons ac_dv (ag_cons ac_dv ag_nil)))) (as_cons (ev_opt rfl hg) (ag_agg (ag_cons ac_dv (ag_cons ac_dv (ag_cons ac_dv ag_nil)))) as_nil))) rfl rfl ?_
 iterate 7 refine z ?_
 unfold bef; grind
theorem ok_spec_IndexOn {x : StoreT} {f : Str} (hb : wStore x ≤ 1048576) : KFn Tryz.prog 92 [.agg [(.dv [] (.str (x.1))), (.dv [] (itemsD (x.2.1))), (.dv [] (.int .i64 (x.2.2)))], .one (.dv [] (.str (f)))] (.one (.key 11)) [(11, some (kcOf false (itemsD (idxN f x.2.1 x.2.1.length))))] := by
 refine ⟨fn_intro Tryz.func92 rfl Tryz.ntmps92 Tryz.results92 rfl (fun C => ?_)⟩
 refine yF 0 0 rfl rfl fun f0_0 => ?_
 refine yF 0 1 rfl rfl fun f0_1 => ?_
 refine yF 0 2 rfl rfl fun f0_2 => ?_
 refine ok_fact (x := .tmp 1) (ev_tmp rfl) fun f1 => ?_
 iterate 5 refine z ?_
 refine o_build0 (k := 11) hT rfl rfl rfl rfl rfl rfl rfl rfl ?_
 iterate 7 refine z ?_
 refine ok_loop (ι := Nat) (fun zz => ⟨[(1, .one (.dv [] (.str (f)))), (2, .box 2 0), (4, .one .nil), (5, .one (.key 11)), (6, .one (.dv [] (.int .i64 ((zz : Int)))))], [(2, 60, [(.dv [] (.str (x.1))), (.dv [] (itemsD (x.2.1))), (.dv [] (.int .i64 (x.2.2)))])], [(11, some (kcOf false (.sl 93 4 ((idxN f x.2.1 zz).length) ((idxN f x.2.1 zz).flatMap eItem))))]⟩) (fun zz => zz ≤ x.2.1.length) (fun zz => x.2.1.length - zz) (0) ?_ (weak_sub ⟨rfl, rfl, rfl, rfl, rfl, trivial⟩ ⟨rfl, trivial⟩ ⟨rfl, trivial⟩ rfl) (fun zz hx => ?_)
 ·exact Nat.zero_le _
 obtain ⟨k, rfl⟩ : ∃ v, v = zz := ⟨_, rfl⟩
 replace hx : k ≤ x.2.1.length := hx
 have hw := fun h => wSum_succ wItem x.2.1 k h
 have hol := idxN_len f x.2.1 k
 show Ok _ _ _ _ _ (⟨[(1, .one (.dv [] (.str (f)))), (2, .box 2 0), (4, .one .nil), (5, .one (.key 11)), (6, .one (.dv [] (.int .i64 ((k : Int)))))], [(2, 60, [(.dv [] (.str (x.1))), (.dv [] (itemsD (x.2.1))), (.dv [] (.int .i64 (x.2.2)))])], [(11, some (kcOf false (.sl 93 4 ((idxN f x.2.1 k).length) ((idxN f x.2.1 k).flatMap eItem))))]⟩ : St)
 iterate 8 refine z ?_
 refine yQ rfl (fun c1 => ?_) fun c1 => ?_
 ·skip
  have d1 := of_decide_eq_true c1
  have hk2 : k < x.2.1.length := by omega
  have hlen : x.2.1.length ≤ 1048576 := by have h3 : wStore x = x.1.size + (x.2.1.length + wSum wItem x.2.1) := rfl; omega
  have hrec : wItem (x.2.1.getD (k : Int).toNat default) ≤ 1099511627776 := by have := hw hk2; have h3 : wStore x = x.1.size + (x.2.1.length + wSum wItem x.2.1) := rfl; omega
  iterate 13 refine z ?_
  refine zC Tryz.call93 ?_ (hf := ok_spec_GetField)
  iterate 10 refine z ?_
  refine yQ rfl (fun c2 => ?_) fun c2 => ?_
  ·skip
   iterate 4 refine z ?_
   refine ok_region ?_
   iterate 4 refine z ?_
   refine ⟨k + 1, ?_, ?_, weak_sub ⟨rfl, rfl, rfl, rfl, rfl, trivial⟩ ⟨rfl, trivial⟩ ⟨(congrArg (fun l : List ItemT => some (some (KC.mk false 93 4 l.length (l.flatMap eItem)))) (idxN_no (by simpa using c2))), trivial⟩ rfl⟩
   ·omega
   ·omega
  ·skip
   iterate 4 refine z ?_
   refine yO rfl rfl (pu_lenKn (n := ((idxN f x.2.1 k).length)) hT rfl rfl (ev_tmp rfl) rfl rfl) rfl ?_
   iterate 4 refine z ?_
   refine ok_loop (ι := Nat) (fun zz => ⟨[(1, .one (.dv [] (.str (f)))), (2, .box 2 0), (4, .one .nil), (5, .one (.key 11)), (6, .one (.dv [] (.int .i64 ((k : Int))))), (9, .one (.dv [] (.int .i64 ((zz : Int)))))], [(2, 60, [(.dv [] (.str (x.1))), (.dv [] (itemsD (x.2.1))), (.dv [] (.int .i64 (x.2.2)))])], [(11, some (kcOf false (.sl 93 4 ((idxN f x.2.1 k).length) ((idxN f x.2.1 k).flatMap eItem))))]⟩) (fun zz => zz ≤ (idxN f x.2.1 k).length ∧ posD f (x.2.1.getD (k : Int).toNat default) (idxN f x.2.1 k) (idxN f x.2.1 k).length = posD f (x.2.1.getD (k : Int).toNat default) (idxN f x.2.1 k) zz) (fun zz => zz) ((idxN f x.2.1 k).length) ?_ (weak_sub ⟨rfl, rfl, rfl, rfl, rfl, rfl, trivial⟩ ⟨rfl, trivial⟩ ⟨rfl, trivial⟩ rfl) (fun zz hx => ?_)
   ·exact ⟨Nat.le_refl _, rfl⟩
   obtain ⟨j, rfl⟩ : ∃ v, v = zz := ⟨_, rfl⟩
   replace hx : j ≤ (idxN f x.2.1 k).length ∧ posD f (x.2.1.getD (k : Int).toNat default) (idxN f x.2.1 k) (idxN f x.2.1 k).length = posD f (x.2.1.getD (k : Int).toNat default) (idxN f x.2.1 k) j := hx
   obtain ⟨hj, hp⟩ := hx
   show Ok _ _ _ _ _ (⟨[(1, .one (.dv [] (.str (f)))), (2, .box 2 0), (4, .one .nil), (5, .one (.key 11)), (6, .one (.dv [] (.int .i64 ((k : Int))))), (9, .one (.dv [] (.int .i64 ((j : Int)))))], [(2, 60, [(.dv [] (.str (x.1))), (.dv [] (itemsD (x.2.1))), (.dv [] (.int .i64 (x.2.2)))])], [(11, some (kcOf false (.sl 93 4 ((idxN f x.2.1 k).length) ((idxN f x.2.1 k).flatMap eItem))))]⟩ : St)
   refine ok_seq ?_
   refine ok_seq ?_
   refine ok_regionD (oB := [2]) (oK := [11]) (by kernel_rfl) rfl rfl ?_
   refine zD 0 ?_
   refine zD 1 ?_
   refine zD 2 ?_
   refine zDG 3 ?_
   refine zDG 4 ?_
   refine zDG 5 ?_
   refine zDG 6 ?_
   refine zDG 7 ?_
   refine d_takeG 8 rfl (by kernel_rfl) (gd_bool rfl rfl rfl rfl rfl) rfl (fun hg => pu_move (v := .one (.dv [11] (itemsD (idxN f x.2.1 k)))) (.inl rfl) (ev_keyv' (ev_tmp rfl) rfl rfl)) rfl rfl rfl rfl ?_
   refine zDG 9 ?_
   refine zDG 10 ?_
   refine zDG 11 ?_
   refine zDG 12 ?_
   refine zDG 13 ?_
   refine d_callG 14 rfl (by kernel_rfl) (gd_bool rfl rfl rfl rfl rfl) rfl rfl Tryz.call134 ok_spec_l7Less (fun hg => (as_cons (ev_opt rfl hg) (ag_agg (ag_cons ac_dv (ag_cons ac_dv (ag_cons ac_dv (ag_cons ac_dv ag_nil))))) (as_cons (ev_opt rfl hg) (ag_agg (ag_cons ac_dv (ag_cons ac_dv (ag_cons ac_dv (ag_cons ac_dv ag_nil))))) (as_cons (ev_opt rfl hg) (ag_one ac_dv) as_nil)))) rfl rfl ?_
   refine zD 15 ?_
   refine d_done (by kernel_rfl) ?_
   refine z ?_
   refine yQ rfl (fun c3 => ?_) fun c3 => ?_
   ·skip
    have hst := posD_step c3
    have hst1 := hst.1
    iterate 3 refine z ?_
    refine ok_region ?_
    iterate 3 refine z ?_
    refine ops_nil ?_
    iterate 2 refine z ?_
    refine ⟨j - 1, ?_, ?_, weak_sub ⟨rfl, rfl, rfl, rfl, rfl, (congrArg (fun z : Int => some (SV.one (CV.dv [] (DV.int .i64 z)))) (show ((j : Int) - 1) = ((j - 1 : Nat) : Int) by omega)), trivial⟩ ⟨rfl, trivial⟩ ⟨rfl, trivial⟩ rfl⟩
    ·exact ⟨by omega, hp.trans hst.2⟩
    ·omega
   ·skip
    have hpos := hp.trans (posD_stop c3)
    iterate 6 refine z ?_
    refine o_build0 (k := 52) hT rfl rfl rfl rfl rfl rfl rfl rfl ?_
    iterate 2 refine z ?_
    refine o_appSub (k := 52) (j := 11) (s := 5) (n := ((idxN f x.2.1 k).take j).length) (cs := ((idxN f x.2.1 k).take j).flatMap eItem) (c2s := List.replicate (j * 4) .hole ++ ((idxN f x.2.1 k).drop j).flatMap eItem) hT rfl rfl rfl (sl_h hT rfl rfl rfl (ev_tmp rfl) rfl (ev_tmp rfl) (by omega) (by dsimp only [kcOf]; omega)) rfl rfl rfl rfl rfl rfl rfl (ev_tmp rfl) rfl rfl rfl rfl rfl rfl (by decide) rfl rfl ⟨rfl, rfl⟩ (by omega) (by dsimp only [kcOf]; omega) (by dsimp only [kcOf]; omega) (by dsimp only [kcOf]; omega) (by rw [List.length_take, Nat.min_eq_left (by omega)]; simp) (sub_lo) (holed_lo) ?_
    simp only [killT, killB, SV.kill, CV.kill, kk, Nat.reduceBEq]
    iterate 9 refine z ?_
    refine zK 63000 Tryz.call88 ?_ (hf := ok_spec_l6Item (by first | omega | exact Nat.le_trans (item_len _) hrec | exact Nat.le_trans (item_len _) (Nat.le_trans hrec (by decide))))
    refine o_build1 (k := 64) (js := [70003]) hT rfl rfl rfl rfl rfl rfl rfl rfl rfl (ev_tmp rfl) rfl rfl (ow_cons' (ow_dv rfl) (ow_cons' (ow_dv rfl) (ow_cons' (ow_dv rfl) (ow_cons' (ow_key rfl) ow_nil rfl) rfl) rfl) rfl) (by decide) (by decide) rfl rfl ?_
    simp only [killT, killB, SV.kill, CV.kill, kk, Nat.reduceBEq]
    refine o_appK (k := 52) (j := 64) (cs := ((idxN f x.2.1 k).take j ++ [(x.2.1.getD (k : Int).toNat default)]).flatMap eItem) (n := ((idxN f x.2.1 k).take j ++ [(x.2.1.getD (k : Int).toNat default)]).length) hT rfl rfl rfl rfl rfl rfl rfl (ev_tmp rfl) rfl rfl rfl (ev_tmp rfl) rfl rfl (by decide) (by dsimp only [kcOf]; simp only [List.length_take]; omega) (by dsimp only [kcOf]; simp only [List.length_take]; omega) (by simp) (by rw [List.flatMap_append]; rfl) ?_
    simp only [killT, killB, SV.kill, CV.kill, kk, Nat.reduceBEq]
    iterate 2 refine z ?_
    refine ok_region ?_
    iterate 3 refine z ?_
    refine o_appSub (k := 52) (j := 11) (s := 5) (n := (idxN f x.2.1 (k + 1)).length) (cs := (idxN f x.2.1 (k + 1)).flatMap eItem) (c2s := _) hT rfl rfl rfl (sl_l hT rfl rfl rfl (ev_tmp rfl) rfl (ev_tmp rfl) (by omega) (by dsimp only [kcOf]; omega)) rfl rfl rfl rfl rfl rfl rfl (ev_tmp rfl) rfl rfl rfl rfl rfl rfl (by decide) rfl rfl ⟨rfl, rfl⟩ (by dsimp only [kcOf]; omega) (by dsimp only [kcOf]; omega) (by dsimp only [kcOf]; simp only [List.length_append, List.length_take, List.length_singleton]; omega) (by dsimp only [kcOf]; simp only [List.length_append, List.length_take, List.length_singleton]; omega) (by rw [idxN_yes (by simpa using c2), insI_len]; simp; omega) (by rw [idxN_yes (by simpa using c2), hpos]; exact sub_hi hj) (rfl) ?_
    simp only [killT, killB, SV.kill, CV.kill, kk, Nat.reduceBEq]
    refine z ?_
    refine ops_nil ?_
    iterate 2 refine z ?_
    refine ok_weak (weak_swap (s := 5) (k := 52) (k' := 11) rfl rfl rfl (by decide) rfl) ?_
    simp only [killT, killB, SV.kill, CV.kill, kk, Nat.reduceBEq]
    refine ok_region ?_
    iterate 4 refine z ?_
    refine ⟨k + 1, ?_, ?_, weak_sub ⟨rfl, rfl, rfl, rfl, rfl, trivial⟩ ⟨rfl, trivial⟩ ⟨rfl, trivial⟩ rfl⟩
    ·omega
    ·omega
 ·skip
  have d1 := of_decide_eq_false c1
  iterate 9 refine z ?_
  refine ok_weak (σ' := ⟨[(4, .one (.key 11))], [], [(11, some (kcOf false (itemsD (idxN f x.2.1 x.2.1.length))))]⟩) (weak_sub ⟨rfl, trivial⟩ trivial ⟨(congrArg (fun m : Nat => some (some (KC.mk false 93 4 (idxN f x.2.1 m).length ((idxN f x.2.1 m).flatMap eItem)))) (show k = x.2.1.length by omega)), trivial⟩ rfl) ?_
  refine z ?_
  refine fin1 (res_tmp rfl) ?_
  exact ⟨rfl, rfl⟩
end Go.Proofs.YtjkpoekgnmgofaaGreat

namespace Go.Proofs.YtjkpoekgnmgofaaGreat
open Go.RowKit
open Go.Proofs
set_option linter.unusedVariables false
set_option linter.unusedSimpArgs false

def sameF (f : Str) (l : List ItemT) (k : Nat) : Bool := decide ((getF (l.getD (k - 1) default).2 f).1 = (getF (l.getD k default).2 f).1)
def ufN (f : Str) (l : List ItemT) : Nat → Option Nat
 | 0 => none
 | k + 1 => (ufN f l k).or (if 1 ≤ k ∧ sameF f l k = true then some k else none)
def ufRes (f : Str) (l : List ItemT) : KeyT × KeyT × Bool := match ufN f l l.length with
 | some m => ((l.getD (m - 1) default).1, (l.getD m default).1, true)
 | none => ((0, 0, ByteArray.empty), (0, 0, ByteArray.empty), false)
theorem ufN_mono {f : Str} {l : List ItemT} {k m : Nat} (h : ufN f l k = some m) : ∀ d, ufN f l (k + d) = some m
 | 0 => h
 | d + 1 => by rw [← Nat.add_assoc, ufN, ufN_mono h d]; rfl
theorem uf_hit {f : Str} {l : List ItemT} {k : Nat} (h : ufN f l k = none) (h1 : 1 ≤ k) (hk : k < l.length) (hs : sameF f l k = true) : ufRes f l = ((l.getD (k - 1) default).1, (l.getD k default).1, true) := by
 have h2 : ufN f l (k + 1) = some k := by rw [ufN, h, if_pos ⟨h1, hs⟩]; rfl
 have h3 := ufN_mono h2 (l.length - (k + 1))
 rw [show k + 1 + (l.length - (k + 1)) = l.length by omega] at h3
 rw [ufRes, h3]
theorem uf_no {f : Str} {l : List ItemT} (h : ufN f l l.length = none) : ufRes f l = ((0, 0, ByteArray.empty), (0, 0, ByteArray.empty), false) := by rw [ufRes, h]
theorem uf_step {f : Str} {l : List ItemT} {k : Nat} (h : ufN f l k = none) (hs : sameF f l k = false) : ufN f l (k + 1) = none := by rw [ufN, h, if_neg (by rw [hs]; simp)]; rfl
theorem same_of {f : Str} {l : List ItemT} {k : Nat} (h1 : 1 ≤ k) : (getF (l.getD ((k : Int) - 1).toNat default).2 f).1 = (getF (l.getD (k : Int).toNat default).2 f).1 ↔ sameF f l k = true := by
 rw [show ((k : Int) - 1).toNat = k - 1 by omega, Int.toNat_natCast, sameF, decide_eq_true_iff]
theorem same_not {f : Str} {l : List ItemT} {k : Nat} (h1 : 1 ≤ k) (h : ¬ (getF (l.getD ((k : Int) - 1).toNat default).2 f).1 = (getF (l.getD (k : Int).toNat default).2 f).1) : sameF f l k = false := by
 rw [same_of h1] at h; simpa using h
theorem uf_end {f : Str} {l : List ItemT} {k : Nat} (hu : ufN f l k = none) (hk : k ≤ 1 ∨ k ≤ l.length) (h : ¬ (k : Int) < (l.length : Int)) : ufN f l l.length = none := by
 by_cases e : l.length = k
 ·rw [e]; exact hu
 ·have : l.length = 0 := by omega
  rw [this]; rfl

theorem ok_impl_UniqueFault {x : StoreT} {f : Str} (hb : wStore x ≤ 1048576) : PFn Tryz.prog 53 [.agg [(.dv [] (.str (x.1))), (.dv [] (itemsD (x.2.1))), (.dv [] (.int .i64 (x.2.2)))], .one (.dv [] (.str (f)))] (.tup [(true, [(.dv [] (.int .i64 ((ufRes f (idxN f x.2.1 x.2.1.length)).1.1))), (.dv [] (.int .i64 ((ufRes f (idxN f x.2.1 x.2.1.length)).1.2.1))), (.dv [] (.str ((ufRes f (idxN f x.2.1 x.2.1.length)).1.2.2)))]), (true, [(.dv [] (.int .i64 ((ufRes f (idxN f x.2.1 x.2.1.length)).2.1.1))), (.dv [] (.int .i64 ((ufRes f (idxN f x.2.1 x.2.1.length)).2.1.2.1))), (.dv [] (.str ((ufRes f (idxN f x.2.1 x.2.1.length)).2.1.2.2)))]), (false, [(.dv [] (.bool ((ufRes f (idxN f x.2.1 x.2.1.length)).2.2)))])]) := by
 refine ⟨fn_intro Tryz.func53 rfl Tryz.ntmps53 Tryz.results53 rfl (fun C => ?_)⟩
 refine yF 0 0 rfl rfl fun f0_0 => ?_
 refine yF 0 1 rfl rfl fun f0_1 => ?_
 refine yF 0 2 rfl rfl fun f0_2 => ?_
 refine ok_fact (x := .tmp 1) (ev_tmp rfl) fun f1 => ?_
 iterate 9 refine z ?_
 refine zK 0 Tryz.call87 ?_ (hf := ok_impl_IndexOn (by omega))
 iterate 7 refine z ?_
 refine ok_loop (ι := Nat) (fun zz => ⟨[(1, .one (.dv [] (.str (f)))), (4, .box 4 0), (5, .box 5 0), (7, .one (.key 11)), (8, .one (.dv [] (.int .i64 ((zz : Int)))))], [(4, 63, [(.dv [] (.int .i64 (0))), (.dv [] (.int .i64 (0))), (.dv [] (.str (ByteArray.empty)))]), (5, 63, [(.dv [] (.int .i64 (0))), (.dv [] (.int .i64 (0))), (.dv [] (.str (ByteArray.empty)))])], [(11, some (kcOf false (.sl 93 4 ((idxN f x.2.1 x.2.1.length).length) ((idxN f x.2.1 x.2.1.length).flatMap eItem))))]⟩) (fun zz => 1 ≤ zz ∧ (zz ≤ 1 ∨ zz ≤ (idxN f x.2.1 x.2.1.length).length) ∧ ufN f (idxN f x.2.1 x.2.1.length) zz = none) (fun zz => (idxN f x.2.1 x.2.1.length).length - zz) (1) ?_ (weak_sub ⟨rfl, rfl, rfl, rfl, rfl, trivial⟩ ⟨rfl, rfl, trivial⟩ ⟨rfl, trivial⟩ rfl) (fun zz hx => ?_)
 ·exact ⟨Nat.le_refl _, .inl (Nat.le_refl _), rfl⟩
 obtain ⟨k, rfl⟩ : ∃ v, v = zz := ⟨_, rfl⟩
 replace hx : 1 ≤ k ∧ (k ≤ 1 ∨ k ≤ (idxN f x.2.1 x.2.1.length).length) ∧ ufN f (idxN f x.2.1 x.2.1.length) k = none := hx
 obtain ⟨h1, hk, hu⟩ := hx
 have hlw := idxN_len f x.2.1 x.2.1.length
 have hlen : x.2.1.length ≤ 1048576 := by have h3 : wStore x = x.1.size + (x.2.1.length + wSum wItem x.2.1) := rfl; omega
 show Ok _ _ _ _ _ (⟨[(1, .one (.dv [] (.str (f)))), (4, .box 4 0), (5, .box 5 0), (7, .one (.key 11)), (8, .one (.dv [] (.int .i64 ((k : Int)))))], [(4, 63, [(.dv [] (.int .i64 (0))), (.dv [] (.int .i64 (0))), (.dv [] (.str (ByteArray.empty)))]), (5, 63, [(.dv [] (.int .i64 (0))), (.dv [] (.int .i64 (0))), (.dv [] (.str (ByteArray.empty)))])], [(11, some (kcOf false (.sl 93 4 ((idxN f x.2.1 x.2.1.length).length) ((idxN f x.2.1 x.2.1.length).flatMap eItem))))]⟩ : St)
 iterate 3 refine z ?_
 refine yO rfl rfl (pu_move (v := .one (.dv [11] (itemsD (idxN f x.2.1 x.2.1.length)))) (.inl rfl) (ev_keyv' (ev_tmp rfl) rfl rfl)) rfl ?_
 iterate 3 refine z ?_
 refine yQ rfl (fun c1 => ?_) fun c1 => ?_
 ·skip
  have d1 := of_decide_eq_true c1
  iterate 5 refine z ?_
  refine yO rfl rfl (pu_move (v := .one (.dv [11] (itemsD (idxN f x.2.1 x.2.1.length)))) (.inl rfl) (ev_keyv' (ev_tmp rfl) rfl rfl)) rfl ?_
  iterate 6 refine z ?_
  refine zC Tryz.call81 ?_ (hf := ok_impl_GetField)
  iterate 7 refine z ?_
  refine yO rfl rfl (pu_move (v := .one (.dv [11] (itemsD (idxN f x.2.1 x.2.1.length)))) (.inl rfl) (ev_keyv' (ev_tmp rfl) rfl rfl)) rfl ?_
  iterate 5 refine z ?_
  refine zC Tryz.call81 ?_ (hf := ok_impl_GetField)
  iterate 11 refine z ?_
  refine yQ rfl (fun c2 => ?_) fun c2 => ?_
  ·skip
   have d2 := of_decide_eq_true c2
   refine ok_seq ?_
   refine ok_regionW 4 (oB := [5]) (oK := [11]) (by kernel_rfl) rfl rfl ?_
   refine w_take 0 rfl (by kernel_rfl) rfl rfl (pu_move (v := .one (.dv [11] (itemsD (idxN f x.2.1 x.2.1.length)))) (.inl rfl) (ev_keyv' (ev_tmp rfl) rfl rfl)) rfl rfl rfl rfl rfl ?_
   refine w_take 1 rfl (by kernel_rfl) rfl rfl (pu_move (.inl rfl) (ev_tmp rfl)) rfl rfl rfl rfl rfl ?_
   refine w_take 2 rfl (by kernel_rfl) rfl rfl (pu_subR rfl (ev_tmp rfl) (ev_int (inR_lit rfl)) (inR64 (by omega) (by omega))) rfl rfl rfl rfl rfl ?_
   refine w_take 3 rfl (by kernel_rfl) rfl rfl (pu_indexD hT rfl rfl rfl (ev_tmp rfl) (ev_tmp rfl) (fun _ => rfl) (by omega) (by omega)) rfl rfl rfl rfl rfl ?_
   refine w_take 4 rfl (by kernel_rfl) rfl rfl (pu_fieldRef hT rfl rfl rfl (ev_tmp rfl)) rfl rfl rfl rfl rfl ?_
   refine w_take 5 rfl (by kernel_rfl) rfl rfl (pu_loadRefA hT rfl rfl (ev_tmp rfl) rfl) rfl rfl rfl rfl rfl ?_
   refine w_take 6 rfl (by kernel_rfl) rfl rfl (pu_move (v := .one (.dv [11] (itemsD (idxN f x.2.1 x.2.1.length)))) (.inl rfl) (ev_keyv' (ev_tmp rfl) rfl rfl)) rfl rfl rfl rfl rfl ?_
   refine w_take 7 rfl (by kernel_rfl) rfl rfl (pu_move (.inl rfl) (ev_tmp rfl)) rfl rfl rfl rfl rfl ?_
   refine w_take 8 rfl (by kernel_rfl) rfl rfl (pu_indexD hT rfl rfl rfl (ev_tmp rfl) (ev_tmp rfl) (fun _ => rfl) (by omega) (by omega)) rfl rfl rfl rfl rfl ?_
   refine w_take 9 rfl (by kernel_rfl) rfl rfl (pu_fieldRef hT rfl rfl rfl (ev_tmp rfl)) rfl rfl rfl rfl rfl ?_
   refine w_take 10 rfl (by kernel_rfl) rfl rfl (pu_loadRefA hT rfl rfl (ev_tmp rfl) rfl) rfl rfl rfl rfl rfl ?_
   refine w_store 11 rfl (by kernel_rfl) rfl hT rfl rfl rfl (ev_tmp rfl) (ev_tmp rfl) rfl rfl rfl rfl rfl rfl ?_
   refine w_chain [12, 13] rfl rfl (by kernel_rfl) ?_
   iterate 9 refine z ?_
   refine fin3 (res_cell hT rfl rfl rfl rfl) (res_cell hT rfl rfl rfl rfl) (res_tmp rfl) rfl rfl rfl ?_
   rw [uf_hit hu h1 (by omega) ((same_of h1).1 d2), show ((k : Int) - 1).toNat = k - 1 by omega] <;> rfl
  ·skip
   have d2 := of_decide_eq_false c2
   iterate 3 refine z ?_
   refine ok_region ?_
   iterate 4 refine z ?_
   refine ⟨k + 1, ?_, ?_, weak_sub ⟨rfl, rfl, rfl, rfl, rfl, trivial⟩ ⟨rfl, rfl, trivial⟩ ⟨rfl, trivial⟩ rfl⟩
   ·exact ⟨by omega, .inr (by omega), uf_step hu (same_not h1 d2)⟩
   ·omega
 ·skip
  have d1 := of_decide_eq_false c1
  iterate 6 refine z ?_
  refine yO rfl rfl (pu_build hT hB rfl rfl rfl bp_nil) rfl ?_
  refine yO rfl rfl (pu_build hT hB rfl rfl rfl bp_nil) rfl ?_
  iterate 5 refine z ?_
  refine fin3 (res_cell hT rfl rfl rfl rfl) (res_cell hT rfl rfl rfl rfl) (res_tmp rfl) rfl rfl rfl ?_
  rw [uf_no (uf_end hu hk d1)] <;> rfl
theorem ok_spec_UniqueFault {x : StoreT} {f : Str} (hb : wStore x ≤ 1048576) : PFn Tryz.prog 58 [.agg [(.dv [] (.str (x.1))), (.dv [] (itemsD (x.2.1))), (.dv [] (.int .i64 (x.2.2)))], .one (.dv [] (.str (f)))] (.tup [(true, [(.dv [] (.int .i64 ((ufRes f (idxN f x.2.1 x.2.1.length)).1.1))), (.dv [] (.int .i64 ((ufRes f (idxN f x.2.1 x.2.1.length)).1.2.1))), (.dv [] (.str ((ufRes f (idxN f x.2.1 x.2.1.length)).1.2.2)))]), (true, [(.dv [] (.int .i64 ((ufRes f (idxN f x.2.1 x.2.1.length)).2.1.1))), (.dv [] (.int .i64 ((ufRes f (idxN f x.2.1 x.2.1.length)).2.1.2.1))), (.dv [] (.str ((ufRes f (idxN f x.2.1 x.2.1.length)).2.1.2.2)))]), (false, [(.dv [] (.bool ((ufRes f (idxN f x.2.1 x.2.1.length)).2.2)))])]) := by
 refine ⟨fn_intro Tryz.func58 rfl Tryz.ntmps58 Tryz.results58 rfl (fun C => ?_)⟩
 refine yF 0 0 rfl rfl fun f0_0 => ?_
 refine yF 0 1 rfl rfl fun f0_1 => ?_
 refine yF 0 2 rfl rfl fun f0_2 => ?_
 refine ok_fact (x := .tmp 1) (ev_tmp rfl) fun f1 => ?_
 iterate 9 refine z ?_
 refine zK 0 Tryz.call92 ?_ (hf := ok_spec_IndexOn (by omega))
 iterate 7 refine z ?_
 refine ok_loop (ι := Nat) (fun zz => ⟨[(1, .one (.dv [] (.str (f)))), (4, .box 4 0), (5, .box 5 0), (7, .one (.key 11)), (8, .one (.dv [] (.int .i64 ((zz : Int)))))], [(4, 63, [(.dv [] (.int .i64 (0))), (.dv [] (.int .i64 (0))), (.dv [] (.str (ByteArray.empty)))]), (5, 63, [(.dv [] (.int .i64 (0))), (.dv [] (.int .i64 (0))), (.dv [] (.str (ByteArray.empty)))])], [(11, some (kcOf false (.sl 93 4 ((idxN f x.2.1 x.2.1.length).length) ((idxN f x.2.1 x.2.1.length).flatMap eItem))))]⟩) (fun zz => 1 ≤ zz ∧ (zz ≤ 1 ∨ zz ≤ (idxN f x.2.1 x.2.1.length).length) ∧ ufN f (idxN f x.2.1 x.2.1.length) zz = none) (fun zz => (idxN f x.2.1 x.2.1.length).length - zz) (1) ?_ (weak_sub ⟨rfl, rfl, rfl, rfl, rfl, trivial⟩ ⟨rfl, rfl, trivial⟩ ⟨rfl, trivial⟩ rfl) (fun zz hx => ?_)
 ·exact ⟨Nat.le_refl _, .inl (Nat.le_refl _), rfl⟩
 obtain ⟨k, rfl⟩ : ∃ v, v = zz := ⟨_, rfl⟩
 replace hx : 1 ≤ k ∧ (k ≤ 1 ∨ k ≤ (idxN f x.2.1 x.2.1.length).length) ∧ ufN f (idxN f x.2.1 x.2.1.length) k = none := hx
 obtain ⟨h1, hk, hu⟩ := hx
 have hlw := idxN_len f x.2.1 x.2.1.length
 have hlen : x.2.1.length ≤ 1048576 := by have h3 : wStore x = x.1.size + (x.2.1.length + wSum wItem x.2.1) := rfl; omega
 show Ok _ _ _ _ _ (⟨[(1, .one (.dv [] (.str (f)))), (4, .box 4 0), (5, .box 5 0), (7, .one (.key 11)), (8, .one (.dv [] (.int .i64 ((k : Int)))))], [(4, 63, [(.dv [] (.int .i64 (0))), (.dv [] (.int .i64 (0))), (.dv [] (.str (ByteArray.empty)))]), (5, 63, [(.dv [] (.int .i64 (0))), (.dv [] (.int .i64 (0))), (.dv [] (.str (ByteArray.empty)))])], [(11, some (kcOf false (.sl 93 4 ((idxN f x.2.1 x.2.1.length).length) ((idxN f x.2.1 x.2.1.length).flatMap eItem))))]⟩ : St)
 iterate 3 refine z ?_
 refine yO rfl rfl (pu_move (v := .one (.dv [11] (itemsD (idxN f x.2.1 x.2.1.length)))) (.inl rfl) (ev_keyv' (ev_tmp rfl) rfl rfl)) rfl ?_
 iterate 3 refine z ?_
 refine yQ rfl (fun c1 => ?_) fun c1 => ?_
 ·skip
  have d1 := of_decide_eq_true c1
  iterate 5 refine z ?_
  refine yO rfl rfl (pu_move (v := .one (.dv [11] (itemsD (idxN f x.2.1 x.2.1.length)))) (.inl rfl) (ev_keyv' (ev_tmp rfl) rfl rfl)) rfl ?_
  iterate 6 refine z ?_
  refine zC Tryz.call93 ?_ (hf := ok_spec_GetField)
  iterate 7 refine z ?_
  refine yO rfl rfl (pu_move (v := .one (.dv [11] (itemsD (idxN f x.2.1 x.2.1.length)))) (.inl rfl) (ev_keyv' (ev_tmp rfl) rfl rfl)) rfl ?_
  iterate 5 refine z ?_
  refine zC Tryz.call93 ?_ (hf := ok_spec_GetField)
  iterate 11 refine z ?_
  refine yQ rfl (fun c2 => ?_) fun c2 => ?_
  ·skip
   have d2 := of_decide_eq_true c2
   refine ok_seq ?_
   refine ok_regionW 4 (oB := [5]) (oK := [11]) (by kernel_rfl) rfl rfl ?_
   refine w_take 0 rfl (by kernel_rfl) rfl rfl (pu_move (v := .one (.dv [11] (itemsD (idxN f x.2.1 x.2.1.length)))) (.inl rfl) (ev_keyv' (ev_tmp rfl) rfl rfl)) rfl rfl rfl rfl rfl ?_
   refine w_take 1 rfl (by kernel_rfl) rfl rfl (pu_move (.inl rfl) (ev_tmp rfl)) rfl rfl rfl rfl rfl ?_
   refine w_take 2 rfl (by kernel_rfl) rfl rfl (pu_subR rfl (ev_tmp rfl) (ev_int (inR_lit rfl)) (inR64 (by omega) (by omega))) rfl rfl rfl rfl rfl ?_
   refine w_take 3 rfl (by kernel_rfl) rfl rfl (pu_indexD hT rfl rfl rfl (ev_tmp rfl) (ev_tmp rfl) (fun _ => rfl) (by omega) (by omega)) rfl rfl rfl rfl rfl ?_
   refine w_take 4 rfl (by kernel_rfl) rfl rfl (pu_fieldRef hT rfl rfl rfl (ev_tmp rfl)) rfl rfl rfl rfl rfl ?_
   refine w_take 5 rfl (by kernel_rfl) rfl rfl (pu_loadRefA hT rfl rfl (ev_tmp rfl) rfl) rfl rfl rfl rfl rfl ?_
   refine w_take 6 rfl (by kernel_rfl) rfl rfl (pu_move (v := .one (.dv [11] (itemsD (idxN f x.2.1 x.2.1.length)))) (.inl rfl) (ev_keyv' (ev_tmp rfl) rfl rfl)) rfl rfl rfl rfl rfl ?_
   refine w_take 7 rfl (by kernel_rfl) rfl rfl (pu_move (.inl rfl) (ev_tmp rfl)) rfl rfl rfl rfl rfl ?_
   refine w_take 8 rfl (by kernel_rfl) rfl rfl (pu_indexD hT rfl rfl rfl (ev_tmp rfl) (ev_tmp rfl) (fun _ => rfl) (by omega) (by omega)) rfl rfl rfl rfl rfl ?_
   refine w_take 9 rfl (by kernel_rfl) rfl rfl (pu_fieldRef hT rfl rfl rfl (ev_tmp rfl)) rfl rfl rfl rfl rfl ?_
   refine w_take 10 rfl (by kernel_rfl) rfl rfl (pu_loadRefA hT rfl rfl (ev_tmp rfl) rfl) rfl rfl rfl rfl rfl ?_
   refine w_store 11 rfl (by kernel_rfl) rfl hT rfl rfl rfl (ev_tmp rfl) (ev_tmp rfl) rfl rfl rfl rfl rfl rfl ?_
   refine w_chain [12, 13] rfl rfl (by kernel_rfl) ?_
   iterate 9 refine z ?_
   refine fin3 (res_cell hT rfl rfl rfl rfl) (res_cell hT rfl rfl rfl rfl) (res_tmp rfl) rfl rfl rfl ?_
   rw [uf_hit hu h1 (by omega) ((same_of h1).1 d2), show ((k : Int) - 1).toNat = k - 1 by omega] <;> rfl
  ·skip
   have d2 := of_decide_eq_false c2
   iterate 3 refine z ?_
   refine ok_region ?_
   iterate 4 refine z ?_
   refine ⟨k + 1, ?_, ?_, weak_sub ⟨rfl, rfl, rfl, rfl, rfl, trivial⟩ ⟨rfl, rfl, trivial⟩ ⟨rfl, trivial⟩ rfl⟩
   ·exact ⟨by omega, .inr (by omega), uf_step hu (same_not h1 d2)⟩
   ·omega
 ·skip
  have d1 := of_decide_eq_false c1
  iterate 6 refine z ?_
  refine yO rfl rfl (pu_build hT hB rfl rfl rfl bp_nil) rfl ?_
  refine yO rfl rfl (pu_build hT hB rfl rfl rfl bp_nil) rfl ?_
  iterate 5 refine z ?_
  refine fin3 (res_cell hT rfl rfl rfl rfl) (res_cell hT rfl rfl rfl rfl) (res_tmp rfl) rfl rfl rfl ?_
  rw [uf_no (uf_end hu hk d1)] <;> rfl
end Go.Proofs.YtjkpoekgnmgofaaGreat

namespace Go.Proofs.YtjkpoekgnmgofaaGreat
open Go.RowKit
open Go.Proofs
set_option linter.unusedVariables false
set_option linter.unusedSimpArgs false

def stoBad (s : StoreT) (i : Nat) : Bool := (!isKey (s.2.1.getD (i : Int).toNat default).1 || !isRec (s.2.1.getD (i : Int).toNat default).2) ||
 (decide ((0 : Int) < (i : Int)) && decide (0 ≤ cmpK (s.2.1.getD ((i : Int) - 1).toNat default).1 (s.2.1.getD (i : Int).toNat default).1))
def isSto (s : StoreT) : Bool := (List.range s.2.1.length).all (fun i => !stoBad s i) && (isName s.1 && decide ((s.2.1.length : Int) ≤ 16) && (decide ((0 : Int) ≤ s.2.2) && decide (s.2.2 ≤ 1000000)))
def kEq (a b : KeyT) : Bool := decide (a.1 = b.1) && (decide (a.2.1 = b.2.1) && sEq a.2.2 b.2.2)
def fndK (x : StoreT) (k : KeyT) : Int := findI (fun y : ItemT => kEq y.1 k) x.2.1 0
theorem take_cs1 {xs : List ItemT} {k : Nat} (hk : k < xs.length) : (xs.take k).flatMap eItem ++ eItem (xs.getD (k : Int).toNat default) = (xs.take (k + 1)).flatMap eItem ∧ (xs.take k).length + 1 = (xs.take (k + 1)).length := by
 have e : xs.getD (k : Int).toNat default = xs[k] := by simp [List.getD, List.getElem?_eq_getElem hk]
 rw [List.take_add_one, List.getElem?_eq_getElem hk, e]
 simp only [Option.toList_some, List.flatMap_append, List.flatMap_cons, List.flatMap_nil, List.append_nil, List.length_append, List.length_singleton]
 exact ⟨trivial, trivial⟩

theorem ok_impl_IsStore {s : StoreT}  : PFn Tryz.prog 51 [.agg [(.dv [] (.str (s.1))), (.dv [] (itemsD (s.2.1))), (.dv [] (.int .i64 (s.2.2)))]] (.one (.dv [] (.bool (isSto s)))) := by
 refine ⟨fn_intro Tryz.func51 rfl Tryz.ntmps51 Tryz.results51 rfl (fun C => ?_)⟩
 refine yF 0 0 rfl rfl fun f0_0 => ?_
 refine yF 0 1 rfl rfl fun f0_1 => ?_
 refine yF 0 2 rfl rfl fun f0_2 => ?_
 iterate 12 refine z ?_
 refine ok_loop (ι := Nat) (fun zz => ⟨[(1, .box 1 0), (6, .one (.dv [] (itemsD (s.2.1)))), (7, .one (.dv [] (.int .i64 ((((s.2.1)).length : Int))))), (8, .one (.dv [] (.int .i64 ((zz : Int)))))], [(1, 60, [(.dv [] (.str (s.1))), (.dv [] (itemsD (s.2.1))), (.dv [] (.int .i64 (s.2.2)))])], []⟩) (fun zz => zz ≤ s.2.1.length ∧ (List.range zz).all (fun i => !stoBad s i) = true) (fun zz => s.2.1.length - zz) (0) ?_ (weak_sub ⟨rfl, rfl, rfl, rfl, trivial⟩ ⟨rfl, trivial⟩ trivial rfl) (fun zz hx => ?_)
 ·exact ⟨Nat.zero_le _, rfl⟩
 obtain ⟨k, rfl⟩ : ∃ v, v = zz := ⟨_, rfl⟩
 replace hx : k ≤ s.2.1.length ∧ (List.range k).all (fun i => !stoBad s i) = true := hx
 obtain ⟨hk, hall⟩ := hx
 show Ok _ _ _ _ _ (⟨[(1, .box 1 0), (6, .one (.dv [] (itemsD (s.2.1)))), (7, .one (.dv [] (.int .i64 ((((s.2.1)).length : Int))))), (8, .one (.dv [] (.int .i64 ((k : Int)))))], [(1, 60, [(.dv [] (.str (s.1))), (.dv [] (itemsD (s.2.1))), (.dv [] (.int .i64 (s.2.2)))])], []⟩ : St)
 iterate 3 refine z ?_
 refine ok_seq ?_
 refine yQ rfl (fun c1 => ?_) fun c1 => ?_
 ·skip
  have d1 := of_decide_eq_true c1
  iterate 12 refine z ?_
  refine ok_seq ?_
  refine ok_regionD (oB := [1, 4]) (oK := []) (by kernel_rfl) rfl rfl ?_
  refine zD 0 ?_
  refine zD 1 ?_
  refine d_call 2 rfl (by kernel_rfl) rfl rfl rfl Tryz.call75 ok_impl_IsKey (as_cons (ev_tmp rfl) (ag_agg (ag_cons ac_dv (ag_cons ac_dv (ag_cons ac_dv ag_nil)))) as_nil) rfl rfl rfl rfl ?_
  refine zD 3 ?_
  refine zD 4 ?_
  refine zDG 5 ?_
  refine zDG 6 ?_
  refine d_callG 7 rfl (by kernel_rfl) (gd_bool rfl rfl rfl rfl rfl) rfl rfl Tryz.call76 ok_impl_IsRecord (fun hg => (as_cons (ev_opt rfl hg) (ag_agg (ag_cons ac_dv ag_nil)) as_nil)) rfl rfl ?_
  refine zDG 8 ?_
  refine zD 9 ?_
  refine zD 10 ?_
  refine zDG 11 ?_
  refine zDG 12 ?_
  refine zDG 13 ?_
  refine zDG 14 ?_
  refine zDG 15 ?_
  refine zDG 16 ?_
  refine zDG 17 ?_
  refine zDG 18 ?_
  refine zDG 19 ?_
  refine zDG 20 ?_
  refine zDG 21 ?_
  refine zDG 22 ?_
  refine d_callG 23 rfl (by kernel_rfl) (gd_opt rfl rfl rfl rfl rfl) rfl rfl Tryz.call85 ok_impl_CompareKeys (fun hg => (as_cons (ev_opt rfl hg) (ag_agg (ag_cons ac_dv (ag_cons ac_dv (ag_cons ac_dv ag_nil)))) (as_cons (ev_opt rfl hg) (ag_agg (ag_cons ac_dv (ag_cons ac_dv (ag_cons ac_dv ag_nil)))) as_nil))) rfl rfl ?_
  refine zDG 24 ?_
  refine zDG 25 ?_
  refine zD 26 ?_
  refine d_done (by kernel_rfl) ?_
  refine z ?_
  refine yQ rfl (fun c2 => ?_) fun c2 => ?_
  ·skip
   iterate 10 refine z ?_
   rw [isSto, rall_no (k := k) (by omega) (by have h : stoBad s k = true := c2; simpa using h)]; rfl
  ·skip
   iterate 3 refine z ?_
   refine ok_region ?_
   iterate 3 refine z ?_
   refine ⟨k + 1, ?_, ?_, weak_sub ⟨rfl, rfl, rfl, rfl, trivial⟩ ⟨rfl, trivial⟩ trivial rfl⟩
   ·exact ⟨by omega, rall_succ hall (by have h : stoBad s k = false := c2; simpa using h)⟩
   ·omega
 ·skip
  have d1 := of_decide_eq_false c1
  iterate 8 refine z ?_
  refine zC Tryz.call50 ?_ (hf := ok_impl_IsName)
  iterate 9 refine z ?_
  refine o_callG (gd_bool rfl rfl rfl rfl rfl) rfl rfl Tryz.call25 ok_impl_InRange (fun hg => (as_cons (ev_opt rfl hg) (ag_one ac_dv) (as_cons (ev_int (inR_lit rfl)) (ag_one ac_dv) (as_cons (ev_int (inR_lit rfl)) (ag_one ac_dv) as_nil)))) rfl rfl ?_
  iterate 5 refine z ?_
  obtain rfl : k = s.2.1.length := by omega
  rw [isSto, hall]; rfl
theorem ok_spec_IsStore {s : StoreT}  : PFn Tryz.prog 55 [.agg [(.dv [] (.str (s.1))), (.dv [] (itemsD (s.2.1))), (.dv [] (.int .i64 (s.2.2)))]] (.one (.dv [] (.bool (isSto s)))) := by
 refine ⟨fn_intro Tryz.func55 rfl Tryz.ntmps55 Tryz.results55 rfl (fun C => ?_)⟩
 refine yF 0 0 rfl rfl fun f0_0 => ?_
 refine yF 0 1 rfl rfl fun f0_1 => ?_
 refine yF 0 2 rfl rfl fun f0_2 => ?_
 iterate 9 refine z ?_
 refine ok_loop (ι := Nat) (fun zz => ⟨[(1, .box 1 0), (3, .one (.dv [] (.int .i64 ((zz : Int)))))], [(1, 60, [(.dv [] (.str (s.1))), (.dv [] (itemsD (s.2.1))), (.dv [] (.int .i64 (s.2.2)))])], []⟩) (fun zz => zz ≤ s.2.1.length ∧ (List.range zz).all (fun i => !stoBad s i) = true) (fun zz => s.2.1.length - zz) (0) ?_ (weak_sub ⟨rfl, rfl, trivial⟩ ⟨rfl, trivial⟩ trivial rfl) (fun zz hx => ?_)
 ·exact ⟨Nat.zero_le _, rfl⟩
 obtain ⟨k, rfl⟩ : ∃ v, v = zz := ⟨_, rfl⟩
 replace hx : k ≤ s.2.1.length ∧ (List.range k).all (fun i => !stoBad s i) = true := hx
 obtain ⟨hk, hall⟩ := hx
 show Ok _ _ _ _ _ (⟨[(1, .box 1 0), (3, .one (.dv [] (.int .i64 ((k : Int)))))], [(1, 60, [(.dv [] (.str (s.1))), (.dv [] (itemsD (s.2.1))), (.dv [] (.int .i64 (s.2.2)))])], []⟩ : St)
 iterate 8 refine z ?_
 refine yQ rfl (fun c1 => ?_) fun c1 => ?_
 ·skip
  have d1 := of_decide_eq_true c1
  iterate 4 refine z ?_
  refine ok_seq ?_
  refine ok_regionD (oB := [1]) (oK := []) (by kernel_rfl) rfl rfl ?_
  refine zD 0 ?_
  refine zD 1 ?_
  refine zD 2 ?_
  refine zD 3 ?_
  refine zD 4 ?_
  refine zD 5 ?_
  refine d_call 6 rfl (by kernel_rfl) rfl rfl rfl Tryz.call89 ok_spec_IsKey (as_cons (ev_tmp rfl) (ag_agg (ag_cons ac_dv (ag_cons ac_dv (ag_cons ac_dv ag_nil)))) as_nil) rfl rfl rfl rfl ?_
  refine zD 7 ?_
  refine zD 8 ?_
  refine zDG 9 ?_
  refine zDG 10 ?_
  refine zDG 11 ?_
  refine zDG 12 ?_
  refine zDG 13 ?_
  refine zDG 14 ?_
  refine d_callG 15 rfl (by kernel_rfl) (gd_bool rfl rfl rfl rfl rfl) rfl rfl Tryz.call90 ok_spec_IsRecord (fun hg => (as_cons (ev_opt rfl hg) (ag_agg (ag_cons ac_dv ag_nil)) as_nil)) rfl rfl ?_
  refine zDG 16 ?_
  refine zD 17 ?_
  refine zD 18 ?_
  refine zDG 19 ?_
  refine zDG 20 ?_
  refine zDG 21 ?_
  refine zDG 22 ?_
  refine zDG 23 ?_
  refine zDG 24 ?_
  refine zDG 25 ?_
  refine zDG 26 ?_
  refine zDG 27 ?_
  refine zDG 28 ?_
  refine zDG 29 ?_
  refine zDG 30 ?_
  refine zDG 31 ?_
  refine zDG 32 ?_
  refine zDG 33 ?_
  refine zDG 34 ?_
  refine d_callG 35 rfl (by kernel_rfl) (gd_opt rfl rfl rfl rfl rfl) rfl rfl Tryz.call91 ok_spec_CompareKeys (fun hg => (as_cons (ev_opt rfl hg) (ag_agg (ag_cons ac_dv (ag_cons ac_dv (ag_cons ac_dv ag_nil)))) (as_cons (ev_opt rfl hg) (ag_agg (ag_cons ac_dv (ag_cons ac_dv (ag_cons ac_dv ag_nil)))) as_nil))) rfl rfl ?_
  refine zDG 36 ?_
  refine zDG 37 ?_
  refine zD 38 ?_
  refine d_done (by kernel_rfl) ?_
  refine z ?_
  refine yQ rfl (fun c2 => ?_) fun c2 => ?_
  ·skip
   iterate 10 refine z ?_
   rw [isSto, rall_no (k := k) (by omega) (by have h : stoBad s k = true := c2; simpa using h)]; rfl
  ·skip
   iterate 3 refine z ?_
   refine ok_region ?_
   iterate 4 refine z ?_
   refine ⟨k + 1, ?_, ?_, weak_sub ⟨rfl, rfl, trivial⟩ ⟨rfl, trivial⟩ trivial rfl⟩
   ·exact ⟨by omega, rall_succ hall (by have h : stoBad s k = false := c2; simpa using h)⟩
   ·omega
 ·skip
  have d1 := of_decide_eq_false c1
  iterate 8 refine z ?_
  refine zC Tryz.call57 ?_ (hf := ok_spec_IsName)
  iterate 9 refine z ?_
  refine o_callG (gd_bool rfl rfl rfl rfl rfl) rfl rfl Tryz.call59 ok_spec_l1In (fun hg => (as_cons (ev_opt rfl hg) (ag_one ac_dv) (as_cons (ev_int (inR_lit rfl)) (ag_one ac_dv) (as_cons (ev_int (inR_lit rfl)) (ag_one ac_dv) as_nil)))) rfl rfl ?_
  iterate 5 refine z ?_
  obtain rfl : k = s.2.1.length := by omega
  rw [isSto, hall]; rfl
theorem ok_impl_FindItem_1 {y : ItemT} {k : KeyT}  : PFn Tryz.prog 121 [.agg [(.dv [] (.int .i64 (y.1.1))), (.dv [] (.int .i64 (y.1.2.1))), (.dv [] (.str (y.1.2.2))), (.dv [] (fieldsD (y.2)))], .ref [] [.int .i64 (k.1), .int .i64 (k.2.1), .str (k.2.2)]] (.one (.dv [] (.bool (kEq y.1 k)))) := by
 refine ⟨fn_intro Tryz.func121 rfl Tryz.ntmps121 Tryz.results121 rfl (fun C => ?_)⟩
 refine yF 0 0 rfl rfl fun f0_0 => ?_
 refine yF 0 1 rfl rfl fun f0_1 => ?_
 refine yF 0 2 rfl rfl fun f0_2 => ?_
 refine yF 0 3 rfl rfl fun f0_3 => ?_
 iterate 8 refine z ?_
 refine yO rfl rfl (pu_cmpA rfl (ev_tmp rfl) (ev_tmp rfl) rfl rfl Tryz.eqGuardType63 (eql_Key _ _ _ _ _ _)) rfl ?_
 iterate 4 refine z ?_
 rfl
theorem ok_slices_IndexFunc_Item {x : List ItemT} {k : KeyT}  : PFn Tryz.prog 120 [.one (.dv [] (itemsD (x))), .fn 121 [[.int .i64 (k.1), .int .i64 (k.2.1), .str (k.2.2)]]] (.one (.dv [] (.int .i64 (findI (fun y : ItemT => kEq y.1 k) x 0)))) := by
 refine ⟨fn_intro Tryz.func120 rfl Tryz.ntmps120 Tryz.results120 rfl (fun C => ?_)⟩
 refine ok_fact (x := .tmp 0) (ev_tmp rfl) fun f0 => ?_
 iterate 10 refine z ?_
 refine ok_loop (ι := Nat) (fun zz => ⟨[(0, .one (.dv [] (itemsD (x)))), (1, .fn 121 [[.int .i64 (k.1), .int .i64 (k.2.1), .str (k.2.2)]]), (7, .one (.dv [] (.int .i64 ((((x)).length : Int))))), (8, .one (.dv [] (.int .i64 ((zz : Int)))))], [], []⟩) (fun zz => zz ≤ x.length ∧ (x.take zz).any (fun y : ItemT => kEq y.1 k) = false) (fun zz => x.length - zz) (0) ?_ (weak_sub ⟨rfl, rfl, rfl, rfl, trivial⟩ trivial trivial rfl) (fun zz hx => ?_)
 ·exact ⟨Nat.zero_le _, rfl⟩
 obtain ⟨n, rfl⟩ : ∃ v, v = zz := ⟨_, rfl⟩
 replace hx : n ≤ x.length ∧ (x.take n).any (fun y : ItemT => kEq y.1 k) = false := hx
 obtain ⟨hk, hall⟩ := hx
 show Ok _ _ _ _ _ (⟨[(0, .one (.dv [] (itemsD (x)))), (1, .fn 121 [[.int .i64 (k.1), .int .i64 (k.2.1), .str (k.2.2)]]), (7, .one (.dv [] (.int .i64 ((((x)).length : Int))))), (8, .one (.dv [] (.int .i64 ((n : Int)))))], [], []⟩ : St)
 iterate 3 refine z ?_
 refine ok_seq ?_
 refine yQ rfl (fun c1 => ?_) fun c1 => ?_
 ·skip
  have d1 := of_decide_eq_true c1
  iterate 14 refine z ?_
  refine o_callV rfl rfl rfl (ev_tmp rfl) Tryz.call121 ok_impl_FindItem_1 (as_cons (ev_tmp rfl) (ag_agg (ag_cons ac_dv (ag_cons ac_dv (ag_cons ac_dv (ag_cons ac_dv ag_nil))))) as_nil) rfl rfl ?_
  refine z ?_
  refine yQ rfl (fun c2 => ?_) fun c2 => ?_
  ·skip
   iterate 11 refine z ?_
   exact (findI_at (p := fun y : ItemT => kEq y.1 k) (d := default) hall (by omega) c2).symm
  ·skip
   iterate 3 refine z ?_
   refine ok_region ?_
   iterate 3 refine z ?_
   refine ⟨n + 1, ?_, ?_, weak_sub ⟨rfl, rfl, rfl, rfl, trivial⟩ trivial trivial rfl⟩
   ·exact ⟨by omega, any_stepI (d := default) hall (by omega) c2⟩
   ·omega
 ·skip
  have d1 := of_decide_eq_false c1
  iterate 10 refine z ?_
  exact (findI_none (p := fun y : ItemT => kEq y.1 k) hall (by omega)).symm
theorem ok_impl_FindItem {x : StoreT} {k : KeyT}  : PFn Tryz.prog 77 [.agg [(.dv [] (.str (x.1))), (.dv [] (itemsD (x.2.1))), (.dv [] (.int .i64 (x.2.2)))], .agg [(.dv [] (.int .i64 (k.1))), (.dv [] (.int .i64 (k.2.1))), (.dv [] (.str (k.2.2)))]] (.one (.dv [] (.int .i64 (fndK x k)))) := by
 refine ⟨fn_intro Tryz.func77 rfl Tryz.ntmps77 Tryz.results77 rfl (fun C => ?_)⟩
 refine yF 0 0 rfl rfl fun f0_0 => ?_
 refine yF 0 1 rfl rfl fun f0_1 => ?_
 refine yF 0 2 rfl rfl fun f0_2 => ?_
 refine yF 1 0 rfl rfl fun f1_0 => ?_
 refine yF 1 1 rfl rfl fun f1_1 => ?_
 refine yF 1 2 rfl rfl fun f1_2 => ?_
 iterate 8 refine z ?_
 refine yO rfl rfl (pu_clo1 rfl (ev_tmp rfl)) rfl ?_
 refine o_call rfl rfl rfl Tryz.call120 ok_slices_IndexFunc_Item (as_cons (ev_tmp rfl) (ag_one ac_dv) (as_cons (ev_tmp rfl) (a_clo (clo_cons rfl rfl clo_nil)) as_nil)) rfl rfl ?_
 iterate 4 refine z ?_
 rfl
theorem ok_spec_FindItem {x : StoreT} {k : KeyT}  : PFn Tryz.prog 97 [.agg [(.dv [] (.str (x.1))), (.dv [] (itemsD (x.2.1))), (.dv [] (.int .i64 (x.2.2)))], .agg [(.dv [] (.int .i64 (k.1))), (.dv [] (.int .i64 (k.2.1))), (.dv [] (.str (k.2.2)))]] (.one (.dv [] (.int .i64 (fndK x k)))) := by
 refine ⟨fn_intro Tryz.func97 rfl Tryz.ntmps97 Tryz.results97 rfl (fun C => ?_)⟩
 refine yF 0 0 rfl rfl fun f0_0 => ?_
 refine yF 0 1 rfl rfl fun f0_1 => ?_
 refine yF 0 2 rfl rfl fun f0_2 => ?_
 refine yF 1 0 rfl rfl fun f1_0 => ?_
 refine yF 1 1 rfl rfl fun f1_1 => ?_
 refine yF 1 2 rfl rfl fun f1_2 => ?_
 iterate 10 refine z ?_
 refine ok_loop (ι := Nat) (fun zz => ⟨[(2, .box 2 0), (3, .box 3 0), (5, .one (.dv [] (.int .i64 ((zz : Int)))))], [(2, 60, [(.dv [] (.str (x.1))), (.dv [] (itemsD (x.2.1))), (.dv [] (.int .i64 (x.2.2)))]), (3, 63, [(.dv [] (.int .i64 (k.1))), (.dv [] (.int .i64 (k.2.1))), (.dv [] (.str (k.2.2)))])], []⟩) (fun zz => zz ≤ x.2.1.length ∧ (x.2.1.take zz).any (fun y : ItemT => kEq y.1 k) = false) (fun zz => x.2.1.length - zz) (0) ?_ (weak_sub ⟨rfl, rfl, rfl, trivial⟩ ⟨rfl, rfl, trivial⟩ trivial rfl) (fun zz hx => ?_)
 ·exact ⟨Nat.zero_le _, rfl⟩
 obtain ⟨n, rfl⟩ : ∃ v, v = zz := ⟨_, rfl⟩
 replace hx : n ≤ x.2.1.length ∧ (x.2.1.take n).any (fun y : ItemT => kEq y.1 k) = false := hx
 obtain ⟨hk, hall⟩ := hx
 show Ok _ _ _ _ _ (⟨[(2, .box 2 0), (3, .box 3 0), (5, .one (.dv [] (.int .i64 ((n : Int)))))], [(2, 60, [(.dv [] (.str (x.1))), (.dv [] (itemsD (x.2.1))), (.dv [] (.int .i64 (x.2.2)))]), (3, 63, [(.dv [] (.int .i64 (k.1))), (.dv [] (.int .i64 (k.2.1))), (.dv [] (.str (k.2.2)))])], []⟩ : St)
 iterate 8 refine z ?_
 refine yQ rfl (fun c1 => ?_) fun c1 => ?_
 ·skip
  have d1 := of_decide_eq_true c1
  iterate 4 refine z ?_
  refine ok_seq ?_
  refine ok_regionD (oB := [2, 3]) (oK := []) (by kernel_rfl) rfl rfl ?_
  refine zD 0 ?_
  refine zD 1 ?_
  refine zD 2 ?_
  refine zD 3 ?_
  refine zD 4 ?_
  refine zD 5 ?_
  refine zD 6 ?_
  refine d_take 7 rfl (by kernel_rfl) rfl rfl (pu_cmpA rfl (ev_tmp rfl) (ev_tmp rfl) rfl rfl Tryz.eqGuardType63 (eql_Key _ _ _ _ _ _)) rfl rfl rfl rfl ?_
  refine d_done (by kernel_rfl) ?_
  refine z ?_
  refine yQ rfl (fun c2 => ?_) fun c2 => ?_
  ·skip
   iterate 11 refine z ?_
   exact (findI_at (p := fun y : ItemT => kEq y.1 k) (d := default) hall (by omega) c2).symm
  ·skip
   iterate 3 refine z ?_
   refine ok_region ?_
   iterate 4 refine z ?_
   refine ⟨n + 1, ?_, ?_, weak_sub ⟨rfl, rfl, rfl, trivial⟩ ⟨rfl, rfl, trivial⟩ trivial rfl⟩
   ·exact ⟨by omega, any_stepI (d := default) hall (by omega) c2⟩
   ·omega
 ·skip
  have d1 := of_decide_eq_false c1
  iterate 10 refine z ?_
  exact (findI_none (p := fun y : ItemT => kEq y.1 k) hall (by omega)).symm
theorem ok_impl_copyStore {x : StoreT} (hb : wStore x ≤ 1099511627776) : KFn Tryz.prog 22 [.agg [(.dv [] (.str (x.1))), (.dv [] (itemsD (x.2.1))), (.dv [] (.int .i64 (x.2.2)))]] (.agg [(.dv [] (.str (x.1))), (.key 30), (.dv [] (.int .i64 (x.2.2)))]) [(30, some (kcOf false (itemsD (x.2.1))))] := by
 refine ⟨fn_intro Tryz.func22 rfl Tryz.ntmps22 Tryz.results22 rfl (fun C => ?_)⟩
 refine yF 0 0 rfl rfl fun f0_0 => ?_
 refine yF 0 1 rfl rfl fun f0_1 => ?_
 refine yF 0 2 rfl rfl fun f0_2 => ?_
 iterate 9 refine z ?_
 refine yO rfl rfl (pu_build hT hB rfl rfl rfl (bp_cons (ev_tmp rfl) rfl rfl rfl rfl rfl (bp_cons (ev_tmp rfl) rfl rfl rfl rfl rfl bp_nil))) rfl ?_
 iterate 3 refine z ?_
 refine ok_seq ?_
 refine ok_seq ?_
 refine ok_weak (weak_nilB 30 (b := 3) (i := 1) (e := 93) (sz := 4) rfl rfl rfl rfl rfl) ?_
 simp only [killT, killB, SV.kill, CV.kill, kk, Nat.reduceBEq]
 refine ok_region ?_
 iterate 6 refine z ?_
 refine ok_loop (ι := Nat) (fun zz => ⟨[(2, .box 2 0), (3, .box 3 0), (12, .one (.dv [] (itemsD (x.2.1)))), (13, .one (.dv [] (.int .i64 ((((x.2.1)).length : Int))))), (14, .one (.dv [] (.int .i64 ((zz : Int)))))], [(2, 60, [(.dv [] (.str (ByteArray.empty))), .nil, (.dv [] (.int .i64 (0)))]), (3, 60, [(.dv [] (.str (x.1))), (.key 30), (.dv [] (.int .i64 (x.2.2)))])], [(30, some (kcOf false (.sl 93 4 ((x.2.1.take zz).length) ((x.2.1.take zz).flatMap eItem))))]⟩) (fun zz => zz ≤ x.2.1.length) (fun zz => x.2.1.length - zz) (0) ?_ (weak_sub ⟨rfl, rfl, rfl, rfl, rfl, trivial⟩ ⟨rfl, rfl, trivial⟩ ⟨rfl, trivial⟩ rfl) (fun zz hx => ?_)
 ·exact Nat.zero_le _
 obtain ⟨k, rfl⟩ : ∃ v, v = zz := ⟨_, rfl⟩
 replace hx : k ≤ x.2.1.length := hx
 have hw := fun h => wSum_succ wItem x.2.1 k h
 show Ok _ _ _ _ _ (⟨[(2, .box 2 0), (3, .box 3 0), (12, .one (.dv [] (itemsD (x.2.1)))), (13, .one (.dv [] (.int .i64 ((((x.2.1)).length : Int))))), (14, .one (.dv [] (.int .i64 ((k : Int)))))], [(2, 60, [(.dv [] (.str (ByteArray.empty))), .nil, (.dv [] (.int .i64 (0)))]), (3, 60, [(.dv [] (.str (x.1))), (.key 30), (.dv [] (.int .i64 (x.2.2)))])], [(30, some (kcOf false (.sl 93 4 ((x.2.1.take k).length) ((x.2.1.take k).flatMap eItem))))]⟩ : St)
 iterate 3 refine z ?_
 refine ok_seq ?_
 refine yQ rfl (fun c1 => ?_) fun c1 => ?_
 ·skip
  have d1 := of_decide_eq_true c1
  have hk2 : k < x.2.1.length := by omega
  have hlen : x.2.1.length ≤ 1099511627776 := by have h3 : wStore x = x.1.size + (x.2.1.length + wSum wItem x.2.1) := rfl; omega
  have hrec : wItem (x.2.1.getD (k : Int).toNat default) ≤ 1099511627776 := by have := hw hk2; have h3 : wStore x = x.1.size + (x.2.1.length + wSum wItem x.2.1) := rfl; omega
  iterate 10 refine z ?_
  refine ok_regionH [0, 1, 2, 3, 4] (oB := [2, 3, 5]) (oK := [30]) (by kernel_rfl) rfl rfl ?_
  refine zD 0 ?_
  refine zD 1 ?_
  refine zD 2 ?_
  refine d_callK 21000 3 rfl (by kernel_rfl) rfl rfl rfl Tryz.call45 (ok_impl_copyItem (by first | omega | exact Nat.le_trans (item_len _) hrec | exact Nat.le_trans (item_len _) (Nat.le_trans hrec (by decide)))) (as_cons (ev_tmp rfl) (ag_agg (ag_cons ac_dv (ag_cons ac_dv (ag_cons ac_dv (ag_cons ac_dv ag_nil))))) as_nil) rfl rfl rfl rfl rfl ?_
  refine d_build1 (k := 22) (js := [28003]) 4 hT rfl (by kernel_rfl) rfl rfl rfl rfl rfl rfl rfl rfl rfl (ev_tmp rfl) rfl rfl (ow_cons' (ow_dv rfl) (ow_cons' (ow_dv rfl) (ow_cons' (ow_dv rfl) (ow_cons' (ow_key rfl) ow_nil rfl) rfl) rfl) rfl) (by decide) (by decide) rfl rfl (by decide) ?_
  simp only [killT, killB, SV.kill, CV.kill, kk, Nat.reduceBEq]
  refine d_chain [5, 6, 7] rfl rfl (by kernel_rfl) ?_
  refine o_appK (k := 30) (j := 22) (cs := (x.2.1.take (k + 1)).flatMap eItem) (n := (x.2.1.take (k + 1)).length) hT rfl rfl rfl rfl rfl rfl rfl (ev_tmp rfl) rfl rfl rfl (ev_tmp rfl) rfl rfl (by decide) (by dsimp only [kcOf]; simp only [List.length_take]; omega) (by dsimp only [kcOf]; simp only [List.length_take]; omega) ((take_cs1 hk2).2) ((take_cs1 hk2).1) ?_
  simp only [killT, killB, SV.kill, CV.kill, kk, Nat.reduceBEq]
  iterate 2 refine z ?_
  refine ops_nil ?_
  iterate 2 refine z ?_
  refine ok_region ?_
  iterate 3 refine z ?_
  refine ⟨k + 1, ?_, ?_, weak_sub ⟨rfl, rfl, rfl, rfl, rfl, trivial⟩ ⟨rfl, rfl, trivial⟩ ⟨rfl, trivial⟩ rfl⟩
  ·omega
  ·omega
 ·skip
  have d1 := of_decide_eq_false c1
  iterate 9 refine z ?_
  refine ok_weak (σ' := ⟨[(2, .box 2 0)], [(2, 60, [(.dv [] (.str (x.1))), (.key 30), (.dv [] (.int .i64 (x.2.2)))])], [(30, some (kcOf false (itemsD (x.2.1))))]⟩) (weak_sub ⟨rfl, trivial⟩ ⟨rfl, trivial⟩ ⟨(congrArg (fun l : List ItemT => some (some (KC.mk false 93 4 l.length (l.flatMap eItem)))) (List.take_of_length_le (by omega))), trivial⟩ rfl) ?_
  refine z ?_
  refine fin1 (res_cell hT rfl rfl rfl rfl) ?_
  exact ⟨rfl, rfl⟩
theorem ok_spec_l6Copy {x : StoreT} (hb : wStore x ≤ 1099511627776) : KFn Tryz.prog 54 [.agg [(.dv [] (.str (x.1))), (.dv [] (itemsD (x.2.1))), (.dv [] (.int .i64 (x.2.2)))]] (.agg [(.dv [] (.str (x.1))), (.key 30), (.dv [] (.int .i64 (x.2.2)))]) [(30, some (kcOf false (itemsD (x.2.1))))] := by
 refine ⟨fn_intro Tryz.func54 rfl Tryz.ntmps54 Tryz.results54 rfl (fun C => ?_)⟩
 refine yF 0 0 rfl rfl fun f0_0 => ?_
 refine yF 0 1 rfl rfl fun f0_1 => ?_
 refine yF 0 2 rfl rfl fun f0_2 => ?_
 iterate 9 refine z ?_
 refine yO rfl rfl (pu_build hT hB rfl rfl rfl (bp_cons (ev_tmp rfl) rfl rfl rfl rfl rfl (bp_cons (ev_tmp rfl) rfl rfl rfl rfl rfl bp_nil))) rfl ?_
 iterate 3 refine z ?_
 refine ok_seq ?_
 refine ok_seq ?_
 refine ok_weak (weak_nilB 30 (b := 3) (i := 1) (e := 93) (sz := 4) rfl rfl rfl rfl rfl) ?_
 simp only [killT, killB, SV.kill, CV.kill, kk, Nat.reduceBEq]
 refine ok_region ?_
 iterate 3 refine z ?_
 refine ok_loop (ι := Nat) (fun zz => ⟨[(1, .box 1 0), (2, .box 2 0), (3, .box 3 0), (4, .one (.dv [] (.int .i64 ((zz : Int)))))], [(1, 60, [(.dv [] (.str (x.1))), (.dv [] (itemsD (x.2.1))), (.dv [] (.int .i64 (x.2.2)))]), (2, 60, [(.dv [] (.str (ByteArray.empty))), .nil, (.dv [] (.int .i64 (0)))]), (3, 60, [(.dv [] (.str (x.1))), (.key 30), (.dv [] (.int .i64 (x.2.2)))])], [(30, some (kcOf false (.sl 93 4 ((x.2.1.take zz).length) ((x.2.1.take zz).flatMap eItem))))]⟩) (fun zz => zz ≤ x.2.1.length) (fun zz => x.2.1.length - zz) (0) ?_ (weak_sub ⟨rfl, rfl, rfl, rfl, trivial⟩ ⟨rfl, rfl, rfl, trivial⟩ ⟨rfl, trivial⟩ rfl) (fun zz hx => ?_)
 ·exact Nat.zero_le _
 obtain ⟨k, rfl⟩ : ∃ v, v = zz := ⟨_, rfl⟩
 replace hx : k ≤ x.2.1.length := hx
 have hw := fun h => wSum_succ wItem x.2.1 k h
 show Ok _ _ _ _ _ (⟨[(1, .box 1 0), (2, .box 2 0), (3, .box 3 0), (4, .one (.dv [] (.int .i64 ((k : Int)))))], [(1, 60, [(.dv [] (.str (x.1))), (.dv [] (itemsD (x.2.1))), (.dv [] (.int .i64 (x.2.2)))]), (2, 60, [(.dv [] (.str (ByteArray.empty))), .nil, (.dv [] (.int .i64 (0)))]), (3, 60, [(.dv [] (.str (x.1))), (.key 30), (.dv [] (.int .i64 (x.2.2)))])], [(30, some (kcOf false (.sl 93 4 ((x.2.1.take k).length) ((x.2.1.take k).flatMap eItem))))]⟩ : St)
 iterate 8 refine z ?_
 refine yQ rfl (fun c1 => ?_) fun c1 => ?_
 ·skip
  have d1 := of_decide_eq_true c1
  have hk2 : k < x.2.1.length := by omega
  have hlen : x.2.1.length ≤ 1099511627776 := by have h3 : wStore x = x.1.size + (x.2.1.length + wSum wItem x.2.1) := rfl; omega
  have hrec : wItem (x.2.1.getD (k : Int).toNat default) ≤ 1099511627776 := by have := hw hk2; have h3 : wStore x = x.1.size + (x.2.1.length + wSum wItem x.2.1) := rfl; omega
  iterate 4 refine z ?_
  refine ok_regionH [0, 1, 2, 3, 4, 5, 6, 7, 8] (oB := [1, 2, 3]) (oK := [30]) (by kernel_rfl) rfl rfl ?_
  refine zD 0 ?_
  refine zD 1 ?_
  refine zD 2 ?_
  refine zD 3 ?_
  refine zD 4 ?_
  refine zD 5 ?_
  refine zD 6 ?_
  refine d_callK 24000 7 rfl (by kernel_rfl) rfl rfl rfl Tryz.call88 (ok_spec_l6Item (by first | omega | exact Nat.le_trans (item_len _) hrec | exact Nat.le_trans (item_len _) (Nat.le_trans hrec (by decide)))) (as_cons (ev_tmp rfl) (ag_agg (ag_cons ac_dv (ag_cons ac_dv (ag_cons ac_dv (ag_cons ac_dv ag_nil))))) as_nil) rfl rfl rfl rfl rfl ?_
  refine d_build1 (k := 25) (js := [31003]) 8 hT rfl (by kernel_rfl) rfl rfl rfl rfl rfl rfl rfl rfl rfl (ev_tmp rfl) rfl rfl (ow_cons' (ow_dv rfl) (ow_cons' (ow_dv rfl) (ow_cons' (ow_dv rfl) (ow_cons' (ow_key rfl) ow_nil rfl) rfl) rfl) rfl) (by decide) (by decide) rfl rfl (by decide) ?_
  simp only [killT, killB, SV.kill, CV.kill, kk, Nat.reduceBEq]
  refine d_chain [9, 10, 11] rfl rfl (by kernel_rfl) ?_
  refine o_appK (k := 30) (j := 25) (cs := (x.2.1.take (k + 1)).flatMap eItem) (n := (x.2.1.take (k + 1)).length) hT rfl rfl rfl rfl rfl rfl rfl (ev_tmp rfl) rfl rfl rfl (ev_tmp rfl) rfl rfl (by decide) (by dsimp only [kcOf]; simp only [List.length_take]; omega) (by dsimp only [kcOf]; simp only [List.length_take]; omega) ((take_cs1 hk2).2) ((take_cs1 hk2).1) ?_
  simp only [killT, killB, SV.kill, CV.kill, kk, Nat.reduceBEq]
  iterate 2 refine z ?_
  refine ops_nil ?_
  iterate 2 refine z ?_
  refine ok_region ?_
  iterate 4 refine z ?_
  refine ⟨k + 1, ?_, ?_, weak_sub ⟨rfl, rfl, rfl, rfl, trivial⟩ ⟨rfl, rfl, rfl, trivial⟩ ⟨rfl, trivial⟩ rfl⟩
  ·omega
  ·omega
 ·skip
  have d1 := of_decide_eq_false c1
  iterate 9 refine z ?_
  refine ok_weak (σ' := ⟨[(2, .box 2 0)], [(2, 60, [(.dv [] (.str (x.1))), (.key 30), (.dv [] (.int .i64 (x.2.2)))])], [(30, some (kcOf false (itemsD (x.2.1))))]⟩) (weak_sub ⟨rfl, trivial⟩ ⟨rfl, trivial⟩ ⟨(congrArg (fun l : List ItemT => some (some (KC.mk false 93 4 l.length (l.flatMap eItem)))) (List.take_of_length_le (by omega))), trivial⟩ rfl) ?_
  refine z ?_
  refine fin1 (res_cell hT rfl rfl rfl rfl) ?_
  exact ⟨rfl, rfl⟩
end Go.Proofs.YtjkpoekgnmgofaaGreat

namespace Go.Proofs.YtjkpoekgnmgofaaGreat
open Go.RowKit
open Go.Proofs
set_option linter.unusedVariables false
set_option linter.unusedSimpArgs false

def posK (k : KeyT) : List ItemT → Nat
 | [] => 0
 | y :: ys => if cmpK y.1 k < 0 then posK k ys + 1 else 0
def setI (l : List ItemT) (i : Nat) (r : RecT) : List ItemT := l.set i ((l.getD i default).1, r)
def autoP (x : StoreT) (k : KeyT) : Int := if decide (k.1 = 1) && (decide (x.2.2 + 1 ≤ k.2.1) && decide (k.2.1 ≤ 1000000)) then k.2.1 else x.2.2
def putN (x : StoreT) (k : KeyT) (r : RecT) : StoreT × Bool :=
 if !isSto x || !isKey k || !isRec r then (x, false)
 else if 0 ≤ fndK x k then ((x.1, setI x.2.1 (fndK x k).toNat r, x.2.2), true)
 else if 16 ≤ x.2.1.length then (x, false)
 else ((x.1, insI x.2.1 (posK k x.2.1) (k, r), autoP x k), true)
theorem fndK_lt {x : StoreT} {k : KeyT} (h : 0 ≤ fndK x k) : fndK x k < x.2.1.length := by
 rcases findI_lt (p := fun y : ItemT => kEq y.1 k) x.2.1 0 (by omega) with h1 | h1
 ·unfold fndK; omega
 ·unfold fndK at h; omega
theorem put_bad {x : StoreT} {k : KeyT} {r : RecT} (h : (!isSto x || !isKey k) = true) : putN x k r = (x, false) := by
 rw [putN, if_pos (by rw [h]; rfl)]
theorem setI_len {l : List ItemT} {i : Nat} {r : RecT} : (setI l i r).length = l.length := by simp [setI]
theorem len4 (l : List ItemT) : (l.flatMap eItem).length = l.length * 4 := by
 induction l with
 | nil => rfl
 | cons x l ih => rw [List.flatMap_cons, List.length_append, ih, List.length_cons]; show 4 + l.length * 4 = (l.length + 1) * 4; omega
theorem drop_cons {l : List ItemT} {j : Nat} (h : j < l.length) : l.drop j = l.getD j default :: l.drop (j + 1) := by
 rw [List.drop_eq_getElem_cons h]
 simp [List.getD, List.getElem?_eq_getElem h]
theorem posK_step {k : KeyT} {l : List ItemT} {j : Nat} (hp : posK k l = j + posK k (l.drop j)) (h : (decide ((j : Int) < (l.length : Int)) && decide (cmpK (l.getD (j : Int).toNat default).1 k < 0)) = true) : j < l.length ∧ posK k l = (j + 1) + posK k (l.drop (j + 1)) := by
 obtain ⟨h1, h2⟩ := (Bool.and_eq_true _ _ ▸ h : _ ∧ _)
 have h1 := of_decide_eq_true h1
 have h2 := of_decide_eq_true h2
 rw [Int.toNat_natCast] at h2
 have h3 : j < l.length := by omega
 refine ⟨h3, ?_⟩
 rw [hp, drop_cons h3, posK, if_pos h2]
 omega
theorem posK_stop {k : KeyT} {l : List ItemT} {j : Nat} (hj : j ≤ l.length) (hp : posK k l = j + posK k (l.drop j)) (h : (decide ((j : Int) < (l.length : Int)) && decide (cmpK (l.getD (j : Int).toNat default).1 k < 0)) = false) : posK k l = j := by
 rcases Nat.lt_or_ge j l.length with h3 | h3
 ·rw [decide_eq_true (by omega : (j : Int) < (l.length : Int)), Bool.true_and] at h
  have h2 := of_decide_eq_false h
  rw [Int.toNat_natCast] at h2
  rw [hp, drop_cons h3, posK, if_neg h2]
  omega
 ·rw [hp, List.drop_eq_nil_of_le h3, posK]; omega
theorem setR_set {l : List ItemT} {i : Nat} {r : RecT} (hi : i < l.length) : setR (i * 4 + 3) [fieldsD r] (l.flatMap eItem) = (setI l i r).flatMap eItem := by
 obtain ⟨h1, h2⟩ := take_flat (enc := eItem) (sz := 4) (fun _ => rfl) i l
 have e : l.flatMap eItem = (l.take i).flatMap eItem ++ (eItem (l.getD i default) ++ (l.drop (i + 1)).flatMap eItem) := by
  rw [← List.flatMap_cons, ← drop_cons hi, ← List.flatMap_append, List.take_append_drop]
 have e2 : (setI l i r).flatMap eItem = (l.take i).flatMap eItem ++ (eItem ((l.getD i default).1, r) ++ (l.drop (i + 1)).flatMap eItem) := by
  rw [setI, List.set_eq_take_append_cons_drop, if_pos hi, List.flatMap_append, List.flatMap_cons]
 have hl : ((l.take i).flatMap eItem).length = i * 4 := by rw [len4, List.length_take]; omega
 rw [e, e2]
 exact setR_mid (pre := (l.take i).flatMap eItem) (B := eItem (l.getD i default)) (B' := eItem ((l.getD i default).1, r)) (post := (l.drop (i + 1)).flatMap eItem) (m := i * 4) (off := i * 4 + 3) (j := 3) hl rfl rfl (Nat.le_refl _)
def relP (p : Option KeyT) (k : KeyT) : Bool := match p with | none => true | some q => decide (cmpK q k < 0)
def okL : Option KeyT → List ItemT → Bool
 | _, [] => true
 | p, y :: ys => isKey y.1 && isRec y.2 && relP p y.1 && okL (some y.1) ys
def badP (p : Option KeyT) (l : List ItemT) (i : Nat) : Bool := (!isKey (l.getD i default).1 || !isRec (l.getD i default).2) || !(relP (if i = 0 then p else some (l.getD (i - 1) default).1) (l.getD i default).1)
theorem okL_eq : ∀ (l : List ItemT) (p : Option KeyT), okL p l = (List.range l.length).all (fun i => !badP p l i)
 | [], _ => rfl
 | y :: ys, p => by
  rw [okL, okL_eq ys (some y.1), List.length_cons, List.range_succ_eq_map, List.all_cons, List.all_map]
  congr 1
  ·simp [badP]
  ·congr 1
   funext i
   cases i with
   | zero => simp [badP]
   | succ i => simp [badP]
theorem isSto_eq (s : StoreT) : isSto s = (okL none s.2.1 && (isName s.1 && decide ((s.2.1.length : Int) ≤ 16) && (decide ((0 : Int) ≤ s.2.2) && decide (s.2.2 ≤ 1000000)))) := by
 rw [isSto, okL_eq]
 congr 2
 funext i
 cases i with
 | zero => simp [stoBad, badP, relP]
 | succ i =>
  have e : (((i + 1 : Nat) : Int) - 1).toNat = i := by omega
  have e2 : (((i + 1 : Nat) : Int)).toNat = i + 1 := by omega
  have e3 : decide ((0 : Int) < ((i + 1 : Nat) : Int)) = true := decide_eq_true (by omega)
  simp only [stoBad, badP, relP, e, e2, e3, Bool.true_and, Nat.succ_ne_zero, if_false, Nat.add_sub_cancel]
  congr 2
  by_cases h : cmpK (s.2.1.getD i default).1 (s.2.1.getD (i + 1) default).1 < 0
  ·rw [decide_eq_true h, decide_eq_false (by omega)]; rfl
  ·rw [decide_eq_false h, decide_eq_true (by omega)]; rfl
theorem sgnS_zero {a b : Str} (h : sgnS a b = 0) : sEq a b = true := by
 have e := sLe_eq a b
 unfold sgnS at h
 cases h1 : sLt a b <;> cases h2 : sLt b a <;> simp_all
theorem cmpK_zero {a b : KeyT} (ha : isKey a = true) (hb : isKey b = true) (h : cmpK a b = 0) : kEq a b = true := by
 have hg : (!isKey a || !isKey b) = false := by rw [ha, hb]; rfl
 by_cases h1 : a.1 = b.1
 ·by_cases h2 : a.2.1 = b.2.1
  ·rw [cmpK_text hg h1 h2] at h
   rw [kEq, decide_eq_true h1, decide_eq_true h2, sgnS_zero h]; rfl
  ·rw [cmpK_num hg h1 h2] at h; exact absurd (sgnI_zero.1 h) h2
 ·rw [cmpK_kind hg h1] at h; exact absurd (sgnI_zero.1 h) h1
theorem okL_ins {k : KeyT} {r : RecT} (hk : isKey k = true) : ∀ (l : List ItemT) (p : Option KeyT), okL p l = true → l.any (fun y : ItemT => kEq y.1 k) = false → relP p k = true → okL p (insI l (posK k l) (k, r)) = isRec r
 | [], p, _, _, hp => by simp [insI, posK, okL, hk, hp]
 | y :: ys, p, hl, hn, hp => by
  simp only [okL, Bool.and_eq_true] at hl
  obtain ⟨⟨⟨h1, h2⟩, h3⟩, h4⟩ := hl
  simp only [List.any_cons, Bool.or_eq_false_iff] at hn
  by_cases hc : cmpK y.1 k < 0
  ·have ih := okL_ins (r := r) hk ys (some y.1) h4 hn.2 (by simpa [relP] using hc)
   rw [posK, if_pos hc]
   have e : insI (y :: ys) (posK k ys + 1) (k, r) = y :: insI ys (posK k ys) (k, r) := by simp [insI]
   rw [e, okL, h1, h2, h3, ih]; rfl
  ·rw [posK, if_neg hc]
   have e : insI (y :: ys) 0 (k, r) = (k, r) :: y :: ys := by simp [insI]
   have h0 : ¬ cmpK y.1 k = 0 := fun h => by
    have := cmpK_zero h1 hk h
    rw [hn.1] at this; cases this
   have hs := cmpK_swap k y.1
   rw [e, okL, okL, hk, hp, h1, h2, h4]
   have : relP (some k) y.1 = true := by simp only [relP, decide_eq_true_eq]; omega
   rw [this]; simp
theorem okL_set {r : RecT} : ∀ (l : List ItemT) (p : Option KeyT) (i : Nat), okL p l = true → i < l.length → okL p (setI l i r) = isRec r
 | [], _, _, _, h => by simp at h
 | y :: ys, p, 0, hl, _ => by
  simp only [okL, Bool.and_eq_true] at hl
  obtain ⟨⟨⟨h1, h2⟩, h3⟩, h4⟩ := hl
  simp [setI, okL, h1, h3, h4]
 | y :: ys, p, i + 1, hl, h => by
  simp only [okL, Bool.and_eq_true] at hl
  obtain ⟨⟨⟨h1, h2⟩, h3⟩, h4⟩ := hl
  have ih := okL_set (r := r) ys (some y.1) i h4 (by simpa using h)
  have e : setI (y :: ys) (i + 1) r = y :: setI ys i r := by simp [setI]
  rw [e, okL, h1, h2, h3, ih]; rfl
theorem findI_neg {α : Type} {p : α → Bool} : ∀ (xs : List α) (i : Int), 0 ≤ i → findI p xs i < 0 → xs.any p = false
 | [], _, _, _ => rfl
 | x :: xs, i, hi, h => by
  rw [findI] at h
  split at h
  ·omega
  ·rename_i hp
   rw [List.any_cons, findI_neg xs (i + 1) (by omega) h]
   simpa using hp
theorem sto_set {x : StoreT} {i : Nat} {r : RecT} (hs : isSto x = true) (hi : i < x.2.1.length) : isSto (x.1, setI x.2.1 i r, x.2.2) = isRec r := by
 rw [isSto_eq] at hs ⊢
 simp only [Bool.and_eq_true] at hs
 obtain ⟨h1, ⟨h2, h3⟩, h4, h5⟩ := hs
 simp only [setI_len, okL_set _ _ _ h1 hi, h2, h3, h4, h5, Bool.and_self, Bool.and_true]
theorem sto_ins {x : StoreT} {k : KeyT} {r : RecT} {a : Int} (hs : isSto x = true) (hk : isKey k = true) (hf : fndK x k < 0) (ha : 0 ≤ a ∧ a ≤ 1000000) : isSto (x.1, insI x.2.1 (posK k x.2.1) (k, r), a) = (isRec r && decide (x.2.1.length < 16)) := by
 rw [isSto_eq] at hs ⊢
 simp only [Bool.and_eq_true] at hs
 obtain ⟨h1, ⟨h2, h3⟩, h4, h5⟩ := hs
 simp only [insI_len, okL_ins hk _ _ h1 (findI_neg _ 0 (by omega) hf) rfl, h2, decide_eq_true ha.1, decide_eq_true ha.2, Bool.and_self, Bool.and_true, Bool.true_and]
 congr 1
 exact decide_eq_decide.2 (by omega)
theorem not_or_f {a b : Bool} (h : (!a || !b) = false) : a = true ∧ b = true := by cases a <;> cases b <;> simp_all
theorem put_set_no {x : StoreT} {k : KeyT} {r : RecT} (h : (!isSto x || !isKey k) = false) (hf : 0 ≤ fndK x k) (ho : (!isSto (x.1, setI x.2.1 (fndK x k).toNat r, x.2.2)) = true) : putN x k r = (x, false) := by
 obtain ⟨h1, h2⟩ := not_or_f h
 have hl := fndK_lt hf
 rw [sto_set h1 (by omega)] at ho
 rw [putN, if_pos (by rw [ho]; simp)]
theorem put_set_yes {x : StoreT} {k : KeyT} {r : RecT} (h : (!isSto x || !isKey k) = false) (hf : 0 ≤ fndK x k) (ho : (!isSto (x.1, setI x.2.1 (fndK x k).toNat r, x.2.2)) = false) : putN x k r = ((x.1, setI x.2.1 (fndK x k).toNat r, x.2.2), true) := by
 obtain ⟨h1, h2⟩ := not_or_f h
 have hl := fndK_lt hf
 rw [sto_set h1 (by omega)] at ho
 rw [putN, if_neg (by rw [h, ho]; simp), if_pos hf]
theorem auto_ok {x : StoreT} {k : KeyT} (hs : isSto x = true) : 0 ≤ autoP x k ∧ autoP x k ≤ 1000000 := by
 rw [isSto_eq] at hs
 simp only [Bool.and_eq_true, decide_eq_true_eq] at hs
 unfold autoP
 split
 ·rename_i h
  simp only [Bool.and_eq_true, decide_eq_true_eq] at h
  omega
 ·omega
theorem auto_yes {x : StoreT} {k : KeyT} (h : (decide (k.1 = 1) && decide (x.2.2 < k.2.1) && decide (k.2.1 ≤ 1000000)) = true) : k.2.1 = autoP x k := by
 simp only [Bool.and_eq_true, decide_eq_true_eq] at h
 rw [autoP, if_pos (by simp only [Bool.and_eq_true, decide_eq_true_eq]; omega)]
theorem auto_no {x : StoreT} {k : KeyT} (h : (decide (k.1 = 1) && decide (x.2.2 < k.2.1) && decide (k.2.1 ≤ 1000000)) = false) : x.2.2 = autoP x k := by
 rw [autoP, if_neg]
 intro h2
 simp only [Bool.and_eq_true, decide_eq_true_eq] at h2
 rw [decide_eq_true h2.1, decide_eq_true (by omega : x.2.2 < k.2.1), decide_eq_true h2.2.2] at h
 cases h
theorem put_ins_no {x : StoreT} {k : KeyT} {r : RecT} {j : Nat} {a : Int} (h : (!isSto x || !isKey k) = false) (hf : ¬ 0 ≤ fndK x k) (hj : posK k x.2.1 = j) (ha : a = autoP x k) (ho : (!isSto (x.1, insI x.2.1 j (k, r), a)) = true) : putN x k r = (x, false) := by
 obtain ⟨h1, h2⟩ := not_or_f h
 subst hj; subst ha
 rw [sto_ins h1 h2 (by omega) (auto_ok h1)] at ho
 rw [putN]
 split
 ·rfl
 ·rename_i h3
  rw [if_pos]
  rw [h, Bool.false_or] at h3
  have h4 : isRec r = true := by simpa using h3
  rw [h4, Bool.true_and] at ho
  simpa using ho
theorem put_ins_yes {x : StoreT} {k : KeyT} {r : RecT} {j : Nat} {a : Int} (h : (!isSto x || !isKey k) = false) (hf : ¬ 0 ≤ fndK x k) (hj : posK k x.2.1 = j) (ha : a = autoP x k) (ho : (!isSto (x.1, insI x.2.1 j (k, r), a)) = false) : putN x k r = ((x.1, insI x.2.1 j (k, r), a), true) := by
 obtain ⟨h1, h2⟩ := not_or_f h
 subst hj; subst ha
 rw [sto_ins h1 h2 (by omega) (auto_ok h1)] at ho
 have ho' : isRec r = true ∧ x.2.1.length < 16 := by
  simpa using ho
 rw [putN, if_neg (by rw [h, ho'.1]; simp), if_neg hf, if_neg (by omega)]

theorem ok_impl_PutItem {x : StoreT} {k : KeyT} {r : RecT} (hb : wStore x ≤ 1048576) (hb2 : r.length ≤ 1048576) : KFn Tryz.prog 78 [.agg [(.dv [] (.str (x.1))), (.dv [] (itemsD (x.2.1))), (.dv [] (.int .i64 (x.2.2)))], .agg [(.dv [] (.int .i64 (k.1))), (.dv [] (.int .i64 (k.2.1))), (.dv [] (.str (k.2.2)))], .agg [(.dv [] (fieldsD (r)))]] (.tup [(true, [(.dv [] (.str ((putN x k r).1.1))), (.key 9001), (.dv [] (.int .i64 ((putN x k r).1.2.2)))]), (false, [(.dv [] (.bool ((putN x k r).2)))])]) [(9001, some (kcOf false (itemsD ((putN x k r).1.2.1))))] := by
 refine ⟨fn_intro Tryz.func78 rfl Tryz.ntmps78 Tryz.results78 rfl (fun C => ?_)⟩
 have hlen : x.2.1.length ≤ 1048576 := by have h3 : wStore x = x.1.size + (x.2.1.length + wSum wItem x.2.1) := rfl; omega
 refine yF 0 0 rfl rfl fun f0_0 => ?_
 refine yF 0 1 rfl rfl fun f0_1 => ?_
 refine yF 0 2 rfl rfl fun f0_2 => ?_
 refine yF 1 0 rfl rfl fun f1_0 => ?_
 refine yF 1 1 rfl rfl fun f1_1 => ?_
 refine yF 1 2 rfl rfl fun f1_2 => ?_
 refine yF 2 0 rfl rfl fun f2_0 => ?_
 iterate 10 refine z ?_
 refine zC Tryz.call51 ?_ (hf := ok_impl_IsStore (s := x))
 iterate 3 refine z ?_
 refine o_callG (gd_bool rfl rfl rfl rfl rfl) rfl rfl Tryz.call75 ok_impl_IsKey (fun hg => (as_cons (ev_opt rfl hg) (ag_agg (ag_cons ac_dv (ag_cons ac_dv (ag_cons ac_dv ag_nil)))) as_nil)) rfl rfl ?_
 iterate 3 refine z ?_
 refine yQ rfl (fun c1 => ?_) fun c1 => ?_
 ·skip
  iterate 2 refine z ?_
  refine zK 8971 Tryz.call22 ?_ (hf := ok_impl_copyStore (x := x) (by omega))
  iterate 3 refine z ?_
  rw [put_bad c1]
  refine ok_weak (σ' := ⟨[(6, .box 6 0), (7, .one (.dv [] (.bool (false))))], [(6, 60, [(.dv [] (.str ((x).1))), (.key 9001), (.dv [] (.int .i64 ((x).2.2)))])], [(9001, some (kcOf false (itemsD (x.2.1))))]⟩) (weak_sub ⟨rfl, rfl, trivial⟩ ⟨rfl, trivial⟩ ⟨rfl, trivial⟩ rfl) ?_
  iterate 2 refine z ?_
  refine fin2 (res_cell hT rfl rfl rfl rfl) (res_tmp rfl) rfl rfl ?_
  first | exact ⟨rfl, rfl⟩ | skip
 ·skip
  iterate 4 refine z ?_
  refine zK 8971 Tryz.call22 ?_ (hf := ok_impl_copyStore (x := x) (by omega))
  iterate 7 refine z ?_
  refine zC Tryz.call77 ?_ (hf := ok_impl_FindItem)
  iterate 6 refine z ?_
  refine yQ rfl (fun c2 => ?_) fun c2 => ?_
  ·skip
   have d2 := of_decide_eq_true c2
   have hlt := fndK_lt d2
   refine ok_regionD (oB := [3, 4, 5, 6, 8]) (oK := [9001]) (by kernel_rfl) rfl rfl ?_
   refine zD 0 ?_
   refine zD 1 ?_
   refine zD 2 ?_
   refine zD 3 ?_
   refine d_callK 9000 4 rfl (by kernel_rfl) rfl rfl rfl Tryz.call74 (ok_impl_copyRecord (by omega)) (as_cons (ev_tmp rfl) (ag_agg (ag_cons ac_dv ag_nil)) as_nil) rfl rfl rfl rfl rfl ?_
   refine d_take 5 rfl (by kernel_rfl) rfl rfl (pu_indexK (i := (fndK (x) (k)).toNat) hT rfl rfl rfl (ev_tmp rfl) rfl (ev_tmp rfl) (by omega) (by show _ < ((x.2.1)).length; omega)) rfl rfl rfl rfl ?_
   refine zD 6 ?_
   refine d_chain [7] rfl rfl (by kernel_rfl) ?_
   refine o_storeE (js := [9003]) (cs := (setI x.2.1 (fndK x k).toNat r).flatMap eItem) hT rfl rfl rfl rfl (ev_tmp rfl) (ev_tmp rfl) rfl rfl rfl rfl (ow_cons' (ow_key rfl) ow_nil rfl) (by decide) (by decide) rfl (by show _ ≤ List.length ((x.2.1).flatMap eItem); rw [len4]; omega) (setR_set (by omega)) ?_
   simp only [killT, killB, SV.kill, CV.kill, kk, Nat.reduceBEq]
   refine z ?_
   refine ok_seq ?_
   refine ok_seq ?_
   refine ok_weak (weak_eq (k := 9001) (c' := kcOf false (itemsD (setI x.2.1 (fndK x k).toNat r))) rfl (congrArg (fun n => KC.mk false 93 4 n ((setI x.2.1 (fndK x k).toNat r).flatMap eItem)) setI_len.symm) rfl) ?_
   refine ok_region ?_
   refine z ?_
   refine o_call rfl rfl rfl Tryz.call51 (ok_impl_IsStore (s := (x.1, setI x.2.1 (fndK x k).toNat r, x.2.2))) (as_cons (ev_tmp rfl) (ag_agg (ag_cons ac_dv (ag_cons (ac_key' rfl rfl) (ag_cons ac_dv ag_nil)))) as_nil) rfl rfl ?_
   iterate 2 refine z ?_
   refine yQ rfl (fun c3 => ?_) fun c3 => ?_
   ·skip
    refine ok_seq ?_
    refine ok_weak (σ' := ⟨[(3, .box 3 0), (6, .box 6 0), (7, .one (.dv [] (.bool (false))))], [(3, 60, [(.dv [] (.str (x.1))), (.dv [] (itemsD (x.2.1))), (.dv [] (.int .i64 (x.2.2)))]), (6, 60, [(.dv [] (.str (ByteArray.empty))), .nil, (.dv [] (.int .i64 (0)))])], []⟩) (weak_sub ⟨rfl, rfl, rfl, trivial⟩ ⟨rfl, rfl, trivial⟩ trivial rfl) ?_
    refine ok_region ?_
    refine z ?_
    refine zK 8971 Tryz.call22 ?_ (hf := ok_impl_copyStore (x := x) (by omega))
    iterate 3 refine z ?_
    rw [put_set_no c1 d2 c3]
    refine ok_weak (σ' := ⟨[(6, .box 6 0), (7, .one (.dv [] (.bool (false))))], [(6, 60, [(.dv [] (.str ((x).1))), (.key 9001), (.dv [] (.int .i64 ((x).2.2)))])], [(9001, some (kcOf false (itemsD (x.2.1))))]⟩) (weak_sub ⟨rfl, rfl, trivial⟩ ⟨rfl, trivial⟩ ⟨rfl, trivial⟩ rfl) ?_
    iterate 2 refine z ?_
    refine fin2 (res_cell hT rfl rfl rfl rfl) (res_tmp rfl) rfl rfl ?_
    first | exact ⟨rfl, rfl⟩ | skip
   ·skip
    iterate 7 refine z ?_
    rw [put_set_yes c1 d2 c3]
    refine ok_weak (σ' := ⟨[(6, .box 6 0), (7, .one (.dv [] (.bool (true))))], [(6, 60, [(.dv [] (.str ((x).1))), (.key 9001), (.dv [] (.int .i64 ((x).2.2)))])], [(9001, some (kcOf false (itemsD (setI x.2.1 (fndK x k).toNat r))))]⟩) (weak_sub ⟨rfl, rfl, trivial⟩ ⟨rfl, trivial⟩ ⟨rfl, trivial⟩ rfl) ?_
    refine z ?_
    refine fin2 (res_cell hT rfl rfl rfl rfl) (res_tmp rfl) rfl rfl ?_
    first | exact ⟨rfl, rfl⟩ | skip
  ·skip
   have d2 := of_decide_eq_false c2
   iterate 5 refine z ?_
   refine ok_loop (ι := Nat) (fun zz => ⟨[(3, .box 3 0), (4, .box 4 0), (5, .box 5 0), (6, .box 6 0), (7, .one (.dv [] (.bool (false)))), (8, .box 8 0), (10, .one (.dv [] (.int .i64 ((zz : Int)))))], [(3, 60, [(.dv [] (.str (x.1))), (.dv [] (itemsD (x.2.1))), (.dv [] (.int .i64 (x.2.2)))]), (4, 63, [(.dv [] (.int .i64 (k.1))), (.dv [] (.int .i64 (k.2.1))), (.dv [] (.str (k.2.2)))]), (5, 66, [(.dv [] (fieldsD (r)))]), (6, 60, [(.dv [] (.str (ByteArray.empty))), .nil, (.dv [] (.int .i64 (0)))]), (8, 60, [(.dv [] (.str ((x).1))), (.key 9001), (.dv [] (.int .i64 ((x).2.2)))])], [(9001, some (kcOf false (.sl 93 4 (x.2.1.length) (x.2.1.flatMap eItem))))]⟩) (fun zz => zz ≤ x.2.1.length ∧ posK k x.2.1 = zz + posK k (x.2.1.drop zz)) (fun zz => x.2.1.length - zz) (0) ?_ (weak_sub ⟨rfl, rfl, rfl, rfl, rfl, rfl, rfl, trivial⟩ ⟨rfl, rfl, rfl, rfl, rfl, trivial⟩ ⟨rfl, trivial⟩ rfl) (fun zz hx => ?_)
   ·exact ⟨Nat.zero_le _, by simp⟩
   obtain ⟨j, rfl⟩ : ∃ v, v = zz := ⟨_, rfl⟩
   replace hx : j ≤ x.2.1.length ∧ posK k x.2.1 = j + posK k (x.2.1.drop j) := hx
   obtain ⟨hj, hp⟩ := hx
   show Ok _ _ _ _ _ (⟨[(3, .box 3 0), (4, .box 4 0), (5, .box 5 0), (6, .box 6 0), (7, .one (.dv [] (.bool (false)))), (8, .box 8 0), (10, .one (.dv [] (.int .i64 ((j : Int)))))], [(3, 60, [(.dv [] (.str (x.1))), (.dv [] (itemsD (x.2.1))), (.dv [] (.int .i64 (x.2.2)))]), (4, 63, [(.dv [] (.int .i64 (k.1))), (.dv [] (.int .i64 (k.2.1))), (.dv [] (.str (k.2.2)))]), (5, 66, [(.dv [] (fieldsD (r)))]), (6, 60, [(.dv [] (.str (ByteArray.empty))), .nil, (.dv [] (.int .i64 (0)))]), (8, 60, [(.dv [] (.str ((x).1))), (.key 9001), (.dv [] (.int .i64 ((x).2.2)))])], [(9001, some (kcOf false (.sl 93 4 (x.2.1.length) (x.2.1.flatMap eItem))))]⟩ : St)
   refine ok_seq ?_
   refine ok_seq ?_
   refine ok_regionD (oB := [3, 4, 5, 6, 8]) (oK := [9001]) (by kernel_rfl) rfl rfl ?_
   refine zD 0 ?_
   refine zD 1 ?_
   refine d_take 2 rfl (by kernel_rfl) rfl rfl (pu_view (dd := itemsD x.2.1) (pu_loadBox1 hT rfl rfl (ev_tmp rfl) rfl rfl) rfl rfl) rfl rfl rfl rfl ?_
   refine zD 3 ?_
   refine zD 4 ?_
   refine zD 5 ?_
   refine zDG 6 ?_
   refine d_takeG 7 rfl (by kernel_rfl) (gd_bool rfl rfl rfl rfl rfl) rfl (fun hg => pu_view (dd := itemsD x.2.1) (pu_loadBox1 hT rfl rfl (ev_opt rfl hg) rfl rfl) rfl rfl) rfl rfl rfl rfl ?_
   refine zDG 8 ?_
   refine zDG 9 ?_
   refine zDG 10 ?_
   refine zDG 11 ?_
   refine zDG 12 ?_
   refine d_callG 13 rfl (by kernel_rfl) (gd_bool rfl rfl rfl rfl rfl) rfl rfl Tryz.call85 ok_impl_CompareKeys (fun hg => (as_cons (ev_opt rfl hg) (ag_agg (ag_cons ac_dv (ag_cons ac_dv (ag_cons ac_dv ag_nil)))) (as_cons (ev_opt rfl hg) (ag_agg (ag_cons ac_dv (ag_cons ac_dv (ag_cons ac_dv ag_nil)))) as_nil))) rfl rfl ?_
   refine zDG 14 ?_
   refine zD 15 ?_
   refine d_done (by kernel_rfl) ?_
   refine z ?_
   refine yQ rfl (fun c4 => ?_) fun c4 => ?_
   ·skip
    have hst := posK_step hp c4
    have hst1 := hst.1
    iterate 3 refine z ?_
    refine ok_region ?_
    iterate 3 refine z ?_
    refine ops_nil ?_
    iterate 2 refine z ?_
    refine ⟨j + 1, ?_, ?_, weak_sub ⟨rfl, rfl, rfl, rfl, rfl, rfl, rfl, trivial⟩ ⟨rfl, rfl, rfl, rfl, rfl, trivial⟩ ⟨rfl, trivial⟩ rfl⟩
    ·exact ⟨by omega, hst.2⟩
    ·omega
   ·skip
    have hpos := posK_stop hj hp c4
    iterate 5 refine z ?_
    refine ok_seq ?_
    refine ok_regionH [0, 1, 2, 3, 4, 5, 6, 7] (oB := [3, 4, 5, 6, 8]) (oK := [9001]) (by kernel_rfl) rfl rfl ?_
    refine zD 0 ?_
    refine zD 1 ?_
    refine zD 2 ?_
    refine zD 3 ?_
    refine zD 4 ?_
    refine d_callK 9000 5 rfl (by kernel_rfl) rfl rfl rfl Tryz.call74 (ok_impl_copyRecord (by omega)) (as_cons (ev_tmp rfl) (ag_agg (ag_cons ac_dv ag_nil)) as_nil) rfl rfl rfl rfl rfl ?_
    refine d_take 6 rfl (by kernel_rfl) rfl rfl (pu_build hT hB rfl rfl rfl (bp_cons (ev_tmp rfl) rfl rfl rfl rfl rfl (bp_cons (ev_tmp rfl) rfl rfl rfl rfl rfl bp_nil))) rfl rfl rfl rfl ?_
    refine d_build1 (k := 60) (js := [9003]) 7 hT rfl (by kernel_rfl) rfl rfl rfl rfl rfl rfl rfl rfl rfl (ev_tmp rfl) rfl rfl (ow_cons' (ow_dv rfl) (ow_cons' (ow_dv rfl) (ow_cons' (ow_dv rfl) (ow_cons' (ow_key rfl) ow_nil rfl) rfl) rfl) rfl) (by decide) (by decide) rfl rfl (by decide) ?_
    simp only [killT, killB, SV.kill, CV.kill, kk, Nat.reduceBEq]
    refine d_chain [8, 9, 10] rfl rfl (by kernel_rfl) ?_
    refine o_insert (k := 9001) (j := 60) (cs := (insI x.2.1 j (k, r)).flatMap eItem) (n := (insI x.2.1 j (k, r)).length) (insOk_Item rfl rfl (by decide)) rfl rfl Tryz.call122 rfl rfl (ev_tmp rfl) rfl rfl rfl (ev_tmp rfl) (by omega) (by dsimp only [kcOf]; omega) (ev_tmp rfl) rfl rfl rfl rfl (by decide) (by dsimp only [kcOf]; omega) (by dsimp only [kcOf]; omega) (by rw [insI_len]) (insL_items (o := x.2.1) (j := j) (y := (k, r))) ?_
    simp only [killT, killB, SV.kill, CV.kill, kk, Nat.reduceBEq]
    iterate 20 refine z ?_
    refine yQ rfl (fun c5 => ?_) fun c5 => ?_
    ·skip
     refine ok_region ?_
     iterate 5 refine z ?_
     refine ok_seq ?_
     refine ok_seq ?_
     refine ok_weak (weak_eq (k := 9001) (c' := kcOf false (itemsD (insI x.2.1 j (k, r)))) rfl (rfl) rfl) ?_
     refine ok_region ?_
     refine z ?_
     refine o_call rfl rfl rfl Tryz.call51 (ok_impl_IsStore (s := (x.1, insI x.2.1 j (k, r), k.2.1))) (as_cons (ev_tmp rfl) (ag_agg (ag_cons ac_dv (ag_cons (ac_key' rfl rfl) (ag_cons ac_dv ag_nil)))) as_nil) rfl rfl ?_
     iterate 2 refine z ?_
     refine yQ rfl (fun c6 => ?_) fun c6 => ?_
     ·skip
      refine ok_seq ?_
      refine ok_weak (σ' := ⟨[(3, .box 3 0), (6, .box 6 0), (7, .one (.dv [] (.bool (false))))], [(3, 60, [(.dv [] (.str (x.1))), (.dv [] (itemsD (x.2.1))), (.dv [] (.int .i64 (x.2.2)))]), (6, 60, [(.dv [] (.str (ByteArray.empty))), .nil, (.dv [] (.int .i64 (0)))])], []⟩) (weak_sub ⟨rfl, rfl, rfl, trivial⟩ ⟨rfl, rfl, trivial⟩ trivial rfl) ?_
      refine ok_region ?_
      refine z ?_
      refine zK 8971 Tryz.call22 ?_ (hf := ok_impl_copyStore (x := x) (by omega))
      iterate 3 refine z ?_
      rw [put_ins_no c1 d2 hpos (auto_yes c5) c6]
      refine ok_weak (σ' := ⟨[(6, .box 6 0), (7, .one (.dv [] (.bool (false))))], [(6, 60, [(.dv [] (.str ((x).1))), (.key 9001), (.dv [] (.int .i64 ((x).2.2)))])], [(9001, some (kcOf false (itemsD (x.2.1))))]⟩) (weak_sub ⟨rfl, rfl, trivial⟩ ⟨rfl, trivial⟩ ⟨rfl, trivial⟩ rfl) ?_
      iterate 2 refine z ?_
      refine fin2 (res_cell hT rfl rfl rfl rfl) (res_tmp rfl) rfl rfl ?_
      first | exact ⟨rfl, rfl⟩ | skip
     ·skip
      iterate 7 refine z ?_
      rw [put_ins_yes c1 d2 hpos (auto_yes c5) c6]
      refine ok_weak (σ' := ⟨[(6, .box 6 0), (7, .one (.dv [] (.bool (true))))], [(6, 60, [(.dv [] (.str ((x).1))), (.key 9001), (.dv [] (.int .i64 (k.2.1)))])], [(9001, some (kcOf false (itemsD (insI x.2.1 j (k, r)))))]⟩) (weak_sub ⟨rfl, rfl, trivial⟩ ⟨rfl, trivial⟩ ⟨rfl, trivial⟩ rfl) ?_
      refine z ?_
      refine fin2 (res_cell hT rfl rfl rfl rfl) (res_tmp rfl) rfl rfl ?_
      first | exact ⟨rfl, rfl⟩ | skip
    ·skip
     iterate 2 refine z ?_
     refine ok_seq ?_
     refine ok_seq ?_
     refine ok_weak (weak_eq (k := 9001) (c' := kcOf false (itemsD (insI x.2.1 j (k, r)))) rfl (rfl) rfl) ?_
     refine ok_region ?_
     refine z ?_
     refine o_call rfl rfl rfl Tryz.call51 (ok_impl_IsStore (s := (x.1, insI x.2.1 j (k, r), x.2.2))) (as_cons (ev_tmp rfl) (ag_agg (ag_cons ac_dv (ag_cons (ac_key' rfl rfl) (ag_cons ac_dv ag_nil)))) as_nil) rfl rfl ?_
     iterate 2 refine z ?_
     refine yQ rfl (fun c7 => ?_) fun c7 => ?_
     ·skip
      refine ok_seq ?_
      refine ok_weak (σ' := ⟨[(3, .box 3 0), (6, .box 6 0), (7, .one (.dv [] (.bool (false))))], [(3, 60, [(.dv [] (.str (x.1))), (.dv [] (itemsD (x.2.1))), (.dv [] (.int .i64 (x.2.2)))]), (6, 60, [(.dv [] (.str (ByteArray.empty))), .nil, (.dv [] (.int .i64 (0)))])], []⟩) (weak_sub ⟨rfl, rfl, rfl, trivial⟩ ⟨rfl, rfl, trivial⟩ trivial rfl) ?_
      refine ok_region ?_
      refine z ?_
      refine zK 8971 Tryz.call22 ?_ (hf := ok_impl_copyStore (x := x) (by omega))
      iterate 3 refine z ?_
      rw [put_ins_no c1 d2 hpos (auto_no c5) c7]
      refine ok_weak (σ' := ⟨[(6, .box 6 0), (7, .one (.dv [] (.bool (false))))], [(6, 60, [(.dv [] (.str ((x).1))), (.key 9001), (.dv [] (.int .i64 ((x).2.2)))])], [(9001, some (kcOf false (itemsD (x.2.1))))]⟩) (weak_sub ⟨rfl, rfl, trivial⟩ ⟨rfl, trivial⟩ ⟨rfl, trivial⟩ rfl) ?_
      iterate 2 refine z ?_
      refine fin2 (res_cell hT rfl rfl rfl rfl) (res_tmp rfl) rfl rfl ?_
      first | exact ⟨rfl, rfl⟩ | skip
     ·skip
      iterate 7 refine z ?_
      rw [put_ins_yes c1 d2 hpos (auto_no c5) c7]
      refine ok_weak (σ' := ⟨[(6, .box 6 0), (7, .one (.dv [] (.bool (true))))], [(6, 60, [(.dv [] (.str ((x).1))), (.key 9001), (.dv [] (.int .i64 ((x).2.2)))])], [(9001, some (kcOf false (itemsD (insI x.2.1 j (k, r)))))]⟩) (weak_sub ⟨rfl, rfl, trivial⟩ ⟨rfl, trivial⟩ ⟨rfl, trivial⟩ rfl) ?_
      refine z ?_
      refine fin2 (res_cell hT rfl rfl rfl rfl) (res_tmp rfl) rfl rfl ?_
      first | exact ⟨rfl, rfl⟩ | skip
end Go.Proofs.YtjkpoekgnmgofaaGreat

namespace Go.Proofs.YtjkpoekgnmgofaaGreat
open Go.RowKit
open Go.Proofs
set_option linter.unusedVariables false
set_option linter.unusedSimpArgs false

theorem sto_auto {x : StoreT} {b c : Bool} (h : (!isSto x || b || c) = false) : 0 ≤ x.2.2 ∧ x.2.2 ≤ 1000000 := by
 have hs : isSto x = true := by cases hh : isSto x <;> simp_all
 rw [isSto_eq] at hs
 simp only [Bool.and_eq_true, decide_eq_true_eq] at hs
 omega
theorem put_f {x : StoreT} {k : KeyT} {r : RecT} (h : (!isSto x || !isKey k || !isRec r) = false) (hf : 0 ≤ fndK x k) : putN x k r = ((x.1, setI x.2.1 (fndK x k).toNat r, x.2.2), true) := by
 rw [putN, if_neg (by rw [h]; simp), if_pos hf]
theorem put_l {x : StoreT} {k : KeyT} {r : RecT} (h : (!isSto x || !isKey k || !isRec r) = false) (hf : ¬ 0 ≤ fndK x k) (hl : (16 : Int) ≤ (x.2.1.length : Int)) : putN x k r = (x, false) := by
 rw [putN, if_neg (by rw [h]; simp), if_neg hf, if_pos (by omega)]
theorem put_i {x : StoreT} {k : KeyT} {r : RecT} {j : Nat} {a : Int} (h : (!isSto x || !isKey k || !isRec r) = false) (hf : ¬ 0 ≤ fndK x k) (hl : ¬ (16 : Int) ≤ (x.2.1.length : Int)) (hj : posK k x.2.1 = j) (ha : a = autoP x k) : putN x k r = ((x.1, insI x.2.1 j (k, r), a), true) := by
 subst hj; subst ha
 rw [putN, if_neg (by rw [h]; simp), if_neg hf, if_neg (by omega)]
theorem auto_y {x : StoreT} {k : KeyT} (h : (decide (k.1 = 1) && (decide (x.2.2 + 1 ≤ k.2.1) && decide (k.2.1 ≤ 1000000))) = true) : k.2.1 = autoP x k := by rw [autoP, if_pos h]
theorem auto_n {x : StoreT} {k : KeyT} (h : (decide (k.1 = 1) && (decide (x.2.2 + 1 ≤ k.2.1) && decide (k.2.1 ≤ 1000000))) = false) : x.2.2 = autoP x k := by rw [autoP, if_neg (by rw [h]; simp)]

theorem ok_spec_PutItem {x : StoreT} {k : KeyT} {r : RecT} (hb : wStore x ≤ 1048576) (hb2 : r.length ≤ 1048576) : KFn Tryz.prog 94 [.agg [(.dv [] (.str (x.1))), (.dv [] (itemsD (x.2.1))), (.dv [] (.int .i64 (x.2.2)))], .agg [(.dv [] (.int .i64 (k.1))), (.dv [] (.int .i64 (k.2.1))), (.dv [] (.str (k.2.2)))], .agg [(.dv [] (fieldsD (r)))]] (.tup [(true, [(.dv [] (.str ((putN x k r).1.1))), (.key 9001), (.dv [] (.int .i64 ((putN x k r).1.2.2)))]), (false, [(.dv [] (.bool ((putN x k r).2)))])]) [(9001, some (kcOf false (itemsD ((putN x k r).1.2.1))))] := by
 refine ⟨fn_intro Tryz.func94 rfl Tryz.ntmps94 Tryz.results94 rfl (fun C => ?_)⟩
 have hlen : x.2.1.length ≤ 1048576 := by have h3 : wStore x = x.1.size + (x.2.1.length + wSum wItem x.2.1) := rfl; omega
 refine yF 0 0 rfl rfl fun f0_0 => ?_
 refine yF 0 1 rfl rfl fun f0_1 => ?_
 refine yF 0 2 rfl rfl fun f0_2 => ?_
 refine yF 1 0 rfl rfl fun f1_0 => ?_
 refine yF 1 1 rfl rfl fun f1_1 => ?_
 refine yF 1 2 rfl rfl fun f1_2 => ?_
 refine yF 2 0 rfl rfl fun f2_0 => ?_
 iterate 10 refine z ?_
 refine zC Tryz.call55 ?_ (hf := ok_spec_IsStore (s := x))
 iterate 3 refine z ?_
 refine o_callG (gd_bool rfl rfl rfl rfl rfl) rfl rfl Tryz.call89 ok_spec_IsKey (fun hg => (as_cons (ev_opt rfl hg) (ag_agg (ag_cons ac_dv (ag_cons ac_dv (ag_cons ac_dv ag_nil)))) as_nil)) rfl rfl ?_
 iterate 4 refine z ?_
 refine o_callG (gd_bool rfl rfl rfl rfl rfl) rfl rfl Tryz.call90 ok_spec_IsRecord (fun hg => (as_cons (ev_opt rfl hg) (ag_agg (ag_cons ac_dv ag_nil)) as_nil)) rfl rfl ?_
 iterate 3 refine z ?_
 refine yQ rfl (fun c1 => ?_) fun c1 => ?_
 ·skip
  iterate 2 refine z ?_
  refine zK 8971 Tryz.call54 ?_ (hf := ok_spec_l6Copy (x := x) (by omega))
  iterate 3 refine z ?_
  rw [putN, if_pos c1]
  refine ok_weak (σ' := ⟨[(6, .box 6 0), (7, .one (.dv [] (.bool (false))))], [(6, 60, [(.dv [] (.str ((x).1))), (.key 9001), (.dv [] (.int .i64 ((x).2.2)))])], [(9001, some (kcOf false (itemsD (x.2.1))))]⟩) (weak_sub ⟨rfl, rfl, trivial⟩ ⟨rfl, trivial⟩ ⟨rfl, trivial⟩ rfl) ?_
  iterate 2 refine z ?_
  refine fin2 (res_cell hT rfl rfl rfl rfl) (res_tmp rfl) rfl rfl ?_
  first | exact ⟨rfl, rfl⟩ | skip
 ·skip
  have hau := sto_auto c1
  iterate 4 refine z ?_
  refine zK 8971 Tryz.call54 ?_ (hf := ok_spec_l6Copy (x := x) (by omega))
  iterate 7 refine z ?_
  refine zC Tryz.call97 ?_ (hf := ok_spec_FindItem)
  iterate 6 refine z ?_
  refine yQ rfl (fun c2 => ?_) fun c2 => ?_
  ·skip
   have d2 := of_decide_eq_true c2
   have hlt := fndK_lt d2
   refine ok_seq ?_
   refine ok_regionD (oB := [3, 4, 5, 6, 8]) (oK := [9001]) (by kernel_rfl) rfl rfl ?_
   refine zD 0 ?_
   refine zD 1 ?_
   refine zD 2 ?_
   refine zD 3 ?_
   refine d_callK 9000 4 rfl (by kernel_rfl) rfl rfl rfl Tryz.call107 (ok_spec_l5Copy (by omega)) (as_cons (ev_tmp rfl) (ag_agg (ag_cons ac_dv ag_nil)) as_nil) rfl rfl rfl rfl rfl ?_
   refine d_take 5 rfl (by kernel_rfl) rfl rfl (pu_indexK (i := (fndK (x) (k)).toNat) hT rfl rfl rfl (ev_tmp rfl) rfl (ev_tmp rfl) (by omega) (by show _ < ((x.2.1)).length; omega)) rfl rfl rfl rfl ?_
   refine zD 6 ?_
   refine d_chain [7] rfl rfl (by kernel_rfl) ?_
   refine o_storeE (js := [9003]) (cs := (setI x.2.1 (fndK x k).toNat r).flatMap eItem) hT rfl rfl rfl rfl (ev_tmp rfl) (ev_tmp rfl) rfl rfl rfl rfl (ow_cons' (ow_key rfl) ow_nil rfl) (by decide) (by decide) rfl (by show _ ≤ List.length ((x.2.1).flatMap eItem); rw [len4]; omega) (setR_set (by omega)) ?_
   simp only [killT, killB, SV.kill, CV.kill, kk, Nat.reduceBEq]
   refine z ?_
   refine ok_seq ?_
   refine ok_weak (weak_eq (k := 9001) (c' := kcOf false (itemsD (setI x.2.1 (fndK x k).toNat r))) rfl (congrArg (fun n => KC.mk false 93 4 n ((setI x.2.1 (fndK x k).toNat r).flatMap eItem)) setI_len.symm) rfl) ?_
   refine ok_region ?_
   iterate 4 refine z ?_
   rw [put_f c1 d2]
   refine ok_weak (σ' := ⟨[(6, .box 6 0), (7, .one (.dv [] (.bool (true))))], [(6, 60, [(.dv [] (.str ((x).1))), (.key 9001), (.dv [] (.int .i64 ((x).2.2)))])], [(9001, some (kcOf false (itemsD (setI x.2.1 (fndK x k).toNat r))))]⟩) (weak_sub ⟨rfl, rfl, trivial⟩ ⟨rfl, trivial⟩ ⟨rfl, trivial⟩ rfl) ?_
   iterate 2 refine z ?_
   refine fin2 (res_cell hT rfl rfl rfl rfl) (res_tmp rfl) rfl rfl ?_
   first | exact ⟨rfl, rfl⟩ | skip
  ·skip
   have d2 := of_decide_eq_false c2
   iterate 9 refine z ?_
   refine yQ rfl (fun c3 => ?_) fun c3 => ?_
   ·skip
    have d3 := of_decide_eq_true c3
    iterate 5 refine z ?_
    rw [put_l c1 d2 d3]
    refine ok_weak (σ' := ⟨[(6, .box 6 0), (7, .one (.dv [] (.bool (false))))], [(6, 60, [(.dv [] (.str ((x).1))), (.key 9001), (.dv [] (.int .i64 ((x).2.2)))])], [(9001, some (kcOf false (itemsD (x.2.1))))]⟩) (weak_sub ⟨rfl, rfl, trivial⟩ ⟨rfl, trivial⟩ ⟨rfl, trivial⟩ rfl) ?_
    iterate 2 refine z ?_
    refine fin2 (res_cell hT rfl rfl rfl rfl) (res_tmp rfl) rfl rfl ?_
    first | exact ⟨rfl, rfl⟩ | skip
   ·skip
    have d3 := of_decide_eq_false c3
    iterate 7 refine z ?_
    refine ok_loop (ι := Nat) (fun zz => ⟨[(3, .box 3 0), (4, .box 4 0), (5, .box 5 0), (6, .box 6 0), (7, .one (.dv [] (.bool (false)))), (8, .box 8 0), (10, .one (.dv [] (.int .i64 ((zz : Int)))))], [(3, 60, [(.dv [] (.str (x.1))), (.dv [] (itemsD (x.2.1))), (.dv [] (.int .i64 (x.2.2)))]), (4, 63, [(.dv [] (.int .i64 (k.1))), (.dv [] (.int .i64 (k.2.1))), (.dv [] (.str (k.2.2)))]), (5, 66, [(.dv [] (fieldsD (r)))]), (6, 60, [(.dv [] (.str (ByteArray.empty))), .nil, (.dv [] (.int .i64 (0)))]), (8, 60, [(.dv [] (.str ((x).1))), (.key 9001), (.dv [] (.int .i64 ((x).2.2)))])], [(9001, some (kcOf false (.sl 93 4 (x.2.1.length) (x.2.1.flatMap eItem))))]⟩) (fun zz => zz ≤ x.2.1.length ∧ posK k x.2.1 = zz + posK k (x.2.1.drop zz)) (fun zz => x.2.1.length - zz) (0) ?_ (weak_sub ⟨rfl, rfl, rfl, rfl, rfl, rfl, rfl, trivial⟩ ⟨rfl, rfl, rfl, rfl, rfl, trivial⟩ ⟨rfl, trivial⟩ rfl) (fun zz hx => ?_)
    ·exact ⟨Nat.zero_le _, by simp⟩
    obtain ⟨j, rfl⟩ : ∃ v, v = zz := ⟨_, rfl⟩
    replace hx : j ≤ x.2.1.length ∧ posK k x.2.1 = j + posK k (x.2.1.drop j) := hx
    obtain ⟨hj, hp⟩ := hx
    show Ok _ _ _ _ _ (⟨[(3, .box 3 0), (4, .box 4 0), (5, .box 5 0), (6, .box 6 0), (7, .one (.dv [] (.bool (false)))), (8, .box 8 0), (10, .one (.dv [] (.int .i64 ((j : Int)))))], [(3, 60, [(.dv [] (.str (x.1))), (.dv [] (itemsD (x.2.1))), (.dv [] (.int .i64 (x.2.2)))]), (4, 63, [(.dv [] (.int .i64 (k.1))), (.dv [] (.int .i64 (k.2.1))), (.dv [] (.str (k.2.2)))]), (5, 66, [(.dv [] (fieldsD (r)))]), (6, 60, [(.dv [] (.str (ByteArray.empty))), .nil, (.dv [] (.int .i64 (0)))]), (8, 60, [(.dv [] (.str ((x).1))), (.key 9001), (.dv [] (.int .i64 ((x).2.2)))])], [(9001, some (kcOf false (.sl 93 4 (x.2.1.length) (x.2.1.flatMap eItem))))]⟩ : St)
    refine ok_seq ?_
    refine ok_seq ?_
    refine ok_regionD (oB := [3, 4, 5, 6, 8]) (oK := [9001]) (by kernel_rfl) rfl rfl ?_
    refine zD 0 ?_
    refine zD 1 ?_
    refine zD 2 ?_
    refine zD 3 ?_
    refine zD 4 ?_
    refine zD 5 ?_
    refine zDG 6 ?_
    refine zDG 7 ?_
    refine zDG 8 ?_
    refine zDG 9 ?_
    refine zDG 10 ?_
    refine zDG 11 ?_
    refine zDG 12 ?_
    refine d_callG 13 rfl (by kernel_rfl) (gd_bool rfl rfl rfl rfl rfl) rfl rfl Tryz.call91 ok_spec_CompareKeys (fun hg => (as_cons (ev_opt rfl hg) (ag_agg (ag_cons ac_dv (ag_cons ac_dv (ag_cons ac_dv ag_nil)))) (as_cons (ev_opt rfl hg) (ag_agg (ag_cons ac_dv (ag_cons ac_dv (ag_cons ac_dv ag_nil)))) as_nil))) rfl rfl ?_
    refine zDG 14 ?_
    refine zD 15 ?_
    refine d_done (by kernel_rfl) ?_
    refine z ?_
    refine yQ rfl (fun c4 => ?_) fun c4 => ?_
    ·skip
     have hst := posK_step hp c4
     have hst1 := hst.1
     iterate 3 refine z ?_
     refine ok_region ?_
     iterate 3 refine z ?_
     refine ops_nil ?_
     iterate 2 refine z ?_
     refine ⟨j + 1, ?_, ?_, weak_sub ⟨rfl, rfl, rfl, rfl, rfl, rfl, rfl, trivial⟩ ⟨rfl, rfl, rfl, rfl, rfl, trivial⟩ ⟨rfl, trivial⟩ rfl⟩
     ·exact ⟨by omega, hst.2⟩
     ·omega
    ·skip
     have hpos := posK_stop hj hp c4
     iterate 6 refine z ?_
     refine o_build0 (k := 65) hT rfl rfl rfl rfl rfl rfl rfl rfl ?_
     iterate 3 refine z ?_
     refine o_appSubB (b8 := 8) (i8 := 1) (k := 65) (j := 9001) (s := 67) (n := (x.2.1.take j).length) (cs := (x.2.1.take j).flatMap eItem) (c2s := List.replicate (j * 4) .hole ++ (x.2.1.drop j).flatMap eItem) hT rfl rfl rfl (sl_h hT rfl rfl rfl (ev_tmp rfl) rfl (ev_tmp rfl) (by omega) (by dsimp only [kcOf]; omega)) rfl rfl rfl rfl rfl rfl rfl (ev_tmp rfl) rfl rfl rfl rfl rfl rfl (by decide) rfl rfl ⟨rfl, rfl⟩ (by omega) (by dsimp only [kcOf]; omega) (by dsimp only [kcOf]; omega) (by dsimp only [kcOf]; omega) (by rw [List.length_take, Nat.min_eq_left (by omega)]; simp) (sub_lo) (holed_lo) rfl rfl rfl ?_
     simp only [killT, killB, SV.kill, CV.kill, kk, Nat.reduceBEq]
     iterate 2 refine z ?_
     refine ok_seq ?_
     refine ok_regionH [0, 1, 2, 3, 4, 5] (oB := [3, 4, 5, 6, 8]) (oK := [65, 9001]) (by kernel_rfl) rfl rfl ?_
     refine zD 0 ?_
     refine zD 1 ?_
     refine zD 2 ?_
     refine d_callK 9000 3 rfl (by kernel_rfl) rfl rfl rfl Tryz.call107 (ok_spec_l5Copy (by omega)) (as_cons (ev_tmp rfl) (ag_agg (ag_cons ac_dv ag_nil)) as_nil) rfl rfl rfl rfl rfl ?_
     refine d_take 4 rfl (by kernel_rfl) rfl rfl (pu_build hT hB rfl rfl rfl (bp_cons (ev_tmp rfl) rfl rfl rfl rfl rfl (bp_cons (ev_tmp rfl) rfl rfl rfl rfl rfl bp_nil))) rfl rfl rfl rfl ?_
     refine d_build1 (k := 76) (js := [9003]) 5 hT rfl (by kernel_rfl) rfl rfl rfl rfl rfl rfl rfl rfl rfl (ev_tmp rfl) rfl rfl (ow_cons' (ow_dv rfl) (ow_cons' (ow_dv rfl) (ow_cons' (ow_dv rfl) (ow_cons' (ow_key rfl) ow_nil rfl) rfl) rfl) rfl) (by decide) (by decide) rfl rfl (by decide) ?_
     simp only [killT, killB, SV.kill, CV.kill, kk, Nat.reduceBEq]
     refine d_chain [6, 7] rfl rfl (by kernel_rfl) ?_
     refine o_appK (k := 65) (j := 76) (cs := (x.2.1.take j ++ [(k, r)]).flatMap eItem) (n := (x.2.1.take j ++ [(k, r)]).length) hT rfl rfl rfl rfl rfl rfl rfl (ev_tmp rfl) rfl rfl rfl (ev_tmp rfl) rfl rfl (by decide) (by dsimp only [kcOf]; simp only [List.length_take]; omega) (by dsimp only [kcOf]; simp only [List.length_take]; omega) (by simp) (by rw [List.flatMap_append]; rfl) ?_
     simp only [killT, killB, SV.kill, CV.kill, kk, Nat.reduceBEq]
     iterate 7 refine z ?_
     refine o_appSub (k := 65) (j := 9001) (s := 80) (n := (insI x.2.1 j (k, r)).length) (cs := (insI x.2.1 j (k, r)).flatMap eItem) (c2s := _) hT rfl rfl rfl (sl_l hT rfl rfl rfl (ev_tmp rfl) rfl (ev_tmp rfl) (by omega) (by dsimp only [kcOf]; omega)) rfl rfl rfl rfl rfl rfl rfl (ev_tmp rfl) rfl rfl rfl rfl rfl rfl (by decide) rfl rfl ⟨rfl, rfl⟩ (by dsimp only [kcOf]; omega) (by dsimp only [kcOf]; omega) (by dsimp only [kcOf]; simp only [List.length_append, List.length_take, List.length_singleton]; omega) (by dsimp only [kcOf]; simp only [List.length_append, List.length_take, List.length_singleton]; omega) (by rw [insI_len]; simp; omega) (sub_hi hj) (rfl) ?_
     simp only [killT, killB, SV.kill, CV.kill, kk, Nat.reduceBEq]
     iterate 14 refine z ?_
     refine o_callG (gd_bool rfl rfl rfl rfl rfl) rfl rfl Tryz.call59 ok_spec_l1In (fun hg => (as_cons (ev_opt rfl hg) (ag_one ac_dv) (as_cons (ev_opt rfl hg) (ag_one ac_dv) (as_cons (ev_int (inR_lit rfl)) (ag_one ac_dv) as_nil)))) rfl rfl ?_
     iterate 2 refine z ?_
     refine yQ rfl (fun c5 => ?_) fun c5 => ?_
     ·skip
      refine ok_region ?_
      iterate 5 refine z ?_
      refine ok_seq ?_
      refine ok_weak (weak_swapB (b := 8) (i := 1) (k := 65) (k' := 9001) rfl rfl rfl rfl (by decide) rfl rfl) ?_
      simp only [killT, killB, SV.kill, CV.kill, kk, Nat.reduceBEq]
      refine ok_region ?_
      iterate 4 refine z ?_
      rw [put_i c1 d2 d3 hpos (auto_y c5)]
      refine ok_weak (σ' := ⟨[(6, .box 6 0), (7, .one (.dv [] (.bool (true))))], [(6, 60, [(.dv [] (.str ((x).1))), (.key 9001), (.dv [] (.int .i64 (k.2.1)))])], [(9001, some (kcOf false (itemsD (insI x.2.1 j (k, r)))))]⟩) (weak_sub ⟨rfl, rfl, trivial⟩ ⟨rfl, trivial⟩ ⟨rfl, trivial⟩ rfl) ?_
      refine z ?_
      refine fin2 (res_cell hT rfl rfl rfl rfl) (res_tmp rfl) rfl rfl ?_
      first | exact ⟨rfl, rfl⟩ | skip
     ·skip
      iterate 2 refine z ?_
      refine ok_seq ?_
      refine ok_weak (weak_swapB (b := 8) (i := 1) (k := 65) (k' := 9001) rfl rfl rfl rfl (by decide) rfl rfl) ?_
      simp only [killT, killB, SV.kill, CV.kill, kk, Nat.reduceBEq]
      refine ok_region ?_
      iterate 4 refine z ?_
      rw [put_i c1 d2 d3 hpos (auto_n c5)]
      refine ok_weak (σ' := ⟨[(6, .box 6 0), (7, .one (.dv [] (.bool (true))))], [(6, 60, [(.dv [] (.str ((x).1))), (.key 9001), (.dv [] (.int .i64 ((x).2.2)))])], [(9001, some (kcOf false (itemsD (insI x.2.1 j (k, r)))))]⟩) (weak_sub ⟨rfl, rfl, trivial⟩ ⟨rfl, trivial⟩ ⟨rfl, trivial⟩ rfl) ?_
      refine z ?_
      refine fin2 (res_cell hT rfl rfl rfl rfl) (res_tmp rfl) rfl rfl ?_
      first | exact ⟨rfl, rfl⟩ | skip
end Go.Proofs.YtjkpoekgnmgofaaGreat

namespace Go.Proofs.YtjkpoekgnmgofaaGreat
open Go.RowKit
open Go.Proofs
set_option linter.unusedVariables false
set_option linter.unusedSimpArgs false

def addN (x : StoreT) (k : KeyT) (r : RecT) : StoreT × Bool := if 0 ≤ fndK x k then (x, false) else putN x k r
theorem add_yes {x : StoreT} {k : KeyT} {r : RecT} (h : 0 ≤ fndK x k) : addN x k r = (x, false) := if_pos h
theorem add_no {x : StoreT} {k : KeyT} {r : RecT} (h : ¬ 0 ≤ fndK x k) : addN x k r = putN x k r := if_neg h
theorem ok_impl_AddItem {x : StoreT} {k : KeyT} {r : RecT} (hb : wStore x ≤ 1048576) (hb2 : r.length ≤ 1048576) : KFn Tryz.prog 79 [.agg [(.dv [] (.str (x.1))), (.dv [] (itemsD (x.2.1))), (.dv [] (.int .i64 (x.2.2)))], .agg [(.dv [] (.int .i64 (k.1))), (.dv [] (.int .i64 (k.2.1))), (.dv [] (.str (k.2.2)))], .agg [(.dv [] (fieldsD (r)))]] (.tup [(true, [(.dv [] (.str ((addN x k r).1.1))), (.key 9001), (.dv [] (.int .i64 ((addN x k r).1.2.2)))]), (false, [(.dv [] (.bool ((addN x k r).2)))])]) [(9001, some (kcOf false (itemsD ((addN x k r).1.2.1))))] := by
 refine ⟨fn_intro Tryz.func79 rfl Tryz.ntmps79 Tryz.results79 rfl (fun C => ?_)⟩
 refine yF 0 0 rfl rfl fun f0_0 => ?_
 refine yF 0 1 rfl rfl fun f0_1 => ?_
 refine yF 0 2 rfl rfl fun f0_2 => ?_
 refine yF 1 0 rfl rfl fun f1_0 => ?_
 refine yF 1 1 rfl rfl fun f1_1 => ?_
 refine yF 1 2 rfl rfl fun f1_2 => ?_
 refine yF 2 0 rfl rfl fun f2_0 => ?_
 iterate 11 refine z ?_
 refine zC Tryz.call77 ?_ (hf := ok_impl_FindItem)
 iterate 2 refine z ?_
 refine yQ rfl (fun c1 => ?_) fun c1 => ?_
 ·skip
  have d1 := of_decide_eq_true c1
  iterate 2 refine z ?_
  refine zK 8971 Tryz.call22 ?_ (hf := ok_impl_copyStore (x := x) (by omega))
  iterate 3 refine z ?_
  rw [add_yes d1]
  refine ok_weak (σ' := ⟨[(6, .box 6 0), (7, .one (.dv [] (.bool (false))))], [(6, 60, [(.dv [] (.str ((x).1))), (.key 9001), (.dv [] (.int .i64 ((x).2.2)))])], [(9001, some (kcOf false (itemsD (x.2.1))))]⟩) (weak_sub ⟨rfl, rfl, trivial⟩ ⟨rfl, trivial⟩ ⟨rfl, trivial⟩ rfl) ?_
  iterate 2 refine z ?_
  refine fin2 (res_cell hT rfl rfl rfl rfl) (res_tmp rfl) rfl rfl ?_
  first | exact ⟨rfl, rfl⟩ | skip
 ·skip
  have d1 := of_decide_eq_false c1
  iterate 6 refine z ?_
  refine zK 0 Tryz.call78 ?_ (hf := ok_impl_PutItem (x := x) (k := k) (r := r) (by omega) (by omega))
  iterate 5 refine z ?_
  rw [add_no d1]
  refine ok_weak (σ' := ⟨[(6, .box 6 0), (7, .one (.dv [] (.bool ((putN (x) (k) (r)).2))))], [(6, 60, [(.dv [] (.str ((putN (x) (k) (r)).1.1))), (.key 9001), (.dv [] (.int .i64 ((putN (x) (k) (r)).1.2.2)))])], [(9001, some (kcOf false (itemsD ((putN x k r).1.2.1))))]⟩) (weak_sub ⟨rfl, rfl, trivial⟩ ⟨rfl, trivial⟩ ⟨rfl, trivial⟩ rfl) ?_
  refine z ?_
  refine fin2 (res_cell hT rfl rfl rfl rfl) (res_tmp rfl) rfl rfl ?_
  first | exact ⟨rfl, rfl⟩ | skip
end Go.Proofs.YtjkpoekgnmgofaaGreat

namespace Go.Proofs.YtjkpoekgnmgofaaGreat
open Go.RowKit
open Go.Proofs
set_option linter.unusedVariables false
set_option linter.unusedSimpArgs false

theorem putN_f {x : StoreT} {k : KeyT} {r : RecT} (h : (putN x k r).2 = false) : (putN x k r).1 = x := by
 unfold putN at h ⊢
 split
 ·rfl
 ·rename_i h1
  rw [if_neg h1] at h
  split
  ·rename_i h2; rw [if_pos h2] at h; cases h
  ·rename_i h2
   rw [if_neg h2] at h
   split
   ·rfl
   ·rename_i h3; rw [if_neg h3] at h; cases h
end Go.Proofs.YtjkpoekgnmgofaaGreat

namespace Go.Proofs.YtjkpoekgnmgofaaGreat
open Go.RowKit
open Go.Proofs
set_option linter.unusedVariables false
set_option linter.unusedSimpArgs false

theorem key_rng {k : KeyT} (h : isKey k = true) : (1 ≤ k.1 ∧ k.1 ≤ 3) ∧ (-1000000000000 ≤ k.2.1 ∧ k.2.1 ≤ 1000000000000) ∧ k.2.2.size ≤ 12 := by
 simp only [isKey, kText, Bool.and_eq_true, decide_eq_true_eq] at h
 omega
theorem name_size {s : Str} (h : isName s = true) : 1 ≤ s.size ∧ s.size ≤ 8 := by
 simp only [isName, Bool.and_eq_true, decide_eq_true_eq] at h; omega
theorem rec_fld {r : RecT} {k : Nat} (h : isRec r = true) (hk : k < r.length) : isName (r.getD (k : Int).toNat default).1 = true ∧ 0 ≤ (r.getD (k : Int).toNat default).2 ∧ (r.getD (k : Int).toNat default).2 ≤ 1000000000 := by
 simp only [isRec, Bool.and_eq_true, List.all_eq_true] at h
 have h1 := h.1 k (List.mem_range.2 hk)
 unfold recBad at h1
 simp only [Bool.not_or, Bool.not_not, Bool.and_eq_true, decide_eq_true_eq] at h1
 exact ⟨h1.1.1, h1.1.2.1, h1.1.2.2⟩
theorem rec_len {r : RecT} (h : isRec r = true) : r.length ≤ 6 := by
 simp only [isRec, Bool.and_eq_true, decide_eq_true_eq] at h; omega
end Go.Proofs.YtjkpoekgnmgofaaGreat

namespace Go.Proofs.YtjkpoekgnmgofaaGreat
open Go.RowKit
open Go.Proofs
set_option linter.unusedVariables false
set_option linter.unusedSimpArgs false

def areB (l : List OpT) : Bool := l.all isOpB && decide ((l.length : Int) ≤ 6)
theorem are_no {l : List OpT} {k : Nat} (hk : k < l.length) (h : isOpB (l.getD (k : Int).toNat default) = false) : areB l = false := by
 unfold areB
 have : l.all isOpB = false := by
  rw [List.all_eq_false]
  refine ⟨l[k], List.getElem_mem hk, ?_⟩
  rw [getD_at hk] at h
  simpa using h
 rw [this]; rfl
theorem are_yes {l : List OpT} {k : Nat} (h : (l.take k).all isOpB = true) (hk : l.length ≤ k) : areB l = decide ((l.length : Int) ≤ 6) := by
 rw [List.take_of_length_le hk] at h
 unfold areB
 rw [h, Bool.true_and]
theorem are_step {l : List OpT} {k : Nat} (h : (l.take k).all isOpB = true) (hk : k < l.length) (h2 : isOpB (l.getD (k : Int).toNat default) = true) : (l.take (k + 1)).all isOpB = true := by
 rw [List.take_succ_eq_append_getElem hk, List.all_append, h]
 rw [getD_at hk] at h2
 simpa using h2
end Go.Proofs.YtjkpoekgnmgofaaGreat

namespace Go.Proofs.YtjkpoekgnmgofaaGreat
open Go.RowKit
open Go.Proofs
set_option linter.unusedVariables false
set_option linter.unusedSimpArgs false

theorem sEq_comm (a b : Str) : sEq a b = sEq b a := by unfold sEq; rw [Bool.eq_iff_iff, beq_iff_eq, beq_iff_eq]; exact ⟨Eq.symm, Eq.symm⟩
theorem eqDef_comm (a b : DefT) : eqDefB a b = eqDefB b a := by unfold eqDefB; rw [sEq_comm a.1, sEq_comm a.2]
theorem findI_ge {α : Type} {p : α → Bool} : ∀ (xs : List α) (i : Int), 0 ≤ i → xs.any p = true → i ≤ findI p xs i
 | [], _, _, h => by simp at h
 | x :: xs, i, hi, h => by
  rw [findI]
  split
  ·omega
  ·rename_i hp
   rw [List.any_cons] at h
   have hp' : p x = false := by simpa using hp
   rw [hp', Bool.false_or] at h
   have := findI_ge xs (i + 1) (by omega) h
   omega
theorem findI_nil {α : Type} {p : α → Bool} : ∀ (xs : List α) (i : Int), xs.any p = false → findI p xs i = -1
 | [], _, _ => rfl
 | x :: xs, i, h => by
  simp only [List.any_cons, Bool.or_eq_false_iff] at h
  rw [findI, if_neg (by rw [h.1]; simp)]
  exact findI_nil xs (i + 1) h.2
theorem findI_any {α : Type} {p : α → Bool} (xs : List α) : decide (0 ≤ findI p xs 0) = xs.any p := by
 cases h : xs.any p with
 | true => exact decide_eq_true (findI_ge xs 0 (by omega) h)
 | false => rw [findI_nil xs 0 h]; rfl
def stBad (d : DbT) (k : Nat) : Bool := !isSto (d.2.2.1.getD (k : Int).toNat default) || (decide ((0 : Int) < (k : Int)) && (sLt (d.2.2.1.getD (k : Int).toNat default).1 (d.2.2.1.getD ((k : Int) - 1).toNat default).1 || sEq (d.2.2.1.getD (k : Int).toNat default).1 (d.2.2.1.getD ((k : Int) - 1).toNat default).1))
def stBadS (d : DbT) (k : Nat) : Bool := !isSto (d.2.2.1.getD (k : Int).toNat default) || (decide ((0 : Int) < (k : Int)) && !sLt (d.2.2.1.getD ((k : Int) - 1).toNat default).1 (d.2.2.1.getD (k : Int).toNat default).1)
theorem stBadS_eq (d : DbT) (k : Nat) : stBadS d k = stBad d k := by unfold stBadS stBad; rw [sLe_eq]
@[reducible] def fndS (d : DbT) (n : Str) : Int := findI (hasName n) d.2.2.1 0
def faultIn (d : DbT) (x : DefT) : Bool := (ufRes x.2 (idxN x.2 (d.2.2.1.getD (fndS d x.1).toNat default).2.1 (d.2.2.1.getD (fndS d x.1).toNat default).2.1.length)).2.2
def unBad (d : DbT) (k : Nat) : Bool := ((decide (fndS d (d.2.2.2.getD (k : Int).toNat default).1 < 0) || !isName (d.2.2.2.getD (k : Int).toNat default).2) || (d.2.2.2.take (k : Int).toNat).any (eqDefB (d.2.2.2.getD (k : Int).toNat default))) || faultIn d (d.2.2.2.getD (k : Int).toNat default)
def dbHead (d : DbT) : Bool := ((isName d.1 && (decide (0 ≤ d.2.1) && decide (d.2.1 ≤ 1000))) && decide ((d.2.2.1.length : Int) ≤ 4)) && decide ((d.2.2.2.length : Int) ≤ 4)
def dbSt (d : DbT) : Bool := (List.range d.2.2.1.length).all (fun i => !stBad d i)
def dbUn (d : DbT) : Bool := (List.range d.2.2.2.length).all (fun i => !unBad d i)
def isDb (d : DbT) : Bool := dbHead d && (dbSt d && dbUn d)
theorem sto_w {s : StoreT} (h : isSto s = true) : wStore s ≤ 1000 * 1000 := by
 have h0 := h
 simp only [isSto, Bool.and_eq_true, List.all_eq_true, decide_eq_true_eq] at h
 obtain ⟨h1, ⟨h2, h3⟩, h4⟩ := h
 have h5 := name_size h2
 have h6 : ∀ x ∈ s.2.1, wItem x ≤ 70 := fun x hx => by
  obtain ⟨i, hi, rfl⟩ := List.mem_iff_getElem.1 hx
  have h7 := h1 i (List.mem_range.2 hi)
  unfold stoBad at h7
  rw [getD_at hi] at h7
  simp only [Bool.not_or, Bool.not_not, Bool.and_eq_true] at h7
  have h8 := (key_rng h7.1.1).2.2
  have h9 := h7.1.2
  have h10 := rec_len h9
  have h11 : wSum wField s.2.1[i].2 ≤ 8 * s.2.1[i].2.length := by
   have key : ∀ r : RecT, (∀ f ∈ r, f.1.size ≤ 8) → wSum wField r ≤ 8 * r.length := by
    intro r
    induction r with
    | nil => intro _; simp [wSum]
    | cons f r ih =>
     intro hf
     have k1 := ih (fun g hg => hf g (by simp [hg]))
     have k2 := hf f (by simp)
     have k3 : wField f = f.1.size := rfl
     simp only [wSum, List.map_cons, List.sum_cons, List.length_cons] at *
     omega
   refine key _ (fun f hf => ?_)
   obtain ⟨j, hj, rfl⟩ := List.mem_iff_getElem.1 hf
   have := (name_size (rec_fld h9 hj).1).2
   rwa [getD_at hj] at this
  have h12 : wItem s.2.1[i] = s.2.1[i].1.2.2.size + wRecord s.2.1[i].2 := rfl
  have h13 : wRecord s.2.1[i].2 = s.2.1[i].2.length + wSum wField s.2.1[i].2 := rfl
  omega
 have h7 : wSum wItem s.2.1 ≤ 70 * s.2.1.length := by
  have key : ∀ l : List ItemT, (∀ x ∈ l, wItem x ≤ 70) → wSum wItem l ≤ 70 * l.length := by
   intro l
   induction l with
   | nil => intro _; simp [wSum]
   | cons x l ih =>
    intro hx
    have k1 := ih (fun g hg => hx g (by simp [hg]))
    have k2 := hx x (by simp)
    simp only [wSum, List.map_cons, List.sum_cons, List.length_cons] at *
    omega
  exact key _ h6
 have h8 : wStore s = s.1.size + (s.2.1.length + wSum wItem s.2.1) := rfl
 omega
theorem db_sto {d : DbT} {i : Int} (h : dbSt d = true) (h0 : 0 ≤ i) (h1 : i < d.2.2.1.length) : isSto (d.2.2.1.getD i.toNat default) = true := by
 simp only [dbSt, List.all_eq_true] at h
 have h2 := h i.toNat (List.mem_range.2 (by omega))
 unfold stBad at h2
 rw [Int.toNat_natCast] at h2
 simp only [Bool.not_or, Bool.not_not, Bool.and_eq_true] at h2
 exact h2.1
theorem fndS_lt (d : DbT) (n : Str) : fndS d n < d.2.2.1.length := by
 rcases findI_lt (p := hasName n) d.2.2.1 0 (by omega) with h1 | h1
 ·unfold fndS; omega
 ·unfold fndS; omega
theorem isDb_head {d : DbT} (h : dbHead d = false) : isDb d = false := by rw [isDb, h]; rfl
theorem isDb_st {d : DbT} {k : Nat} (hk : k < d.2.2.1.length) (h : stBad d k = true) : isDb d = false := by
 have : dbSt d = false := rall_no hk (by rw [h]; rfl)
 rw [isDb, this]; simp
theorem isDb_un {d : DbT} {k : Nat} (hk : k < d.2.2.2.length) (h : unBad d k = true) : isDb d = false := by
 have : dbUn d = false := rall_no hk (by rw [h]; rfl)
 rw [isDb, this]; simp
theorem un_go {d : DbT} {k j : Nat} (hj : j = k) (h1 : (decide (findI (hasName (d.2.2.2.getD (k : Int).toNat default).1) d.2.2.1 0 < 0) || !isName (d.2.2.2.getD (k : Int).toNat default).2) = false)
  (h3 : (d.2.2.2.take j).any (eqDefB (d.2.2.2.getD (k : Int).toNat default)) = false) (h2 : faultIn d (d.2.2.2.getD (k : Int).toNat default) = false) : (!unBad d k) = true := by
 subst hj
 have h4 : (d.2.2.2.take ((j : Nat) : Int).toNat).any (eqDefB (d.2.2.2.getD (j : Int).toNat default)) = false := h3
 rw [unBad, h1, h4, h2]; rfl
theorem un_dup {d : DbT} {k j : Nat} (hj : j < k) (hk : k < d.2.2.2.length) (h : eqDefB (d.2.2.2.getD (j : Int).toNat default) (d.2.2.2.getD (k : Int).toNat default) = true) : unBad d k = true := by
 have h4 : (d.2.2.2.take ((k : Nat) : Int).toNat).any (eqDefB (d.2.2.2.getD (k : Int).toNat default)) = true := by
  refine any_yes (k := j) (d := default) (by rw [List.length_take, Int.toNat_natCast]; omega) ?_
  rw [take_getD (by omega), eqDef_comm]; exact h
 rw [unBad, h4]; simp
theorem isDb_yes {d : DbT} (h1 : dbSt d = true) (h2 : dbUn d = true) : isDb d = dbHead d := by rw [isDb, h1, h2]; simp

theorem ok_slices_Index_IndexDef {l : List DefT} {v : DefT}  : PFn Tryz.prog 86 [.one (.dv [] (defsD (l))), .agg [(.dv [] (.str (v.1))), (.dv [] (.str (v.2)))]] (.one (.dv [] (.int .i64 (findI (eqDefB v) l 0)))) := by
 refine ⟨fn_intro Tryz.func86 rfl Tryz.ntmps86 Tryz.results86 rfl (fun C => ?_)⟩
 refine ok_fact (x := .tmp 0) (ev_tmp rfl) fun f0 => ?_
 refine yF 1 0 rfl rfl fun f1_0 => ?_
 refine yF 1 1 rfl rfl fun f1_1 => ?_
 iterate 11 refine z ?_
 refine ok_loop (ι := Nat) (fun zz => ⟨[(0, .one (.dv [] (defsD (l)))), (3, .box 3 0), (7, .one (.dv [] (.int .i64 ((((l)).length : Int))))), (8, .one (.dv [] (.int .i64 ((zz : Int)))))], [(3, 78, [(.dv [] (.str (v.1))), (.dv [] (.str (v.2)))])], []⟩) (fun zz => zz ≤ l.length ∧ (l.take zz).any (eqDefB v) = false) (fun zz => l.length - zz) (0) ?_ (weak_sub ⟨rfl, rfl, rfl, rfl, trivial⟩ ⟨rfl, trivial⟩ trivial rfl) (fun zz hx => ?_)
 ·exact ⟨Nat.zero_le _, rfl⟩
 obtain ⟨k, rfl⟩ : ∃ v, v = zz := ⟨_, rfl⟩
 replace hx : k ≤ l.length ∧ (l.take k).any (eqDefB v) = false := hx
 obtain ⟨hk, hall⟩ := hx
 show Ok _ _ _ _ _ (⟨[(0, .one (.dv [] (defsD (l)))), (3, .box 3 0), (7, .one (.dv [] (.int .i64 ((((l)).length : Int))))), (8, .one (.dv [] (.int .i64 ((k : Int)))))], [(3, 78, [(.dv [] (.str (v.1))), (.dv [] (.str (v.2)))])], []⟩ : St)
 iterate 3 refine z ?_
 refine ok_seq ?_
 refine yQ rfl (fun c1 => ?_) fun c1 => ?_
 ·skip
  have d1 := of_decide_eq_true c1
  iterate 8 refine z ?_
  refine ok_seq ?_
  refine ok_regionD (oB := [3]) (oK := []) (by kernel_rfl) rfl rfl ?_
  refine zD 0 ?_
  refine zD 1 ?_
  refine zD 2 ?_
  refine zD 3 ?_
  refine zD 4 ?_
  refine d_take 5 rfl (by kernel_rfl) rfl rfl (pu_cmpA rfl (ev_tmp rfl) (ev_tmp rfl) rfl rfl Tryz.eqGuardType78 (eql_Def _ _ _ _)) rfl rfl rfl rfl ?_
  refine d_done (by kernel_rfl) ?_
  refine z ?_
  refine yQ rfl (fun c2 => ?_) fun c2 => ?_
  ·skip
   iterate 11 refine z ?_
   exact (findI_at (p := eqDefB v) (d := default) hall (by omega) c2).symm
  ·skip
   iterate 3 refine z ?_
   refine ok_region ?_
   iterate 3 refine z ?_
   refine ⟨k + 1, ?_, ?_, weak_sub ⟨rfl, rfl, rfl, rfl, trivial⟩ ⟨rfl, trivial⟩ trivial rfl⟩
   ·exact ⟨by omega, any_stepI (d := default) hall (by omega) c2⟩
   ·omega
 ·skip
  have d1 := of_decide_eq_false c1
  iterate 10 refine z ?_
  exact (findI_none (p := eqDefB v) hall (by omega)).symm
theorem ok_slices_Contains_IndexDef {l : List DefT} {v : DefT}  : PFn Tryz.prog 52 [.one (.dv [] (defsD (l))), .agg [(.dv [] (.str (v.1))), (.dv [] (.str (v.2)))]] (.one (.dv [] (.bool (l.any (eqDefB v))))) := by
 refine ⟨fn_intro Tryz.func52 rfl Tryz.ntmps52 Tryz.results52 rfl (fun C => ?_)⟩
 refine ok_fact (x := .tmp 0) (ev_tmp rfl) fun f0 => ?_
 refine yF 1 0 rfl rfl fun f1_0 => ?_
 refine yF 1 1 rfl rfl fun f1_1 => ?_
 iterate 7 refine z ?_
 refine zC Tryz.call86 ?_ (hf := ok_slices_Index_IndexDef (l := l) (v := v) )
 iterate 5 refine z ?_
 exact findI_any l
theorem ok_impl_IsDatabase {x : DbT}  : PFn Tryz.prog 30 [.agg [(.dv [] (.str (x.1))), (.dv [] (.int .i64 (x.2.1))), (.dv [] (storesD (x.2.2.1))), (.dv [] (defsD (x.2.2.2)))]] (.one (.dv [] (.bool (isDb x)))) := by
 refine ⟨fn_intro Tryz.func30 rfl Tryz.ntmps30 Tryz.results30 rfl (fun C => ?_)⟩
 refine yF 0 0 rfl rfl fun f0_0 => ?_
 refine yF 0 1 rfl rfl fun f0_1 => ?_
 refine yF 0 2 rfl rfl fun f0_2 => ?_
 refine yF 0 3 rfl rfl fun f0_3 => ?_
 iterate 8 refine z ?_
 refine zC Tryz.call50 ?_ (hf := ok_impl_IsName (s := x.1) )
 iterate 4 refine z ?_
 refine o_callG (gd_bool rfl rfl rfl rfl rfl) rfl rfl Tryz.call25 (ok_impl_InRange (n := x.2.1) (lo := 0) (hi := 1000) ) (fun hg => (as_cons (ev_opt rfl hg) (ag_one ac_dv) (as_cons (ev_int (inR_lit rfl)) (ag_one ac_dv) (as_cons (ev_int (inR_lit rfl)) (ag_one ac_dv) as_nil)))) rfl rfl ?_
 iterate 15 refine z ?_
 refine yQ rfl (fun c1 => ?_) fun c1 => ?_
 ·skip
  iterate 6 refine z ?_
  exact (isDb_head (by have h := c1; unfold dbHead; grind)).symm
 ·skip
  iterate 10 refine z ?_
  refine ok_loop (ι := Nat) (fun zz => ⟨[(1, .box 1 0), (34, .one (.dv [] (storesD (x.2.2.1)))), (35, .one (.dv [] (.int .i64 ((((x.2.2.1)).length : Int))))), (36, .one (.dv [] (.int .i64 ((zz : Int)))))], [(1, 27, [(.dv [] (.str (x.1))), (.dv [] (.int .i64 (x.2.1))), (.dv [] (storesD (x.2.2.1))), (.dv [] (defsD (x.2.2.2)))])], []⟩) (fun zz => zz ≤ x.2.2.1.length ∧ (List.range zz).all (fun i => !stBad x i) = true) (fun zz => x.2.2.1.length - zz) (0) ?_ (weak_sub ⟨rfl, rfl, rfl, rfl, trivial⟩ ⟨rfl, trivial⟩ trivial rfl) (fun zz hx => ?_)
  ·exact ⟨Nat.zero_le _, rfl⟩
  obtain ⟨k, rfl⟩ : ∃ v, v = zz := ⟨_, rfl⟩
  replace hx : k ≤ x.2.2.1.length ∧ (List.range k).all (fun i => !stBad x i) = true := hx
  obtain ⟨hk, hall⟩ := hx
  show Ok _ _ _ _ _ (⟨[(1, .box 1 0), (34, .one (.dv [] (storesD (x.2.2.1)))), (35, .one (.dv [] (.int .i64 ((((x.2.2.1)).length : Int))))), (36, .one (.dv [] (.int .i64 ((k : Int)))))], [(1, 27, [(.dv [] (.str (x.1))), (.dv [] (.int .i64 (x.2.1))), (.dv [] (storesD (x.2.2.1))), (.dv [] (defsD (x.2.2.2)))])], []⟩ : St)
  iterate 3 refine z ?_
  refine ok_seq ?_
  refine yQ rfl (fun c2 => ?_) fun c2 => ?_
  ·skip
   have d2 := of_decide_eq_true c2
   iterate 12 refine z ?_
   refine ok_seq ?_
   refine ok_regionD (oB := [1, 4]) (oK := []) (by kernel_rfl) rfl rfl ?_
   refine zD 0 ?_
   refine d_call 1 rfl (by kernel_rfl) rfl rfl rfl Tryz.call51 (ok_impl_IsStore (s := (((x.2.2.1)).getD ((k : Int)).toNat default)) ) (as_cons (ev_tmp rfl) (ag_agg (ag_cons ac_dv (ag_cons ac_dv (ag_cons ac_dv ag_nil)))) as_nil) rfl rfl rfl rfl ?_
   refine zD 2 ?_
   refine zD 3 ?_
   refine zDG 4 ?_
   refine zDG 5 ?_
   refine zDG 6 ?_
   refine zDG 7 ?_
   refine zDG 8 ?_
   refine zDG 9 ?_
   refine zDG 10 ?_
   refine zDG 11 ?_
   refine zDG 12 ?_
   refine zDG 13 ?_
   refine zDG 14 ?_
   refine zDG 15 ?_
   refine zDG 16 ?_
   refine zDG 17 ?_
   refine zD 18 ?_
   refine d_done (by kernel_rfl) ?_
   refine z ?_
   refine yQ rfl (fun c3 => ?_) fun c3 => ?_
   ·skip
    iterate 10 refine z ?_
    exact (isDb_st (k := k) (by omega) c3).symm
   ·skip
    iterate 3 refine z ?_
    refine ok_region ?_
    iterate 3 refine z ?_
    refine ⟨k + 1, ?_, ?_, weak_sub ⟨rfl, rfl, rfl, rfl, trivial⟩ ⟨rfl, trivial⟩ trivial rfl⟩
    ·exact ⟨by omega, rall_succ hall (by have h : stBad x k = false := c3; simpa using h)⟩
    ·omega
  ·skip
   have d2 := of_decide_eq_false c2
   obtain rfl : k = x.2.2.1.length := by omega
   have hst : dbSt x = true := hall
   clear hall hk
   iterate 13 refine z ?_
   refine ok_loop (ι := Nat) (fun zz => ⟨[(1, .box 1 0), (62, .one (.dv [] (defsD (x.2.2.2)))), (63, .one (.dv [] (.int .i64 ((((x.2.2.2)).length : Int))))), (64, .one (.dv [] (.int .i64 ((zz : Int)))))], [(1, 27, [(.dv [] (.str (x.1))), (.dv [] (.int .i64 (x.2.1))), (.dv [] (storesD (x.2.2.1))), (.dv [] (defsD (x.2.2.2)))])], []⟩) (fun zz => zz ≤ x.2.2.2.length ∧ (List.range zz).all (fun i => !unBad x i) = true) (fun zz => x.2.2.2.length - zz) (0) ?_ (weak_sub ⟨rfl, rfl, rfl, rfl, trivial⟩ ⟨rfl, trivial⟩ trivial rfl) (fun zz hx => ?_)
   ·exact ⟨Nat.zero_le _, rfl⟩
   obtain ⟨k, rfl⟩ : ∃ v, v = zz := ⟨_, rfl⟩
   replace hx : k ≤ x.2.2.2.length ∧ (List.range k).all (fun i => !unBad x i) = true := hx
   obtain ⟨hk2, hall2⟩ := hx
   show Ok _ _ _ _ _ (⟨[(1, .box 1 0), (62, .one (.dv [] (defsD (x.2.2.2)))), (63, .one (.dv [] (.int .i64 ((((x.2.2.2)).length : Int))))), (64, .one (.dv [] (.int .i64 ((k : Int)))))], [(1, 27, [(.dv [] (.str (x.1))), (.dv [] (.int .i64 (x.2.1))), (.dv [] (storesD (x.2.2.1))), (.dv [] (defsD (x.2.2.2)))])], []⟩ : St)
   iterate 3 refine z ?_
   refine ok_seq ?_
   refine yQ rfl (fun c4 => ?_) fun c4 => ?_
   ·skip
    have d4 := of_decide_eq_true c4
    iterate 16 refine z ?_
    refine zC Tryz.call21 ?_ (hf := ok_impl_FindStore (x := x) (n := (x.2.2.2.getD (k : Int).toNat default).1))
    iterate 2 refine z ?_
    refine ok_seq ?_
    refine ok_seq ?_
    refine ok_regionD (oB := [1, 6]) (oK := []) (by kernel_rfl) rfl rfl ?_
    refine zD 0 ?_
    refine zD 1 ?_
    refine zD 2 ?_
    refine zDG 3 ?_
    refine zDG 4 ?_
    refine d_callG 5 rfl (by kernel_rfl) (gd_bool rfl rfl rfl rfl rfl) rfl rfl Tryz.call50 (ok_impl_IsName (s := (((x.2.2.2)).getD ((k : Int)).toNat default).2) ) (fun hg => (as_cons (ev_opt rfl hg) (ag_one ac_dv) as_nil)) rfl rfl ?_
    refine zDG 6 ?_
    refine zD 7 ?_
    refine zD 8 ?_
    refine zDG 9 ?_
    refine zDG 10 ?_
    refine zDG 11 ?_
    refine d_takeG 12 rfl (by kernel_rfl) (gd_bool rfl rfl rfl rfl rfl) rfl (fun hg => pu_sliceH hT rfl rfl rfl (ev_opt rfl hg) (ev_opt rfl hg) (fun _ => rfl) (by first | omega | (simp only [Bool.and_eq_true, Bool.or_eq_true, Bool.or_eq_false_iff, Bool.and_eq_false_iff, Bool.not_eq_true', Bool.not_eq_false', beq_iff_eq, decide_eq_true_eq, decide_eq_false_iff_not] at hg; omega) | (have hh := of_decide_eq_true (beq_tt hg); omega) | (have hh := of_decide_eq_true (beq_tt (and_r hg)); omega)) (by first | omega | (simp only [Bool.and_eq_true, Bool.or_eq_true, Bool.or_eq_false_iff, Bool.and_eq_false_iff, Bool.not_eq_true', Bool.not_eq_false', beq_iff_eq, decide_eq_true_eq, decide_eq_false_iff_not] at hg; omega) | (have hh := of_decide_eq_true (beq_tt hg); omega) | (have hh := of_decide_eq_true (beq_tt (and_r hg)); omega))) rfl rfl rfl rfl ?_
    refine zDG 13 ?_
    refine d_callG 14 rfl (by kernel_rfl) (gd_bool rfl rfl rfl rfl rfl) rfl rfl Tryz.call52 (ok_slices_Contains_IndexDef (l := ((x.2.2.2)).take ((k : Int)).toNat) (v := (((x.2.2.2)).getD ((k : Int)).toNat default)) ) (fun hg => (as_cons (ev_opt rfl hg) (ag_one ac_dv) (as_cons (ev_opt rfl hg) (ag_agg (ag_cons ac_dv (ag_cons ac_dv ag_nil))) as_nil))) rfl rfl ?_
    refine zD 15 ?_
    refine d_done (by kernel_rfl) ?_
    refine z ?_
    refine yQ rfl (fun c5 => ?_) fun c5 => ?_
    ·skip
     iterate 11 refine z ?_
     exact (isDb_un (k := k) (by omega) (by have h3 : ((decide (findI (hasName (x.2.2.2.getD (k : Int).toNat default).1) x.2.2.1 0 < 0) || !isName (x.2.2.2.getD (k : Int).toNat default).2) || (x.2.2.2.take (k : Int).toNat).any (eqDefB (x.2.2.2.getD (k : Int).toNat default))) = true := c5; rw [unBad, h3]; rfl)).symm
    ·skip
     have hfl : findI (hasName (x.2.2.2.getD (k : Int).toNat default).1) x.2.2.1 0 < x.2.2.1.length := fndS_lt x (x.2.2.2.getD (k : Int).toNat default).1
     have hf0 : 0 ≤ findI (hasName (x.2.2.2.getD (k : Int).toNat default).1) x.2.2.1 0 := by have h := c5; simp only [Bool.or_eq_false_iff, decide_eq_false_iff_not] at h; omega
     have hsw := sto_w (db_sto hst hf0 hfl)
     iterate 2 refine z ?_
     refine ok_seq ?_
     refine ok_regionD (oB := [1, 6]) (oK := []) (by kernel_rfl) rfl rfl ?_
     refine zD 0 ?_
     refine zD 1 ?_
     refine zD 2 ?_
     refine zD 3 ?_
     refine zD 4 ?_
     refine zD 5 ?_
     refine zD 6 ?_
     refine d_vars (A := [(12, 8, 63, _), (13, 9, 63, _)]) hT ⟨⟨_, _, rfl⟩, rfl, ⟨⟨_, _, rfl⟩, rfl, trivial⟩⟩ ?_
     refine a_call 7 rfl (by kernel_rfl) rfl rfl rfl (vok hT ⟨⟨_, _, rfl⟩, rfl, ⟨⟨_, _, rfl⟩, rfl, trivial⟩⟩ (by kernel_rfl) (by kernel_rfl)) (vok hT ⟨⟨_, _, rfl⟩, rfl, ⟨⟨_, _, rfl⟩, rfl, trivial⟩⟩ (by kernel_rfl) (by kernel_rfl)) rfl Tryz.call53 (ok_impl_UniqueFault (x := (x.2.2.1.getD (findI (hasName (x.2.2.2.getD (k : Int).toNat default).1) x.2.2.1 0).toNat default)) (f := (x.2.2.2.getD (k : Int).toNat default).2) (by omega)) (as_cons (ev_tmp rfl) (ag_agg (ag_cons ac_dv (ag_cons ac_dv (ag_cons ac_dv ag_nil)))) (as_cons (ev_tmp rfl) (ag_one ac_dv) as_nil)) rfl rfl rfl rfl ?_
     refine a_take 8 rfl (by kernel_rfl) rfl rfl rfl (vok hT ⟨⟨_, _, rfl⟩, rfl, ⟨⟨_, _, rfl⟩, rfl, trivial⟩⟩ (by kernel_rfl) (by kernel_rfl)) (vok hT ⟨⟨_, _, rfl⟩, rfl, ⟨⟨_, _, rfl⟩, rfl, trivial⟩⟩ (by kernel_rfl) (by kernel_rfl)) (pu_move (.inl rfl) (ev_tmp rfl)) rfl rfl rfl rfl ?_
     refine a_takeX 9 rfl (by kernel_rfl) rfl rfl rfl rfl (vok hT ⟨⟨_, _, rfl⟩, rfl, ⟨⟨_, _, rfl⟩, rfl, trivial⟩⟩ (by kernel_rfl) (by kernel_rfl)) (vok hT ⟨⟨_, _, rfl⟩, rfl, ⟨⟨_, _, rfl⟩, rfl, trivial⟩⟩ (by kernel_rfl) (by kernel_rfl)) (pu_extractA rfl (ev_tmp rfl) rfl) rfl rfl ?_
     refine a_takeX 10 rfl (by kernel_rfl) rfl rfl rfl rfl (vok hT ⟨⟨_, _, rfl⟩, rfl, ⟨⟨_, _, rfl⟩, rfl, trivial⟩⟩ (by kernel_rfl) (by kernel_rfl)) (vok hT ⟨⟨_, _, rfl⟩, rfl, ⟨⟨_, _, rfl⟩, rfl, trivial⟩⟩ (by kernel_rfl) (by kernel_rfl)) (pu_extractA rfl (ev_tmp rfl) rfl) rfl rfl ?_
     refine a_takeX 11 rfl (by kernel_rfl) rfl rfl rfl rfl (vok hT ⟨⟨_, _, rfl⟩, rfl, ⟨⟨_, _, rfl⟩, rfl, trivial⟩⟩ (by kernel_rfl) (by kernel_rfl)) (vok hT ⟨⟨_, _, rfl⟩, rfl, ⟨⟨_, _, rfl⟩, rfl, trivial⟩⟩ (by kernel_rfl) (by kernel_rfl)) (pu_extract1 rfl (ev_tmp rfl) rfl) rfl rfl ?_
     refine a_exit1 (vok hT ⟨⟨_, _, rfl⟩, rfl, ⟨⟨_, _, rfl⟩, rfl, trivial⟩⟩ (by kernel_rfl) (by kernel_rfl)) rfl rfl (by kernel_rfl) ?_
     dsimp only [addT, addB]
     refine d_chain [14, 15, 16] rfl rfl (by kernel_rfl) ?_
     iterate 7 refine z ?_
     refine yQ rfl (fun c6 => ?_) fun c6 => ?_
     ·skip
      iterate 10 refine z ?_
      exact (isDb_un (k := k) (by omega) (by have h2 : faultIn x (x.2.2.2.getD (k : Int).toNat default) = true := c6; rw [unBad, h2]; simp)).symm
     ·skip
      iterate 3 refine z ?_
      refine ok_region ?_
      iterate 3 refine z ?_
      refine ⟨k + 1, ?_, ?_, weak_sub ⟨rfl, rfl, rfl, rfl, trivial⟩ ⟨rfl, trivial⟩ trivial rfl⟩
      ·exact ⟨by omega, rall_succ hall2 (by have h1 := c5; have h2 : faultIn x (x.2.2.2.getD (k : Int).toNat default) = false := c6; show (!unBad x k) = true; rw [unBad, h2]; have h3 : ((decide (findI (hasName (x.2.2.2.getD (k : Int).toNat default).1) x.2.2.1 0 < 0) || !isName (x.2.2.2.getD (k : Int).toNat default).2) || (x.2.2.2.take (k : Int).toNat).any (eqDefB (x.2.2.2.getD (k : Int).toNat default))) = false := h1; rw [h3]; rfl)⟩
      ·omega
   ·skip
    have d4 := of_decide_eq_false c4
    iterate 10 refine z ?_
    obtain rfl : k = x.2.2.2.length := by omega
    rw [isDb_yes hst hall2]; have h := c1; unfold dbHead; grind
theorem ok_spec_IsDatabase {x : DbT}  : PFn Tryz.prog 33 [.agg [(.dv [] (.str (x.1))), (.dv [] (.int .i64 (x.2.1))), (.dv [] (storesD (x.2.2.1))), (.dv [] (defsD (x.2.2.2)))]] (.one (.dv [] (.bool (isDb x)))) := by
 refine ⟨fn_intro Tryz.func33 rfl Tryz.ntmps33 Tryz.results33 rfl (fun C => ?_)⟩
 refine yF 0 0 rfl rfl fun f0_0 => ?_
 refine yF 0 1 rfl rfl fun f0_1 => ?_
 refine yF 0 2 rfl rfl fun f0_2 => ?_
 refine yF 0 3 rfl rfl fun f0_3 => ?_
 iterate 9 refine z ?_
 refine ok_loop (ι := Nat) (fun zz => ⟨[(1, .box 1 0), (3, .one (.dv [] (.int .i64 ((zz : Int)))))], [(1, 27, [(.dv [] (.str (x.1))), (.dv [] (.int .i64 (x.2.1))), (.dv [] (storesD (x.2.2.1))), (.dv [] (defsD (x.2.2.2)))])], []⟩) (fun zz => zz ≤ x.2.2.1.length ∧ (List.range zz).all (fun i => !stBad x i) = true) (fun zz => x.2.2.1.length - zz) (0) ?_ (weak_sub ⟨rfl, rfl, trivial⟩ ⟨rfl, trivial⟩ trivial rfl) (fun zz hx => ?_)
 ·exact ⟨Nat.zero_le _, rfl⟩
 obtain ⟨k, rfl⟩ : ∃ v, v = zz := ⟨_, rfl⟩
 replace hx : k ≤ x.2.2.1.length ∧ (List.range k).all (fun i => !stBad x i) = true := hx
 obtain ⟨hk, hall⟩ := hx
 show Ok _ _ _ _ _ (⟨[(1, .box 1 0), (3, .one (.dv [] (.int .i64 ((k : Int)))))], [(1, 27, [(.dv [] (.str (x.1))), (.dv [] (.int .i64 (x.2.1))), (.dv [] (storesD (x.2.2.1))), (.dv [] (defsD (x.2.2.2)))])], []⟩ : St)
 iterate 8 refine z ?_
 refine yQ rfl (fun c1 => ?_) fun c1 => ?_
 ·skip
  have d1 := of_decide_eq_true c1
  iterate 4 refine z ?_
  refine ok_seq ?_
  refine ok_regionD (oB := [1]) (oK := []) (by kernel_rfl) rfl rfl ?_
  refine zD 0 ?_
  refine zD 1 ?_
  refine zD 2 ?_
  refine zD 3 ?_
  refine zD 4 ?_
  refine d_call 5 rfl (by kernel_rfl) rfl rfl rfl Tryz.call55 (ok_spec_IsStore (s := (((x.2.2.1)).getD ((k : Int)).toNat default)) ) (as_cons (ev_tmp rfl) (ag_agg (ag_cons ac_dv (ag_cons ac_dv (ag_cons ac_dv ag_nil)))) as_nil) rfl rfl rfl rfl ?_
  refine zD 6 ?_
  refine zD 7 ?_
  refine zDG 8 ?_
  refine zDG 9 ?_
  refine zDG 10 ?_
  refine zDG 11 ?_
  refine zDG 12 ?_
  refine zDG 13 ?_
  refine zDG 14 ?_
  refine zDG 15 ?_
  refine zDG 16 ?_
  refine zDG 17 ?_
  refine zDG 18 ?_
  refine zDG 19 ?_
  refine zDG 20 ?_
  refine zDG 21 ?_
  refine zDG 22 ?_
  refine zDG 23 ?_
  refine zDG 24 ?_
  refine zDG 25 ?_
  refine zD 26 ?_
  refine d_done (by kernel_rfl) ?_
  refine z ?_
  refine yQ rfl (fun c2 => ?_) fun c2 => ?_
  ·skip
   iterate 10 refine z ?_
   exact (isDb_st (k := k) (by omega) (by rw [← stBadS_eq]; exact c2)).symm
  ·skip
   iterate 3 refine z ?_
   refine ok_region ?_
   iterate 4 refine z ?_
   refine ⟨k + 1, ?_, ?_, weak_sub ⟨rfl, rfl, trivial⟩ ⟨rfl, trivial⟩ trivial rfl⟩
   ·exact ⟨by omega, rall_succ hall (by have h : stBadS x k = false := c2; rw [stBadS_eq] at h; simpa using h)⟩
   ·omega
 ·skip
  have d1 := of_decide_eq_false c1
  obtain rfl : k = x.2.2.1.length := by omega
  have hst : dbSt x = true := hall
  clear hall hk
  iterate 10 refine z ?_
  refine ok_loop (ι := Nat) (fun zz => ⟨[(1, .box 1 0), (4, .one (.dv [] (.int .i64 ((zz : Int)))))], [(1, 27, [(.dv [] (.str (x.1))), (.dv [] (.int .i64 (x.2.1))), (.dv [] (storesD (x.2.2.1))), (.dv [] (defsD (x.2.2.2)))])], []⟩) (fun zz => zz ≤ x.2.2.2.length ∧ (List.range zz).all (fun i => !unBad x i) = true) (fun zz => x.2.2.2.length - zz) (0) ?_ (weak_sub ⟨rfl, rfl, trivial⟩ ⟨rfl, trivial⟩ trivial rfl) (fun zz hx => ?_)
  ·exact ⟨Nat.zero_le _, rfl⟩
  obtain ⟨k, rfl⟩ : ∃ v, v = zz := ⟨_, rfl⟩
  replace hx : k ≤ x.2.2.2.length ∧ (List.range k).all (fun i => !unBad x i) = true := hx
  obtain ⟨hk2, hall2⟩ := hx
  show Ok _ _ _ _ _ (⟨[(1, .box 1 0), (4, .one (.dv [] (.int .i64 ((k : Int)))))], [(1, 27, [(.dv [] (.str (x.1))), (.dv [] (.int .i64 (x.2.1))), (.dv [] (storesD (x.2.2.1))), (.dv [] (defsD (x.2.2.2)))])], []⟩ : St)
  iterate 8 refine z ?_
  refine yQ rfl (fun c3 => ?_) fun c3 => ?_
  ·skip
   have d3 := of_decide_eq_true c3
   iterate 4 refine z ?_
   refine ok_seq ?_
   refine ok_regionD (oB := [1]) (oK := []) (by kernel_rfl) rfl rfl ?_
   refine zD 0 ?_
   refine zD 1 ?_
   refine zD 2 ?_
   refine zD 3 ?_
   refine zD 4 ?_
   refine zD 5 ?_
   refine zD 6 ?_
   refine d_call 7 rfl (by kernel_rfl) rfl rfl rfl Tryz.call56 (ok_spec_FindStore (x := x) (n := (x.2.2.2.getD (k : Int).toNat default).1)) (as_cons (ev_tmp rfl) (ag_agg (ag_cons ac_dv (ag_cons ac_dv (ag_cons ac_dv (ag_cons ac_dv ag_nil))))) (as_cons (ev_tmp rfl) (ag_one ac_dv) as_nil)) rfl rfl rfl rfl ?_
   refine zD 8 ?_
   refine d_done (by kernel_rfl) ?_
   iterate 12 refine z ?_
   refine o_callG (gd_bool rfl rfl rfl rfl rfl) rfl rfl Tryz.call57 (ok_spec_IsName (s := (((x.2.2.2)).getD ((k : Int)).toNat default).2) ) (fun hg => (as_cons (ev_opt rfl hg) (ag_one ac_dv) as_nil)) rfl rfl ?_
   iterate 3 refine z ?_
   refine yQ rfl (fun c4 => ?_) fun c4 => ?_
   ·skip
    iterate 11 refine z ?_
    exact (isDb_un (k := k) (by omega) (by have h3 : (decide (findI (hasName (x.2.2.2.getD (k : Int).toNat default).1) x.2.2.1 0 < 0) || !isName (x.2.2.2.getD (k : Int).toNat default).2) = true := c4; rw [unBad, h3]; rfl)).symm
   ·skip
    have hfl : findI (hasName (x.2.2.2.getD (k : Int).toNat default).1) x.2.2.1 0 < x.2.2.1.length := fndS_lt x (x.2.2.2.getD (k : Int).toNat default).1
    have hf0 : 0 ≤ findI (hasName (x.2.2.2.getD (k : Int).toNat default).1) x.2.2.1 0 := by have h := c4; simp only [Bool.or_eq_false_iff, decide_eq_false_iff_not] at h; omega
    have hsw := sto_w (db_sto hst hf0 hfl)
    iterate 2 refine z ?_
    refine ok_seq ?_
    refine ok_seq ?_
    refine ok_regionD (oB := [1]) (oK := []) (by kernel_rfl) rfl rfl ?_
    refine zD 0 ?_
    refine zD 1 ?_
    refine zD 2 ?_
    refine zD 3 ?_
    refine zD 4 ?_
    refine zD 5 ?_
    refine zD 6 ?_
    refine zD 7 ?_
    refine zD 8 ?_
    refine zD 9 ?_
    refine zD 10 ?_
    refine d_vars (A := [(16, 6, 63, _), (17, 7, 63, _)]) hT ⟨⟨_, _, rfl⟩, rfl, ⟨⟨_, _, rfl⟩, rfl, trivial⟩⟩ ?_
    refine a_call 11 rfl (by kernel_rfl) rfl rfl rfl (vok hT ⟨⟨_, _, rfl⟩, rfl, ⟨⟨_, _, rfl⟩, rfl, trivial⟩⟩ (by kernel_rfl) (by kernel_rfl)) (vok hT ⟨⟨_, _, rfl⟩, rfl, ⟨⟨_, _, rfl⟩, rfl, trivial⟩⟩ (by kernel_rfl) (by kernel_rfl)) rfl Tryz.call58 (ok_spec_UniqueFault (x := (x.2.2.1.getD (findI (hasName (x.2.2.2.getD (k : Int).toNat default).1) x.2.2.1 0).toNat default)) (f := (x.2.2.2.getD (k : Int).toNat default).2) (by omega)) (as_cons (ev_tmp rfl) (ag_agg (ag_cons ac_dv (ag_cons ac_dv (ag_cons ac_dv ag_nil)))) (as_cons (ev_tmp rfl) (ag_one ac_dv) as_nil)) rfl rfl rfl rfl ?_
    refine a_take 12 rfl (by kernel_rfl) rfl rfl rfl (vok hT ⟨⟨_, _, rfl⟩, rfl, ⟨⟨_, _, rfl⟩, rfl, trivial⟩⟩ (by kernel_rfl) (by kernel_rfl)) (vok hT ⟨⟨_, _, rfl⟩, rfl, ⟨⟨_, _, rfl⟩, rfl, trivial⟩⟩ (by kernel_rfl) (by kernel_rfl)) (pu_move (.inl rfl) (ev_tmp rfl)) rfl rfl rfl rfl ?_
    refine a_takeX 13 rfl (by kernel_rfl) rfl rfl rfl rfl (vok hT ⟨⟨_, _, rfl⟩, rfl, ⟨⟨_, _, rfl⟩, rfl, trivial⟩⟩ (by kernel_rfl) (by kernel_rfl)) (vok hT ⟨⟨_, _, rfl⟩, rfl, ⟨⟨_, _, rfl⟩, rfl, trivial⟩⟩ (by kernel_rfl) (by kernel_rfl)) (pu_extractA rfl (ev_tmp rfl) rfl) rfl rfl ?_
    refine a_takeX 14 rfl (by kernel_rfl) rfl rfl rfl rfl (vok hT ⟨⟨_, _, rfl⟩, rfl, ⟨⟨_, _, rfl⟩, rfl, trivial⟩⟩ (by kernel_rfl) (by kernel_rfl)) (vok hT ⟨⟨_, _, rfl⟩, rfl, ⟨⟨_, _, rfl⟩, rfl, trivial⟩⟩ (by kernel_rfl) (by kernel_rfl)) (pu_extractA rfl (ev_tmp rfl) rfl) rfl rfl ?_
    refine a_takeX 15 rfl (by kernel_rfl) rfl rfl rfl rfl (vok hT ⟨⟨_, _, rfl⟩, rfl, ⟨⟨_, _, rfl⟩, rfl, trivial⟩⟩ (by kernel_rfl) (by kernel_rfl)) (vok hT ⟨⟨_, _, rfl⟩, rfl, ⟨⟨_, _, rfl⟩, rfl, trivial⟩⟩ (by kernel_rfl) (by kernel_rfl)) (pu_extract1 rfl (ev_tmp rfl) rfl) rfl rfl ?_
    refine a_exit1 (vok hT ⟨⟨_, _, rfl⟩, rfl, ⟨⟨_, _, rfl⟩, rfl, trivial⟩⟩ (by kernel_rfl) (by kernel_rfl)) rfl rfl (by kernel_rfl) ?_
    dsimp only [addT, addB]
    refine d_chain [18, 19, 20] rfl rfl (by kernel_rfl) ?_
    iterate 7 refine z ?_
    refine yQ rfl (fun c5 => ?_) fun c5 => ?_
    ·skip
     iterate 11 refine z ?_
     exact (isDb_un (k := k) (by omega) (by have h2 : faultIn x (x.2.2.2.getD (k : Int).toNat default) = true := c5; rw [unBad, h2]; simp)).symm
    ·skip
     iterate 6 refine z ?_
     refine ok_loop (ι := Nat) (fun zz => ⟨[(1, .box 1 0), (4, .one (.dv [] (.int .i64 ((k : Int))))), (9, .one (.dv [] (.int .i64 ((zz : Int)))))], [(1, 27, [(.dv [] (.str (x.1))), (.dv [] (.int .i64 (x.2.1))), (.dv [] (storesD (x.2.2.1))), (.dv [] (defsD (x.2.2.2)))])], []⟩) (fun zz => zz ≤ k ∧ (x.2.2.2.take zz).any (eqDefB (x.2.2.2.getD (k : Int).toNat default)) = false) (fun zz => k - zz) (0) ?_ (weak_sub ⟨rfl, rfl, rfl, trivial⟩ ⟨rfl, trivial⟩ trivial rfl) (fun zz hx => ?_)
     ·exact ⟨Nat.zero_le _, rfl⟩
     obtain ⟨j, rfl⟩ : ∃ v, v = zz := ⟨_, rfl⟩
     replace hx : j ≤ k ∧ (x.2.2.2.take j).any (eqDefB (x.2.2.2.getD (k : Int).toNat default)) = false := hx
     obtain ⟨hj, hall3⟩ := hx
     show Ok _ _ _ _ _ (⟨[(1, .box 1 0), (4, .one (.dv [] (.int .i64 ((k : Int))))), (9, .one (.dv [] (.int .i64 ((j : Int)))))], [(1, 27, [(.dv [] (.str (x.1))), (.dv [] (.int .i64 (x.2.1))), (.dv [] (storesD (x.2.2.1))), (.dv [] (defsD (x.2.2.2)))])], []⟩ : St)
     iterate 6 refine z ?_
     refine yQ rfl (fun c6 => ?_) fun c6 => ?_
     ·skip
      have d6 := of_decide_eq_true c6
      iterate 4 refine z ?_
      refine ok_seq ?_
      refine ok_regionD (oB := [1]) (oK := []) (by kernel_rfl) rfl rfl ?_
      refine zD 0 ?_
      refine zD 1 ?_
      refine zD 2 ?_
      refine zD 3 ?_
      refine zD 4 ?_
      refine zD 5 ?_
      refine zD 6 ?_
      refine zD 7 ?_
      refine zD 8 ?_
      refine zD 9 ?_
      refine d_take 10 rfl (by kernel_rfl) rfl rfl (pu_cmpA rfl (ev_tmp rfl) (ev_tmp rfl) rfl rfl Tryz.eqGuardType78 (eql_Def _ _ _ _)) rfl rfl rfl rfl ?_
      refine d_done (by kernel_rfl) ?_
      refine z ?_
      refine yQ rfl (fun c7 => ?_) fun c7 => ?_
      ·skip
       iterate 14 refine z ?_
       exact (isDb_un (k := k) (by omega) (un_dup (j := j) (by omega) (by omega) c7)).symm
      ·skip
       iterate 3 refine z ?_
       refine ok_region ?_
       iterate 4 refine z ?_
       refine ⟨j + 1, ?_, ?_, weak_sub ⟨rfl, rfl, rfl, trivial⟩ ⟨rfl, trivial⟩ trivial rfl⟩
       ·exact ⟨by omega, any_step (d := default) hall3 (by omega) (by rw [eqDef_comm]; exact c7)⟩
       ·omega
     ·skip
      have d6 := of_decide_eq_false c6
      iterate 6 refine z ?_
      refine ok_region ?_
      iterate 4 refine z ?_
      refine ⟨k + 1, ?_, ?_, weak_sub ⟨rfl, rfl, trivial⟩ ⟨rfl, trivial⟩ trivial rfl⟩
      ·exact ⟨by omega, rall_succ hall2 (un_go (j := j) (by omega) c4 hall3 c5)⟩
      ·omega
  ·skip
   have d3 := of_decide_eq_false c3
   iterate 8 refine z ?_
   refine zC Tryz.call57 ?_ (hf := ok_spec_IsName (s := x.1) )
   iterate 3 refine z ?_
   refine o_callG (gd_bool rfl rfl rfl rfl rfl) rfl rfl Tryz.call59 (ok_spec_l1In (n := x.2.1) (lo := 0) (hi := 1000) ) (fun hg => (as_cons (ev_opt rfl hg) (ag_one ac_dv) (as_cons (ev_int (inR_lit rfl)) (ag_one ac_dv) (as_cons (ev_int (inR_lit rfl)) (ag_one ac_dv) as_nil)))) rfl rfl ?_
   iterate 17 refine z ?_
   obtain rfl : k = x.2.2.2.length := by omega
   rw [isDb_yes hst hall2]; rfl
end Go.Proofs.YtjkpoekgnmgofaaGreat

