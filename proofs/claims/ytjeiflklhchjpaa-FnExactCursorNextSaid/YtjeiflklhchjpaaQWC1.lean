/-
  Contracts of the program's functions for the statements WalkStore, CursorNext, by the rules of the logic. Conditions: none but those in the theorems.
-/
import Derived.Below
import Derived.Deep.Slices
import Derived.OpenShut
import Derived.ProofKit
import Derived.Test.YtjeiflklhchjpaaU2
set_option maxHeartbeats 4000000
set_option maxRecDepth 100000
namespace Go.Proofs.Ytjeiflklhchjpaa
open Go.RowKit
open Go.Proofs
set_option linter.unusedVariables false
set_option linter.unusedSimpArgs false
theorem ok_impl_InRange {n lo hi : Int}  : PFn Try.prog 56 [.one (.dv [] (.int .i64 (n))), .one (.dv [] (.int .i64 (lo))), .one (.dv [] (.int .i64 (hi)))] (.one (.dv [] (.bool (decide (lo ≤ n) && decide (n ≤ hi))))) := by
 refine ⟨fn_intro Try.func56 rfl Try.ntmps56 Try.results56 rfl (fun C => ?_)⟩
 refine ok_fact (x := .tmp 0) (ev_tmp rfl) fun f0 => ?_
 refine ok_fact (x := .tmp 1) (ev_tmp rfl) fun f1 => ?_
 refine ok_fact (x := .tmp 2) (ev_tmp rfl) fun f2 => ?_
 iterate 16 refine z ?_
 rfl
theorem ok_spec_l1In {n lo hi : Int}  : PFn Try.prog 54 [.one (.dv [] (.int .i64 (n))), .one (.dv [] (.int .i64 (lo))), .one (.dv [] (.int .i64 (hi)))] (.one (.dv [] (.bool (decide (lo ≤ n) && decide (n ≤ hi))))) := by
 refine ⟨fn_intro Try.func54 rfl Try.ntmps54 Try.results54 rfl (fun C => ?_)⟩
 refine ok_fact (x := .tmp 0) (ev_tmp rfl) fun f0 => ?_
 refine ok_fact (x := .tmp 1) (ev_tmp rfl) fun f1 => ?_
 refine ok_fact (x := .tmp 2) (ev_tmp rfl) fun f2 => ?_
 iterate 16 refine z ?_
 rfl

theorem take_all {α : Type} {p : α → Bool} {l : List α} {k : Nat} {d : α} (h : (l.take k).all p = true) (hk : k < l.length) (hp : p (l.getD k d) = true) : (l.take (k + 1)).all p = true := by
 rw [List.take_succ_eq_append_getElem hk, List.all_append, h]
 simp only [List.all_cons, List.all_nil, Bool.and_true, Bool.true_and]
 simpa [List.getD, List.getElem?_eq_getElem hk] using hp
theorem all_no {α : Type} {p : α → Bool} {l : List α} {k : Nat} {d : α} (hk : k < l.length) (hp : p (l.getD k d) = false) : l.all p = false := by
 rw [List.all_eq_false]
 refine ⟨l[k], List.getElem_mem hk, ?_⟩
 simpa [List.getD, List.getElem?_eq_getElem hk] using hp
theorem all_yes {α : Type} {p : α → Bool} {l : List α} {k : Nat} (h : (l.take k).all p = true) (hk : l.length ≤ k) : l.all p = true := by rwa [List.take_of_length_le hk] at h
theorem size_len (s : ByteArray) : s.data.toList.length = s.size := rfl
def kch (b : UInt8) : Bool := (decide ((97 : Int) ≤ (b.toNat : Int)) && decide ((b.toNat : Int) ≤ 122)) || (decide ((48 : Int) ≤ (b.toNat : Int)) && decide ((b.toNat : Int) ≤ 57))
def kText (s : Str) : Bool := s.data.toList.all kch && decide ((s.size : Int) ≤ 12)
theorem kch_spec (b : UInt8) : ((decide ((b.toNat : Int) < 97) || decide ((122 : Int) < (b.toNat : Int))) && (decide ((b.toNat : Int) < 48) || decide ((57 : Int) < (b.toNat : Int)))) = !kch b := by
 unfold kch
 generalize (b.toNat : Int) = z
 by_cases h1 : z < 97 <;> by_cases h2 : 122 < z <;> by_cases h3 : z < 48 <;> by_cases h4 : 57 < z <;> simp [h1, h2, h3, h4] <;> omega

theorem ok_impl_isKeyText {s : Str}  : PFn Try.prog 57 [.one (.dv [] (.str (s)))] (.one (.dv [] (.bool (kText s)))) := by
 refine ⟨fn_intro Try.func57 rfl Try.ntmps57 Try.results57 rfl (fun C => ?_)⟩
 refine ok_fact (x := .tmp 0) (ev_tmp rfl) fun f0 => ?_
 iterate 8 refine z ?_
 refine ok_loop (ι := Nat) (fun zz => ⟨[(0, .one (.dv [] (.str (s)))), (3, .one (.dv [] (.int .i64 ((zz : Int)))))], [], []⟩) (fun zz => zz ≤ s.size ∧ (s.data.toList.take zz).all kch = true) (fun zz => s.size - zz) (0) ?_ (weak_sub ⟨rfl, rfl, trivial⟩ trivial trivial rfl) (fun zz hx => ?_)
 ·exact ⟨Nat.zero_le _, rfl⟩
 obtain ⟨k, rfl⟩ : ∃ v, v = zz := ⟨_, rfl⟩
 replace hx : k ≤ s.size ∧ (s.data.toList.take k).all kch = true := hx
 obtain ⟨hk, hall⟩ := hx
 show Ok _ _ _ _ _ (⟨[(0, .one (.dv [] (.str (s)))), (3, .one (.dv [] (.int .i64 ((k : Int)))))], [], []⟩ : St)
 iterate 7 refine z ?_
 refine yQ rfl (fun c1 => ?_) fun c1 => ?_
 ·skip
  have d1 := of_decide_eq_true c1
  iterate 29 refine z ?_
  refine yQ rfl (fun c2 => ?_) fun c2 => ?_
  ·skip
   iterate 10 refine z ?_
   rw [kText, all_no (k := k) (d := 0) (by rw [size_len]; omega) (by have h : (!kch (s.data.toList.getD k 0)) = true := c2; simpa using h)]; rfl
  ·skip
   iterate 3 refine z ?_
   refine ok_region ?_
   iterate 4 refine z ?_
   refine ⟨k + 1, ?_, ?_, weak_sub ⟨rfl, rfl, trivial⟩ trivial trivial rfl⟩
   ·exact ⟨by omega, take_all (d := 0) hall (by rw [size_len]; omega) (by have h : (!kch (s.data.toList.getD k 0)) = false := c2; simpa using h)⟩
   ·omega
 ·skip
  have d1 := of_decide_eq_false c1
  iterate 13 refine z ?_
  rw [kText, all_yes hall (by rw [size_len]; omega)]; rfl
theorem ok_spec_l4Text {s : Str}  : PFn Try.prog 55 [.one (.dv [] (.str (s)))] (.one (.dv [] (.bool (kText s)))) := by
 refine ⟨fn_intro Try.func55 rfl Try.ntmps55 Try.results55 rfl (fun C => ?_)⟩
 refine ok_fact (x := .tmp 0) (ev_tmp rfl) fun f0 => ?_
 iterate 8 refine z ?_
 refine ok_loop (ι := Nat) (fun zz => ⟨[(0, .one (.dv [] (.str (s)))), (3, .one (.dv [] (.int .i64 ((zz : Int)))))], [], []⟩) (fun zz => zz ≤ s.size ∧ (s.data.toList.take zz).all kch = true) (fun zz => s.size - zz) (0) ?_ (weak_sub ⟨rfl, rfl, trivial⟩ trivial trivial rfl) (fun zz hx => ?_)
 ·exact ⟨Nat.zero_le _, rfl⟩
 obtain ⟨k, rfl⟩ : ∃ v, v = zz := ⟨_, rfl⟩
 replace hx : k ≤ s.size ∧ (s.data.toList.take k).all kch = true := hx
 obtain ⟨hk, hall⟩ := hx
 show Ok _ _ _ _ _ (⟨[(0, .one (.dv [] (.str (s)))), (3, .one (.dv [] (.int .i64 ((k : Int)))))], [], []⟩ : St)
 iterate 7 refine z ?_
 refine yQ rfl (fun c1 => ?_) fun c1 => ?_
 ·skip
  have d1 := of_decide_eq_true c1
  iterate 28 refine z ?_
  refine yQ rfl (fun c2 => ?_) fun c2 => ?_
  ·skip
   iterate 10 refine z ?_
   rw [kText, all_no (k := k) (d := 0) (by rw [size_len]; omega) (by have h := (kch_spec (s.data.toList.getD k 0)).symm.trans c2; simpa using h)]; rfl
  ·skip
   iterate 3 refine z ?_
   refine ok_region ?_
   iterate 4 refine z ?_
   refine ⟨k + 1, ?_, ?_, weak_sub ⟨rfl, rfl, trivial⟩ trivial trivial rfl⟩
   ·exact ⟨by omega, take_all (d := 0) hall (by rw [size_len]; omega) (by have h := (kch_spec (s.data.toList.getD k 0)).symm.trans c2; simpa using h)⟩
   ·omega
 ·skip
  have d1 := of_decide_eq_false c1
  iterate 13 refine z ?_
  rw [kText, all_yes hall (by rw [size_len]; omega)]; rfl
end Go.Proofs.Ytjeiflklhchjpaa

namespace Go.Proofs.Ytjeiflklhchjpaa
open Go.RowKit
open Go.Proofs
set_option linter.unusedVariables false
set_option linter.unusedSimpArgs false

def isKey (k : KeyT) : Bool := (decide (1 ≤ k.1) && decide (k.1 ≤ 3)) && (decide (-1000000000000 ≤ k.2.1) && decide (k.2.1 ≤ 1000000000000)) && kText k.2.2 && !(decide (k.1 = 2) && !decide (k.2.1 = 0)) && !(decide (k.1 = 1) && !sEq k.2.2 (ByteArray.mk #[]))
theorem ok_impl_IsKey {k : KeyT}  : PFn Try.prog 47 [.agg [(.dv [] (.int .i64 (k.1))), (.dv [] (.int .i64 (k.2.1))), (.dv [] (.str (k.2.2)))]] (.one (.dv [] (.bool (isKey k)))) := by
 refine ⟨fn_intro Try.func47 rfl Try.ntmps47 Try.results47 rfl (fun C => ?_)⟩
 refine yF 0 0 rfl rfl fun f0_0 => ?_
 refine yF 0 1 rfl rfl fun f0_1 => ?_
 refine yF 0 2 rfl rfl fun f0_2 => ?_
 iterate 8 refine z ?_
 refine zC Try.call56 ?_ (hf := ok_impl_InRange)
 iterate 4 refine z ?_
 refine o_callG (gd_bool rfl rfl rfl rfl rfl) rfl rfl Try.call56 ok_impl_InRange (fun hg => (as_cons (ev_opt rfl hg) (ag_one ac_dv) (as_cons (ev_int (inR_lit rfl)) (ag_one ac_dv) (as_cons (ev_int (inR_lit rfl)) (ag_one ac_dv) as_nil)))) rfl rfl ?_
 iterate 5 refine z ?_
 refine o_callG (gd_bool rfl rfl rfl rfl rfl) rfl rfl Try.call57 ok_impl_isKeyText (fun hg => (as_cons (ev_opt rfl hg) (ag_one ac_dv) as_nil)) rfl rfl ?_
 iterate 3 refine z ?_
 refine yQ rfl (fun c1 => ?_) fun c1 => ?_
 ·skip
  iterate 6 refine z ?_
  grind [isKey]
 ·skip
  iterate 27 refine z ?_
  grind [isKey]
theorem ok_spec_IsKey {k : KeyT}  : PFn Try.prog 44 [.agg [(.dv [] (.int .i64 (k.1))), (.dv [] (.int .i64 (k.2.1))), (.dv [] (.str (k.2.2)))]] (.one (.dv [] (.bool (isKey k)))) := by
 refine ⟨fn_intro Try.func44 rfl Try.ntmps44 Try.results44 rfl (fun C => ?_)⟩
 refine yF 0 0 rfl rfl fun f0_0 => ?_
 refine yF 0 1 rfl rfl fun f0_1 => ?_
 refine yF 0 2 rfl rfl fun f0_2 => ?_
 iterate 7 refine z ?_
 refine zC Try.call54 ?_ (hf := ok_spec_l1In)
 iterate 3 refine z ?_
 refine o_callG (gd_bool rfl rfl rfl rfl rfl) rfl rfl Try.call54 ok_spec_l1In (fun hg => (as_cons (ev_opt rfl hg) (ag_one ac_dv) (as_cons (ev_int (inR_lit rfl)) (ag_one ac_dv) (as_cons (ev_int (inR_lit rfl)) (ag_one ac_dv) as_nil)))) rfl rfl ?_
 iterate 14 refine z ?_
 refine o_callG (gd_bool rfl rfl rfl rfl rfl) rfl rfl Try.call55 ok_spec_l4Text (fun hg => (as_cons (ev_opt rfl hg) (ag_one ac_dv) as_nil)) rfl rfl ?_
 iterate 15 refine z ?_
 grind [isKey]
end Go.Proofs.Ytjeiflklhchjpaa

namespace Go.Proofs.Ytjeiflklhchjpaa
open Go.RowKit
open Go.Proofs
set_option linter.unusedVariables false
set_option linter.unusedSimpArgs false

theorem bl_total : ∀ (x y : List UInt8), (Op.bytesLess x y || (x == y)) = !Op.bytesLess y x
 | [], [] => rfl
 | [], _ :: _ => rfl
 | _ :: _, [] => rfl
 | a :: x, b :: y => by
  have ih := bl_total x y
  simp only [Op.bytesLess]
  rcases Nat.lt_trichotomy a.toNat b.toNat with h | h | h
  ·have h1 : a < b := h
   have h2 : ¬ b < a := by intro h'; have : b.toNat < a.toNat := h'; omega
   have h3 : ¬ a = b := by rintro rfl; omega
   have h4 : ¬ b = a := fun e => h3 e.symm
   simp [h1, h2, h3, h4]
  ·have e : a = b := UInt8.toNat_inj.1 h
   subst e
   simpa using ih
  ·have h1 : b < a := h
   have h2 : ¬ a < b := by intro h'; have : a.toNat < b.toNat := h'; omega
   have h3 : ¬ a = b := by rintro rfl; omega
   have h4 : ¬ b = a := fun e => h3 e.symm
   simp [h1, h2, h3, h4]
theorem sLe_eq (a b : Str) : (sLt a b || sEq a b) = !sLt b a := bl_total _ _
end Go.Proofs.Ytjeiflklhchjpaa

namespace Go.Proofs.Ytjeiflklhchjpaa
open Go.RowKit
open Go.Proofs
set_option linter.unusedVariables false
set_option linter.unusedSimpArgs false

def szR (left : Int) (w : Nat) : Int := if (w : Int) ≤ left then left - (w : Int) else -1
def wSum {α : Type} (w : α → Nat) (xs : List α) : Nat := (xs.map w).sum
def wList {α : Type} (w : α → Nat) (xs : List α) : Nat := xs.length + wSum w xs
theorem wSum_app {α : Type} (w : α → Nat) (xs ys : List α) : wSum w (xs ++ ys) = wSum w xs + wSum w ys := by simp [wSum]
theorem wSum_le {α : Type} (w : α → Nat) (xs : List α) (k : Nat) : wSum w (xs.take k) ≤ wSum w xs := by
 have h := wSum_app w (xs.take k) (xs.drop k)
 rw [List.take_append_drop] at h
 omega
theorem wSum_succ {α : Type} [Inhabited α] (w : α → Nat) (xs : List α) (k : Nat) (h : k < xs.length) : wSum w (xs.take (k + 1)) = wSum w (xs.take k) + w (xs.getD (k : Int).toNat default) ∧ wSum w (xs.take (k + 1)) ≤ wSum w xs := by
 refine ⟨?_, wSum_le w xs _⟩
 have : xs.take (k + 1) = xs.take k ++ [xs.getD k default] := by
  rw [List.take_add_one, List.getElem?_eq_getElem h]; simp [List.getD, List.getElem?_eq_getElem h]
 rw [this, wSum_app]
 simp [wSum]
theorem wSum_all {α : Type} (w : α → Nat) (xs : List α) (k : Nat) (h : xs.length ≤ k) : wSum w (xs.take k) = wSum w xs := by rw [List.take_of_length_le h]
theorem wList_len {α : Type} (w : α → Nat) (xs : List α) : xs.length ≤ wList w xs := by unfold wList; omega
theorem szR_nn {l : Int} {w : Nat} (h : ¬ szR l w < 0) : (w : Int) ≤ l ∧ szR l w = l - w := by unfold szR at h ⊢; split at h <;> simp_all
theorem szR_n {l : Int} {w : Nat} (h : szR l w < 0) (h0 : 0 ≤ l := by omega) : l < (w : Int) := by unfold szR at h; split at h <;> omega
theorem szR_cases (l : Int) (w : Nat) : ((w : Int) ≤ l ∧ szR l w = l - w) ∨ (l < w ∧ szR l w = -1) := by unfold szR; split <;> omega
def wKey (x : KeyT) : Nat := (x.2.2).size
def wField (x : FieldT) : Nat := (x.1).size
def wRecord (x : RecT) : Nat := wList wField (x)
def wItem (x : ItemT) : Nat := wKey (x.1) + wRecord (x.2)
def wStore (x : StoreT) : Nat := (x.1).size + wList wItem (x.2.1)
def wIndexDef (x : DefT) : Nat := (x.1).size + (x.2).size
def wDatabase (x : DbT) : Nat := (x.1).size + wList wStore (x.2.2.1) + wList wIndexDef (x.2.2.2)
def wOp (x : OpT) : Nat := (x.2.1).size + wKey (x.2.2.1) + wRecord (x.2.2.2.1) + (x.2.2.2.2).size
def wTx (x : TxT) : Nat := wList wOp (x.2.1) + wList wStore (x.2.2.2.2)
def wTxQueue (x : List TxT) : Nat := wList wTx (x)
theorem ok_laws_szKey {x : KeyT} {left : Int} (h0 : 0 ≤ left) (h1 : left ≤ 1048576) : PFn Try.prog 24 [.agg [(.dv [] (.int .i64 (x.1))), (.dv [] (.int .i64 (x.2.1))), (.dv [] (.str (x.2.2)))], .one (.dv [] (.int .i64 (left)))] (.one (.dv [] (.int .i64 (szR (left) (wKey x))))) := by
 refine ⟨fn_intro Try.func24 rfl Try.ntmps24 Try.results24 rfl (fun C => ?_)⟩
 refine yF 0 0 rfl rfl fun f0_0 => ?_
 refine yF 0 1 rfl rfl fun f0_1 => ?_
 refine yF 0 2 rfl rfl fun f0_2 => ?_
 refine ok_fact (x := .tmp 1) (ev_tmp rfl) fun f1 => ?_
 iterate 17 refine z ?_
 refine yQ rfl (fun c1 => ?_) fun c1 => ?_
 ·skip
  have d1 := of_decide_eq_true c1
  first | have q1 := szR_n d1 | skip
  iterate 6 refine z ?_
  have hh := szR_cases left (wKey x); simp only [wKey] at hh ⊢ <;> omega
 ·skip
  have d1 := of_decide_eq_false c1
  first | have q1 := szR_nn d1 | skip
  iterate 8 refine z ?_
  have hh := szR_cases left (wKey x); simp only [wKey] at hh ⊢ <;> omega
theorem ok_laws_szField {x : FieldT} {left : Int} (h0 : 0 ≤ left) (h1 : left ≤ 1048576) : PFn Try.prog 63 [.agg [(.dv [] (.str (x.1))), (.dv [] (.int .i64 (x.2)))], .one (.dv [] (.int .i64 (left)))] (.one (.dv [] (.int .i64 (szR (left) (wField x))))) := by
 refine ⟨fn_intro Try.func63 rfl Try.ntmps63 Try.results63 rfl (fun C => ?_)⟩
 refine yF 0 0 rfl rfl fun f0_0 => ?_
 refine yF 0 1 rfl rfl fun f0_1 => ?_
 refine ok_fact (x := .tmp 1) (ev_tmp rfl) fun f1 => ?_
 iterate 17 refine z ?_
 refine yQ rfl (fun c1 => ?_) fun c1 => ?_
 ·skip
  have d1 := of_decide_eq_true c1
  first | have q1 := szR_n d1 | skip
  iterate 6 refine z ?_
  have hh := szR_cases left (wField x); simp only [wField] at hh ⊢ <;> omega
 ·skip
  have d1 := of_decide_eq_false c1
  first | have q1 := szR_nn d1 | skip
  iterate 8 refine z ?_
  have hh := szR_cases left (wField x); simp only [wField] at hh ⊢ <;> omega
theorem ok_laws_szFieldS {x : List (FieldT)} {left : Int} (h0 : 0 ≤ left) (h1 : left ≤ 1048576) : PFn Try.prog 60 [.one (.dv [] (fieldsD (x))), .one (.dv [] (.int .i64 (left)))] (.one (.dv [] (.int .i64 (szR (left) (wList wField x))))) := by
 refine ⟨fn_intro Try.func60 rfl Try.ntmps60 Try.results60 rfl (fun C => ?_)⟩
 refine ok_fact (x := .tmp 0) (ev_tmp rfl) fun f0 => ?_
 refine ok_fact (x := .tmp 1) (ev_tmp rfl) fun f1 => ?_
 iterate 15 refine z ?_
 refine yQ rfl (fun c1 => ?_) fun c1 => ?_
 ·skip
  have d1 := of_decide_eq_true c1
  first | have q1 := szR_n d1 | skip
  iterate 6 refine z ?_
  have hh := szR_cases left (wList wField x); simp only [wList] at hh ⊢ <;> omega
 ·skip
  have d1 := of_decide_eq_false c1
  first | have q1 := szR_nn d1 | skip
  iterate 7 refine z ?_
  refine ok_loop (ι := Nat × Int) (fun zz => ⟨[(0, .one (.dv [] (fieldsD (x)))), (1, .one (.dv [] (.int .i64 (zz.2)))), (5, .one (.dv [] (.int .i64 ((zz.1 : Int)))))], [], []⟩) (fun zz => zz.1 ≤ x.length ∧ 0 ≤ zz.2 ∧ zz.2 + (wSum wField (x.take zz.1) : Int) = left - (x.length : Int)) (fun zz => x.length - zz.1) ((0, left - (x.length : Int))) ?_ (weak_sub ⟨rfl, rfl, rfl, trivial⟩ trivial trivial rfl) (fun zz hx => ?_)
  ·exact ⟨Nat.zero_le _, by omega, by simp [wSum]⟩
  obtain ⟨k, l⟩ := zz
  replace hx : k ≤ x.length ∧ 0 ≤ l ∧ l + (wSum wField (x.take k) : Int) = left - (x.length : Int) := hx
  obtain ⟨hk, hl, he⟩ := hx
  have hw := fun h => wSum_succ wField x k h
  show Ok _ _ _ _ _ (⟨[(0, .one (.dv [] (fieldsD (x)))), (1, .one (.dv [] (.int .i64 (l)))), (5, .one (.dv [] (.int .i64 ((k : Int)))))], [], []⟩ : St)
  iterate 7 refine z ?_
  refine yQ rfl (fun c2 => ?_) fun c2 => ?_
  ·skip
   have d2 := of_decide_eq_true c2
   first | have q2 := szR_n d2 | skip
   iterate 10 refine z ?_
   refine zC Try.call63 ?_ (hf := ok_laws_szField (by omega) (by omega))
   iterate 6 refine z ?_
   refine yQ rfl (fun c3 => ?_) fun c3 => ?_
   ·skip
    have d3 := of_decide_eq_true c3
    first | have q3 := szR_n d3 | skip
    iterate 10 refine z ?_
    have hw' := hw (by omega); have hh := szR_cases left (wList wField x); simp only [wList] at hh ⊢ <;> omega
   ·skip
    have d3 := of_decide_eq_false c3
    first | have q3 := szR_nn d3 | skip
    iterate 3 refine z ?_
    refine ok_region ?_
    iterate 4 refine z ?_
    refine ⟨(k + 1, szR l (wField (x.getD (k : Int).toNat default))), ?_, ?_, weak_sub ⟨rfl, rfl, rfl, trivial⟩ trivial trivial rfl⟩
    ·have hw' := hw (by omega)
     dsimp only
     exact ⟨by omega, by omega, by omega⟩
    ·omega
  ·skip
   have d2 := of_decide_eq_false c2
   first | have q2 := szR_nn d2 | skip
   iterate 11 refine z ?_
   have hw' := wSum_all wField x k (by omega); have hh := szR_cases left (wList wField x); simp only [wList] at hh ⊢ <;> omega
theorem ok_laws_szRecord {x : RecT} {left : Int} (h0 : 0 ≤ left) (h1 : left ≤ 1048576) : PFn Try.prog 52 [.agg [(.dv [] (fieldsD (x)))], .one (.dv [] (.int .i64 (left)))] (.one (.dv [] (.int .i64 (szR (left) (wRecord x))))) := by
 refine ⟨fn_intro Try.func52 rfl Try.ntmps52 Try.results52 rfl (fun C => ?_)⟩
 refine yF 0 0 rfl rfl fun f0_0 => ?_
 refine ok_fact (x := .tmp 1) (ev_tmp rfl) fun f1 => ?_
 iterate 8 refine z ?_
 refine zC Try.call60 ?_ (hf := ok_laws_szFieldS (by omega) (by omega))
 iterate 7 refine z ?_
 refine yQ rfl (fun c1 => ?_) fun c1 => ?_
 ·skip
  have d1 := of_decide_eq_true c1
  first | have q1 := szR_n d1 | skip
  iterate 6 refine z ?_
  have hh := szR_cases left (wRecord x); simp only [wRecord] at hh ⊢ <;> omega
 ·skip
  have d1 := of_decide_eq_false c1
  first | have q1 := szR_nn d1 | skip
  iterate 8 refine z ?_
  have hh := szR_cases left (wRecord x); simp only [wRecord] at hh ⊢ <;> omega
theorem ok_laws_toKey {x : KeyT}  : PFn Try.prog 27 [.agg [(.dv [] (.int .i64 (x.1))), (.dv [] (.int .i64 (x.2.1))), (.dv [] (.str (x.2.2)))]] (.agg [(.dv [] (.int .i64 (x.1))), (.dv [] (.int .i64 (x.2.1))), (.dv [] (.str (x.2.2)))]) := by
 refine ⟨fn_intro Try.func27 rfl Try.ntmps27 Try.results27 rfl (fun C => ?_)⟩
 refine yF 0 0 rfl rfl fun f0_0 => ?_
 refine yF 0 1 rfl rfl fun f0_1 => ?_
 refine yF 0 2 rfl rfl fun f0_2 => ?_
 iterate 30 refine z ?_
 refine fin1 (res_cell hT rfl rfl rfl rfl) ?_
 rfl
theorem ok_laws_toField {x : FieldT}  : PFn Try.prog 64 [.agg [(.dv [] (.str (x.1))), (.dv [] (.int .i64 (x.2)))]] (.agg [(.dv [] (.str (x.1))), (.dv [] (.int .i64 (x.2)))]) := by
 refine ⟨fn_intro Try.func64 rfl Try.ntmps64 Try.results64 rfl (fun C => ?_)⟩
 refine yF 0 0 rfl rfl fun f0_0 => ?_
 refine yF 0 1 rfl rfl fun f0_1 => ?_
 iterate 24 refine z ?_
 refine fin1 (res_cell hT rfl rfl rfl rfl) ?_
 rfl
theorem ok_laws_toFieldS {x : List (FieldT)} (hb : wList wField x ≤ 1048576) : KFn Try.prog 61 [.one (.dv [] (fieldsD (x)))] (.one (.key 7)) [(7, some (kcOf false (fieldsD (x))))] := by
 refine ⟨fn_intro Try.func61 rfl Try.ntmps61 Try.results61 rfl (fun C => ?_)⟩
 refine ok_fact (x := .tmp 0) (ev_tmp rfl) fun f0 => ?_
 iterate 6 refine z ?_
 refine o_make (k := 7) (n := ((x)).length) (zd := [.str (ByteArray.empty), .int .i64 (0)]) (cs := fillD eField [.str (ByteArray.empty), .int .i64 (0)] x 0) hT rfl rfl rfl rfl rfl rfl (ev_tmp rfl) (ev_tmp rfl) rfl rfl rfl (by have := wList_len wField x; omega) rfl rfl fillD_zero ?_
 iterate 7 refine z ?_
 refine ok_loop (ι := Nat) (fun zz => ⟨[(0, .one (.dv [] (fieldsD (x)))), (3, .one (.key 7)), (4, .one (.dv [] (.int .i64 ((zz : Int)))))], [], [(7, some (kcOf false (.sl 83 2 ((x).length) (fillD eField [.str (ByteArray.empty), .int .i64 (0)] x zz))))]⟩) (fun zz => zz ≤ x.length) (fun zz => x.length - zz) (0) ?_ (weak_sub ⟨rfl, rfl, rfl, trivial⟩ trivial ⟨rfl, trivial⟩ rfl) (fun zz hx => ?_)
 ·exact Nat.zero_le _
 obtain ⟨k, rfl⟩ : ∃ v, v = zz := ⟨_, rfl⟩
 replace hx : k ≤ x.length := hx
 have hw := fun h => wSum_succ wField x k h
 have hw2 := wSum_le wField x (k + 1)
 have hw3 : wList wField x = x.length + wSum wField x := rfl
 show Ok _ _ _ _ _ (⟨[(0, .one (.dv [] (fieldsD (x)))), (3, .one (.key 7)), (4, .one (.dv [] (.int .i64 ((k : Int)))))], [], [(7, some (kcOf false (.sl 83 2 ((x).length) (fillD eField [.str (ByteArray.empty), .int .i64 (0)] x k))))]⟩ : St)
 iterate 7 refine z ?_
 refine yQ rfl (fun c1 => ?_) fun c1 => ?_
 ·skip
  have d1 := of_decide_eq_true c1
  iterate 4 refine z ?_
  refine ok_region ?_
  iterate 6 refine z ?_
  refine zC Try.call64 ?_ (hf := ok_laws_toField)
  refine yO rfl rfl (pu_indexK (i := k) hT rfl rfl rfl (ev_tmp rfl) rfl (ev_tmp rfl) rfl (by show _ < ((x).length); omega)) rfl ?_
  refine o_storeE (js := []) (cs := fillD eField [.str (ByteArray.empty), .int .i64 (0)] x (k + 1)) hT rfl rfl rfl rfl (ev_tmp rfl) (ev_tmp rfl) rfl rfl rfl rfl (ow_cons' (ow_dv rfl) (ow_cons' (ow_dv rfl) ow_nil rfl) rfl) (by decide) (by decide) rfl (by show _ ≤ List.length (fillD eField [.str (ByteArray.empty), .int .i64 (0)] x k); rw [fillD_len (sz := 2) (fun _ => rfl) rfl]; omega) (fillD_succ (sz := 2) (fun _ => rfl) rfl (by omega) rfl) ?_
  simp only [killT, killB, SV.kill, CV.kill, kk, Nat.reduceBEq]
  refine ops_nil ?_
  iterate 2 refine z ?_
  refine ok_region ?_
  iterate 4 refine z ?_
  refine ⟨k + 1, ?_, ?_, weak_sub ⟨rfl, rfl, rfl, trivial⟩ trivial ⟨rfl, trivial⟩ rfl⟩
  ·omega
  ·omega
 ·skip
  have d1 := of_decide_eq_false c1
  iterate 9 refine z ?_
  refine ok_weak (σ' := ⟨[(2, .one (.key 7))], [], [(7, some (kcOf false (fieldsD (x))))]⟩) (weak_sub ⟨rfl, trivial⟩ trivial ⟨(congrArg (fun cs => some (some (KC.mk false 83 2 x.length cs))) (fillD_all (by omega))), trivial⟩ rfl) ?_
  refine z ?_
  refine fin1 (res_tmp rfl) ?_
  exact ⟨rfl, rfl⟩
theorem ok_laws_toRecord {x : RecT} (hb : wRecord x ≤ 1048576) : KFn Try.prog 53 [.agg [(.dv [] (fieldsD (x)))]] (.agg [(.key 6007)]) [(6007, some (kcOf false (fieldsD (x))))] := by
 refine ⟨fn_intro Try.func53 rfl Try.ntmps53 Try.results53 rfl (fun C => ?_)⟩
 refine yF 0 0 rfl rfl fun f0_0 => ?_
 iterate 10 refine z ?_
 refine zK 6000 Try.call61 ?_ (hf := ok_laws_toFieldS (by first | omega | (simp only [wKey, wField, wRecord, wItem, wStore, wIndexDef, wDatabase, wOp, wTx, wTxQueue] at hb ⊢; omega) | (have hq := hw (by omega); omega)))
 iterate 7 refine z ?_
 refine ok_weak (σ' := ⟨[(2, .box 2 0)], [(2, 51, [(.key 6007)])], [(6007, some (kcOf false (fieldsD (x))))]⟩) (weak_sub ⟨rfl, trivial⟩ ⟨rfl, trivial⟩ ⟨rfl, trivial⟩ rfl) ?_
 refine z ?_
 refine fin1 (res_cell hT rfl rfl rfl rfl) ?_
 exact ⟨rfl, rfl⟩
theorem ok_laws_eqKey {x : KeyT}  : PFn Try.prog 38 [.agg [(.dv [] (.int .i64 (x.1))), (.dv [] (.int .i64 (x.2.1))), (.dv [] (.str (x.2.2)))], .agg [(.dv [] (.int .i64 (x.1))), (.dv [] (.int .i64 (x.2.1))), (.dv [] (.str (x.2.2)))]] (.one (.dv [] (.bool (true)))) := by
 refine ⟨fn_intro Try.func38 rfl Try.ntmps38 Try.results38 rfl (fun C => ?_)⟩
 refine yF 0 0 rfl rfl fun f0_0 => ?_
 refine yF 0 1 rfl rfl fun f0_1 => ?_
 refine yF 0 2 rfl rfl fun f0_2 => ?_
 refine yF 1 0 rfl rfl fun f1_0 => ?_
 refine yF 1 1 rfl rfl fun f1_1 => ?_
 refine yF 1 2 rfl rfl fun f1_2 => ?_
 iterate 13 refine z ?_
 refine yQ rfl (fun c1 => ?_) fun c1 => ?_
 ·skip
  have d1 := nd_t c1
  iterate 6 refine z ?_
  first | rfl | (exfalso; simp_all [sEq])
 ·skip
  have d1 := nd_f c1
  iterate 10 refine z ?_
  refine yQ rfl (fun c2 => ?_) fun c2 => ?_
  ·skip
   have d2 := nd_t c2
   iterate 6 refine z ?_
   first | rfl | (exfalso; simp_all [sEq])
  ·skip
   have d2 := nd_f c2
   iterate 10 refine z ?_
   refine yQ rfl (fun c3 => ?_) fun c3 => ?_
   ·skip
    iterate 6 refine z ?_
    first | rfl | (exfalso; simp_all [sEq])
   ·skip
    iterate 7 refine z ?_
    first | rfl | (exfalso; simp_all [sEq])
theorem ok_laws_eqField {x : FieldT}  : PFn Try.prog 59 [.agg [(.dv [] (.str (x.1))), (.dv [] (.int .i64 (x.2)))], .agg [(.dv [] (.str (x.1))), (.dv [] (.int .i64 (x.2)))]] (.one (.dv [] (.bool (true)))) := by
 refine ⟨fn_intro Try.func59 rfl Try.ntmps59 Try.results59 rfl (fun C => ?_)⟩
 refine yF 0 0 rfl rfl fun f0_0 => ?_
 refine yF 0 1 rfl rfl fun f0_1 => ?_
 refine yF 1 0 rfl rfl fun f1_0 => ?_
 refine yF 1 1 rfl rfl fun f1_1 => ?_
 iterate 13 refine z ?_
 refine yQ rfl (fun c1 => ?_) fun c1 => ?_
 ·skip
  iterate 6 refine z ?_
  first | rfl | (exfalso; simp_all [sEq])
 ·skip
  iterate 10 refine z ?_
  refine yQ rfl (fun c2 => ?_) fun c2 => ?_
  ·skip
   have d2 := nd_t c2
   iterate 6 refine z ?_
   first | rfl | (exfalso; simp_all [sEq])
  ·skip
   have d2 := nd_f c2
   iterate 7 refine z ?_
   first | rfl | (exfalso; simp_all [sEq])
theorem ok_laws_eqFieldS {x : List (FieldT)}  : PFn Try.prog 51 [.one (.dv [] (fieldsD (x))), .one (.dv [] (fieldsD (x)))] (.one (.dv [] (.bool (true)))) := by
 refine ⟨fn_intro Try.func51 rfl Try.ntmps51 Try.results51 rfl (fun C => ?_)⟩
 refine ok_fact (x := .tmp 0) (ev_tmp rfl) fun f0 => ?_
 refine ok_fact (x := .tmp 1) (ev_tmp rfl) fun f1 => ?_
 iterate 11 refine z ?_
 refine yQ rfl (fun c1 => ?_) fun c1 => ?_
 ·skip
  have d1 := nd_t c1
  iterate 6 refine z ?_
  first | rfl | (exfalso; simp_all [sEq])
 ·skip
  have d1 := nd_f c1
  iterate 7 refine z ?_
  refine ok_loop (ι := Nat) (fun zz => ⟨[(0, .one (.dv [] (fieldsD (x)))), (1, .one (.dv [] (fieldsD (x)))), (5, .one (.dv [] (.int .i64 ((zz : Int)))))], [], []⟩) (fun zz => zz ≤ x.length) (fun zz => x.length - zz) (0) ?_ (weak_sub ⟨rfl, rfl, rfl, trivial⟩ trivial trivial rfl) (fun zz hx => ?_)
  ·exact Nat.zero_le _
  obtain ⟨k, rfl⟩ : ∃ v, v = zz := ⟨_, rfl⟩
  replace hx : k ≤ x.length := hx
  show Ok _ _ _ _ _ (⟨[(0, .one (.dv [] (fieldsD (x)))), (1, .one (.dv [] (fieldsD (x)))), (5, .one (.dv [] (.int .i64 ((k : Int)))))], [], []⟩ : St)
  iterate 7 refine z ?_
  refine yQ rfl (fun c2 => ?_) fun c2 => ?_
  ·skip
   have d2 := of_decide_eq_true c2
   iterate 4 refine z ?_
   refine ok_seq ?_
   refine ok_regionD (oB := []) (oK := []) (by kernel_rfl) rfl rfl ?_
   refine zD 0 ?_
   refine zD 1 ?_
   refine zD 2 ?_
   refine zD 3 ?_
   refine zD 4 ?_
   refine zD 5 ?_
   refine zD 6 ?_
   refine zD 7 ?_
   refine d_call 8 rfl (by kernel_rfl) rfl rfl rfl Try.call59 ok_laws_eqField (as_cons (ev_tmp rfl) (ag_agg (ag_cons ac_dv (ag_cons ac_dv ag_nil))) (as_cons (ev_tmp rfl) (ag_agg (ag_cons ac_dv (ag_cons ac_dv ag_nil))) as_nil)) rfl rfl rfl rfl ?_
   refine zD 9 ?_
   refine d_done (by kernel_rfl) ?_
   refine z ?_
   refine yQ rfl (fun c3 => ?_) fun c3 => ?_
   ·skip
    iterate 10 refine z ?_
    first | rfl | (exfalso; simp_all [sEq])
   ·skip
    iterate 3 refine z ?_
    refine ok_region ?_
    iterate 4 refine z ?_
    refine ⟨k + 1, ?_, ?_, weak_sub ⟨rfl, rfl, rfl, trivial⟩ trivial trivial rfl⟩
    ·omega
    ·omega
  ·skip
   have d2 := of_decide_eq_false c2
   iterate 10 refine z ?_
   first | rfl | (exfalso; simp_all [sEq])
theorem ok_laws_eqRecord {x : RecT}  : PFn Try.prog 39 [.agg [(.dv [] (fieldsD (x)))], .agg [(.dv [] (fieldsD (x)))]] (.one (.dv [] (.bool (true)))) := by
 refine ⟨fn_intro Try.func39 rfl Try.ntmps39 Try.results39 rfl (fun C => ?_)⟩
 refine yF 0 0 rfl rfl fun f0_0 => ?_
 refine yF 1 0 rfl rfl fun f1_0 => ?_
 iterate 11 refine z ?_
 refine zC Try.call51 ?_ (hf := ok_laws_eqFieldS)
 iterate 2 refine z ?_
 refine yQ rfl (fun c1 => ?_) fun c1 => ?_
 ·skip
  iterate 6 refine z ?_
  first | rfl | (exfalso; simp_all [sEq])
 ·skip
  iterate 7 refine z ?_
  first | rfl | (exfalso; simp_all [sEq])
end Go.Proofs.Ytjeiflklhchjpaa

namespace Go.Proofs.Ytjeiflklhchjpaa
open Go.RowKit
open Go.Proofs
set_option linter.unusedVariables false
set_option linter.unusedSimpArgs false
theorem ok_laws_szItem {x : ItemT} {left : Int} (h0 : 0 ≤ left) (h1 : left ≤ 1048576) : PFn Try.prog 42 [.agg [(.dv [] (.int .i64 (x.1.1))), (.dv [] (.int .i64 (x.1.2.1))), (.dv [] (.str (x.1.2.2))), (.dv [] (fieldsD (x.2)))], .one (.dv [] (.int .i64 (left)))] (.one (.dv [] (.int .i64 (szR (left) (wItem x))))) := by
 refine ⟨fn_intro Try.func42 rfl Try.ntmps42 Try.results42 rfl (fun C => ?_)⟩
 refine yF 0 0 rfl rfl fun f0_0 => ?_
 refine yF 0 1 rfl rfl fun f0_1 => ?_
 refine yF 0 2 rfl rfl fun f0_2 => ?_
 refine yF 0 3 rfl rfl fun f0_3 => ?_
 refine ok_fact (x := .tmp 1) (ev_tmp rfl) fun f1 => ?_
 iterate 8 refine z ?_
 refine zC Try.call24 ?_ (hf := ok_laws_szKey (by omega) (by omega))
 iterate 7 refine z ?_
 refine yQ rfl (fun c1 => ?_) fun c1 => ?_
 ·skip
  have d1 := of_decide_eq_true c1
  first | have q1 := szR_n d1 | skip
  iterate 6 refine z ?_
  have hh := szR_cases left (wItem x); simp only [wItem] at hh ⊢ <;> omega
 ·skip
  have d1 := of_decide_eq_false c1
  first | have q1 := szR_nn d1 | skip
  iterate 6 refine z ?_
  refine zC Try.call52 ?_ (hf := ok_laws_szRecord (by omega) (by omega))
  iterate 7 refine z ?_
  refine yQ rfl (fun c2 => ?_) fun c2 => ?_
  ·skip
   have d2 := of_decide_eq_true c2
   first | have q2 := szR_n d2 | skip
   iterate 6 refine z ?_
   have hh := szR_cases left (wItem x); simp only [wItem] at hh ⊢ <;> omega
  ·skip
   have d2 := of_decide_eq_false c2
   first | have q2 := szR_nn d2 | skip
   iterate 8 refine z ?_
   have hh := szR_cases left (wItem x); simp only [wItem] at hh ⊢ <;> omega
theorem ok_laws_szItemS {x : List (ItemT)} {left : Int} (h0 : 0 ≤ left) (h1 : left ≤ 1048576) : PFn Try.prog 22 [.one (.dv [] (itemsD (x))), .one (.dv [] (.int .i64 (left)))] (.one (.dv [] (.int .i64 (szR (left) (wList wItem x))))) := by
 refine ⟨fn_intro Try.func22 rfl Try.ntmps22 Try.results22 rfl (fun C => ?_)⟩
 refine ok_fact (x := .tmp 0) (ev_tmp rfl) fun f0 => ?_
 refine ok_fact (x := .tmp 1) (ev_tmp rfl) fun f1 => ?_
 iterate 15 refine z ?_
 refine yQ rfl (fun c1 => ?_) fun c1 => ?_
 ·skip
  have d1 := of_decide_eq_true c1
  first | have q1 := szR_n d1 | skip
  iterate 6 refine z ?_
  have hh := szR_cases left (wList wItem x); simp only [wList] at hh ⊢ <;> omega
 ·skip
  have d1 := of_decide_eq_false c1
  first | have q1 := szR_nn d1 | skip
  iterate 7 refine z ?_
  refine ok_loop (ι := Nat × Int) (fun zz => ⟨[(0, .one (.dv [] (itemsD (x)))), (1, .one (.dv [] (.int .i64 (zz.2)))), (5, .one (.dv [] (.int .i64 ((zz.1 : Int)))))], [], []⟩) (fun zz => zz.1 ≤ x.length ∧ 0 ≤ zz.2 ∧ zz.2 + (wSum wItem (x.take zz.1) : Int) = left - (x.length : Int)) (fun zz => x.length - zz.1) ((0, left - (x.length : Int))) ?_ (weak_sub ⟨rfl, rfl, rfl, trivial⟩ trivial trivial rfl) (fun zz hx => ?_)
  ·exact ⟨Nat.zero_le _, by omega, by simp [wSum]⟩
  obtain ⟨k, l⟩ := zz
  replace hx : k ≤ x.length ∧ 0 ≤ l ∧ l + (wSum wItem (x.take k) : Int) = left - (x.length : Int) := hx
  obtain ⟨hk, hl, he⟩ := hx
  have hw := fun h => wSum_succ wItem x k h
  show Ok _ _ _ _ _ (⟨[(0, .one (.dv [] (itemsD (x)))), (1, .one (.dv [] (.int .i64 (l)))), (5, .one (.dv [] (.int .i64 ((k : Int)))))], [], []⟩ : St)
  iterate 7 refine z ?_
  refine yQ rfl (fun c2 => ?_) fun c2 => ?_
  ·skip
   have d2 := of_decide_eq_true c2
   first | have q2 := szR_n d2 | skip
   iterate 10 refine z ?_
   refine zC Try.call42 ?_ (hf := ok_laws_szItem (by omega) (by omega))
   iterate 6 refine z ?_
   refine yQ rfl (fun c3 => ?_) fun c3 => ?_
   ·skip
    have d3 := of_decide_eq_true c3
    first | have q3 := szR_n d3 | skip
    iterate 10 refine z ?_
    have hw' := hw (by omega); have hh := szR_cases left (wList wItem x); simp only [wList] at hh ⊢ <;> omega
   ·skip
    have d3 := of_decide_eq_false c3
    first | have q3 := szR_nn d3 | skip
    iterate 3 refine z ?_
    refine ok_region ?_
    iterate 4 refine z ?_
    refine ⟨(k + 1, szR l (wItem (x.getD (k : Int).toNat default))), ?_, ?_, weak_sub ⟨rfl, rfl, rfl, trivial⟩ trivial trivial rfl⟩
    ·have hw' := hw (by omega)
     dsimp only
     exact ⟨by omega, by omega, by omega⟩
    ·omega
  ·skip
   have d2 := of_decide_eq_false c2
   first | have q2 := szR_nn d2 | skip
   iterate 11 refine z ?_
   have hw' := wSum_all wItem x k (by omega); have hh := szR_cases left (wList wItem x); simp only [wList] at hh ⊢ <;> omega
theorem ok_laws_szStore {x : StoreT} {left : Int} (h0 : 0 ≤ left) (h1 : left ≤ 1048576) : PFn Try.prog 5 [.agg [(.dv [] (.str (x.1))), (.dv [] (itemsD (x.2.1))), (.dv [] (.int .i64 (x.2.2)))], .one (.dv [] (.int .i64 (left)))] (.one (.dv [] (.int .i64 (szR (left) (wStore x))))) := by
 refine ⟨fn_intro Try.func5 rfl Try.ntmps5 Try.results5 rfl (fun C => ?_)⟩
 refine yF 0 0 rfl rfl fun f0_0 => ?_
 refine yF 0 1 rfl rfl fun f0_1 => ?_
 refine yF 0 2 rfl rfl fun f0_2 => ?_
 refine ok_fact (x := .tmp 1) (ev_tmp rfl) fun f1 => ?_
 iterate 17 refine z ?_
 refine yQ rfl (fun c1 => ?_) fun c1 => ?_
 ·skip
  have d1 := of_decide_eq_true c1
  first | have q1 := szR_n d1 | skip
  iterate 6 refine z ?_
  have hh := szR_cases left (wStore x); simp only [wStore] at hh ⊢ <;> omega
 ·skip
  have d1 := of_decide_eq_false c1
  first | have q1 := szR_nn d1 | skip
  iterate 6 refine z ?_
  refine zC Try.call22 ?_ (hf := ok_laws_szItemS (by omega) (by omega))
  iterate 7 refine z ?_
  refine yQ rfl (fun c2 => ?_) fun c2 => ?_
  ·skip
   have d2 := of_decide_eq_true c2
   first | have q2 := szR_n d2 | skip
   iterate 6 refine z ?_
   have hh := szR_cases left (wStore x); simp only [wStore] at hh ⊢ <;> omega
  ·skip
   have d2 := of_decide_eq_false c2
   first | have q2 := szR_nn d2 | skip
   iterate 8 refine z ?_
   have hh := szR_cases left (wStore x); simp only [wStore] at hh ⊢ <;> omega
theorem ok_laws_toItem {x : ItemT} (hb : wItem x ≤ 1048576) : KFn Try.prog 43 [.agg [(.dv [] (.int .i64 (x.1.1))), (.dv [] (.int .i64 (x.1.2.1))), (.dv [] (.str (x.1.2.2))), (.dv [] (fieldsD (x.2)))]] (.agg [(.dv [] (.int .i64 (x.1.1))), (.dv [] (.int .i64 (x.1.2.1))), (.dv [] (.str (x.1.2.2))), (.key 16007)]) [(16007, some (kcOf false (fieldsD (x.2))))] := by
 refine ⟨fn_intro Try.func43 rfl Try.ntmps43 Try.results43 rfl (fun C => ?_)⟩
 refine yF 0 0 rfl rfl fun f0_0 => ?_
 refine yF 0 1 rfl rfl fun f0_1 => ?_
 refine yF 0 2 rfl rfl fun f0_2 => ?_
 refine yF 0 3 rfl rfl fun f0_3 => ?_
 iterate 10 refine z ?_
 refine zC Try.call27 ?_ (hf := ok_laws_toKey)
 iterate 6 refine z ?_
 refine zK 10000 Try.call53 ?_ (hf := ok_laws_toRecord (by first | omega | (simp only [wKey, wField, wRecord, wItem, wStore, wIndexDef, wDatabase, wOp, wTx, wTxQueue] at hb ⊢; omega) | (have hq := hw (by omega); omega)))
 iterate 7 refine z ?_
 refine ok_weak (σ' := ⟨[(2, .box 2 0)], [(2, 53, [(.dv [] (.int .i64 (x.1.1))), (.dv [] (.int .i64 (x.1.2.1))), (.dv [] (.str (x.1.2.2))), (.key 16007)])], [(16007, some (kcOf false (fieldsD (x.2))))]⟩) (weak_sub ⟨rfl, trivial⟩ ⟨rfl, trivial⟩ ⟨rfl, trivial⟩ rfl) ?_
 refine z ?_
 refine fin1 (res_cell hT rfl rfl rfl rfl) ?_
 exact ⟨rfl, rfl⟩
theorem ok_laws_toItemS {x : List (ItemT)} (hb : wList wItem x ≤ 1048576) : KFn Try.prog 25 [.one (.dv [] (itemsD (x)))] (.one (.key 7)) [(7, some (kcOf false (itemsD (x))))] := by
 refine ⟨fn_intro Try.func25 rfl Try.ntmps25 Try.results25 rfl (fun C => ?_)⟩
 refine ok_fact (x := .tmp 0) (ev_tmp rfl) fun f0 => ?_
 iterate 6 refine z ?_
 refine o_make (k := 7) (n := ((x)).length) (zd := [.int .i64 (0), .int .i64 (0), .str (ByteArray.empty), .sl 83 2 0 []]) (cs := fillD eItem [.int .i64 (0), .int .i64 (0), .str (ByteArray.empty), .sl 83 2 0 []] x 0) hT rfl rfl rfl rfl rfl rfl (ev_tmp rfl) (ev_tmp rfl) rfl rfl rfl (by have := wList_len wItem x; omega) rfl rfl fillD_zero ?_
 iterate 7 refine z ?_
 refine ok_loop (ι := Nat) (fun zz => ⟨[(0, .one (.dv [] (itemsD (x)))), (3, .one (.key 7)), (4, .one (.dv [] (.int .i64 ((zz : Int)))))], [], [(7, some (kcOf false (.sl 53 4 ((x).length) (fillD eItem [.int .i64 (0), .int .i64 (0), .str (ByteArray.empty), .sl 83 2 0 []] x zz))))]⟩) (fun zz => zz ≤ x.length) (fun zz => x.length - zz) (0) ?_ (weak_sub ⟨rfl, rfl, rfl, trivial⟩ trivial ⟨rfl, trivial⟩ rfl) (fun zz hx => ?_)
 ·exact Nat.zero_le _
 obtain ⟨k, rfl⟩ : ∃ v, v = zz := ⟨_, rfl⟩
 replace hx : k ≤ x.length := hx
 have hw := fun h => wSum_succ wItem x k h
 have hw2 := wSum_le wItem x (k + 1)
 have hw3 : wList wItem x = x.length + wSum wItem x := rfl
 show Ok _ _ _ _ _ (⟨[(0, .one (.dv [] (itemsD (x)))), (3, .one (.key 7)), (4, .one (.dv [] (.int .i64 ((k : Int)))))], [], [(7, some (kcOf false (.sl 53 4 ((x).length) (fillD eItem [.int .i64 (0), .int .i64 (0), .str (ByteArray.empty), .sl 83 2 0 []] x k))))]⟩ : St)
 iterate 7 refine z ?_
 refine yQ rfl (fun c1 => ?_) fun c1 => ?_
 ·skip
  have d1 := of_decide_eq_true c1
  iterate 4 refine z ?_
  refine ok_region ?_
  iterate 6 refine z ?_
  refine zK 20000 Try.call43 ?_ (hf := ok_laws_toItem (by first | omega | (simp only [wKey, wField, wRecord, wItem, wStore, wIndexDef, wDatabase, wOp, wTx, wTxQueue] at hb ⊢; omega) | (have hq := hw (by omega); omega)))
  refine yO rfl rfl (pu_indexK (i := k) hT rfl rfl rfl (ev_tmp rfl) rfl (ev_tmp rfl) rfl (by show _ < ((x).length); omega)) rfl ?_
  refine o_storeE (js := [36007]) (cs := fillD eItem [.int .i64 (0), .int .i64 (0), .str (ByteArray.empty), .sl 83 2 0 []] x (k + 1)) hT rfl rfl rfl rfl (ev_tmp rfl) (ev_tmp rfl) rfl rfl rfl rfl (ow_cons' (ow_dv rfl) (ow_cons' (ow_dv rfl) (ow_cons' (ow_dv rfl) (ow_cons' (ow_key rfl) ow_nil rfl) rfl) rfl) rfl) (by decide) (by decide) rfl (by show _ ≤ List.length (fillD eItem [.int .i64 (0), .int .i64 (0), .str (ByteArray.empty), .sl 83 2 0 []] x k); rw [fillD_len (sz := 4) (fun _ => rfl) rfl]; omega) (fillD_succ (sz := 4) (fun _ => rfl) rfl (by omega) rfl) ?_
  simp only [killT, killB, SV.kill, CV.kill, kk, Nat.reduceBEq]
  refine ops_nil ?_
  iterate 2 refine z ?_
  refine ok_region ?_
  iterate 4 refine z ?_
  refine ⟨k + 1, ?_, ?_, weak_sub ⟨rfl, rfl, rfl, trivial⟩ trivial ⟨rfl, trivial⟩ rfl⟩
  ·omega
  ·omega
 ·skip
  have d1 := of_decide_eq_false c1
  iterate 9 refine z ?_
  refine ok_weak (σ' := ⟨[(2, .one (.key 7))], [], [(7, some (kcOf false (itemsD (x))))]⟩) (weak_sub ⟨rfl, trivial⟩ trivial ⟨(congrArg (fun cs => some (some (KC.mk false 53 4 x.length cs))) (fillD_all (by omega))), trivial⟩ rfl) ?_
  refine z ?_
  refine fin1 (res_tmp rfl) ?_
  exact ⟨rfl, rfl⟩
theorem ok_laws_toStore {x : StoreT} (hb : wStore x ≤ 1048576) : KFn Try.prog 8 [.agg [(.dv [] (.str (x.1))), (.dv [] (itemsD (x.2.1))), (.dv [] (.int .i64 (x.2.2)))]] (.agg [(.dv [] (.str (x.1))), (.key 9007), (.dv [] (.int .i64 (x.2.2)))]) [(9007, some (kcOf false (itemsD (x.2.1))))] := by
 refine ⟨fn_intro Try.func8 rfl Try.ntmps8 Try.results8 rfl (fun C => ?_)⟩
 refine yF 0 0 rfl rfl fun f0_0 => ?_
 refine yF 0 1 rfl rfl fun f0_1 => ?_
 refine yF 0 2 rfl rfl fun f0_2 => ?_
 iterate 16 refine z ?_
 refine zK 9000 Try.call25 ?_ (hf := ok_laws_toItemS (by first | omega | (simp only [wKey, wField, wRecord, wItem, wStore, wIndexDef, wDatabase, wOp, wTx, wTxQueue] at hb ⊢; omega) | (have hq := hw (by omega); omega)))
 iterate 13 refine z ?_
 refine ok_weak (σ' := ⟨[(2, .box 2 0)], [(2, 36, [(.dv [] (.str (x.1))), (.key 9007), (.dv [] (.int .i64 (x.2.2)))])], [(9007, some (kcOf false (itemsD (x.2.1))))]⟩) (weak_sub ⟨rfl, trivial⟩ ⟨rfl, trivial⟩ ⟨rfl, trivial⟩ rfl) ?_
 refine z ?_
 refine fin1 (res_cell hT rfl rfl rfl rfl) ?_
 exact ⟨rfl, rfl⟩
theorem ok_laws_eqItem {x : ItemT}  : PFn Try.prog 19 [.agg [(.dv [] (.int .i64 (x.1.1))), (.dv [] (.int .i64 (x.1.2.1))), (.dv [] (.str (x.1.2.2))), (.dv [] (fieldsD (x.2)))], .agg [(.dv [] (.int .i64 (x.1.1))), (.dv [] (.int .i64 (x.1.2.1))), (.dv [] (.str (x.1.2.2))), (.dv [] (fieldsD (x.2)))]] (.one (.dv [] (.bool (true)))) := by
 refine ⟨fn_intro Try.func19 rfl Try.ntmps19 Try.results19 rfl (fun C => ?_)⟩
 refine yF 0 0 rfl rfl fun f0_0 => ?_
 refine yF 0 1 rfl rfl fun f0_1 => ?_
 refine yF 0 2 rfl rfl fun f0_2 => ?_
 refine yF 0 3 rfl rfl fun f0_3 => ?_
 refine yF 1 0 rfl rfl fun f1_0 => ?_
 refine yF 1 1 rfl rfl fun f1_1 => ?_
 refine yF 1 2 rfl rfl fun f1_2 => ?_
 refine yF 1 3 rfl rfl fun f1_3 => ?_
 iterate 11 refine z ?_
 refine zC Try.call38 ?_ (hf := ok_laws_eqKey)
 iterate 2 refine z ?_
 refine yQ rfl (fun c1 => ?_) fun c1 => ?_
 ·skip
  iterate 6 refine z ?_
  first | rfl | (exfalso; simp_all [sEq])
 ·skip
  iterate 8 refine z ?_
  refine zC Try.call39 ?_ (hf := ok_laws_eqRecord)
  iterate 2 refine z ?_
  refine yQ rfl (fun c2 => ?_) fun c2 => ?_
  ·skip
   iterate 6 refine z ?_
   first | rfl | (exfalso; simp_all [sEq])
  ·skip
   iterate 7 refine z ?_
   first | rfl | (exfalso; simp_all [sEq])
theorem ok_laws_eqItemS {x : List (ItemT)}  : PFn Try.prog 11 [.one (.dv [] (itemsD (x))), .one (.dv [] (itemsD (x)))] (.one (.dv [] (.bool (true)))) := by
 refine ⟨fn_intro Try.func11 rfl Try.ntmps11 Try.results11 rfl (fun C => ?_)⟩
 refine ok_fact (x := .tmp 0) (ev_tmp rfl) fun f0 => ?_
 refine ok_fact (x := .tmp 1) (ev_tmp rfl) fun f1 => ?_
 iterate 11 refine z ?_
 refine yQ rfl (fun c1 => ?_) fun c1 => ?_
 ·skip
  have d1 := nd_t c1
  iterate 6 refine z ?_
  first | rfl | (exfalso; simp_all [sEq])
 ·skip
  have d1 := nd_f c1
  iterate 7 refine z ?_
  refine ok_loop (ι := Nat) (fun zz => ⟨[(0, .one (.dv [] (itemsD (x)))), (1, .one (.dv [] (itemsD (x)))), (5, .one (.dv [] (.int .i64 ((zz : Int)))))], [], []⟩) (fun zz => zz ≤ x.length) (fun zz => x.length - zz) (0) ?_ (weak_sub ⟨rfl, rfl, rfl, trivial⟩ trivial trivial rfl) (fun zz hx => ?_)
  ·exact Nat.zero_le _
  obtain ⟨k, rfl⟩ : ∃ v, v = zz := ⟨_, rfl⟩
  replace hx : k ≤ x.length := hx
  show Ok _ _ _ _ _ (⟨[(0, .one (.dv [] (itemsD (x)))), (1, .one (.dv [] (itemsD (x)))), (5, .one (.dv [] (.int .i64 ((k : Int)))))], [], []⟩ : St)
  iterate 7 refine z ?_
  refine yQ rfl (fun c2 => ?_) fun c2 => ?_
  ·skip
   have d2 := of_decide_eq_true c2
   iterate 4 refine z ?_
   refine ok_seq ?_
   refine ok_regionD (oB := []) (oK := []) (by kernel_rfl) rfl rfl ?_
   refine zD 0 ?_
   refine zD 1 ?_
   refine zD 2 ?_
   refine zD 3 ?_
   refine zD 4 ?_
   refine zD 5 ?_
   refine zD 6 ?_
   refine zD 7 ?_
   refine d_call 8 rfl (by kernel_rfl) rfl rfl rfl Try.call19 ok_laws_eqItem (as_cons (ev_tmp rfl) (ag_agg (ag_cons ac_dv (ag_cons ac_dv (ag_cons ac_dv (ag_cons ac_dv ag_nil))))) (as_cons (ev_tmp rfl) (ag_agg (ag_cons ac_dv (ag_cons ac_dv (ag_cons ac_dv (ag_cons ac_dv ag_nil))))) as_nil)) rfl rfl rfl rfl ?_
   refine zD 9 ?_
   refine d_done (by kernel_rfl) ?_
   refine z ?_
   refine yQ rfl (fun c3 => ?_) fun c3 => ?_
   ·skip
    iterate 10 refine z ?_
    first | rfl | (exfalso; simp_all [sEq])
   ·skip
    iterate 3 refine z ?_
    refine ok_region ?_
    iterate 4 refine z ?_
    refine ⟨k + 1, ?_, ?_, weak_sub ⟨rfl, rfl, rfl, trivial⟩ trivial trivial rfl⟩
    ·omega
    ·omega
  ·skip
   have d2 := of_decide_eq_false c2
   iterate 10 refine z ?_
   first | rfl | (exfalso; simp_all [sEq])
theorem ok_laws_eqStore {x : StoreT}  : PFn Try.prog 12 [.agg [(.dv [] (.str (x.1))), (.dv [] (itemsD (x.2.1))), (.dv [] (.int .i64 (x.2.2)))], .agg [(.dv [] (.str (x.1))), (.dv [] (itemsD (x.2.1))), (.dv [] (.int .i64 (x.2.2)))]] (.one (.dv [] (.bool (true)))) := by
 refine ⟨fn_intro Try.func12 rfl Try.ntmps12 Try.results12 rfl (fun C => ?_)⟩
 refine yF 0 0 rfl rfl fun f0_0 => ?_
 refine yF 0 1 rfl rfl fun f0_1 => ?_
 refine yF 0 2 rfl rfl fun f0_2 => ?_
 refine yF 1 0 rfl rfl fun f1_0 => ?_
 refine yF 1 1 rfl rfl fun f1_1 => ?_
 refine yF 1 2 rfl rfl fun f1_2 => ?_
 iterate 13 refine z ?_
 refine yQ rfl (fun c1 => ?_) fun c1 => ?_
 ·skip
  iterate 6 refine z ?_
  first | rfl | (exfalso; simp_all [sEq])
 ·skip
  iterate 8 refine z ?_
  refine zC Try.call11 ?_ (hf := ok_laws_eqItemS)
  iterate 2 refine z ?_
  refine yQ rfl (fun c2 => ?_) fun c2 => ?_
  ·skip
   iterate 6 refine z ?_
   first | rfl | (exfalso; simp_all [sEq])
  ·skip
   iterate 10 refine z ?_
   refine yQ rfl (fun c3 => ?_) fun c3 => ?_
   ·skip
    have d3 := nd_t c3
    iterate 6 refine z ?_
    first | rfl | (exfalso; simp_all [sEq])
   ·skip
    have d3 := nd_f c3
    iterate 7 refine z ?_
    first | rfl | (exfalso; simp_all [sEq])
end Go.Proofs.Ytjeiflklhchjpaa

namespace Go.Proofs.Ytjeiflklhchjpaa
open Go.RowKit
open Go.Proofs
set_option linter.unusedVariables false
set_option linter.unusedSimpArgs false

theorem item_len (x : ItemT) : x.2.length ≤ wItem x := by unfold wItem wRecord wList; omega
theorem ok_impl_copyRecord {x : RecT} (hb : x.length ≤ 1099511627776) : KFn Try.prog 50 [.agg [(.dv [] (fieldsD (x)))]] (.agg [(.key 3)]) [(3, some (kcOf false (fieldsD (x))))] := by
 refine ⟨fn_intro Try.func50 rfl Try.ntmps50 Try.results50 rfl (fun C => ?_)⟩
 refine yF 0 0 rfl rfl fun f0_0 => ?_
 iterate 5 refine z ?_
 refine o_build0 (k := 3) hT rfl rfl rfl rfl rfl rfl rfl rfl ?_
 iterate 2 refine z ?_
 refine o_appV (k := 3) (cs := (x).flatMap eField) (n := (x).length) hT rfl rfl rfl rfl rfl rfl rfl (ev_tmp rfl) rfl rfl rfl (ev_tmp rfl) (plain_flat (fun _ => rfl) _) (by first | (dsimp only [kcOf]; omega) | omega) (by first | (dsimp only [kcOf]; omega) | omega) (Nat.zero_add _) (rfl) ?_
 simp only [killT, killB, SV.kill, CV.kill, kk, Nat.reduceBEq]
 refine yO rfl rfl (pu_build hT hB rfl rfl rfl (bp_cons (ev_tmp rfl) rfl rfl rfl rfl rfl bp_nil)) rfl ?_
 iterate 2 refine z ?_
 refine ok_weak (σ' := ⟨[(2, .box 2 0)], [(2, 51, [(.key 3)])], [(3, some (kcOf false (fieldsD (x))))]⟩) (weak_sub ⟨rfl, trivial⟩ ⟨rfl, trivial⟩ ⟨rfl, trivial⟩ rfl) ?_
 refine z ?_
 refine fin1 (res_cell hT rfl rfl rfl rfl) ?_
 exact ⟨rfl, rfl⟩
theorem ok_spec_l5Copy {x : RecT} (hb : x.length ≤ 1099511627776) : KFn Try.prog 46 [.agg [(.dv [] (fieldsD (x)))]] (.agg [(.key 3)]) [(3, some (kcOf false (fieldsD (x))))] := by
 refine ⟨fn_intro Try.func46 rfl Try.ntmps46 Try.results46 rfl (fun C => ?_)⟩
 refine yF 0 0 rfl rfl fun f0_0 => ?_
 iterate 5 refine z ?_
 refine o_build0 (k := 3) hT rfl rfl rfl rfl rfl rfl rfl rfl ?_
 iterate 2 refine z ?_
 refine o_appV (k := 3) (cs := (x).flatMap eField) (n := (x).length) hT rfl rfl rfl rfl rfl rfl rfl (ev_tmp rfl) rfl rfl rfl (ev_tmp rfl) (plain_flat (fun _ => rfl) _) (by first | (dsimp only [kcOf]; omega) | omega) (by first | (dsimp only [kcOf]; omega) | omega) (Nat.zero_add _) (rfl) ?_
 simp only [killT, killB, SV.kill, CV.kill, kk, Nat.reduceBEq]
 refine yO rfl rfl (pu_build hT hB rfl rfl rfl (bp_cons (ev_tmp rfl) rfl rfl rfl rfl rfl bp_nil)) rfl ?_
 iterate 2 refine z ?_
 refine ok_weak (σ' := ⟨[(2, .box 2 0)], [(2, 51, [(.key 3)])], [(3, some (kcOf false (fieldsD (x))))]⟩) (weak_sub ⟨rfl, trivial⟩ ⟨rfl, trivial⟩ ⟨rfl, trivial⟩ rfl) ?_
 refine z ?_
 refine fin1 (res_cell hT rfl rfl rfl rfl) ?_
 exact ⟨rfl, rfl⟩
theorem ok_impl_copyItem {x : ItemT} (hb : x.2.length ≤ 1099511627776) : KFn Try.prog 36 [.agg [(.dv [] (.int .i64 (x.1.1))), (.dv [] (.int .i64 (x.1.2.1))), (.dv [] (.str (x.1.2.2))), (.dv [] (fieldsD (x.2)))]] (.agg [(.dv [] (.int .i64 (x.1.1))), (.dv [] (.int .i64 (x.1.2.1))), (.dv [] (.str (x.1.2.2))), (.key 7003)]) [(7003, some (kcOf false (fieldsD (x.2))))] := by
 refine ⟨fn_intro Try.func36 rfl Try.ntmps36 Try.results36 rfl (fun C => ?_)⟩
 refine yF 0 0 rfl rfl fun f0_0 => ?_
 refine yF 0 1 rfl rfl fun f0_1 => ?_
 refine yF 0 2 rfl rfl fun f0_2 => ?_
 refine yF 0 3 rfl rfl fun f0_3 => ?_
 iterate 4 refine z ?_
 refine ok_seq ?_
 refine ok_regionD (oB := [1, 2]) (oK := []) (by kernel_rfl) rfl rfl ?_
 refine zD 0 ?_
 refine zD 1 ?_
 refine zD 2 ?_
 refine zD 3 ?_
 refine d_callK 7000 4 rfl (by kernel_rfl) rfl rfl rfl Try.call50 (ok_impl_copyRecord (by omega)) (as_cons (ev_tmp rfl) (ag_agg (ag_cons ac_dv ag_nil)) as_nil) rfl rfl rfl rfl rfl ?_
 refine d_take 5 rfl (by kernel_rfl) rfl rfl (pu_build hT hB rfl rfl rfl (bp_cons (ev_tmp rfl) rfl rfl rfl rfl rfl (bp_cons (ev_tmp rfl) rfl rfl rfl rfl rfl bp_nil))) rfl rfl rfl rfl ?_
 refine d_last 6 rfl (by kernel_rfl) rfl (by kernel_rfl) (ef_storeBox hT rfl rfl rfl (ev_tmp rfl) (ev_tmp rfl) rfl rfl rfl rfl rfl rfl) (by kernel_rfl) ?_
 refine z ?_
 refine ok_weak (σ' := ⟨[(2, .box 2 0)], [(2, 53, [(.dv [] (.int .i64 (x.1.1))), (.dv [] (.int .i64 (x.1.2.1))), (.dv [] (.str (x.1.2.2))), (.key 7003)])], [(7003, some (kcOf false (fieldsD (x.2))))]⟩) (weak_sub ⟨rfl, trivial⟩ ⟨rfl, trivial⟩ ⟨rfl, trivial⟩ rfl) ?_
 refine z ?_
 refine fin1 (res_cell hT rfl rfl rfl rfl) ?_
 exact ⟨rfl, rfl⟩
theorem ok_spec_l6Item {x : ItemT} (hb : x.2.length ≤ 1099511627776) : KFn Try.prog 33 [.agg [(.dv [] (.int .i64 (x.1.1))), (.dv [] (.int .i64 (x.1.2.1))), (.dv [] (.str (x.1.2.2))), (.dv [] (fieldsD (x.2)))]] (.agg [(.dv [] (.int .i64 (x.1.1))), (.dv [] (.int .i64 (x.1.2.1))), (.dv [] (.str (x.1.2.2))), (.key 7003)]) [(7003, some (kcOf false (fieldsD (x.2))))] := by
 refine ⟨fn_intro Try.func33 rfl Try.ntmps33 Try.results33 rfl (fun C => ?_)⟩
 refine yF 0 0 rfl rfl fun f0_0 => ?_
 refine yF 0 1 rfl rfl fun f0_1 => ?_
 refine yF 0 2 rfl rfl fun f0_2 => ?_
 refine yF 0 3 rfl rfl fun f0_3 => ?_
 iterate 4 refine z ?_
 refine ok_seq ?_
 refine ok_regionD (oB := [1, 2]) (oK := []) (by kernel_rfl) rfl rfl ?_
 refine zD 0 ?_
 refine zD 1 ?_
 refine zD 2 ?_
 refine zD 3 ?_
 refine d_callK 7000 4 rfl (by kernel_rfl) rfl rfl rfl Try.call46 (ok_spec_l5Copy (by omega)) (as_cons (ev_tmp rfl) (ag_agg (ag_cons ac_dv ag_nil)) as_nil) rfl rfl rfl rfl rfl ?_
 refine d_take 5 rfl (by kernel_rfl) rfl rfl (pu_build hT hB rfl rfl rfl (bp_cons (ev_tmp rfl) rfl rfl rfl rfl rfl (bp_cons (ev_tmp rfl) rfl rfl rfl rfl rfl bp_nil))) rfl rfl rfl rfl ?_
 refine d_last 6 rfl (by kernel_rfl) rfl (by kernel_rfl) (ef_storeBox hT rfl rfl rfl (ev_tmp rfl) (ev_tmp rfl) rfl rfl rfl rfl rfl rfl) (by kernel_rfl) ?_
 refine z ?_
 refine ok_weak (σ' := ⟨[(2, .box 2 0)], [(2, 53, [(.dv [] (.int .i64 (x.1.1))), (.dv [] (.int .i64 (x.1.2.1))), (.dv [] (.str (x.1.2.2))), (.key 7003)])], [(7003, some (kcOf false (fieldsD (x.2))))]⟩) (weak_sub ⟨rfl, trivial⟩ ⟨rfl, trivial⟩ ⟨rfl, trivial⟩ rfl) ?_
 refine z ?_
 refine fin1 (res_cell hT rfl rfl rfl rfl) ?_
 exact ⟨rfl, rfl⟩
end Go.Proofs.Ytjeiflklhchjpaa

namespace Go.Proofs.Ytjeiflklhchjpaa
open Go.RowKit
open Go.Proofs
set_option linter.unusedVariables false
set_option linter.unusedSimpArgs false

theorem eqSlotI {k : IntKind} {a b : Int} (h : a = b) : some (SV.one (CV.dv [] (DV.int k a))) = some (SV.one (CV.dv [] (DV.int k b))) := by rw [h]
def mkL {α : Type} (m : α → Int → α) (c : α → Nat) : List α → Int → List α
 | [], _ => []
 | x :: xs, k => m x k :: mkL m c xs (k + (c x : Int))
theorem mkL_len {α : Type} {m : α → Int → α} {c : α → Nat} : ∀ (xs : List α) (k : Int), (mkL m c xs k).length = xs.length
 | [], _ => rfl
 | x :: xs, k => by rw [mkL, List.length_cons, mkL_len xs, List.length_cons]
theorem mkL_app {α : Type} {m : α → Int → α} {c : α → Nat} : ∀ (xs ys : List α) (k : Int), mkL m c (xs ++ ys) k = mkL m c xs k ++ mkL m c ys (k + (wSum c xs : Int))
 | [], ys, k => by simp [mkL, wSum]
 | x :: xs, ys, k => by
  rw [List.cons_append, mkL, mkL_app xs ys, mkL, List.cons_append]
  congr 3
  have : wSum c (x :: xs) = c x + wSum c xs := by simp [wSum]
  omega
theorem getD_at {α : Type} [Inhabited α] {xs : List α} {j : Nat} (h : j < xs.length) : xs.getD (j : Int).toNat default = xs[j] := by simp [List.getD, List.getElem?_eq_getElem h]
theorem mkL_succ {α : Type} [Inhabited α] {m : α → Int → α} {c : α → Nat} {xs : List α} {j : Nat} {k : Int} (h : j < xs.length) : mkL m c (xs.take (j + 1)) k = mkL m c (xs.take j) k ++ [m (xs.getD (j : Int).toNat default) (k + (wSum c (xs.take j) : Int))] := by
 rw [List.take_add_one, List.getElem?_eq_getElem h, mkL_app, getD_at h]; rfl
theorem mkL_getD {α : Type} [Inhabited α] {m : α → Int → α} {c : α → Nat} {xs : List α} {j : Nat} {k : Int} (h : j < xs.length) : (mkL m c xs k).getD (j : Int).toNat default = m (xs.getD (j : Int).toNat default) (k + (wSum c (xs.take j) : Int)) := by
 have e : mkL m c xs k = mkL m c (xs.take (j + 1)) k ++ mkL m c (xs.drop (j + 1)) (k + (wSum c (xs.take (j + 1)) : Int)) := by rw [← mkL_app, List.take_append_drop]
 rw [e, mkL_succ h]
 have hl : (mkL m c (xs.take j) k).length = j := by rw [mkL_len, List.length_take]; omega
 have : (j : Int).toNat = j := by omega
 rw [List.getD, List.append_assoc, List.getElem?_append_right (by omega), show (j : Int).toNat - (mkL m c (xs.take j) k).length = 0 by omega]
 rfl
theorem drop_flat {α : Type} [Inhabited α] {enc : α → List DV} {xs : List α} {j : Nat} (h : j < xs.length) : (xs.drop j).flatMap enc = enc (xs.getD (j : Int).toNat default) ++ (xs.drop (j + 1)).flatMap enc := by
 rw [List.drop_eq_getElem_cons h, List.flatMap_cons, getD_at h]
theorem mk_open {α : Type} [Inhabited α] {enc : α → List DV} {A : List DV} {xs : List α} {j : Nat} (h : j < xs.length) : A ++ (xs.drop j).flatMap enc = mid A (enc (xs.getD (j : Int).toNat default)) ((xs.drop (j + 1)).flatMap enc) := by rw [drop_flat h]; rfl
theorem mk_close {α : Type} [Inhabited α] {m : α → Int → α} {c : α → Nat} {enc : α → List DV} {B C : List DV} {xs : List α} {j : Nat} {k : Int} (h : j < xs.length) (hB : B = enc (m (xs.getD (j : Int).toNat default) (k + (wSum c (xs.take j) : Int)))) : mid ((mkL m c (xs.take j) k).flatMap enc) B C = (mkL m c (xs.take (j + 1)) k).flatMap enc ++ C := by
 unfold mid
 rw [mkL_succ h, List.flatMap_append, hB]; simp
theorem mk_fin {α : Type} {m : α → Int → α} {c : α → Nat} {enc : α → List DV} {e sz : Nat} {xs : List α} {j : Nat} {k : Int} (h : xs.length ≤ j) : some (some (KC.mk true e sz xs.length ((mkL m c (xs.take j) k).flatMap enc ++ (xs.drop j).flatMap enc))) = some (some (kcOf true (listD e sz enc (mkL m c xs k)))) := by
 rw [List.take_of_length_le h, List.drop_eq_nil_of_le h]
 simp only [listD, kcOf, mkL_len, List.flatMap_nil, List.append_nil]
theorem mk_pre {α : Type} {m : α → Int → α} {c : α → Nat} {enc : α → List DV} {sz : Nat} (hs : ∀ x, (enc x).length = sz) {xs : List α} {j : Nat} {k : Int} (h : j ≤ xs.length) : ((mkL m c (xs.take j) k).flatMap enc).length = j * sz := by
 rw [flat_len hs, mkL_len, List.length_take, Nat.min_eq_left h]
theorem wSum_bound {α : Type} {c w : α → Nat} (h : ∀ x, c x ≤ 8 * (1 + w x)) : ∀ xs : List α, wSum c xs ≤ 8 * wList w xs
 | [] => by simp [wSum, wList]
 | x :: xs => by
  have := wSum_bound h xs
  have := h x
  simp only [wSum, wList, List.map_cons, List.sum_cons, List.length_cons] at *
  omega
theorem wSum_ge {α : Type} {c : α → Nat} (h : ∀ x, 1 ≤ c x) : ∀ xs : List α, xs.length ≤ wSum c xs
 | [] => by simp [wSum]
 | x :: xs => by
  have := wSum_ge h xs
  have := h x
  simp only [wSum, List.map_cons, List.sum_cons, List.length_cons] at *
  omega
def mDig (k : Nat) (out : Str) : Str := if k = 0 then out else mDig (k / 10) (strOf [UInt8.ofNat (IntKind.u8.wrap (48 + (k : Int) % 10)).toNat] ++ out)
termination_by k
theorem mDig_go {k : Nat} {out : Str} (h : 0 < (k : Int)) : mDig (k / 10) (strOf [UInt8.ofNat (IntKind.u8.wrap (48 + (k : Int) % 10)).toNat] ++ out) = mDig k out := by rw [mDig.eq_def k out, if_neg (by omega)]
theorem mDig_end {k : Nat} {out : Str} (h : ¬ 0 < (k : Int)) : mDig k out = out := by rw [mDig.eq_def k out, if_pos (by omega)]
def mText (k : Int) : Str := if k ≤ 0 then ByteArray.mk #[109, 48] else ByteArray.mk #[109] ++ mDig k.toNat (ByteArray.mk #[])

def mkField (x : FieldT) (k : Int) : FieldT := (mText (k), (k) + (1))
def cField (x : FieldT) : Nat := 2
theorem cField_le (x : FieldT) : cField x ≤ 8 * (1 + wField x) := by
 simp only [cField]
 omega
def mkItem (x : ItemT) (k : Int) : ItemT := ((k, (k) + (1), mText (((k) + (1)) + (1))), mkL mkField cField (x.2) ((((k) + (1)) + (1)) + (1)))
def cItem (x : ItemT) : Nat := 3 + wSum cField (x.2)
theorem cItem_le (x : ItemT) : cItem x ≤ 8 * (1 + wItem x) := by
 have h3 := wSum_bound cField_le (x.2)
 simp only [cItem, wItem, wKey, wRecord]
 omega
def mvRecord (x : RecT) (k : Int) : RecT := mkL mkField cField (x) (k)
def mvItem (x : ItemT) (k : Int) : ItemT := ((x.1.1, x.1.2.1, x.1.2.2), mkL mkField cField (x.2) (k))
theorem ok_laws_markText {k : Int} (hk : k ≤ 9000000000000000000) : PFn Try.prog 28 [.one (.dv [] (.int .i64 (k)))] (.one (.dv [] (.str (mText k)))) := by
 refine ⟨fn_intro Try.func28 rfl Try.ntmps28 Try.results28 rfl (fun C => ?_)⟩
 refine ok_fact (x := .tmp 0) (ev_tmp rfl) fun f0 => ?_
 iterate 8 refine z ?_
 refine yQ rfl (fun c1 => ?_) fun c1 => ?_
 ·skip
  have d1 := of_decide_eq_true c1
  iterate 6 refine z ?_
  rw [mText, if_pos d1]
 ·skip
  have d1 := of_decide_eq_false c1
  iterate 7 refine z ?_
  refine ok_loop (ι := Nat × Str) (fun zz => ⟨[(0, .one (.dv [] (.int .i64 ((zz.1 : Int))))), (2, .one (.dv [] (.str (ByteArray.mk #[])))), (3, .one (.dv [] (.str (zz.2))))], [], []⟩) (fun zz => mDig zz.1 zz.2 = mDig k.toNat (ByteArray.mk #[]) ∧ zz.2.size + zz.1 ≤ k.toNat) (fun zz => zz.1) ((k.toNat, ByteArray.mk #[])) ?_ (weak_sub ⟨(eqSlotI (by show k = ((k.toNat : Nat) : Int); omega)), rfl, rfl, trivial⟩ trivial trivial rfl) (fun zz hx => ?_)
  ·exact ⟨rfl, by show 0 + _ ≤ _; omega⟩
  obtain ⟨n, out⟩ := zz
  replace hx : mDig n out = mDig k.toNat (ByteArray.mk #[]) ∧ out.size + n ≤ k.toNat := hx
  obtain ⟨hd, hs⟩ := hx
  show Ok _ _ _ _ _ (⟨[(0, .one (.dv [] (.int .i64 ((n : Int))))), (2, .one (.dv [] (.str (ByteArray.mk #[])))), (3, .one (.dv [] (.str (out))))], [], []⟩ : St)
  iterate 5 refine z ?_
  refine yQ rfl (fun c2 => ?_) fun c2 => ?_
  ·skip
   have d2 := of_decide_eq_true c2
   have hs1 : (strOf [UInt8.ofNat (IntKind.u8.wrap (48 + (n : Int) % 10)).toNat]).size = 1 := rfl
   iterate 5 refine z ?_
   refine yO rfl rfl (pu_remN rfl (ev_tmp rfl) (ev_int (inR_lit rfl)) (by omega) (by omega)) rfl ?_
   refine z ?_
   refine yO rfl rfl (pu_convI hT rfl rfl rfl (ev_tmp rfl)) rfl ?_
   refine o_build1 (k := 12) (js := []) hT rfl rfl rfl rfl rfl rfl rfl rfl rfl (ev_tmp rfl) rfl rfl (ow_cons' (ow_dv rfl) ow_nil rfl) (by decide) (by decide) rfl rfl ?_
   simp only [killT, killB, SV.kill, CV.kill, kk, Nat.reduceBEq]
   refine yO rfl rfl (pu_convB1 (b := UInt8.ofNat (IntKind.u8.wrap ((48) + (((n : Int)) % (10)))).toNat) hT rfl rfl rfl rfl (ev_keyv (c := ⟨false, 5, 1, 1, [.int .u8 (IntKind.u8.wrap ((48) + (((n : Int)) % (10))))]⟩) (ev_tmp rfl) rfl) (wrap_u8 _)) rfl ?_
   refine z ?_
   refine yO rfl rfl (pu_sadd rfl (ev_tmp rfl) (ev_tmp rfl) (by omega)) rfl ?_
   iterate 2 refine z ?_
   refine ok_region ?_
   refine z ?_
   refine yO rfl rfl (pu_quoN rfl (ev_tmp rfl) (ev_int (inR_lit rfl)) (by omega) (by omega)) rfl ?_
   refine z ?_
   refine ops_nil ?_
   iterate 2 refine z ?_
   refine ⟨(n / 10, strOf [UInt8.ofNat (IntKind.u8.wrap (48 + (n : Int) % 10)).toNat] ++ out), ?_, ?_, weak_sub ⟨rfl, rfl, rfl, trivial⟩ trivial trivial rfl⟩
   ·exact ⟨(mDig_go d2).trans hd, by rw [ByteArray.size_append, hs1]; dsimp only; omega⟩
   ·dsimp only; omega
  ·skip
   have d2 := of_decide_eq_false c2
   have hs9 : (ByteArray.mk #[109]).size = 1 := rfl
   iterate 7 refine z ?_
   refine yO rfl rfl (pu_sadd rfl (ev_str (str_lit rfl)) (ev_tmp rfl) (by omega)) rfl ?_
   iterate 4 refine z ?_
   rw [mText, if_neg d1, ← hd, mDig_end d2]
theorem ok_laws_markFieldS {x : List (FieldT)} {k : Int} (h0 : 0 ≤ k) (h1 : k + (wSum cField x : Int) ≤ 4611686018427387904) : WFn Try.prog 29 [.one (.key 0), .one (.dv [] (.int .i64 (k)))] (.one (.dv [] (.int .i64 (k + (wSum cField x : Int))))) [(0, kcOf true (.sl 83 2 (x.length) (x.flatMap eField)))] [(0, kcOf true (fieldsD (mkL mkField cField x k)))] := by
 refine ⟨fn_intro Try.func29 rfl Try.ntmps29 Try.results29 rfl (fun C => ?_)⟩
 have hln : x.length ≤ wSum cField x := wSum_ge (fun _ => by simp only [cField]; omega) x
 refine ok_fact (x := .tmp 1) (ev_tmp rfl) fun f1 => ?_
 iterate 8 refine z ?_
 refine ok_loop (ι := Nat) (fun zz => ⟨[(0, .one (.key 0)), (1, .one (.dv [] (.int .i64 (k + (wSum cField (x.take zz) : Int))))), (4, .one (.dv [] (.int .i64 (0)))), (5, .one (.dv [] (.int .i64 ((zz : Int)))))], [], [(0, some ⟨true, 83, 2, x.length, (mkL mkField cField (x.take zz) k).flatMap eField ++ (x.drop zz).flatMap eField⟩)]⟩) (fun zz => zz ≤ x.length) (fun zz => x.length - zz) (0) ?_ (weak_sub ⟨rfl, (eqSlotI (by simp [wSum])), rfl, rfl, trivial⟩ trivial ⟨rfl, trivial⟩ rfl) (fun zz hx => ?_)
 ·exact Nat.zero_le _
 obtain ⟨j, rfl⟩ : ∃ v, v = zz := ⟨_, rfl⟩
 replace hx : j ≤ x.length := hx
 have hw := fun h => wSum_succ cField x j h
 show Ok _ _ _ _ _ (⟨[(0, .one (.key 0)), (1, .one (.dv [] (.int .i64 (k + (wSum cField (x.take j) : Int))))), (4, .one (.dv [] (.int .i64 (0)))), (5, .one (.dv [] (.int .i64 ((j : Int)))))], [], [(0, some ⟨true, 83, 2, x.length, (mkL mkField cField (x.take j) k).flatMap eField ++ (x.drop j).flatMap eField⟩)]⟩ : St)
 iterate 4 refine z ?_
 refine yO rfl rfl (pu_lenKn (n := (x.length)) hT rfl rfl (ev_tmp rfl) rfl rfl) rfl ?_
 iterate 2 refine z ?_
 refine yQ rfl (fun c1 => ?_) fun c1 => ?_
 ·skip
  have d1 := of_decide_eq_true c1
  have hj : j < x.length := by omega
  obtain ⟨hw1, hw2⟩ := hw hj
  have hc : cField (x.getD (j : Int).toNat default) = 2 := rfl
  refine ok_kcs (k := 0) (cs' := mid ((mkL mkField cField (x.take j) k).flatMap eField) [.str ((x.getD (j : Int).toNat default).1), .int .i64 ((x.getD (j : Int).toNat default).2)] ((x.drop (j + 1)).flatMap eField)) rfl (mk_open hj) ?_
  iterate 8 refine z ?_
  refine zC Try.call28 ?_ (hf := ok_laws_markText (by omega))
  refine yO rfl rfl (pu_indexK (i := j) hT rfl rfl rfl (ev_tmp rfl) rfl (ev_tmp rfl) rfl (by show _ < (x.length); omega)) rfl ?_
  refine z ?_
  refine o_storeE (js := []) (cs := mid ((mkL mkField cField (x.take j) k).flatMap eField) [.str (mText (k + (wSum cField (x.take j) : Int))), .int .i64 ((x.getD (j : Int).toNat default).2)] ((x.drop (j + 1)).flatMap eField)) hT rfl rfl rfl rfl (ev_tmp rfl) (ev_tmp rfl) rfl rfl rfl rfl (ow_cons' (ow_dv rfl) ow_nil rfl) (by decide) (by decide) rfl (le_mid (off := (j * 2 + 0)) (n := 1) (j := 0) (mk_pre (sz := 2) (fun _ => rfl) (Nat.le_of_lt hj)) (by omega) (Nat.le_of_ble_eq_true rfl)) (setR_mid (off := (j * 2 + 0)) (j := 0) (mk_pre (sz := 2) (fun _ => rfl) (Nat.le_of_lt hj)) (by omega) rfl (Nat.le_of_ble_eq_true rfl)) ?_
  simp only [killT, killB, SV.kill, CV.kill, kk, Nat.reduceBEq]
  iterate 10 refine z ?_
  refine yO rfl rfl (pu_indexK (i := j) hT rfl rfl rfl (ev_tmp rfl) rfl (ev_tmp rfl) rfl (by show _ < (x.length); omega)) rfl ?_
  refine z ?_
  refine o_storeE (js := []) (cs := mid ((mkL mkField cField (x.take j) k).flatMap eField) [.str (mText (k + (wSum cField (x.take j) : Int))), .int .i64 ((k + (wSum cField (x.take j) : Int)) + (1))] ((x.drop (j + 1)).flatMap eField)) hT rfl rfl rfl rfl (ev_tmp rfl) (ev_tmp rfl) rfl rfl rfl rfl (ow_cons' (ow_dv rfl) ow_nil rfl) (by decide) (by decide) rfl (le_mid (off := (j * 2 + 1)) (n := 1) (j := 1) (mk_pre (sz := 2) (fun _ => rfl) (Nat.le_of_lt hj)) (by omega) (Nat.le_of_ble_eq_true rfl)) (setR_mid (off := (j * 2 + 1)) (j := 1) (mk_pre (sz := 2) (fun _ => rfl) (Nat.le_of_lt hj)) (by omega) rfl (Nat.le_of_ble_eq_true rfl)) ?_
  simp only [killT, killB, SV.kill, CV.kill, kk, Nat.reduceBEq]
  refine z ?_
  refine ok_region ?_
  iterate 3 refine z ?_
  refine ops_nil ?_
  iterate 2 refine z ?_
  refine ok_region ?_
  iterate 4 refine z ?_
  refine ⟨j + 1, ?_, ?_, weak_sub ⟨rfl, (eqSlotI (by omega)), rfl, rfl, trivial⟩ trivial ⟨(congrArg (fun cs => some (some (KC.mk true 83 2 x.length cs))) (mk_close (by omega) (by rfl))), trivial⟩ rfl⟩
  ·omega
  ·omega
 ·skip
  have d1 := of_decide_eq_false c1
  iterate 9 refine z ?_
  refine ok_weak (σ' := ⟨[(4, .one (.dv [] (.int .i64 (k + (wSum cField (x.take j) : Int)))))], [], [(0, some (kcOf true (fieldsD (mkL mkField cField x k))))]⟩) (weak_sub ⟨rfl, trivial⟩ trivial ⟨(mk_fin (by omega)), trivial⟩ rfl) ?_
  refine z ?_
  refine fin1 (res_tmp rfl) ⟨eqI ?_, w1_ok rfl⟩
  have hq := wSum_all cField x j (by omega); omega
theorem ok_laws_heldFieldS {x y : List (FieldT)} {k : Int} (hy : y = mkL mkField cField x k) (h0 : 0 ≤ k) (h1 : k + (wSum cField x : Int) ≤ 4611686018427387904) : PFn Try.prog 30 [.one (.dv [] (fieldsD (y))), .one (.dv [] (.int .i64 (k)))] (.one (.dv [] (.int .i64 (k + (wSum cField x : Int))))) := by
 refine ⟨fn_intro Try.func30 rfl Try.ntmps30 Try.results30 rfl (fun C => ?_)⟩
 refine ok_fact (x := .tmp 0) (ev_tmp rfl) fun f0 => ?_
 refine ok_fact (x := .tmp 1) (ev_tmp rfl) fun f1 => ?_
 iterate 8 refine z ?_
 refine ok_loop (ι := Nat) (fun zz => ⟨[(0, .one (.dv [] (fieldsD (y)))), (1, .one (.dv [] (.int .i64 (k + (wSum cField (x.take zz) : Int))))), (5, .one (.dv [] (.int .i64 ((zz : Int)))))], [], []⟩) (fun zz => zz ≤ x.length) (fun zz => x.length - zz) (0) ?_ (weak_sub ⟨rfl, (eqSlotI (by simp [wSum])), rfl, trivial⟩ trivial trivial rfl) (fun zz hx => ?_)
 ·exact Nat.zero_le _
 obtain ⟨j, rfl⟩ : ∃ v, v = zz := ⟨_, rfl⟩
 replace hx : j ≤ x.length := hx
 have hw := fun h => wSum_succ cField x j h
 have hyl : y.length = x.length := by rw [hy, mkL_len]
 show Ok _ _ _ _ _ (⟨[(0, .one (.dv [] (fieldsD (y)))), (1, .one (.dv [] (.int .i64 (k + (wSum cField (x.take j) : Int))))), (5, .one (.dv [] (.int .i64 ((j : Int)))))], [], []⟩ : St)
 iterate 7 refine z ?_
 refine yQ rfl (fun c1 => ?_) fun c1 => ?_
 ·skip
  have d1 := of_decide_eq_true c1
  have hj : j < x.length := by omega
  obtain ⟨hw1, hw2⟩ := hw hj
  have hc : cField (x.getD (j : Int).toNat default) = 2 := rfl
  have he : y.getD (j : Int).toNat default = mkField (x.getD (j : Int).toNat default) (k + (wSum cField (x.take j) : Int)) := by rw [hy]; exact mkL_getD hj
  iterate 4 refine z ?_
  refine ok_seq ?_
  refine ok_seq ?_
  refine ok_regionD (oB := []) (oK := []) (by kernel_rfl) rfl rfl ?_
  refine zD 0 ?_
  refine zD 1 ?_
  refine zD 2 ?_
  refine zD 3 ?_
  refine zD 4 ?_
  refine zD 5 ?_
  refine d_call 6 rfl (by kernel_rfl) rfl rfl rfl Try.call28 (ok_laws_markText (by omega)) (as_cons (ev_tmp rfl) (ag_one ac_dv) as_nil) rfl rfl rfl rfl ?_
  refine zD 7 ?_
  refine d_done (by kernel_rfl) ?_
  refine z ?_
  refine yQ rfl (fun c2 => ?_) fun c2 => ?_
  ·skip
   iterate 11 refine z ?_
   exfalso; rw [he] at c2; simp [mkField, sEq] at c2
  ·skip
   iterate 17 refine z ?_
   refine yQ rfl (fun c3 => ?_) fun c3 => ?_
   ·skip
    have d3 := nd_t c3
    iterate 11 refine z ?_
    exfalso; rw [he] at c3; simp [mkField, sEq] at c3
   ·skip
    have d3 := nd_f c3
    iterate 2 refine z ?_
    refine ok_region ?_
    iterate 3 refine z ?_
    refine ops_nil ?_
    iterate 2 refine z ?_
    refine ok_region ?_
    iterate 4 refine z ?_
    refine ⟨j + 1, ?_, ?_, weak_sub ⟨rfl, (eqSlotI (by omega)), rfl, trivial⟩ trivial trivial rfl⟩
    ·omega
    ·omega
 ·skip
  have d1 := of_decide_eq_false c1
  iterate 11 refine z ?_
  have hq := wSum_all cField x j (by omega); omega
theorem ok_laws_markItemS {x : List (ItemT)} {k : Int} (h0 : 0 ≤ k) (h1 : k + (wSum cItem x : Int) ≤ 4611686018427387904) : WFn Try.prog 14 [.one (.key 0), .one (.dv [] (.int .i64 (k)))] (.one (.dv [] (.int .i64 (k + (wSum cItem x : Int))))) [(0, kcOf true (.sl 53 4 (x.length) (x.flatMap eItem)))] [(0, kcOf true (itemsD (mkL mkItem cItem x k)))] := by
 refine ⟨fn_intro Try.func14 rfl Try.ntmps14 Try.results14 rfl (fun C => ?_)⟩
 have hln : x.length ≤ wSum cItem x := wSum_ge (fun _ => by simp only [cItem]; omega) x
 refine ok_fact (x := .tmp 1) (ev_tmp rfl) fun f1 => ?_
 iterate 8 refine z ?_
 refine ok_loop (ι := Nat) (fun zz => ⟨[(0, .one (.key 0)), (1, .one (.dv [] (.int .i64 (k + (wSum cItem (x.take zz) : Int))))), (4, .one (.dv [] (.int .i64 (0)))), (5, .one (.dv [] (.int .i64 ((zz : Int)))))], [], [(0, some ⟨true, 53, 4, x.length, (mkL mkItem cItem (x.take zz) k).flatMap eItem ++ (x.drop zz).flatMap eItem⟩)]⟩) (fun zz => zz ≤ x.length) (fun zz => x.length - zz) (0) ?_ (weak_sub ⟨rfl, (eqSlotI (by simp [wSum])), rfl, rfl, trivial⟩ trivial ⟨rfl, trivial⟩ rfl) (fun zz hx => ?_)
 ·exact Nat.zero_le _
 obtain ⟨j, rfl⟩ : ∃ v, v = zz := ⟨_, rfl⟩
 replace hx : j ≤ x.length := hx
 have hw := fun h => wSum_succ cItem x j h
 show Ok _ _ _ _ _ (⟨[(0, .one (.key 0)), (1, .one (.dv [] (.int .i64 (k + (wSum cItem (x.take j) : Int))))), (4, .one (.dv [] (.int .i64 (0)))), (5, .one (.dv [] (.int .i64 ((j : Int)))))], [], [(0, some ⟨true, 53, 4, x.length, (mkL mkItem cItem (x.take j) k).flatMap eItem ++ (x.drop j).flatMap eItem⟩)]⟩ : St)
 iterate 4 refine z ?_
 refine yO rfl rfl (pu_lenKn (n := (x.length)) hT rfl rfl (ev_tmp rfl) rfl rfl) rfl ?_
 iterate 2 refine z ?_
 refine yQ rfl (fun c1 => ?_) fun c1 => ?_
 ·skip
  have d1 := of_decide_eq_true c1
  have hj : j < x.length := by omega
  obtain ⟨hw1, hw2⟩ := hw hj
  have hc : cItem (x.getD (j : Int).toNat default) = 3 + wSum cField ((x.getD (j : Int).toNat default).2) := rfl
  refine ok_kcs (k := 0) (cs' := mid ((mkL mkItem cItem (x.take j) k).flatMap eItem) [.int .i64 ((x.getD (j : Int).toNat default).1.1), .int .i64 ((x.getD (j : Int).toNat default).1.2.1), .str ((x.getD (j : Int).toNat default).1.2.2), fieldsD ((x.getD (j : Int).toNat default).2)] ((x.drop (j + 1)).flatMap eItem)) rfl (mk_open hj) ?_
  iterate 8 refine z ?_
  refine yO rfl rfl (pu_indexK (i := j) hT rfl rfl rfl (ev_tmp rfl) rfl (ev_tmp rfl) rfl (by show _ < (x.length); omega)) rfl ?_
  iterate 2 refine z ?_
  refine o_storeE (js := []) (cs := mid ((mkL mkItem cItem (x.take j) k).flatMap eItem) [.int .i64 (k + (wSum cItem (x.take j) : Int)), .int .i64 ((x.getD (j : Int).toNat default).1.2.1), .str ((x.getD (j : Int).toNat default).1.2.2), fieldsD ((x.getD (j : Int).toNat default).2)] ((x.drop (j + 1)).flatMap eItem)) hT rfl rfl rfl rfl (ev_tmp rfl) (ev_tmp rfl) rfl rfl rfl rfl (ow_cons' (ow_dv rfl) ow_nil rfl) (by decide) (by decide) rfl (le_mid (off := ((j * 4 + 0) + 0)) (n := 1) (j := 0) (mk_pre (sz := 4) (fun _ => rfl) (Nat.le_of_lt hj)) (by omega) (Nat.le_of_ble_eq_true rfl)) (setR_mid (off := ((j * 4 + 0) + 0)) (j := 0) (mk_pre (sz := 4) (fun _ => rfl) (Nat.le_of_lt hj)) (by omega) rfl (Nat.le_of_ble_eq_true rfl)) ?_
  simp only [killT, killB, SV.kill, CV.kill, kk, Nat.reduceBEq]
  iterate 10 refine z ?_
  refine yO rfl rfl (pu_indexK (i := j) hT rfl rfl rfl (ev_tmp rfl) rfl (ev_tmp rfl) rfl (by show _ < (x.length); omega)) rfl ?_
  iterate 2 refine z ?_
  refine o_storeE (js := []) (cs := mid ((mkL mkItem cItem (x.take j) k).flatMap eItem) [.int .i64 (k + (wSum cItem (x.take j) : Int)), .int .i64 ((k + (wSum cItem (x.take j) : Int)) + (1)), .str ((x.getD (j : Int).toNat default).1.2.2), fieldsD ((x.getD (j : Int).toNat default).2)] ((x.drop (j + 1)).flatMap eItem)) hT rfl rfl rfl rfl (ev_tmp rfl) (ev_tmp rfl) rfl rfl rfl rfl (ow_cons' (ow_dv rfl) ow_nil rfl) (by decide) (by decide) rfl (le_mid (off := ((j * 4 + 0) + 1)) (n := 1) (j := 1) (mk_pre (sz := 4) (fun _ => rfl) (Nat.le_of_lt hj)) (by omega) (Nat.le_of_ble_eq_true rfl)) (setR_mid (off := ((j * 4 + 0) + 1)) (j := 1) (mk_pre (sz := 4) (fun _ => rfl) (Nat.le_of_lt hj)) (by omega) rfl (Nat.le_of_ble_eq_true rfl)) ?_
  simp only [killT, killB, SV.kill, CV.kill, kk, Nat.reduceBEq]
  iterate 10 refine z ?_
  refine zC Try.call28 ?_ (hf := ok_laws_markText (by omega))
  refine yO rfl rfl (pu_indexK (i := j) hT rfl rfl rfl (ev_tmp rfl) rfl (ev_tmp rfl) rfl (by show _ < (x.length); omega)) rfl ?_
  iterate 2 refine z ?_
  refine o_storeE (js := []) (cs := mid ((mkL mkItem cItem (x.take j) k).flatMap eItem) [.int .i64 (k + (wSum cItem (x.take j) : Int)), .int .i64 ((k + (wSum cItem (x.take j) : Int)) + (1)), .str (mText (((k + (wSum cItem (x.take j) : Int)) + (1)) + (1))), fieldsD ((x.getD (j : Int).toNat default).2)] ((x.drop (j + 1)).flatMap eItem)) hT rfl rfl rfl rfl (ev_tmp rfl) (ev_tmp rfl) rfl rfl rfl rfl (ow_cons' (ow_dv rfl) ow_nil rfl) (by decide) (by decide) rfl (le_mid (off := ((j * 4 + 0) + 2)) (n := 1) (j := 2) (mk_pre (sz := 4) (fun _ => rfl) (Nat.le_of_lt hj)) (by omega) (Nat.le_of_ble_eq_true rfl)) (setR_mid (off := ((j * 4 + 0) + 2)) (j := 2) (mk_pre (sz := 4) (fun _ => rfl) (Nat.le_of_lt hj)) (by omega) rfl (Nat.le_of_ble_eq_true rfl)) ?_
  simp only [killT, killB, SV.kill, CV.kill, kk, Nat.reduceBEq]
  iterate 6 refine z ?_
  refine ok_region ?_
  iterate 2 refine z ?_
  refine yO rfl rfl (pu_indexK (i := j) hT rfl rfl rfl (ev_tmp rfl) rfl (ev_tmp rfl) rfl (by show _ < (x.length); omega)) rfl ?_
  iterate 2 refine z ?_
  refine yO rfl rfl (pu_loadE1 hT rfl rfl (ev_tmp rfl) rfl (get_mid (off := ((j * 4 + 3) + 0)) (j := 3) (mk_pre (sz := 4) (fun _ => rfl) (Nat.le_of_lt hj)) (by omega) rfl)) rfl ?_
  refine z ?_
  refine o_callN (t := 42) (ccs := mid ((mkL mkItem cItem (x.take j) k).flatMap eItem) [.int .i64 (k + (wSum cItem (x.take j) : Int)), .int .i64 ((k + (wSum cItem (x.take j) : Int)) + (1)), .str (mText (((k + (wSum cItem (x.take j) : Int)) + (1)) + (1))), fieldsD (mkL mkField cField ((x.getD (j : Int).toNat default).2) ((((k + (wSum cItem (x.take j) : Int)) + (1)) + (1)) + (1)))] ((x.drop (j + 1)).flatMap eItem)) 5044 rfl rfl rfl Try.call29 (ok_laws_markFieldS (by omega) (by omega)) rfl rfl (get_mid (off := ((j * 4 + 3) + 0)) (j := 3) (mk_pre (sz := 4) (fun _ => rfl) (Nat.le_of_lt hj)) (by omega) rfl) rfl (aw_cons (ev_tmp rfl) (aw_one (awc_key rfl)) (aw_cons (ev_tmp rfl) (aw_one (awc_dv rfl)) aw_nil)) rfl rfl (set_mid (off := ((j * 4 + 3) + 0)) (j := 3) (mk_pre (sz := 4) (fun _ => rfl) (Nat.le_of_lt hj)) (by omega) rfl (Nat.lt_of_lt_of_le (Nat.lt_succ_self _) (Nat.le_of_ble_eq_true rfl))) ?_
  simp only [killT, killB, SV.kill, CV.kill, kk, Nat.reduceBEq]
  refine z ?_
  refine ops_nil ?_
  iterate 2 refine z ?_
  refine ok_region ?_
  iterate 4 refine z ?_
  refine ⟨j + 1, ?_, ?_, weak_sub ⟨rfl, (eqSlotI (by omega)), rfl, rfl, trivial⟩ trivial ⟨(congrArg (fun cs => some (some (KC.mk true 53 4 x.length cs))) (mk_close (by omega) (by rfl))), trivial⟩ rfl⟩
  ·omega
  ·omega
 ·skip
  have d1 := of_decide_eq_false c1
  iterate 9 refine z ?_
  refine ok_weak (σ' := ⟨[(4, .one (.dv [] (.int .i64 (k + (wSum cItem (x.take j) : Int)))))], [], [(0, some (kcOf true (itemsD (mkL mkItem cItem x k))))]⟩) (weak_sub ⟨rfl, trivial⟩ trivial ⟨(mk_fin (by omega)), trivial⟩ rfl) ?_
  refine z ?_
  refine fin1 (res_tmp rfl) ⟨eqI ?_, w1_ok rfl⟩
  have hq := wSum_all cItem x j (by omega); omega
theorem ok_laws_heldItemS {x y : List (ItemT)} {k : Int} (hy : y = mkL mkItem cItem x k) (h0 : 0 ≤ k) (h1 : k + (wSum cItem x : Int) ≤ 4611686018427387904) : PFn Try.prog 15 [.one (.dv [] (itemsD (y))), .one (.dv [] (.int .i64 (k)))] (.one (.dv [] (.int .i64 (k + (wSum cItem x : Int))))) := by
 refine ⟨fn_intro Try.func15 rfl Try.ntmps15 Try.results15 rfl (fun C => ?_)⟩
 refine ok_fact (x := .tmp 0) (ev_tmp rfl) fun f0 => ?_
 refine ok_fact (x := .tmp 1) (ev_tmp rfl) fun f1 => ?_
 iterate 8 refine z ?_
 refine ok_loop (ι := Nat) (fun zz => ⟨[(0, .one (.dv [] (itemsD (y)))), (1, .one (.dv [] (.int .i64 (k + (wSum cItem (x.take zz) : Int))))), (5, .one (.dv [] (.int .i64 ((zz : Int)))))], [], []⟩) (fun zz => zz ≤ x.length) (fun zz => x.length - zz) (0) ?_ (weak_sub ⟨rfl, (eqSlotI (by simp [wSum])), rfl, trivial⟩ trivial trivial rfl) (fun zz hx => ?_)
 ·exact Nat.zero_le _
 obtain ⟨j, rfl⟩ : ∃ v, v = zz := ⟨_, rfl⟩
 replace hx : j ≤ x.length := hx
 have hw := fun h => wSum_succ cItem x j h
 have hyl : y.length = x.length := by rw [hy, mkL_len]
 show Ok _ _ _ _ _ (⟨[(0, .one (.dv [] (itemsD (y)))), (1, .one (.dv [] (.int .i64 (k + (wSum cItem (x.take j) : Int))))), (5, .one (.dv [] (.int .i64 ((j : Int)))))], [], []⟩ : St)
 iterate 7 refine z ?_
 refine yQ rfl (fun c1 => ?_) fun c1 => ?_
 ·skip
  have d1 := of_decide_eq_true c1
  have hj : j < x.length := by omega
  obtain ⟨hw1, hw2⟩ := hw hj
  have hc : cItem (x.getD (j : Int).toNat default) = 3 + wSum cField ((x.getD (j : Int).toNat default).2) := rfl
  have he : y.getD (j : Int).toNat default = mkItem (x.getD (j : Int).toNat default) (k + (wSum cItem (x.take j) : Int)) := by rw [hy]; exact mkL_getD hj
  iterate 15 refine z ?_
  refine yQ rfl (fun c2 => ?_) fun c2 => ?_
  ·skip
   have d2 := nd_t c2
   iterate 11 refine z ?_
   exfalso; rw [he] at c2; simp [mkItem, sEq] at c2
  ·skip
   have d2 := nd_f c2
   iterate 18 refine z ?_
   refine yQ rfl (fun c3 => ?_) fun c3 => ?_
   ·skip
    have d3 := nd_t c3
    iterate 11 refine z ?_
    exfalso; rw [he] at c3; simp [mkItem, sEq] at c3
   ·skip
    have d3 := nd_f c3
    iterate 7 refine z ?_
    refine ok_seq ?_
    refine ok_seq ?_
    refine ok_regionD (oB := []) (oK := []) (by kernel_rfl) rfl rfl ?_
    refine zD 0 ?_
    refine zD 1 ?_
    refine zD 2 ?_
    refine zD 3 ?_
    refine zD 4 ?_
    refine zD 5 ?_
    refine zD 6 ?_
    refine d_call 7 rfl (by kernel_rfl) rfl rfl rfl Try.call28 (ok_laws_markText (by omega)) (as_cons (ev_tmp rfl) (ag_one ac_dv) as_nil) rfl rfl rfl rfl ?_
    refine zD 8 ?_
    refine d_done (by kernel_rfl) ?_
    refine z ?_
    refine yQ rfl (fun c4 => ?_) fun c4 => ?_
    ·skip
     iterate 11 refine z ?_
     exfalso; rw [he] at c4; simp [mkItem, sEq] at c4
    ·skip
     iterate 15 refine z ?_
     refine zC Try.call30 ?_ (hf := ok_laws_heldFieldS (x := (x.getD (j : Int).toNat default).2) (by rw [he]; rfl) (by omega) (by omega))
     iterate 6 refine z ?_
     refine yQ rfl (fun c5 => ?_) fun c5 => ?_
     ·skip
      have d5 := of_decide_eq_true c5
      iterate 10 refine z ?_
      exfalso; omega
     ·skip
      have d5 := of_decide_eq_false c5
      iterate 3 refine z ?_
      refine ok_region ?_
      iterate 4 refine z ?_
      refine ⟨j + 1, ?_, ?_, weak_sub ⟨rfl, (eqSlotI (by omega)), rfl, trivial⟩ trivial trivial rfl⟩
      ·omega
      ·omega
 ·skip
  have d1 := of_decide_eq_false c1
  iterate 11 refine z ?_
  have hq := wSum_all cItem x j (by omega); omega
theorem ok_laws_markRecord {x : RecT} {k : Int} (h0 : 0 ≤ k) (h1 : (k) + (wSum cField (x) : Int) ≤ 4611686018427387904) : WFn Try.prog 40 [.agg [(.key 0)], .one (.dv [] (.int .i64 (k)))] (.one (.dv [] (.int .i64 ((k) + (wSum cField (x) : Int))))) [(0, kcOf true (.sl 83 2 ((x).length) ((x).flatMap eField)))] [(0, kcOf true (fieldsD (mkL mkField cField (x) (k))))] := by
 refine ⟨fn_intro Try.func40 rfl Try.ntmps40 Try.results40 rfl (fun C => ?_)⟩
 refine ok_fact (x := .tmp 1) (ev_tmp rfl) fun f1 => ?_
 iterate 8 refine z ?_
 refine o_callW [(0, 0, ⟨true, _, _, _, _⟩, ⟨true, _, _, _, _⟩)] rfl rfl rfl Try.call29 (ok_laws_markFieldS (x := x) (by omega) (by omega)) ⟨rfl, trivial⟩ rfl (aw_cons (ev_tmp rfl) (aw_one (awc_key rfl)) (aw_cons (ev_tmp rfl) (aw_one (awc_dv rfl)) aw_nil)) rfl rfl ?_
 simp only [killT, killB, SV.kill, CV.kill, kk, Nat.reduceBEq]
 iterate 6 refine z ?_
 refine ok_weak (σ' := ⟨[(4, .one (.dv [] (.int .i64 ((k) + (wSum cField (x) : Int)))))], [], [(0, some (kcOf true (fieldsD (mkL mkField cField (x) (k)))))]⟩) (weak_sub ⟨rfl, trivial⟩ trivial ⟨rfl, trivial⟩ rfl) ?_
 refine z ?_
 refine fin1 (res_tmp rfl) ⟨eqI ?_, w1_ok rfl⟩
 rfl
theorem ok_laws_heldRecord {x y : RecT} {k : Int} (hy : y = mvRecord x k) (h0 : 0 ≤ k) (h1 : (k) + (wSum cField (x) : Int) ≤ 4611686018427387904) : PFn Try.prog 41 [.agg [(.dv [] (fieldsD (y)))], .one (.dv [] (.int .i64 (k)))] (.one (.dv [] (.int .i64 ((k) + (wSum cField (x) : Int))))) := by
 refine ⟨fn_intro Try.func41 rfl Try.ntmps41 Try.results41 rfl (fun C => ?_)⟩
 refine yF 0 0 rfl rfl fun f0_0 => ?_
 refine ok_fact (x := .tmp 1) (ev_tmp rfl) fun f1 => ?_
 iterate 8 refine z ?_
 refine zC Try.call30 ?_ (hf := ok_laws_heldFieldS (x := x) (by rw [hy]; rfl) (by omega) (by omega))
 iterate 7 refine z ?_
 refine yQ rfl (fun c1 => ?_) fun c1 => ?_
 ·skip
  have d1 := of_decide_eq_true c1
  iterate 6 refine z ?_
  exfalso; omega
 ·skip
  have d1 := of_decide_eq_false c1
  iterate 8 refine z ?_
  rfl
theorem ok_laws_markItem {x : ItemT} {k : Int} (h0 : 0 ≤ k) (h1 : (k) + (wSum cField (x.2) : Int) ≤ 4611686018427387904) : WFn Try.prog 20 [.agg [(.dv [] (.int .i64 (x.1.1))), (.dv [] (.int .i64 (x.1.2.1))), (.dv [] (.str (x.1.2.2))), (.key 0)], .one (.dv [] (.int .i64 (k)))] (.one (.dv [] (.int .i64 ((k) + (wSum cField (x.2) : Int))))) [(0, kcOf true (.sl 83 2 ((x.2).length) ((x.2).flatMap eField)))] [(0, kcOf true (fieldsD (mkL mkField cField (x.2) (k))))] := by
 refine ⟨fn_intro Try.func20 rfl Try.ntmps20 Try.results20 rfl (fun C => ?_)⟩
 refine yF 0 0 rfl rfl fun f0_0 => ?_
 refine yF 0 1 rfl rfl fun f0_1 => ?_
 refine yF 0 2 rfl rfl fun f0_2 => ?_
 refine ok_fact (x := .tmp 1) (ev_tmp rfl) fun f1 => ?_
 iterate 8 refine z ?_
 refine o_callW [(0, 0, ⟨true, _, _, _, _⟩, ⟨true, _, _, _, _⟩)] rfl rfl rfl Try.call40 (ok_laws_markRecord (x := x.2) (by omega) (by omega)) ⟨rfl, trivial⟩ rfl (aw_cons (ev_tmp rfl) (aw_agg (awc_cons (awc_key rfl) awc_nil)) (aw_cons (ev_tmp rfl) (aw_one (awc_dv rfl)) aw_nil)) rfl rfl ?_
 simp only [killT, killB, SV.kill, CV.kill, kk, Nat.reduceBEq]
 iterate 6 refine z ?_
 refine ok_weak (σ' := ⟨[(4, .one (.dv [] (.int .i64 ((k) + (wSum cField (x.2) : Int)))))], [], [(0, some (kcOf true (fieldsD (mkL mkField cField (x.2) (k)))))]⟩) (weak_sub ⟨rfl, trivial⟩ trivial ⟨rfl, trivial⟩ rfl) ?_
 refine z ?_
 refine fin1 (res_tmp rfl) ⟨eqI ?_, w1_ok rfl⟩
 rfl
theorem ok_laws_heldItem {x y : ItemT} {k : Int} (hy : y = mvItem x k) (h0 : 0 ≤ k) (h1 : (k) + (wSum cField (x.2) : Int) ≤ 4611686018427387904) : PFn Try.prog 21 [.agg [(.dv [] (.int .i64 (y.1.1))), (.dv [] (.int .i64 (y.1.2.1))), (.dv [] (.str (y.1.2.2))), (.dv [] (fieldsD (y.2)))], .one (.dv [] (.int .i64 (k)))] (.one (.dv [] (.int .i64 ((k) + (wSum cField (x.2) : Int))))) := by
 refine ⟨fn_intro Try.func21 rfl Try.ntmps21 Try.results21 rfl (fun C => ?_)⟩
 refine yF 0 0 rfl rfl fun f0_0 => ?_
 refine yF 0 1 rfl rfl fun f0_1 => ?_
 refine yF 0 2 rfl rfl fun f0_2 => ?_
 refine yF 0 3 rfl rfl fun f0_3 => ?_
 refine ok_fact (x := .tmp 1) (ev_tmp rfl) fun f1 => ?_
 iterate 8 refine z ?_
 refine zC Try.call41 ?_ (hf := ok_laws_heldRecord (x := x.2) (by rw [hy]; rfl) (by omega) (by omega))
 iterate 7 refine z ?_
 refine yQ rfl (fun c1 => ?_) fun c1 => ?_
 ·skip
  have d1 := of_decide_eq_true c1
  iterate 6 refine z ?_
  exfalso; omega
 ·skip
  have d1 := of_decide_eq_false c1
  iterate 8 refine z ?_
  rfl
end Go.Proofs.Ytjeiflklhchjpaa

namespace Go.Proofs.Ytjeiflklhchjpaa
open Go.RowKit
open Go.Proofs
set_option linter.unusedVariables false
set_option linter.unusedSimpArgs false
theorem ok_laws_markStore {x : StoreT} {k : Int} (h0 : 0 ≤ k) (h1 : (k) + (wSum cItem (x.2.1) : Int) ≤ 4611686018427387904) : WFn Try.prog 13 [.agg [(.dv [] (.str (x.1))), (.key 0), (.dv [] (.int .i64 (x.2.2)))], .one (.dv [] (.int .i64 (k)))] (.one (.dv [] (.int .i64 ((k) + (wSum cItem (x.2.1) : Int))))) [(0, kcOf true (.sl 53 4 ((x.2.1).length) ((x.2.1).flatMap eItem)))] [(0, kcOf true (itemsD (mkL mkItem cItem (x.2.1) (k))))] := by
 refine ⟨fn_intro Try.func13 rfl Try.ntmps13 Try.results13 rfl (fun C => ?_)⟩
 refine yF 0 0 rfl rfl fun f0_0 => ?_
 refine yF 0 2 rfl rfl fun f0_2 => ?_
 refine ok_fact (x := .tmp 1) (ev_tmp rfl) fun f1 => ?_
 iterate 8 refine z ?_
 refine o_callW [(0, 0, ⟨true, _, _, _, _⟩, ⟨true, _, _, _, _⟩)] rfl rfl rfl Try.call14 (ok_laws_markItemS (x := x.2.1) (by omega) (by omega)) ⟨rfl, trivial⟩ rfl (aw_cons (ev_tmp rfl) (aw_one (awc_key rfl)) (aw_cons (ev_tmp rfl) (aw_one (awc_dv rfl)) aw_nil)) rfl rfl ?_
 simp only [killT, killB, SV.kill, CV.kill, kk, Nat.reduceBEq]
 iterate 6 refine z ?_
 refine ok_weak (σ' := ⟨[(4, .one (.dv [] (.int .i64 ((k) + (wSum cItem (x.2.1) : Int)))))], [], [(0, some (kcOf true (itemsD (mkL mkItem cItem (x.2.1) (k)))))]⟩) (weak_sub ⟨rfl, trivial⟩ trivial ⟨rfl, trivial⟩ rfl) ?_
 refine z ?_
 refine fin1 (res_tmp rfl) ⟨eqI ?_, w1_ok rfl⟩
 rfl
end Go.Proofs.Ytjeiflklhchjpaa

namespace Go.Proofs.Ytjeiflklhchjpaa
open Go.RowKit
open Go.Proofs
set_option linter.unusedVariables false
set_option linter.unusedSimpArgs false

def sgnI (a b : Int) : Int := if a < b then -1 else if b < a then 1 else 0
def cmpK (a b : KeyT) : Int := if !isKey a || !isKey b then 0 else if ¬ a.1 = b.1 then sgnI a.1 b.1 else if ¬ a.2.1 = b.2.1 then sgnI a.2.1 b.2.1 else sgnS a.2.2 b.2.2
def signB (a b : Bool) : Int := if a then -1 else if b then 1 else 0
theorem sgnI_zero {a b : Int} : sgnI a b = 0 ↔ a = b := by unfold sgnI; split <;> (try split) <;> omega
theorem cmpK_bad {a b : KeyT} (h : (!isKey a || !isKey b) = true) : cmpK a b = 0 := by rw [cmpK, if_pos h]
theorem cmpK_kind {a b : KeyT} (h : (!isKey a || !isKey b) = false) (h1 : ¬ a.1 = b.1) : cmpK a b = sgnI a.1 b.1 := by rw [cmpK, if_neg (by rw [h]; simp), if_pos h1]
theorem cmpK_num {a b : KeyT} (h : (!isKey a || !isKey b) = false) (h1 : a.1 = b.1) (h2 : ¬ a.2.1 = b.2.1) : cmpK a b = sgnI a.2.1 b.2.1 := by rw [cmpK, if_neg (by rw [h]; simp), if_neg (by simp [h1]), if_pos h2]
theorem cmpK_text {a b : KeyT} (h : (!isKey a || !isKey b) = false) (h1 : a.1 = b.1) (h2 : a.2.1 = b.2.1) : cmpK a b = sgnS a.2.2 b.2.2 := by rw [cmpK, if_neg (by rw [h]; simp), if_neg (by simp [h1]), if_neg (by simp [h2])]
theorem sLe_not (a b : Str) : (!(sLt a b || sEq a b)) = sLt b a := by rw [sLe_eq, Bool.not_not]
def inRg (k : KeyT) (r : RangeT) : Bool := !((!isKey k || (r.1 && !isKey r.2.2.1)) || (r.2.1 && !isKey r.2.2.2)) && ((!r.1 || decide (cmpK r.2.2.1 k ≤ 0)) && (!r.2.1 || decide (cmpK k r.2.2.2 ≤ 0)))
theorem sgnI_swap (a b : Int) : sgnI a b = - sgnI b a := by unfold sgnI; split <;> split <;> (try split) <;> omega
theorem sgnS_swap (a b : Str) : sgnS a b = - sgnS b a := by
 unfold sgnS
 cases h1 : sLt a b <;> cases h2 : sLt b a <;> simp
 have h := sLe_eq a b
 rw [h1, h2] at h
 simp at h
theorem cmpK_swap (a b : KeyT) : cmpK a b = - cmpK b a := by
 by_cases h : (!isKey a || !isKey b) = true
 ·rw [cmpK_bad h, cmpK_bad (by rw [Bool.or_comm]; exact h)]; rfl
 ·have h : (!isKey a || !isKey b) = false := by simpa using h
  have h' : (!isKey b || !isKey a) = false := by rw [Bool.or_comm]; exact h
  by_cases h1 : a.1 = b.1
  ·by_cases h2 : a.2.1 = b.2.1
   ·rw [cmpK_text h h1 h2, cmpK_text h' h1.symm h2.symm, sgnS_swap]
   ·rw [cmpK_num h h1 h2, cmpK_num h' h1.symm (fun e => h2 e.symm), sgnI_swap]
  ·rw [cmpK_kind h h1, cmpK_kind h' (fun e => h1 e.symm), sgnI_swap]
def curOk (x : CursorT) (k : KeyT) : Bool := inRg k x.1 && (!x.2.2.1 || (if x.2.1 then decide (cmpK k x.2.2.2 < 0) else decide (0 < cmpK k x.2.2.2)))
def curAt (x : CursorT) (its : List ItemT) : Nat → Int
 | 0 => -1
 | k + 1 => if curOk x (its.getD (k : Int).toNat default).1 && (decide (curAt x its k < 0) || x.2.1) then (k : Int) else curAt x its k
theorem curAt_yes {x : CursorT} {its : List ItemT} {k : Nat} (h : (curOk x (its.getD (k : Int).toNat default).1 && (decide (curAt x its k < 0) || x.2.1)) = true) : (k : Int) = curAt x its (k + 1) := by rw [curAt, if_pos h]
theorem curAt_no {x : CursorT} {its : List ItemT} {k : Nat} (h : (curOk x (its.getD (k : Int).toNat default).1 && (decide (curAt x its k < 0) || x.2.1)) = false) : curAt x its k = curAt x its (k + 1) := by rw [curAt, if_neg (by rw [h]; simp)]
theorem curAt_le (x : CursorT) (its : List ItemT) : ∀ k, -1 ≤ curAt x its k ∧ curAt x its k < k
 | 0 => by simp [curAt]
 | k + 1 => by
  have := curAt_le x its k
  rw [curAt]; split <;> omega
def curNext (s : StoreT) (x : CursorT) : CursorT × ItemT × Bool :=
 if curAt x s.2.1 s.2.1.length < 0 then (x, ((0, 0, ByteArray.empty), []), false)
 else ((x.1, x.2.1, true, (s.2.1.getD (curAt x s.2.1 s.2.1.length).toNat default).1), s.2.1.getD (curAt x s.2.1 s.2.1.length).toNat default, true)
theorem curNext_no {s : StoreT} {x : CursorT} (h : curAt x s.2.1 s.2.1.length < 0) : curNext s x = (x, ((0, 0, ByteArray.empty), []), false) := if_pos h
theorem curNext_yes {s : StoreT} {x : CursorT} (h : ¬ curAt x s.2.1 s.2.1.length < 0) : curNext s x = ((x.1, x.2.1, true, (s.2.1.getD (curAt x s.2.1 s.2.1.length).toNat default).1), s.2.1.getD (curAt x s.2.1 s.2.1.length).toNat default, true) := if_neg h

theorem ok_spec_l4Sign {x y : Bool}  : PFn Try.prog 45 [.one (.dv [] (.bool (x))), .one (.dv [] (.bool (y)))] (.one (.dv [] (.int .i64 (signB x y)))) := by
 refine ⟨fn_intro Try.func45 rfl Try.ntmps45 Try.results45 rfl (fun C => ?_)⟩
 iterate 7 refine z ?_
 refine yQ rfl (fun c1 => ?_) fun c1 => ?_
 ·skip
  iterate 6 refine z ?_
  rw [signB, if_pos c1]
 ·skip
  iterate 6 refine z ?_
  refine yQ rfl (fun c2 => ?_) fun c2 => ?_
  ·skip
   iterate 6 refine z ?_
   rw [signB, if_neg (by rw [c1]; simp), if_pos c2]
  ·skip
   iterate 7 refine z ?_
   rw [signB, if_neg (by rw [c1]; simp), if_neg (by rw [c2]; simp)]
theorem ok_impl_compareInts {x y : Int}  : PFn Try.prog 48 [.one (.dv [] (.int .i64 (x))), .one (.dv [] (.int .i64 (y)))] (.one (.dv [] (.int .i64 (sgnI x y)))) := by
 refine ⟨fn_intro Try.func48 rfl Try.ntmps48 Try.results48 rfl (fun C => ?_)⟩
 refine ok_fact (x := .tmp 0) (ev_tmp rfl) fun f0 => ?_
 refine ok_fact (x := .tmp 1) (ev_tmp rfl) fun f1 => ?_
 iterate 11 refine z ?_
 refine yQ rfl (fun c1 => ?_) fun c1 => ?_
 ·skip
  have d1 := of_decide_eq_true c1
  iterate 7 refine z ?_
  rw [sgnI, if_pos d1]
 ·skip
  have d1 := of_decide_eq_false c1
  iterate 6 refine z ?_
  refine yQ rfl (fun c2 => ?_) fun c2 => ?_
  ·skip
   have d2 := of_decide_eq_true c2
   iterate 7 refine z ?_
   rw [sgnI, if_neg d1, if_pos d2]
  ·skip
   have d2 := of_decide_eq_false c2
   iterate 8 refine z ?_
   rw [sgnI, if_neg d1, if_neg d2]
theorem ok_impl_CompareKeys {x y : KeyT}  : PFn Try.prog 34 [.agg [(.dv [] (.int .i64 (x.1))), (.dv [] (.int .i64 (x.2.1))), (.dv [] (.str (x.2.2)))], .agg [(.dv [] (.int .i64 (y.1))), (.dv [] (.int .i64 (y.2.1))), (.dv [] (.str (y.2.2)))]] (.one (.dv [] (.int .i64 (cmpK x y)))) := by
 refine ⟨fn_intro Try.func34 rfl Try.ntmps34 Try.results34 rfl (fun C => ?_)⟩
 refine yF 0 0 rfl rfl fun f0_0 => ?_
 refine yF 0 1 rfl rfl fun f0_1 => ?_
 refine yF 0 2 rfl rfl fun f0_2 => ?_
 refine yF 1 0 rfl rfl fun f1_0 => ?_
 refine yF 1 1 rfl rfl fun f1_1 => ?_
 refine yF 1 2 rfl rfl fun f1_2 => ?_
 iterate 8 refine z ?_
 refine zC Try.call47 ?_ (hf := ok_impl_IsKey)
 iterate 3 refine z ?_
 refine o_callG (gd_bool rfl rfl rfl rfl rfl) rfl rfl Try.call47 ok_impl_IsKey (fun hg => (as_cons (ev_opt rfl hg) (ag_agg (ag_cons ac_dv (ag_cons ac_dv (ag_cons ac_dv ag_nil)))) as_nil)) rfl rfl ?_
 iterate 3 refine z ?_
 refine yQ rfl (fun c1 => ?_) fun c1 => ?_
 ·skip
  iterate 6 refine z ?_
  rw [cmpK_bad c1]
 ·skip
  iterate 8 refine z ?_
  refine zC Try.call48 ?_ (hf := ok_impl_compareInts)
  iterate 6 refine z ?_
  refine yQ rfl (fun c2 => ?_) fun c2 => ?_
  ·skip
   have d2 := nd_t c2
   iterate 7 refine z ?_
   rw [cmpK_kind c1 (fun e => d2 (sgnI_zero.2 e))]
  ·skip
   have d2 := nd_f c2
   iterate 8 refine z ?_
   refine zC Try.call48 ?_ (hf := ok_impl_compareInts)
   iterate 6 refine z ?_
   refine yQ rfl (fun c3 => ?_) fun c3 => ?_
   ·skip
    have d3 := nd_t c3
    iterate 7 refine z ?_
    rw [cmpK_num c1 (sgnI_zero.1 d2) (fun e => d3 (sgnI_zero.2 e))]
   ·skip
    have d3 := nd_f c3
    iterate 7 refine z ?_
    refine zC Try.call49 ?_ (hf := ok_strings_Compare)
    iterate 4 refine z ?_
    rw [cmpK_text c1 (sgnI_zero.1 d2) (sgnI_zero.1 d3)]
theorem ok_spec_CompareKeys {x y : KeyT}  : PFn Try.prog 31 [.agg [(.dv [] (.int .i64 (x.1))), (.dv [] (.int .i64 (x.2.1))), (.dv [] (.str (x.2.2)))], .agg [(.dv [] (.int .i64 (y.1))), (.dv [] (.int .i64 (y.2.1))), (.dv [] (.str (y.2.2)))]] (.one (.dv [] (.int .i64 (cmpK x y)))) := by
 refine ⟨fn_intro Try.func31 rfl Try.ntmps31 Try.results31 rfl (fun C => ?_)⟩
 refine yF 0 0 rfl rfl fun f0_0 => ?_
 refine yF 0 1 rfl rfl fun f0_1 => ?_
 refine yF 0 2 rfl rfl fun f0_2 => ?_
 refine yF 1 0 rfl rfl fun f1_0 => ?_
 refine yF 1 1 rfl rfl fun f1_1 => ?_
 refine yF 1 2 rfl rfl fun f1_2 => ?_
 iterate 8 refine z ?_
 refine zC Try.call44 ?_ (hf := ok_spec_IsKey)
 iterate 3 refine z ?_
 refine o_callG (gd_bool rfl rfl rfl rfl rfl) rfl rfl Try.call44 ok_spec_IsKey (fun hg => (as_cons (ev_opt rfl hg) (ag_agg (ag_cons ac_dv (ag_cons ac_dv (ag_cons ac_dv ag_nil)))) as_nil)) rfl rfl ?_
 iterate 3 refine z ?_
 refine yQ rfl (fun c1 => ?_) fun c1 => ?_
 ·skip
  iterate 6 refine z ?_
  rw [cmpK_bad c1]
 ·skip
  iterate 10 refine z ?_
  refine yQ rfl (fun c2 => ?_) fun c2 => ?_
  ·skip
   have d2 := nd_t c2
   iterate 6 refine z ?_
   refine zC Try.call45 ?_ (hf := ok_spec_l4Sign)
   iterate 5 refine z ?_
   rw [cmpK_kind c1 d2]; unfold signB sgnI; split <;> split <;> simp_all <;> omega
  ·skip
   have d2 := nd_f c2
   iterate 10 refine z ?_
   refine yQ rfl (fun c3 => ?_) fun c3 => ?_
   ·skip
    have d3 := nd_t c3
    iterate 6 refine z ?_
    refine zC Try.call45 ?_ (hf := ok_spec_l4Sign)
    iterate 5 refine z ?_
    rw [cmpK_num c1 d2 d3]; unfold signB sgnI; split <;> split <;> simp_all <;> omega
   ·skip
    have d3 := nd_f c3
    iterate 13 refine z ?_
    refine zC Try.call45 ?_ (hf := ok_spec_l4Sign)
    iterate 4 refine z ?_
    rw [cmpK_text c1 d2 d3, sLe_not]; unfold signB sgnS; rfl
theorem ok_impl_InRangeOf {x : KeyT} {y : RangeT}  : PFn Try.prog 35 [.agg [(.dv [] (.int .i64 (x.1))), (.dv [] (.int .i64 (x.2.1))), (.dv [] (.str (x.2.2)))], .agg [(.dv [] (.bool (y.1))), (.dv [] (.bool (y.2.1))), (.dv [] (.int .i64 (y.2.2.1.1))), (.dv [] (.int .i64 (y.2.2.1.2.1))), (.dv [] (.str (y.2.2.1.2.2))), (.dv [] (.int .i64 (y.2.2.2.1))), (.dv [] (.int .i64 (y.2.2.2.2.1))), (.dv [] (.str (y.2.2.2.2.2)))]] (.one (.dv [] (.bool (inRg x y)))) := by
 refine ⟨fn_intro Try.func35 rfl Try.ntmps35 Try.results35 rfl (fun C => ?_)⟩
 refine yF 0 0 rfl rfl fun f0_0 => ?_
 refine yF 0 1 rfl rfl fun f0_1 => ?_
 refine yF 0 2 rfl rfl fun f0_2 => ?_
 refine yF 1 2 rfl rfl fun f1_2 => ?_
 refine yF 1 3 rfl rfl fun f1_3 => ?_
 refine yF 1 4 rfl rfl fun f1_4 => ?_
 refine yF 1 5 rfl rfl fun f1_5 => ?_
 refine yF 1 6 rfl rfl fun f1_6 => ?_
 refine yF 1 7 rfl rfl fun f1_7 => ?_
 iterate 8 refine z ?_
 refine zC Try.call47 ?_ (hf := ok_impl_IsKey)
 iterate 7 refine z ?_
 refine o_callG (gd_opt rfl rfl rfl rfl rfl) rfl rfl Try.call47 ok_impl_IsKey (fun hg => (as_cons (ev_opt rfl hg) (ag_agg (ag_cons ac_dv (ag_cons ac_dv (ag_cons ac_dv ag_nil)))) as_nil)) rfl rfl ?_
 iterate 9 refine z ?_
 refine o_callG (gd_opt rfl rfl rfl rfl rfl) rfl rfl Try.call47 ok_impl_IsKey (fun hg => (as_cons (ev_opt rfl hg) (ag_agg (ag_cons ac_dv (ag_cons ac_dv (ag_cons ac_dv ag_nil)))) as_nil)) rfl rfl ?_
 iterate 4 refine z ?_
 refine yQ rfl (fun c1 => ?_) fun c1 => ?_
 ·skip
  iterate 6 refine z ?_
  unfold inRg; rw [c1]; rfl
 ·skip
  iterate 9 refine z ?_
  refine o_callG (gd_bool rfl rfl rfl rfl rfl) rfl rfl Try.call34 ok_impl_CompareKeys (fun hg => (as_cons (ev_opt rfl hg) (ag_agg (ag_cons ac_dv (ag_cons ac_dv (ag_cons ac_dv ag_nil)))) (as_cons (ev_opt rfl hg) (ag_agg (ag_cons ac_dv (ag_cons ac_dv (ag_cons ac_dv ag_nil)))) as_nil))) rfl rfl ?_
  iterate 10 refine z ?_
  refine o_callG (gd_opt rfl rfl rfl rfl rfl) rfl rfl Try.call34 ok_impl_CompareKeys (fun hg => (as_cons (ev_opt rfl hg) (ag_agg (ag_cons ac_dv (ag_cons ac_dv (ag_cons ac_dv ag_nil)))) (as_cons (ev_opt rfl hg) (ag_agg (ag_cons ac_dv (ag_cons ac_dv (ag_cons ac_dv ag_nil)))) as_nil))) rfl rfl ?_
  iterate 8 refine z ?_
  have h1 := cmpK_swap x y.2.2.1; have h2 := cmpK_swap x y.2.2.2; unfold inRg; rw [c1]; cases y.1 <;> cases y.2.1 <;> simp <;> grind
theorem ok_spec_InRangeOf {x : KeyT} {y : RangeT}  : PFn Try.prog 32 [.agg [(.dv [] (.int .i64 (x.1))), (.dv [] (.int .i64 (x.2.1))), (.dv [] (.str (x.2.2)))], .agg [(.dv [] (.bool (y.1))), (.dv [] (.bool (y.2.1))), (.dv [] (.int .i64 (y.2.2.1.1))), (.dv [] (.int .i64 (y.2.2.1.2.1))), (.dv [] (.str (y.2.2.1.2.2))), (.dv [] (.int .i64 (y.2.2.2.1))), (.dv [] (.int .i64 (y.2.2.2.2.1))), (.dv [] (.str (y.2.2.2.2.2)))]] (.one (.dv [] (.bool (inRg x y)))) := by
 refine ⟨fn_intro Try.func32 rfl Try.ntmps32 Try.results32 rfl (fun C => ?_)⟩
 refine yF 0 0 rfl rfl fun f0_0 => ?_
 refine yF 0 1 rfl rfl fun f0_1 => ?_
 refine yF 0 2 rfl rfl fun f0_2 => ?_
 refine yF 1 2 rfl rfl fun f1_2 => ?_
 refine yF 1 3 rfl rfl fun f1_3 => ?_
 refine yF 1 4 rfl rfl fun f1_4 => ?_
 refine yF 1 5 rfl rfl fun f1_5 => ?_
 refine yF 1 6 rfl rfl fun f1_6 => ?_
 refine yF 1 7 rfl rfl fun f1_7 => ?_
 iterate 8 refine z ?_
 refine zC Try.call44 ?_ (hf := ok_spec_IsKey)
 iterate 7 refine z ?_
 refine o_callG (gd_opt rfl rfl rfl rfl rfl) rfl rfl Try.call44 ok_spec_IsKey (fun hg => (as_cons (ev_opt rfl hg) (ag_agg (ag_cons ac_dv (ag_cons ac_dv (ag_cons ac_dv ag_nil)))) as_nil)) rfl rfl ?_
 iterate 9 refine z ?_
 refine o_callG (gd_opt rfl rfl rfl rfl rfl) rfl rfl Try.call44 ok_spec_IsKey (fun hg => (as_cons (ev_opt rfl hg) (ag_agg (ag_cons ac_dv (ag_cons ac_dv (ag_cons ac_dv ag_nil)))) as_nil)) rfl rfl ?_
 iterate 4 refine z ?_
 refine yQ rfl (fun c1 => ?_) fun c1 => ?_
 ·skip
  iterate 6 refine z ?_
  unfold inRg; rw [c1]; rfl
 ·skip
  iterate 10 refine z ?_
  refine o_callG (gd_bool rfl rfl rfl rfl rfl) rfl rfl Try.call31 ok_spec_CompareKeys (fun hg => (as_cons (ev_opt rfl hg) (ag_agg (ag_cons ac_dv (ag_cons ac_dv (ag_cons ac_dv ag_nil)))) (as_cons (ev_opt rfl hg) (ag_agg (ag_cons ac_dv (ag_cons ac_dv (ag_cons ac_dv ag_nil)))) as_nil))) rfl rfl ?_
  iterate 10 refine z ?_
  refine o_callG (gd_opt rfl rfl rfl rfl rfl) rfl rfl Try.call31 ok_spec_CompareKeys (fun hg => (as_cons (ev_opt rfl hg) (ag_agg (ag_cons ac_dv (ag_cons ac_dv (ag_cons ac_dv ag_nil)))) (as_cons (ev_opt rfl hg) (ag_agg (ag_cons ac_dv (ag_cons ac_dv (ag_cons ac_dv ag_nil)))) as_nil))) rfl rfl ?_
  iterate 7 refine z ?_
  have h1 := cmpK_swap x y.2.2.1; have h2 := cmpK_swap x y.2.2.2; unfold inRg; rw [c1]; cases y.1 <;> cases y.2.1 <;> simp <;> grind
end Go.Proofs.Ytjeiflklhchjpaa

namespace Go.Proofs.Ytjeiflklhchjpaa
open Go.RowKit
open Go.Proofs
set_option linter.unusedVariables false
set_option linter.unusedSimpArgs false

theorem wget {α : Type} [Inhabited α] {w : α → Nat} {xs : List α} {i : Nat} (h : i < xs.length) : w (xs.getD i default) ≤ wSum w xs := by
 have h1 := wSum_succ w xs i h
 rw [show (i : Int).toNat = i by omega] at h1
 omega
def walkN (s : StoreT) : Nat → CursorT → List ItemT
 | 0, _ => []
 | n + 1, x => if (curNext s x).2.2 then (curNext s x).2.1 :: walkN s n (curNext s x).1 else []
theorem wkGo {s : StoreT} {c y : CursorT} {o : List ItemT} {k : Nat} (hk : k < 16) (h : walkN s 16 y = o ++ walkN s (16 - k) c) (hc : (curNext s c).2.2 = true) : walkN s 16 y = (o ++ [(curNext s c).2.1]) ++ walkN s (16 - (k + 1)) (curNext s c).1 := by
 rw [h, show 16 - k = (16 - (k + 1)) + 1 by omega, walkN, if_pos hc]; simp
theorem walk_stop {s : StoreT} {c y : CursorT} {o : List ItemT} {k : Nat} (hk : k < 16) (h : walkN s 16 y = o ++ walkN s (16 - k) c) (hc : (curNext s c).2.2 = false) : o = walkN s 16 y := by
 rw [h, show 16 - k = (16 - (k + 1)) + 1 by omega, walkN, if_neg (by rw [hc]; simp), List.append_nil]
theorem walk_end {s : StoreT} {c y : CursorT} {o : List ItemT} {k : Nat} (hk : ¬ k < 16) (h : walkN s 16 y = o ++ walkN s (16 - k) c) : o = walkN s 16 y := by
 rw [h, show 16 - k = 0 by omega, walkN, List.append_nil]
theorem curNext_in {s : StoreT} {x : CursorT} (h : (curNext s x).2.2 = true) : (curNext s x).2.1 ∈ s.2.1 := by
 unfold curNext at h ⊢
 split at h
 ·cases h
 ·rename_i h1
  rw [if_neg h1]
  have h2 := curAt_le x s.2.1 s.2.1.length
  have h3 : (curAt x s.2.1 s.2.1.length).toNat < s.2.1.length := by omega
  simp only [List.getD, List.getElem?_eq_getElem h3, Option.getD_some]
  exact List.getElem_mem h3
theorem walkN_len (s : StoreT) : ∀ (n : Nat) (x : CursorT), (walkN s n x).length ≤ n
 | 0, _ => Nat.le_refl _
 | n + 1, x => by
  rw [walkN]; split
  ·have := walkN_len s n (curNext s x).1; simp; omega
  ·simp
theorem mem_w {α : Type} {w : α → Nat} {x : α} : ∀ {xs : List α}, x ∈ xs → w x ≤ wSum w xs
 | y :: ys, h => by
  have e : wSum w (y :: ys) = w y + wSum w ys := by simp [wSum]
  rcases List.mem_cons.1 h with rfl | h
  ·omega
  ·have := mem_w (w := w) h; omega
theorem walkN_w (s : StoreT) : ∀ (n : Nat) (x : CursorT), wSum wItem (walkN s n x) ≤ n * wSum wItem s.2.1
 | 0, _ => by simp [walkN, wSum]
 | n + 1, x => by
  rw [walkN]; split
  ·rename_i h
   have h1 := walkN_w s n (curNext s x).1
   have h2 := mem_w (w := wItem) (curNext_in h)
   have e : wSum wItem ((curNext s x).2.1 :: walkN s n (curNext s x).1) = wItem (curNext s x).2.1 + wSum wItem (walkN s n (curNext s x).1) := by simp [wSum]
   rw [e, Nat.add_mul]; omega
  ·simp [wSum]
theorem curNext_w (s : StoreT) (x : CursorT) : wItem (curNext s x).2.1 ≤ wSum wItem s.2.1 := by
 by_cases h : (curNext s x).2.2 = true
 ·exact mem_w (curNext_in h)
 ·unfold curNext at h ⊢
  split
  ·simp [wItem, wKey, wRecord, wList, wSum]
  ·rename_i h1; rw [if_neg h1] at h; exact absurd rfl h
def wKeyRange (x : RangeT) : Nat := wKey (x.2.2.1) + wKey (x.2.2.2)
def wCursor (x : CursorT) : Nat := wKeyRange (x.1) + wKey (x.2.2.2)
theorem ok_laws_szKeyRange {x : RangeT} {left : Int} (h0 : 0 ≤ left) (h1 : left ≤ 1048576) : PFn Try.prog 23 [.agg [(.dv [] (.bool (x.1))), (.dv [] (.bool (x.2.1))), (.dv [] (.int .i64 (x.2.2.1.1))), (.dv [] (.int .i64 (x.2.2.1.2.1))), (.dv [] (.str (x.2.2.1.2.2))), (.dv [] (.int .i64 (x.2.2.2.1))), (.dv [] (.int .i64 (x.2.2.2.2.1))), (.dv [] (.str (x.2.2.2.2.2)))], .one (.dv [] (.int .i64 (left)))] (.one (.dv [] (.int .i64 (szR (left) (wKeyRange x))))) := by
 refine ⟨fn_intro Try.func23 rfl Try.ntmps23 Try.results23 rfl (fun C => ?_)⟩
 refine yF 0 2 rfl rfl fun f0_2 => ?_
 refine yF 0 3 rfl rfl fun f0_3 => ?_
 refine yF 0 4 rfl rfl fun f0_4 => ?_
 refine yF 0 5 rfl rfl fun f0_5 => ?_
 refine yF 0 6 rfl rfl fun f0_6 => ?_
 refine yF 0 7 rfl rfl fun f0_7 => ?_
 refine ok_fact (x := .tmp 1) (ev_tmp rfl) fun f1 => ?_
 iterate 8 refine z ?_
 refine zC Try.call24 ?_ (hf := ok_laws_szKey (by omega) (by omega))
 iterate 7 refine z ?_
 refine yQ rfl (fun c1 => ?_) fun c1 => ?_
 ·skip
  have d1 := of_decide_eq_true c1
  first | have q1 := szR_n d1 | skip
  iterate 6 refine z ?_
  have hh := szR_cases left (wKeyRange x); simp only [wKeyRange] at hh ⊢ <;> omega
 ·skip
  have d1 := of_decide_eq_false c1
  first | have q1 := szR_nn d1 | skip
  iterate 6 refine z ?_
  refine zC Try.call24 ?_ (hf := ok_laws_szKey (by omega) (by omega))
  iterate 7 refine z ?_
  refine yQ rfl (fun c2 => ?_) fun c2 => ?_
  ·skip
   have d2 := of_decide_eq_true c2
   first | have q2 := szR_n d2 | skip
   iterate 6 refine z ?_
   have hh := szR_cases left (wKeyRange x); simp only [wKeyRange] at hh ⊢ <;> omega
  ·skip
   have d2 := of_decide_eq_false c2
   first | have q2 := szR_nn d2 | skip
   iterate 8 refine z ?_
   have hh := szR_cases left (wKeyRange x); simp only [wKeyRange] at hh ⊢ <;> omega
theorem ok_laws_szCursor {x : CursorT} {left : Int} (h0 : 0 ≤ left) (h1 : left ≤ 1048576) : PFn Try.prog 6 [.agg [(.dv [] (.bool (x.1.1))), (.dv [] (.bool (x.1.2.1))), (.dv [] (.int .i64 (x.1.2.2.1.1))), (.dv [] (.int .i64 (x.1.2.2.1.2.1))), (.dv [] (.str (x.1.2.2.1.2.2))), (.dv [] (.int .i64 (x.1.2.2.2.1))), (.dv [] (.int .i64 (x.1.2.2.2.2.1))), (.dv [] (.str (x.1.2.2.2.2.2))), (.dv [] (.bool (x.2.1))), (.dv [] (.bool (x.2.2.1))), (.dv [] (.int .i64 (x.2.2.2.1))), (.dv [] (.int .i64 (x.2.2.2.2.1))), (.dv [] (.str (x.2.2.2.2.2)))], .one (.dv [] (.int .i64 (left)))] (.one (.dv [] (.int .i64 (szR (left) (wCursor x))))) := by
 refine ⟨fn_intro Try.func6 rfl Try.ntmps6 Try.results6 rfl (fun C => ?_)⟩
 refine yF 0 2 rfl rfl fun f0_2 => ?_
 refine yF 0 3 rfl rfl fun f0_3 => ?_
 refine yF 0 4 rfl rfl fun f0_4 => ?_
 refine yF 0 5 rfl rfl fun f0_5 => ?_
 refine yF 0 6 rfl rfl fun f0_6 => ?_
 refine yF 0 7 rfl rfl fun f0_7 => ?_
 refine yF 0 10 rfl rfl fun f0_10 => ?_
 refine yF 0 11 rfl rfl fun f0_11 => ?_
 refine yF 0 12 rfl rfl fun f0_12 => ?_
 refine ok_fact (x := .tmp 1) (ev_tmp rfl) fun f1 => ?_
 iterate 8 refine z ?_
 refine zC Try.call23 ?_ (hf := ok_laws_szKeyRange (by omega) (by omega))
 iterate 7 refine z ?_
 refine yQ rfl (fun c1 => ?_) fun c1 => ?_
 ·skip
  have d1 := of_decide_eq_true c1
  first | have q1 := szR_n d1 | skip
  iterate 6 refine z ?_
  have hh := szR_cases left (wCursor x); simp only [wCursor] at hh ⊢ <;> omega
 ·skip
  have d1 := of_decide_eq_false c1
  first | have q1 := szR_nn d1 | skip
  iterate 6 refine z ?_
  refine zC Try.call24 ?_ (hf := ok_laws_szKey (by omega) (by omega))
  iterate 7 refine z ?_
  refine yQ rfl (fun c2 => ?_) fun c2 => ?_
  ·skip
   have d2 := of_decide_eq_true c2
   first | have q2 := szR_n d2 | skip
   iterate 6 refine z ?_
   have hh := szR_cases left (wCursor x); simp only [wCursor] at hh ⊢ <;> omega
  ·skip
   have d2 := of_decide_eq_false c2
   first | have q2 := szR_nn d2 | skip
   iterate 8 refine z ?_
   have hh := szR_cases left (wCursor x); simp only [wCursor] at hh ⊢ <;> omega
theorem ok_laws_toKeyRange {x : RangeT}  : PFn Try.prog 26 [.agg [(.dv [] (.bool (x.1))), (.dv [] (.bool (x.2.1))), (.dv [] (.int .i64 (x.2.2.1.1))), (.dv [] (.int .i64 (x.2.2.1.2.1))), (.dv [] (.str (x.2.2.1.2.2))), (.dv [] (.int .i64 (x.2.2.2.1))), (.dv [] (.int .i64 (x.2.2.2.2.1))), (.dv [] (.str (x.2.2.2.2.2)))]] (.agg [(.dv [] (.bool (x.1))), (.dv [] (.bool (x.2.1))), (.dv [] (.int .i64 (x.2.2.1.1))), (.dv [] (.int .i64 (x.2.2.1.2.1))), (.dv [] (.str (x.2.2.1.2.2))), (.dv [] (.int .i64 (x.2.2.2.1))), (.dv [] (.int .i64 (x.2.2.2.2.1))), (.dv [] (.str (x.2.2.2.2.2)))]) := by
 refine ⟨fn_intro Try.func26 rfl Try.ntmps26 Try.results26 rfl (fun C => ?_)⟩
 refine yF 0 2 rfl rfl fun f0_2 => ?_
 refine yF 0 3 rfl rfl fun f0_3 => ?_
 refine yF 0 4 rfl rfl fun f0_4 => ?_
 refine yF 0 5 rfl rfl fun f0_5 => ?_
 refine yF 0 6 rfl rfl fun f0_6 => ?_
 refine yF 0 7 rfl rfl fun f0_7 => ?_
 iterate 22 refine z ?_
 refine zC Try.call27 ?_ (hf := ok_laws_toKey)
 iterate 6 refine z ?_
 refine zC Try.call27 ?_ (hf := ok_laws_toKey)
 iterate 8 refine z ?_
 refine fin1 (res_cell hT rfl rfl rfl rfl) ?_
 rfl
theorem ok_laws_toCursor {x : CursorT} (hb : wCursor x ≤ 1048576) : KFn Try.prog 9 [.agg [(.dv [] (.bool (x.1.1))), (.dv [] (.bool (x.1.2.1))), (.dv [] (.int .i64 (x.1.2.2.1.1))), (.dv [] (.int .i64 (x.1.2.2.1.2.1))), (.dv [] (.str (x.1.2.2.1.2.2))), (.dv [] (.int .i64 (x.1.2.2.2.1))), (.dv [] (.int .i64 (x.1.2.2.2.2.1))), (.dv [] (.str (x.1.2.2.2.2.2))), (.dv [] (.bool (x.2.1))), (.dv [] (.bool (x.2.2.1))), (.dv [] (.int .i64 (x.2.2.2.1))), (.dv [] (.int .i64 (x.2.2.2.2.1))), (.dv [] (.str (x.2.2.2.2.2)))]] (.agg [(.dv [] (.bool (x.1.1))), (.dv [] (.bool (x.1.2.1))), (.dv [] (.int .i64 (x.1.2.2.1.1))), (.dv [] (.int .i64 (x.1.2.2.1.2.1))), (.dv [] (.str (x.1.2.2.1.2.2))), (.dv [] (.int .i64 (x.1.2.2.2.1))), (.dv [] (.int .i64 (x.1.2.2.2.2.1))), (.dv [] (.str (x.1.2.2.2.2.2))), (.dv [] (.bool (x.2.1))), (.dv [] (.bool (x.2.2.1))), (.dv [] (.int .i64 (x.2.2.2.1))), (.dv [] (.int .i64 (x.2.2.2.2.1))), (.dv [] (.str (x.2.2.2.2.2)))]) [] := by
 refine ⟨fn_intro Try.func9 rfl Try.ntmps9 Try.results9 rfl (fun C => ?_)⟩
 refine yF 0 2 rfl rfl fun f0_2 => ?_
 refine yF 0 3 rfl rfl fun f0_3 => ?_
 refine yF 0 4 rfl rfl fun f0_4 => ?_
 refine yF 0 5 rfl rfl fun f0_5 => ?_
 refine yF 0 6 rfl rfl fun f0_6 => ?_
 refine yF 0 7 rfl rfl fun f0_7 => ?_
 refine yF 0 10 rfl rfl fun f0_10 => ?_
 refine yF 0 11 rfl rfl fun f0_11 => ?_
 refine yF 0 12 rfl rfl fun f0_12 => ?_
 iterate 10 refine z ?_
 refine zC Try.call26 ?_ (hf := ok_laws_toKeyRange)
 iterate 18 refine z ?_
 refine zC Try.call27 ?_ (hf := ok_laws_toKey)
 iterate 7 refine z ?_
 refine ok_weak (σ' := ⟨[(2, .box 2 0)], [(2, 42, [(.dv [] (.bool (x.1.1))), (.dv [] (.bool (x.1.2.1))), (.dv [] (.int .i64 (x.1.2.2.1.1))), (.dv [] (.int .i64 (x.1.2.2.1.2.1))), (.dv [] (.str (x.1.2.2.1.2.2))), (.dv [] (.int .i64 (x.1.2.2.2.1))), (.dv [] (.int .i64 (x.1.2.2.2.2.1))), (.dv [] (.str (x.1.2.2.2.2.2))), (.dv [] (.bool (x.2.1))), (.dv [] (.bool (x.2.2.1))), (.dv [] (.int .i64 (x.2.2.2.1))), (.dv [] (.int .i64 (x.2.2.2.2.1))), (.dv [] (.str (x.2.2.2.2.2)))])], []⟩) (weak_sub ⟨rfl, trivial⟩ ⟨rfl, trivial⟩ trivial rfl) ?_
 refine z ?_
 refine fin1 (res_cell hT rfl rfl rfl rfl) ?_
 exact ⟨rfl, rfl⟩
theorem ok_laws_eqKeyRange {x : RangeT}  : PFn Try.prog 37 [.agg [(.dv [] (.bool (x.1))), (.dv [] (.bool (x.2.1))), (.dv [] (.int .i64 (x.2.2.1.1))), (.dv [] (.int .i64 (x.2.2.1.2.1))), (.dv [] (.str (x.2.2.1.2.2))), (.dv [] (.int .i64 (x.2.2.2.1))), (.dv [] (.int .i64 (x.2.2.2.2.1))), (.dv [] (.str (x.2.2.2.2.2)))], .agg [(.dv [] (.bool (x.1))), (.dv [] (.bool (x.2.1))), (.dv [] (.int .i64 (x.2.2.1.1))), (.dv [] (.int .i64 (x.2.2.1.2.1))), (.dv [] (.str (x.2.2.1.2.2))), (.dv [] (.int .i64 (x.2.2.2.1))), (.dv [] (.int .i64 (x.2.2.2.2.1))), (.dv [] (.str (x.2.2.2.2.2)))]] (.one (.dv [] (.bool (true)))) := by
 refine ⟨fn_intro Try.func37 rfl Try.ntmps37 Try.results37 rfl (fun C => ?_)⟩
 refine yF 0 2 rfl rfl fun f0_2 => ?_
 refine yF 0 3 rfl rfl fun f0_3 => ?_
 refine yF 0 4 rfl rfl fun f0_4 => ?_
 refine yF 0 5 rfl rfl fun f0_5 => ?_
 refine yF 0 6 rfl rfl fun f0_6 => ?_
 refine yF 0 7 rfl rfl fun f0_7 => ?_
 refine yF 1 2 rfl rfl fun f1_2 => ?_
 refine yF 1 3 rfl rfl fun f1_3 => ?_
 refine yF 1 4 rfl rfl fun f1_4 => ?_
 refine yF 1 5 rfl rfl fun f1_5 => ?_
 refine yF 1 6 rfl rfl fun f1_6 => ?_
 refine yF 1 7 rfl rfl fun f1_7 => ?_
 iterate 11 refine z ?_
 refine yO rfl rfl (pu_bneq hT rfl rfl (ev_tmp rfl) (ev_tmp rfl)) rfl ?_
 refine z ?_
 refine yQ rfl (fun c1 => ?_) fun c1 => ?_
 ·skip
  iterate 6 refine z ?_
  first | rfl | (exfalso; simp_all [sEq])
 ·skip
  iterate 8 refine z ?_
  refine yO rfl rfl (pu_bneq hT rfl rfl (ev_tmp rfl) (ev_tmp rfl)) rfl ?_
  refine z ?_
  refine yQ rfl (fun c2 => ?_) fun c2 => ?_
  ·skip
   iterate 6 refine z ?_
   first | rfl | (exfalso; simp_all [sEq])
  ·skip
   iterate 8 refine z ?_
   refine zC Try.call38 ?_ (hf := ok_laws_eqKey)
   iterate 2 refine z ?_
   refine yQ rfl (fun c3 => ?_) fun c3 => ?_
   ·skip
    iterate 6 refine z ?_
    first | rfl | (exfalso; simp_all [sEq])
   ·skip
    iterate 8 refine z ?_
    refine zC Try.call38 ?_ (hf := ok_laws_eqKey)
    iterate 2 refine z ?_
    refine yQ rfl (fun c4 => ?_) fun c4 => ?_
    ·skip
     iterate 6 refine z ?_
     first | rfl | (exfalso; simp_all [sEq])
    ·skip
     iterate 7 refine z ?_
     first | rfl | (exfalso; simp_all [sEq])
theorem ok_laws_eqCursor {x : CursorT}  : PFn Try.prog 18 [.agg [(.dv [] (.bool (x.1.1))), (.dv [] (.bool (x.1.2.1))), (.dv [] (.int .i64 (x.1.2.2.1.1))), (.dv [] (.int .i64 (x.1.2.2.1.2.1))), (.dv [] (.str (x.1.2.2.1.2.2))), (.dv [] (.int .i64 (x.1.2.2.2.1))), (.dv [] (.int .i64 (x.1.2.2.2.2.1))), (.dv [] (.str (x.1.2.2.2.2.2))), (.dv [] (.bool (x.2.1))), (.dv [] (.bool (x.2.2.1))), (.dv [] (.int .i64 (x.2.2.2.1))), (.dv [] (.int .i64 (x.2.2.2.2.1))), (.dv [] (.str (x.2.2.2.2.2)))], .agg [(.dv [] (.bool (x.1.1))), (.dv [] (.bool (x.1.2.1))), (.dv [] (.int .i64 (x.1.2.2.1.1))), (.dv [] (.int .i64 (x.1.2.2.1.2.1))), (.dv [] (.str (x.1.2.2.1.2.2))), (.dv [] (.int .i64 (x.1.2.2.2.1))), (.dv [] (.int .i64 (x.1.2.2.2.2.1))), (.dv [] (.str (x.1.2.2.2.2.2))), (.dv [] (.bool (x.2.1))), (.dv [] (.bool (x.2.2.1))), (.dv [] (.int .i64 (x.2.2.2.1))), (.dv [] (.int .i64 (x.2.2.2.2.1))), (.dv [] (.str (x.2.2.2.2.2)))]] (.one (.dv [] (.bool (true)))) := by
 refine ⟨fn_intro Try.func18 rfl Try.ntmps18 Try.results18 rfl (fun C => ?_)⟩
 refine yF 0 2 rfl rfl fun f0_2 => ?_
 refine yF 0 3 rfl rfl fun f0_3 => ?_
 refine yF 0 4 rfl rfl fun f0_4 => ?_
 refine yF 0 5 rfl rfl fun f0_5 => ?_
 refine yF 0 6 rfl rfl fun f0_6 => ?_
 refine yF 0 7 rfl rfl fun f0_7 => ?_
 refine yF 0 10 rfl rfl fun f0_10 => ?_
 refine yF 0 11 rfl rfl fun f0_11 => ?_
 refine yF 0 12 rfl rfl fun f0_12 => ?_
 refine yF 1 2 rfl rfl fun f1_2 => ?_
 refine yF 1 3 rfl rfl fun f1_3 => ?_
 refine yF 1 4 rfl rfl fun f1_4 => ?_
 refine yF 1 5 rfl rfl fun f1_5 => ?_
 refine yF 1 6 rfl rfl fun f1_6 => ?_
 refine yF 1 7 rfl rfl fun f1_7 => ?_
 refine yF 1 10 rfl rfl fun f1_10 => ?_
 refine yF 1 11 rfl rfl fun f1_11 => ?_
 refine yF 1 12 rfl rfl fun f1_12 => ?_
 iterate 11 refine z ?_
 refine zC Try.call37 ?_ (hf := ok_laws_eqKeyRange)
 iterate 2 refine z ?_
 refine yQ rfl (fun c1 => ?_) fun c1 => ?_
 ·skip
  iterate 6 refine z ?_
  first | rfl | (exfalso; simp_all [sEq])
 ·skip
  iterate 8 refine z ?_
  refine yO rfl rfl (pu_bneq hT rfl rfl (ev_tmp rfl) (ev_tmp rfl)) rfl ?_
  refine z ?_
  refine yQ rfl (fun c2 => ?_) fun c2 => ?_
  ·skip
   iterate 6 refine z ?_
   first | rfl | (exfalso; simp_all [sEq])
  ·skip
   iterate 8 refine z ?_
   refine yO rfl rfl (pu_bneq hT rfl rfl (ev_tmp rfl) (ev_tmp rfl)) rfl ?_
   refine z ?_
   refine yQ rfl (fun c3 => ?_) fun c3 => ?_
   ·skip
    iterate 6 refine z ?_
    first | rfl | (exfalso; simp_all [sEq])
   ·skip
    iterate 8 refine z ?_
    refine zC Try.call38 ?_ (hf := ok_laws_eqKey)
    iterate 2 refine z ?_
    refine yQ rfl (fun c4 => ?_) fun c4 => ?_
    ·skip
     iterate 6 refine z ?_
     first | rfl | (exfalso; simp_all [sEq])
    ·skip
     iterate 7 refine z ?_
     first | rfl | (exfalso; simp_all [sEq])
theorem ok_impl_CursorNext {x : StoreT} {y : CursorT} (hb : wStore x ≤ 1048576) : KFn Try.prog 17 [.agg [(.dv [] (.str (x.1))), (.dv [] (itemsD (x.2.1))), (.dv [] (.int .i64 (x.2.2)))], .agg [(.dv [] (.bool (y.1.1))), (.dv [] (.bool (y.1.2.1))), (.dv [] (.int .i64 (y.1.2.2.1.1))), (.dv [] (.int .i64 (y.1.2.2.1.2.1))), (.dv [] (.str (y.1.2.2.1.2.2))), (.dv [] (.int .i64 (y.1.2.2.2.1))), (.dv [] (.int .i64 (y.1.2.2.2.2.1))), (.dv [] (.str (y.1.2.2.2.2.2))), (.dv [] (.bool (y.2.1))), (.dv [] (.bool (y.2.2.1))), (.dv [] (.int .i64 (y.2.2.2.1))), (.dv [] (.int .i64 (y.2.2.2.2.1))), (.dv [] (.str (y.2.2.2.2.2)))]] (.tup [(true, [(.dv [] (.bool ((curNext x y).1.1.1))), (.dv [] (.bool ((curNext x y).1.1.2.1))), (.dv [] (.int .i64 ((curNext x y).1.1.2.2.1.1))), (.dv [] (.int .i64 ((curNext x y).1.1.2.2.1.2.1))), (.dv [] (.str ((curNext x y).1.1.2.2.1.2.2))), (.dv [] (.int .i64 ((curNext x y).1.1.2.2.2.1))), (.dv [] (.int .i64 ((curNext x y).1.1.2.2.2.2.1))), (.dv [] (.str ((curNext x y).1.1.2.2.2.2.2))), (.dv [] (.bool ((curNext x y).1.2.1))), (.dv [] (.bool ((curNext x y).1.2.2.1))), (.dv [] (.int .i64 ((curNext x y).1.2.2.2.1))), (.dv [] (.int .i64 ((curNext x y).1.2.2.2.2.1))), (.dv [] (.str ((curNext x y).1.2.2.2.2.2)))]), (true, [(.dv [] (.int .i64 ((curNext x y).2.1.1.1))), (.dv [] (.int .i64 ((curNext x y).2.1.1.2.1))), (.dv [] (.str ((curNext x y).2.1.1.2.2))), (.key 9001)]), (false, [(.dv [] (.bool ((curNext x y).2.2)))])]) [(9001, some (kcOf false (fieldsD ((curNext x y).2.1.2))))] := by
 refine ⟨fn_intro Try.func17 rfl Try.ntmps17 Try.results17 rfl (fun C => ?_)⟩
 refine yF 0 0 rfl rfl fun f0_0 => ?_
 refine yF 0 1 rfl rfl fun f0_1 => ?_
 refine yF 0 2 rfl rfl fun f0_2 => ?_
 refine yF 1 2 rfl rfl fun f1_2 => ?_
 refine yF 1 3 rfl rfl fun f1_3 => ?_
 refine yF 1 4 rfl rfl fun f1_4 => ?_
 refine yF 1 5 rfl rfl fun f1_5 => ?_
 refine yF 1 6 rfl rfl fun f1_6 => ?_
 refine yF 1 7 rfl rfl fun f1_7 => ?_
 refine yF 1 10 rfl rfl fun f1_10 => ?_
 refine yF 1 11 rfl rfl fun f1_11 => ?_
 refine yF 1 12 rfl rfl fun f1_12 => ?_
 iterate 18 refine z ?_
 refine ok_loop (ι := Nat) (fun zz => ⟨[(2, .box 2 0), (3, .box 3 0), (4, .box 4 0), (5, .box 5 0), (6, .one (.dv [] (.bool (false)))), (7, .one (.dv [] (.int .i64 (curAt y x.2.1 zz)))), (13, .one (.dv [] (itemsD (x.2.1)))), (14, .one (.dv [] (.int .i64 ((((x.2.1)).length : Int))))), (15, .one (.dv [] (.int .i64 ((zz : Int)))))], [(2, 36, [(.dv [] (.str (x.1))), (.dv [] (itemsD (x.2.1))), (.dv [] (.int .i64 (x.2.2)))]), (3, 42, [(.dv [] (.bool (y.1.1))), (.dv [] (.bool (y.1.2.1))), (.dv [] (.int .i64 (y.1.2.2.1.1))), (.dv [] (.int .i64 (y.1.2.2.1.2.1))), (.dv [] (.str (y.1.2.2.1.2.2))), (.dv [] (.int .i64 (y.1.2.2.2.1))), (.dv [] (.int .i64 (y.1.2.2.2.2.1))), (.dv [] (.str (y.1.2.2.2.2.2))), (.dv [] (.bool (y.2.1))), (.dv [] (.bool (y.2.2.1))), (.dv [] (.int .i64 (y.2.2.2.1))), (.dv [] (.int .i64 (y.2.2.2.2.1))), (.dv [] (.str (y.2.2.2.2.2)))]), (4, 42, [(.dv [] (.bool (false))), (.dv [] (.bool (false))), (.dv [] (.int .i64 (0))), (.dv [] (.int .i64 (0))), (.dv [] (.str (ByteArray.empty))), (.dv [] (.int .i64 (0))), (.dv [] (.int .i64 (0))), (.dv [] (.str (ByteArray.empty))), (.dv [] (.bool (false))), (.dv [] (.bool (false))), (.dv [] (.int .i64 (0))), (.dv [] (.int .i64 (0))), (.dv [] (.str (ByteArray.empty)))]), (5, 53, [(.dv [] (.int .i64 (0))), (.dv [] (.int .i64 (0))), (.dv [] (.str (ByteArray.empty))), .nil])], []⟩) (fun zz => zz ≤ x.2.1.length) (fun zz => x.2.1.length - zz) (0) ?_ (weak_sub ⟨rfl, rfl, rfl, rfl, rfl, rfl, rfl, rfl, rfl, trivial⟩ ⟨rfl, rfl, rfl, rfl, trivial⟩ trivial rfl) (fun zz hx => ?_)
 ·exact Nat.zero_le _
 obtain ⟨k, rfl⟩ : ∃ v, v = zz := ⟨_, rfl⟩
 replace hx : k ≤ x.2.1.length := hx
 show Ok _ _ _ _ _ (⟨[(2, .box 2 0), (3, .box 3 0), (4, .box 4 0), (5, .box 5 0), (6, .one (.dv [] (.bool (false)))), (7, .one (.dv [] (.int .i64 (curAt y x.2.1 k)))), (13, .one (.dv [] (itemsD (x.2.1)))), (14, .one (.dv [] (.int .i64 ((((x.2.1)).length : Int))))), (15, .one (.dv [] (.int .i64 ((k : Int)))))], [(2, 36, [(.dv [] (.str (x.1))), (.dv [] (itemsD (x.2.1))), (.dv [] (.int .i64 (x.2.2)))]), (3, 42, [(.dv [] (.bool (y.1.1))), (.dv [] (.bool (y.1.2.1))), (.dv [] (.int .i64 (y.1.2.2.1.1))), (.dv [] (.int .i64 (y.1.2.2.1.2.1))), (.dv [] (.str (y.1.2.2.1.2.2))), (.dv [] (.int .i64 (y.1.2.2.2.1))), (.dv [] (.int .i64 (y.1.2.2.2.2.1))), (.dv [] (.str (y.1.2.2.2.2.2))), (.dv [] (.bool (y.2.1))), (.dv [] (.bool (y.2.2.1))), (.dv [] (.int .i64 (y.2.2.2.1))), (.dv [] (.int .i64 (y.2.2.2.2.1))), (.dv [] (.str (y.2.2.2.2.2)))]), (4, 42, [(.dv [] (.bool (false))), (.dv [] (.bool (false))), (.dv [] (.int .i64 (0))), (.dv [] (.int .i64 (0))), (.dv [] (.str (ByteArray.empty))), (.dv [] (.int .i64 (0))), (.dv [] (.int .i64 (0))), (.dv [] (.str (ByteArray.empty))), (.dv [] (.bool (false))), (.dv [] (.bool (false))), (.dv [] (.int .i64 (0))), (.dv [] (.int .i64 (0))), (.dv [] (.str (ByteArray.empty)))]), (5, 53, [(.dv [] (.int .i64 (0))), (.dv [] (.int .i64 (0))), (.dv [] (.str (ByteArray.empty))), .nil])], []⟩ : St)
 iterate 3 refine z ?_
 refine ok_seq ?_
 refine yQ rfl (fun c1 => ?_) fun c1 => ?_
 ·skip
  have d1 := of_decide_eq_true c1
  iterate 17 refine z ?_
  refine zC Try.call34 ?_ (hf := ok_impl_CompareKeys)
  iterate 25 refine z ?_
  refine zC Try.call35 ?_ (hf := ok_impl_InRangeOf)
  iterate 17 refine z ?_
  refine yQ rfl (fun c2 => ?_) fun c2 => ?_
  ·skip
   refine ok_region ?_
   iterate 2 refine z ?_
   refine ops_nil ?_
   iterate 2 refine z ?_
   refine ok_region ?_
   iterate 3 refine z ?_
   refine ⟨k + 1, ?_, ?_, weak_sub ⟨rfl, rfl, rfl, rfl, rfl, (eqSlotI (curAt_yes (by have h := c2; unfold curOk; revert h; cases y.2.1 <;> cases y.2.2.1 <;> simp <;> grind))), rfl, rfl, rfl, trivial⟩ ⟨rfl, rfl, rfl, rfl, trivial⟩ trivial rfl⟩
   ·omega
   ·omega
  ·skip
   iterate 3 refine z ?_
   refine ok_region ?_
   iterate 3 refine z ?_
   refine ⟨k + 1, ?_, ?_, weak_sub ⟨rfl, rfl, rfl, rfl, rfl, (eqSlotI (curAt_no (by have h := c2; unfold curOk; revert h; cases y.2.1 <;> cases y.2.2.1 <;> simp <;> grind))), rfl, rfl, rfl, trivial⟩ ⟨rfl, rfl, rfl, rfl, trivial⟩ trivial rfl⟩
   ·omega
   ·omega
 ·skip
  have d1 := of_decide_eq_false c1
  have hk9 : k = x.2.1.length := by omega
  iterate 10 refine z ?_
  refine yQ rfl (fun c3 => ?_) fun c3 => ?_
  ·skip
   have d3 := of_decide_eq_true c3
   iterate 2 refine z ?_
   refine yO rfl rfl (pu_build hT hB rfl rfl rfl bp_nil) rfl ?_
   iterate 4 refine z ?_
   rw [curNext_no (s := x) (x := y) (by rw [← hk9]; exact d3)]
   refine ok_weak (weak_nilB 9001 (b := 5) (i := 3) (e := 83) (sz := 2) rfl rfl rfl rfl rfl) ?_
   refine ok_weak (σ' := ⟨[(4, .box 4 0), (5, .box 5 0), (6, .one (.dv [] (.bool (false))))], [(4, 42, [(.dv [] (.bool (y.1.1))), (.dv [] (.bool (y.1.2.1))), (.dv [] (.int .i64 (y.1.2.2.1.1))), (.dv [] (.int .i64 (y.1.2.2.1.2.1))), (.dv [] (.str (y.1.2.2.1.2.2))), (.dv [] (.int .i64 (y.1.2.2.2.1))), (.dv [] (.int .i64 (y.1.2.2.2.2.1))), (.dv [] (.str (y.1.2.2.2.2.2))), (.dv [] (.bool (y.2.1))), (.dv [] (.bool (y.2.2.1))), (.dv [] (.int .i64 (y.2.2.2.1))), (.dv [] (.int .i64 (y.2.2.2.2.1))), (.dv [] (.str (y.2.2.2.2.2)))]), (5, 53, [(.dv [] (.int .i64 (0))), (.dv [] (.int .i64 (0))), (.dv [] (.str (ByteArray.empty))), (.key 9001)])], [(9001, some (kcOf false (fieldsD [])))]⟩) (weak_sub ⟨rfl, rfl, rfl, trivial⟩ ⟨rfl, rfl, trivial⟩ ⟨rfl, trivial⟩ rfl) ?_
   iterate 2 refine z ?_
   refine fin3 (res_cell hT rfl rfl rfl rfl) (res_cell hT rfl rfl rfl rfl) (res_tmp rfl) rfl rfl rfl ?_
   exact ⟨rfl, rfl⟩
  ·skip
   have d3 := of_decide_eq_false c3
   have hl := curAt_le y x.2.1 k
   iterate 4 refine z ?_
   refine o_store hT rfl rfl rfl rfl (ev_tmp rfl) ev_bool rfl rfl rfl rfl rfl rfl ?_
   iterate 11 refine z ?_
   refine ok_seq ?_
   refine ok_regionD (oB := [2, 3, 4, 5]) (oK := []) (by kernel_rfl) rfl rfl ?_
   refine zD 0 ?_
   refine zD 1 ?_
   refine zD 2 ?_
   refine zD 3 ?_
   refine zD 4 ?_
   refine zD 5 ?_
   refine d_callK 1998 6 rfl (by kernel_rfl) rfl rfl rfl Try.call36 (ok_impl_copyItem (by first | omega | (have h9 := wget (w := wItem) (xs := x.2.1) (i := (curAt y x.2.1 k).toNat) (by omega); have h8 : wStore x = x.1.size + (x.2.1.length + wSum wItem x.2.1) := rfl; have h7 := item_len (x.2.1.getD (curAt y x.2.1 k).toNat default); omega))) (as_cons (ev_tmp rfl) (ag_agg (ag_cons ac_dv (ag_cons ac_dv (ag_cons ac_dv (ag_cons ac_dv ag_nil))))) as_nil) rfl rfl rfl rfl rfl ?_
   refine d_chain [7, 8, 9] rfl rfl (by kernel_rfl) ?_
   iterate 4 refine z ?_
   rw [curNext_yes (s := x) (x := y) (by rw [← hk9]; exact d3), ← hk9]
   refine ok_weak (σ' := ⟨[(4, .box 4 0), (5, .box 5 0), (6, .one (.dv [] (.bool (true))))], [(4, 42, [(.dv [] (.bool (y.1.1))), (.dv [] (.bool (y.1.2.1))), (.dv [] (.int .i64 (y.1.2.2.1.1))), (.dv [] (.int .i64 (y.1.2.2.1.2.1))), (.dv [] (.str (y.1.2.2.1.2.2))), (.dv [] (.int .i64 (y.1.2.2.2.1))), (.dv [] (.int .i64 (y.1.2.2.2.2.1))), (.dv [] (.str (y.1.2.2.2.2.2))), (.dv [] (.bool (y.2.1))), (.dv [] (.bool (true))), (.dv [] (.int .i64 ((((x.2.1)).getD (curAt y x.2.1 k).toNat default).1.1))), (.dv [] (.int .i64 ((((x.2.1)).getD (curAt y x.2.1 k).toNat default).1.2.1))), (.dv [] (.str ((((x.2.1)).getD (curAt y x.2.1 k).toNat default).1.2.2)))]), (5, 53, [(.dv [] (.int .i64 (((((x.2.1)).getD (curAt y x.2.1 k).toNat default)).1.1))), (.dv [] (.int .i64 (((((x.2.1)).getD (curAt y x.2.1 k).toNat default)).1.2.1))), (.dv [] (.str (((((x.2.1)).getD (curAt y x.2.1 k).toNat default)).1.2.2))), (.key 9001)])], [(9001, some (kcOf false (fieldsD (x.2.1.getD (curAt y x.2.1 k).toNat default).2)))]⟩) (weak_sub ⟨rfl, rfl, rfl, trivial⟩ ⟨rfl, rfl, trivial⟩ ⟨rfl, trivial⟩ rfl) ?_
   refine z ?_
   refine fin3 (res_cell hT rfl rfl rfl rfl) (res_cell hT rfl rfl rfl rfl) (res_tmp rfl) rfl rfl rfl ?_
   exact ⟨rfl, rfl⟩
theorem ok_spec_CursorNext {x : StoreT} {y : CursorT} (hb : wStore x ≤ 1048576) : KFn Try.prog 16 [.agg [(.dv [] (.str (x.1))), (.dv [] (itemsD (x.2.1))), (.dv [] (.int .i64 (x.2.2)))], .agg [(.dv [] (.bool (y.1.1))), (.dv [] (.bool (y.1.2.1))), (.dv [] (.int .i64 (y.1.2.2.1.1))), (.dv [] (.int .i64 (y.1.2.2.1.2.1))), (.dv [] (.str (y.1.2.2.1.2.2))), (.dv [] (.int .i64 (y.1.2.2.2.1))), (.dv [] (.int .i64 (y.1.2.2.2.2.1))), (.dv [] (.str (y.1.2.2.2.2.2))), (.dv [] (.bool (y.2.1))), (.dv [] (.bool (y.2.2.1))), (.dv [] (.int .i64 (y.2.2.2.1))), (.dv [] (.int .i64 (y.2.2.2.2.1))), (.dv [] (.str (y.2.2.2.2.2)))]] (.tup [(true, [(.dv [] (.bool ((curNext x y).1.1.1))), (.dv [] (.bool ((curNext x y).1.1.2.1))), (.dv [] (.int .i64 ((curNext x y).1.1.2.2.1.1))), (.dv [] (.int .i64 ((curNext x y).1.1.2.2.1.2.1))), (.dv [] (.str ((curNext x y).1.1.2.2.1.2.2))), (.dv [] (.int .i64 ((curNext x y).1.1.2.2.2.1))), (.dv [] (.int .i64 ((curNext x y).1.1.2.2.2.2.1))), (.dv [] (.str ((curNext x y).1.1.2.2.2.2.2))), (.dv [] (.bool ((curNext x y).1.2.1))), (.dv [] (.bool ((curNext x y).1.2.2.1))), (.dv [] (.int .i64 ((curNext x y).1.2.2.2.1))), (.dv [] (.int .i64 ((curNext x y).1.2.2.2.2.1))), (.dv [] (.str ((curNext x y).1.2.2.2.2.2)))]), (true, [(.dv [] (.int .i64 ((curNext x y).2.1.1.1))), (.dv [] (.int .i64 ((curNext x y).2.1.1.2.1))), (.dv [] (.str ((curNext x y).2.1.1.2.2))), (.key 9001)]), (false, [(.dv [] (.bool ((curNext x y).2.2)))])]) [(9001, some (kcOf false (fieldsD ((curNext x y).2.1.2))))] := by
 refine ⟨fn_intro Try.func16 rfl Try.ntmps16 Try.results16 rfl (fun C => ?_)⟩
 refine yF 0 0 rfl rfl fun f0_0 => ?_
 refine yF 0 1 rfl rfl fun f0_1 => ?_
 refine yF 0 2 rfl rfl fun f0_2 => ?_
 refine yF 1 2 rfl rfl fun f1_2 => ?_
 refine yF 1 3 rfl rfl fun f1_3 => ?_
 refine yF 1 4 rfl rfl fun f1_4 => ?_
 refine yF 1 5 rfl rfl fun f1_5 => ?_
 refine yF 1 6 rfl rfl fun f1_6 => ?_
 refine yF 1 7 rfl rfl fun f1_7 => ?_
 refine yF 1 10 rfl rfl fun f1_10 => ?_
 refine yF 1 11 rfl rfl fun f1_11 => ?_
 refine yF 1 12 rfl rfl fun f1_12 => ?_
 iterate 15 refine z ?_
 refine ok_loop (ι := Nat) (fun zz => ⟨[(2, .box 2 0), (3, .box 3 0), (4, .box 4 0), (5, .box 5 0), (6, .one (.dv [] (.bool (false)))), (7, .one (.dv [] (.int .i64 (curAt y x.2.1 zz)))), (8, .one (.dv [] (.int .i64 ((zz : Int)))))], [(2, 36, [(.dv [] (.str (x.1))), (.dv [] (itemsD (x.2.1))), (.dv [] (.int .i64 (x.2.2)))]), (3, 42, [(.dv [] (.bool (y.1.1))), (.dv [] (.bool (y.1.2.1))), (.dv [] (.int .i64 (y.1.2.2.1.1))), (.dv [] (.int .i64 (y.1.2.2.1.2.1))), (.dv [] (.str (y.1.2.2.1.2.2))), (.dv [] (.int .i64 (y.1.2.2.2.1))), (.dv [] (.int .i64 (y.1.2.2.2.2.1))), (.dv [] (.str (y.1.2.2.2.2.2))), (.dv [] (.bool (y.2.1))), (.dv [] (.bool (y.2.2.1))), (.dv [] (.int .i64 (y.2.2.2.1))), (.dv [] (.int .i64 (y.2.2.2.2.1))), (.dv [] (.str (y.2.2.2.2.2)))]), (4, 42, [(.dv [] (.bool (false))), (.dv [] (.bool (false))), (.dv [] (.int .i64 (0))), (.dv [] (.int .i64 (0))), (.dv [] (.str (ByteArray.empty))), (.dv [] (.int .i64 (0))), (.dv [] (.int .i64 (0))), (.dv [] (.str (ByteArray.empty))), (.dv [] (.bool (false))), (.dv [] (.bool (false))), (.dv [] (.int .i64 (0))), (.dv [] (.int .i64 (0))), (.dv [] (.str (ByteArray.empty)))]), (5, 53, [(.dv [] (.int .i64 (0))), (.dv [] (.int .i64 (0))), (.dv [] (.str (ByteArray.empty))), .nil])], []⟩) (fun zz => zz ≤ x.2.1.length) (fun zz => x.2.1.length - zz) (0) ?_ (weak_sub ⟨rfl, rfl, rfl, rfl, rfl, rfl, rfl, trivial⟩ ⟨rfl, rfl, rfl, rfl, trivial⟩ trivial rfl) (fun zz hx => ?_)
 ·exact Nat.zero_le _
 obtain ⟨k, rfl⟩ : ∃ v, v = zz := ⟨_, rfl⟩
 replace hx : k ≤ x.2.1.length := hx
 show Ok _ _ _ _ _ (⟨[(2, .box 2 0), (3, .box 3 0), (4, .box 4 0), (5, .box 5 0), (6, .one (.dv [] (.bool (false)))), (7, .one (.dv [] (.int .i64 (curAt y x.2.1 k)))), (8, .one (.dv [] (.int .i64 ((k : Int)))))], [(2, 36, [(.dv [] (.str (x.1))), (.dv [] (itemsD (x.2.1))), (.dv [] (.int .i64 (x.2.2)))]), (3, 42, [(.dv [] (.bool (y.1.1))), (.dv [] (.bool (y.1.2.1))), (.dv [] (.int .i64 (y.1.2.2.1.1))), (.dv [] (.int .i64 (y.1.2.2.1.2.1))), (.dv [] (.str (y.1.2.2.1.2.2))), (.dv [] (.int .i64 (y.1.2.2.2.1))), (.dv [] (.int .i64 (y.1.2.2.2.2.1))), (.dv [] (.str (y.1.2.2.2.2.2))), (.dv [] (.bool (y.2.1))), (.dv [] (.bool (y.2.2.1))), (.dv [] (.int .i64 (y.2.2.2.1))), (.dv [] (.int .i64 (y.2.2.2.2.1))), (.dv [] (.str (y.2.2.2.2.2)))]), (4, 42, [(.dv [] (.bool (false))), (.dv [] (.bool (false))), (.dv [] (.int .i64 (0))), (.dv [] (.int .i64 (0))), (.dv [] (.str (ByteArray.empty))), (.dv [] (.int .i64 (0))), (.dv [] (.int .i64 (0))), (.dv [] (.str (ByteArray.empty))), (.dv [] (.bool (false))), (.dv [] (.bool (false))), (.dv [] (.int .i64 (0))), (.dv [] (.int .i64 (0))), (.dv [] (.str (ByteArray.empty)))]), (5, 53, [(.dv [] (.int .i64 (0))), (.dv [] (.int .i64 (0))), (.dv [] (.str (ByteArray.empty))), .nil])], []⟩ : St)
 iterate 8 refine z ?_
 refine yQ rfl (fun c1 => ?_) fun c1 => ?_
 ·skip
  have d1 := of_decide_eq_true c1
  iterate 18 refine z ?_
  refine zC Try.call31 ?_ (hf := ok_spec_CompareKeys)
  iterate 7 refine z ?_
  refine zC Try.call32 ?_ (hf := ok_spec_InRangeOf)
  iterate 23 refine z ?_
  refine yQ rfl (fun c2 => ?_) fun c2 => ?_
  ·skip
   iterate 4 refine z ?_
   refine ok_region ?_
   iterate 4 refine z ?_
   refine ⟨k + 1, ?_, ?_, weak_sub ⟨rfl, rfl, rfl, rfl, rfl, (eqSlotI (curAt_no (by have h := c2; unfold curOk; revert h; cases y.2.1 <;> cases y.2.2.1 <;> simp <;> grind))), rfl, trivial⟩ ⟨rfl, rfl, rfl, rfl, trivial⟩ trivial rfl⟩
   ·omega
   ·omega
  ·skip
   iterate 10 refine z ?_
   refine yQ rfl (fun c3 => ?_) fun c3 => ?_
   ·skip
    refine ok_region ?_
    iterate 2 refine z ?_
    refine ops_nil ?_
    iterate 2 refine z ?_
    refine ok_region ?_
    iterate 4 refine z ?_
    refine ⟨k + 1, ?_, ?_, weak_sub ⟨rfl, rfl, rfl, rfl, rfl, (eqSlotI (curAt_yes (by have h := c2; have h' := c3; unfold curOk; revert h h'; cases y.2.1 <;> cases y.2.2.1 <;> simp <;> grind))), rfl, trivial⟩ ⟨rfl, rfl, rfl, rfl, trivial⟩ trivial rfl⟩
    ·omega
    ·omega
   ·skip
    iterate 3 refine z ?_
    refine ok_region ?_
    iterate 4 refine z ?_
    refine ⟨k + 1, ?_, ?_, weak_sub ⟨rfl, rfl, rfl, rfl, rfl, (eqSlotI (curAt_no (by have h := c2; have h' := c3; unfold curOk; revert h h'; cases y.2.1 <;> cases y.2.2.1 <;> simp <;> grind))), rfl, trivial⟩ ⟨rfl, rfl, rfl, rfl, trivial⟩ trivial rfl⟩
    ·omega
    ·omega
 ·skip
  have d1 := of_decide_eq_false c1
  have hk9 : k = x.2.1.length := by omega
  iterate 10 refine z ?_
  refine yQ rfl (fun c4 => ?_) fun c4 => ?_
  ·skip
   have d4 := of_decide_eq_true c4
   iterate 2 refine z ?_
   refine yO rfl rfl (pu_build hT hB rfl rfl rfl bp_nil) rfl ?_
   iterate 4 refine z ?_
   rw [curNext_no (s := x) (x := y) (by rw [← hk9]; exact d4)]
   refine ok_weak (weak_nilB 9001 (b := 5) (i := 3) (e := 83) (sz := 2) rfl rfl rfl rfl rfl) ?_
   refine ok_weak (σ' := ⟨[(4, .box 4 0), (5, .box 5 0), (6, .one (.dv [] (.bool (false))))], [(4, 42, [(.dv [] (.bool (y.1.1))), (.dv [] (.bool (y.1.2.1))), (.dv [] (.int .i64 (y.1.2.2.1.1))), (.dv [] (.int .i64 (y.1.2.2.1.2.1))), (.dv [] (.str (y.1.2.2.1.2.2))), (.dv [] (.int .i64 (y.1.2.2.2.1))), (.dv [] (.int .i64 (y.1.2.2.2.2.1))), (.dv [] (.str (y.1.2.2.2.2.2))), (.dv [] (.bool (y.2.1))), (.dv [] (.bool (y.2.2.1))), (.dv [] (.int .i64 (y.2.2.2.1))), (.dv [] (.int .i64 (y.2.2.2.2.1))), (.dv [] (.str (y.2.2.2.2.2)))]), (5, 53, [(.dv [] (.int .i64 (0))), (.dv [] (.int .i64 (0))), (.dv [] (.str (ByteArray.empty))), (.key 9001)])], [(9001, some (kcOf false (fieldsD [])))]⟩) (weak_sub ⟨rfl, rfl, rfl, trivial⟩ ⟨rfl, rfl, trivial⟩ ⟨rfl, trivial⟩ rfl) ?_
   iterate 2 refine z ?_
   refine fin3 (res_cell hT rfl rfl rfl rfl) (res_cell hT rfl rfl rfl rfl) (res_tmp rfl) rfl rfl rfl ?_
   exact ⟨rfl, rfl⟩
  ·skip
   have d4 := of_decide_eq_false c4
   have hl := curAt_le y x.2.1 k
   iterate 9 refine z ?_
   refine o_store hT rfl rfl rfl rfl (ev_tmp rfl) ev_bool rfl rfl rfl rfl rfl rfl ?_
   iterate 11 refine z ?_
   refine ok_seq ?_
   refine ok_regionD (oB := [2, 3, 4, 5, 11]) (oK := []) (by kernel_rfl) rfl rfl ?_
   refine zD 0 ?_
   refine zD 1 ?_
   refine zD 2 ?_
   refine zD 3 ?_
   refine zD 4 ?_
   refine zD 5 ?_
   refine d_callK 1998 6 rfl (by kernel_rfl) rfl rfl rfl Try.call33 (ok_spec_l6Item (by first | omega | (have h9 := wget (w := wItem) (xs := x.2.1) (i := (curAt y x.2.1 k).toNat) (by omega); have h8 : wStore x = x.1.size + (x.2.1.length + wSum wItem x.2.1) := rfl; have h7 := item_len (x.2.1.getD (curAt y x.2.1 k).toNat default); omega))) (as_cons (ev_tmp rfl) (ag_agg (ag_cons ac_dv (ag_cons ac_dv (ag_cons ac_dv (ag_cons ac_dv ag_nil))))) as_nil) rfl rfl rfl rfl rfl ?_
   refine d_chain [7, 8, 9] rfl rfl (by kernel_rfl) ?_
   iterate 4 refine z ?_
   rw [curNext_yes (s := x) (x := y) (by rw [← hk9]; exact d4), ← hk9]
   refine ok_weak (σ' := ⟨[(4, .box 4 0), (5, .box 5 0), (6, .one (.dv [] (.bool (true))))], [(4, 42, [(.dv [] (.bool (y.1.1))), (.dv [] (.bool (y.1.2.1))), (.dv [] (.int .i64 (y.1.2.2.1.1))), (.dv [] (.int .i64 (y.1.2.2.1.2.1))), (.dv [] (.str (y.1.2.2.1.2.2))), (.dv [] (.int .i64 (y.1.2.2.2.1))), (.dv [] (.int .i64 (y.1.2.2.2.2.1))), (.dv [] (.str (y.1.2.2.2.2.2))), (.dv [] (.bool (y.2.1))), (.dv [] (.bool (true))), (.dv [] (.int .i64 ((((x.2.1)).getD (curAt y x.2.1 k).toNat default).1.1))), (.dv [] (.int .i64 ((((x.2.1)).getD (curAt y x.2.1 k).toNat default).1.2.1))), (.dv [] (.str ((((x.2.1)).getD (curAt y x.2.1 k).toNat default).1.2.2)))]), (5, 53, [(.dv [] (.int .i64 (((((x.2.1)).getD (curAt y x.2.1 k).toNat default)).1.1))), (.dv [] (.int .i64 (((((x.2.1)).getD (curAt y x.2.1 k).toNat default)).1.2.1))), (.dv [] (.str (((((x.2.1)).getD (curAt y x.2.1 k).toNat default)).1.2.2))), (.key 9001)])], [(9001, some (kcOf false (fieldsD (x.2.1.getD (curAt y x.2.1 k).toNat default).2)))]⟩) (weak_sub ⟨rfl, rfl, rfl, trivial⟩ ⟨rfl, rfl, trivial⟩ ⟨rfl, trivial⟩ rfl) ?_
   refine z ?_
   refine fin3 (res_cell hT rfl rfl rfl rfl) (res_cell hT rfl rfl rfl rfl) (res_tmp rfl) rfl rfl rfl ?_
   exact ⟨rfl, rfl⟩
end Go.Proofs.Ytjeiflklhchjpaa

namespace Go.Proofs.Ytjeiflklhchjpaa
open Go.RowKit
open Go.Proofs
set_option linter.unusedVariables false
set_option linter.unusedSimpArgs false
theorem ok_impl_WalkStore {x : StoreT} {y : CursorT} (hb : wStore x ≤ 1048576) : KFn Try.prog 10 [.agg [(.dv [] (.str (x.1))), (.dv [] (itemsD (x.2.1))), (.dv [] (.int .i64 (x.2.2)))], .agg [(.dv [] (.bool (y.1.1))), (.dv [] (.bool (y.1.2.1))), (.dv [] (.int .i64 (y.1.2.2.1.1))), (.dv [] (.int .i64 (y.1.2.2.1.2.1))), (.dv [] (.str (y.1.2.2.1.2.2))), (.dv [] (.int .i64 (y.1.2.2.2.1))), (.dv [] (.int .i64 (y.1.2.2.2.2.1))), (.dv [] (.str (y.1.2.2.2.2.2))), (.dv [] (.bool (y.2.1))), (.dv [] (.bool (y.2.2.1))), (.dv [] (.int .i64 (y.2.2.2.1))), (.dv [] (.int .i64 (y.2.2.2.2.1))), (.dv [] (.str (y.2.2.2.2.2)))]] (.one (.key 9)) [(9, some (kcOf false (itemsD (walkN x 16 y))))] := by
 refine ⟨fn_intro Try.func10 rfl Try.ntmps10 Try.results10 rfl (fun C => ?_)⟩
 refine yF 0 0 rfl rfl fun f0_0 => ?_
 refine yF 0 1 rfl rfl fun f0_1 => ?_
 refine yF 0 2 rfl rfl fun f0_2 => ?_
 refine yF 1 2 rfl rfl fun f1_2 => ?_
 refine yF 1 3 rfl rfl fun f1_3 => ?_
 refine yF 1 4 rfl rfl fun f1_4 => ?_
 refine yF 1 5 rfl rfl fun f1_5 => ?_
 refine yF 1 6 rfl rfl fun f1_6 => ?_
 refine yF 1 7 rfl rfl fun f1_7 => ?_
 refine yF 1 10 rfl rfl fun f1_10 => ?_
 refine yF 1 11 rfl rfl fun f1_11 => ?_
 refine yF 1 12 rfl rfl fun f1_12 => ?_
 iterate 6 refine z ?_
 refine o_build0 (k := 9) hT rfl rfl rfl rfl rfl rfl rfl rfl ?_
 iterate 4 refine z ?_
 refine ok_loop (ι := Nat × CursorT × List ItemT) (fun zz => ⟨[(2, .box 2 0), (3, .box 3 0), (4, .one .nil), (5, .one (.key 9))], [(2, 36, [(.dv [] (.str (x.1))), (.dv [] (itemsD (x.2.1))), (.dv [] (.int .i64 (x.2.2)))]), (3, 42, [(.dv [] (.bool (zz.2.1.1.1))), (.dv [] (.bool (zz.2.1.1.2.1))), (.dv [] (.int .i64 (zz.2.1.1.2.2.1.1))), (.dv [] (.int .i64 (zz.2.1.1.2.2.1.2.1))), (.dv [] (.str (zz.2.1.1.2.2.1.2.2))), (.dv [] (.int .i64 (zz.2.1.1.2.2.2.1))), (.dv [] (.int .i64 (zz.2.1.1.2.2.2.2.1))), (.dv [] (.str (zz.2.1.1.2.2.2.2.2))), (.dv [] (.bool (zz.2.1.2.1))), (.dv [] (.bool (zz.2.1.2.2.1))), (.dv [] (.int .i64 (zz.2.1.2.2.2.1))), (.dv [] (.int .i64 (zz.2.1.2.2.2.2.1))), (.dv [] (.str (zz.2.1.2.2.2.2.2)))])], [(9, some (kcOf false (.sl 53 4 (zz.2.2.length) (zz.2.2.flatMap eItem))))]⟩) (fun zz => zz.2.2.length = zz.1 ∧ zz.1 ≤ 16 ∧ walkN x 16 y = zz.2.2 ++ walkN x (16 - zz.1) zz.2.1) (fun zz => 16 - zz.1) ((0, y, [])) ?_ (weak_sub ⟨rfl, rfl, rfl, rfl, trivial⟩ ⟨rfl, rfl, trivial⟩ ⟨rfl, trivial⟩ rfl) (fun zz hx => ?_)
 ·exact ⟨rfl, by omega, rfl⟩
 obtain ⟨k, c, o⟩ := zz
 replace hx : o.length = k ∧ k ≤ 16 ∧ walkN x 16 y = o ++ walkN x (16 - k) c := hx
 obtain ⟨hl, hk, hw⟩ := hx
 show Ok _ _ _ _ _ (⟨[(2, .box 2 0), (3, .box 3 0), (4, .one .nil), (5, .one (.key 9))], [(2, 36, [(.dv [] (.str (x.1))), (.dv [] (itemsD (x.2.1))), (.dv [] (.int .i64 (x.2.2)))]), (3, 42, [(.dv [] (.bool (c.1.1))), (.dv [] (.bool (c.1.2.1))), (.dv [] (.int .i64 (c.1.2.2.1.1))), (.dv [] (.int .i64 (c.1.2.2.1.2.1))), (.dv [] (.str (c.1.2.2.1.2.2))), (.dv [] (.int .i64 (c.1.2.2.2.1))), (.dv [] (.int .i64 (c.1.2.2.2.2.1))), (.dv [] (.str (c.1.2.2.2.2.2))), (.dv [] (.bool (c.2.1))), (.dv [] (.bool (c.2.2.1))), (.dv [] (.int .i64 (c.2.2.2.1))), (.dv [] (.int .i64 (c.2.2.2.2.1))), (.dv [] (.str (c.2.2.2.2.2)))])], [(9, some (kcOf false (.sl 53 4 (o.length) (o.flatMap eItem))))]⟩ : St)
 iterate 3 refine z ?_
 refine yO rfl rfl (pu_lenKn (n := (o.length)) hT rfl rfl (ev_tmp rfl) rfl rfl) rfl ?_
 iterate 2 refine z ?_
 refine yQ rfl (fun c1 => ?_) fun c1 => ?_
 ·skip
  have d1 := of_decide_eq_true c1
  iterate 6 refine z ?_
  refine zK 16000 Try.call17 ?_ (hf := ok_impl_CursorNext (by first | omega | assumption))
  iterate 15 refine z ?_
  refine yQ rfl (fun c2 => ?_) fun c2 => ?_
  ·skip
   iterate 10 refine z ?_
   refine ok_weak (σ' := ⟨[(4, .one (.key 9))], [], [(9, some (kcOf false (itemsD (walkN x 16 y))))]⟩) (weak_sub ⟨rfl, trivial⟩ trivial ⟨(congrArg (fun l : List ItemT => some (some (KC.mk false 53 4 l.length (l.flatMap eItem)))) (by first | exact walk_end (by omega) hw | exact walk_stop (by omega) hw (by have h := c2; simpa using h))), trivial⟩ rfl) ?_
   refine z ?_
   refine fin1 (res_tmp rfl) ?_
   exact ⟨rfl, rfl⟩
  ·skip
   iterate 6 refine z ?_
   refine ok_region ?_
   iterate 2 refine z ?_
   refine o_build1 (k := 25) (js := [25001]) hT rfl rfl rfl rfl rfl rfl rfl rfl rfl (ev_tmp rfl) rfl rfl (ow_cons' (ow_dv rfl) (ow_cons' (ow_dv rfl) (ow_cons' (ow_dv rfl) (ow_cons' (ow_key rfl) ow_nil rfl) rfl) rfl) rfl) (by decide) (by decide) rfl rfl ?_
   simp only [killT, killB, SV.kill, CV.kill, kk, Nat.reduceBEq]
   refine o_appK (k := 9) (j := 25) (cs := (o ++ [(curNext x c).2.1]).flatMap eItem) (n := (o ++ [(curNext x c).2.1]).length) hT rfl rfl rfl rfl rfl rfl rfl (ev_tmp rfl) rfl rfl rfl (ev_tmp rfl) rfl rfl (by decide) (by dsimp only [kcOf]; omega) (by dsimp only [kcOf]; omega) (by simp) (by rw [List.flatMap_append]; rfl) ?_
   simp only [killT, killB, SV.kill, CV.kill, kk, Nat.reduceBEq]
   refine z ?_
   refine ops_nil ?_
   iterate 2 refine z ?_
   refine ⟨(k + 1, (curNext x c).1, o ++ [(curNext x c).2.1]), ?_, ?_, weak_sub ⟨rfl, rfl, rfl, rfl, trivial⟩ ⟨rfl, rfl, trivial⟩ ⟨rfl, trivial⟩ rfl⟩
   ·exact ⟨by simp only [List.length_append, List.length_singleton]; omega, by omega, wkGo (by omega) hw (by have h := c2; simpa using h)⟩
   ·dsimp only; omega
 ·skip
  have d1 := of_decide_eq_false c1
  iterate 9 refine z ?_
  refine ok_weak (σ' := ⟨[(4, .one (.key 9))], [], [(9, some (kcOf false (itemsD (walkN x 16 y))))]⟩) (weak_sub ⟨rfl, trivial⟩ trivial ⟨(congrArg (fun l : List ItemT => some (some (KC.mk false 53 4 l.length (l.flatMap eItem)))) (by first | exact walk_end (by omega) hw | exact walk_stop (by omega) hw (by have h := c2; simpa using h))), trivial⟩ rfl) ?_
  refine z ?_
  refine fin1 (res_tmp rfl) ?_
  exact ⟨rfl, rfl⟩
theorem ok_spec_WalkStore {x : StoreT} {y : CursorT} (hb : wStore x ≤ 1048576) : KFn Try.prog 7 [.agg [(.dv [] (.str (x.1))), (.dv [] (itemsD (x.2.1))), (.dv [] (.int .i64 (x.2.2)))], .agg [(.dv [] (.bool (y.1.1))), (.dv [] (.bool (y.1.2.1))), (.dv [] (.int .i64 (y.1.2.2.1.1))), (.dv [] (.int .i64 (y.1.2.2.1.2.1))), (.dv [] (.str (y.1.2.2.1.2.2))), (.dv [] (.int .i64 (y.1.2.2.2.1))), (.dv [] (.int .i64 (y.1.2.2.2.2.1))), (.dv [] (.str (y.1.2.2.2.2.2))), (.dv [] (.bool (y.2.1))), (.dv [] (.bool (y.2.2.1))), (.dv [] (.int .i64 (y.2.2.2.1))), (.dv [] (.int .i64 (y.2.2.2.2.1))), (.dv [] (.str (y.2.2.2.2.2)))]] (.one (.key 10)) [(10, some (kcOf false (itemsD (walkN x 16 y))))] := by
 refine ⟨fn_intro Try.func7 rfl Try.ntmps7 Try.results7 rfl (fun C => ?_)⟩
 refine yF 0 0 rfl rfl fun f0_0 => ?_
 refine yF 0 1 rfl rfl fun f0_1 => ?_
 refine yF 0 2 rfl rfl fun f0_2 => ?_
 refine yF 1 2 rfl rfl fun f1_2 => ?_
 refine yF 1 3 rfl rfl fun f1_3 => ?_
 refine yF 1 4 rfl rfl fun f1_4 => ?_
 refine yF 1 5 rfl rfl fun f1_5 => ?_
 refine yF 1 6 rfl rfl fun f1_6 => ?_
 refine yF 1 7 rfl rfl fun f1_7 => ?_
 refine yF 1 10 rfl rfl fun f1_10 => ?_
 refine yF 1 11 rfl rfl fun f1_11 => ?_
 refine yF 1 12 rfl rfl fun f1_12 => ?_
 iterate 6 refine z ?_
 refine o_build0 (k := 10) hT rfl rfl rfl rfl rfl rfl rfl rfl ?_
 iterate 7 refine z ?_
 refine ok_loop (ι := Nat × CursorT × List ItemT) (fun zz => ⟨[(2, .box 2 0), (3, .box 3 0), (5, .one (.key 10)), (6, .one (.dv [] (.int .i64 ((zz.1 : Int)))))], [(2, 36, [(.dv [] (.str (x.1))), (.dv [] (itemsD (x.2.1))), (.dv [] (.int .i64 (x.2.2)))]), (3, 42, [(.dv [] (.bool (zz.2.1.1.1))), (.dv [] (.bool (zz.2.1.1.2.1))), (.dv [] (.int .i64 (zz.2.1.1.2.2.1.1))), (.dv [] (.int .i64 (zz.2.1.1.2.2.1.2.1))), (.dv [] (.str (zz.2.1.1.2.2.1.2.2))), (.dv [] (.int .i64 (zz.2.1.1.2.2.2.1))), (.dv [] (.int .i64 (zz.2.1.1.2.2.2.2.1))), (.dv [] (.str (zz.2.1.1.2.2.2.2.2))), (.dv [] (.bool (zz.2.1.2.1))), (.dv [] (.bool (zz.2.1.2.2.1))), (.dv [] (.int .i64 (zz.2.1.2.2.2.1))), (.dv [] (.int .i64 (zz.2.1.2.2.2.2.1))), (.dv [] (.str (zz.2.1.2.2.2.2.2)))])], [(10, some (kcOf false (.sl 53 4 (zz.2.2.length) (zz.2.2.flatMap eItem))))]⟩) (fun zz => zz.2.2.length = zz.1 ∧ zz.1 ≤ 16 ∧ walkN x 16 y = zz.2.2 ++ walkN x (16 - zz.1) zz.2.1) (fun zz => 16 - zz.1) ((0, y, [])) ?_ (weak_sub ⟨rfl, rfl, rfl, rfl, trivial⟩ ⟨rfl, rfl, trivial⟩ ⟨rfl, trivial⟩ rfl) (fun zz hx => ?_)
 ·exact ⟨rfl, by omega, rfl⟩
 obtain ⟨k, c, o⟩ := zz
 replace hx : o.length = k ∧ k ≤ 16 ∧ walkN x 16 y = o ++ walkN x (16 - k) c := hx
 obtain ⟨hl, hk, hw⟩ := hx
 show Ok _ _ _ _ _ (⟨[(2, .box 2 0), (3, .box 3 0), (5, .one (.key 10)), (6, .one (.dv [] (.int .i64 ((k : Int)))))], [(2, 36, [(.dv [] (.str (x.1))), (.dv [] (itemsD (x.2.1))), (.dv [] (.int .i64 (x.2.2)))]), (3, 42, [(.dv [] (.bool (c.1.1))), (.dv [] (.bool (c.1.2.1))), (.dv [] (.int .i64 (c.1.2.2.1.1))), (.dv [] (.int .i64 (c.1.2.2.1.2.1))), (.dv [] (.str (c.1.2.2.1.2.2))), (.dv [] (.int .i64 (c.1.2.2.2.1))), (.dv [] (.int .i64 (c.1.2.2.2.2.1))), (.dv [] (.str (c.1.2.2.2.2.2))), (.dv [] (.bool (c.2.1))), (.dv [] (.bool (c.2.2.1))), (.dv [] (.int .i64 (c.2.2.2.1))), (.dv [] (.int .i64 (c.2.2.2.2.1))), (.dv [] (.str (c.2.2.2.2.2)))])], [(10, some (kcOf false (.sl 53 4 (o.length) (o.flatMap eItem))))]⟩ : St)
 iterate 5 refine z ?_
 refine yQ rfl (fun c1 => ?_) fun c1 => ?_
 ·skip
  have d1 := of_decide_eq_true c1
  iterate 7 refine z ?_
  refine zK 18000 Try.call16 ?_ (hf := ok_spec_CursorNext (by first | omega | assumption))
  iterate 15 refine z ?_
  refine yQ rfl (fun c2 => ?_) fun c2 => ?_
  ·skip
   iterate 4 refine z ?_
   refine ok_weak (σ' := ⟨[(4, .one (.key 10))], [], [(10, some (kcOf false (itemsD (walkN x 16 y))))]⟩) (weak_sub ⟨rfl, trivial⟩ trivial ⟨(congrArg (fun l : List ItemT => some (some (KC.mk false 53 4 l.length (l.flatMap eItem)))) (by first | exact walk_end (by omega) hw | exact walk_stop (by omega) hw (by have h := c2; simpa using h))), trivial⟩ rfl) ?_
   iterate 7 refine z ?_
   refine fin1 (res_tmp rfl) ?_
   exact ⟨rfl, rfl⟩
  ·skip
   iterate 5 refine z ?_
   refine o_build1 (k := 27) (js := [27001]) hT rfl rfl rfl rfl rfl rfl rfl rfl rfl (ev_tmp rfl) rfl rfl (ow_cons' (ow_dv rfl) (ow_cons' (ow_dv rfl) (ow_cons' (ow_dv rfl) (ow_cons' (ow_key rfl) ow_nil rfl) rfl) rfl) rfl) (by decide) (by decide) rfl rfl ?_
   simp only [killT, killB, SV.kill, CV.kill, kk, Nat.reduceBEq]
   refine o_appK (k := 10) (j := 27) (cs := (o ++ [(curNext x c).2.1]).flatMap eItem) (n := (o ++ [(curNext x c).2.1]).length) hT rfl rfl rfl rfl rfl rfl rfl (ev_tmp rfl) rfl rfl rfl (ev_tmp rfl) rfl rfl (by decide) (by dsimp only [kcOf]; omega) (by dsimp only [kcOf]; omega) (by simp) (by rw [List.flatMap_append]; rfl) ?_
   simp only [killT, killB, SV.kill, CV.kill, kk, Nat.reduceBEq]
   iterate 2 refine z ?_
   refine ok_region ?_
   iterate 2 refine z ?_
   refine ops_nil ?_
   iterate 2 refine z ?_
   refine ok_region ?_
   iterate 4 refine z ?_
   refine ⟨(k + 1, (curNext x c).1, o ++ [(curNext x c).2.1]), ?_, ?_, weak_sub ⟨rfl, rfl, rfl, rfl, trivial⟩ ⟨rfl, rfl, trivial⟩ ⟨rfl, trivial⟩ rfl⟩
   ·exact ⟨by simp only [List.length_append, List.length_singleton]; omega, by omega, wkGo (by omega) hw (by have h := c2; simpa using h)⟩
   ·dsimp only; omega
 ·skip
  have d1 := of_decide_eq_false c1
  iterate 9 refine z ?_
  refine ok_weak (σ' := ⟨[(4, .one (.key 10))], [], [(10, some (kcOf false (itemsD (walkN x 16 y))))]⟩) (weak_sub ⟨rfl, trivial⟩ trivial ⟨(congrArg (fun l : List ItemT => some (some (KC.mk false 53 4 l.length (l.flatMap eItem)))) (by first | exact walk_end (by omega) hw | exact walk_stop (by omega) hw (by have h := c2; simpa using h))), trivial⟩ rfl) ?_
  refine z ?_
  refine fin1 (res_tmp rfl) ?_
  exact ⟨rfl, rfl⟩
end Go.Proofs.Ytjeiflklhchjpaa

namespace Go.Proofs.Ytjeiflklhchjpaa
open Go.RowKit
open Go.Proofs
set_option linter.unusedVariables false
set_option linter.unusedSimpArgs false
theorem ok_laws_FnExactWalkStore {x0 : StoreT} {x1 : CursorT}  : PFn Try.prog 3 [.agg [(.dv [] (.str (x0.1))), (.dv [] (itemsD (x0.2.1))), (.dv [] (.int .i64 (x0.2.2)))], .agg [(.dv [] (.bool (x1.1.1))), (.dv [] (.bool (x1.1.2.1))), (.dv [] (.int .i64 (x1.1.2.2.1.1))), (.dv [] (.int .i64 (x1.1.2.2.1.2.1))), (.dv [] (.str (x1.1.2.2.1.2.2))), (.dv [] (.int .i64 (x1.1.2.2.2.1))), (.dv [] (.int .i64 (x1.1.2.2.2.2.1))), (.dv [] (.str (x1.1.2.2.2.2.2))), (.dv [] (.bool (x1.2.1))), (.dv [] (.bool (x1.2.2.1))), (.dv [] (.int .i64 (x1.2.2.2.1))), (.dv [] (.int .i64 (x1.2.2.2.2.1))), (.dv [] (.str (x1.2.2.2.2.2)))]] (.one (.dv [] (.bool (true)))) := by
 refine ⟨fn_intro Try.func3 rfl Try.ntmps3 Try.results3 rfl (fun C => ?_)⟩
 have hcw := walkN_w x0 16 x1
 have hcl := walkN_len x0 16 x1
 have hcx : wList wItem (walkN x0 16 x1) = (walkN x0 16 x1).length + wSum wItem (walkN x0 16 x1) := rfl
 have : wStore x0 = (x0.1).size + wList wItem (x0.2.1) := rfl
 have : wList wItem (x0.2.1) = (x0.2.1).length + wSum wItem (x0.2.1) := rfl
 have : wCursor x1 = wKeyRange (x1.1) + wKey (x1.2.2.2) := rfl
 have : wKeyRange (x1.1) = wKey ((x1.1).2.2.1) + wKey ((x1.1).2.2.2) := rfl
 have : wKey ((x1.1).2.2.1) = (((x1.1).2.2.1).2.2).size := rfl
 have : wKey ((x1.1).2.2.2) = (((x1.1).2.2.2).2.2).size := rfl
 have : wKey (x1.2.2.2) = ((x1.2.2.2).2.2).size := rfl
 have := wSum_bound cItem_le (x0.2.1)
 have := wSum_bound cItem_le ((walkN x0 16 x1))
 refine yF 0 0 rfl rfl fun f0_0 => ?_
 refine yF 0 1 rfl rfl fun f0_1 => ?_
 refine yF 0 2 rfl rfl fun f0_2 => ?_
 refine yF 1 2 rfl rfl fun f1_2 => ?_
 refine yF 1 3 rfl rfl fun f1_3 => ?_
 refine yF 1 4 rfl rfl fun f1_4 => ?_
 refine yF 1 5 rfl rfl fun f1_5 => ?_
 refine yF 1 6 rfl rfl fun f1_6 => ?_
 refine yF 1 7 rfl rfl fun f1_7 => ?_
 refine yF 1 10 rfl rfl fun f1_10 => ?_
 refine yF 1 11 rfl rfl fun f1_11 => ?_
 refine yF 1 12 rfl rfl fun f1_12 => ?_
 iterate 11 refine z ?_
 refine zC Try.call5 ?_ (hf := ok_laws_szStore (by omega) (by omega))
 iterate 7 refine z ?_
 refine yQ rfl (fun c1 => ?_) fun c1 => ?_
 ·skip
  have d1 := of_decide_eq_true c1
  first | have q1 := szR_n d1 | skip
  iterate 6 refine z ?_
  first | rfl | (exfalso; omega) | (exfalso; simp_all; done) | (exfalso; simp_all; omega)
 ·skip
  have d1 := of_decide_eq_false c1
  first | have q1 := szR_nn d1 | skip
  iterate 5 refine z ?_
  refine zC Try.call6 ?_ (hf := ok_laws_szCursor (by omega) (by omega))
  iterate 7 refine z ?_
  refine yQ rfl (fun c2 => ?_) fun c2 => ?_
  ·skip
   have d2 := of_decide_eq_true c2
   first | have q2 := szR_n d2 | skip
   iterate 6 refine z ?_
   first | rfl | (exfalso; omega) | (exfalso; simp_all; done) | (exfalso; simp_all; omega)
  ·skip
   have d2 := of_decide_eq_false c2
   first | have q2 := szR_nn d2 | skip
   iterate 2 refine z ?_
   refine ok_seq ?_
   refine ok_regionD (oB := [2, 3]) (oK := []) (by kernel_rfl) rfl rfl ?_
   refine zD 0 ?_
   refine zD 2 ?_
   refine d_callK 24000 1 rfl (by kernel_rfl) rfl rfl rfl Try.call8 (ok_laws_toStore (by first | omega | (simp only [wKey, wField, wRecord, wItem, wStore, wIndexDef, wDatabase, wOp, wTx, wTxQueue] at hb ⊢; omega) | (have hq := hw (by omega); omega))) (as_cons (ev_tmp rfl) (ag_agg (ag_cons ac_dv (ag_cons ac_dv (ag_cons ac_dv ag_nil)))) as_nil) rfl rfl rfl rfl rfl ?_
   refine d_callK 26000 3 rfl (by kernel_rfl) rfl rfl rfl Try.call9 (ok_laws_toCursor (by first | omega | (simp only [wKey, wField, wRecord, wItem, wStore, wIndexDef, wDatabase, wOp, wTx, wTxQueue] at hb ⊢; omega) | (have hq := hw (by omega); omega))) (as_cons (ev_tmp rfl) (ag_agg (ag_cons ac_dv (ag_cons ac_dv (ag_cons ac_dv (ag_cons ac_dv (ag_cons ac_dv (ag_cons ac_dv (ag_cons ac_dv (ag_cons ac_dv (ag_cons ac_dv (ag_cons ac_dv (ag_cons ac_dv (ag_cons ac_dv (ag_cons ac_dv ag_nil)))))))))))))) as_nil) rfl rfl rfl rfl rfl ?_
   refine d_callK 27000 4 rfl (by kernel_rfl) rfl rfl rfl Try.call7 (ok_spec_WalkStore (by omega)) (as_cons (ev_tmp rfl) (ag_agg (ag_cons ac_dv (ag_cons (ac_key' rfl rfl) (ag_cons ac_dv ag_nil)))) (as_cons (ev_tmp rfl) (ag_agg (ag_cons ac_dv (ag_cons ac_dv (ag_cons ac_dv (ag_cons ac_dv (ag_cons ac_dv (ag_cons ac_dv (ag_cons ac_dv (ag_cons ac_dv (ag_cons ac_dv (ag_cons ac_dv (ag_cons ac_dv (ag_cons ac_dv (ag_cons ac_dv ag_nil)))))))))))))) as_nil)) rfl rfl rfl rfl rfl ?_
   refine zD 5 ?_
   refine d_done (by kernel_rfl) ?_
   iterate 3 refine z ?_
   refine zK 29000 Try.call8 ?_ (hf := ok_laws_toStore (by first | omega | (simp only [wKey, wField, wRecord, wItem, wStore, wIndexDef, wDatabase, wOp, wTx, wTxQueue] at hb ⊢; omega) | (have hq := hw (by omega); omega)))
   iterate 3 refine z ?_
   refine ok_seq ?_
   refine ok_regionD (oB := [2, 3, 7]) (oK := [27010, 33007, 38007]) (by kernel_rfl) rfl rfl ?_
   refine zD 0 ?_
   refine zD 1 ?_
   refine d_callK 32000 2 rfl (by kernel_rfl) rfl rfl rfl Try.call9 (ok_laws_toCursor (by first | omega | (simp only [wKey, wField, wRecord, wItem, wStore, wIndexDef, wDatabase, wOp, wTx, wTxQueue] at hb ⊢; omega) | (have hq := hw (by omega); omega))) (as_cons (ev_tmp rfl) (ag_agg (ag_cons ac_dv (ag_cons ac_dv (ag_cons ac_dv (ag_cons ac_dv (ag_cons ac_dv (ag_cons ac_dv (ag_cons ac_dv (ag_cons ac_dv (ag_cons ac_dv (ag_cons ac_dv (ag_cons ac_dv (ag_cons ac_dv (ag_cons ac_dv ag_nil)))))))))))))) as_nil) rfl rfl rfl rfl rfl ?_
   refine d_callK 33000 3 rfl (by kernel_rfl) rfl rfl rfl Try.call10 (ok_impl_WalkStore (by omega)) (as_cons (ev_tmp rfl) (ag_agg (ag_cons ac_dv (ag_cons (ac_key' rfl rfl) (ag_cons ac_dv ag_nil)))) (as_cons (ev_tmp rfl) (ag_agg (ag_cons ac_dv (ag_cons ac_dv (ag_cons ac_dv (ag_cons ac_dv (ag_cons ac_dv (ag_cons ac_dv (ag_cons ac_dv (ag_cons ac_dv (ag_cons ac_dv (ag_cons ac_dv (ag_cons ac_dv (ag_cons ac_dv (ag_cons ac_dv ag_nil)))))))))))))) as_nil)) rfl rfl rfl rfl rfl ?_
   refine zD 4 ?_
   refine d_done (by kernel_rfl) ?_
   iterate 5 refine z ?_
   refine o_call rfl rfl rfl Try.call11 ok_laws_eqItemS (as_cons (ev_tmp rfl) (ag_one (ac_key' rfl rfl)) (as_cons (ev_tmp rfl) (ag_one (ac_key' rfl rfl)) as_nil)) rfl rfl ?_
   iterate 2 refine z ?_
   refine yQ rfl (fun c3 => ?_) fun c3 => ?_
   ·skip
    iterate 6 refine z ?_
    first | rfl | (exfalso; omega) | (exfalso; simp_all; done) | (exfalso; simp_all; omega)
   ·skip
    iterate 2 refine z ?_
    refine ok_seq ?_
    refine ok_seq ?_
    refine ok_regionD (oB := [2, 3, 7]) (oK := [27010, 33007, 33009, 38007]) (by kernel_rfl) rfl rfl ?_
    refine zD 0 ?_
    refine zD 1 ?_
    refine d_callK 40000 2 rfl (by kernel_rfl) rfl rfl rfl Try.call8 (ok_laws_toStore (by first | omega | (simp only [wKey, wField, wRecord, wItem, wStore, wIndexDef, wDatabase, wOp, wTx, wTxQueue] at hb ⊢; omega) | (have hq := hw (by omega); omega))) (as_cons (ev_tmp rfl) (ag_agg (ag_cons ac_dv (ag_cons ac_dv (ag_cons ac_dv ag_nil)))) as_nil) rfl rfl rfl rfl rfl ?_
    refine d_call 3 rfl (by kernel_rfl) rfl rfl rfl Try.call12 ok_laws_eqStore (as_cons (ev_tmp rfl) (ag_agg (ag_cons ac_dv (ag_cons (ac_key' rfl rfl) (ag_cons ac_dv ag_nil)))) (as_cons (ev_tmp rfl) (ag_agg (ag_cons ac_dv (ag_cons (ac_key' rfl rfl) (ag_cons ac_dv ag_nil)))) as_nil)) rfl rfl rfl rfl ?_
    refine zD 4 ?_
    refine d_done (by kernel_rfl) ?_
    refine z ?_
    refine yQ rfl (fun c4 => ?_) fun c4 => ?_
    ·skip
     iterate 6 refine z ?_
     first | rfl | (exfalso; omega) | (exfalso; simp_all; done) | (exfalso; simp_all; omega)
    ·skip
     iterate 8 refine z ?_
     refine o_callW [(0, 38007, ⟨false, _, _, _, _⟩, ⟨false, _, _, _, _⟩)] rfl rfl rfl Try.call13 (ok_laws_markStore (x := x0) (by omega) (by omega)) ⟨rfl, trivial⟩ rfl (aw_cons (ev_tmp rfl) (aw_agg (awc_cons (awc_dv rfl) (awc_cons (awc_key rfl) (awc_cons (awc_dv rfl) awc_nil)))) (aw_cons (ev_tmp rfl) (aw_one (awc_dv rfl)) aw_nil)) rfl rfl ?_
     simp only [killT, killB, SV.kill, CV.kill, kk, Nat.reduceBEq]
     iterate 9 refine z ?_
     refine o_callG (gd_bool rfl rfl rfl rfl rfl) rfl rfl Try.call11 ok_laws_eqItemS (fun hg => (as_cons (ev_opt rfl hg) (ag_one (ac_key' rfl rfl)) (as_cons (ev_opt rfl hg) (ag_one (ac_key' rfl rfl)) as_nil))) rfl rfl ?_
     iterate 3 refine z ?_
     refine yQ rfl (fun c5 => ?_) fun c5 => ?_
     ·skip
      iterate 6 refine z ?_
      first | rfl | (exfalso; omega) | (exfalso; simp_all; done) | (exfalso; simp_all; omega)
     ·skip
      iterate 8 refine z ?_
      refine o_callW [(0, 33009, ⟨false, _, _, _, _⟩, ⟨false, _, _, _, _⟩)] rfl rfl rfl Try.call14 (ok_laws_markItemS (x := (walkN x0 16 x1)) (by omega) (by omega)) ⟨rfl, trivial⟩ rfl (aw_cons (ev_tmp rfl) (aw_one (awc_key rfl)) (aw_cons (ev_tmp rfl) (aw_one (awc_dv rfl)) aw_nil)) rfl rfl ?_
      simp only [killT, killB, SV.kill, CV.kill, kk, Nat.reduceBEq]
      iterate 8 refine z ?_
      refine o_call rfl rfl rfl Try.call15 (ok_laws_heldItemS (x := (walkN x0 16 x1)) rfl (by omega) (by omega)) (as_cons (ev_tmp rfl) (ag_one (ac_key' rfl rfl)) (as_cons (ev_tmp rfl) (ag_one ac_dv) as_nil)) rfl rfl ?_
      iterate 7 refine z ?_
      refine yQ rfl (fun c6 => ?_) fun c6 => ?_
      ·skip
       have d6 := of_decide_eq_true c6
       first | have q6 := szR_n d6 | skip
       iterate 6 refine z ?_
       first | rfl | (exfalso; omega) | (exfalso; simp_all; done) | (exfalso; simp_all; omega)
      ·skip
       have d6 := of_decide_eq_false c6
       first | have q6 := szR_nn d6 | skip
       iterate 8 refine z ?_
       refine yQ rfl (fun c7 => ?_) fun c7 => ?_
       ·skip
        have d7 := nd_t c7
        iterate 6 refine z ?_
        first | rfl | (exfalso; omega) | (exfalso; simp_all; done) | (exfalso; simp_all; omega)
       ·skip
        have d7 := nd_f c7
        iterate 2 refine z ?_
        refine ok_seq ?_
        refine ok_regionD (oB := [2, 3, 7]) (oK := [27010, 33007, 33009, 38007, 49007]) (by kernel_rfl) rfl rfl ?_
        refine zD 0 ?_
        refine zD 2 ?_
        refine d_callK 66000 1 rfl (by kernel_rfl) rfl rfl rfl Try.call8 (ok_laws_toStore (by first | omega | (simp only [wKey, wField, wRecord, wItem, wStore, wIndexDef, wDatabase, wOp, wTx, wTxQueue] at hb ⊢; omega) | (have hq := hw (by omega); omega))) (as_cons (ev_tmp rfl) (ag_agg (ag_cons ac_dv (ag_cons ac_dv (ag_cons ac_dv ag_nil)))) as_nil) rfl rfl rfl rfl rfl ?_
        refine d_callK 68000 3 rfl (by kernel_rfl) rfl rfl rfl Try.call9 (ok_laws_toCursor (by first | omega | (simp only [wKey, wField, wRecord, wItem, wStore, wIndexDef, wDatabase, wOp, wTx, wTxQueue] at hb ⊢; omega) | (have hq := hw (by omega); omega))) (as_cons (ev_tmp rfl) (ag_agg (ag_cons ac_dv (ag_cons ac_dv (ag_cons ac_dv (ag_cons ac_dv (ag_cons ac_dv (ag_cons ac_dv (ag_cons ac_dv (ag_cons ac_dv (ag_cons ac_dv (ag_cons ac_dv (ag_cons ac_dv (ag_cons ac_dv (ag_cons ac_dv ag_nil)))))))))))))) as_nil) rfl rfl rfl rfl rfl ?_
        refine d_callK 69000 4 rfl (by kernel_rfl) rfl rfl rfl Try.call10 (ok_impl_WalkStore (by omega)) (as_cons (ev_tmp rfl) (ag_agg (ag_cons ac_dv (ag_cons (ac_key' rfl rfl) (ag_cons ac_dv ag_nil)))) (as_cons (ev_tmp rfl) (ag_agg (ag_cons ac_dv (ag_cons ac_dv (ag_cons ac_dv (ag_cons ac_dv (ag_cons ac_dv (ag_cons ac_dv (ag_cons ac_dv (ag_cons ac_dv (ag_cons ac_dv (ag_cons ac_dv (ag_cons ac_dv (ag_cons ac_dv (ag_cons ac_dv ag_nil)))))))))))))) as_nil)) rfl rfl rfl rfl rfl ?_
        refine zD 5 ?_
        refine d_done (by kernel_rfl) ?_
        iterate 5 refine z ?_
        refine o_call rfl rfl rfl Try.call11 ok_laws_eqItemS (as_cons (ev_tmp rfl) (ag_one (ac_key' rfl rfl)) (as_cons (ev_tmp rfl) (ag_one (ac_key' rfl rfl)) as_nil)) rfl rfl ?_
        iterate 2 refine z ?_
        refine yQ rfl (fun c8 => ?_) fun c8 => ?_
        ·skip
         iterate 6 refine z ?_
         first | rfl | (exfalso; omega) | (exfalso; simp_all; done) | (exfalso; simp_all; omega)
        ·skip
         iterate 8 refine z ?_
         refine o_call rfl rfl rfl Try.call15 (ok_laws_heldItemS (x := (walkN x0 16 x1)) rfl (by omega) (by omega)) (as_cons (ev_tmp rfl) (ag_one (ac_key' rfl rfl)) (as_cons (ev_tmp rfl) (ag_one ac_dv) as_nil)) rfl rfl ?_
         iterate 7 refine z ?_
         refine yQ rfl (fun c9 => ?_) fun c9 => ?_
         ·skip
          have d9 := of_decide_eq_true c9
          first | have q9 := szR_n d9 | skip
          iterate 6 refine z ?_
          first | rfl | (exfalso; omega) | (exfalso; simp_all; done) | (exfalso; simp_all; omega)
         ·skip
          have d9 := of_decide_eq_false c9
          first | have q9 := szR_nn d9 | skip
          iterate 8 refine z ?_
          refine yQ rfl (fun c10 => ?_) fun c10 => ?_
          ·skip
           have d10 := nd_t c10
           iterate 6 refine z ?_
           first | rfl | (exfalso; omega) | (exfalso; simp_all; done) | (exfalso; simp_all; omega)
          ·skip
           have d10 := nd_f c10
           iterate 7 refine z ?_
           first | rfl | (exfalso; omega) | (exfalso; simp_all; done) | (exfalso; simp_all; omega)
end Go.Proofs.Ytjeiflklhchjpaa

namespace Go.Proofs.Ytjeiflklhchjpaa
open Go.RowKit
open Go.Proofs
set_option linter.unusedVariables false
set_option linter.unusedSimpArgs false
theorem ok_laws_FnExactCursorNext {x0 : StoreT} {x1 : CursorT}  : PFn Try.prog 4 [.agg [(.dv [] (.str (x0.1))), (.dv [] (itemsD (x0.2.1))), (.dv [] (.int .i64 (x0.2.2)))], .agg [(.dv [] (.bool (x1.1.1))), (.dv [] (.bool (x1.1.2.1))), (.dv [] (.int .i64 (x1.1.2.2.1.1))), (.dv [] (.int .i64 (x1.1.2.2.1.2.1))), (.dv [] (.str (x1.1.2.2.1.2.2))), (.dv [] (.int .i64 (x1.1.2.2.2.1))), (.dv [] (.int .i64 (x1.1.2.2.2.2.1))), (.dv [] (.str (x1.1.2.2.2.2.2))), (.dv [] (.bool (x1.2.1))), (.dv [] (.bool (x1.2.2.1))), (.dv [] (.int .i64 (x1.2.2.2.1))), (.dv [] (.int .i64 (x1.2.2.2.2.1))), (.dv [] (.str (x1.2.2.2.2.2)))]] (.one (.dv [] (.bool (true)))) := by
 refine ⟨fn_intro Try.func4 rfl Try.ntmps4 Try.results4 rfl (fun C => ?_)⟩
 have hcw := curNext_w x0 x1
 have : wStore x0 = (x0.1).size + wList wItem (x0.2.1) := rfl
 have : wList wItem (x0.2.1) = (x0.2.1).length + wSum wItem (x0.2.1) := rfl
 have : wCursor x1 = wKeyRange (x1.1) + wKey (x1.2.2.2) := rfl
 have : wKeyRange (x1.1) = wKey ((x1.1).2.2.1) + wKey ((x1.1).2.2.2) := rfl
 have : wKey ((x1.1).2.2.1) = (((x1.1).2.2.1).2.2).size := rfl
 have : wKey ((x1.1).2.2.2) = (((x1.1).2.2.2).2.2).size := rfl
 have : wKey (x1.2.2.2) = ((x1.2.2.2).2.2).size := rfl
 have := wSum_bound cItem_le (x0.2.1)
 have : wItem (curNext x0 x1).2.1 = wKey ((curNext x0 x1).2.1.1) + wRecord ((curNext x0 x1).2.1.2) := rfl
 have : wKey ((curNext x0 x1).2.1.1) = (((curNext x0 x1).2.1.1).2.2).size := rfl
 have : wRecord ((curNext x0 x1).2.1.2) = wList wField (((curNext x0 x1).2.1.2)) := rfl
 have : wList wField (((curNext x0 x1).2.1.2)) = (((curNext x0 x1).2.1.2)).length + wSum wField (((curNext x0 x1).2.1.2)) := rfl
 have := wSum_bound cField_le ((curNext x0 x1).2.1.2)
 refine yF 0 0 rfl rfl fun f0_0 => ?_
 refine yF 0 1 rfl rfl fun f0_1 => ?_
 refine yF 0 2 rfl rfl fun f0_2 => ?_
 refine yF 1 2 rfl rfl fun f1_2 => ?_
 refine yF 1 3 rfl rfl fun f1_3 => ?_
 refine yF 1 4 rfl rfl fun f1_4 => ?_
 refine yF 1 5 rfl rfl fun f1_5 => ?_
 refine yF 1 6 rfl rfl fun f1_6 => ?_
 refine yF 1 7 rfl rfl fun f1_7 => ?_
 refine yF 1 10 rfl rfl fun f1_10 => ?_
 refine yF 1 11 rfl rfl fun f1_11 => ?_
 refine yF 1 12 rfl rfl fun f1_12 => ?_
 iterate 11 refine z ?_
 refine zC Try.call5 ?_ (hf := ok_laws_szStore (by omega) (by omega))
 iterate 7 refine z ?_
 refine yQ rfl (fun c1 => ?_) fun c1 => ?_
 ·skip
  have d1 := of_decide_eq_true c1
  first | have q1 := szR_n d1 | skip
  iterate 6 refine z ?_
  first | rfl | (exfalso; omega) | (exfalso; simp_all; done) | (exfalso; simp_all; omega)
 ·skip
  have d1 := of_decide_eq_false c1
  first | have q1 := szR_nn d1 | skip
  iterate 5 refine z ?_
  refine zC Try.call6 ?_ (hf := ok_laws_szCursor (by omega) (by omega))
  iterate 7 refine z ?_
  refine yQ rfl (fun c2 => ?_) fun c2 => ?_
  ·skip
   have d2 := of_decide_eq_true c2
   first | have q2 := szR_n d2 | skip
   iterate 6 refine z ?_
   first | rfl | (exfalso; omega) | (exfalso; simp_all; done) | (exfalso; simp_all; omega)
  ·skip
   have d2 := of_decide_eq_false c2
   first | have q2 := szR_nn d2 | skip
   iterate 2 refine z ?_
   refine ok_seq ?_
   refine ok_regionD (oB := [2, 3]) (oK := []) (by kernel_rfl) rfl rfl ?_
   refine zD 0 ?_
   refine zD 2 ?_
   refine d_vars (A := [(9, 6, 42, _), (10, 7, 53, _)]) hT ⟨⟨_, _, rfl⟩, rfl, ⟨⟨_, _, rfl⟩, rfl, trivial⟩⟩ ?_
   refine a_callK 31000 1 rfl (by kernel_rfl) rfl rfl rfl (vok hT ⟨⟨_, _, rfl⟩, rfl, ⟨⟨_, _, rfl⟩, rfl, trivial⟩⟩ (by kernel_rfl) (by kernel_rfl)) (vok hT ⟨⟨_, _, rfl⟩, rfl, ⟨⟨_, _, rfl⟩, rfl, trivial⟩⟩ (by kernel_rfl) (by kernel_rfl)) rfl Try.call8 (ok_laws_toStore (by first | omega | (simp only [wKey, wField, wRecord, wItem, wStore, wIndexDef, wDatabase, wOp, wTx, wTxQueue] at hb ⊢; omega) | (have hq := hw (by omega); omega))) (as_cons (ev_tmp rfl) (ag_agg (ag_cons ac_dv (ag_cons ac_dv (ag_cons ac_dv ag_nil)))) as_nil) rfl rfl rfl rfl rfl ?_
   refine a_callK 33000 3 rfl (by kernel_rfl) rfl rfl rfl (vok hT ⟨⟨_, _, rfl⟩, rfl, ⟨⟨_, _, rfl⟩, rfl, trivial⟩⟩ (by kernel_rfl) (by kernel_rfl)) (vok hT ⟨⟨_, _, rfl⟩, rfl, ⟨⟨_, _, rfl⟩, rfl, trivial⟩⟩ (by kernel_rfl) (by kernel_rfl)) rfl Try.call9 (ok_laws_toCursor (by first | omega | (simp only [wKey, wField, wRecord, wItem, wStore, wIndexDef, wDatabase, wOp, wTx, wTxQueue] at hb ⊢; omega) | (have hq := hw (by omega); omega))) (as_cons (ev_tmp rfl) (ag_agg (ag_cons ac_dv (ag_cons ac_dv (ag_cons ac_dv (ag_cons ac_dv (ag_cons ac_dv (ag_cons ac_dv (ag_cons ac_dv (ag_cons ac_dv (ag_cons ac_dv (ag_cons ac_dv (ag_cons ac_dv (ag_cons ac_dv (ag_cons ac_dv ag_nil)))))))))))))) as_nil) rfl rfl rfl rfl rfl ?_
   refine a_callK 34000 4 rfl (by kernel_rfl) rfl rfl rfl (vok hT ⟨⟨_, _, rfl⟩, rfl, ⟨⟨_, _, rfl⟩, rfl, trivial⟩⟩ (by kernel_rfl) (by kernel_rfl)) (vok hT ⟨⟨_, _, rfl⟩, rfl, ⟨⟨_, _, rfl⟩, rfl, trivial⟩⟩ (by kernel_rfl) (by kernel_rfl)) rfl Try.call16 (ok_spec_CursorNext (by first | omega | assumption)) (as_cons (ev_tmp rfl) (ag_agg (ag_cons ac_dv (ag_cons (ac_key' rfl rfl) (ag_cons ac_dv ag_nil)))) (as_cons (ev_tmp rfl) (ag_agg (ag_cons ac_dv (ag_cons ac_dv (ag_cons ac_dv (ag_cons ac_dv (ag_cons ac_dv (ag_cons ac_dv (ag_cons ac_dv (ag_cons ac_dv (ag_cons ac_dv (ag_cons ac_dv (ag_cons ac_dv (ag_cons ac_dv (ag_cons ac_dv ag_nil)))))))))))))) as_nil)) rfl rfl rfl rfl rfl ?_
   refine a_take 5 rfl (by kernel_rfl) rfl rfl rfl (vok hT ⟨⟨_, _, rfl⟩, rfl, ⟨⟨_, _, rfl⟩, rfl, trivial⟩⟩ (by kernel_rfl) (by kernel_rfl)) (vok hT ⟨⟨_, _, rfl⟩, rfl, ⟨⟨_, _, rfl⟩, rfl, trivial⟩⟩ (by kernel_rfl) (by kernel_rfl)) (pu_move (.inl rfl) (ev_tmp rfl)) rfl rfl rfl rfl ?_
   refine a_takeX 6 rfl (by kernel_rfl) rfl rfl rfl rfl (vok hT ⟨⟨_, _, rfl⟩, rfl, ⟨⟨_, _, rfl⟩, rfl, trivial⟩⟩ (by kernel_rfl) (by kernel_rfl)) (vok hT ⟨⟨_, _, rfl⟩, rfl, ⟨⟨_, _, rfl⟩, rfl, trivial⟩⟩ (by kernel_rfl) (by kernel_rfl)) (pu_extractA rfl (ev_tmp rfl) rfl) rfl rfl ?_
   refine a_takeX 7 rfl (by kernel_rfl) rfl rfl rfl rfl (vok hT ⟨⟨_, _, rfl⟩, rfl, ⟨⟨_, _, rfl⟩, rfl, trivial⟩⟩ (by kernel_rfl) (by kernel_rfl)) (vok hT ⟨⟨_, _, rfl⟩, rfl, ⟨⟨_, _, rfl⟩, rfl, trivial⟩⟩ (by kernel_rfl) (by kernel_rfl)) (pu_extractA rfl (ev_tmp rfl) rfl) rfl rfl ?_
   refine a_takeX 8 rfl (by kernel_rfl) rfl rfl rfl rfl (vok hT ⟨⟨_, _, rfl⟩, rfl, ⟨⟨_, _, rfl⟩, rfl, trivial⟩⟩ (by kernel_rfl) (by kernel_rfl)) (vok hT ⟨⟨_, _, rfl⟩, rfl, ⟨⟨_, _, rfl⟩, rfl, trivial⟩⟩ (by kernel_rfl) (by kernel_rfl)) (pu_extract1 rfl (ev_tmp rfl) rfl) rfl rfl ?_
   refine a_exit1 (vok hT ⟨⟨_, _, rfl⟩, rfl, ⟨⟨_, _, rfl⟩, rfl, trivial⟩⟩ (by kernel_rfl) (by kernel_rfl)) rfl rfl (by kernel_rfl) ?_
   dsimp only [addT, addB]
   refine d_chain [11, 12, 13] rfl rfl (by kernel_rfl) ?_
   iterate 6 refine z ?_
   refine zK 39000 Try.call8 ?_ (hf := ok_laws_toStore (by first | omega | (simp only [wKey, wField, wRecord, wItem, wStore, wIndexDef, wDatabase, wOp, wTx, wTxQueue] at hb ⊢; omega) | (have hq := hw (by omega); omega)))
   iterate 3 refine z ?_
   refine ok_seq ?_
   refine ok_regionD (oB := [2, 3, 6, 7, 9]) (oK := [40007, 43001, 48007]) (by kernel_rfl) rfl rfl ?_
   refine zD 0 ?_
   refine zD 1 ?_
   refine d_vars (A := [(8, 10, 42, _), (9, 11, 53, _)]) hT ⟨⟨_, _, rfl⟩, rfl, ⟨⟨_, _, rfl⟩, rfl, trivial⟩⟩ ?_
   refine a_callK 43000 2 rfl (by kernel_rfl) rfl rfl rfl (vok hT ⟨⟨_, _, rfl⟩, rfl, ⟨⟨_, _, rfl⟩, rfl, trivial⟩⟩ (by kernel_rfl) (by kernel_rfl)) (vok hT ⟨⟨_, _, rfl⟩, rfl, ⟨⟨_, _, rfl⟩, rfl, trivial⟩⟩ (by kernel_rfl) (by kernel_rfl)) rfl Try.call9 (ok_laws_toCursor (by first | omega | (simp only [wKey, wField, wRecord, wItem, wStore, wIndexDef, wDatabase, wOp, wTx, wTxQueue] at hb ⊢; omega) | (have hq := hw (by omega); omega))) (as_cons (ev_tmp rfl) (ag_agg (ag_cons ac_dv (ag_cons ac_dv (ag_cons ac_dv (ag_cons ac_dv (ag_cons ac_dv (ag_cons ac_dv (ag_cons ac_dv (ag_cons ac_dv (ag_cons ac_dv (ag_cons ac_dv (ag_cons ac_dv (ag_cons ac_dv (ag_cons ac_dv ag_nil)))))))))))))) as_nil) rfl rfl rfl rfl rfl ?_
   refine a_callK 44000 3 rfl (by kernel_rfl) rfl rfl rfl (vok hT ⟨⟨_, _, rfl⟩, rfl, ⟨⟨_, _, rfl⟩, rfl, trivial⟩⟩ (by kernel_rfl) (by kernel_rfl)) (vok hT ⟨⟨_, _, rfl⟩, rfl, ⟨⟨_, _, rfl⟩, rfl, trivial⟩⟩ (by kernel_rfl) (by kernel_rfl)) rfl Try.call17 (ok_impl_CursorNext (by first | omega | assumption)) (as_cons (ev_tmp rfl) (ag_agg (ag_cons ac_dv (ag_cons (ac_key' rfl rfl) (ag_cons ac_dv ag_nil)))) (as_cons (ev_tmp rfl) (ag_agg (ag_cons ac_dv (ag_cons ac_dv (ag_cons ac_dv (ag_cons ac_dv (ag_cons ac_dv (ag_cons ac_dv (ag_cons ac_dv (ag_cons ac_dv (ag_cons ac_dv (ag_cons ac_dv (ag_cons ac_dv (ag_cons ac_dv (ag_cons ac_dv ag_nil)))))))))))))) as_nil)) rfl rfl rfl rfl rfl ?_
   refine a_take 4 rfl (by kernel_rfl) rfl rfl rfl (vok hT ⟨⟨_, _, rfl⟩, rfl, ⟨⟨_, _, rfl⟩, rfl, trivial⟩⟩ (by kernel_rfl) (by kernel_rfl)) (vok hT ⟨⟨_, _, rfl⟩, rfl, ⟨⟨_, _, rfl⟩, rfl, trivial⟩⟩ (by kernel_rfl) (by kernel_rfl)) (pu_move (.inl rfl) (ev_tmp rfl)) rfl rfl rfl rfl ?_
   refine a_takeX 5 rfl (by kernel_rfl) rfl rfl rfl rfl (vok hT ⟨⟨_, _, rfl⟩, rfl, ⟨⟨_, _, rfl⟩, rfl, trivial⟩⟩ (by kernel_rfl) (by kernel_rfl)) (vok hT ⟨⟨_, _, rfl⟩, rfl, ⟨⟨_, _, rfl⟩, rfl, trivial⟩⟩ (by kernel_rfl) (by kernel_rfl)) (pu_extractA rfl (ev_tmp rfl) rfl) rfl rfl ?_
   refine a_takeX 6 rfl (by kernel_rfl) rfl rfl rfl rfl (vok hT ⟨⟨_, _, rfl⟩, rfl, ⟨⟨_, _, rfl⟩, rfl, trivial⟩⟩ (by kernel_rfl) (by kernel_rfl)) (vok hT ⟨⟨_, _, rfl⟩, rfl, ⟨⟨_, _, rfl⟩, rfl, trivial⟩⟩ (by kernel_rfl) (by kernel_rfl)) (pu_extractA rfl (ev_tmp rfl) rfl) rfl rfl ?_
   refine a_takeX 7 rfl (by kernel_rfl) rfl rfl rfl rfl (vok hT ⟨⟨_, _, rfl⟩, rfl, ⟨⟨_, _, rfl⟩, rfl, trivial⟩⟩ (by kernel_rfl) (by kernel_rfl)) (vok hT ⟨⟨_, _, rfl⟩, rfl, ⟨⟨_, _, rfl⟩, rfl, trivial⟩⟩ (by kernel_rfl) (by kernel_rfl)) (pu_extract1 rfl (ev_tmp rfl) rfl) rfl rfl ?_
   refine a_exit1 (vok hT ⟨⟨_, _, rfl⟩, rfl, ⟨⟨_, _, rfl⟩, rfl, trivial⟩⟩ (by kernel_rfl) (by kernel_rfl)) rfl rfl (by kernel_rfl) ?_
   dsimp only [addT, addB]
   refine d_chain [10, 11, 12] rfl rfl (by kernel_rfl) ?_
   iterate 8 refine z ?_
   refine zC Try.call18 ?_ (hf := ok_laws_eqCursor)
   iterate 4 refine z ?_
   refine o_callG (gd_bool rfl rfl rfl rfl rfl) rfl rfl Try.call19 ok_laws_eqItem (fun hg => (as_cons (ev_opt rfl hg) (ag_agg (ag_cons ac_dv (ag_cons ac_dv (ag_cons ac_dv (ag_cons (ac_key' rfl rfl) ag_nil))))) (as_cons (ev_opt rfl hg) (ag_agg (ag_cons ac_dv (ag_cons ac_dv (ag_cons ac_dv (ag_cons (ac_key' rfl rfl) ag_nil))))) as_nil))) rfl rfl ?_
   iterate 5 refine z ?_
   refine o_pureG (gd_bool rfl rfl rfl rfl rfl) rfl (fun hg => pu_bneq hT rfl rfl (ev_opt rfl hg) (ev_opt rfl hg)) rfl rfl ?_
   iterate 2 refine z ?_
   refine yQ rfl (fun c3 => ?_) fun c3 => ?_
   ·skip
    iterate 6 refine z ?_
    first | rfl | (exfalso; omega) | (exfalso; simp_all; done) | (exfalso; simp_all; omega)
   ·skip
    iterate 2 refine z ?_
    refine ok_seq ?_
    refine ok_seq ?_
    refine ok_regionD (oB := [2, 3, 6, 7, 9, 10, 11]) (oK := [40007, 43001, 48007, 53001]) (by kernel_rfl) rfl rfl ?_
    refine zD 0 ?_
    refine zD 1 ?_
    refine d_callK 65000 2 rfl (by kernel_rfl) rfl rfl rfl Try.call8 (ok_laws_toStore (by first | omega | (simp only [wKey, wField, wRecord, wItem, wStore, wIndexDef, wDatabase, wOp, wTx, wTxQueue] at hb ⊢; omega) | (have hq := hw (by omega); omega))) (as_cons (ev_tmp rfl) (ag_agg (ag_cons ac_dv (ag_cons ac_dv (ag_cons ac_dv ag_nil)))) as_nil) rfl rfl rfl rfl rfl ?_
    refine d_call 3 rfl (by kernel_rfl) rfl rfl rfl Try.call12 ok_laws_eqStore (as_cons (ev_tmp rfl) (ag_agg (ag_cons ac_dv (ag_cons (ac_key' rfl rfl) (ag_cons ac_dv ag_nil)))) (as_cons (ev_tmp rfl) (ag_agg (ag_cons ac_dv (ag_cons (ac_key' rfl rfl) (ag_cons ac_dv ag_nil)))) as_nil)) rfl rfl rfl rfl ?_
    refine zD 4 ?_
    refine d_done (by kernel_rfl) ?_
    refine z ?_
    refine yQ rfl (fun c4 => ?_) fun c4 => ?_
    ·skip
     iterate 6 refine z ?_
     first | rfl | (exfalso; omega) | (exfalso; simp_all; done) | (exfalso; simp_all; omega)
    ·skip
     iterate 8 refine z ?_
     refine o_callW [(0, 48007, ⟨false, _, _, _, _⟩, ⟨false, _, _, _, _⟩)] rfl rfl rfl Try.call13 (ok_laws_markStore (x := x0) (by omega) (by omega)) ⟨rfl, trivial⟩ rfl (aw_cons (ev_tmp rfl) (aw_agg (awc_cons (awc_dv rfl) (awc_cons (awc_key rfl) (awc_cons (awc_dv rfl) awc_nil)))) (aw_cons (ev_tmp rfl) (aw_one (awc_dv rfl)) aw_nil)) rfl rfl ?_
     simp only [killT, killB, SV.kill, CV.kill, kk, Nat.reduceBEq]
     iterate 9 refine z ?_
     refine o_callG (gd_bool rfl rfl rfl rfl rfl) rfl rfl Try.call18 ok_laws_eqCursor (fun hg => (as_cons (ev_opt rfl hg) (ag_agg (ag_cons ac_dv (ag_cons ac_dv (ag_cons ac_dv (ag_cons ac_dv (ag_cons ac_dv (ag_cons ac_dv (ag_cons ac_dv (ag_cons ac_dv (ag_cons ac_dv (ag_cons ac_dv (ag_cons ac_dv (ag_cons ac_dv (ag_cons ac_dv ag_nil)))))))))))))) (as_cons (ev_opt rfl hg) (ag_agg (ag_cons ac_dv (ag_cons ac_dv (ag_cons ac_dv (ag_cons ac_dv (ag_cons ac_dv (ag_cons ac_dv (ag_cons ac_dv (ag_cons ac_dv (ag_cons ac_dv (ag_cons ac_dv (ag_cons ac_dv (ag_cons ac_dv (ag_cons ac_dv ag_nil)))))))))))))) as_nil))) rfl rfl ?_
     iterate 5 refine z ?_
     refine o_callG (gd_bool rfl rfl rfl rfl rfl) rfl rfl Try.call19 ok_laws_eqItem (fun hg => (as_cons (ev_opt rfl hg) (ag_agg (ag_cons ac_dv (ag_cons ac_dv (ag_cons ac_dv (ag_cons (ac_key' rfl rfl) ag_nil))))) (as_cons (ev_opt rfl hg) (ag_agg (ag_cons ac_dv (ag_cons ac_dv (ag_cons ac_dv (ag_cons (ac_key' rfl rfl) ag_nil))))) as_nil))) rfl rfl ?_
     iterate 5 refine z ?_
     refine o_pureG (gd_bool rfl rfl rfl rfl rfl) rfl (fun hg => pu_bneq hT rfl rfl (ev_opt rfl hg) (ev_opt rfl hg)) rfl rfl ?_
     iterate 2 refine z ?_
     refine yQ rfl (fun c5 => ?_) fun c5 => ?_
     ·skip
      iterate 6 refine z ?_
      first | rfl | (exfalso; omega) | (exfalso; simp_all; done) | (exfalso; simp_all; omega)
     ·skip
      iterate 8 refine z ?_
      refine o_callW [(0, 53001, ⟨false, _, _, _, _⟩, ⟨false, _, _, _, _⟩)] rfl rfl rfl Try.call20 (ok_laws_markItem (x := (curNext x0 x1).2.1) (by omega) (by omega)) ⟨rfl, trivial⟩ rfl (aw_cons (ev_tmp rfl) (aw_agg (awc_cons (awc_dv rfl) (awc_cons (awc_dv rfl) (awc_cons (awc_dv rfl) (awc_cons (awc_key rfl) awc_nil))))) (aw_cons (ev_tmp rfl) (aw_one (awc_dv rfl)) aw_nil)) rfl rfl ?_
      simp only [killT, killB, SV.kill, CV.kill, kk, Nat.reduceBEq]
      iterate 8 refine z ?_
      refine o_call rfl rfl rfl Try.call21 (ok_laws_heldItem (x := (curNext x0 x1).2.1) rfl (by omega) (by omega)) (as_cons (ev_tmp rfl) (ag_agg (ag_cons ac_dv (ag_cons ac_dv (ag_cons ac_dv (ag_cons (ac_key' rfl rfl) ag_nil))))) (as_cons (ev_tmp rfl) (ag_one ac_dv) as_nil)) rfl rfl ?_
      iterate 7 refine z ?_
      refine yQ rfl (fun c6 => ?_) fun c6 => ?_
      ·skip
       have d6 := of_decide_eq_true c6
       first | have q6 := szR_n d6 | skip
       iterate 6 refine z ?_
       first | rfl | (exfalso; omega) | (exfalso; simp_all; done) | (exfalso; simp_all; omega)
      ·skip
       have d6 := of_decide_eq_false c6
       first | have q6 := szR_nn d6 | skip
       iterate 8 refine z ?_
       refine yQ rfl (fun c7 => ?_) fun c7 => ?_
       ·skip
        have d7 := nd_t c7
        iterate 6 refine z ?_
        first | rfl | (exfalso; omega) | (exfalso; simp_all; done) | (exfalso; simp_all; omega)
       ·skip
        have d7 := nd_f c7
        iterate 2 refine z ?_
        refine ok_seq ?_
        refine ok_regionD (oB := [2, 3, 6, 7, 9, 10, 11]) (oK := [40007, 43001, 48007, 53001, 74007]) (by kernel_rfl) rfl rfl ?_
        refine zD 0 ?_
        refine zD 2 ?_
        refine d_vars (A := [(9, 16, 42, _), (10, 17, 53, _)]) hT ⟨⟨_, _, rfl⟩, rfl, ⟨⟨_, _, rfl⟩, rfl, trivial⟩⟩ ?_
        refine a_callK 103000 1 rfl (by kernel_rfl) rfl rfl rfl (vok hT ⟨⟨_, _, rfl⟩, rfl, ⟨⟨_, _, rfl⟩, rfl, trivial⟩⟩ (by kernel_rfl) (by kernel_rfl)) (vok hT ⟨⟨_, _, rfl⟩, rfl, ⟨⟨_, _, rfl⟩, rfl, trivial⟩⟩ (by kernel_rfl) (by kernel_rfl)) rfl Try.call8 (ok_laws_toStore (by first | omega | (simp only [wKey, wField, wRecord, wItem, wStore, wIndexDef, wDatabase, wOp, wTx, wTxQueue] at hb ⊢; omega) | (have hq := hw (by omega); omega))) (as_cons (ev_tmp rfl) (ag_agg (ag_cons ac_dv (ag_cons ac_dv (ag_cons ac_dv ag_nil)))) as_nil) rfl rfl rfl rfl rfl ?_
        refine a_callK 105000 3 rfl (by kernel_rfl) rfl rfl rfl (vok hT ⟨⟨_, _, rfl⟩, rfl, ⟨⟨_, _, rfl⟩, rfl, trivial⟩⟩ (by kernel_rfl) (by kernel_rfl)) (vok hT ⟨⟨_, _, rfl⟩, rfl, ⟨⟨_, _, rfl⟩, rfl, trivial⟩⟩ (by kernel_rfl) (by kernel_rfl)) rfl Try.call9 (ok_laws_toCursor (by first | omega | (simp only [wKey, wField, wRecord, wItem, wStore, wIndexDef, wDatabase, wOp, wTx, wTxQueue] at hb ⊢; omega) | (have hq := hw (by omega); omega))) (as_cons (ev_tmp rfl) (ag_agg (ag_cons ac_dv (ag_cons ac_dv (ag_cons ac_dv (ag_cons ac_dv (ag_cons ac_dv (ag_cons ac_dv (ag_cons ac_dv (ag_cons ac_dv (ag_cons ac_dv (ag_cons ac_dv (ag_cons ac_dv (ag_cons ac_dv (ag_cons ac_dv ag_nil)))))))))))))) as_nil) rfl rfl rfl rfl rfl ?_
        refine a_callK 106000 4 rfl (by kernel_rfl) rfl rfl rfl (vok hT ⟨⟨_, _, rfl⟩, rfl, ⟨⟨_, _, rfl⟩, rfl, trivial⟩⟩ (by kernel_rfl) (by kernel_rfl)) (vok hT ⟨⟨_, _, rfl⟩, rfl, ⟨⟨_, _, rfl⟩, rfl, trivial⟩⟩ (by kernel_rfl) (by kernel_rfl)) rfl Try.call17 (ok_impl_CursorNext (by first | omega | assumption)) (as_cons (ev_tmp rfl) (ag_agg (ag_cons ac_dv (ag_cons (ac_key' rfl rfl) (ag_cons ac_dv ag_nil)))) (as_cons (ev_tmp rfl) (ag_agg (ag_cons ac_dv (ag_cons ac_dv (ag_cons ac_dv (ag_cons ac_dv (ag_cons ac_dv (ag_cons ac_dv (ag_cons ac_dv (ag_cons ac_dv (ag_cons ac_dv (ag_cons ac_dv (ag_cons ac_dv (ag_cons ac_dv (ag_cons ac_dv ag_nil)))))))))))))) as_nil)) rfl rfl rfl rfl rfl ?_
        refine a_take 5 rfl (by kernel_rfl) rfl rfl rfl (vok hT ⟨⟨_, _, rfl⟩, rfl, ⟨⟨_, _, rfl⟩, rfl, trivial⟩⟩ (by kernel_rfl) (by kernel_rfl)) (vok hT ⟨⟨_, _, rfl⟩, rfl, ⟨⟨_, _, rfl⟩, rfl, trivial⟩⟩ (by kernel_rfl) (by kernel_rfl)) (pu_move (.inl rfl) (ev_tmp rfl)) rfl rfl rfl rfl ?_
        refine a_takeX 6 rfl (by kernel_rfl) rfl rfl rfl rfl (vok hT ⟨⟨_, _, rfl⟩, rfl, ⟨⟨_, _, rfl⟩, rfl, trivial⟩⟩ (by kernel_rfl) (by kernel_rfl)) (vok hT ⟨⟨_, _, rfl⟩, rfl, ⟨⟨_, _, rfl⟩, rfl, trivial⟩⟩ (by kernel_rfl) (by kernel_rfl)) (pu_extractA rfl (ev_tmp rfl) rfl) rfl rfl ?_
        refine a_takeX 7 rfl (by kernel_rfl) rfl rfl rfl rfl (vok hT ⟨⟨_, _, rfl⟩, rfl, ⟨⟨_, _, rfl⟩, rfl, trivial⟩⟩ (by kernel_rfl) (by kernel_rfl)) (vok hT ⟨⟨_, _, rfl⟩, rfl, ⟨⟨_, _, rfl⟩, rfl, trivial⟩⟩ (by kernel_rfl) (by kernel_rfl)) (pu_extractA rfl (ev_tmp rfl) rfl) rfl rfl ?_
        refine a_takeX 8 rfl (by kernel_rfl) rfl rfl rfl rfl (vok hT ⟨⟨_, _, rfl⟩, rfl, ⟨⟨_, _, rfl⟩, rfl, trivial⟩⟩ (by kernel_rfl) (by kernel_rfl)) (vok hT ⟨⟨_, _, rfl⟩, rfl, ⟨⟨_, _, rfl⟩, rfl, trivial⟩⟩ (by kernel_rfl) (by kernel_rfl)) (pu_extract1 rfl (ev_tmp rfl) rfl) rfl rfl ?_
        refine a_exit1 (vok hT ⟨⟨_, _, rfl⟩, rfl, ⟨⟨_, _, rfl⟩, rfl, trivial⟩⟩ (by kernel_rfl) (by kernel_rfl)) rfl rfl (by kernel_rfl) ?_
        dsimp only [addT, addB]
        refine d_chain [11, 12, 13] rfl rfl (by kernel_rfl) ?_
        iterate 8 refine z ?_
        refine zC Try.call18 ?_ (hf := ok_laws_eqCursor)
        iterate 4 refine z ?_
        refine o_callG (gd_bool rfl rfl rfl rfl rfl) rfl rfl Try.call19 ok_laws_eqItem (fun hg => (as_cons (ev_opt rfl hg) (ag_agg (ag_cons ac_dv (ag_cons ac_dv (ag_cons ac_dv (ag_cons (ac_key' rfl rfl) ag_nil))))) (as_cons (ev_opt rfl hg) (ag_agg (ag_cons ac_dv (ag_cons ac_dv (ag_cons ac_dv (ag_cons (ac_key' rfl rfl) ag_nil))))) as_nil))) rfl rfl ?_
        iterate 5 refine z ?_
        refine o_pureG (gd_bool rfl rfl rfl rfl rfl) rfl (fun hg => pu_bneq hT rfl rfl (ev_opt rfl hg) (ev_opt rfl hg)) rfl rfl ?_
        iterate 2 refine z ?_
        refine yQ rfl (fun c8 => ?_) fun c8 => ?_
        ·skip
         iterate 6 refine z ?_
         first | rfl | (exfalso; omega) | (exfalso; simp_all; done) | (exfalso; simp_all; omega)
        ·skip
         iterate 8 refine z ?_
         refine o_call rfl rfl rfl Try.call21 (ok_laws_heldItem (x := (curNext x0 x1).2.1) rfl (by omega) (by omega)) (as_cons (ev_tmp rfl) (ag_agg (ag_cons ac_dv (ag_cons ac_dv (ag_cons ac_dv (ag_cons (ac_key' rfl rfl) ag_nil))))) (as_cons (ev_tmp rfl) (ag_one ac_dv) as_nil)) rfl rfl ?_
         iterate 7 refine z ?_
         refine yQ rfl (fun c9 => ?_) fun c9 => ?_
         ·skip
          have d9 := of_decide_eq_true c9
          first | have q9 := szR_n d9 | skip
          iterate 6 refine z ?_
          first | rfl | (exfalso; omega) | (exfalso; simp_all; done) | (exfalso; simp_all; omega)
         ·skip
          have d9 := of_decide_eq_false c9
          first | have q9 := szR_nn d9 | skip
          iterate 8 refine z ?_
          refine yQ rfl (fun c10 => ?_) fun c10 => ?_
          ·skip
           have d10 := nd_t c10
           iterate 6 refine z ?_
           first | rfl | (exfalso; omega) | (exfalso; simp_all; done) | (exfalso; simp_all; omega)
          ·skip
           have d10 := nd_f c10
           iterate 7 refine z ?_
           first | rfl | (exfalso; omega) | (exfalso; simp_all; done) | (exfalso; simp_all; omega)
end Go.Proofs.Ytjeiflklhchjpaa

namespace Go.Proofs.Ytjeiflklhchjpaa
open Go.RowKit Go.ChangeShapes Go.WideShapes Go.Deep

def LayW (W : World) : List DV → List Value → Prop := LayL (fun b => b < W.heap.size) W
structure OpensD (P : Program) (Q : List DV → Prop) (t : TypeId) : Prop where
 run : ∀ {H : Type} (enc : TypeId × Value → H) (W : World) (base : Nat) (spare : Nat → Bool) (held : Bool) (fuel : Nat) (cs : List Value) (y : DataW H × List MemPlace),
  DataW.trod enc P W base spare held fuel t cs = some y → ∃ ds, Q ds ∧ LayW W ds cs
def Is {α : Type} (enc : α → List DV) (ds : List DV) : Prop := ∃ x, ds = enc x
theorem opensD_int {P : Program} {t : TypeId} (ht : P.underlying t = some (.int .i64)) : OpensD P (Is eInt) t := by
 refine ⟨fun {H} enc W base spare held fuel cs y h => ?_⟩
 obtain ⟨n, rfl, _, hw⟩ := DataW.trod_int ht h
 have hb : -9223372036854775808 ≤ n ∧ n ≤ 9223372036854775807 := by simpa [Lit.wf, IntKind.min, IntKind.max, IntKind.signed, IntKind.bits] using hw
 exact ⟨_, ⟨n, rfl⟩, by unfold LayW LayL LayL Lay; exact ⟨_, _, rfl, ⟨rfl, inR64 hb.1 hb.2⟩, rfl⟩⟩
theorem opensD_bool {P : Program} {t : TypeId} (ht : P.underlying t = some .bool) : OpensD P (Is eBool) t := by
 refine ⟨fun {H} enc W base spare held fuel cs y h => ?_⟩
 obtain ⟨b, rfl, _⟩ := DataW.trod_bool ht h
 exact ⟨_, ⟨b, rfl⟩, by unfold LayW LayL LayL Lay; exact ⟨_, _, rfl, rfl, rfl⟩⟩
theorem opensD_str {P : Program} {t : TypeId} (ht : P.underlying t = some .string) : OpensD P (Is eStr) t := by
 refine ⟨fun {H} enc W base spare held fuel cs y h => ?_⟩
 obtain ⟨s, rfl, _, hs⟩ := DataW.trod_string ht h
 exact ⟨_, ⟨s, rfl⟩, by simp only [LayW, LayL, Lay]; exact ⟨_, _, rfl, ⟨rfl, by simpa [maxLen] using hs⟩, rfl⟩⟩
theorem points {α : Type} {enc : α → List DV} {W : World} {sz : Nat} {f : Nat → Option Value} (hs : ∀ x, (enc x).length = sz) : ∀ n : Nat,
  (∀ i, i < n → ∃ x ci, LayW W (enc x) ci ∧ ∀ j, j < sz → f (i * sz + j) = ci[j]?) → ∃ (xs : List α) (cells : List Value), xs.length = n ∧ LayW W (xs.flatMap enc) cells ∧ ∀ j u, cells[j]? = some u → f j = some u
 | 0, _ => ⟨[], [], rfl, by simp [LayW, LayL], by simp⟩
 | n + 1, h => by
  obtain ⟨xs, cells, h1, h2, h3⟩ := points hs n (fun i hi => h i (by omega))
  obtain ⟨x, ci, g1, g2⟩ := h n (by omega)
  have hl : cells.length = n * sz := by rw [layL_len _ _ h2, flat_len hs, h1]
  have hci : ci.length = sz := by rw [layL_len _ _ g1, hs]
  refine ⟨xs ++ [x], cells ++ ci, by simp [h1], by have := layL_append _ _ _ _ h2 g1; simp only [List.flatMap_append, List.flatMap_cons, List.flatMap_nil, List.append_nil]; exact this, fun j u hu => ?_⟩
  rcases Nat.lt_or_ge j cells.length with hj | hj
  ·rw [List.getElem?_append_left hj] at hu; exact h3 j u hu
  ·rw [List.getElem?_append_right hj] at hu
   have hjs : j - cells.length < sz := by rw [← hci]; exact (List.getElem?_eq_some_iff.1 hu).1
   have := g2 (j - cells.length) hjs
   rw [show n * sz + (j - cells.length) = j by omega] at this
   rw [this, hu]
theorem opensD_slice {α : Type} {P : Program} {enc : α → List DV} {t e : TypeId} {sz : Nat} (e' : Nat) (hs : ∀ x, (enc x).length = sz) (hsz : Nat.blt 0 sz = true) (ht : P.underlying t = some (.slice e)) (hc : P.cellsOf e = sz) (he : OpensD P (Is enc) e) : OpensD P (Is fun xs : List α => [listD e' sz enc xs]) t := by
 refine ⟨fun {H} ench W base spare held fuel cs y h => ?_⟩
 have hpos : 0 < sz := by simpa [Nat.blt_eq] using hsz
 rcases open_slice ht h with ⟨rfl, _⟩ | ⟨a, len, cap, m, n, D, Pl, rfl, _, hl, hm, hmm, _, hi⟩
 ·refine ⟨_, ⟨[], rfl⟩, ?_⟩
  simp only [LayW, LayL, Lay]
  exact ⟨_, _, rfl, ⟨none, 0, [], rfl, Nat.le_refl _, by simp [maxLen], hpos, by simp, by simp [LayL], fun h => by simp at h⟩, rfl⟩
 ·have hlm : len ≤ m := by rw [hmm]; split <;> omega
  obtain ⟨xs, cells, h1, h2, h3⟩ := points (W := W) (f := fun j => W.cell? (a.add j)) hs len (fun i hil => by
   obtain ⟨cs', hc1, hc2⟩ := hi i (by omega)
   obtain ⟨ds, ⟨x, rfl⟩, hx⟩ := he.run ench W base spare held n cs' _ hc2
   obtain ⟨_, hcl, hat⟩ := World.cells?_some hc1
   refine ⟨x, cs', hx, fun j hj => ?_⟩
   have := hat j (by rw [hc]; exact hj)
   rw [← Go.Deep.add_add, hc] at *
   exact this)
  refine ⟨_, ⟨xs, rfl⟩, ?_⟩
  simp only [LayW, LayL]
  refine ⟨_, _, rfl, ?_, rfl⟩
  simp only [Lay]
  refine ⟨some a, cap, cells, by rw [h1], by omega, hm, hpos, flat_len hs xs, h2, fun hp => ?_⟩
  have hcl : 0 < cells.length := by
   rw [layL_len _ _ h2, flat_len hs]
   exact Nat.mul_pos hp hpos
  have h0 := h3 0 _ (List.getElem?_eq_getElem hcl)
  have ha0 : a.add 0 = a := by simp [Addr.add]
  simp only [ha0] at h0
  have hsp : a.spot = none := by
   cases hs : a.spot with
   | none => rfl
   | some s =>
    unfold World.cell? at h0
    split at h0
    ·simp [hs] at h0
    ·cases h0
  obtain ⟨b, off, sp⟩ := a
  simp only at hsp
  subst hsp
  refine ⟨b, off, rfl, World.block_lt_of_cell? W _ h0, fun j u hu => ?_⟩
  have := h3 j u hu
  simp only [add_row] at this
  exact this
/-! ### structs -/
def Qcat : List (List DV → Prop) → List DV → Prop
 | [], ds => ds = []
 | Q :: Qs, ds => ∃ a b, ds = a ++ b ∧ Q a ∧ Qcat Qs b
def contig (P : Program) : List Field → Nat → Nat → Bool
 | [], off, n => off == n
 | f :: fs, off, n => f.offset == off && contig P fs (off + P.cellsOf f.type) n
def OpensAll (P : Program) : List Field → List (List DV → Prop) → Prop
 | [], [] => True
 | f :: fs, Q :: Qs => OpensD P Q f.type ∧ OpensAll P fs Qs
 | _, _ => False
theorem opens_fields {P : Program} {W : World} {H : Type} (enc : TypeId × Value → H) (base : Nat) (spare : Nat → Bool) (held : Bool) (n : Nat) {cs : List Value} : ∀ (fs : List Field) (Qs : List (List DV → Prop)) (off : Nat), contig P fs off cs.length = true → OpensAll P fs Qs →
  (∀ f ∈ fs, ∃ y, DataW.trod enc P W base spare held n f.type ((cs.drop f.offset).take (P.cellsOf f.type)) = some y) → ∃ ds, Qcat Qs ds ∧ LayW W ds (cs.drop off)
 | [], [], off, h1, _, _ => by
  simp only [contig, beq_iff_eq] at h1
  subst h1
  exact ⟨[], rfl, by simp [LayW, LayL]⟩
 | [], _ :: _, _, _, h2, _ => h2.elim
 | _ :: _, [], _, _, h2, _ => h2.elim
 | f :: fs, Q :: Qs, off, h1, h2, h3 => by
  simp only [contig, Bool.and_eq_true, beq_iff_eq] at h1
  obtain ⟨e1, h1⟩ := h1
  obtain ⟨y, hy⟩ := h3 f (by simp)
  rw [e1] at hy
  obtain ⟨a, ha, la⟩ := h2.1.run enc W base spare held n _ _ hy
  obtain ⟨b, hb, lb⟩ := opens_fields enc base spare held n fs Qs _ h1 h2.2 (fun g hg => h3 g (by simp [hg]))
  refine ⟨a ++ b, ⟨a, b, rfl, ha, hb⟩, ?_⟩
  have := layL_append _ _ _ _ la lb
  rw [← List.drop_drop, List.take_append_drop] at this
  exact this
theorem opensD_struct {P : Program} {t : TypeId} {fs : Array Field} {Qs : List (List DV → Prop)} (ht : P.underlying t = some (.struct fs)) (hc : contig P fs.toList 0 (P.cellsOf t) = true) (h : OpensAll P fs.toList Qs) : OpensD P (Qcat Qs) t := by
 refine ⟨fun {H} enc W base spare held fuel cs y h' => ?_⟩
 obtain ⟨xs, n, _, _, hl, hlen, hf⟩ := DataW.trod_struct ht h'
 have := opens_fields (cs := cs) enc base spare held n fs.toList Qs 0 (by rw [hl]; exact hc) h (fun f hf' => by
  obtain ⟨i, hi⟩ := List.mem_iff_getElem?.1 hf'
  have hi' : fs[i]? = some f := by simpa using hi
  have h2 := hf i f hi'
  have hlt : i < xs.length := by
   rw [hlen]
   rw [Array.getElem?_eq_some_iff] at hi'
   exact hi'.1
  rw [List.getElem?_eq_getElem hlt] at h2
  exact ⟨_, h2⟩)
 simpa using this
theorem OpensD.mono {P : Program} {Q R : List DV → Prop} {t : TypeId} (h : OpensD P Q t) (hq : ∀ ds, Q ds → R ds) : OpensD P R t := by
 refine ⟨fun {H} enc W base spare held fuel cs y h' => ?_⟩
 obtain ⟨ds, h1, h2⟩ := h.run enc W base spare held fuel cs y h'
 exact ⟨ds, hq ds h1, h2⟩
/-! ### a call from the outside -/
def TopL (w : World) : List SV → List Value → Prop
 | [], vs => vs = []
 | .one c :: us, vs => ∃ d v vs', c = .dv [] d ∧ vs = v :: vs' ∧ LayW w [d] [v] ∧ TopL w us vs'
 | .agg cs :: us, vs => ∃ ds xs vs', cs = ds.map (CV.dv []) ∧ vs = .agg xs.toArray :: vs' ∧ LayW w ds xs ∧ TopL w us vs'
 | _ :: _, _ => False
theorem lay_top {w : World} {L : Lyt} {d : DV} {v : Value} (h : LayW w [d] [v]) : CVr ⟨w, [], L.rv⟩ L w (.dv [] d) v := by
 simp only [LayW, LayL] at h
 obtain ⟨v', _, e, h1, rfl⟩ := h
 simp only [List.cons.injEq, and_true] at e
 subst e
 simp only [CVr]
 exact lay_conv (fun b hb _ => ⟨.inl ⟨hb, by simp⟩, rfl⟩) d _ h1
theorem lays_top {w : World} {L : Lyt} : ∀ {ds : List DV} {vs : List Value}, LayW w ds vs → CVL ⟨w, [], L.rv⟩ L w (ds.map (CV.dv [])) vs
 | [], _, h => by simp only [LayW, LayL] at h; subst h; rfl
 | d :: ds, _, h => by
  simp only [LayW, LayL] at h
  obtain ⟨v, vs', rfl, h1, h2⟩ := h
  exact ⟨v, vs', rfl, lay_top (by simp only [LayW, LayL]; exact ⟨v, [], rfl, h1, rfl⟩), lays_top h2⟩
theorem topL_sv {P : Program} {w : World} {L : Lyt} : ∀ {us : List SV} {vs : List Value}, TopL w us vs → vs.length = us.length ∧ (∀ u ∈ us, u.keys = [] ∧ u.boxes = []) ∧ ∀ (i : Nat) (v : SV), us[i]? = some v → ∃ x, vs[i]? = some x ∧ SVr P ⟨w, [], L.rv⟩ L w v x
 | [], _, h => by simp only [TopL] at h; subst h; simp
 | .one c :: us, _, h => by
  simp only [TopL] at h
  obtain ⟨d, v, vs', rfl, rfl, h1, h2⟩ := h
  obtain ⟨g1, g2, g3⟩ := topL_sv (P := P) (L := L) h2
  refine ⟨by simp [g1], fun u hu => ?_, fun i x hx => ?_⟩
  ·rcases List.mem_cons.1 hu with rfl | hu
   ·exact ⟨rfl, rfl⟩
   ·exact g2 u hu
  ·cases i with
   | zero => simp only [List.getElem?_cons_zero, Option.some.injEq] at hx; subst hx; exact ⟨v, rfl, by simp only [SVr]; exact lay_top h1⟩
   | succ i => simpa using g3 i x (by simpa using hx)
 | .agg cs :: us, _, h => by
  simp only [TopL] at h
  obtain ⟨ds, xs, vs', rfl, rfl, h1, h2⟩ := h
  obtain ⟨g1, g2, g3⟩ := topL_sv (P := P) (L := L) h2
  refine ⟨by simp [g1], fun u hu => ?_, fun i x hx => ?_⟩
  ·rcases List.mem_cons.1 hu with rfl | hu
   ·refine ⟨?_, rfl⟩
    simp only [SV.keys]
    rw [List.flatMap_eq_nil_iff]
    intro c hc
    obtain ⟨d, _, rfl⟩ := List.mem_map.1 hc
    rfl
   ·exact g2 u hu
  ·cases i with
   | zero => simp only [List.getElem?_cons_zero, Option.some.injEq] at hx; subst hx; exact ⟨_, rfl, by simp only [SVr]; exact ⟨xs, rfl, lays_top h1⟩⟩
   | succ i => simpa using g3 i x (by simpa using hx)
 | .tup _ :: _, _, h => by simp [TopL] at h
 | .box _ _ :: _, _, h => by simp [TopL] at h
 | .ref _ _ :: _, _, h => by simp [TopL] at h
 | .eptr _ _ :: _, _, h => by simp [TopL] at h
 | .ksl _ _ _ _ :: _, _, h => by simp [TopL] at h
 | .fn _ _ :: _, _, h => by simp [TopL] at h
 | .clo _ _ :: _, _, h => by simp [TopL] at h
 | .opt _ _ :: _, _, h => by simp [TopL] at h
 | .any :: _, _, h => by simp [TopL] at h
theorem pfn_run {P : Program} {f : FuncId} {us : List SV} {b : Bool} (hf : PFn P f us (.one (.dv [] (.bool b)))) {w : World} {vs : List Value} (h : TopL w us vs) :
  Calls P f vs.toArray w fun e w' => e = .returned (.bool b) ∧ Below w.heap.size w w' := by
 let L : Lyt := ⟨fun _ => 0, fun _ => [], fun _ => .bool false⟩
 obtain ⟨h1, h2, h3⟩ := topL_sv (P := P) (L := L) h
 obtain ⟨t1, t2⟩ := enum_tk us 0 h2
 have hr : Rel P ⟨w, [], L.rv⟩ us.length L ⟨enumS 0 us, [], []⟩ ⟨vs.toArray, []⟩ w := {
  df := rfl
  sz := by simp [h1]
  tm := fun i v hv => by
   obtain ⟨_, h4⟩ := enumS_look us 0 i v hv
   obtain ⟨x, h5, h6⟩ := h3 i v (by simpa using h4)
   have : vs.toArray.getD i undef = x := by simp [Array.getD_eq_getD_getElem?, h5]
   rw [this]; exact h6
  bx := fun i t cs h => by cases h
  ks := fun k c h => by cases h
  b1 := fun i x h => by cases h
  k1 := fun k c h => by cases h
  kn := fun k c h => by cases h
  bb := fun i j x y h => by cases h
  bk := fun i k x c h => by cases h
  kk := fun k j c d h => by cases h
  lk := fun k hk => by simp only [St.tk, t1, List.flatMap_nil, List.append_nil] at hk; cases hk
  lb := fun b hb => by simp only [St.tb, t2] at hb; cases hb
  s0 := fun b hb => by cases hb
  chg := Chg.refl _ _ }
 refine (hf.ok w [] L vs h1 hr).mono ?_
 rintro e w' ⟨r, res, σ', L', rfl, rfl, hr'⟩
 have hv := hr'.tm 0 _ rfl
 simp only [SVr, CVr, Lay] at hv
 refine ⟨?_, hr'.chg.below⟩
 have : (#[r] : Array Value).getD 0 undef = r := rfl
 rw [this] at hv
 rw [hv]
end Go.Proofs.Ytjeiflklhchjpaa

namespace Go.Proofs.Ytjeiflklhchjpaa
open Go.RowKit
open Go.Proofs
theorem opensKey : OpensD Try.prog (Is eKey) 26 :=
 (opensD_struct (Qs := [Is eInt, Is eInt, Is eStr]) Try.underlying26 (by kernel_rfl) ⟨(opensD_int Try.underlying3), (opensD_int Try.underlying3), (opensD_str Try.underlying9), trivial⟩).mono fun ds h => by
  obtain ⟨_, _, rfl, ⟨a, rfl⟩, ⟨_, _, rfl, ⟨b, rfl⟩, ⟨_, _, rfl, ⟨c, rfl⟩, rfl⟩⟩⟩ := h
  exact ⟨(a, b, c), rfl⟩
theorem opensRange : OpensD Try.prog (Is eRange) 28 :=
 (opensD_struct (Qs := [Is eBool, Is eBool, Is eKey, Is eKey]) Try.underlying28 (by kernel_rfl) ⟨(opensD_bool Try.underlying4), (opensD_bool Try.underlying4), opensKey, opensKey, trivial⟩).mono fun ds h => by
  obtain ⟨_, _, rfl, ⟨a, rfl⟩, ⟨_, _, rfl, ⟨b, rfl⟩, ⟨_, _, rfl, ⟨c, rfl⟩, ⟨_, _, rfl, ⟨d, rfl⟩, rfl⟩⟩⟩⟩ := h
  exact ⟨(a, b, c, d), rfl⟩
theorem opensCursor : OpensD Try.prog (Is eCursor) 30 :=
 (opensD_struct (Qs := [Is eRange, Is eBool, Is eBool, Is eKey]) Try.underlying30 (by kernel_rfl) ⟨opensRange, (opensD_bool Try.underlying4), (opensD_bool Try.underlying4), opensKey, trivial⟩).mono fun ds h => by
  obtain ⟨_, _, rfl, ⟨a, rfl⟩, ⟨_, _, rfl, ⟨b, rfl⟩, ⟨_, _, rfl, ⟨c, rfl⟩, ⟨_, _, rfl, ⟨d, rfl⟩, rfl⟩⟩⟩⟩ := h
  exact ⟨(a, b, c, d), rfl⟩
theorem opensField : OpensD Try.prog (Is eField) 98 :=
 (opensD_struct (Qs := [Is eStr, Is eInt]) Try.underlying98 (by kernel_rfl) ⟨(opensD_str Try.underlying9), (opensD_int Try.underlying3), trivial⟩).mono fun ds h => by
  obtain ⟨_, _, rfl, ⟨a, rfl⟩, ⟨_, _, rfl, ⟨b, rfl⟩, rfl⟩⟩ := h
  exact ⟨(a, b), rfl⟩
theorem opensFields : OpensD Try.prog (Is fun xs => [listD 83 2 eField xs]) 75 := opensD_slice (sz := 2) 83 (fun _ => rfl) rfl Try.underlying75 (by kernel_rfl) opensField
theorem opensRecord : OpensD Try.prog (Is (fun r : RecT => [fieldsD r])) 77 :=
 (opensD_struct (Qs := [Is (fun r : RecT => [fieldsD r])]) Try.underlying77 (by kernel_rfl) ⟨opensFields, trivial⟩).mono fun ds h => by
  obtain ⟨_, _, rfl, ⟨a, rfl⟩, rfl⟩ := h
  exact ⟨a, rfl⟩
theorem opensItem : OpensD Try.prog (Is eItem) 79 :=
 (opensD_struct (Qs := [Is eKey, Is (fun r : RecT => [fieldsD r])]) Try.underlying79 (by kernel_rfl) ⟨opensKey, opensRecord, trivial⟩).mono fun ds h => by
  obtain ⟨_, _, rfl, ⟨a, rfl⟩, ⟨_, _, rfl, ⟨b, rfl⟩, rfl⟩⟩ := h
  exact ⟨(a, b), rfl⟩
theorem opensItems : OpensD Try.prog (Is fun xs => [listD 53 4 eItem xs]) 22 := opensD_slice (sz := 4) 53 (fun _ => rfl) rfl Try.underlying22 (by kernel_rfl) opensItem
theorem opensStore : OpensD Try.prog (Is eStore) 24 :=
 (opensD_struct (Qs := [Is eStr, Is (fun r : List ItemT => [itemsD r]), Is eInt]) Try.underlying24 (by kernel_rfl) ⟨(opensD_str Try.underlying9), opensItems, (opensD_int Try.underlying3), trivial⟩).mono fun ds h => by
  obtain ⟨_, _, rfl, ⟨a, rfl⟩, ⟨_, _, rfl, ⟨b, rfl⟩, ⟨_, _, rfl, ⟨c, rfl⟩, rfl⟩⟩⟩ := h
  exact ⟨(a, b, c), rfl⟩
end Go.Proofs.Ytjeiflklhchjpaa

