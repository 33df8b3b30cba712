/-
  Contracts of the program's functions for the statements ScopeOf, by the rules of the logic. Conditions: none but those in the theorems.
-/
import Derived.Below
import Derived.Deep.Slices
import Derived.OpenShut
import Derived.ProofKit
import Derived.Test.YtppjnelanomidaaU2
set_option maxHeartbeats 4000000
set_option maxRecDepth 100000
namespace Go.Proofs.Ytppjnelanomidaa
open Go.RowKit
open Go.Proofs
set_option linter.unusedVariables false
set_option linter.unusedSimpArgs false

theorem bl_total : ∀ (x y : List UInt8), (Op.bytesLess x y || (x == y)) = !Op.bytesLess y x
 | [], [] => rfl
 | [], _ :: _ => rfl
 | _ :: _, [] => rfl
 | a :: x, b :: y => by
  have ih := bl_total x y
  simp only [Op.bytesLess]
  rcases Nat.lt_trichotomy a.toNat b.toNat with h | h | h
  ·have h1 : a < b := h
   have h2 : ¬ b < a := by intro h'; have : b.toNat < a.toNat := h'; omega
   have h3 : ¬ a = b := by rintro rfl; omega
   have h4 : ¬ b = a := fun e => h3 e.symm
   simp [h1, h2, h3, h4]
  ·have e : a = b := UInt8.toNat_inj.1 h
   subst e
   simpa using ih
  ·have h1 : b < a := h
   have h2 : ¬ a < b := by intro h'; have : a.toNat < b.toNat := h'; omega
   have h3 : ¬ a = b := by rintro rfl; omega
   have h4 : ¬ b = a := fun e => h3 e.symm
   simp [h1, h2, h3, h4]
theorem sLe_eq (a b : Str) : (sLt a b || sEq a b) = !sLt b a := bl_total _ _
end Go.Proofs.Ytppjnelanomidaa

namespace Go.Proofs.Ytppjnelanomidaa
open Go.RowKit
open Go.Proofs
set_option linter.unusedVariables false
set_option linter.unusedSimpArgs false

def szR (left : Int) (w : Nat) : Int := if (w : Int) ≤ left then left - (w : Int) else -1
def wSum {α : Type} (w : α → Nat) (xs : List α) : Nat := (xs.map w).sum
def wList {α : Type} (w : α → Nat) (xs : List α) : Nat := xs.length + wSum w xs
theorem wSum_app {α : Type} (w : α → Nat) (xs ys : List α) : wSum w (xs ++ ys) = wSum w xs + wSum w ys := by simp [wSum]
theorem wSum_le {α : Type} (w : α → Nat) (xs : List α) (k : Nat) : wSum w (xs.take k) ≤ wSum w xs := by
 have h := wSum_app w (xs.take k) (xs.drop k)
 rw [List.take_append_drop] at h
 omega
theorem wSum_succ {α : Type} [Inhabited α] (w : α → Nat) (xs : List α) (k : Nat) (h : k < xs.length) : wSum w (xs.take (k + 1)) = wSum w (xs.take k) + w (xs.getD (k : Int).toNat default) ∧ wSum w (xs.take (k + 1)) ≤ wSum w xs := by
 refine ⟨?_, wSum_le w xs _⟩
 have : xs.take (k + 1) = xs.take k ++ [xs.getD k default] := by
  rw [List.take_add_one, List.getElem?_eq_getElem h]; simp [List.getD, List.getElem?_eq_getElem h]
 rw [this, wSum_app]
 simp [wSum]
theorem wSum_all {α : Type} (w : α → Nat) (xs : List α) (k : Nat) (h : xs.length ≤ k) : wSum w (xs.take k) = wSum w xs := by rw [List.take_of_length_le h]
theorem wList_len {α : Type} (w : α → Nat) (xs : List α) : xs.length ≤ wList w xs := by unfold wList; omega
theorem szR_nn {l : Int} {w : Nat} (h : ¬ szR l w < 0) : (w : Int) ≤ l ∧ szR l w = l - w := by unfold szR at h ⊢; split at h <;> simp_all
theorem szR_n {l : Int} {w : Nat} (h : szR l w < 0) (h0 : 0 ≤ l := by omega) : l < (w : Int) := by unfold szR at h; split at h <;> omega
theorem szR_cases (l : Int) (w : Nat) : ((w : Int) ≤ l ∧ szR l w = l - w) ∨ (l < w ∧ szR l w = -1) := by unfold szR; split <;> omega
def wKey (x : KeyT) : Nat := (x.2.2).size
def wField (x : FieldT) : Nat := (x.1).size
def wRecord (x : RecT) : Nat := wList wField (x)
def wItem (x : ItemT) : Nat := wKey (x.1) + wRecord (x.2)
def wStore (x : StoreT) : Nat := (x.1).size + wList wItem (x.2.1)
def wIndexDef (x : DefT) : Nat := (x.1).size + (x.2).size
def wDatabase (x : DbT) : Nat := (x.1).size + wList wStore (x.2.2.1) + wList wIndexDef (x.2.2.2)
def wOp (x : OpT) : Nat := (x.2.1).size + wKey (x.2.2.1) + wRecord (x.2.2.2.1) + (x.2.2.2.2).size
def wTx (x : TxT) : Nat := wList wOp (x.2.1) + wList wStore (x.2.2.2.2)
def wTxQueue (x : List TxT) : Nat := wList wTx (x)
theorem ok_laws_szKey {x : KeyT} {left : Int} (h0 : 0 ≤ left) (h1 : left ≤ 1048576) : PFn Try.prog 20 [.agg [(.dv [] (.int .i64 (x.1))), (.dv [] (.int .i64 (x.2.1))), (.dv [] (.str (x.2.2)))], .one (.dv [] (.int .i64 (left)))] (.one (.dv [] (.int .i64 (szR (left) (wKey x))))) := by
 refine ⟨fn_intro Try.func20 rfl Try.ntmps20 Try.results20 rfl (fun C => ?_)⟩
 refine yF 0 0 rfl rfl fun f0_0 => ?_
 refine yF 0 1 rfl rfl fun f0_1 => ?_
 refine yF 0 2 rfl rfl fun f0_2 => ?_
 refine ok_fact (x := .tmp 1) (ev_tmp rfl) fun f1 => ?_
 iterate 17 refine z ?_
 refine yQ rfl (fun c1 => ?_) fun c1 => ?_
 ·skip
  have d1 := of_decide_eq_true c1
  first | have q1 := szR_n d1 | skip
  iterate 6 refine z ?_
  have hh := szR_cases left (wKey x); simp only [wKey] at hh ⊢ <;> omega
 ·skip
  have d1 := of_decide_eq_false c1
  first | have q1 := szR_nn d1 | skip
  iterate 8 refine z ?_
  have hh := szR_cases left (wKey x); simp only [wKey] at hh ⊢ <;> omega
theorem ok_laws_szField {x : FieldT} {left : Int} (h0 : 0 ≤ left) (h1 : left ≤ 1048576) : PFn Try.prog 42 [.agg [(.dv [] (.str (x.1))), (.dv [] (.int .i64 (x.2)))], .one (.dv [] (.int .i64 (left)))] (.one (.dv [] (.int .i64 (szR (left) (wField x))))) := by
 refine ⟨fn_intro Try.func42 rfl Try.ntmps42 Try.results42 rfl (fun C => ?_)⟩
 refine yF 0 0 rfl rfl fun f0_0 => ?_
 refine yF 0 1 rfl rfl fun f0_1 => ?_
 refine ok_fact (x := .tmp 1) (ev_tmp rfl) fun f1 => ?_
 iterate 17 refine z ?_
 refine yQ rfl (fun c1 => ?_) fun c1 => ?_
 ·skip
  have d1 := of_decide_eq_true c1
  first | have q1 := szR_n d1 | skip
  iterate 6 refine z ?_
  have hh := szR_cases left (wField x); simp only [wField] at hh ⊢ <;> omega
 ·skip
  have d1 := of_decide_eq_false c1
  first | have q1 := szR_nn d1 | skip
  iterate 8 refine z ?_
  have hh := szR_cases left (wField x); simp only [wField] at hh ⊢ <;> omega
theorem ok_laws_szFieldS {x : List (FieldT)} {left : Int} (h0 : 0 ≤ left) (h1 : left ≤ 1048576) : PFn Try.prog 28 [.one (.dv [] (fieldsD (x))), .one (.dv [] (.int .i64 (left)))] (.one (.dv [] (.int .i64 (szR (left) (wList wField x))))) := by
 refine ⟨fn_intro Try.func28 rfl Try.ntmps28 Try.results28 rfl (fun C => ?_)⟩
 refine ok_fact (x := .tmp 0) (ev_tmp rfl) fun f0 => ?_
 refine ok_fact (x := .tmp 1) (ev_tmp rfl) fun f1 => ?_
 iterate 15 refine z ?_
 refine yQ rfl (fun c1 => ?_) fun c1 => ?_
 ·skip
  have d1 := of_decide_eq_true c1
  first | have q1 := szR_n d1 | skip
  iterate 6 refine z ?_
  have hh := szR_cases left (wList wField x); simp only [wList] at hh ⊢ <;> omega
 ·skip
  have d1 := of_decide_eq_false c1
  first | have q1 := szR_nn d1 | skip
  iterate 7 refine z ?_
  refine ok_loop (ι := Nat × Int) (fun zz => ⟨[(0, .one (.dv [] (fieldsD (x)))), (1, .one (.dv [] (.int .i64 (zz.2)))), (5, .one (.dv [] (.int .i64 ((zz.1 : Int)))))], [], []⟩) (fun zz => zz.1 ≤ x.length ∧ 0 ≤ zz.2 ∧ zz.2 + (wSum wField (x.take zz.1) : Int) = left - (x.length : Int)) (fun zz => x.length - zz.1) ((0, left - (x.length : Int))) ?_ (weak_sub ⟨rfl, rfl, rfl, trivial⟩ trivial trivial rfl) (fun zz hx => ?_)
  ·exact ⟨Nat.zero_le _, by omega, by simp [wSum]⟩
  obtain ⟨k, l⟩ := zz
  replace hx : k ≤ x.length ∧ 0 ≤ l ∧ l + (wSum wField (x.take k) : Int) = left - (x.length : Int) := hx
  obtain ⟨hk, hl, he⟩ := hx
  have hw := fun h => wSum_succ wField x k h
  show Ok _ _ _ _ _ (⟨[(0, .one (.dv [] (fieldsD (x)))), (1, .one (.dv [] (.int .i64 (l)))), (5, .one (.dv [] (.int .i64 ((k : Int)))))], [], []⟩ : St)
  iterate 7 refine z ?_
  refine yQ rfl (fun c2 => ?_) fun c2 => ?_
  ·skip
   have d2 := of_decide_eq_true c2
   first | have q2 := szR_n d2 | skip
   iterate 10 refine z ?_
   refine zC Try.call42 ?_ (hf := ok_laws_szField (by omega) (by omega))
   iterate 6 refine z ?_
   refine yQ rfl (fun c3 => ?_) fun c3 => ?_
   ·skip
    have d3 := of_decide_eq_true c3
    first | have q3 := szR_n d3 | skip
    iterate 10 refine z ?_
    have hw' := hw (by omega); have hh := szR_cases left (wList wField x); simp only [wList] at hh ⊢ <;> omega
   ·skip
    have d3 := of_decide_eq_false c3
    first | have q3 := szR_nn d3 | skip
    iterate 3 refine z ?_
    refine ok_region ?_
    iterate 4 refine z ?_
    refine ⟨(k + 1, szR l (wField (x.getD (k : Int).toNat default))), ?_, ?_, weak_sub ⟨rfl, rfl, rfl, trivial⟩ trivial trivial rfl⟩
    ·have hw' := hw (by omega)
     dsimp only
     exact ⟨by omega, by omega, by omega⟩
    ·omega
  ·skip
   have d2 := of_decide_eq_false c2
   first | have q2 := szR_nn d2 | skip
   iterate 11 refine z ?_
   have hw' := wSum_all wField x k (by omega); have hh := szR_cases left (wList wField x); simp only [wList] at hh ⊢ <;> omega
theorem ok_laws_szRecord {x : RecT} {left : Int} (h0 : 0 ≤ left) (h1 : left ≤ 1048576) : PFn Try.prog 21 [.agg [(.dv [] (fieldsD (x)))], .one (.dv [] (.int .i64 (left)))] (.one (.dv [] (.int .i64 (szR (left) (wRecord x))))) := by
 refine ⟨fn_intro Try.func21 rfl Try.ntmps21 Try.results21 rfl (fun C => ?_)⟩
 refine yF 0 0 rfl rfl fun f0_0 => ?_
 refine ok_fact (x := .tmp 1) (ev_tmp rfl) fun f1 => ?_
 iterate 8 refine z ?_
 refine zC Try.call28 ?_ (hf := ok_laws_szFieldS (by omega) (by omega))
 iterate 7 refine z ?_
 refine yQ rfl (fun c1 => ?_) fun c1 => ?_
 ·skip
  have d1 := of_decide_eq_true c1
  first | have q1 := szR_n d1 | skip
  iterate 6 refine z ?_
  have hh := szR_cases left (wRecord x); simp only [wRecord] at hh ⊢ <;> omega
 ·skip
  have d1 := of_decide_eq_false c1
  first | have q1 := szR_nn d1 | skip
  iterate 8 refine z ?_
  have hh := szR_cases left (wRecord x); simp only [wRecord] at hh ⊢ <;> omega
theorem ok_laws_szOp {x : OpT} {left : Int} (h0 : 0 ≤ left) (h1 : left ≤ 1048576) : PFn Try.prog 13 [.agg [(.dv [] (.int .i64 (x.1))), (.dv [] (.str (x.2.1))), (.dv [] (.int .i64 (x.2.2.1.1))), (.dv [] (.int .i64 (x.2.2.1.2.1))), (.dv [] (.str (x.2.2.1.2.2))), (.dv [] (fieldsD (x.2.2.2.1))), (.dv [] (.str (x.2.2.2.2)))], .one (.dv [] (.int .i64 (left)))] (.one (.dv [] (.int .i64 (szR (left) (wOp x))))) := by
 refine ⟨fn_intro Try.func13 rfl Try.ntmps13 Try.results13 rfl (fun C => ?_)⟩
 refine yF 0 0 rfl rfl fun f0_0 => ?_
 refine yF 0 1 rfl rfl fun f0_1 => ?_
 refine yF 0 2 rfl rfl fun f0_2 => ?_
 refine yF 0 3 rfl rfl fun f0_3 => ?_
 refine yF 0 4 rfl rfl fun f0_4 => ?_
 refine yF 0 5 rfl rfl fun f0_5 => ?_
 refine yF 0 6 rfl rfl fun f0_6 => ?_
 refine ok_fact (x := .tmp 1) (ev_tmp rfl) fun f1 => ?_
 iterate 17 refine z ?_
 refine yQ rfl (fun c1 => ?_) fun c1 => ?_
 ·skip
  have d1 := of_decide_eq_true c1
  first | have q1 := szR_n d1 | skip
  iterate 6 refine z ?_
  have hh := szR_cases left (wOp x); simp only [wOp] at hh ⊢ <;> omega
 ·skip
  have d1 := of_decide_eq_false c1
  first | have q1 := szR_nn d1 | skip
  iterate 6 refine z ?_
  refine zC Try.call20 ?_ (hf := ok_laws_szKey (by omega) (by omega))
  iterate 7 refine z ?_
  refine yQ rfl (fun c2 => ?_) fun c2 => ?_
  ·skip
   have d2 := of_decide_eq_true c2
   first | have q2 := szR_n d2 | skip
   iterate 6 refine z ?_
   have hh := szR_cases left (wOp x); simp only [wOp] at hh ⊢ <;> omega
  ·skip
   have d2 := of_decide_eq_false c2
   first | have q2 := szR_nn d2 | skip
   iterate 6 refine z ?_
   refine zC Try.call21 ?_ (hf := ok_laws_szRecord (by omega) (by omega))
   iterate 7 refine z ?_
   refine yQ rfl (fun c3 => ?_) fun c3 => ?_
   ·skip
    have d3 := of_decide_eq_true c3
    first | have q3 := szR_n d3 | skip
    iterate 6 refine z ?_
    have hh := szR_cases left (wOp x); simp only [wOp] at hh ⊢ <;> omega
   ·skip
    have d3 := of_decide_eq_false c3
    first | have q3 := szR_nn d3 | skip
    iterate 15 refine z ?_
    refine yQ rfl (fun c4 => ?_) fun c4 => ?_
    ·skip
     have d4 := of_decide_eq_true c4
     first | have q4 := szR_n d4 | skip
     iterate 6 refine z ?_
     have hh := szR_cases left (wOp x); simp only [wOp] at hh ⊢ <;> omega
    ·skip
     have d4 := of_decide_eq_false c4
     first | have q4 := szR_nn d4 | skip
     iterate 8 refine z ?_
     have hh := szR_cases left (wOp x); simp only [wOp] at hh ⊢ <;> omega
theorem ok_laws_toKey {x : KeyT}  : PFn Try.prog 22 [.agg [(.dv [] (.int .i64 (x.1))), (.dv [] (.int .i64 (x.2.1))), (.dv [] (.str (x.2.2)))]] (.agg [(.dv [] (.int .i64 (x.1))), (.dv [] (.int .i64 (x.2.1))), (.dv [] (.str (x.2.2)))]) := by
 refine ⟨fn_intro Try.func22 rfl Try.ntmps22 Try.results22 rfl (fun C => ?_)⟩
 refine yF 0 0 rfl rfl fun f0_0 => ?_
 refine yF 0 1 rfl rfl fun f0_1 => ?_
 refine yF 0 2 rfl rfl fun f0_2 => ?_
 iterate 30 refine z ?_
 refine fin1 (res_cell hT rfl rfl rfl rfl) ?_
 rfl
theorem ok_laws_toField {x : FieldT}  : PFn Try.prog 43 [.agg [(.dv [] (.str (x.1))), (.dv [] (.int .i64 (x.2)))]] (.agg [(.dv [] (.str (x.1))), (.dv [] (.int .i64 (x.2)))]) := by
 refine ⟨fn_intro Try.func43 rfl Try.ntmps43 Try.results43 rfl (fun C => ?_)⟩
 refine yF 0 0 rfl rfl fun f0_0 => ?_
 refine yF 0 1 rfl rfl fun f0_1 => ?_
 iterate 24 refine z ?_
 refine fin1 (res_cell hT rfl rfl rfl rfl) ?_
 rfl
theorem ok_laws_toFieldS {x : List (FieldT)} (hb : wList wField x ≤ 1048576) : KFn Try.prog 29 [.one (.dv [] (fieldsD (x)))] (.one (.key 7)) [(7, some (kcOf false (fieldsD (x))))] := by
 refine ⟨fn_intro Try.func29 rfl Try.ntmps29 Try.results29 rfl (fun C => ?_)⟩
 refine ok_fact (x := .tmp 0) (ev_tmp rfl) fun f0 => ?_
 iterate 6 refine z ?_
 refine o_make (k := 7) (n := ((x)).length) (zd := [.str (ByteArray.empty), .int .i64 (0)]) (cs := fillD eField [.str (ByteArray.empty), .int .i64 (0)] x 0) hT rfl rfl rfl rfl rfl rfl (ev_tmp rfl) (ev_tmp rfl) rfl rfl rfl (by have := wList_len wField x; omega) rfl rfl fillD_zero ?_
 iterate 7 refine z ?_
 refine ok_loop (ι := Nat) (fun zz => ⟨[(0, .one (.dv [] (fieldsD (x)))), (3, .one (.key 7)), (4, .one (.dv [] (.int .i64 ((zz : Int)))))], [], [(7, some (kcOf false (.sl 64 2 ((x).length) (fillD eField [.str (ByteArray.empty), .int .i64 (0)] x zz))))]⟩) (fun zz => zz ≤ x.length) (fun zz => x.length - zz) (0) ?_ (weak_sub ⟨rfl, rfl, rfl, trivial⟩ trivial ⟨rfl, trivial⟩ rfl) (fun zz hx => ?_)
 ·exact Nat.zero_le _
 obtain ⟨k, rfl⟩ : ∃ v, v = zz := ⟨_, rfl⟩
 replace hx : k ≤ x.length := hx
 have hw := fun h => wSum_succ wField x k h
 have hw2 := wSum_le wField x (k + 1)
 have hw3 : wList wField x = x.length + wSum wField x := rfl
 show Ok _ _ _ _ _ (⟨[(0, .one (.dv [] (fieldsD (x)))), (3, .one (.key 7)), (4, .one (.dv [] (.int .i64 ((k : Int)))))], [], [(7, some (kcOf false (.sl 64 2 ((x).length) (fillD eField [.str (ByteArray.empty), .int .i64 (0)] x k))))]⟩ : St)
 iterate 7 refine z ?_
 refine yQ rfl (fun c1 => ?_) fun c1 => ?_
 ·skip
  have d1 := of_decide_eq_true c1
  iterate 4 refine z ?_
  refine ok_region ?_
  iterate 6 refine z ?_
  refine zC Try.call43 ?_ (hf := ok_laws_toField)
  refine yO rfl rfl (pu_indexK (i := k) hT rfl rfl rfl (ev_tmp rfl) rfl (ev_tmp rfl) rfl (by show _ < ((x).length); omega)) rfl ?_
  refine o_storeE (js := []) (cs := fillD eField [.str (ByteArray.empty), .int .i64 (0)] x (k + 1)) hT rfl rfl rfl rfl (ev_tmp rfl) (ev_tmp rfl) rfl rfl rfl rfl (ow_cons' (ow_dv rfl) (ow_cons' (ow_dv rfl) ow_nil rfl) rfl) (by decide) (by decide) rfl (by show _ ≤ List.length (fillD eField [.str (ByteArray.empty), .int .i64 (0)] x k); rw [fillD_len (sz := 2) (fun _ => rfl) rfl]; omega) (fillD_succ (sz := 2) (fun _ => rfl) rfl (by omega) rfl) ?_
  simp only [killT, killB, SV.kill, CV.kill, kk, Nat.reduceBEq]
  refine ops_nil ?_
  iterate 2 refine z ?_
  refine ok_region ?_
  iterate 4 refine z ?_
  refine ⟨k + 1, ?_, ?_, weak_sub ⟨rfl, rfl, rfl, trivial⟩ trivial ⟨rfl, trivial⟩ rfl⟩
  ·omega
  ·omega
 ·skip
  have d1 := of_decide_eq_false c1
  iterate 9 refine z ?_
  refine ok_weak (σ' := ⟨[(2, .one (.key 7))], [], [(7, some (kcOf false (fieldsD (x))))]⟩) (weak_sub ⟨rfl, trivial⟩ trivial ⟨(congrArg (fun cs => some (some (KC.mk false 64 2 x.length cs))) (fillD_all (by omega))), trivial⟩ rfl) ?_
  refine z ?_
  refine fin1 (res_tmp rfl) ?_
  exact ⟨rfl, rfl⟩
theorem ok_laws_toRecord {x : RecT} (hb : wRecord x ≤ 1048576) : KFn Try.prog 23 [.agg [(.dv [] (fieldsD (x)))]] (.agg [(.key 6007)]) [(6007, some (kcOf false (fieldsD (x))))] := by
 refine ⟨fn_intro Try.func23 rfl Try.ntmps23 Try.results23 rfl (fun C => ?_)⟩
 refine yF 0 0 rfl rfl fun f0_0 => ?_
 iterate 10 refine z ?_
 refine zK 6000 Try.call29 ?_ (hf := ok_laws_toFieldS (by first | omega | (simp only [wKey, wField, wRecord, wItem, wStore, wIndexDef, wDatabase, wOp, wTx, wTxQueue] at hb ⊢; omega) | (have hq := hw (by omega); omega)))
 iterate 7 refine z ?_
 refine ok_weak (σ' := ⟨[(2, .box 2 0)], [(2, 44, [(.key 6007)])], [(6007, some (kcOf false (fieldsD (x))))]⟩) (weak_sub ⟨rfl, trivial⟩ ⟨rfl, trivial⟩ ⟨rfl, trivial⟩ rfl) ?_
 refine z ?_
 refine fin1 (res_cell hT rfl rfl rfl rfl) ?_
 exact ⟨rfl, rfl⟩
theorem ok_laws_toOp {x : OpT} (hb : wOp x ≤ 1048576) : KFn Try.prog 14 [.agg [(.dv [] (.int .i64 (x.1))), (.dv [] (.str (x.2.1))), (.dv [] (.int .i64 (x.2.2.1.1))), (.dv [] (.int .i64 (x.2.2.1.2.1))), (.dv [] (.str (x.2.2.1.2.2))), (.dv [] (fieldsD (x.2.2.2.1))), (.dv [] (.str (x.2.2.2.2)))]] (.agg [(.dv [] (.int .i64 (x.1))), (.dv [] (.str (x.2.1))), (.dv [] (.int .i64 (x.2.2.1.1))), (.dv [] (.int .i64 (x.2.2.1.2.1))), (.dv [] (.str (x.2.2.1.2.2))), (.key 22007), (.dv [] (.str (x.2.2.2.2)))]) [(22007, some (kcOf false (fieldsD (x.2.2.2.1))))] := by
 refine ⟨fn_intro Try.func14 rfl Try.ntmps14 Try.results14 rfl (fun C => ?_)⟩
 refine yF 0 0 rfl rfl fun f0_0 => ?_
 refine yF 0 1 rfl rfl fun f0_1 => ?_
 refine yF 0 2 rfl rfl fun f0_2 => ?_
 refine yF 0 3 rfl rfl fun f0_3 => ?_
 refine yF 0 4 rfl rfl fun f0_4 => ?_
 refine yF 0 5 rfl rfl fun f0_5 => ?_
 refine yF 0 6 rfl rfl fun f0_6 => ?_
 iterate 22 refine z ?_
 refine zC Try.call22 ?_ (hf := ok_laws_toKey)
 iterate 6 refine z ?_
 refine zK 16000 Try.call23 ?_ (hf := ok_laws_toRecord (by first | omega | (simp only [wKey, wField, wRecord, wItem, wStore, wIndexDef, wDatabase, wOp, wTx, wTxQueue] at hb ⊢; omega) | (have hq := hw (by omega); omega)))
 iterate 13 refine z ?_
 refine ok_weak (σ' := ⟨[(2, .box 2 0)], [(2, 46, [(.dv [] (.int .i64 (x.1))), (.dv [] (.str (x.2.1))), (.dv [] (.int .i64 (x.2.2.1.1))), (.dv [] (.int .i64 (x.2.2.1.2.1))), (.dv [] (.str (x.2.2.1.2.2))), (.key 22007), (.dv [] (.str (x.2.2.2.2)))])], [(22007, some (kcOf false (fieldsD (x.2.2.2.1))))]⟩) (weak_sub ⟨rfl, trivial⟩ ⟨rfl, trivial⟩ ⟨rfl, trivial⟩ rfl) ?_
 refine z ?_
 refine fin1 (res_cell hT rfl rfl rfl rfl) ?_
 exact ⟨rfl, rfl⟩
theorem ok_laws_eqKey {x : KeyT}  : PFn Try.prog 26 [.agg [(.dv [] (.int .i64 (x.1))), (.dv [] (.int .i64 (x.2.1))), (.dv [] (.str (x.2.2)))], .agg [(.dv [] (.int .i64 (x.1))), (.dv [] (.int .i64 (x.2.1))), (.dv [] (.str (x.2.2)))]] (.one (.dv [] (.bool (true)))) := by
 refine ⟨fn_intro Try.func26 rfl Try.ntmps26 Try.results26 rfl (fun C => ?_)⟩
 refine yF 0 0 rfl rfl fun f0_0 => ?_
 refine yF 0 1 rfl rfl fun f0_1 => ?_
 refine yF 0 2 rfl rfl fun f0_2 => ?_
 refine yF 1 0 rfl rfl fun f1_0 => ?_
 refine yF 1 1 rfl rfl fun f1_1 => ?_
 refine yF 1 2 rfl rfl fun f1_2 => ?_
 iterate 13 refine z ?_
 refine yQ rfl (fun c1 => ?_) fun c1 => ?_
 ·skip
  have d1 := nd_t c1
  iterate 6 refine z ?_
  first | rfl | (exfalso; simp_all [sEq])
 ·skip
  have d1 := nd_f c1
  iterate 10 refine z ?_
  refine yQ rfl (fun c2 => ?_) fun c2 => ?_
  ·skip
   have d2 := nd_t c2
   iterate 6 refine z ?_
   first | rfl | (exfalso; simp_all [sEq])
  ·skip
   have d2 := nd_f c2
   iterate 10 refine z ?_
   refine yQ rfl (fun c3 => ?_) fun c3 => ?_
   ·skip
    iterate 6 refine z ?_
    first | rfl | (exfalso; simp_all [sEq])
   ·skip
    iterate 7 refine z ?_
    first | rfl | (exfalso; simp_all [sEq])
theorem ok_laws_eqField {x : FieldT}  : PFn Try.prog 50 [.agg [(.dv [] (.str (x.1))), (.dv [] (.int .i64 (x.2)))], .agg [(.dv [] (.str (x.1))), (.dv [] (.int .i64 (x.2)))]] (.one (.dv [] (.bool (true)))) := by
 refine ⟨fn_intro Try.func50 rfl Try.ntmps50 Try.results50 rfl (fun C => ?_)⟩
 refine yF 0 0 rfl rfl fun f0_0 => ?_
 refine yF 0 1 rfl rfl fun f0_1 => ?_
 refine yF 1 0 rfl rfl fun f1_0 => ?_
 refine yF 1 1 rfl rfl fun f1_1 => ?_
 iterate 13 refine z ?_
 refine yQ rfl (fun c1 => ?_) fun c1 => ?_
 ·skip
  iterate 6 refine z ?_
  first | rfl | (exfalso; simp_all [sEq])
 ·skip
  iterate 10 refine z ?_
  refine yQ rfl (fun c2 => ?_) fun c2 => ?_
  ·skip
   have d2 := nd_t c2
   iterate 6 refine z ?_
   first | rfl | (exfalso; simp_all [sEq])
  ·skip
   have d2 := nd_f c2
   iterate 7 refine z ?_
   first | rfl | (exfalso; simp_all [sEq])
theorem ok_laws_eqFieldS {x : List (FieldT)}  : PFn Try.prog 41 [.one (.dv [] (fieldsD (x))), .one (.dv [] (fieldsD (x)))] (.one (.dv [] (.bool (true)))) := by
 refine ⟨fn_intro Try.func41 rfl Try.ntmps41 Try.results41 rfl (fun C => ?_)⟩
 refine ok_fact (x := .tmp 0) (ev_tmp rfl) fun f0 => ?_
 refine ok_fact (x := .tmp 1) (ev_tmp rfl) fun f1 => ?_
 iterate 11 refine z ?_
 refine yQ rfl (fun c1 => ?_) fun c1 => ?_
 ·skip
  have d1 := nd_t c1
  iterate 6 refine z ?_
  first | rfl | (exfalso; simp_all [sEq])
 ·skip
  have d1 := nd_f c1
  iterate 7 refine z ?_
  refine ok_loop (ι := Nat) (fun zz => ⟨[(0, .one (.dv [] (fieldsD (x)))), (1, .one (.dv [] (fieldsD (x)))), (5, .one (.dv [] (.int .i64 ((zz : Int)))))], [], []⟩) (fun zz => zz ≤ x.length) (fun zz => x.length - zz) (0) ?_ (weak_sub ⟨rfl, rfl, rfl, trivial⟩ trivial trivial rfl) (fun zz hx => ?_)
  ·exact Nat.zero_le _
  obtain ⟨k, rfl⟩ : ∃ v, v = zz := ⟨_, rfl⟩
  replace hx : k ≤ x.length := hx
  show Ok _ _ _ _ _ (⟨[(0, .one (.dv [] (fieldsD (x)))), (1, .one (.dv [] (fieldsD (x)))), (5, .one (.dv [] (.int .i64 ((k : Int)))))], [], []⟩ : St)
  iterate 7 refine z ?_
  refine yQ rfl (fun c2 => ?_) fun c2 => ?_
  ·skip
   have d2 := of_decide_eq_true c2
   iterate 4 refine z ?_
   refine ok_seq ?_
   refine ok_regionD (oB := []) (oK := []) (by kernel_rfl) rfl rfl ?_
   refine zD 0 ?_
   refine zD 1 ?_
   refine zD 2 ?_
   refine zD 3 ?_
   refine zD 4 ?_
   refine zD 5 ?_
   refine zD 6 ?_
   refine zD 7 ?_
   refine d_call 8 rfl (by kernel_rfl) rfl rfl rfl Try.call50 ok_laws_eqField (as_cons (ev_tmp rfl) (ag_agg (ag_cons ac_dv (ag_cons ac_dv ag_nil))) (as_cons (ev_tmp rfl) (ag_agg (ag_cons ac_dv (ag_cons ac_dv ag_nil))) as_nil)) rfl rfl rfl rfl ?_
   refine zD 9 ?_
   refine d_done (by kernel_rfl) ?_
   refine z ?_
   refine yQ rfl (fun c3 => ?_) fun c3 => ?_
   ·skip
    iterate 10 refine z ?_
    first | rfl | (exfalso; simp_all [sEq])
   ·skip
    iterate 3 refine z ?_
    refine ok_region ?_
    iterate 4 refine z ?_
    refine ⟨k + 1, ?_, ?_, weak_sub ⟨rfl, rfl, rfl, trivial⟩ trivial trivial rfl⟩
    ·omega
    ·omega
  ·skip
   have d2 := of_decide_eq_false c2
   iterate 10 refine z ?_
   first | rfl | (exfalso; simp_all [sEq])
theorem ok_laws_eqRecord {x : RecT}  : PFn Try.prog 27 [.agg [(.dv [] (fieldsD (x)))], .agg [(.dv [] (fieldsD (x)))]] (.one (.dv [] (.bool (true)))) := by
 refine ⟨fn_intro Try.func27 rfl Try.ntmps27 Try.results27 rfl (fun C => ?_)⟩
 refine yF 0 0 rfl rfl fun f0_0 => ?_
 refine yF 1 0 rfl rfl fun f1_0 => ?_
 iterate 11 refine z ?_
 refine zC Try.call41 ?_ (hf := ok_laws_eqFieldS)
 iterate 2 refine z ?_
 refine yQ rfl (fun c1 => ?_) fun c1 => ?_
 ·skip
  iterate 6 refine z ?_
  first | rfl | (exfalso; simp_all [sEq])
 ·skip
  iterate 7 refine z ?_
  first | rfl | (exfalso; simp_all [sEq])
theorem ok_laws_eqOp {x : OpT}  : PFn Try.prog 17 [.agg [(.dv [] (.int .i64 (x.1))), (.dv [] (.str (x.2.1))), (.dv [] (.int .i64 (x.2.2.1.1))), (.dv [] (.int .i64 (x.2.2.1.2.1))), (.dv [] (.str (x.2.2.1.2.2))), (.dv [] (fieldsD (x.2.2.2.1))), (.dv [] (.str (x.2.2.2.2)))], .agg [(.dv [] (.int .i64 (x.1))), (.dv [] (.str (x.2.1))), (.dv [] (.int .i64 (x.2.2.1.1))), (.dv [] (.int .i64 (x.2.2.1.2.1))), (.dv [] (.str (x.2.2.1.2.2))), (.dv [] (fieldsD (x.2.2.2.1))), (.dv [] (.str (x.2.2.2.2)))]] (.one (.dv [] (.bool (true)))) := by
 refine ⟨fn_intro Try.func17 rfl Try.ntmps17 Try.results17 rfl (fun C => ?_)⟩
 refine yF 0 0 rfl rfl fun f0_0 => ?_
 refine yF 0 1 rfl rfl fun f0_1 => ?_
 refine yF 0 2 rfl rfl fun f0_2 => ?_
 refine yF 0 3 rfl rfl fun f0_3 => ?_
 refine yF 0 4 rfl rfl fun f0_4 => ?_
 refine yF 0 5 rfl rfl fun f0_5 => ?_
 refine yF 0 6 rfl rfl fun f0_6 => ?_
 refine yF 1 0 rfl rfl fun f1_0 => ?_
 refine yF 1 1 rfl rfl fun f1_1 => ?_
 refine yF 1 2 rfl rfl fun f1_2 => ?_
 refine yF 1 3 rfl rfl fun f1_3 => ?_
 refine yF 1 4 rfl rfl fun f1_4 => ?_
 refine yF 1 5 rfl rfl fun f1_5 => ?_
 refine yF 1 6 rfl rfl fun f1_6 => ?_
 iterate 13 refine z ?_
 refine yQ rfl (fun c1 => ?_) fun c1 => ?_
 ·skip
  have d1 := nd_t c1
  iterate 6 refine z ?_
  first | rfl | (exfalso; simp_all [sEq])
 ·skip
  have d1 := nd_f c1
  iterate 10 refine z ?_
  refine yQ rfl (fun c2 => ?_) fun c2 => ?_
  ·skip
   iterate 6 refine z ?_
   first | rfl | (exfalso; simp_all [sEq])
  ·skip
   iterate 8 refine z ?_
   refine zC Try.call26 ?_ (hf := ok_laws_eqKey)
   iterate 2 refine z ?_
   refine yQ rfl (fun c3 => ?_) fun c3 => ?_
   ·skip
    iterate 6 refine z ?_
    first | rfl | (exfalso; simp_all [sEq])
   ·skip
    iterate 8 refine z ?_
    refine zC Try.call27 ?_ (hf := ok_laws_eqRecord)
    iterate 2 refine z ?_
    refine yQ rfl (fun c4 => ?_) fun c4 => ?_
    ·skip
     iterate 6 refine z ?_
     first | rfl | (exfalso; simp_all [sEq])
    ·skip
     iterate 10 refine z ?_
     refine yQ rfl (fun c5 => ?_) fun c5 => ?_
     ·skip
      iterate 6 refine z ?_
      first | rfl | (exfalso; simp_all [sEq])
     ·skip
      iterate 7 refine z ?_
      first | rfl | (exfalso; simp_all [sEq])
end Go.Proofs.Ytppjnelanomidaa

namespace Go.Proofs.Ytppjnelanomidaa
open Go.RowKit
open Go.Proofs
set_option linter.unusedVariables false
set_option linter.unusedSimpArgs false
theorem ok_laws_szOpS {x : List (OpT)} {left : Int} (h0 : 0 ≤ left) (h1 : left ≤ 1048576) : PFn Try.prog 4 [.one (.dv [] (opsD (x))), .one (.dv [] (.int .i64 (left)))] (.one (.dv [] (.int .i64 (szR (left) (wList wOp x))))) := by
 refine ⟨fn_intro Try.func4 rfl Try.ntmps4 Try.results4 rfl (fun C => ?_)⟩
 refine ok_fact (x := .tmp 0) (ev_tmp rfl) fun f0 => ?_
 refine ok_fact (x := .tmp 1) (ev_tmp rfl) fun f1 => ?_
 iterate 15 refine z ?_
 refine yQ rfl (fun c1 => ?_) fun c1 => ?_
 ·skip
  have d1 := of_decide_eq_true c1
  first | have q1 := szR_n d1 | skip
  iterate 6 refine z ?_
  have hh := szR_cases left (wList wOp x); simp only [wList] at hh ⊢ <;> omega
 ·skip
  have d1 := of_decide_eq_false c1
  first | have q1 := szR_nn d1 | skip
  iterate 7 refine z ?_
  refine ok_loop (ι := Nat × Int) (fun zz => ⟨[(0, .one (.dv [] (opsD (x)))), (1, .one (.dv [] (.int .i64 (zz.2)))), (5, .one (.dv [] (.int .i64 ((zz.1 : Int)))))], [], []⟩) (fun zz => zz.1 ≤ x.length ∧ 0 ≤ zz.2 ∧ zz.2 + (wSum wOp (x.take zz.1) : Int) = left - (x.length : Int)) (fun zz => x.length - zz.1) ((0, left - (x.length : Int))) ?_ (weak_sub ⟨rfl, rfl, rfl, trivial⟩ trivial trivial rfl) (fun zz hx => ?_)
  ·exact ⟨Nat.zero_le _, by omega, by simp [wSum]⟩
  obtain ⟨k, l⟩ := zz
  replace hx : k ≤ x.length ∧ 0 ≤ l ∧ l + (wSum wOp (x.take k) : Int) = left - (x.length : Int) := hx
  obtain ⟨hk, hl, he⟩ := hx
  have hw := fun h => wSum_succ wOp x k h
  show Ok _ _ _ _ _ (⟨[(0, .one (.dv [] (opsD (x)))), (1, .one (.dv [] (.int .i64 (l)))), (5, .one (.dv [] (.int .i64 ((k : Int)))))], [], []⟩ : St)
  iterate 7 refine z ?_
  refine yQ rfl (fun c2 => ?_) fun c2 => ?_
  ·skip
   have d2 := of_decide_eq_true c2
   first | have q2 := szR_n d2 | skip
   iterate 10 refine z ?_
   refine zC Try.call13 ?_ (hf := ok_laws_szOp (by omega) (by omega))
   iterate 6 refine z ?_
   refine yQ rfl (fun c3 => ?_) fun c3 => ?_
   ·skip
    have d3 := of_decide_eq_true c3
    first | have q3 := szR_n d3 | skip
    iterate 10 refine z ?_
    have hw' := hw (by omega); have hh := szR_cases left (wList wOp x); simp only [wList] at hh ⊢ <;> omega
   ·skip
    have d3 := of_decide_eq_false c3
    first | have q3 := szR_nn d3 | skip
    iterate 3 refine z ?_
    refine ok_region ?_
    iterate 4 refine z ?_
    refine ⟨(k + 1, szR l (wOp (x.getD (k : Int).toNat default))), ?_, ?_, weak_sub ⟨rfl, rfl, rfl, trivial⟩ trivial trivial rfl⟩
    ·have hw' := hw (by omega)
     dsimp only
     exact ⟨by omega, by omega, by omega⟩
    ·omega
  ·skip
   have d2 := of_decide_eq_false c2
   first | have q2 := szR_nn d2 | skip
   iterate 11 refine z ?_
   have hw' := wSum_all wOp x k (by omega); have hh := szR_cases left (wList wOp x); simp only [wList] at hh ⊢ <;> omega
theorem ok_laws_toOpS {x : List (OpT)} (hb : wList wOp x ≤ 1048576) : KFn Try.prog 6 [.one (.dv [] (opsD (x)))] (.one (.key 7)) [(7, some (kcOf false (opsD (x))))] := by
 refine ⟨fn_intro Try.func6 rfl Try.ntmps6 Try.results6 rfl (fun C => ?_)⟩
 refine ok_fact (x := .tmp 0) (ev_tmp rfl) fun f0 => ?_
 iterate 6 refine z ?_
 refine o_make (k := 7) (n := ((x)).length) (zd := [.int .i64 (0), .str (ByteArray.empty), .int .i64 (0), .int .i64 (0), .str (ByteArray.empty), .sl 64 2 0 [], .str (ByteArray.empty)]) (cs := fillD eOp [.int .i64 (0), .str (ByteArray.empty), .int .i64 (0), .int .i64 (0), .str (ByteArray.empty), .sl 64 2 0 [], .str (ByteArray.empty)] x 0) hT rfl rfl rfl rfl rfl rfl (ev_tmp rfl) (ev_tmp rfl) rfl rfl rfl (by have := wList_len wOp x; omega) rfl rfl fillD_zero ?_
 iterate 7 refine z ?_
 refine ok_loop (ι := Nat) (fun zz => ⟨[(0, .one (.dv [] (opsD (x)))), (3, .one (.key 7)), (4, .one (.dv [] (.int .i64 ((zz : Int)))))], [], [(7, some (kcOf false (.sl 46 7 ((x).length) (fillD eOp [.int .i64 (0), .str (ByteArray.empty), .int .i64 (0), .int .i64 (0), .str (ByteArray.empty), .sl 64 2 0 [], .str (ByteArray.empty)] x zz))))]⟩) (fun zz => zz ≤ x.length) (fun zz => x.length - zz) (0) ?_ (weak_sub ⟨rfl, rfl, rfl, trivial⟩ trivial ⟨rfl, trivial⟩ rfl) (fun zz hx => ?_)
 ·exact Nat.zero_le _
 obtain ⟨k, rfl⟩ : ∃ v, v = zz := ⟨_, rfl⟩
 replace hx : k ≤ x.length := hx
 have hw := fun h => wSum_succ wOp x k h
 have hw2 := wSum_le wOp x (k + 1)
 have hw3 : wList wOp x = x.length + wSum wOp x := rfl
 show Ok _ _ _ _ _ (⟨[(0, .one (.dv [] (opsD (x)))), (3, .one (.key 7)), (4, .one (.dv [] (.int .i64 ((k : Int)))))], [], [(7, some (kcOf false (.sl 46 7 ((x).length) (fillD eOp [.int .i64 (0), .str (ByteArray.empty), .int .i64 (0), .int .i64 (0), .str (ByteArray.empty), .sl 64 2 0 [], .str (ByteArray.empty)] x k))))]⟩ : St)
 iterate 7 refine z ?_
 refine yQ rfl (fun c1 => ?_) fun c1 => ?_
 ·skip
  have d1 := of_decide_eq_true c1
  iterate 4 refine z ?_
  refine ok_region ?_
  iterate 6 refine z ?_
  refine zK 20000 Try.call14 ?_ (hf := ok_laws_toOp (by first | omega | (simp only [wKey, wField, wRecord, wItem, wStore, wIndexDef, wDatabase, wOp, wTx, wTxQueue] at hb ⊢; omega) | (have hq := hw (by omega); omega)))
  refine yO rfl rfl (pu_indexK (i := k) hT rfl rfl rfl (ev_tmp rfl) rfl (ev_tmp rfl) rfl (by show _ < ((x).length); omega)) rfl ?_
  refine o_storeE (js := [42007]) (cs := fillD eOp [.int .i64 (0), .str (ByteArray.empty), .int .i64 (0), .int .i64 (0), .str (ByteArray.empty), .sl 64 2 0 [], .str (ByteArray.empty)] x (k + 1)) hT rfl rfl rfl rfl (ev_tmp rfl) (ev_tmp rfl) rfl rfl rfl rfl (ow_cons' (ow_dv rfl) (ow_cons' (ow_dv rfl) (ow_cons' (ow_dv rfl) (ow_cons' (ow_dv rfl) (ow_cons' (ow_dv rfl) (ow_cons' (ow_key rfl) (ow_cons' (ow_dv rfl) ow_nil rfl) rfl) rfl) rfl) rfl) rfl) rfl) (by decide) (by decide) rfl (by show _ ≤ List.length (fillD eOp [.int .i64 (0), .str (ByteArray.empty), .int .i64 (0), .int .i64 (0), .str (ByteArray.empty), .sl 64 2 0 [], .str (ByteArray.empty)] x k); rw [fillD_len (sz := 7) (fun _ => rfl) rfl]; omega) (fillD_succ (sz := 7) (fun _ => rfl) rfl (by omega) rfl) ?_
  simp only [killT, killB, SV.kill, CV.kill, kk, Nat.reduceBEq]
  refine ops_nil ?_
  iterate 2 refine z ?_
  refine ok_region ?_
  iterate 4 refine z ?_
  refine ⟨k + 1, ?_, ?_, weak_sub ⟨rfl, rfl, rfl, trivial⟩ trivial ⟨rfl, trivial⟩ rfl⟩
  ·omega
  ·omega
 ·skip
  have d1 := of_decide_eq_false c1
  iterate 9 refine z ?_
  refine ok_weak (σ' := ⟨[(2, .one (.key 7))], [], [(7, some (kcOf false (opsD (x))))]⟩) (weak_sub ⟨rfl, trivial⟩ trivial ⟨(congrArg (fun cs => some (some (KC.mk false 46 7 x.length cs))) (fillD_all (by omega))), trivial⟩ rfl) ?_
  refine z ?_
  refine fin1 (res_tmp rfl) ?_
  exact ⟨rfl, rfl⟩
theorem ok_laws_eqOpS {x : List (OpT)}  : PFn Try.prog 9 [.one (.dv [] (opsD (x))), .one (.dv [] (opsD (x)))] (.one (.dv [] (.bool (true)))) := by
 refine ⟨fn_intro Try.func9 rfl Try.ntmps9 Try.results9 rfl (fun C => ?_)⟩
 refine ok_fact (x := .tmp 0) (ev_tmp rfl) fun f0 => ?_
 refine ok_fact (x := .tmp 1) (ev_tmp rfl) fun f1 => ?_
 iterate 11 refine z ?_
 refine yQ rfl (fun c1 => ?_) fun c1 => ?_
 ·skip
  have d1 := nd_t c1
  iterate 6 refine z ?_
  first | rfl | (exfalso; simp_all [sEq])
 ·skip
  have d1 := nd_f c1
  iterate 7 refine z ?_
  refine ok_loop (ι := Nat) (fun zz => ⟨[(0, .one (.dv [] (opsD (x)))), (1, .one (.dv [] (opsD (x)))), (5, .one (.dv [] (.int .i64 ((zz : Int)))))], [], []⟩) (fun zz => zz ≤ x.length) (fun zz => x.length - zz) (0) ?_ (weak_sub ⟨rfl, rfl, rfl, trivial⟩ trivial trivial rfl) (fun zz hx => ?_)
  ·exact Nat.zero_le _
  obtain ⟨k, rfl⟩ : ∃ v, v = zz := ⟨_, rfl⟩
  replace hx : k ≤ x.length := hx
  show Ok _ _ _ _ _ (⟨[(0, .one (.dv [] (opsD (x)))), (1, .one (.dv [] (opsD (x)))), (5, .one (.dv [] (.int .i64 ((k : Int)))))], [], []⟩ : St)
  iterate 7 refine z ?_
  refine yQ rfl (fun c2 => ?_) fun c2 => ?_
  ·skip
   have d2 := of_decide_eq_true c2
   iterate 4 refine z ?_
   refine ok_seq ?_
   refine ok_regionD (oB := []) (oK := []) (by kernel_rfl) rfl rfl ?_
   refine zD 0 ?_
   refine zD 1 ?_
   refine zD 2 ?_
   refine zD 3 ?_
   refine zD 4 ?_
   refine zD 5 ?_
   refine zD 6 ?_
   refine zD 7 ?_
   refine d_call 8 rfl (by kernel_rfl) rfl rfl rfl Try.call17 ok_laws_eqOp (as_cons (ev_tmp rfl) (ag_agg (ag_cons ac_dv (ag_cons ac_dv (ag_cons ac_dv (ag_cons ac_dv (ag_cons ac_dv (ag_cons ac_dv (ag_cons ac_dv ag_nil)))))))) (as_cons (ev_tmp rfl) (ag_agg (ag_cons ac_dv (ag_cons ac_dv (ag_cons ac_dv (ag_cons ac_dv (ag_cons ac_dv (ag_cons ac_dv (ag_cons ac_dv ag_nil)))))))) as_nil)) rfl rfl rfl rfl ?_
   refine zD 9 ?_
   refine d_done (by kernel_rfl) ?_
   refine z ?_
   refine yQ rfl (fun c3 => ?_) fun c3 => ?_
   ·skip
    iterate 10 refine z ?_
    first | rfl | (exfalso; simp_all [sEq])
   ·skip
    iterate 3 refine z ?_
    refine ok_region ?_
    iterate 4 refine z ?_
    refine ⟨k + 1, ?_, ?_, weak_sub ⟨rfl, rfl, rfl, trivial⟩ trivial trivial rfl⟩
    ·omega
    ·omega
  ·skip
   have d2 := of_decide_eq_false c2
   iterate 10 refine z ?_
   first | rfl | (exfalso; simp_all [sEq])
end Go.Proofs.Ytppjnelanomidaa

namespace Go.Proofs.Ytppjnelanomidaa
open Go.RowKit
open Go.Proofs
set_option linter.unusedVariables false
set_option linter.unusedSimpArgs false

theorem eqSlotI {k : IntKind} {a b : Int} (h : a = b) : some (SV.one (CV.dv [] (DV.int k a))) = some (SV.one (CV.dv [] (DV.int k b))) := by rw [h]
def mkL {α : Type} (m : α → Int → α) (c : α → Nat) : List α → Int → List α
 | [], _ => []
 | x :: xs, k => m x k :: mkL m c xs (k + (c x : Int))
theorem mkL_len {α : Type} {m : α → Int → α} {c : α → Nat} : ∀ (xs : List α) (k : Int), (mkL m c xs k).length = xs.length
 | [], _ => rfl
 | x :: xs, k => by rw [mkL, List.length_cons, mkL_len xs, List.length_cons]
theorem mkL_app {α : Type} {m : α → Int → α} {c : α → Nat} : ∀ (xs ys : List α) (k : Int), mkL m c (xs ++ ys) k = mkL m c xs k ++ mkL m c ys (k + (wSum c xs : Int))
 | [], ys, k => by simp [mkL, wSum]
 | x :: xs, ys, k => by
  rw [List.cons_append, mkL, mkL_app xs ys, mkL, List.cons_append]
  congr 3
  have : wSum c (x :: xs) = c x + wSum c xs := by simp [wSum]
  omega
theorem getD_at {α : Type} [Inhabited α] {xs : List α} {j : Nat} (h : j < xs.length) : xs.getD (j : Int).toNat default = xs[j] := by simp [List.getD, List.getElem?_eq_getElem h]
theorem mkL_succ {α : Type} [Inhabited α] {m : α → Int → α} {c : α → Nat} {xs : List α} {j : Nat} {k : Int} (h : j < xs.length) : mkL m c (xs.take (j + 1)) k = mkL m c (xs.take j) k ++ [m (xs.getD (j : Int).toNat default) (k + (wSum c (xs.take j) : Int))] := by
 rw [List.take_add_one, List.getElem?_eq_getElem h, mkL_app, getD_at h]; rfl
theorem mkL_getD {α : Type} [Inhabited α] {m : α → Int → α} {c : α → Nat} {xs : List α} {j : Nat} {k : Int} (h : j < xs.length) : (mkL m c xs k).getD (j : Int).toNat default = m (xs.getD (j : Int).toNat default) (k + (wSum c (xs.take j) : Int)) := by
 have e : mkL m c xs k = mkL m c (xs.take (j + 1)) k ++ mkL m c (xs.drop (j + 1)) (k + (wSum c (xs.take (j + 1)) : Int)) := by rw [← mkL_app, List.take_append_drop]
 rw [e, mkL_succ h]
 have hl : (mkL m c (xs.take j) k).length = j := by rw [mkL_len, List.length_take]; omega
 have : (j : Int).toNat = j := by omega
 rw [List.getD, List.append_assoc, List.getElem?_append_right (by omega), show (j : Int).toNat - (mkL m c (xs.take j) k).length = 0 by omega]
 rfl
theorem drop_flat {α : Type} [Inhabited α] {enc : α → List DV} {xs : List α} {j : Nat} (h : j < xs.length) : (xs.drop j).flatMap enc = enc (xs.getD (j : Int).toNat default) ++ (xs.drop (j + 1)).flatMap enc := by
 rw [List.drop_eq_getElem_cons h, List.flatMap_cons, getD_at h]
theorem mk_open {α : Type} [Inhabited α] {enc : α → List DV} {A : List DV} {xs : List α} {j : Nat} (h : j < xs.length) : A ++ (xs.drop j).flatMap enc = mid A (enc (xs.getD (j : Int).toNat default)) ((xs.drop (j + 1)).flatMap enc) := by rw [drop_flat h]; rfl
theorem mk_close {α : Type} [Inhabited α] {m : α → Int → α} {c : α → Nat} {enc : α → List DV} {B C : List DV} {xs : List α} {j : Nat} {k : Int} (h : j < xs.length) (hB : B = enc (m (xs.getD (j : Int).toNat default) (k + (wSum c (xs.take j) : Int)))) : mid ((mkL m c (xs.take j) k).flatMap enc) B C = (mkL m c (xs.take (j + 1)) k).flatMap enc ++ C := by
 unfold mid
 rw [mkL_succ h, List.flatMap_append, hB]; simp
theorem mk_fin {α : Type} {m : α → Int → α} {c : α → Nat} {enc : α → List DV} {e sz : Nat} {xs : List α} {j : Nat} {k : Int} (h : xs.length ≤ j) : some (some (KC.mk true e sz xs.length ((mkL m c (xs.take j) k).flatMap enc ++ (xs.drop j).flatMap enc))) = some (some (kcOf true (listD e sz enc (mkL m c xs k)))) := by
 rw [List.take_of_length_le h, List.drop_eq_nil_of_le h]
 simp only [listD, kcOf, mkL_len, List.flatMap_nil, List.append_nil]
theorem mk_pre {α : Type} {m : α → Int → α} {c : α → Nat} {enc : α → List DV} {sz : Nat} (hs : ∀ x, (enc x).length = sz) {xs : List α} {j : Nat} {k : Int} (h : j ≤ xs.length) : ((mkL m c (xs.take j) k).flatMap enc).length = j * sz := by
 rw [flat_len hs, mkL_len, List.length_take, Nat.min_eq_left h]
theorem wSum_bound {α : Type} {c w : α → Nat} (h : ∀ x, c x ≤ 8 * (1 + w x)) : ∀ xs : List α, wSum c xs ≤ 8 * wList w xs
 | [] => by simp [wSum, wList]
 | x :: xs => by
  have := wSum_bound h xs
  have := h x
  simp only [wSum, wList, List.map_cons, List.sum_cons, List.length_cons] at *
  omega
theorem wSum_ge {α : Type} {c : α → Nat} (h : ∀ x, 1 ≤ c x) : ∀ xs : List α, xs.length ≤ wSum c xs
 | [] => by simp [wSum]
 | x :: xs => by
  have := wSum_ge h xs
  have := h x
  simp only [wSum, List.map_cons, List.sum_cons, List.length_cons] at *
  omega
theorem wSum_const {α : Type} {n : Nat} : ∀ xs : List α, wSum (fun _ => n) xs = n * xs.length
 | [] => by simp [wSum]
 | x :: xs => by
  have := wSum_const (n := n) xs
  simp only [wSum, List.map_cons, List.sum_cons, List.length_cons] at *
  rw [Nat.mul_add]; omega
def mDig (k : Nat) (out : Str) : Str := if k = 0 then out else mDig (k / 10) (strOf [UInt8.ofNat (IntKind.u8.wrap (48 + (k : Int) % 10)).toNat] ++ out)
termination_by k
theorem mDig_go {k : Nat} {out : Str} (h : 0 < (k : Int)) : mDig (k / 10) (strOf [UInt8.ofNat (IntKind.u8.wrap (48 + (k : Int) % 10)).toNat] ++ out) = mDig k out := by rw [mDig.eq_def k out, if_neg (by omega)]
theorem mDig_end {k : Nat} {out : Str} (h : ¬ 0 < (k : Int)) : mDig k out = out := by rw [mDig.eq_def k out, if_pos (by omega)]
def mText (k : Int) : Str := if k ≤ 0 then ByteArray.mk #[109, 48] else ByteArray.mk #[109] ++ mDig k.toNat (ByteArray.mk #[])

def mkStr (_ : Str) (k : Int) : Str := mText k
def cStr (_ : Str) : Nat := 1
def mkField (x : FieldT) (k : Int) : FieldT := (mText (k), (k) + (1))
def cField (x : FieldT) : Nat := 2
theorem cField_le (x : FieldT) : cField x ≤ 8 * (1 + wField x) := by
 simp only [cField]
 omega
theorem ok_laws_markText {k : Int} (hk : k ≤ 9000000000000000000) : PFn Try.prog 18 [.one (.dv [] (.int .i64 (k)))] (.one (.dv [] (.str (mText k)))) := by
 refine ⟨fn_intro Try.func18 rfl Try.ntmps18 Try.results18 rfl (fun C => ?_)⟩
 refine ok_fact (x := .tmp 0) (ev_tmp rfl) fun f0 => ?_
 iterate 8 refine z ?_
 refine yQ rfl (fun c1 => ?_) fun c1 => ?_
 ·skip
  have d1 := of_decide_eq_true c1
  iterate 6 refine z ?_
  rw [mText, if_pos d1]
 ·skip
  have d1 := of_decide_eq_false c1
  iterate 7 refine z ?_
  refine ok_loop (ι := Nat × Str) (fun zz => ⟨[(0, .one (.dv [] (.int .i64 ((zz.1 : Int))))), (2, .one (.dv [] (.str (ByteArray.mk #[])))), (3, .one (.dv [] (.str (zz.2))))], [], []⟩) (fun zz => mDig zz.1 zz.2 = mDig k.toNat (ByteArray.mk #[]) ∧ zz.2.size + zz.1 ≤ k.toNat) (fun zz => zz.1) ((k.toNat, ByteArray.mk #[])) ?_ (weak_sub ⟨(eqSlotI (by show k = ((k.toNat : Nat) : Int); omega)), rfl, rfl, trivial⟩ trivial trivial rfl) (fun zz hx => ?_)
  ·exact ⟨rfl, by show 0 + _ ≤ _; omega⟩
  obtain ⟨n, out⟩ := zz
  replace hx : mDig n out = mDig k.toNat (ByteArray.mk #[]) ∧ out.size + n ≤ k.toNat := hx
  obtain ⟨hd, hs⟩ := hx
  show Ok _ _ _ _ _ (⟨[(0, .one (.dv [] (.int .i64 ((n : Int))))), (2, .one (.dv [] (.str (ByteArray.mk #[])))), (3, .one (.dv [] (.str (out))))], [], []⟩ : St)
  iterate 5 refine z ?_
  refine yQ rfl (fun c2 => ?_) fun c2 => ?_
  ·skip
   have d2 := of_decide_eq_true c2
   have hs1 : (strOf [UInt8.ofNat (IntKind.u8.wrap (48 + (n : Int) % 10)).toNat]).size = 1 := rfl
   iterate 5 refine z ?_
   refine yO rfl rfl (pu_remN rfl (ev_tmp rfl) (ev_int (inR_lit rfl)) (by omega) (by omega)) rfl ?_
   refine z ?_
   refine yO rfl rfl (pu_convI hT rfl rfl rfl (ev_tmp rfl)) rfl ?_
   refine o_build1 (k := 12) (js := []) hT rfl rfl rfl rfl rfl rfl rfl rfl rfl (ev_tmp rfl) rfl rfl (ow_cons' (ow_dv rfl) ow_nil rfl) (by decide) (by decide) rfl rfl ?_
   simp only [killT, killB, SV.kill, CV.kill, kk, Nat.reduceBEq]
   refine yO rfl rfl (pu_convB1 (b := UInt8.ofNat (IntKind.u8.wrap ((48) + (((n : Int)) % (10)))).toNat) hT rfl rfl rfl rfl (ev_keyv (c := ⟨false, 5, 1, 1, [.int .u8 (IntKind.u8.wrap ((48) + (((n : Int)) % (10))))]⟩) (ev_tmp rfl) rfl) (wrap_u8 _)) rfl ?_
   refine z ?_
   refine yO rfl rfl (pu_sadd rfl (ev_tmp rfl) (ev_tmp rfl) (by omega)) rfl ?_
   iterate 2 refine z ?_
   refine ok_region ?_
   refine z ?_
   refine yO rfl rfl (pu_quoN rfl (ev_tmp rfl) (ev_int (inR_lit rfl)) (by omega) (by omega)) rfl ?_
   refine z ?_
   refine ops_nil ?_
   iterate 2 refine z ?_
   refine ⟨(n / 10, strOf [UInt8.ofNat (IntKind.u8.wrap (48 + (n : Int) % 10)).toNat] ++ out), ?_, ?_, weak_sub ⟨rfl, rfl, rfl, trivial⟩ trivial trivial rfl⟩
   ·exact ⟨(mDig_go d2).trans hd, by rw [ByteArray.size_append, hs1]; dsimp only; omega⟩
   ·dsimp only; omega
  ·skip
   have d2 := of_decide_eq_false c2
   have hs9 : (ByteArray.mk #[109]).size = 1 := rfl
   iterate 7 refine z ?_
   refine yO rfl rfl (pu_sadd rfl (ev_str (str_lit rfl)) (ev_tmp rfl) (by omega)) rfl ?_
   iterate 4 refine z ?_
   rw [mText, if_neg d1, ← hd, mDig_end d2]
theorem ok_laws_markFieldS {x : List (FieldT)} {k : Int} (h0 : 0 ≤ k) (h1 : k + (wSum cField x : Int) ≤ 4611686018427387904) : WFn Try.prog 19 [.one (.key 0), .one (.dv [] (.int .i64 (k)))] (.one (.dv [] (.int .i64 (k + (wSum cField x : Int))))) [(0, kcOf true (.sl 64 2 (x.length) (x.flatMap eField)))] [(0, kcOf true (fieldsD (mkL mkField cField x k)))] := by
 refine ⟨fn_intro Try.func19 rfl Try.ntmps19 Try.results19 rfl (fun C => ?_)⟩
 have hln : x.length ≤ wSum cField x := wSum_ge (fun _ => by simp only [cField]; omega) x
 refine ok_fact (x := .tmp 1) (ev_tmp rfl) fun f1 => ?_
 iterate 8 refine z ?_
 refine ok_loop (ι := Nat) (fun zz => ⟨[(0, .one (.key 0)), (1, .one (.dv [] (.int .i64 (k + (wSum cField (x.take zz) : Int))))), (4, .one (.dv [] (.int .i64 (0)))), (5, .one (.dv [] (.int .i64 ((zz : Int)))))], [], [(0, some ⟨true, 64, 2, x.length, (mkL mkField cField (x.take zz) k).flatMap eField ++ (x.drop zz).flatMap eField⟩)]⟩) (fun zz => zz ≤ x.length) (fun zz => x.length - zz) (0) ?_ (weak_sub ⟨rfl, (eqSlotI (by simp [wSum])), rfl, rfl, trivial⟩ trivial ⟨rfl, trivial⟩ rfl) (fun zz hx => ?_)
 ·exact Nat.zero_le _
 obtain ⟨j, rfl⟩ : ∃ v, v = zz := ⟨_, rfl⟩
 replace hx : j ≤ x.length := hx
 have hw := fun h => wSum_succ cField x j h
 show Ok _ _ _ _ _ (⟨[(0, .one (.key 0)), (1, .one (.dv [] (.int .i64 (k + (wSum cField (x.take j) : Int))))), (4, .one (.dv [] (.int .i64 (0)))), (5, .one (.dv [] (.int .i64 ((j : Int)))))], [], [(0, some ⟨true, 64, 2, x.length, (mkL mkField cField (x.take j) k).flatMap eField ++ (x.drop j).flatMap eField⟩)]⟩ : St)
 iterate 4 refine z ?_
 refine yO rfl rfl (pu_lenKn (n := (x.length)) hT rfl rfl (ev_tmp rfl) rfl rfl) rfl ?_
 iterate 2 refine z ?_
 refine yQ rfl (fun c1 => ?_) fun c1 => ?_
 ·skip
  have d1 := of_decide_eq_true c1
  have hj : j < x.length := by omega
  obtain ⟨hw1, hw2⟩ := hw hj
  have hc : cField (x.getD (j : Int).toNat default) = 2 := rfl
  refine ok_kcs (k := 0) (cs' := mid ((mkL mkField cField (x.take j) k).flatMap eField) [.str ((x.getD (j : Int).toNat default).1), .int .i64 ((x.getD (j : Int).toNat default).2)] ((x.drop (j + 1)).flatMap eField)) rfl (mk_open hj) ?_
  iterate 8 refine z ?_
  refine zC Try.call18 ?_ (hf := ok_laws_markText (by omega))
  refine yO rfl rfl (pu_indexK (i := j) hT rfl rfl rfl (ev_tmp rfl) rfl (ev_tmp rfl) rfl (by show _ < (x.length); omega)) rfl ?_
  refine z ?_
  refine o_storeE (js := []) (cs := mid ((mkL mkField cField (x.take j) k).flatMap eField) [.str (mText (k + (wSum cField (x.take j) : Int))), .int .i64 ((x.getD (j : Int).toNat default).2)] ((x.drop (j + 1)).flatMap eField)) hT rfl rfl rfl rfl (ev_tmp rfl) (ev_tmp rfl) rfl rfl rfl rfl (ow_cons' (ow_dv rfl) ow_nil rfl) (by decide) (by decide) rfl (le_mid (off := (j * 2 + 0)) (n := 1) (j := 0) (mk_pre (sz := 2) (fun _ => rfl) (Nat.le_of_lt hj)) (by omega) (Nat.le_of_ble_eq_true rfl)) (setR_mid (off := (j * 2 + 0)) (j := 0) (mk_pre (sz := 2) (fun _ => rfl) (Nat.le_of_lt hj)) (by omega) rfl (Nat.le_of_ble_eq_true rfl)) ?_
  simp only [killT, killB, SV.kill, CV.kill, kk, Nat.reduceBEq]
  iterate 10 refine z ?_
  refine yO rfl rfl (pu_indexK (i := j) hT rfl rfl rfl (ev_tmp rfl) rfl (ev_tmp rfl) rfl (by show _ < (x.length); omega)) rfl ?_
  refine z ?_
  refine o_storeE (js := []) (cs := mid ((mkL mkField cField (x.take j) k).flatMap eField) [.str (mText (k + (wSum cField (x.take j) : Int))), .int .i64 ((k + (wSum cField (x.take j) : Int)) + (1))] ((x.drop (j + 1)).flatMap eField)) hT rfl rfl rfl rfl (ev_tmp rfl) (ev_tmp rfl) rfl rfl rfl rfl (ow_cons' (ow_dv rfl) ow_nil rfl) (by decide) (by decide) rfl (le_mid (off := (j * 2 + 1)) (n := 1) (j := 1) (mk_pre (sz := 2) (fun _ => rfl) (Nat.le_of_lt hj)) (by omega) (Nat.le_of_ble_eq_true rfl)) (setR_mid (off := (j * 2 + 1)) (j := 1) (mk_pre (sz := 2) (fun _ => rfl) (Nat.le_of_lt hj)) (by omega) rfl (Nat.le_of_ble_eq_true rfl)) ?_
  simp only [killT, killB, SV.kill, CV.kill, kk, Nat.reduceBEq]
  refine z ?_
  refine ok_region ?_
  iterate 3 refine z ?_
  refine ops_nil ?_
  iterate 2 refine z ?_
  refine ok_region ?_
  iterate 4 refine z ?_
  refine ⟨j + 1, ?_, ?_, weak_sub ⟨rfl, (eqSlotI (by omega)), rfl, rfl, trivial⟩ trivial ⟨(congrArg (fun cs => some (some (KC.mk true 64 2 x.length cs))) (mk_close (by omega) (by rfl))), trivial⟩ rfl⟩
  ·omega
  ·omega
 ·skip
  have d1 := of_decide_eq_false c1
  iterate 9 refine z ?_
  refine ok_weak (σ' := ⟨[(4, .one (.dv [] (.int .i64 (k + (wSum cField (x.take j) : Int)))))], [], [(0, some (kcOf true (fieldsD (mkL mkField cField x k))))]⟩) (weak_sub ⟨rfl, trivial⟩ trivial ⟨(mk_fin (by omega)), trivial⟩ rfl) ?_
  refine z ?_
  refine fin1 (res_tmp rfl) ⟨eqI ?_, w1_ok rfl⟩
  have hq := wSum_all cField x j (by omega); omega
end Go.Proofs.Ytppjnelanomidaa

namespace Go.Proofs.Ytppjnelanomidaa
open Go.RowKit
open Go.Proofs
set_option linter.unusedVariables false
set_option linter.unusedSimpArgs false
def mkOp (x : OpT) (k : Int) : OpT := (k, mText ((k) + (1)), (((k) + (1)) + (1), (((k) + (1)) + (1)) + (1), mText (((((k) + (1)) + (1)) + (1)) + (1))), mkL mkField cField (x.2.2.2.1) ((((((k) + (1)) + (1)) + (1)) + (1)) + (1)), mText (((((((k) + (1)) + (1)) + (1)) + (1)) + (1)) + (wSum cField (x.2.2.2.1) : Int)))
def cOp (x : OpT) : Nat := 6 + wSum cField (x.2.2.2.1)
theorem cOp_le (x : OpT) : cOp x ≤ 8 * (1 + wOp x) := by
 have h5 := wSum_bound cField_le (x.2.2.2.1)
 simp only [cOp, wOp, wKey, wRecord]
 omega
theorem ok_laws_markOpS {x : List (OpT)} {k : Int} (h0 : 0 ≤ k) (h1 : k + (wSum cOp x : Int) ≤ 4611686018427387904) : WFn Try.prog 10 [.one (.key 0), .one (.dv [] (.int .i64 (k)))] (.one (.dv [] (.int .i64 (k + (wSum cOp x : Int))))) [(0, kcOf true (.sl 46 7 (x.length) (x.flatMap eOp)))] [(0, kcOf true (opsD (mkL mkOp cOp x k)))] := by
 refine ⟨fn_intro Try.func10 rfl Try.ntmps10 Try.results10 rfl (fun C => ?_)⟩
 have hln : x.length ≤ wSum cOp x := wSum_ge (fun _ => by simp only [cOp]; omega) x
 refine ok_fact (x := .tmp 1) (ev_tmp rfl) fun f1 => ?_
 iterate 8 refine z ?_
 refine ok_loop (ι := Nat) (fun zz => ⟨[(0, .one (.key 0)), (1, .one (.dv [] (.int .i64 (k + (wSum cOp (x.take zz) : Int))))), (4, .one (.dv [] (.int .i64 (0)))), (5, .one (.dv [] (.int .i64 ((zz : Int)))))], [], [(0, some ⟨true, 46, 7, x.length, (mkL mkOp cOp (x.take zz) k).flatMap eOp ++ (x.drop zz).flatMap eOp⟩)]⟩) (fun zz => zz ≤ x.length) (fun zz => x.length - zz) (0) ?_ (weak_sub ⟨rfl, (eqSlotI (by simp [wSum])), rfl, rfl, trivial⟩ trivial ⟨rfl, trivial⟩ rfl) (fun zz hx => ?_)
 ·exact Nat.zero_le _
 obtain ⟨j, rfl⟩ : ∃ v, v = zz := ⟨_, rfl⟩
 replace hx : j ≤ x.length := hx
 have hw := fun h => wSum_succ cOp x j h
 show Ok _ _ _ _ _ (⟨[(0, .one (.key 0)), (1, .one (.dv [] (.int .i64 (k + (wSum cOp (x.take j) : Int))))), (4, .one (.dv [] (.int .i64 (0)))), (5, .one (.dv [] (.int .i64 ((j : Int)))))], [], [(0, some ⟨true, 46, 7, x.length, (mkL mkOp cOp (x.take j) k).flatMap eOp ++ (x.drop j).flatMap eOp⟩)]⟩ : St)
 iterate 4 refine z ?_
 refine yO rfl rfl (pu_lenKn (n := (x.length)) hT rfl rfl (ev_tmp rfl) rfl rfl) rfl ?_
 iterate 2 refine z ?_
 refine yQ rfl (fun c1 => ?_) fun c1 => ?_
 ·skip
  have d1 := of_decide_eq_true c1
  have hj : j < x.length := by omega
  obtain ⟨hw1, hw2⟩ := hw hj
  have hc : cOp (x.getD (j : Int).toNat default) = 6 + wSum cField ((x.getD (j : Int).toNat default).2.2.2.1) := rfl
  refine ok_kcs (k := 0) (cs' := mid ((mkL mkOp cOp (x.take j) k).flatMap eOp) [.int .i64 ((x.getD (j : Int).toNat default).1), .str ((x.getD (j : Int).toNat default).2.1), .int .i64 ((x.getD (j : Int).toNat default).2.2.1.1), .int .i64 ((x.getD (j : Int).toNat default).2.2.1.2.1), .str ((x.getD (j : Int).toNat default).2.2.1.2.2), fieldsD ((x.getD (j : Int).toNat default).2.2.2.1), .str ((x.getD (j : Int).toNat default).2.2.2.2)] ((x.drop (j + 1)).flatMap eOp)) rfl (mk_open hj) ?_
  iterate 8 refine z ?_
  refine yO rfl rfl (pu_indexK (i := j) hT rfl rfl rfl (ev_tmp rfl) rfl (ev_tmp rfl) rfl (by show _ < (x.length); omega)) rfl ?_
  refine z ?_
  refine o_storeE (js := []) (cs := mid ((mkL mkOp cOp (x.take j) k).flatMap eOp) [.int .i64 (k + (wSum cOp (x.take j) : Int)), .str ((x.getD (j : Int).toNat default).2.1), .int .i64 ((x.getD (j : Int).toNat default).2.2.1.1), .int .i64 ((x.getD (j : Int).toNat default).2.2.1.2.1), .str ((x.getD (j : Int).toNat default).2.2.1.2.2), fieldsD ((x.getD (j : Int).toNat default).2.2.2.1), .str ((x.getD (j : Int).toNat default).2.2.2.2)] ((x.drop (j + 1)).flatMap eOp)) hT rfl rfl rfl rfl (ev_tmp rfl) (ev_tmp rfl) rfl rfl rfl rfl (ow_cons' (ow_dv rfl) ow_nil rfl) (by decide) (by decide) rfl (le_mid (off := (j * 7 + 0)) (n := 1) (j := 0) (mk_pre (sz := 7) (fun _ => rfl) (Nat.le_of_lt hj)) (by omega) (Nat.le_of_ble_eq_true rfl)) (setR_mid (off := (j * 7 + 0)) (j := 0) (mk_pre (sz := 7) (fun _ => rfl) (Nat.le_of_lt hj)) (by omega) rfl (Nat.le_of_ble_eq_true rfl)) ?_
  simp only [killT, killB, SV.kill, CV.kill, kk, Nat.reduceBEq]
  iterate 10 refine z ?_
  refine zC Try.call18 ?_ (hf := ok_laws_markText (by omega))
  refine yO rfl rfl (pu_indexK (i := j) hT rfl rfl rfl (ev_tmp rfl) rfl (ev_tmp rfl) rfl (by show _ < (x.length); omega)) rfl ?_
  refine z ?_
  refine o_storeE (js := []) (cs := mid ((mkL mkOp cOp (x.take j) k).flatMap eOp) [.int .i64 (k + (wSum cOp (x.take j) : Int)), .str (mText ((k + (wSum cOp (x.take j) : Int)) + (1))), .int .i64 ((x.getD (j : Int).toNat default).2.2.1.1), .int .i64 ((x.getD (j : Int).toNat default).2.2.1.2.1), .str ((x.getD (j : Int).toNat default).2.2.1.2.2), fieldsD ((x.getD (j : Int).toNat default).2.2.2.1), .str ((x.getD (j : Int).toNat default).2.2.2.2)] ((x.drop (j + 1)).flatMap eOp)) hT rfl rfl rfl rfl (ev_tmp rfl) (ev_tmp rfl) rfl rfl rfl rfl (ow_cons' (ow_dv rfl) ow_nil rfl) (by decide) (by decide) rfl (le_mid (off := (j * 7 + 1)) (n := 1) (j := 1) (mk_pre (sz := 7) (fun _ => rfl) (Nat.le_of_lt hj)) (by omega) (Nat.le_of_ble_eq_true rfl)) (setR_mid (off := (j * 7 + 1)) (j := 1) (mk_pre (sz := 7) (fun _ => rfl) (Nat.le_of_lt hj)) (by omega) rfl (Nat.le_of_ble_eq_true rfl)) ?_
  simp only [killT, killB, SV.kill, CV.kill, kk, Nat.reduceBEq]
  iterate 10 refine z ?_
  refine yO rfl rfl (pu_indexK (i := j) hT rfl rfl rfl (ev_tmp rfl) rfl (ev_tmp rfl) rfl (by show _ < (x.length); omega)) rfl ?_
  iterate 2 refine z ?_
  refine o_storeE (js := []) (cs := mid ((mkL mkOp cOp (x.take j) k).flatMap eOp) [.int .i64 (k + (wSum cOp (x.take j) : Int)), .str (mText ((k + (wSum cOp (x.take j) : Int)) + (1))), .int .i64 (((k + (wSum cOp (x.take j) : Int)) + (1)) + (1)), .int .i64 ((x.getD (j : Int).toNat default).2.2.1.2.1), .str ((x.getD (j : Int).toNat default).2.2.1.2.2), fieldsD ((x.getD (j : Int).toNat default).2.2.2.1), .str ((x.getD (j : Int).toNat default).2.2.2.2)] ((x.drop (j + 1)).flatMap eOp)) hT rfl rfl rfl rfl (ev_tmp rfl) (ev_tmp rfl) rfl rfl rfl rfl (ow_cons' (ow_dv rfl) ow_nil rfl) (by decide) (by decide) rfl (le_mid (off := ((j * 7 + 2) + 0)) (n := 1) (j := 2) (mk_pre (sz := 7) (fun _ => rfl) (Nat.le_of_lt hj)) (by omega) (Nat.le_of_ble_eq_true rfl)) (setR_mid (off := ((j * 7 + 2) + 0)) (j := 2) (mk_pre (sz := 7) (fun _ => rfl) (Nat.le_of_lt hj)) (by omega) rfl (Nat.le_of_ble_eq_true rfl)) ?_
  simp only [killT, killB, SV.kill, CV.kill, kk, Nat.reduceBEq]
  iterate 10 refine z ?_
  refine yO rfl rfl (pu_indexK (i := j) hT rfl rfl rfl (ev_tmp rfl) rfl (ev_tmp rfl) rfl (by show _ < (x.length); omega)) rfl ?_
  iterate 2 refine z ?_
  refine o_storeE (js := []) (cs := mid ((mkL mkOp cOp (x.take j) k).flatMap eOp) [.int .i64 (k + (wSum cOp (x.take j) : Int)), .str (mText ((k + (wSum cOp (x.take j) : Int)) + (1))), .int .i64 (((k + (wSum cOp (x.take j) : Int)) + (1)) + (1)), .int .i64 ((((k + (wSum cOp (x.take j) : Int)) + (1)) + (1)) + (1)), .str ((x.getD (j : Int).toNat default).2.2.1.2.2), fieldsD ((x.getD (j : Int).toNat default).2.2.2.1), .str ((x.getD (j : Int).toNat default).2.2.2.2)] ((x.drop (j + 1)).flatMap eOp)) hT rfl rfl rfl rfl (ev_tmp rfl) (ev_tmp rfl) rfl rfl rfl rfl (ow_cons' (ow_dv rfl) ow_nil rfl) (by decide) (by decide) rfl (le_mid (off := ((j * 7 + 2) + 1)) (n := 1) (j := 3) (mk_pre (sz := 7) (fun _ => rfl) (Nat.le_of_lt hj)) (by omega) (Nat.le_of_ble_eq_true rfl)) (setR_mid (off := ((j * 7 + 2) + 1)) (j := 3) (mk_pre (sz := 7) (fun _ => rfl) (Nat.le_of_lt hj)) (by omega) rfl (Nat.le_of_ble_eq_true rfl)) ?_
  simp only [killT, killB, SV.kill, CV.kill, kk, Nat.reduceBEq]
  iterate 10 refine z ?_
  refine zC Try.call18 ?_ (hf := ok_laws_markText (by omega))
  refine yO rfl rfl (pu_indexK (i := j) hT rfl rfl rfl (ev_tmp rfl) rfl (ev_tmp rfl) rfl (by show _ < (x.length); omega)) rfl ?_
  iterate 2 refine z ?_
  refine o_storeE (js := []) (cs := mid ((mkL mkOp cOp (x.take j) k).flatMap eOp) [.int .i64 (k + (wSum cOp (x.take j) : Int)), .str (mText ((k + (wSum cOp (x.take j) : Int)) + (1))), .int .i64 (((k + (wSum cOp (x.take j) : Int)) + (1)) + (1)), .int .i64 ((((k + (wSum cOp (x.take j) : Int)) + (1)) + (1)) + (1)), .str (mText (((((k + (wSum cOp (x.take j) : Int)) + (1)) + (1)) + (1)) + (1))), fieldsD ((x.getD (j : Int).toNat default).2.2.2.1), .str ((x.getD (j : Int).toNat default).2.2.2.2)] ((x.drop (j + 1)).flatMap eOp)) hT rfl rfl rfl rfl (ev_tmp rfl) (ev_tmp rfl) rfl rfl rfl rfl (ow_cons' (ow_dv rfl) ow_nil rfl) (by decide) (by decide) rfl (le_mid (off := ((j * 7 + 2) + 2)) (n := 1) (j := 4) (mk_pre (sz := 7) (fun _ => rfl) (Nat.le_of_lt hj)) (by omega) (Nat.le_of_ble_eq_true rfl)) (setR_mid (off := ((j * 7 + 2) + 2)) (j := 4) (mk_pre (sz := 7) (fun _ => rfl) (Nat.le_of_lt hj)) (by omega) rfl (Nat.le_of_ble_eq_true rfl)) ?_
  simp only [killT, killB, SV.kill, CV.kill, kk, Nat.reduceBEq]
  iterate 9 refine z ?_
  refine yO rfl rfl (pu_indexK (i := j) hT rfl rfl rfl (ev_tmp rfl) rfl (ev_tmp rfl) rfl (by show _ < (x.length); omega)) rfl ?_
  iterate 2 refine z ?_
  refine yO rfl rfl (pu_loadE1 hT rfl rfl (ev_tmp rfl) rfl (get_mid (off := ((j * 7 + 5) + 0)) (j := 5) (mk_pre (sz := 7) (fun _ => rfl) (Nat.le_of_lt hj)) (by omega) rfl)) rfl ?_
  refine z ?_
  refine o_callN (t := 57) (ccs := mid ((mkL mkOp cOp (x.take j) k).flatMap eOp) [.int .i64 (k + (wSum cOp (x.take j) : Int)), .str (mText ((k + (wSum cOp (x.take j) : Int)) + (1))), .int .i64 (((k + (wSum cOp (x.take j) : Int)) + (1)) + (1)), .int .i64 ((((k + (wSum cOp (x.take j) : Int)) + (1)) + (1)) + (1)), .str (mText (((((k + (wSum cOp (x.take j) : Int)) + (1)) + (1)) + (1)) + (1))), fieldsD (mkL mkField cField ((x.getD (j : Int).toNat default).2.2.2.1) ((((((k + (wSum cOp (x.take j) : Int)) + (1)) + (1)) + (1)) + (1)) + (1))), .str ((x.getD (j : Int).toNat default).2.2.2.2)] ((x.drop (j + 1)).flatMap eOp)) 5059 rfl rfl rfl Try.call19 (ok_laws_markFieldS (by omega) (by omega)) rfl rfl (get_mid (off := ((j * 7 + 5) + 0)) (j := 5) (mk_pre (sz := 7) (fun _ => rfl) (Nat.le_of_lt hj)) (by omega) rfl) rfl (aw_cons (ev_tmp rfl) (aw_one (awc_key rfl)) (aw_cons (ev_tmp rfl) (aw_one (awc_dv rfl)) aw_nil)) rfl rfl (set_mid (off := ((j * 7 + 5) + 0)) (j := 5) (mk_pre (sz := 7) (fun _ => rfl) (Nat.le_of_lt hj)) (by omega) rfl (Nat.lt_of_lt_of_le (Nat.lt_succ_self _) (Nat.le_of_ble_eq_true rfl))) ?_
  simp only [killT, killB, SV.kill, CV.kill, kk, Nat.reduceBEq]
  iterate 6 refine z ?_
  refine zC Try.call18 ?_ (hf := ok_laws_markText (by omega))
  refine yO rfl rfl (pu_indexK (i := j) hT rfl rfl rfl (ev_tmp rfl) rfl (ev_tmp rfl) rfl (by show _ < (x.length); omega)) rfl ?_
  refine z ?_
  refine o_storeE (js := []) (cs := mid ((mkL mkOp cOp (x.take j) k).flatMap eOp) [.int .i64 (k + (wSum cOp (x.take j) : Int)), .str (mText ((k + (wSum cOp (x.take j) : Int)) + (1))), .int .i64 (((k + (wSum cOp (x.take j) : Int)) + (1)) + (1)), .int .i64 ((((k + (wSum cOp (x.take j) : Int)) + (1)) + (1)) + (1)), .str (mText (((((k + (wSum cOp (x.take j) : Int)) + (1)) + (1)) + (1)) + (1))), fieldsD (mkL mkField cField ((x.getD (j : Int).toNat default).2.2.2.1) ((((((k + (wSum cOp (x.take j) : Int)) + (1)) + (1)) + (1)) + (1)) + (1))), .str (mText (((((((k + (wSum cOp (x.take j) : Int)) + (1)) + (1)) + (1)) + (1)) + (1)) + (wSum cField ((x.getD (j : Int).toNat default).2.2.2.1) : Int)))] ((x.drop (j + 1)).flatMap eOp)) hT rfl rfl rfl rfl (ev_tmp rfl) (ev_tmp rfl) rfl rfl rfl rfl (ow_cons' (ow_dv rfl) ow_nil rfl) (by decide) (by decide) rfl (le_mid (off := (j * 7 + 6)) (n := 1) (j := 6) (mk_pre (sz := 7) (fun _ => rfl) (Nat.le_of_lt hj)) (by omega) (Nat.le_of_ble_eq_true rfl)) (setR_mid (off := (j * 7 + 6)) (j := 6) (mk_pre (sz := 7) (fun _ => rfl) (Nat.le_of_lt hj)) (by omega) rfl (Nat.le_of_ble_eq_true rfl)) ?_
  simp only [killT, killB, SV.kill, CV.kill, kk, Nat.reduceBEq]
  refine z ?_
  refine ok_region ?_
  iterate 3 refine z ?_
  refine ops_nil ?_
  iterate 2 refine z ?_
  refine ok_region ?_
  iterate 4 refine z ?_
  refine ⟨j + 1, ?_, ?_, weak_sub ⟨rfl, (eqSlotI (by omega)), rfl, rfl, trivial⟩ trivial ⟨(congrArg (fun cs => some (some (KC.mk true 46 7 x.length cs))) (mk_close (by omega) (by rfl))), trivial⟩ rfl⟩
  ·omega
  ·omega
 ·skip
  have d1 := of_decide_eq_false c1
  iterate 9 refine z ?_
  refine ok_weak (σ' := ⟨[(4, .one (.dv [] (.int .i64 (k + (wSum cOp (x.take j) : Int)))))], [], [(0, some (kcOf true (opsD (mkL mkOp cOp x k))))]⟩) (weak_sub ⟨rfl, trivial⟩ trivial ⟨(mk_fin (by omega)), trivial⟩ rfl) ?_
  refine z ?_
  refine fin1 (res_tmp rfl) ⟨eqI ?_, w1_ok rfl⟩
  have hq := wSum_all cOp x j (by omega); omega
end Go.Proofs.Ytppjnelanomidaa

namespace Go.Proofs.Ytppjnelanomidaa
open Go.RowKit
open Go.Proofs
set_option linter.unusedVariables false
set_option linter.unusedSimpArgs false

theorem bl_irr : ∀ x : List UInt8, Op.bytesLess x x = false
 | [] => rfl
 | a :: x => by simp [Op.bytesLess, bl_irr x]
theorem bl_trans : ∀ x y z : List UInt8, Op.bytesLess x y = true → Op.bytesLess y z = true → Op.bytesLess x z = true
 | x, [], z, h, _ => by cases x <;> simp [Op.bytesLess] at h
 | x, b :: y, [], _, h => by simp [Op.bytesLess] at h
 | [], b :: y, c :: z, _, _ => rfl
 | a :: x, b :: y, c :: z, h1, h2 => by
  simp only [Op.bytesLess, Bool.or_eq_true, decide_eq_true_eq, Bool.and_eq_true, beq_iff_eq] at h1 h2 ⊢
  rcases h1 with h1 | ⟨rfl, h1⟩
  ·rcases h2 with h2 | ⟨rfl, h2⟩
   ·exact .inl (UInt8.lt_trans h1 h2)
   ·exact .inl h1
  ·rcases h2 with h2 | ⟨rfl, h2⟩
   ·exact .inl h2
   ·exact .inr ⟨rfl, bl_trans x y z h1 h2⟩
end Go.Proofs.Ytppjnelanomidaa

namespace Go.Proofs.Ytppjnelanomidaa
open Go.RowKit
open Go.Proofs
set_option linter.unusedVariables false
set_option linter.unusedSimpArgs false

def scIns : List Str → Str → List Str
 | [], n => [n]
 | x :: xs, n => if sLt x n then x :: scIns xs n else if sEq x n then x :: xs else n :: x :: xs
def scopeL (l : List OpT) : List Str := l.foldl (fun out o => scIns out o.2.1) []
theorem scIns_len {n : Str} : ∀ {l : List Str}, (scIns l n).length ≤ l.length + 1
 | [] => Nat.le_refl _
 | x :: xs => by
  have ih := scIns_len (n := n) (l := xs)
  rw [scIns]
  split
  ·rw [List.length_cons, List.length_cons]; omega
  ·split
   ·omega
   ·exact Nat.le_refl _
theorem scope_len (l : List OpT) : (scopeL l).length ≤ l.length := by
 have key : ∀ (l : List OpT) (out : List Str), (l.foldl (fun out o => scIns out o.2.1) out).length ≤ out.length + l.length := by
  intro l
  induction l with
  | nil => exact fun out => Nat.le_refl _
  | cons o l ih =>
   intro out
   have h1 := ih (scIns out o.2.1)
   have h2 := scIns_len (n := o.2.1) (l := out)
   rw [List.foldl_cons, List.length_cons]; omega
 have := key l []
 rw [List.length_nil, Nat.zero_add] at this
 exact this
theorem sEqI {a b : Str} : sEq a b = true ↔ a = b := by
 unfold sEq
 rw [beq_iff_eq]
 constructor
 ·intro h
  rw [toList_data, toList_data] at h
  exact ByteArray.ext (Array.toList_inj.1 h)
 ·intro h; rw [h]
theorem scIns_mem {n m : Str} : ∀ {l : List Str}, m ∈ scIns l n ↔ m = n ∨ m ∈ l
 | [] => by simp [scIns]
 | x :: xs => by
  have ih := scIns_mem (n := n) (m := m) (l := xs)
  rw [scIns]
  split
  ·simp only [List.mem_cons, ih]
   constructor
   ·rintro (h | h | h)
    ·exact .inr (.inl h)
    ·exact .inl h
    ·exact .inr (.inr h)
   ·rintro (h | h | h)
    ·exact .inr (.inl h)
    ·exact .inl h
    ·exact .inr (.inr h)
  ·split
   ·rename_i h1 h2
    have e := sEqI.1 h2
    simp only [List.mem_cons]
    constructor
    ·exact fun h => .inr h
    ·rintro (h | h)
     ·exact .inl (h.trans e.symm)
     ·exact h
   ·simp only [List.mem_cons]
theorem scope_mem {m : Str} (l : List OpT) : m ∈ scopeL l ↔ ∃ o ∈ l, o.2.1 = m := by
 have key : ∀ (l : List OpT) (out : List Str), m ∈ l.foldl (fun out o => scIns out o.2.1) out ↔ (∃ o ∈ l, o.2.1 = m) ∨ m ∈ out := by
  intro l
  induction l with
  | nil => intro out; simp
  | cons o l ih =>
   intro out
   rw [List.foldl_cons, ih, scIns_mem]
   simp only [List.mem_cons]
   constructor
   ·rintro (⟨p, hp, e⟩ | e | h)
    ·exact .inl ⟨p, .inr hp, e⟩
    ·exact .inl ⟨o, .inl rfl, e.symm⟩
    ·exact .inr h
   ·rintro (⟨p, hp | hp, e⟩ | h)
    ·subst hp; exact .inr (.inl e.symm)
    ·exact .inl ⟨p, hp, e⟩
    ·exact .inr (.inr h)
 have := key l []
 simpa [scopeL] using this

def bl (x y : List UInt8) : Prop := Op.bytesLess x y = true
theorem bl_tri (x y : List UInt8) : bl x y ∨ x = y ∨ bl y x := by
 have h := bl_total x y
 unfold bl
 cases h1 : Op.bytesLess x y with
 | true => exact .inl rfl
 | false =>
  cases h2 : Op.bytesLess y x with
  | true => exact .inr (.inr rfl)
  | false =>
   rw [h1, h2] at h
   exact .inr (.inl (by simpa using h))
theorem srt_uniq : ∀ (x y : List (List UInt8)), x.Pairwise bl → y.Pairwise bl → (∀ z, z ∈ x ↔ z ∈ y) → x = y
 | [], [], _, _, _ => rfl
 | [], b :: y, _, _, h => absurd ((h b).2 (by simp)) (by simp)
 | a :: x, [], _, _, h => absurd ((h a).1 (by simp)) (by simp)
 | a :: x, b :: y, hx, hy, h => by
  obtain ⟨hx1, hx2⟩ := List.pairwise_cons.1 hx
  obtain ⟨hy1, hy2⟩ := List.pairwise_cons.1 hy
  have irr : ∀ z, ¬ bl z z := fun z hz => by unfold bl at hz; rw [bl_irr] at hz; cases hz
  have e : a = b := by
   rcases List.mem_cons.1 ((h a).1 (by simp)) with h1 | h1
   ·exact h1
   ·rcases List.mem_cons.1 ((h b).2 (by simp)) with h2 | h2
    ·exact h2.symm
    ·exact absurd (bl_trans _ _ _ (hy1 a h1) (hx1 b h2)) (irr b)
  subst e
  rw [srt_uniq x y hx2 hy2 (fun z => ?_)]
  constructor
  ·intro hz
   rcases List.mem_cons.1 ((h z).1 (by simp [hz])) with h1 | h1
   ·rw [h1] at hz; exact absurd (hx1 a hz) (irr a)
   ·exact h1
  ·intro hz
   rcases List.mem_cons.1 ((h z).2 (by simp [hz])) with h1 | h1
   ·rw [h1] at hz; exact absurd (hy1 a hz) (irr a)
   ·exact h1
theorem comp_up {d : Array (List UInt8)} (hs : ∀ i, i + 1 < d.size → ¬ bl d[i + 1]! d[i]!) : ∀ m, m ≤ d.size → (Lib.compactUpTo d m).Pairwise bl ∧ (∀ z, z ∈ Lib.compactUpTo d m ↔ ∃ j, j < m ∧ z = d[j]!) ∧ (0 < m → ∀ z ∈ Lib.compactUpTo d m, z = d[m - 1]! ∨ bl z d[m - 1]!)
 | 0, _ => ⟨by simp [Lib.compactUpTo], by simp [Lib.compactUpTo], fun h => by omega⟩
 | m + 1, hm => by
  obtain ⟨i1, i2, i3⟩ := comp_up hs m (by omega)
  rw [Lib.compactUpTo_succ, Nat.add_sub_cancel]
  by_cases hk : Lib.keeps d m = true
  ·rw [if_pos hk]
   have hlt : ∀ z ∈ Lib.compactUpTo d m, bl z d[m]! := fun z hz => by
    have hm0 : 0 < m := by
     obtain ⟨j, hj, _⟩ := (i2 z).1 hz; omega
    have hne : d[m]! ≠ d[m - 1]! := by
     unfold Lib.keeps at hk
     rcases of_decide_eq_true hk with h | h
     ·omega
     ·exact h
    have hb : bl d[m - 1]! d[m]! := by
     rcases bl_tri d[m - 1]! d[m]! with h | h | h
     ·exact h
     ·exact absurd h.symm hne
     ·have := hs (m - 1) (by omega)
      rw [show m - 1 + 1 = m by omega] at this
      exact absurd h this
    rcases i3 hm0 z hz with h | h
    ·rw [h]; exact hb
    ·exact bl_trans _ _ _ h hb
   refine ⟨List.pairwise_append.2 ⟨i1, by simp, fun a ha b hb => ?_⟩, fun z => ?_, fun _ z hz => ?_⟩
   ·rw [List.mem_singleton.1 hb]; exact hlt a ha
   ·rw [List.mem_append, i2, List.mem_singleton]
    constructor
    ·rintro (⟨j, hj, e⟩ | e)
     ·exact ⟨j, by omega, e⟩
     ·exact ⟨m, by omega, e⟩
    ·rintro ⟨j, hj, e⟩
     by_cases h : j = m
     ·subst h; exact .inr e
     ·exact .inl ⟨j, by omega, e⟩
   ·rcases List.mem_append.1 hz with h | h
    ·exact .inr (hlt z h)
    ·exact .inl (List.mem_singleton.1 h)
  ·rw [if_neg hk, List.append_nil]
   have hk' : ¬ m = 0 ∧ d[m]! = d[m - 1]! := by
    unfold Lib.keeps at hk
    simp only [decide_eq_true_eq, not_or, Classical.not_not] at hk
    exact hk
   refine ⟨i1, fun z => ?_, fun _ z hz => ?_⟩
   ·rw [i2]
    constructor
    ·rintro ⟨j, hj, e⟩; exact ⟨j, by omega, e⟩
    ·rintro ⟨j, hj, e⟩
     by_cases h : j = m
     ·subst h; exact ⟨j - 1, by omega, by rw [e, hk'.2]⟩
     ·exact ⟨j, by omega, e⟩
   ·rw [hk'.2]; exact i3 (by omega) z hz
theorem comp_srt (zs : List (List UInt8)) : (Lib.compact (zs.mergeSort fun x y => decide (x ≤ y))).Pairwise bl ∧ ∀ z, z ∈ Lib.compact (zs.mergeSort fun x y => decide (x ≤ y)) ↔ z ∈ zs := by
 have hle : ∀ x y : List UInt8, decide (x ≤ y) = !Op.bytesLess y x := fun x y => by
  rw [bytesLess_eq]
  by_cases h : y < x
  ·rw [decide_eq_true h, decide_eq_false (fun h2 : x ≤ y => h2 h)]; rfl
  ·rw [decide_eq_false h, decide_eq_true (show x ≤ y from h)]; rfl
 have hp : (zs.mergeSort fun x y => decide (x ≤ y)).Pairwise (fun x y => decide (x ≤ y) = true) := by
  refine List.pairwise_mergeSort (fun a b c h1 h2 => ?_) (fun a b => ?_) zs
  ·rw [hle] at h1 h2 ⊢
   simp only [Bool.not_eq_true'] at h1 h2 ⊢
   cases h3 : Op.bytesLess c a with
   | false => rfl
   | true =>
    exfalso
    rcases bl_tri a b with h | h | h
    ·have := bl_trans _ _ _ h3 h
     rw [this] at h2; cases h2
    ·subst h; rw [h3] at h2; cases h2
    ·unfold bl at h; rw [h] at h1; cases h1
  ·rw [hle, hle]
   rcases bl_tri a b with h | h | h
   ·cases h2 : Op.bytesLess b a with
    | false => simp
    | true => have := bl_trans _ _ _ h h2; rw [bl_irr] at this; cases this
   ·subst h; simp [bl_irr]
   ·cases h2 : Op.bytesLess a b with
    | false => simp
    | true => have := bl_trans _ _ _ h h2; rw [bl_irr] at this; cases this
 have hm : ∀ z, z ∈ (zs.mergeSort fun x y => decide (x ≤ y)) ↔ z ∈ zs := fun z => List.mem_mergeSort
 generalize (zs.mergeSort fun x y => decide (x ≤ y)) = s at hp hm
 have hs : ∀ i, i + 1 < s.toArray.size → ¬ bl s.toArray[i + 1]! s.toArray[i]! := fun i hi hb => by
  have hi' : i + 1 < s.length := by simpa using hi
  have h := List.pairwise_iff_getElem.1 hp i (i + 1) (by omega) hi' (by omega)
  rw [hle] at h
  rw [getElem!_pos s.toArray (i + 1) hi, getElem!_pos s.toArray i (by omega)] at hb
  simp only [List.getElem_toArray] at hb
  unfold bl at hb
  rw [hb] at h; cases h
 obtain ⟨h1, h2, _⟩ := comp_up hs s.length (by simp)
 refine ⟨h1, fun z => ?_⟩
 rw [← hm z, show Lib.compact s = Lib.compactUpTo s.toArray s.length from rfl, h2]
 constructor
 ·rintro ⟨j, hj, e⟩
  rw [e, getElem!_pos s.toArray j (by simpa using hj)]
  simp
 ·intro hz
  obtain ⟨j, hj, e⟩ := List.mem_iff_getElem.1 hz
  exact ⟨j, hj, by rw [getElem!_pos s.toArray j (by simpa using hj)]; simp [e]⟩
theorem scIns_srt {n : Str} : ∀ {l : List Str}, l.Pairwise (fun a b => sLt a b = true) → (scIns l n).Pairwise (fun a b => sLt a b = true)
 | [], _ => by simp [scIns]
 | x :: xs, h => by
  obtain ⟨h1, h2⟩ := List.pairwise_cons.1 h
  rw [scIns]
  split
  ·rename_i hx
   refine List.pairwise_cons.2 ⟨fun a ha => ?_, scIns_srt h2⟩
   rcases scIns_mem.1 ha with e | e
   ·rw [e]; exact hx
   ·exact h1 a e
  ·split
   ·exact h
   ·rename_i h3 h4
    have hnx : sLt n x = true := by
     have := sLe_eq x n
     rw [Bool.eq_false_iff.2 h3, Bool.eq_false_iff.2 h4] at this
     simpa using this
    refine List.pairwise_cons.2 ⟨fun a ha => ?_, h⟩
    rcases List.mem_cons.1 ha with e | e
    ·rw [e]; exact hnx
    ·exact bl_trans _ _ _ hnx (h1 a e)
theorem scope_srt (l : List OpT) : (scopeL l).Pairwise (fun a b => sLt a b = true) := by
 have key : ∀ (l : List OpT) (out : List Str), out.Pairwise (fun a b => sLt a b = true) → (l.foldl (fun out o => scIns out o.2.1) out).Pairwise (fun a b => sLt a b = true) := by
  intro l
  induction l with
  | nil => exact fun _ h => h
  | cons o l ih => exact fun out h => ih _ (scIns_srt h)
 exact key l [] .nil
theorem scope_eq (l : List OpT) : Lib.compact ((l.map fun o => o.2.1.data.toList).mergeSort fun x y => decide (x ≤ y)) = (scopeL l).map fun s => s.data.toList := by
 obtain ⟨h1, h2⟩ := comp_srt (l.map fun o => o.2.1.data.toList)
 refine srt_uniq _ _ h1 ?_ (fun z => ?_)
 ·rw [List.pairwise_map]
  refine (scope_srt l).imp (fun {a b} h => ?_)
  unfold sLt at h
  rw [toList_data, toList_data] at h
  exact h
 ·rw [h2, List.mem_map, List.mem_map]
  constructor
  ·rintro ⟨o, ho, e⟩; exact ⟨o.2.1, (scope_mem l).2 ⟨o, ho, rfl⟩, e⟩
  ·rintro ⟨s, hs, e⟩
   obtain ⟨o, ho, e2⟩ := (scope_mem l).1 hs
   exact ⟨o, ho, by rw [e2]; exact e⟩
theorem scope_cs (l : List OpT) : cmpS (srtS (l.map fun o => o.2.1)) = scopeL l := by
 unfold cmpS srtS
 rw [map_ofB, List.map_map]
 have := scope_eq l
 rw [show ((fun s : ByteArray => s.data.toList) ∘ fun o : OpT => o.2.1) = fun o : OpT => o.2.1.data.toList from rfl, this, List.map_map]
 rw [show (ofB ∘ fun s : ByteArray => s.data.toList) = id from rfl, List.map_id]

end Go.Proofs.Ytppjnelanomidaa

namespace Go.Proofs.Ytppjnelanomidaa
open Go.RowKit
open Go.Proofs
set_option linter.unusedVariables false
set_option linter.unusedSimpArgs false

theorem nm_take {l : List OpT} {k : Nat} (h : k < l.length) : ((l.take (k + 1)).map fun o => o.2.1) = ((l.take k).map fun o => o.2.1) ++ [(l.getD (k : Int).toNat default).2.1] := by
 rw [List.take_add_one, List.getElem?_eq_getElem h, List.map_append, getD_at h]; rfl

theorem ok_impl_ScopeOf {l : List OpT} (hl : l.length ≤ 1099511627776) : KFn Try.prog 7 [.one (.dv [] (opsD (l)))] (.one (.key 95000)) [(95000, some (kcOf false (strsD (scopeL l))))] := by
 refine ⟨fn_intro Try.func7 rfl Try.ntmps7 Try.results7 rfl (fun C => ?_)⟩
 refine ok_fact (x := .tmp 0) (ev_tmp rfl) fun f0 => ?_
 iterate 4 refine z ?_
 refine o_build0 (k := 95000) hT rfl rfl rfl rfl rfl rfl rfl rfl ?_
 iterate 9 refine z ?_
 refine ok_loop (ι := Nat) (fun zz => ⟨[(2, .one .nil), (3, .one (.key 95000)), (7, .one (.dv [] (opsD (l)))), (8, .one (.dv [] (.int .i64 ((((l)).length : Int))))), (9, .one (.dv [] (.int .i64 ((zz : Int)))))], [], [(95000, some (kcOf false (.sl 9 1 (((l.take zz).map fun o => o.2.1).length) (((l.take zz).map fun o => o.2.1).flatMap eStr))))]⟩) (fun zz => zz ≤ l.length) (fun zz => l.length - zz) (0) ?_ (weak_sub ⟨rfl, rfl, rfl, rfl, rfl, trivial⟩ trivial ⟨rfl, trivial⟩ rfl) (fun zz hx => ?_)
 ·exact Nat.zero_le _
 obtain ⟨k, rfl⟩ : ∃ v, v = zz := ⟨_, rfl⟩
 replace hx : k ≤ l.length := hx
 show Ok _ _ _ _ _ (⟨[(2, .one .nil), (3, .one (.key 95000)), (7, .one (.dv [] (opsD (l)))), (8, .one (.dv [] (.int .i64 ((((l)).length : Int))))), (9, .one (.dv [] (.int .i64 ((k : Int)))))], [], [(95000, some (kcOf false (.sl 9 1 (((l.take k).map fun o => o.2.1).length) (((l.take k).map fun o => o.2.1).flatMap eStr))))]⟩ : St)
 iterate 3 refine z ?_
 refine ok_seq ?_
 refine yQ rfl (fun c1 => ?_) fun c1 => ?_
 ·skip
  have d1 := of_decide_eq_true c1
  have hk2 : k < l.length := by omega
  iterate 10 refine z ?_
  refine ok_region ?_
  iterate 3 refine z ?_
  refine o_build1 (k := 16) (js := []) hT rfl rfl rfl rfl rfl rfl rfl rfl rfl (ev_tmp rfl) rfl rfl (ow_cons' (ow_dv rfl) ow_nil rfl) (by decide) (by decide) rfl rfl ?_
  simp only [killT, killB, SV.kill, CV.kill, kk, Nat.reduceBEq]
  refine o_appK (k := 95000) (j := 16) (cs := ((l.take (k + 1)).map fun o => o.2.1).flatMap eStr) (n := ((l.take (k + 1)).map fun o => o.2.1).length) hT rfl rfl rfl rfl rfl rfl rfl (ev_tmp rfl) rfl rfl rfl (ev_tmp rfl) rfl rfl (by decide) (by dsimp only [kcOf]; rw [List.length_map, List.length_take]; omega) (by dsimp only [kcOf]; rw [List.length_map, List.length_take]; omega) (by rw [nm_take hk2, List.length_append]; rfl) (by rw [nm_take hk2, List.flatMap_append]; rfl) ?_
  simp only [killT, killB, SV.kill, CV.kill, kk, Nat.reduceBEq]
  refine z ?_
  refine ops_nil ?_
  iterate 2 refine z ?_
  refine ok_region ?_
  iterate 3 refine z ?_
  refine ⟨k + 1, ?_, ?_, weak_sub ⟨rfl, rfl, rfl, rfl, rfl, trivial⟩ trivial ⟨rfl, trivial⟩ rfl⟩
  ·omega
  ·omega
 ·skip
  have d1 := of_decide_eq_false c1
  have hk2 : l.take k = l := List.take_of_length_le (by omega)
  rw [hk2]
  iterate 7 refine z ?_
  refine o_sort (k := 95000) (l := (l.map fun o => o.2.1)) (n := (srtS (l.map fun o => o.2.1)).length) (cs := strD (srtS (l.map fun o => o.2.1))) rfl rfl rfl rfl Try.call15 sortOk (ev_tmp rfl) rfl rfl rfl (rfl) (rfl) (by rw [List.length_map]; omega) ((srtS_len _).symm) (rfl) ?_
  simp only [killT, killB, SV.kill, CV.kill, kk, Nat.reduceBEq]
  iterate 3 refine z ?_
  refine o_compact (k := 95000) (l := (srtS (l.map fun o => o.2.1))) (n := (scopeL l).length) (cs := (scopeL l).flatMap eStr) rfl rfl rfl rfl Try.call16 compOk (ev_tmp rfl) rfl rfl rfl (rfl) (rfl) (by rw [srtS_len, List.length_map]; omega) (by rw [scope_cs]) (by rw [scope_cs]; rfl) ?_
  simp only [killT, killB, SV.kill, CV.kill, kk, Nat.reduceBEq]
  iterate 2 refine z ?_
  refine ok_weak (σ' := ⟨[(2, .one (.key 95000))], [], [(95000, some (kcOf false (strsD (scopeL l))))]⟩) (weak_sub ⟨rfl, trivial⟩ trivial ⟨rfl, trivial⟩ rfl) ?_
  refine z ?_
  refine fin1 (res_tmp rfl) ?_
  exact ⟨rfl, rfl⟩

theorem getD_o {o : List Str} {j : Nat} (h : j < o.length) : o.getD (j : Int).toNat default = o[j] := getD_at h
theorem sc_step {o : List Str} {x : Str} {j : Nat} (hj : j < o.length) (h : sLt (o.getD (j : Int).toNat default) x = true) (hp : scIns o x = o.take j ++ scIns (o.drop j) x) : scIns o x = o.take (j + 1) ++ scIns (o.drop (j + 1)) x := by
 rw [getD_o hj] at h
 rw [hp, List.drop_eq_getElem_cons hj, scIns, if_pos h, List.take_add_one, List.getElem?_eq_getElem hj, List.append_assoc]
 rfl
theorem sc_hit {o : List Str} {x : Str} {j : Nat} (hp : scIns o x = o.take j ++ scIns (o.drop j) x) (h1 : (decide ((j : Int) < (o.length : Int)) && sLt (o.getD (j : Int).toNat default) x) = false) (h2 : (decide ((j : Int) < (o.length : Int)) && sEq (o.getD (j : Int).toNat default) x) = true) : scIns o x = o := by
 rw [Bool.and_eq_true, decide_eq_true_eq] at h2
 have hj : j < o.length := by omega
 rw [decide_eq_true (by omega : (j : Int) < (o.length : Int)), Bool.true_and, getD_o hj] at h1
 rw [getD_o hj] at h2
 rw [hp, List.drop_eq_getElem_cons hj, scIns, if_neg (by rw [h1]; decide), if_pos h2.2, ← List.drop_eq_getElem_cons hj, List.take_append_drop]
theorem sc_miss {o : List Str} {x : Str} {j : Nat} (hjl : j ≤ o.length) (hp : scIns o x = o.take j ++ scIns (o.drop j) x) (h1 : (decide ((j : Int) < (o.length : Int)) && sLt (o.getD (j : Int).toNat default) x) = false) (h2 : (decide ((j : Int) < (o.length : Int)) && sEq (o.getD (j : Int).toNat default) x) = false) : scIns o x = o.take j ++ x :: o.drop j := by
 rw [hp]
 by_cases hj : j < o.length
 ·rw [decide_eq_true (by omega : (j : Int) < (o.length : Int)), Bool.true_and, getD_o hj] at h1 h2
  rw [List.drop_eq_getElem_cons hj, scIns, if_neg (by rw [h1]; decide), if_neg (by rw [h2]; decide)]
 ·rw [List.drop_of_length_le (by omega)]; rfl
theorem sf_step {l : List OpT} {o : List Str} {i : Nat} (h : i < l.length) : (l.drop i).foldl (fun out o => scIns out o.2.1) o = (l.drop (i + 1)).foldl (fun out o => scIns out o.2.1) (scIns o (l.getD (i : Int).toNat default).2.1) := by
 rw [List.drop_eq_getElem_cons h, List.foldl_cons, getD_at h]

theorem ok_spec_ScopeOf {l : List OpT} (hl : l.length ≤ 1099511627776) : KFn Try.prog 5 [.one (.dv [] (opsD (l)))] (.one (.key 95000)) [(95000, some (kcOf false (strsD (scopeL l))))] := by
 refine ⟨fn_intro Try.func5 rfl Try.ntmps5 Try.results5 rfl (fun C => ?_)⟩
 refine ok_fact (x := .tmp 0) (ev_tmp rfl) fun f0 => ?_
 iterate 4 refine z ?_
 refine o_build0 (k := 95000) hT rfl rfl rfl rfl rfl rfl rfl rfl ?_
 iterate 7 refine z ?_
 refine ok_loop (ι := Nat × List Str) (fun zz => ⟨[(0, .one (.dv [] (opsD (l)))), (2, .one .nil), (3, .one (.key 95000)), (4, .one (.dv [] (.int .i64 ((zz.1 : Int)))))], [], [(95000, some (kcOf false (.sl 9 1 (zz.2.length) (zz.2.flatMap eStr))))]⟩) (fun zz => zz.1 ≤ l.length ∧ scopeL l = (l.drop zz.1).foldl (fun (out : List Str) (z : OpT) => scIns out z.2.1) zz.2 ∧ zz.2.length ≤ zz.1) (fun zz => l.length - zz.1) ((0, [])) ?_ (weak_sub ⟨rfl, rfl, rfl, rfl, trivial⟩ trivial ⟨rfl, trivial⟩ rfl) (fun zz hx => ?_)
 ·exact ⟨Nat.zero_le _, rfl, Nat.le_refl _⟩
 obtain ⟨i, o⟩ := zz
 replace hx : i ≤ l.length ∧ scopeL l = (l.drop i).foldl (fun (out : List Str) (z : OpT) => scIns out z.2.1) o ∧ o.length ≤ i := hx
 obtain ⟨hi, hs, hol⟩ := hx
 show Ok _ _ _ _ _ (⟨[(0, .one (.dv [] (opsD (l)))), (2, .one .nil), (3, .one (.key 95000)), (4, .one (.dv [] (.int .i64 ((i : Int)))))], [], [(95000, some (kcOf false (.sl 9 1 (o.length) (o.flatMap eStr))))]⟩ : St)
 iterate 7 refine z ?_
 refine yQ rfl (fun c1 => ?_) fun c1 => ?_
 ·skip
  have d1 := of_decide_eq_true c1
  have hi2 : i < l.length := by omega
  iterate 9 refine z ?_
  refine ok_loop (ι := Nat) (fun zz => ⟨[(0, .one (.dv [] (opsD (l)))), (2, .one .nil), (3, .one (.key 95000)), (4, .one (.dv [] (.int .i64 ((i : Int))))), (5, .one (.dv [] (.int .i64 ((zz : Int)))))], [], [(95000, some (kcOf false (.sl 9 1 (o.length) (o.flatMap eStr))))]⟩) (fun zz => zz ≤ o.length ∧ scIns o (l.getD (i : Int).toNat default).2.1 = o.take zz ++ scIns (o.drop zz) (l.getD (i : Int).toNat default).2.1) (fun zz => o.length - zz) (0) ?_ (weak_sub ⟨rfl, rfl, rfl, rfl, rfl, trivial⟩ trivial ⟨rfl, trivial⟩ rfl) (fun zz hx => ?_)
  ·exact ⟨Nat.zero_le _, rfl⟩
  obtain ⟨j, rfl⟩ : ∃ v, v = zz := ⟨_, rfl⟩
  replace hx : j ≤ o.length ∧ scIns o (l.getD (i : Int).toNat default).2.1 = o.take j ++ scIns (o.drop j) (l.getD (i : Int).toNat default).2.1 := hx
  obtain ⟨hj, hp⟩ := hx
  show Ok _ _ _ _ _ (⟨[(0, .one (.dv [] (opsD (l)))), (2, .one .nil), (3, .one (.key 95000)), (4, .one (.dv [] (.int .i64 ((i : Int))))), (5, .one (.dv [] (.int .i64 ((j : Int)))))], [], [(95000, some (kcOf false (.sl 9 1 (o.length) (o.flatMap eStr))))]⟩ : St)
  refine ok_seq ?_
  refine ok_seq ?_
  refine ok_regionD (oB := []) (oK := [95000]) (by kernel_rfl) rfl rfl ?_
  refine zD 0 ?_
  refine zD 1 ?_
  refine d_take 2 rfl (by kernel_rfl) rfl rfl (pu_lenKn (n := (o.length)) hT rfl rfl (ev_tmp rfl) rfl rfl) rfl rfl rfl rfl ?_
  refine zD 3 ?_
  refine zD 4 ?_
  refine d_takeG 5 rfl (by kernel_rfl) (gd_bool rfl rfl rfl rfl rfl) rfl (fun hg => pu_move (v := .one (.dv [95000] (strsD (o)))) (.inl rfl) (ev_keyv' (ev_tmp rfl) rfl rfl)) rfl rfl rfl rfl ?_
  refine zDG 6 ?_
  refine zDG 7 ?_
  refine zDG 8 ?_
  refine zDG 9 ?_
  refine zDG 10 ?_
  refine zDG 11 ?_
  refine zDG 12 ?_
  refine zDG 13 ?_
  refine zDG 14 ?_
  refine zD 15 ?_
  refine d_done (by kernel_rfl) ?_
  refine z ?_
  refine yQ rfl (fun c2 => ?_) fun c2 => ?_
  ·skip
   have h8 := c2
   rw [Bool.and_eq_true, decide_eq_true_eq] at h8
   have hj2 : j < o.length := by omega
   have hst := sc_step hj2 h8.2 hp
   iterate 3 refine z ?_
   refine ok_region ?_
   iterate 3 refine z ?_
   refine ops_nil ?_
   iterate 2 refine z ?_
   refine ⟨j + 1, ?_, ?_, weak_sub ⟨rfl, rfl, rfl, rfl, rfl, trivial⟩ trivial ⟨rfl, trivial⟩ rfl⟩
   ·exact ⟨by omega, hst⟩
   ·omega
  ·skip
   iterate 5 refine z ?_
   refine ok_seq ?_
   refine ok_seq ?_
   refine ok_regionD (oB := []) (oK := [95000]) (by kernel_rfl) rfl rfl ?_
   refine zD 0 ?_
   refine zD 1 ?_
   refine d_take 2 rfl (by kernel_rfl) rfl rfl (pu_lenKn (n := (o.length)) hT rfl rfl (ev_tmp rfl) rfl rfl) rfl rfl rfl rfl ?_
   refine zD 3 ?_
   refine zD 4 ?_
   refine d_takeG 5 rfl (by kernel_rfl) (gd_bool rfl rfl rfl rfl rfl) rfl (fun hg => pu_move (v := .one (.dv [95000] (strsD (o)))) (.inl rfl) (ev_keyv' (ev_tmp rfl) rfl rfl)) rfl rfl rfl rfl ?_
   refine zDG 6 ?_
   refine zDG 7 ?_
   refine zDG 8 ?_
   refine zDG 9 ?_
   refine zDG 10 ?_
   refine zDG 11 ?_
   refine zDG 12 ?_
   refine zDG 13 ?_
   refine zDG 14 ?_
   refine zD 15 ?_
   refine d_done (by kernel_rfl) ?_
   refine z ?_
   refine yQ rfl (fun c3 => ?_) fun c3 => ?_
   ·skip
    iterate 4 refine z ?_
    refine ok_region ?_
    iterate 4 refine z ?_
    refine ⟨(i + 1, o), ?_, ?_, weak_sub ⟨rfl, rfl, rfl, rfl, trivial⟩ trivial ⟨rfl, trivial⟩ rfl⟩
    ·exact ⟨by dsimp only; omega, by rw [hs, sf_step hi2, sc_hit hp c2 c3], by dsimp only; omega⟩
    ·dsimp only; omega
   ·skip
    iterate 2 refine z ?_
    refine ok_regionH [0, 1, 2, 3, 4, 5, 6, 7, 8, 9, 10, 11, 12, 13, 14, 15, 16] (oB := []) (oK := [95000]) (by kernel_rfl) rfl rfl ?_
    refine n_start ?_
    refine n_take 1 rfl (by kernel_rfl) rfl rfl (pu_move (v := .one (.dv [95000] (strsD (o)))) (.inl rfl) (ev_keyv' (ev_tmp rfl) rfl rfl)) rfl rfl rfl rfl ?_
    refine zN 2 ?_
    refine n_take 3 rfl (by kernel_rfl) rfl rfl (pu_sliceH hT rfl rfl rfl (ev_tmp rfl) (ev_tmp rfl) (fun _ => rfl) (by omega) (by omega)) rfl rfl rfl rfl ?_
    refine zN 5 ?_
    refine zN 6 ?_
    refine zN 7 ?_
    refine zN 8 ?_
    refine zN 9 ?_
    refine n_take 12 rfl (by kernel_rfl) rfl rfl (pu_move (v := .one (.dv [95000] (strsD (o)))) (.inl rfl) (ev_keyv' (ev_tmp rfl) rfl rfl)) rfl rfl rfl rfl ?_
    refine zN 13 ?_
    refine n_take 14 rfl (by kernel_rfl) rfl rfl (pu_sliceL hT rfl rfl rfl (ev_tmp rfl) (ev_tmp rfl) (fun _ => rfl) (by omega) (by omega)) rfl rfl rfl rfl ?_
    refine n_split 0 [10] (by kernel_rfl) ⟨?_, ?_, trivial⟩
    ·skip
     refine nj_build0 (k := 9050) 0 hT rfl rfl rfl rfl rfl rfl rfl rfl rfl rfl rfl rfl ?_
     refine n_split 4 [10] (by kernel_rfl) ⟨?_, ?_, trivial⟩
     ·skip
      refine nj_appV (k := 9050) (cs := (o.take j).flatMap eStr) (n := (o.take j).length) 4 hT rfl rfl rfl rfl rfl rfl rfl rfl (ev_tmp rfl) rfl rfl rfl (ev_tmp rfl) (plain_flat (fun _ => rfl) _) (by dsimp only [kcOf]; simp only [List.length_take]; omega) (by dsimp only [kcOf]; simp only [List.length_take]; omega) (Nat.zero_add _) (rfl) rfl rfl ?_
      simp only [killT, killB, SV.kill, CV.kill, kk, Nat.reduceBEq]
      refine n_split 10 [] (by kernel_rfl) ⟨?_, trivial⟩
      ·skip
       refine nj_buildN (k := 9059) (js := []) 10 hT rfl rfl rfl rfl rfl rfl rfl rfl rfl rfl rfl rfl (ep_cons (ev_tmp rfl) rfl rfl rfl ep_nil) (ow_cons' (ow_dv rfl) ow_nil rfl) (by decide) (by decide) rfl rfl rfl rfl rfl ?_
       simp only [killT, killB, SV.kill, CV.kill, kk, Nat.reduceBEq]
       refine n_split 11 [] (by kernel_rfl) ⟨?_, trivial⟩
       ·skip
        refine nj_appV (k := 9050) (cs := ((o.take j) ++ [(l.getD (i : Int).toNat default).2.1]).flatMap eStr) (n := ((o.take j) ++ [(l.getD (i : Int).toNat default).2.1]).length) (m := 1) (ds := [.str ((((l)).getD ((i : Int)).toNat default).2.1)]) 11 hT rfl rfl rfl rfl rfl rfl rfl rfl (ev_tmp rfl) rfl rfl rfl (ev_keyv' (ev_tmp rfl) rfl rfl) rfl (by dsimp only [kcOf]; simp only [List.length_take]; omega) (by dsimp only [kcOf]; simp only [List.length_take]; omega) (by simp) (by rw [List.flatMap_append]; rfl) rfl rfl ?_
        simp only [killT, killB, SV.kill, CV.kill, kk, Nat.reduceBEq]
        refine n_split 15 [] (by kernel_rfl) ⟨?_, trivial⟩
        ·skip
         refine nj_appV (k := 9050) (cs := ((o.take j) ++ (l.getD (i : Int).toNat default).2.1 :: o.drop j).flatMap eStr) (n := ((o.take j) ++ (l.getD (i : Int).toNat default).2.1 :: o.drop j).length) 15 hT rfl rfl rfl rfl rfl rfl rfl rfl (ev_tmp rfl) rfl rfl rfl (ev_tmp rfl) (plain_flat (fun _ => rfl) _) (by dsimp only [kcOf]; simp only [List.length_append, List.length_take, List.length_drop, List.length_singleton]; omega) (by dsimp only [kcOf]; simp only [List.length_append, List.length_take, List.length_drop, List.length_singleton]; omega) (by simp; omega) (by rw [← List.flatMap_append, List.append_assoc]; rfl) rfl rfl ?_
         simp only [killT, killB, SV.kill, CV.kill, kk, Nat.reduceBEq]
         refine zN 16 ?_
         refine n_done (by kernel_rfl) ?_
         iterate 2 refine z ?_
         refine ok_region ?_
         iterate 4 refine z ?_
         refine ⟨(i + 1, (o.take j) ++ (l.getD (i : Int).toNat default).2.1 :: o.drop j), ?_, ?_, weak_then (weak_swap (s := 3) (k := 9050) (k' := 95000) rfl rfl rfl (by simp) rfl) (weak_sub ⟨rfl, rfl, rfl, rfl, trivial⟩ trivial ⟨rfl, trivial⟩ rfl)⟩
         ·exact ⟨by dsimp only; omega, by rw [hs, sf_step hi2, sc_miss hj hp c2 c3], by dsimp only; rw [List.length_append, List.length_cons, List.length_take, List.length_drop]; omega⟩
         ·dsimp only; omega
     ·skip
      refine nj_buildN (k := 9059) (js := []) 10 hT rfl rfl rfl rfl rfl rfl rfl rfl rfl rfl rfl rfl (ep_cons (ev_tmp rfl) rfl rfl rfl ep_nil) (ow_cons' (ow_dv rfl) ow_nil rfl) (by decide) (by decide) rfl rfl rfl rfl rfl ?_
      simp only [killT, killB, SV.kill, CV.kill, kk, Nat.reduceBEq]
      refine n_split 4 [] (by kernel_rfl) ⟨?_, trivial⟩
      ·skip
       refine nj_appV (k := 9050) (cs := (o.take j).flatMap eStr) (n := (o.take j).length) 4 hT rfl rfl rfl rfl rfl rfl rfl rfl (ev_tmp rfl) rfl rfl rfl (ev_tmp rfl) (plain_flat (fun _ => rfl) _) (by dsimp only [kcOf]; simp only [List.length_take]; omega) (by dsimp only [kcOf]; simp only [List.length_take]; omega) (Nat.zero_add _) (rfl) rfl rfl ?_
       simp only [killT, killB, SV.kill, CV.kill, kk, Nat.reduceBEq]
       refine n_split 11 [] (by kernel_rfl) ⟨?_, trivial⟩
       ·skip
        refine nj_appV (k := 9050) (cs := ((o.take j) ++ [(l.getD (i : Int).toNat default).2.1]).flatMap eStr) (n := ((o.take j) ++ [(l.getD (i : Int).toNat default).2.1]).length) (m := 1) (ds := [.str ((((l)).getD ((i : Int)).toNat default).2.1)]) 11 hT rfl rfl rfl rfl rfl rfl rfl rfl (ev_tmp rfl) rfl rfl rfl (ev_keyv' (ev_tmp rfl) rfl rfl) rfl (by dsimp only [kcOf]; simp only [List.length_take]; omega) (by dsimp only [kcOf]; simp only [List.length_take]; omega) (by simp) (by rw [List.flatMap_append]; rfl) rfl rfl ?_
        simp only [killT, killB, SV.kill, CV.kill, kk, Nat.reduceBEq]
        refine n_split 15 [] (by kernel_rfl) ⟨?_, trivial⟩
        ·skip
         refine nj_appV (k := 9050) (cs := ((o.take j) ++ (l.getD (i : Int).toNat default).2.1 :: o.drop j).flatMap eStr) (n := ((o.take j) ++ (l.getD (i : Int).toNat default).2.1 :: o.drop j).length) 15 hT rfl rfl rfl rfl rfl rfl rfl rfl (ev_tmp rfl) rfl rfl rfl (ev_tmp rfl) (plain_flat (fun _ => rfl) _) (by dsimp only [kcOf]; simp only [List.length_append, List.length_take, List.length_drop, List.length_singleton]; omega) (by dsimp only [kcOf]; simp only [List.length_append, List.length_take, List.length_drop, List.length_singleton]; omega) (by simp; omega) (by rw [← List.flatMap_append, List.append_assoc]; rfl) rfl rfl ?_
         simp only [killT, killB, SV.kill, CV.kill, kk, Nat.reduceBEq]
         refine zN 16 ?_
         refine n_done (by kernel_rfl) ?_
         iterate 2 refine z ?_
         refine ok_region ?_
         iterate 4 refine z ?_
         refine ⟨(i + 1, (o.take j) ++ (l.getD (i : Int).toNat default).2.1 :: o.drop j), ?_, ?_, weak_then (weak_swap (s := 3) (k := 9050) (k' := 95000) rfl rfl rfl (by simp) rfl) (weak_sub ⟨rfl, rfl, rfl, rfl, trivial⟩ trivial ⟨rfl, trivial⟩ rfl)⟩
         ·exact ⟨by dsimp only; omega, by rw [hs, sf_step hi2, sc_miss hj hp c2 c3], by dsimp only; rw [List.length_append, List.length_cons, List.length_take, List.length_drop]; omega⟩
         ·dsimp only; omega
    ·skip
     refine nj_buildN (k := 9059) (js := []) 10 hT rfl rfl rfl rfl rfl rfl rfl rfl rfl rfl rfl rfl (ep_cons (ev_tmp rfl) rfl rfl rfl ep_nil) (ow_cons' (ow_dv rfl) ow_nil rfl) (by decide) (by decide) rfl rfl rfl rfl rfl ?_
     simp only [killT, killB, SV.kill, CV.kill, kk, Nat.reduceBEq]
     refine n_split 0 [] (by kernel_rfl) ⟨?_, trivial⟩
     ·skip
      refine nj_build0 (k := 9050) 0 hT rfl rfl rfl rfl rfl rfl rfl rfl rfl rfl rfl rfl ?_
      refine n_split 4 [] (by kernel_rfl) ⟨?_, trivial⟩
      ·skip
       refine nj_appV (k := 9050) (cs := (o.take j).flatMap eStr) (n := (o.take j).length) 4 hT rfl rfl rfl rfl rfl rfl rfl rfl (ev_tmp rfl) rfl rfl rfl (ev_tmp rfl) (plain_flat (fun _ => rfl) _) (by dsimp only [kcOf]; simp only [List.length_take]; omega) (by dsimp only [kcOf]; simp only [List.length_take]; omega) (Nat.zero_add _) (rfl) rfl rfl ?_
       simp only [killT, killB, SV.kill, CV.kill, kk, Nat.reduceBEq]
       refine n_split 11 [] (by kernel_rfl) ⟨?_, trivial⟩
       ·skip
        refine nj_appV (k := 9050) (cs := ((o.take j) ++ [(l.getD (i : Int).toNat default).2.1]).flatMap eStr) (n := ((o.take j) ++ [(l.getD (i : Int).toNat default).2.1]).length) (m := 1) (ds := [.str ((((l)).getD ((i : Int)).toNat default).2.1)]) 11 hT rfl rfl rfl rfl rfl rfl rfl rfl (ev_tmp rfl) rfl rfl rfl (ev_keyv' (ev_tmp rfl) rfl rfl) rfl (by dsimp only [kcOf]; simp only [List.length_take]; omega) (by dsimp only [kcOf]; simp only [List.length_take]; omega) (by simp) (by rw [List.flatMap_append]; rfl) rfl rfl ?_
        simp only [killT, killB, SV.kill, CV.kill, kk, Nat.reduceBEq]
        refine n_split 15 [] (by kernel_rfl) ⟨?_, trivial⟩
        ·skip
         refine nj_appV (k := 9050) (cs := ((o.take j) ++ (l.getD (i : Int).toNat default).2.1 :: o.drop j).flatMap eStr) (n := ((o.take j) ++ (l.getD (i : Int).toNat default).2.1 :: o.drop j).length) 15 hT rfl rfl rfl rfl rfl rfl rfl rfl (ev_tmp rfl) rfl rfl rfl (ev_tmp rfl) (plain_flat (fun _ => rfl) _) (by dsimp only [kcOf]; simp only [List.length_append, List.length_take, List.length_drop, List.length_singleton]; omega) (by dsimp only [kcOf]; simp only [List.length_append, List.length_take, List.length_drop, List.length_singleton]; omega) (by simp; omega) (by rw [← List.flatMap_append, List.append_assoc]; rfl) rfl rfl ?_
         simp only [killT, killB, SV.kill, CV.kill, kk, Nat.reduceBEq]
         refine zN 16 ?_
         refine n_done (by kernel_rfl) ?_
         iterate 2 refine z ?_
         refine ok_region ?_
         iterate 4 refine z ?_
         refine ⟨(i + 1, (o.take j) ++ (l.getD (i : Int).toNat default).2.1 :: o.drop j), ?_, ?_, weak_then (weak_swap (s := 3) (k := 9050) (k' := 95000) rfl rfl rfl (by simp) rfl) (weak_sub ⟨rfl, rfl, rfl, rfl, trivial⟩ trivial ⟨rfl, trivial⟩ rfl)⟩
         ·exact ⟨by dsimp only; omega, by rw [hs, sf_step hi2, sc_miss hj hp c2 c3], by dsimp only; rw [List.length_append, List.length_cons, List.length_take, List.length_drop]; omega⟩
         ·dsimp only; omega
 ·skip
  have d1 := of_decide_eq_false c1
  iterate 9 refine z ?_
  have hfin : scopeL l = o := by rw [hs, List.drop_of_length_le (by omega)]; rfl
  rw [hfin]
  refine ok_weak (σ' := ⟨[(2, .one (.key 95000))], [], [(95000, some (kcOf false (strsD (o))))]⟩) (weak_sub ⟨rfl, trivial⟩ trivial ⟨rfl, trivial⟩ rfl) ?_
  refine z ?_
  refine fin1 (res_tmp rfl) ?_
  exact ⟨rfl, rfl⟩
end Go.Proofs.Ytppjnelanomidaa

namespace Go.Proofs.Ytppjnelanomidaa
open Go.RowKit
open Go.Proofs
set_option linter.unusedVariables false
set_option linter.unusedSimpArgs false
theorem ok_laws_markStringS {x : List (Str)} {k : Int} (h0 : 0 ≤ k) (h1 : k + (wSum cStr x : Int) ≤ 4611686018427387904) : WFn Try.prog 11 [.one (.key 0), .one (.dv [] (.int .i64 (k)))] (.one (.dv [] (.int .i64 (k + (wSum cStr x : Int))))) [(0, kcOf true (.sl 9 1 (x.length) (x.flatMap eStr)))] [(0, kcOf true (strsD (mkL mkStr cStr x k)))] := by
 refine ⟨fn_intro Try.func11 rfl Try.ntmps11 Try.results11 rfl (fun C => ?_)⟩
 have hln : x.length ≤ wSum cStr x := wSum_ge (fun _ => by simp only [cStr]; omega) x
 refine ok_fact (x := .tmp 1) (ev_tmp rfl) fun f1 => ?_
 iterate 8 refine z ?_
 refine ok_loop (ι := Nat) (fun zz => ⟨[(0, .one (.key 0)), (1, .one (.dv [] (.int .i64 (k + (wSum cStr (x.take zz) : Int))))), (4, .one (.dv [] (.int .i64 (0)))), (5, .one (.dv [] (.int .i64 ((zz : Int)))))], [], [(0, some ⟨true, 9, 1, x.length, (mkL mkStr cStr (x.take zz) k).flatMap eStr ++ (x.drop zz).flatMap eStr⟩)]⟩) (fun zz => zz ≤ x.length) (fun zz => x.length - zz) (0) ?_ (weak_sub ⟨rfl, (eqSlotI (by simp [wSum])), rfl, rfl, trivial⟩ trivial ⟨rfl, trivial⟩ rfl) (fun zz hx => ?_)
 ·exact Nat.zero_le _
 obtain ⟨j, rfl⟩ : ∃ v, v = zz := ⟨_, rfl⟩
 replace hx : j ≤ x.length := hx
 have hw := fun h => wSum_succ cStr x j h
 show Ok _ _ _ _ _ (⟨[(0, .one (.key 0)), (1, .one (.dv [] (.int .i64 (k + (wSum cStr (x.take j) : Int))))), (4, .one (.dv [] (.int .i64 (0)))), (5, .one (.dv [] (.int .i64 ((j : Int)))))], [], [(0, some ⟨true, 9, 1, x.length, (mkL mkStr cStr (x.take j) k).flatMap eStr ++ (x.drop j).flatMap eStr⟩)]⟩ : St)
 iterate 4 refine z ?_
 refine yO rfl rfl (pu_lenKn (n := (x.length)) hT rfl rfl (ev_tmp rfl) rfl rfl) rfl ?_
 iterate 2 refine z ?_
 refine yQ rfl (fun c1 => ?_) fun c1 => ?_
 ·skip
  have d1 := of_decide_eq_true c1
  have hj : j < x.length := by omega
  obtain ⟨hw1, hw2⟩ := hw hj
  have hc : cStr (x.getD (j : Int).toNat default) = 1 := rfl
  refine ok_kcs (k := 0) (cs' := mid ((mkL mkStr cStr (x.take j) k).flatMap eStr) [.str ((x.getD (j : Int).toNat default))] ((x.drop (j + 1)).flatMap eStr)) rfl (mk_open hj) ?_
  iterate 8 refine z ?_
  refine zC Try.call18 ?_ (hf := ok_laws_markText (by omega))
  refine yO rfl rfl (pu_indexK (i := j) hT rfl rfl rfl (ev_tmp rfl) rfl (ev_tmp rfl) rfl (by show _ < (x.length); omega)) rfl ?_
  refine o_storeE (js := []) (cs := mid ((mkL mkStr cStr (x.take j) k).flatMap eStr) [.str (mText (k + (wSum cStr (x.take j) : Int)))] ((x.drop (j + 1)).flatMap eStr)) hT rfl rfl rfl rfl (ev_tmp rfl) (ev_tmp rfl) rfl rfl rfl rfl (ow_cons' (ow_dv rfl) ow_nil rfl) (by decide) (by decide) rfl (le_mid (off := j * 1) (n := 1) (j := 0) (mk_pre (sz := 1) (fun _ => rfl) (Nat.le_of_lt hj)) (by omega) (Nat.le_of_ble_eq_true rfl)) (setR_mid (off := j * 1) (j := 0) (mk_pre (sz := 1) (fun _ => rfl) (Nat.le_of_lt hj)) (by omega) rfl (Nat.le_of_ble_eq_true rfl)) ?_
  simp only [killT, killB, SV.kill, CV.kill, kk, Nat.reduceBEq]
  refine z ?_
  refine ok_region ?_
  iterate 3 refine z ?_
  refine ops_nil ?_
  iterate 2 refine z ?_
  refine ok_region ?_
  iterate 4 refine z ?_
  refine ⟨j + 1, ?_, ?_, weak_sub ⟨rfl, (eqSlotI (by omega)), rfl, rfl, trivial⟩ trivial ⟨(congrArg (fun cs => some (some (KC.mk true 9 1 x.length cs))) (mk_close (by omega) (by rfl))), trivial⟩ rfl⟩
  ·omega
  ·omega
 ·skip
  have d1 := of_decide_eq_false c1
  iterate 9 refine z ?_
  refine ok_weak (σ' := ⟨[(4, .one (.dv [] (.int .i64 (k + (wSum cStr (x.take j) : Int)))))], [], [(0, some (kcOf true (strsD (mkL mkStr cStr x k))))]⟩) (weak_sub ⟨rfl, trivial⟩ trivial ⟨(mk_fin (by omega)), trivial⟩ rfl) ?_
  refine z ?_
  refine fin1 (res_tmp rfl) ⟨eqI ?_, w1_ok rfl⟩
  have hq := wSum_all cStr x j (by omega); omega
theorem ok_laws_heldStringS {x y : List (Str)} {k : Int} (hy : y = mkL mkStr cStr x k) (h0 : 0 ≤ k) (h1 : k + (wSum cStr x : Int) ≤ 4611686018427387904) : PFn Try.prog 12 [.one (.dv [] (strsD (y))), .one (.dv [] (.int .i64 (k)))] (.one (.dv [] (.int .i64 (k + (wSum cStr x : Int))))) := by
 refine ⟨fn_intro Try.func12 rfl Try.ntmps12 Try.results12 rfl (fun C => ?_)⟩
 refine ok_fact (x := .tmp 0) (ev_tmp rfl) fun f0 => ?_
 refine ok_fact (x := .tmp 1) (ev_tmp rfl) fun f1 => ?_
 iterate 8 refine z ?_
 refine ok_loop (ι := Nat) (fun zz => ⟨[(0, .one (.dv [] (strsD (y)))), (1, .one (.dv [] (.int .i64 (k + (wSum cStr (x.take zz) : Int))))), (5, .one (.dv [] (.int .i64 ((zz : Int)))))], [], []⟩) (fun zz => zz ≤ x.length) (fun zz => x.length - zz) (0) ?_ (weak_sub ⟨rfl, (eqSlotI (by simp [wSum])), rfl, trivial⟩ trivial trivial rfl) (fun zz hx => ?_)
 ·exact Nat.zero_le _
 obtain ⟨j, rfl⟩ : ∃ v, v = zz := ⟨_, rfl⟩
 replace hx : j ≤ x.length := hx
 have hw := fun h => wSum_succ cStr x j h
 have hyl : y.length = x.length := by rw [hy, mkL_len]
 show Ok _ _ _ _ _ (⟨[(0, .one (.dv [] (strsD (y)))), (1, .one (.dv [] (.int .i64 (k + (wSum cStr (x.take j) : Int))))), (5, .one (.dv [] (.int .i64 ((j : Int)))))], [], []⟩ : St)
 iterate 7 refine z ?_
 refine yQ rfl (fun c1 => ?_) fun c1 => ?_
 ·skip
  have d1 := of_decide_eq_true c1
  have hj : j < x.length := by omega
  obtain ⟨hw1, hw2⟩ := hw hj
  have hc : cStr (x.getD (j : Int).toNat default) = 1 := rfl
  have he : y.getD (j : Int).toNat default = mkStr (x.getD (j : Int).toNat default) (k + (wSum cStr (x.take j) : Int)) := by rw [hy]; exact mkL_getD hj
  iterate 4 refine z ?_
  refine ok_seq ?_
  refine ok_seq ?_
  refine ok_regionD (oB := []) (oK := []) (by kernel_rfl) rfl rfl ?_
  refine zD 0 ?_
  refine zD 1 ?_
  refine zD 2 ?_
  refine zD 3 ?_
  refine zD 4 ?_
  refine d_call 5 rfl (by kernel_rfl) rfl rfl rfl Try.call18 (ok_laws_markText (by omega)) (as_cons (ev_tmp rfl) (ag_one ac_dv) as_nil) rfl rfl rfl rfl ?_
  refine zD 6 ?_
  refine d_done (by kernel_rfl) ?_
  refine z ?_
  refine yQ rfl (fun c2 => ?_) fun c2 => ?_
  ·skip
   iterate 11 refine z ?_
   exfalso; rw [he] at c2; simp [mkStr, sEq] at c2
  ·skip
   iterate 2 refine z ?_
   refine ok_region ?_
   iterate 3 refine z ?_
   refine ops_nil ?_
   iterate 2 refine z ?_
   refine ok_region ?_
   iterate 4 refine z ?_
   refine ⟨j + 1, ?_, ?_, weak_sub ⟨rfl, (eqSlotI (by omega)), rfl, trivial⟩ trivial trivial rfl⟩
   ·omega
   ·omega
 ·skip
  have d1 := of_decide_eq_false c1
  iterate 11 refine z ?_
  have hq := wSum_all cStr x j (by omega); omega
theorem ok_laws_eqStringS {x : List Str}  : PFn Try.prog 8 [.one (.dv [] (strsD (x))), .one (.dv [] (strsD (x)))] (.one (.dv [] (.bool (true)))) := by
 refine ⟨fn_intro Try.func8 rfl Try.ntmps8 Try.results8 rfl (fun C => ?_)⟩
 refine ok_fact (x := .tmp 0) (ev_tmp rfl) fun f0 => ?_
 refine ok_fact (x := .tmp 1) (ev_tmp rfl) fun f1 => ?_
 iterate 11 refine z ?_
 refine yQ rfl (fun c1 => ?_) fun c1 => ?_
 ·skip
  have d1 := nd_t c1
  iterate 6 refine z ?_
  first | rfl | (exfalso; simp_all; done) | (exfalso; simp [sEq] at *)
 ·skip
  have d1 := nd_f c1
  iterate 7 refine z ?_
  refine ok_loop (ι := Nat) (fun zz => ⟨[(0, .one (.dv [] (strsD (x)))), (1, .one (.dv [] (strsD (x)))), (5, .one (.dv [] (.int .i64 ((zz : Int)))))], [], []⟩) (fun zz => zz ≤ x.length) (fun zz => x.length - zz) (0) ?_ (weak_sub ⟨rfl, rfl, rfl, trivial⟩ trivial trivial rfl) (fun zz hx => ?_)
  ·exact Nat.zero_le _
  obtain ⟨k, rfl⟩ : ∃ v, v = zz := ⟨_, rfl⟩
  replace hx : k ≤ x.length := hx
  show Ok _ _ _ _ _ (⟨[(0, .one (.dv [] (strsD (x)))), (1, .one (.dv [] (strsD (x)))), (5, .one (.dv [] (.int .i64 ((k : Int)))))], [], []⟩ : St)
  iterate 7 refine z ?_
  refine yQ rfl (fun c2 => ?_) fun c2 => ?_
  ·skip
   have d2 := of_decide_eq_true c2
   iterate 4 refine z ?_
   refine ok_seq ?_
   refine ok_regionD (oB := []) (oK := []) (by kernel_rfl) rfl rfl ?_
   refine zD 0 ?_
   refine zD 1 ?_
   refine zD 2 ?_
   refine zD 3 ?_
   refine zD 4 ?_
   refine zD 5 ?_
   refine zD 6 ?_
   refine zD 7 ?_
   refine zD 8 ?_
   refine d_done (by kernel_rfl) ?_
   refine z ?_
   refine yQ rfl (fun c3 => ?_) fun c3 => ?_
   ·skip
    iterate 10 refine z ?_
    first | rfl | (exfalso; simp_all; done) | (exfalso; simp [sEq] at *)
   ·skip
    iterate 3 refine z ?_
    refine ok_region ?_
    iterate 4 refine z ?_
    refine ⟨k + 1, ?_, ?_, weak_sub ⟨rfl, rfl, rfl, trivial⟩ trivial trivial rfl⟩
    ·omega
    ·omega
  ·skip
   have d2 := of_decide_eq_false c2
   iterate 10 refine z ?_
   first | rfl | (exfalso; simp_all; done) | (exfalso; simp [sEq] at *)
theorem ok_laws_FnExactScopeOf {x0 : List (OpT)}  : PFn Try.prog 3 [.one (.dv [] (opsD (x0)))] (.one (.dv [] (.bool (true)))) := by
 refine ⟨fn_intro Try.func3 rfl Try.ntmps3 Try.results3 rfl (fun C => ?_)⟩
 have hsl := scope_len x0
 have : wList wOp x0 = x0.length + wSum wOp x0 := rfl
 have := wSum_bound cOp_le (x0)
 have : wSum cStr ((scopeL x0)) = 1 * ((scopeL x0)).length := wSum_const (n := 1) _
 refine ok_fact (x := .tmp 0) (ev_tmp rfl) fun f0 => ?_
 iterate 9 refine z ?_
 refine zC Try.call4 ?_ (hf := ok_laws_szOpS (by omega) (by omega))
 iterate 7 refine z ?_
 refine yQ rfl (fun c1 => ?_) fun c1 => ?_
 ·skip
  have d1 := of_decide_eq_true c1
  first | have q1 := szR_n d1 | skip
  iterate 6 refine z ?_
  first | rfl | (exfalso; omega) | (exfalso; simp_all; done) | (exfalso; simp_all; omega)
 ·skip
  have d1 := of_decide_eq_false c1
  first | have q1 := szR_nn d1 | skip
  iterate 4 refine z ?_
  refine zK 17000 Try.call6 ?_ (hf := ok_laws_toOpS (by first | omega | (simp only [wKey, wField, wRecord, wItem, wStore, wIndexDef, wDatabase, wOp, wTx, wTxQueue] at hb ⊢; omega) | (have hq := hw (by omega); omega)))
  refine o_callK 18000 rfl rfl rfl Try.call5 (ok_spec_ScopeOf (by omega)) (as_cons (ev_tmp rfl) (ag_one (ac_key' rfl rfl)) as_nil) rfl rfl rfl ?_
  iterate 4 refine z ?_
  refine zK 20000 Try.call6 ?_ (hf := ok_laws_toOpS (by first | omega | (simp only [wKey, wField, wRecord, wItem, wStore, wIndexDef, wDatabase, wOp, wTx, wTxQueue] at hb ⊢; omega) | (have hq := hw (by omega); omega)))
  iterate 4 refine z ?_
  refine o_callK 22000 rfl rfl rfl Try.call7 (ok_impl_ScopeOf (by omega)) (as_cons (ev_tmp rfl) (ag_one (ac_key' rfl rfl)) as_nil) rfl rfl rfl ?_
  iterate 6 refine z ?_
  refine o_call rfl rfl rfl Try.call8 ok_laws_eqStringS (as_cons (ev_tmp rfl) (ag_one (ac_key' rfl rfl)) (as_cons (ev_tmp rfl) (ag_one (ac_key' rfl rfl)) as_nil)) rfl rfl ?_
  iterate 2 refine z ?_
  refine yQ rfl (fun c2 => ?_) fun c2 => ?_
  ·skip
   iterate 6 refine z ?_
   first | rfl | (exfalso; omega) | (exfalso; simp_all; done) | (exfalso; simp_all; omega)
  ·skip
   iterate 6 refine z ?_
   refine zK 29000 Try.call6 ?_ (hf := ok_laws_toOpS (by first | omega | (simp only [wKey, wField, wRecord, wItem, wStore, wIndexDef, wDatabase, wOp, wTx, wTxQueue] at hb ⊢; omega) | (have hq := hw (by omega); omega)))
   refine o_call rfl rfl rfl Try.call9 ok_laws_eqOpS (as_cons (ev_tmp rfl) (ag_one (ac_key' rfl rfl)) (as_cons (ev_tmp rfl) (ag_one (ac_key' rfl rfl)) as_nil)) rfl rfl ?_
   iterate 2 refine z ?_
   refine yQ rfl (fun c3 => ?_) fun c3 => ?_
   ·skip
    iterate 6 refine z ?_
    first | rfl | (exfalso; omega) | (exfalso; simp_all; done) | (exfalso; simp_all; omega)
   ·skip
    iterate 8 refine z ?_
    refine o_callW [(0, 20007, ⟨false, _, _, _, _⟩, ⟨false, _, _, _, _⟩)] rfl rfl rfl Try.call10 (ok_laws_markOpS (x := x0) (by omega) (by omega)) ⟨rfl, trivial⟩ rfl (aw_cons (ev_tmp rfl) (aw_one (awc_key rfl)) (aw_cons (ev_tmp rfl) (aw_one (awc_dv rfl)) aw_nil)) rfl rfl ?_
    simp only [killT, killB, SV.kill, CV.kill, kk, Nat.reduceBEq]
    iterate 9 refine z ?_
    refine o_callG (gd_bool rfl rfl rfl rfl rfl) rfl rfl Try.call8 ok_laws_eqStringS (fun hg => (as_cons (ev_opt rfl hg) (ag_one (ac_key' rfl rfl)) (as_cons (ev_opt rfl hg) (ag_one (ac_key' rfl rfl)) as_nil))) rfl rfl ?_
    iterate 3 refine z ?_
    refine yQ rfl (fun c4 => ?_) fun c4 => ?_
    ·skip
     iterate 6 refine z ?_
     first | rfl | (exfalso; omega) | (exfalso; simp_all; done) | (exfalso; simp_all; omega)
    ·skip
     iterate 8 refine z ?_
     refine o_callW [(0, 117000, ⟨false, _, _, _, _⟩, ⟨false, _, _, _, _⟩)] rfl rfl rfl Try.call11 (ok_laws_markStringS (x := (scopeL x0)) (by omega) (by omega)) ⟨rfl, trivial⟩ rfl (aw_cons (ev_tmp rfl) (aw_one (awc_key rfl)) (aw_cons (ev_tmp rfl) (aw_one (awc_dv rfl)) aw_nil)) rfl rfl ?_
     simp only [killT, killB, SV.kill, CV.kill, kk, Nat.reduceBEq]
     iterate 8 refine z ?_
     refine o_call rfl rfl rfl Try.call12 (ok_laws_heldStringS (x := (scopeL x0)) rfl (by omega) (by omega)) (as_cons (ev_tmp rfl) (ag_one (ac_key' rfl rfl)) (as_cons (ev_tmp rfl) (ag_one ac_dv) as_nil)) rfl rfl ?_
     iterate 7 refine z ?_
     refine yQ rfl (fun c5 => ?_) fun c5 => ?_
     ·skip
      have d5 := of_decide_eq_true c5
      first | have q5 := szR_n d5 | skip
      iterate 6 refine z ?_
      first | rfl | (exfalso; omega) | (exfalso; simp_all; done) | (exfalso; simp_all; omega)
     ·skip
      have d5 := of_decide_eq_false c5
      first | have q5 := szR_nn d5 | skip
      iterate 8 refine z ?_
      refine yQ rfl (fun c6 => ?_) fun c6 => ?_
      ·skip
       have d6 := nd_t c6
       iterate 6 refine z ?_
       first | rfl | (exfalso; omega) | (exfalso; simp_all; done) | (exfalso; simp_all; omega)
      ·skip
       have d6 := nd_f c6
       iterate 4 refine z ?_
       refine zK 55000 Try.call6 ?_ (hf := ok_laws_toOpS (by first | omega | (simp only [wKey, wField, wRecord, wItem, wStore, wIndexDef, wDatabase, wOp, wTx, wTxQueue] at hb ⊢; omega) | (have hq := hw (by omega); omega)))
       refine o_callK 56000 rfl rfl rfl Try.call7 (ok_impl_ScopeOf (by omega)) (as_cons (ev_tmp rfl) (ag_one (ac_key' rfl rfl)) as_nil) rfl rfl rfl ?_
       iterate 6 refine z ?_
       refine o_call rfl rfl rfl Try.call8 ok_laws_eqStringS (as_cons (ev_tmp rfl) (ag_one (ac_key' rfl rfl)) (as_cons (ev_tmp rfl) (ag_one (ac_key' rfl rfl)) as_nil)) rfl rfl ?_
       iterate 2 refine z ?_
       refine yQ rfl (fun c7 => ?_) fun c7 => ?_
       ·skip
        iterate 6 refine z ?_
        first | rfl | (exfalso; omega) | (exfalso; simp_all; done) | (exfalso; simp_all; omega)
       ·skip
        iterate 8 refine z ?_
        refine o_call rfl rfl rfl Try.call12 (ok_laws_heldStringS (x := (scopeL x0)) rfl (by omega) (by omega)) (as_cons (ev_tmp rfl) (ag_one (ac_key' rfl rfl)) (as_cons (ev_tmp rfl) (ag_one ac_dv) as_nil)) rfl rfl ?_
        iterate 7 refine z ?_
        refine yQ rfl (fun c8 => ?_) fun c8 => ?_
        ·skip
         have d8 := of_decide_eq_true c8
         first | have q8 := szR_n d8 | skip
         iterate 6 refine z ?_
         first | rfl | (exfalso; omega) | (exfalso; simp_all; done) | (exfalso; simp_all; omega)
        ·skip
         have d8 := of_decide_eq_false c8
         first | have q8 := szR_nn d8 | skip
         iterate 8 refine z ?_
         refine yQ rfl (fun c9 => ?_) fun c9 => ?_
         ·skip
          have d9 := nd_t c9
          iterate 6 refine z ?_
          first | rfl | (exfalso; omega) | (exfalso; simp_all; done) | (exfalso; simp_all; omega)
         ·skip
          have d9 := nd_f c9
          iterate 7 refine z ?_
          first | rfl | (exfalso; omega) | (exfalso; simp_all; done) | (exfalso; simp_all; omega)
end Go.Proofs.Ytppjnelanomidaa

namespace Go.Proofs.Ytppjnelanomidaa
open Go.RowKit Go.ChangeShapes Go.WideShapes Go.Deep

def LayW (W : World) : List DV → List Value → Prop := LayL (fun b => b < W.heap.size) W
structure OpensD (P : Program) (Q : List DV → Prop) (t : TypeId) : Prop where
 run : ∀ {H : Type} (enc : TypeId × Value → H) (W : World) (base : Nat) (spare : Nat → Bool) (held : Bool) (fuel : Nat) (cs : List Value) (y : DataW H × List MemPlace),
  DataW.trod enc P W base spare held fuel t cs = some y → ∃ ds, Q ds ∧ LayW W ds cs
def Is {α : Type} (enc : α → List DV) (ds : List DV) : Prop := ∃ x, ds = enc x
theorem opensD_int {P : Program} {t : TypeId} (ht : P.underlying t = some (.int .i64)) : OpensD P (Is eInt) t := by
 refine ⟨fun {H} enc W base spare held fuel cs y h => ?_⟩
 obtain ⟨n, rfl, _, hw⟩ := DataW.trod_int ht h
 have hb : -9223372036854775808 ≤ n ∧ n ≤ 9223372036854775807 := by simpa [Lit.wf, IntKind.min, IntKind.max, IntKind.signed, IntKind.bits] using hw
 exact ⟨_, ⟨n, rfl⟩, by unfold LayW LayL LayL Lay; exact ⟨_, _, rfl, ⟨rfl, inR64 hb.1 hb.2⟩, rfl⟩⟩
theorem opensD_str {P : Program} {t : TypeId} (ht : P.underlying t = some .string) : OpensD P (Is eStr) t := by
 refine ⟨fun {H} enc W base spare held fuel cs y h => ?_⟩
 obtain ⟨s, rfl, _, hs⟩ := DataW.trod_string ht h
 exact ⟨_, ⟨s, rfl⟩, by simp only [LayW, LayL, Lay]; exact ⟨_, _, rfl, ⟨rfl, by simpa [maxLen] using hs⟩, rfl⟩⟩
theorem points {α : Type} {enc : α → List DV} {W : World} {sz : Nat} {f : Nat → Option Value} (hs : ∀ x, (enc x).length = sz) : ∀ n : Nat,
  (∀ i, i < n → ∃ x ci, LayW W (enc x) ci ∧ ∀ j, j < sz → f (i * sz + j) = ci[j]?) → ∃ (xs : List α) (cells : List Value), xs.length = n ∧ LayW W (xs.flatMap enc) cells ∧ ∀ j u, cells[j]? = some u → f j = some u
 | 0, _ => ⟨[], [], rfl, by simp [LayW, LayL], by simp⟩
 | n + 1, h => by
  obtain ⟨xs, cells, h1, h2, h3⟩ := points hs n (fun i hi => h i (by omega))
  obtain ⟨x, ci, g1, g2⟩ := h n (by omega)
  have hl : cells.length = n * sz := by rw [layL_len _ _ h2, flat_len hs, h1]
  have hci : ci.length = sz := by rw [layL_len _ _ g1, hs]
  refine ⟨xs ++ [x], cells ++ ci, by simp [h1], by have := layL_append _ _ _ _ h2 g1; simp only [List.flatMap_append, List.flatMap_cons, List.flatMap_nil, List.append_nil]; exact this, fun j u hu => ?_⟩
  rcases Nat.lt_or_ge j cells.length with hj | hj
  ·rw [List.getElem?_append_left hj] at hu; exact h3 j u hu
  ·rw [List.getElem?_append_right hj] at hu
   have hjs : j - cells.length < sz := by rw [← hci]; exact (List.getElem?_eq_some_iff.1 hu).1
   have := g2 (j - cells.length) hjs
   rw [show n * sz + (j - cells.length) = j by omega] at this
   rw [this, hu]
theorem opensD_slice {α : Type} {P : Program} {enc : α → List DV} {t e : TypeId} {sz : Nat} (e' : Nat) (hs : ∀ x, (enc x).length = sz) (hsz : Nat.blt 0 sz = true) (ht : P.underlying t = some (.slice e)) (hc : P.cellsOf e = sz) (he : OpensD P (Is enc) e) : OpensD P (Is fun xs : List α => [listD e' sz enc xs]) t := by
 refine ⟨fun {H} ench W base spare held fuel cs y h => ?_⟩
 have hpos : 0 < sz := by simpa [Nat.blt_eq] using hsz
 rcases open_slice ht h with ⟨rfl, _⟩ | ⟨a, len, cap, m, n, D, Pl, rfl, _, hl, hm, hmm, _, hi⟩
 ·refine ⟨_, ⟨[], rfl⟩, ?_⟩
  simp only [LayW, LayL, Lay]
  exact ⟨_, _, rfl, ⟨none, 0, [], rfl, Nat.le_refl _, by simp [maxLen], hpos, by simp, by simp [LayL], fun h => by simp at h⟩, rfl⟩
 ·have hlm : len ≤ m := by rw [hmm]; split <;> omega
  obtain ⟨xs, cells, h1, h2, h3⟩ := points (W := W) (f := fun j => W.cell? (a.add j)) hs len (fun i hil => by
   obtain ⟨cs', hc1, hc2⟩ := hi i (by omega)
   obtain ⟨ds, ⟨x, rfl⟩, hx⟩ := he.run ench W base spare held n cs' _ hc2
   obtain ⟨_, hcl, hat⟩ := World.cells?_some hc1
   refine ⟨x, cs', hx, fun j hj => ?_⟩
   have := hat j (by rw [hc]; exact hj)
   rw [← Go.Deep.add_add, hc] at *
   exact this)
  refine ⟨_, ⟨xs, rfl⟩, ?_⟩
  simp only [LayW, LayL]
  refine ⟨_, _, rfl, ?_, rfl⟩
  simp only [Lay]
  refine ⟨some a, cap, cells, by rw [h1], by omega, hm, hpos, flat_len hs xs, h2, fun hp => ?_⟩
  have hcl : 0 < cells.length := by
   rw [layL_len _ _ h2, flat_len hs]
   exact Nat.mul_pos hp hpos
  have h0 := h3 0 _ (List.getElem?_eq_getElem hcl)
  have ha0 : a.add 0 = a := by simp [Addr.add]
  simp only [ha0] at h0
  have hsp : a.spot = none := by
   cases hs : a.spot with
   | none => rfl
   | some s =>
    unfold World.cell? at h0
    split at h0
    ·simp [hs] at h0
    ·cases h0
  obtain ⟨b, off, sp⟩ := a
  simp only at hsp
  subst hsp
  refine ⟨b, off, rfl, World.block_lt_of_cell? W _ h0, fun j u hu => ?_⟩
  have := h3 j u hu
  simp only [add_row] at this
  exact this
/-! ### structs -/
def Qcat : List (List DV → Prop) → List DV → Prop
 | [], ds => ds = []
 | Q :: Qs, ds => ∃ a b, ds = a ++ b ∧ Q a ∧ Qcat Qs b
def contig (P : Program) : List Field → Nat → Nat → Bool
 | [], off, n => off == n
 | f :: fs, off, n => f.offset == off && contig P fs (off + P.cellsOf f.type) n
def OpensAll (P : Program) : List Field → List (List DV → Prop) → Prop
 | [], [] => True
 | f :: fs, Q :: Qs => OpensD P Q f.type ∧ OpensAll P fs Qs
 | _, _ => False
theorem opens_fields {P : Program} {W : World} {H : Type} (enc : TypeId × Value → H) (base : Nat) (spare : Nat → Bool) (held : Bool) (n : Nat) {cs : List Value} : ∀ (fs : List Field) (Qs : List (List DV → Prop)) (off : Nat), contig P fs off cs.length = true → OpensAll P fs Qs →
  (∀ f ∈ fs, ∃ y, DataW.trod enc P W base spare held n f.type ((cs.drop f.offset).take (P.cellsOf f.type)) = some y) → ∃ ds, Qcat Qs ds ∧ LayW W ds (cs.drop off)
 | [], [], off, h1, _, _ => by
  simp only [contig, beq_iff_eq] at h1
  subst h1
  exact ⟨[], rfl, by simp [LayW, LayL]⟩
 | [], _ :: _, _, _, h2, _ => h2.elim
 | _ :: _, [], _, _, h2, _ => h2.elim
 | f :: fs, Q :: Qs, off, h1, h2, h3 => by
  simp only [contig, Bool.and_eq_true, beq_iff_eq] at h1
  obtain ⟨e1, h1⟩ := h1
  obtain ⟨y, hy⟩ := h3 f (by simp)
  rw [e1] at hy
  obtain ⟨a, ha, la⟩ := h2.1.run enc W base spare held n _ _ hy
  obtain ⟨b, hb, lb⟩ := opens_fields enc base spare held n fs Qs _ h1 h2.2 (fun g hg => h3 g (by simp [hg]))
  refine ⟨a ++ b, ⟨a, b, rfl, ha, hb⟩, ?_⟩
  have := layL_append _ _ _ _ la lb
  rw [← List.drop_drop, List.take_append_drop] at this
  exact this
theorem opensD_struct {P : Program} {t : TypeId} {fs : Array Field} {Qs : List (List DV → Prop)} (ht : P.underlying t = some (.struct fs)) (hc : contig P fs.toList 0 (P.cellsOf t) = true) (h : OpensAll P fs.toList Qs) : OpensD P (Qcat Qs) t := by
 refine ⟨fun {H} enc W base spare held fuel cs y h' => ?_⟩
 obtain ⟨xs, n, _, _, hl, hlen, hf⟩ := DataW.trod_struct ht h'
 have := opens_fields (cs := cs) enc base spare held n fs.toList Qs 0 (by rw [hl]; exact hc) h (fun f hf' => by
  obtain ⟨i, hi⟩ := List.mem_iff_getElem?.1 hf'
  have hi' : fs[i]? = some f := by simpa using hi
  have h2 := hf i f hi'
  have hlt : i < xs.length := by
   rw [hlen]
   rw [Array.getElem?_eq_some_iff] at hi'
   exact hi'.1
  rw [List.getElem?_eq_getElem hlt] at h2
  exact ⟨_, h2⟩)
 simpa using this
theorem OpensD.mono {P : Program} {Q R : List DV → Prop} {t : TypeId} (h : OpensD P Q t) (hq : ∀ ds, Q ds → R ds) : OpensD P R t := by
 refine ⟨fun {H} enc W base spare held fuel cs y h' => ?_⟩
 obtain ⟨ds, h1, h2⟩ := h.run enc W base spare held fuel cs y h'
 exact ⟨ds, hq ds h1, h2⟩
/-! ### a call from the outside -/
def TopL (w : World) : List SV → List Value → Prop
 | [], vs => vs = []
 | .one c :: us, vs => ∃ d v vs', c = .dv [] d ∧ vs = v :: vs' ∧ LayW w [d] [v] ∧ TopL w us vs'
 | .agg cs :: us, vs => ∃ ds xs vs', cs = ds.map (CV.dv []) ∧ vs = .agg xs.toArray :: vs' ∧ LayW w ds xs ∧ TopL w us vs'
 | _ :: _, _ => False
theorem lay_top {w : World} {L : Lyt} {d : DV} {v : Value} (h : LayW w [d] [v]) : CVr ⟨w, [], L.rv⟩ L w (.dv [] d) v := by
 simp only [LayW, LayL] at h
 obtain ⟨v', _, e, h1, rfl⟩ := h
 simp only [List.cons.injEq, and_true] at e
 subst e
 simp only [CVr]
 exact lay_conv (fun b hb _ => ⟨.inl ⟨hb, by simp⟩, rfl⟩) d _ h1
theorem lays_top {w : World} {L : Lyt} : ∀ {ds : List DV} {vs : List Value}, LayW w ds vs → CVL ⟨w, [], L.rv⟩ L w (ds.map (CV.dv [])) vs
 | [], _, h => by simp only [LayW, LayL] at h; subst h; rfl
 | d :: ds, _, h => by
  simp only [LayW, LayL] at h
  obtain ⟨v, vs', rfl, h1, h2⟩ := h
  exact ⟨v, vs', rfl, lay_top (by simp only [LayW, LayL]; exact ⟨v, [], rfl, h1, rfl⟩), lays_top h2⟩
theorem topL_sv {P : Program} {w : World} {L : Lyt} : ∀ {us : List SV} {vs : List Value}, TopL w us vs → vs.length = us.length ∧ (∀ u ∈ us, u.keys = [] ∧ u.boxes = []) ∧ ∀ (i : Nat) (v : SV), us[i]? = some v → ∃ x, vs[i]? = some x ∧ SVr P ⟨w, [], L.rv⟩ L w v x
 | [], _, h => by simp only [TopL] at h; subst h; simp
 | .one c :: us, _, h => by
  simp only [TopL] at h
  obtain ⟨d, v, vs', rfl, rfl, h1, h2⟩ := h
  obtain ⟨g1, g2, g3⟩ := topL_sv (P := P) (L := L) h2
  refine ⟨by simp [g1], fun u hu => ?_, fun i x hx => ?_⟩
  ·rcases List.mem_cons.1 hu with rfl | hu
   ·exact ⟨rfl, rfl⟩
   ·exact g2 u hu
  ·cases i with
   | zero => simp only [List.getElem?_cons_zero, Option.some.injEq] at hx; subst hx; exact ⟨v, rfl, by simp only [SVr]; exact lay_top h1⟩
   | succ i => simpa using g3 i x (by simpa using hx)
 | .agg cs :: us, _, h => by
  simp only [TopL] at h
  obtain ⟨ds, xs, vs', rfl, rfl, h1, h2⟩ := h
  obtain ⟨g1, g2, g3⟩ := topL_sv (P := P) (L := L) h2
  refine ⟨by simp [g1], fun u hu => ?_, fun i x hx => ?_⟩
  ·rcases List.mem_cons.1 hu with rfl | hu
   ·refine ⟨?_, rfl⟩
    simp only [SV.keys]
    rw [List.flatMap_eq_nil_iff]
    intro c hc
    obtain ⟨d, _, rfl⟩ := List.mem_map.1 hc
    rfl
   ·exact g2 u hu
  ·cases i with
   | zero => simp only [List.getElem?_cons_zero, Option.some.injEq] at hx; subst hx; exact ⟨_, rfl, by simp only [SVr]; exact ⟨xs, rfl, lays_top h1⟩⟩
   | succ i => simpa using g3 i x (by simpa using hx)
 | .tup _ :: _, _, h => by simp [TopL] at h
 | .box _ _ :: _, _, h => by simp [TopL] at h
 | .ref _ _ :: _, _, h => by simp [TopL] at h
 | .eptr _ _ :: _, _, h => by simp [TopL] at h
 | .ksl _ _ _ _ :: _, _, h => by simp [TopL] at h
 | .fn _ _ :: _, _, h => by simp [TopL] at h
 | .clo _ _ :: _, _, h => by simp [TopL] at h
 | .opt _ _ :: _, _, h => by simp [TopL] at h
 | .any :: _, _, h => by simp [TopL] at h
theorem pfn_run {P : Program} {f : FuncId} {us : List SV} {b : Bool} (hf : PFn P f us (.one (.dv [] (.bool b)))) {w : World} {vs : List Value} (h : TopL w us vs) :
  Calls P f vs.toArray w fun e w' => e = .returned (.bool b) ∧ Below w.heap.size w w' := by
 let L : Lyt := ⟨fun _ => 0, fun _ => [], fun _ => .bool false⟩
 obtain ⟨h1, h2, h3⟩ := topL_sv (P := P) (L := L) h
 obtain ⟨t1, t2⟩ := enum_tk us 0 h2
 have hr : Rel P ⟨w, [], L.rv⟩ us.length L ⟨enumS 0 us, [], []⟩ ⟨vs.toArray, []⟩ w := {
  df := rfl
  sz := by simp [h1]
  tm := fun i v hv => by
   obtain ⟨_, h4⟩ := enumS_look us 0 i v hv
   obtain ⟨x, h5, h6⟩ := h3 i v (by simpa using h4)
   have : vs.toArray.getD i undef = x := by simp [Array.getD_eq_getD_getElem?, h5]
   rw [this]; exact h6
  bx := fun i t cs h => by cases h
  ks := fun k c h => by cases h
  b1 := fun i x h => by cases h
  k1 := fun k c h => by cases h
  kn := fun k c h => by cases h
  bb := fun i j x y h => by cases h
  bk := fun i k x c h => by cases h
  kk := fun k j c d h => by cases h
  lk := fun k hk => by simp only [St.tk, t1, List.flatMap_nil, List.append_nil] at hk; cases hk
  lb := fun b hb => by simp only [St.tb, t2] at hb; cases hb
  s0 := fun b hb => by cases hb
  chg := Chg.refl _ _ }
 refine (hf.ok w [] L vs h1 hr).mono ?_
 rintro e w' ⟨r, res, σ', L', rfl, rfl, hr'⟩
 have hv := hr'.tm 0 _ rfl
 simp only [SVr, CVr, Lay] at hv
 refine ⟨?_, hr'.chg.below⟩
 have : (#[r] : Array Value).getD 0 undef = r := rfl
 rw [this] at hv
 rw [hv]
end Go.Proofs.Ytppjnelanomidaa

namespace Go.Proofs.Ytppjnelanomidaa
open Go.RowKit
open Go.Proofs
theorem opensKey : OpensD Try.prog (Is eKey) 35 :=
 (opensD_struct (Qs := [Is eInt, Is eInt, Is eStr]) Try.underlying35 (by kernel_rfl) ⟨(opensD_int Try.underlying3), (opensD_int Try.underlying3), (opensD_str Try.underlying9), trivial⟩).mono fun ds h => by
  obtain ⟨_, _, rfl, ⟨a, rfl⟩, ⟨_, _, rfl, ⟨b, rfl⟩, ⟨_, _, rfl, ⟨c, rfl⟩, rfl⟩⟩⟩ := h
  exact ⟨(a, b, c), rfl⟩
theorem opensField : OpensD Try.prog (Is eField) 82 :=
 (opensD_struct (Qs := [Is eStr, Is eInt]) Try.underlying82 (by kernel_rfl) ⟨(opensD_str Try.underlying9), (opensD_int Try.underlying3), trivial⟩).mono fun ds h => by
  obtain ⟨_, _, rfl, ⟨a, rfl⟩, ⟨_, _, rfl, ⟨b, rfl⟩, rfl⟩⟩ := h
  exact ⟨(a, b), rfl⟩
theorem opensFields : OpensD Try.prog (Is fun xs => [listD 64 2 eField xs]) 36 := opensD_slice (sz := 2) 64 (fun _ => rfl) rfl Try.underlying36 (by kernel_rfl) opensField
theorem opensRecord : OpensD Try.prog (Is (fun r : RecT => [fieldsD r])) 38 :=
 (opensD_struct (Qs := [Is (fun r : RecT => [fieldsD r])]) Try.underlying38 (by kernel_rfl) ⟨opensFields, trivial⟩).mono fun ds h => by
  obtain ⟨_, _, rfl, ⟨a, rfl⟩, rfl⟩ := h
  exact ⟨a, rfl⟩
theorem opensOp : OpensD Try.prog (Is eOp) 40 :=
 (opensD_struct (Qs := [Is eInt, Is eStr, Is eKey, Is (fun r : RecT => [fieldsD r]), Is eStr]) Try.underlying40 (by kernel_rfl) ⟨(opensD_int Try.underlying3), (opensD_str Try.underlying9), opensKey, opensRecord, (opensD_str Try.underlying9), trivial⟩).mono fun ds h => by
  obtain ⟨_, _, rfl, ⟨a, rfl⟩, ⟨_, _, rfl, ⟨b, rfl⟩, ⟨_, _, rfl, ⟨c, rfl⟩, ⟨_, _, rfl, ⟨d, rfl⟩, ⟨_, _, rfl, ⟨e, rfl⟩, rfl⟩⟩⟩⟩⟩ := h
  exact ⟨(a, b, c, d, e), rfl⟩
theorem opensOps : OpensD Try.prog (Is fun xs => [listD 46 7 eOp xs]) 22 := opensD_slice (sz := 7) 46 (fun _ => rfl) rfl Try.underlying22 (by kernel_rfl) opensOp
end Go.Proofs.Ytppjnelanomidaa

