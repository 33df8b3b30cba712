/-
  Contracts of the program's functions for the statements StartTx, by the rules of the logic. Conditions: none but those in the theorems.
-/
import Derived.Test.YtcgmpjedhbhplaaGreatU2
set_option maxHeartbeats 4000000
set_option maxRecDepth 100000
namespace Go.Proofs.YtcgmpjedhbhplaaGreat
open Go.RowKit
open Go.Proofs
set_option linter.unusedVariables false
set_option linter.unusedSimpArgs false
theorem ok_impl_InRange {n lo hi : Int}  : PFn Tryz.prog 84 [.one (.dv [] (.int .i64 (n))), .one (.dv [] (.int .i64 (lo))), .one (.dv [] (.int .i64 (hi)))] (.one (.dv [] (.bool (decide (lo ≤ n) && decide (n ≤ hi))))) := by
 refine ⟨fn_intro Tryz.func84 rfl Tryz.ntmps84 Tryz.results84 rfl (fun C => ?_)⟩
 refine ok_fact (x := .tmp 0) (ev_tmp rfl) fun f0 => ?_
 refine ok_fact (x := .tmp 1) (ev_tmp rfl) fun f1 => ?_
 refine ok_fact (x := .tmp 2) (ev_tmp rfl) fun f2 => ?_
 iterate 16 refine z ?_
 rfl
theorem ok_spec_l1In {n lo hi : Int}  : PFn Tryz.prog 43 [.one (.dv [] (.int .i64 (n))), .one (.dv [] (.int .i64 (lo))), .one (.dv [] (.int .i64 (hi)))] (.one (.dv [] (.bool (decide (lo ≤ n) && decide (n ≤ hi))))) := by
 refine ⟨fn_intro Tryz.func43 rfl Tryz.ntmps43 Tryz.results43 rfl (fun C => ?_)⟩
 refine ok_fact (x := .tmp 0) (ev_tmp rfl) fun f0 => ?_
 refine ok_fact (x := .tmp 1) (ev_tmp rfl) fun f1 => ?_
 refine ok_fact (x := .tmp 2) (ev_tmp rfl) fun f2 => ?_
 iterate 16 refine z ?_
 rfl

end Go.Proofs.YtcgmpjedhbhplaaGreat

namespace Go.Proofs.YtcgmpjedhbhplaaGreat
open Go.RowKit
open Go.Proofs
set_option linter.unusedVariables false
set_option linter.unusedSimpArgs false

theorem bl_total : ∀ (x y : List UInt8), (Op.bytesLess x y || (x == y)) = !Op.bytesLess y x
 | [], [] => rfl
 | [], _ :: _ => rfl
 | _ :: _, [] => rfl
 | a :: x, b :: y => by
  have ih := bl_total x y
  simp only [Op.bytesLess]
  rcases Nat.lt_trichotomy a.toNat b.toNat with h | h | h
  ·have h1 : a < b := h
   have h2 : ¬ b < a := by intro h'; have : b.toNat < a.toNat := h'; omega
   have h3 : ¬ a = b := by rintro rfl; omega
   have h4 : ¬ b = a := fun e => h3 e.symm
   simp [h1, h2, h3, h4]
  ·have e : a = b := UInt8.toNat_inj.1 h
   subst e
   simpa using ih
  ·have h1 : b < a := h
   have h2 : ¬ a < b := by intro h'; have : a.toNat < b.toNat := h'; omega
   have h3 : ¬ a = b := by rintro rfl; omega
   have h4 : ¬ b = a := fun e => h3 e.symm
   simp [h1, h2, h3, h4]
theorem sLe_eq (a b : Str) : (sLt a b || sEq a b) = !sLt b a := bl_total _ _
end Go.Proofs.YtcgmpjedhbhplaaGreat

namespace Go.Proofs.YtcgmpjedhbhplaaGreat
open Go.RowKit
open Go.Proofs
set_option linter.unusedVariables false
set_option linter.unusedSimpArgs false

def szR (left : Int) (w : Nat) : Int := if (w : Int) ≤ left then left - (w : Int) else -1
def wSum {α : Type} (w : α → Nat) (xs : List α) : Nat := (xs.map w).sum
def wList {α : Type} (w : α → Nat) (xs : List α) : Nat := xs.length + wSum w xs
theorem wSum_app {α : Type} (w : α → Nat) (xs ys : List α) : wSum w (xs ++ ys) = wSum w xs + wSum w ys := by simp [wSum]
theorem wSum_le {α : Type} (w : α → Nat) (xs : List α) (k : Nat) : wSum w (xs.take k) ≤ wSum w xs := by
 have h := wSum_app w (xs.take k) (xs.drop k)
 rw [List.take_append_drop] at h
 omega
theorem wSum_succ {α : Type} [Inhabited α] (w : α → Nat) (xs : List α) (k : Nat) (h : k < xs.length) : wSum w (xs.take (k + 1)) = wSum w (xs.take k) + w (xs.getD (k : Int).toNat default) ∧ wSum w (xs.take (k + 1)) ≤ wSum w xs := by
 refine ⟨?_, wSum_le w xs _⟩
 have : xs.take (k + 1) = xs.take k ++ [xs.getD k default] := by
  rw [List.take_add_one, List.getElem?_eq_getElem h]; simp [List.getD, List.getElem?_eq_getElem h]
 rw [this, wSum_app]
 simp [wSum]
theorem wSum_all {α : Type} (w : α → Nat) (xs : List α) (k : Nat) (h : xs.length ≤ k) : wSum w (xs.take k) = wSum w xs := by rw [List.take_of_length_le h]
theorem wList_len {α : Type} (w : α → Nat) (xs : List α) : xs.length ≤ wList w xs := by unfold wList; omega
theorem szR_nn {l : Int} {w : Nat} (h : ¬ szR l w < 0) : (w : Int) ≤ l ∧ szR l w = l - w := by unfold szR at h ⊢; split at h <;> simp_all
theorem szR_n {l : Int} {w : Nat} (h : szR l w < 0) (h0 : 0 ≤ l := by omega) : l < (w : Int) := by unfold szR at h; split at h <;> omega
theorem szR_cases (l : Int) (w : Nat) : ((w : Int) ≤ l ∧ szR l w = l - w) ∨ (l < w ∧ szR l w = -1) := by unfold szR; split <;> omega
def wKey (x : KeyT) : Nat := (x.2.2).size
def wField (x : FieldT) : Nat := (x.1).size
def wRecord (x : RecT) : Nat := wList wField (x)
def wItem (x : ItemT) : Nat := wKey (x.1) + wRecord (x.2)
def wStore (x : StoreT) : Nat := (x.1).size + wList wItem (x.2.1)
def wIndexDef (x : DefT) : Nat := (x.1).size + (x.2).size
def wDatabase (x : DbT) : Nat := (x.1).size + wList wStore (x.2.2.1) + wList wIndexDef (x.2.2.2)
def wOp (x : OpT) : Nat := (x.2.1).size + wKey (x.2.2.1) + wRecord (x.2.2.2.1) + (x.2.2.2.2).size
def wTx (x : TxT) : Nat := wList wOp (x.2.1) + wList wStore (x.2.2.2.2)
def wTxQueue (x : List TxT) : Nat := wList wTx (x)
theorem ok_laws_szKey {x : KeyT} {left : Int} (h0 : 0 ≤ left) (h1 : left ≤ 1048576) : PFn Tryz.prog 98 [.agg [(.dv [] (.int .i64 (x.1))), (.dv [] (.int .i64 (x.2.1))), (.dv [] (.str (x.2.2)))], .one (.dv [] (.int .i64 (left)))] (.one (.dv [] (.int .i64 (szR (left) (wKey x))))) := by
 refine ⟨fn_intro Tryz.func98 rfl Tryz.ntmps98 Tryz.results98 rfl (fun C => ?_)⟩
 refine yF 0 0 rfl rfl fun f0_0 => ?_
 refine yF 0 1 rfl rfl fun f0_1 => ?_
 refine yF 0 2 rfl rfl fun f0_2 => ?_
 refine ok_fact (x := .tmp 1) (ev_tmp rfl) fun f1 => ?_
 iterate 17 refine z ?_
 refine yQ rfl (fun c1 => ?_) fun c1 => ?_
 ·skip
  have d1 := of_decide_eq_true c1
  first | have q1 := szR_n d1 | skip
  iterate 6 refine z ?_
  have hh := szR_cases left (wKey x); simp only [wKey] at hh ⊢ <;> omega
 ·skip
  have d1 := of_decide_eq_false c1
  first | have q1 := szR_nn d1 | skip
  iterate 8 refine z ?_
  have hh := szR_cases left (wKey x); simp only [wKey] at hh ⊢ <;> omega
theorem ok_laws_szField {x : FieldT} {left : Int} (h0 : 0 ≤ left) (h1 : left ≤ 1048576) : PFn Tryz.prog 114 [.agg [(.dv [] (.str (x.1))), (.dv [] (.int .i64 (x.2)))], .one (.dv [] (.int .i64 (left)))] (.one (.dv [] (.int .i64 (szR (left) (wField x))))) := by
 refine ⟨fn_intro Tryz.func114 rfl Tryz.ntmps114 Tryz.results114 rfl (fun C => ?_)⟩
 refine yF 0 0 rfl rfl fun f0_0 => ?_
 refine yF 0 1 rfl rfl fun f0_1 => ?_
 refine ok_fact (x := .tmp 1) (ev_tmp rfl) fun f1 => ?_
 iterate 17 refine z ?_
 refine yQ rfl (fun c1 => ?_) fun c1 => ?_
 ·skip
  have d1 := of_decide_eq_true c1
  first | have q1 := szR_n d1 | skip
  iterate 6 refine z ?_
  have hh := szR_cases left (wField x); simp only [wField] at hh ⊢ <;> omega
 ·skip
  have d1 := of_decide_eq_false c1
  first | have q1 := szR_nn d1 | skip
  iterate 8 refine z ?_
  have hh := szR_cases left (wField x); simp only [wField] at hh ⊢ <;> omega
theorem ok_laws_szFieldS {x : List (FieldT)} {left : Int} (h0 : 0 ≤ left) (h1 : left ≤ 1048576) : PFn Tryz.prog 110 [.one (.dv [] (fieldsD (x))), .one (.dv [] (.int .i64 (left)))] (.one (.dv [] (.int .i64 (szR (left) (wList wField x))))) := by
 refine ⟨fn_intro Tryz.func110 rfl Tryz.ntmps110 Tryz.results110 rfl (fun C => ?_)⟩
 refine ok_fact (x := .tmp 0) (ev_tmp rfl) fun f0 => ?_
 refine ok_fact (x := .tmp 1) (ev_tmp rfl) fun f1 => ?_
 iterate 15 refine z ?_
 refine yQ rfl (fun c1 => ?_) fun c1 => ?_
 ·skip
  have d1 := of_decide_eq_true c1
  first | have q1 := szR_n d1 | skip
  iterate 6 refine z ?_
  have hh := szR_cases left (wList wField x); simp only [wList] at hh ⊢ <;> omega
 ·skip
  have d1 := of_decide_eq_false c1
  first | have q1 := szR_nn d1 | skip
  iterate 7 refine z ?_
  refine ok_loop (ι := Nat × Int) (fun zz => ⟨[(0, .one (.dv [] (fieldsD (x)))), (1, .one (.dv [] (.int .i64 (zz.2)))), (5, .one (.dv [] (.int .i64 ((zz.1 : Int)))))], [], []⟩) (fun zz => zz.1 ≤ x.length ∧ 0 ≤ zz.2 ∧ zz.2 + (wSum wField (x.take zz.1) : Int) = left - (x.length : Int)) (fun zz => x.length - zz.1) ((0, left - (x.length : Int))) ?_ (weak_sub ⟨rfl, rfl, rfl, trivial⟩ trivial trivial rfl) (fun zz hx => ?_)
  ·exact ⟨Nat.zero_le _, by omega, by simp [wSum]⟩
  obtain ⟨k, l⟩ := zz
  replace hx : k ≤ x.length ∧ 0 ≤ l ∧ l + (wSum wField (x.take k) : Int) = left - (x.length : Int) := hx
  obtain ⟨hk, hl, he⟩ := hx
  have hw := fun h => wSum_succ wField x k h
  show Ok _ _ _ _ _ (⟨[(0, .one (.dv [] (fieldsD (x)))), (1, .one (.dv [] (.int .i64 (l)))), (5, .one (.dv [] (.int .i64 ((k : Int)))))], [], []⟩ : St)
  iterate 7 refine z ?_
  refine yQ rfl (fun c2 => ?_) fun c2 => ?_
  ·skip
   have d2 := of_decide_eq_true c2
   first | have q2 := szR_n d2 | skip
   iterate 10 refine z ?_
   refine zC Tryz.call114 ?_ (hf := ok_laws_szField (by omega) (by omega))
   iterate 6 refine z ?_
   refine yQ rfl (fun c3 => ?_) fun c3 => ?_
   ·skip
    have d3 := of_decide_eq_true c3
    first | have q3 := szR_n d3 | skip
    iterate 10 refine z ?_
    have hw' := hw (by omega); have hh := szR_cases left (wList wField x); simp only [wList] at hh ⊢ <;> omega
   ·skip
    have d3 := of_decide_eq_false c3
    first | have q3 := szR_nn d3 | skip
    iterate 3 refine z ?_
    refine ok_region ?_
    iterate 4 refine z ?_
    refine ⟨(k + 1, szR l (wField (x.getD (k : Int).toNat default))), ?_, ?_, weak_sub ⟨rfl, rfl, rfl, trivial⟩ trivial trivial rfl⟩
    ·have hw' := hw (by omega)
     dsimp only
     exact ⟨by omega, by omega, by omega⟩
    ·omega
  ·skip
   have d2 := of_decide_eq_false c2
   first | have q2 := szR_nn d2 | skip
   iterate 11 refine z ?_
   have hw' := wSum_all wField x k (by omega); have hh := szR_cases left (wList wField x); simp only [wList] at hh ⊢ <;> omega
theorem ok_laws_szRecord {x : RecT} {left : Int} (h0 : 0 ≤ left) (h1 : left ≤ 1048576) : PFn Tryz.prog 99 [.agg [(.dv [] (fieldsD (x)))], .one (.dv [] (.int .i64 (left)))] (.one (.dv [] (.int .i64 (szR (left) (wRecord x))))) := by
 refine ⟨fn_intro Tryz.func99 rfl Tryz.ntmps99 Tryz.results99 rfl (fun C => ?_)⟩
 refine yF 0 0 rfl rfl fun f0_0 => ?_
 refine ok_fact (x := .tmp 1) (ev_tmp rfl) fun f1 => ?_
 iterate 8 refine z ?_
 refine zC Tryz.call110 ?_ (hf := ok_laws_szFieldS (by omega) (by omega))
 iterate 7 refine z ?_
 refine yQ rfl (fun c1 => ?_) fun c1 => ?_
 ·skip
  have d1 := of_decide_eq_true c1
  first | have q1 := szR_n d1 | skip
  iterate 6 refine z ?_
  have hh := szR_cases left (wRecord x); simp only [wRecord] at hh ⊢ <;> omega
 ·skip
  have d1 := of_decide_eq_false c1
  first | have q1 := szR_nn d1 | skip
  iterate 8 refine z ?_
  have hh := szR_cases left (wRecord x); simp only [wRecord] at hh ⊢ <;> omega
theorem ok_laws_szOp {x : OpT} {left : Int} (h0 : 0 ≤ left) (h1 : left ≤ 1048576) : PFn Tryz.prog 81 [.agg [(.dv [] (.int .i64 (x.1))), (.dv [] (.str (x.2.1))), (.dv [] (.int .i64 (x.2.2.1.1))), (.dv [] (.int .i64 (x.2.2.1.2.1))), (.dv [] (.str (x.2.2.1.2.2))), (.dv [] (fieldsD (x.2.2.2.1))), (.dv [] (.str (x.2.2.2.2)))], .one (.dv [] (.int .i64 (left)))] (.one (.dv [] (.int .i64 (szR (left) (wOp x))))) := by
 refine ⟨fn_intro Tryz.func81 rfl Tryz.ntmps81 Tryz.results81 rfl (fun C => ?_)⟩
 refine yF 0 0 rfl rfl fun f0_0 => ?_
 refine yF 0 1 rfl rfl fun f0_1 => ?_
 refine yF 0 2 rfl rfl fun f0_2 => ?_
 refine yF 0 3 rfl rfl fun f0_3 => ?_
 refine yF 0 4 rfl rfl fun f0_4 => ?_
 refine yF 0 5 rfl rfl fun f0_5 => ?_
 refine yF 0 6 rfl rfl fun f0_6 => ?_
 refine ok_fact (x := .tmp 1) (ev_tmp rfl) fun f1 => ?_
 iterate 17 refine z ?_
 refine yQ rfl (fun c1 => ?_) fun c1 => ?_
 ·skip
  have d1 := of_decide_eq_true c1
  first | have q1 := szR_n d1 | skip
  iterate 6 refine z ?_
  have hh := szR_cases left (wOp x); simp only [wOp] at hh ⊢ <;> omega
 ·skip
  have d1 := of_decide_eq_false c1
  first | have q1 := szR_nn d1 | skip
  iterate 6 refine z ?_
  refine zC Tryz.call98 ?_ (hf := ok_laws_szKey (by omega) (by omega))
  iterate 7 refine z ?_
  refine yQ rfl (fun c2 => ?_) fun c2 => ?_
  ·skip
   have d2 := of_decide_eq_true c2
   first | have q2 := szR_n d2 | skip
   iterate 6 refine z ?_
   have hh := szR_cases left (wOp x); simp only [wOp] at hh ⊢ <;> omega
  ·skip
   have d2 := of_decide_eq_false c2
   first | have q2 := szR_nn d2 | skip
   iterate 6 refine z ?_
   refine zC Tryz.call99 ?_ (hf := ok_laws_szRecord (by omega) (by omega))
   iterate 7 refine z ?_
   refine yQ rfl (fun c3 => ?_) fun c3 => ?_
   ·skip
    have d3 := of_decide_eq_true c3
    first | have q3 := szR_n d3 | skip
    iterate 6 refine z ?_
    have hh := szR_cases left (wOp x); simp only [wOp] at hh ⊢ <;> omega
   ·skip
    have d3 := of_decide_eq_false c3
    first | have q3 := szR_nn d3 | skip
    iterate 15 refine z ?_
    refine yQ rfl (fun c4 => ?_) fun c4 => ?_
    ·skip
     have d4 := of_decide_eq_true c4
     first | have q4 := szR_n d4 | skip
     iterate 6 refine z ?_
     have hh := szR_cases left (wOp x); simp only [wOp] at hh ⊢ <;> omega
    ·skip
     have d4 := of_decide_eq_false c4
     first | have q4 := szR_nn d4 | skip
     iterate 8 refine z ?_
     have hh := szR_cases left (wOp x); simp only [wOp] at hh ⊢ <;> omega
theorem ok_laws_toKey {x : KeyT}  : PFn Tryz.prog 100 [.agg [(.dv [] (.int .i64 (x.1))), (.dv [] (.int .i64 (x.2.1))), (.dv [] (.str (x.2.2)))]] (.agg [(.dv [] (.int .i64 (x.1))), (.dv [] (.int .i64 (x.2.1))), (.dv [] (.str (x.2.2)))]) := by
 refine ⟨fn_intro Tryz.func100 rfl Tryz.ntmps100 Tryz.results100 rfl (fun C => ?_)⟩
 refine yF 0 0 rfl rfl fun f0_0 => ?_
 refine yF 0 1 rfl rfl fun f0_1 => ?_
 refine yF 0 2 rfl rfl fun f0_2 => ?_
 iterate 30 refine z ?_
 refine fin1 (res_cell hT rfl rfl rfl rfl) ?_
 rfl
theorem ok_laws_toField {x : FieldT}  : PFn Tryz.prog 115 [.agg [(.dv [] (.str (x.1))), (.dv [] (.int .i64 (x.2)))]] (.agg [(.dv [] (.str (x.1))), (.dv [] (.int .i64 (x.2)))]) := by
 refine ⟨fn_intro Tryz.func115 rfl Tryz.ntmps115 Tryz.results115 rfl (fun C => ?_)⟩
 refine yF 0 0 rfl rfl fun f0_0 => ?_
 refine yF 0 1 rfl rfl fun f0_1 => ?_
 iterate 24 refine z ?_
 refine fin1 (res_cell hT rfl rfl rfl rfl) ?_
 rfl
theorem ok_laws_toFieldS {x : List (FieldT)} (hb : wList wField x ≤ 1048576) : KFn Tryz.prog 111 [.one (.dv [] (fieldsD (x)))] (.one (.key 7)) [(7, some (kcOf false (fieldsD (x))))] := by
 refine ⟨fn_intro Tryz.func111 rfl Tryz.ntmps111 Tryz.results111 rfl (fun C => ?_)⟩
 refine ok_fact (x := .tmp 0) (ev_tmp rfl) fun f0 => ?_
 iterate 6 refine z ?_
 refine o_make (k := 7) (n := ((x)).length) (zd := [.str (ByteArray.empty), .int .i64 (0)]) (cs := fillD eField [.str (ByteArray.empty), .int .i64 (0)] x 0) hT rfl rfl rfl rfl rfl rfl (ev_tmp rfl) (ev_tmp rfl) rfl rfl rfl (by have := wList_len wField x; omega) rfl rfl fillD_zero ?_
 iterate 7 refine z ?_
 refine ok_loop (ι := Nat) (fun zz => ⟨[(0, .one (.dv [] (fieldsD (x)))), (3, .one (.key 7)), (4, .one (.dv [] (.int .i64 ((zz : Int)))))], [], [(7, some (kcOf false (.sl 152 2 ((x).length) (fillD eField [.str (ByteArray.empty), .int .i64 (0)] x zz))))]⟩) (fun zz => zz ≤ x.length) (fun zz => x.length - zz) (0) ?_ (weak_sub ⟨rfl, rfl, rfl, trivial⟩ trivial ⟨rfl, trivial⟩ rfl) (fun zz hx => ?_)
 ·exact Nat.zero_le _
 obtain ⟨k, rfl⟩ : ∃ v, v = zz := ⟨_, rfl⟩
 replace hx : k ≤ x.length := hx
 have hw := fun h => wSum_succ wField x k h
 have hw2 := wSum_le wField x (k + 1)
 have hw3 : wList wField x = x.length + wSum wField x := rfl
 show Ok _ _ _ _ _ (⟨[(0, .one (.dv [] (fieldsD (x)))), (3, .one (.key 7)), (4, .one (.dv [] (.int .i64 ((k : Int)))))], [], [(7, some (kcOf false (.sl 152 2 ((x).length) (fillD eField [.str (ByteArray.empty), .int .i64 (0)] x k))))]⟩ : St)
 iterate 7 refine z ?_
 refine yQ rfl (fun c1 => ?_) fun c1 => ?_
 ·skip
  have d1 := of_decide_eq_true c1
  iterate 4 refine z ?_
  refine ok_region ?_
  iterate 6 refine z ?_
  refine zC Tryz.call115 ?_ (hf := ok_laws_toField)
  refine yO rfl rfl (pu_indexK (i := k) hT rfl rfl rfl (ev_tmp rfl) rfl (ev_tmp rfl) rfl (by show _ < ((x).length); omega)) rfl ?_
  refine o_storeE (js := []) (cs := fillD eField [.str (ByteArray.empty), .int .i64 (0)] x (k + 1)) hT rfl rfl rfl rfl (ev_tmp rfl) (ev_tmp rfl) rfl rfl rfl rfl (ow_cons' (ow_dv rfl) (ow_cons' (ow_dv rfl) ow_nil rfl) rfl) (by decide) (by decide) rfl (by show _ ≤ List.length (fillD eField [.str (ByteArray.empty), .int .i64 (0)] x k); rw [fillD_len (sz := 2) (fun _ => rfl) rfl]; omega) (fillD_succ (sz := 2) (fun _ => rfl) rfl (by omega) rfl) ?_
  simp only [killT, killB, SV.kill, CV.kill, kk, Nat.reduceBEq]
  refine ops_nil ?_
  iterate 2 refine z ?_
  refine ok_region ?_
  iterate 4 refine z ?_
  refine ⟨k + 1, ?_, ?_, weak_sub ⟨rfl, rfl, rfl, trivial⟩ trivial ⟨rfl, trivial⟩ rfl⟩
  ·omega
  ·omega
 ·skip
  have d1 := of_decide_eq_false c1
  iterate 9 refine z ?_
  refine ok_weak (σ' := ⟨[(2, .one (.key 7))], [], [(7, some (kcOf false (fieldsD (x))))]⟩) (weak_sub ⟨rfl, trivial⟩ trivial ⟨(congrArg (fun cs => some (some (KC.mk false 152 2 x.length cs))) (fillD_all (by omega))), trivial⟩ rfl) ?_
  refine z ?_
  refine fin1 (res_tmp rfl) ?_
  exact ⟨rfl, rfl⟩
theorem ok_laws_toRecord {x : RecT} (hb : wRecord x ≤ 1048576) : KFn Tryz.prog 101 [.agg [(.dv [] (fieldsD (x)))]] (.agg [(.key 6007)]) [(6007, some (kcOf false (fieldsD (x))))] := by
 refine ⟨fn_intro Tryz.func101 rfl Tryz.ntmps101 Tryz.results101 rfl (fun C => ?_)⟩
 refine yF 0 0 rfl rfl fun f0_0 => ?_
 iterate 10 refine z ?_
 refine zK 6000 Tryz.call111 ?_ (hf := ok_laws_toFieldS (by first | omega | (simp only [wKey, wField, wRecord, wItem, wStore, wIndexDef, wDatabase, wOp, wTx, wTxQueue] at hb ⊢; omega) | (have hq := hw (by omega); omega)))
 iterate 7 refine z ?_
 refine ok_weak (σ' := ⟨[(2, .box 2 0)], [(2, 91, [(.key 6007)])], [(6007, some (kcOf false (fieldsD (x))))]⟩) (weak_sub ⟨rfl, trivial⟩ ⟨rfl, trivial⟩ ⟨rfl, trivial⟩ rfl) ?_
 refine z ?_
 refine fin1 (res_cell hT rfl rfl rfl rfl) ?_
 exact ⟨rfl, rfl⟩
theorem ok_laws_toOp {x : OpT} (hb : wOp x ≤ 1048576) : KFn Tryz.prog 83 [.agg [(.dv [] (.int .i64 (x.1))), (.dv [] (.str (x.2.1))), (.dv [] (.int .i64 (x.2.2.1.1))), (.dv [] (.int .i64 (x.2.2.1.2.1))), (.dv [] (.str (x.2.2.1.2.2))), (.dv [] (fieldsD (x.2.2.2.1))), (.dv [] (.str (x.2.2.2.2)))]] (.agg [(.dv [] (.int .i64 (x.1))), (.dv [] (.str (x.2.1))), (.dv [] (.int .i64 (x.2.2.1.1))), (.dv [] (.int .i64 (x.2.2.1.2.1))), (.dv [] (.str (x.2.2.1.2.2))), (.key 22007), (.dv [] (.str (x.2.2.2.2)))]) [(22007, some (kcOf false (fieldsD (x.2.2.2.1))))] := by
 refine ⟨fn_intro Tryz.func83 rfl Tryz.ntmps83 Tryz.results83 rfl (fun C => ?_)⟩
 refine yF 0 0 rfl rfl fun f0_0 => ?_
 refine yF 0 1 rfl rfl fun f0_1 => ?_
 refine yF 0 2 rfl rfl fun f0_2 => ?_
 refine yF 0 3 rfl rfl fun f0_3 => ?_
 refine yF 0 4 rfl rfl fun f0_4 => ?_
 refine yF 0 5 rfl rfl fun f0_5 => ?_
 refine yF 0 6 rfl rfl fun f0_6 => ?_
 iterate 22 refine z ?_
 refine zC Tryz.call100 ?_ (hf := ok_laws_toKey)
 iterate 6 refine z ?_
 refine zK 16000 Tryz.call101 ?_ (hf := ok_laws_toRecord (by first | omega | (simp only [wKey, wField, wRecord, wItem, wStore, wIndexDef, wDatabase, wOp, wTx, wTxQueue] at hb ⊢; omega) | (have hq := hw (by omega); omega)))
 iterate 13 refine z ?_
 refine ok_weak (σ' := ⟨[(2, .box 2 0)], [(2, 93, [(.dv [] (.int .i64 (x.1))), (.dv [] (.str (x.2.1))), (.dv [] (.int .i64 (x.2.2.1.1))), (.dv [] (.int .i64 (x.2.2.1.2.1))), (.dv [] (.str (x.2.2.1.2.2))), (.key 22007), (.dv [] (.str (x.2.2.2.2)))])], [(22007, some (kcOf false (fieldsD (x.2.2.2.1))))]⟩) (weak_sub ⟨rfl, trivial⟩ ⟨rfl, trivial⟩ ⟨rfl, trivial⟩ rfl) ?_
 refine z ?_
 refine fin1 (res_cell hT rfl rfl rfl rfl) ?_
 exact ⟨rfl, rfl⟩
theorem ok_laws_eqKey {x : KeyT}  : PFn Tryz.prog 108 [.agg [(.dv [] (.int .i64 (x.1))), (.dv [] (.int .i64 (x.2.1))), (.dv [] (.str (x.2.2)))], .agg [(.dv [] (.int .i64 (x.1))), (.dv [] (.int .i64 (x.2.1))), (.dv [] (.str (x.2.2)))]] (.one (.dv [] (.bool (true)))) := by
 refine ⟨fn_intro Tryz.func108 rfl Tryz.ntmps108 Tryz.results108 rfl (fun C => ?_)⟩
 refine yF 0 0 rfl rfl fun f0_0 => ?_
 refine yF 0 1 rfl rfl fun f0_1 => ?_
 refine yF 0 2 rfl rfl fun f0_2 => ?_
 refine yF 1 0 rfl rfl fun f1_0 => ?_
 refine yF 1 1 rfl rfl fun f1_1 => ?_
 refine yF 1 2 rfl rfl fun f1_2 => ?_
 iterate 13 refine z ?_
 refine yQ rfl (fun c1 => ?_) fun c1 => ?_
 ·skip
  have d1 := nd_t c1
  iterate 6 refine z ?_
  first | rfl | (exfalso; simp_all [sEq])
 ·skip
  have d1 := nd_f c1
  iterate 10 refine z ?_
  refine yQ rfl (fun c2 => ?_) fun c2 => ?_
  ·skip
   have d2 := nd_t c2
   iterate 6 refine z ?_
   first | rfl | (exfalso; simp_all [sEq])
  ·skip
   have d2 := nd_f c2
   iterate 10 refine z ?_
   refine yQ rfl (fun c3 => ?_) fun c3 => ?_
   ·skip
    iterate 6 refine z ?_
    first | rfl | (exfalso; simp_all [sEq])
   ·skip
    iterate 7 refine z ?_
    first | rfl | (exfalso; simp_all [sEq])
theorem ok_laws_eqField {x : FieldT}  : PFn Tryz.prog 116 [.agg [(.dv [] (.str (x.1))), (.dv [] (.int .i64 (x.2)))], .agg [(.dv [] (.str (x.1))), (.dv [] (.int .i64 (x.2)))]] (.one (.dv [] (.bool (true)))) := by
 refine ⟨fn_intro Tryz.func116 rfl Tryz.ntmps116 Tryz.results116 rfl (fun C => ?_)⟩
 refine yF 0 0 rfl rfl fun f0_0 => ?_
 refine yF 0 1 rfl rfl fun f0_1 => ?_
 refine yF 1 0 rfl rfl fun f1_0 => ?_
 refine yF 1 1 rfl rfl fun f1_1 => ?_
 iterate 13 refine z ?_
 refine yQ rfl (fun c1 => ?_) fun c1 => ?_
 ·skip
  iterate 6 refine z ?_
  first | rfl | (exfalso; simp_all [sEq])
 ·skip
  iterate 10 refine z ?_
  refine yQ rfl (fun c2 => ?_) fun c2 => ?_
  ·skip
   have d2 := nd_t c2
   iterate 6 refine z ?_
   first | rfl | (exfalso; simp_all [sEq])
  ·skip
   have d2 := nd_f c2
   iterate 7 refine z ?_
   first | rfl | (exfalso; simp_all [sEq])
theorem ok_laws_eqFieldS {x : List (FieldT)}  : PFn Tryz.prog 113 [.one (.dv [] (fieldsD (x))), .one (.dv [] (fieldsD (x)))] (.one (.dv [] (.bool (true)))) := by
 refine ⟨fn_intro Tryz.func113 rfl Tryz.ntmps113 Tryz.results113 rfl (fun C => ?_)⟩
 refine ok_fact (x := .tmp 0) (ev_tmp rfl) fun f0 => ?_
 refine ok_fact (x := .tmp 1) (ev_tmp rfl) fun f1 => ?_
 iterate 11 refine z ?_
 refine yQ rfl (fun c1 => ?_) fun c1 => ?_
 ·skip
  have d1 := nd_t c1
  iterate 6 refine z ?_
  first | rfl | (exfalso; simp_all [sEq])
 ·skip
  have d1 := nd_f c1
  iterate 7 refine z ?_
  refine ok_loop (ι := Nat) (fun zz => ⟨[(0, .one (.dv [] (fieldsD (x)))), (1, .one (.dv [] (fieldsD (x)))), (5, .one (.dv [] (.int .i64 ((zz : Int)))))], [], []⟩) (fun zz => zz ≤ x.length) (fun zz => x.length - zz) (0) ?_ (weak_sub ⟨rfl, rfl, rfl, trivial⟩ trivial trivial rfl) (fun zz hx => ?_)
  ·exact Nat.zero_le _
  obtain ⟨k, rfl⟩ : ∃ v, v = zz := ⟨_, rfl⟩
  replace hx : k ≤ x.length := hx
  show Ok _ _ _ _ _ (⟨[(0, .one (.dv [] (fieldsD (x)))), (1, .one (.dv [] (fieldsD (x)))), (5, .one (.dv [] (.int .i64 ((k : Int)))))], [], []⟩ : St)
  iterate 7 refine z ?_
  refine yQ rfl (fun c2 => ?_) fun c2 => ?_
  ·skip
   have d2 := of_decide_eq_true c2
   iterate 4 refine z ?_
   refine ok_seq ?_
   refine ok_regionD (oB := []) (oK := []) (by kernel_rfl) rfl rfl ?_
   refine zD 0 ?_
   refine zD 1 ?_
   refine zD 2 ?_
   refine zD 3 ?_
   refine zD 4 ?_
   refine zD 5 ?_
   refine zD 6 ?_
   refine zD 7 ?_
   refine d_call 8 rfl (by kernel_rfl) rfl rfl rfl Tryz.call116 ok_laws_eqField (as_cons (ev_tmp rfl) (ag_agg (ag_cons ac_dv (ag_cons ac_dv ag_nil))) (as_cons (ev_tmp rfl) (ag_agg (ag_cons ac_dv (ag_cons ac_dv ag_nil))) as_nil)) rfl rfl rfl rfl ?_
   refine zD 9 ?_
   refine d_done (by kernel_rfl) ?_
   refine z ?_
   refine yQ rfl (fun c3 => ?_) fun c3 => ?_
   ·skip
    iterate 10 refine z ?_
    first | rfl | (exfalso; simp_all [sEq])
   ·skip
    iterate 3 refine z ?_
    refine ok_region ?_
    iterate 4 refine z ?_
    refine ⟨k + 1, ?_, ?_, weak_sub ⟨rfl, rfl, rfl, trivial⟩ trivial trivial rfl⟩
    ·omega
    ·omega
  ·skip
   have d2 := of_decide_eq_false c2
   iterate 10 refine z ?_
   first | rfl | (exfalso; simp_all [sEq])
theorem ok_laws_eqRecord {x : RecT}  : PFn Tryz.prog 109 [.agg [(.dv [] (fieldsD (x)))], .agg [(.dv [] (fieldsD (x)))]] (.one (.dv [] (.bool (true)))) := by
 refine ⟨fn_intro Tryz.func109 rfl Tryz.ntmps109 Tryz.results109 rfl (fun C => ?_)⟩
 refine yF 0 0 rfl rfl fun f0_0 => ?_
 refine yF 1 0 rfl rfl fun f1_0 => ?_
 iterate 11 refine z ?_
 refine zC Tryz.call113 ?_ (hf := ok_laws_eqFieldS)
 iterate 2 refine z ?_
 refine yQ rfl (fun c1 => ?_) fun c1 => ?_
 ·skip
  iterate 6 refine z ?_
  first | rfl | (exfalso; simp_all [sEq])
 ·skip
  iterate 7 refine z ?_
  first | rfl | (exfalso; simp_all [sEq])
theorem ok_laws_eqOp {x : OpT}  : PFn Tryz.prog 96 [.agg [(.dv [] (.int .i64 (x.1))), (.dv [] (.str (x.2.1))), (.dv [] (.int .i64 (x.2.2.1.1))), (.dv [] (.int .i64 (x.2.2.1.2.1))), (.dv [] (.str (x.2.2.1.2.2))), (.dv [] (fieldsD (x.2.2.2.1))), (.dv [] (.str (x.2.2.2.2)))], .agg [(.dv [] (.int .i64 (x.1))), (.dv [] (.str (x.2.1))), (.dv [] (.int .i64 (x.2.2.1.1))), (.dv [] (.int .i64 (x.2.2.1.2.1))), (.dv [] (.str (x.2.2.1.2.2))), (.dv [] (fieldsD (x.2.2.2.1))), (.dv [] (.str (x.2.2.2.2)))]] (.one (.dv [] (.bool (true)))) := by
 refine ⟨fn_intro Tryz.func96 rfl Tryz.ntmps96 Tryz.results96 rfl (fun C => ?_)⟩
 refine yF 0 0 rfl rfl fun f0_0 => ?_
 refine yF 0 1 rfl rfl fun f0_1 => ?_
 refine yF 0 2 rfl rfl fun f0_2 => ?_
 refine yF 0 3 rfl rfl fun f0_3 => ?_
 refine yF 0 4 rfl rfl fun f0_4 => ?_
 refine yF 0 5 rfl rfl fun f0_5 => ?_
 refine yF 0 6 rfl rfl fun f0_6 => ?_
 refine yF 1 0 rfl rfl fun f1_0 => ?_
 refine yF 1 1 rfl rfl fun f1_1 => ?_
 refine yF 1 2 rfl rfl fun f1_2 => ?_
 refine yF 1 3 rfl rfl fun f1_3 => ?_
 refine yF 1 4 rfl rfl fun f1_4 => ?_
 refine yF 1 5 rfl rfl fun f1_5 => ?_
 refine yF 1 6 rfl rfl fun f1_6 => ?_
 iterate 13 refine z ?_
 refine yQ rfl (fun c1 => ?_) fun c1 => ?_
 ·skip
  have d1 := nd_t c1
  iterate 6 refine z ?_
  first | rfl | (exfalso; simp_all [sEq])
 ·skip
  have d1 := nd_f c1
  iterate 10 refine z ?_
  refine yQ rfl (fun c2 => ?_) fun c2 => ?_
  ·skip
   iterate 6 refine z ?_
   first | rfl | (exfalso; simp_all [sEq])
  ·skip
   iterate 8 refine z ?_
   refine zC Tryz.call108 ?_ (hf := ok_laws_eqKey)
   iterate 2 refine z ?_
   refine yQ rfl (fun c3 => ?_) fun c3 => ?_
   ·skip
    iterate 6 refine z ?_
    first | rfl | (exfalso; simp_all [sEq])
   ·skip
    iterate 8 refine z ?_
    refine zC Tryz.call109 ?_ (hf := ok_laws_eqRecord)
    iterate 2 refine z ?_
    refine yQ rfl (fun c4 => ?_) fun c4 => ?_
    ·skip
     iterate 6 refine z ?_
     first | rfl | (exfalso; simp_all [sEq])
    ·skip
     iterate 10 refine z ?_
     refine yQ rfl (fun c5 => ?_) fun c5 => ?_
     ·skip
      iterate 6 refine z ?_
      first | rfl | (exfalso; simp_all [sEq])
     ·skip
      iterate 7 refine z ?_
      first | rfl | (exfalso; simp_all [sEq])
end Go.Proofs.YtcgmpjedhbhplaaGreat

namespace Go.Proofs.YtcgmpjedhbhplaaGreat
open Go.RowKit
open Go.Proofs
set_option linter.unusedVariables false
set_option linter.unusedSimpArgs false
theorem ok_laws_szOpS {x : List (OpT)} {left : Int} (h0 : 0 ≤ left) (h1 : left ≤ 1048576) : PFn Tryz.prog 65 [.one (.dv [] (opsD (x))), .one (.dv [] (.int .i64 (left)))] (.one (.dv [] (.int .i64 (szR (left) (wList wOp x))))) := by
 refine ⟨fn_intro Tryz.func65 rfl Tryz.ntmps65 Tryz.results65 rfl (fun C => ?_)⟩
 refine ok_fact (x := .tmp 0) (ev_tmp rfl) fun f0 => ?_
 refine ok_fact (x := .tmp 1) (ev_tmp rfl) fun f1 => ?_
 iterate 15 refine z ?_
 refine yQ rfl (fun c1 => ?_) fun c1 => ?_
 ·skip
  have d1 := of_decide_eq_true c1
  first | have q1 := szR_n d1 | skip
  iterate 6 refine z ?_
  have hh := szR_cases left (wList wOp x); simp only [wList] at hh ⊢ <;> omega
 ·skip
  have d1 := of_decide_eq_false c1
  first | have q1 := szR_nn d1 | skip
  iterate 7 refine z ?_
  refine ok_loop (ι := Nat × Int) (fun zz => ⟨[(0, .one (.dv [] (opsD (x)))), (1, .one (.dv [] (.int .i64 (zz.2)))), (5, .one (.dv [] (.int .i64 ((zz.1 : Int)))))], [], []⟩) (fun zz => zz.1 ≤ x.length ∧ 0 ≤ zz.2 ∧ zz.2 + (wSum wOp (x.take zz.1) : Int) = left - (x.length : Int)) (fun zz => x.length - zz.1) ((0, left - (x.length : Int))) ?_ (weak_sub ⟨rfl, rfl, rfl, trivial⟩ trivial trivial rfl) (fun zz hx => ?_)
  ·exact ⟨Nat.zero_le _, by omega, by simp [wSum]⟩
  obtain ⟨k, l⟩ := zz
  replace hx : k ≤ x.length ∧ 0 ≤ l ∧ l + (wSum wOp (x.take k) : Int) = left - (x.length : Int) := hx
  obtain ⟨hk, hl, he⟩ := hx
  have hw := fun h => wSum_succ wOp x k h
  show Ok _ _ _ _ _ (⟨[(0, .one (.dv [] (opsD (x)))), (1, .one (.dv [] (.int .i64 (l)))), (5, .one (.dv [] (.int .i64 ((k : Int)))))], [], []⟩ : St)
  iterate 7 refine z ?_
  refine yQ rfl (fun c2 => ?_) fun c2 => ?_
  ·skip
   have d2 := of_decide_eq_true c2
   first | have q2 := szR_n d2 | skip
   iterate 10 refine z ?_
   refine zC Tryz.call81 ?_ (hf := ok_laws_szOp (by omega) (by omega))
   iterate 6 refine z ?_
   refine yQ rfl (fun c3 => ?_) fun c3 => ?_
   ·skip
    have d3 := of_decide_eq_true c3
    first | have q3 := szR_n d3 | skip
    iterate 10 refine z ?_
    have hw' := hw (by omega); have hh := szR_cases left (wList wOp x); simp only [wList] at hh ⊢ <;> omega
   ·skip
    have d3 := of_decide_eq_false c3
    first | have q3 := szR_nn d3 | skip
    iterate 3 refine z ?_
    refine ok_region ?_
    iterate 4 refine z ?_
    refine ⟨(k + 1, szR l (wOp (x.getD (k : Int).toNat default))), ?_, ?_, weak_sub ⟨rfl, rfl, rfl, trivial⟩ trivial trivial rfl⟩
    ·have hw' := hw (by omega)
     dsimp only
     exact ⟨by omega, by omega, by omega⟩
    ·omega
  ·skip
   have d2 := of_decide_eq_false c2
   first | have q2 := szR_nn d2 | skip
   iterate 11 refine z ?_
   have hw' := wSum_all wOp x k (by omega); have hh := szR_cases left (wList wOp x); simp only [wList] at hh ⊢ <;> omega
theorem ok_laws_toOpS {x : List (OpT)} (hb : wList wOp x ≤ 1048576) : KFn Tryz.prog 69 [.one (.dv [] (opsD (x)))] (.one (.key 7)) [(7, some (kcOf false (opsD (x))))] := by
 refine ⟨fn_intro Tryz.func69 rfl Tryz.ntmps69 Tryz.results69 rfl (fun C => ?_)⟩
 refine ok_fact (x := .tmp 0) (ev_tmp rfl) fun f0 => ?_
 iterate 6 refine z ?_
 refine o_make (k := 7) (n := ((x)).length) (zd := [.int .i64 (0), .str (ByteArray.empty), .int .i64 (0), .int .i64 (0), .str (ByteArray.empty), .sl 152 2 0 [], .str (ByteArray.empty)]) (cs := fillD eOp [.int .i64 (0), .str (ByteArray.empty), .int .i64 (0), .int .i64 (0), .str (ByteArray.empty), .sl 152 2 0 [], .str (ByteArray.empty)] x 0) hT rfl rfl rfl rfl rfl rfl (ev_tmp rfl) (ev_tmp rfl) rfl rfl rfl (by have := wList_len wOp x; omega) rfl rfl fillD_zero ?_
 iterate 7 refine z ?_
 refine ok_loop (ι := Nat) (fun zz => ⟨[(0, .one (.dv [] (opsD (x)))), (3, .one (.key 7)), (4, .one (.dv [] (.int .i64 ((zz : Int)))))], [], [(7, some (kcOf false (.sl 93 7 ((x).length) (fillD eOp [.int .i64 (0), .str (ByteArray.empty), .int .i64 (0), .int .i64 (0), .str (ByteArray.empty), .sl 152 2 0 [], .str (ByteArray.empty)] x zz))))]⟩) (fun zz => zz ≤ x.length) (fun zz => x.length - zz) (0) ?_ (weak_sub ⟨rfl, rfl, rfl, trivial⟩ trivial ⟨rfl, trivial⟩ rfl) (fun zz hx => ?_)
 ·exact Nat.zero_le _
 obtain ⟨k, rfl⟩ : ∃ v, v = zz := ⟨_, rfl⟩
 replace hx : k ≤ x.length := hx
 have hw := fun h => wSum_succ wOp x k h
 have hw2 := wSum_le wOp x (k + 1)
 have hw3 : wList wOp x = x.length + wSum wOp x := rfl
 show Ok _ _ _ _ _ (⟨[(0, .one (.dv [] (opsD (x)))), (3, .one (.key 7)), (4, .one (.dv [] (.int .i64 ((k : Int)))))], [], [(7, some (kcOf false (.sl 93 7 ((x).length) (fillD eOp [.int .i64 (0), .str (ByteArray.empty), .int .i64 (0), .int .i64 (0), .str (ByteArray.empty), .sl 152 2 0 [], .str (ByteArray.empty)] x k))))]⟩ : St)
 iterate 7 refine z ?_
 refine yQ rfl (fun c1 => ?_) fun c1 => ?_
 ·skip
  have d1 := of_decide_eq_true c1
  iterate 4 refine z ?_
  refine ok_region ?_
  iterate 6 refine z ?_
  refine zK 20000 Tryz.call83 ?_ (hf := ok_laws_toOp (by first | omega | (simp only [wKey, wField, wRecord, wItem, wStore, wIndexDef, wDatabase, wOp, wTx, wTxQueue] at hb ⊢; omega) | (have hq := hw (by omega); omega)))
  refine yO rfl rfl (pu_indexK (i := k) hT rfl rfl rfl (ev_tmp rfl) rfl (ev_tmp rfl) rfl (by show _ < ((x).length); omega)) rfl ?_
  refine o_storeE (js := [42007]) (cs := fillD eOp [.int .i64 (0), .str (ByteArray.empty), .int .i64 (0), .int .i64 (0), .str (ByteArray.empty), .sl 152 2 0 [], .str (ByteArray.empty)] x (k + 1)) hT rfl rfl rfl rfl (ev_tmp rfl) (ev_tmp rfl) rfl rfl rfl rfl (ow_cons' (ow_dv rfl) (ow_cons' (ow_dv rfl) (ow_cons' (ow_dv rfl) (ow_cons' (ow_dv rfl) (ow_cons' (ow_dv rfl) (ow_cons' (ow_key rfl) (ow_cons' (ow_dv rfl) ow_nil rfl) rfl) rfl) rfl) rfl) rfl) rfl) (by decide) (by decide) rfl (by show _ ≤ List.length (fillD eOp [.int .i64 (0), .str (ByteArray.empty), .int .i64 (0), .int .i64 (0), .str (ByteArray.empty), .sl 152 2 0 [], .str (ByteArray.empty)] x k); rw [fillD_len (sz := 7) (fun _ => rfl) rfl]; omega) (fillD_succ (sz := 7) (fun _ => rfl) rfl (by omega) rfl) ?_
  simp only [killT, killB, SV.kill, CV.kill, kk, Nat.reduceBEq]
  refine ops_nil ?_
  iterate 2 refine z ?_
  refine ok_region ?_
  iterate 4 refine z ?_
  refine ⟨k + 1, ?_, ?_, weak_sub ⟨rfl, rfl, rfl, trivial⟩ trivial ⟨rfl, trivial⟩ rfl⟩
  ·omega
  ·omega
 ·skip
  have d1 := of_decide_eq_false c1
  iterate 9 refine z ?_
  refine ok_weak (σ' := ⟨[(2, .one (.key 7))], [], [(7, some (kcOf false (opsD (x))))]⟩) (weak_sub ⟨rfl, trivial⟩ trivial ⟨(congrArg (fun cs => some (some (KC.mk false 93 7 x.length cs))) (fillD_all (by omega))), trivial⟩ rfl) ?_
  refine z ?_
  refine fin1 (res_tmp rfl) ?_
  exact ⟨rfl, rfl⟩
theorem ok_laws_eqOpS {x : List (OpT)}  : PFn Tryz.prog 75 [.one (.dv [] (opsD (x))), .one (.dv [] (opsD (x)))] (.one (.dv [] (.bool (true)))) := by
 refine ⟨fn_intro Tryz.func75 rfl Tryz.ntmps75 Tryz.results75 rfl (fun C => ?_)⟩
 refine ok_fact (x := .tmp 0) (ev_tmp rfl) fun f0 => ?_
 refine ok_fact (x := .tmp 1) (ev_tmp rfl) fun f1 => ?_
 iterate 11 refine z ?_
 refine yQ rfl (fun c1 => ?_) fun c1 => ?_
 ·skip
  have d1 := nd_t c1
  iterate 6 refine z ?_
  first | rfl | (exfalso; simp_all [sEq])
 ·skip
  have d1 := nd_f c1
  iterate 7 refine z ?_
  refine ok_loop (ι := Nat) (fun zz => ⟨[(0, .one (.dv [] (opsD (x)))), (1, .one (.dv [] (opsD (x)))), (5, .one (.dv [] (.int .i64 ((zz : Int)))))], [], []⟩) (fun zz => zz ≤ x.length) (fun zz => x.length - zz) (0) ?_ (weak_sub ⟨rfl, rfl, rfl, trivial⟩ trivial trivial rfl) (fun zz hx => ?_)
  ·exact Nat.zero_le _
  obtain ⟨k, rfl⟩ : ∃ v, v = zz := ⟨_, rfl⟩
  replace hx : k ≤ x.length := hx
  show Ok _ _ _ _ _ (⟨[(0, .one (.dv [] (opsD (x)))), (1, .one (.dv [] (opsD (x)))), (5, .one (.dv [] (.int .i64 ((k : Int)))))], [], []⟩ : St)
  iterate 7 refine z ?_
  refine yQ rfl (fun c2 => ?_) fun c2 => ?_
  ·skip
   have d2 := of_decide_eq_true c2
   iterate 4 refine z ?_
   refine ok_seq ?_
   refine ok_regionD (oB := []) (oK := []) (by kernel_rfl) rfl rfl ?_
   refine zD 0 ?_
   refine zD 1 ?_
   refine zD 2 ?_
   refine zD 3 ?_
   refine zD 4 ?_
   refine zD 5 ?_
   refine zD 6 ?_
   refine zD 7 ?_
   refine d_call 8 rfl (by kernel_rfl) rfl rfl rfl Tryz.call96 ok_laws_eqOp (as_cons (ev_tmp rfl) (ag_agg (ag_cons ac_dv (ag_cons ac_dv (ag_cons ac_dv (ag_cons ac_dv (ag_cons ac_dv (ag_cons ac_dv (ag_cons ac_dv ag_nil)))))))) (as_cons (ev_tmp rfl) (ag_agg (ag_cons ac_dv (ag_cons ac_dv (ag_cons ac_dv (ag_cons ac_dv (ag_cons ac_dv (ag_cons ac_dv (ag_cons ac_dv ag_nil)))))))) as_nil)) rfl rfl rfl rfl ?_
   refine zD 9 ?_
   refine d_done (by kernel_rfl) ?_
   refine z ?_
   refine yQ rfl (fun c3 => ?_) fun c3 => ?_
   ·skip
    iterate 10 refine z ?_
    first | rfl | (exfalso; simp_all [sEq])
   ·skip
    iterate 3 refine z ?_
    refine ok_region ?_
    iterate 4 refine z ?_
    refine ⟨k + 1, ?_, ?_, weak_sub ⟨rfl, rfl, rfl, trivial⟩ trivial trivial rfl⟩
    ·omega
    ·omega
  ·skip
   have d2 := of_decide_eq_false c2
   iterate 10 refine z ?_
   first | rfl | (exfalso; simp_all [sEq])
end Go.Proofs.YtcgmpjedhbhplaaGreat

namespace Go.Proofs.YtcgmpjedhbhplaaGreat
open Go.RowKit
open Go.Proofs
set_option linter.unusedVariables false
set_option linter.unusedSimpArgs false
theorem ok_laws_szItem {x : ItemT} {left : Int} (h0 : 0 ≤ left) (h1 : left ≤ 1048576) : PFn Tryz.prog 80 [.agg [(.dv [] (.int .i64 (x.1.1))), (.dv [] (.int .i64 (x.1.2.1))), (.dv [] (.str (x.1.2.2))), (.dv [] (fieldsD (x.2)))], .one (.dv [] (.int .i64 (left)))] (.one (.dv [] (.int .i64 (szR (left) (wItem x))))) := by
 refine ⟨fn_intro Tryz.func80 rfl Tryz.ntmps80 Tryz.results80 rfl (fun C => ?_)⟩
 refine yF 0 0 rfl rfl fun f0_0 => ?_
 refine yF 0 1 rfl rfl fun f0_1 => ?_
 refine yF 0 2 rfl rfl fun f0_2 => ?_
 refine yF 0 3 rfl rfl fun f0_3 => ?_
 refine ok_fact (x := .tmp 1) (ev_tmp rfl) fun f1 => ?_
 iterate 8 refine z ?_
 refine zC Tryz.call98 ?_ (hf := ok_laws_szKey (by omega) (by omega))
 iterate 7 refine z ?_
 refine yQ rfl (fun c1 => ?_) fun c1 => ?_
 ·skip
  have d1 := of_decide_eq_true c1
  first | have q1 := szR_n d1 | skip
  iterate 6 refine z ?_
  have hh := szR_cases left (wItem x); simp only [wItem] at hh ⊢ <;> omega
 ·skip
  have d1 := of_decide_eq_false c1
  first | have q1 := szR_nn d1 | skip
  iterate 6 refine z ?_
  refine zC Tryz.call99 ?_ (hf := ok_laws_szRecord (by omega) (by omega))
  iterate 7 refine z ?_
  refine yQ rfl (fun c2 => ?_) fun c2 => ?_
  ·skip
   have d2 := of_decide_eq_true c2
   first | have q2 := szR_n d2 | skip
   iterate 6 refine z ?_
   have hh := szR_cases left (wItem x); simp only [wItem] at hh ⊢ <;> omega
  ·skip
   have d2 := of_decide_eq_false c2
   first | have q2 := szR_nn d2 | skip
   iterate 8 refine z ?_
   have hh := szR_cases left (wItem x); simp only [wItem] at hh ⊢ <;> omega
theorem ok_laws_szItemS {x : List (ItemT)} {left : Int} (h0 : 0 ≤ left) (h1 : left ≤ 1048576) : PFn Tryz.prog 64 [.one (.dv [] (itemsD (x))), .one (.dv [] (.int .i64 (left)))] (.one (.dv [] (.int .i64 (szR (left) (wList wItem x))))) := by
 refine ⟨fn_intro Tryz.func64 rfl Tryz.ntmps64 Tryz.results64 rfl (fun C => ?_)⟩
 refine ok_fact (x := .tmp 0) (ev_tmp rfl) fun f0 => ?_
 refine ok_fact (x := .tmp 1) (ev_tmp rfl) fun f1 => ?_
 iterate 15 refine z ?_
 refine yQ rfl (fun c1 => ?_) fun c1 => ?_
 ·skip
  have d1 := of_decide_eq_true c1
  first | have q1 := szR_n d1 | skip
  iterate 6 refine z ?_
  have hh := szR_cases left (wList wItem x); simp only [wList] at hh ⊢ <;> omega
 ·skip
  have d1 := of_decide_eq_false c1
  first | have q1 := szR_nn d1 | skip
  iterate 7 refine z ?_
  refine ok_loop (ι := Nat × Int) (fun zz => ⟨[(0, .one (.dv [] (itemsD (x)))), (1, .one (.dv [] (.int .i64 (zz.2)))), (5, .one (.dv [] (.int .i64 ((zz.1 : Int)))))], [], []⟩) (fun zz => zz.1 ≤ x.length ∧ 0 ≤ zz.2 ∧ zz.2 + (wSum wItem (x.take zz.1) : Int) = left - (x.length : Int)) (fun zz => x.length - zz.1) ((0, left - (x.length : Int))) ?_ (weak_sub ⟨rfl, rfl, rfl, trivial⟩ trivial trivial rfl) (fun zz hx => ?_)
  ·exact ⟨Nat.zero_le _, by omega, by simp [wSum]⟩
  obtain ⟨k, l⟩ := zz
  replace hx : k ≤ x.length ∧ 0 ≤ l ∧ l + (wSum wItem (x.take k) : Int) = left - (x.length : Int) := hx
  obtain ⟨hk, hl, he⟩ := hx
  have hw := fun h => wSum_succ wItem x k h
  show Ok _ _ _ _ _ (⟨[(0, .one (.dv [] (itemsD (x)))), (1, .one (.dv [] (.int .i64 (l)))), (5, .one (.dv [] (.int .i64 ((k : Int)))))], [], []⟩ : St)
  iterate 7 refine z ?_
  refine yQ rfl (fun c2 => ?_) fun c2 => ?_
  ·skip
   have d2 := of_decide_eq_true c2
   first | have q2 := szR_n d2 | skip
   iterate 10 refine z ?_
   refine zC Tryz.call80 ?_ (hf := ok_laws_szItem (by omega) (by omega))
   iterate 6 refine z ?_
   refine yQ rfl (fun c3 => ?_) fun c3 => ?_
   ·skip
    have d3 := of_decide_eq_true c3
    first | have q3 := szR_n d3 | skip
    iterate 10 refine z ?_
    have hw' := hw (by omega); have hh := szR_cases left (wList wItem x); simp only [wList] at hh ⊢ <;> omega
   ·skip
    have d3 := of_decide_eq_false c3
    first | have q3 := szR_nn d3 | skip
    iterate 3 refine z ?_
    refine ok_region ?_
    iterate 4 refine z ?_
    refine ⟨(k + 1, szR l (wItem (x.getD (k : Int).toNat default))), ?_, ?_, weak_sub ⟨rfl, rfl, rfl, trivial⟩ trivial trivial rfl⟩
    ·have hw' := hw (by omega)
     dsimp only
     exact ⟨by omega, by omega, by omega⟩
    ·omega
  ·skip
   have d2 := of_decide_eq_false c2
   first | have q2 := szR_nn d2 | skip
   iterate 11 refine z ?_
   have hw' := wSum_all wItem x k (by omega); have hh := szR_cases left (wList wItem x); simp only [wList] at hh ⊢ <;> omega
theorem ok_laws_szStore {x : StoreT} {left : Int} (h0 : 0 ≤ left) (h1 : left ≤ 1048576) : PFn Tryz.prog 38 [.agg [(.dv [] (.str (x.1))), (.dv [] (itemsD (x.2.1))), (.dv [] (.int .i64 (x.2.2)))], .one (.dv [] (.int .i64 (left)))] (.one (.dv [] (.int .i64 (szR (left) (wStore x))))) := by
 refine ⟨fn_intro Tryz.func38 rfl Tryz.ntmps38 Tryz.results38 rfl (fun C => ?_)⟩
 refine yF 0 0 rfl rfl fun f0_0 => ?_
 refine yF 0 1 rfl rfl fun f0_1 => ?_
 refine yF 0 2 rfl rfl fun f0_2 => ?_
 refine ok_fact (x := .tmp 1) (ev_tmp rfl) fun f1 => ?_
 iterate 17 refine z ?_
 refine yQ rfl (fun c1 => ?_) fun c1 => ?_
 ·skip
  have d1 := of_decide_eq_true c1
  first | have q1 := szR_n d1 | skip
  iterate 6 refine z ?_
  have hh := szR_cases left (wStore x); simp only [wStore] at hh ⊢ <;> omega
 ·skip
  have d1 := of_decide_eq_false c1
  first | have q1 := szR_nn d1 | skip
  iterate 6 refine z ?_
  refine zC Tryz.call64 ?_ (hf := ok_laws_szItemS (by omega) (by omega))
  iterate 7 refine z ?_
  refine yQ rfl (fun c2 => ?_) fun c2 => ?_
  ·skip
   have d2 := of_decide_eq_true c2
   first | have q2 := szR_n d2 | skip
   iterate 6 refine z ?_
   have hh := szR_cases left (wStore x); simp only [wStore] at hh ⊢ <;> omega
  ·skip
   have d2 := of_decide_eq_false c2
   first | have q2 := szR_nn d2 | skip
   iterate 8 refine z ?_
   have hh := szR_cases left (wStore x); simp only [wStore] at hh ⊢ <;> omega
theorem ok_laws_toItem {x : ItemT} (hb : wItem x ≤ 1048576) : KFn Tryz.prog 82 [.agg [(.dv [] (.int .i64 (x.1.1))), (.dv [] (.int .i64 (x.1.2.1))), (.dv [] (.str (x.1.2.2))), (.dv [] (fieldsD (x.2)))]] (.agg [(.dv [] (.int .i64 (x.1.1))), (.dv [] (.int .i64 (x.1.2.1))), (.dv [] (.str (x.1.2.2))), (.key 16007)]) [(16007, some (kcOf false (fieldsD (x.2))))] := by
 refine ⟨fn_intro Tryz.func82 rfl Tryz.ntmps82 Tryz.results82 rfl (fun C => ?_)⟩
 refine yF 0 0 rfl rfl fun f0_0 => ?_
 refine yF 0 1 rfl rfl fun f0_1 => ?_
 refine yF 0 2 rfl rfl fun f0_2 => ?_
 refine yF 0 3 rfl rfl fun f0_3 => ?_
 iterate 10 refine z ?_
 refine zC Tryz.call100 ?_ (hf := ok_laws_toKey)
 iterate 6 refine z ?_
 refine zK 10000 Tryz.call101 ?_ (hf := ok_laws_toRecord (by first | omega | (simp only [wKey, wField, wRecord, wItem, wStore, wIndexDef, wDatabase, wOp, wTx, wTxQueue] at hb ⊢; omega) | (have hq := hw (by omega); omega)))
 iterate 7 refine z ?_
 refine ok_weak (σ' := ⟨[(2, .box 2 0)], [(2, 95, [(.dv [] (.int .i64 (x.1.1))), (.dv [] (.int .i64 (x.1.2.1))), (.dv [] (.str (x.1.2.2))), (.key 16007)])], [(16007, some (kcOf false (fieldsD (x.2))))]⟩) (weak_sub ⟨rfl, trivial⟩ ⟨rfl, trivial⟩ ⟨rfl, trivial⟩ rfl) ?_
 refine z ?_
 refine fin1 (res_cell hT rfl rfl rfl rfl) ?_
 exact ⟨rfl, rfl⟩
theorem ok_laws_toItemS {x : List (ItemT)} (hb : wList wItem x ≤ 1048576) : KFn Tryz.prog 68 [.one (.dv [] (itemsD (x)))] (.one (.key 7)) [(7, some (kcOf false (itemsD (x))))] := by
 refine ⟨fn_intro Tryz.func68 rfl Tryz.ntmps68 Tryz.results68 rfl (fun C => ?_)⟩
 refine ok_fact (x := .tmp 0) (ev_tmp rfl) fun f0 => ?_
 iterate 6 refine z ?_
 refine o_make (k := 7) (n := ((x)).length) (zd := [.int .i64 (0), .int .i64 (0), .str (ByteArray.empty), .sl 152 2 0 []]) (cs := fillD eItem [.int .i64 (0), .int .i64 (0), .str (ByteArray.empty), .sl 152 2 0 []] x 0) hT rfl rfl rfl rfl rfl rfl (ev_tmp rfl) (ev_tmp rfl) rfl rfl rfl (by have := wList_len wItem x; omega) rfl rfl fillD_zero ?_
 iterate 7 refine z ?_
 refine ok_loop (ι := Nat) (fun zz => ⟨[(0, .one (.dv [] (itemsD (x)))), (3, .one (.key 7)), (4, .one (.dv [] (.int .i64 ((zz : Int)))))], [], [(7, some (kcOf false (.sl 95 4 ((x).length) (fillD eItem [.int .i64 (0), .int .i64 (0), .str (ByteArray.empty), .sl 152 2 0 []] x zz))))]⟩) (fun zz => zz ≤ x.length) (fun zz => x.length - zz) (0) ?_ (weak_sub ⟨rfl, rfl, rfl, trivial⟩ trivial ⟨rfl, trivial⟩ rfl) (fun zz hx => ?_)
 ·exact Nat.zero_le _
 obtain ⟨k, rfl⟩ : ∃ v, v = zz := ⟨_, rfl⟩
 replace hx : k ≤ x.length := hx
 have hw := fun h => wSum_succ wItem x k h
 have hw2 := wSum_le wItem x (k + 1)
 have hw3 : wList wItem x = x.length + wSum wItem x := rfl
 show Ok _ _ _ _ _ (⟨[(0, .one (.dv [] (itemsD (x)))), (3, .one (.key 7)), (4, .one (.dv [] (.int .i64 ((k : Int)))))], [], [(7, some (kcOf false (.sl 95 4 ((x).length) (fillD eItem [.int .i64 (0), .int .i64 (0), .str (ByteArray.empty), .sl 152 2 0 []] x k))))]⟩ : St)
 iterate 7 refine z ?_
 refine yQ rfl (fun c1 => ?_) fun c1 => ?_
 ·skip
  have d1 := of_decide_eq_true c1
  iterate 4 refine z ?_
  refine ok_region ?_
  iterate 6 refine z ?_
  refine zK 20000 Tryz.call82 ?_ (hf := ok_laws_toItem (by first | omega | (simp only [wKey, wField, wRecord, wItem, wStore, wIndexDef, wDatabase, wOp, wTx, wTxQueue] at hb ⊢; omega) | (have hq := hw (by omega); omega)))
  refine yO rfl rfl (pu_indexK (i := k) hT rfl rfl rfl (ev_tmp rfl) rfl (ev_tmp rfl) rfl (by show _ < ((x).length); omega)) rfl ?_
  refine o_storeE (js := [36007]) (cs := fillD eItem [.int .i64 (0), .int .i64 (0), .str (ByteArray.empty), .sl 152 2 0 []] x (k + 1)) hT rfl rfl rfl rfl (ev_tmp rfl) (ev_tmp rfl) rfl rfl rfl rfl (ow_cons' (ow_dv rfl) (ow_cons' (ow_dv rfl) (ow_cons' (ow_dv rfl) (ow_cons' (ow_key rfl) ow_nil rfl) rfl) rfl) rfl) (by decide) (by decide) rfl (by show _ ≤ List.length (fillD eItem [.int .i64 (0), .int .i64 (0), .str (ByteArray.empty), .sl 152 2 0 []] x k); rw [fillD_len (sz := 4) (fun _ => rfl) rfl]; omega) (fillD_succ (sz := 4) (fun _ => rfl) rfl (by omega) rfl) ?_
  simp only [killT, killB, SV.kill, CV.kill, kk, Nat.reduceBEq]
  refine ops_nil ?_
  iterate 2 refine z ?_
  refine ok_region ?_
  iterate 4 refine z ?_
  refine ⟨k + 1, ?_, ?_, weak_sub ⟨rfl, rfl, rfl, trivial⟩ trivial ⟨rfl, trivial⟩ rfl⟩
  ·omega
  ·omega
 ·skip
  have d1 := of_decide_eq_false c1
  iterate 9 refine z ?_
  refine ok_weak (σ' := ⟨[(2, .one (.key 7))], [], [(7, some (kcOf false (itemsD (x))))]⟩) (weak_sub ⟨rfl, trivial⟩ trivial ⟨(congrArg (fun cs => some (some (KC.mk false 95 4 x.length cs))) (fillD_all (by omega))), trivial⟩ rfl) ?_
  refine z ?_
  refine fin1 (res_tmp rfl) ?_
  exact ⟨rfl, rfl⟩
theorem ok_laws_toStore {x : StoreT} (hb : wStore x ≤ 1048576) : KFn Tryz.prog 46 [.agg [(.dv [] (.str (x.1))), (.dv [] (itemsD (x.2.1))), (.dv [] (.int .i64 (x.2.2)))]] (.agg [(.dv [] (.str (x.1))), (.key 9007), (.dv [] (.int .i64 (x.2.2)))]) [(9007, some (kcOf false (itemsD (x.2.1))))] := by
 refine ⟨fn_intro Tryz.func46 rfl Tryz.ntmps46 Tryz.results46 rfl (fun C => ?_)⟩
 refine yF 0 0 rfl rfl fun f0_0 => ?_
 refine yF 0 1 rfl rfl fun f0_1 => ?_
 refine yF 0 2 rfl rfl fun f0_2 => ?_
 iterate 16 refine z ?_
 refine zK 9000 Tryz.call68 ?_ (hf := ok_laws_toItemS (by first | omega | (simp only [wKey, wField, wRecord, wItem, wStore, wIndexDef, wDatabase, wOp, wTx, wTxQueue] at hb ⊢; omega) | (have hq := hw (by omega); omega)))
 iterate 13 refine z ?_
 refine ok_weak (σ' := ⟨[(2, .box 2 0)], [(2, 60, [(.dv [] (.str (x.1))), (.key 9007), (.dv [] (.int .i64 (x.2.2)))])], [(9007, some (kcOf false (itemsD (x.2.1))))]⟩) (weak_sub ⟨rfl, trivial⟩ ⟨rfl, trivial⟩ ⟨rfl, trivial⟩ rfl) ?_
 refine z ?_
 refine fin1 (res_cell hT rfl rfl rfl rfl) ?_
 exact ⟨rfl, rfl⟩
theorem ok_laws_eqItem {x : ItemT}  : PFn Tryz.prog 97 [.agg [(.dv [] (.int .i64 (x.1.1))), (.dv [] (.int .i64 (x.1.2.1))), (.dv [] (.str (x.1.2.2))), (.dv [] (fieldsD (x.2)))], .agg [(.dv [] (.int .i64 (x.1.1))), (.dv [] (.int .i64 (x.1.2.1))), (.dv [] (.str (x.1.2.2))), (.dv [] (fieldsD (x.2)))]] (.one (.dv [] (.bool (true)))) := by
 refine ⟨fn_intro Tryz.func97 rfl Tryz.ntmps97 Tryz.results97 rfl (fun C => ?_)⟩
 refine yF 0 0 rfl rfl fun f0_0 => ?_
 refine yF 0 1 rfl rfl fun f0_1 => ?_
 refine yF 0 2 rfl rfl fun f0_2 => ?_
 refine yF 0 3 rfl rfl fun f0_3 => ?_
 refine yF 1 0 rfl rfl fun f1_0 => ?_
 refine yF 1 1 rfl rfl fun f1_1 => ?_
 refine yF 1 2 rfl rfl fun f1_2 => ?_
 refine yF 1 3 rfl rfl fun f1_3 => ?_
 iterate 11 refine z ?_
 refine zC Tryz.call108 ?_ (hf := ok_laws_eqKey)
 iterate 2 refine z ?_
 refine yQ rfl (fun c1 => ?_) fun c1 => ?_
 ·skip
  iterate 6 refine z ?_
  first | rfl | (exfalso; simp_all [sEq])
 ·skip
  iterate 8 refine z ?_
  refine zC Tryz.call109 ?_ (hf := ok_laws_eqRecord)
  iterate 2 refine z ?_
  refine yQ rfl (fun c2 => ?_) fun c2 => ?_
  ·skip
   iterate 6 refine z ?_
   first | rfl | (exfalso; simp_all [sEq])
  ·skip
   iterate 7 refine z ?_
   first | rfl | (exfalso; simp_all [sEq])
theorem ok_laws_eqItemS {x : List (ItemT)}  : PFn Tryz.prog 76 [.one (.dv [] (itemsD (x))), .one (.dv [] (itemsD (x)))] (.one (.dv [] (.bool (true)))) := by
 refine ⟨fn_intro Tryz.func76 rfl Tryz.ntmps76 Tryz.results76 rfl (fun C => ?_)⟩
 refine ok_fact (x := .tmp 0) (ev_tmp rfl) fun f0 => ?_
 refine ok_fact (x := .tmp 1) (ev_tmp rfl) fun f1 => ?_
 iterate 11 refine z ?_
 refine yQ rfl (fun c1 => ?_) fun c1 => ?_
 ·skip
  have d1 := nd_t c1
  iterate 6 refine z ?_
  first | rfl | (exfalso; simp_all [sEq])
 ·skip
  have d1 := nd_f c1
  iterate 7 refine z ?_
  refine ok_loop (ι := Nat) (fun zz => ⟨[(0, .one (.dv [] (itemsD (x)))), (1, .one (.dv [] (itemsD (x)))), (5, .one (.dv [] (.int .i64 ((zz : Int)))))], [], []⟩) (fun zz => zz ≤ x.length) (fun zz => x.length - zz) (0) ?_ (weak_sub ⟨rfl, rfl, rfl, trivial⟩ trivial trivial rfl) (fun zz hx => ?_)
  ·exact Nat.zero_le _
  obtain ⟨k, rfl⟩ : ∃ v, v = zz := ⟨_, rfl⟩
  replace hx : k ≤ x.length := hx
  show Ok _ _ _ _ _ (⟨[(0, .one (.dv [] (itemsD (x)))), (1, .one (.dv [] (itemsD (x)))), (5, .one (.dv [] (.int .i64 ((k : Int)))))], [], []⟩ : St)
  iterate 7 refine z ?_
  refine yQ rfl (fun c2 => ?_) fun c2 => ?_
  ·skip
   have d2 := of_decide_eq_true c2
   iterate 4 refine z ?_
   refine ok_seq ?_
   refine ok_regionD (oB := []) (oK := []) (by kernel_rfl) rfl rfl ?_
   refine zD 0 ?_
   refine zD 1 ?_
   refine zD 2 ?_
   refine zD 3 ?_
   refine zD 4 ?_
   refine zD 5 ?_
   refine zD 6 ?_
   refine zD 7 ?_
   refine d_call 8 rfl (by kernel_rfl) rfl rfl rfl Tryz.call97 ok_laws_eqItem (as_cons (ev_tmp rfl) (ag_agg (ag_cons ac_dv (ag_cons ac_dv (ag_cons ac_dv (ag_cons ac_dv ag_nil))))) (as_cons (ev_tmp rfl) (ag_agg (ag_cons ac_dv (ag_cons ac_dv (ag_cons ac_dv (ag_cons ac_dv ag_nil))))) as_nil)) rfl rfl rfl rfl ?_
   refine zD 9 ?_
   refine d_done (by kernel_rfl) ?_
   refine z ?_
   refine yQ rfl (fun c3 => ?_) fun c3 => ?_
   ·skip
    iterate 10 refine z ?_
    first | rfl | (exfalso; simp_all [sEq])
   ·skip
    iterate 3 refine z ?_
    refine ok_region ?_
    iterate 4 refine z ?_
    refine ⟨k + 1, ?_, ?_, weak_sub ⟨rfl, rfl, rfl, trivial⟩ trivial trivial rfl⟩
    ·omega
    ·omega
  ·skip
   have d2 := of_decide_eq_false c2
   iterate 10 refine z ?_
   first | rfl | (exfalso; simp_all [sEq])
theorem ok_laws_eqStore {x : StoreT}  : PFn Tryz.prog 57 [.agg [(.dv [] (.str (x.1))), (.dv [] (itemsD (x.2.1))), (.dv [] (.int .i64 (x.2.2)))], .agg [(.dv [] (.str (x.1))), (.dv [] (itemsD (x.2.1))), (.dv [] (.int .i64 (x.2.2)))]] (.one (.dv [] (.bool (true)))) := by
 refine ⟨fn_intro Tryz.func57 rfl Tryz.ntmps57 Tryz.results57 rfl (fun C => ?_)⟩
 refine yF 0 0 rfl rfl fun f0_0 => ?_
 refine yF 0 1 rfl rfl fun f0_1 => ?_
 refine yF 0 2 rfl rfl fun f0_2 => ?_
 refine yF 1 0 rfl rfl fun f1_0 => ?_
 refine yF 1 1 rfl rfl fun f1_1 => ?_
 refine yF 1 2 rfl rfl fun f1_2 => ?_
 iterate 13 refine z ?_
 refine yQ rfl (fun c1 => ?_) fun c1 => ?_
 ·skip
  iterate 6 refine z ?_
  first | rfl | (exfalso; simp_all [sEq])
 ·skip
  iterate 8 refine z ?_
  refine zC Tryz.call76 ?_ (hf := ok_laws_eqItemS)
  iterate 2 refine z ?_
  refine yQ rfl (fun c2 => ?_) fun c2 => ?_
  ·skip
   iterate 6 refine z ?_
   first | rfl | (exfalso; simp_all [sEq])
  ·skip
   iterate 10 refine z ?_
   refine yQ rfl (fun c3 => ?_) fun c3 => ?_
   ·skip
    have d3 := nd_t c3
    iterate 6 refine z ?_
    first | rfl | (exfalso; simp_all [sEq])
   ·skip
    have d3 := nd_f c3
    iterate 7 refine z ?_
    first | rfl | (exfalso; simp_all [sEq])
end Go.Proofs.YtcgmpjedhbhplaaGreat

namespace Go.Proofs.YtcgmpjedhbhplaaGreat
open Go.RowKit
open Go.Proofs
set_option linter.unusedVariables false
set_option linter.unusedSimpArgs false
theorem ok_laws_szStoreS {x : List (StoreT)} {left : Int} (h0 : 0 ≤ left) (h1 : left ≤ 1048576) : PFn Tryz.prog 15 [.one (.dv [] (storesD (x))), .one (.dv [] (.int .i64 (left)))] (.one (.dv [] (.int .i64 (szR (left) (wList wStore x))))) := by
 refine ⟨fn_intro Tryz.func15 rfl Tryz.ntmps15 Tryz.results15 rfl (fun C => ?_)⟩
 refine ok_fact (x := .tmp 0) (ev_tmp rfl) fun f0 => ?_
 refine ok_fact (x := .tmp 1) (ev_tmp rfl) fun f1 => ?_
 iterate 15 refine z ?_
 refine yQ rfl (fun c1 => ?_) fun c1 => ?_
 ·skip
  have d1 := of_decide_eq_true c1
  first | have q1 := szR_n d1 | skip
  iterate 6 refine z ?_
  have hh := szR_cases left (wList wStore x); simp only [wList] at hh ⊢ <;> omega
 ·skip
  have d1 := of_decide_eq_false c1
  first | have q1 := szR_nn d1 | skip
  iterate 7 refine z ?_
  refine ok_loop (ι := Nat × Int) (fun zz => ⟨[(0, .one (.dv [] (storesD (x)))), (1, .one (.dv [] (.int .i64 (zz.2)))), (5, .one (.dv [] (.int .i64 ((zz.1 : Int)))))], [], []⟩) (fun zz => zz.1 ≤ x.length ∧ 0 ≤ zz.2 ∧ zz.2 + (wSum wStore (x.take zz.1) : Int) = left - (x.length : Int)) (fun zz => x.length - zz.1) ((0, left - (x.length : Int))) ?_ (weak_sub ⟨rfl, rfl, rfl, trivial⟩ trivial trivial rfl) (fun zz hx => ?_)
  ·exact ⟨Nat.zero_le _, by omega, by simp [wSum]⟩
  obtain ⟨k, l⟩ := zz
  replace hx : k ≤ x.length ∧ 0 ≤ l ∧ l + (wSum wStore (x.take k) : Int) = left - (x.length : Int) := hx
  obtain ⟨hk, hl, he⟩ := hx
  have hw := fun h => wSum_succ wStore x k h
  show Ok _ _ _ _ _ (⟨[(0, .one (.dv [] (storesD (x)))), (1, .one (.dv [] (.int .i64 (l)))), (5, .one (.dv [] (.int .i64 ((k : Int)))))], [], []⟩ : St)
  iterate 7 refine z ?_
  refine yQ rfl (fun c2 => ?_) fun c2 => ?_
  ·skip
   have d2 := of_decide_eq_true c2
   first | have q2 := szR_n d2 | skip
   iterate 10 refine z ?_
   refine zC Tryz.call38 ?_ (hf := ok_laws_szStore (by omega) (by omega))
   iterate 6 refine z ?_
   refine yQ rfl (fun c3 => ?_) fun c3 => ?_
   ·skip
    have d3 := of_decide_eq_true c3
    first | have q3 := szR_n d3 | skip
    iterate 10 refine z ?_
    have hw' := hw (by omega); have hh := szR_cases left (wList wStore x); simp only [wList] at hh ⊢ <;> omega
   ·skip
    have d3 := of_decide_eq_false c3
    first | have q3 := szR_nn d3 | skip
    iterate 3 refine z ?_
    refine ok_region ?_
    iterate 4 refine z ?_
    refine ⟨(k + 1, szR l (wStore (x.getD (k : Int).toNat default))), ?_, ?_, weak_sub ⟨rfl, rfl, rfl, trivial⟩ trivial trivial rfl⟩
    ·have hw' := hw (by omega)
     dsimp only
     exact ⟨by omega, by omega, by omega⟩
    ·omega
  ·skip
   have d2 := of_decide_eq_false c2
   first | have q2 := szR_nn d2 | skip
   iterate 11 refine z ?_
   have hw' := wSum_all wStore x k (by omega); have hh := szR_cases left (wList wStore x); simp only [wList] at hh ⊢ <;> omega
theorem ok_laws_toStoreS {x : List (StoreT)} (hb : wList wStore x ≤ 1048576) : KFn Tryz.prog 23 [.one (.dv [] (storesD (x)))] (.one (.key 7)) [(7, some (kcOf false (storesD (x))))] := by
 refine ⟨fn_intro Tryz.func23 rfl Tryz.ntmps23 Tryz.results23 rfl (fun C => ?_)⟩
 refine ok_fact (x := .tmp 0) (ev_tmp rfl) fun f0 => ?_
 iterate 6 refine z ?_
 refine o_make (k := 7) (n := ((x)).length) (zd := [.str (ByteArray.empty), .sl 95 4 0 [], .int .i64 (0)]) (cs := fillD eStore [.str (ByteArray.empty), .sl 95 4 0 [], .int .i64 (0)] x 0) hT rfl rfl rfl rfl rfl rfl (ev_tmp rfl) (ev_tmp rfl) rfl rfl rfl (by have := wList_len wStore x; omega) rfl rfl fillD_zero ?_
 iterate 7 refine z ?_
 refine ok_loop (ι := Nat) (fun zz => ⟨[(0, .one (.dv [] (storesD (x)))), (3, .one (.key 7)), (4, .one (.dv [] (.int .i64 ((zz : Int)))))], [], [(7, some (kcOf false (.sl 60 3 ((x).length) (fillD eStore [.str (ByteArray.empty), .sl 95 4 0 [], .int .i64 (0)] x zz))))]⟩) (fun zz => zz ≤ x.length) (fun zz => x.length - zz) (0) ?_ (weak_sub ⟨rfl, rfl, rfl, trivial⟩ trivial ⟨rfl, trivial⟩ rfl) (fun zz hx => ?_)
 ·exact Nat.zero_le _
 obtain ⟨k, rfl⟩ : ∃ v, v = zz := ⟨_, rfl⟩
 replace hx : k ≤ x.length := hx
 have hw := fun h => wSum_succ wStore x k h
 have hw2 := wSum_le wStore x (k + 1)
 have hw3 : wList wStore x = x.length + wSum wStore x := rfl
 show Ok _ _ _ _ _ (⟨[(0, .one (.dv [] (storesD (x)))), (3, .one (.key 7)), (4, .one (.dv [] (.int .i64 ((k : Int)))))], [], [(7, some (kcOf false (.sl 60 3 ((x).length) (fillD eStore [.str (ByteArray.empty), .sl 95 4 0 [], .int .i64 (0)] x k))))]⟩ : St)
 iterate 7 refine z ?_
 refine yQ rfl (fun c1 => ?_) fun c1 => ?_
 ·skip
  have d1 := of_decide_eq_true c1
  iterate 4 refine z ?_
  refine ok_region ?_
  iterate 6 refine z ?_
  refine zK 20000 Tryz.call46 ?_ (hf := ok_laws_toStore (by first | omega | (simp only [wKey, wField, wRecord, wItem, wStore, wIndexDef, wDatabase, wOp, wTx, wTxQueue] at hb ⊢; omega) | (have hq := hw (by omega); omega)))
  refine yO rfl rfl (pu_indexK (i := k) hT rfl rfl rfl (ev_tmp rfl) rfl (ev_tmp rfl) rfl (by show _ < ((x).length); omega)) rfl ?_
  refine o_storeE (js := [29007]) (cs := fillD eStore [.str (ByteArray.empty), .sl 95 4 0 [], .int .i64 (0)] x (k + 1)) hT rfl rfl rfl rfl (ev_tmp rfl) (ev_tmp rfl) rfl rfl rfl rfl (ow_cons' (ow_dv rfl) (ow_cons' (ow_key rfl) (ow_cons' (ow_dv rfl) ow_nil rfl) rfl) rfl) (by decide) (by decide) rfl (by show _ ≤ List.length (fillD eStore [.str (ByteArray.empty), .sl 95 4 0 [], .int .i64 (0)] x k); rw [fillD_len (sz := 3) (fun _ => rfl) rfl]; omega) (fillD_succ (sz := 3) (fun _ => rfl) rfl (by omega) rfl) ?_
  simp only [killT, killB, SV.kill, CV.kill, kk, Nat.reduceBEq]
  refine ops_nil ?_
  iterate 2 refine z ?_
  refine ok_region ?_
  iterate 4 refine z ?_
  refine ⟨k + 1, ?_, ?_, weak_sub ⟨rfl, rfl, rfl, trivial⟩ trivial ⟨rfl, trivial⟩ rfl⟩
  ·omega
  ·omega
 ·skip
  have d1 := of_decide_eq_false c1
  iterate 9 refine z ?_
  refine ok_weak (σ' := ⟨[(2, .one (.key 7))], [], [(7, some (kcOf false (storesD (x))))]⟩) (weak_sub ⟨rfl, trivial⟩ trivial ⟨(congrArg (fun cs => some (some (KC.mk false 60 3 x.length cs))) (fillD_all (by omega))), trivial⟩ rfl) ?_
  refine z ?_
  refine fin1 (res_tmp rfl) ?_
  exact ⟨rfl, rfl⟩
theorem ok_laws_eqStoreS {x : List (StoreT)}  : PFn Tryz.prog 32 [.one (.dv [] (storesD (x))), .one (.dv [] (storesD (x)))] (.one (.dv [] (.bool (true)))) := by
 refine ⟨fn_intro Tryz.func32 rfl Tryz.ntmps32 Tryz.results32 rfl (fun C => ?_)⟩
 refine ok_fact (x := .tmp 0) (ev_tmp rfl) fun f0 => ?_
 refine ok_fact (x := .tmp 1) (ev_tmp rfl) fun f1 => ?_
 iterate 11 refine z ?_
 refine yQ rfl (fun c1 => ?_) fun c1 => ?_
 ·skip
  have d1 := nd_t c1
  iterate 6 refine z ?_
  first | rfl | (exfalso; simp_all [sEq])
 ·skip
  have d1 := nd_f c1
  iterate 7 refine z ?_
  refine ok_loop (ι := Nat) (fun zz => ⟨[(0, .one (.dv [] (storesD (x)))), (1, .one (.dv [] (storesD (x)))), (5, .one (.dv [] (.int .i64 ((zz : Int)))))], [], []⟩) (fun zz => zz ≤ x.length) (fun zz => x.length - zz) (0) ?_ (weak_sub ⟨rfl, rfl, rfl, trivial⟩ trivial trivial rfl) (fun zz hx => ?_)
  ·exact Nat.zero_le _
  obtain ⟨k, rfl⟩ : ∃ v, v = zz := ⟨_, rfl⟩
  replace hx : k ≤ x.length := hx
  show Ok _ _ _ _ _ (⟨[(0, .one (.dv [] (storesD (x)))), (1, .one (.dv [] (storesD (x)))), (5, .one (.dv [] (.int .i64 ((k : Int)))))], [], []⟩ : St)
  iterate 7 refine z ?_
  refine yQ rfl (fun c2 => ?_) fun c2 => ?_
  ·skip
   have d2 := of_decide_eq_true c2
   iterate 4 refine z ?_
   refine ok_seq ?_
   refine ok_regionD (oB := []) (oK := []) (by kernel_rfl) rfl rfl ?_
   refine zD 0 ?_
   refine zD 1 ?_
   refine zD 2 ?_
   refine zD 3 ?_
   refine zD 4 ?_
   refine zD 5 ?_
   refine zD 6 ?_
   refine zD 7 ?_
   refine d_call 8 rfl (by kernel_rfl) rfl rfl rfl Tryz.call57 ok_laws_eqStore (as_cons (ev_tmp rfl) (ag_agg (ag_cons ac_dv (ag_cons ac_dv (ag_cons ac_dv ag_nil)))) (as_cons (ev_tmp rfl) (ag_agg (ag_cons ac_dv (ag_cons ac_dv (ag_cons ac_dv ag_nil)))) as_nil)) rfl rfl rfl rfl ?_
   refine zD 9 ?_
   refine d_done (by kernel_rfl) ?_
   refine z ?_
   refine yQ rfl (fun c3 => ?_) fun c3 => ?_
   ·skip
    iterate 10 refine z ?_
    first | rfl | (exfalso; simp_all [sEq])
   ·skip
    iterate 3 refine z ?_
    refine ok_region ?_
    iterate 4 refine z ?_
    refine ⟨k + 1, ?_, ?_, weak_sub ⟨rfl, rfl, rfl, trivial⟩ trivial trivial rfl⟩
    ·omega
    ·omega
  ·skip
   have d2 := of_decide_eq_false c2
   iterate 10 refine z ?_
   first | rfl | (exfalso; simp_all [sEq])
theorem ok_laws_szIndexDef {x : DefT} {left : Int} (h0 : 0 ≤ left) (h1 : left ≤ 1048576) : PFn Tryz.prog 39 [.agg [(.dv [] (.str (x.1))), (.dv [] (.str (x.2)))], .one (.dv [] (.int .i64 (left)))] (.one (.dv [] (.int .i64 (szR (left) (wIndexDef x))))) := by
 refine ⟨fn_intro Tryz.func39 rfl Tryz.ntmps39 Tryz.results39 rfl (fun C => ?_)⟩
 refine yF 0 0 rfl rfl fun f0_0 => ?_
 refine yF 0 1 rfl rfl fun f0_1 => ?_
 refine ok_fact (x := .tmp 1) (ev_tmp rfl) fun f1 => ?_
 iterate 17 refine z ?_
 refine yQ rfl (fun c1 => ?_) fun c1 => ?_
 ·skip
  have d1 := of_decide_eq_true c1
  first | have q1 := szR_n d1 | skip
  iterate 6 refine z ?_
  have hh := szR_cases left (wIndexDef x); simp only [wIndexDef] at hh ⊢ <;> omega
 ·skip
  have d1 := of_decide_eq_false c1
  first | have q1 := szR_nn d1 | skip
  iterate 15 refine z ?_
  refine yQ rfl (fun c2 => ?_) fun c2 => ?_
  ·skip
   have d2 := of_decide_eq_true c2
   first | have q2 := szR_n d2 | skip
   iterate 6 refine z ?_
   have hh := szR_cases left (wIndexDef x); simp only [wIndexDef] at hh ⊢ <;> omega
  ·skip
   have d2 := of_decide_eq_false c2
   first | have q2 := szR_nn d2 | skip
   iterate 8 refine z ?_
   have hh := szR_cases left (wIndexDef x); simp only [wIndexDef] at hh ⊢ <;> omega
theorem ok_laws_szIndexDefS {x : List (DefT)} {left : Int} (h0 : 0 ≤ left) (h1 : left ≤ 1048576) : PFn Tryz.prog 16 [.one (.dv [] (defsD (x))), .one (.dv [] (.int .i64 (left)))] (.one (.dv [] (.int .i64 (szR (left) (wList wIndexDef x))))) := by
 refine ⟨fn_intro Tryz.func16 rfl Tryz.ntmps16 Tryz.results16 rfl (fun C => ?_)⟩
 refine ok_fact (x := .tmp 0) (ev_tmp rfl) fun f0 => ?_
 refine ok_fact (x := .tmp 1) (ev_tmp rfl) fun f1 => ?_
 iterate 15 refine z ?_
 refine yQ rfl (fun c1 => ?_) fun c1 => ?_
 ·skip
  have d1 := of_decide_eq_true c1
  first | have q1 := szR_n d1 | skip
  iterate 6 refine z ?_
  have hh := szR_cases left (wList wIndexDef x); simp only [wList] at hh ⊢ <;> omega
 ·skip
  have d1 := of_decide_eq_false c1
  first | have q1 := szR_nn d1 | skip
  iterate 7 refine z ?_
  refine ok_loop (ι := Nat × Int) (fun zz => ⟨[(0, .one (.dv [] (defsD (x)))), (1, .one (.dv [] (.int .i64 (zz.2)))), (5, .one (.dv [] (.int .i64 ((zz.1 : Int)))))], [], []⟩) (fun zz => zz.1 ≤ x.length ∧ 0 ≤ zz.2 ∧ zz.2 + (wSum wIndexDef (x.take zz.1) : Int) = left - (x.length : Int)) (fun zz => x.length - zz.1) ((0, left - (x.length : Int))) ?_ (weak_sub ⟨rfl, rfl, rfl, trivial⟩ trivial trivial rfl) (fun zz hx => ?_)
  ·exact ⟨Nat.zero_le _, by omega, by simp [wSum]⟩
  obtain ⟨k, l⟩ := zz
  replace hx : k ≤ x.length ∧ 0 ≤ l ∧ l + (wSum wIndexDef (x.take k) : Int) = left - (x.length : Int) := hx
  obtain ⟨hk, hl, he⟩ := hx
  have hw := fun h => wSum_succ wIndexDef x k h
  show Ok _ _ _ _ _ (⟨[(0, .one (.dv [] (defsD (x)))), (1, .one (.dv [] (.int .i64 (l)))), (5, .one (.dv [] (.int .i64 ((k : Int)))))], [], []⟩ : St)
  iterate 7 refine z ?_
  refine yQ rfl (fun c2 => ?_) fun c2 => ?_
  ·skip
   have d2 := of_decide_eq_true c2
   first | have q2 := szR_n d2 | skip
   iterate 10 refine z ?_
   refine zC Tryz.call39 ?_ (hf := ok_laws_szIndexDef (by omega) (by omega))
   iterate 6 refine z ?_
   refine yQ rfl (fun c3 => ?_) fun c3 => ?_
   ·skip
    have d3 := of_decide_eq_true c3
    first | have q3 := szR_n d3 | skip
    iterate 10 refine z ?_
    have hw' := hw (by omega); have hh := szR_cases left (wList wIndexDef x); simp only [wList] at hh ⊢ <;> omega
   ·skip
    have d3 := of_decide_eq_false c3
    first | have q3 := szR_nn d3 | skip
    iterate 3 refine z ?_
    refine ok_region ?_
    iterate 4 refine z ?_
    refine ⟨(k + 1, szR l (wIndexDef (x.getD (k : Int).toNat default))), ?_, ?_, weak_sub ⟨rfl, rfl, rfl, trivial⟩ trivial trivial rfl⟩
    ·have hw' := hw (by omega)
     dsimp only
     exact ⟨by omega, by omega, by omega⟩
    ·omega
  ·skip
   have d2 := of_decide_eq_false c2
   first | have q2 := szR_nn d2 | skip
   iterate 11 refine z ?_
   have hw' := wSum_all wIndexDef x k (by omega); have hh := szR_cases left (wList wIndexDef x); simp only [wList] at hh ⊢ <;> omega
theorem ok_laws_toIndexDef {x : DefT}  : PFn Tryz.prog 47 [.agg [(.dv [] (.str (x.1))), (.dv [] (.str (x.2)))]] (.agg [(.dv [] (.str (x.1))), (.dv [] (.str (x.2)))]) := by
 refine ⟨fn_intro Tryz.func47 rfl Tryz.ntmps47 Tryz.results47 rfl (fun C => ?_)⟩
 refine yF 0 0 rfl rfl fun f0_0 => ?_
 refine yF 0 1 rfl rfl fun f0_1 => ?_
 iterate 24 refine z ?_
 refine fin1 (res_cell hT rfl rfl rfl rfl) ?_
 rfl
theorem ok_laws_toIndexDefS {x : List (DefT)} (hb : wList wIndexDef x ≤ 1048576) : KFn Tryz.prog 24 [.one (.dv [] (defsD (x)))] (.one (.key 7)) [(7, some (kcOf false (defsD (x))))] := by
 refine ⟨fn_intro Tryz.func24 rfl Tryz.ntmps24 Tryz.results24 rfl (fun C => ?_)⟩
 refine ok_fact (x := .tmp 0) (ev_tmp rfl) fun f0 => ?_
 iterate 6 refine z ?_
 refine o_make (k := 7) (n := ((x)).length) (zd := [.str (ByteArray.empty), .str (ByteArray.empty)]) (cs := fillD eDef [.str (ByteArray.empty), .str (ByteArray.empty)] x 0) hT rfl rfl rfl rfl rfl rfl (ev_tmp rfl) (ev_tmp rfl) rfl rfl rfl (by have := wList_len wIndexDef x; omega) rfl rfl fillD_zero ?_
 iterate 7 refine z ?_
 refine ok_loop (ι := Nat) (fun zz => ⟨[(0, .one (.dv [] (defsD (x)))), (3, .one (.key 7)), (4, .one (.dv [] (.int .i64 ((zz : Int)))))], [], [(7, some (kcOf false (.sl 98 2 ((x).length) (fillD eDef [.str (ByteArray.empty), .str (ByteArray.empty)] x zz))))]⟩) (fun zz => zz ≤ x.length) (fun zz => x.length - zz) (0) ?_ (weak_sub ⟨rfl, rfl, rfl, trivial⟩ trivial ⟨rfl, trivial⟩ rfl) (fun zz hx => ?_)
 ·exact Nat.zero_le _
 obtain ⟨k, rfl⟩ : ∃ v, v = zz := ⟨_, rfl⟩
 replace hx : k ≤ x.length := hx
 have hw := fun h => wSum_succ wIndexDef x k h
 have hw2 := wSum_le wIndexDef x (k + 1)
 have hw3 : wList wIndexDef x = x.length + wSum wIndexDef x := rfl
 show Ok _ _ _ _ _ (⟨[(0, .one (.dv [] (defsD (x)))), (3, .one (.key 7)), (4, .one (.dv [] (.int .i64 ((k : Int)))))], [], [(7, some (kcOf false (.sl 98 2 ((x).length) (fillD eDef [.str (ByteArray.empty), .str (ByteArray.empty)] x k))))]⟩ : St)
 iterate 7 refine z ?_
 refine yQ rfl (fun c1 => ?_) fun c1 => ?_
 ·skip
  have d1 := of_decide_eq_true c1
  iterate 4 refine z ?_
  refine ok_region ?_
  iterate 6 refine z ?_
  refine zC Tryz.call47 ?_ (hf := ok_laws_toIndexDef)
  refine yO rfl rfl (pu_indexK (i := k) hT rfl rfl rfl (ev_tmp rfl) rfl (ev_tmp rfl) rfl (by show _ < ((x).length); omega)) rfl ?_
  refine o_storeE (js := []) (cs := fillD eDef [.str (ByteArray.empty), .str (ByteArray.empty)] x (k + 1)) hT rfl rfl rfl rfl (ev_tmp rfl) (ev_tmp rfl) rfl rfl rfl rfl (ow_cons' (ow_dv rfl) (ow_cons' (ow_dv rfl) ow_nil rfl) rfl) (by decide) (by decide) rfl (by show _ ≤ List.length (fillD eDef [.str (ByteArray.empty), .str (ByteArray.empty)] x k); rw [fillD_len (sz := 2) (fun _ => rfl) rfl]; omega) (fillD_succ (sz := 2) (fun _ => rfl) rfl (by omega) rfl) ?_
  simp only [killT, killB, SV.kill, CV.kill, kk, Nat.reduceBEq]
  refine ops_nil ?_
  iterate 2 refine z ?_
  refine ok_region ?_
  iterate 4 refine z ?_
  refine ⟨k + 1, ?_, ?_, weak_sub ⟨rfl, rfl, rfl, trivial⟩ trivial ⟨rfl, trivial⟩ rfl⟩
  ·omega
  ·omega
 ·skip
  have d1 := of_decide_eq_false c1
  iterate 9 refine z ?_
  refine ok_weak (σ' := ⟨[(2, .one (.key 7))], [], [(7, some (kcOf false (defsD (x))))]⟩) (weak_sub ⟨rfl, trivial⟩ trivial ⟨(congrArg (fun cs => some (some (KC.mk false 98 2 x.length cs))) (fillD_all (by omega))), trivial⟩ rfl) ?_
  refine z ?_
  refine fin1 (res_tmp rfl) ?_
  exact ⟨rfl, rfl⟩
theorem ok_laws_eqIndexDef {x : DefT}  : PFn Tryz.prog 58 [.agg [(.dv [] (.str (x.1))), (.dv [] (.str (x.2)))], .agg [(.dv [] (.str (x.1))), (.dv [] (.str (x.2)))]] (.one (.dv [] (.bool (true)))) := by
 refine ⟨fn_intro Tryz.func58 rfl Tryz.ntmps58 Tryz.results58 rfl (fun C => ?_)⟩
 refine yF 0 0 rfl rfl fun f0_0 => ?_
 refine yF 0 1 rfl rfl fun f0_1 => ?_
 refine yF 1 0 rfl rfl fun f1_0 => ?_
 refine yF 1 1 rfl rfl fun f1_1 => ?_
 iterate 13 refine z ?_
 refine yQ rfl (fun c1 => ?_) fun c1 => ?_
 ·skip
  iterate 6 refine z ?_
  first | rfl | (exfalso; simp_all [sEq])
 ·skip
  iterate 10 refine z ?_
  refine yQ rfl (fun c2 => ?_) fun c2 => ?_
  ·skip
   iterate 6 refine z ?_
   first | rfl | (exfalso; simp_all [sEq])
  ·skip
   iterate 7 refine z ?_
   first | rfl | (exfalso; simp_all [sEq])
theorem ok_laws_eqIndexDefS {x : List (DefT)}  : PFn Tryz.prog 33 [.one (.dv [] (defsD (x))), .one (.dv [] (defsD (x)))] (.one (.dv [] (.bool (true)))) := by
 refine ⟨fn_intro Tryz.func33 rfl Tryz.ntmps33 Tryz.results33 rfl (fun C => ?_)⟩
 refine ok_fact (x := .tmp 0) (ev_tmp rfl) fun f0 => ?_
 refine ok_fact (x := .tmp 1) (ev_tmp rfl) fun f1 => ?_
 iterate 11 refine z ?_
 refine yQ rfl (fun c1 => ?_) fun c1 => ?_
 ·skip
  have d1 := nd_t c1
  iterate 6 refine z ?_
  first | rfl | (exfalso; simp_all [sEq])
 ·skip
  have d1 := nd_f c1
  iterate 7 refine z ?_
  refine ok_loop (ι := Nat) (fun zz => ⟨[(0, .one (.dv [] (defsD (x)))), (1, .one (.dv [] (defsD (x)))), (5, .one (.dv [] (.int .i64 ((zz : Int)))))], [], []⟩) (fun zz => zz ≤ x.length) (fun zz => x.length - zz) (0) ?_ (weak_sub ⟨rfl, rfl, rfl, trivial⟩ trivial trivial rfl) (fun zz hx => ?_)
  ·exact Nat.zero_le _
  obtain ⟨k, rfl⟩ : ∃ v, v = zz := ⟨_, rfl⟩
  replace hx : k ≤ x.length := hx
  show Ok _ _ _ _ _ (⟨[(0, .one (.dv [] (defsD (x)))), (1, .one (.dv [] (defsD (x)))), (5, .one (.dv [] (.int .i64 ((k : Int)))))], [], []⟩ : St)
  iterate 7 refine z ?_
  refine yQ rfl (fun c2 => ?_) fun c2 => ?_
  ·skip
   have d2 := of_decide_eq_true c2
   iterate 4 refine z ?_
   refine ok_seq ?_
   refine ok_regionD (oB := []) (oK := []) (by kernel_rfl) rfl rfl ?_
   refine zD 0 ?_
   refine zD 1 ?_
   refine zD 2 ?_
   refine zD 3 ?_
   refine zD 4 ?_
   refine zD 5 ?_
   refine zD 6 ?_
   refine zD 7 ?_
   refine d_call 8 rfl (by kernel_rfl) rfl rfl rfl Tryz.call58 ok_laws_eqIndexDef (as_cons (ev_tmp rfl) (ag_agg (ag_cons ac_dv (ag_cons ac_dv ag_nil))) (as_cons (ev_tmp rfl) (ag_agg (ag_cons ac_dv (ag_cons ac_dv ag_nil))) as_nil)) rfl rfl rfl rfl ?_
   refine zD 9 ?_
   refine d_done (by kernel_rfl) ?_
   refine z ?_
   refine yQ rfl (fun c3 => ?_) fun c3 => ?_
   ·skip
    iterate 10 refine z ?_
    first | rfl | (exfalso; simp_all [sEq])
   ·skip
    iterate 3 refine z ?_
    refine ok_region ?_
    iterate 4 refine z ?_
    refine ⟨k + 1, ?_, ?_, weak_sub ⟨rfl, rfl, rfl, trivial⟩ trivial trivial rfl⟩
    ·omega
    ·omega
  ·skip
   have d2 := of_decide_eq_false c2
   iterate 10 refine z ?_
   first | rfl | (exfalso; simp_all [sEq])
theorem ok_laws_szDatabase {x : DbT} {left : Int} (h0 : 0 ≤ left) (h1 : left ≤ 1048576) : PFn Tryz.prog 4 [.agg [(.dv [] (.str (x.1))), (.dv [] (.int .i64 (x.2.1))), (.dv [] (storesD (x.2.2.1))), (.dv [] (defsD (x.2.2.2)))], .one (.dv [] (.int .i64 (left)))] (.one (.dv [] (.int .i64 (szR (left) (wDatabase x))))) := by
 refine ⟨fn_intro Tryz.func4 rfl Tryz.ntmps4 Tryz.results4 rfl (fun C => ?_)⟩
 refine yF 0 0 rfl rfl fun f0_0 => ?_
 refine yF 0 1 rfl rfl fun f0_1 => ?_
 refine yF 0 2 rfl rfl fun f0_2 => ?_
 refine yF 0 3 rfl rfl fun f0_3 => ?_
 refine ok_fact (x := .tmp 1) (ev_tmp rfl) fun f1 => ?_
 iterate 17 refine z ?_
 refine yQ rfl (fun c1 => ?_) fun c1 => ?_
 ·skip
  have d1 := of_decide_eq_true c1
  first | have q1 := szR_n d1 | skip
  iterate 6 refine z ?_
  have hh := szR_cases left (wDatabase x); simp only [wDatabase] at hh ⊢ <;> omega
 ·skip
  have d1 := of_decide_eq_false c1
  first | have q1 := szR_nn d1 | skip
  iterate 6 refine z ?_
  refine zC Tryz.call15 ?_ (hf := ok_laws_szStoreS (by omega) (by omega))
  iterate 7 refine z ?_
  refine yQ rfl (fun c2 => ?_) fun c2 => ?_
  ·skip
   have d2 := of_decide_eq_true c2
   first | have q2 := szR_n d2 | skip
   iterate 6 refine z ?_
   have hh := szR_cases left (wDatabase x); simp only [wDatabase] at hh ⊢ <;> omega
  ·skip
   have d2 := of_decide_eq_false c2
   first | have q2 := szR_nn d2 | skip
   iterate 6 refine z ?_
   refine zC Tryz.call16 ?_ (hf := ok_laws_szIndexDefS (by omega) (by omega))
   iterate 7 refine z ?_
   refine yQ rfl (fun c3 => ?_) fun c3 => ?_
   ·skip
    have d3 := of_decide_eq_true c3
    first | have q3 := szR_n d3 | skip
    iterate 6 refine z ?_
    have hh := szR_cases left (wDatabase x); simp only [wDatabase] at hh ⊢ <;> omega
   ·skip
    have d3 := of_decide_eq_false c3
    first | have q3 := szR_nn d3 | skip
    iterate 8 refine z ?_
    have hh := szR_cases left (wDatabase x); simp only [wDatabase] at hh ⊢ <;> omega
theorem ok_laws_toDatabase {x : DbT} (hb : wDatabase x ≤ 1048576) : KFn Tryz.prog 7 [.agg [(.dv [] (.str (x.1))), (.dv [] (.int .i64 (x.2.1))), (.dv [] (storesD (x.2.2.1))), (.dv [] (defsD (x.2.2.2)))]] (.agg [(.dv [] (.str (x.1))), (.dv [] (.int .i64 (x.2.1))), (.key 12007), (.key 16007)]) [(12007, some (kcOf false (storesD (x.2.2.1)))), (16007, some (kcOf false (defsD (x.2.2.2))))] := by
 refine ⟨fn_intro Tryz.func7 rfl Tryz.ntmps7 Tryz.results7 rfl (fun C => ?_)⟩
 refine yF 0 0 rfl rfl fun f0_0 => ?_
 refine yF 0 1 rfl rfl fun f0_1 => ?_
 refine yF 0 2 rfl rfl fun f0_2 => ?_
 refine yF 0 3 rfl rfl fun f0_3 => ?_
 iterate 22 refine z ?_
 refine zK 12000 Tryz.call23 ?_ (hf := ok_laws_toStoreS (by first | omega | (simp only [wKey, wField, wRecord, wItem, wStore, wIndexDef, wDatabase, wOp, wTx, wTxQueue] at hb ⊢; omega) | (have hq := hw (by omega); omega)))
 iterate 6 refine z ?_
 refine zK 16000 Tryz.call24 ?_ (hf := ok_laws_toIndexDefS (by first | omega | (simp only [wKey, wField, wRecord, wItem, wStore, wIndexDef, wDatabase, wOp, wTx, wTxQueue] at hb ⊢; omega) | (have hq := hw (by omega); omega)))
 iterate 7 refine z ?_
 refine ok_weak (σ' := ⟨[(2, .box 2 0)], [(2, 39, [(.dv [] (.str (x.1))), (.dv [] (.int .i64 (x.2.1))), (.key 12007), (.key 16007)])], [(12007, some (kcOf false (storesD (x.2.2.1)))), (16007, some (kcOf false (defsD (x.2.2.2))))]⟩) (weak_sub ⟨rfl, trivial⟩ ⟨rfl, trivial⟩ ⟨rfl, rfl, trivial⟩ rfl) ?_
 refine z ?_
 refine fin1 (res_cell hT rfl rfl rfl rfl) ?_
 exact ⟨rfl, rfl⟩
theorem ok_laws_eqDatabase {x : DbT}  : PFn Tryz.prog 11 [.agg [(.dv [] (.str (x.1))), (.dv [] (.int .i64 (x.2.1))), (.dv [] (storesD (x.2.2.1))), (.dv [] (defsD (x.2.2.2)))], .agg [(.dv [] (.str (x.1))), (.dv [] (.int .i64 (x.2.1))), (.dv [] (storesD (x.2.2.1))), (.dv [] (defsD (x.2.2.2)))]] (.one (.dv [] (.bool (true)))) := by
 refine ⟨fn_intro Tryz.func11 rfl Tryz.ntmps11 Tryz.results11 rfl (fun C => ?_)⟩
 refine yF 0 0 rfl rfl fun f0_0 => ?_
 refine yF 0 1 rfl rfl fun f0_1 => ?_
 refine yF 0 2 rfl rfl fun f0_2 => ?_
 refine yF 0 3 rfl rfl fun f0_3 => ?_
 refine yF 1 0 rfl rfl fun f1_0 => ?_
 refine yF 1 1 rfl rfl fun f1_1 => ?_
 refine yF 1 2 rfl rfl fun f1_2 => ?_
 refine yF 1 3 rfl rfl fun f1_3 => ?_
 iterate 13 refine z ?_
 refine yQ rfl (fun c1 => ?_) fun c1 => ?_
 ·skip
  iterate 6 refine z ?_
  first | rfl | (exfalso; simp_all [sEq])
 ·skip
  iterate 10 refine z ?_
  refine yQ rfl (fun c2 => ?_) fun c2 => ?_
  ·skip
   have d2 := nd_t c2
   iterate 6 refine z ?_
   first | rfl | (exfalso; simp_all [sEq])
  ·skip
   have d2 := nd_f c2
   iterate 8 refine z ?_
   refine zC Tryz.call32 ?_ (hf := ok_laws_eqStoreS)
   iterate 2 refine z ?_
   refine yQ rfl (fun c3 => ?_) fun c3 => ?_
   ·skip
    iterate 6 refine z ?_
    first | rfl | (exfalso; simp_all [sEq])
   ·skip
    iterate 8 refine z ?_
    refine zC Tryz.call33 ?_ (hf := ok_laws_eqIndexDefS)
    iterate 2 refine z ?_
    refine yQ rfl (fun c4 => ?_) fun c4 => ?_
    ·skip
     iterate 6 refine z ?_
     first | rfl | (exfalso; simp_all [sEq])
    ·skip
     iterate 7 refine z ?_
     first | rfl | (exfalso; simp_all [sEq])
end Go.Proofs.YtcgmpjedhbhplaaGreat

namespace Go.Proofs.YtcgmpjedhbhplaaGreat
open Go.RowKit
open Go.Proofs
set_option linter.unusedVariables false
set_option linter.unusedSimpArgs false
theorem ok_laws_szTx {x : TxT} {left : Int} (h0 : 0 ≤ left) (h1 : left ≤ 1048576) : PFn Tryz.prog 40 [.agg [(.dv [] (.int .i64 (x.1))), (.dv [] (opsD (x.2.1))), (.dv [] (.int .i64 (x.2.2.1))), (.dv [] (.int .i64 (x.2.2.2.1))), (.dv [] (storesD (x.2.2.2.2)))], .one (.dv [] (.int .i64 (left)))] (.one (.dv [] (.int .i64 (szR (left) (wTx x))))) := by
 refine ⟨fn_intro Tryz.func40 rfl Tryz.ntmps40 Tryz.results40 rfl (fun C => ?_)⟩
 refine yF 0 0 rfl rfl fun f0_0 => ?_
 refine yF 0 1 rfl rfl fun f0_1 => ?_
 refine yF 0 2 rfl rfl fun f0_2 => ?_
 refine yF 0 3 rfl rfl fun f0_3 => ?_
 refine yF 0 4 rfl rfl fun f0_4 => ?_
 refine ok_fact (x := .tmp 1) (ev_tmp rfl) fun f1 => ?_
 iterate 8 refine z ?_
 refine zC Tryz.call65 ?_ (hf := ok_laws_szOpS (by omega) (by omega))
 iterate 7 refine z ?_
 refine yQ rfl (fun c1 => ?_) fun c1 => ?_
 ·skip
  have d1 := of_decide_eq_true c1
  first | have q1 := szR_n d1 | skip
  iterate 6 refine z ?_
  have hh := szR_cases left (wTx x); simp only [wTx] at hh ⊢ <;> omega
 ·skip
  have d1 := of_decide_eq_false c1
  first | have q1 := szR_nn d1 | skip
  iterate 6 refine z ?_
  refine zC Tryz.call15 ?_ (hf := ok_laws_szStoreS (by omega) (by omega))
  iterate 7 refine z ?_
  refine yQ rfl (fun c2 => ?_) fun c2 => ?_
  ·skip
   have d2 := of_decide_eq_true c2
   first | have q2 := szR_n d2 | skip
   iterate 6 refine z ?_
   have hh := szR_cases left (wTx x); simp only [wTx] at hh ⊢ <;> omega
  ·skip
   have d2 := of_decide_eq_false c2
   first | have q2 := szR_nn d2 | skip
   iterate 8 refine z ?_
   have hh := szR_cases left (wTx x); simp only [wTx] at hh ⊢ <;> omega
theorem ok_laws_szTxS {x : List (TxT)} {left : Int} (h0 : 0 ≤ left) (h1 : left ≤ 1048576) : PFn Tryz.prog 17 [.one (.dv [] (txsD (x))), .one (.dv [] (.int .i64 (left)))] (.one (.dv [] (.int .i64 (szR (left) (wList wTx x))))) := by
 refine ⟨fn_intro Tryz.func17 rfl Tryz.ntmps17 Tryz.results17 rfl (fun C => ?_)⟩
 refine ok_fact (x := .tmp 0) (ev_tmp rfl) fun f0 => ?_
 refine ok_fact (x := .tmp 1) (ev_tmp rfl) fun f1 => ?_
 iterate 15 refine z ?_
 refine yQ rfl (fun c1 => ?_) fun c1 => ?_
 ·skip
  have d1 := of_decide_eq_true c1
  first | have q1 := szR_n d1 | skip
  iterate 6 refine z ?_
  have hh := szR_cases left (wList wTx x); simp only [wList] at hh ⊢ <;> omega
 ·skip
  have d1 := of_decide_eq_false c1
  first | have q1 := szR_nn d1 | skip
  iterate 7 refine z ?_
  refine ok_loop (ι := Nat × Int) (fun zz => ⟨[(0, .one (.dv [] (txsD (x)))), (1, .one (.dv [] (.int .i64 (zz.2)))), (5, .one (.dv [] (.int .i64 ((zz.1 : Int)))))], [], []⟩) (fun zz => zz.1 ≤ x.length ∧ 0 ≤ zz.2 ∧ zz.2 + (wSum wTx (x.take zz.1) : Int) = left - (x.length : Int)) (fun zz => x.length - zz.1) ((0, left - (x.length : Int))) ?_ (weak_sub ⟨rfl, rfl, rfl, trivial⟩ trivial trivial rfl) (fun zz hx => ?_)
  ·exact ⟨Nat.zero_le _, by omega, by simp [wSum]⟩
  obtain ⟨k, l⟩ := zz
  replace hx : k ≤ x.length ∧ 0 ≤ l ∧ l + (wSum wTx (x.take k) : Int) = left - (x.length : Int) := hx
  obtain ⟨hk, hl, he⟩ := hx
  have hw := fun h => wSum_succ wTx x k h
  show Ok _ _ _ _ _ (⟨[(0, .one (.dv [] (txsD (x)))), (1, .one (.dv [] (.int .i64 (l)))), (5, .one (.dv [] (.int .i64 ((k : Int)))))], [], []⟩ : St)
  iterate 7 refine z ?_
  refine yQ rfl (fun c2 => ?_) fun c2 => ?_
  ·skip
   have d2 := of_decide_eq_true c2
   first | have q2 := szR_n d2 | skip
   iterate 10 refine z ?_
   refine zC Tryz.call40 ?_ (hf := ok_laws_szTx (by omega) (by omega))
   iterate 6 refine z ?_
   refine yQ rfl (fun c3 => ?_) fun c3 => ?_
   ·skip
    have d3 := of_decide_eq_true c3
    first | have q3 := szR_n d3 | skip
    iterate 10 refine z ?_
    have hw' := hw (by omega); have hh := szR_cases left (wList wTx x); simp only [wList] at hh ⊢ <;> omega
   ·skip
    have d3 := of_decide_eq_false c3
    first | have q3 := szR_nn d3 | skip
    iterate 3 refine z ?_
    refine ok_region ?_
    iterate 4 refine z ?_
    refine ⟨(k + 1, szR l (wTx (x.getD (k : Int).toNat default))), ?_, ?_, weak_sub ⟨rfl, rfl, rfl, trivial⟩ trivial trivial rfl⟩
    ·have hw' := hw (by omega)
     dsimp only
     exact ⟨by omega, by omega, by omega⟩
    ·omega
  ·skip
   have d2 := of_decide_eq_false c2
   first | have q2 := szR_nn d2 | skip
   iterate 11 refine z ?_
   have hw' := wSum_all wTx x k (by omega); have hh := szR_cases left (wList wTx x); simp only [wList] at hh ⊢ <;> omega
theorem ok_laws_szTxQueue {x : List TxT} {left : Int} (h0 : 0 ≤ left) (h1 : left ≤ 1048576) : PFn Tryz.prog 5 [.agg [(.dv [] (txsD (x)))], .one (.dv [] (.int .i64 (left)))] (.one (.dv [] (.int .i64 (szR (left) (wTxQueue x))))) := by
 refine ⟨fn_intro Tryz.func5 rfl Tryz.ntmps5 Tryz.results5 rfl (fun C => ?_)⟩
 refine yF 0 0 rfl rfl fun f0_0 => ?_
 refine ok_fact (x := .tmp 1) (ev_tmp rfl) fun f1 => ?_
 iterate 8 refine z ?_
 refine zC Tryz.call17 ?_ (hf := ok_laws_szTxS (by omega) (by omega))
 iterate 7 refine z ?_
 refine yQ rfl (fun c1 => ?_) fun c1 => ?_
 ·skip
  have d1 := of_decide_eq_true c1
  first | have q1 := szR_n d1 | skip
  iterate 6 refine z ?_
  have hh := szR_cases left (wTxQueue x); simp only [wTxQueue] at hh ⊢ <;> omega
 ·skip
  have d1 := of_decide_eq_false c1
  first | have q1 := szR_nn d1 | skip
  iterate 8 refine z ?_
  have hh := szR_cases left (wTxQueue x); simp only [wTxQueue] at hh ⊢ <;> omega
theorem ok_laws_toTx {x : TxT} (hb : wTx x ≤ 1048576) : KFn Tryz.prog 48 [.agg [(.dv [] (.int .i64 (x.1))), (.dv [] (opsD (x.2.1))), (.dv [] (.int .i64 (x.2.2.1))), (.dv [] (.int .i64 (x.2.2.2.1))), (.dv [] (storesD (x.2.2.2.2)))]] (.agg [(.dv [] (.int .i64 (x.1))), (.key 9007), (.dv [] (.int .i64 (x.2.2.1))), (.dv [] (.int .i64 (x.2.2.2.1))), (.key 19007)]) [(9007, some (kcOf false (opsD (x.2.1)))), (19007, some (kcOf false (storesD (x.2.2.2.2))))] := by
 refine ⟨fn_intro Tryz.func48 rfl Tryz.ntmps48 Tryz.results48 rfl (fun C => ?_)⟩
 refine yF 0 0 rfl rfl fun f0_0 => ?_
 refine yF 0 1 rfl rfl fun f0_1 => ?_
 refine yF 0 2 rfl rfl fun f0_2 => ?_
 refine yF 0 3 rfl rfl fun f0_3 => ?_
 refine yF 0 4 rfl rfl fun f0_4 => ?_
 iterate 16 refine z ?_
 refine zK 9000 Tryz.call69 ?_ (hf := ok_laws_toOpS (by first | omega | (simp only [wKey, wField, wRecord, wItem, wStore, wIndexDef, wDatabase, wOp, wTx, wTxQueue] at hb ⊢; omega) | (have hq := hw (by omega); omega)))
 iterate 18 refine z ?_
 refine zK 19000 Tryz.call23 ?_ (hf := ok_laws_toStoreS (by first | omega | (simp only [wKey, wField, wRecord, wItem, wStore, wIndexDef, wDatabase, wOp, wTx, wTxQueue] at hb ⊢; omega) | (have hq := hw (by omega); omega)))
 iterate 7 refine z ?_
 refine ok_weak (σ' := ⟨[(2, .box 2 0)], [(2, 54, [(.dv [] (.int .i64 (x.1))), (.key 9007), (.dv [] (.int .i64 (x.2.2.1))), (.dv [] (.int .i64 (x.2.2.2.1))), (.key 19007)])], [(9007, some (kcOf false (opsD (x.2.1)))), (19007, some (kcOf false (storesD (x.2.2.2.2))))]⟩) (weak_sub ⟨rfl, trivial⟩ ⟨rfl, trivial⟩ ⟨rfl, rfl, trivial⟩ rfl) ?_
 refine z ?_
 refine fin1 (res_cell hT rfl rfl rfl rfl) ?_
 exact ⟨rfl, rfl⟩
theorem ok_laws_toTxS {x : List (TxT)} (hb : wList wTx x ≤ 1048576) : KFn Tryz.prog 25 [.one (.dv [] (txsD (x)))] (.one (.key 7)) [(7, some (kcOf false (txsD (x))))] := by
 refine ⟨fn_intro Tryz.func25 rfl Tryz.ntmps25 Tryz.results25 rfl (fun C => ?_)⟩
 refine ok_fact (x := .tmp 0) (ev_tmp rfl) fun f0 => ?_
 iterate 6 refine z ?_
 refine o_make (k := 7) (n := ((x)).length) (zd := [.int .i64 (0), .sl 93 7 0 [], .int .i64 (0), .int .i64 (0), .sl 60 3 0 []]) (cs := fillD eTx [.int .i64 (0), .sl 93 7 0 [], .int .i64 (0), .int .i64 (0), .sl 60 3 0 []] x 0) hT rfl rfl rfl rfl rfl rfl (ev_tmp rfl) (ev_tmp rfl) rfl rfl rfl (by have := wList_len wTx x; omega) rfl rfl fillD_zero ?_
 iterate 7 refine z ?_
 refine ok_loop (ι := Nat) (fun zz => ⟨[(0, .one (.dv [] (txsD (x)))), (3, .one (.key 7)), (4, .one (.dv [] (.int .i64 ((zz : Int)))))], [], [(7, some (kcOf false (.sl 54 5 ((x).length) (fillD eTx [.int .i64 (0), .sl 93 7 0 [], .int .i64 (0), .int .i64 (0), .sl 60 3 0 []] x zz))))]⟩) (fun zz => zz ≤ x.length) (fun zz => x.length - zz) (0) ?_ (weak_sub ⟨rfl, rfl, rfl, trivial⟩ trivial ⟨rfl, trivial⟩ rfl) (fun zz hx => ?_)
 ·exact Nat.zero_le _
 obtain ⟨k, rfl⟩ : ∃ v, v = zz := ⟨_, rfl⟩
 replace hx : k ≤ x.length := hx
 have hw := fun h => wSum_succ wTx x k h
 have hw2 := wSum_le wTx x (k + 1)
 have hw3 : wList wTx x = x.length + wSum wTx x := rfl
 show Ok _ _ _ _ _ (⟨[(0, .one (.dv [] (txsD (x)))), (3, .one (.key 7)), (4, .one (.dv [] (.int .i64 ((k : Int)))))], [], [(7, some (kcOf false (.sl 54 5 ((x).length) (fillD eTx [.int .i64 (0), .sl 93 7 0 [], .int .i64 (0), .int .i64 (0), .sl 60 3 0 []] x k))))]⟩ : St)
 iterate 7 refine z ?_
 refine yQ rfl (fun c1 => ?_) fun c1 => ?_
 ·skip
  have d1 := of_decide_eq_true c1
  iterate 4 refine z ?_
  refine ok_region ?_
  iterate 6 refine z ?_
  refine zK 20000 Tryz.call48 ?_ (hf := ok_laws_toTx (by first | omega | (simp only [wKey, wField, wRecord, wItem, wStore, wIndexDef, wDatabase, wOp, wTx, wTxQueue] at hb ⊢; omega) | (have hq := hw (by omega); omega)))
  refine yO rfl rfl (pu_indexK (i := k) hT rfl rfl rfl (ev_tmp rfl) rfl (ev_tmp rfl) rfl (by show _ < ((x).length); omega)) rfl ?_
  refine o_storeE (js := [29007, 39007]) (cs := fillD eTx [.int .i64 (0), .sl 93 7 0 [], .int .i64 (0), .int .i64 (0), .sl 60 3 0 []] x (k + 1)) hT rfl rfl rfl rfl (ev_tmp rfl) (ev_tmp rfl) rfl rfl rfl rfl (ow_cons' (ow_dv rfl) (ow_cons' (ow_key rfl) (ow_cons' (ow_dv rfl) (ow_cons' (ow_dv rfl) (ow_cons' (ow_key rfl) ow_nil rfl) rfl) rfl) rfl) rfl) (by decide) (by decide) rfl (by show _ ≤ List.length (fillD eTx [.int .i64 (0), .sl 93 7 0 [], .int .i64 (0), .int .i64 (0), .sl 60 3 0 []] x k); rw [fillD_len (sz := 5) (fun _ => rfl) rfl]; omega) (fillD_succ (sz := 5) (fun _ => rfl) rfl (by omega) rfl) ?_
  simp only [killT, killB, SV.kill, CV.kill, kk, Nat.reduceBEq]
  refine ops_nil ?_
  iterate 2 refine z ?_
  refine ok_region ?_
  iterate 4 refine z ?_
  refine ⟨k + 1, ?_, ?_, weak_sub ⟨rfl, rfl, rfl, trivial⟩ trivial ⟨rfl, trivial⟩ rfl⟩
  ·omega
  ·omega
 ·skip
  have d1 := of_decide_eq_false c1
  iterate 9 refine z ?_
  refine ok_weak (σ' := ⟨[(2, .one (.key 7))], [], [(7, some (kcOf false (txsD (x))))]⟩) (weak_sub ⟨rfl, trivial⟩ trivial ⟨(congrArg (fun cs => some (some (KC.mk false 54 5 x.length cs))) (fillD_all (by omega))), trivial⟩ rfl) ?_
  refine z ?_
  refine fin1 (res_tmp rfl) ?_
  exact ⟨rfl, rfl⟩
theorem ok_laws_toTxQueue {x : List TxT} (hb : wTxQueue x ≤ 1048576) : KFn Tryz.prog 8 [.agg [(.dv [] (txsD (x)))]] (.agg [(.key 6007)]) [(6007, some (kcOf false (txsD (x))))] := by
 refine ⟨fn_intro Tryz.func8 rfl Tryz.ntmps8 Tryz.results8 rfl (fun C => ?_)⟩
 refine yF 0 0 rfl rfl fun f0_0 => ?_
 iterate 10 refine z ?_
 refine zK 6000 Tryz.call25 ?_ (hf := ok_laws_toTxS (by first | omega | (simp only [wKey, wField, wRecord, wItem, wStore, wIndexDef, wDatabase, wOp, wTx, wTxQueue] at hb ⊢; omega) | (have hq := hw (by omega); omega)))
 iterate 7 refine z ?_
 refine ok_weak (σ' := ⟨[(2, .box 2 0)], [(2, 33, [(.key 6007)])], [(6007, some (kcOf false (txsD (x))))]⟩) (weak_sub ⟨rfl, trivial⟩ ⟨rfl, trivial⟩ ⟨rfl, trivial⟩ rfl) ?_
 refine z ?_
 refine fin1 (res_cell hT rfl rfl rfl rfl) ?_
 exact ⟨rfl, rfl⟩
theorem ok_laws_eqTx {x : TxT}  : PFn Tryz.prog 56 [.agg [(.dv [] (.int .i64 (x.1))), (.dv [] (opsD (x.2.1))), (.dv [] (.int .i64 (x.2.2.1))), (.dv [] (.int .i64 (x.2.2.2.1))), (.dv [] (storesD (x.2.2.2.2)))], .agg [(.dv [] (.int .i64 (x.1))), (.dv [] (opsD (x.2.1))), (.dv [] (.int .i64 (x.2.2.1))), (.dv [] (.int .i64 (x.2.2.2.1))), (.dv [] (storesD (x.2.2.2.2)))]] (.one (.dv [] (.bool (true)))) := by
 refine ⟨fn_intro Tryz.func56 rfl Tryz.ntmps56 Tryz.results56 rfl (fun C => ?_)⟩
 refine yF 0 0 rfl rfl fun f0_0 => ?_
 refine yF 0 1 rfl rfl fun f0_1 => ?_
 refine yF 0 2 rfl rfl fun f0_2 => ?_
 refine yF 0 3 rfl rfl fun f0_3 => ?_
 refine yF 0 4 rfl rfl fun f0_4 => ?_
 refine yF 1 0 rfl rfl fun f1_0 => ?_
 refine yF 1 1 rfl rfl fun f1_1 => ?_
 refine yF 1 2 rfl rfl fun f1_2 => ?_
 refine yF 1 3 rfl rfl fun f1_3 => ?_
 refine yF 1 4 rfl rfl fun f1_4 => ?_
 iterate 13 refine z ?_
 refine yQ rfl (fun c1 => ?_) fun c1 => ?_
 ·skip
  have d1 := nd_t c1
  iterate 6 refine z ?_
  first | rfl | (exfalso; simp_all [sEq])
 ·skip
  have d1 := nd_f c1
  iterate 8 refine z ?_
  refine zC Tryz.call75 ?_ (hf := ok_laws_eqOpS)
  iterate 2 refine z ?_
  refine yQ rfl (fun c2 => ?_) fun c2 => ?_
  ·skip
   iterate 6 refine z ?_
   first | rfl | (exfalso; simp_all [sEq])
  ·skip
   iterate 10 refine z ?_
   refine yQ rfl (fun c3 => ?_) fun c3 => ?_
   ·skip
    have d3 := nd_t c3
    iterate 6 refine z ?_
    first | rfl | (exfalso; simp_all [sEq])
   ·skip
    have d3 := nd_f c3
    iterate 10 refine z ?_
    refine yQ rfl (fun c4 => ?_) fun c4 => ?_
    ·skip
     have d4 := nd_t c4
     iterate 6 refine z ?_
     first | rfl | (exfalso; simp_all [sEq])
    ·skip
     have d4 := nd_f c4
     iterate 8 refine z ?_
     refine zC Tryz.call32 ?_ (hf := ok_laws_eqStoreS)
     iterate 2 refine z ?_
     refine yQ rfl (fun c5 => ?_) fun c5 => ?_
     ·skip
      iterate 6 refine z ?_
      first | rfl | (exfalso; simp_all [sEq])
     ·skip
      iterate 7 refine z ?_
      first | rfl | (exfalso; simp_all [sEq])
theorem ok_laws_eqTxS {x : List (TxT)}  : PFn Tryz.prog 31 [.one (.dv [] (txsD (x))), .one (.dv [] (txsD (x)))] (.one (.dv [] (.bool (true)))) := by
 refine ⟨fn_intro Tryz.func31 rfl Tryz.ntmps31 Tryz.results31 rfl (fun C => ?_)⟩
 refine ok_fact (x := .tmp 0) (ev_tmp rfl) fun f0 => ?_
 refine ok_fact (x := .tmp 1) (ev_tmp rfl) fun f1 => ?_
 iterate 11 refine z ?_
 refine yQ rfl (fun c1 => ?_) fun c1 => ?_
 ·skip
  have d1 := nd_t c1
  iterate 6 refine z ?_
  first | rfl | (exfalso; simp_all [sEq])
 ·skip
  have d1 := nd_f c1
  iterate 7 refine z ?_
  refine ok_loop (ι := Nat) (fun zz => ⟨[(0, .one (.dv [] (txsD (x)))), (1, .one (.dv [] (txsD (x)))), (5, .one (.dv [] (.int .i64 ((zz : Int)))))], [], []⟩) (fun zz => zz ≤ x.length) (fun zz => x.length - zz) (0) ?_ (weak_sub ⟨rfl, rfl, rfl, trivial⟩ trivial trivial rfl) (fun zz hx => ?_)
  ·exact Nat.zero_le _
  obtain ⟨k, rfl⟩ : ∃ v, v = zz := ⟨_, rfl⟩
  replace hx : k ≤ x.length := hx
  show Ok _ _ _ _ _ (⟨[(0, .one (.dv [] (txsD (x)))), (1, .one (.dv [] (txsD (x)))), (5, .one (.dv [] (.int .i64 ((k : Int)))))], [], []⟩ : St)
  iterate 7 refine z ?_
  refine yQ rfl (fun c2 => ?_) fun c2 => ?_
  ·skip
   have d2 := of_decide_eq_true c2
   iterate 4 refine z ?_
   refine ok_seq ?_
   refine ok_regionD (oB := []) (oK := []) (by kernel_rfl) rfl rfl ?_
   refine zD 0 ?_
   refine zD 1 ?_
   refine zD 2 ?_
   refine zD 3 ?_
   refine zD 4 ?_
   refine zD 5 ?_
   refine zD 6 ?_
   refine zD 7 ?_
   refine d_call 8 rfl (by kernel_rfl) rfl rfl rfl Tryz.call56 ok_laws_eqTx (as_cons (ev_tmp rfl) (ag_agg (ag_cons ac_dv (ag_cons ac_dv (ag_cons ac_dv (ag_cons ac_dv (ag_cons ac_dv ag_nil)))))) (as_cons (ev_tmp rfl) (ag_agg (ag_cons ac_dv (ag_cons ac_dv (ag_cons ac_dv (ag_cons ac_dv (ag_cons ac_dv ag_nil)))))) as_nil)) rfl rfl rfl rfl ?_
   refine zD 9 ?_
   refine d_done (by kernel_rfl) ?_
   refine z ?_
   refine yQ rfl (fun c3 => ?_) fun c3 => ?_
   ·skip
    iterate 10 refine z ?_
    first | rfl | (exfalso; simp_all [sEq])
   ·skip
    iterate 3 refine z ?_
    refine ok_region ?_
    iterate 4 refine z ?_
    refine ⟨k + 1, ?_, ?_, weak_sub ⟨rfl, rfl, rfl, trivial⟩ trivial trivial rfl⟩
    ·omega
    ·omega
  ·skip
   have d2 := of_decide_eq_false c2
   iterate 10 refine z ?_
   first | rfl | (exfalso; simp_all [sEq])
theorem ok_laws_eqTxQueue {x : List TxT}  : PFn Tryz.prog 10 [.agg [(.dv [] (txsD (x)))], .agg [(.dv [] (txsD (x)))]] (.one (.dv [] (.bool (true)))) := by
 refine ⟨fn_intro Tryz.func10 rfl Tryz.ntmps10 Tryz.results10 rfl (fun C => ?_)⟩
 refine yF 0 0 rfl rfl fun f0_0 => ?_
 refine yF 1 0 rfl rfl fun f1_0 => ?_
 iterate 11 refine z ?_
 refine zC Tryz.call31 ?_ (hf := ok_laws_eqTxS)
 iterate 2 refine z ?_
 refine yQ rfl (fun c1 => ?_) fun c1 => ?_
 ·skip
  iterate 6 refine z ?_
  first | rfl | (exfalso; simp_all [sEq])
 ·skip
  iterate 7 refine z ?_
  first | rfl | (exfalso; simp_all [sEq])
end Go.Proofs.YtcgmpjedhbhplaaGreat

namespace Go.Proofs.YtcgmpjedhbhplaaGreat
open Go.RowKit
open Go.Proofs
set_option linter.unusedVariables false
set_option linter.unusedSimpArgs false
def isWr (o : OpT) : Bool := (decide (1 ≤ o.1) && decide (o.1 ≤ 6)) && !decide (o.1 = 4)
theorem ok_impl_IsWrite {x : OpT}  : PFn Tryz.prog 71 [.agg [(.dv [] (.int .i64 (x.1))), (.dv [] (.str (x.2.1))), (.dv [] (.int .i64 (x.2.2.1.1))), (.dv [] (.int .i64 (x.2.2.1.2.1))), (.dv [] (.str (x.2.2.1.2.2))), (.dv [] (fieldsD (x.2.2.2.1))), (.dv [] (.str (x.2.2.2.2)))]] (.one (.dv [] (.bool (isWr x)))) := by
 refine ⟨fn_intro Tryz.func71 rfl Tryz.ntmps71 Tryz.results71 rfl (fun C => ?_)⟩
 refine yF 0 0 rfl rfl fun f0_0 => ?_
 refine yF 0 1 rfl rfl fun f0_1 => ?_
 refine yF 0 2 rfl rfl fun f0_2 => ?_
 refine yF 0 3 rfl rfl fun f0_3 => ?_
 refine yF 0 4 rfl rfl fun f0_4 => ?_
 refine yF 0 5 rfl rfl fun f0_5 => ?_
 refine yF 0 6 rfl rfl fun f0_6 => ?_
 iterate 7 refine z ?_
 refine zC Tryz.call84 ?_ (hf := ok_impl_InRange)
 iterate 9 refine z ?_
 first | rfl | grind [isWr]
theorem ok_spec_IsWrite {x : OpT}  : PFn Tryz.prog 67 [.agg [(.dv [] (.int .i64 (x.1))), (.dv [] (.str (x.2.1))), (.dv [] (.int .i64 (x.2.2.1.1))), (.dv [] (.int .i64 (x.2.2.1.2.1))), (.dv [] (.str (x.2.2.1.2.2))), (.dv [] (fieldsD (x.2.2.2.1))), (.dv [] (.str (x.2.2.2.2)))]] (.one (.dv [] (.bool (isWr x)))) := by
 refine ⟨fn_intro Tryz.func67 rfl Tryz.ntmps67 Tryz.results67 rfl (fun C => ?_)⟩
 refine yF 0 0 rfl rfl fun f0_0 => ?_
 refine yF 0 1 rfl rfl fun f0_1 => ?_
 refine yF 0 2 rfl rfl fun f0_2 => ?_
 refine yF 0 3 rfl rfl fun f0_3 => ?_
 refine yF 0 4 rfl rfl fun f0_4 => ?_
 refine yF 0 5 rfl rfl fun f0_5 => ?_
 refine yF 0 6 rfl rfl fun f0_6 => ?_
 iterate 7 refine z ?_
 refine zC Tryz.call43 ?_ (hf := ok_spec_l1In)
 iterate 9 refine z ?_
 first | rfl | grind [isWr]
end Go.Proofs.YtcgmpjedhbhplaaGreat

namespace Go.Proofs.YtcgmpjedhbhplaaGreat
open Go.RowKit
open Go.Proofs
set_option linter.unusedVariables false
set_option linter.unusedSimpArgs false

theorem any_step {α : Type} {p : α → Bool} {l : List α} {k : Nat} {d : α} (h : (l.take k).any p = false) (hk : k < l.length) (hp : p (l.getD k d) = false) : (l.take (k + 1)).any p = false := by
 rw [List.take_succ_eq_append_getElem hk, List.any_append, h]
 simp only [List.any_cons, List.any_nil, Bool.or_false, Bool.false_or]
 simpa [List.getD, List.getElem?_eq_getElem hk] using hp
theorem any_yes {α : Type} {p : α → Bool} {l : List α} {k : Nat} {d : α} (hk : k < l.length) (hp : p (l.getD k d) = true) : l.any p = true := by
 rw [List.any_eq_true]
 exact ⟨l[k], List.getElem_mem hk, by simpa [List.getD, List.getElem?_eq_getElem hk] using hp⟩
theorem any_no {α : Type} {p : α → Bool} {l : List α} {k : Nat} (h : (l.take k).any p = false) (hk : l.length ≤ k) : l.any p = false := by
 rwa [List.take_of_length_le hk] at h
def conf2 (x y : OpT) : Bool := sEq x.2.1 y.2.1 && (isWr x || isWr y)
def conf (a b : List OpT) : Bool := a.any fun x => b.any (conf2 x)

theorem ok_impl_Conflicts {a b : List OpT}  : PFn Tryz.prog 50 [.one (.dv [] (opsD (a))), .one (.dv [] (opsD (b)))] (.one (.dv [] (.bool (conf a b)))) := by
 refine ⟨fn_intro Tryz.func50 rfl Tryz.ntmps50 Tryz.results50 rfl (fun C => ?_)⟩
 refine ok_fact (x := .tmp 0) (ev_tmp rfl) fun f0 => ?_
 refine ok_fact (x := .tmp 1) (ev_tmp rfl) fun f1 => ?_
 iterate 10 refine z ?_
 refine ok_loop (ι := Nat) (fun zz => ⟨[(1, .one (.dv [] (opsD (b)))), (9, .one (.dv [] (opsD (a)))), (10, .one (.dv [] (.int .i64 ((((a)).length : Int))))), (11, .one (.dv [] (.int .i64 ((zz : Int)))))], [], []⟩) (fun zz => zz ≤ a.length ∧ (a.take zz).any (fun x => b.any (conf2 x)) = false) (fun zz => a.length - zz) (0) ?_ (weak_sub ⟨rfl, rfl, rfl, rfl, trivial⟩ trivial trivial rfl) (fun zz hx => ?_)
 ·exact ⟨Nat.zero_le _, rfl⟩
 obtain ⟨i, rfl⟩ : ∃ v, v = zz := ⟨_, rfl⟩
 replace hx : i ≤ a.length ∧ (a.take i).any (fun x => b.any (conf2 x)) = false := hx
 obtain ⟨hi, hall⟩ := hx
 show Ok _ _ _ _ _ (⟨[(1, .one (.dv [] (opsD (b)))), (9, .one (.dv [] (opsD (a)))), (10, .one (.dv [] (.int .i64 ((((a)).length : Int))))), (11, .one (.dv [] (.int .i64 ((i : Int)))))], [], []⟩ : St)
 iterate 3 refine z ?_
 refine ok_seq ?_
 refine yQ rfl (fun c1 => ?_) fun c1 => ?_
 ·skip
  have d1 := of_decide_eq_true c1
  iterate 16 refine z ?_
  refine ok_loop (ι := Nat) (fun zz => ⟨[(1, .one (.dv [] (opsD (b)))), (6, .box 6 0), (9, .one (.dv [] (opsD (a)))), (10, .one (.dv [] (.int .i64 ((((a)).length : Int))))), (11, .one (.dv [] (.int .i64 ((i : Int))))), (15, .one (.dv [] (opsD (b)))), (16, .one (.dv [] (.int .i64 ((((b)).length : Int))))), (17, .one (.dv [] (.int .i64 ((zz : Int)))))], [(6, 93, [(.dv [] (.int .i64 ((((a)).getD ((i : Int)).toNat default).1))), (.dv [] (.str ((((a)).getD ((i : Int)).toNat default).2.1))), (.dv [] (.int .i64 ((((a)).getD ((i : Int)).toNat default).2.2.1.1))), (.dv [] (.int .i64 ((((a)).getD ((i : Int)).toNat default).2.2.1.2.1))), (.dv [] (.str ((((a)).getD ((i : Int)).toNat default).2.2.1.2.2))), (.dv [] (fieldsD ((((a)).getD ((i : Int)).toNat default).2.2.2.1))), (.dv [] (.str ((((a)).getD ((i : Int)).toNat default).2.2.2.2)))])], []⟩) (fun zz => zz ≤ b.length ∧ (b.take zz).any (conf2 (a.getD (i : Int).toNat default)) = false) (fun zz => b.length - zz) (0) ?_ (weak_sub ⟨rfl, rfl, rfl, rfl, rfl, rfl, rfl, rfl, trivial⟩ ⟨rfl, trivial⟩ trivial rfl) (fun zz hx => ?_)
  ·exact ⟨Nat.zero_le _, rfl⟩
  obtain ⟨j, rfl⟩ : ∃ v, v = zz := ⟨_, rfl⟩
  replace hx : j ≤ b.length ∧ (b.take j).any (conf2 (a.getD (i : Int).toNat default)) = false := hx
  obtain ⟨hj, hall2⟩ := hx
  show Ok _ _ _ _ _ (⟨[(1, .one (.dv [] (opsD (b)))), (6, .box 6 0), (9, .one (.dv [] (opsD (a)))), (10, .one (.dv [] (.int .i64 ((((a)).length : Int))))), (11, .one (.dv [] (.int .i64 ((i : Int))))), (15, .one (.dv [] (opsD (b)))), (16, .one (.dv [] (.int .i64 ((((b)).length : Int))))), (17, .one (.dv [] (.int .i64 ((j : Int)))))], [(6, 93, [(.dv [] (.int .i64 ((((a)).getD ((i : Int)).toNat default).1))), (.dv [] (.str ((((a)).getD ((i : Int)).toNat default).2.1))), (.dv [] (.int .i64 ((((a)).getD ((i : Int)).toNat default).2.2.1.1))), (.dv [] (.int .i64 ((((a)).getD ((i : Int)).toNat default).2.2.1.2.1))), (.dv [] (.str ((((a)).getD ((i : Int)).toNat default).2.2.1.2.2))), (.dv [] (fieldsD ((((a)).getD ((i : Int)).toNat default).2.2.2.1))), (.dv [] (.str ((((a)).getD ((i : Int)).toNat default).2.2.2.2)))])], []⟩ : St)
  iterate 3 refine z ?_
  refine ok_seq ?_
  refine yQ rfl (fun c2 => ?_) fun c2 => ?_
  ·skip
   have d2 := of_decide_eq_true c2
   iterate 18 refine z ?_
   refine o_callG (gd_bool rfl rfl rfl rfl rfl) rfl rfl Tryz.call71 ok_impl_IsWrite (fun hg => (as_cons (ev_opt rfl hg) (ag_agg (ag_cons ac_dv (ag_cons ac_dv (ag_cons ac_dv (ag_cons ac_dv (ag_cons ac_dv (ag_cons ac_dv (ag_cons ac_dv ag_nil)))))))) as_nil)) rfl rfl ?_
   iterate 2 refine z ?_
   refine o_callG (gd_opt rfl rfl rfl rfl rfl) rfl rfl Tryz.call71 ok_impl_IsWrite (fun hg => (as_cons (ev_opt rfl hg) (ag_agg (ag_cons ac_dv (ag_cons ac_dv (ag_cons ac_dv (ag_cons ac_dv (ag_cons ac_dv (ag_cons ac_dv (ag_cons ac_dv ag_nil)))))))) as_nil)) rfl rfl ?_
   iterate 3 refine z ?_
   refine yQ rfl (fun c3 => ?_) fun c3 => ?_
   ·skip
    iterate 14 refine z ?_
    have h1 : b.any (conf2 (a.getD i default)) = true := any_yes (k := j) (d := default) (by omega) c3
    have h2 : a.any (fun x => b.any (conf2 x)) = true := any_yes (k := i) (d := default) (by omega) h1
    exact h2.symm
   ·skip
    iterate 3 refine z ?_
    refine ok_region ?_
    iterate 3 refine z ?_
    refine ⟨j + 1, ?_, ?_, weak_sub ⟨rfl, rfl, rfl, rfl, rfl, rfl, rfl, rfl, trivial⟩ ⟨rfl, trivial⟩ trivial rfl⟩
    ·exact ⟨by omega, any_step (d := default) hall2 (by omega) (by first | exact c3 | exact c4 | exact c2)⟩
    ·omega
  ·skip
   have d2 := of_decide_eq_false c2
   iterate 6 refine z ?_
   refine ok_region ?_
   iterate 3 refine z ?_
   refine ⟨i + 1, ?_, ?_, weak_sub ⟨rfl, rfl, rfl, rfl, trivial⟩ trivial trivial rfl⟩
   ·exact ⟨by omega, any_step (d := default) hall (by omega) (any_no hall2 (by omega))⟩
   ·omega
 ·skip
  have d1 := of_decide_eq_false c1
  iterate 10 refine z ?_
  exact (any_no (k := i) hall (by omega)).symm
theorem ok_spec_Conflicts {a b : List OpT}  : PFn Tryz.prog 44 [.one (.dv [] (opsD (a))), .one (.dv [] (opsD (b)))] (.one (.dv [] (.bool (conf a b)))) := by
 refine ⟨fn_intro Tryz.func44 rfl Tryz.ntmps44 Tryz.results44 rfl (fun C => ?_)⟩
 refine ok_fact (x := .tmp 0) (ev_tmp rfl) fun f0 => ?_
 refine ok_fact (x := .tmp 1) (ev_tmp rfl) fun f1 => ?_
 iterate 8 refine z ?_
 refine ok_loop (ι := Nat) (fun zz => ⟨[(0, .one (.dv [] (opsD (a)))), (1, .one (.dv [] (opsD (b)))), (5, .one (.dv [] (.int .i64 ((zz : Int)))))], [], []⟩) (fun zz => zz ≤ a.length ∧ (a.take zz).any (fun x => b.any (conf2 x)) = false) (fun zz => a.length - zz) (0) ?_ (weak_sub ⟨rfl, rfl, rfl, trivial⟩ trivial trivial rfl) (fun zz hx => ?_)
 ·exact ⟨Nat.zero_le _, rfl⟩
 obtain ⟨i, rfl⟩ : ∃ v, v = zz := ⟨_, rfl⟩
 replace hx : i ≤ a.length ∧ (a.take i).any (fun x => b.any (conf2 x)) = false := hx
 obtain ⟨hi, hall⟩ := hx
 show Ok _ _ _ _ _ (⟨[(0, .one (.dv [] (opsD (a)))), (1, .one (.dv [] (opsD (b)))), (5, .one (.dv [] (.int .i64 ((i : Int)))))], [], []⟩ : St)
 iterate 7 refine z ?_
 refine yQ rfl (fun c1 => ?_) fun c1 => ?_
 ·skip
  have d1 := of_decide_eq_true c1
  iterate 8 refine z ?_
  refine ok_loop (ι := Nat) (fun zz => ⟨[(0, .one (.dv [] (opsD (a)))), (1, .one (.dv [] (opsD (b)))), (5, .one (.dv [] (.int .i64 ((i : Int))))), (6, .one (.dv [] (.int .i64 ((zz : Int)))))], [], []⟩) (fun zz => zz ≤ b.length ∧ (b.take zz).any (conf2 (a.getD (i : Int).toNat default)) = false) (fun zz => b.length - zz) (0) ?_ (weak_sub ⟨rfl, rfl, rfl, rfl, trivial⟩ trivial trivial rfl) (fun zz hx => ?_)
  ·exact ⟨Nat.zero_le _, rfl⟩
  obtain ⟨j, rfl⟩ : ∃ v, v = zz := ⟨_, rfl⟩
  replace hx : j ≤ b.length ∧ (b.take j).any (conf2 (a.getD (i : Int).toNat default)) = false := hx
  obtain ⟨hj, hall2⟩ := hx
  show Ok _ _ _ _ _ (⟨[(0, .one (.dv [] (opsD (a)))), (1, .one (.dv [] (opsD (b)))), (5, .one (.dv [] (.int .i64 ((i : Int))))), (6, .one (.dv [] (.int .i64 ((j : Int)))))], [], []⟩ : St)
  iterate 7 refine z ?_
  refine yQ rfl (fun c2 => ?_) fun c2 => ?_
  ·skip
   have d2 := of_decide_eq_true c2
   iterate 4 refine z ?_
   refine ok_seq ?_
   refine ok_regionD (oB := []) (oK := []) (by kernel_rfl) rfl rfl ?_
   refine zD 0 ?_
   refine zD 1 ?_
   refine zD 2 ?_
   refine zD 3 ?_
   refine zD 4 ?_
   refine zD 5 ?_
   refine zD 6 ?_
   refine zD 7 ?_
   refine zD 8 ?_
   refine zD 9 ?_
   refine zD 10 ?_
   refine zD 11 ?_
   refine zDG 12 ?_
   refine zDG 13 ?_
   refine zDG 14 ?_
   refine zDG 15 ?_
   refine d_callG 16 rfl (by kernel_rfl) (gd_bool rfl rfl rfl rfl rfl) rfl rfl Tryz.call67 ok_spec_IsWrite (fun hg => (as_cons (ev_opt rfl hg) (ag_agg (ag_cons ac_dv (ag_cons ac_dv (ag_cons ac_dv (ag_cons ac_dv (ag_cons ac_dv (ag_cons ac_dv (ag_cons ac_dv ag_nil)))))))) as_nil)) rfl rfl ?_
   refine zDG 17 ?_
   refine zDG 18 ?_
   refine zDG 19 ?_
   refine zDG 20 ?_
   refine zDG 21 ?_
   refine d_callG 22 rfl (by kernel_rfl) (gd_opt rfl rfl rfl rfl rfl) rfl rfl Tryz.call67 ok_spec_IsWrite (fun hg => (as_cons (ev_opt rfl hg) (ag_agg (ag_cons ac_dv (ag_cons ac_dv (ag_cons ac_dv (ag_cons ac_dv (ag_cons ac_dv (ag_cons ac_dv (ag_cons ac_dv ag_nil)))))))) as_nil)) rfl rfl ?_
   refine zDG 23 ?_
   refine zD 24 ?_
   refine d_done (by kernel_rfl) ?_
   refine z ?_
   refine yQ rfl (fun c3 => ?_) fun c3 => ?_
   ·skip
    iterate 14 refine z ?_
    have h1 : b.any (conf2 (a.getD i default)) = true := any_yes (k := j) (d := default) (by omega) c3
    have h2 : a.any (fun x => b.any (conf2 x)) = true := any_yes (k := i) (d := default) (by omega) h1
    exact h2.symm
   ·skip
    iterate 3 refine z ?_
    refine ok_region ?_
    iterate 4 refine z ?_
    refine ⟨j + 1, ?_, ?_, weak_sub ⟨rfl, rfl, rfl, rfl, trivial⟩ trivial trivial rfl⟩
    ·exact ⟨by omega, any_step (d := default) hall2 (by omega) (by first | exact c3 | exact c4 | exact c2)⟩
    ·omega
  ·skip
   have d2 := of_decide_eq_false c2
   iterate 6 refine z ?_
   refine ok_region ?_
   iterate 4 refine z ?_
   refine ⟨i + 1, ?_, ?_, weak_sub ⟨rfl, rfl, rfl, trivial⟩ trivial trivial rfl⟩
   ·exact ⟨by omega, any_step (d := default) hall (by omega) (any_no hall2 (by omega))⟩
   ·omega
 ·skip
  have d1 := of_decide_eq_false c1
  iterate 10 refine z ?_
  exact (any_no (k := i) hall (by omega)).symm
end Go.Proofs.YtcgmpjedhbhplaaGreat

namespace Go.Proofs.YtcgmpjedhbhplaaGreat
open Go.RowKit
open Go.Proofs
set_option linter.unusedVariables false
set_option linter.unusedSimpArgs false

def findI {α : Type} (p : α → Bool) : List α → Int → Int
 | [], _ => -1
 | x :: xs, i => if p x then i else findI p xs (i + 1)
theorem findI_skip {α : Type} {p : α → Bool} : ∀ {xs : List α} {k : Nat} {i : Int}, (xs.take k).any p = false → k ≤ xs.length → findI p xs i = findI p (xs.drop k) (i + k)
 | xs, 0, i, _, _ => by simp
 | [], k + 1, i, _, hk => by simp at hk
 | x :: xs, k + 1, i, h, hk => by
  simp only [List.take_succ_cons, List.any_cons, Bool.or_eq_false_iff] at h
  rw [findI, h.1, List.drop_succ_cons]
  simp only [Bool.false_eq_true, if_false]
  rw [findI_skip h.2 (by simpa using hk)]
  congr 1; omega
theorem findI_at {α : Type} {p : α → Bool} {xs : List α} {k : Nat} {d : α} (h : (xs.take k).any p = false) (hk : k < xs.length) (hp : p (xs.getD k d) = true) : findI p xs 0 = (k : Int) := by
 rw [findI_skip h (by omega), List.drop_eq_getElem_cons hk, findI]
 have : p xs[k] = true := by simpa [List.getD, List.getElem?_eq_getElem hk] using hp
 rw [if_pos this]; omega
theorem findI_none {α : Type} {p : α → Bool} {xs : List α} {k : Nat} (h : (xs.take k).any p = false) (hk : k = xs.length) : findI p xs 0 = -1 := by
 rw [findI_skip h (by omega), hk, List.drop_length]; rfl
theorem any_stepI {α : Type} {p : α → Bool} {l : List α} {k : Nat} {d : α} (h : (l.take k).any p = false) (hk : k < l.length) (hp : p (l.getD k d) = false) : (l.take (k + 1)).any p = false := by
 rw [List.take_succ_eq_append_getElem hk, List.any_append, h]
 simp only [List.any_cons, List.any_nil, Bool.or_false, Bool.false_or]
 simpa [List.getD, List.getElem?_eq_getElem hk] using hp
def hasName (n : Str) (s : StoreT) : Bool := sEq s.1 n

theorem ok_impl_FindStore_1 {x : StoreT} {n : Str}  : PFn Tryz.prog 54 [.agg [(.dv [] (.str (x.1))), (.dv [] (itemsD (x.2.1))), (.dv [] (.int .i64 (x.2.2)))], .ref [] [.str (n)]] (.one (.dv [] (.bool (hasName n x)))) := by
 refine ⟨fn_intro Tryz.func54 rfl Tryz.ntmps54 Tryz.results54 rfl (fun C => ?_)⟩
 refine yF 0 0 rfl rfl fun f0_0 => ?_
 refine yF 0 1 rfl rfl fun f0_1 => ?_
 refine yF 0 2 rfl rfl fun f0_2 => ?_
 iterate 13 refine z ?_
 rfl
theorem ok_slices_IndexFunc_Store {x : List StoreT} {n : Str}  : PFn Tryz.prog 53 [.one (.dv [] (storesD (x))), .fn 54 [[.str (n)]]] (.one (.dv [] (.int .i64 (findI (hasName n) x 0)))) := by
 refine ⟨fn_intro Tryz.func53 rfl Tryz.ntmps53 Tryz.results53 rfl (fun C => ?_)⟩
 refine ok_fact (x := .tmp 0) (ev_tmp rfl) fun f0 => ?_
 iterate 10 refine z ?_
 refine ok_loop (ι := Nat) (fun zz => ⟨[(0, .one (.dv [] (storesD (x)))), (1, .fn 54 [[.str (n)]]), (7, .one (.dv [] (.int .i64 ((((x)).length : Int))))), (8, .one (.dv [] (.int .i64 ((zz : Int)))))], [], []⟩) (fun zz => zz ≤ x.length ∧ (x.take zz).any (hasName n) = false) (fun zz => x.length - zz) (0) ?_ (weak_sub ⟨rfl, rfl, rfl, rfl, trivial⟩ trivial trivial rfl) (fun zz hx => ?_)
 ·exact ⟨Nat.zero_le _, rfl⟩
 obtain ⟨k, rfl⟩ : ∃ v, v = zz := ⟨_, rfl⟩
 replace hx : k ≤ x.length ∧ (x.take k).any (hasName n) = false := hx
 obtain ⟨hk, hall⟩ := hx
 show Ok _ _ _ _ _ (⟨[(0, .one (.dv [] (storesD (x)))), (1, .fn 54 [[.str (n)]]), (7, .one (.dv [] (.int .i64 ((((x)).length : Int))))), (8, .one (.dv [] (.int .i64 ((k : Int)))))], [], []⟩ : St)
 iterate 3 refine z ?_
 refine ok_seq ?_
 refine yQ rfl (fun c1 => ?_) fun c1 => ?_
 ·skip
  have d1 := of_decide_eq_true c1
  iterate 14 refine z ?_
  refine o_callV rfl rfl rfl (ev_tmp rfl) Tryz.call54 ok_impl_FindStore_1 (as_cons (ev_tmp rfl) (ag_agg (ag_cons ac_dv (ag_cons ac_dv (ag_cons ac_dv ag_nil)))) as_nil) rfl rfl ?_
  refine z ?_
  refine yQ rfl (fun c2 => ?_) fun c2 => ?_
  ·skip
   iterate 11 refine z ?_
   exact (findI_at (p := hasName n) (d := default) hall (by omega) c2).symm
  ·skip
   iterate 3 refine z ?_
   refine ok_region ?_
   iterate 3 refine z ?_
   refine ⟨k + 1, ?_, ?_, weak_sub ⟨rfl, rfl, rfl, rfl, trivial⟩ trivial trivial rfl⟩
   ·exact ⟨by omega, any_stepI (d := default) hall (by omega) c2⟩
   ·omega
 ·skip
  have d1 := of_decide_eq_false c1
  iterate 10 refine z ?_
  exact (findI_none (p := hasName n) hall (by omega)).symm
theorem ok_impl_FindStore {x : DbT} {n : Str}  : PFn Tryz.prog 29 [.agg [(.dv [] (.str (x.1))), (.dv [] (.int .i64 (x.2.1))), (.dv [] (storesD (x.2.2.1))), (.dv [] (defsD (x.2.2.2)))], .one (.dv [] (.str (n)))] (.one (.dv [] (.int .i64 (findI (hasName n) x.2.2.1 0)))) := by
 refine ⟨fn_intro Tryz.func29 rfl Tryz.ntmps29 Tryz.results29 rfl (fun C => ?_)⟩
 refine yF 0 0 rfl rfl fun f0_0 => ?_
 refine yF 0 1 rfl rfl fun f0_1 => ?_
 refine yF 0 2 rfl rfl fun f0_2 => ?_
 refine yF 0 3 rfl rfl fun f0_3 => ?_
 refine ok_fact (x := .tmp 1) (ev_tmp rfl) fun f1 => ?_
 iterate 8 refine z ?_
 refine yO rfl rfl (pu_clo1 rfl (ev_tmp rfl)) rfl ?_
 refine o_call rfl rfl rfl Tryz.call53 ok_slices_IndexFunc_Store (as_cons (ev_tmp rfl) (ag_one ac_dv) (as_cons (ev_tmp rfl) (a_clo (clo_cons rfl rfl clo_nil)) as_nil)) rfl rfl ?_
 iterate 4 refine z ?_
 rfl
theorem ok_spec_FindStore {x : DbT} {n : Str}  : PFn Tryz.prog 21 [.agg [(.dv [] (.str (x.1))), (.dv [] (.int .i64 (x.2.1))), (.dv [] (storesD (x.2.2.1))), (.dv [] (defsD (x.2.2.2)))], .one (.dv [] (.str (n)))] (.one (.dv [] (.int .i64 (findI (hasName n) x.2.2.1 0)))) := by
 refine ⟨fn_intro Tryz.func21 rfl Tryz.ntmps21 Tryz.results21 rfl (fun C => ?_)⟩
 refine yF 0 0 rfl rfl fun f0_0 => ?_
 refine yF 0 1 rfl rfl fun f0_1 => ?_
 refine yF 0 2 rfl rfl fun f0_2 => ?_
 refine yF 0 3 rfl rfl fun f0_3 => ?_
 refine ok_fact (x := .tmp 1) (ev_tmp rfl) fun f1 => ?_
 iterate 9 refine z ?_
 refine ok_loop (ι := Nat) (fun zz => ⟨[(1, .one (.dv [] (.str (n)))), (2, .box 2 0), (5, .one (.dv [] (.int .i64 ((zz : Int)))))], [(2, 39, [(.dv [] (.str (x.1))), (.dv [] (.int .i64 (x.2.1))), (.dv [] (storesD (x.2.2.1))), (.dv [] (defsD (x.2.2.2)))])], []⟩) (fun zz => zz ≤ x.2.2.1.length ∧ (x.2.2.1.take zz).any (hasName n) = false) (fun zz => x.2.2.1.length - zz) (0) ?_ (weak_sub ⟨rfl, rfl, rfl, trivial⟩ ⟨rfl, trivial⟩ trivial rfl) (fun zz hx => ?_)
 ·exact ⟨Nat.zero_le _, rfl⟩
 obtain ⟨k, rfl⟩ : ∃ v, v = zz := ⟨_, rfl⟩
 replace hx : k ≤ x.2.2.1.length ∧ (x.2.2.1.take k).any (hasName n) = false := hx
 obtain ⟨hk, hall⟩ := hx
 show Ok _ _ _ _ _ (⟨[(1, .one (.dv [] (.str (n)))), (2, .box 2 0), (5, .one (.dv [] (.int .i64 ((k : Int)))))], [(2, 39, [(.dv [] (.str (x.1))), (.dv [] (.int .i64 (x.2.1))), (.dv [] (storesD (x.2.2.1))), (.dv [] (defsD (x.2.2.2)))])], []⟩ : St)
 iterate 8 refine z ?_
 refine yQ rfl (fun c1 => ?_) fun c1 => ?_
 ·skip
  have d1 := of_decide_eq_true c1
  iterate 14 refine z ?_
  refine yQ rfl (fun c2 => ?_) fun c2 => ?_
  ·skip
   iterate 11 refine z ?_
   exact (findI_at (p := hasName n) (d := default) hall (by omega) c2).symm
  ·skip
   iterate 3 refine z ?_
   refine ok_region ?_
   iterate 4 refine z ?_
   refine ⟨k + 1, ?_, ?_, weak_sub ⟨rfl, rfl, rfl, trivial⟩ ⟨rfl, trivial⟩ trivial rfl⟩
   ·exact ⟨by omega, any_stepI (d := default) hall (by omega) c2⟩
   ·omega
 ·skip
  have d1 := of_decide_eq_false c1
  iterate 10 refine z ?_
  exact (findI_none (p := hasName n) hall (by omega)).symm
end Go.Proofs.YtcgmpjedhbhplaaGreat

namespace Go.Proofs.YtcgmpjedhbhplaaGreat
open Go.RowKit
open Go.Proofs
set_option linter.unusedVariables false
set_option linter.unusedSimpArgs false

def blocks (q : List TxT) (i : Int) (t : TxT) : Bool := (decide (t.2.2.2.1 = 0) || decide (t.2.2.2.1 = 1)) && conf t.2.1 (q.getD i.toNat default).2.1
def canS (q : List TxT) (i : Int) : Bool := ((decide (0 ≤ i) && decide (i < (q.length : Int))) && decide ((q.getD i.toNat default).2.2.2.1 = 0)) && !(q.take i.toNat).any (blocks q i)
theorem take_getD {α : Type} {q : List α} {n k : Nat} {d : α} (h : k < n) : (q.take n).getD k d = q.getD k d := by simp [List.getD, List.getElem?_take, h]
theorem st01 (s : Int) : (decide (s = 0) || decide (s = 1)) = (decide (0 ≤ s) && decide (s ≤ 1)) := by
 by_cases h0 : s = 0
 ·simp [h0]
 ·by_cases h1 : s = 1
  ·simp [h1]
  ·have : ¬ (0 ≤ s ∧ s ≤ 1) := by omega
   by_cases h2 : 0 ≤ s <;> by_cases h3 : s ≤ 1 <;> simp [h0, h1, h2, h3]
   omega

theorem ok_impl_CanStart {q : List TxT} {i : Int}  : PFn Tryz.prog 27 [.agg [(.dv [] (txsD (q)))], .one (.dv [] (.int .i64 (i)))] (.one (.dv [] (.bool (canS q i)))) := by
 refine ⟨fn_intro Tryz.func27 rfl Tryz.ntmps27 Tryz.results27 rfl (fun C => ?_)⟩
 refine yF 0 0 rfl rfl fun f0_0 => ?_
 refine ok_fact (x := .tmp 1) (ev_tmp rfl) fun f1 => ?_
 iterate 25 refine z ?_
 refine yQ rfl (fun c1 => ?_) fun c1 => ?_
 ·skip
  iterate 6 refine z ?_
  have h := c1; grind [canS]
 ·skip
  have e1 : 0 ≤ i ∧ i < (q.length : Int) := by grind
  have e2 : (q.take i.toNat).length = i.toNat := by rw [List.length_take]; omega
  iterate 7 refine z ?_
  refine yO rfl rfl (pu_sliceH hT rfl rfl rfl (ev_tmp rfl) (ev_tmp rfl) (fun _ => rfl) (by omega) (by omega)) rfl ?_
  iterate 4 refine z ?_
  refine ok_loop (ι := Nat) (fun zz => ⟨[(1, .one (.dv [] (.int .i64 (i)))), (2, .box 2 0), (28, .one (.dv [] (txsD (((q)).take (i).toNat)))), (29, .one (.dv [] (.int .i64 ((((((q)).take (i).toNat)).length : Int))))), (30, .one (.dv [] (.int .i64 ((zz : Int)))))], [(2, 33, [(.dv [] (txsD (q)))])], []⟩) (fun zz => zz ≤ i.toNat ∧ ((q.take i.toNat).take zz).any (blocks q i) = false) (fun zz => i.toNat - zz) (0) ?_ (weak_sub ⟨rfl, rfl, rfl, rfl, rfl, trivial⟩ ⟨rfl, trivial⟩ trivial rfl) (fun zz hx => ?_)
  ·exact ⟨Nat.zero_le _, by simp⟩
  obtain ⟨k, rfl⟩ : ∃ v, v = zz := ⟨_, rfl⟩
  replace hx : k ≤ i.toNat ∧ ((q.take i.toNat).take k).any (blocks q i) = false := hx
  obtain ⟨hk, hall⟩ := hx
  show Ok _ _ _ _ _ (⟨[(1, .one (.dv [] (.int .i64 (i)))), (2, .box 2 0), (28, .one (.dv [] (txsD (((q)).take (i).toNat)))), (29, .one (.dv [] (.int .i64 ((((((q)).take (i).toNat)).length : Int))))), (30, .one (.dv [] (.int .i64 ((k : Int)))))], [(2, 33, [(.dv [] (txsD (q)))])], []⟩ : St)
  iterate 3 refine z ?_
  refine ok_seq ?_
  refine yQ rfl (fun c2 => ?_) fun c2 => ?_
  ·skip
   have d2 := of_decide_eq_true c2
   iterate 10 refine z ?_
   refine ok_seq ?_
   refine ok_regionD (oB := [2, 6]) (oK := []) (by kernel_rfl) rfl rfl ?_
   refine zD 0 ?_
   refine zD 1 ?_
   refine zD 2 ?_
   refine zD 3 ?_
   refine zDG 4 ?_
   refine zDG 5 ?_
   refine zDG 6 ?_
   refine zD 7 ?_
   refine zD 8 ?_
   refine zDG 9 ?_
   refine zDG 10 ?_
   refine zDG 11 ?_
   refine zDG 12 ?_
   refine zDG 13 ?_
   refine zDG 14 ?_
   refine zDG 15 ?_
   refine zDG 16 ?_
   refine d_callG 17 rfl (by kernel_rfl) (gd_bool rfl rfl rfl rfl rfl) rfl rfl Tryz.call50 ok_impl_Conflicts (fun hg => (as_cons (ev_opt rfl hg) (ag_one ac_dv) (as_cons (ev_opt rfl hg) (ag_one ac_dv) as_nil))) rfl rfl ?_
   refine zD 18 ?_
   refine d_done (by kernel_rfl) ?_
   refine z ?_
   refine yQ rfl (fun c3 => ?_) fun c3 => ?_
   ·skip
    iterate 10 refine z ?_
    have h2 : (q.take i.toNat).any (blocks q i) = true := any_yes (k := k) (d := default) (by rw [e2]; omega) (c3)
    rw [canS, h2]; simp
   ·skip
    iterate 3 refine z ?_
    refine ok_region ?_
    iterate 3 refine z ?_
    refine ⟨k + 1, ?_, ?_, weak_sub ⟨rfl, rfl, rfl, rfl, rfl, trivial⟩ ⟨rfl, trivial⟩ trivial rfl⟩
    ·exact ⟨by omega, any_step (d := default) hall (by rw [e2]; omega) (c3)⟩
    ·omega
  ·skip
   have d2 := of_decide_eq_false c2
   iterate 10 refine z ?_
   have h2 : (q.take i.toNat).any (blocks q i) = false := any_no (k := k) hall (by rw [e2]; omega)
   rw [canS, h2]; have h := c1; clear hall h2; grind
theorem ok_spec_CanStart {q : List TxT} {i : Int}  : PFn Tryz.prog 19 [.agg [(.dv [] (txsD (q)))], .one (.dv [] (.int .i64 (i)))] (.one (.dv [] (.bool (canS q i)))) := by
 refine ⟨fn_intro Tryz.func19 rfl Tryz.ntmps19 Tryz.results19 rfl (fun C => ?_)⟩
 refine yF 0 0 rfl rfl fun f0_0 => ?_
 refine ok_fact (x := .tmp 1) (ev_tmp rfl) fun f1 => ?_
 iterate 11 refine z ?_
 refine zC Tryz.call43 ?_ (hf := ok_spec_l1In)
 iterate 11 refine z ?_
 refine yQ rfl (fun c1 => ?_) fun c1 => ?_
 ·skip
  iterate 6 refine z ?_
  have h := c1; grind [canS]
 ·skip
  have e1 : 0 ≤ i ∧ i < (q.length : Int) := by grind
  have e2 : (q.take i.toNat).length = i.toNat := by rw [List.length_take]; omega
  iterate 7 refine z ?_
  refine ok_loop (ι := Nat) (fun zz => ⟨[(1, .one (.dv [] (.int .i64 (i)))), (2, .box 2 0), (5, .one (.dv [] (.int .i64 ((zz : Int)))))], [(2, 33, [(.dv [] (txsD (q)))])], []⟩) (fun zz => zz ≤ i.toNat ∧ ((q.take i.toNat).take zz).any (blocks q i) = false) (fun zz => i.toNat - zz) (0) ?_ (weak_sub ⟨rfl, rfl, rfl, trivial⟩ ⟨rfl, trivial⟩ trivial rfl) (fun zz hx => ?_)
  ·exact ⟨Nat.zero_le _, by simp⟩
  obtain ⟨k, rfl⟩ : ∃ v, v = zz := ⟨_, rfl⟩
  replace hx : k ≤ i.toNat ∧ ((q.take i.toNat).take k).any (blocks q i) = false := hx
  obtain ⟨hk, hall⟩ := hx
  show Ok _ _ _ _ _ (⟨[(1, .one (.dv [] (.int .i64 (i)))), (2, .box 2 0), (5, .one (.dv [] (.int .i64 ((k : Int)))))], [(2, 33, [(.dv [] (txsD (q)))])], []⟩ : St)
  iterate 6 refine z ?_
  refine yQ rfl (fun c2 => ?_) fun c2 => ?_
  ·skip
   have d2 := of_decide_eq_true c2
   iterate 4 refine z ?_
   refine ok_seq ?_
   refine ok_regionD (oB := [2]) (oK := []) (by kernel_rfl) rfl rfl ?_
   refine zD 0 ?_
   refine zD 1 ?_
   refine zD 2 ?_
   refine zD 3 ?_
   refine zD 4 ?_
   refine zD 5 ?_
   refine d_call 6 rfl (by kernel_rfl) rfl rfl rfl Tryz.call43 ok_spec_l1In (as_cons (ev_tmp rfl) (ag_one ac_dv) (as_cons (ev_int (inR_lit rfl)) (ag_one ac_dv) (as_cons (ev_int (inR_lit rfl)) (ag_one ac_dv) as_nil))) rfl rfl rfl rfl ?_
   refine zD 7 ?_
   refine zDG 8 ?_
   refine zDG 9 ?_
   refine zDG 10 ?_
   refine zDG 11 ?_
   refine zDG 12 ?_
   refine zDG 13 ?_
   refine zDG 14 ?_
   refine zDG 15 ?_
   refine zDG 16 ?_
   refine zDG 17 ?_
   refine zDG 18 ?_
   refine zDG 19 ?_
   refine d_callG 20 rfl (by kernel_rfl) (gd_bool rfl rfl rfl rfl rfl) rfl rfl Tryz.call44 ok_spec_Conflicts (fun hg => (as_cons (ev_opt rfl hg) (ag_one ac_dv) (as_cons (ev_opt rfl hg) (ag_one ac_dv) as_nil))) rfl rfl ?_
   refine zD 21 ?_
   refine d_done (by kernel_rfl) ?_
   refine z ?_
   refine yQ rfl (fun c3 => ?_) fun c3 => ?_
   ·skip
    iterate 10 refine z ?_
    have h2 : (q.take i.toNat).any (blocks q i) = true := any_yes (k := k) (d := default) (by rw [e2]; omega) (by rw [take_getD (by omega)]; have h := c3; rw [Int.toNat_natCast] at h; rw [blocks, st01]; exact h)
    rw [canS, h2]; simp
   ·skip
    iterate 3 refine z ?_
    refine ok_region ?_
    iterate 4 refine z ?_
    refine ⟨k + 1, ?_, ?_, weak_sub ⟨rfl, rfl, rfl, trivial⟩ ⟨rfl, trivial⟩ trivial rfl⟩
    ·exact ⟨by omega, any_step (d := default) hall (by rw [e2]; omega) (by rw [take_getD (by omega)]; have h := c3; rw [Int.toNat_natCast] at h; rw [blocks, st01]; exact h)⟩
    ·omega
  ·skip
   have d2 := of_decide_eq_false c2
   iterate 10 refine z ?_
   have h2 : (q.take i.toNat).any (blocks q i) = false := any_no (k := k) hall (by rw [e2]; omega)
   rw [canS, h2]; have h := c1; clear hall h2; grind
end Go.Proofs.YtcgmpjedhbhplaaGreat

namespace Go.Proofs.YtcgmpjedhbhplaaGreat
open Go.RowKit
open Go.Proofs
set_option linter.unusedVariables false
set_option linter.unusedSimpArgs false

theorem findI_lt {α : Type} {p : α → Bool} : ∀ (xs : List α) (i : Int), 0 ≤ i → findI p xs i < i + xs.length ∨ findI p xs i = -1
 | [], i, h => .inr rfl
 | x :: xs, i, h => by
  rw [findI]
  split
  ·left; simp; omega
  ·rcases findI_lt (p := p) xs (i + 1) (by omega) with h1 | h1
   ·left; simp only [List.length_cons]; omega
   ·exact .inr h1
theorem item_len (x : ItemT) : x.2.length ≤ wItem x := by unfold wItem wRecord wList; omega
theorem ok_impl_copyRecord {x : RecT} (hb : x.length ≤ 1099511627776) : KFn Tryz.prog 74 [.agg [(.dv [] (fieldsD (x)))]] (.agg [(.key 3)]) [(3, some (kcOf false (fieldsD (x))))] := by
 refine ⟨fn_intro Tryz.func74 rfl Tryz.ntmps74 Tryz.results74 rfl (fun C => ?_)⟩
 refine yF 0 0 rfl rfl fun f0_0 => ?_
 iterate 5 refine z ?_
 refine o_build0 (k := 3) hT rfl rfl rfl rfl rfl rfl rfl rfl ?_
 iterate 2 refine z ?_
 refine o_appV (k := 3) (cs := (x).flatMap eField) (n := (x).length) hT rfl rfl rfl rfl rfl rfl rfl (ev_tmp rfl) rfl rfl rfl (ev_tmp rfl) (plain_flat (fun _ => rfl) _) (by first | (dsimp only [kcOf]; omega) | omega) (by first | (dsimp only [kcOf]; omega) | omega) (Nat.zero_add _) (rfl) ?_
 simp only [killT, killB, SV.kill, CV.kill, kk, Nat.reduceBEq]
 refine yO rfl rfl (pu_build hT hB rfl rfl rfl (bp_cons (ev_tmp rfl) rfl rfl rfl rfl rfl bp_nil)) rfl ?_
 iterate 2 refine z ?_
 refine ok_weak (σ' := ⟨[(2, .box 2 0)], [(2, 91, [(.key 3)])], [(3, some (kcOf false (fieldsD (x))))]⟩) (weak_sub ⟨rfl, trivial⟩ ⟨rfl, trivial⟩ ⟨rfl, trivial⟩ rfl) ?_
 refine z ?_
 refine fin1 (res_cell hT rfl rfl rfl rfl) ?_
 exact ⟨rfl, rfl⟩
theorem ok_spec_l5Copy {x : RecT} (hb : x.length ≤ 1099511627776) : KFn Tryz.prog 66 [.agg [(.dv [] (fieldsD (x)))]] (.agg [(.key 3)]) [(3, some (kcOf false (fieldsD (x))))] := by
 refine ⟨fn_intro Tryz.func66 rfl Tryz.ntmps66 Tryz.results66 rfl (fun C => ?_)⟩
 refine yF 0 0 rfl rfl fun f0_0 => ?_
 iterate 5 refine z ?_
 refine o_build0 (k := 3) hT rfl rfl rfl rfl rfl rfl rfl rfl ?_
 iterate 2 refine z ?_
 refine o_appV (k := 3) (cs := (x).flatMap eField) (n := (x).length) hT rfl rfl rfl rfl rfl rfl rfl (ev_tmp rfl) rfl rfl rfl (ev_tmp rfl) (plain_flat (fun _ => rfl) _) (by first | (dsimp only [kcOf]; omega) | omega) (by first | (dsimp only [kcOf]; omega) | omega) (Nat.zero_add _) (rfl) ?_
 simp only [killT, killB, SV.kill, CV.kill, kk, Nat.reduceBEq]
 refine yO rfl rfl (pu_build hT hB rfl rfl rfl (bp_cons (ev_tmp rfl) rfl rfl rfl rfl rfl bp_nil)) rfl ?_
 iterate 2 refine z ?_
 refine ok_weak (σ' := ⟨[(2, .box 2 0)], [(2, 91, [(.key 3)])], [(3, some (kcOf false (fieldsD (x))))]⟩) (weak_sub ⟨rfl, trivial⟩ ⟨rfl, trivial⟩ ⟨rfl, trivial⟩ rfl) ?_
 refine z ?_
 refine fin1 (res_cell hT rfl rfl rfl rfl) ?_
 exact ⟨rfl, rfl⟩
theorem ok_impl_copyItem {x : ItemT} (hb : x.2.length ≤ 1099511627776) : KFn Tryz.prog 55 [.agg [(.dv [] (.int .i64 (x.1.1))), (.dv [] (.int .i64 (x.1.2.1))), (.dv [] (.str (x.1.2.2))), (.dv [] (fieldsD (x.2)))]] (.agg [(.dv [] (.int .i64 (x.1.1))), (.dv [] (.int .i64 (x.1.2.1))), (.dv [] (.str (x.1.2.2))), (.key 7003)]) [(7003, some (kcOf false (fieldsD (x.2))))] := by
 refine ⟨fn_intro Tryz.func55 rfl Tryz.ntmps55 Tryz.results55 rfl (fun C => ?_)⟩
 refine yF 0 0 rfl rfl fun f0_0 => ?_
 refine yF 0 1 rfl rfl fun f0_1 => ?_
 refine yF 0 2 rfl rfl fun f0_2 => ?_
 refine yF 0 3 rfl rfl fun f0_3 => ?_
 iterate 4 refine z ?_
 refine ok_seq ?_
 refine ok_regionD (oB := [1, 2]) (oK := []) (by kernel_rfl) rfl rfl ?_
 refine zD 0 ?_
 refine zD 1 ?_
 refine zD 2 ?_
 refine zD 3 ?_
 refine d_callK 7000 4 rfl (by kernel_rfl) rfl rfl rfl Tryz.call74 (ok_impl_copyRecord (by omega)) (as_cons (ev_tmp rfl) (ag_agg (ag_cons ac_dv ag_nil)) as_nil) rfl rfl rfl rfl rfl ?_
 refine d_take 5 rfl (by kernel_rfl) rfl rfl (pu_build hT hB rfl rfl rfl (bp_cons (ev_tmp rfl) rfl rfl rfl rfl rfl (bp_cons (ev_tmp rfl) rfl rfl rfl rfl rfl bp_nil))) rfl rfl rfl rfl ?_
 refine d_last 6 rfl (by kernel_rfl) rfl (by kernel_rfl) (ef_storeBox hT rfl rfl rfl (ev_tmp rfl) (ev_tmp rfl) rfl rfl rfl rfl rfl rfl) (by kernel_rfl) ?_
 refine z ?_
 refine ok_weak (σ' := ⟨[(2, .box 2 0)], [(2, 95, [(.dv [] (.int .i64 (x.1.1))), (.dv [] (.int .i64 (x.1.2.1))), (.dv [] (.str (x.1.2.2))), (.key 7003)])], [(7003, some (kcOf false (fieldsD (x.2))))]⟩) (weak_sub ⟨rfl, trivial⟩ ⟨rfl, trivial⟩ ⟨rfl, trivial⟩ rfl) ?_
 refine z ?_
 refine fin1 (res_cell hT rfl rfl rfl rfl) ?_
 exact ⟨rfl, rfl⟩
theorem ok_spec_l6Item {x : ItemT} (hb : x.2.length ≤ 1099511627776) : KFn Tryz.prog 45 [.agg [(.dv [] (.int .i64 (x.1.1))), (.dv [] (.int .i64 (x.1.2.1))), (.dv [] (.str (x.1.2.2))), (.dv [] (fieldsD (x.2)))]] (.agg [(.dv [] (.int .i64 (x.1.1))), (.dv [] (.int .i64 (x.1.2.1))), (.dv [] (.str (x.1.2.2))), (.key 7003)]) [(7003, some (kcOf false (fieldsD (x.2))))] := by
 refine ⟨fn_intro Tryz.func45 rfl Tryz.ntmps45 Tryz.results45 rfl (fun C => ?_)⟩
 refine yF 0 0 rfl rfl fun f0_0 => ?_
 refine yF 0 1 rfl rfl fun f0_1 => ?_
 refine yF 0 2 rfl rfl fun f0_2 => ?_
 refine yF 0 3 rfl rfl fun f0_3 => ?_
 iterate 4 refine z ?_
 refine ok_seq ?_
 refine ok_regionD (oB := [1, 2]) (oK := []) (by kernel_rfl) rfl rfl ?_
 refine zD 0 ?_
 refine zD 1 ?_
 refine zD 2 ?_
 refine zD 3 ?_
 refine d_callK 7000 4 rfl (by kernel_rfl) rfl rfl rfl Tryz.call66 (ok_spec_l5Copy (by omega)) (as_cons (ev_tmp rfl) (ag_agg (ag_cons ac_dv ag_nil)) as_nil) rfl rfl rfl rfl rfl ?_
 refine d_take 5 rfl (by kernel_rfl) rfl rfl (pu_build hT hB rfl rfl rfl (bp_cons (ev_tmp rfl) rfl rfl rfl rfl rfl (bp_cons (ev_tmp rfl) rfl rfl rfl rfl rfl bp_nil))) rfl rfl rfl rfl ?_
 refine d_last 6 rfl (by kernel_rfl) rfl (by kernel_rfl) (ef_storeBox hT rfl rfl rfl (ev_tmp rfl) (ev_tmp rfl) rfl rfl rfl rfl rfl rfl) (by kernel_rfl) ?_
 refine z ?_
 refine ok_weak (σ' := ⟨[(2, .box 2 0)], [(2, 95, [(.dv [] (.int .i64 (x.1.1))), (.dv [] (.int .i64 (x.1.2.1))), (.dv [] (.str (x.1.2.2))), (.key 7003)])], [(7003, some (kcOf false (fieldsD (x.2))))]⟩) (weak_sub ⟨rfl, trivial⟩ ⟨rfl, trivial⟩ ⟨rfl, trivial⟩ rfl) ?_
 refine z ?_
 refine fin1 (res_cell hT rfl rfl rfl rfl) ?_
 exact ⟨rfl, rfl⟩
end Go.Proofs.YtcgmpjedhbhplaaGreat

namespace Go.Proofs.YtcgmpjedhbhplaaGreat
open Go.RowKit
open Go.Proofs
set_option linter.unusedVariables false
set_option linter.unusedSimpArgs false

theorem eqSlotI {k : IntKind} {a b : Int} (h : a = b) : some (SV.one (CV.dv [] (DV.int k a))) = some (SV.one (CV.dv [] (DV.int k b))) := by rw [h]
def mkL {α : Type} (m : α → Int → α) (c : α → Nat) : List α → Int → List α
 | [], _ => []
 | x :: xs, k => m x k :: mkL m c xs (k + (c x : Int))
theorem mkL_len {α : Type} {m : α → Int → α} {c : α → Nat} : ∀ (xs : List α) (k : Int), (mkL m c xs k).length = xs.length
 | [], _ => rfl
 | x :: xs, k => by rw [mkL, List.length_cons, mkL_len xs, List.length_cons]
theorem mkL_app {α : Type} {m : α → Int → α} {c : α → Nat} : ∀ (xs ys : List α) (k : Int), mkL m c (xs ++ ys) k = mkL m c xs k ++ mkL m c ys (k + (wSum c xs : Int))
 | [], ys, k => by simp [mkL, wSum]
 | x :: xs, ys, k => by
  rw [List.cons_append, mkL, mkL_app xs ys, mkL, List.cons_append]
  congr 3
  have : wSum c (x :: xs) = c x + wSum c xs := by simp [wSum]
  omega
theorem getD_at {α : Type} [Inhabited α] {xs : List α} {j : Nat} (h : j < xs.length) : xs.getD (j : Int).toNat default = xs[j] := by simp [List.getD, List.getElem?_eq_getElem h]
theorem mkL_succ {α : Type} [Inhabited α] {m : α → Int → α} {c : α → Nat} {xs : List α} {j : Nat} {k : Int} (h : j < xs.length) : mkL m c (xs.take (j + 1)) k = mkL m c (xs.take j) k ++ [m (xs.getD (j : Int).toNat default) (k + (wSum c (xs.take j) : Int))] := by
 rw [List.take_add_one, List.getElem?_eq_getElem h, mkL_app, getD_at h]; rfl
theorem mkL_getD {α : Type} [Inhabited α] {m : α → Int → α} {c : α → Nat} {xs : List α} {j : Nat} {k : Int} (h : j < xs.length) : (mkL m c xs k).getD (j : Int).toNat default = m (xs.getD (j : Int).toNat default) (k + (wSum c (xs.take j) : Int)) := by
 have e : mkL m c xs k = mkL m c (xs.take (j + 1)) k ++ mkL m c (xs.drop (j + 1)) (k + (wSum c (xs.take (j + 1)) : Int)) := by rw [← mkL_app, List.take_append_drop]
 rw [e, mkL_succ h]
 have hl : (mkL m c (xs.take j) k).length = j := by rw [mkL_len, List.length_take]; omega
 have : (j : Int).toNat = j := by omega
 rw [List.getD, List.append_assoc, List.getElem?_append_right (by omega), show (j : Int).toNat - (mkL m c (xs.take j) k).length = 0 by omega]
 rfl
theorem drop_flat {α : Type} [Inhabited α] {enc : α → List DV} {xs : List α} {j : Nat} (h : j < xs.length) : (xs.drop j).flatMap enc = enc (xs.getD (j : Int).toNat default) ++ (xs.drop (j + 1)).flatMap enc := by
 rw [List.drop_eq_getElem_cons h, List.flatMap_cons, getD_at h]
theorem mk_open {α : Type} [Inhabited α] {enc : α → List DV} {A : List DV} {xs : List α} {j : Nat} (h : j < xs.length) : A ++ (xs.drop j).flatMap enc = mid A (enc (xs.getD (j : Int).toNat default)) ((xs.drop (j + 1)).flatMap enc) := by rw [drop_flat h]; rfl
theorem mk_close {α : Type} [Inhabited α] {m : α → Int → α} {c : α → Nat} {enc : α → List DV} {B C : List DV} {xs : List α} {j : Nat} {k : Int} (h : j < xs.length) (hB : B = enc (m (xs.getD (j : Int).toNat default) (k + (wSum c (xs.take j) : Int)))) : mid ((mkL m c (xs.take j) k).flatMap enc) B C = (mkL m c (xs.take (j + 1)) k).flatMap enc ++ C := by
 unfold mid
 rw [mkL_succ h, List.flatMap_append, hB]; simp
theorem mk_fin {α : Type} {m : α → Int → α} {c : α → Nat} {enc : α → List DV} {e sz : Nat} {xs : List α} {j : Nat} {k : Int} (h : xs.length ≤ j) : some (some (KC.mk true e sz xs.length ((mkL m c (xs.take j) k).flatMap enc ++ (xs.drop j).flatMap enc))) = some (some (kcOf true (listD e sz enc (mkL m c xs k)))) := by
 rw [List.take_of_length_le h, List.drop_eq_nil_of_le h]
 simp only [listD, kcOf, mkL_len, List.flatMap_nil, List.append_nil]
theorem mk_pre {α : Type} {m : α → Int → α} {c : α → Nat} {enc : α → List DV} {sz : Nat} (hs : ∀ x, (enc x).length = sz) {xs : List α} {j : Nat} {k : Int} (h : j ≤ xs.length) : ((mkL m c (xs.take j) k).flatMap enc).length = j * sz := by
 rw [flat_len hs, mkL_len, List.length_take, Nat.min_eq_left h]
theorem wSum_bound {α : Type} {c w : α → Nat} (h : ∀ x, c x ≤ 8 * (1 + w x)) : ∀ xs : List α, wSum c xs ≤ 8 * wList w xs
 | [] => by simp [wSum, wList]
 | x :: xs => by
  have := wSum_bound h xs
  have := h x
  simp only [wSum, wList, List.map_cons, List.sum_cons, List.length_cons] at *
  omega
theorem wSum_ge {α : Type} {c : α → Nat} (h : ∀ x, 1 ≤ c x) : ∀ xs : List α, xs.length ≤ wSum c xs
 | [] => by simp [wSum]
 | x :: xs => by
  have := wSum_ge h xs
  have := h x
  simp only [wSum, List.map_cons, List.sum_cons, List.length_cons] at *
  omega
def mDig (k : Nat) (out : Str) : Str := if k = 0 then out else mDig (k / 10) (strOf [UInt8.ofNat (IntKind.u8.wrap (48 + (k : Int) % 10)).toNat] ++ out)
termination_by k
theorem mDig_go {k : Nat} {out : Str} (h : 0 < (k : Int)) : mDig (k / 10) (strOf [UInt8.ofNat (IntKind.u8.wrap (48 + (k : Int) % 10)).toNat] ++ out) = mDig k out := by rw [mDig.eq_def k out, if_neg (by omega)]
theorem mDig_end {k : Nat} {out : Str} (h : ¬ 0 < (k : Int)) : mDig k out = out := by rw [mDig.eq_def k out, if_pos (by omega)]
def mText (k : Int) : Str := if k ≤ 0 then ByteArray.mk #[109, 48] else ByteArray.mk #[109] ++ mDig k.toNat (ByteArray.mk #[])

def mkField (x : FieldT) (k : Int) : FieldT := (mText (k), (k) + (1))
def cField (x : FieldT) : Nat := 2
theorem cField_le (x : FieldT) : cField x ≤ 8 * (1 + wField x) := by
 simp only [cField]
 omega
def mkItem (x : ItemT) (k : Int) : ItemT := ((k, (k) + (1), mText (((k) + (1)) + (1))), mkL mkField cField (x.2) ((((k) + (1)) + (1)) + (1)))
def cItem (x : ItemT) : Nat := 3 + wSum cField (x.2)
theorem cItem_le (x : ItemT) : cItem x ≤ 8 * (1 + wItem x) := by
 have h3 := wSum_bound cField_le (x.2)
 simp only [cItem, wItem, wKey, wRecord]
 omega
theorem ok_laws_markText {k : Int} (hk : k ≤ 9000000000000000000) : PFn Tryz.prog 59 [.one (.dv [] (.int .i64 (k)))] (.one (.dv [] (.str (mText k)))) := by
 refine ⟨fn_intro Tryz.func59 rfl Tryz.ntmps59 Tryz.results59 rfl (fun C => ?_)⟩
 refine ok_fact (x := .tmp 0) (ev_tmp rfl) fun f0 => ?_
 iterate 8 refine z ?_
 refine yQ rfl (fun c1 => ?_) fun c1 => ?_
 ·skip
  have d1 := of_decide_eq_true c1
  iterate 6 refine z ?_
  rw [mText, if_pos d1]
 ·skip
  have d1 := of_decide_eq_false c1
  iterate 7 refine z ?_
  refine ok_loop (ι := Nat × Str) (fun zz => ⟨[(0, .one (.dv [] (.int .i64 ((zz.1 : Int))))), (2, .one (.dv [] (.str (ByteArray.mk #[])))), (3, .one (.dv [] (.str (zz.2))))], [], []⟩) (fun zz => mDig zz.1 zz.2 = mDig k.toNat (ByteArray.mk #[]) ∧ zz.2.size + zz.1 ≤ k.toNat) (fun zz => zz.1) ((k.toNat, ByteArray.mk #[])) ?_ (weak_sub ⟨(eqSlotI (by show k = ((k.toNat : Nat) : Int); omega)), rfl, rfl, trivial⟩ trivial trivial rfl) (fun zz hx => ?_)
  ·exact ⟨rfl, by show 0 + _ ≤ _; omega⟩
  obtain ⟨n, out⟩ := zz
  replace hx : mDig n out = mDig k.toNat (ByteArray.mk #[]) ∧ out.size + n ≤ k.toNat := hx
  obtain ⟨hd, hs⟩ := hx
  show Ok _ _ _ _ _ (⟨[(0, .one (.dv [] (.int .i64 ((n : Int))))), (2, .one (.dv [] (.str (ByteArray.mk #[])))), (3, .one (.dv [] (.str (out))))], [], []⟩ : St)
  iterate 5 refine z ?_
  refine yQ rfl (fun c2 => ?_) fun c2 => ?_
  ·skip
   have d2 := of_decide_eq_true c2
   have hs1 : (strOf [UInt8.ofNat (IntKind.u8.wrap (48 + (n : Int) % 10)).toNat]).size = 1 := rfl
   iterate 5 refine z ?_
   refine yO rfl rfl (pu_remN rfl (ev_tmp rfl) (ev_int (inR_lit rfl)) (by omega) (by omega)) rfl ?_
   refine z ?_
   refine yO rfl rfl (pu_convI hT rfl rfl rfl (ev_tmp rfl)) rfl ?_
   refine o_build1 (k := 12) (js := []) hT rfl rfl rfl rfl rfl rfl rfl rfl rfl (ev_tmp rfl) rfl rfl (ow_cons' (ow_dv rfl) ow_nil rfl) (by decide) (by decide) rfl rfl ?_
   simp only [killT, killB, SV.kill, CV.kill, kk, Nat.reduceBEq]
   refine yO rfl rfl (pu_convB1 (b := UInt8.ofNat (IntKind.u8.wrap ((48) + (((n : Int)) % (10)))).toNat) hT rfl rfl rfl rfl (ev_keyv (c := ⟨false, 5, 1, 1, [.int .u8 (IntKind.u8.wrap ((48) + (((n : Int)) % (10))))]⟩) (ev_tmp rfl) rfl) (wrap_u8 _)) rfl ?_
   refine z ?_
   refine yO rfl rfl (pu_sadd rfl (ev_tmp rfl) (ev_tmp rfl) (by omega)) rfl ?_
   iterate 2 refine z ?_
   refine ok_region ?_
   refine z ?_
   refine yO rfl rfl (pu_quoN rfl (ev_tmp rfl) (ev_int (inR_lit rfl)) (by omega) (by omega)) rfl ?_
   refine z ?_
   refine ops_nil ?_
   iterate 2 refine z ?_
   refine ⟨(n / 10, strOf [UInt8.ofNat (IntKind.u8.wrap (48 + (n : Int) % 10)).toNat] ++ out), ?_, ?_, weak_sub ⟨rfl, rfl, rfl, trivial⟩ trivial trivial rfl⟩
   ·exact ⟨(mDig_go d2).trans hd, by rw [ByteArray.size_append, hs1]; dsimp only; omega⟩
   ·dsimp only; omega
  ·skip
   have d2 := of_decide_eq_false c2
   have hs9 : (ByteArray.mk #[109]).size = 1 := rfl
   iterate 7 refine z ?_
   refine yO rfl rfl (pu_sadd rfl (ev_str (str_lit rfl)) (ev_tmp rfl) (by omega)) rfl ?_
   iterate 4 refine z ?_
   rw [mText, if_neg d1, ← hd, mDig_end d2]
theorem ok_laws_markFieldS {x : List (FieldT)} {k : Int} (h0 : 0 ≤ k) (h1 : k + (wSum cField x : Int) ≤ 4611686018427387904) : WFn Tryz.prog 77 [.one (.key 0), .one (.dv [] (.int .i64 (k)))] (.one (.dv [] (.int .i64 (k + (wSum cField x : Int))))) [(0, kcOf true (.sl 152 2 (x.length) (x.flatMap eField)))] [(0, kcOf true (fieldsD (mkL mkField cField x k)))] := by
 refine ⟨fn_intro Tryz.func77 rfl Tryz.ntmps77 Tryz.results77 rfl (fun C => ?_)⟩
 have hln : x.length ≤ wSum cField x := wSum_ge (fun _ => by simp only [cField]; omega) x
 refine ok_fact (x := .tmp 1) (ev_tmp rfl) fun f1 => ?_
 iterate 8 refine z ?_
 refine ok_loop (ι := Nat) (fun zz => ⟨[(0, .one (.key 0)), (1, .one (.dv [] (.int .i64 (k + (wSum cField (x.take zz) : Int))))), (4, .one (.dv [] (.int .i64 (0)))), (5, .one (.dv [] (.int .i64 ((zz : Int)))))], [], [(0, some ⟨true, 152, 2, x.length, (mkL mkField cField (x.take zz) k).flatMap eField ++ (x.drop zz).flatMap eField⟩)]⟩) (fun zz => zz ≤ x.length) (fun zz => x.length - zz) (0) ?_ (weak_sub ⟨rfl, (eqSlotI (by simp [wSum])), rfl, rfl, trivial⟩ trivial ⟨rfl, trivial⟩ rfl) (fun zz hx => ?_)
 ·exact Nat.zero_le _
 obtain ⟨j, rfl⟩ : ∃ v, v = zz := ⟨_, rfl⟩
 replace hx : j ≤ x.length := hx
 have hw := fun h => wSum_succ cField x j h
 show Ok _ _ _ _ _ (⟨[(0, .one (.key 0)), (1, .one (.dv [] (.int .i64 (k + (wSum cField (x.take j) : Int))))), (4, .one (.dv [] (.int .i64 (0)))), (5, .one (.dv [] (.int .i64 ((j : Int)))))], [], [(0, some ⟨true, 152, 2, x.length, (mkL mkField cField (x.take j) k).flatMap eField ++ (x.drop j).flatMap eField⟩)]⟩ : St)
 iterate 4 refine z ?_
 refine yO rfl rfl (pu_lenKn (n := (x.length)) hT rfl rfl (ev_tmp rfl) rfl rfl) rfl ?_
 iterate 2 refine z ?_
 refine yQ rfl (fun c1 => ?_) fun c1 => ?_
 ·skip
  have d1 := of_decide_eq_true c1
  have hj : j < x.length := by omega
  obtain ⟨hw1, hw2⟩ := hw hj
  have hc : cField (x.getD (j : Int).toNat default) = 2 := rfl
  refine ok_kcs (k := 0) (cs' := mid ((mkL mkField cField (x.take j) k).flatMap eField) [.str ((x.getD (j : Int).toNat default).1), .int .i64 ((x.getD (j : Int).toNat default).2)] ((x.drop (j + 1)).flatMap eField)) rfl (mk_open hj) ?_
  iterate 8 refine z ?_
  refine zC Tryz.call59 ?_ (hf := ok_laws_markText (by omega))
  refine yO rfl rfl (pu_indexK (i := j) hT rfl rfl rfl (ev_tmp rfl) rfl (ev_tmp rfl) rfl (by show _ < (x.length); omega)) rfl ?_
  refine z ?_
  refine o_storeE (js := []) (cs := mid ((mkL mkField cField (x.take j) k).flatMap eField) [.str (mText (k + (wSum cField (x.take j) : Int))), .int .i64 ((x.getD (j : Int).toNat default).2)] ((x.drop (j + 1)).flatMap eField)) hT rfl rfl rfl rfl (ev_tmp rfl) (ev_tmp rfl) rfl rfl rfl rfl (ow_cons' (ow_dv rfl) ow_nil rfl) (by decide) (by decide) rfl (le_mid (off := (j * 2 + 0)) (n := 1) (j := 0) (mk_pre (sz := 2) (fun _ => rfl) (Nat.le_of_lt hj)) (by omega) (Nat.le_of_ble_eq_true rfl)) (setR_mid (off := (j * 2 + 0)) (j := 0) (mk_pre (sz := 2) (fun _ => rfl) (Nat.le_of_lt hj)) (by omega) rfl (Nat.le_of_ble_eq_true rfl)) ?_
  simp only [killT, killB, SV.kill, CV.kill, kk, Nat.reduceBEq]
  iterate 10 refine z ?_
  refine yO rfl rfl (pu_indexK (i := j) hT rfl rfl rfl (ev_tmp rfl) rfl (ev_tmp rfl) rfl (by show _ < (x.length); omega)) rfl ?_
  refine z ?_
  refine o_storeE (js := []) (cs := mid ((mkL mkField cField (x.take j) k).flatMap eField) [.str (mText (k + (wSum cField (x.take j) : Int))), .int .i64 ((k + (wSum cField (x.take j) : Int)) + (1))] ((x.drop (j + 1)).flatMap eField)) hT rfl rfl rfl rfl (ev_tmp rfl) (ev_tmp rfl) rfl rfl rfl rfl (ow_cons' (ow_dv rfl) ow_nil rfl) (by decide) (by decide) rfl (le_mid (off := (j * 2 + 1)) (n := 1) (j := 1) (mk_pre (sz := 2) (fun _ => rfl) (Nat.le_of_lt hj)) (by omega) (Nat.le_of_ble_eq_true rfl)) (setR_mid (off := (j * 2 + 1)) (j := 1) (mk_pre (sz := 2) (fun _ => rfl) (Nat.le_of_lt hj)) (by omega) rfl (Nat.le_of_ble_eq_true rfl)) ?_
  simp only [killT, killB, SV.kill, CV.kill, kk, Nat.reduceBEq]
  refine z ?_
  refine ok_region ?_
  iterate 3 refine z ?_
  refine ops_nil ?_
  iterate 2 refine z ?_
  refine ok_region ?_
  iterate 4 refine z ?_
  refine ⟨j + 1, ?_, ?_, weak_sub ⟨rfl, (eqSlotI (by omega)), rfl, rfl, trivial⟩ trivial ⟨(congrArg (fun cs => some (some (KC.mk true 152 2 x.length cs))) (mk_close (by omega) (by rfl))), trivial⟩ rfl⟩
  ·omega
  ·omega
 ·skip
  have d1 := of_decide_eq_false c1
  iterate 9 refine z ?_
  refine ok_weak (σ' := ⟨[(4, .one (.dv [] (.int .i64 (k + (wSum cField (x.take j) : Int)))))], [], [(0, some (kcOf true (fieldsD (mkL mkField cField x k))))]⟩) (weak_sub ⟨rfl, trivial⟩ trivial ⟨(mk_fin (by omega)), trivial⟩ rfl) ?_
  refine z ?_
  refine fin1 (res_tmp rfl) ⟨eqI ?_, w1_ok rfl⟩
  have hq := wSum_all cField x j (by omega); omega
theorem ok_laws_heldFieldS {x y : List (FieldT)} {k : Int} (hy : y = mkL mkField cField x k) (h0 : 0 ≤ k) (h1 : k + (wSum cField x : Int) ≤ 4611686018427387904) : PFn Tryz.prog 78 [.one (.dv [] (fieldsD (y))), .one (.dv [] (.int .i64 (k)))] (.one (.dv [] (.int .i64 (k + (wSum cField x : Int))))) := by
 refine ⟨fn_intro Tryz.func78 rfl Tryz.ntmps78 Tryz.results78 rfl (fun C => ?_)⟩
 refine ok_fact (x := .tmp 0) (ev_tmp rfl) fun f0 => ?_
 refine ok_fact (x := .tmp 1) (ev_tmp rfl) fun f1 => ?_
 iterate 8 refine z ?_
 refine ok_loop (ι := Nat) (fun zz => ⟨[(0, .one (.dv [] (fieldsD (y)))), (1, .one (.dv [] (.int .i64 (k + (wSum cField (x.take zz) : Int))))), (5, .one (.dv [] (.int .i64 ((zz : Int)))))], [], []⟩) (fun zz => zz ≤ x.length) (fun zz => x.length - zz) (0) ?_ (weak_sub ⟨rfl, (eqSlotI (by simp [wSum])), rfl, trivial⟩ trivial trivial rfl) (fun zz hx => ?_)
 ·exact Nat.zero_le _
 obtain ⟨j, rfl⟩ : ∃ v, v = zz := ⟨_, rfl⟩
 replace hx : j ≤ x.length := hx
 have hw := fun h => wSum_succ cField x j h
 have hyl : y.length = x.length := by rw [hy, mkL_len]
 show Ok _ _ _ _ _ (⟨[(0, .one (.dv [] (fieldsD (y)))), (1, .one (.dv [] (.int .i64 (k + (wSum cField (x.take j) : Int))))), (5, .one (.dv [] (.int .i64 ((j : Int)))))], [], []⟩ : St)
 iterate 7 refine z ?_
 refine yQ rfl (fun c1 => ?_) fun c1 => ?_
 ·skip
  have d1 := of_decide_eq_true c1
  have hj : j < x.length := by omega
  obtain ⟨hw1, hw2⟩ := hw hj
  have hc : cField (x.getD (j : Int).toNat default) = 2 := rfl
  have he : y.getD (j : Int).toNat default = mkField (x.getD (j : Int).toNat default) (k + (wSum cField (x.take j) : Int)) := by rw [hy]; exact mkL_getD hj
  iterate 4 refine z ?_
  refine ok_seq ?_
  refine ok_seq ?_
  refine ok_regionD (oB := []) (oK := []) (by kernel_rfl) rfl rfl ?_
  refine zD 0 ?_
  refine zD 1 ?_
  refine zD 2 ?_
  refine zD 3 ?_
  refine zD 4 ?_
  refine zD 5 ?_
  refine d_call 6 rfl (by kernel_rfl) rfl rfl rfl Tryz.call59 (ok_laws_markText (by omega)) (as_cons (ev_tmp rfl) (ag_one ac_dv) as_nil) rfl rfl rfl rfl ?_
  refine zD 7 ?_
  refine d_done (by kernel_rfl) ?_
  refine z ?_
  refine yQ rfl (fun c2 => ?_) fun c2 => ?_
  ·skip
   iterate 11 refine z ?_
   exfalso; rw [he] at c2; simp [mkField, sEq] at c2
  ·skip
   iterate 17 refine z ?_
   refine yQ rfl (fun c3 => ?_) fun c3 => ?_
   ·skip
    have d3 := nd_t c3
    iterate 11 refine z ?_
    exfalso; rw [he] at c3; simp [mkField, sEq] at c3
   ·skip
    have d3 := nd_f c3
    iterate 2 refine z ?_
    refine ok_region ?_
    iterate 3 refine z ?_
    refine ops_nil ?_
    iterate 2 refine z ?_
    refine ok_region ?_
    iterate 4 refine z ?_
    refine ⟨j + 1, ?_, ?_, weak_sub ⟨rfl, (eqSlotI (by omega)), rfl, trivial⟩ trivial trivial rfl⟩
    ·omega
    ·omega
 ·skip
  have d1 := of_decide_eq_false c1
  iterate 11 refine z ?_
  have hq := wSum_all cField x j (by omega); omega
theorem ok_laws_markItemS {x : List (ItemT)} {k : Int} (h0 : 0 ≤ k) (h1 : k + (wSum cItem x : Int) ≤ 4611686018427387904) : WFn Tryz.prog 60 [.one (.key 0), .one (.dv [] (.int .i64 (k)))] (.one (.dv [] (.int .i64 (k + (wSum cItem x : Int))))) [(0, kcOf true (.sl 95 4 (x.length) (x.flatMap eItem)))] [(0, kcOf true (itemsD (mkL mkItem cItem x k)))] := by
 refine ⟨fn_intro Tryz.func60 rfl Tryz.ntmps60 Tryz.results60 rfl (fun C => ?_)⟩
 have hln : x.length ≤ wSum cItem x := wSum_ge (fun _ => by simp only [cItem]; omega) x
 refine ok_fact (x := .tmp 1) (ev_tmp rfl) fun f1 => ?_
 iterate 8 refine z ?_
 refine ok_loop (ι := Nat) (fun zz => ⟨[(0, .one (.key 0)), (1, .one (.dv [] (.int .i64 (k + (wSum cItem (x.take zz) : Int))))), (4, .one (.dv [] (.int .i64 (0)))), (5, .one (.dv [] (.int .i64 ((zz : Int)))))], [], [(0, some ⟨true, 95, 4, x.length, (mkL mkItem cItem (x.take zz) k).flatMap eItem ++ (x.drop zz).flatMap eItem⟩)]⟩) (fun zz => zz ≤ x.length) (fun zz => x.length - zz) (0) ?_ (weak_sub ⟨rfl, (eqSlotI (by simp [wSum])), rfl, rfl, trivial⟩ trivial ⟨rfl, trivial⟩ rfl) (fun zz hx => ?_)
 ·exact Nat.zero_le _
 obtain ⟨j, rfl⟩ : ∃ v, v = zz := ⟨_, rfl⟩
 replace hx : j ≤ x.length := hx
 have hw := fun h => wSum_succ cItem x j h
 show Ok _ _ _ _ _ (⟨[(0, .one (.key 0)), (1, .one (.dv [] (.int .i64 (k + (wSum cItem (x.take j) : Int))))), (4, .one (.dv [] (.int .i64 (0)))), (5, .one (.dv [] (.int .i64 ((j : Int)))))], [], [(0, some ⟨true, 95, 4, x.length, (mkL mkItem cItem (x.take j) k).flatMap eItem ++ (x.drop j).flatMap eItem⟩)]⟩ : St)
 iterate 4 refine z ?_
 refine yO rfl rfl (pu_lenKn (n := (x.length)) hT rfl rfl (ev_tmp rfl) rfl rfl) rfl ?_
 iterate 2 refine z ?_
 refine yQ rfl (fun c1 => ?_) fun c1 => ?_
 ·skip
  have d1 := of_decide_eq_true c1
  have hj : j < x.length := by omega
  obtain ⟨hw1, hw2⟩ := hw hj
  have hc : cItem (x.getD (j : Int).toNat default) = 3 + wSum cField ((x.getD (j : Int).toNat default).2) := rfl
  refine ok_kcs (k := 0) (cs' := mid ((mkL mkItem cItem (x.take j) k).flatMap eItem) [.int .i64 ((x.getD (j : Int).toNat default).1.1), .int .i64 ((x.getD (j : Int).toNat default).1.2.1), .str ((x.getD (j : Int).toNat default).1.2.2), fieldsD ((x.getD (j : Int).toNat default).2)] ((x.drop (j + 1)).flatMap eItem)) rfl (mk_open hj) ?_
  iterate 8 refine z ?_
  refine yO rfl rfl (pu_indexK (i := j) hT rfl rfl rfl (ev_tmp rfl) rfl (ev_tmp rfl) rfl (by show _ < (x.length); omega)) rfl ?_
  iterate 2 refine z ?_
  refine o_storeE (js := []) (cs := mid ((mkL mkItem cItem (x.take j) k).flatMap eItem) [.int .i64 (k + (wSum cItem (x.take j) : Int)), .int .i64 ((x.getD (j : Int).toNat default).1.2.1), .str ((x.getD (j : Int).toNat default).1.2.2), fieldsD ((x.getD (j : Int).toNat default).2)] ((x.drop (j + 1)).flatMap eItem)) hT rfl rfl rfl rfl (ev_tmp rfl) (ev_tmp rfl) rfl rfl rfl rfl (ow_cons' (ow_dv rfl) ow_nil rfl) (by decide) (by decide) rfl (le_mid (off := ((j * 4 + 0) + 0)) (n := 1) (j := 0) (mk_pre (sz := 4) (fun _ => rfl) (Nat.le_of_lt hj)) (by omega) (Nat.le_of_ble_eq_true rfl)) (setR_mid (off := ((j * 4 + 0) + 0)) (j := 0) (mk_pre (sz := 4) (fun _ => rfl) (Nat.le_of_lt hj)) (by omega) rfl (Nat.le_of_ble_eq_true rfl)) ?_
  simp only [killT, killB, SV.kill, CV.kill, kk, Nat.reduceBEq]
  iterate 10 refine z ?_
  refine yO rfl rfl (pu_indexK (i := j) hT rfl rfl rfl (ev_tmp rfl) rfl (ev_tmp rfl) rfl (by show _ < (x.length); omega)) rfl ?_
  iterate 2 refine z ?_
  refine o_storeE (js := []) (cs := mid ((mkL mkItem cItem (x.take j) k).flatMap eItem) [.int .i64 (k + (wSum cItem (x.take j) : Int)), .int .i64 ((k + (wSum cItem (x.take j) : Int)) + (1)), .str ((x.getD (j : Int).toNat default).1.2.2), fieldsD ((x.getD (j : Int).toNat default).2)] ((x.drop (j + 1)).flatMap eItem)) hT rfl rfl rfl rfl (ev_tmp rfl) (ev_tmp rfl) rfl rfl rfl rfl (ow_cons' (ow_dv rfl) ow_nil rfl) (by decide) (by decide) rfl (le_mid (off := ((j * 4 + 0) + 1)) (n := 1) (j := 1) (mk_pre (sz := 4) (fun _ => rfl) (Nat.le_of_lt hj)) (by omega) (Nat.le_of_ble_eq_true rfl)) (setR_mid (off := ((j * 4 + 0) + 1)) (j := 1) (mk_pre (sz := 4) (fun _ => rfl) (Nat.le_of_lt hj)) (by omega) rfl (Nat.le_of_ble_eq_true rfl)) ?_
  simp only [killT, killB, SV.kill, CV.kill, kk, Nat.reduceBEq]
  iterate 10 refine z ?_
  refine zC Tryz.call59 ?_ (hf := ok_laws_markText (by omega))
  refine yO rfl rfl (pu_indexK (i := j) hT rfl rfl rfl (ev_tmp rfl) rfl (ev_tmp rfl) rfl (by show _ < (x.length); omega)) rfl ?_
  iterate 2 refine z ?_
  refine o_storeE (js := []) (cs := mid ((mkL mkItem cItem (x.take j) k).flatMap eItem) [.int .i64 (k + (wSum cItem (x.take j) : Int)), .int .i64 ((k + (wSum cItem (x.take j) : Int)) + (1)), .str (mText (((k + (wSum cItem (x.take j) : Int)) + (1)) + (1))), fieldsD ((x.getD (j : Int).toNat default).2)] ((x.drop (j + 1)).flatMap eItem)) hT rfl rfl rfl rfl (ev_tmp rfl) (ev_tmp rfl) rfl rfl rfl rfl (ow_cons' (ow_dv rfl) ow_nil rfl) (by decide) (by decide) rfl (le_mid (off := ((j * 4 + 0) + 2)) (n := 1) (j := 2) (mk_pre (sz := 4) (fun _ => rfl) (Nat.le_of_lt hj)) (by omega) (Nat.le_of_ble_eq_true rfl)) (setR_mid (off := ((j * 4 + 0) + 2)) (j := 2) (mk_pre (sz := 4) (fun _ => rfl) (Nat.le_of_lt hj)) (by omega) rfl (Nat.le_of_ble_eq_true rfl)) ?_
  simp only [killT, killB, SV.kill, CV.kill, kk, Nat.reduceBEq]
  iterate 6 refine z ?_
  refine ok_region ?_
  iterate 2 refine z ?_
  refine yO rfl rfl (pu_indexK (i := j) hT rfl rfl rfl (ev_tmp rfl) rfl (ev_tmp rfl) rfl (by show _ < (x.length); omega)) rfl ?_
  iterate 2 refine z ?_
  refine yO rfl rfl (pu_loadE1 hT rfl rfl (ev_tmp rfl) rfl (get_mid (off := ((j * 4 + 3) + 0)) (j := 3) (mk_pre (sz := 4) (fun _ => rfl) (Nat.le_of_lt hj)) (by omega) rfl)) rfl ?_
  refine z ?_
  refine o_callN (t := 42) (ccs := mid ((mkL mkItem cItem (x.take j) k).flatMap eItem) [.int .i64 (k + (wSum cItem (x.take j) : Int)), .int .i64 ((k + (wSum cItem (x.take j) : Int)) + (1)), .str (mText (((k + (wSum cItem (x.take j) : Int)) + (1)) + (1))), fieldsD (mkL mkField cField ((x.getD (j : Int).toNat default).2) ((((k + (wSum cItem (x.take j) : Int)) + (1)) + (1)) + (1)))] ((x.drop (j + 1)).flatMap eItem)) 5044 rfl rfl rfl Tryz.call77 (ok_laws_markFieldS (by omega) (by omega)) rfl rfl (get_mid (off := ((j * 4 + 3) + 0)) (j := 3) (mk_pre (sz := 4) (fun _ => rfl) (Nat.le_of_lt hj)) (by omega) rfl) rfl (aw_cons (ev_tmp rfl) (aw_one (awc_key rfl)) (aw_cons (ev_tmp rfl) (aw_one (awc_dv rfl)) aw_nil)) rfl rfl (set_mid (off := ((j * 4 + 3) + 0)) (j := 3) (mk_pre (sz := 4) (fun _ => rfl) (Nat.le_of_lt hj)) (by omega) rfl (Nat.lt_of_lt_of_le (Nat.lt_succ_self _) (Nat.le_of_ble_eq_true rfl))) ?_
  simp only [killT, killB, SV.kill, CV.kill, kk, Nat.reduceBEq]
  refine z ?_
  refine ops_nil ?_
  iterate 2 refine z ?_
  refine ok_region ?_
  iterate 4 refine z ?_
  refine ⟨j + 1, ?_, ?_, weak_sub ⟨rfl, (eqSlotI (by omega)), rfl, rfl, trivial⟩ trivial ⟨(congrArg (fun cs => some (some (KC.mk true 95 4 x.length cs))) (mk_close (by omega) (by rfl))), trivial⟩ rfl⟩
  ·omega
  ·omega
 ·skip
  have d1 := of_decide_eq_false c1
  iterate 9 refine z ?_
  refine ok_weak (σ' := ⟨[(4, .one (.dv [] (.int .i64 (k + (wSum cItem (x.take j) : Int)))))], [], [(0, some (kcOf true (itemsD (mkL mkItem cItem x k))))]⟩) (weak_sub ⟨rfl, trivial⟩ trivial ⟨(mk_fin (by omega)), trivial⟩ rfl) ?_
  refine z ?_
  refine fin1 (res_tmp rfl) ⟨eqI ?_, w1_ok rfl⟩
  have hq := wSum_all cItem x j (by omega); omega
theorem ok_laws_heldItemS {x y : List (ItemT)} {k : Int} (hy : y = mkL mkItem cItem x k) (h0 : 0 ≤ k) (h1 : k + (wSum cItem x : Int) ≤ 4611686018427387904) : PFn Tryz.prog 79 [.one (.dv [] (itemsD (y))), .one (.dv [] (.int .i64 (k)))] (.one (.dv [] (.int .i64 (k + (wSum cItem x : Int))))) := by
 refine ⟨fn_intro Tryz.func79 rfl Tryz.ntmps79 Tryz.results79 rfl (fun C => ?_)⟩
 refine ok_fact (x := .tmp 0) (ev_tmp rfl) fun f0 => ?_
 refine ok_fact (x := .tmp 1) (ev_tmp rfl) fun f1 => ?_
 iterate 8 refine z ?_
 refine ok_loop (ι := Nat) (fun zz => ⟨[(0, .one (.dv [] (itemsD (y)))), (1, .one (.dv [] (.int .i64 (k + (wSum cItem (x.take zz) : Int))))), (5, .one (.dv [] (.int .i64 ((zz : Int)))))], [], []⟩) (fun zz => zz ≤ x.length) (fun zz => x.length - zz) (0) ?_ (weak_sub ⟨rfl, (eqSlotI (by simp [wSum])), rfl, trivial⟩ trivial trivial rfl) (fun zz hx => ?_)
 ·exact Nat.zero_le _
 obtain ⟨j, rfl⟩ : ∃ v, v = zz := ⟨_, rfl⟩
 replace hx : j ≤ x.length := hx
 have hw := fun h => wSum_succ cItem x j h
 have hyl : y.length = x.length := by rw [hy, mkL_len]
 show Ok _ _ _ _ _ (⟨[(0, .one (.dv [] (itemsD (y)))), (1, .one (.dv [] (.int .i64 (k + (wSum cItem (x.take j) : Int))))), (5, .one (.dv [] (.int .i64 ((j : Int)))))], [], []⟩ : St)
 iterate 7 refine z ?_
 refine yQ rfl (fun c1 => ?_) fun c1 => ?_
 ·skip
  have d1 := of_decide_eq_true c1
  have hj : j < x.length := by omega
  obtain ⟨hw1, hw2⟩ := hw hj
  have hc : cItem (x.getD (j : Int).toNat default) = 3 + wSum cField ((x.getD (j : Int).toNat default).2) := rfl
  have he : y.getD (j : Int).toNat default = mkItem (x.getD (j : Int).toNat default) (k + (wSum cItem (x.take j) : Int)) := by rw [hy]; exact mkL_getD hj
  iterate 15 refine z ?_
  refine yQ rfl (fun c2 => ?_) fun c2 => ?_
  ·skip
   have d2 := nd_t c2
   iterate 11 refine z ?_
   exfalso; rw [he] at c2; simp [mkItem, sEq] at c2
  ·skip
   have d2 := nd_f c2
   iterate 18 refine z ?_
   refine yQ rfl (fun c3 => ?_) fun c3 => ?_
   ·skip
    have d3 := nd_t c3
    iterate 11 refine z ?_
    exfalso; rw [he] at c3; simp [mkItem, sEq] at c3
   ·skip
    have d3 := nd_f c3
    iterate 7 refine z ?_
    refine ok_seq ?_
    refine ok_seq ?_
    refine ok_regionD (oB := []) (oK := []) (by kernel_rfl) rfl rfl ?_
    refine zD 0 ?_
    refine zD 1 ?_
    refine zD 2 ?_
    refine zD 3 ?_
    refine zD 4 ?_
    refine zD 5 ?_
    refine zD 6 ?_
    refine d_call 7 rfl (by kernel_rfl) rfl rfl rfl Tryz.call59 (ok_laws_markText (by omega)) (as_cons (ev_tmp rfl) (ag_one ac_dv) as_nil) rfl rfl rfl rfl ?_
    refine zD 8 ?_
    refine d_done (by kernel_rfl) ?_
    refine z ?_
    refine yQ rfl (fun c4 => ?_) fun c4 => ?_
    ·skip
     iterate 11 refine z ?_
     exfalso; rw [he] at c4; simp [mkItem, sEq] at c4
    ·skip
     iterate 15 refine z ?_
     refine zC Tryz.call78 ?_ (hf := ok_laws_heldFieldS (x := (x.getD (j : Int).toNat default).2) (by rw [he]; rfl) (by omega) (by omega))
     iterate 6 refine z ?_
     refine yQ rfl (fun c5 => ?_) fun c5 => ?_
     ·skip
      have d5 := of_decide_eq_true c5
      iterate 10 refine z ?_
      exfalso; omega
     ·skip
      have d5 := of_decide_eq_false c5
      iterate 3 refine z ?_
      refine ok_region ?_
      iterate 4 refine z ?_
      refine ⟨j + 1, ?_, ?_, weak_sub ⟨rfl, (eqSlotI (by omega)), rfl, trivial⟩ trivial trivial rfl⟩
      ·omega
      ·omega
 ·skip
  have d1 := of_decide_eq_false c1
  iterate 11 refine z ?_
  have hq := wSum_all cItem x j (by omega); omega
end Go.Proofs.YtcgmpjedhbhplaaGreat

namespace Go.Proofs.YtcgmpjedhbhplaaGreat
open Go.RowKit
open Go.Proofs
set_option linter.unusedVariables false
set_option linter.unusedSimpArgs false
def mkStore (x : StoreT) (k : Int) : StoreT := (mText (k), mkL mkItem cItem (x.2.1) ((k) + (1)), ((k) + (1)) + (wSum cItem (x.2.1) : Int))
def cStore (x : StoreT) : Nat := 2 + wSum cItem (x.2.1)
theorem cStore_le (x : StoreT) : cStore x ≤ 8 * (1 + wStore x) := by
 have h1 := wSum_bound cItem_le (x.2.1)
 simp only [cStore, wStore]
 omega
theorem ok_laws_markStoreS {x : List (StoreT)} {k : Int} (h0 : 0 ≤ k) (h1 : k + (wSum cStore x : Int) ≤ 4611686018427387904) : WFn Tryz.prog 34 [.one (.key 0), .one (.dv [] (.int .i64 (k)))] (.one (.dv [] (.int .i64 (k + (wSum cStore x : Int))))) [(0, kcOf true (.sl 60 3 (x.length) (x.flatMap eStore)))] [(0, kcOf true (storesD (mkL mkStore cStore x k)))] := by
 refine ⟨fn_intro Tryz.func34 rfl Tryz.ntmps34 Tryz.results34 rfl (fun C => ?_)⟩
 have hln : x.length ≤ wSum cStore x := wSum_ge (fun _ => by simp only [cStore]; omega) x
 refine ok_fact (x := .tmp 1) (ev_tmp rfl) fun f1 => ?_
 iterate 8 refine z ?_
 refine ok_loop (ι := Nat) (fun zz => ⟨[(0, .one (.key 0)), (1, .one (.dv [] (.int .i64 (k + (wSum cStore (x.take zz) : Int))))), (4, .one (.dv [] (.int .i64 (0)))), (5, .one (.dv [] (.int .i64 ((zz : Int)))))], [], [(0, some ⟨true, 60, 3, x.length, (mkL mkStore cStore (x.take zz) k).flatMap eStore ++ (x.drop zz).flatMap eStore⟩)]⟩) (fun zz => zz ≤ x.length) (fun zz => x.length - zz) (0) ?_ (weak_sub ⟨rfl, (eqSlotI (by simp [wSum])), rfl, rfl, trivial⟩ trivial ⟨rfl, trivial⟩ rfl) (fun zz hx => ?_)
 ·exact Nat.zero_le _
 obtain ⟨j, rfl⟩ : ∃ v, v = zz := ⟨_, rfl⟩
 replace hx : j ≤ x.length := hx
 have hw := fun h => wSum_succ cStore x j h
 show Ok _ _ _ _ _ (⟨[(0, .one (.key 0)), (1, .one (.dv [] (.int .i64 (k + (wSum cStore (x.take j) : Int))))), (4, .one (.dv [] (.int .i64 (0)))), (5, .one (.dv [] (.int .i64 ((j : Int)))))], [], [(0, some ⟨true, 60, 3, x.length, (mkL mkStore cStore (x.take j) k).flatMap eStore ++ (x.drop j).flatMap eStore⟩)]⟩ : St)
 iterate 4 refine z ?_
 refine yO rfl rfl (pu_lenKn (n := (x.length)) hT rfl rfl (ev_tmp rfl) rfl rfl) rfl ?_
 iterate 2 refine z ?_
 refine yQ rfl (fun c1 => ?_) fun c1 => ?_
 ·skip
  have d1 := of_decide_eq_true c1
  have hj : j < x.length := by omega
  obtain ⟨hw1, hw2⟩ := hw hj
  have hc : cStore (x.getD (j : Int).toNat default) = 2 + wSum cItem ((x.getD (j : Int).toNat default).2.1) := rfl
  refine ok_kcs (k := 0) (cs' := mid ((mkL mkStore cStore (x.take j) k).flatMap eStore) [.str ((x.getD (j : Int).toNat default).1), itemsD ((x.getD (j : Int).toNat default).2.1), .int .i64 ((x.getD (j : Int).toNat default).2.2)] ((x.drop (j + 1)).flatMap eStore)) rfl (mk_open hj) ?_
  iterate 8 refine z ?_
  refine zC Tryz.call59 ?_ (hf := ok_laws_markText (by omega))
  refine yO rfl rfl (pu_indexK (i := j) hT rfl rfl rfl (ev_tmp rfl) rfl (ev_tmp rfl) rfl (by show _ < (x.length); omega)) rfl ?_
  refine z ?_
  refine o_storeE (js := []) (cs := mid ((mkL mkStore cStore (x.take j) k).flatMap eStore) [.str (mText (k + (wSum cStore (x.take j) : Int))), itemsD ((x.getD (j : Int).toNat default).2.1), .int .i64 ((x.getD (j : Int).toNat default).2.2)] ((x.drop (j + 1)).flatMap eStore)) hT rfl rfl rfl rfl (ev_tmp rfl) (ev_tmp rfl) rfl rfl rfl rfl (ow_cons' (ow_dv rfl) ow_nil rfl) (by decide) (by decide) rfl (le_mid (off := (j * 3 + 0)) (n := 1) (j := 0) (mk_pre (sz := 3) (fun _ => rfl) (Nat.le_of_lt hj)) (by omega) (Nat.le_of_ble_eq_true rfl)) (setR_mid (off := (j * 3 + 0)) (j := 0) (mk_pre (sz := 3) (fun _ => rfl) (Nat.le_of_lt hj)) (by omega) rfl (Nat.le_of_ble_eq_true rfl)) ?_
  simp only [killT, killB, SV.kill, CV.kill, kk, Nat.reduceBEq]
  iterate 9 refine z ?_
  refine yO rfl rfl (pu_indexK (i := j) hT rfl rfl rfl (ev_tmp rfl) rfl (ev_tmp rfl) rfl (by show _ < (x.length); omega)) rfl ?_
  refine z ?_
  refine yO rfl rfl (pu_loadE1 hT rfl rfl (ev_tmp rfl) rfl (get_mid (off := (j * 3 + 1)) (j := 1) (mk_pre (sz := 3) (fun _ => rfl) (Nat.le_of_lt hj)) (by omega) rfl)) rfl ?_
  refine z ?_
  refine o_callN (t := 24) (ccs := mid ((mkL mkStore cStore (x.take j) k).flatMap eStore) [.str (mText (k + (wSum cStore (x.take j) : Int))), itemsD (mkL mkItem cItem ((x.getD (j : Int).toNat default).2.1) ((k + (wSum cStore (x.take j) : Int)) + (1))), .int .i64 ((x.getD (j : Int).toNat default).2.2)] ((x.drop (j + 1)).flatMap eStore)) 5026 rfl rfl rfl Tryz.call60 (ok_laws_markItemS (by omega) (by omega)) rfl rfl (get_mid (off := (j * 3 + 1)) (j := 1) (mk_pre (sz := 3) (fun _ => rfl) (Nat.le_of_lt hj)) (by omega) rfl) rfl (aw_cons (ev_tmp rfl) (aw_one (awc_key rfl)) (aw_cons (ev_tmp rfl) (aw_one (awc_dv rfl)) aw_nil)) rfl rfl (set_mid (off := (j * 3 + 1)) (j := 1) (mk_pre (sz := 3) (fun _ => rfl) (Nat.le_of_lt hj)) (by omega) rfl (Nat.lt_of_lt_of_le (Nat.lt_succ_self _) (Nat.le_of_ble_eq_true rfl))) ?_
  simp only [killT, killB, SV.kill, CV.kill, kk, Nat.reduceBEq]
  iterate 6 refine z ?_
  refine yO rfl rfl (pu_indexK (i := j) hT rfl rfl rfl (ev_tmp rfl) rfl (ev_tmp rfl) rfl (by show _ < (x.length); omega)) rfl ?_
  refine z ?_
  refine o_storeE (js := []) (cs := mid ((mkL mkStore cStore (x.take j) k).flatMap eStore) [.str (mText (k + (wSum cStore (x.take j) : Int))), itemsD (mkL mkItem cItem ((x.getD (j : Int).toNat default).2.1) ((k + (wSum cStore (x.take j) : Int)) + (1))), .int .i64 (((k + (wSum cStore (x.take j) : Int)) + (1)) + (wSum cItem ((x.getD (j : Int).toNat default).2.1) : Int))] ((x.drop (j + 1)).flatMap eStore)) hT rfl rfl rfl rfl (ev_tmp rfl) (ev_tmp rfl) rfl rfl rfl rfl (ow_cons' (ow_dv rfl) ow_nil rfl) (by decide) (by decide) rfl (le_mid (off := (j * 3 + 2)) (n := 1) (j := 2) (mk_pre (sz := 3) (fun _ => rfl) (Nat.le_of_lt hj)) (by omega) (Nat.le_of_ble_eq_true rfl)) (setR_mid (off := (j * 3 + 2)) (j := 2) (mk_pre (sz := 3) (fun _ => rfl) (Nat.le_of_lt hj)) (by omega) rfl (Nat.le_of_ble_eq_true rfl)) ?_
  simp only [killT, killB, SV.kill, CV.kill, kk, Nat.reduceBEq]
  refine z ?_
  refine ok_region ?_
  iterate 3 refine z ?_
  refine ops_nil ?_
  iterate 2 refine z ?_
  refine ok_region ?_
  iterate 4 refine z ?_
  refine ⟨j + 1, ?_, ?_, weak_sub ⟨rfl, (eqSlotI (by omega)), rfl, rfl, trivial⟩ trivial ⟨(congrArg (fun cs => some (some (KC.mk true 60 3 x.length cs))) (mk_close (by omega) (by rfl))), trivial⟩ rfl⟩
  ·omega
  ·omega
 ·skip
  have d1 := of_decide_eq_false c1
  iterate 9 refine z ?_
  refine ok_weak (σ' := ⟨[(4, .one (.dv [] (.int .i64 (k + (wSum cStore (x.take j) : Int)))))], [], [(0, some (kcOf true (storesD (mkL mkStore cStore x k))))]⟩) (weak_sub ⟨rfl, trivial⟩ trivial ⟨(mk_fin (by omega)), trivial⟩ rfl) ?_
  refine z ?_
  refine fin1 (res_tmp rfl) ⟨eqI ?_, w1_ok rfl⟩
  have hq := wSum_all cStore x j (by omega); omega
theorem ok_laws_heldStoreS {x y : List (StoreT)} {k : Int} (hy : y = mkL mkStore cStore x k) (h0 : 0 ≤ k) (h1 : k + (wSum cStore x : Int) ≤ 4611686018427387904) : PFn Tryz.prog 63 [.one (.dv [] (storesD (y))), .one (.dv [] (.int .i64 (k)))] (.one (.dv [] (.int .i64 (k + (wSum cStore x : Int))))) := by
 refine ⟨fn_intro Tryz.func63 rfl Tryz.ntmps63 Tryz.results63 rfl (fun C => ?_)⟩
 refine ok_fact (x := .tmp 0) (ev_tmp rfl) fun f0 => ?_
 refine ok_fact (x := .tmp 1) (ev_tmp rfl) fun f1 => ?_
 iterate 8 refine z ?_
 refine ok_loop (ι := Nat) (fun zz => ⟨[(0, .one (.dv [] (storesD (y)))), (1, .one (.dv [] (.int .i64 (k + (wSum cStore (x.take zz) : Int))))), (5, .one (.dv [] (.int .i64 ((zz : Int)))))], [], []⟩) (fun zz => zz ≤ x.length) (fun zz => x.length - zz) (0) ?_ (weak_sub ⟨rfl, (eqSlotI (by simp [wSum])), rfl, trivial⟩ trivial trivial rfl) (fun zz hx => ?_)
 ·exact Nat.zero_le _
 obtain ⟨j, rfl⟩ : ∃ v, v = zz := ⟨_, rfl⟩
 replace hx : j ≤ x.length := hx
 have hw := fun h => wSum_succ cStore x j h
 have hyl : y.length = x.length := by rw [hy, mkL_len]
 show Ok _ _ _ _ _ (⟨[(0, .one (.dv [] (storesD (y)))), (1, .one (.dv [] (.int .i64 (k + (wSum cStore (x.take j) : Int))))), (5, .one (.dv [] (.int .i64 ((j : Int)))))], [], []⟩ : St)
 iterate 7 refine z ?_
 refine yQ rfl (fun c1 => ?_) fun c1 => ?_
 ·skip
  have d1 := of_decide_eq_true c1
  have hj : j < x.length := by omega
  obtain ⟨hw1, hw2⟩ := hw hj
  have hc : cStore (x.getD (j : Int).toNat default) = 2 + wSum cItem ((x.getD (j : Int).toNat default).2.1) := rfl
  have he : y.getD (j : Int).toNat default = mkStore (x.getD (j : Int).toNat default) (k + (wSum cStore (x.take j) : Int)) := by rw [hy]; exact mkL_getD hj
  iterate 4 refine z ?_
  refine ok_seq ?_
  refine ok_seq ?_
  refine ok_regionD (oB := []) (oK := []) (by kernel_rfl) rfl rfl ?_
  refine zD 0 ?_
  refine zD 1 ?_
  refine zD 2 ?_
  refine zD 3 ?_
  refine zD 4 ?_
  refine zD 5 ?_
  refine d_call 6 rfl (by kernel_rfl) rfl rfl rfl Tryz.call59 (ok_laws_markText (by omega)) (as_cons (ev_tmp rfl) (ag_one ac_dv) as_nil) rfl rfl rfl rfl ?_
  refine zD 7 ?_
  refine d_done (by kernel_rfl) ?_
  refine z ?_
  refine yQ rfl (fun c2 => ?_) fun c2 => ?_
  ·skip
   iterate 11 refine z ?_
   exfalso; rw [he] at c2; simp [mkStore, sEq] at c2
  ·skip
   iterate 14 refine z ?_
   refine zC Tryz.call79 ?_ (hf := ok_laws_heldItemS (x := (x.getD (j : Int).toNat default).2.1) (by rw [he]; rfl) (by omega) (by omega))
   iterate 7 refine z ?_
   refine yQ rfl (fun c3 => ?_) fun c3 => ?_
   ·skip
    have d3 := of_decide_eq_true c3
    iterate 11 refine z ?_
    exfalso; omega
   ·skip
    have d3 := of_decide_eq_false c3
    iterate 12 refine z ?_
    refine yQ rfl (fun c4 => ?_) fun c4 => ?_
    ·skip
     have d4 := nd_t c4
     iterate 11 refine z ?_
     exfalso; rw [he] at c4; simp [mkStore, sEq] at c4
    ·skip
     have d4 := nd_f c4
     iterate 2 refine z ?_
     refine ok_region ?_
     iterate 3 refine z ?_
     refine ops_nil ?_
     iterate 2 refine z ?_
     refine ok_region ?_
     iterate 4 refine z ?_
     refine ⟨j + 1, ?_, ?_, weak_sub ⟨rfl, (eqSlotI (by omega)), rfl, trivial⟩ trivial trivial rfl⟩
     ·omega
     ·omega
 ·skip
  have d1 := of_decide_eq_false c1
  iterate 11 refine z ?_
  have hq := wSum_all cStore x j (by omega); omega
end Go.Proofs.YtcgmpjedhbhplaaGreat

namespace Go.Proofs.YtcgmpjedhbhplaaGreat
open Go.RowKit
open Go.Proofs
set_option linter.unusedVariables false
set_option linter.unusedSimpArgs false

theorem take_cs1 {xs : List ItemT} {k : Nat} (hk : k < xs.length) : (xs.take k).flatMap eItem ++ eItem (xs.getD (k : Int).toNat default) = (xs.take (k + 1)).flatMap eItem ∧ (xs.take k).length + 1 = (xs.take (k + 1)).length := by
 have e : xs.getD (k : Int).toNat default = xs[k] := by simp [List.getD, List.getElem?_eq_getElem hk]
 rw [List.take_add_one, List.getElem?_eq_getElem hk, e]
 simp only [Option.toList_some, List.flatMap_append, List.flatMap_cons, List.flatMap_nil, List.append_nil, List.length_append, List.length_singleton]
 exact ⟨trivial, trivial⟩

theorem ok_impl_copyStore {x : StoreT} (hb : wStore x ≤ 1099511627776) : KFn Tryz.prog 30 [.agg [(.dv [] (.str (x.1))), (.dv [] (itemsD (x.2.1))), (.dv [] (.int .i64 (x.2.2)))]] (.agg [(.dv [] (.str (x.1))), (.key 30), (.dv [] (.int .i64 (x.2.2)))]) [(30, some (kcOf false (itemsD (x.2.1))))] := by
 refine ⟨fn_intro Tryz.func30 rfl Tryz.ntmps30 Tryz.results30 rfl (fun C => ?_)⟩
 refine yF 0 0 rfl rfl fun f0_0 => ?_
 refine yF 0 1 rfl rfl fun f0_1 => ?_
 refine yF 0 2 rfl rfl fun f0_2 => ?_
 iterate 9 refine z ?_
 refine yO rfl rfl (pu_build hT hB rfl rfl rfl (bp_cons (ev_tmp rfl) rfl rfl rfl rfl rfl (bp_cons (ev_tmp rfl) rfl rfl rfl rfl rfl bp_nil))) rfl ?_
 iterate 3 refine z ?_
 refine ok_seq ?_
 refine ok_seq ?_
 refine ok_weak (weak_nilB 30 (b := 3) (i := 1) (e := 95) (sz := 4) rfl rfl rfl rfl rfl) ?_
 simp only [killT, killB, SV.kill, CV.kill, kk, Nat.reduceBEq]
 refine ok_region ?_
 iterate 6 refine z ?_
 refine ok_loop (ι := Nat) (fun zz => ⟨[(2, .box 2 0), (3, .box 3 0), (12, .one (.dv [] (itemsD (x.2.1)))), (13, .one (.dv [] (.int .i64 ((((x.2.1)).length : Int))))), (14, .one (.dv [] (.int .i64 ((zz : Int)))))], [(2, 60, [(.dv [] (.str (ByteArray.empty))), .nil, (.dv [] (.int .i64 (0)))]), (3, 60, [(.dv [] (.str (x.1))), (.key 30), (.dv [] (.int .i64 (x.2.2)))])], [(30, some (kcOf false (.sl 95 4 ((x.2.1.take zz).length) ((x.2.1.take zz).flatMap eItem))))]⟩) (fun zz => zz ≤ x.2.1.length) (fun zz => x.2.1.length - zz) (0) ?_ (weak_sub ⟨rfl, rfl, rfl, rfl, rfl, trivial⟩ ⟨rfl, rfl, trivial⟩ ⟨rfl, trivial⟩ rfl) (fun zz hx => ?_)
 ·exact Nat.zero_le _
 obtain ⟨k, rfl⟩ : ∃ v, v = zz := ⟨_, rfl⟩
 replace hx : k ≤ x.2.1.length := hx
 have hw := fun h => wSum_succ wItem x.2.1 k h
 show Ok _ _ _ _ _ (⟨[(2, .box 2 0), (3, .box 3 0), (12, .one (.dv [] (itemsD (x.2.1)))), (13, .one (.dv [] (.int .i64 ((((x.2.1)).length : Int))))), (14, .one (.dv [] (.int .i64 ((k : Int)))))], [(2, 60, [(.dv [] (.str (ByteArray.empty))), .nil, (.dv [] (.int .i64 (0)))]), (3, 60, [(.dv [] (.str (x.1))), (.key 30), (.dv [] (.int .i64 (x.2.2)))])], [(30, some (kcOf false (.sl 95 4 ((x.2.1.take k).length) ((x.2.1.take k).flatMap eItem))))]⟩ : St)
 iterate 3 refine z ?_
 refine ok_seq ?_
 refine yQ rfl (fun c1 => ?_) fun c1 => ?_
 ·skip
  have d1 := of_decide_eq_true c1
  have hk2 : k < x.2.1.length := by omega
  have hlen : x.2.1.length ≤ 1099511627776 := by have h3 : wStore x = x.1.size + (x.2.1.length + wSum wItem x.2.1) := rfl; omega
  have hrec : wItem (x.2.1.getD (k : Int).toNat default) ≤ 1099511627776 := by have := hw hk2; have h3 : wStore x = x.1.size + (x.2.1.length + wSum wItem x.2.1) := rfl; omega
  iterate 10 refine z ?_
  refine ok_regionH [0, 1, 2, 3, 4] (oB := [2, 3, 5]) (oK := [30]) (by kernel_rfl) rfl rfl ?_
  refine zD 0 ?_
  refine zD 1 ?_
  refine zD 2 ?_
  refine d_callK 21000 3 rfl (by kernel_rfl) rfl rfl rfl Tryz.call55 (ok_impl_copyItem (by first | omega | exact Nat.le_trans (item_len _) hrec | exact Nat.le_trans (item_len _) (Nat.le_trans hrec (by decide)))) (as_cons (ev_tmp rfl) (ag_agg (ag_cons ac_dv (ag_cons ac_dv (ag_cons ac_dv (ag_cons ac_dv ag_nil))))) as_nil) rfl rfl rfl rfl rfl ?_
  refine d_build1 (k := 22) (js := [28003]) 4 hT rfl (by kernel_rfl) rfl rfl rfl rfl rfl rfl rfl rfl rfl (ev_tmp rfl) rfl rfl (ow_cons' (ow_dv rfl) (ow_cons' (ow_dv rfl) (ow_cons' (ow_dv rfl) (ow_cons' (ow_key rfl) ow_nil rfl) rfl) rfl) rfl) (by decide) (by decide) rfl rfl (by decide) ?_
  simp only [killT, killB, SV.kill, CV.kill, kk, Nat.reduceBEq]
  refine d_chain [5, 6, 7] rfl rfl (by kernel_rfl) ?_
  refine o_appK (k := 30) (j := 22) (cs := (x.2.1.take (k + 1)).flatMap eItem) (n := (x.2.1.take (k + 1)).length) hT rfl rfl rfl rfl rfl rfl rfl (ev_tmp rfl) rfl rfl rfl (ev_tmp rfl) rfl rfl (by decide) (by dsimp only [kcOf]; simp only [List.length_take]; omega) (by dsimp only [kcOf]; simp only [List.length_take]; omega) ((take_cs1 hk2).2) ((take_cs1 hk2).1) ?_
  simp only [killT, killB, SV.kill, CV.kill, kk, Nat.reduceBEq]
  iterate 2 refine z ?_
  refine ops_nil ?_
  iterate 2 refine z ?_
  refine ok_region ?_
  iterate 3 refine z ?_
  refine ⟨k + 1, ?_, ?_, weak_sub ⟨rfl, rfl, rfl, rfl, rfl, trivial⟩ ⟨rfl, rfl, trivial⟩ ⟨rfl, trivial⟩ rfl⟩
  ·omega
  ·omega
 ·skip
  have d1 := of_decide_eq_false c1
  iterate 9 refine z ?_
  refine ok_weak (σ' := ⟨[(2, .box 2 0)], [(2, 60, [(.dv [] (.str (x.1))), (.key 30), (.dv [] (.int .i64 (x.2.2)))])], [(30, some (kcOf false (itemsD (x.2.1))))]⟩) (weak_sub ⟨rfl, trivial⟩ ⟨rfl, trivial⟩ ⟨(congrArg (fun l : List ItemT => some (some (KC.mk false 95 4 l.length (l.flatMap eItem)))) (List.take_of_length_le (by omega))), trivial⟩ rfl) ?_
  refine z ?_
  refine fin1 (res_cell hT rfl rfl rfl rfl) ?_
  exact ⟨rfl, rfl⟩
theorem ok_spec_l6Copy {x : StoreT} (hb : wStore x ≤ 1099511627776) : KFn Tryz.prog 22 [.agg [(.dv [] (.str (x.1))), (.dv [] (itemsD (x.2.1))), (.dv [] (.int .i64 (x.2.2)))]] (.agg [(.dv [] (.str (x.1))), (.key 30), (.dv [] (.int .i64 (x.2.2)))]) [(30, some (kcOf false (itemsD (x.2.1))))] := by
 refine ⟨fn_intro Tryz.func22 rfl Tryz.ntmps22 Tryz.results22 rfl (fun C => ?_)⟩
 refine yF 0 0 rfl rfl fun f0_0 => ?_
 refine yF 0 1 rfl rfl fun f0_1 => ?_
 refine yF 0 2 rfl rfl fun f0_2 => ?_
 iterate 9 refine z ?_
 refine yO rfl rfl (pu_build hT hB rfl rfl rfl (bp_cons (ev_tmp rfl) rfl rfl rfl rfl rfl (bp_cons (ev_tmp rfl) rfl rfl rfl rfl rfl bp_nil))) rfl ?_
 iterate 3 refine z ?_
 refine ok_seq ?_
 refine ok_seq ?_
 refine ok_weak (weak_nilB 30 (b := 3) (i := 1) (e := 95) (sz := 4) rfl rfl rfl rfl rfl) ?_
 simp only [killT, killB, SV.kill, CV.kill, kk, Nat.reduceBEq]
 refine ok_region ?_
 iterate 3 refine z ?_
 refine ok_loop (ι := Nat) (fun zz => ⟨[(1, .box 1 0), (2, .box 2 0), (3, .box 3 0), (4, .one (.dv [] (.int .i64 ((zz : Int)))))], [(1, 60, [(.dv [] (.str (x.1))), (.dv [] (itemsD (x.2.1))), (.dv [] (.int .i64 (x.2.2)))]), (2, 60, [(.dv [] (.str (ByteArray.empty))), .nil, (.dv [] (.int .i64 (0)))]), (3, 60, [(.dv [] (.str (x.1))), (.key 30), (.dv [] (.int .i64 (x.2.2)))])], [(30, some (kcOf false (.sl 95 4 ((x.2.1.take zz).length) ((x.2.1.take zz).flatMap eItem))))]⟩) (fun zz => zz ≤ x.2.1.length) (fun zz => x.2.1.length - zz) (0) ?_ (weak_sub ⟨rfl, rfl, rfl, rfl, trivial⟩ ⟨rfl, rfl, rfl, trivial⟩ ⟨rfl, trivial⟩ rfl) (fun zz hx => ?_)
 ·exact Nat.zero_le _
 obtain ⟨k, rfl⟩ : ∃ v, v = zz := ⟨_, rfl⟩
 replace hx : k ≤ x.2.1.length := hx
 have hw := fun h => wSum_succ wItem x.2.1 k h
 show Ok _ _ _ _ _ (⟨[(1, .box 1 0), (2, .box 2 0), (3, .box 3 0), (4, .one (.dv [] (.int .i64 ((k : Int)))))], [(1, 60, [(.dv [] (.str (x.1))), (.dv [] (itemsD (x.2.1))), (.dv [] (.int .i64 (x.2.2)))]), (2, 60, [(.dv [] (.str (ByteArray.empty))), .nil, (.dv [] (.int .i64 (0)))]), (3, 60, [(.dv [] (.str (x.1))), (.key 30), (.dv [] (.int .i64 (x.2.2)))])], [(30, some (kcOf false (.sl 95 4 ((x.2.1.take k).length) ((x.2.1.take k).flatMap eItem))))]⟩ : St)
 iterate 8 refine z ?_
 refine yQ rfl (fun c1 => ?_) fun c1 => ?_
 ·skip
  have d1 := of_decide_eq_true c1
  have hk2 : k < x.2.1.length := by omega
  have hlen : x.2.1.length ≤ 1099511627776 := by have h3 : wStore x = x.1.size + (x.2.1.length + wSum wItem x.2.1) := rfl; omega
  have hrec : wItem (x.2.1.getD (k : Int).toNat default) ≤ 1099511627776 := by have := hw hk2; have h3 : wStore x = x.1.size + (x.2.1.length + wSum wItem x.2.1) := rfl; omega
  iterate 4 refine z ?_
  refine ok_regionH [0, 1, 2, 3, 4, 5, 6, 7, 8] (oB := [1, 2, 3]) (oK := [30]) (by kernel_rfl) rfl rfl ?_
  refine zD 0 ?_
  refine zD 1 ?_
  refine zD 2 ?_
  refine zD 3 ?_
  refine zD 4 ?_
  refine zD 5 ?_
  refine zD 6 ?_
  refine d_callK 24000 7 rfl (by kernel_rfl) rfl rfl rfl Tryz.call45 (ok_spec_l6Item (by first | omega | exact Nat.le_trans (item_len _) hrec | exact Nat.le_trans (item_len _) (Nat.le_trans hrec (by decide)))) (as_cons (ev_tmp rfl) (ag_agg (ag_cons ac_dv (ag_cons ac_dv (ag_cons ac_dv (ag_cons ac_dv ag_nil))))) as_nil) rfl rfl rfl rfl rfl ?_
  refine d_build1 (k := 25) (js := [31003]) 8 hT rfl (by kernel_rfl) rfl rfl rfl rfl rfl rfl rfl rfl rfl (ev_tmp rfl) rfl rfl (ow_cons' (ow_dv rfl) (ow_cons' (ow_dv rfl) (ow_cons' (ow_dv rfl) (ow_cons' (ow_key rfl) ow_nil rfl) rfl) rfl) rfl) (by decide) (by decide) rfl rfl (by decide) ?_
  simp only [killT, killB, SV.kill, CV.kill, kk, Nat.reduceBEq]
  refine d_chain [9, 10, 11] rfl rfl (by kernel_rfl) ?_
  refine o_appK (k := 30) (j := 25) (cs := (x.2.1.take (k + 1)).flatMap eItem) (n := (x.2.1.take (k + 1)).length) hT rfl rfl rfl rfl rfl rfl rfl (ev_tmp rfl) rfl rfl rfl (ev_tmp rfl) rfl rfl (by decide) (by dsimp only [kcOf]; simp only [List.length_take]; omega) (by dsimp only [kcOf]; simp only [List.length_take]; omega) ((take_cs1 hk2).2) ((take_cs1 hk2).1) ?_
  simp only [killT, killB, SV.kill, CV.kill, kk, Nat.reduceBEq]
  iterate 2 refine z ?_
  refine ops_nil ?_
  iterate 2 refine z ?_
  refine ok_region ?_
  iterate 4 refine z ?_
  refine ⟨k + 1, ?_, ?_, weak_sub ⟨rfl, rfl, rfl, rfl, trivial⟩ ⟨rfl, rfl, rfl, trivial⟩ ⟨rfl, trivial⟩ rfl⟩
  ·omega
  ·omega
 ·skip
  have d1 := of_decide_eq_false c1
  iterate 9 refine z ?_
  refine ok_weak (σ' := ⟨[(2, .box 2 0)], [(2, 60, [(.dv [] (.str (x.1))), (.key 30), (.dv [] (.int .i64 (x.2.2)))])], [(30, some (kcOf false (itemsD (x.2.1))))]⟩) (weak_sub ⟨rfl, trivial⟩ ⟨rfl, trivial⟩ ⟨(congrArg (fun l : List ItemT => some (some (KC.mk false 95 4 l.length (l.flatMap eItem)))) (List.take_of_length_le (by omega))), trivial⟩ rfl) ?_
  refine z ?_
  refine fin1 (res_cell hT rfl rfl rfl rfl) ?_
  exact ⟨rfl, rfl⟩
end Go.Proofs.YtcgmpjedhbhplaaGreat

namespace Go.Proofs.YtcgmpjedhbhplaaGreat
open Go.RowKit
open Go.Proofs
set_option linter.unusedVariables false
set_option linter.unusedSimpArgs false
def mkOp (x : OpT) (k : Int) : OpT := (k, mText ((k) + (1)), (((k) + (1)) + (1), (((k) + (1)) + (1)) + (1), mText (((((k) + (1)) + (1)) + (1)) + (1))), mkL mkField cField (x.2.2.2.1) ((((((k) + (1)) + (1)) + (1)) + (1)) + (1)), mText (((((((k) + (1)) + (1)) + (1)) + (1)) + (1)) + (wSum cField (x.2.2.2.1) : Int)))
def cOp (x : OpT) : Nat := 6 + wSum cField (x.2.2.2.1)
theorem cOp_le (x : OpT) : cOp x ≤ 8 * (1 + wOp x) := by
 have h5 := wSum_bound cField_le (x.2.2.2.1)
 simp only [cOp, wOp, wKey, wRecord]
 omega
theorem ok_laws_markOpS {x : List (OpT)} {k : Int} (h0 : 0 ≤ k) (h1 : k + (wSum cOp x : Int) ≤ 4611686018427387904) : WFn Tryz.prog 61 [.one (.key 0), .one (.dv [] (.int .i64 (k)))] (.one (.dv [] (.int .i64 (k + (wSum cOp x : Int))))) [(0, kcOf true (.sl 93 7 (x.length) (x.flatMap eOp)))] [(0, kcOf true (opsD (mkL mkOp cOp x k)))] := by
 refine ⟨fn_intro Tryz.func61 rfl Tryz.ntmps61 Tryz.results61 rfl (fun C => ?_)⟩
 have hln : x.length ≤ wSum cOp x := wSum_ge (fun _ => by simp only [cOp]; omega) x
 refine ok_fact (x := .tmp 1) (ev_tmp rfl) fun f1 => ?_
 iterate 8 refine z ?_
 refine ok_loop (ι := Nat) (fun zz => ⟨[(0, .one (.key 0)), (1, .one (.dv [] (.int .i64 (k + (wSum cOp (x.take zz) : Int))))), (4, .one (.dv [] (.int .i64 (0)))), (5, .one (.dv [] (.int .i64 ((zz : Int)))))], [], [(0, some ⟨true, 93, 7, x.length, (mkL mkOp cOp (x.take zz) k).flatMap eOp ++ (x.drop zz).flatMap eOp⟩)]⟩) (fun zz => zz ≤ x.length) (fun zz => x.length - zz) (0) ?_ (weak_sub ⟨rfl, (eqSlotI (by simp [wSum])), rfl, rfl, trivial⟩ trivial ⟨rfl, trivial⟩ rfl) (fun zz hx => ?_)
 ·exact Nat.zero_le _
 obtain ⟨j, rfl⟩ : ∃ v, v = zz := ⟨_, rfl⟩
 replace hx : j ≤ x.length := hx
 have hw := fun h => wSum_succ cOp x j h
 show Ok _ _ _ _ _ (⟨[(0, .one (.key 0)), (1, .one (.dv [] (.int .i64 (k + (wSum cOp (x.take j) : Int))))), (4, .one (.dv [] (.int .i64 (0)))), (5, .one (.dv [] (.int .i64 ((j : Int)))))], [], [(0, some ⟨true, 93, 7, x.length, (mkL mkOp cOp (x.take j) k).flatMap eOp ++ (x.drop j).flatMap eOp⟩)]⟩ : St)
 iterate 4 refine z ?_
 refine yO rfl rfl (pu_lenKn (n := (x.length)) hT rfl rfl (ev_tmp rfl) rfl rfl) rfl ?_
 iterate 2 refine z ?_
 refine yQ rfl (fun c1 => ?_) fun c1 => ?_
 ·skip
  have d1 := of_decide_eq_true c1
  have hj : j < x.length := by omega
  obtain ⟨hw1, hw2⟩ := hw hj
  have hc : cOp (x.getD (j : Int).toNat default) = 6 + wSum cField ((x.getD (j : Int).toNat default).2.2.2.1) := rfl
  refine ok_kcs (k := 0) (cs' := mid ((mkL mkOp cOp (x.take j) k).flatMap eOp) [.int .i64 ((x.getD (j : Int).toNat default).1), .str ((x.getD (j : Int).toNat default).2.1), .int .i64 ((x.getD (j : Int).toNat default).2.2.1.1), .int .i64 ((x.getD (j : Int).toNat default).2.2.1.2.1), .str ((x.getD (j : Int).toNat default).2.2.1.2.2), fieldsD ((x.getD (j : Int).toNat default).2.2.2.1), .str ((x.getD (j : Int).toNat default).2.2.2.2)] ((x.drop (j + 1)).flatMap eOp)) rfl (mk_open hj) ?_
  iterate 8 refine z ?_
  refine yO rfl rfl (pu_indexK (i := j) hT rfl rfl rfl (ev_tmp rfl) rfl (ev_tmp rfl) rfl (by show _ < (x.length); omega)) rfl ?_
  refine z ?_
  refine o_storeE (js := []) (cs := mid ((mkL mkOp cOp (x.take j) k).flatMap eOp) [.int .i64 (k + (wSum cOp (x.take j) : Int)), .str ((x.getD (j : Int).toNat default).2.1), .int .i64 ((x.getD (j : Int).toNat default).2.2.1.1), .int .i64 ((x.getD (j : Int).toNat default).2.2.1.2.1), .str ((x.getD (j : Int).toNat default).2.2.1.2.2), fieldsD ((x.getD (j : Int).toNat default).2.2.2.1), .str ((x.getD (j : Int).toNat default).2.2.2.2)] ((x.drop (j + 1)).flatMap eOp)) hT rfl rfl rfl rfl (ev_tmp rfl) (ev_tmp rfl) rfl rfl rfl rfl (ow_cons' (ow_dv rfl) ow_nil rfl) (by decide) (by decide) rfl (le_mid (off := (j * 7 + 0)) (n := 1) (j := 0) (mk_pre (sz := 7) (fun _ => rfl) (Nat.le_of_lt hj)) (by omega) (Nat.le_of_ble_eq_true rfl)) (setR_mid (off := (j * 7 + 0)) (j := 0) (mk_pre (sz := 7) (fun _ => rfl) (Nat.le_of_lt hj)) (by omega) rfl (Nat.le_of_ble_eq_true rfl)) ?_
  simp only [killT, killB, SV.kill, CV.kill, kk, Nat.reduceBEq]
  iterate 10 refine z ?_
  refine zC Tryz.call59 ?_ (hf := ok_laws_markText (by omega))
  refine yO rfl rfl (pu_indexK (i := j) hT rfl rfl rfl (ev_tmp rfl) rfl (ev_tmp rfl) rfl (by show _ < (x.length); omega)) rfl ?_
  refine z ?_
  refine o_storeE (js := []) (cs := mid ((mkL mkOp cOp (x.take j) k).flatMap eOp) [.int .i64 (k + (wSum cOp (x.take j) : Int)), .str (mText ((k + (wSum cOp (x.take j) : Int)) + (1))), .int .i64 ((x.getD (j : Int).toNat default).2.2.1.1), .int .i64 ((x.getD (j : Int).toNat default).2.2.1.2.1), .str ((x.getD (j : Int).toNat default).2.2.1.2.2), fieldsD ((x.getD (j : Int).toNat default).2.2.2.1), .str ((x.getD (j : Int).toNat default).2.2.2.2)] ((x.drop (j + 1)).flatMap eOp)) hT rfl rfl rfl rfl (ev_tmp rfl) (ev_tmp rfl) rfl rfl rfl rfl (ow_cons' (ow_dv rfl) ow_nil rfl) (by decide) (by decide) rfl (le_mid (off := (j * 7 + 1)) (n := 1) (j := 1) (mk_pre (sz := 7) (fun _ => rfl) (Nat.le_of_lt hj)) (by omega) (Nat.le_of_ble_eq_true rfl)) (setR_mid (off := (j * 7 + 1)) (j := 1) (mk_pre (sz := 7) (fun _ => rfl) (Nat.le_of_lt hj)) (by omega) rfl (Nat.le_of_ble_eq_true rfl)) ?_
  simp only [killT, killB, SV.kill, CV.kill, kk, Nat.reduceBEq]
  iterate 10 refine z ?_
  refine yO rfl rfl (pu_indexK (i := j) hT rfl rfl rfl (ev_tmp rfl) rfl (ev_tmp rfl) rfl (by show _ < (x.length); omega)) rfl ?_
  iterate 2 refine z ?_
  refine o_storeE (js := []) (cs := mid ((mkL mkOp cOp (x.take j) k).flatMap eOp) [.int .i64 (k + (wSum cOp (x.take j) : Int)), .str (mText ((k + (wSum cOp (x.take j) : Int)) + (1))), .int .i64 (((k + (wSum cOp (x.take j) : Int)) + (1)) + (1)), .int .i64 ((x.getD (j : Int).toNat default).2.2.1.2.1), .str ((x.getD (j : Int).toNat default).2.2.1.2.2), fieldsD ((x.getD (j : Int).toNat default).2.2.2.1), .str ((x.getD (j : Int).toNat default).2.2.2.2)] ((x.drop (j + 1)).flatMap eOp)) hT rfl rfl rfl rfl (ev_tmp rfl) (ev_tmp rfl) rfl rfl rfl rfl (ow_cons' (ow_dv rfl) ow_nil rfl) (by decide) (by decide) rfl (le_mid (off := ((j * 7 + 2) + 0)) (n := 1) (j := 2) (mk_pre (sz := 7) (fun _ => rfl) (Nat.le_of_lt hj)) (by omega) (Nat.le_of_ble_eq_true rfl)) (setR_mid (off := ((j * 7 + 2) + 0)) (j := 2) (mk_pre (sz := 7) (fun _ => rfl) (Nat.le_of_lt hj)) (by omega) rfl (Nat.le_of_ble_eq_true rfl)) ?_
  simp only [killT, killB, SV.kill, CV.kill, kk, Nat.reduceBEq]
  iterate 10 refine z ?_
  refine yO rfl rfl (pu_indexK (i := j) hT rfl rfl rfl (ev_tmp rfl) rfl (ev_tmp rfl) rfl (by show _ < (x.length); omega)) rfl ?_
  iterate 2 refine z ?_
  refine o_storeE (js := []) (cs := mid ((mkL mkOp cOp (x.take j) k).flatMap eOp) [.int .i64 (k + (wSum cOp (x.take j) : Int)), .str (mText ((k + (wSum cOp (x.take j) : Int)) + (1))), .int .i64 (((k + (wSum cOp (x.take j) : Int)) + (1)) + (1)), .int .i64 ((((k + (wSum cOp (x.take j) : Int)) + (1)) + (1)) + (1)), .str ((x.getD (j : Int).toNat default).2.2.1.2.2), fieldsD ((x.getD (j : Int).toNat default).2.2.2.1), .str ((x.getD (j : Int).toNat default).2.2.2.2)] ((x.drop (j + 1)).flatMap eOp)) hT rfl rfl rfl rfl (ev_tmp rfl) (ev_tmp rfl) rfl rfl rfl rfl (ow_cons' (ow_dv rfl) ow_nil rfl) (by decide) (by decide) rfl (le_mid (off := ((j * 7 + 2) + 1)) (n := 1) (j := 3) (mk_pre (sz := 7) (fun _ => rfl) (Nat.le_of_lt hj)) (by omega) (Nat.le_of_ble_eq_true rfl)) (setR_mid (off := ((j * 7 + 2) + 1)) (j := 3) (mk_pre (sz := 7) (fun _ => rfl) (Nat.le_of_lt hj)) (by omega) rfl (Nat.le_of_ble_eq_true rfl)) ?_
  simp only [killT, killB, SV.kill, CV.kill, kk, Nat.reduceBEq]
  iterate 10 refine z ?_
  refine zC Tryz.call59 ?_ (hf := ok_laws_markText (by omega))
  refine yO rfl rfl (pu_indexK (i := j) hT rfl rfl rfl (ev_tmp rfl) rfl (ev_tmp rfl) rfl (by show _ < (x.length); omega)) rfl ?_
  iterate 2 refine z ?_
  refine o_storeE (js := []) (cs := mid ((mkL mkOp cOp (x.take j) k).flatMap eOp) [.int .i64 (k + (wSum cOp (x.take j) : Int)), .str (mText ((k + (wSum cOp (x.take j) : Int)) + (1))), .int .i64 (((k + (wSum cOp (x.take j) : Int)) + (1)) + (1)), .int .i64 ((((k + (wSum cOp (x.take j) : Int)) + (1)) + (1)) + (1)), .str (mText (((((k + (wSum cOp (x.take j) : Int)) + (1)) + (1)) + (1)) + (1))), fieldsD ((x.getD (j : Int).toNat default).2.2.2.1), .str ((x.getD (j : Int).toNat default).2.2.2.2)] ((x.drop (j + 1)).flatMap eOp)) hT rfl rfl rfl rfl (ev_tmp rfl) (ev_tmp rfl) rfl rfl rfl rfl (ow_cons' (ow_dv rfl) ow_nil rfl) (by decide) (by decide) rfl (le_mid (off := ((j * 7 + 2) + 2)) (n := 1) (j := 4) (mk_pre (sz := 7) (fun _ => rfl) (Nat.le_of_lt hj)) (by omega) (Nat.le_of_ble_eq_true rfl)) (setR_mid (off := ((j * 7 + 2) + 2)) (j := 4) (mk_pre (sz := 7) (fun _ => rfl) (Nat.le_of_lt hj)) (by omega) rfl (Nat.le_of_ble_eq_true rfl)) ?_
  simp only [killT, killB, SV.kill, CV.kill, kk, Nat.reduceBEq]
  iterate 9 refine z ?_
  refine yO rfl rfl (pu_indexK (i := j) hT rfl rfl rfl (ev_tmp rfl) rfl (ev_tmp rfl) rfl (by show _ < (x.length); omega)) rfl ?_
  iterate 2 refine z ?_
  refine yO rfl rfl (pu_loadE1 hT rfl rfl (ev_tmp rfl) rfl (get_mid (off := ((j * 7 + 5) + 0)) (j := 5) (mk_pre (sz := 7) (fun _ => rfl) (Nat.le_of_lt hj)) (by omega) rfl)) rfl ?_
  refine z ?_
  refine o_callN (t := 57) (ccs := mid ((mkL mkOp cOp (x.take j) k).flatMap eOp) [.int .i64 (k + (wSum cOp (x.take j) : Int)), .str (mText ((k + (wSum cOp (x.take j) : Int)) + (1))), .int .i64 (((k + (wSum cOp (x.take j) : Int)) + (1)) + (1)), .int .i64 ((((k + (wSum cOp (x.take j) : Int)) + (1)) + (1)) + (1)), .str (mText (((((k + (wSum cOp (x.take j) : Int)) + (1)) + (1)) + (1)) + (1))), fieldsD (mkL mkField cField ((x.getD (j : Int).toNat default).2.2.2.1) ((((((k + (wSum cOp (x.take j) : Int)) + (1)) + (1)) + (1)) + (1)) + (1))), .str ((x.getD (j : Int).toNat default).2.2.2.2)] ((x.drop (j + 1)).flatMap eOp)) 5059 rfl rfl rfl Tryz.call77 (ok_laws_markFieldS (by omega) (by omega)) rfl rfl (get_mid (off := ((j * 7 + 5) + 0)) (j := 5) (mk_pre (sz := 7) (fun _ => rfl) (Nat.le_of_lt hj)) (by omega) rfl) rfl (aw_cons (ev_tmp rfl) (aw_one (awc_key rfl)) (aw_cons (ev_tmp rfl) (aw_one (awc_dv rfl)) aw_nil)) rfl rfl (set_mid (off := ((j * 7 + 5) + 0)) (j := 5) (mk_pre (sz := 7) (fun _ => rfl) (Nat.le_of_lt hj)) (by omega) rfl (Nat.lt_of_lt_of_le (Nat.lt_succ_self _) (Nat.le_of_ble_eq_true rfl))) ?_
  simp only [killT, killB, SV.kill, CV.kill, kk, Nat.reduceBEq]
  iterate 6 refine z ?_
  refine zC Tryz.call59 ?_ (hf := ok_laws_markText (by omega))
  refine yO rfl rfl (pu_indexK (i := j) hT rfl rfl rfl (ev_tmp rfl) rfl (ev_tmp rfl) rfl (by show _ < (x.length); omega)) rfl ?_
  refine z ?_
  refine o_storeE (js := []) (cs := mid ((mkL mkOp cOp (x.take j) k).flatMap eOp) [.int .i64 (k + (wSum cOp (x.take j) : Int)), .str (mText ((k + (wSum cOp (x.take j) : Int)) + (1))), .int .i64 (((k + (wSum cOp (x.take j) : Int)) + (1)) + (1)), .int .i64 ((((k + (wSum cOp (x.take j) : Int)) + (1)) + (1)) + (1)), .str (mText (((((k + (wSum cOp (x.take j) : Int)) + (1)) + (1)) + (1)) + (1))), fieldsD (mkL mkField cField ((x.getD (j : Int).toNat default).2.2.2.1) ((((((k + (wSum cOp (x.take j) : Int)) + (1)) + (1)) + (1)) + (1)) + (1))), .str (mText (((((((k + (wSum cOp (x.take j) : Int)) + (1)) + (1)) + (1)) + (1)) + (1)) + (wSum cField ((x.getD (j : Int).toNat default).2.2.2.1) : Int)))] ((x.drop (j + 1)).flatMap eOp)) hT rfl rfl rfl rfl (ev_tmp rfl) (ev_tmp rfl) rfl rfl rfl rfl (ow_cons' (ow_dv rfl) ow_nil rfl) (by decide) (by decide) rfl (le_mid (off := (j * 7 + 6)) (n := 1) (j := 6) (mk_pre (sz := 7) (fun _ => rfl) (Nat.le_of_lt hj)) (by omega) (Nat.le_of_ble_eq_true rfl)) (setR_mid (off := (j * 7 + 6)) (j := 6) (mk_pre (sz := 7) (fun _ => rfl) (Nat.le_of_lt hj)) (by omega) rfl (Nat.le_of_ble_eq_true rfl)) ?_
  simp only [killT, killB, SV.kill, CV.kill, kk, Nat.reduceBEq]
  refine z ?_
  refine ok_region ?_
  iterate 3 refine z ?_
  refine ops_nil ?_
  iterate 2 refine z ?_
  refine ok_region ?_
  iterate 4 refine z ?_
  refine ⟨j + 1, ?_, ?_, weak_sub ⟨rfl, (eqSlotI (by omega)), rfl, rfl, trivial⟩ trivial ⟨(congrArg (fun cs => some (some (KC.mk true 93 7 x.length cs))) (mk_close (by omega) (by rfl))), trivial⟩ rfl⟩
  ·omega
  ·omega
 ·skip
  have d1 := of_decide_eq_false c1
  iterate 9 refine z ?_
  refine ok_weak (σ' := ⟨[(4, .one (.dv [] (.int .i64 (k + (wSum cOp (x.take j) : Int)))))], [], [(0, some (kcOf true (opsD (mkL mkOp cOp x k))))]⟩) (weak_sub ⟨rfl, trivial⟩ trivial ⟨(mk_fin (by omega)), trivial⟩ rfl) ?_
  refine z ?_
  refine fin1 (res_tmp rfl) ⟨eqI ?_, w1_ok rfl⟩
  have hq := wSum_all cOp x j (by omega); omega
theorem ok_laws_heldOpS {x y : List (OpT)} {k : Int} (hy : y = mkL mkOp cOp x k) (h0 : 0 ≤ k) (h1 : k + (wSum cOp x : Int) ≤ 4611686018427387904) : PFn Tryz.prog 62 [.one (.dv [] (opsD (y))), .one (.dv [] (.int .i64 (k)))] (.one (.dv [] (.int .i64 (k + (wSum cOp x : Int))))) := by
 refine ⟨fn_intro Tryz.func62 rfl Tryz.ntmps62 Tryz.results62 rfl (fun C => ?_)⟩
 refine ok_fact (x := .tmp 0) (ev_tmp rfl) fun f0 => ?_
 refine ok_fact (x := .tmp 1) (ev_tmp rfl) fun f1 => ?_
 iterate 8 refine z ?_
 refine ok_loop (ι := Nat) (fun zz => ⟨[(0, .one (.dv [] (opsD (y)))), (1, .one (.dv [] (.int .i64 (k + (wSum cOp (x.take zz) : Int))))), (5, .one (.dv [] (.int .i64 ((zz : Int)))))], [], []⟩) (fun zz => zz ≤ x.length) (fun zz => x.length - zz) (0) ?_ (weak_sub ⟨rfl, (eqSlotI (by simp [wSum])), rfl, trivial⟩ trivial trivial rfl) (fun zz hx => ?_)
 ·exact Nat.zero_le _
 obtain ⟨j, rfl⟩ : ∃ v, v = zz := ⟨_, rfl⟩
 replace hx : j ≤ x.length := hx
 have hw := fun h => wSum_succ cOp x j h
 have hyl : y.length = x.length := by rw [hy, mkL_len]
 show Ok _ _ _ _ _ (⟨[(0, .one (.dv [] (opsD (y)))), (1, .one (.dv [] (.int .i64 (k + (wSum cOp (x.take j) : Int))))), (5, .one (.dv [] (.int .i64 ((j : Int)))))], [], []⟩ : St)
 iterate 7 refine z ?_
 refine yQ rfl (fun c1 => ?_) fun c1 => ?_
 ·skip
  have d1 := of_decide_eq_true c1
  have hj : j < x.length := by omega
  obtain ⟨hw1, hw2⟩ := hw hj
  have hc : cOp (x.getD (j : Int).toNat default) = 6 + wSum cField ((x.getD (j : Int).toNat default).2.2.2.1) := rfl
  have he : y.getD (j : Int).toNat default = mkOp (x.getD (j : Int).toNat default) (k + (wSum cOp (x.take j) : Int)) := by rw [hy]; exact mkL_getD hj
  iterate 14 refine z ?_
  refine yQ rfl (fun c2 => ?_) fun c2 => ?_
  ·skip
   have d2 := nd_t c2
   iterate 11 refine z ?_
   exfalso; rw [he] at c2; simp [mkOp, sEq] at c2
  ·skip
   have d2 := nd_f c2
   iterate 7 refine z ?_
   refine ok_seq ?_
   refine ok_seq ?_
   refine ok_regionD (oB := []) (oK := []) (by kernel_rfl) rfl rfl ?_
   refine zD 0 ?_
   refine zD 1 ?_
   refine zD 2 ?_
   refine zD 3 ?_
   refine zD 4 ?_
   refine zD 5 ?_
   refine d_call 6 rfl (by kernel_rfl) rfl rfl rfl Tryz.call59 (ok_laws_markText (by omega)) (as_cons (ev_tmp rfl) (ag_one ac_dv) as_nil) rfl rfl rfl rfl ?_
   refine zD 7 ?_
   refine d_done (by kernel_rfl) ?_
   refine z ?_
   refine yQ rfl (fun c3 => ?_) fun c3 => ?_
   ·skip
    iterate 11 refine z ?_
    exfalso; rw [he] at c3; simp [mkOp, sEq] at c3
   ·skip
    iterate 18 refine z ?_
    refine yQ rfl (fun c4 => ?_) fun c4 => ?_
    ·skip
     have d4 := nd_t c4
     iterate 11 refine z ?_
     exfalso; rw [he] at c4; simp [mkOp, sEq] at c4
    ·skip
     have d4 := nd_f c4
     iterate 18 refine z ?_
     refine yQ rfl (fun c5 => ?_) fun c5 => ?_
     ·skip
      have d5 := nd_t c5
      iterate 11 refine z ?_
      exfalso; rw [he] at c5; simp [mkOp, sEq] at c5
     ·skip
      have d5 := nd_f c5
      iterate 7 refine z ?_
      refine ok_seq ?_
      refine ok_seq ?_
      refine ok_regionD (oB := []) (oK := []) (by kernel_rfl) rfl rfl ?_
      refine zD 0 ?_
      refine zD 1 ?_
      refine zD 2 ?_
      refine zD 3 ?_
      refine zD 4 ?_
      refine zD 5 ?_
      refine zD 6 ?_
      refine d_call 7 rfl (by kernel_rfl) rfl rfl rfl Tryz.call59 (ok_laws_markText (by omega)) (as_cons (ev_tmp rfl) (ag_one ac_dv) as_nil) rfl rfl rfl rfl ?_
      refine zD 8 ?_
      refine d_done (by kernel_rfl) ?_
      refine z ?_
      refine yQ rfl (fun c6 => ?_) fun c6 => ?_
      ·skip
       iterate 11 refine z ?_
       exfalso; rw [he] at c6; simp [mkOp, sEq] at c6
      ·skip
       iterate 15 refine z ?_
       refine zC Tryz.call78 ?_ (hf := ok_laws_heldFieldS (x := (x.getD (j : Int).toNat default).2.2.2.1) (by rw [he]; rfl) (by omega) (by omega))
       iterate 7 refine z ?_
       refine yQ rfl (fun c7 => ?_) fun c7 => ?_
       ·skip
        have d7 := of_decide_eq_true c7
        iterate 11 refine z ?_
        exfalso; omega
       ·skip
        have d7 := of_decide_eq_false c7
        iterate 2 refine z ?_
        refine ok_seq ?_
        refine ok_seq ?_
        refine ok_regionD (oB := []) (oK := []) (by kernel_rfl) rfl rfl ?_
        refine zD 0 ?_
        refine zD 1 ?_
        refine zD 2 ?_
        refine zD 3 ?_
        refine zD 4 ?_
        refine zD 5 ?_
        refine d_call 6 rfl (by kernel_rfl) rfl rfl rfl Tryz.call59 (ok_laws_markText (by omega)) (as_cons (ev_tmp rfl) (ag_one ac_dv) as_nil) rfl rfl rfl rfl ?_
        refine zD 7 ?_
        refine d_done (by kernel_rfl) ?_
        refine z ?_
        refine yQ rfl (fun c8 => ?_) fun c8 => ?_
        ·skip
         iterate 11 refine z ?_
         exfalso; rw [he] at c8; simp [mkOp, sEq] at c8
        ·skip
         iterate 2 refine z ?_
         refine ok_region ?_
         iterate 3 refine z ?_
         refine ops_nil ?_
         iterate 2 refine z ?_
         refine ok_region ?_
         iterate 4 refine z ?_
         refine ⟨j + 1, ?_, ?_, weak_sub ⟨rfl, (eqSlotI (by omega)), rfl, trivial⟩ trivial trivial rfl⟩
         ·omega
         ·omega
 ·skip
  have d1 := of_decide_eq_false c1
  iterate 11 refine z ?_
  have hq := wSum_all cOp x j (by omega); omega
end Go.Proofs.YtcgmpjedhbhplaaGreat

namespace Go.Proofs.YtcgmpjedhbhplaaGreat
open Go.RowKit
open Go.Proofs
set_option linter.unusedVariables false
set_option linter.unusedSimpArgs false
def mkIndexDef (x : DefT) (k : Int) : DefT := (mText (k), mText ((k) + (1)))
def cIndexDef (x : DefT) : Nat := 2
theorem cIndexDef_le (x : DefT) : cIndexDef x ≤ 8 * (1 + wIndexDef x) := by
 simp only [cIndexDef]
 omega
def mkTx (x : TxT) (k : Int) : TxT := (k, mkL mkOp cOp (x.2.1) ((k) + (1)), ((k) + (1)) + (wSum cOp (x.2.1) : Int), (((k) + (1)) + (wSum cOp (x.2.1) : Int)) + (1), mkL mkStore cStore (x.2.2.2.2) (((((k) + (1)) + (wSum cOp (x.2.1) : Int)) + (1)) + (1)))
def cTx (x : TxT) : Nat := 3 + wSum cOp (x.2.1) + wSum cStore (x.2.2.2.2)
theorem cTx_le (x : TxT) : cTx x ≤ 8 * (1 + wTx x) := by
 have h1 := wSum_bound cOp_le (x.2.1)
 have h4 := wSum_bound cStore_le (x.2.2.2.2)
 simp only [cTx, wTx]
 omega
def mvTxQueue (x : List TxT) (k : Int) : List TxT := mkL mkTx cTx (x) (k)
theorem ok_laws_markIndexDefS {x : List (DefT)} {k : Int} (h0 : 0 ≤ k) (h1 : k + (wSum cIndexDef x : Int) ≤ 4611686018427387904) : WFn Tryz.prog 35 [.one (.key 0), .one (.dv [] (.int .i64 (k)))] (.one (.dv [] (.int .i64 (k + (wSum cIndexDef x : Int))))) [(0, kcOf true (.sl 98 2 (x.length) (x.flatMap eDef)))] [(0, kcOf true (defsD (mkL mkIndexDef cIndexDef x k)))] := by
 refine ⟨fn_intro Tryz.func35 rfl Tryz.ntmps35 Tryz.results35 rfl (fun C => ?_)⟩
 have hln : x.length ≤ wSum cIndexDef x := wSum_ge (fun _ => by simp only [cIndexDef]; omega) x
 refine ok_fact (x := .tmp 1) (ev_tmp rfl) fun f1 => ?_
 iterate 8 refine z ?_
 refine ok_loop (ι := Nat) (fun zz => ⟨[(0, .one (.key 0)), (1, .one (.dv [] (.int .i64 (k + (wSum cIndexDef (x.take zz) : Int))))), (4, .one (.dv [] (.int .i64 (0)))), (5, .one (.dv [] (.int .i64 ((zz : Int)))))], [], [(0, some ⟨true, 98, 2, x.length, (mkL mkIndexDef cIndexDef (x.take zz) k).flatMap eDef ++ (x.drop zz).flatMap eDef⟩)]⟩) (fun zz => zz ≤ x.length) (fun zz => x.length - zz) (0) ?_ (weak_sub ⟨rfl, (eqSlotI (by simp [wSum])), rfl, rfl, trivial⟩ trivial ⟨rfl, trivial⟩ rfl) (fun zz hx => ?_)
 ·exact Nat.zero_le _
 obtain ⟨j, rfl⟩ : ∃ v, v = zz := ⟨_, rfl⟩
 replace hx : j ≤ x.length := hx
 have hw := fun h => wSum_succ cIndexDef x j h
 show Ok _ _ _ _ _ (⟨[(0, .one (.key 0)), (1, .one (.dv [] (.int .i64 (k + (wSum cIndexDef (x.take j) : Int))))), (4, .one (.dv [] (.int .i64 (0)))), (5, .one (.dv [] (.int .i64 ((j : Int)))))], [], [(0, some ⟨true, 98, 2, x.length, (mkL mkIndexDef cIndexDef (x.take j) k).flatMap eDef ++ (x.drop j).flatMap eDef⟩)]⟩ : St)
 iterate 4 refine z ?_
 refine yO rfl rfl (pu_lenKn (n := (x.length)) hT rfl rfl (ev_tmp rfl) rfl rfl) rfl ?_
 iterate 2 refine z ?_
 refine yQ rfl (fun c1 => ?_) fun c1 => ?_
 ·skip
  have d1 := of_decide_eq_true c1
  have hj : j < x.length := by omega
  obtain ⟨hw1, hw2⟩ := hw hj
  have hc : cIndexDef (x.getD (j : Int).toNat default) = 2 := rfl
  refine ok_kcs (k := 0) (cs' := mid ((mkL mkIndexDef cIndexDef (x.take j) k).flatMap eDef) [.str ((x.getD (j : Int).toNat default).1), .str ((x.getD (j : Int).toNat default).2)] ((x.drop (j + 1)).flatMap eDef)) rfl (mk_open hj) ?_
  iterate 8 refine z ?_
  refine zC Tryz.call59 ?_ (hf := ok_laws_markText (by omega))
  refine yO rfl rfl (pu_indexK (i := j) hT rfl rfl rfl (ev_tmp rfl) rfl (ev_tmp rfl) rfl (by show _ < (x.length); omega)) rfl ?_
  refine z ?_
  refine o_storeE (js := []) (cs := mid ((mkL mkIndexDef cIndexDef (x.take j) k).flatMap eDef) [.str (mText (k + (wSum cIndexDef (x.take j) : Int))), .str ((x.getD (j : Int).toNat default).2)] ((x.drop (j + 1)).flatMap eDef)) hT rfl rfl rfl rfl (ev_tmp rfl) (ev_tmp rfl) rfl rfl rfl rfl (ow_cons' (ow_dv rfl) ow_nil rfl) (by decide) (by decide) rfl (le_mid (off := (j * 2 + 0)) (n := 1) (j := 0) (mk_pre (sz := 2) (fun _ => rfl) (Nat.le_of_lt hj)) (by omega) (Nat.le_of_ble_eq_true rfl)) (setR_mid (off := (j * 2 + 0)) (j := 0) (mk_pre (sz := 2) (fun _ => rfl) (Nat.le_of_lt hj)) (by omega) rfl (Nat.le_of_ble_eq_true rfl)) ?_
  simp only [killT, killB, SV.kill, CV.kill, kk, Nat.reduceBEq]
  iterate 10 refine z ?_
  refine zC Tryz.call59 ?_ (hf := ok_laws_markText (by omega))
  refine yO rfl rfl (pu_indexK (i := j) hT rfl rfl rfl (ev_tmp rfl) rfl (ev_tmp rfl) rfl (by show _ < (x.length); omega)) rfl ?_
  refine z ?_
  refine o_storeE (js := []) (cs := mid ((mkL mkIndexDef cIndexDef (x.take j) k).flatMap eDef) [.str (mText (k + (wSum cIndexDef (x.take j) : Int))), .str (mText ((k + (wSum cIndexDef (x.take j) : Int)) + (1)))] ((x.drop (j + 1)).flatMap eDef)) hT rfl rfl rfl rfl (ev_tmp rfl) (ev_tmp rfl) rfl rfl rfl rfl (ow_cons' (ow_dv rfl) ow_nil rfl) (by decide) (by decide) rfl (le_mid (off := (j * 2 + 1)) (n := 1) (j := 1) (mk_pre (sz := 2) (fun _ => rfl) (Nat.le_of_lt hj)) (by omega) (Nat.le_of_ble_eq_true rfl)) (setR_mid (off := (j * 2 + 1)) (j := 1) (mk_pre (sz := 2) (fun _ => rfl) (Nat.le_of_lt hj)) (by omega) rfl (Nat.le_of_ble_eq_true rfl)) ?_
  simp only [killT, killB, SV.kill, CV.kill, kk, Nat.reduceBEq]
  refine z ?_
  refine ok_region ?_
  iterate 3 refine z ?_
  refine ops_nil ?_
  iterate 2 refine z ?_
  refine ok_region ?_
  iterate 4 refine z ?_
  refine ⟨j + 1, ?_, ?_, weak_sub ⟨rfl, (eqSlotI (by omega)), rfl, rfl, trivial⟩ trivial ⟨(congrArg (fun cs => some (some (KC.mk true 98 2 x.length cs))) (mk_close (by omega) (by rfl))), trivial⟩ rfl⟩
  ·omega
  ·omega
 ·skip
  have d1 := of_decide_eq_false c1
  iterate 9 refine z ?_
  refine ok_weak (σ' := ⟨[(4, .one (.dv [] (.int .i64 (k + (wSum cIndexDef (x.take j) : Int)))))], [], [(0, some (kcOf true (defsD (mkL mkIndexDef cIndexDef x k))))]⟩) (weak_sub ⟨rfl, trivial⟩ trivial ⟨(mk_fin (by omega)), trivial⟩ rfl) ?_
  refine z ?_
  refine fin1 (res_tmp rfl) ⟨eqI ?_, w1_ok rfl⟩
  have hq := wSum_all cIndexDef x j (by omega); omega
theorem ok_laws_markTxS {x : List (TxT)} {k : Int} (h0 : 0 ≤ k) (h1 : k + (wSum cTx x : Int) ≤ 4611686018427387904) : WFn Tryz.prog 36 [.one (.key 0), .one (.dv [] (.int .i64 (k)))] (.one (.dv [] (.int .i64 (k + (wSum cTx x : Int))))) [(0, kcOf true (.sl 54 5 (x.length) (x.flatMap eTx)))] [(0, kcOf true (txsD (mkL mkTx cTx x k)))] := by
 refine ⟨fn_intro Tryz.func36 rfl Tryz.ntmps36 Tryz.results36 rfl (fun C => ?_)⟩
 have hln : x.length ≤ wSum cTx x := wSum_ge (fun _ => by simp only [cTx]; omega) x
 refine ok_fact (x := .tmp 1) (ev_tmp rfl) fun f1 => ?_
 iterate 8 refine z ?_
 refine ok_loop (ι := Nat) (fun zz => ⟨[(0, .one (.key 0)), (1, .one (.dv [] (.int .i64 (k + (wSum cTx (x.take zz) : Int))))), (4, .one (.dv [] (.int .i64 (0)))), (5, .one (.dv [] (.int .i64 ((zz : Int)))))], [], [(0, some ⟨true, 54, 5, x.length, (mkL mkTx cTx (x.take zz) k).flatMap eTx ++ (x.drop zz).flatMap eTx⟩)]⟩) (fun zz => zz ≤ x.length) (fun zz => x.length - zz) (0) ?_ (weak_sub ⟨rfl, (eqSlotI (by simp [wSum])), rfl, rfl, trivial⟩ trivial ⟨rfl, trivial⟩ rfl) (fun zz hx => ?_)
 ·exact Nat.zero_le _
 obtain ⟨j, rfl⟩ : ∃ v, v = zz := ⟨_, rfl⟩
 replace hx : j ≤ x.length := hx
 have hw := fun h => wSum_succ cTx x j h
 show Ok _ _ _ _ _ (⟨[(0, .one (.key 0)), (1, .one (.dv [] (.int .i64 (k + (wSum cTx (x.take j) : Int))))), (4, .one (.dv [] (.int .i64 (0)))), (5, .one (.dv [] (.int .i64 ((j : Int)))))], [], [(0, some ⟨true, 54, 5, x.length, (mkL mkTx cTx (x.take j) k).flatMap eTx ++ (x.drop j).flatMap eTx⟩)]⟩ : St)
 iterate 4 refine z ?_
 refine yO rfl rfl (pu_lenKn (n := (x.length)) hT rfl rfl (ev_tmp rfl) rfl rfl) rfl ?_
 iterate 2 refine z ?_
 refine yQ rfl (fun c1 => ?_) fun c1 => ?_
 ·skip
  have d1 := of_decide_eq_true c1
  have hj : j < x.length := by omega
  obtain ⟨hw1, hw2⟩ := hw hj
  have hc : cTx (x.getD (j : Int).toNat default) = 3 + wSum cOp ((x.getD (j : Int).toNat default).2.1) + wSum cStore ((x.getD (j : Int).toNat default).2.2.2.2) := rfl
  refine ok_kcs (k := 0) (cs' := mid ((mkL mkTx cTx (x.take j) k).flatMap eTx) [.int .i64 ((x.getD (j : Int).toNat default).1), opsD ((x.getD (j : Int).toNat default).2.1), .int .i64 ((x.getD (j : Int).toNat default).2.2.1), .int .i64 ((x.getD (j : Int).toNat default).2.2.2.1), storesD ((x.getD (j : Int).toNat default).2.2.2.2)] ((x.drop (j + 1)).flatMap eTx)) rfl (mk_open hj) ?_
  iterate 8 refine z ?_
  refine yO rfl rfl (pu_indexK (i := j) hT rfl rfl rfl (ev_tmp rfl) rfl (ev_tmp rfl) rfl (by show _ < (x.length); omega)) rfl ?_
  refine z ?_
  refine o_storeE (js := []) (cs := mid ((mkL mkTx cTx (x.take j) k).flatMap eTx) [.int .i64 (k + (wSum cTx (x.take j) : Int)), opsD ((x.getD (j : Int).toNat default).2.1), .int .i64 ((x.getD (j : Int).toNat default).2.2.1), .int .i64 ((x.getD (j : Int).toNat default).2.2.2.1), storesD ((x.getD (j : Int).toNat default).2.2.2.2)] ((x.drop (j + 1)).flatMap eTx)) hT rfl rfl rfl rfl (ev_tmp rfl) (ev_tmp rfl) rfl rfl rfl rfl (ow_cons' (ow_dv rfl) ow_nil rfl) (by decide) (by decide) rfl (le_mid (off := (j * 5 + 0)) (n := 1) (j := 0) (mk_pre (sz := 5) (fun _ => rfl) (Nat.le_of_lt hj)) (by omega) (Nat.le_of_ble_eq_true rfl)) (setR_mid (off := (j * 5 + 0)) (j := 0) (mk_pre (sz := 5) (fun _ => rfl) (Nat.le_of_lt hj)) (by omega) rfl (Nat.le_of_ble_eq_true rfl)) ?_
  simp only [killT, killB, SV.kill, CV.kill, kk, Nat.reduceBEq]
  iterate 9 refine z ?_
  refine yO rfl rfl (pu_indexK (i := j) hT rfl rfl rfl (ev_tmp rfl) rfl (ev_tmp rfl) rfl (by show _ < (x.length); omega)) rfl ?_
  refine z ?_
  refine yO rfl rfl (pu_loadE1 hT rfl rfl (ev_tmp rfl) rfl (get_mid (off := (j * 5 + 1)) (j := 1) (mk_pre (sz := 5) (fun _ => rfl) (Nat.le_of_lt hj)) (by omega) rfl)) rfl ?_
  refine z ?_
  refine o_callN (t := 23) (ccs := mid ((mkL mkTx cTx (x.take j) k).flatMap eTx) [.int .i64 (k + (wSum cTx (x.take j) : Int)), opsD (mkL mkOp cOp ((x.getD (j : Int).toNat default).2.1) ((k + (wSum cTx (x.take j) : Int)) + (1))), .int .i64 ((x.getD (j : Int).toNat default).2.2.1), .int .i64 ((x.getD (j : Int).toNat default).2.2.2.1), storesD ((x.getD (j : Int).toNat default).2.2.2.2)] ((x.drop (j + 1)).flatMap eTx)) 5025 rfl rfl rfl Tryz.call61 (ok_laws_markOpS (by omega) (by omega)) rfl rfl (get_mid (off := (j * 5 + 1)) (j := 1) (mk_pre (sz := 5) (fun _ => rfl) (Nat.le_of_lt hj)) (by omega) rfl) rfl (aw_cons (ev_tmp rfl) (aw_one (awc_key rfl)) (aw_cons (ev_tmp rfl) (aw_one (awc_dv rfl)) aw_nil)) rfl rfl (set_mid (off := (j * 5 + 1)) (j := 1) (mk_pre (sz := 5) (fun _ => rfl) (Nat.le_of_lt hj)) (by omega) rfl (Nat.lt_of_lt_of_le (Nat.lt_succ_self _) (Nat.le_of_ble_eq_true rfl))) ?_
  simp only [killT, killB, SV.kill, CV.kill, kk, Nat.reduceBEq]
  iterate 6 refine z ?_
  refine yO rfl rfl (pu_indexK (i := j) hT rfl rfl rfl (ev_tmp rfl) rfl (ev_tmp rfl) rfl (by show _ < (x.length); omega)) rfl ?_
  refine z ?_
  refine o_storeE (js := []) (cs := mid ((mkL mkTx cTx (x.take j) k).flatMap eTx) [.int .i64 (k + (wSum cTx (x.take j) : Int)), opsD (mkL mkOp cOp ((x.getD (j : Int).toNat default).2.1) ((k + (wSum cTx (x.take j) : Int)) + (1))), .int .i64 (((k + (wSum cTx (x.take j) : Int)) + (1)) + (wSum cOp ((x.getD (j : Int).toNat default).2.1) : Int)), .int .i64 ((x.getD (j : Int).toNat default).2.2.2.1), storesD ((x.getD (j : Int).toNat default).2.2.2.2)] ((x.drop (j + 1)).flatMap eTx)) hT rfl rfl rfl rfl (ev_tmp rfl) (ev_tmp rfl) rfl rfl rfl rfl (ow_cons' (ow_dv rfl) ow_nil rfl) (by decide) (by decide) rfl (le_mid (off := (j * 5 + 2)) (n := 1) (j := 2) (mk_pre (sz := 5) (fun _ => rfl) (Nat.le_of_lt hj)) (by omega) (Nat.le_of_ble_eq_true rfl)) (setR_mid (off := (j * 5 + 2)) (j := 2) (mk_pre (sz := 5) (fun _ => rfl) (Nat.le_of_lt hj)) (by omega) rfl (Nat.le_of_ble_eq_true rfl)) ?_
  simp only [killT, killB, SV.kill, CV.kill, kk, Nat.reduceBEq]
  iterate 10 refine z ?_
  refine yO rfl rfl (pu_indexK (i := j) hT rfl rfl rfl (ev_tmp rfl) rfl (ev_tmp rfl) rfl (by show _ < (x.length); omega)) rfl ?_
  refine z ?_
  refine o_storeE (js := []) (cs := mid ((mkL mkTx cTx (x.take j) k).flatMap eTx) [.int .i64 (k + (wSum cTx (x.take j) : Int)), opsD (mkL mkOp cOp ((x.getD (j : Int).toNat default).2.1) ((k + (wSum cTx (x.take j) : Int)) + (1))), .int .i64 (((k + (wSum cTx (x.take j) : Int)) + (1)) + (wSum cOp ((x.getD (j : Int).toNat default).2.1) : Int)), .int .i64 ((((k + (wSum cTx (x.take j) : Int)) + (1)) + (wSum cOp ((x.getD (j : Int).toNat default).2.1) : Int)) + (1)), storesD ((x.getD (j : Int).toNat default).2.2.2.2)] ((x.drop (j + 1)).flatMap eTx)) hT rfl rfl rfl rfl (ev_tmp rfl) (ev_tmp rfl) rfl rfl rfl rfl (ow_cons' (ow_dv rfl) ow_nil rfl) (by decide) (by decide) rfl (le_mid (off := (j * 5 + 3)) (n := 1) (j := 3) (mk_pre (sz := 5) (fun _ => rfl) (Nat.le_of_lt hj)) (by omega) (Nat.le_of_ble_eq_true rfl)) (setR_mid (off := (j * 5 + 3)) (j := 3) (mk_pre (sz := 5) (fun _ => rfl) (Nat.le_of_lt hj)) (by omega) rfl (Nat.le_of_ble_eq_true rfl)) ?_
  simp only [killT, killB, SV.kill, CV.kill, kk, Nat.reduceBEq]
  iterate 6 refine z ?_
  refine ok_region ?_
  iterate 2 refine z ?_
  refine yO rfl rfl (pu_indexK (i := j) hT rfl rfl rfl (ev_tmp rfl) rfl (ev_tmp rfl) rfl (by show _ < (x.length); omega)) rfl ?_
  refine z ?_
  refine yO rfl rfl (pu_loadE1 hT rfl rfl (ev_tmp rfl) rfl (get_mid (off := (j * 5 + 4)) (j := 4) (mk_pre (sz := 5) (fun _ => rfl) (Nat.le_of_lt hj)) (by omega) rfl)) rfl ?_
  refine z ?_
  refine o_callN (t := 44) (ccs := mid ((mkL mkTx cTx (x.take j) k).flatMap eTx) [.int .i64 (k + (wSum cTx (x.take j) : Int)), opsD (mkL mkOp cOp ((x.getD (j : Int).toNat default).2.1) ((k + (wSum cTx (x.take j) : Int)) + (1))), .int .i64 (((k + (wSum cTx (x.take j) : Int)) + (1)) + (wSum cOp ((x.getD (j : Int).toNat default).2.1) : Int)), .int .i64 ((((k + (wSum cTx (x.take j) : Int)) + (1)) + (wSum cOp ((x.getD (j : Int).toNat default).2.1) : Int)) + (1)), storesD (mkL mkStore cStore ((x.getD (j : Int).toNat default).2.2.2.2) (((((k + (wSum cTx (x.take j) : Int)) + (1)) + (wSum cOp ((x.getD (j : Int).toNat default).2.1) : Int)) + (1)) + (1)))] ((x.drop (j + 1)).flatMap eTx)) 5046 rfl rfl rfl Tryz.call34 (ok_laws_markStoreS (by omega) (by omega)) rfl rfl (get_mid (off := (j * 5 + 4)) (j := 4) (mk_pre (sz := 5) (fun _ => rfl) (Nat.le_of_lt hj)) (by omega) rfl) rfl (aw_cons (ev_tmp rfl) (aw_one (awc_key rfl)) (aw_cons (ev_tmp rfl) (aw_one (awc_dv rfl)) aw_nil)) rfl rfl (set_mid (off := (j * 5 + 4)) (j := 4) (mk_pre (sz := 5) (fun _ => rfl) (Nat.le_of_lt hj)) (by omega) rfl (Nat.lt_of_lt_of_le (Nat.lt_succ_self _) (Nat.le_of_ble_eq_true rfl))) ?_
  simp only [killT, killB, SV.kill, CV.kill, kk, Nat.reduceBEq]
  refine z ?_
  refine ops_nil ?_
  iterate 2 refine z ?_
  refine ok_region ?_
  iterate 4 refine z ?_
  refine ⟨j + 1, ?_, ?_, weak_sub ⟨rfl, (eqSlotI (by omega)), rfl, rfl, trivial⟩ trivial ⟨(congrArg (fun cs => some (some (KC.mk true 54 5 x.length cs))) (mk_close (by omega) (by rfl))), trivial⟩ rfl⟩
  ·omega
  ·omega
 ·skip
  have d1 := of_decide_eq_false c1
  iterate 9 refine z ?_
  refine ok_weak (σ' := ⟨[(4, .one (.dv [] (.int .i64 (k + (wSum cTx (x.take j) : Int)))))], [], [(0, some (kcOf true (txsD (mkL mkTx cTx x k))))]⟩) (weak_sub ⟨rfl, trivial⟩ trivial ⟨(mk_fin (by omega)), trivial⟩ rfl) ?_
  refine z ?_
  refine fin1 (res_tmp rfl) ⟨eqI ?_, w1_ok rfl⟩
  have hq := wSum_all cTx x j (by omega); omega
theorem ok_laws_heldTxS {x y : List (TxT)} {k : Int} (hy : y = mkL mkTx cTx x k) (h0 : 0 ≤ k) (h1 : k + (wSum cTx x : Int) ≤ 4611686018427387904) : PFn Tryz.prog 37 [.one (.dv [] (txsD (y))), .one (.dv [] (.int .i64 (k)))] (.one (.dv [] (.int .i64 (k + (wSum cTx x : Int))))) := by
 refine ⟨fn_intro Tryz.func37 rfl Tryz.ntmps37 Tryz.results37 rfl (fun C => ?_)⟩
 refine ok_fact (x := .tmp 0) (ev_tmp rfl) fun f0 => ?_
 refine ok_fact (x := .tmp 1) (ev_tmp rfl) fun f1 => ?_
 iterate 8 refine z ?_
 refine ok_loop (ι := Nat) (fun zz => ⟨[(0, .one (.dv [] (txsD (y)))), (1, .one (.dv [] (.int .i64 (k + (wSum cTx (x.take zz) : Int))))), (5, .one (.dv [] (.int .i64 ((zz : Int)))))], [], []⟩) (fun zz => zz ≤ x.length) (fun zz => x.length - zz) (0) ?_ (weak_sub ⟨rfl, (eqSlotI (by simp [wSum])), rfl, trivial⟩ trivial trivial rfl) (fun zz hx => ?_)
 ·exact Nat.zero_le _
 obtain ⟨j, rfl⟩ : ∃ v, v = zz := ⟨_, rfl⟩
 replace hx : j ≤ x.length := hx
 have hw := fun h => wSum_succ cTx x j h
 have hyl : y.length = x.length := by rw [hy, mkL_len]
 show Ok _ _ _ _ _ (⟨[(0, .one (.dv [] (txsD (y)))), (1, .one (.dv [] (.int .i64 (k + (wSum cTx (x.take j) : Int))))), (5, .one (.dv [] (.int .i64 ((j : Int)))))], [], []⟩ : St)
 iterate 7 refine z ?_
 refine yQ rfl (fun c1 => ?_) fun c1 => ?_
 ·skip
  have d1 := of_decide_eq_true c1
  have hj : j < x.length := by omega
  obtain ⟨hw1, hw2⟩ := hw hj
  have hc : cTx (x.getD (j : Int).toNat default) = 3 + wSum cOp ((x.getD (j : Int).toNat default).2.1) + wSum cStore ((x.getD (j : Int).toNat default).2.2.2.2) := rfl
  have he : y.getD (j : Int).toNat default = mkTx (x.getD (j : Int).toNat default) (k + (wSum cTx (x.take j) : Int)) := by rw [hy]; exact mkL_getD hj
  iterate 14 refine z ?_
  refine yQ rfl (fun c2 => ?_) fun c2 => ?_
  ·skip
   have d2 := nd_t c2
   iterate 11 refine z ?_
   exfalso; rw [he] at c2; simp [mkTx, sEq] at c2
  ·skip
   have d2 := nd_f c2
   iterate 14 refine z ?_
   refine zC Tryz.call62 ?_ (hf := ok_laws_heldOpS (x := (x.getD (j : Int).toNat default).2.1) (by rw [he]; rfl) (by omega) (by omega))
   iterate 7 refine z ?_
   refine yQ rfl (fun c3 => ?_) fun c3 => ?_
   ·skip
    have d3 := of_decide_eq_true c3
    iterate 11 refine z ?_
    exfalso; omega
   ·skip
    have d3 := of_decide_eq_false c3
    iterate 12 refine z ?_
    refine yQ rfl (fun c4 => ?_) fun c4 => ?_
    ·skip
     have d4 := nd_t c4
     iterate 11 refine z ?_
     exfalso; rw [he] at c4; simp [mkTx, sEq] at c4
    ·skip
     have d4 := nd_f c4
     iterate 17 refine z ?_
     refine yQ rfl (fun c5 => ?_) fun c5 => ?_
     ·skip
      have d5 := nd_t c5
      iterate 11 refine z ?_
      exfalso; rw [he] at c5; simp [mkTx, sEq] at c5
     ·skip
      have d5 := nd_f c5
      iterate 14 refine z ?_
      refine zC Tryz.call63 ?_ (hf := ok_laws_heldStoreS (x := (x.getD (j : Int).toNat default).2.2.2.2) (by rw [he]; rfl) (by omega) (by omega))
      iterate 6 refine z ?_
      refine yQ rfl (fun c6 => ?_) fun c6 => ?_
      ·skip
       have d6 := of_decide_eq_true c6
       iterate 10 refine z ?_
       exfalso; omega
      ·skip
       have d6 := of_decide_eq_false c6
       iterate 3 refine z ?_
       refine ok_region ?_
       iterate 4 refine z ?_
       refine ⟨j + 1, ?_, ?_, weak_sub ⟨rfl, (eqSlotI (by omega)), rfl, trivial⟩ trivial trivial rfl⟩
       ·omega
       ·omega
 ·skip
  have d1 := of_decide_eq_false c1
  iterate 11 refine z ?_
  have hq := wSum_all cTx x j (by omega); omega
theorem ok_laws_markTxQueue {x : List TxT} {k : Int} (h0 : 0 ≤ k) (h1 : (k) + (wSum cTx (x) : Int) ≤ 4611686018427387904) : WFn Tryz.prog 13 [.agg [(.key 0)], .one (.dv [] (.int .i64 (k)))] (.one (.dv [] (.int .i64 ((k) + (wSum cTx (x) : Int))))) [(0, kcOf true (.sl 54 5 ((x).length) ((x).flatMap eTx)))] [(0, kcOf true (txsD (mkL mkTx cTx (x) (k))))] := by
 refine ⟨fn_intro Tryz.func13 rfl Tryz.ntmps13 Tryz.results13 rfl (fun C => ?_)⟩
 refine ok_fact (x := .tmp 1) (ev_tmp rfl) fun f1 => ?_
 iterate 8 refine z ?_
 refine o_callW [(0, 0, ⟨true, _, _, _, _⟩, ⟨true, _, _, _, _⟩)] rfl rfl rfl Tryz.call36 (ok_laws_markTxS (x := x) (by omega) (by omega)) ⟨rfl, trivial⟩ rfl (aw_cons (ev_tmp rfl) (aw_one (awc_key rfl)) (aw_cons (ev_tmp rfl) (aw_one (awc_dv rfl)) aw_nil)) rfl rfl ?_
 simp only [killT, killB, SV.kill, CV.kill, kk, Nat.reduceBEq]
 iterate 6 refine z ?_
 refine ok_weak (σ' := ⟨[(4, .one (.dv [] (.int .i64 ((k) + (wSum cTx (x) : Int)))))], [], [(0, some (kcOf true (txsD (mkL mkTx cTx (x) (k)))))]⟩) (weak_sub ⟨rfl, trivial⟩ trivial ⟨rfl, trivial⟩ rfl) ?_
 refine z ?_
 refine fin1 (res_tmp rfl) ⟨eqI ?_, w1_ok rfl⟩
 rfl
theorem ok_laws_heldTxQueue {x y : List TxT} {k : Int} (hy : y = mvTxQueue x k) (h0 : 0 ≤ k) (h1 : (k) + (wSum cTx (x) : Int) ≤ 4611686018427387904) : PFn Tryz.prog 14 [.agg [(.dv [] (txsD (y)))], .one (.dv [] (.int .i64 (k)))] (.one (.dv [] (.int .i64 ((k) + (wSum cTx (x) : Int))))) := by
 refine ⟨fn_intro Tryz.func14 rfl Tryz.ntmps14 Tryz.results14 rfl (fun C => ?_)⟩
 refine yF 0 0 rfl rfl fun f0_0 => ?_
 refine ok_fact (x := .tmp 1) (ev_tmp rfl) fun f1 => ?_
 iterate 8 refine z ?_
 refine zC Tryz.call37 ?_ (hf := ok_laws_heldTxS (x := x) (by rw [hy]; rfl) (by omega) (by omega))
 iterate 7 refine z ?_
 refine yQ rfl (fun c1 => ?_) fun c1 => ?_
 ·skip
  have d1 := of_decide_eq_true c1
  iterate 6 refine z ?_
  exfalso; omega
 ·skip
  have d1 := of_decide_eq_false c1
  iterate 8 refine z ?_
  rfl
theorem ok_laws_markDatabase {x : DbT} {k : Int} (h0 : 0 ≤ k) (h1 : ((k) + (wSum cStore (x.2.2.1) : Int)) + (wSum cIndexDef (x.2.2.2) : Int) ≤ 4611686018427387904) : WFn Tryz.prog 12 [.agg [(.dv [] (.str (x.1))), (.dv [] (.int .i64 (x.2.1))), (.key 0), (.key 1)], .one (.dv [] (.int .i64 (k)))] (.one (.dv [] (.int .i64 (((k) + (wSum cStore (x.2.2.1) : Int)) + (wSum cIndexDef (x.2.2.2) : Int))))) [(0, kcOf true (.sl 60 3 ((x.2.2.1).length) ((x.2.2.1).flatMap eStore))), (1, kcOf true (.sl 98 2 ((x.2.2.2).length) ((x.2.2.2).flatMap eDef)))] [(0, kcOf true (storesD (mkL mkStore cStore (x.2.2.1) (k)))), (1, kcOf true (defsD (mkL mkIndexDef cIndexDef (x.2.2.2) ((k) + (wSum cStore (x.2.2.1) : Int)))))] := by
 refine ⟨fn_intro Tryz.func12 rfl Tryz.ntmps12 Tryz.results12 rfl (fun C => ?_)⟩
 refine yF 0 0 rfl rfl fun f0_0 => ?_
 refine yF 0 1 rfl rfl fun f0_1 => ?_
 refine ok_fact (x := .tmp 1) (ev_tmp rfl) fun f1 => ?_
 iterate 8 refine z ?_
 refine o_callW [(0, 0, ⟨true, _, _, _, _⟩, ⟨true, _, _, _, _⟩)] rfl rfl rfl Tryz.call34 (ok_laws_markStoreS (x := x.2.2.1) (by omega) (by omega)) ⟨rfl, trivial⟩ rfl (aw_cons (ev_tmp rfl) (aw_one (awc_key rfl)) (aw_cons (ev_tmp rfl) (aw_one (awc_dv rfl)) aw_nil)) rfl rfl ?_
 simp only [killT, killB, SV.kill, CV.kill, kk, Nat.reduceBEq]
 iterate 6 refine z ?_
 refine o_callW [(0, 1, ⟨true, _, _, _, _⟩, ⟨true, _, _, _, _⟩)] rfl rfl rfl Tryz.call35 (ok_laws_markIndexDefS (x := x.2.2.2) (by omega) (by omega)) ⟨rfl, trivial⟩ rfl (aw_cons (ev_tmp rfl) (aw_one (awc_key rfl)) (aw_cons (ev_tmp rfl) (aw_one (awc_dv rfl)) aw_nil)) rfl rfl ?_
 simp only [killT, killB, SV.kill, CV.kill, kk, Nat.reduceBEq]
 iterate 6 refine z ?_
 refine ok_weak (σ' := ⟨[(4, .one (.dv [] (.int .i64 (((k) + (wSum cStore (x.2.2.1) : Int)) + (wSum cIndexDef (x.2.2.2) : Int)))))], [], [(0, some (kcOf true (storesD (mkL mkStore cStore (x.2.2.1) (k))))), (1, some (kcOf true (defsD (mkL mkIndexDef cIndexDef (x.2.2.2) ((k) + (wSum cStore (x.2.2.1) : Int))))))]⟩) (weak_sub ⟨rfl, trivial⟩ trivial ⟨rfl, rfl, trivial⟩ rfl) ?_
 refine z ?_
 refine fin1 (res_tmp rfl) ⟨eqI ?_, w2_ok rfl rfl⟩
 rfl
end Go.Proofs.YtcgmpjedhbhplaaGreat

namespace Go.Proofs.YtcgmpjedhbhplaaGreat
open Go.RowKit
open Go.Proofs
set_option linter.unusedVariables false
set_option linter.unusedSimpArgs false

@[reducible] def fndS (d : DbT) (n : Str) : Int := findI (hasName n) d.2.2.1 0
theorem fndS_lt (d : DbT) (n : Str) : fndS d n < d.2.2.1.length := by
 rcases findI_lt (p := hasName n) d.2.2.1 0 (by omega) with h1 | h1
 ·unfold fndS; omega
 ·unfold fndS; omega
end Go.Proofs.YtcgmpjedhbhplaaGreat

namespace Go.Proofs.YtcgmpjedhbhplaaGreat
open Go.RowKit
open Go.Proofs
set_option linter.unusedVariables false
set_option linter.unusedSimpArgs false

theorem take_csG {α : Type} [Inhabited α] {enc : α → List DV} {xs : List α} {k : Nat} (hk : k < xs.length) : (xs.take k).flatMap enc ++ enc (xs.getD (k : Int).toNat default) = (xs.take (k + 1)).flatMap enc ∧ (xs.take k).length + 1 = (xs.take (k + 1)).length := by
 have e : xs.getD (k : Int).toNat default = xs[k] := by simp [List.getD, List.getElem?_eq_getElem hk]
 rw [List.take_add_one, List.getElem?_eq_getElem hk, e]
 simp only [Option.toList_some, List.flatMap_append, List.flatMap_cons, List.flatMap_nil, List.append_nil, List.length_append, List.length_singleton]
 exact ⟨trivial, trivial⟩
theorem wOp_rec (o : OpT) : o.2.2.2.1.length ≤ wOp o := by unfold wOp wRecord wList; omega

theorem ok_impl_copyOps {x : List OpT} (hb : wList wOp x ≤ 1099511627776) : KFn Tryz.prog 70 [.one (.dv [] (opsD (x)))] (.one (.key 6)) [(6, some (kcOf false (opsD (x))))] := by
 refine ⟨fn_intro Tryz.func70 rfl Tryz.ntmps70 Tryz.results70 rfl (fun C => ?_)⟩
 have hwl : wList wOp x = x.length + wSum wOp x := rfl
 refine ok_fact (x := .tmp 0) (ev_tmp rfl) fun f0 => ?_
 iterate 4 refine z ?_
 refine o_build0 (k := 6) hT rfl rfl rfl rfl rfl rfl rfl rfl ?_
 iterate 9 refine z ?_
 refine ok_loop (ι := Nat) (fun zz => ⟨[(2, .one .nil), (3, .one (.key 6)), (7, .one (.dv [] (opsD (x)))), (8, .one (.dv [] (.int .i64 ((((x)).length : Int))))), (9, .one (.dv [] (.int .i64 ((zz : Int)))))], [], [(6, some (kcOf false (.sl 93 7 ((x.take zz).length) ((x.take zz).flatMap eOp))))]⟩) (fun zz => zz ≤ x.length) (fun zz => x.length - zz) (0) ?_ (weak_sub ⟨rfl, rfl, rfl, rfl, rfl, trivial⟩ trivial ⟨rfl, trivial⟩ rfl) (fun zz hx => ?_)
 ·exact Nat.zero_le _
 obtain ⟨k, rfl⟩ : ∃ v, v = zz := ⟨_, rfl⟩
 replace hx : k ≤ x.length := hx
 have hw := fun h => wSum_succ wOp x k h
 show Ok _ _ _ _ _ (⟨[(2, .one .nil), (3, .one (.key 6)), (7, .one (.dv [] (opsD (x)))), (8, .one (.dv [] (.int .i64 ((((x)).length : Int))))), (9, .one (.dv [] (.int .i64 ((k : Int)))))], [], [(6, some (kcOf false (.sl 93 7 ((x.take k).length) ((x.take k).flatMap eOp))))]⟩ : St)
 iterate 3 refine z ?_
 refine ok_seq ?_
 refine yQ rfl (fun c1 => ?_) fun c1 => ?_
 ·skip
  have d1 := of_decide_eq_true c1
  have hk2 : k < x.length := by omega
  obtain ⟨hw1, hw2⟩ := hw hk2
  have hrec := wOp_rec (x.getD (k : Int).toNat default)
  iterate 13 refine z ?_
  refine zK 697 Tryz.call74 ?_ (hf := ok_impl_copyRecord (x := (((x)).getD ((k : Int)).toNat default).2.2.2.1) (by omega))
  iterate 3 refine z ?_
  refine ok_region ?_
  iterate 2 refine z ?_
  refine o_build1 (k := 19) (js := [700]) hT rfl rfl rfl rfl rfl rfl rfl rfl rfl (ev_tmp rfl) rfl rfl (ow_cons' (ow_dv rfl) (ow_cons' (ow_dv rfl) (ow_cons' (ow_dv rfl) (ow_cons' (ow_dv rfl) (ow_cons' (ow_dv rfl) (ow_cons' (ow_key rfl) (ow_cons' (ow_dv rfl) ow_nil rfl) rfl) rfl) rfl) rfl) rfl) rfl) (by decide) (by decide) rfl rfl ?_
  simp only [killT, killB, SV.kill, CV.kill, kk, Nat.reduceBEq]
  refine o_appK (k := 6) (j := 19) (cs := (x.take (k + 1)).flatMap eOp) (n := (x.take (k + 1)).length) hT rfl rfl rfl rfl rfl rfl rfl (ev_tmp rfl) rfl rfl rfl (ev_tmp rfl) rfl rfl (by decide) (by dsimp only [kcOf]; simp only [List.length_take]; omega) (by dsimp only [kcOf]; simp only [List.length_take]; omega) ((take_csG (enc := eOp) hk2).2) ((take_csG (enc := eOp) hk2).1) ?_
  simp only [killT, killB, SV.kill, CV.kill, kk, Nat.reduceBEq]
  refine z ?_
  refine ops_nil ?_
  iterate 2 refine z ?_
  refine ok_region ?_
  iterate 3 refine z ?_
  refine ⟨k + 1, ?_, ?_, weak_sub ⟨rfl, rfl, rfl, rfl, rfl, trivial⟩ trivial ⟨rfl, trivial⟩ rfl⟩
  ·omega
  ·omega
 ·skip
  have d1 := of_decide_eq_false c1
  iterate 9 refine z ?_
  refine ok_weak (σ' := ⟨[(2, .one (.key 6))], [], [(6, some (kcOf false (opsD (x))))]⟩) (weak_sub ⟨rfl, trivial⟩ trivial ⟨(congrArg (fun l : List (OpT) => some (some (KC.mk false 93 7 l.length (l.flatMap eOp)))) (List.take_of_length_le (by omega))), trivial⟩ rfl) ?_
  refine z ?_
  refine fin1 (res_tmp rfl) ?_
  exact ⟨rfl, rfl⟩
theorem ok_spec_l9Copy {x : List OpT} (hb : wList wOp x ≤ 1099511627776) : KFn Tryz.prog 41 [.one (.dv [] (opsD (x)))] (.one (.key 6)) [(6, some (kcOf false (opsD (x))))] := by
 refine ⟨fn_intro Tryz.func41 rfl Tryz.ntmps41 Tryz.results41 rfl (fun C => ?_)⟩
 have hwl : wList wOp x = x.length + wSum wOp x := rfl
 refine ok_fact (x := .tmp 0) (ev_tmp rfl) fun f0 => ?_
 iterate 4 refine z ?_
 refine o_build0 (k := 6) hT rfl rfl rfl rfl rfl rfl rfl rfl ?_
 iterate 7 refine z ?_
 refine ok_loop (ι := Nat) (fun zz => ⟨[(0, .one (.dv [] (opsD (x)))), (2, .one .nil), (3, .one (.key 6)), (4, .one (.dv [] (.int .i64 ((zz : Int)))))], [], [(6, some (kcOf false (.sl 93 7 ((x.take zz).length) ((x.take zz).flatMap eOp))))]⟩) (fun zz => zz ≤ x.length) (fun zz => x.length - zz) (0) ?_ (weak_sub ⟨rfl, rfl, rfl, rfl, trivial⟩ trivial ⟨rfl, trivial⟩ rfl) (fun zz hx => ?_)
 ·exact Nat.zero_le _
 obtain ⟨k, rfl⟩ : ∃ v, v = zz := ⟨_, rfl⟩
 replace hx : k ≤ x.length := hx
 have hw := fun h => wSum_succ wOp x k h
 show Ok _ _ _ _ _ (⟨[(0, .one (.dv [] (opsD (x)))), (2, .one .nil), (3, .one (.key 6)), (4, .one (.dv [] (.int .i64 ((k : Int)))))], [], [(6, some (kcOf false (.sl 93 7 ((x.take k).length) ((x.take k).flatMap eOp))))]⟩ : St)
 iterate 7 refine z ?_
 refine yQ rfl (fun c1 => ?_) fun c1 => ?_
 ·skip
  have d1 := of_decide_eq_true c1
  have hk2 : k < x.length := by omega
  obtain ⟨hw1, hw2⟩ := hw hk2
  have hrec := wOp_rec (x.getD (k : Int).toNat default)
  iterate 18 refine z ?_
  refine zK 697 Tryz.call66 ?_ (hf := ok_spec_l5Copy (x := (((x)).getD ((k : Int)).toNat default).2.2.2.1) (by omega))
  iterate 3 refine z ?_
  refine ok_region ?_
  iterate 2 refine z ?_
  refine o_build1 (k := 26) (js := [700]) hT rfl rfl rfl rfl rfl rfl rfl rfl rfl (ev_tmp rfl) rfl rfl (ow_cons' (ow_dv rfl) (ow_cons' (ow_dv rfl) (ow_cons' (ow_dv rfl) (ow_cons' (ow_dv rfl) (ow_cons' (ow_dv rfl) (ow_cons' (ow_key rfl) (ow_cons' (ow_dv rfl) ow_nil rfl) rfl) rfl) rfl) rfl) rfl) rfl) (by decide) (by decide) rfl rfl ?_
  simp only [killT, killB, SV.kill, CV.kill, kk, Nat.reduceBEq]
  refine o_appK (k := 6) (j := 26) (cs := (x.take (k + 1)).flatMap eOp) (n := (x.take (k + 1)).length) hT rfl rfl rfl rfl rfl rfl rfl (ev_tmp rfl) rfl rfl rfl (ev_tmp rfl) rfl rfl (by decide) (by dsimp only [kcOf]; simp only [List.length_take]; omega) (by dsimp only [kcOf]; simp only [List.length_take]; omega) ((take_csG (enc := eOp) hk2).2) ((take_csG (enc := eOp) hk2).1) ?_
  simp only [killT, killB, SV.kill, CV.kill, kk, Nat.reduceBEq]
  refine z ?_
  refine ops_nil ?_
  iterate 2 refine z ?_
  refine ok_region ?_
  iterate 4 refine z ?_
  refine ⟨k + 1, ?_, ?_, weak_sub ⟨rfl, rfl, rfl, rfl, trivial⟩ trivial ⟨rfl, trivial⟩ rfl⟩
  ·omega
  ·omega
 ·skip
  have d1 := of_decide_eq_false c1
  iterate 9 refine z ?_
  refine ok_weak (σ' := ⟨[(2, .one (.key 6))], [], [(6, some (kcOf false (opsD (x))))]⟩) (weak_sub ⟨rfl, trivial⟩ trivial ⟨(congrArg (fun l : List (OpT) => some (some (KC.mk false 93 7 l.length (l.flatMap eOp)))) (List.take_of_length_le (by omega))), trivial⟩ rfl) ?_
  refine z ?_
  refine fin1 (res_tmp rfl) ?_
  exact ⟨rfl, rfl⟩
theorem ok_spec_l10Stores {x : List StoreT} (hb : wList wStore x ≤ 1099511627776) : KFn Tryz.prog 42 [.one (.dv [] (storesD (x)))] (.one (.key 5)) [(5, some (kcOf false (storesD (x))))] := by
 refine ⟨fn_intro Tryz.func42 rfl Tryz.ntmps42 Tryz.results42 rfl (fun C => ?_)⟩
 have hwl : wList wStore x = x.length + wSum wStore x := rfl
 refine ok_fact (x := .tmp 0) (ev_tmp rfl) fun f0 => ?_
 iterate 4 refine z ?_
 refine o_build0 (k := 5) hT rfl rfl rfl rfl rfl rfl rfl rfl ?_
 iterate 7 refine z ?_
 refine ok_loop (ι := Nat) (fun zz => ⟨[(0, .one (.dv [] (storesD (x)))), (2, .one .nil), (3, .one (.key 5)), (4, .one (.dv [] (.int .i64 ((zz : Int)))))], [], [(5, some (kcOf false (.sl 60 3 ((x.take zz).length) ((x.take zz).flatMap eStore))))]⟩) (fun zz => zz ≤ x.length) (fun zz => x.length - zz) (0) ?_ (weak_sub ⟨rfl, rfl, rfl, rfl, trivial⟩ trivial ⟨rfl, trivial⟩ rfl) (fun zz hx => ?_)
 ·exact Nat.zero_le _
 obtain ⟨k, rfl⟩ : ∃ v, v = zz := ⟨_, rfl⟩
 replace hx : k ≤ x.length := hx
 have hw := fun h => wSum_succ wStore x k h
 show Ok _ _ _ _ _ (⟨[(0, .one (.dv [] (storesD (x)))), (2, .one .nil), (3, .one (.key 5)), (4, .one (.dv [] (.int .i64 ((k : Int)))))], [], [(5, some (kcOf false (.sl 60 3 ((x.take k).length) ((x.take k).flatMap eStore))))]⟩ : St)
 iterate 7 refine z ?_
 refine yQ rfl (fun c1 => ?_) fun c1 => ?_
 ·skip
  have d1 := of_decide_eq_true c1
  have hk2 : k < x.length := by omega
  obtain ⟨hw1, hw2⟩ := hw hk2
  iterate 4 refine z ?_
  refine ok_region ?_
  iterate 5 refine z ?_
  refine zK 17000 Tryz.call22 ?_ (hf := ok_spec_l6Copy (x := (((x)).getD ((k : Int)).toNat default)) (by omega))
  refine o_build1 (k := 18) (js := [17030]) hT rfl rfl rfl rfl rfl rfl rfl rfl rfl (ev_tmp rfl) rfl rfl (ow_cons' (ow_dv rfl) (ow_cons' (ow_key rfl) (ow_cons' (ow_dv rfl) ow_nil rfl) rfl) rfl) (by decide) (by decide) rfl rfl ?_
  simp only [killT, killB, SV.kill, CV.kill, kk, Nat.reduceBEq]
  refine o_appK (k := 5) (j := 18) (cs := (x.take (k + 1)).flatMap eStore) (n := (x.take (k + 1)).length) hT rfl rfl rfl rfl rfl rfl rfl (ev_tmp rfl) rfl rfl rfl (ev_tmp rfl) rfl rfl (by decide) (by dsimp only [kcOf]; simp only [List.length_take]; omega) (by dsimp only [kcOf]; simp only [List.length_take]; omega) ((take_csG (enc := eStore) hk2).2) ((take_csG (enc := eStore) hk2).1) ?_
  simp only [killT, killB, SV.kill, CV.kill, kk, Nat.reduceBEq]
  refine z ?_
  refine ops_nil ?_
  iterate 2 refine z ?_
  refine ok_region ?_
  iterate 4 refine z ?_
  refine ⟨k + 1, ?_, ?_, weak_sub ⟨rfl, rfl, rfl, rfl, trivial⟩ trivial ⟨rfl, trivial⟩ rfl⟩
  ·omega
  ·omega
 ·skip
  have d1 := of_decide_eq_false c1
  iterate 9 refine z ?_
  refine ok_weak (σ' := ⟨[(2, .one (.key 5))], [], [(5, some (kcOf false (storesD (x))))]⟩) (weak_sub ⟨rfl, trivial⟩ trivial ⟨(congrArg (fun l : List (StoreT) => some (some (KC.mk false 60 3 l.length (l.flatMap eStore)))) (List.take_of_length_le (by omega))), trivial⟩ rfl) ?_
  refine z ?_
  refine fin1 (res_tmp rfl) ?_
  exact ⟨rfl, rfl⟩
theorem ok_impl_copyTx {x : TxT} (hb : wTx x ≤ 1099511627776) : KFn Tryz.prog 49 [.agg [(.dv [] (.int .i64 (x.1))), (.dv [] (opsD (x.2.1))), (.dv [] (.int .i64 (x.2.2.1))), (.dv [] (.int .i64 (x.2.2.2.1))), (.dv [] (storesD (x.2.2.2.2)))]] (.agg [(.dv [] (.int .i64 (x.1))), (.key 800), (.dv [] (.int .i64 (x.2.2.1))), (.dv [] (.int .i64 (x.2.2.2.1))), (.key 31)]) [(800, some (kcOf false (opsD (x.2.1)))), (31, some (kcOf false (storesD (x.2.2.2.2))))] := by
 refine ⟨fn_intro Tryz.func49 rfl Tryz.ntmps49 Tryz.results49 rfl (fun C => ?_)⟩
 have hwt : wTx x = wList wOp x.2.1 + wList wStore x.2.2.2.2 := rfl
 have hwl : wList wStore x.2.2.2.2 = x.2.2.2.2.length + wSum wStore x.2.2.2.2 := rfl
 refine yF 0 0 rfl rfl fun f0_0 => ?_
 refine yF 0 1 rfl rfl fun f0_1 => ?_
 refine yF 0 2 rfl rfl fun f0_2 => ?_
 refine yF 0 3 rfl rfl fun f0_3 => ?_
 refine yF 0 4 rfl rfl fun f0_4 => ?_
 iterate 4 refine z ?_
 refine ok_seq ?_
 refine ok_regionD (oB := [1, 2]) (oK := []) (by kernel_rfl) rfl rfl ?_
 refine zD 0 ?_
 refine zD 1 ?_
 refine zD 2 ?_
 refine zD 3 ?_
 refine zD 5 ?_
 refine zD 6 ?_
 refine zD 7 ?_
 refine zD 8 ?_
 refine d_vars (A := [(10, 3, 54, _)]) hT ⟨⟨_, _, rfl⟩, rfl, trivial⟩ ?_
 refine a_callK 794 4 rfl (by kernel_rfl) rfl rfl rfl (vok hT ⟨⟨_, _, rfl⟩, rfl, trivial⟩ (by kernel_rfl) (by kernel_rfl)) (vok hT ⟨⟨_, _, rfl⟩, rfl, trivial⟩ (by kernel_rfl) (by kernel_rfl)) rfl Tryz.call70 (ok_impl_copyOps (x := x.2.1) (by omega)) (as_cons (ev_tmp rfl) (ag_one ac_dv) as_nil) rfl rfl rfl rfl rfl ?_
 refine a_take 9 rfl (by kernel_rfl) rfl rfl rfl (vok hT ⟨⟨_, _, rfl⟩, rfl, trivial⟩ (by kernel_rfl) (by kernel_rfl)) (vok hT ⟨⟨_, _, rfl⟩, rfl, trivial⟩ (by kernel_rfl) (by kernel_rfl)) (pu_build hT hB rfl rfl rfl (bp_cons (ev_tmp rfl) rfl rfl rfl rfl rfl (bp_cons (ev_tmp rfl) rfl rfl rfl rfl rfl (bp_cons (ev_tmp rfl) rfl rfl rfl rfl rfl (bp_cons (ev_tmp rfl) rfl rfl rfl rfl rfl bp_nil))))) rfl rfl rfl rfl ?_
 refine a_exit1 (vok hT ⟨⟨_, _, rfl⟩, rfl, trivial⟩ (by kernel_rfl) (by kernel_rfl)) rfl rfl (by kernel_rfl) ?_
 dsimp only [addT, addB]
 refine d_last 11 rfl (by kernel_rfl) rfl (by kernel_rfl) (ef_storeBox hT rfl rfl rfl (ev_tmp rfl) (ev_tmp rfl) rfl rfl rfl rfl rfl rfl) (by kernel_rfl) ?_
 refine z ?_
 refine ok_seq ?_
 refine ok_seq ?_
 refine ok_weak (weak_nilB 31 (b := 3) (i := 4) (e := 60) (sz := 3) rfl rfl rfl rfl rfl) ?_
 simp only [killT, killB, SV.kill, CV.kill, kk, Nat.reduceBEq]
 refine ok_region ?_
 iterate 6 refine z ?_
 refine ok_loop (ι := Nat) (fun zz => ⟨[(2, .box 2 0), (3, .box 3 0), (17, .one (.dv [] (storesD (x.2.2.2.2)))), (18, .one (.dv [] (.int .i64 ((((x.2.2.2.2)).length : Int))))), (19, .one (.dv [] (.int .i64 ((zz : Int)))))], [(2, 54, [(.dv [] (.int .i64 (0))), .nil, (.dv [] (.int .i64 (0))), (.dv [] (.int .i64 (0))), .nil]), (3, 54, [(.dv [] (.int .i64 (x.1))), (.key 800), (.dv [] (.int .i64 (x.2.2.1))), (.dv [] (.int .i64 (x.2.2.2.1))), (.key 31)])], [(31, some (kcOf false (.sl 60 3 ((x.2.2.2.2.take zz).length) ((x.2.2.2.2.take zz).flatMap eStore)))), (800, some (kcOf false (opsD ((x.2.1)))))]⟩) (fun zz => zz ≤ x.2.2.2.2.length) (fun zz => x.2.2.2.2.length - zz) (0) ?_ (weak_sub ⟨rfl, rfl, rfl, rfl, rfl, trivial⟩ ⟨rfl, rfl, trivial⟩ ⟨rfl, rfl, trivial⟩ rfl) (fun zz hx => ?_)
 ·exact Nat.zero_le _
 obtain ⟨k, rfl⟩ : ∃ v, v = zz := ⟨_, rfl⟩
 replace hx : k ≤ x.2.2.2.2.length := hx
 have hw := fun h => wSum_succ wStore x.2.2.2.2 k h
 show Ok _ _ _ _ _ (⟨[(2, .box 2 0), (3, .box 3 0), (17, .one (.dv [] (storesD (x.2.2.2.2)))), (18, .one (.dv [] (.int .i64 ((((x.2.2.2.2)).length : Int))))), (19, .one (.dv [] (.int .i64 ((k : Int)))))], [(2, 54, [(.dv [] (.int .i64 (0))), .nil, (.dv [] (.int .i64 (0))), (.dv [] (.int .i64 (0))), .nil]), (3, 54, [(.dv [] (.int .i64 (x.1))), (.key 800), (.dv [] (.int .i64 (x.2.2.1))), (.dv [] (.int .i64 (x.2.2.2.1))), (.key 31)])], [(31, some (kcOf false (.sl 60 3 ((x.2.2.2.2.take k).length) ((x.2.2.2.2.take k).flatMap eStore)))), (800, some (kcOf false (opsD ((x.2.1)))))]⟩ : St)
 iterate 3 refine z ?_
 refine ok_seq ?_
 refine yQ rfl (fun c1 => ?_) fun c1 => ?_
 ·skip
  have d1 := of_decide_eq_true c1
  have hk2 : k < x.2.2.2.2.length := by omega
  obtain ⟨hw1, hw2⟩ := hw hk2
  iterate 10 refine z ?_
  refine ok_regionH [0, 1, 2, 3, 4] (oB := [2, 3, 5]) (oK := [31, 800]) (by kernel_rfl) rfl rfl ?_
  refine zD 0 ?_
  refine zD 1 ?_
  refine zD 2 ?_
  refine d_callK 26000 3 rfl (by kernel_rfl) rfl rfl rfl Tryz.call30 (ok_impl_copyStore (x := (((x.2.2.2.2)).getD ((k : Int)).toNat default)) (by omega)) (as_cons (ev_tmp rfl) (ag_agg (ag_cons ac_dv (ag_cons ac_dv (ag_cons ac_dv ag_nil)))) as_nil) rfl rfl rfl rfl rfl ?_
  refine d_build1 (k := 27) (js := [26030]) 4 hT rfl (by kernel_rfl) rfl rfl rfl rfl rfl rfl rfl rfl rfl (ev_tmp rfl) rfl rfl (ow_cons' (ow_dv rfl) (ow_cons' (ow_key rfl) (ow_cons' (ow_dv rfl) ow_nil rfl) rfl) rfl) (by decide) (by decide) rfl rfl (by decide) ?_
  simp only [killT, killB, SV.kill, CV.kill, kk, Nat.reduceBEq]
  refine d_chain [5, 6, 7] rfl rfl (by kernel_rfl) ?_
  refine o_appK (k := 31) (j := 27) (cs := (x.2.2.2.2.take (k + 1)).flatMap eStore) (n := (x.2.2.2.2.take (k + 1)).length) hT rfl rfl rfl rfl rfl rfl rfl (ev_tmp rfl) rfl rfl rfl (ev_tmp rfl) rfl rfl (by decide) (by dsimp only [kcOf]; simp only [List.length_take]; omega) (by dsimp only [kcOf]; simp only [List.length_take]; omega) ((take_csG (enc := eStore) hk2).2) ((take_csG (enc := eStore) hk2).1) ?_
  simp only [killT, killB, SV.kill, CV.kill, kk, Nat.reduceBEq]
  iterate 2 refine z ?_
  refine ops_nil ?_
  iterate 2 refine z ?_
  refine ok_region ?_
  iterate 3 refine z ?_
  refine ⟨k + 1, ?_, ?_, weak_sub ⟨rfl, rfl, rfl, rfl, rfl, trivial⟩ ⟨rfl, rfl, trivial⟩ ⟨rfl, rfl, trivial⟩ rfl⟩
  ·omega
  ·omega
 ·skip
  have d1 := of_decide_eq_false c1
  iterate 9 refine z ?_
  refine ok_weak (σ' := ⟨[(2, .box 2 0)], [(2, 54, [(.dv [] (.int .i64 (x.1))), (.key 800), (.dv [] (.int .i64 (x.2.2.1))), (.dv [] (.int .i64 (x.2.2.2.1))), (.key 31)])], [(800, some (kcOf false (opsD (x.2.1)))), (31, some (kcOf false (storesD (x.2.2.2.2))))]⟩) (weak_sub ⟨rfl, trivial⟩ ⟨rfl, trivial⟩ ⟨rfl, (congrArg (fun l : List (StoreT) => some (some (KC.mk false 60 3 l.length (l.flatMap eStore)))) (List.take_of_length_le (by omega))), trivial⟩ rfl) ?_
  refine z ?_
  refine fin1 (res_cell hT rfl rfl rfl rfl) ?_
  exact ⟨rfl, rfl⟩
theorem ok_impl_copyQueue {x : List TxT} (hb : wList wTx x ≤ 1099511627776) : KFn Tryz.prog 26 [.agg [(.dv [] (txsD (x)))]] (.agg [(.key 31)]) [(31, some (kcOf false (txsD (x))))] := by
 refine ⟨fn_intro Tryz.func26 rfl Tryz.ntmps26 Tryz.results26 rfl (fun C => ?_)⟩
 have hwl : wList wTx x = x.length + wSum wTx x := rfl
 refine yF 0 0 rfl rfl fun f0_0 => ?_
 iterate 5 refine z ?_
 refine yO rfl rfl (pu_build hT hB rfl rfl rfl bp_nil) rfl ?_
 iterate 3 refine z ?_
 refine ok_seq ?_
 refine ok_seq ?_
 refine ok_weak (weak_nilB 31 (b := 3) (i := 0) (e := 54) (sz := 5) rfl rfl rfl rfl rfl) ?_
 simp only [killT, killB, SV.kill, CV.kill, kk, Nat.reduceBEq]
 refine ok_region ?_
 iterate 6 refine z ?_
 refine ok_loop (ι := Nat) (fun zz => ⟨[(2, .box 2 0), (3, .box 3 0), (8, .one (.dv [] (txsD (x)))), (9, .one (.dv [] (.int .i64 ((((x)).length : Int))))), (10, .one (.dv [] (.int .i64 ((zz : Int)))))], [(2, 33, [.nil]), (3, 33, [(.key 31)])], [(31, some (kcOf false (.sl 54 5 ((x.take zz).length) ((x.take zz).flatMap eTx))))]⟩) (fun zz => zz ≤ x.length) (fun zz => x.length - zz) (0) ?_ (weak_sub ⟨rfl, rfl, rfl, rfl, rfl, trivial⟩ ⟨rfl, rfl, trivial⟩ ⟨rfl, trivial⟩ rfl) (fun zz hx => ?_)
 ·exact Nat.zero_le _
 obtain ⟨k, rfl⟩ : ∃ v, v = zz := ⟨_, rfl⟩
 replace hx : k ≤ x.length := hx
 have hw := fun h => wSum_succ wTx x k h
 show Ok _ _ _ _ _ (⟨[(2, .box 2 0), (3, .box 3 0), (8, .one (.dv [] (txsD (x)))), (9, .one (.dv [] (.int .i64 ((((x)).length : Int))))), (10, .one (.dv [] (.int .i64 ((k : Int)))))], [(2, 33, [.nil]), (3, 33, [(.key 31)])], [(31, some (kcOf false (.sl 54 5 ((x.take k).length) ((x.take k).flatMap eTx))))]⟩ : St)
 iterate 3 refine z ?_
 refine ok_seq ?_
 refine yQ rfl (fun c1 => ?_) fun c1 => ?_
 ·skip
  have d1 := of_decide_eq_true c1
  have hk2 : k < x.length := by omega
  obtain ⟨hw1, hw2⟩ := hw hk2
  iterate 10 refine z ?_
  refine ok_regionH [0, 1, 2, 3, 4] (oB := [2, 3, 5]) (oK := [31]) (by kernel_rfl) rfl rfl ?_
  refine zD 0 ?_
  refine zD 1 ?_
  refine zD 2 ?_
  refine d_callK 17000 3 rfl (by kernel_rfl) rfl rfl rfl Tryz.call49 (ok_impl_copyTx (x := (((x)).getD ((k : Int)).toNat default)) (by omega)) (as_cons (ev_tmp rfl) (ag_agg (ag_cons ac_dv (ag_cons ac_dv (ag_cons ac_dv (ag_cons ac_dv (ag_cons ac_dv ag_nil)))))) as_nil) rfl rfl rfl rfl rfl ?_
  refine d_build1 (k := 18) (js := [17800, 17031]) 4 hT rfl (by kernel_rfl) rfl rfl rfl rfl rfl rfl rfl rfl rfl (ev_tmp rfl) rfl rfl (ow_cons' (ow_dv rfl) (ow_cons' (ow_key rfl) (ow_cons' (ow_dv rfl) (ow_cons' (ow_dv rfl) (ow_cons' (ow_key rfl) ow_nil rfl) rfl) rfl) rfl) rfl) (by decide) (by decide) rfl rfl (by decide) ?_
  simp only [killT, killB, SV.kill, CV.kill, kk, Nat.reduceBEq]
  refine d_chain [5, 6, 7] rfl rfl (by kernel_rfl) ?_
  refine o_appK (k := 31) (j := 18) (cs := (x.take (k + 1)).flatMap eTx) (n := (x.take (k + 1)).length) hT rfl rfl rfl rfl rfl rfl rfl (ev_tmp rfl) rfl rfl rfl (ev_tmp rfl) rfl rfl (by decide) (by dsimp only [kcOf]; simp only [List.length_take]; omega) (by dsimp only [kcOf]; simp only [List.length_take]; omega) ((take_csG (enc := eTx) hk2).2) ((take_csG (enc := eTx) hk2).1) ?_
  simp only [killT, killB, SV.kill, CV.kill, kk, Nat.reduceBEq]
  iterate 2 refine z ?_
  refine ops_nil ?_
  iterate 2 refine z ?_
  refine ok_region ?_
  iterate 3 refine z ?_
  refine ⟨k + 1, ?_, ?_, weak_sub ⟨rfl, rfl, rfl, rfl, rfl, trivial⟩ ⟨rfl, rfl, trivial⟩ ⟨rfl, trivial⟩ rfl⟩
  ·omega
  ·omega
 ·skip
  have d1 := of_decide_eq_false c1
  iterate 9 refine z ?_
  refine ok_weak (σ' := ⟨[(2, .box 2 0)], [(2, 33, [(.key 31)])], [(31, some (kcOf false (txsD (x))))]⟩) (weak_sub ⟨rfl, trivial⟩ ⟨rfl, trivial⟩ ⟨(congrArg (fun l : List (TxT) => some (some (KC.mk false 54 5 l.length (l.flatMap eTx)))) (List.take_of_length_le (by omega))), trivial⟩ rfl) ?_
  refine z ?_
  refine fin1 (res_cell hT rfl rfl rfl rfl) ?_
  exact ⟨rfl, rfl⟩
theorem ok_spec_l10Copy {x : List TxT} (hb : wList wTx x ≤ 1099511627776) : KFn Tryz.prog 18 [.agg [(.dv [] (txsD (x)))]] (.agg [(.key 31)]) [(31, some (kcOf false (txsD (x))))] := by
 refine ⟨fn_intro Tryz.func18 rfl Tryz.ntmps18 Tryz.results18 rfl (fun C => ?_)⟩
 have hwl : wList wTx x = x.length + wSum wTx x := rfl
 refine yF 0 0 rfl rfl fun f0_0 => ?_
 iterate 5 refine z ?_
 refine yO rfl rfl (pu_build hT hB rfl rfl rfl bp_nil) rfl ?_
 iterate 3 refine z ?_
 refine ok_seq ?_
 refine ok_seq ?_
 refine ok_weak (weak_nilB 31 (b := 3) (i := 0) (e := 54) (sz := 5) rfl rfl rfl rfl rfl) ?_
 simp only [killT, killB, SV.kill, CV.kill, kk, Nat.reduceBEq]
 refine ok_region ?_
 iterate 3 refine z ?_
 refine ok_loop (ι := Nat) (fun zz => ⟨[(1, .box 1 0), (2, .box 2 0), (3, .box 3 0), (4, .one (.dv [] (.int .i64 ((zz : Int)))))], [(1, 33, [(.dv [] (txsD (x)))]), (2, 33, [.nil]), (3, 33, [(.key 31)])], [(31, some (kcOf false (.sl 54 5 ((x.take zz).length) ((x.take zz).flatMap eTx))))]⟩) (fun zz => zz ≤ x.length) (fun zz => x.length - zz) (0) ?_ (weak_sub ⟨rfl, rfl, rfl, rfl, trivial⟩ ⟨rfl, rfl, rfl, trivial⟩ ⟨rfl, trivial⟩ rfl) (fun zz hx => ?_)
 ·exact Nat.zero_le _
 obtain ⟨k, rfl⟩ : ∃ v, v = zz := ⟨_, rfl⟩
 replace hx : k ≤ x.length := hx
 have hw := fun h => wSum_succ wTx x k h
 show Ok _ _ _ _ _ (⟨[(1, .box 1 0), (2, .box 2 0), (3, .box 3 0), (4, .one (.dv [] (.int .i64 ((k : Int)))))], [(1, 33, [(.dv [] (txsD (x)))]), (2, 33, [.nil]), (3, 33, [(.key 31)])], [(31, some (kcOf false (.sl 54 5 ((x.take k).length) ((x.take k).flatMap eTx))))]⟩ : St)
 iterate 8 refine z ?_
 refine yQ rfl (fun c1 => ?_) fun c1 => ?_
 ·skip
  have d1 := of_decide_eq_true c1
  have hk2 : k < x.length := by omega
  obtain ⟨hw1, hw2⟩ := hw hk2
  have hwt : wTx (x.getD (k : Int).toNat default) = wList wOp (x.getD (k : Int).toNat default).2.1 + wList wStore (x.getD (k : Int).toNat default).2.2.2.2 := rfl
  iterate 20 refine z ?_
  refine zK 25000 Tryz.call41 ?_ (hf := ok_spec_l9Copy (x := (((x)).getD ((k : Int)).toNat default).2.1) (by omega))
  iterate 10 refine z ?_
  refine zK 33000 Tryz.call42 ?_ (hf := ok_spec_l10Stores (x := (((x)).getD ((k : Int)).toNat default).2.2.2.2) (by omega))
  iterate 3 refine z ?_
  refine ok_region ?_
  iterate 3 refine z ?_
  refine o_build1 (k := 38) (js := [25006, 33005]) hT rfl rfl rfl rfl rfl rfl rfl rfl rfl (ev_tmp rfl) rfl rfl (ow_cons' (ow_dv rfl) (ow_cons' (ow_key rfl) (ow_cons' (ow_dv rfl) (ow_cons' (ow_dv rfl) (ow_cons' (ow_key rfl) ow_nil rfl) rfl) rfl) rfl) rfl) (by decide) (by decide) rfl rfl ?_
  simp only [killT, killB, SV.kill, CV.kill, kk, Nat.reduceBEq]
  refine o_appK (k := 31) (j := 38) (cs := (x.take (k + 1)).flatMap eTx) (n := (x.take (k + 1)).length) hT rfl rfl rfl rfl rfl rfl rfl (ev_tmp rfl) rfl rfl rfl (ev_tmp rfl) rfl rfl (by decide) (by dsimp only [kcOf]; simp only [List.length_take]; omega) (by dsimp only [kcOf]; simp only [List.length_take]; omega) ((take_csG (enc := eTx) hk2).2) ((take_csG (enc := eTx) hk2).1) ?_
  simp only [killT, killB, SV.kill, CV.kill, kk, Nat.reduceBEq]
  iterate 2 refine z ?_
  refine ops_nil ?_
  iterate 2 refine z ?_
  refine ok_region ?_
  iterate 4 refine z ?_
  refine ⟨k + 1, ?_, ?_, weak_sub ⟨rfl, rfl, rfl, rfl, trivial⟩ ⟨rfl, rfl, rfl, trivial⟩ ⟨rfl, trivial⟩ rfl⟩
  ·omega
  ·omega
 ·skip
  have d1 := of_decide_eq_false c1
  iterate 9 refine z ?_
  refine ok_weak (σ' := ⟨[(2, .box 2 0)], [(2, 33, [(.key 31)])], [(31, some (kcOf false (txsD (x))))]⟩) (weak_sub ⟨rfl, trivial⟩ ⟨rfl, trivial⟩ ⟨(congrArg (fun l : List (TxT) => some (some (KC.mk false 54 5 l.length (l.flatMap eTx)))) (List.take_of_length_le (by omega))), trivial⟩ rfl) ?_
  refine z ?_
  refine fin1 (res_cell hT rfl rfl rfl rfl) ?_
  exact ⟨rfl, rfl⟩
end Go.Proofs.YtcgmpjedhbhplaaGreat

namespace Go.Proofs.YtcgmpjedhbhplaaGreat
open Go.RowKit
open Go.Proofs
set_option linter.unusedVariables false
set_option linter.unusedSimpArgs false

section
variable {α : Type} {enc : α → List DV} {sz : Nat} {q : α → Bool} {x : List α}
theorem fl_len (hs : ∀ y, (enc y).length = sz) : ∀ xs : List α, (xs.flatMap enc).length = xs.length * sz
 | [] => by simp
 | y :: xs => by rw [List.flatMap_cons, List.length_append, fl_len hs xs, hs, List.length_cons, Nat.add_mul, Nat.one_mul, Nat.add_comm]
end
end Go.Proofs.YtcgmpjedhbhplaaGreat

namespace Go.Proofs.YtcgmpjedhbhplaaGreat
open Go.RowKit
open Go.Proofs
set_option linter.unusedVariables false
set_option linter.unusedSimpArgs false

theorem bl_irr : ∀ x : List UInt8, Op.bytesLess x x = false
 | [] => rfl
 | a :: x => by simp [Op.bytesLess, bl_irr x]
theorem bl_trans : ∀ x y z : List UInt8, Op.bytesLess x y = true → Op.bytesLess y z = true → Op.bytesLess x z = true
 | x, [], z, h, _ => by cases x <;> simp [Op.bytesLess] at h
 | x, b :: y, [], _, h => by simp [Op.bytesLess] at h
 | [], b :: y, c :: z, _, _ => rfl
 | a :: x, b :: y, c :: z, h1, h2 => by
  simp only [Op.bytesLess, Bool.or_eq_true, decide_eq_true_eq, Bool.and_eq_true, beq_iff_eq] at h1 h2 ⊢
  rcases h1 with h1 | ⟨rfl, h1⟩
  ·rcases h2 with h2 | ⟨rfl, h2⟩
   ·exact .inl (UInt8.lt_trans h1 h2)
   ·exact .inl h1
  ·rcases h2 with h2 | ⟨rfl, h2⟩
   ·exact .inl h2
   ·exact .inr ⟨rfl, bl_trans x y z h1 h2⟩
end Go.Proofs.YtcgmpjedhbhplaaGreat

namespace Go.Proofs.YtcgmpjedhbhplaaGreat
open Go.RowKit
open Go.Proofs
set_option linter.unusedVariables false
set_option linter.unusedSimpArgs false

section
variable {α : Type} {enc : α → List DV} {sz : Nat} {xs : List α} {n : Nat}
theorem flat_pre (hs : ∀ y, (enc y).length = sz) (h : n ≤ xs.length) : ((xs.take n).flatMap enc).length = n * sz := by rw [fl_len hs, List.length_take, Nat.min_eq_left h]
theorem flat_set (h : n < xs.length) (y : α) : mid ((xs.take n).flatMap enc) (enc y) ((xs.drop (n + 1)).flatMap enc) = (xs.set n y).flatMap enc := by
 rw [List.set_eq_take_append_cons_drop, if_pos h, List.flatMap_append, List.flatMap_cons]; unfold mid; simp
theorem flat_open [Inhabited α] {t : α} (h : n < xs.length) (ht : t = xs.getD n default) : xs.flatMap enc = mid ((xs.take n).flatMap enc) (enc t) ((xs.drop (n + 1)).flatMap enc) := by
 rw [flat_set h]
 have e : xs.set n t = xs := by
  subst ht
  apply List.ext_getElem?
  intro j
  rw [List.getElem?_set]
  by_cases h' : n = j
  ·subst h'; simp [h, List.getD]
  ·simp [h']
 rw [e]
theorem fin_set {e : Nat} (h : n < xs.length) (y : α) : some (some (KC.mk false e sz xs.length (mid ((xs.take n).flatMap enc) (enc y) ((xs.drop (n + 1)).flatMap enc)))) = some (some (KC.mk false e sz (xs.set n y).length ((xs.set n y).flatMap enc))) := by rw [flat_set h, List.length_set]
end
section
variable {d : DbT} {q : List TxT} {i : Int} {t : TxT}
theorem tx_w (h : i.toNat < q.length) (ht : t = q.getD i.toNat default) : wTx t ≤ wList wTx q := by
 have h1 := (wSum_succ wTx q i.toNat h).1
 have h2 := wSum_le wTx q (i.toNat + 1)
 have h3 : wList wTx q = q.length + wSum wTx q := rfl
 have e : q.getD ((i.toNat : Nat) : Int).toNat default = t := by rw [ht]; congr 1
 rw [e] at h1
 omega
end


end Go.Proofs.YtcgmpjedhbhplaaGreat

namespace Go.Proofs.YtcgmpjedhbhplaaGreat
open Go.RowKit
open Go.Proofs
set_option linter.unusedVariables false
set_option linter.unusedSimpArgs false

def scIns : List Str → Str → List Str
 | [], n => [n]
 | x :: xs, n => if sLt x n then x :: scIns xs n else if sEq x n then x :: xs else n :: x :: xs
def scopeL (l : List OpT) : List Str := l.foldl (fun out o => scIns out o.2.1) []
theorem sEqI {a b : Str} : sEq a b = true ↔ a = b := by
 unfold sEq
 rw [beq_iff_eq]
 constructor
 ·intro h
  rw [toList_data, toList_data] at h
  exact ByteArray.ext (Array.toList_inj.1 h)
 ·intro h; rw [h]
theorem scIns_mem {n m : Str} : ∀ {l : List Str}, m ∈ scIns l n ↔ m = n ∨ m ∈ l
 | [] => by simp [scIns]
 | x :: xs => by
  have ih := scIns_mem (n := n) (m := m) (l := xs)
  rw [scIns]
  split
  ·simp only [List.mem_cons, ih]
   constructor
   ·rintro (h | h | h)
    ·exact .inr (.inl h)
    ·exact .inl h
    ·exact .inr (.inr h)
   ·rintro (h | h | h)
    ·exact .inr (.inl h)
    ·exact .inl h
    ·exact .inr (.inr h)
  ·split
   ·rename_i h1 h2
    have e := sEqI.1 h2
    simp only [List.mem_cons]
    constructor
    ·exact fun h => .inr h
    ·rintro (h | h)
     ·exact .inl (h.trans e.symm)
     ·exact h
   ·simp only [List.mem_cons]
theorem scope_mem {m : Str} (l : List OpT) : m ∈ scopeL l ↔ ∃ o ∈ l, o.2.1 = m := by
 have key : ∀ (l : List OpT) (out : List Str), m ∈ l.foldl (fun out o => scIns out o.2.1) out ↔ (∃ o ∈ l, o.2.1 = m) ∨ m ∈ out := by
  intro l
  induction l with
  | nil => intro out; simp
  | cons o l ih =>
   intro out
   rw [List.foldl_cons, ih, scIns_mem]
   simp only [List.mem_cons]
   constructor
   ·rintro (⟨p, hp, e⟩ | e | h)
    ·exact .inl ⟨p, .inr hp, e⟩
    ·exact .inl ⟨o, .inl rfl, e.symm⟩
    ·exact .inr h
   ·rintro (⟨p, hp | hp, e⟩ | h)
    ·subst hp; exact .inr (.inl e.symm)
    ·exact .inl ⟨p, hp, e⟩
    ·exact .inr (.inr h)
 have := key l []
 simpa [scopeL] using this

def bl (x y : List UInt8) : Prop := Op.bytesLess x y = true
theorem bl_tri (x y : List UInt8) : bl x y ∨ x = y ∨ bl y x := by
 have h := bl_total x y
 unfold bl
 cases h1 : Op.bytesLess x y with
 | true => exact .inl rfl
 | false =>
  cases h2 : Op.bytesLess y x with
  | true => exact .inr (.inr rfl)
  | false =>
   rw [h1, h2] at h
   exact .inr (.inl (by simpa using h))
theorem srt_uniq : ∀ (x y : List (List UInt8)), x.Pairwise bl → y.Pairwise bl → (∀ z, z ∈ x ↔ z ∈ y) → x = y
 | [], [], _, _, _ => rfl
 | [], b :: y, _, _, h => absurd ((h b).2 (by simp)) (by simp)
 | a :: x, [], _, _, h => absurd ((h a).1 (by simp)) (by simp)
 | a :: x, b :: y, hx, hy, h => by
  obtain ⟨hx1, hx2⟩ := List.pairwise_cons.1 hx
  obtain ⟨hy1, hy2⟩ := List.pairwise_cons.1 hy
  have irr : ∀ z, ¬ bl z z := fun z hz => by unfold bl at hz; rw [bl_irr] at hz; cases hz
  have e : a = b := by
   rcases List.mem_cons.1 ((h a).1 (by simp)) with h1 | h1
   ·exact h1
   ·rcases List.mem_cons.1 ((h b).2 (by simp)) with h2 | h2
    ·exact h2.symm
    ·exact absurd (bl_trans _ _ _ (hy1 a h1) (hx1 b h2)) (irr b)
  subst e
  rw [srt_uniq x y hx2 hy2 (fun z => ?_)]
  constructor
  ·intro hz
   rcases List.mem_cons.1 ((h z).1 (by simp [hz])) with h1 | h1
   ·rw [h1] at hz; exact absurd (hx1 a hz) (irr a)
   ·exact h1
  ·intro hz
   rcases List.mem_cons.1 ((h z).2 (by simp [hz])) with h1 | h1
   ·rw [h1] at hz; exact absurd (hy1 a hz) (irr a)
   ·exact h1
theorem comp_up {d : Array (List UInt8)} (hs : ∀ i, i + 1 < d.size → ¬ bl d[i + 1]! d[i]!) : ∀ m, m ≤ d.size → (Lib.compactUpTo d m).Pairwise bl ∧ (∀ z, z ∈ Lib.compactUpTo d m ↔ ∃ j, j < m ∧ z = d[j]!) ∧ (0 < m → ∀ z ∈ Lib.compactUpTo d m, z = d[m - 1]! ∨ bl z d[m - 1]!)
 | 0, _ => ⟨by simp [Lib.compactUpTo], by simp [Lib.compactUpTo], fun h => by omega⟩
 | m + 1, hm => by
  obtain ⟨i1, i2, i3⟩ := comp_up hs m (by omega)
  rw [Lib.compactUpTo_succ, Nat.add_sub_cancel]
  by_cases hk : Lib.keeps d m = true
  ·rw [if_pos hk]
   have hlt : ∀ z ∈ Lib.compactUpTo d m, bl z d[m]! := fun z hz => by
    have hm0 : 0 < m := by
     obtain ⟨j, hj, _⟩ := (i2 z).1 hz; omega
    have hne : d[m]! ≠ d[m - 1]! := by
     unfold Lib.keeps at hk
     rcases of_decide_eq_true hk with h | h
     ·omega
     ·exact h
    have hb : bl d[m - 1]! d[m]! := by
     rcases bl_tri d[m - 1]! d[m]! with h | h | h
     ·exact h
     ·exact absurd h.symm hne
     ·have := hs (m - 1) (by omega)
      rw [show m - 1 + 1 = m by omega] at this
      exact absurd h this
    rcases i3 hm0 z hz with h | h
    ·rw [h]; exact hb
    ·exact bl_trans _ _ _ h hb
   refine ⟨List.pairwise_append.2 ⟨i1, by simp, fun a ha b hb => ?_⟩, fun z => ?_, fun _ z hz => ?_⟩
   ·rw [List.mem_singleton.1 hb]; exact hlt a ha
   ·rw [List.mem_append, i2, List.mem_singleton]
    constructor
    ·rintro (⟨j, hj, e⟩ | e)
     ·exact ⟨j, by omega, e⟩
     ·exact ⟨m, by omega, e⟩
    ·rintro ⟨j, hj, e⟩
     by_cases h : j = m
     ·subst h; exact .inr e
     ·exact .inl ⟨j, by omega, e⟩
   ·rcases List.mem_append.1 hz with h | h
    ·exact .inr (hlt z h)
    ·exact .inl (List.mem_singleton.1 h)
  ·rw [if_neg hk, List.append_nil]
   have hk' : ¬ m = 0 ∧ d[m]! = d[m - 1]! := by
    unfold Lib.keeps at hk
    simp only [decide_eq_true_eq, not_or, Classical.not_not] at hk
    exact hk
   refine ⟨i1, fun z => ?_, fun _ z hz => ?_⟩
   ·rw [i2]
    constructor
    ·rintro ⟨j, hj, e⟩; exact ⟨j, by omega, e⟩
    ·rintro ⟨j, hj, e⟩
     by_cases h : j = m
     ·subst h; exact ⟨j - 1, by omega, by rw [e, hk'.2]⟩
     ·exact ⟨j, by omega, e⟩
   ·rw [hk'.2]; exact i3 (by omega) z hz
theorem comp_srt (zs : List (List UInt8)) : (Lib.compact (zs.mergeSort fun x y => decide (x ≤ y))).Pairwise bl ∧ ∀ z, z ∈ Lib.compact (zs.mergeSort fun x y => decide (x ≤ y)) ↔ z ∈ zs := by
 have hle : ∀ x y : List UInt8, decide (x ≤ y) = !Op.bytesLess y x := fun x y => by
  rw [bytesLess_eq]
  by_cases h : y < x
  ·rw [decide_eq_true h, decide_eq_false (fun h2 : x ≤ y => h2 h)]; rfl
  ·rw [decide_eq_false h, decide_eq_true (show x ≤ y from h)]; rfl
 have hp : (zs.mergeSort fun x y => decide (x ≤ y)).Pairwise (fun x y => decide (x ≤ y) = true) := by
  refine List.pairwise_mergeSort (fun a b c h1 h2 => ?_) (fun a b => ?_) zs
  ·rw [hle] at h1 h2 ⊢
   simp only [Bool.not_eq_true'] at h1 h2 ⊢
   cases h3 : Op.bytesLess c a with
   | false => rfl
   | true =>
    exfalso
    rcases bl_tri a b with h | h | h
    ·have := bl_trans _ _ _ h3 h
     rw [this] at h2; cases h2
    ·subst h; rw [h3] at h2; cases h2
    ·unfold bl at h; rw [h] at h1; cases h1
  ·rw [hle, hle]
   rcases bl_tri a b with h | h | h
   ·cases h2 : Op.bytesLess b a with
    | false => simp
    | true => have := bl_trans _ _ _ h h2; rw [bl_irr] at this; cases this
   ·subst h; simp [bl_irr]
   ·cases h2 : Op.bytesLess a b with
    | false => simp
    | true => have := bl_trans _ _ _ h h2; rw [bl_irr] at this; cases this
 have hm : ∀ z, z ∈ (zs.mergeSort fun x y => decide (x ≤ y)) ↔ z ∈ zs := fun z => List.mem_mergeSort
 generalize (zs.mergeSort fun x y => decide (x ≤ y)) = s at hp hm
 have hs : ∀ i, i + 1 < s.toArray.size → ¬ bl s.toArray[i + 1]! s.toArray[i]! := fun i hi hb => by
  have hi' : i + 1 < s.length := by simpa using hi
  have h := List.pairwise_iff_getElem.1 hp i (i + 1) (by omega) hi' (by omega)
  rw [hle] at h
  rw [getElem!_pos s.toArray (i + 1) hi, getElem!_pos s.toArray i (by omega)] at hb
  simp only [List.getElem_toArray] at hb
  unfold bl at hb
  rw [hb] at h; cases h
 obtain ⟨h1, h2, _⟩ := comp_up hs s.length (by simp)
 refine ⟨h1, fun z => ?_⟩
 rw [← hm z, show Lib.compact s = Lib.compactUpTo s.toArray s.length from rfl, h2]
 constructor
 ·rintro ⟨j, hj, e⟩
  rw [e, getElem!_pos s.toArray j (by simpa using hj)]
  simp
 ·intro hz
  obtain ⟨j, hj, e⟩ := List.mem_iff_getElem.1 hz
  exact ⟨j, hj, by rw [getElem!_pos s.toArray j (by simpa using hj)]; simp [e]⟩
theorem scIns_srt {n : Str} : ∀ {l : List Str}, l.Pairwise (fun a b => sLt a b = true) → (scIns l n).Pairwise (fun a b => sLt a b = true)
 | [], _ => by simp [scIns]
 | x :: xs, h => by
  obtain ⟨h1, h2⟩ := List.pairwise_cons.1 h
  rw [scIns]
  split
  ·rename_i hx
   refine List.pairwise_cons.2 ⟨fun a ha => ?_, scIns_srt h2⟩
   rcases scIns_mem.1 ha with e | e
   ·rw [e]; exact hx
   ·exact h1 a e
  ·split
   ·exact h
   ·rename_i h3 h4
    have hnx : sLt n x = true := by
     have := sLe_eq x n
     rw [Bool.eq_false_iff.2 h3, Bool.eq_false_iff.2 h4] at this
     simpa using this
    refine List.pairwise_cons.2 ⟨fun a ha => ?_, h⟩
    rcases List.mem_cons.1 ha with e | e
    ·rw [e]; exact hnx
    ·exact bl_trans _ _ _ hnx (h1 a e)
theorem scope_srt (l : List OpT) : (scopeL l).Pairwise (fun a b => sLt a b = true) := by
 have key : ∀ (l : List OpT) (out : List Str), out.Pairwise (fun a b => sLt a b = true) → (l.foldl (fun out o => scIns out o.2.1) out).Pairwise (fun a b => sLt a b = true) := by
  intro l
  induction l with
  | nil => exact fun _ h => h
  | cons o l ih => exact fun out h => ih _ (scIns_srt h)
 exact key l [] .nil
theorem scope_eq (l : List OpT) : Lib.compact ((l.map fun o => o.2.1.data.toList).mergeSort fun x y => decide (x ≤ y)) = (scopeL l).map fun s => s.data.toList := by
 obtain ⟨h1, h2⟩ := comp_srt (l.map fun o => o.2.1.data.toList)
 refine srt_uniq _ _ h1 ?_ (fun z => ?_)
 ·rw [List.pairwise_map]
  refine (scope_srt l).imp (fun {a b} h => ?_)
  unfold sLt at h
  rw [toList_data, toList_data] at h
  exact h
 ·rw [h2, List.mem_map, List.mem_map]
  constructor
  ·rintro ⟨o, ho, e⟩; exact ⟨o.2.1, (scope_mem l).2 ⟨o, ho, rfl⟩, e⟩
  ·rintro ⟨s, hs, e⟩
   obtain ⟨o, ho, e2⟩ := (scope_mem l).1 hs
   exact ⟨o, ho, by rw [e2]; exact e⟩
theorem scope_cs (l : List OpT) : cmpS (srtS (l.map fun o => o.2.1)) = scopeL l := by
 unfold cmpS srtS
 rw [map_ofB, List.map_map]
 have := scope_eq l
 rw [show ((fun s : ByteArray => s.data.toList) ∘ fun o : OpT => o.2.1) = fun o : OpT => o.2.1.data.toList from rfl, this, List.map_map]
 rw [show (ofB ∘ fun s : ByteArray => s.data.toList) = id from rfl, List.map_id]

end Go.Proofs.YtcgmpjedhbhplaaGreat

