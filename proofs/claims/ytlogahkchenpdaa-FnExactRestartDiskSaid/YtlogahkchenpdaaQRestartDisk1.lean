/-
  Contracts of the program's functions for the statements RestartDisk, by the rules of the logic. Conditions: none but those in the theorems.
-/
import Derived.Below
import Derived.Deep.Slices
import Derived.OpenShut
import Derived.ProofKit
import Derived.Test.YtlogahkchenpdaaU2
set_option maxHeartbeats 4000000
set_option maxRecDepth 100000
namespace Go.Proofs.Ytlogahkchenpdaa
open Go.RowKit
open Go.Proofs
set_option linter.unusedVariables false
set_option linter.unusedSimpArgs false

def szR (left : Int) (w : Nat) : Int := if (w : Int) ≤ left then left - (w : Int) else -1
def wSum {α : Type} (w : α → Nat) (xs : List α) : Nat := (xs.map w).sum
def wList {α : Type} (w : α → Nat) (xs : List α) : Nat := xs.length + wSum w xs
theorem wSum_app {α : Type} (w : α → Nat) (xs ys : List α) : wSum w (xs ++ ys) = wSum w xs + wSum w ys := by simp [wSum]
theorem wSum_le {α : Type} (w : α → Nat) (xs : List α) (k : Nat) : wSum w (xs.take k) ≤ wSum w xs := by
 have h := wSum_app w (xs.take k) (xs.drop k)
 rw [List.take_append_drop] at h
 omega
theorem wSum_succ {α : Type} [Inhabited α] (w : α → Nat) (xs : List α) (k : Nat) (h : k < xs.length) : wSum w (xs.take (k + 1)) = wSum w (xs.take k) + w (xs.getD (k : Int).toNat default) ∧ wSum w (xs.take (k + 1)) ≤ wSum w xs := by
 refine ⟨?_, wSum_le w xs _⟩
 have : xs.take (k + 1) = xs.take k ++ [xs.getD k default] := by
  rw [List.take_add_one, List.getElem?_eq_getElem h]; simp [List.getD, List.getElem?_eq_getElem h]
 rw [this, wSum_app]
 simp [wSum]
theorem wSum_all {α : Type} (w : α → Nat) (xs : List α) (k : Nat) (h : xs.length ≤ k) : wSum w (xs.take k) = wSum w xs := by rw [List.take_of_length_le h]
theorem wList_len {α : Type} (w : α → Nat) (xs : List α) : xs.length ≤ wList w xs := by unfold wList; omega
theorem szR_nn {l : Int} {w : Nat} (h : ¬ szR l w < 0) : (w : Int) ≤ l ∧ szR l w = l - w := by unfold szR at h ⊢; split at h <;> simp_all
theorem szR_n {l : Int} {w : Nat} (h : szR l w < 0) (h0 : 0 ≤ l := by omega) : l < (w : Int) := by unfold szR at h; split at h <;> omega
theorem szR_cases (l : Int) (w : Nat) : ((w : Int) ≤ l ∧ szR l w = l - w) ∨ (l < w ∧ szR l w = -1) := by unfold szR; split <;> omega
def wKey (x : KeyT) : Nat := (x.2.2).size
def wField (x : FieldT) : Nat := (x.1).size
def wRecord (x : RecT) : Nat := wList wField (x)
def wItem (x : ItemT) : Nat := wKey (x.1) + wRecord (x.2)
def wStore (x : StoreT) : Nat := (x.1).size + wList wItem (x.2.1)
def wIndexDef (x : DefT) : Nat := (x.1).size + (x.2).size
def wDatabase (x : DbT) : Nat := (x.1).size + wList wStore (x.2.2.1) + wList wIndexDef (x.2.2.2)
def wOp (x : OpT) : Nat := (x.2.1).size + wKey (x.2.2.1) + wRecord (x.2.2.2.1) + (x.2.2.2.2).size
def wTx (x : TxT) : Nat := wList wOp (x.2.1) + wList wStore (x.2.2.2.2)
def wTxQueue (x : List TxT) : Nat := wList wTx (x)
theorem ok_laws_szKey {x : KeyT} {left : Int} (h0 : 0 ≤ left) (h1 : left ≤ 1048576) : PFn Try.prog 118 [.agg [(.dv [] (.int .i64 (x.1))), (.dv [] (.int .i64 (x.2.1))), (.dv [] (.str (x.2.2)))], .one (.dv [] (.int .i64 (left)))] (.one (.dv [] (.int .i64 (szR (left) (wKey x))))) := by
 refine ⟨fn_intro Try.func118 rfl Try.ntmps118 Try.results118 rfl (fun C => ?_)⟩
 refine yF 0 0 rfl rfl fun f0_0 => ?_
 refine yF 0 1 rfl rfl fun f0_1 => ?_
 refine yF 0 2 rfl rfl fun f0_2 => ?_
 refine ok_fact (x := .tmp 1) (ev_tmp rfl) fun f1 => ?_
 iterate 17 refine z ?_
 refine yQ rfl (fun c1 => ?_) fun c1 => ?_
 ·skip
  have d1 := of_decide_eq_true c1
  first | have q1 := szR_n d1 | skip
  iterate 6 refine z ?_
  have hh := szR_cases left (wKey x); simp only [wKey] at hh ⊢ <;> omega
 ·skip
  have d1 := of_decide_eq_false c1
  first | have q1 := szR_nn d1 | skip
  iterate 8 refine z ?_
  have hh := szR_cases left (wKey x); simp only [wKey] at hh ⊢ <;> omega
theorem ok_laws_szField {x : FieldT} {left : Int} (h0 : 0 ≤ left) (h1 : left ≤ 1048576) : PFn Try.prog 188 [.agg [(.dv [] (.str (x.1))), (.dv [] (.int .i64 (x.2)))], .one (.dv [] (.int .i64 (left)))] (.one (.dv [] (.int .i64 (szR (left) (wField x))))) := by
 refine ⟨fn_intro Try.func188 rfl Try.ntmps188 Try.results188 rfl (fun C => ?_)⟩
 refine yF 0 0 rfl rfl fun f0_0 => ?_
 refine yF 0 1 rfl rfl fun f0_1 => ?_
 refine ok_fact (x := .tmp 1) (ev_tmp rfl) fun f1 => ?_
 iterate 17 refine z ?_
 refine yQ rfl (fun c1 => ?_) fun c1 => ?_
 ·skip
  have d1 := of_decide_eq_true c1
  first | have q1 := szR_n d1 | skip
  iterate 6 refine z ?_
  have hh := szR_cases left (wField x); simp only [wField] at hh ⊢ <;> omega
 ·skip
  have d1 := of_decide_eq_false c1
  first | have q1 := szR_nn d1 | skip
  iterate 8 refine z ?_
  have hh := szR_cases left (wField x); simp only [wField] at hh ⊢ <;> omega
theorem ok_laws_szFieldS {x : List (FieldT)} {left : Int} (h0 : 0 ≤ left) (h1 : left ≤ 1048576) : PFn Try.prog 164 [.one (.dv [] (fieldsD (x))), .one (.dv [] (.int .i64 (left)))] (.one (.dv [] (.int .i64 (szR (left) (wList wField x))))) := by
 refine ⟨fn_intro Try.func164 rfl Try.ntmps164 Try.results164 rfl (fun C => ?_)⟩
 refine ok_fact (x := .tmp 0) (ev_tmp rfl) fun f0 => ?_
 refine ok_fact (x := .tmp 1) (ev_tmp rfl) fun f1 => ?_
 iterate 15 refine z ?_
 refine yQ rfl (fun c1 => ?_) fun c1 => ?_
 ·skip
  have d1 := of_decide_eq_true c1
  first | have q1 := szR_n d1 | skip
  iterate 6 refine z ?_
  have hh := szR_cases left (wList wField x); simp only [wList] at hh ⊢ <;> omega
 ·skip
  have d1 := of_decide_eq_false c1
  first | have q1 := szR_nn d1 | skip
  iterate 7 refine z ?_
  refine ok_loop (ι := Nat × Int) (fun zz => ⟨[(0, .one (.dv [] (fieldsD (x)))), (1, .one (.dv [] (.int .i64 (zz.2)))), (5, .one (.dv [] (.int .i64 ((zz.1 : Int)))))], [], []⟩) (fun zz => zz.1 ≤ x.length ∧ 0 ≤ zz.2 ∧ zz.2 + (wSum wField (x.take zz.1) : Int) = left - (x.length : Int)) (fun zz => x.length - zz.1) ((0, left - (x.length : Int))) ?_ (weak_sub ⟨rfl, rfl, rfl, trivial⟩ trivial trivial rfl) (fun zz hx => ?_)
  ·exact ⟨Nat.zero_le _, by omega, by simp [wSum]⟩
  obtain ⟨k, l⟩ := zz
  replace hx : k ≤ x.length ∧ 0 ≤ l ∧ l + (wSum wField (x.take k) : Int) = left - (x.length : Int) := hx
  obtain ⟨hk, hl, he⟩ := hx
  have hw := fun h => wSum_succ wField x k h
  show Ok _ _ _ _ _ (⟨[(0, .one (.dv [] (fieldsD (x)))), (1, .one (.dv [] (.int .i64 (l)))), (5, .one (.dv [] (.int .i64 ((k : Int)))))], [], []⟩ : St)
  iterate 7 refine z ?_
  refine yQ rfl (fun c2 => ?_) fun c2 => ?_
  ·skip
   have d2 := of_decide_eq_true c2
   first | have q2 := szR_n d2 | skip
   iterate 10 refine z ?_
   refine zC Try.call188 ?_ (hf := ok_laws_szField (by omega) (by omega))
   iterate 6 refine z ?_
   refine yQ rfl (fun c3 => ?_) fun c3 => ?_
   ·skip
    have d3 := of_decide_eq_true c3
    first | have q3 := szR_n d3 | skip
    iterate 10 refine z ?_
    have hw' := hw (by omega); have hh := szR_cases left (wList wField x); simp only [wList] at hh ⊢ <;> omega
   ·skip
    have d3 := of_decide_eq_false c3
    first | have q3 := szR_nn d3 | skip
    iterate 3 refine z ?_
    refine ok_region ?_
    iterate 4 refine z ?_
    refine ⟨(k + 1, szR l (wField (x.getD (k : Int).toNat default))), ?_, ?_, weak_sub ⟨rfl, rfl, rfl, trivial⟩ trivial trivial rfl⟩
    ·have hw' := hw (by omega)
     dsimp only
     exact ⟨by omega, by omega, by omega⟩
    ·omega
  ·skip
   have d2 := of_decide_eq_false c2
   first | have q2 := szR_nn d2 | skip
   iterate 11 refine z ?_
   have hw' := wSum_all wField x k (by omega); have hh := szR_cases left (wList wField x); simp only [wList] at hh ⊢ <;> omega
theorem ok_laws_szRecord {x : RecT} {left : Int} (h0 : 0 ≤ left) (h1 : left ≤ 1048576) : PFn Try.prog 119 [.agg [(.dv [] (fieldsD (x)))], .one (.dv [] (.int .i64 (left)))] (.one (.dv [] (.int .i64 (szR (left) (wRecord x))))) := by
 refine ⟨fn_intro Try.func119 rfl Try.ntmps119 Try.results119 rfl (fun C => ?_)⟩
 refine yF 0 0 rfl rfl fun f0_0 => ?_
 refine ok_fact (x := .tmp 1) (ev_tmp rfl) fun f1 => ?_
 iterate 8 refine z ?_
 refine zC Try.call164 ?_ (hf := ok_laws_szFieldS (by omega) (by omega))
 iterate 7 refine z ?_
 refine yQ rfl (fun c1 => ?_) fun c1 => ?_
 ·skip
  have d1 := of_decide_eq_true c1
  first | have q1 := szR_n d1 | skip
  iterate 6 refine z ?_
  have hh := szR_cases left (wRecord x); simp only [wRecord] at hh ⊢ <;> omega
 ·skip
  have d1 := of_decide_eq_false c1
  first | have q1 := szR_nn d1 | skip
  iterate 8 refine z ?_
  have hh := szR_cases left (wRecord x); simp only [wRecord] at hh ⊢ <;> omega
theorem ok_laws_toKey {x : KeyT}  : PFn Try.prog 122 [.agg [(.dv [] (.int .i64 (x.1))), (.dv [] (.int .i64 (x.2.1))), (.dv [] (.str (x.2.2)))]] (.agg [(.dv [] (.int .i64 (x.1))), (.dv [] (.int .i64 (x.2.1))), (.dv [] (.str (x.2.2)))]) := by
 refine ⟨fn_intro Try.func122 rfl Try.ntmps122 Try.results122 rfl (fun C => ?_)⟩
 refine yF 0 0 rfl rfl fun f0_0 => ?_
 refine yF 0 1 rfl rfl fun f0_1 => ?_
 refine yF 0 2 rfl rfl fun f0_2 => ?_
 iterate 30 refine z ?_
 refine fin1 (res_cell hT rfl rfl rfl rfl) ?_
 rfl
theorem ok_laws_toField {x : FieldT}  : PFn Try.prog 189 [.agg [(.dv [] (.str (x.1))), (.dv [] (.int .i64 (x.2)))]] (.agg [(.dv [] (.str (x.1))), (.dv [] (.int .i64 (x.2)))]) := by
 refine ⟨fn_intro Try.func189 rfl Try.ntmps189 Try.results189 rfl (fun C => ?_)⟩
 refine yF 0 0 rfl rfl fun f0_0 => ?_
 refine yF 0 1 rfl rfl fun f0_1 => ?_
 iterate 24 refine z ?_
 refine fin1 (res_cell hT rfl rfl rfl rfl) ?_
 rfl
theorem ok_laws_toFieldS {x : List (FieldT)} (hb : wList wField x ≤ 1048576) : KFn Try.prog 166 [.one (.dv [] (fieldsD (x)))] (.one (.key 7)) [(7, some (kcOf false (fieldsD (x))))] := by
 refine ⟨fn_intro Try.func166 rfl Try.ntmps166 Try.results166 rfl (fun C => ?_)⟩
 refine ok_fact (x := .tmp 0) (ev_tmp rfl) fun f0 => ?_
 iterate 6 refine z ?_
 refine o_make (k := 7) (n := ((x)).length) (zd := [.str (ByteArray.empty), .int .i64 (0)]) (cs := fillD eField [.str (ByteArray.empty), .int .i64 (0)] x 0) hT rfl rfl rfl rfl rfl rfl (ev_tmp rfl) (ev_tmp rfl) rfl rfl rfl (by have := wList_len wField x; omega) rfl rfl fillD_zero ?_
 iterate 7 refine z ?_
 refine ok_loop (ι := Nat) (fun zz => ⟨[(0, .one (.dv [] (fieldsD (x)))), (3, .one (.key 7)), (4, .one (.dv [] (.int .i64 ((zz : Int)))))], [], [(7, some (kcOf false (.sl 161 2 ((x).length) (fillD eField [.str (ByteArray.empty), .int .i64 (0)] x zz))))]⟩) (fun zz => zz ≤ x.length) (fun zz => x.length - zz) (0) ?_ (weak_sub ⟨rfl, rfl, rfl, trivial⟩ trivial ⟨rfl, trivial⟩ rfl) (fun zz hx => ?_)
 ·exact Nat.zero_le _
 obtain ⟨k, rfl⟩ : ∃ v, v = zz := ⟨_, rfl⟩
 replace hx : k ≤ x.length := hx
 have hw := fun h => wSum_succ wField x k h
 have hw2 := wSum_le wField x (k + 1)
 have hw3 : wList wField x = x.length + wSum wField x := rfl
 show Ok _ _ _ _ _ (⟨[(0, .one (.dv [] (fieldsD (x)))), (3, .one (.key 7)), (4, .one (.dv [] (.int .i64 ((k : Int)))))], [], [(7, some (kcOf false (.sl 161 2 ((x).length) (fillD eField [.str (ByteArray.empty), .int .i64 (0)] x k))))]⟩ : St)
 iterate 7 refine z ?_
 refine yQ rfl (fun c1 => ?_) fun c1 => ?_
 ·skip
  have d1 := of_decide_eq_true c1
  iterate 4 refine z ?_
  refine ok_region ?_
  iterate 6 refine z ?_
  refine zC Try.call189 ?_ (hf := ok_laws_toField)
  refine yO rfl rfl (pu_indexK (i := k) hT rfl rfl rfl (ev_tmp rfl) rfl (ev_tmp rfl) rfl (by show _ < ((x).length); omega)) rfl ?_
  refine o_storeE (js := []) (cs := fillD eField [.str (ByteArray.empty), .int .i64 (0)] x (k + 1)) hT rfl rfl rfl rfl (ev_tmp rfl) (ev_tmp rfl) rfl rfl rfl rfl (ow_cons' (ow_dv rfl) (ow_cons' (ow_dv rfl) ow_nil rfl) rfl) (by decide) (by decide) rfl (by show _ ≤ List.length (fillD eField [.str (ByteArray.empty), .int .i64 (0)] x k); rw [fillD_len (sz := 2) (fun _ => rfl) rfl]; omega) (fillD_succ (sz := 2) (fun _ => rfl) rfl (by omega) rfl) ?_
  simp only [killT, killB, SV.kill, CV.kill, kk, Nat.reduceBEq]
  refine ops_nil ?_
  iterate 2 refine z ?_
  refine ok_region ?_
  iterate 4 refine z ?_
  refine ⟨k + 1, ?_, ?_, weak_sub ⟨rfl, rfl, rfl, trivial⟩ trivial ⟨rfl, trivial⟩ rfl⟩
  ·omega
  ·omega
 ·skip
  have d1 := of_decide_eq_false c1
  iterate 9 refine z ?_
  refine ok_weak (σ' := ⟨[(2, .one (.key 7))], [], [(7, some (kcOf false (fieldsD (x))))]⟩) (weak_sub ⟨rfl, trivial⟩ trivial ⟨(congrArg (fun cs => some (some (KC.mk false 161 2 x.length cs))) (fillD_all (by omega))), trivial⟩ rfl) ?_
  refine z ?_
  refine fin1 (res_tmp rfl) ?_
  exact ⟨rfl, rfl⟩
theorem ok_laws_toRecord {x : RecT} (hb : wRecord x ≤ 1048576) : KFn Try.prog 123 [.agg [(.dv [] (fieldsD (x)))]] (.agg [(.key 6007)]) [(6007, some (kcOf false (fieldsD (x))))] := by
 refine ⟨fn_intro Try.func123 rfl Try.ntmps123 Try.results123 rfl (fun C => ?_)⟩
 refine yF 0 0 rfl rfl fun f0_0 => ?_
 iterate 10 refine z ?_
 refine zK 6000 Try.call166 ?_ (hf := ok_laws_toFieldS (by first | omega | (simp only [wKey, wField, wRecord, wItem, wStore, wIndexDef, wDatabase, wOp, wTx, wTxQueue] at hb ⊢; omega) | (have hq := hw (by omega); omega)))
 iterate 7 refine z ?_
 refine ok_weak (σ' := ⟨[(2, .box 2 0)], [(2, 100, [(.key 6007)])], [(6007, some (kcOf false (fieldsD (x))))]⟩) (weak_sub ⟨rfl, trivial⟩ ⟨rfl, trivial⟩ ⟨rfl, trivial⟩ rfl) ?_
 refine z ?_
 refine fin1 (res_cell hT rfl rfl rfl rfl) ?_
 exact ⟨rfl, rfl⟩
theorem ok_laws_eqKey {x : KeyT}  : PFn Try.prog 128 [.agg [(.dv [] (.int .i64 (x.1))), (.dv [] (.int .i64 (x.2.1))), (.dv [] (.str (x.2.2)))], .agg [(.dv [] (.int .i64 (x.1))), (.dv [] (.int .i64 (x.2.1))), (.dv [] (.str (x.2.2)))]] (.one (.dv [] (.bool (true)))) := by
 refine ⟨fn_intro Try.func128 rfl Try.ntmps128 Try.results128 rfl (fun C => ?_)⟩
 refine yF 0 0 rfl rfl fun f0_0 => ?_
 refine yF 0 1 rfl rfl fun f0_1 => ?_
 refine yF 0 2 rfl rfl fun f0_2 => ?_
 refine yF 1 0 rfl rfl fun f1_0 => ?_
 refine yF 1 1 rfl rfl fun f1_1 => ?_
 refine yF 1 2 rfl rfl fun f1_2 => ?_
 iterate 13 refine z ?_
 refine yQ rfl (fun c1 => ?_) fun c1 => ?_
 ·skip
  have d1 := nd_t c1
  iterate 6 refine z ?_
  first | rfl | (exfalso; simp_all [sEq])
 ·skip
  have d1 := nd_f c1
  iterate 10 refine z ?_
  refine yQ rfl (fun c2 => ?_) fun c2 => ?_
  ·skip
   have d2 := nd_t c2
   iterate 6 refine z ?_
   first | rfl | (exfalso; simp_all [sEq])
  ·skip
   have d2 := nd_f c2
   iterate 10 refine z ?_
   refine yQ rfl (fun c3 => ?_) fun c3 => ?_
   ·skip
    iterate 6 refine z ?_
    first | rfl | (exfalso; simp_all [sEq])
   ·skip
    iterate 7 refine z ?_
    first | rfl | (exfalso; simp_all [sEq])
theorem ok_laws_eqField {x : FieldT}  : PFn Try.prog 190 [.agg [(.dv [] (.str (x.1))), (.dv [] (.int .i64 (x.2)))], .agg [(.dv [] (.str (x.1))), (.dv [] (.int .i64 (x.2)))]] (.one (.dv [] (.bool (true)))) := by
 refine ⟨fn_intro Try.func190 rfl Try.ntmps190 Try.results190 rfl (fun C => ?_)⟩
 refine yF 0 0 rfl rfl fun f0_0 => ?_
 refine yF 0 1 rfl rfl fun f0_1 => ?_
 refine yF 1 0 rfl rfl fun f1_0 => ?_
 refine yF 1 1 rfl rfl fun f1_1 => ?_
 iterate 13 refine z ?_
 refine yQ rfl (fun c1 => ?_) fun c1 => ?_
 ·skip
  iterate 6 refine z ?_
  first | rfl | (exfalso; simp_all [sEq])
 ·skip
  iterate 10 refine z ?_
  refine yQ rfl (fun c2 => ?_) fun c2 => ?_
  ·skip
   have d2 := nd_t c2
   iterate 6 refine z ?_
   first | rfl | (exfalso; simp_all [sEq])
  ·skip
   have d2 := nd_f c2
   iterate 7 refine z ?_
   first | rfl | (exfalso; simp_all [sEq])
theorem ok_laws_eqFieldS {x : List (FieldT)}  : PFn Try.prog 168 [.one (.dv [] (fieldsD (x))), .one (.dv [] (fieldsD (x)))] (.one (.dv [] (.bool (true)))) := by
 refine ⟨fn_intro Try.func168 rfl Try.ntmps168 Try.results168 rfl (fun C => ?_)⟩
 refine ok_fact (x := .tmp 0) (ev_tmp rfl) fun f0 => ?_
 refine ok_fact (x := .tmp 1) (ev_tmp rfl) fun f1 => ?_
 iterate 11 refine z ?_
 refine yQ rfl (fun c1 => ?_) fun c1 => ?_
 ·skip
  have d1 := nd_t c1
  iterate 6 refine z ?_
  first | rfl | (exfalso; simp_all [sEq])
 ·skip
  have d1 := nd_f c1
  iterate 7 refine z ?_
  refine ok_loop (ι := Nat) (fun zz => ⟨[(0, .one (.dv [] (fieldsD (x)))), (1, .one (.dv [] (fieldsD (x)))), (5, .one (.dv [] (.int .i64 ((zz : Int)))))], [], []⟩) (fun zz => zz ≤ x.length) (fun zz => x.length - zz) (0) ?_ (weak_sub ⟨rfl, rfl, rfl, trivial⟩ trivial trivial rfl) (fun zz hx => ?_)
  ·exact Nat.zero_le _
  obtain ⟨k, rfl⟩ : ∃ v, v = zz := ⟨_, rfl⟩
  replace hx : k ≤ x.length := hx
  show Ok _ _ _ _ _ (⟨[(0, .one (.dv [] (fieldsD (x)))), (1, .one (.dv [] (fieldsD (x)))), (5, .one (.dv [] (.int .i64 ((k : Int)))))], [], []⟩ : St)
  iterate 7 refine z ?_
  refine yQ rfl (fun c2 => ?_) fun c2 => ?_
  ·skip
   have d2 := of_decide_eq_true c2
   iterate 4 refine z ?_
   refine ok_seq ?_
   refine ok_regionD (oB := []) (oK := []) (by kernel_rfl) rfl rfl ?_
   refine zD 0 ?_
   refine zD 1 ?_
   refine zD 2 ?_
   refine zD 3 ?_
   refine zD 4 ?_
   refine zD 5 ?_
   refine zD 6 ?_
   refine zD 7 ?_
   refine d_call 8 rfl (by kernel_rfl) rfl rfl rfl Try.call190 ok_laws_eqField (as_cons (ev_tmp rfl) (ag_agg (ag_cons ac_dv (ag_cons ac_dv ag_nil))) (as_cons (ev_tmp rfl) (ag_agg (ag_cons ac_dv (ag_cons ac_dv ag_nil))) as_nil)) rfl rfl rfl rfl ?_
   refine zD 9 ?_
   refine d_done (by kernel_rfl) ?_
   refine z ?_
   refine yQ rfl (fun c3 => ?_) fun c3 => ?_
   ·skip
    iterate 10 refine z ?_
    first | rfl | (exfalso; simp_all [sEq])
   ·skip
    iterate 3 refine z ?_
    refine ok_region ?_
    iterate 4 refine z ?_
    refine ⟨k + 1, ?_, ?_, weak_sub ⟨rfl, rfl, rfl, trivial⟩ trivial trivial rfl⟩
    ·omega
    ·omega
  ·skip
   have d2 := of_decide_eq_false c2
   iterate 10 refine z ?_
   first | rfl | (exfalso; simp_all [sEq])
theorem ok_laws_eqRecord {x : RecT}  : PFn Try.prog 129 [.agg [(.dv [] (fieldsD (x)))], .agg [(.dv [] (fieldsD (x)))]] (.one (.dv [] (.bool (true)))) := by
 refine ⟨fn_intro Try.func129 rfl Try.ntmps129 Try.results129 rfl (fun C => ?_)⟩
 refine yF 0 0 rfl rfl fun f0_0 => ?_
 refine yF 1 0 rfl rfl fun f1_0 => ?_
 iterate 11 refine z ?_
 refine zC Try.call168 ?_ (hf := ok_laws_eqFieldS)
 iterate 2 refine z ?_
 refine yQ rfl (fun c1 => ?_) fun c1 => ?_
 ·skip
  iterate 6 refine z ?_
  first | rfl | (exfalso; simp_all [sEq])
 ·skip
  iterate 7 refine z ?_
  first | rfl | (exfalso; simp_all [sEq])
end Go.Proofs.Ytlogahkchenpdaa

namespace Go.Proofs.Ytlogahkchenpdaa
open Go.RowKit
open Go.Proofs
set_option linter.unusedVariables false
set_option linter.unusedSimpArgs false
theorem ok_laws_szItem {x : ItemT} {left : Int} (h0 : 0 ≤ left) (h1 : left ≤ 1048576) : PFn Try.prog 185 [.agg [(.dv [] (.int .i64 (x.1.1))), (.dv [] (.int .i64 (x.1.2.1))), (.dv [] (.str (x.1.2.2))), (.dv [] (fieldsD (x.2)))], .one (.dv [] (.int .i64 (left)))] (.one (.dv [] (.int .i64 (szR (left) (wItem x))))) := by
 refine ⟨fn_intro Try.func185 rfl Try.ntmps185 Try.results185 rfl (fun C => ?_)⟩
 refine yF 0 0 rfl rfl fun f0_0 => ?_
 refine yF 0 1 rfl rfl fun f0_1 => ?_
 refine yF 0 2 rfl rfl fun f0_2 => ?_
 refine yF 0 3 rfl rfl fun f0_3 => ?_
 refine ok_fact (x := .tmp 1) (ev_tmp rfl) fun f1 => ?_
 iterate 8 refine z ?_
 refine zC Try.call118 ?_ (hf := ok_laws_szKey (by omega) (by omega))
 iterate 7 refine z ?_
 refine yQ rfl (fun c1 => ?_) fun c1 => ?_
 ·skip
  have d1 := of_decide_eq_true c1
  first | have q1 := szR_n d1 | skip
  iterate 6 refine z ?_
  have hh := szR_cases left (wItem x); simp only [wItem] at hh ⊢ <;> omega
 ·skip
  have d1 := of_decide_eq_false c1
  first | have q1 := szR_nn d1 | skip
  iterate 6 refine z ?_
  refine zC Try.call119 ?_ (hf := ok_laws_szRecord (by omega) (by omega))
  iterate 7 refine z ?_
  refine yQ rfl (fun c2 => ?_) fun c2 => ?_
  ·skip
   have d2 := of_decide_eq_true c2
   first | have q2 := szR_n d2 | skip
   iterate 6 refine z ?_
   have hh := szR_cases left (wItem x); simp only [wItem] at hh ⊢ <;> omega
  ·skip
   have d2 := of_decide_eq_false c2
   first | have q2 := szR_nn d2 | skip
   iterate 8 refine z ?_
   have hh := szR_cases left (wItem x); simp only [wItem] at hh ⊢ <;> omega
theorem ok_laws_szItemS {x : List (ItemT)} {left : Int} (h0 : 0 ≤ left) (h1 : left ≤ 1048576) : PFn Try.prog 161 [.one (.dv [] (itemsD (x))), .one (.dv [] (.int .i64 (left)))] (.one (.dv [] (.int .i64 (szR (left) (wList wItem x))))) := by
 refine ⟨fn_intro Try.func161 rfl Try.ntmps161 Try.results161 rfl (fun C => ?_)⟩
 refine ok_fact (x := .tmp 0) (ev_tmp rfl) fun f0 => ?_
 refine ok_fact (x := .tmp 1) (ev_tmp rfl) fun f1 => ?_
 iterate 15 refine z ?_
 refine yQ rfl (fun c1 => ?_) fun c1 => ?_
 ·skip
  have d1 := of_decide_eq_true c1
  first | have q1 := szR_n d1 | skip
  iterate 6 refine z ?_
  have hh := szR_cases left (wList wItem x); simp only [wList] at hh ⊢ <;> omega
 ·skip
  have d1 := of_decide_eq_false c1
  first | have q1 := szR_nn d1 | skip
  iterate 7 refine z ?_
  refine ok_loop (ι := Nat × Int) (fun zz => ⟨[(0, .one (.dv [] (itemsD (x)))), (1, .one (.dv [] (.int .i64 (zz.2)))), (5, .one (.dv [] (.int .i64 ((zz.1 : Int)))))], [], []⟩) (fun zz => zz.1 ≤ x.length ∧ 0 ≤ zz.2 ∧ zz.2 + (wSum wItem (x.take zz.1) : Int) = left - (x.length : Int)) (fun zz => x.length - zz.1) ((0, left - (x.length : Int))) ?_ (weak_sub ⟨rfl, rfl, rfl, trivial⟩ trivial trivial rfl) (fun zz hx => ?_)
  ·exact ⟨Nat.zero_le _, by omega, by simp [wSum]⟩
  obtain ⟨k, l⟩ := zz
  replace hx : k ≤ x.length ∧ 0 ≤ l ∧ l + (wSum wItem (x.take k) : Int) = left - (x.length : Int) := hx
  obtain ⟨hk, hl, he⟩ := hx
  have hw := fun h => wSum_succ wItem x k h
  show Ok _ _ _ _ _ (⟨[(0, .one (.dv [] (itemsD (x)))), (1, .one (.dv [] (.int .i64 (l)))), (5, .one (.dv [] (.int .i64 ((k : Int)))))], [], []⟩ : St)
  iterate 7 refine z ?_
  refine yQ rfl (fun c2 => ?_) fun c2 => ?_
  ·skip
   have d2 := of_decide_eq_true c2
   first | have q2 := szR_n d2 | skip
   iterate 10 refine z ?_
   refine zC Try.call185 ?_ (hf := ok_laws_szItem (by omega) (by omega))
   iterate 6 refine z ?_
   refine yQ rfl (fun c3 => ?_) fun c3 => ?_
   ·skip
    have d3 := of_decide_eq_true c3
    first | have q3 := szR_n d3 | skip
    iterate 10 refine z ?_
    have hw' := hw (by omega); have hh := szR_cases left (wList wItem x); simp only [wList] at hh ⊢ <;> omega
   ·skip
    have d3 := of_decide_eq_false c3
    first | have q3 := szR_nn d3 | skip
    iterate 3 refine z ?_
    refine ok_region ?_
    iterate 4 refine z ?_
    refine ⟨(k + 1, szR l (wItem (x.getD (k : Int).toNat default))), ?_, ?_, weak_sub ⟨rfl, rfl, rfl, trivial⟩ trivial trivial rfl⟩
    ·have hw' := hw (by omega)
     dsimp only
     exact ⟨by omega, by omega, by omega⟩
    ·omega
  ·skip
   have d2 := of_decide_eq_false c2
   first | have q2 := szR_nn d2 | skip
   iterate 11 refine z ?_
   have hw' := wSum_all wItem x k (by omega); have hh := szR_cases left (wList wItem x); simp only [wList] at hh ⊢ <;> omega
theorem ok_laws_szStore {x : StoreT} {left : Int} (h0 : 0 ≤ left) (h1 : left ≤ 1048576) : PFn Try.prog 112 [.agg [(.dv [] (.str (x.1))), (.dv [] (itemsD (x.2.1))), (.dv [] (.int .i64 (x.2.2)))], .one (.dv [] (.int .i64 (left)))] (.one (.dv [] (.int .i64 (szR (left) (wStore x))))) := by
 refine ⟨fn_intro Try.func112 rfl Try.ntmps112 Try.results112 rfl (fun C => ?_)⟩
 refine yF 0 0 rfl rfl fun f0_0 => ?_
 refine yF 0 1 rfl rfl fun f0_1 => ?_
 refine yF 0 2 rfl rfl fun f0_2 => ?_
 refine ok_fact (x := .tmp 1) (ev_tmp rfl) fun f1 => ?_
 iterate 17 refine z ?_
 refine yQ rfl (fun c1 => ?_) fun c1 => ?_
 ·skip
  have d1 := of_decide_eq_true c1
  first | have q1 := szR_n d1 | skip
  iterate 6 refine z ?_
  have hh := szR_cases left (wStore x); simp only [wStore] at hh ⊢ <;> omega
 ·skip
  have d1 := of_decide_eq_false c1
  first | have q1 := szR_nn d1 | skip
  iterate 6 refine z ?_
  refine zC Try.call161 ?_ (hf := ok_laws_szItemS (by omega) (by omega))
  iterate 7 refine z ?_
  refine yQ rfl (fun c2 => ?_) fun c2 => ?_
  ·skip
   have d2 := of_decide_eq_true c2
   first | have q2 := szR_n d2 | skip
   iterate 6 refine z ?_
   have hh := szR_cases left (wStore x); simp only [wStore] at hh ⊢ <;> omega
  ·skip
   have d2 := of_decide_eq_false c2
   first | have q2 := szR_nn d2 | skip
   iterate 8 refine z ?_
   have hh := szR_cases left (wStore x); simp only [wStore] at hh ⊢ <;> omega
theorem ok_laws_toItem {x : ItemT} (hb : wItem x ≤ 1048576) : KFn Try.prog 186 [.agg [(.dv [] (.int .i64 (x.1.1))), (.dv [] (.int .i64 (x.1.2.1))), (.dv [] (.str (x.1.2.2))), (.dv [] (fieldsD (x.2)))]] (.agg [(.dv [] (.int .i64 (x.1.1))), (.dv [] (.int .i64 (x.1.2.1))), (.dv [] (.str (x.1.2.2))), (.key 16007)]) [(16007, some (kcOf false (fieldsD (x.2))))] := by
 refine ⟨fn_intro Try.func186 rfl Try.ntmps186 Try.results186 rfl (fun C => ?_)⟩
 refine yF 0 0 rfl rfl fun f0_0 => ?_
 refine yF 0 1 rfl rfl fun f0_1 => ?_
 refine yF 0 2 rfl rfl fun f0_2 => ?_
 refine yF 0 3 rfl rfl fun f0_3 => ?_
 iterate 10 refine z ?_
 refine zC Try.call122 ?_ (hf := ok_laws_toKey)
 iterate 6 refine z ?_
 refine zK 10000 Try.call123 ?_ (hf := ok_laws_toRecord (by first | omega | (simp only [wKey, wField, wRecord, wItem, wStore, wIndexDef, wDatabase, wOp, wTx, wTxQueue] at hb ⊢; omega) | (have hq := hw (by omega); omega)))
 iterate 7 refine z ?_
 refine ok_weak (σ' := ⟨[(2, .box 2 0)], [(2, 150, [(.dv [] (.int .i64 (x.1.1))), (.dv [] (.int .i64 (x.1.2.1))), (.dv [] (.str (x.1.2.2))), (.key 16007)])], [(16007, some (kcOf false (fieldsD (x.2))))]⟩) (weak_sub ⟨rfl, trivial⟩ ⟨rfl, trivial⟩ ⟨rfl, trivial⟩ rfl) ?_
 refine z ?_
 refine fin1 (res_cell hT rfl rfl rfl rfl) ?_
 exact ⟨rfl, rfl⟩
theorem ok_laws_toItemS {x : List (ItemT)} (hb : wList wItem x ≤ 1048576) : KFn Try.prog 162 [.one (.dv [] (itemsD (x)))] (.one (.key 7)) [(7, some (kcOf false (itemsD (x))))] := by
 refine ⟨fn_intro Try.func162 rfl Try.ntmps162 Try.results162 rfl (fun C => ?_)⟩
 refine ok_fact (x := .tmp 0) (ev_tmp rfl) fun f0 => ?_
 iterate 6 refine z ?_
 refine o_make (k := 7) (n := ((x)).length) (zd := [.int .i64 (0), .int .i64 (0), .str (ByteArray.empty), .sl 161 2 0 []]) (cs := fillD eItem [.int .i64 (0), .int .i64 (0), .str (ByteArray.empty), .sl 161 2 0 []] x 0) hT rfl rfl rfl rfl rfl rfl (ev_tmp rfl) (ev_tmp rfl) rfl rfl rfl (by have := wList_len wItem x; omega) rfl rfl fillD_zero ?_
 iterate 7 refine z ?_
 refine ok_loop (ι := Nat) (fun zz => ⟨[(0, .one (.dv [] (itemsD (x)))), (3, .one (.key 7)), (4, .one (.dv [] (.int .i64 ((zz : Int)))))], [], [(7, some (kcOf false (.sl 150 4 ((x).length) (fillD eItem [.int .i64 (0), .int .i64 (0), .str (ByteArray.empty), .sl 161 2 0 []] x zz))))]⟩) (fun zz => zz ≤ x.length) (fun zz => x.length - zz) (0) ?_ (weak_sub ⟨rfl, rfl, rfl, trivial⟩ trivial ⟨rfl, trivial⟩ rfl) (fun zz hx => ?_)
 ·exact Nat.zero_le _
 obtain ⟨k, rfl⟩ : ∃ v, v = zz := ⟨_, rfl⟩
 replace hx : k ≤ x.length := hx
 have hw := fun h => wSum_succ wItem x k h
 have hw2 := wSum_le wItem x (k + 1)
 have hw3 : wList wItem x = x.length + wSum wItem x := rfl
 show Ok _ _ _ _ _ (⟨[(0, .one (.dv [] (itemsD (x)))), (3, .one (.key 7)), (4, .one (.dv [] (.int .i64 ((k : Int)))))], [], [(7, some (kcOf false (.sl 150 4 ((x).length) (fillD eItem [.int .i64 (0), .int .i64 (0), .str (ByteArray.empty), .sl 161 2 0 []] x k))))]⟩ : St)
 iterate 7 refine z ?_
 refine yQ rfl (fun c1 => ?_) fun c1 => ?_
 ·skip
  have d1 := of_decide_eq_true c1
  iterate 4 refine z ?_
  refine ok_region ?_
  iterate 6 refine z ?_
  refine zK 20000 Try.call186 ?_ (hf := ok_laws_toItem (by first | omega | (simp only [wKey, wField, wRecord, wItem, wStore, wIndexDef, wDatabase, wOp, wTx, wTxQueue] at hb ⊢; omega) | (have hq := hw (by omega); omega)))
  refine yO rfl rfl (pu_indexK (i := k) hT rfl rfl rfl (ev_tmp rfl) rfl (ev_tmp rfl) rfl (by show _ < ((x).length); omega)) rfl ?_
  refine o_storeE (js := [36007]) (cs := fillD eItem [.int .i64 (0), .int .i64 (0), .str (ByteArray.empty), .sl 161 2 0 []] x (k + 1)) hT rfl rfl rfl rfl (ev_tmp rfl) (ev_tmp rfl) rfl rfl rfl rfl (ow_cons' (ow_dv rfl) (ow_cons' (ow_dv rfl) (ow_cons' (ow_dv rfl) (ow_cons' (ow_key rfl) ow_nil rfl) rfl) rfl) rfl) (by decide) (by decide) rfl (by show _ ≤ List.length (fillD eItem [.int .i64 (0), .int .i64 (0), .str (ByteArray.empty), .sl 161 2 0 []] x k); rw [fillD_len (sz := 4) (fun _ => rfl) rfl]; omega) (fillD_succ (sz := 4) (fun _ => rfl) rfl (by omega) rfl) ?_
  simp only [killT, killB, SV.kill, CV.kill, kk, Nat.reduceBEq]
  refine ops_nil ?_
  iterate 2 refine z ?_
  refine ok_region ?_
  iterate 4 refine z ?_
  refine ⟨k + 1, ?_, ?_, weak_sub ⟨rfl, rfl, rfl, trivial⟩ trivial ⟨rfl, trivial⟩ rfl⟩
  ·omega
  ·omega
 ·skip
  have d1 := of_decide_eq_false c1
  iterate 9 refine z ?_
  refine ok_weak (σ' := ⟨[(2, .one (.key 7))], [], [(7, some (kcOf false (itemsD (x))))]⟩) (weak_sub ⟨rfl, trivial⟩ trivial ⟨(congrArg (fun cs => some (some (KC.mk false 150 4 x.length cs))) (fillD_all (by omega))), trivial⟩ rfl) ?_
  refine z ?_
  refine fin1 (res_tmp rfl) ?_
  exact ⟨rfl, rfl⟩
theorem ok_laws_toStore {x : StoreT} (hb : wStore x ≤ 1048576) : KFn Try.prog 114 [.agg [(.dv [] (.str (x.1))), (.dv [] (itemsD (x.2.1))), (.dv [] (.int .i64 (x.2.2)))]] (.agg [(.dv [] (.str (x.1))), (.key 9007), (.dv [] (.int .i64 (x.2.2)))]) [(9007, some (kcOf false (itemsD (x.2.1))))] := by
 refine ⟨fn_intro Try.func114 rfl Try.ntmps114 Try.results114 rfl (fun C => ?_)⟩
 refine yF 0 0 rfl rfl fun f0_0 => ?_
 refine yF 0 1 rfl rfl fun f0_1 => ?_
 refine yF 0 2 rfl rfl fun f0_2 => ?_
 iterate 16 refine z ?_
 refine zK 9000 Try.call162 ?_ (hf := ok_laws_toItemS (by first | omega | (simp only [wKey, wField, wRecord, wItem, wStore, wIndexDef, wDatabase, wOp, wTx, wTxQueue] at hb ⊢; omega) | (have hq := hw (by omega); omega)))
 iterate 13 refine z ?_
 refine ok_weak (σ' := ⟨[(2, .box 2 0)], [(2, 82, [(.dv [] (.str (x.1))), (.key 9007), (.dv [] (.int .i64 (x.2.2)))])], [(9007, some (kcOf false (itemsD (x.2.1))))]⟩) (weak_sub ⟨rfl, trivial⟩ ⟨rfl, trivial⟩ ⟨rfl, trivial⟩ rfl) ?_
 refine z ?_
 refine fin1 (res_cell hT rfl rfl rfl rfl) ?_
 exact ⟨rfl, rfl⟩
theorem ok_laws_eqItem {x : ItemT}  : PFn Try.prog 187 [.agg [(.dv [] (.int .i64 (x.1.1))), (.dv [] (.int .i64 (x.1.2.1))), (.dv [] (.str (x.1.2.2))), (.dv [] (fieldsD (x.2)))], .agg [(.dv [] (.int .i64 (x.1.1))), (.dv [] (.int .i64 (x.1.2.1))), (.dv [] (.str (x.1.2.2))), (.dv [] (fieldsD (x.2)))]] (.one (.dv [] (.bool (true)))) := by
 refine ⟨fn_intro Try.func187 rfl Try.ntmps187 Try.results187 rfl (fun C => ?_)⟩
 refine yF 0 0 rfl rfl fun f0_0 => ?_
 refine yF 0 1 rfl rfl fun f0_1 => ?_
 refine yF 0 2 rfl rfl fun f0_2 => ?_
 refine yF 0 3 rfl rfl fun f0_3 => ?_
 refine yF 1 0 rfl rfl fun f1_0 => ?_
 refine yF 1 1 rfl rfl fun f1_1 => ?_
 refine yF 1 2 rfl rfl fun f1_2 => ?_
 refine yF 1 3 rfl rfl fun f1_3 => ?_
 iterate 11 refine z ?_
 refine zC Try.call128 ?_ (hf := ok_laws_eqKey)
 iterate 2 refine z ?_
 refine yQ rfl (fun c1 => ?_) fun c1 => ?_
 ·skip
  iterate 6 refine z ?_
  first | rfl | (exfalso; simp_all [sEq])
 ·skip
  iterate 8 refine z ?_
  refine zC Try.call129 ?_ (hf := ok_laws_eqRecord)
  iterate 2 refine z ?_
  refine yQ rfl (fun c2 => ?_) fun c2 => ?_
  ·skip
   iterate 6 refine z ?_
   first | rfl | (exfalso; simp_all [sEq])
  ·skip
   iterate 7 refine z ?_
   first | rfl | (exfalso; simp_all [sEq])
theorem ok_laws_eqItemS {x : List (ItemT)}  : PFn Try.prog 163 [.one (.dv [] (itemsD (x))), .one (.dv [] (itemsD (x)))] (.one (.dv [] (.bool (true)))) := by
 refine ⟨fn_intro Try.func163 rfl Try.ntmps163 Try.results163 rfl (fun C => ?_)⟩
 refine ok_fact (x := .tmp 0) (ev_tmp rfl) fun f0 => ?_
 refine ok_fact (x := .tmp 1) (ev_tmp rfl) fun f1 => ?_
 iterate 11 refine z ?_
 refine yQ rfl (fun c1 => ?_) fun c1 => ?_
 ·skip
  have d1 := nd_t c1
  iterate 6 refine z ?_
  first | rfl | (exfalso; simp_all [sEq])
 ·skip
  have d1 := nd_f c1
  iterate 7 refine z ?_
  refine ok_loop (ι := Nat) (fun zz => ⟨[(0, .one (.dv [] (itemsD (x)))), (1, .one (.dv [] (itemsD (x)))), (5, .one (.dv [] (.int .i64 ((zz : Int)))))], [], []⟩) (fun zz => zz ≤ x.length) (fun zz => x.length - zz) (0) ?_ (weak_sub ⟨rfl, rfl, rfl, trivial⟩ trivial trivial rfl) (fun zz hx => ?_)
  ·exact Nat.zero_le _
  obtain ⟨k, rfl⟩ : ∃ v, v = zz := ⟨_, rfl⟩
  replace hx : k ≤ x.length := hx
  show Ok _ _ _ _ _ (⟨[(0, .one (.dv [] (itemsD (x)))), (1, .one (.dv [] (itemsD (x)))), (5, .one (.dv [] (.int .i64 ((k : Int)))))], [], []⟩ : St)
  iterate 7 refine z ?_
  refine yQ rfl (fun c2 => ?_) fun c2 => ?_
  ·skip
   have d2 := of_decide_eq_true c2
   iterate 4 refine z ?_
   refine ok_seq ?_
   refine ok_regionD (oB := []) (oK := []) (by kernel_rfl) rfl rfl ?_
   refine zD 0 ?_
   refine zD 1 ?_
   refine zD 2 ?_
   refine zD 3 ?_
   refine zD 4 ?_
   refine zD 5 ?_
   refine zD 6 ?_
   refine zD 7 ?_
   refine d_call 8 rfl (by kernel_rfl) rfl rfl rfl Try.call187 ok_laws_eqItem (as_cons (ev_tmp rfl) (ag_agg (ag_cons ac_dv (ag_cons ac_dv (ag_cons ac_dv (ag_cons ac_dv ag_nil))))) (as_cons (ev_tmp rfl) (ag_agg (ag_cons ac_dv (ag_cons ac_dv (ag_cons ac_dv (ag_cons ac_dv ag_nil))))) as_nil)) rfl rfl rfl rfl ?_
   refine zD 9 ?_
   refine d_done (by kernel_rfl) ?_
   refine z ?_
   refine yQ rfl (fun c3 => ?_) fun c3 => ?_
   ·skip
    iterate 10 refine z ?_
    first | rfl | (exfalso; simp_all [sEq])
   ·skip
    iterate 3 refine z ?_
    refine ok_region ?_
    iterate 4 refine z ?_
    refine ⟨k + 1, ?_, ?_, weak_sub ⟨rfl, rfl, rfl, trivial⟩ trivial trivial rfl⟩
    ·omega
    ·omega
  ·skip
   have d2 := of_decide_eq_false c2
   iterate 10 refine z ?_
   first | rfl | (exfalso; simp_all [sEq])
theorem ok_laws_eqStore {x : StoreT}  : PFn Try.prog 116 [.agg [(.dv [] (.str (x.1))), (.dv [] (itemsD (x.2.1))), (.dv [] (.int .i64 (x.2.2)))], .agg [(.dv [] (.str (x.1))), (.dv [] (itemsD (x.2.1))), (.dv [] (.int .i64 (x.2.2)))]] (.one (.dv [] (.bool (true)))) := by
 refine ⟨fn_intro Try.func116 rfl Try.ntmps116 Try.results116 rfl (fun C => ?_)⟩
 refine yF 0 0 rfl rfl fun f0_0 => ?_
 refine yF 0 1 rfl rfl fun f0_1 => ?_
 refine yF 0 2 rfl rfl fun f0_2 => ?_
 refine yF 1 0 rfl rfl fun f1_0 => ?_
 refine yF 1 1 rfl rfl fun f1_1 => ?_
 refine yF 1 2 rfl rfl fun f1_2 => ?_
 iterate 13 refine z ?_
 refine yQ rfl (fun c1 => ?_) fun c1 => ?_
 ·skip
  iterate 6 refine z ?_
  first | rfl | (exfalso; simp_all [sEq])
 ·skip
  iterate 8 refine z ?_
  refine zC Try.call163 ?_ (hf := ok_laws_eqItemS)
  iterate 2 refine z ?_
  refine yQ rfl (fun c2 => ?_) fun c2 => ?_
  ·skip
   iterate 6 refine z ?_
   first | rfl | (exfalso; simp_all [sEq])
  ·skip
   iterate 10 refine z ?_
   refine yQ rfl (fun c3 => ?_) fun c3 => ?_
   ·skip
    have d3 := nd_t c3
    iterate 6 refine z ?_
    first | rfl | (exfalso; simp_all [sEq])
   ·skip
    have d3 := nd_f c3
    iterate 7 refine z ?_
    first | rfl | (exfalso; simp_all [sEq])
end Go.Proofs.Ytlogahkchenpdaa

namespace Go.Proofs.Ytlogahkchenpdaa
open Go.RowKit
open Go.Proofs
set_option linter.unusedVariables false
set_option linter.unusedSimpArgs false
theorem ok_laws_szStoreS {x : List (StoreT)} {left : Int} (h0 : 0 ≤ left) (h1 : left ≤ 1048576) : PFn Try.prog 49 [.one (.dv [] (storesD (x))), .one (.dv [] (.int .i64 (left)))] (.one (.dv [] (.int .i64 (szR (left) (wList wStore x))))) := by
 refine ⟨fn_intro Try.func49 rfl Try.ntmps49 Try.results49 rfl (fun C => ?_)⟩
 refine ok_fact (x := .tmp 0) (ev_tmp rfl) fun f0 => ?_
 refine ok_fact (x := .tmp 1) (ev_tmp rfl) fun f1 => ?_
 iterate 15 refine z ?_
 refine yQ rfl (fun c1 => ?_) fun c1 => ?_
 ·skip
  have d1 := of_decide_eq_true c1
  first | have q1 := szR_n d1 | skip
  iterate 6 refine z ?_
  have hh := szR_cases left (wList wStore x); simp only [wList] at hh ⊢ <;> omega
 ·skip
  have d1 := of_decide_eq_false c1
  first | have q1 := szR_nn d1 | skip
  iterate 7 refine z ?_
  refine ok_loop (ι := Nat × Int) (fun zz => ⟨[(0, .one (.dv [] (storesD (x)))), (1, .one (.dv [] (.int .i64 (zz.2)))), (5, .one (.dv [] (.int .i64 ((zz.1 : Int)))))], [], []⟩) (fun zz => zz.1 ≤ x.length ∧ 0 ≤ zz.2 ∧ zz.2 + (wSum wStore (x.take zz.1) : Int) = left - (x.length : Int)) (fun zz => x.length - zz.1) ((0, left - (x.length : Int))) ?_ (weak_sub ⟨rfl, rfl, rfl, trivial⟩ trivial trivial rfl) (fun zz hx => ?_)
  ·exact ⟨Nat.zero_le _, by omega, by simp [wSum]⟩
  obtain ⟨k, l⟩ := zz
  replace hx : k ≤ x.length ∧ 0 ≤ l ∧ l + (wSum wStore (x.take k) : Int) = left - (x.length : Int) := hx
  obtain ⟨hk, hl, he⟩ := hx
  have hw := fun h => wSum_succ wStore x k h
  show Ok _ _ _ _ _ (⟨[(0, .one (.dv [] (storesD (x)))), (1, .one (.dv [] (.int .i64 (l)))), (5, .one (.dv [] (.int .i64 ((k : Int)))))], [], []⟩ : St)
  iterate 7 refine z ?_
  refine yQ rfl (fun c2 => ?_) fun c2 => ?_
  ·skip
   have d2 := of_decide_eq_true c2
   first | have q2 := szR_n d2 | skip
   iterate 10 refine z ?_
   refine zC Try.call112 ?_ (hf := ok_laws_szStore (by omega) (by omega))
   iterate 6 refine z ?_
   refine yQ rfl (fun c3 => ?_) fun c3 => ?_
   ·skip
    have d3 := of_decide_eq_true c3
    first | have q3 := szR_n d3 | skip
    iterate 10 refine z ?_
    have hw' := hw (by omega); have hh := szR_cases left (wList wStore x); simp only [wList] at hh ⊢ <;> omega
   ·skip
    have d3 := of_decide_eq_false c3
    first | have q3 := szR_nn d3 | skip
    iterate 3 refine z ?_
    refine ok_region ?_
    iterate 4 refine z ?_
    refine ⟨(k + 1, szR l (wStore (x.getD (k : Int).toNat default))), ?_, ?_, weak_sub ⟨rfl, rfl, rfl, trivial⟩ trivial trivial rfl⟩
    ·have hw' := hw (by omega)
     dsimp only
     exact ⟨by omega, by omega, by omega⟩
    ·omega
  ·skip
   have d2 := of_decide_eq_false c2
   first | have q2 := szR_nn d2 | skip
   iterate 11 refine z ?_
   have hw' := wSum_all wStore x k (by omega); have hh := szR_cases left (wList wStore x); simp only [wList] at hh ⊢ <;> omega
theorem ok_laws_toStoreS {x : List (StoreT)} (hb : wList wStore x ≤ 1048576) : KFn Try.prog 52 [.one (.dv [] (storesD (x)))] (.one (.key 7)) [(7, some (kcOf false (storesD (x))))] := by
 refine ⟨fn_intro Try.func52 rfl Try.ntmps52 Try.results52 rfl (fun C => ?_)⟩
 refine ok_fact (x := .tmp 0) (ev_tmp rfl) fun f0 => ?_
 iterate 6 refine z ?_
 refine o_make (k := 7) (n := ((x)).length) (zd := [.str (ByteArray.empty), .sl 150 4 0 [], .int .i64 (0)]) (cs := fillD eStore [.str (ByteArray.empty), .sl 150 4 0 [], .int .i64 (0)] x 0) hT rfl rfl rfl rfl rfl rfl (ev_tmp rfl) (ev_tmp rfl) rfl rfl rfl (by have := wList_len wStore x; omega) rfl rfl fillD_zero ?_
 iterate 7 refine z ?_
 refine ok_loop (ι := Nat) (fun zz => ⟨[(0, .one (.dv [] (storesD (x)))), (3, .one (.key 7)), (4, .one (.dv [] (.int .i64 ((zz : Int)))))], [], [(7, some (kcOf false (.sl 82 3 ((x).length) (fillD eStore [.str (ByteArray.empty), .sl 150 4 0 [], .int .i64 (0)] x zz))))]⟩) (fun zz => zz ≤ x.length) (fun zz => x.length - zz) (0) ?_ (weak_sub ⟨rfl, rfl, rfl, trivial⟩ trivial ⟨rfl, trivial⟩ rfl) (fun zz hx => ?_)
 ·exact Nat.zero_le _
 obtain ⟨k, rfl⟩ : ∃ v, v = zz := ⟨_, rfl⟩
 replace hx : k ≤ x.length := hx
 have hw := fun h => wSum_succ wStore x k h
 have hw2 := wSum_le wStore x (k + 1)
 have hw3 : wList wStore x = x.length + wSum wStore x := rfl
 show Ok _ _ _ _ _ (⟨[(0, .one (.dv [] (storesD (x)))), (3, .one (.key 7)), (4, .one (.dv [] (.int .i64 ((k : Int)))))], [], [(7, some (kcOf false (.sl 82 3 ((x).length) (fillD eStore [.str (ByteArray.empty), .sl 150 4 0 [], .int .i64 (0)] x k))))]⟩ : St)
 iterate 7 refine z ?_
 refine yQ rfl (fun c1 => ?_) fun c1 => ?_
 ·skip
  have d1 := of_decide_eq_true c1
  iterate 4 refine z ?_
  refine ok_region ?_
  iterate 6 refine z ?_
  refine zK 20000 Try.call114 ?_ (hf := ok_laws_toStore (by first | omega | (simp only [wKey, wField, wRecord, wItem, wStore, wIndexDef, wDatabase, wOp, wTx, wTxQueue] at hb ⊢; omega) | (have hq := hw (by omega); omega)))
  refine yO rfl rfl (pu_indexK (i := k) hT rfl rfl rfl (ev_tmp rfl) rfl (ev_tmp rfl) rfl (by show _ < ((x).length); omega)) rfl ?_
  refine o_storeE (js := [29007]) (cs := fillD eStore [.str (ByteArray.empty), .sl 150 4 0 [], .int .i64 (0)] x (k + 1)) hT rfl rfl rfl rfl (ev_tmp rfl) (ev_tmp rfl) rfl rfl rfl rfl (ow_cons' (ow_dv rfl) (ow_cons' (ow_key rfl) (ow_cons' (ow_dv rfl) ow_nil rfl) rfl) rfl) (by decide) (by decide) rfl (by show _ ≤ List.length (fillD eStore [.str (ByteArray.empty), .sl 150 4 0 [], .int .i64 (0)] x k); rw [fillD_len (sz := 3) (fun _ => rfl) rfl]; omega) (fillD_succ (sz := 3) (fun _ => rfl) rfl (by omega) rfl) ?_
  simp only [killT, killB, SV.kill, CV.kill, kk, Nat.reduceBEq]
  refine ops_nil ?_
  iterate 2 refine z ?_
  refine ok_region ?_
  iterate 4 refine z ?_
  refine ⟨k + 1, ?_, ?_, weak_sub ⟨rfl, rfl, rfl, trivial⟩ trivial ⟨rfl, trivial⟩ rfl⟩
  ·omega
  ·omega
 ·skip
  have d1 := of_decide_eq_false c1
  iterate 9 refine z ?_
  refine ok_weak (σ' := ⟨[(2, .one (.key 7))], [], [(7, some (kcOf false (storesD (x))))]⟩) (weak_sub ⟨rfl, trivial⟩ trivial ⟨(congrArg (fun cs => some (some (KC.mk false 82 3 x.length cs))) (fillD_all (by omega))), trivial⟩ rfl) ?_
  refine z ?_
  refine fin1 (res_tmp rfl) ?_
  exact ⟨rfl, rfl⟩
theorem ok_laws_eqStoreS {x : List (StoreT)}  : PFn Try.prog 55 [.one (.dv [] (storesD (x))), .one (.dv [] (storesD (x)))] (.one (.dv [] (.bool (true)))) := by
 refine ⟨fn_intro Try.func55 rfl Try.ntmps55 Try.results55 rfl (fun C => ?_)⟩
 refine ok_fact (x := .tmp 0) (ev_tmp rfl) fun f0 => ?_
 refine ok_fact (x := .tmp 1) (ev_tmp rfl) fun f1 => ?_
 iterate 11 refine z ?_
 refine yQ rfl (fun c1 => ?_) fun c1 => ?_
 ·skip
  have d1 := nd_t c1
  iterate 6 refine z ?_
  first | rfl | (exfalso; simp_all [sEq])
 ·skip
  have d1 := nd_f c1
  iterate 7 refine z ?_
  refine ok_loop (ι := Nat) (fun zz => ⟨[(0, .one (.dv [] (storesD (x)))), (1, .one (.dv [] (storesD (x)))), (5, .one (.dv [] (.int .i64 ((zz : Int)))))], [], []⟩) (fun zz => zz ≤ x.length) (fun zz => x.length - zz) (0) ?_ (weak_sub ⟨rfl, rfl, rfl, trivial⟩ trivial trivial rfl) (fun zz hx => ?_)
  ·exact Nat.zero_le _
  obtain ⟨k, rfl⟩ : ∃ v, v = zz := ⟨_, rfl⟩
  replace hx : k ≤ x.length := hx
  show Ok _ _ _ _ _ (⟨[(0, .one (.dv [] (storesD (x)))), (1, .one (.dv [] (storesD (x)))), (5, .one (.dv [] (.int .i64 ((k : Int)))))], [], []⟩ : St)
  iterate 7 refine z ?_
  refine yQ rfl (fun c2 => ?_) fun c2 => ?_
  ·skip
   have d2 := of_decide_eq_true c2
   iterate 4 refine z ?_
   refine ok_seq ?_
   refine ok_regionD (oB := []) (oK := []) (by kernel_rfl) rfl rfl ?_
   refine zD 0 ?_
   refine zD 1 ?_
   refine zD 2 ?_
   refine zD 3 ?_
   refine zD 4 ?_
   refine zD 5 ?_
   refine zD 6 ?_
   refine zD 7 ?_
   refine d_call 8 rfl (by kernel_rfl) rfl rfl rfl Try.call116 ok_laws_eqStore (as_cons (ev_tmp rfl) (ag_agg (ag_cons ac_dv (ag_cons ac_dv (ag_cons ac_dv ag_nil)))) (as_cons (ev_tmp rfl) (ag_agg (ag_cons ac_dv (ag_cons ac_dv (ag_cons ac_dv ag_nil)))) as_nil)) rfl rfl rfl rfl ?_
   refine zD 9 ?_
   refine d_done (by kernel_rfl) ?_
   refine z ?_
   refine yQ rfl (fun c3 => ?_) fun c3 => ?_
   ·skip
    iterate 10 refine z ?_
    first | rfl | (exfalso; simp_all [sEq])
   ·skip
    iterate 3 refine z ?_
    refine ok_region ?_
    iterate 4 refine z ?_
    refine ⟨k + 1, ?_, ?_, weak_sub ⟨rfl, rfl, rfl, trivial⟩ trivial trivial rfl⟩
    ·omega
    ·omega
  ·skip
   have d2 := of_decide_eq_false c2
   iterate 10 refine z ?_
   first | rfl | (exfalso; simp_all [sEq])
theorem ok_laws_szIndexDef {x : DefT} {left : Int} (h0 : 0 ≤ left) (h1 : left ≤ 1048576) : PFn Try.prog 113 [.agg [(.dv [] (.str (x.1))), (.dv [] (.str (x.2)))], .one (.dv [] (.int .i64 (left)))] (.one (.dv [] (.int .i64 (szR (left) (wIndexDef x))))) := by
 refine ⟨fn_intro Try.func113 rfl Try.ntmps113 Try.results113 rfl (fun C => ?_)⟩
 refine yF 0 0 rfl rfl fun f0_0 => ?_
 refine yF 0 1 rfl rfl fun f0_1 => ?_
 refine ok_fact (x := .tmp 1) (ev_tmp rfl) fun f1 => ?_
 iterate 17 refine z ?_
 refine yQ rfl (fun c1 => ?_) fun c1 => ?_
 ·skip
  have d1 := of_decide_eq_true c1
  first | have q1 := szR_n d1 | skip
  iterate 6 refine z ?_
  have hh := szR_cases left (wIndexDef x); simp only [wIndexDef] at hh ⊢ <;> omega
 ·skip
  have d1 := of_decide_eq_false c1
  first | have q1 := szR_nn d1 | skip
  iterate 15 refine z ?_
  refine yQ rfl (fun c2 => ?_) fun c2 => ?_
  ·skip
   have d2 := of_decide_eq_true c2
   first | have q2 := szR_n d2 | skip
   iterate 6 refine z ?_
   have hh := szR_cases left (wIndexDef x); simp only [wIndexDef] at hh ⊢ <;> omega
  ·skip
   have d2 := of_decide_eq_false c2
   first | have q2 := szR_nn d2 | skip
   iterate 8 refine z ?_
   have hh := szR_cases left (wIndexDef x); simp only [wIndexDef] at hh ⊢ <;> omega
theorem ok_laws_szIndexDefS {x : List (DefT)} {left : Int} (h0 : 0 ≤ left) (h1 : left ≤ 1048576) : PFn Try.prog 50 [.one (.dv [] (defsD (x))), .one (.dv [] (.int .i64 (left)))] (.one (.dv [] (.int .i64 (szR (left) (wList wIndexDef x))))) := by
 refine ⟨fn_intro Try.func50 rfl Try.ntmps50 Try.results50 rfl (fun C => ?_)⟩
 refine ok_fact (x := .tmp 0) (ev_tmp rfl) fun f0 => ?_
 refine ok_fact (x := .tmp 1) (ev_tmp rfl) fun f1 => ?_
 iterate 15 refine z ?_
 refine yQ rfl (fun c1 => ?_) fun c1 => ?_
 ·skip
  have d1 := of_decide_eq_true c1
  first | have q1 := szR_n d1 | skip
  iterate 6 refine z ?_
  have hh := szR_cases left (wList wIndexDef x); simp only [wList] at hh ⊢ <;> omega
 ·skip
  have d1 := of_decide_eq_false c1
  first | have q1 := szR_nn d1 | skip
  iterate 7 refine z ?_
  refine ok_loop (ι := Nat × Int) (fun zz => ⟨[(0, .one (.dv [] (defsD (x)))), (1, .one (.dv [] (.int .i64 (zz.2)))), (5, .one (.dv [] (.int .i64 ((zz.1 : Int)))))], [], []⟩) (fun zz => zz.1 ≤ x.length ∧ 0 ≤ zz.2 ∧ zz.2 + (wSum wIndexDef (x.take zz.1) : Int) = left - (x.length : Int)) (fun zz => x.length - zz.1) ((0, left - (x.length : Int))) ?_ (weak_sub ⟨rfl, rfl, rfl, trivial⟩ trivial trivial rfl) (fun zz hx => ?_)
  ·exact ⟨Nat.zero_le _, by omega, by simp [wSum]⟩
  obtain ⟨k, l⟩ := zz
  replace hx : k ≤ x.length ∧ 0 ≤ l ∧ l + (wSum wIndexDef (x.take k) : Int) = left - (x.length : Int) := hx
  obtain ⟨hk, hl, he⟩ := hx
  have hw := fun h => wSum_succ wIndexDef x k h
  show Ok _ _ _ _ _ (⟨[(0, .one (.dv [] (defsD (x)))), (1, .one (.dv [] (.int .i64 (l)))), (5, .one (.dv [] (.int .i64 ((k : Int)))))], [], []⟩ : St)
  iterate 7 refine z ?_
  refine yQ rfl (fun c2 => ?_) fun c2 => ?_
  ·skip
   have d2 := of_decide_eq_true c2
   first | have q2 := szR_n d2 | skip
   iterate 10 refine z ?_
   refine zC Try.call113 ?_ (hf := ok_laws_szIndexDef (by omega) (by omega))
   iterate 6 refine z ?_
   refine yQ rfl (fun c3 => ?_) fun c3 => ?_
   ·skip
    have d3 := of_decide_eq_true c3
    first | have q3 := szR_n d3 | skip
    iterate 10 refine z ?_
    have hw' := hw (by omega); have hh := szR_cases left (wList wIndexDef x); simp only [wList] at hh ⊢ <;> omega
   ·skip
    have d3 := of_decide_eq_false c3
    first | have q3 := szR_nn d3 | skip
    iterate 3 refine z ?_
    refine ok_region ?_
    iterate 4 refine z ?_
    refine ⟨(k + 1, szR l (wIndexDef (x.getD (k : Int).toNat default))), ?_, ?_, weak_sub ⟨rfl, rfl, rfl, trivial⟩ trivial trivial rfl⟩
    ·have hw' := hw (by omega)
     dsimp only
     exact ⟨by omega, by omega, by omega⟩
    ·omega
  ·skip
   have d2 := of_decide_eq_false c2
   first | have q2 := szR_nn d2 | skip
   iterate 11 refine z ?_
   have hw' := wSum_all wIndexDef x k (by omega); have hh := szR_cases left (wList wIndexDef x); simp only [wList] at hh ⊢ <;> omega
theorem ok_laws_toIndexDef {x : DefT}  : PFn Try.prog 115 [.agg [(.dv [] (.str (x.1))), (.dv [] (.str (x.2)))]] (.agg [(.dv [] (.str (x.1))), (.dv [] (.str (x.2)))]) := by
 refine ⟨fn_intro Try.func115 rfl Try.ntmps115 Try.results115 rfl (fun C => ?_)⟩
 refine yF 0 0 rfl rfl fun f0_0 => ?_
 refine yF 0 1 rfl rfl fun f0_1 => ?_
 iterate 24 refine z ?_
 refine fin1 (res_cell hT rfl rfl rfl rfl) ?_
 rfl
theorem ok_laws_toIndexDefS {x : List (DefT)} (hb : wList wIndexDef x ≤ 1048576) : KFn Try.prog 53 [.one (.dv [] (defsD (x)))] (.one (.key 7)) [(7, some (kcOf false (defsD (x))))] := by
 refine ⟨fn_intro Try.func53 rfl Try.ntmps53 Try.results53 rfl (fun C => ?_)⟩
 refine ok_fact (x := .tmp 0) (ev_tmp rfl) fun f0 => ?_
 iterate 6 refine z ?_
 refine o_make (k := 7) (n := ((x)).length) (zd := [.str (ByteArray.empty), .str (ByteArray.empty)]) (cs := fillD eDef [.str (ByteArray.empty), .str (ByteArray.empty)] x 0) hT rfl rfl rfl rfl rfl rfl (ev_tmp rfl) (ev_tmp rfl) rfl rfl rfl (by have := wList_len wIndexDef x; omega) rfl rfl fillD_zero ?_
 iterate 7 refine z ?_
 refine ok_loop (ι := Nat) (fun zz => ⟨[(0, .one (.dv [] (defsD (x)))), (3, .one (.key 7)), (4, .one (.dv [] (.int .i64 ((zz : Int)))))], [], [(7, some (kcOf false (.sl 129 2 ((x).length) (fillD eDef [.str (ByteArray.empty), .str (ByteArray.empty)] x zz))))]⟩) (fun zz => zz ≤ x.length) (fun zz => x.length - zz) (0) ?_ (weak_sub ⟨rfl, rfl, rfl, trivial⟩ trivial ⟨rfl, trivial⟩ rfl) (fun zz hx => ?_)
 ·exact Nat.zero_le _
 obtain ⟨k, rfl⟩ : ∃ v, v = zz := ⟨_, rfl⟩
 replace hx : k ≤ x.length := hx
 have hw := fun h => wSum_succ wIndexDef x k h
 have hw2 := wSum_le wIndexDef x (k + 1)
 have hw3 : wList wIndexDef x = x.length + wSum wIndexDef x := rfl
 show Ok _ _ _ _ _ (⟨[(0, .one (.dv [] (defsD (x)))), (3, .one (.key 7)), (4, .one (.dv [] (.int .i64 ((k : Int)))))], [], [(7, some (kcOf false (.sl 129 2 ((x).length) (fillD eDef [.str (ByteArray.empty), .str (ByteArray.empty)] x k))))]⟩ : St)
 iterate 7 refine z ?_
 refine yQ rfl (fun c1 => ?_) fun c1 => ?_
 ·skip
  have d1 := of_decide_eq_true c1
  iterate 4 refine z ?_
  refine ok_region ?_
  iterate 6 refine z ?_
  refine zC Try.call115 ?_ (hf := ok_laws_toIndexDef)
  refine yO rfl rfl (pu_indexK (i := k) hT rfl rfl rfl (ev_tmp rfl) rfl (ev_tmp rfl) rfl (by show _ < ((x).length); omega)) rfl ?_
  refine o_storeE (js := []) (cs := fillD eDef [.str (ByteArray.empty), .str (ByteArray.empty)] x (k + 1)) hT rfl rfl rfl rfl (ev_tmp rfl) (ev_tmp rfl) rfl rfl rfl rfl (ow_cons' (ow_dv rfl) (ow_cons' (ow_dv rfl) ow_nil rfl) rfl) (by decide) (by decide) rfl (by show _ ≤ List.length (fillD eDef [.str (ByteArray.empty), .str (ByteArray.empty)] x k); rw [fillD_len (sz := 2) (fun _ => rfl) rfl]; omega) (fillD_succ (sz := 2) (fun _ => rfl) rfl (by omega) rfl) ?_
  simp only [killT, killB, SV.kill, CV.kill, kk, Nat.reduceBEq]
  refine ops_nil ?_
  iterate 2 refine z ?_
  refine ok_region ?_
  iterate 4 refine z ?_
  refine ⟨k + 1, ?_, ?_, weak_sub ⟨rfl, rfl, rfl, trivial⟩ trivial ⟨rfl, trivial⟩ rfl⟩
  ·omega
  ·omega
 ·skip
  have d1 := of_decide_eq_false c1
  iterate 9 refine z ?_
  refine ok_weak (σ' := ⟨[(2, .one (.key 7))], [], [(7, some (kcOf false (defsD (x))))]⟩) (weak_sub ⟨rfl, trivial⟩ trivial ⟨(congrArg (fun cs => some (some (KC.mk false 129 2 x.length cs))) (fillD_all (by omega))), trivial⟩ rfl) ?_
  refine z ?_
  refine fin1 (res_tmp rfl) ?_
  exact ⟨rfl, rfl⟩
theorem ok_laws_eqIndexDef {x : DefT}  : PFn Try.prog 117 [.agg [(.dv [] (.str (x.1))), (.dv [] (.str (x.2)))], .agg [(.dv [] (.str (x.1))), (.dv [] (.str (x.2)))]] (.one (.dv [] (.bool (true)))) := by
 refine ⟨fn_intro Try.func117 rfl Try.ntmps117 Try.results117 rfl (fun C => ?_)⟩
 refine yF 0 0 rfl rfl fun f0_0 => ?_
 refine yF 0 1 rfl rfl fun f0_1 => ?_
 refine yF 1 0 rfl rfl fun f1_0 => ?_
 refine yF 1 1 rfl rfl fun f1_1 => ?_
 iterate 13 refine z ?_
 refine yQ rfl (fun c1 => ?_) fun c1 => ?_
 ·skip
  iterate 6 refine z ?_
  first | rfl | (exfalso; simp_all [sEq])
 ·skip
  iterate 10 refine z ?_
  refine yQ rfl (fun c2 => ?_) fun c2 => ?_
  ·skip
   iterate 6 refine z ?_
   first | rfl | (exfalso; simp_all [sEq])
  ·skip
   iterate 7 refine z ?_
   first | rfl | (exfalso; simp_all [sEq])
theorem ok_laws_eqIndexDefS {x : List (DefT)}  : PFn Try.prog 56 [.one (.dv [] (defsD (x))), .one (.dv [] (defsD (x)))] (.one (.dv [] (.bool (true)))) := by
 refine ⟨fn_intro Try.func56 rfl Try.ntmps56 Try.results56 rfl (fun C => ?_)⟩
 refine ok_fact (x := .tmp 0) (ev_tmp rfl) fun f0 => ?_
 refine ok_fact (x := .tmp 1) (ev_tmp rfl) fun f1 => ?_
 iterate 11 refine z ?_
 refine yQ rfl (fun c1 => ?_) fun c1 => ?_
 ·skip
  have d1 := nd_t c1
  iterate 6 refine z ?_
  first | rfl | (exfalso; simp_all [sEq])
 ·skip
  have d1 := nd_f c1
  iterate 7 refine z ?_
  refine ok_loop (ι := Nat) (fun zz => ⟨[(0, .one (.dv [] (defsD (x)))), (1, .one (.dv [] (defsD (x)))), (5, .one (.dv [] (.int .i64 ((zz : Int)))))], [], []⟩) (fun zz => zz ≤ x.length) (fun zz => x.length - zz) (0) ?_ (weak_sub ⟨rfl, rfl, rfl, trivial⟩ trivial trivial rfl) (fun zz hx => ?_)
  ·exact Nat.zero_le _
  obtain ⟨k, rfl⟩ : ∃ v, v = zz := ⟨_, rfl⟩
  replace hx : k ≤ x.length := hx
  show Ok _ _ _ _ _ (⟨[(0, .one (.dv [] (defsD (x)))), (1, .one (.dv [] (defsD (x)))), (5, .one (.dv [] (.int .i64 ((k : Int)))))], [], []⟩ : St)
  iterate 7 refine z ?_
  refine yQ rfl (fun c2 => ?_) fun c2 => ?_
  ·skip
   have d2 := of_decide_eq_true c2
   iterate 4 refine z ?_
   refine ok_seq ?_
   refine ok_regionD (oB := []) (oK := []) (by kernel_rfl) rfl rfl ?_
   refine zD 0 ?_
   refine zD 1 ?_
   refine zD 2 ?_
   refine zD 3 ?_
   refine zD 4 ?_
   refine zD 5 ?_
   refine zD 6 ?_
   refine zD 7 ?_
   refine d_call 8 rfl (by kernel_rfl) rfl rfl rfl Try.call117 ok_laws_eqIndexDef (as_cons (ev_tmp rfl) (ag_agg (ag_cons ac_dv (ag_cons ac_dv ag_nil))) (as_cons (ev_tmp rfl) (ag_agg (ag_cons ac_dv (ag_cons ac_dv ag_nil))) as_nil)) rfl rfl rfl rfl ?_
   refine zD 9 ?_
   refine d_done (by kernel_rfl) ?_
   refine z ?_
   refine yQ rfl (fun c3 => ?_) fun c3 => ?_
   ·skip
    iterate 10 refine z ?_
    first | rfl | (exfalso; simp_all [sEq])
   ·skip
    iterate 3 refine z ?_
    refine ok_region ?_
    iterate 4 refine z ?_
    refine ⟨k + 1, ?_, ?_, weak_sub ⟨rfl, rfl, rfl, trivial⟩ trivial trivial rfl⟩
    ·omega
    ·omega
  ·skip
   have d2 := of_decide_eq_false c2
   iterate 10 refine z ?_
   first | rfl | (exfalso; simp_all [sEq])
theorem ok_laws_szDatabase {x : DbT} {left : Int} (h0 : 0 ≤ left) (h1 : left ≤ 1048576) : PFn Try.prog 11 [.agg [(.dv [] (.str (x.1))), (.dv [] (.int .i64 (x.2.1))), (.dv [] (storesD (x.2.2.1))), (.dv [] (defsD (x.2.2.2)))], .one (.dv [] (.int .i64 (left)))] (.one (.dv [] (.int .i64 (szR (left) (wDatabase x))))) := by
 refine ⟨fn_intro Try.func11 rfl Try.ntmps11 Try.results11 rfl (fun C => ?_)⟩
 refine yF 0 0 rfl rfl fun f0_0 => ?_
 refine yF 0 1 rfl rfl fun f0_1 => ?_
 refine yF 0 2 rfl rfl fun f0_2 => ?_
 refine yF 0 3 rfl rfl fun f0_3 => ?_
 refine ok_fact (x := .tmp 1) (ev_tmp rfl) fun f1 => ?_
 iterate 17 refine z ?_
 refine yQ rfl (fun c1 => ?_) fun c1 => ?_
 ·skip
  have d1 := of_decide_eq_true c1
  first | have q1 := szR_n d1 | skip
  iterate 6 refine z ?_
  have hh := szR_cases left (wDatabase x); simp only [wDatabase] at hh ⊢ <;> omega
 ·skip
  have d1 := of_decide_eq_false c1
  first | have q1 := szR_nn d1 | skip
  iterate 6 refine z ?_
  refine zC Try.call49 ?_ (hf := ok_laws_szStoreS (by omega) (by omega))
  iterate 7 refine z ?_
  refine yQ rfl (fun c2 => ?_) fun c2 => ?_
  ·skip
   have d2 := of_decide_eq_true c2
   first | have q2 := szR_n d2 | skip
   iterate 6 refine z ?_
   have hh := szR_cases left (wDatabase x); simp only [wDatabase] at hh ⊢ <;> omega
  ·skip
   have d2 := of_decide_eq_false c2
   first | have q2 := szR_nn d2 | skip
   iterate 6 refine z ?_
   refine zC Try.call50 ?_ (hf := ok_laws_szIndexDefS (by omega) (by omega))
   iterate 7 refine z ?_
   refine yQ rfl (fun c3 => ?_) fun c3 => ?_
   ·skip
    have d3 := of_decide_eq_true c3
    first | have q3 := szR_n d3 | skip
    iterate 6 refine z ?_
    have hh := szR_cases left (wDatabase x); simp only [wDatabase] at hh ⊢ <;> omega
   ·skip
    have d3 := of_decide_eq_false c3
    first | have q3 := szR_nn d3 | skip
    iterate 8 refine z ?_
    have hh := szR_cases left (wDatabase x); simp only [wDatabase] at hh ⊢ <;> omega
theorem ok_laws_toDatabase {x : DbT} (hb : wDatabase x ≤ 1048576) : KFn Try.prog 13 [.agg [(.dv [] (.str (x.1))), (.dv [] (.int .i64 (x.2.1))), (.dv [] (storesD (x.2.2.1))), (.dv [] (defsD (x.2.2.2)))]] (.agg [(.dv [] (.str (x.1))), (.dv [] (.int .i64 (x.2.1))), (.key 12007), (.key 16007)]) [(12007, some (kcOf false (storesD (x.2.2.1)))), (16007, some (kcOf false (defsD (x.2.2.2))))] := by
 refine ⟨fn_intro Try.func13 rfl Try.ntmps13 Try.results13 rfl (fun C => ?_)⟩
 refine yF 0 0 rfl rfl fun f0_0 => ?_
 refine yF 0 1 rfl rfl fun f0_1 => ?_
 refine yF 0 2 rfl rfl fun f0_2 => ?_
 refine yF 0 3 rfl rfl fun f0_3 => ?_
 iterate 22 refine z ?_
 refine zK 12000 Try.call52 ?_ (hf := ok_laws_toStoreS (by first | omega | (simp only [wKey, wField, wRecord, wItem, wStore, wIndexDef, wDatabase, wOp, wTx, wTxQueue] at hb ⊢; omega) | (have hq := hw (by omega); omega)))
 iterate 6 refine z ?_
 refine zK 16000 Try.call53 ?_ (hf := ok_laws_toIndexDefS (by first | omega | (simp only [wKey, wField, wRecord, wItem, wStore, wIndexDef, wDatabase, wOp, wTx, wTxQueue] at hb ⊢; omega) | (have hq := hw (by omega); omega)))
 iterate 7 refine z ?_
 refine ok_weak (σ' := ⟨[(2, .box 2 0)], [(2, 31, [(.dv [] (.str (x.1))), (.dv [] (.int .i64 (x.2.1))), (.key 12007), (.key 16007)])], [(12007, some (kcOf false (storesD (x.2.2.1)))), (16007, some (kcOf false (defsD (x.2.2.2))))]⟩) (weak_sub ⟨rfl, trivial⟩ ⟨rfl, trivial⟩ ⟨rfl, rfl, trivial⟩ rfl) ?_
 refine z ?_
 refine fin1 (res_cell hT rfl rfl rfl rfl) ?_
 exact ⟨rfl, rfl⟩
theorem ok_laws_eqDatabase {x : DbT}  : PFn Try.prog 15 [.agg [(.dv [] (.str (x.1))), (.dv [] (.int .i64 (x.2.1))), (.dv [] (storesD (x.2.2.1))), (.dv [] (defsD (x.2.2.2)))], .agg [(.dv [] (.str (x.1))), (.dv [] (.int .i64 (x.2.1))), (.dv [] (storesD (x.2.2.1))), (.dv [] (defsD (x.2.2.2)))]] (.one (.dv [] (.bool (true)))) := by
 refine ⟨fn_intro Try.func15 rfl Try.ntmps15 Try.results15 rfl (fun C => ?_)⟩
 refine yF 0 0 rfl rfl fun f0_0 => ?_
 refine yF 0 1 rfl rfl fun f0_1 => ?_
 refine yF 0 2 rfl rfl fun f0_2 => ?_
 refine yF 0 3 rfl rfl fun f0_3 => ?_
 refine yF 1 0 rfl rfl fun f1_0 => ?_
 refine yF 1 1 rfl rfl fun f1_1 => ?_
 refine yF 1 2 rfl rfl fun f1_2 => ?_
 refine yF 1 3 rfl rfl fun f1_3 => ?_
 iterate 13 refine z ?_
 refine yQ rfl (fun c1 => ?_) fun c1 => ?_
 ·skip
  iterate 6 refine z ?_
  first | rfl | (exfalso; simp_all [sEq])
 ·skip
  iterate 10 refine z ?_
  refine yQ rfl (fun c2 => ?_) fun c2 => ?_
  ·skip
   have d2 := nd_t c2
   iterate 6 refine z ?_
   first | rfl | (exfalso; simp_all [sEq])
  ·skip
   have d2 := nd_f c2
   iterate 8 refine z ?_
   refine zC Try.call55 ?_ (hf := ok_laws_eqStoreS)
   iterate 2 refine z ?_
   refine yQ rfl (fun c3 => ?_) fun c3 => ?_
   ·skip
    iterate 6 refine z ?_
    first | rfl | (exfalso; simp_all [sEq])
   ·skip
    iterate 8 refine z ?_
    refine zC Try.call56 ?_ (hf := ok_laws_eqIndexDefS)
    iterate 2 refine z ?_
    refine yQ rfl (fun c4 => ?_) fun c4 => ?_
    ·skip
     iterate 6 refine z ?_
     first | rfl | (exfalso; simp_all [sEq])
    ·skip
     iterate 7 refine z ?_
     first | rfl | (exfalso; simp_all [sEq])
end Go.Proofs.Ytlogahkchenpdaa

namespace Go.Proofs.Ytlogahkchenpdaa
open Go.RowKit
open Go.Proofs
set_option linter.unusedVariables false
set_option linter.unusedSimpArgs false
def wDisk (x : DiskT) : Nat := wDatabase (x.1) + (x.2.1).length
theorem ok_laws_szByteS {x : List UInt8} {left : Int} (h0 : 0 ≤ left) (h1 : left ≤ 1048576) : PFn Try.prog 57 [.one (.dv [] (bytesD (x))), .one (.dv [] (.int .i64 (left)))] (.one (.dv [] (.int .i64 (szR (left) ((x).length))))) := by
 refine ⟨fn_intro Try.func57 rfl Try.ntmps57 Try.results57 rfl (fun C => ?_)⟩
 refine ok_fact (x := .tmp 0) (ev_tmp rfl) fun f0 => ?_
 refine ok_fact (x := .tmp 1) (ev_tmp rfl) fun f1 => ?_
 iterate 15 refine z ?_
 refine yQ rfl (fun c1 => ?_) fun c1 => ?_
 ·skip
  have d1 := of_decide_eq_true c1
  first | have q1 := szR_n d1 | skip
  iterate 6 refine z ?_
  have hh := szR_cases left (x.length); omega
 ·skip
  have d1 := of_decide_eq_false c1
  first | have q1 := szR_nn d1 | skip
  iterate 8 refine z ?_
  have hh := szR_cases left (x.length); omega
theorem ok_laws_toByteS {x : List UInt8} (hb : x.length ≤ 1048576) : KFn Try.prog 31 [.one (.dv [] (bytesD (x)))] (.one (.key 7)) [(7, some (kcOf false (bytesD (x))))] := by
 refine ⟨fn_intro Try.func31 rfl Try.ntmps31 Try.results31 rfl (fun C => ?_)⟩
 refine ok_fact (x := .tmp 0) (ev_tmp rfl) fun f0 => ?_
 iterate 6 refine z ?_
 refine o_make (k := 7) (n := ((x)).length) (zd := [.int .u8 (0)]) (cs := fillD eByte [.int .u8 (0)] x 0) hT rfl rfl rfl rfl rfl rfl (ev_tmp rfl) (ev_tmp rfl) rfl rfl rfl (by omega) rfl rfl fillD_zero ?_
 iterate 7 refine z ?_
 refine ok_loop (ι := Nat) (fun zz => ⟨[(0, .one (.dv [] (bytesD (x)))), (3, .one (.key 7)), (4, .one (.dv [] (.int .i64 ((zz : Int)))))], [], [(7, some (kcOf false (.sl 5 1 ((x).length) (fillD eByte [.int .u8 (0)] x zz))))]⟩) (fun zz => zz ≤ x.length) (fun zz => x.length - zz) (0) ?_ (weak_sub ⟨rfl, rfl, rfl, trivial⟩ trivial ⟨rfl, trivial⟩ rfl) (fun zz hx => ?_)
 ·exact Nat.zero_le _
 obtain ⟨k, rfl⟩ : ∃ v, v = zz := ⟨_, rfl⟩
 replace hx : k ≤ x.length := hx
 show Ok _ _ _ _ _ (⟨[(0, .one (.dv [] (bytesD (x)))), (3, .one (.key 7)), (4, .one (.dv [] (.int .i64 ((k : Int)))))], [], [(7, some (kcOf false (.sl 5 1 ((x).length) (fillD eByte [.int .u8 (0)] x k))))]⟩ : St)
 iterate 7 refine z ?_
 refine yQ rfl (fun c1 => ?_) fun c1 => ?_
 ·skip
  have d1 := of_decide_eq_true c1
  iterate 4 refine z ?_
  refine ok_region ?_
  iterate 6 refine z ?_
  refine yO rfl rfl (pu_indexK (i := k) hT rfl rfl rfl (ev_tmp rfl) rfl (ev_tmp rfl) rfl (by show _ < ((x).length); omega)) rfl ?_
  refine o_storeE (js := []) (cs := fillD eByte [.int .u8 (0)] x (k + 1)) hT rfl rfl rfl rfl (ev_tmp rfl) (ev_tmp rfl) rfl rfl rfl rfl (ow_cons' (ow_dv rfl) ow_nil rfl) (by decide) (by decide) rfl (by show _ ≤ List.length (fillD eByte [.int .u8 (0)] x k); rw [fillD_len (sz := 1) (fun _ => rfl) rfl]; omega) (fillD_succ (sz := 1) (fun _ => rfl) rfl (by omega) rfl) ?_
  simp only [killT, killB, SV.kill, CV.kill, kk, Nat.reduceBEq]
  refine ops_nil ?_
  iterate 2 refine z ?_
  refine ok_region ?_
  iterate 4 refine z ?_
  refine ⟨k + 1, ?_, ?_, weak_sub ⟨rfl, rfl, rfl, trivial⟩ trivial ⟨rfl, trivial⟩ rfl⟩
  ·omega
  ·omega
 ·skip
  have d1 := of_decide_eq_false c1
  iterate 9 refine z ?_
  refine ok_weak (σ' := ⟨[(2, .one (.key 7))], [], [(7, some (kcOf false (bytesD (x))))]⟩) (weak_sub ⟨rfl, trivial⟩ trivial ⟨(congrArg (fun cs => some (some (KC.mk false 5 1 x.length cs))) (fillD_all (by omega))), trivial⟩ rfl) ?_
  refine z ?_
  refine fin1 (res_tmp rfl) ?_
  exact ⟨rfl, rfl⟩
theorem ok_laws_eqByteS {x : List UInt8}  : PFn Try.prog 25 [.one (.dv [] (bytesD (x))), .one (.dv [] (bytesD (x)))] (.one (.dv [] (.bool (true)))) := by
 refine ⟨fn_intro Try.func25 rfl Try.ntmps25 Try.results25 rfl (fun C => ?_)⟩
 refine ok_fact (x := .tmp 0) (ev_tmp rfl) fun f0 => ?_
 refine ok_fact (x := .tmp 1) (ev_tmp rfl) fun f1 => ?_
 iterate 11 refine z ?_
 refine yQ rfl (fun c1 => ?_) fun c1 => ?_
 ·skip
  have d1 := nd_t c1
  iterate 6 refine z ?_
  first | rfl | (exfalso; simp_all)
 ·skip
  have d1 := nd_f c1
  iterate 7 refine z ?_
  refine ok_loop (ι := Nat) (fun zz => ⟨[(0, .one (.dv [] (bytesD (x)))), (1, .one (.dv [] (bytesD (x)))), (5, .one (.dv [] (.int .i64 ((zz : Int)))))], [], []⟩) (fun zz => zz ≤ x.length) (fun zz => x.length - zz) (0) ?_ (weak_sub ⟨rfl, rfl, rfl, trivial⟩ trivial trivial rfl) (fun zz hx => ?_)
  ·exact Nat.zero_le _
  obtain ⟨k, rfl⟩ : ∃ v, v = zz := ⟨_, rfl⟩
  replace hx : k ≤ x.length := hx
  show Ok _ _ _ _ _ (⟨[(0, .one (.dv [] (bytesD (x)))), (1, .one (.dv [] (bytesD (x)))), (5, .one (.dv [] (.int .i64 ((k : Int)))))], [], []⟩ : St)
  iterate 7 refine z ?_
  refine yQ rfl (fun c2 => ?_) fun c2 => ?_
  ·skip
   have d2 := of_decide_eq_true c2
   iterate 4 refine z ?_
   refine ok_seq ?_
   refine ok_regionD (oB := []) (oK := []) (by kernel_rfl) rfl rfl ?_
   refine zD 0 ?_
   refine zD 1 ?_
   refine zD 2 ?_
   refine zD 3 ?_
   refine zD 4 ?_
   refine zD 5 ?_
   refine zD 6 ?_
   refine zD 7 ?_
   refine zD 8 ?_
   refine d_done (by kernel_rfl) ?_
   refine z ?_
   refine yQ rfl (fun c3 => ?_) fun c3 => ?_
   ·skip
    have d3 := nd_t c3
    iterate 10 refine z ?_
    first | rfl | (exfalso; simp_all)
   ·skip
    have d3 := nd_f c3
    iterate 3 refine z ?_
    refine ok_region ?_
    iterate 4 refine z ?_
    refine ⟨k + 1, ?_, ?_, weak_sub ⟨rfl, rfl, rfl, trivial⟩ trivial trivial rfl⟩
    ·omega
    ·omega
  ·skip
   have d2 := of_decide_eq_false c2
   iterate 10 refine z ?_
   first | rfl | (exfalso; simp_all)
theorem ok_laws_szDisk {x : DiskT} {left : Int} (h0 : 0 ≤ left) (h1 : left ≤ 1048576) : PFn Try.prog 16 [.agg [(.dv [] (.str (x.1.1))), (.dv [] (.int .i64 (x.1.2.1))), (.dv [] (storesD (x.1.2.2.1))), (.dv [] (defsD (x.1.2.2.2))), (.dv [] (bytesD (x.2.1))), (.dv [] (.int .i64 (x.2.2)))], .one (.dv [] (.int .i64 (left)))] (.one (.dv [] (.int .i64 (szR (left) (wDisk x))))) := by
 refine ⟨fn_intro Try.func16 rfl Try.ntmps16 Try.results16 rfl (fun C => ?_)⟩
 refine yF 0 0 rfl rfl fun f0_0 => ?_
 refine yF 0 1 rfl rfl fun f0_1 => ?_
 refine yF 0 2 rfl rfl fun f0_2 => ?_
 refine yF 0 3 rfl rfl fun f0_3 => ?_
 refine yF 0 4 rfl rfl fun f0_4 => ?_
 refine yF 0 5 rfl rfl fun f0_5 => ?_
 refine ok_fact (x := .tmp 1) (ev_tmp rfl) fun f1 => ?_
 iterate 8 refine z ?_
 refine zC Try.call11 ?_ (hf := ok_laws_szDatabase (by omega) (by omega))
 iterate 7 refine z ?_
 refine yQ rfl (fun c1 => ?_) fun c1 => ?_
 ·skip
  have d1 := of_decide_eq_true c1
  first | have q1 := szR_n d1 | skip
  iterate 6 refine z ?_
  have hh := szR_cases left (wDisk x); simp only [wDisk] at hh ⊢ <;> omega
 ·skip
  have d1 := of_decide_eq_false c1
  first | have q1 := szR_nn d1 | skip
  iterate 6 refine z ?_
  refine zC Try.call57 ?_ (hf := ok_laws_szByteS (by omega) (by omega))
  iterate 7 refine z ?_
  refine yQ rfl (fun c2 => ?_) fun c2 => ?_
  ·skip
   have d2 := of_decide_eq_true c2
   first | have q2 := szR_n d2 | skip
   iterate 6 refine z ?_
   have hh := szR_cases left (wDisk x); simp only [wDisk] at hh ⊢ <;> omega
  ·skip
   have d2 := of_decide_eq_false c2
   first | have q2 := szR_nn d2 | skip
   iterate 8 refine z ?_
   have hh := szR_cases left (wDisk x); simp only [wDisk] at hh ⊢ <;> omega
theorem ok_laws_toDisk {x : DiskT} (hb : wDisk x ≤ 1048576) : KFn Try.prog 18 [.agg [(.dv [] (.str (x.1.1))), (.dv [] (.int .i64 (x.1.2.1))), (.dv [] (storesD (x.1.2.2.1))), (.dv [] (defsD (x.1.2.2.2))), (.dv [] (bytesD (x.2.1))), (.dv [] (.int .i64 (x.2.2)))]] (.agg [(.dv [] (.str (x.1.1))), (.dv [] (.int .i64 (x.1.2.1))), (.key 18007), (.key 22007), (.key 10007), (.dv [] (.int .i64 (x.2.2)))]) [(18007, some (kcOf false (storesD (x.1.2.2.1)))), (22007, some (kcOf false (defsD (x.1.2.2.2)))), (10007, some (kcOf false (bytesD (x.2.1))))] := by
 refine ⟨fn_intro Try.func18 rfl Try.ntmps18 Try.results18 rfl (fun C => ?_)⟩
 refine yF 0 0 rfl rfl fun f0_0 => ?_
 refine yF 0 1 rfl rfl fun f0_1 => ?_
 refine yF 0 2 rfl rfl fun f0_2 => ?_
 refine yF 0 3 rfl rfl fun f0_3 => ?_
 refine yF 0 4 rfl rfl fun f0_4 => ?_
 refine yF 0 5 rfl rfl fun f0_5 => ?_
 iterate 10 refine z ?_
 refine zK 6000 Try.call13 ?_ (hf := ok_laws_toDatabase (by simp only [wDisk] at hb; omega))
 iterate 6 refine z ?_
 refine zK 10000 Try.call31 ?_ (hf := ok_laws_toByteS (by simp only [wDisk] at hb; omega))
 iterate 13 refine z ?_
 refine ok_weak (σ' := ⟨[(2, .box 2 0)], [(2, 41, [(.dv [] (.str (x.1.1))), (.dv [] (.int .i64 (x.1.2.1))), (.key 18007), (.key 22007), (.key 10007), (.dv [] (.int .i64 (x.2.2)))])], [(18007, some (kcOf false (storesD (x.1.2.2.1)))), (22007, some (kcOf false (defsD (x.1.2.2.2)))), (10007, some (kcOf false (bytesD (x.2.1))))]⟩) (weak_sub ⟨rfl, trivial⟩ ⟨rfl, trivial⟩ ⟨rfl, rfl, rfl, trivial⟩ rfl) ?_
 refine z ?_
 refine fin1 (res_cell hT rfl rfl rfl rfl) ?_
 exact ⟨rfl, rfl⟩
theorem ok_laws_eqDisk {x : DiskT}  : PFn Try.prog 20 [.agg [(.dv [] (.str (x.1.1))), (.dv [] (.int .i64 (x.1.2.1))), (.dv [] (storesD (x.1.2.2.1))), (.dv [] (defsD (x.1.2.2.2))), (.dv [] (bytesD (x.2.1))), (.dv [] (.int .i64 (x.2.2)))], .agg [(.dv [] (.str (x.1.1))), (.dv [] (.int .i64 (x.1.2.1))), (.dv [] (storesD (x.1.2.2.1))), (.dv [] (defsD (x.1.2.2.2))), (.dv [] (bytesD (x.2.1))), (.dv [] (.int .i64 (x.2.2)))]] (.one (.dv [] (.bool (true)))) := by
 refine ⟨fn_intro Try.func20 rfl Try.ntmps20 Try.results20 rfl (fun C => ?_)⟩
 refine yF 0 0 rfl rfl fun f0_0 => ?_
 refine yF 0 1 rfl rfl fun f0_1 => ?_
 refine yF 0 2 rfl rfl fun f0_2 => ?_
 refine yF 0 3 rfl rfl fun f0_3 => ?_
 refine yF 0 4 rfl rfl fun f0_4 => ?_
 refine yF 0 5 rfl rfl fun f0_5 => ?_
 refine yF 1 0 rfl rfl fun f1_0 => ?_
 refine yF 1 1 rfl rfl fun f1_1 => ?_
 refine yF 1 2 rfl rfl fun f1_2 => ?_
 refine yF 1 3 rfl rfl fun f1_3 => ?_
 refine yF 1 4 rfl rfl fun f1_4 => ?_
 refine yF 1 5 rfl rfl fun f1_5 => ?_
 iterate 11 refine z ?_
 refine zC Try.call15 ?_ (hf := ok_laws_eqDatabase)
 iterate 2 refine z ?_
 refine yQ rfl (fun c1 => ?_) fun c1 => ?_
 ·skip
  iterate 6 refine z ?_
  first | rfl | (exfalso; simp_all [sEq])
 ·skip
  iterate 8 refine z ?_
  refine zC Try.call25 ?_ (hf := ok_laws_eqByteS)
  iterate 2 refine z ?_
  refine yQ rfl (fun c2 => ?_) fun c2 => ?_
  ·skip
   iterate 6 refine z ?_
   first | rfl | (exfalso; simp_all [sEq])
  ·skip
   iterate 10 refine z ?_
   refine yQ rfl (fun c3 => ?_) fun c3 => ?_
   ·skip
    have d3 := nd_t c3
    iterate 6 refine z ?_
    first | rfl | (exfalso; simp_all [sEq])
   ·skip
    have d3 := nd_f c3
    iterate 7 refine z ?_
    first | rfl | (exfalso; simp_all [sEq])
end Go.Proofs.Ytlogahkchenpdaa

namespace Go.Proofs.Ytlogahkchenpdaa
open Go.RowKit
open Go.Proofs
set_option linter.unusedVariables false
set_option linter.unusedSimpArgs false

theorem item_len (x : ItemT) : x.2.length ≤ wItem x := by unfold wItem wRecord wList; omega
theorem ok_impl_copyRecord {x : RecT} (hb : x.length ≤ 1099511627776) : KFn Try.prog 159 [.agg [(.dv [] (fieldsD (x)))]] (.agg [(.key 3)]) [(3, some (kcOf false (fieldsD (x))))] := by
 refine ⟨fn_intro Try.func159 rfl Try.ntmps159 Try.results159 rfl (fun C => ?_)⟩
 refine yF 0 0 rfl rfl fun f0_0 => ?_
 iterate 5 refine z ?_
 refine o_build0 (k := 3) hT rfl rfl rfl rfl rfl rfl rfl rfl ?_
 iterate 2 refine z ?_
 refine o_appV (k := 3) (cs := (x).flatMap eField) (n := (x).length) hT rfl rfl rfl rfl rfl rfl rfl (ev_tmp rfl) rfl rfl rfl (ev_tmp rfl) (plain_flat (fun _ => rfl) _) (by first | (dsimp only [kcOf]; omega) | omega) (by first | (dsimp only [kcOf]; omega) | omega) (Nat.zero_add _) (rfl) ?_
 simp only [killT, killB, SV.kill, CV.kill, kk, Nat.reduceBEq]
 refine yO rfl rfl (pu_build hT hB rfl rfl rfl (bp_cons (ev_tmp rfl) rfl rfl rfl rfl rfl bp_nil)) rfl ?_
 iterate 2 refine z ?_
 refine ok_weak (σ' := ⟨[(2, .box 2 0)], [(2, 100, [(.key 3)])], [(3, some (kcOf false (fieldsD (x))))]⟩) (weak_sub ⟨rfl, trivial⟩ ⟨rfl, trivial⟩ ⟨rfl, trivial⟩ rfl) ?_
 refine z ?_
 refine fin1 (res_cell hT rfl rfl rfl rfl) ?_
 exact ⟨rfl, rfl⟩
theorem ok_spec_l5Copy {x : RecT} (hb : x.length ≤ 1099511627776) : KFn Try.prog 156 [.agg [(.dv [] (fieldsD (x)))]] (.agg [(.key 3)]) [(3, some (kcOf false (fieldsD (x))))] := by
 refine ⟨fn_intro Try.func156 rfl Try.ntmps156 Try.results156 rfl (fun C => ?_)⟩
 refine yF 0 0 rfl rfl fun f0_0 => ?_
 iterate 5 refine z ?_
 refine o_build0 (k := 3) hT rfl rfl rfl rfl rfl rfl rfl rfl ?_
 iterate 2 refine z ?_
 refine o_appV (k := 3) (cs := (x).flatMap eField) (n := (x).length) hT rfl rfl rfl rfl rfl rfl rfl (ev_tmp rfl) rfl rfl rfl (ev_tmp rfl) (plain_flat (fun _ => rfl) _) (by first | (dsimp only [kcOf]; omega) | omega) (by first | (dsimp only [kcOf]; omega) | omega) (Nat.zero_add _) (rfl) ?_
 simp only [killT, killB, SV.kill, CV.kill, kk, Nat.reduceBEq]
 refine yO rfl rfl (pu_build hT hB rfl rfl rfl (bp_cons (ev_tmp rfl) rfl rfl rfl rfl rfl bp_nil)) rfl ?_
 iterate 2 refine z ?_
 refine ok_weak (σ' := ⟨[(2, .box 2 0)], [(2, 100, [(.key 3)])], [(3, some (kcOf false (fieldsD (x))))]⟩) (weak_sub ⟨rfl, trivial⟩ ⟨rfl, trivial⟩ ⟨rfl, trivial⟩ rfl) ?_
 refine z ?_
 refine fin1 (res_cell hT rfl rfl rfl rfl) ?_
 exact ⟨rfl, rfl⟩
theorem ok_impl_copyItem {x : ItemT} (hb : x.2.length ≤ 1099511627776) : KFn Try.prog 183 [.agg [(.dv [] (.int .i64 (x.1.1))), (.dv [] (.int .i64 (x.1.2.1))), (.dv [] (.str (x.1.2.2))), (.dv [] (fieldsD (x.2)))]] (.agg [(.dv [] (.int .i64 (x.1.1))), (.dv [] (.int .i64 (x.1.2.1))), (.dv [] (.str (x.1.2.2))), (.key 7003)]) [(7003, some (kcOf false (fieldsD (x.2))))] := by
 refine ⟨fn_intro Try.func183 rfl Try.ntmps183 Try.results183 rfl (fun C => ?_)⟩
 refine yF 0 0 rfl rfl fun f0_0 => ?_
 refine yF 0 1 rfl rfl fun f0_1 => ?_
 refine yF 0 2 rfl rfl fun f0_2 => ?_
 refine yF 0 3 rfl rfl fun f0_3 => ?_
 iterate 4 refine z ?_
 refine ok_seq ?_
 refine ok_regionD (oB := [1, 2]) (oK := []) (by kernel_rfl) rfl rfl ?_
 refine zD 0 ?_
 refine zD 1 ?_
 refine zD 2 ?_
 refine zD 3 ?_
 refine d_callK 7000 4 rfl (by kernel_rfl) rfl rfl rfl Try.call159 (ok_impl_copyRecord (by omega)) (as_cons (ev_tmp rfl) (ag_agg (ag_cons ac_dv ag_nil)) as_nil) rfl rfl rfl rfl rfl ?_
 refine d_take 5 rfl (by kernel_rfl) rfl rfl (pu_build hT hB rfl rfl rfl (bp_cons (ev_tmp rfl) rfl rfl rfl rfl rfl (bp_cons (ev_tmp rfl) rfl rfl rfl rfl rfl bp_nil))) rfl rfl rfl rfl ?_
 refine d_last 6 rfl (by kernel_rfl) rfl (by kernel_rfl) (ef_storeBox hT rfl rfl rfl (ev_tmp rfl) (ev_tmp rfl) rfl rfl rfl rfl rfl rfl) (by kernel_rfl) ?_
 refine z ?_
 refine ok_weak (σ' := ⟨[(2, .box 2 0)], [(2, 150, [(.dv [] (.int .i64 (x.1.1))), (.dv [] (.int .i64 (x.1.2.1))), (.dv [] (.str (x.1.2.2))), (.key 7003)])], [(7003, some (kcOf false (fieldsD (x.2))))]⟩) (weak_sub ⟨rfl, trivial⟩ ⟨rfl, trivial⟩ ⟨rfl, trivial⟩ rfl) ?_
 refine z ?_
 refine fin1 (res_cell hT rfl rfl rfl rfl) ?_
 exact ⟨rfl, rfl⟩
theorem ok_spec_l6Item {x : ItemT} (hb : x.2.length ≤ 1099511627776) : KFn Try.prog 178 [.agg [(.dv [] (.int .i64 (x.1.1))), (.dv [] (.int .i64 (x.1.2.1))), (.dv [] (.str (x.1.2.2))), (.dv [] (fieldsD (x.2)))]] (.agg [(.dv [] (.int .i64 (x.1.1))), (.dv [] (.int .i64 (x.1.2.1))), (.dv [] (.str (x.1.2.2))), (.key 7003)]) [(7003, some (kcOf false (fieldsD (x.2))))] := by
 refine ⟨fn_intro Try.func178 rfl Try.ntmps178 Try.results178 rfl (fun C => ?_)⟩
 refine yF 0 0 rfl rfl fun f0_0 => ?_
 refine yF 0 1 rfl rfl fun f0_1 => ?_
 refine yF 0 2 rfl rfl fun f0_2 => ?_
 refine yF 0 3 rfl rfl fun f0_3 => ?_
 iterate 4 refine z ?_
 refine ok_seq ?_
 refine ok_regionD (oB := [1, 2]) (oK := []) (by kernel_rfl) rfl rfl ?_
 refine zD 0 ?_
 refine zD 1 ?_
 refine zD 2 ?_
 refine zD 3 ?_
 refine d_callK 7000 4 rfl (by kernel_rfl) rfl rfl rfl Try.call156 (ok_spec_l5Copy (by omega)) (as_cons (ev_tmp rfl) (ag_agg (ag_cons ac_dv ag_nil)) as_nil) rfl rfl rfl rfl rfl ?_
 refine d_take 5 rfl (by kernel_rfl) rfl rfl (pu_build hT hB rfl rfl rfl (bp_cons (ev_tmp rfl) rfl rfl rfl rfl rfl (bp_cons (ev_tmp rfl) rfl rfl rfl rfl rfl bp_nil))) rfl rfl rfl rfl ?_
 refine d_last 6 rfl (by kernel_rfl) rfl (by kernel_rfl) (ef_storeBox hT rfl rfl rfl (ev_tmp rfl) (ev_tmp rfl) rfl rfl rfl rfl rfl rfl) (by kernel_rfl) ?_
 refine z ?_
 refine ok_weak (σ' := ⟨[(2, .box 2 0)], [(2, 150, [(.dv [] (.int .i64 (x.1.1))), (.dv [] (.int .i64 (x.1.2.1))), (.dv [] (.str (x.1.2.2))), (.key 7003)])], [(7003, some (kcOf false (fieldsD (x.2))))]⟩) (weak_sub ⟨rfl, trivial⟩ ⟨rfl, trivial⟩ ⟨rfl, trivial⟩ rfl) ?_
 refine z ?_
 refine fin1 (res_cell hT rfl rfl rfl rfl) ?_
 exact ⟨rfl, rfl⟩
end Go.Proofs.Ytlogahkchenpdaa

namespace Go.Proofs.Ytlogahkchenpdaa
open Go.RowKit
open Go.Proofs
set_option linter.unusedVariables false
set_option linter.unusedSimpArgs false

theorem eqSlotI {k : IntKind} {a b : Int} (h : a = b) : some (SV.one (CV.dv [] (DV.int k a))) = some (SV.one (CV.dv [] (DV.int k b))) := by rw [h]
def mkL {α : Type} (m : α → Int → α) (c : α → Nat) : List α → Int → List α
 | [], _ => []
 | x :: xs, k => m x k :: mkL m c xs (k + (c x : Int))
theorem mkL_len {α : Type} {m : α → Int → α} {c : α → Nat} : ∀ (xs : List α) (k : Int), (mkL m c xs k).length = xs.length
 | [], _ => rfl
 | x :: xs, k => by rw [mkL, List.length_cons, mkL_len xs, List.length_cons]
theorem mkL_app {α : Type} {m : α → Int → α} {c : α → Nat} : ∀ (xs ys : List α) (k : Int), mkL m c (xs ++ ys) k = mkL m c xs k ++ mkL m c ys (k + (wSum c xs : Int))
 | [], ys, k => by simp [mkL, wSum]
 | x :: xs, ys, k => by
  rw [List.cons_append, mkL, mkL_app xs ys, mkL, List.cons_append]
  congr 3
  have : wSum c (x :: xs) = c x + wSum c xs := by simp [wSum]
  omega
theorem getD_at {α : Type} [Inhabited α] {xs : List α} {j : Nat} (h : j < xs.length) : xs.getD (j : Int).toNat default = xs[j] := by simp [List.getD, List.getElem?_eq_getElem h]
theorem mkL_succ {α : Type} [Inhabited α] {m : α → Int → α} {c : α → Nat} {xs : List α} {j : Nat} {k : Int} (h : j < xs.length) : mkL m c (xs.take (j + 1)) k = mkL m c (xs.take j) k ++ [m (xs.getD (j : Int).toNat default) (k + (wSum c (xs.take j) : Int))] := by
 rw [List.take_add_one, List.getElem?_eq_getElem h, mkL_app, getD_at h]; rfl
theorem mkL_getD {α : Type} [Inhabited α] {m : α → Int → α} {c : α → Nat} {xs : List α} {j : Nat} {k : Int} (h : j < xs.length) : (mkL m c xs k).getD (j : Int).toNat default = m (xs.getD (j : Int).toNat default) (k + (wSum c (xs.take j) : Int)) := by
 have e : mkL m c xs k = mkL m c (xs.take (j + 1)) k ++ mkL m c (xs.drop (j + 1)) (k + (wSum c (xs.take (j + 1)) : Int)) := by rw [← mkL_app, List.take_append_drop]
 rw [e, mkL_succ h]
 have hl : (mkL m c (xs.take j) k).length = j := by rw [mkL_len, List.length_take]; omega
 have : (j : Int).toNat = j := by omega
 rw [List.getD, List.append_assoc, List.getElem?_append_right (by omega), show (j : Int).toNat - (mkL m c (xs.take j) k).length = 0 by omega]
 rfl
theorem drop_flat {α : Type} [Inhabited α] {enc : α → List DV} {xs : List α} {j : Nat} (h : j < xs.length) : (xs.drop j).flatMap enc = enc (xs.getD (j : Int).toNat default) ++ (xs.drop (j + 1)).flatMap enc := by
 rw [List.drop_eq_getElem_cons h, List.flatMap_cons, getD_at h]
theorem mk_open {α : Type} [Inhabited α] {enc : α → List DV} {A : List DV} {xs : List α} {j : Nat} (h : j < xs.length) : A ++ (xs.drop j).flatMap enc = mid A (enc (xs.getD (j : Int).toNat default)) ((xs.drop (j + 1)).flatMap enc) := by rw [drop_flat h]; rfl
theorem mk_close {α : Type} [Inhabited α] {m : α → Int → α} {c : α → Nat} {enc : α → List DV} {B C : List DV} {xs : List α} {j : Nat} {k : Int} (h : j < xs.length) (hB : B = enc (m (xs.getD (j : Int).toNat default) (k + (wSum c (xs.take j) : Int)))) : mid ((mkL m c (xs.take j) k).flatMap enc) B C = (mkL m c (xs.take (j + 1)) k).flatMap enc ++ C := by
 unfold mid
 rw [mkL_succ h, List.flatMap_append, hB]; simp
theorem mk_fin {α : Type} {m : α → Int → α} {c : α → Nat} {enc : α → List DV} {e sz : Nat} {xs : List α} {j : Nat} {k : Int} (h : xs.length ≤ j) : some (some (KC.mk true e sz xs.length ((mkL m c (xs.take j) k).flatMap enc ++ (xs.drop j).flatMap enc))) = some (some (kcOf true (listD e sz enc (mkL m c xs k)))) := by
 rw [List.take_of_length_le h, List.drop_eq_nil_of_le h]
 simp only [listD, kcOf, mkL_len, List.flatMap_nil, List.append_nil]
theorem mk_pre {α : Type} {m : α → Int → α} {c : α → Nat} {enc : α → List DV} {sz : Nat} (hs : ∀ x, (enc x).length = sz) {xs : List α} {j : Nat} {k : Int} (h : j ≤ xs.length) : ((mkL m c (xs.take j) k).flatMap enc).length = j * sz := by
 rw [flat_len hs, mkL_len, List.length_take, Nat.min_eq_left h]
theorem wSum_bound {α : Type} {c w : α → Nat} (h : ∀ x, c x ≤ 8 * (1 + w x)) : ∀ xs : List α, wSum c xs ≤ 8 * wList w xs
 | [] => by simp [wSum, wList]
 | x :: xs => by
  have := wSum_bound h xs
  have := h x
  simp only [wSum, wList, List.map_cons, List.sum_cons, List.length_cons] at *
  omega
theorem wSum_ge {α : Type} {c : α → Nat} (h : ∀ x, 1 ≤ c x) : ∀ xs : List α, xs.length ≤ wSum c xs
 | [] => by simp [wSum]
 | x :: xs => by
  have := wSum_ge h xs
  have := h x
  simp only [wSum, List.map_cons, List.sum_cons, List.length_cons] at *
  omega
theorem wSum_const {α : Type} {n : Nat} : ∀ xs : List α, wSum (fun _ => n) xs = n * xs.length
 | [] => by simp [wSum]
 | x :: xs => by
  have := wSum_const (n := n) xs
  simp only [wSum, List.map_cons, List.sum_cons, List.length_cons] at *
  rw [Nat.mul_add]; omega
def mDig (k : Nat) (out : Str) : Str := if k = 0 then out else mDig (k / 10) (strOf [UInt8.ofNat (IntKind.u8.wrap (48 + (k : Int) % 10)).toNat] ++ out)
termination_by k
theorem mDig_go {k : Nat} {out : Str} (h : 0 < (k : Int)) : mDig (k / 10) (strOf [UInt8.ofNat (IntKind.u8.wrap (48 + (k : Int) % 10)).toNat] ++ out) = mDig k out := by rw [mDig.eq_def k out, if_neg (by omega)]
theorem mDig_end {k : Nat} {out : Str} (h : ¬ 0 < (k : Int)) : mDig k out = out := by rw [mDig.eq_def k out, if_pos (by omega)]
def mText (k : Int) : Str := if k ≤ 0 then ByteArray.mk #[109, 48] else ByteArray.mk #[109] ++ mDig k.toNat (ByteArray.mk #[])

def mkByte (_ : UInt8) (k : Int) : UInt8 := UInt8.ofNat (k % 256).toNat
def cByte (_ : UInt8) : Nat := 1
def mkField (x : FieldT) (k : Int) : FieldT := (mText (k), (k) + (1))
def cField (x : FieldT) : Nat := 2
theorem cField_le (x : FieldT) : cField x ≤ 8 * (1 + wField x) := by
 simp only [cField]
 omega
def mkItem (x : ItemT) (k : Int) : ItemT := ((k, (k) + (1), mText (((k) + (1)) + (1))), mkL mkField cField (x.2) ((((k) + (1)) + (1)) + (1)))
def cItem (x : ItemT) : Nat := 3 + wSum cField (x.2)
theorem cItem_le (x : ItemT) : cItem x ≤ 8 * (1 + wItem x) := by
 have h3 := wSum_bound cField_le (x.2)
 simp only [cItem, wItem, wKey, wRecord]
 omega
theorem ok_laws_markText {k : Int} (hk : k ≤ 9000000000000000000) : PFn Try.prog 71 [.one (.dv [] (.int .i64 (k)))] (.one (.dv [] (.str (mText k)))) := by
 refine ⟨fn_intro Try.func71 rfl Try.ntmps71 Try.results71 rfl (fun C => ?_)⟩
 refine ok_fact (x := .tmp 0) (ev_tmp rfl) fun f0 => ?_
 iterate 8 refine z ?_
 refine yQ rfl (fun c1 => ?_) fun c1 => ?_
 ·skip
  have d1 := of_decide_eq_true c1
  iterate 6 refine z ?_
  rw [mText, if_pos d1]
 ·skip
  have d1 := of_decide_eq_false c1
  iterate 7 refine z ?_
  refine ok_loop (ι := Nat × Str) (fun zz => ⟨[(0, .one (.dv [] (.int .i64 ((zz.1 : Int))))), (2, .one (.dv [] (.str (ByteArray.mk #[])))), (3, .one (.dv [] (.str (zz.2))))], [], []⟩) (fun zz => mDig zz.1 zz.2 = mDig k.toNat (ByteArray.mk #[]) ∧ zz.2.size + zz.1 ≤ k.toNat) (fun zz => zz.1) ((k.toNat, ByteArray.mk #[])) ?_ (weak_sub ⟨(eqSlotI (by show k = ((k.toNat : Nat) : Int); omega)), rfl, rfl, trivial⟩ trivial trivial rfl) (fun zz hx => ?_)
  ·exact ⟨rfl, by show 0 + _ ≤ _; omega⟩
  obtain ⟨n, out⟩ := zz
  replace hx : mDig n out = mDig k.toNat (ByteArray.mk #[]) ∧ out.size + n ≤ k.toNat := hx
  obtain ⟨hd, hs⟩ := hx
  show Ok _ _ _ _ _ (⟨[(0, .one (.dv [] (.int .i64 ((n : Int))))), (2, .one (.dv [] (.str (ByteArray.mk #[])))), (3, .one (.dv [] (.str (out))))], [], []⟩ : St)
  iterate 5 refine z ?_
  refine yQ rfl (fun c2 => ?_) fun c2 => ?_
  ·skip
   have d2 := of_decide_eq_true c2
   have hs1 : (strOf [UInt8.ofNat (IntKind.u8.wrap (48 + (n : Int) % 10)).toNat]).size = 1 := rfl
   iterate 5 refine z ?_
   refine yO rfl rfl (pu_remN rfl (ev_tmp rfl) (ev_int (inR_lit rfl)) (by omega) (by omega)) rfl ?_
   refine z ?_
   refine yO rfl rfl (pu_convI hT rfl rfl rfl (ev_tmp rfl)) rfl ?_
   refine o_build1 (k := 12) (js := []) hT rfl rfl rfl rfl rfl rfl rfl rfl rfl (ev_tmp rfl) rfl rfl (ow_cons' (ow_dv rfl) ow_nil rfl) (by decide) (by decide) rfl rfl ?_
   simp only [killT, killB, SV.kill, CV.kill, kk, Nat.reduceBEq]
   refine yO rfl rfl (pu_convB1 (b := UInt8.ofNat (IntKind.u8.wrap ((48) + (((n : Int)) % (10)))).toNat) hT rfl rfl rfl rfl (ev_keyv (c := ⟨false, 5, 1, 1, [.int .u8 (IntKind.u8.wrap ((48) + (((n : Int)) % (10))))]⟩) (ev_tmp rfl) rfl) (wrap_u8 _)) rfl ?_
   refine z ?_
   refine yO rfl rfl (pu_sadd rfl (ev_tmp rfl) (ev_tmp rfl) (by omega)) rfl ?_
   iterate 2 refine z ?_
   refine ok_region ?_
   refine z ?_
   refine yO rfl rfl (pu_quoN rfl (ev_tmp rfl) (ev_int (inR_lit rfl)) (by omega) (by omega)) rfl ?_
   refine z ?_
   refine ops_nil ?_
   iterate 2 refine z ?_
   refine ⟨(n / 10, strOf [UInt8.ofNat (IntKind.u8.wrap (48 + (n : Int) % 10)).toNat] ++ out), ?_, ?_, weak_sub ⟨rfl, rfl, rfl, trivial⟩ trivial trivial rfl⟩
   ·exact ⟨(mDig_go d2).trans hd, by rw [ByteArray.size_append, hs1]; dsimp only; omega⟩
   ·dsimp only; omega
  ·skip
   have d2 := of_decide_eq_false c2
   have hs9 : (ByteArray.mk #[109]).size = 1 := rfl
   iterate 7 refine z ?_
   refine yO rfl rfl (pu_sadd rfl (ev_str (str_lit rfl)) (ev_tmp rfl) (by omega)) rfl ?_
   iterate 4 refine z ?_
   rw [mText, if_neg d1, ← hd, mDig_end d2]
theorem ok_laws_markFieldS {x : List (FieldT)} {k : Int} (h0 : 0 ≤ k) (h1 : k + (wSum cField x : Int) ≤ 4611686018427387904) : WFn Try.prog 72 [.one (.key 0), .one (.dv [] (.int .i64 (k)))] (.one (.dv [] (.int .i64 (k + (wSum cField x : Int))))) [(0, kcOf true (.sl 161 2 (x.length) (x.flatMap eField)))] [(0, kcOf true (fieldsD (mkL mkField cField x k)))] := by
 refine ⟨fn_intro Try.func72 rfl Try.ntmps72 Try.results72 rfl (fun C => ?_)⟩
 have hln : x.length ≤ wSum cField x := wSum_ge (fun _ => by simp only [cField]; omega) x
 refine ok_fact (x := .tmp 1) (ev_tmp rfl) fun f1 => ?_
 iterate 8 refine z ?_
 refine ok_loop (ι := Nat) (fun zz => ⟨[(0, .one (.key 0)), (1, .one (.dv [] (.int .i64 (k + (wSum cField (x.take zz) : Int))))), (4, .one (.dv [] (.int .i64 (0)))), (5, .one (.dv [] (.int .i64 ((zz : Int)))))], [], [(0, some ⟨true, 161, 2, x.length, (mkL mkField cField (x.take zz) k).flatMap eField ++ (x.drop zz).flatMap eField⟩)]⟩) (fun zz => zz ≤ x.length) (fun zz => x.length - zz) (0) ?_ (weak_sub ⟨rfl, (eqSlotI (by simp [wSum])), rfl, rfl, trivial⟩ trivial ⟨rfl, trivial⟩ rfl) (fun zz hx => ?_)
 ·exact Nat.zero_le _
 obtain ⟨j, rfl⟩ : ∃ v, v = zz := ⟨_, rfl⟩
 replace hx : j ≤ x.length := hx
 have hw := fun h => wSum_succ cField x j h
 show Ok _ _ _ _ _ (⟨[(0, .one (.key 0)), (1, .one (.dv [] (.int .i64 (k + (wSum cField (x.take j) : Int))))), (4, .one (.dv [] (.int .i64 (0)))), (5, .one (.dv [] (.int .i64 ((j : Int)))))], [], [(0, some ⟨true, 161, 2, x.length, (mkL mkField cField (x.take j) k).flatMap eField ++ (x.drop j).flatMap eField⟩)]⟩ : St)
 iterate 4 refine z ?_
 refine yO rfl rfl (pu_lenKn (n := (x.length)) hT rfl rfl (ev_tmp rfl) rfl rfl) rfl ?_
 iterate 2 refine z ?_
 refine yQ rfl (fun c1 => ?_) fun c1 => ?_
 ·skip
  have d1 := of_decide_eq_true c1
  have hj : j < x.length := by omega
  obtain ⟨hw1, hw2⟩ := hw hj
  have hc : cField (x.getD (j : Int).toNat default) = 2 := rfl
  refine ok_kcs (k := 0) (cs' := mid ((mkL mkField cField (x.take j) k).flatMap eField) [.str ((x.getD (j : Int).toNat default).1), .int .i64 ((x.getD (j : Int).toNat default).2)] ((x.drop (j + 1)).flatMap eField)) rfl (mk_open hj) ?_
  iterate 8 refine z ?_
  refine zC Try.call71 ?_ (hf := ok_laws_markText (by omega))
  refine yO rfl rfl (pu_indexK (i := j) hT rfl rfl rfl (ev_tmp rfl) rfl (ev_tmp rfl) rfl (by show _ < (x.length); omega)) rfl ?_
  refine z ?_
  refine o_storeE (js := []) (cs := mid ((mkL mkField cField (x.take j) k).flatMap eField) [.str (mText (k + (wSum cField (x.take j) : Int))), .int .i64 ((x.getD (j : Int).toNat default).2)] ((x.drop (j + 1)).flatMap eField)) hT rfl rfl rfl rfl (ev_tmp rfl) (ev_tmp rfl) rfl rfl rfl rfl (ow_cons' (ow_dv rfl) ow_nil rfl) (by decide) (by decide) rfl (le_mid (off := (j * 2 + 0)) (n := 1) (j := 0) (mk_pre (sz := 2) (fun _ => rfl) (Nat.le_of_lt hj)) (by omega) (Nat.le_of_ble_eq_true rfl)) (setR_mid (off := (j * 2 + 0)) (j := 0) (mk_pre (sz := 2) (fun _ => rfl) (Nat.le_of_lt hj)) (by omega) rfl (Nat.le_of_ble_eq_true rfl)) ?_
  simp only [killT, killB, SV.kill, CV.kill, kk, Nat.reduceBEq]
  iterate 10 refine z ?_
  refine yO rfl rfl (pu_indexK (i := j) hT rfl rfl rfl (ev_tmp rfl) rfl (ev_tmp rfl) rfl (by show _ < (x.length); omega)) rfl ?_
  refine z ?_
  refine o_storeE (js := []) (cs := mid ((mkL mkField cField (x.take j) k).flatMap eField) [.str (mText (k + (wSum cField (x.take j) : Int))), .int .i64 ((k + (wSum cField (x.take j) : Int)) + (1))] ((x.drop (j + 1)).flatMap eField)) hT rfl rfl rfl rfl (ev_tmp rfl) (ev_tmp rfl) rfl rfl rfl rfl (ow_cons' (ow_dv rfl) ow_nil rfl) (by decide) (by decide) rfl (le_mid (off := (j * 2 + 1)) (n := 1) (j := 1) (mk_pre (sz := 2) (fun _ => rfl) (Nat.le_of_lt hj)) (by omega) (Nat.le_of_ble_eq_true rfl)) (setR_mid (off := (j * 2 + 1)) (j := 1) (mk_pre (sz := 2) (fun _ => rfl) (Nat.le_of_lt hj)) (by omega) rfl (Nat.le_of_ble_eq_true rfl)) ?_
  simp only [killT, killB, SV.kill, CV.kill, kk, Nat.reduceBEq]
  refine z ?_
  refine ok_region ?_
  iterate 3 refine z ?_
  refine ops_nil ?_
  iterate 2 refine z ?_
  refine ok_region ?_
  iterate 4 refine z ?_
  refine ⟨j + 1, ?_, ?_, weak_sub ⟨rfl, (eqSlotI (by omega)), rfl, rfl, trivial⟩ trivial ⟨(congrArg (fun cs => some (some (KC.mk true 161 2 x.length cs))) (mk_close (by omega) (by rfl))), trivial⟩ rfl⟩
  ·omega
  ·omega
 ·skip
  have d1 := of_decide_eq_false c1
  iterate 9 refine z ?_
  refine ok_weak (σ' := ⟨[(4, .one (.dv [] (.int .i64 (k + (wSum cField (x.take j) : Int)))))], [], [(0, some (kcOf true (fieldsD (mkL mkField cField x k))))]⟩) (weak_sub ⟨rfl, trivial⟩ trivial ⟨(mk_fin (by omega)), trivial⟩ rfl) ?_
  refine z ?_
  refine fin1 (res_tmp rfl) ⟨eqI ?_, w1_ok rfl⟩
  have hq := wSum_all cField x j (by omega); omega
theorem ok_laws_heldFieldS {x y : List (FieldT)} {k : Int} (hy : y = mkL mkField cField x k) (h0 : 0 ≤ k) (h1 : k + (wSum cField x : Int) ≤ 4611686018427387904) : PFn Try.prog 81 [.one (.dv [] (fieldsD (y))), .one (.dv [] (.int .i64 (k)))] (.one (.dv [] (.int .i64 (k + (wSum cField x : Int))))) := by
 refine ⟨fn_intro Try.func81 rfl Try.ntmps81 Try.results81 rfl (fun C => ?_)⟩
 refine ok_fact (x := .tmp 0) (ev_tmp rfl) fun f0 => ?_
 refine ok_fact (x := .tmp 1) (ev_tmp rfl) fun f1 => ?_
 iterate 8 refine z ?_
 refine ok_loop (ι := Nat) (fun zz => ⟨[(0, .one (.dv [] (fieldsD (y)))), (1, .one (.dv [] (.int .i64 (k + (wSum cField (x.take zz) : Int))))), (5, .one (.dv [] (.int .i64 ((zz : Int)))))], [], []⟩) (fun zz => zz ≤ x.length) (fun zz => x.length - zz) (0) ?_ (weak_sub ⟨rfl, (eqSlotI (by simp [wSum])), rfl, trivial⟩ trivial trivial rfl) (fun zz hx => ?_)
 ·exact Nat.zero_le _
 obtain ⟨j, rfl⟩ : ∃ v, v = zz := ⟨_, rfl⟩
 replace hx : j ≤ x.length := hx
 have hw := fun h => wSum_succ cField x j h
 have hyl : y.length = x.length := by rw [hy, mkL_len]
 show Ok _ _ _ _ _ (⟨[(0, .one (.dv [] (fieldsD (y)))), (1, .one (.dv [] (.int .i64 (k + (wSum cField (x.take j) : Int))))), (5, .one (.dv [] (.int .i64 ((j : Int)))))], [], []⟩ : St)
 iterate 7 refine z ?_
 refine yQ rfl (fun c1 => ?_) fun c1 => ?_
 ·skip
  have d1 := of_decide_eq_true c1
  have hj : j < x.length := by omega
  obtain ⟨hw1, hw2⟩ := hw hj
  have hc : cField (x.getD (j : Int).toNat default) = 2 := rfl
  have he : y.getD (j : Int).toNat default = mkField (x.getD (j : Int).toNat default) (k + (wSum cField (x.take j) : Int)) := by rw [hy]; exact mkL_getD hj
  iterate 4 refine z ?_
  refine ok_seq ?_
  refine ok_seq ?_
  refine ok_regionD (oB := []) (oK := []) (by kernel_rfl) rfl rfl ?_
  refine zD 0 ?_
  refine zD 1 ?_
  refine zD 2 ?_
  refine zD 3 ?_
  refine zD 4 ?_
  refine zD 5 ?_
  refine d_call 6 rfl (by kernel_rfl) rfl rfl rfl Try.call71 (ok_laws_markText (by omega)) (as_cons (ev_tmp rfl) (ag_one ac_dv) as_nil) rfl rfl rfl rfl ?_
  refine zD 7 ?_
  refine d_done (by kernel_rfl) ?_
  refine z ?_
  refine yQ rfl (fun c2 => ?_) fun c2 => ?_
  ·skip
   iterate 11 refine z ?_
   exfalso; rw [he] at c2; simp [mkField, sEq] at c2
  ·skip
   iterate 17 refine z ?_
   refine yQ rfl (fun c3 => ?_) fun c3 => ?_
   ·skip
    have d3 := nd_t c3
    iterate 11 refine z ?_
    exfalso; rw [he] at c3; simp [mkField, sEq] at c3
   ·skip
    have d3 := nd_f c3
    iterate 2 refine z ?_
    refine ok_region ?_
    iterate 3 refine z ?_
    refine ops_nil ?_
    iterate 2 refine z ?_
    refine ok_region ?_
    iterate 4 refine z ?_
    refine ⟨j + 1, ?_, ?_, weak_sub ⟨rfl, (eqSlotI (by omega)), rfl, trivial⟩ trivial trivial rfl⟩
    ·omega
    ·omega
 ·skip
  have d1 := of_decide_eq_false c1
  iterate 11 refine z ?_
  have hq := wSum_all cField x j (by omega); omega
theorem ok_laws_markItemS {x : List (ItemT)} {k : Int} (h0 : 0 ≤ k) (h1 : k + (wSum cItem x : Int) ≤ 4611686018427387904) : WFn Try.prog 172 [.one (.key 0), .one (.dv [] (.int .i64 (k)))] (.one (.dv [] (.int .i64 (k + (wSum cItem x : Int))))) [(0, kcOf true (.sl 150 4 (x.length) (x.flatMap eItem)))] [(0, kcOf true (itemsD (mkL mkItem cItem x k)))] := by
 refine ⟨fn_intro Try.func172 rfl Try.ntmps172 Try.results172 rfl (fun C => ?_)⟩
 have hln : x.length ≤ wSum cItem x := wSum_ge (fun _ => by simp only [cItem]; omega) x
 refine ok_fact (x := .tmp 1) (ev_tmp rfl) fun f1 => ?_
 iterate 8 refine z ?_
 refine ok_loop (ι := Nat) (fun zz => ⟨[(0, .one (.key 0)), (1, .one (.dv [] (.int .i64 (k + (wSum cItem (x.take zz) : Int))))), (4, .one (.dv [] (.int .i64 (0)))), (5, .one (.dv [] (.int .i64 ((zz : Int)))))], [], [(0, some ⟨true, 150, 4, x.length, (mkL mkItem cItem (x.take zz) k).flatMap eItem ++ (x.drop zz).flatMap eItem⟩)]⟩) (fun zz => zz ≤ x.length) (fun zz => x.length - zz) (0) ?_ (weak_sub ⟨rfl, (eqSlotI (by simp [wSum])), rfl, rfl, trivial⟩ trivial ⟨rfl, trivial⟩ rfl) (fun zz hx => ?_)
 ·exact Nat.zero_le _
 obtain ⟨j, rfl⟩ : ∃ v, v = zz := ⟨_, rfl⟩
 replace hx : j ≤ x.length := hx
 have hw := fun h => wSum_succ cItem x j h
 show Ok _ _ _ _ _ (⟨[(0, .one (.key 0)), (1, .one (.dv [] (.int .i64 (k + (wSum cItem (x.take j) : Int))))), (4, .one (.dv [] (.int .i64 (0)))), (5, .one (.dv [] (.int .i64 ((j : Int)))))], [], [(0, some ⟨true, 150, 4, x.length, (mkL mkItem cItem (x.take j) k).flatMap eItem ++ (x.drop j).flatMap eItem⟩)]⟩ : St)
 iterate 4 refine z ?_
 refine yO rfl rfl (pu_lenKn (n := (x.length)) hT rfl rfl (ev_tmp rfl) rfl rfl) rfl ?_
 iterate 2 refine z ?_
 refine yQ rfl (fun c1 => ?_) fun c1 => ?_
 ·skip
  have d1 := of_decide_eq_true c1
  have hj : j < x.length := by omega
  obtain ⟨hw1, hw2⟩ := hw hj
  have hc : cItem (x.getD (j : Int).toNat default) = 3 + wSum cField ((x.getD (j : Int).toNat default).2) := rfl
  refine ok_kcs (k := 0) (cs' := mid ((mkL mkItem cItem (x.take j) k).flatMap eItem) [.int .i64 ((x.getD (j : Int).toNat default).1.1), .int .i64 ((x.getD (j : Int).toNat default).1.2.1), .str ((x.getD (j : Int).toNat default).1.2.2), fieldsD ((x.getD (j : Int).toNat default).2)] ((x.drop (j + 1)).flatMap eItem)) rfl (mk_open hj) ?_
  iterate 8 refine z ?_
  refine yO rfl rfl (pu_indexK (i := j) hT rfl rfl rfl (ev_tmp rfl) rfl (ev_tmp rfl) rfl (by show _ < (x.length); omega)) rfl ?_
  iterate 2 refine z ?_
  refine o_storeE (js := []) (cs := mid ((mkL mkItem cItem (x.take j) k).flatMap eItem) [.int .i64 (k + (wSum cItem (x.take j) : Int)), .int .i64 ((x.getD (j : Int).toNat default).1.2.1), .str ((x.getD (j : Int).toNat default).1.2.2), fieldsD ((x.getD (j : Int).toNat default).2)] ((x.drop (j + 1)).flatMap eItem)) hT rfl rfl rfl rfl (ev_tmp rfl) (ev_tmp rfl) rfl rfl rfl rfl (ow_cons' (ow_dv rfl) ow_nil rfl) (by decide) (by decide) rfl (le_mid (off := ((j * 4 + 0) + 0)) (n := 1) (j := 0) (mk_pre (sz := 4) (fun _ => rfl) (Nat.le_of_lt hj)) (by omega) (Nat.le_of_ble_eq_true rfl)) (setR_mid (off := ((j * 4 + 0) + 0)) (j := 0) (mk_pre (sz := 4) (fun _ => rfl) (Nat.le_of_lt hj)) (by omega) rfl (Nat.le_of_ble_eq_true rfl)) ?_
  simp only [killT, killB, SV.kill, CV.kill, kk, Nat.reduceBEq]
  iterate 10 refine z ?_
  refine yO rfl rfl (pu_indexK (i := j) hT rfl rfl rfl (ev_tmp rfl) rfl (ev_tmp rfl) rfl (by show _ < (x.length); omega)) rfl ?_
  iterate 2 refine z ?_
  refine o_storeE (js := []) (cs := mid ((mkL mkItem cItem (x.take j) k).flatMap eItem) [.int .i64 (k + (wSum cItem (x.take j) : Int)), .int .i64 ((k + (wSum cItem (x.take j) : Int)) + (1)), .str ((x.getD (j : Int).toNat default).1.2.2), fieldsD ((x.getD (j : Int).toNat default).2)] ((x.drop (j + 1)).flatMap eItem)) hT rfl rfl rfl rfl (ev_tmp rfl) (ev_tmp rfl) rfl rfl rfl rfl (ow_cons' (ow_dv rfl) ow_nil rfl) (by decide) (by decide) rfl (le_mid (off := ((j * 4 + 0) + 1)) (n := 1) (j := 1) (mk_pre (sz := 4) (fun _ => rfl) (Nat.le_of_lt hj)) (by omega) (Nat.le_of_ble_eq_true rfl)) (setR_mid (off := ((j * 4 + 0) + 1)) (j := 1) (mk_pre (sz := 4) (fun _ => rfl) (Nat.le_of_lt hj)) (by omega) rfl (Nat.le_of_ble_eq_true rfl)) ?_
  simp only [killT, killB, SV.kill, CV.kill, kk, Nat.reduceBEq]
  iterate 10 refine z ?_
  refine zC Try.call71 ?_ (hf := ok_laws_markText (by omega))
  refine yO rfl rfl (pu_indexK (i := j) hT rfl rfl rfl (ev_tmp rfl) rfl (ev_tmp rfl) rfl (by show _ < (x.length); omega)) rfl ?_
  iterate 2 refine z ?_
  refine o_storeE (js := []) (cs := mid ((mkL mkItem cItem (x.take j) k).flatMap eItem) [.int .i64 (k + (wSum cItem (x.take j) : Int)), .int .i64 ((k + (wSum cItem (x.take j) : Int)) + (1)), .str (mText (((k + (wSum cItem (x.take j) : Int)) + (1)) + (1))), fieldsD ((x.getD (j : Int).toNat default).2)] ((x.drop (j + 1)).flatMap eItem)) hT rfl rfl rfl rfl (ev_tmp rfl) (ev_tmp rfl) rfl rfl rfl rfl (ow_cons' (ow_dv rfl) ow_nil rfl) (by decide) (by decide) rfl (le_mid (off := ((j * 4 + 0) + 2)) (n := 1) (j := 2) (mk_pre (sz := 4) (fun _ => rfl) (Nat.le_of_lt hj)) (by omega) (Nat.le_of_ble_eq_true rfl)) (setR_mid (off := ((j * 4 + 0) + 2)) (j := 2) (mk_pre (sz := 4) (fun _ => rfl) (Nat.le_of_lt hj)) (by omega) rfl (Nat.le_of_ble_eq_true rfl)) ?_
  simp only [killT, killB, SV.kill, CV.kill, kk, Nat.reduceBEq]
  iterate 6 refine z ?_
  refine ok_region ?_
  iterate 2 refine z ?_
  refine yO rfl rfl (pu_indexK (i := j) hT rfl rfl rfl (ev_tmp rfl) rfl (ev_tmp rfl) rfl (by show _ < (x.length); omega)) rfl ?_
  iterate 2 refine z ?_
  refine yO rfl rfl (pu_loadE1 hT rfl rfl (ev_tmp rfl) rfl (get_mid (off := ((j * 4 + 3) + 0)) (j := 3) (mk_pre (sz := 4) (fun _ => rfl) (Nat.le_of_lt hj)) (by omega) rfl)) rfl ?_
  refine z ?_
  refine o_callN (t := 42) (ccs := mid ((mkL mkItem cItem (x.take j) k).flatMap eItem) [.int .i64 (k + (wSum cItem (x.take j) : Int)), .int .i64 ((k + (wSum cItem (x.take j) : Int)) + (1)), .str (mText (((k + (wSum cItem (x.take j) : Int)) + (1)) + (1))), fieldsD (mkL mkField cField ((x.getD (j : Int).toNat default).2) ((((k + (wSum cItem (x.take j) : Int)) + (1)) + (1)) + (1)))] ((x.drop (j + 1)).flatMap eItem)) 5044 rfl rfl rfl Try.call72 (ok_laws_markFieldS (by omega) (by omega)) rfl rfl (get_mid (off := ((j * 4 + 3) + 0)) (j := 3) (mk_pre (sz := 4) (fun _ => rfl) (Nat.le_of_lt hj)) (by omega) rfl) rfl (aw_cons (ev_tmp rfl) (aw_one (awc_key rfl)) (aw_cons (ev_tmp rfl) (aw_one (awc_dv rfl)) aw_nil)) rfl rfl (set_mid (off := ((j * 4 + 3) + 0)) (j := 3) (mk_pre (sz := 4) (fun _ => rfl) (Nat.le_of_lt hj)) (by omega) rfl (Nat.lt_of_lt_of_le (Nat.lt_succ_self _) (Nat.le_of_ble_eq_true rfl))) ?_
  simp only [killT, killB, SV.kill, CV.kill, kk, Nat.reduceBEq]
  refine z ?_
  refine ops_nil ?_
  iterate 2 refine z ?_
  refine ok_region ?_
  iterate 4 refine z ?_
  refine ⟨j + 1, ?_, ?_, weak_sub ⟨rfl, (eqSlotI (by omega)), rfl, rfl, trivial⟩ trivial ⟨(congrArg (fun cs => some (some (KC.mk true 150 4 x.length cs))) (mk_close (by omega) (by rfl))), trivial⟩ rfl⟩
  ·omega
  ·omega
 ·skip
  have d1 := of_decide_eq_false c1
  iterate 9 refine z ?_
  refine ok_weak (σ' := ⟨[(4, .one (.dv [] (.int .i64 (k + (wSum cItem (x.take j) : Int)))))], [], [(0, some (kcOf true (itemsD (mkL mkItem cItem x k))))]⟩) (weak_sub ⟨rfl, trivial⟩ trivial ⟨(mk_fin (by omega)), trivial⟩ rfl) ?_
  refine z ?_
  refine fin1 (res_tmp rfl) ⟨eqI ?_, w1_ok rfl⟩
  have hq := wSum_all cItem x j (by omega); omega
theorem ok_laws_heldItemS {x y : List (ItemT)} {k : Int} (hy : y = mkL mkItem cItem x k) (h0 : 0 ≤ k) (h1 : k + (wSum cItem x : Int) ≤ 4611686018427387904) : PFn Try.prog 173 [.one (.dv [] (itemsD (y))), .one (.dv [] (.int .i64 (k)))] (.one (.dv [] (.int .i64 (k + (wSum cItem x : Int))))) := by
 refine ⟨fn_intro Try.func173 rfl Try.ntmps173 Try.results173 rfl (fun C => ?_)⟩
 refine ok_fact (x := .tmp 0) (ev_tmp rfl) fun f0 => ?_
 refine ok_fact (x := .tmp 1) (ev_tmp rfl) fun f1 => ?_
 iterate 8 refine z ?_
 refine ok_loop (ι := Nat) (fun zz => ⟨[(0, .one (.dv [] (itemsD (y)))), (1, .one (.dv [] (.int .i64 (k + (wSum cItem (x.take zz) : Int))))), (5, .one (.dv [] (.int .i64 ((zz : Int)))))], [], []⟩) (fun zz => zz ≤ x.length) (fun zz => x.length - zz) (0) ?_ (weak_sub ⟨rfl, (eqSlotI (by simp [wSum])), rfl, trivial⟩ trivial trivial rfl) (fun zz hx => ?_)
 ·exact Nat.zero_le _
 obtain ⟨j, rfl⟩ : ∃ v, v = zz := ⟨_, rfl⟩
 replace hx : j ≤ x.length := hx
 have hw := fun h => wSum_succ cItem x j h
 have hyl : y.length = x.length := by rw [hy, mkL_len]
 show Ok _ _ _ _ _ (⟨[(0, .one (.dv [] (itemsD (y)))), (1, .one (.dv [] (.int .i64 (k + (wSum cItem (x.take j) : Int))))), (5, .one (.dv [] (.int .i64 ((j : Int)))))], [], []⟩ : St)
 iterate 7 refine z ?_
 refine yQ rfl (fun c1 => ?_) fun c1 => ?_
 ·skip
  have d1 := of_decide_eq_true c1
  have hj : j < x.length := by omega
  obtain ⟨hw1, hw2⟩ := hw hj
  have hc : cItem (x.getD (j : Int).toNat default) = 3 + wSum cField ((x.getD (j : Int).toNat default).2) := rfl
  have he : y.getD (j : Int).toNat default = mkItem (x.getD (j : Int).toNat default) (k + (wSum cItem (x.take j) : Int)) := by rw [hy]; exact mkL_getD hj
  iterate 15 refine z ?_
  refine yQ rfl (fun c2 => ?_) fun c2 => ?_
  ·skip
   have d2 := nd_t c2
   iterate 11 refine z ?_
   exfalso; rw [he] at c2; simp [mkItem, sEq] at c2
  ·skip
   have d2 := nd_f c2
   iterate 18 refine z ?_
   refine yQ rfl (fun c3 => ?_) fun c3 => ?_
   ·skip
    have d3 := nd_t c3
    iterate 11 refine z ?_
    exfalso; rw [he] at c3; simp [mkItem, sEq] at c3
   ·skip
    have d3 := nd_f c3
    iterate 7 refine z ?_
    refine ok_seq ?_
    refine ok_seq ?_
    refine ok_regionD (oB := []) (oK := []) (by kernel_rfl) rfl rfl ?_
    refine zD 0 ?_
    refine zD 1 ?_
    refine zD 2 ?_
    refine zD 3 ?_
    refine zD 4 ?_
    refine zD 5 ?_
    refine zD 6 ?_
    refine d_call 7 rfl (by kernel_rfl) rfl rfl rfl Try.call71 (ok_laws_markText (by omega)) (as_cons (ev_tmp rfl) (ag_one ac_dv) as_nil) rfl rfl rfl rfl ?_
    refine zD 8 ?_
    refine d_done (by kernel_rfl) ?_
    refine z ?_
    refine yQ rfl (fun c4 => ?_) fun c4 => ?_
    ·skip
     iterate 11 refine z ?_
     exfalso; rw [he] at c4; simp [mkItem, sEq] at c4
    ·skip
     iterate 15 refine z ?_
     refine zC Try.call81 ?_ (hf := ok_laws_heldFieldS (x := (x.getD (j : Int).toNat default).2) (by rw [he]; rfl) (by omega) (by omega))
     iterate 6 refine z ?_
     refine yQ rfl (fun c5 => ?_) fun c5 => ?_
     ·skip
      have d5 := of_decide_eq_true c5
      iterate 10 refine z ?_
      exfalso; omega
     ·skip
      have d5 := of_decide_eq_false c5
      iterate 3 refine z ?_
      refine ok_region ?_
      iterate 4 refine z ?_
      refine ⟨j + 1, ?_, ?_, weak_sub ⟨rfl, (eqSlotI (by omega)), rfl, trivial⟩ trivial trivial rfl⟩
      ·omega
      ·omega
 ·skip
  have d1 := of_decide_eq_false c1
  iterate 11 refine z ?_
  have hq := wSum_all cItem x j (by omega); omega
end Go.Proofs.Ytlogahkchenpdaa

namespace Go.Proofs.Ytlogahkchenpdaa
open Go.RowKit
open Go.Proofs
set_option linter.unusedVariables false
set_option linter.unusedSimpArgs false
def mkStore (x : StoreT) (k : Int) : StoreT := (mText (k), mkL mkItem cItem (x.2.1) ((k) + (1)), ((k) + (1)) + (wSum cItem (x.2.1) : Int))
def cStore (x : StoreT) : Nat := 2 + wSum cItem (x.2.1)
theorem cStore_le (x : StoreT) : cStore x ≤ 8 * (1 + wStore x) := by
 have h1 := wSum_bound cItem_le (x.2.1)
 simp only [cStore, wStore]
 omega
theorem ok_laws_markStoreS {x : List (StoreT)} {k : Int} (h0 : 0 ≤ k) (h1 : k + (wSum cStore x : Int) ≤ 4611686018427387904) : WFn Try.prog 138 [.one (.key 0), .one (.dv [] (.int .i64 (k)))] (.one (.dv [] (.int .i64 (k + (wSum cStore x : Int))))) [(0, kcOf true (.sl 82 3 (x.length) (x.flatMap eStore)))] [(0, kcOf true (storesD (mkL mkStore cStore x k)))] := by
 refine ⟨fn_intro Try.func138 rfl Try.ntmps138 Try.results138 rfl (fun C => ?_)⟩
 have hln : x.length ≤ wSum cStore x := wSum_ge (fun _ => by simp only [cStore]; omega) x
 refine ok_fact (x := .tmp 1) (ev_tmp rfl) fun f1 => ?_
 iterate 8 refine z ?_
 refine ok_loop (ι := Nat) (fun zz => ⟨[(0, .one (.key 0)), (1, .one (.dv [] (.int .i64 (k + (wSum cStore (x.take zz) : Int))))), (4, .one (.dv [] (.int .i64 (0)))), (5, .one (.dv [] (.int .i64 ((zz : Int)))))], [], [(0, some ⟨true, 82, 3, x.length, (mkL mkStore cStore (x.take zz) k).flatMap eStore ++ (x.drop zz).flatMap eStore⟩)]⟩) (fun zz => zz ≤ x.length) (fun zz => x.length - zz) (0) ?_ (weak_sub ⟨rfl, (eqSlotI (by simp [wSum])), rfl, rfl, trivial⟩ trivial ⟨rfl, trivial⟩ rfl) (fun zz hx => ?_)
 ·exact Nat.zero_le _
 obtain ⟨j, rfl⟩ : ∃ v, v = zz := ⟨_, rfl⟩
 replace hx : j ≤ x.length := hx
 have hw := fun h => wSum_succ cStore x j h
 show Ok _ _ _ _ _ (⟨[(0, .one (.key 0)), (1, .one (.dv [] (.int .i64 (k + (wSum cStore (x.take j) : Int))))), (4, .one (.dv [] (.int .i64 (0)))), (5, .one (.dv [] (.int .i64 ((j : Int)))))], [], [(0, some ⟨true, 82, 3, x.length, (mkL mkStore cStore (x.take j) k).flatMap eStore ++ (x.drop j).flatMap eStore⟩)]⟩ : St)
 iterate 4 refine z ?_
 refine yO rfl rfl (pu_lenKn (n := (x.length)) hT rfl rfl (ev_tmp rfl) rfl rfl) rfl ?_
 iterate 2 refine z ?_
 refine yQ rfl (fun c1 => ?_) fun c1 => ?_
 ·skip
  have d1 := of_decide_eq_true c1
  have hj : j < x.length := by omega
  obtain ⟨hw1, hw2⟩ := hw hj
  have hc : cStore (x.getD (j : Int).toNat default) = 2 + wSum cItem ((x.getD (j : Int).toNat default).2.1) := rfl
  refine ok_kcs (k := 0) (cs' := mid ((mkL mkStore cStore (x.take j) k).flatMap eStore) [.str ((x.getD (j : Int).toNat default).1), itemsD ((x.getD (j : Int).toNat default).2.1), .int .i64 ((x.getD (j : Int).toNat default).2.2)] ((x.drop (j + 1)).flatMap eStore)) rfl (mk_open hj) ?_
  iterate 8 refine z ?_
  refine zC Try.call71 ?_ (hf := ok_laws_markText (by omega))
  refine yO rfl rfl (pu_indexK (i := j) hT rfl rfl rfl (ev_tmp rfl) rfl (ev_tmp rfl) rfl (by show _ < (x.length); omega)) rfl ?_
  refine z ?_
  refine o_storeE (js := []) (cs := mid ((mkL mkStore cStore (x.take j) k).flatMap eStore) [.str (mText (k + (wSum cStore (x.take j) : Int))), itemsD ((x.getD (j : Int).toNat default).2.1), .int .i64 ((x.getD (j : Int).toNat default).2.2)] ((x.drop (j + 1)).flatMap eStore)) hT rfl rfl rfl rfl (ev_tmp rfl) (ev_tmp rfl) rfl rfl rfl rfl (ow_cons' (ow_dv rfl) ow_nil rfl) (by decide) (by decide) rfl (le_mid (off := (j * 3 + 0)) (n := 1) (j := 0) (mk_pre (sz := 3) (fun _ => rfl) (Nat.le_of_lt hj)) (by omega) (Nat.le_of_ble_eq_true rfl)) (setR_mid (off := (j * 3 + 0)) (j := 0) (mk_pre (sz := 3) (fun _ => rfl) (Nat.le_of_lt hj)) (by omega) rfl (Nat.le_of_ble_eq_true rfl)) ?_
  simp only [killT, killB, SV.kill, CV.kill, kk, Nat.reduceBEq]
  iterate 9 refine z ?_
  refine yO rfl rfl (pu_indexK (i := j) hT rfl rfl rfl (ev_tmp rfl) rfl (ev_tmp rfl) rfl (by show _ < (x.length); omega)) rfl ?_
  refine z ?_
  refine yO rfl rfl (pu_loadE1 hT rfl rfl (ev_tmp rfl) rfl (get_mid (off := (j * 3 + 1)) (j := 1) (mk_pre (sz := 3) (fun _ => rfl) (Nat.le_of_lt hj)) (by omega) rfl)) rfl ?_
  refine z ?_
  refine o_callN (t := 24) (ccs := mid ((mkL mkStore cStore (x.take j) k).flatMap eStore) [.str (mText (k + (wSum cStore (x.take j) : Int))), itemsD (mkL mkItem cItem ((x.getD (j : Int).toNat default).2.1) ((k + (wSum cStore (x.take j) : Int)) + (1))), .int .i64 ((x.getD (j : Int).toNat default).2.2)] ((x.drop (j + 1)).flatMap eStore)) 5026 rfl rfl rfl Try.call172 (ok_laws_markItemS (by omega) (by omega)) rfl rfl (get_mid (off := (j * 3 + 1)) (j := 1) (mk_pre (sz := 3) (fun _ => rfl) (Nat.le_of_lt hj)) (by omega) rfl) rfl (aw_cons (ev_tmp rfl) (aw_one (awc_key rfl)) (aw_cons (ev_tmp rfl) (aw_one (awc_dv rfl)) aw_nil)) rfl rfl (set_mid (off := (j * 3 + 1)) (j := 1) (mk_pre (sz := 3) (fun _ => rfl) (Nat.le_of_lt hj)) (by omega) rfl (Nat.lt_of_lt_of_le (Nat.lt_succ_self _) (Nat.le_of_ble_eq_true rfl))) ?_
  simp only [killT, killB, SV.kill, CV.kill, kk, Nat.reduceBEq]
  iterate 6 refine z ?_
  refine yO rfl rfl (pu_indexK (i := j) hT rfl rfl rfl (ev_tmp rfl) rfl (ev_tmp rfl) rfl (by show _ < (x.length); omega)) rfl ?_
  refine z ?_
  refine o_storeE (js := []) (cs := mid ((mkL mkStore cStore (x.take j) k).flatMap eStore) [.str (mText (k + (wSum cStore (x.take j) : Int))), itemsD (mkL mkItem cItem ((x.getD (j : Int).toNat default).2.1) ((k + (wSum cStore (x.take j) : Int)) + (1))), .int .i64 (((k + (wSum cStore (x.take j) : Int)) + (1)) + (wSum cItem ((x.getD (j : Int).toNat default).2.1) : Int))] ((x.drop (j + 1)).flatMap eStore)) hT rfl rfl rfl rfl (ev_tmp rfl) (ev_tmp rfl) rfl rfl rfl rfl (ow_cons' (ow_dv rfl) ow_nil rfl) (by decide) (by decide) rfl (le_mid (off := (j * 3 + 2)) (n := 1) (j := 2) (mk_pre (sz := 3) (fun _ => rfl) (Nat.le_of_lt hj)) (by omega) (Nat.le_of_ble_eq_true rfl)) (setR_mid (off := (j * 3 + 2)) (j := 2) (mk_pre (sz := 3) (fun _ => rfl) (Nat.le_of_lt hj)) (by omega) rfl (Nat.le_of_ble_eq_true rfl)) ?_
  simp only [killT, killB, SV.kill, CV.kill, kk, Nat.reduceBEq]
  refine z ?_
  refine ok_region ?_
  iterate 3 refine z ?_
  refine ops_nil ?_
  iterate 2 refine z ?_
  refine ok_region ?_
  iterate 4 refine z ?_
  refine ⟨j + 1, ?_, ?_, weak_sub ⟨rfl, (eqSlotI (by omega)), rfl, rfl, trivial⟩ trivial ⟨(congrArg (fun cs => some (some (KC.mk true 82 3 x.length cs))) (mk_close (by omega) (by rfl))), trivial⟩ rfl⟩
  ·omega
  ·omega
 ·skip
  have d1 := of_decide_eq_false c1
  iterate 9 refine z ?_
  refine ok_weak (σ' := ⟨[(4, .one (.dv [] (.int .i64 (k + (wSum cStore (x.take j) : Int)))))], [], [(0, some (kcOf true (storesD (mkL mkStore cStore x k))))]⟩) (weak_sub ⟨rfl, trivial⟩ trivial ⟨(mk_fin (by omega)), trivial⟩ rfl) ?_
  refine z ?_
  refine fin1 (res_tmp rfl) ⟨eqI ?_, w1_ok rfl⟩
  have hq := wSum_all cStore x j (by omega); omega
theorem ok_laws_heldStoreS {x y : List (StoreT)} {k : Int} (hy : y = mkL mkStore cStore x k) (h0 : 0 ≤ k) (h1 : k + (wSum cStore x : Int) ≤ 4611686018427387904) : PFn Try.prog 140 [.one (.dv [] (storesD (y))), .one (.dv [] (.int .i64 (k)))] (.one (.dv [] (.int .i64 (k + (wSum cStore x : Int))))) := by
 refine ⟨fn_intro Try.func140 rfl Try.ntmps140 Try.results140 rfl (fun C => ?_)⟩
 refine ok_fact (x := .tmp 0) (ev_tmp rfl) fun f0 => ?_
 refine ok_fact (x := .tmp 1) (ev_tmp rfl) fun f1 => ?_
 iterate 8 refine z ?_
 refine ok_loop (ι := Nat) (fun zz => ⟨[(0, .one (.dv [] (storesD (y)))), (1, .one (.dv [] (.int .i64 (k + (wSum cStore (x.take zz) : Int))))), (5, .one (.dv [] (.int .i64 ((zz : Int)))))], [], []⟩) (fun zz => zz ≤ x.length) (fun zz => x.length - zz) (0) ?_ (weak_sub ⟨rfl, (eqSlotI (by simp [wSum])), rfl, trivial⟩ trivial trivial rfl) (fun zz hx => ?_)
 ·exact Nat.zero_le _
 obtain ⟨j, rfl⟩ : ∃ v, v = zz := ⟨_, rfl⟩
 replace hx : j ≤ x.length := hx
 have hw := fun h => wSum_succ cStore x j h
 have hyl : y.length = x.length := by rw [hy, mkL_len]
 show Ok _ _ _ _ _ (⟨[(0, .one (.dv [] (storesD (y)))), (1, .one (.dv [] (.int .i64 (k + (wSum cStore (x.take j) : Int))))), (5, .one (.dv [] (.int .i64 ((j : Int)))))], [], []⟩ : St)
 iterate 7 refine z ?_
 refine yQ rfl (fun c1 => ?_) fun c1 => ?_
 ·skip
  have d1 := of_decide_eq_true c1
  have hj : j < x.length := by omega
  obtain ⟨hw1, hw2⟩ := hw hj
  have hc : cStore (x.getD (j : Int).toNat default) = 2 + wSum cItem ((x.getD (j : Int).toNat default).2.1) := rfl
  have he : y.getD (j : Int).toNat default = mkStore (x.getD (j : Int).toNat default) (k + (wSum cStore (x.take j) : Int)) := by rw [hy]; exact mkL_getD hj
  iterate 4 refine z ?_
  refine ok_seq ?_
  refine ok_seq ?_
  refine ok_regionD (oB := []) (oK := []) (by kernel_rfl) rfl rfl ?_
  refine zD 0 ?_
  refine zD 1 ?_
  refine zD 2 ?_
  refine zD 3 ?_
  refine zD 4 ?_
  refine zD 5 ?_
  refine d_call 6 rfl (by kernel_rfl) rfl rfl rfl Try.call71 (ok_laws_markText (by omega)) (as_cons (ev_tmp rfl) (ag_one ac_dv) as_nil) rfl rfl rfl rfl ?_
  refine zD 7 ?_
  refine d_done (by kernel_rfl) ?_
  refine z ?_
  refine yQ rfl (fun c2 => ?_) fun c2 => ?_
  ·skip
   iterate 11 refine z ?_
   exfalso; rw [he] at c2; simp [mkStore, sEq] at c2
  ·skip
   iterate 14 refine z ?_
   refine zC Try.call173 ?_ (hf := ok_laws_heldItemS (x := (x.getD (j : Int).toNat default).2.1) (by rw [he]; rfl) (by omega) (by omega))
   iterate 7 refine z ?_
   refine yQ rfl (fun c3 => ?_) fun c3 => ?_
   ·skip
    have d3 := of_decide_eq_true c3
    iterate 11 refine z ?_
    exfalso; omega
   ·skip
    have d3 := of_decide_eq_false c3
    iterate 12 refine z ?_
    refine yQ rfl (fun c4 => ?_) fun c4 => ?_
    ·skip
     have d4 := nd_t c4
     iterate 11 refine z ?_
     exfalso; rw [he] at c4; simp [mkStore, sEq] at c4
    ·skip
     have d4 := nd_f c4
     iterate 2 refine z ?_
     refine ok_region ?_
     iterate 3 refine z ?_
     refine ops_nil ?_
     iterate 2 refine z ?_
     refine ok_region ?_
     iterate 4 refine z ?_
     refine ⟨j + 1, ?_, ?_, weak_sub ⟨rfl, (eqSlotI (by omega)), rfl, trivial⟩ trivial trivial rfl⟩
     ·omega
     ·omega
 ·skip
  have d1 := of_decide_eq_false c1
  iterate 11 refine z ?_
  have hq := wSum_all cStore x j (by omega); omega
end Go.Proofs.Ytlogahkchenpdaa

namespace Go.Proofs.Ytlogahkchenpdaa
open Go.RowKit
open Go.Proofs
set_option linter.unusedVariables false
set_option linter.unusedSimpArgs false

theorem take_cs1 {xs : List ItemT} {k : Nat} (hk : k < xs.length) : (xs.take k).flatMap eItem ++ eItem (xs.getD (k : Int).toNat default) = (xs.take (k + 1)).flatMap eItem ∧ (xs.take k).length + 1 = (xs.take (k + 1)).length := by
 have e : xs.getD (k : Int).toNat default = xs[k] := by simp [List.getD, List.getElem?_eq_getElem hk]
 rw [List.take_add_one, List.getElem?_eq_getElem hk, e]
 simp only [Option.toList_some, List.flatMap_append, List.flatMap_cons, List.flatMap_nil, List.append_nil, List.length_append, List.length_singleton]
 exact ⟨trivial, trivial⟩

theorem ok_impl_copyStore {x : StoreT} (hb : wStore x ≤ 1099511627776) : KFn Try.prog 171 [.agg [(.dv [] (.str (x.1))), (.dv [] (itemsD (x.2.1))), (.dv [] (.int .i64 (x.2.2)))]] (.agg [(.dv [] (.str (x.1))), (.key 30), (.dv [] (.int .i64 (x.2.2)))]) [(30, some (kcOf false (itemsD (x.2.1))))] := by
 refine ⟨fn_intro Try.func171 rfl Try.ntmps171 Try.results171 rfl (fun C => ?_)⟩
 refine yF 0 0 rfl rfl fun f0_0 => ?_
 refine yF 0 1 rfl rfl fun f0_1 => ?_
 refine yF 0 2 rfl rfl fun f0_2 => ?_
 iterate 9 refine z ?_
 refine yO rfl rfl (pu_build hT hB rfl rfl rfl (bp_cons (ev_tmp rfl) rfl rfl rfl rfl rfl (bp_cons (ev_tmp rfl) rfl rfl rfl rfl rfl bp_nil))) rfl ?_
 iterate 3 refine z ?_
 refine ok_seq ?_
 refine ok_seq ?_
 refine ok_weak (weak_nilB 30 (b := 3) (i := 1) (e := 150) (sz := 4) rfl rfl rfl rfl rfl) ?_
 simp only [killT, killB, SV.kill, CV.kill, kk, Nat.reduceBEq]
 refine ok_region ?_
 iterate 6 refine z ?_
 refine ok_loop (ι := Nat) (fun zz => ⟨[(2, .box 2 0), (3, .box 3 0), (12, .one (.dv [] (itemsD (x.2.1)))), (13, .one (.dv [] (.int .i64 ((((x.2.1)).length : Int))))), (14, .one (.dv [] (.int .i64 ((zz : Int)))))], [(2, 82, [(.dv [] (.str (ByteArray.empty))), .nil, (.dv [] (.int .i64 (0)))]), (3, 82, [(.dv [] (.str (x.1))), (.key 30), (.dv [] (.int .i64 (x.2.2)))])], [(30, some (kcOf false (.sl 150 4 ((x.2.1.take zz).length) ((x.2.1.take zz).flatMap eItem))))]⟩) (fun zz => zz ≤ x.2.1.length) (fun zz => x.2.1.length - zz) (0) ?_ (weak_sub ⟨rfl, rfl, rfl, rfl, rfl, trivial⟩ ⟨rfl, rfl, trivial⟩ ⟨rfl, trivial⟩ rfl) (fun zz hx => ?_)
 ·exact Nat.zero_le _
 obtain ⟨k, rfl⟩ : ∃ v, v = zz := ⟨_, rfl⟩
 replace hx : k ≤ x.2.1.length := hx
 have hw := fun h => wSum_succ wItem x.2.1 k h
 show Ok _ _ _ _ _ (⟨[(2, .box 2 0), (3, .box 3 0), (12, .one (.dv [] (itemsD (x.2.1)))), (13, .one (.dv [] (.int .i64 ((((x.2.1)).length : Int))))), (14, .one (.dv [] (.int .i64 ((k : Int)))))], [(2, 82, [(.dv [] (.str (ByteArray.empty))), .nil, (.dv [] (.int .i64 (0)))]), (3, 82, [(.dv [] (.str (x.1))), (.key 30), (.dv [] (.int .i64 (x.2.2)))])], [(30, some (kcOf false (.sl 150 4 ((x.2.1.take k).length) ((x.2.1.take k).flatMap eItem))))]⟩ : St)
 iterate 3 refine z ?_
 refine ok_seq ?_
 refine yQ rfl (fun c1 => ?_) fun c1 => ?_
 ·skip
  have d1 := of_decide_eq_true c1
  have hk2 : k < x.2.1.length := by omega
  have hlen : x.2.1.length ≤ 1099511627776 := by have h3 : wStore x = x.1.size + (x.2.1.length + wSum wItem x.2.1) := rfl; omega
  have hrec : wItem (x.2.1.getD (k : Int).toNat default) ≤ 1099511627776 := by have := hw hk2; have h3 : wStore x = x.1.size + (x.2.1.length + wSum wItem x.2.1) := rfl; omega
  iterate 10 refine z ?_
  refine ok_regionH [0, 1, 2, 3, 4] (oB := [2, 3, 5]) (oK := [30]) (by kernel_rfl) rfl rfl ?_
  refine zD 0 ?_
  refine zD 1 ?_
  refine zD 2 ?_
  refine d_callK 21000 3 rfl (by kernel_rfl) rfl rfl rfl Try.call183 (ok_impl_copyItem (by first | omega | exact Nat.le_trans (item_len _) hrec)) (as_cons (ev_tmp rfl) (ag_agg (ag_cons ac_dv (ag_cons ac_dv (ag_cons ac_dv (ag_cons ac_dv ag_nil))))) as_nil) rfl rfl rfl rfl rfl ?_
  refine d_build1 (k := 22) (js := [28003]) 4 hT rfl (by kernel_rfl) rfl rfl rfl rfl rfl rfl rfl rfl rfl (ev_tmp rfl) rfl rfl (ow_cons' (ow_dv rfl) (ow_cons' (ow_dv rfl) (ow_cons' (ow_dv rfl) (ow_cons' (ow_key rfl) ow_nil rfl) rfl) rfl) rfl) (by decide) (by decide) rfl rfl (by decide) ?_
  simp only [killT, killB, SV.kill, CV.kill, kk, Nat.reduceBEq]
  refine d_chain [5, 6, 7] rfl rfl (by kernel_rfl) ?_
  refine o_appK (k := 30) (j := 22) (cs := (x.2.1.take (k + 1)).flatMap eItem) (n := (x.2.1.take (k + 1)).length) hT rfl rfl rfl rfl rfl rfl rfl (ev_tmp rfl) rfl rfl rfl (ev_tmp rfl) rfl rfl (by decide) (by dsimp only [kcOf]; simp only [List.length_take]; omega) (by dsimp only [kcOf]; simp only [List.length_take]; omega) ((take_cs1 hk2).2) ((take_cs1 hk2).1) ?_
  simp only [killT, killB, SV.kill, CV.kill, kk, Nat.reduceBEq]
  iterate 2 refine z ?_
  refine ops_nil ?_
  iterate 2 refine z ?_
  refine ok_region ?_
  iterate 3 refine z ?_
  refine ⟨k + 1, ?_, ?_, weak_sub ⟨rfl, rfl, rfl, rfl, rfl, trivial⟩ ⟨rfl, rfl, trivial⟩ ⟨rfl, trivial⟩ rfl⟩
  ·omega
  ·omega
 ·skip
  have d1 := of_decide_eq_false c1
  iterate 9 refine z ?_
  refine ok_weak (σ' := ⟨[(2, .box 2 0)], [(2, 82, [(.dv [] (.str (x.1))), (.key 30), (.dv [] (.int .i64 (x.2.2)))])], [(30, some (kcOf false (itemsD (x.2.1))))]⟩) (weak_sub ⟨rfl, trivial⟩ ⟨rfl, trivial⟩ ⟨(congrArg (fun l : List ItemT => some (some (KC.mk false 150 4 l.length (l.flatMap eItem)))) (List.take_of_length_le (by omega))), trivial⟩ rfl) ?_
  refine z ?_
  refine fin1 (res_cell hT rfl rfl rfl rfl) ?_
  exact ⟨rfl, rfl⟩
theorem ok_spec_l6Copy {x : StoreT} (hb : wStore x ≤ 1099511627776) : KFn Try.prog 170 [.agg [(.dv [] (.str (x.1))), (.dv [] (itemsD (x.2.1))), (.dv [] (.int .i64 (x.2.2)))]] (.agg [(.dv [] (.str (x.1))), (.key 30), (.dv [] (.int .i64 (x.2.2)))]) [(30, some (kcOf false (itemsD (x.2.1))))] := by
 refine ⟨fn_intro Try.func170 rfl Try.ntmps170 Try.results170 rfl (fun C => ?_)⟩
 refine yF 0 0 rfl rfl fun f0_0 => ?_
 refine yF 0 1 rfl rfl fun f0_1 => ?_
 refine yF 0 2 rfl rfl fun f0_2 => ?_
 iterate 9 refine z ?_
 refine yO rfl rfl (pu_build hT hB rfl rfl rfl (bp_cons (ev_tmp rfl) rfl rfl rfl rfl rfl (bp_cons (ev_tmp rfl) rfl rfl rfl rfl rfl bp_nil))) rfl ?_
 iterate 3 refine z ?_
 refine ok_seq ?_
 refine ok_seq ?_
 refine ok_weak (weak_nilB 30 (b := 3) (i := 1) (e := 150) (sz := 4) rfl rfl rfl rfl rfl) ?_
 simp only [killT, killB, SV.kill, CV.kill, kk, Nat.reduceBEq]
 refine ok_region ?_
 iterate 3 refine z ?_
 refine ok_loop (ι := Nat) (fun zz => ⟨[(1, .box 1 0), (2, .box 2 0), (3, .box 3 0), (4, .one (.dv [] (.int .i64 ((zz : Int)))))], [(1, 82, [(.dv [] (.str (x.1))), (.dv [] (itemsD (x.2.1))), (.dv [] (.int .i64 (x.2.2)))]), (2, 82, [(.dv [] (.str (ByteArray.empty))), .nil, (.dv [] (.int .i64 (0)))]), (3, 82, [(.dv [] (.str (x.1))), (.key 30), (.dv [] (.int .i64 (x.2.2)))])], [(30, some (kcOf false (.sl 150 4 ((x.2.1.take zz).length) ((x.2.1.take zz).flatMap eItem))))]⟩) (fun zz => zz ≤ x.2.1.length) (fun zz => x.2.1.length - zz) (0) ?_ (weak_sub ⟨rfl, rfl, rfl, rfl, trivial⟩ ⟨rfl, rfl, rfl, trivial⟩ ⟨rfl, trivial⟩ rfl) (fun zz hx => ?_)
 ·exact Nat.zero_le _
 obtain ⟨k, rfl⟩ : ∃ v, v = zz := ⟨_, rfl⟩
 replace hx : k ≤ x.2.1.length := hx
 have hw := fun h => wSum_succ wItem x.2.1 k h
 show Ok _ _ _ _ _ (⟨[(1, .box 1 0), (2, .box 2 0), (3, .box 3 0), (4, .one (.dv [] (.int .i64 ((k : Int)))))], [(1, 82, [(.dv [] (.str (x.1))), (.dv [] (itemsD (x.2.1))), (.dv [] (.int .i64 (x.2.2)))]), (2, 82, [(.dv [] (.str (ByteArray.empty))), .nil, (.dv [] (.int .i64 (0)))]), (3, 82, [(.dv [] (.str (x.1))), (.key 30), (.dv [] (.int .i64 (x.2.2)))])], [(30, some (kcOf false (.sl 150 4 ((x.2.1.take k).length) ((x.2.1.take k).flatMap eItem))))]⟩ : St)
 iterate 8 refine z ?_
 refine yQ rfl (fun c1 => ?_) fun c1 => ?_
 ·skip
  have d1 := of_decide_eq_true c1
  have hk2 : k < x.2.1.length := by omega
  have hlen : x.2.1.length ≤ 1099511627776 := by have h3 : wStore x = x.1.size + (x.2.1.length + wSum wItem x.2.1) := rfl; omega
  have hrec : wItem (x.2.1.getD (k : Int).toNat default) ≤ 1099511627776 := by have := hw hk2; have h3 : wStore x = x.1.size + (x.2.1.length + wSum wItem x.2.1) := rfl; omega
  iterate 4 refine z ?_
  refine ok_regionH [0, 1, 2, 3, 4, 5, 6, 7, 8] (oB := [1, 2, 3]) (oK := [30]) (by kernel_rfl) rfl rfl ?_
  refine zD 0 ?_
  refine zD 1 ?_
  refine zD 2 ?_
  refine zD 3 ?_
  refine zD 4 ?_
  refine zD 5 ?_
  refine zD 6 ?_
  refine d_callK 24000 7 rfl (by kernel_rfl) rfl rfl rfl Try.call178 (ok_spec_l6Item (by first | omega | exact Nat.le_trans (item_len _) hrec)) (as_cons (ev_tmp rfl) (ag_agg (ag_cons ac_dv (ag_cons ac_dv (ag_cons ac_dv (ag_cons ac_dv ag_nil))))) as_nil) rfl rfl rfl rfl rfl ?_
  refine d_build1 (k := 25) (js := [31003]) 8 hT rfl (by kernel_rfl) rfl rfl rfl rfl rfl rfl rfl rfl rfl (ev_tmp rfl) rfl rfl (ow_cons' (ow_dv rfl) (ow_cons' (ow_dv rfl) (ow_cons' (ow_dv rfl) (ow_cons' (ow_key rfl) ow_nil rfl) rfl) rfl) rfl) (by decide) (by decide) rfl rfl (by decide) ?_
  simp only [killT, killB, SV.kill, CV.kill, kk, Nat.reduceBEq]
  refine d_chain [9, 10, 11] rfl rfl (by kernel_rfl) ?_
  refine o_appK (k := 30) (j := 25) (cs := (x.2.1.take (k + 1)).flatMap eItem) (n := (x.2.1.take (k + 1)).length) hT rfl rfl rfl rfl rfl rfl rfl (ev_tmp rfl) rfl rfl rfl (ev_tmp rfl) rfl rfl (by decide) (by dsimp only [kcOf]; simp only [List.length_take]; omega) (by dsimp only [kcOf]; simp only [List.length_take]; omega) ((take_cs1 hk2).2) ((take_cs1 hk2).1) ?_
  simp only [killT, killB, SV.kill, CV.kill, kk, Nat.reduceBEq]
  iterate 2 refine z ?_
  refine ops_nil ?_
  iterate 2 refine z ?_
  refine ok_region ?_
  iterate 4 refine z ?_
  refine ⟨k + 1, ?_, ?_, weak_sub ⟨rfl, rfl, rfl, rfl, trivial⟩ ⟨rfl, rfl, rfl, trivial⟩ ⟨rfl, trivial⟩ rfl⟩
  ·omega
  ·omega
 ·skip
  have d1 := of_decide_eq_false c1
  iterate 9 refine z ?_
  refine ok_weak (σ' := ⟨[(2, .box 2 0)], [(2, 82, [(.dv [] (.str (x.1))), (.key 30), (.dv [] (.int .i64 (x.2.2)))])], [(30, some (kcOf false (itemsD (x.2.1))))]⟩) (weak_sub ⟨rfl, trivial⟩ ⟨rfl, trivial⟩ ⟨(congrArg (fun l : List ItemT => some (some (KC.mk false 150 4 l.length (l.flatMap eItem)))) (List.take_of_length_le (by omega))), trivial⟩ rfl) ?_
  refine z ?_
  refine fin1 (res_cell hT rfl rfl rfl rfl) ?_
  exact ⟨rfl, rfl⟩
end Go.Proofs.Ytlogahkchenpdaa

namespace Go.Proofs.Ytlogahkchenpdaa
open Go.RowKit
open Go.Proofs
set_option linter.unusedVariables false
set_option linter.unusedSimpArgs false

theorem ok_impl_copyBytes {x : List UInt8} (hb : x.length ≤ 4398046511104) : KFn Try.prog 125 [.one (.dv [] (bytesD (x)))] (.one (.key 3)) [(3, some (kcOf false (bytesD (x))))] := by
 refine ⟨fn_intro Try.func125 rfl Try.ntmps125 Try.results125 rfl (fun C => ?_)⟩
 refine ok_fact (x := .tmp 0) (ev_tmp rfl) fun f0 => ?_
 iterate 4 refine z ?_
 refine o_build0 (k := 3) hT rfl rfl rfl rfl rfl rfl rfl rfl ?_
 refine z ?_
 refine o_appV (k := 3) (cs := (x).flatMap eByte) (n := (x).length) hT rfl rfl rfl rfl rfl rfl rfl (ev_tmp rfl) rfl rfl rfl (ev_tmp rfl) (plain_flat (fun _ => rfl) _) (by first | (dsimp only [kcOf]; omega) | omega) (by first | (dsimp only [kcOf]; omega) | omega) (Nat.zero_add _) (rfl) ?_
 simp only [killT, killB, SV.kill, CV.kill, kk, Nat.reduceBEq]
 iterate 2 refine z ?_
 refine ok_weak (σ' := ⟨[(2, .one (.key 3))], [], [(3, some (kcOf false (bytesD (x))))]⟩) (weak_sub ⟨rfl, trivial⟩ trivial ⟨rfl, trivial⟩ rfl) ?_
 refine z ?_
 refine fin1 (res_tmp rfl) ?_
 exact ⟨rfl, rfl⟩
end Go.Proofs.Ytlogahkchenpdaa

namespace Go.Proofs.Ytlogahkchenpdaa
open Go.RowKit
open Go.Proofs
set_option linter.unusedVariables false
set_option linter.unusedSimpArgs false
theorem u8_mk (z : Int) (h : 0 ≤ z) : IntKind.u8.wrap z = ((UInt8.ofNat (z % 256).toNat).toNat : Int) := by
 simp [IntKind.wrap, IntKind.signed, IntKind.bits]
 omega
theorem ok_laws_markByteS {x : List (UInt8)} {k : Int} (h0 : 0 ≤ k) (h1 : k + (wSum cByte x : Int) ≤ 4611686018427387904) : WFn Try.prog 28 [.one (.key 0), .one (.dv [] (.int .i64 (k)))] (.one (.dv [] (.int .i64 (k + (wSum cByte x : Int))))) [(0, kcOf true (.sl 5 1 (x.length) (x.flatMap eByte)))] [(0, kcOf true (bytesD (mkL mkByte cByte x k)))] := by
 refine ⟨fn_intro Try.func28 rfl Try.ntmps28 Try.results28 rfl (fun C => ?_)⟩
 have hln : x.length ≤ wSum cByte x := wSum_ge (fun _ => by simp only [cByte]; omega) x
 refine ok_fact (x := .tmp 1) (ev_tmp rfl) fun f1 => ?_
 iterate 8 refine z ?_
 refine ok_loop (ι := Nat) (fun zz => ⟨[(0, .one (.key 0)), (1, .one (.dv [] (.int .i64 (k + (wSum cByte (x.take zz) : Int))))), (4, .one (.dv [] (.int .i64 (0)))), (5, .one (.dv [] (.int .i64 ((zz : Int)))))], [], [(0, some ⟨true, 5, 1, x.length, (mkL mkByte cByte (x.take zz) k).flatMap eByte ++ (x.drop zz).flatMap eByte⟩)]⟩) (fun zz => zz ≤ x.length) (fun zz => x.length - zz) (0) ?_ (weak_sub ⟨rfl, (eqSlotI (by simp [wSum])), rfl, rfl, trivial⟩ trivial ⟨rfl, trivial⟩ rfl) (fun zz hx => ?_)
 ·exact Nat.zero_le _
 obtain ⟨j, rfl⟩ : ∃ v, v = zz := ⟨_, rfl⟩
 replace hx : j ≤ x.length := hx
 have hw := fun h => wSum_succ cByte x j h
 show Ok _ _ _ _ _ (⟨[(0, .one (.key 0)), (1, .one (.dv [] (.int .i64 (k + (wSum cByte (x.take j) : Int))))), (4, .one (.dv [] (.int .i64 (0)))), (5, .one (.dv [] (.int .i64 ((j : Int)))))], [], [(0, some ⟨true, 5, 1, x.length, (mkL mkByte cByte (x.take j) k).flatMap eByte ++ (x.drop j).flatMap eByte⟩)]⟩ : St)
 iterate 4 refine z ?_
 refine yO rfl rfl (pu_lenKn (n := (x.length)) hT rfl rfl (ev_tmp rfl) rfl rfl) rfl ?_
 iterate 2 refine z ?_
 refine yQ rfl (fun c1 => ?_) fun c1 => ?_
 ·skip
  have d1 := of_decide_eq_true c1
  have hj : j < x.length := by omega
  obtain ⟨hw1, hw2⟩ := hw hj
  have hc : cByte (x.getD (j : Int).toNat default) = 1 := rfl
  refine ok_kcs (k := 0) (cs' := mid ((mkL mkByte cByte (x.take j) k).flatMap eByte) [.int .u8 ((((x.getD (j : Int).toNat default)).toNat : Int))] ((x.drop (j + 1)).flatMap eByte)) rfl (mk_open hj) ?_
  iterate 8 refine z ?_
  refine yO rfl rfl (pu_convI hT rfl rfl rfl (ev_tmp rfl)) rfl ?_
  refine yO rfl rfl (pu_indexK (i := j) hT rfl rfl rfl (ev_tmp rfl) rfl (ev_tmp rfl) rfl (by show _ < (x.length); omega)) rfl ?_
  refine o_storeE (js := []) (cs := mid ((mkL mkByte cByte (x.take j) k).flatMap eByte) [.int .u8 (IntKind.u8.wrap (k + (wSum cByte (x.take j) : Int)))] ((x.drop (j + 1)).flatMap eByte)) hT rfl rfl rfl rfl (ev_tmp rfl) (ev_tmp rfl) rfl rfl rfl rfl (ow_cons' (ow_dv rfl) ow_nil rfl) (by decide) (by decide) rfl (le_mid (off := j * 1) (n := 1) (j := 0) (mk_pre (sz := 1) (fun _ => rfl) (Nat.le_of_lt hj)) (by omega) (Nat.le_of_ble_eq_true rfl)) (setR_mid (off := j * 1) (j := 0) (mk_pre (sz := 1) (fun _ => rfl) (Nat.le_of_lt hj)) (by omega) rfl (Nat.le_of_ble_eq_true rfl)) ?_
  simp only [killT, killB, SV.kill, CV.kill, kk, Nat.reduceBEq]
  refine z ?_
  refine ok_region ?_
  iterate 3 refine z ?_
  refine ops_nil ?_
  iterate 2 refine z ?_
  refine ok_region ?_
  iterate 4 refine z ?_
  refine ⟨j + 1, ?_, ?_, weak_sub ⟨rfl, (eqSlotI (by omega)), rfl, rfl, trivial⟩ trivial ⟨(congrArg (fun cs => some (some (KC.mk true 5 1 x.length cs))) (mk_close (by omega) (congrArg (fun z => [DV.int .u8 z]) (u8_mk _ (by omega))))), trivial⟩ rfl⟩
  ·omega
  ·omega
 ·skip
  have d1 := of_decide_eq_false c1
  iterate 9 refine z ?_
  refine ok_weak (σ' := ⟨[(4, .one (.dv [] (.int .i64 (k + (wSum cByte (x.take j) : Int)))))], [], [(0, some (kcOf true (bytesD (mkL mkByte cByte x k))))]⟩) (weak_sub ⟨rfl, trivial⟩ trivial ⟨(mk_fin (by omega)), trivial⟩ rfl) ?_
  refine z ?_
  refine fin1 (res_tmp rfl) ⟨eqI ?_, w1_ok rfl⟩
  have hq := wSum_all cByte x j (by omega); omega
theorem ok_laws_heldByteS {x y : List (UInt8)} {k : Int} (hy : y = mkL mkByte cByte x k) (h0 : 0 ≤ k) (h1 : k + (wSum cByte x : Int) ≤ 4611686018427387904) : PFn Try.prog 29 [.one (.dv [] (bytesD (y))), .one (.dv [] (.int .i64 (k)))] (.one (.dv [] (.int .i64 (k + (wSum cByte x : Int))))) := by
 refine ⟨fn_intro Try.func29 rfl Try.ntmps29 Try.results29 rfl (fun C => ?_)⟩
 refine ok_fact (x := .tmp 0) (ev_tmp rfl) fun f0 => ?_
 refine ok_fact (x := .tmp 1) (ev_tmp rfl) fun f1 => ?_
 iterate 8 refine z ?_
 refine ok_loop (ι := Nat) (fun zz => ⟨[(0, .one (.dv [] (bytesD (y)))), (1, .one (.dv [] (.int .i64 (k + (wSum cByte (x.take zz) : Int))))), (5, .one (.dv [] (.int .i64 ((zz : Int)))))], [], []⟩) (fun zz => zz ≤ x.length) (fun zz => x.length - zz) (0) ?_ (weak_sub ⟨rfl, (eqSlotI (by simp [wSum])), rfl, trivial⟩ trivial trivial rfl) (fun zz hx => ?_)
 ·exact Nat.zero_le _
 obtain ⟨j, rfl⟩ : ∃ v, v = zz := ⟨_, rfl⟩
 replace hx : j ≤ x.length := hx
 have hw := fun h => wSum_succ cByte x j h
 have hyl : y.length = x.length := by rw [hy, mkL_len]
 show Ok _ _ _ _ _ (⟨[(0, .one (.dv [] (bytesD (y)))), (1, .one (.dv [] (.int .i64 (k + (wSum cByte (x.take j) : Int))))), (5, .one (.dv [] (.int .i64 ((j : Int)))))], [], []⟩ : St)
 iterate 7 refine z ?_
 refine yQ rfl (fun c1 => ?_) fun c1 => ?_
 ·skip
  have d1 := of_decide_eq_true c1
  have hj : j < x.length := by omega
  obtain ⟨hw1, hw2⟩ := hw hj
  have hc : cByte (x.getD (j : Int).toNat default) = 1 := rfl
  have he : y.getD (j : Int).toNat default = mkByte (x.getD (j : Int).toNat default) (k + (wSum cByte (x.take j) : Int)) := by rw [hy]; exact mkL_getD hj
  iterate 11 refine z ?_
  refine yO rfl rfl (pu_convI hT rfl rfl rfl (ev_tmp rfl)) rfl ?_
  iterate 2 refine z ?_
  refine yQ rfl (fun c2 => ?_) fun c2 => ?_
  ·skip
   have d2 := nd_t c2
   iterate 11 refine z ?_
   exfalso; rw [he] at d2; exact d2 (u8_mk _ (by omega)).symm
  ·skip
   have d2 := nd_f c2
   iterate 2 refine z ?_
   refine ok_region ?_
   iterate 3 refine z ?_
   refine ops_nil ?_
   iterate 2 refine z ?_
   refine ok_region ?_
   iterate 4 refine z ?_
   refine ⟨j + 1, ?_, ?_, weak_sub ⟨rfl, (eqSlotI (by omega)), rfl, trivial⟩ trivial trivial rfl⟩
   ·omega
   ·omega
 ·skip
  have d1 := of_decide_eq_false c1
  iterate 11 refine z ?_
  have hq := wSum_all cByte x j (by omega); omega
end Go.Proofs.Ytlogahkchenpdaa

namespace Go.Proofs.Ytlogahkchenpdaa
open Go.RowKit
open Go.Proofs
set_option linter.unusedVariables false
set_option linter.unusedSimpArgs false
def mkIndexDef (x : DefT) (k : Int) : DefT := (mText (k), mText ((k) + (1)))
def cIndexDef (x : DefT) : Nat := 2
theorem cIndexDef_le (x : DefT) : cIndexDef x ≤ 8 * (1 + wIndexDef x) := by
 simp only [cIndexDef]
 omega
def mvDatabase (x : DbT) (k : Int) : DbT := (x.1, x.2.1, mkL mkStore cStore (x.2.2.1) (k), mkL mkIndexDef cIndexDef (x.2.2.2) ((k) + (wSum cStore (x.2.2.1) : Int)))
def mvDisk (x : DiskT) (k : Int) : DiskT := ((x.1.1, x.1.2.1, mkL mkStore cStore (x.1.2.2.1) (k), mkL mkIndexDef cIndexDef (x.1.2.2.2) ((k) + (wSum cStore (x.1.2.2.1) : Int))), mkL mkByte cByte (x.2.1) (((k) + (wSum cStore (x.1.2.2.1) : Int)) + (wSum cIndexDef (x.1.2.2.2) : Int)), x.2.2)
theorem ok_laws_markIndexDefS {x : List (DefT)} {k : Int} (h0 : 0 ≤ k) (h1 : k + (wSum cIndexDef x : Int) ≤ 4611686018427387904) : WFn Try.prog 139 [.one (.key 0), .one (.dv [] (.int .i64 (k)))] (.one (.dv [] (.int .i64 (k + (wSum cIndexDef x : Int))))) [(0, kcOf true (.sl 129 2 (x.length) (x.flatMap eDef)))] [(0, kcOf true (defsD (mkL mkIndexDef cIndexDef x k)))] := by
 refine ⟨fn_intro Try.func139 rfl Try.ntmps139 Try.results139 rfl (fun C => ?_)⟩
 have hln : x.length ≤ wSum cIndexDef x := wSum_ge (fun _ => by simp only [cIndexDef]; omega) x
 refine ok_fact (x := .tmp 1) (ev_tmp rfl) fun f1 => ?_
 iterate 8 refine z ?_
 refine ok_loop (ι := Nat) (fun zz => ⟨[(0, .one (.key 0)), (1, .one (.dv [] (.int .i64 (k + (wSum cIndexDef (x.take zz) : Int))))), (4, .one (.dv [] (.int .i64 (0)))), (5, .one (.dv [] (.int .i64 ((zz : Int)))))], [], [(0, some ⟨true, 129, 2, x.length, (mkL mkIndexDef cIndexDef (x.take zz) k).flatMap eDef ++ (x.drop zz).flatMap eDef⟩)]⟩) (fun zz => zz ≤ x.length) (fun zz => x.length - zz) (0) ?_ (weak_sub ⟨rfl, (eqSlotI (by simp [wSum])), rfl, rfl, trivial⟩ trivial ⟨rfl, trivial⟩ rfl) (fun zz hx => ?_)
 ·exact Nat.zero_le _
 obtain ⟨j, rfl⟩ : ∃ v, v = zz := ⟨_, rfl⟩
 replace hx : j ≤ x.length := hx
 have hw := fun h => wSum_succ cIndexDef x j h
 show Ok _ _ _ _ _ (⟨[(0, .one (.key 0)), (1, .one (.dv [] (.int .i64 (k + (wSum cIndexDef (x.take j) : Int))))), (4, .one (.dv [] (.int .i64 (0)))), (5, .one (.dv [] (.int .i64 ((j : Int)))))], [], [(0, some ⟨true, 129, 2, x.length, (mkL mkIndexDef cIndexDef (x.take j) k).flatMap eDef ++ (x.drop j).flatMap eDef⟩)]⟩ : St)
 iterate 4 refine z ?_
 refine yO rfl rfl (pu_lenKn (n := (x.length)) hT rfl rfl (ev_tmp rfl) rfl rfl) rfl ?_
 iterate 2 refine z ?_
 refine yQ rfl (fun c1 => ?_) fun c1 => ?_
 ·skip
  have d1 := of_decide_eq_true c1
  have hj : j < x.length := by omega
  obtain ⟨hw1, hw2⟩ := hw hj
  have hc : cIndexDef (x.getD (j : Int).toNat default) = 2 := rfl
  refine ok_kcs (k := 0) (cs' := mid ((mkL mkIndexDef cIndexDef (x.take j) k).flatMap eDef) [.str ((x.getD (j : Int).toNat default).1), .str ((x.getD (j : Int).toNat default).2)] ((x.drop (j + 1)).flatMap eDef)) rfl (mk_open hj) ?_
  iterate 8 refine z ?_
  refine zC Try.call71 ?_ (hf := ok_laws_markText (by omega))
  refine yO rfl rfl (pu_indexK (i := j) hT rfl rfl rfl (ev_tmp rfl) rfl (ev_tmp rfl) rfl (by show _ < (x.length); omega)) rfl ?_
  refine z ?_
  refine o_storeE (js := []) (cs := mid ((mkL mkIndexDef cIndexDef (x.take j) k).flatMap eDef) [.str (mText (k + (wSum cIndexDef (x.take j) : Int))), .str ((x.getD (j : Int).toNat default).2)] ((x.drop (j + 1)).flatMap eDef)) hT rfl rfl rfl rfl (ev_tmp rfl) (ev_tmp rfl) rfl rfl rfl rfl (ow_cons' (ow_dv rfl) ow_nil rfl) (by decide) (by decide) rfl (le_mid (off := (j * 2 + 0)) (n := 1) (j := 0) (mk_pre (sz := 2) (fun _ => rfl) (Nat.le_of_lt hj)) (by omega) (Nat.le_of_ble_eq_true rfl)) (setR_mid (off := (j * 2 + 0)) (j := 0) (mk_pre (sz := 2) (fun _ => rfl) (Nat.le_of_lt hj)) (by omega) rfl (Nat.le_of_ble_eq_true rfl)) ?_
  simp only [killT, killB, SV.kill, CV.kill, kk, Nat.reduceBEq]
  iterate 10 refine z ?_
  refine zC Try.call71 ?_ (hf := ok_laws_markText (by omega))
  refine yO rfl rfl (pu_indexK (i := j) hT rfl rfl rfl (ev_tmp rfl) rfl (ev_tmp rfl) rfl (by show _ < (x.length); omega)) rfl ?_
  refine z ?_
  refine o_storeE (js := []) (cs := mid ((mkL mkIndexDef cIndexDef (x.take j) k).flatMap eDef) [.str (mText (k + (wSum cIndexDef (x.take j) : Int))), .str (mText ((k + (wSum cIndexDef (x.take j) : Int)) + (1)))] ((x.drop (j + 1)).flatMap eDef)) hT rfl rfl rfl rfl (ev_tmp rfl) (ev_tmp rfl) rfl rfl rfl rfl (ow_cons' (ow_dv rfl) ow_nil rfl) (by decide) (by decide) rfl (le_mid (off := (j * 2 + 1)) (n := 1) (j := 1) (mk_pre (sz := 2) (fun _ => rfl) (Nat.le_of_lt hj)) (by omega) (Nat.le_of_ble_eq_true rfl)) (setR_mid (off := (j * 2 + 1)) (j := 1) (mk_pre (sz := 2) (fun _ => rfl) (Nat.le_of_lt hj)) (by omega) rfl (Nat.le_of_ble_eq_true rfl)) ?_
  simp only [killT, killB, SV.kill, CV.kill, kk, Nat.reduceBEq]
  refine z ?_
  refine ok_region ?_
  iterate 3 refine z ?_
  refine ops_nil ?_
  iterate 2 refine z ?_
  refine ok_region ?_
  iterate 4 refine z ?_
  refine ⟨j + 1, ?_, ?_, weak_sub ⟨rfl, (eqSlotI (by omega)), rfl, rfl, trivial⟩ trivial ⟨(congrArg (fun cs => some (some (KC.mk true 129 2 x.length cs))) (mk_close (by omega) (by rfl))), trivial⟩ rfl⟩
  ·omega
  ·omega
 ·skip
  have d1 := of_decide_eq_false c1
  iterate 9 refine z ?_
  refine ok_weak (σ' := ⟨[(4, .one (.dv [] (.int .i64 (k + (wSum cIndexDef (x.take j) : Int)))))], [], [(0, some (kcOf true (defsD (mkL mkIndexDef cIndexDef x k))))]⟩) (weak_sub ⟨rfl, trivial⟩ trivial ⟨(mk_fin (by omega)), trivial⟩ rfl) ?_
  refine z ?_
  refine fin1 (res_tmp rfl) ⟨eqI ?_, w1_ok rfl⟩
  have hq := wSum_all cIndexDef x j (by omega); omega
theorem ok_laws_heldIndexDefS {x y : List (DefT)} {k : Int} (hy : y = mkL mkIndexDef cIndexDef x k) (h0 : 0 ≤ k) (h1 : k + (wSum cIndexDef x : Int) ≤ 4611686018427387904) : PFn Try.prog 141 [.one (.dv [] (defsD (y))), .one (.dv [] (.int .i64 (k)))] (.one (.dv [] (.int .i64 (k + (wSum cIndexDef x : Int))))) := by
 refine ⟨fn_intro Try.func141 rfl Try.ntmps141 Try.results141 rfl (fun C => ?_)⟩
 refine ok_fact (x := .tmp 0) (ev_tmp rfl) fun f0 => ?_
 refine ok_fact (x := .tmp 1) (ev_tmp rfl) fun f1 => ?_
 iterate 8 refine z ?_
 refine ok_loop (ι := Nat) (fun zz => ⟨[(0, .one (.dv [] (defsD (y)))), (1, .one (.dv [] (.int .i64 (k + (wSum cIndexDef (x.take zz) : Int))))), (5, .one (.dv [] (.int .i64 ((zz : Int)))))], [], []⟩) (fun zz => zz ≤ x.length) (fun zz => x.length - zz) (0) ?_ (weak_sub ⟨rfl, (eqSlotI (by simp [wSum])), rfl, trivial⟩ trivial trivial rfl) (fun zz hx => ?_)
 ·exact Nat.zero_le _
 obtain ⟨j, rfl⟩ : ∃ v, v = zz := ⟨_, rfl⟩
 replace hx : j ≤ x.length := hx
 have hw := fun h => wSum_succ cIndexDef x j h
 have hyl : y.length = x.length := by rw [hy, mkL_len]
 show Ok _ _ _ _ _ (⟨[(0, .one (.dv [] (defsD (y)))), (1, .one (.dv [] (.int .i64 (k + (wSum cIndexDef (x.take j) : Int))))), (5, .one (.dv [] (.int .i64 ((j : Int)))))], [], []⟩ : St)
 iterate 7 refine z ?_
 refine yQ rfl (fun c1 => ?_) fun c1 => ?_
 ·skip
  have d1 := of_decide_eq_true c1
  have hj : j < x.length := by omega
  obtain ⟨hw1, hw2⟩ := hw hj
  have hc : cIndexDef (x.getD (j : Int).toNat default) = 2 := rfl
  have he : y.getD (j : Int).toNat default = mkIndexDef (x.getD (j : Int).toNat default) (k + (wSum cIndexDef (x.take j) : Int)) := by rw [hy]; exact mkL_getD hj
  iterate 4 refine z ?_
  refine ok_seq ?_
  refine ok_seq ?_
  refine ok_regionD (oB := []) (oK := []) (by kernel_rfl) rfl rfl ?_
  refine zD 0 ?_
  refine zD 1 ?_
  refine zD 2 ?_
  refine zD 3 ?_
  refine zD 4 ?_
  refine zD 5 ?_
  refine d_call 6 rfl (by kernel_rfl) rfl rfl rfl Try.call71 (ok_laws_markText (by omega)) (as_cons (ev_tmp rfl) (ag_one ac_dv) as_nil) rfl rfl rfl rfl ?_
  refine zD 7 ?_
  refine d_done (by kernel_rfl) ?_
  refine z ?_
  refine yQ rfl (fun c2 => ?_) fun c2 => ?_
  ·skip
   iterate 11 refine z ?_
   exfalso; rw [he] at c2; simp [mkIndexDef, sEq] at c2
  ·skip
   iterate 7 refine z ?_
   refine ok_seq ?_
   refine ok_seq ?_
   refine ok_regionD (oB := []) (oK := []) (by kernel_rfl) rfl rfl ?_
   refine zD 0 ?_
   refine zD 1 ?_
   refine zD 2 ?_
   refine zD 3 ?_
   refine zD 4 ?_
   refine zD 5 ?_
   refine d_call 6 rfl (by kernel_rfl) rfl rfl rfl Try.call71 (ok_laws_markText (by omega)) (as_cons (ev_tmp rfl) (ag_one ac_dv) as_nil) rfl rfl rfl rfl ?_
   refine zD 7 ?_
   refine d_done (by kernel_rfl) ?_
   refine z ?_
   refine yQ rfl (fun c3 => ?_) fun c3 => ?_
   ·skip
    iterate 11 refine z ?_
    exfalso; rw [he] at c3; simp [mkIndexDef, sEq] at c3
   ·skip
    iterate 2 refine z ?_
    refine ok_region ?_
    iterate 3 refine z ?_
    refine ops_nil ?_
    iterate 2 refine z ?_
    refine ok_region ?_
    iterate 4 refine z ?_
    refine ⟨j + 1, ?_, ?_, weak_sub ⟨rfl, (eqSlotI (by omega)), rfl, trivial⟩ trivial trivial rfl⟩
    ·omega
    ·omega
 ·skip
  have d1 := of_decide_eq_false c1
  iterate 11 refine z ?_
  have hq := wSum_all cIndexDef x j (by omega); omega
theorem ok_laws_markDatabase {x : DbT} {k : Int} (h0 : 0 ≤ k) (h1 : ((k) + (wSum cStore (x.2.2.1) : Int)) + (wSum cIndexDef (x.2.2.2) : Int) ≤ 4611686018427387904) : WFn Try.prog 86 [.agg [(.dv [] (.str (x.1))), (.dv [] (.int .i64 (x.2.1))), (.key 0), (.key 1)], .one (.dv [] (.int .i64 (k)))] (.one (.dv [] (.int .i64 (((k) + (wSum cStore (x.2.2.1) : Int)) + (wSum cIndexDef (x.2.2.2) : Int))))) [(0, kcOf true (.sl 82 3 ((x.2.2.1).length) ((x.2.2.1).flatMap eStore))), (1, kcOf true (.sl 129 2 ((x.2.2.2).length) ((x.2.2.2).flatMap eDef)))] [(0, kcOf true (storesD (mkL mkStore cStore (x.2.2.1) (k)))), (1, kcOf true (defsD (mkL mkIndexDef cIndexDef (x.2.2.2) ((k) + (wSum cStore (x.2.2.1) : Int)))))] := by
 refine ⟨fn_intro Try.func86 rfl Try.ntmps86 Try.results86 rfl (fun C => ?_)⟩
 refine yF 0 0 rfl rfl fun f0_0 => ?_
 refine yF 0 1 rfl rfl fun f0_1 => ?_
 refine ok_fact (x := .tmp 1) (ev_tmp rfl) fun f1 => ?_
 iterate 8 refine z ?_
 refine o_callW [(0, 0, ⟨true, _, _, _, _⟩, ⟨true, _, _, _, _⟩)] rfl rfl rfl Try.call138 (ok_laws_markStoreS (x := x.2.2.1) (by omega) (by omega)) ⟨rfl, trivial⟩ rfl (aw_cons (ev_tmp rfl) (aw_one (awc_key rfl)) (aw_cons (ev_tmp rfl) (aw_one (awc_dv rfl)) aw_nil)) rfl rfl ?_
 simp only [killT, killB, SV.kill, CV.kill, kk, Nat.reduceBEq]
 iterate 6 refine z ?_
 refine o_callW [(0, 1, ⟨true, _, _, _, _⟩, ⟨true, _, _, _, _⟩)] rfl rfl rfl Try.call139 (ok_laws_markIndexDefS (x := x.2.2.2) (by omega) (by omega)) ⟨rfl, trivial⟩ rfl (aw_cons (ev_tmp rfl) (aw_one (awc_key rfl)) (aw_cons (ev_tmp rfl) (aw_one (awc_dv rfl)) aw_nil)) rfl rfl ?_
 simp only [killT, killB, SV.kill, CV.kill, kk, Nat.reduceBEq]
 iterate 6 refine z ?_
 refine ok_weak (σ' := ⟨[(4, .one (.dv [] (.int .i64 (((k) + (wSum cStore (x.2.2.1) : Int)) + (wSum cIndexDef (x.2.2.2) : Int)))))], [], [(0, some (kcOf true (storesD (mkL mkStore cStore (x.2.2.1) (k))))), (1, some (kcOf true (defsD (mkL mkIndexDef cIndexDef (x.2.2.2) ((k) + (wSum cStore (x.2.2.1) : Int))))))]⟩) (weak_sub ⟨rfl, trivial⟩ trivial ⟨rfl, rfl, trivial⟩ rfl) ?_
 refine z ?_
 refine fin1 (res_tmp rfl) ⟨eqI ?_, w2_ok rfl rfl⟩
 rfl
theorem ok_laws_heldDatabase {x y : DbT} {k : Int} (hy : y = mvDatabase x k) (h0 : 0 ≤ k) (h1 : ((k) + (wSum cStore (x.2.2.1) : Int)) + (wSum cIndexDef (x.2.2.2) : Int) ≤ 4611686018427387904) : PFn Try.prog 87 [.agg [(.dv [] (.str (y.1))), (.dv [] (.int .i64 (y.2.1))), (.dv [] (storesD (y.2.2.1))), (.dv [] (defsD (y.2.2.2)))], .one (.dv [] (.int .i64 (k)))] (.one (.dv [] (.int .i64 (((k) + (wSum cStore (x.2.2.1) : Int)) + (wSum cIndexDef (x.2.2.2) : Int))))) := by
 refine ⟨fn_intro Try.func87 rfl Try.ntmps87 Try.results87 rfl (fun C => ?_)⟩
 refine yF 0 0 rfl rfl fun f0_0 => ?_
 refine yF 0 1 rfl rfl fun f0_1 => ?_
 refine yF 0 2 rfl rfl fun f0_2 => ?_
 refine yF 0 3 rfl rfl fun f0_3 => ?_
 refine ok_fact (x := .tmp 1) (ev_tmp rfl) fun f1 => ?_
 iterate 8 refine z ?_
 refine zC Try.call140 ?_ (hf := ok_laws_heldStoreS (x := x.2.2.1) (by rw [hy]; rfl) (by omega) (by omega))
 iterate 7 refine z ?_
 refine yQ rfl (fun c1 => ?_) fun c1 => ?_
 ·skip
  have d1 := of_decide_eq_true c1
  iterate 6 refine z ?_
  exfalso; omega
 ·skip
  have d1 := of_decide_eq_false c1
  iterate 6 refine z ?_
  refine zC Try.call141 ?_ (hf := ok_laws_heldIndexDefS (x := x.2.2.2) (by rw [hy]; rfl) (by omega) (by omega))
  iterate 7 refine z ?_
  refine yQ rfl (fun c2 => ?_) fun c2 => ?_
  ·skip
   have d2 := of_decide_eq_true c2
   iterate 6 refine z ?_
   exfalso; omega
  ·skip
   have d2 := of_decide_eq_false c2
   iterate 8 refine z ?_
   rfl
theorem ok_laws_markDisk {x : DiskT} {k : Int} (h0 : 0 ≤ k) (h1 : (((k) + (wSum cStore (x.1.2.2.1) : Int)) + (wSum cIndexDef (x.1.2.2.2) : Int)) + (wSum cByte (x.2.1) : Int) ≤ 4611686018427387904) : WFn Try.prog 36 [.agg [(.dv [] (.str (x.1.1))), (.dv [] (.int .i64 (x.1.2.1))), (.key 0), (.key 1), (.key 2), (.dv [] (.int .i64 (x.2.2)))], .one (.dv [] (.int .i64 (k)))] (.one (.dv [] (.int .i64 ((((k) + (wSum cStore (x.1.2.2.1) : Int)) + (wSum cIndexDef (x.1.2.2.2) : Int)) + (wSum cByte (x.2.1) : Int))))) [(0, kcOf true (.sl 82 3 ((x.1.2.2.1).length) ((x.1.2.2.1).flatMap eStore))), (1, kcOf true (.sl 129 2 ((x.1.2.2.2).length) ((x.1.2.2.2).flatMap eDef))), (2, kcOf true (.sl 5 1 ((x.2.1).length) ((x.2.1).flatMap eByte)))] [(0, kcOf true (storesD (mkL mkStore cStore (x.1.2.2.1) (k)))), (1, kcOf true (defsD (mkL mkIndexDef cIndexDef (x.1.2.2.2) ((k) + (wSum cStore (x.1.2.2.1) : Int))))), (2, kcOf true (bytesD (mkL mkByte cByte (x.2.1) (((k) + (wSum cStore (x.1.2.2.1) : Int)) + (wSum cIndexDef (x.1.2.2.2) : Int)))))] := by
 refine ⟨fn_intro Try.func36 rfl Try.ntmps36 Try.results36 rfl (fun C => ?_)⟩
 refine yF 0 0 rfl rfl fun f0_0 => ?_
 refine yF 0 1 rfl rfl fun f0_1 => ?_
 refine yF 0 5 rfl rfl fun f0_5 => ?_
 refine ok_fact (x := .tmp 1) (ev_tmp rfl) fun f1 => ?_
 iterate 8 refine z ?_
 refine o_callW [(0, 0, ⟨true, _, _, _, _⟩, ⟨true, _, _, _, _⟩), (1, 1, ⟨true, _, _, _, _⟩, ⟨true, _, _, _, _⟩)] rfl rfl rfl Try.call86 (ok_laws_markDatabase (x := x.1) (by omega) (by omega)) ⟨rfl, rfl, trivial⟩ rfl (aw_cons (ev_tmp rfl) (aw_agg (awc_cons (awc_dv rfl) (awc_cons (awc_dv rfl) (awc_cons (awc_key rfl) (awc_cons (awc_key rfl) awc_nil))))) (aw_cons (ev_tmp rfl) (aw_one (awc_dv rfl)) aw_nil)) rfl rfl ?_
 simp only [killT, killB, SV.kill, CV.kill, kk, Nat.reduceBEq]
 iterate 6 refine z ?_
 refine o_callW [(0, 2, ⟨true, _, _, _, _⟩, ⟨true, _, _, _, _⟩)] rfl rfl rfl Try.call28 (ok_laws_markByteS (x := x.2.1) (by omega) (by omega)) ⟨rfl, trivial⟩ rfl (aw_cons (ev_tmp rfl) (aw_one (awc_key rfl)) (aw_cons (ev_tmp rfl) (aw_one (awc_dv rfl)) aw_nil)) rfl rfl ?_
 simp only [killT, killB, SV.kill, CV.kill, kk, Nat.reduceBEq]
 iterate 6 refine z ?_
 refine ok_weak (σ' := ⟨[(4, .one (.dv [] (.int .i64 ((((k) + (wSum cStore (x.1.2.2.1) : Int)) + (wSum cIndexDef (x.1.2.2.2) : Int)) + (wSum cByte (x.2.1) : Int)))))], [], [(0, some (kcOf true (storesD (mkL mkStore cStore (x.1.2.2.1) (k))))), (1, some (kcOf true (defsD (mkL mkIndexDef cIndexDef (x.1.2.2.2) ((k) + (wSum cStore (x.1.2.2.1) : Int)))))), (2, some (kcOf true (bytesD (mkL mkByte cByte (x.2.1) (((k) + (wSum cStore (x.1.2.2.1) : Int)) + (wSum cIndexDef (x.1.2.2.2) : Int))))))]⟩) (weak_sub ⟨rfl, trivial⟩ trivial ⟨rfl, rfl, rfl, trivial⟩ rfl) ?_
 refine z ?_
 refine fin1 (res_tmp rfl) ⟨eqI ?_, w3_ok rfl rfl rfl⟩
 rfl
theorem ok_laws_heldDisk {x y : DiskT} {k : Int} (hy : y = mvDisk x k) (h0 : 0 ≤ k) (h1 : (((k) + (wSum cStore (x.1.2.2.1) : Int)) + (wSum cIndexDef (x.1.2.2.2) : Int)) + (wSum cByte (x.2.1) : Int) ≤ 4611686018427387904) : PFn Try.prog 37 [.agg [(.dv [] (.str (y.1.1))), (.dv [] (.int .i64 (y.1.2.1))), (.dv [] (storesD (y.1.2.2.1))), (.dv [] (defsD (y.1.2.2.2))), (.dv [] (bytesD (y.2.1))), (.dv [] (.int .i64 (y.2.2)))], .one (.dv [] (.int .i64 (k)))] (.one (.dv [] (.int .i64 ((((k) + (wSum cStore (x.1.2.2.1) : Int)) + (wSum cIndexDef (x.1.2.2.2) : Int)) + (wSum cByte (x.2.1) : Int))))) := by
 refine ⟨fn_intro Try.func37 rfl Try.ntmps37 Try.results37 rfl (fun C => ?_)⟩
 refine yF 0 0 rfl rfl fun f0_0 => ?_
 refine yF 0 1 rfl rfl fun f0_1 => ?_
 refine yF 0 2 rfl rfl fun f0_2 => ?_
 refine yF 0 3 rfl rfl fun f0_3 => ?_
 refine yF 0 4 rfl rfl fun f0_4 => ?_
 refine yF 0 5 rfl rfl fun f0_5 => ?_
 refine ok_fact (x := .tmp 1) (ev_tmp rfl) fun f1 => ?_
 iterate 8 refine z ?_
 refine zC Try.call87 ?_ (hf := ok_laws_heldDatabase (x := x.1) (by rw [hy]; rfl) (by omega) (by omega))
 iterate 7 refine z ?_
 refine yQ rfl (fun c1 => ?_) fun c1 => ?_
 ·skip
  have d1 := of_decide_eq_true c1
  iterate 6 refine z ?_
  exfalso; omega
 ·skip
  have d1 := of_decide_eq_false c1
  iterate 6 refine z ?_
  refine zC Try.call29 ?_ (hf := ok_laws_heldByteS (x := x.2.1) (by rw [hy]; rfl) (by omega) (by omega))
  iterate 7 refine z ?_
  refine yQ rfl (fun c2 => ?_) fun c2 => ?_
  ·skip
   have d2 := of_decide_eq_true c2
   iterate 6 refine z ?_
   exfalso; omega
  ·skip
   have d2 := of_decide_eq_false c2
   iterate 8 refine z ?_
   rfl
end Go.Proofs.Ytlogahkchenpdaa

namespace Go.Proofs.Ytlogahkchenpdaa
open Go.RowKit
open Go.Proofs
set_option linter.unusedVariables false
set_option linter.unusedSimpArgs false

theorem take_csG {α : Type} [Inhabited α] {enc : α → List DV} {xs : List α} {k : Nat} (hk : k < xs.length) : (xs.take k).flatMap enc ++ enc (xs.getD (k : Int).toNat default) = (xs.take (k + 1)).flatMap enc ∧ (xs.take k).length + 1 = (xs.take (k + 1)).length := by
 have e : xs.getD (k : Int).toNat default = xs[k] := by simp [List.getD, List.getElem?_eq_getElem hk]
 rw [List.take_add_one, List.getElem?_eq_getElem hk, e]
 simp only [Option.toList_some, List.flatMap_append, List.flatMap_cons, List.flatMap_nil, List.append_nil, List.length_append, List.length_singleton]
 exact ⟨trivial, trivial⟩
theorem ok_impl_copyDatabase {x : DbT} (hb : wDatabase x ≤ 1099511627776) : KFn Try.prog 137 [.agg [(.dv [] (.str (x.1))), (.dv [] (.int .i64 (x.2.1))), (.dv [] (storesD (x.2.2.1))), (.dv [] (defsD (x.2.2.2)))]] (.agg [(.dv [] (.str (x.1))), (.dv [] (.int .i64 (x.2.1))), (.key 31), (.key 900)]) [(31, some (kcOf false (storesD (x.2.2.1)))), (900, some (kcOf false (defsD (x.2.2.2))))] := by
 refine ⟨fn_intro Try.func137 rfl Try.ntmps137 Try.results137 rfl (fun C => ?_)⟩
 have hwd : wDatabase x = x.1.size + wList wStore x.2.2.1 + wList wIndexDef x.2.2.2 := rfl
 have hwl : wList wStore x.2.2.1 = x.2.2.1.length + wSum wStore x.2.2.1 := rfl
 have hwi : wList wIndexDef x.2.2.2 = x.2.2.2.length + wSum wIndexDef x.2.2.2 := rfl
 refine yF 0 0 rfl rfl fun f0_0 => ?_
 refine yF 0 1 rfl rfl fun f0_1 => ?_
 refine yF 0 2 rfl rfl fun f0_2 => ?_
 refine yF 0 3 rfl rfl fun f0_3 => ?_
 iterate 4 refine z ?_
 refine ok_cutS (σ' := ⟨[(1, .box 1 0), (2, .box 2 0), (3, .box 3 0)], [(1, 31, [(.dv [] (.str (x.1))), (.dv [] (.int .i64 (x.2.1))), (.dv [] (storesD (x.2.2.1))), (.dv [] (defsD (x.2.2.2)))]), (2, 31, [(.dv [] (.str (ByteArray.empty))), (.dv [] (.int .i64 (0))), .nil, .nil]), (3, 31, [(.dv [] (.str (x.1))), (.dv [] (.int .i64 (x.2.1))), .nil, (.key 900)])], [(900, some (kcOf false (.sl 129 2 ((x.2.2.2).length) ((x.2.2.2).flatMap eDef))))]⟩) ?_ ?_
 ·skip
  refine ok_regionH [0, 1, 2, 3, 4, 5, 6, 7, 8, 9] (oB := [1, 2]) (oK := []) (by kernel_rfl) rfl rfl ?_
  refine n_start ?_
  refine zN 0 ?_
  refine zN 1 ?_
  refine zN 2 ?_
  refine zN 3 ?_
  refine zN 5 ?_
  refine zN 6 ?_
  refine n_split 4 [9] (by kernel_rfl) ⟨?_, ?_, trivial⟩
  ·skip
   refine nj_build0 (k := 900) 4 hT rfl rfl rfl rfl rfl rfl rfl rfl rfl rfl rfl rfl ?_
   refine n_split 7 [9] (by kernel_rfl) ⟨?_, ?_, trivial⟩
   ·skip
    refine nj_appV (k := 900) (cs := (x.2.2.2).flatMap eDef) (n := (x.2.2.2).length) 7 hT rfl rfl rfl rfl rfl rfl rfl rfl (ev_tmp rfl) rfl rfl rfl (ev_tmp rfl) (plain_flat (fun _ => rfl) _) (by first | (dsimp only [kcOf]; omega) | omega) (by first | (dsimp only [kcOf]; omega) | omega) (Nat.zero_add _) (rfl) rfl rfl ?_
    simp only [killT, killB, SV.kill, CV.kill, kk, Nat.reduceBEq]
    refine n_take 8 rfl (by kernel_rfl) rfl rfl (pu_build hT hB rfl rfl rfl (bp_cons (ev_tmp rfl) rfl rfl rfl rfl rfl (bp_cons (ev_tmp rfl) rfl rfl rfl rfl rfl (bp_cons (ev_tmp rfl) rfl rfl rfl rfl rfl bp_nil)))) rfl rfl rfl rfl ?_
    refine n_split 9 [] (by kernel_rfl) ⟨?_, trivial⟩
    ·skip
     refine nj_alloc 9 hT rfl rfl rfl rfl rfl rfl rfl rfl rfl rfl ?_
     refine n_split 10 [] (by kernel_rfl) ⟨?_, trivial⟩
     ·skip
      refine nj_last 10 rfl rfl (by kernel_rfl) (ef_storeBox hT rfl rfl rfl (ev_tmp rfl) (ev_tmp rfl) rfl rfl rfl rfl rfl rfl) (by kernel_rfl) ?_
      exact then_n (weak_sub ⟨rfl, rfl, rfl, trivial⟩ ⟨rfl, rfl, rfl, trivial⟩ ⟨rfl, trivial⟩ rfl)
   ·skip
    refine nj_alloc 9 hT rfl rfl rfl rfl rfl rfl rfl rfl rfl rfl ?_
    refine n_split 7 [] (by kernel_rfl) ⟨?_, trivial⟩
    ·skip
     refine nj_appV (k := 900) (cs := (x.2.2.2).flatMap eDef) (n := (x.2.2.2).length) 7 hT rfl rfl rfl rfl rfl rfl rfl rfl (ev_tmp rfl) rfl rfl rfl (ev_tmp rfl) (plain_flat (fun _ => rfl) _) (by first | (dsimp only [kcOf]; omega) | omega) (by first | (dsimp only [kcOf]; omega) | omega) (Nat.zero_add _) (rfl) rfl rfl ?_
     simp only [killT, killB, SV.kill, CV.kill, kk, Nat.reduceBEq]
     refine n_take 8 rfl (by kernel_rfl) rfl rfl (pu_build hT hB rfl rfl rfl (bp_cons (ev_tmp rfl) rfl rfl rfl rfl rfl (bp_cons (ev_tmp rfl) rfl rfl rfl rfl rfl (bp_cons (ev_tmp rfl) rfl rfl rfl rfl rfl bp_nil)))) rfl rfl rfl rfl ?_
     refine n_split 10 [] (by kernel_rfl) ⟨?_, trivial⟩
     ·skip
      refine nj_last 10 rfl rfl (by kernel_rfl) (ef_storeBox hT rfl rfl rfl (ev_tmp rfl) (ev_tmp rfl) rfl rfl rfl rfl rfl rfl) (by kernel_rfl) ?_
      exact then_n (weak_sub ⟨rfl, rfl, rfl, trivial⟩ ⟨rfl, rfl, rfl, trivial⟩ ⟨rfl, trivial⟩ rfl)
  ·skip
   refine nj_alloc 9 hT rfl rfl rfl rfl rfl rfl rfl rfl rfl rfl ?_
   refine n_split 4 [] (by kernel_rfl) ⟨?_, trivial⟩
   ·skip
    refine nj_build0 (k := 900) 4 hT rfl rfl rfl rfl rfl rfl rfl rfl rfl rfl rfl rfl ?_
    refine n_split 7 [] (by kernel_rfl) ⟨?_, trivial⟩
    ·skip
     refine nj_appV (k := 900) (cs := (x.2.2.2).flatMap eDef) (n := (x.2.2.2).length) 7 hT rfl rfl rfl rfl rfl rfl rfl rfl (ev_tmp rfl) rfl rfl rfl (ev_tmp rfl) (plain_flat (fun _ => rfl) _) (by first | (dsimp only [kcOf]; omega) | omega) (by first | (dsimp only [kcOf]; omega) | omega) (Nat.zero_add _) (rfl) rfl rfl ?_
     simp only [killT, killB, SV.kill, CV.kill, kk, Nat.reduceBEq]
     refine n_take 8 rfl (by kernel_rfl) rfl rfl (pu_build hT hB rfl rfl rfl (bp_cons (ev_tmp rfl) rfl rfl rfl rfl rfl (bp_cons (ev_tmp rfl) rfl rfl rfl rfl rfl (bp_cons (ev_tmp rfl) rfl rfl rfl rfl rfl bp_nil)))) rfl rfl rfl rfl ?_
     refine n_split 10 [] (by kernel_rfl) ⟨?_, trivial⟩
     ·skip
      refine nj_last 10 rfl rfl (by kernel_rfl) (ef_storeBox hT rfl rfl rfl (ev_tmp rfl) (ev_tmp rfl) rfl rfl rfl rfl rfl rfl) (by kernel_rfl) ?_
      exact then_n (weak_sub ⟨rfl, rfl, rfl, trivial⟩ ⟨rfl, rfl, rfl, trivial⟩ ⟨rfl, trivial⟩ rfl)
 refine ok_seq ?_
 refine ok_seq ?_
 refine ok_weak (weak_nilB 31 (b := 3) (i := 2) (e := 82) (sz := 3) rfl rfl rfl rfl rfl) ?_
 simp only [killT, killB, SV.kill, CV.kill, kk, Nat.reduceBEq]
 refine ok_region ?_
 iterate 6 refine z ?_
 refine ok_loop (ι := Nat) (fun zz => ⟨[(2, .box 2 0), (3, .box 3 0), (16, .one (.dv [] (storesD (x.2.2.1)))), (17, .one (.dv [] (.int .i64 ((((x.2.2.1)).length : Int))))), (18, .one (.dv [] (.int .i64 ((zz : Int)))))], [(1, 31, [(.dv [] (.str (x.1))), (.dv [] (.int .i64 (x.2.1))), (.dv [] (storesD (x.2.2.1))), (.dv [] (defsD (x.2.2.2)))]), (2, 31, [(.dv [] (.str (ByteArray.empty))), (.dv [] (.int .i64 (0))), .nil, .nil]), (3, 31, [(.dv [] (.str (x.1))), (.dv [] (.int .i64 (x.2.1))), (.key 31), (.key 900)])], [(31, some (kcOf false (.sl 82 3 ((x.2.2.1.take zz).length) ((x.2.2.1.take zz).flatMap eStore)))), (900, some (kcOf false (.sl 129 2 ((x.2.2.2).length) ((x.2.2.2).flatMap eDef))))]⟩) (fun zz => zz ≤ x.2.2.1.length) (fun zz => x.2.2.1.length - zz) (0) ?_ (weak_sub ⟨rfl, rfl, rfl, rfl, rfl, trivial⟩ ⟨rfl, rfl, rfl, trivial⟩ ⟨rfl, rfl, trivial⟩ rfl) (fun zz hx => ?_)
 ·exact Nat.zero_le _
 obtain ⟨k, rfl⟩ : ∃ v, v = zz := ⟨_, rfl⟩
 replace hx : k ≤ x.2.2.1.length := hx
 have hw := fun h => wSum_succ wStore x.2.2.1 k h
 show Ok _ _ _ _ _ (⟨[(2, .box 2 0), (3, .box 3 0), (16, .one (.dv [] (storesD (x.2.2.1)))), (17, .one (.dv [] (.int .i64 ((((x.2.2.1)).length : Int))))), (18, .one (.dv [] (.int .i64 ((k : Int)))))], [(1, 31, [(.dv [] (.str (x.1))), (.dv [] (.int .i64 (x.2.1))), (.dv [] (storesD (x.2.2.1))), (.dv [] (defsD (x.2.2.2)))]), (2, 31, [(.dv [] (.str (ByteArray.empty))), (.dv [] (.int .i64 (0))), .nil, .nil]), (3, 31, [(.dv [] (.str (x.1))), (.dv [] (.int .i64 (x.2.1))), (.key 31), (.key 900)])], [(31, some (kcOf false (.sl 82 3 ((x.2.2.1.take k).length) ((x.2.2.1.take k).flatMap eStore)))), (900, some (kcOf false (.sl 129 2 ((x.2.2.2).length) ((x.2.2.2).flatMap eDef))))]⟩ : St)
 iterate 3 refine z ?_
 refine ok_seq ?_
 refine yQ rfl (fun c1 => ?_) fun c1 => ?_
 ·skip
  have d1 := of_decide_eq_true c1
  have hk2 : k < x.2.2.1.length := by omega
  obtain ⟨hw1, hw2⟩ := hw hk2
  iterate 10 refine z ?_
  refine ok_regionH [0, 1, 2, 3, 4] (oB := [1, 2, 3, 5]) (oK := [31, 900]) (by kernel_rfl) rfl rfl ?_
  refine zD 0 ?_
  refine zD 1 ?_
  refine zD 2 ?_
  refine d_callK 25000 3 rfl (by kernel_rfl) rfl rfl rfl Try.call171 (ok_impl_copyStore (x := (((x.2.2.1)).getD ((k : Int)).toNat default)) (by omega)) (as_cons (ev_tmp rfl) (ag_agg (ag_cons ac_dv (ag_cons ac_dv (ag_cons ac_dv ag_nil)))) as_nil) rfl rfl rfl rfl rfl ?_
  refine d_build1 (k := 26) (js := [25030]) 4 hT rfl (by kernel_rfl) rfl rfl rfl rfl rfl rfl rfl rfl rfl (ev_tmp rfl) rfl rfl (ow_cons' (ow_dv rfl) (ow_cons' (ow_key rfl) (ow_cons' (ow_dv rfl) ow_nil rfl) rfl) rfl) (by decide) (by decide) rfl rfl (by decide) ?_
  simp only [killT, killB, SV.kill, CV.kill, kk, Nat.reduceBEq]
  refine d_chain [5, 6, 7] rfl rfl (by kernel_rfl) ?_
  refine o_appK (k := 31) (j := 26) (cs := (x.2.2.1.take (k + 1)).flatMap eStore) (n := (x.2.2.1.take (k + 1)).length) hT rfl rfl rfl rfl rfl rfl rfl (ev_tmp rfl) rfl rfl rfl (ev_tmp rfl) rfl rfl (by decide) (by dsimp only [kcOf]; simp only [List.length_take]; omega) (by dsimp only [kcOf]; simp only [List.length_take]; omega) ((take_csG (enc := eStore) hk2).2) ((take_csG (enc := eStore) hk2).1) ?_
  simp only [killT, killB, SV.kill, CV.kill, kk, Nat.reduceBEq]
  iterate 2 refine z ?_
  refine ops_nil ?_
  iterate 2 refine z ?_
  refine ok_region ?_
  iterate 3 refine z ?_
  refine ⟨k + 1, ?_, ?_, weak_sub ⟨rfl, rfl, rfl, rfl, rfl, trivial⟩ ⟨rfl, rfl, rfl, trivial⟩ ⟨rfl, rfl, trivial⟩ rfl⟩
  ·omega
  ·omega
 ·skip
  have d1 := of_decide_eq_false c1
  iterate 9 refine z ?_
  refine ok_weak (σ' := ⟨[(2, .box 2 0)], [(2, 31, [(.dv [] (.str (x.1))), (.dv [] (.int .i64 (x.2.1))), (.key 31), (.key 900)])], [(31, some (kcOf false (storesD (x.2.2.1)))), (900, some (kcOf false (defsD (x.2.2.2))))]⟩) (weak_sub ⟨rfl, trivial⟩ ⟨rfl, trivial⟩ ⟨(congrArg (fun l : List (StoreT) => some (some (KC.mk false 82 3 l.length (l.flatMap eStore)))) (List.take_of_length_le (by omega))), rfl, trivial⟩ rfl) ?_
  refine z ?_
  refine fin1 (res_cell hT rfl rfl rfl rfl) ?_
  exact ⟨rfl, rfl⟩
theorem ok_spec_l8Copy {x : DbT} (hb : wDatabase x ≤ 1099511627776) : KFn Try.prog 134 [.agg [(.dv [] (.str (x.1))), (.dv [] (.int .i64 (x.2.1))), (.dv [] (storesD (x.2.2.1))), (.dv [] (defsD (x.2.2.2)))]] (.agg [(.dv [] (.str (x.1))), (.dv [] (.int .i64 (x.2.1))), (.key 31), (.key 900)]) [(31, some (kcOf false (storesD (x.2.2.1)))), (900, some (kcOf false (defsD (x.2.2.2))))] := by
 refine ⟨fn_intro Try.func134 rfl Try.ntmps134 Try.results134 rfl (fun C => ?_)⟩
 have hwd : wDatabase x = x.1.size + wList wStore x.2.2.1 + wList wIndexDef x.2.2.2 := rfl
 have hwl : wList wStore x.2.2.1 = x.2.2.1.length + wSum wStore x.2.2.1 := rfl
 have hwi : wList wIndexDef x.2.2.2 = x.2.2.2.length + wSum wIndexDef x.2.2.2 := rfl
 refine yF 0 0 rfl rfl fun f0_0 => ?_
 refine yF 0 1 rfl rfl fun f0_1 => ?_
 refine yF 0 2 rfl rfl fun f0_2 => ?_
 refine yF 0 3 rfl rfl fun f0_3 => ?_
 iterate 4 refine z ?_
 refine ok_cutS (σ' := ⟨[(1, .box 1 0), (2, .box 2 0), (3, .box 3 0)], [(1, 31, [(.dv [] (.str (x.1))), (.dv [] (.int .i64 (x.2.1))), (.dv [] (storesD (x.2.2.1))), (.dv [] (defsD (x.2.2.2)))]), (2, 31, [(.dv [] (.str (ByteArray.empty))), (.dv [] (.int .i64 (0))), .nil, .nil]), (3, 31, [(.dv [] (.str (x.1))), (.dv [] (.int .i64 (x.2.1))), .nil, (.key 900)])], [(900, some (kcOf false (.sl 129 2 ((x.2.2.2).length) ((x.2.2.2).flatMap eDef))))]⟩) ?_ ?_
 ·skip
  refine ok_regionH [0, 1, 2, 3, 4, 5, 6, 7, 8, 9] (oB := [1, 2]) (oK := []) (by kernel_rfl) rfl rfl ?_
  refine n_start ?_
  refine zN 0 ?_
  refine zN 1 ?_
  refine zN 2 ?_
  refine zN 3 ?_
  refine zN 5 ?_
  refine zN 6 ?_
  refine n_split 4 [9] (by kernel_rfl) ⟨?_, ?_, trivial⟩
  ·skip
   refine nj_build0 (k := 900) 4 hT rfl rfl rfl rfl rfl rfl rfl rfl rfl rfl rfl rfl ?_
   refine n_split 7 [9] (by kernel_rfl) ⟨?_, ?_, trivial⟩
   ·skip
    refine nj_appV (k := 900) (cs := (x.2.2.2).flatMap eDef) (n := (x.2.2.2).length) 7 hT rfl rfl rfl rfl rfl rfl rfl rfl (ev_tmp rfl) rfl rfl rfl (ev_tmp rfl) (plain_flat (fun _ => rfl) _) (by first | (dsimp only [kcOf]; omega) | omega) (by first | (dsimp only [kcOf]; omega) | omega) (Nat.zero_add _) (rfl) rfl rfl ?_
    simp only [killT, killB, SV.kill, CV.kill, kk, Nat.reduceBEq]
    refine n_take 8 rfl (by kernel_rfl) rfl rfl (pu_build hT hB rfl rfl rfl (bp_cons (ev_tmp rfl) rfl rfl rfl rfl rfl (bp_cons (ev_tmp rfl) rfl rfl rfl rfl rfl (bp_cons (ev_tmp rfl) rfl rfl rfl rfl rfl bp_nil)))) rfl rfl rfl rfl ?_
    refine n_split 9 [] (by kernel_rfl) ⟨?_, trivial⟩
    ·skip
     refine nj_alloc 9 hT rfl rfl rfl rfl rfl rfl rfl rfl rfl rfl ?_
     refine n_split 10 [] (by kernel_rfl) ⟨?_, trivial⟩
     ·skip
      refine nj_last 10 rfl rfl (by kernel_rfl) (ef_storeBox hT rfl rfl rfl (ev_tmp rfl) (ev_tmp rfl) rfl rfl rfl rfl rfl rfl) (by kernel_rfl) ?_
      exact then_n (weak_sub ⟨rfl, rfl, rfl, trivial⟩ ⟨rfl, rfl, rfl, trivial⟩ ⟨rfl, trivial⟩ rfl)
   ·skip
    refine nj_alloc 9 hT rfl rfl rfl rfl rfl rfl rfl rfl rfl rfl ?_
    refine n_split 7 [] (by kernel_rfl) ⟨?_, trivial⟩
    ·skip
     refine nj_appV (k := 900) (cs := (x.2.2.2).flatMap eDef) (n := (x.2.2.2).length) 7 hT rfl rfl rfl rfl rfl rfl rfl rfl (ev_tmp rfl) rfl rfl rfl (ev_tmp rfl) (plain_flat (fun _ => rfl) _) (by first | (dsimp only [kcOf]; omega) | omega) (by first | (dsimp only [kcOf]; omega) | omega) (Nat.zero_add _) (rfl) rfl rfl ?_
     simp only [killT, killB, SV.kill, CV.kill, kk, Nat.reduceBEq]
     refine n_take 8 rfl (by kernel_rfl) rfl rfl (pu_build hT hB rfl rfl rfl (bp_cons (ev_tmp rfl) rfl rfl rfl rfl rfl (bp_cons (ev_tmp rfl) rfl rfl rfl rfl rfl (bp_cons (ev_tmp rfl) rfl rfl rfl rfl rfl bp_nil)))) rfl rfl rfl rfl ?_
     refine n_split 10 [] (by kernel_rfl) ⟨?_, trivial⟩
     ·skip
      refine nj_last 10 rfl rfl (by kernel_rfl) (ef_storeBox hT rfl rfl rfl (ev_tmp rfl) (ev_tmp rfl) rfl rfl rfl rfl rfl rfl) (by kernel_rfl) ?_
      exact then_n (weak_sub ⟨rfl, rfl, rfl, trivial⟩ ⟨rfl, rfl, rfl, trivial⟩ ⟨rfl, trivial⟩ rfl)
  ·skip
   refine nj_alloc 9 hT rfl rfl rfl rfl rfl rfl rfl rfl rfl rfl ?_
   refine n_split 4 [] (by kernel_rfl) ⟨?_, trivial⟩
   ·skip
    refine nj_build0 (k := 900) 4 hT rfl rfl rfl rfl rfl rfl rfl rfl rfl rfl rfl rfl ?_
    refine n_split 7 [] (by kernel_rfl) ⟨?_, trivial⟩
    ·skip
     refine nj_appV (k := 900) (cs := (x.2.2.2).flatMap eDef) (n := (x.2.2.2).length) 7 hT rfl rfl rfl rfl rfl rfl rfl rfl (ev_tmp rfl) rfl rfl rfl (ev_tmp rfl) (plain_flat (fun _ => rfl) _) (by first | (dsimp only [kcOf]; omega) | omega) (by first | (dsimp only [kcOf]; omega) | omega) (Nat.zero_add _) (rfl) rfl rfl ?_
     simp only [killT, killB, SV.kill, CV.kill, kk, Nat.reduceBEq]
     refine n_take 8 rfl (by kernel_rfl) rfl rfl (pu_build hT hB rfl rfl rfl (bp_cons (ev_tmp rfl) rfl rfl rfl rfl rfl (bp_cons (ev_tmp rfl) rfl rfl rfl rfl rfl (bp_cons (ev_tmp rfl) rfl rfl rfl rfl rfl bp_nil)))) rfl rfl rfl rfl ?_
     refine n_split 10 [] (by kernel_rfl) ⟨?_, trivial⟩
     ·skip
      refine nj_last 10 rfl rfl (by kernel_rfl) (ef_storeBox hT rfl rfl rfl (ev_tmp rfl) (ev_tmp rfl) rfl rfl rfl rfl rfl rfl) (by kernel_rfl) ?_
      exact then_n (weak_sub ⟨rfl, rfl, rfl, trivial⟩ ⟨rfl, rfl, rfl, trivial⟩ ⟨rfl, trivial⟩ rfl)
 refine ok_seq ?_
 refine ok_seq ?_
 refine ok_weak (weak_nilB 31 (b := 3) (i := 2) (e := 82) (sz := 3) rfl rfl rfl rfl rfl) ?_
 simp only [killT, killB, SV.kill, CV.kill, kk, Nat.reduceBEq]
 refine ok_region ?_
 iterate 3 refine z ?_
 refine ok_loop (ι := Nat) (fun zz => ⟨[(1, .box 1 0), (2, .box 2 0), (3, .box 3 0), (4, .one (.dv [] (.int .i64 ((zz : Int)))))], [(1, 31, [(.dv [] (.str (x.1))), (.dv [] (.int .i64 (x.2.1))), (.dv [] (storesD (x.2.2.1))), (.dv [] (defsD (x.2.2.2)))]), (2, 31, [(.dv [] (.str (ByteArray.empty))), (.dv [] (.int .i64 (0))), .nil, .nil]), (3, 31, [(.dv [] (.str (x.1))), (.dv [] (.int .i64 (x.2.1))), (.key 31), (.key 900)])], [(31, some (kcOf false (.sl 82 3 ((x.2.2.1.take zz).length) ((x.2.2.1.take zz).flatMap eStore)))), (900, some (kcOf false (.sl 129 2 ((x.2.2.2).length) ((x.2.2.2).flatMap eDef))))]⟩) (fun zz => zz ≤ x.2.2.1.length) (fun zz => x.2.2.1.length - zz) (0) ?_ (weak_sub ⟨rfl, rfl, rfl, rfl, trivial⟩ ⟨rfl, rfl, rfl, trivial⟩ ⟨rfl, rfl, trivial⟩ rfl) (fun zz hx => ?_)
 ·exact Nat.zero_le _
 obtain ⟨k, rfl⟩ : ∃ v, v = zz := ⟨_, rfl⟩
 replace hx : k ≤ x.2.2.1.length := hx
 have hw := fun h => wSum_succ wStore x.2.2.1 k h
 show Ok _ _ _ _ _ (⟨[(1, .box 1 0), (2, .box 2 0), (3, .box 3 0), (4, .one (.dv [] (.int .i64 ((k : Int)))))], [(1, 31, [(.dv [] (.str (x.1))), (.dv [] (.int .i64 (x.2.1))), (.dv [] (storesD (x.2.2.1))), (.dv [] (defsD (x.2.2.2)))]), (2, 31, [(.dv [] (.str (ByteArray.empty))), (.dv [] (.int .i64 (0))), .nil, .nil]), (3, 31, [(.dv [] (.str (x.1))), (.dv [] (.int .i64 (x.2.1))), (.key 31), (.key 900)])], [(31, some (kcOf false (.sl 82 3 ((x.2.2.1.take k).length) ((x.2.2.1.take k).flatMap eStore)))), (900, some (kcOf false (.sl 129 2 ((x.2.2.2).length) ((x.2.2.2).flatMap eDef))))]⟩ : St)
 iterate 8 refine z ?_
 refine yQ rfl (fun c1 => ?_) fun c1 => ?_
 ·skip
  have d1 := of_decide_eq_true c1
  have hk2 : k < x.2.2.1.length := by omega
  obtain ⟨hw1, hw2⟩ := hw hk2
  iterate 4 refine z ?_
  refine ok_regionH [0, 1, 2, 3, 4, 5, 6, 7, 8] (oB := [1, 2, 3]) (oK := [31, 900]) (by kernel_rfl) rfl rfl ?_
  refine zD 0 ?_
  refine zD 1 ?_
  refine zD 2 ?_
  refine zD 3 ?_
  refine zD 4 ?_
  refine zD 5 ?_
  refine zD 6 ?_
  refine d_callK 28000 7 rfl (by kernel_rfl) rfl rfl rfl Try.call170 (ok_spec_l6Copy (x := (((x.2.2.1)).getD ((k : Int)).toNat default)) (by omega)) (as_cons (ev_tmp rfl) (ag_agg (ag_cons ac_dv (ag_cons ac_dv (ag_cons ac_dv ag_nil)))) as_nil) rfl rfl rfl rfl rfl ?_
  refine d_build1 (k := 29) (js := [28030]) 8 hT rfl (by kernel_rfl) rfl rfl rfl rfl rfl rfl rfl rfl rfl (ev_tmp rfl) rfl rfl (ow_cons' (ow_dv rfl) (ow_cons' (ow_key rfl) (ow_cons' (ow_dv rfl) ow_nil rfl) rfl) rfl) (by decide) (by decide) rfl rfl (by decide) ?_
  simp only [killT, killB, SV.kill, CV.kill, kk, Nat.reduceBEq]
  refine d_chain [9, 10, 11] rfl rfl (by kernel_rfl) ?_
  refine o_appK (k := 31) (j := 29) (cs := (x.2.2.1.take (k + 1)).flatMap eStore) (n := (x.2.2.1.take (k + 1)).length) hT rfl rfl rfl rfl rfl rfl rfl (ev_tmp rfl) rfl rfl rfl (ev_tmp rfl) rfl rfl (by decide) (by dsimp only [kcOf]; simp only [List.length_take]; omega) (by dsimp only [kcOf]; simp only [List.length_take]; omega) ((take_csG (enc := eStore) hk2).2) ((take_csG (enc := eStore) hk2).1) ?_
  simp only [killT, killB, SV.kill, CV.kill, kk, Nat.reduceBEq]
  iterate 2 refine z ?_
  refine ops_nil ?_
  iterate 2 refine z ?_
  refine ok_region ?_
  iterate 4 refine z ?_
  refine ⟨k + 1, ?_, ?_, weak_sub ⟨rfl, rfl, rfl, rfl, trivial⟩ ⟨rfl, rfl, rfl, trivial⟩ ⟨rfl, rfl, trivial⟩ rfl⟩
  ·omega
  ·omega
 ·skip
  have d1 := of_decide_eq_false c1
  iterate 9 refine z ?_
  refine ok_weak (σ' := ⟨[(2, .box 2 0)], [(2, 31, [(.dv [] (.str (x.1))), (.dv [] (.int .i64 (x.2.1))), (.key 31), (.key 900)])], [(31, some (kcOf false (storesD (x.2.2.1)))), (900, some (kcOf false (defsD (x.2.2.2))))]⟩) (weak_sub ⟨rfl, trivial⟩ ⟨rfl, trivial⟩ ⟨(congrArg (fun l : List (StoreT) => some (some (KC.mk false 82 3 l.length (l.flatMap eStore)))) (List.take_of_length_le (by omega))), rfl, trivial⟩ rfl) ?_
  refine z ?_
  refine fin1 (res_cell hT rfl rfl rfl rfl) ?_
  exact ⟨rfl, rfl⟩
end Go.Proofs.Ytlogahkchenpdaa

namespace Go.Proofs.Ytlogahkchenpdaa
open Go.RowKit
open Go.Proofs
set_option linter.unusedVariables false
set_option linter.unusedSimpArgs false

theorem ok_impl_copyDisk {x : DiskT} (hb : wDisk x ≤ 1099511627776) : KFn Try.prog 84 [.agg [(.dv [] (.str (x.1.1))), (.dv [] (.int .i64 (x.1.2.1))), (.dv [] (storesD (x.1.2.2.1))), (.dv [] (defsD (x.1.2.2.2))), (.dv [] (bytesD (x.2.1))), (.dv [] (.int .i64 (x.2.2)))]] (.agg [(.dv [] (.str (x.1.1))), (.dv [] (.int .i64 (x.1.2.1))), (.key 5031), (.key 5900), (.key 8003), (.dv [] (.int .i64 (x.2.2)))]) [(5031, some (kcOf false (storesD (x.1.2.2.1)))), (5900, some (kcOf false (defsD (x.1.2.2.2)))), (8003, some (kcOf false (bytesD (x.2.1))))] := by
 refine ⟨fn_intro Try.func84 rfl Try.ntmps84 Try.results84 rfl (fun C => ?_)⟩
 have hwk : wDisk x = wDatabase x.1 + x.2.1.length := rfl
 refine yF 0 0 rfl rfl fun f0_0 => ?_
 refine yF 0 1 rfl rfl fun f0_1 => ?_
 refine yF 0 2 rfl rfl fun f0_2 => ?_
 refine yF 0 3 rfl rfl fun f0_3 => ?_
 refine yF 0 4 rfl rfl fun f0_4 => ?_
 refine yF 0 5 rfl rfl fun f0_5 => ?_
 iterate 4 refine z ?_
 refine ok_seq ?_
 refine ok_regionD (oB := [1, 2]) (oK := []) (by kernel_rfl) rfl rfl ?_
 refine zD 0 ?_
 refine zD 1 ?_
 refine zD 3 ?_
 refine zD 4 ?_
 refine zD 6 ?_
 refine zD 7 ?_
 refine d_callK 5000 2 rfl (by kernel_rfl) rfl rfl rfl Try.call137 (ok_impl_copyDatabase (x := x.1) (by omega)) (as_cons (ev_tmp rfl) (ag_agg (ag_cons ac_dv (ag_cons ac_dv (ag_cons ac_dv (ag_cons ac_dv ag_nil))))) as_nil) rfl rfl rfl rfl rfl ?_
 refine d_callK 8000 5 rfl (by kernel_rfl) rfl rfl rfl Try.call125 (ok_impl_copyBytes (x := x.2.1) (by omega)) (as_cons (ev_tmp rfl) (ag_one ac_dv) as_nil) rfl rfl rfl rfl rfl ?_
 refine d_take 8 rfl (by kernel_rfl) rfl rfl (pu_build hT hB rfl rfl rfl (bp_cons (ev_tmp rfl) rfl rfl rfl rfl rfl (bp_cons (ev_tmp rfl) rfl rfl rfl rfl rfl (bp_cons (ev_tmp rfl) rfl rfl rfl rfl rfl bp_nil)))) rfl rfl rfl rfl ?_
 refine d_last 9 rfl (by kernel_rfl) rfl (by kernel_rfl) (ef_storeBox hT rfl rfl rfl (ev_tmp rfl) (ev_tmp rfl) rfl rfl rfl rfl rfl rfl) (by kernel_rfl) ?_
 refine z ?_
 refine ok_weak (σ' := ⟨[(2, .box 2 0)], [(2, 41, [(.dv [] (.str (x.1.1))), (.dv [] (.int .i64 (x.1.2.1))), (.key 5031), (.key 5900), (.key 8003), (.dv [] (.int .i64 (x.2.2)))])], [(5031, some (kcOf false (storesD (x.1.2.2.1)))), (5900, some (kcOf false (defsD (x.1.2.2.2)))), (8003, some (kcOf false (bytesD (x.2.1))))]⟩) (weak_sub ⟨rfl, trivial⟩ ⟨rfl, trivial⟩ ⟨rfl, rfl, rfl, trivial⟩ rfl) ?_
 refine z ?_
 refine fin1 (res_cell hT rfl rfl rfl rfl) ?_
 exact ⟨rfl, rfl⟩
theorem ok_spec_l12Copy {x : DiskT} (hb : wDisk x ≤ 1099511627776) : KFn Try.prog 82 [.agg [(.dv [] (.str (x.1.1))), (.dv [] (.int .i64 (x.1.2.1))), (.dv [] (storesD (x.1.2.2.1))), (.dv [] (defsD (x.1.2.2.2))), (.dv [] (bytesD (x.2.1))), (.dv [] (.int .i64 (x.2.2)))]] (.agg [(.dv [] (.str (x.1.1))), (.dv [] (.int .i64 (x.1.2.1))), (.key 5031), (.key 5900), (.key 906), (.dv [] (.int .i64 (x.2.2)))]) [(5031, some (kcOf false (storesD (x.1.2.2.1)))), (5900, some (kcOf false (defsD (x.1.2.2.2)))), (906, some (kcOf false (bytesD (x.2.1))))] := by
 refine ⟨fn_intro Try.func82 rfl Try.ntmps82 Try.results82 rfl (fun C => ?_)⟩
 have hwk : wDisk x = wDatabase x.1 + x.2.1.length := rfl
 refine yF 0 0 rfl rfl fun f0_0 => ?_
 refine yF 0 1 rfl rfl fun f0_1 => ?_
 refine yF 0 2 rfl rfl fun f0_2 => ?_
 refine yF 0 3 rfl rfl fun f0_3 => ?_
 refine yF 0 4 rfl rfl fun f0_4 => ?_
 refine yF 0 5 rfl rfl fun f0_5 => ?_
 iterate 4 refine z ?_
 refine ok_cutS (σ' := ⟨[(2, .box 2 0)], [(2, 41, [(.dv [] (.str ((x.1).1))), (.dv [] (.int .i64 ((x.1).2.1))), (.key 5031), (.key 5900), (.key 906), (.dv [] (.int .i64 (x.2.2)))])], [(906, some (kcOf false (.sl 5 1 ((x.2.1).length) ((x.2.1).flatMap eByte)))), (5031, some (kcOf false (storesD ((x.1).2.2.1)))), (5900, some (kcOf false (defsD ((x.1).2.2.2))))]⟩) ?_ ?_
 ·skip
  refine ok_regionH [0, 1, 2, 3, 4, 5, 6, 7, 8, 9] (oB := [1, 2]) (oK := []) (by kernel_rfl) rfl rfl ?_
  refine n_start ?_
  refine zN 0 ?_
  refine zN 1 ?_
  refine zN 4 ?_
  refine zN 5 ?_
  refine zN 7 ?_
  refine zN 8 ?_
  refine n_split 2 [3] (by kernel_rfl) ⟨?_, ?_, trivial⟩
  ·skip
   refine nj_callK 5000 2 rfl rfl rfl rfl Try.call134 (ok_spec_l8Copy (x := x.1) (by omega)) (as_cons (ev_tmp rfl) (ag_agg (ag_cons ac_dv (ag_cons ac_dv (ag_cons ac_dv (ag_cons ac_dv ag_nil))))) as_nil) rfl rfl rfl rfl rfl rfl ?_
   refine n_split 3 [] (by kernel_rfl) ⟨?_, trivial⟩
   ·skip
    refine nj_build0 (k := 906) 3 hT rfl rfl rfl rfl rfl rfl rfl rfl rfl rfl rfl rfl ?_
    refine n_split 6 [] (by kernel_rfl) ⟨?_, trivial⟩
    ·skip
     refine nj_appV (k := 906) (cs := (x.2.1).flatMap eByte) (n := (x.2.1).length) 6 hT rfl rfl rfl rfl rfl rfl rfl rfl (ev_tmp rfl) rfl rfl rfl (ev_tmp rfl) (plain_flat (fun _ => rfl) _) (by first | (dsimp only [kcOf]; omega) | omega) (by first | (dsimp only [kcOf]; omega) | omega) (Nat.zero_add _) (rfl) rfl rfl ?_
     simp only [killT, killB, SV.kill, CV.kill, kk, Nat.reduceBEq]
     refine n_take 9 rfl (by kernel_rfl) rfl rfl (pu_build hT hB rfl rfl rfl (bp_cons (ev_tmp rfl) rfl rfl rfl rfl rfl (bp_cons (ev_tmp rfl) rfl rfl rfl rfl rfl (bp_cons (ev_tmp rfl) rfl rfl rfl rfl rfl bp_nil)))) rfl rfl rfl rfl ?_
     refine n_split 10 [] (by kernel_rfl) ⟨?_, trivial⟩
     ·skip
      refine nj_last 10 rfl rfl (by kernel_rfl) (ef_storeBox hT rfl rfl rfl (ev_tmp rfl) (ev_tmp rfl) rfl rfl rfl rfl rfl rfl) (by kernel_rfl) ?_
      exact then_n (weak_sub ⟨rfl, trivial⟩ ⟨rfl, trivial⟩ ⟨rfl, rfl, rfl, trivial⟩ rfl)
  ·skip
   refine nj_build0 (k := 906) 3 hT rfl rfl rfl rfl rfl rfl rfl rfl rfl rfl rfl rfl ?_
   refine n_split 2 [] (by kernel_rfl) ⟨?_, trivial⟩
   ·skip
    refine nj_callK 5000 2 rfl rfl rfl rfl Try.call134 (ok_spec_l8Copy (x := x.1) (by omega)) (as_cons (ev_tmp rfl) (ag_agg (ag_cons ac_dv (ag_cons ac_dv (ag_cons ac_dv (ag_cons ac_dv ag_nil))))) as_nil) rfl rfl rfl rfl rfl rfl ?_
    refine n_split 6 [] (by kernel_rfl) ⟨?_, trivial⟩
    ·skip
     refine nj_appV (k := 906) (cs := (x.2.1).flatMap eByte) (n := (x.2.1).length) 6 hT rfl rfl rfl rfl rfl rfl rfl rfl (ev_tmp rfl) rfl rfl rfl (ev_tmp rfl) (plain_flat (fun _ => rfl) _) (by first | (dsimp only [kcOf]; omega) | omega) (by first | (dsimp only [kcOf]; omega) | omega) (Nat.zero_add _) (rfl) rfl rfl ?_
     simp only [killT, killB, SV.kill, CV.kill, kk, Nat.reduceBEq]
     refine n_take 9 rfl (by kernel_rfl) rfl rfl (pu_build hT hB rfl rfl rfl (bp_cons (ev_tmp rfl) rfl rfl rfl rfl rfl (bp_cons (ev_tmp rfl) rfl rfl rfl rfl rfl (bp_cons (ev_tmp rfl) rfl rfl rfl rfl rfl bp_nil)))) rfl rfl rfl rfl ?_
     refine n_split 10 [] (by kernel_rfl) ⟨?_, trivial⟩
     ·skip
      refine nj_last 10 rfl rfl (by kernel_rfl) (ef_storeBox hT rfl rfl rfl (ev_tmp rfl) (ev_tmp rfl) rfl rfl rfl rfl rfl rfl) (by kernel_rfl) ?_
      exact then_n (weak_sub ⟨rfl, trivial⟩ ⟨rfl, trivial⟩ ⟨rfl, rfl, rfl, trivial⟩ rfl)
 refine ok_weak (σ' := ⟨[(2, .box 2 0)], [(2, 41, [(.dv [] (.str (x.1.1))), (.dv [] (.int .i64 (x.1.2.1))), (.key 5031), (.key 5900), (.key 906), (.dv [] (.int .i64 (x.2.2)))])], [(5031, some (kcOf false (storesD (x.1.2.2.1)))), (5900, some (kcOf false (defsD (x.1.2.2.2)))), (906, some (kcOf false (bytesD (x.2.1))))]⟩) (weak_sub ⟨rfl, trivial⟩ ⟨rfl, trivial⟩ ⟨rfl, rfl, rfl, trivial⟩ rfl) ?_
 refine z ?_
 refine fin1 (res_cell hT rfl rfl rfl rfl) ?_
 exact ⟨rfl, rfl⟩
end Go.Proofs.Ytlogahkchenpdaa

namespace Go.Proofs.Ytlogahkchenpdaa
open Go.RowKit
open Go.Proofs
set_option linter.unusedVariables false
set_option linter.unusedSimpArgs false

def restD (x : DiskT) : DiskT := (x.1, x.2.1.take (rl x.2.1).2, ((rl x.2.1).1.length : Int))

theorem ok_impl_RestartDisk {x : DiskT} (hb : wDisk x ≤ 2097152) : KFn Try.prog 39 [.agg [(.dv [] (.str (x.1.1))), (.dv [] (.int .i64 (x.1.2.1))), (.dv [] (storesD (x.1.2.2.1))), (.dv [] (defsD (x.1.2.2.2))), (.dv [] (bytesD (x.2.1))), (.dv [] (.int .i64 (x.2.2)))]] (.agg [(.dv [] (.str ((restD x).1.1))), (.dv [] (.int .i64 ((restD x).1.2.1))), (.key 10031), (.key 10900), (.key 8000), (.dv [] (.int .i64 ((restD x).2.2)))]) [(10031, some (kcOf false (storesD ((restD x).1.2.2.1)))), (10900, some (kcOf false (defsD ((restD x).1.2.2.2)))), (8000, some (kcOf false (bytesD ((restD x).2.1))))] := by
 refine ⟨fn_intro Try.func39 rfl Try.ntmps39 Try.results39 rfl (fun C => ?_)⟩
 have hwk : wDisk x = wDatabase x.1 + x.2.1.length := rfl
 have hcn := rl_cnt x.2.1
 refine yF 0 0 rfl rfl fun f0_0 => ?_
 refine yF 0 1 rfl rfl fun f0_1 => ?_
 refine yF 0 2 rfl rfl fun f0_2 => ?_
 refine yF 0 3 rfl rfl fun f0_3 => ?_
 refine yF 0 4 rfl rfl fun f0_4 => ?_
 refine yF 0 5 rfl rfl fun f0_5 => ?_
 iterate 6 refine z ?_
 refine zK 5000 Try.call84 ?_ (hf := ok_impl_copyDisk (x := x) (by omega))
 iterate 6 refine z ?_
 refine zK 8000 Try.call90 ?_ (hf := ok_impl_RepairLog (b := x.2.1) (by omega))
 iterate 6 refine z ?_
 refine zC Try.call91 ?_ (hf := ok_impl_CountLog (b := x.2.1) (by omega))
 iterate 7 refine z ?_
 refine ok_weak (σ' := ⟨[(2, .box 2 0)], [(2, 41, [(.dv [] (.str ((restD x).1.1))), (.dv [] (.int .i64 ((restD x).1.2.1))), (.key 10031), (.key 10900), (.key 8000), (.dv [] (.int .i64 ((restD x).2.2)))])], [(10031, some (kcOf false (storesD ((restD x).1.2.2.1)))), (10900, some (kcOf false (defsD ((restD x).1.2.2.2)))), (8000, some (kcOf false (bytesD ((restD x).2.1))))]⟩) (weak_sub ⟨rfl, trivial⟩ ⟨rfl, trivial⟩ ⟨rfl, rfl, rfl, trivial⟩ rfl) ?_
 refine z ?_
 refine fin1 (res_cell hT rfl rfl rfl rfl) ?_
 exact ⟨rfl, rfl⟩
theorem ok_spec_RestartDisk {x : DiskT} (hb : wDisk x ≤ 2097152) : KFn Try.prog 38 [.agg [(.dv [] (.str (x.1.1))), (.dv [] (.int .i64 (x.1.2.1))), (.dv [] (storesD (x.1.2.2.1))), (.dv [] (defsD (x.1.2.2.2))), (.dv [] (bytesD (x.2.1))), (.dv [] (.int .i64 (x.2.2)))]] (.agg [(.dv [] (.str ((restD x).1.1))), (.dv [] (.int .i64 ((restD x).1.2.1))), (.key 10031), (.key 10900), (.key 8000), (.dv [] (.int .i64 ((restD x).2.2)))]) [(10031, some (kcOf false (storesD ((restD x).1.2.2.1)))), (10900, some (kcOf false (defsD ((restD x).1.2.2.2)))), (8000, some (kcOf false (bytesD ((restD x).2.1))))] := by
 refine ⟨fn_intro Try.func38 rfl Try.ntmps38 Try.results38 rfl (fun C => ?_)⟩
 have hwk : wDisk x = wDatabase x.1 + x.2.1.length := rfl
 have hcn := rl_cnt x.2.1
 refine yF 0 0 rfl rfl fun f0_0 => ?_
 refine yF 0 1 rfl rfl fun f0_1 => ?_
 refine yF 0 2 rfl rfl fun f0_2 => ?_
 refine yF 0 3 rfl rfl fun f0_3 => ?_
 refine yF 0 4 rfl rfl fun f0_4 => ?_
 refine yF 0 5 rfl rfl fun f0_5 => ?_
 iterate 6 refine z ?_
 refine zK 5000 Try.call82 ?_ (hf := ok_spec_l12Copy (x := x) (by omega))
 iterate 6 refine z ?_
 refine zK 8000 Try.call88 ?_ (hf := ok_spec_RepairLog (b := x.2.1) (by omega))
 iterate 6 refine z ?_
 refine zC Try.call89 ?_ (hf := ok_spec_CountLog (b := x.2.1) (by omega))
 iterate 7 refine z ?_
 refine ok_weak (σ' := ⟨[(2, .box 2 0)], [(2, 41, [(.dv [] (.str ((restD x).1.1))), (.dv [] (.int .i64 ((restD x).1.2.1))), (.key 10031), (.key 10900), (.key 8000), (.dv [] (.int .i64 ((restD x).2.2)))])], [(10031, some (kcOf false (storesD ((restD x).1.2.2.1)))), (10900, some (kcOf false (defsD ((restD x).1.2.2.2)))), (8000, some (kcOf false (bytesD ((restD x).2.1))))]⟩) (weak_sub ⟨rfl, trivial⟩ ⟨rfl, trivial⟩ ⟨rfl, rfl, rfl, trivial⟩ rfl) ?_
 refine z ?_
 refine fin1 (res_cell hT rfl rfl rfl rfl) ?_
 exact ⟨rfl, rfl⟩
theorem ok_laws_FnExactRestartDisk {x0 : DiskT}  : PFn Try.prog 8 [.agg [(.dv [] (.str (x0.1.1))), (.dv [] (.int .i64 (x0.1.2.1))), (.dv [] (storesD (x0.1.2.2.1))), (.dv [] (defsD (x0.1.2.2.2))), (.dv [] (bytesD (x0.2.1))), (.dv [] (.int .i64 (x0.2.2)))]] (.one (.dv [] (.bool (true)))) := by
 refine ⟨fn_intro Try.func8 rfl Try.ntmps8 Try.results8 rfl (fun C => ?_)⟩
 have e1 : wDatabase (restD x0).1 = wDatabase x0.1 := rfl
 have e2 : (restD x0).2.1.length ≤ x0.2.1.length := by show (x0.2.1.take _).length ≤ _; rw [List.length_take]; omega
 have hwk0 : wDisk x0 = wDatabase x0.1 + x0.2.1.length := rfl
 have hwk1 : wDisk (restD x0) = wDatabase (restD x0).1 + (restD x0).2.1.length := rfl
 have : wDisk x0 = wDatabase (x0.1) + (x0.2.1).length := rfl
 have : wDatabase (x0.1) = ((x0.1).1).size + wList wStore ((x0.1).2.2.1) + wList wIndexDef ((x0.1).2.2.2) := rfl
 have : wList wStore ((x0.1).2.2.1) = ((x0.1).2.2.1).length + wSum wStore ((x0.1).2.2.1) := rfl
 have : wList wIndexDef ((x0.1).2.2.2) = ((x0.1).2.2.2).length + wSum wIndexDef ((x0.1).2.2.2) := rfl
 have := wSum_bound cStore_le (x0.1.2.2.1)
 have := wSum_bound cIndexDef_le (x0.1.2.2.2)
 have : wSum cByte (x0.2.1) = 1 * (x0.2.1).length := wSum_const (n := 1) _
 have : wDisk (restD x0) = wDatabase ((restD x0).1) + ((restD x0).2.1).length := rfl
 have : wDatabase ((restD x0).1) = (((restD x0).1).1).size + wList wStore (((restD x0).1).2.2.1) + wList wIndexDef (((restD x0).1).2.2.2) := rfl
 have : wList wStore (((restD x0).1).2.2.1) = (((restD x0).1).2.2.1).length + wSum wStore (((restD x0).1).2.2.1) := rfl
 have : wList wIndexDef (((restD x0).1).2.2.2) = (((restD x0).1).2.2.2).length + wSum wIndexDef (((restD x0).1).2.2.2) := rfl
 have := wSum_bound cStore_le ((restD x0).1.2.2.1)
 have := wSum_bound cIndexDef_le ((restD x0).1.2.2.2)
 have : wSum cByte ((restD x0).2.1) = 1 * ((restD x0).2.1).length := wSum_const (n := 1) _
 refine yF 0 0 rfl rfl fun f0_0 => ?_
 refine yF 0 1 rfl rfl fun f0_1 => ?_
 refine yF 0 2 rfl rfl fun f0_2 => ?_
 refine yF 0 3 rfl rfl fun f0_3 => ?_
 refine yF 0 4 rfl rfl fun f0_4 => ?_
 refine yF 0 5 rfl rfl fun f0_5 => ?_
 iterate 10 refine z ?_
 refine zC Try.call16 ?_ (hf := ok_laws_szDisk (by omega) (by omega))
 iterate 7 refine z ?_
 refine yQ rfl (fun c1 => ?_) fun c1 => ?_
 ·skip
  have d1 := of_decide_eq_true c1
  first | have q1 := szR_n d1 | skip
  iterate 6 refine z ?_
  first | rfl | (exfalso; omega) | (exfalso; simp_all; done) | (exfalso; simp_all; omega)
 ·skip
  have d1 := of_decide_eq_false c1
  first | have q1 := szR_nn d1 | skip
  iterate 4 refine z ?_
  refine zK 17000 Try.call18 ?_ (hf := ok_laws_toDisk (by first | omega | (simp only [wKey, wField, wRecord, wItem, wStore, wIndexDef, wDatabase, wOp, wTx, wTxQueue] at hb ⊢; omega) | (have hq := hw (by omega); omega)))
  refine o_callK 18000 rfl rfl rfl Try.call38 (ok_spec_RestartDisk (by omega)) (as_cons (ev_tmp rfl) (ag_agg (ag_cons ac_dv (ag_cons ac_dv (ag_cons (ac_key' rfl rfl) (ag_cons (ac_key' rfl rfl) (ag_cons (ac_key' rfl rfl) (ag_cons ac_dv ag_nil))))))) as_nil) rfl rfl rfl ?_
  iterate 5 refine z ?_
  refine zK 20000 Try.call18 ?_ (hf := ok_laws_toDisk (by first | omega | (simp only [wKey, wField, wRecord, wItem, wStore, wIndexDef, wDatabase, wOp, wTx, wTxQueue] at hb ⊢; omega) | (have hq := hw (by omega); omega)))
  iterate 5 refine z ?_
  refine o_callK 22000 rfl rfl rfl Try.call39 (ok_impl_RestartDisk (by omega)) (as_cons (ev_tmp rfl) (ag_agg (ag_cons ac_dv (ag_cons ac_dv (ag_cons (ac_key' rfl rfl) (ag_cons (ac_key' rfl rfl) (ag_cons (ac_key' rfl rfl) (ag_cons ac_dv ag_nil))))))) as_nil) rfl rfl rfl ?_
  iterate 7 refine z ?_
  refine o_call rfl rfl rfl Try.call20 ok_laws_eqDisk (as_cons (ev_tmp rfl) (ag_agg (ag_cons ac_dv (ag_cons ac_dv (ag_cons (ac_key' rfl rfl) (ag_cons (ac_key' rfl rfl) (ag_cons (ac_key' rfl rfl) (ag_cons ac_dv ag_nil))))))) (as_cons (ev_tmp rfl) (ag_agg (ag_cons ac_dv (ag_cons ac_dv (ag_cons (ac_key' rfl rfl) (ag_cons (ac_key' rfl rfl) (ag_cons (ac_key' rfl rfl) (ag_cons ac_dv ag_nil))))))) as_nil)) rfl rfl ?_
  iterate 2 refine z ?_
  refine yQ rfl (fun c2 => ?_) fun c2 => ?_
  ·skip
   iterate 6 refine z ?_
   first | rfl | (exfalso; omega) | (exfalso; simp_all; done) | (exfalso; simp_all; omega)
  ·skip
   iterate 2 refine z ?_
   refine ok_seq ?_
   refine ok_seq ?_
   refine ok_regionD (oB := [1, 4, 5, 6]) (oK := [26000, 27007, 28031, 28900, 30000, 30007, 32031, 32900, 35007, 38007, 39007, 42007]) (by kernel_rfl) rfl rfl ?_
   refine zD 0 ?_
   refine zD 1 ?_
   refine d_callK 30000 2 rfl (by kernel_rfl) rfl rfl rfl Try.call18 (ok_laws_toDisk (by first | omega | (simp only [wKey, wField, wRecord, wItem, wStore, wIndexDef, wDatabase, wOp, wTx, wTxQueue] at hb ⊢; omega) | (have hq := hw (by omega); omega))) (as_cons (ev_tmp rfl) (ag_agg (ag_cons ac_dv (ag_cons ac_dv (ag_cons ac_dv (ag_cons ac_dv (ag_cons ac_dv (ag_cons ac_dv ag_nil))))))) as_nil) rfl rfl rfl rfl rfl ?_
   refine d_call 3 rfl (by kernel_rfl) rfl rfl rfl Try.call20 ok_laws_eqDisk (as_cons (ev_tmp rfl) (ag_agg (ag_cons ac_dv (ag_cons ac_dv (ag_cons (ac_key' rfl rfl) (ag_cons (ac_key' rfl rfl) (ag_cons (ac_key' rfl rfl) (ag_cons ac_dv ag_nil))))))) (as_cons (ev_tmp rfl) (ag_agg (ag_cons ac_dv (ag_cons ac_dv (ag_cons (ac_key' rfl rfl) (ag_cons (ac_key' rfl rfl) (ag_cons (ac_key' rfl rfl) (ag_cons ac_dv ag_nil))))))) as_nil)) rfl rfl rfl rfl ?_
   refine zD 4 ?_
   refine d_done (by kernel_rfl) ?_
   refine z ?_
   refine yQ rfl (fun c3 => ?_) fun c3 => ?_
   ·skip
    iterate 6 refine z ?_
    first | rfl | (exfalso; omega) | (exfalso; simp_all; done) | (exfalso; simp_all; omega)
   ·skip
    iterate 8 refine z ?_
    refine o_callW [(0, 38007, ⟨false, _, _, _, _⟩, ⟨false, _, _, _, _⟩), (1, 42007, ⟨false, _, _, _, _⟩, ⟨false, _, _, _, _⟩), (2, 30007, ⟨false, _, _, _, _⟩, ⟨false, _, _, _, _⟩)] rfl rfl rfl Try.call36 (ok_laws_markDisk (x := x0) (by omega) (by omega)) ⟨rfl, rfl, rfl, trivial⟩ rfl (aw_cons (ev_tmp rfl) (aw_agg (awc_cons (awc_dv rfl) (awc_cons (awc_dv rfl) (awc_cons (awc_key rfl) (awc_cons (awc_key rfl) (awc_cons (awc_key rfl) (awc_cons (awc_dv rfl) awc_nil))))))) (aw_cons (ev_tmp rfl) (aw_one (awc_dv rfl)) aw_nil)) rfl rfl ?_
    simp only [killT, killB, SV.kill, CV.kill, kk, Nat.reduceBEq]
    iterate 9 refine z ?_
    refine o_callG (gd_bool rfl rfl rfl rfl rfl) rfl rfl Try.call20 ok_laws_eqDisk (fun hg => (as_cons (ev_opt rfl hg) (ag_agg (ag_cons ac_dv (ag_cons ac_dv (ag_cons (ac_key' rfl rfl) (ag_cons (ac_key' rfl rfl) (ag_cons (ac_key' rfl rfl) (ag_cons ac_dv ag_nil))))))) (as_cons (ev_opt rfl hg) (ag_agg (ag_cons ac_dv (ag_cons ac_dv (ag_cons (ac_key' rfl rfl) (ag_cons (ac_key' rfl rfl) (ag_cons (ac_key' rfl rfl) (ag_cons ac_dv ag_nil))))))) as_nil))) rfl rfl ?_
    iterate 3 refine z ?_
    refine yQ rfl (fun c4 => ?_) fun c4 => ?_
    ·skip
     iterate 6 refine z ?_
     first | rfl | (exfalso; omega) | (exfalso; simp_all; done) | (exfalso; simp_all; omega)
    ·skip
     iterate 8 refine z ?_
     refine o_callW [(0, 32031, ⟨false, _, _, _, _⟩, ⟨false, _, _, _, _⟩), (1, 32900, ⟨false, _, _, _, _⟩, ⟨false, _, _, _, _⟩), (2, 30000, ⟨false, _, _, _, _⟩, ⟨false, _, _, _, _⟩)] rfl rfl rfl Try.call36 (ok_laws_markDisk (x := (restD x0)) (by omega) (by omega)) ⟨rfl, rfl, rfl, trivial⟩ rfl (aw_cons (ev_tmp rfl) (aw_agg (awc_cons (awc_dv rfl) (awc_cons (awc_dv rfl) (awc_cons (awc_key rfl) (awc_cons (awc_key rfl) (awc_cons (awc_key rfl) (awc_cons (awc_dv rfl) awc_nil))))))) (aw_cons (ev_tmp rfl) (aw_one (awc_dv rfl)) aw_nil)) rfl rfl ?_
     simp only [killT, killB, SV.kill, CV.kill, kk, Nat.reduceBEq]
     iterate 8 refine z ?_
     refine o_call rfl rfl rfl Try.call37 (ok_laws_heldDisk (x := (restD x0)) rfl (by omega) (by omega)) (as_cons (ev_tmp rfl) (ag_agg (ag_cons ac_dv (ag_cons ac_dv (ag_cons (ac_key' rfl rfl) (ag_cons (ac_key' rfl rfl) (ag_cons (ac_key' rfl rfl) (ag_cons ac_dv ag_nil))))))) (as_cons (ev_tmp rfl) (ag_one ac_dv) as_nil)) rfl rfl ?_
     iterate 7 refine z ?_
     refine yQ rfl (fun c5 => ?_) fun c5 => ?_
     ·skip
      have d5 := of_decide_eq_true c5
      first | have q5 := szR_n d5 | skip
      iterate 6 refine z ?_
      first | rfl | (exfalso; omega) | (exfalso; simp_all; done) | (exfalso; simp_all; omega)
     ·skip
      have d5 := of_decide_eq_false c5
      first | have q5 := szR_nn d5 | skip
      iterate 8 refine z ?_
      refine yQ rfl (fun c6 => ?_) fun c6 => ?_
      ·skip
       have d6 := nd_t c6
       iterate 6 refine z ?_
       first | rfl | (exfalso; omega) | (exfalso; simp_all; done) | (exfalso; simp_all; omega)
      ·skip
       have d6 := nd_f c6
       iterate 4 refine z ?_
       refine zK 55000 Try.call18 ?_ (hf := ok_laws_toDisk (by first | omega | (simp only [wKey, wField, wRecord, wItem, wStore, wIndexDef, wDatabase, wOp, wTx, wTxQueue] at hb ⊢; omega) | (have hq := hw (by omega); omega)))
       refine o_callK 56000 rfl rfl rfl Try.call39 (ok_impl_RestartDisk (by omega)) (as_cons (ev_tmp rfl) (ag_agg (ag_cons ac_dv (ag_cons ac_dv (ag_cons (ac_key' rfl rfl) (ag_cons (ac_key' rfl rfl) (ag_cons (ac_key' rfl rfl) (ag_cons ac_dv ag_nil))))))) as_nil) rfl rfl rfl ?_
       iterate 7 refine z ?_
       refine o_call rfl rfl rfl Try.call20 ok_laws_eqDisk (as_cons (ev_tmp rfl) (ag_agg (ag_cons ac_dv (ag_cons ac_dv (ag_cons (ac_key' rfl rfl) (ag_cons (ac_key' rfl rfl) (ag_cons (ac_key' rfl rfl) (ag_cons ac_dv ag_nil))))))) (as_cons (ev_tmp rfl) (ag_agg (ag_cons ac_dv (ag_cons ac_dv (ag_cons (ac_key' rfl rfl) (ag_cons (ac_key' rfl rfl) (ag_cons (ac_key' rfl rfl) (ag_cons ac_dv ag_nil))))))) as_nil)) rfl rfl ?_
       iterate 2 refine z ?_
       refine yQ rfl (fun c7 => ?_) fun c7 => ?_
       ·skip
        iterate 6 refine z ?_
        first | rfl | (exfalso; omega) | (exfalso; simp_all; done) | (exfalso; simp_all; omega)
       ·skip
        iterate 8 refine z ?_
        refine o_call rfl rfl rfl Try.call37 (ok_laws_heldDisk (x := (restD x0)) rfl (by omega) (by omega)) (as_cons (ev_tmp rfl) (ag_agg (ag_cons ac_dv (ag_cons ac_dv (ag_cons (ac_key' rfl rfl) (ag_cons (ac_key' rfl rfl) (ag_cons (ac_key' rfl rfl) (ag_cons ac_dv ag_nil))))))) (as_cons (ev_tmp rfl) (ag_one ac_dv) as_nil)) rfl rfl ?_
        iterate 7 refine z ?_
        refine yQ rfl (fun c8 => ?_) fun c8 => ?_
        ·skip
         have d8 := of_decide_eq_true c8
         first | have q8 := szR_n d8 | skip
         iterate 6 refine z ?_
         first | rfl | (exfalso; omega) | (exfalso; simp_all; done) | (exfalso; simp_all; omega)
        ·skip
         have d8 := of_decide_eq_false c8
         first | have q8 := szR_nn d8 | skip
         iterate 8 refine z ?_
         refine yQ rfl (fun c9 => ?_) fun c9 => ?_
         ·skip
          have d9 := nd_t c9
          iterate 6 refine z ?_
          first | rfl | (exfalso; omega) | (exfalso; simp_all; done) | (exfalso; simp_all; omega)
         ·skip
          have d9 := nd_f c9
          iterate 7 refine z ?_
          first | rfl | (exfalso; omega) | (exfalso; simp_all; done) | (exfalso; simp_all; omega)
end Go.Proofs.Ytlogahkchenpdaa

namespace Go.Proofs.Ytlogahkchenpdaa
open Go.RowKit Go.ChangeShapes Go.WideShapes Go.Deep

def LayW (W : World) : List DV → List Value → Prop := LayL (fun b => b < W.heap.size) W
structure OpensD (P : Program) (Q : List DV → Prop) (t : TypeId) : Prop where
 run : ∀ {H : Type} (enc : TypeId × Value → H) (W : World) (base : Nat) (spare : Nat → Bool) (held : Bool) (fuel : Nat) (cs : List Value) (y : DataW H × List MemPlace),
  DataW.trod enc P W base spare held fuel t cs = some y → ∃ ds, Q ds ∧ LayW W ds cs
def Is {α : Type} (enc : α → List DV) (ds : List DV) : Prop := ∃ x, ds = enc x
theorem opensD_int {P : Program} {t : TypeId} (ht : P.underlying t = some (.int .i64)) : OpensD P (Is eInt) t := by
 refine ⟨fun {H} enc W base spare held fuel cs y h => ?_⟩
 obtain ⟨n, rfl, _, hw⟩ := DataW.trod_int ht h
 have hb : -9223372036854775808 ≤ n ∧ n ≤ 9223372036854775807 := by simpa [Lit.wf, IntKind.min, IntKind.max, IntKind.signed, IntKind.bits] using hw
 exact ⟨_, ⟨n, rfl⟩, by unfold LayW LayL LayL Lay; exact ⟨_, _, rfl, ⟨rfl, inR64 hb.1 hb.2⟩, rfl⟩⟩
theorem opensD_byte {P : Program} {t : TypeId} (ht : P.underlying t = some (.int .u8)) : OpensD P (Is eByte) t := by
 refine ⟨fun {H} enc W base spare held fuel cs y h => ?_⟩
 obtain ⟨n, rfl, _, hw⟩ := DataW.trod_int ht h
 have hb : 0 ≤ n ∧ n ≤ 255 := by simpa [Lit.wf, IntKind.min, IntKind.max, IntKind.signed, IntKind.bits] using hw
 have e : ((UInt8.ofNat n.toNat).toNat : Int) = n := by
  rw [UInt8.toNat_ofNat']
  have : n.toNat % 2 ^ 8 = n.toNat := Nat.mod_eq_of_lt (by omega)
  rw [this]; omega
 refine ⟨_, ⟨UInt8.ofNat n.toNat, rfl⟩, ?_⟩
 simp only [LayW, LayL, Lay]
 rw [e]
 exact ⟨_, _, rfl, ⟨rfl, by simpa [InR, IntKind.min, IntKind.max, IntKind.signed, IntKind.bits] using hb⟩, rfl⟩
theorem opensD_str {P : Program} {t : TypeId} (ht : P.underlying t = some .string) : OpensD P (Is eStr) t := by
 refine ⟨fun {H} enc W base spare held fuel cs y h => ?_⟩
 obtain ⟨s, rfl, _, hs⟩ := DataW.trod_string ht h
 exact ⟨_, ⟨s, rfl⟩, by simp only [LayW, LayL, Lay]; exact ⟨_, _, rfl, ⟨rfl, by simpa [maxLen] using hs⟩, rfl⟩⟩
theorem points {α : Type} {enc : α → List DV} {W : World} {sz : Nat} {f : Nat → Option Value} (hs : ∀ x, (enc x).length = sz) : ∀ n : Nat,
  (∀ i, i < n → ∃ x ci, LayW W (enc x) ci ∧ ∀ j, j < sz → f (i * sz + j) = ci[j]?) → ∃ (xs : List α) (cells : List Value), xs.length = n ∧ LayW W (xs.flatMap enc) cells ∧ ∀ j u, cells[j]? = some u → f j = some u
 | 0, _ => ⟨[], [], rfl, by simp [LayW, LayL], by simp⟩
 | n + 1, h => by
  obtain ⟨xs, cells, h1, h2, h3⟩ := points hs n (fun i hi => h i (by omega))
  obtain ⟨x, ci, g1, g2⟩ := h n (by omega)
  have hl : cells.length = n * sz := by rw [layL_len _ _ h2, flat_len hs, h1]
  have hci : ci.length = sz := by rw [layL_len _ _ g1, hs]
  refine ⟨xs ++ [x], cells ++ ci, by simp [h1], by have := layL_append _ _ _ _ h2 g1; simp only [List.flatMap_append, List.flatMap_cons, List.flatMap_nil, List.append_nil]; exact this, fun j u hu => ?_⟩
  rcases Nat.lt_or_ge j cells.length with hj | hj
  ·rw [List.getElem?_append_left hj] at hu; exact h3 j u hu
  ·rw [List.getElem?_append_right hj] at hu
   have hjs : j - cells.length < sz := by rw [← hci]; exact (List.getElem?_eq_some_iff.1 hu).1
   have := g2 (j - cells.length) hjs
   rw [show n * sz + (j - cells.length) = j by omega] at this
   rw [this, hu]
theorem opensD_slice {α : Type} {P : Program} {enc : α → List DV} {t e : TypeId} {sz : Nat} (e' : Nat) (hs : ∀ x, (enc x).length = sz) (hsz : Nat.blt 0 sz = true) (ht : P.underlying t = some (.slice e)) (hc : P.cellsOf e = sz) (he : OpensD P (Is enc) e) : OpensD P (Is fun xs : List α => [listD e' sz enc xs]) t := by
 refine ⟨fun {H} ench W base spare held fuel cs y h => ?_⟩
 have hpos : 0 < sz := by simpa [Nat.blt_eq] using hsz
 rcases open_slice ht h with ⟨rfl, _⟩ | ⟨a, len, cap, m, n, D, Pl, rfl, _, hl, hm, hmm, _, hi⟩
 ·refine ⟨_, ⟨[], rfl⟩, ?_⟩
  simp only [LayW, LayL, Lay]
  exact ⟨_, _, rfl, ⟨none, 0, [], rfl, Nat.le_refl _, by simp [maxLen], hpos, by simp, by simp [LayL], fun h => by simp at h⟩, rfl⟩
 ·have hlm : len ≤ m := by rw [hmm]; split <;> omega
  obtain ⟨xs, cells, h1, h2, h3⟩ := points (W := W) (f := fun j => W.cell? (a.add j)) hs len (fun i hil => by
   obtain ⟨cs', hc1, hc2⟩ := hi i (by omega)
   obtain ⟨ds, ⟨x, rfl⟩, hx⟩ := he.run ench W base spare held n cs' _ hc2
   obtain ⟨_, hcl, hat⟩ := World.cells?_some hc1
   refine ⟨x, cs', hx, fun j hj => ?_⟩
   have := hat j (by rw [hc]; exact hj)
   rw [← Go.Deep.add_add, hc] at *
   exact this)
  refine ⟨_, ⟨xs, rfl⟩, ?_⟩
  simp only [LayW, LayL]
  refine ⟨_, _, rfl, ?_, rfl⟩
  simp only [Lay]
  refine ⟨some a, cap, cells, by rw [h1], by omega, hm, hpos, flat_len hs xs, h2, fun hp => ?_⟩
  have hcl : 0 < cells.length := by
   rw [layL_len _ _ h2, flat_len hs]
   exact Nat.mul_pos hp hpos
  have h0 := h3 0 _ (List.getElem?_eq_getElem hcl)
  have ha0 : a.add 0 = a := by simp [Addr.add]
  simp only [ha0] at h0
  have hsp : a.spot = none := by
   cases hs : a.spot with
   | none => rfl
   | some s =>
    unfold World.cell? at h0
    split at h0
    ·simp [hs] at h0
    ·cases h0
  obtain ⟨b, off, sp⟩ := a
  simp only at hsp
  subst hsp
  refine ⟨b, off, rfl, World.block_lt_of_cell? W _ h0, fun j u hu => ?_⟩
  have := h3 j u hu
  simp only [add_row] at this
  exact this
/-! ### structs -/
def Qcat : List (List DV → Prop) → List DV → Prop
 | [], ds => ds = []
 | Q :: Qs, ds => ∃ a b, ds = a ++ b ∧ Q a ∧ Qcat Qs b
def contig (P : Program) : List Field → Nat → Nat → Bool
 | [], off, n => off == n
 | f :: fs, off, n => f.offset == off && contig P fs (off + P.cellsOf f.type) n
def OpensAll (P : Program) : List Field → List (List DV → Prop) → Prop
 | [], [] => True
 | f :: fs, Q :: Qs => OpensD P Q f.type ∧ OpensAll P fs Qs
 | _, _ => False
theorem opens_fields {P : Program} {W : World} {H : Type} (enc : TypeId × Value → H) (base : Nat) (spare : Nat → Bool) (held : Bool) (n : Nat) {cs : List Value} : ∀ (fs : List Field) (Qs : List (List DV → Prop)) (off : Nat), contig P fs off cs.length = true → OpensAll P fs Qs →
  (∀ f ∈ fs, ∃ y, DataW.trod enc P W base spare held n f.type ((cs.drop f.offset).take (P.cellsOf f.type)) = some y) → ∃ ds, Qcat Qs ds ∧ LayW W ds (cs.drop off)
 | [], [], off, h1, _, _ => by
  simp only [contig, beq_iff_eq] at h1
  subst h1
  exact ⟨[], rfl, by simp [LayW, LayL]⟩
 | [], _ :: _, _, _, h2, _ => h2.elim
 | _ :: _, [], _, _, h2, _ => h2.elim
 | f :: fs, Q :: Qs, off, h1, h2, h3 => by
  simp only [contig, Bool.and_eq_true, beq_iff_eq] at h1
  obtain ⟨e1, h1⟩ := h1
  obtain ⟨y, hy⟩ := h3 f (by simp)
  rw [e1] at hy
  obtain ⟨a, ha, la⟩ := h2.1.run enc W base spare held n _ _ hy
  obtain ⟨b, hb, lb⟩ := opens_fields enc base spare held n fs Qs _ h1 h2.2 (fun g hg => h3 g (by simp [hg]))
  refine ⟨a ++ b, ⟨a, b, rfl, ha, hb⟩, ?_⟩
  have := layL_append _ _ _ _ la lb
  rw [← List.drop_drop, List.take_append_drop] at this
  exact this
theorem opensD_struct {P : Program} {t : TypeId} {fs : Array Field} {Qs : List (List DV → Prop)} (ht : P.underlying t = some (.struct fs)) (hc : contig P fs.toList 0 (P.cellsOf t) = true) (h : OpensAll P fs.toList Qs) : OpensD P (Qcat Qs) t := by
 refine ⟨fun {H} enc W base spare held fuel cs y h' => ?_⟩
 obtain ⟨xs, n, _, _, hl, hlen, hf⟩ := DataW.trod_struct ht h'
 have := opens_fields (cs := cs) enc base spare held n fs.toList Qs 0 (by rw [hl]; exact hc) h (fun f hf' => by
  obtain ⟨i, hi⟩ := List.mem_iff_getElem?.1 hf'
  have hi' : fs[i]? = some f := by simpa using hi
  have h2 := hf i f hi'
  have hlt : i < xs.length := by
   rw [hlen]
   rw [Array.getElem?_eq_some_iff] at hi'
   exact hi'.1
  rw [List.getElem?_eq_getElem hlt] at h2
  exact ⟨_, h2⟩)
 simpa using this
theorem OpensD.mono {P : Program} {Q R : List DV → Prop} {t : TypeId} (h : OpensD P Q t) (hq : ∀ ds, Q ds → R ds) : OpensD P R t := by
 refine ⟨fun {H} enc W base spare held fuel cs y h' => ?_⟩
 obtain ⟨ds, h1, h2⟩ := h.run enc W base spare held fuel cs y h'
 exact ⟨ds, hq ds h1, h2⟩
/-! ### a call from the outside -/
def TopL (w : World) : List SV → List Value → Prop
 | [], vs => vs = []
 | .one c :: us, vs => ∃ d v vs', c = .dv [] d ∧ vs = v :: vs' ∧ LayW w [d] [v] ∧ TopL w us vs'
 | .agg cs :: us, vs => ∃ ds xs vs', cs = ds.map (CV.dv []) ∧ vs = .agg xs.toArray :: vs' ∧ LayW w ds xs ∧ TopL w us vs'
 | _ :: _, _ => False
theorem lay_top {w : World} {L : Lyt} {d : DV} {v : Value} (h : LayW w [d] [v]) : CVr ⟨w, [], L.rv⟩ L w (.dv [] d) v := by
 simp only [LayW, LayL] at h
 obtain ⟨v', _, e, h1, rfl⟩ := h
 simp only [List.cons.injEq, and_true] at e
 subst e
 simp only [CVr]
 exact lay_conv (fun b hb _ => ⟨.inl ⟨hb, by simp⟩, rfl⟩) d _ h1
theorem lays_top {w : World} {L : Lyt} : ∀ {ds : List DV} {vs : List Value}, LayW w ds vs → CVL ⟨w, [], L.rv⟩ L w (ds.map (CV.dv [])) vs
 | [], _, h => by simp only [LayW, LayL] at h; subst h; rfl
 | d :: ds, _, h => by
  simp only [LayW, LayL] at h
  obtain ⟨v, vs', rfl, h1, h2⟩ := h
  exact ⟨v, vs', rfl, lay_top (by simp only [LayW, LayL]; exact ⟨v, [], rfl, h1, rfl⟩), lays_top h2⟩
theorem topL_sv {P : Program} {w : World} {L : Lyt} : ∀ {us : List SV} {vs : List Value}, TopL w us vs → vs.length = us.length ∧ (∀ u ∈ us, u.keys = [] ∧ u.boxes = []) ∧ ∀ (i : Nat) (v : SV), us[i]? = some v → ∃ x, vs[i]? = some x ∧ SVr P ⟨w, [], L.rv⟩ L w v x
 | [], _, h => by simp only [TopL] at h; subst h; simp
 | .one c :: us, _, h => by
  simp only [TopL] at h
  obtain ⟨d, v, vs', rfl, rfl, h1, h2⟩ := h
  obtain ⟨g1, g2, g3⟩ := topL_sv (P := P) (L := L) h2
  refine ⟨by simp [g1], fun u hu => ?_, fun i x hx => ?_⟩
  ·rcases List.mem_cons.1 hu with rfl | hu
   ·exact ⟨rfl, rfl⟩
   ·exact g2 u hu
  ·cases i with
   | zero => simp only [List.getElem?_cons_zero, Option.some.injEq] at hx; subst hx; exact ⟨v, rfl, by simp only [SVr]; exact lay_top h1⟩
   | succ i => simpa using g3 i x (by simpa using hx)
 | .agg cs :: us, _, h => by
  simp only [TopL] at h
  obtain ⟨ds, xs, vs', rfl, rfl, h1, h2⟩ := h
  obtain ⟨g1, g2, g3⟩ := topL_sv (P := P) (L := L) h2
  refine ⟨by simp [g1], fun u hu => ?_, fun i x hx => ?_⟩
  ·rcases List.mem_cons.1 hu with rfl | hu
   ·refine ⟨?_, rfl⟩
    simp only [SV.keys]
    rw [List.flatMap_eq_nil_iff]
    intro c hc
    obtain ⟨d, _, rfl⟩ := List.mem_map.1 hc
    rfl
   ·exact g2 u hu
  ·cases i with
   | zero => simp only [List.getElem?_cons_zero, Option.some.injEq] at hx; subst hx; exact ⟨_, rfl, by simp only [SVr]; exact ⟨xs, rfl, lays_top h1⟩⟩
   | succ i => simpa using g3 i x (by simpa using hx)
 | .tup _ :: _, _, h => by simp [TopL] at h
 | .box _ _ :: _, _, h => by simp [TopL] at h
 | .ref _ _ :: _, _, h => by simp [TopL] at h
 | .eptr _ _ :: _, _, h => by simp [TopL] at h
 | .ksl _ _ _ _ :: _, _, h => by simp [TopL] at h
 | .fn _ _ :: _, _, h => by simp [TopL] at h
 | .clo _ _ :: _, _, h => by simp [TopL] at h
 | .opt _ _ :: _, _, h => by simp [TopL] at h
 | .any :: _, _, h => by simp [TopL] at h
theorem pfn_run {P : Program} {f : FuncId} {us : List SV} {b : Bool} (hf : PFn P f us (.one (.dv [] (.bool b)))) {w : World} {vs : List Value} (h : TopL w us vs) :
  Calls P f vs.toArray w fun e w' => e = .returned (.bool b) ∧ Below w.heap.size w w' := by
 let L : Lyt := ⟨fun _ => 0, fun _ => [], fun _ => .bool false⟩
 obtain ⟨h1, h2, h3⟩ := topL_sv (P := P) (L := L) h
 obtain ⟨t1, t2⟩ := enum_tk us 0 h2
 have hr : Rel P ⟨w, [], L.rv⟩ us.length L ⟨enumS 0 us, [], []⟩ ⟨vs.toArray, []⟩ w := {
  df := rfl
  sz := by simp [h1]
  tm := fun i v hv => by
   obtain ⟨_, h4⟩ := enumS_look us 0 i v hv
   obtain ⟨x, h5, h6⟩ := h3 i v (by simpa using h4)
   have : vs.toArray.getD i undef = x := by simp [Array.getD_eq_getD_getElem?, h5]
   rw [this]; exact h6
  bx := fun i t cs h => by cases h
  ks := fun k c h => by cases h
  b1 := fun i x h => by cases h
  k1 := fun k c h => by cases h
  kn := fun k c h => by cases h
  bb := fun i j x y h => by cases h
  bk := fun i k x c h => by cases h
  kk := fun k j c d h => by cases h
  lk := fun k hk => by simp only [St.tk, t1, List.flatMap_nil, List.append_nil] at hk; cases hk
  lb := fun b hb => by simp only [St.tb, t2] at hb; cases hb
  s0 := fun b hb => by cases hb
  chg := Chg.refl _ _ }
 refine (hf.ok w [] L vs h1 hr).mono ?_
 rintro e w' ⟨r, res, σ', L', rfl, rfl, hr'⟩
 have hv := hr'.tm 0 _ rfl
 simp only [SVr, CVr, Lay] at hv
 refine ⟨?_, hr'.chg.below⟩
 have : (#[r] : Array Value).getD 0 undef = r := rfl
 rw [this] at hv
 rw [hv]
end Go.Proofs.Ytlogahkchenpdaa

namespace Go.Proofs.Ytlogahkchenpdaa
open Go.RowKit
open Go.Proofs
theorem opensBytes : OpensD Try.prog (Is fun xs => [listD 5 1 eByte xs]) 35 := opensD_slice (sz := 1) 5 (fun _ => rfl) rfl Try.underlying35 (by kernel_rfl) (opensD_byte Try.underlying5)
theorem opensKey : OpensD Try.prog (Is eKey) 89 :=
 (opensD_struct (Qs := [Is eInt, Is eInt, Is eStr]) Try.underlying89 (by kernel_rfl) ⟨(opensD_int Try.underlying3), (opensD_int Try.underlying3), (opensD_str Try.underlying9), trivial⟩).mono fun ds h => by
  obtain ⟨_, _, rfl, ⟨a, rfl⟩, ⟨_, _, rfl, ⟨b, rfl⟩, ⟨_, _, rfl, ⟨c, rfl⟩, rfl⟩⟩⟩ := h
  exact ⟨(a, b, c), rfl⟩
theorem opensField : OpensD Try.prog (Is eField) 210 :=
 (opensD_struct (Qs := [Is eStr, Is eInt]) Try.underlying210 (by kernel_rfl) ⟨(opensD_str Try.underlying9), (opensD_int Try.underlying3), trivial⟩).mono fun ds h => by
  obtain ⟨_, _, rfl, ⟨a, rfl⟩, ⟨_, _, rfl, ⟨b, rfl⟩, rfl⟩⟩ := h
  exact ⟨(a, b), rfl⟩
theorem opensFields : OpensD Try.prog (Is fun xs => [listD 161 2 eField xs]) 90 := opensD_slice (sz := 2) 161 (fun _ => rfl) rfl Try.underlying90 (by kernel_rfl) opensField
theorem opensRecord : OpensD Try.prog (Is (fun r : RecT => [fieldsD r])) 92 :=
 (opensD_struct (Qs := [Is (fun r : RecT => [fieldsD r])]) Try.underlying92 (by kernel_rfl) ⟨opensFields, trivial⟩).mono fun ds h => by
  obtain ⟨_, _, rfl, ⟨a, rfl⟩, rfl⟩ := h
  exact ⟨a, rfl⟩
theorem opensItem : OpensD Try.prog (Is eItem) 206 :=
 (opensD_struct (Qs := [Is eKey, Is (fun r : RecT => [fieldsD r])]) Try.underlying206 (by kernel_rfl) ⟨opensKey, opensRecord, trivial⟩).mono fun ds h => by
  obtain ⟨_, _, rfl, ⟨a, rfl⟩, ⟨_, _, rfl, ⟨b, rfl⟩, rfl⟩⟩ := h
  exact ⟨(a, b), rfl⟩
theorem opensItems : OpensD Try.prog (Is fun xs => [listD 150 4 eItem xs]) 144 := opensD_slice (sz := 4) 150 (fun _ => rfl) rfl Try.underlying144 (by kernel_rfl) opensItem
theorem opensStore : OpensD Try.prog (Is eStore) 146 :=
 (opensD_struct (Qs := [Is eStr, Is (fun r : List ItemT => [itemsD r]), Is eInt]) Try.underlying146 (by kernel_rfl) ⟨(opensD_str Try.underlying9), opensItems, (opensD_int Try.underlying3), trivial⟩).mono fun ds h => by
  obtain ⟨_, _, rfl, ⟨a, rfl⟩, ⟨_, _, rfl, ⟨b, rfl⟩, ⟨_, _, rfl, ⟨c, rfl⟩, rfl⟩⟩⟩ := h
  exact ⟨(a, b, c), rfl⟩
theorem opensStores : OpensD Try.prog (Is fun xs => [listD 82 3 eStore xs]) 22 := opensD_slice (sz := 3) 82 (fun _ => rfl) rfl Try.underlying22 (by kernel_rfl) opensStore
theorem opensDef : OpensD Try.prog (Is eDef) 148 :=
 (opensD_struct (Qs := [Is eStr, Is eStr]) Try.underlying148 (by kernel_rfl) ⟨(opensD_str Try.underlying9), (opensD_str Try.underlying9), trivial⟩).mono fun ds h => by
  obtain ⟨_, _, rfl, ⟨a, rfl⟩, ⟨_, _, rfl, ⟨b, rfl⟩, rfl⟩⟩ := h
  exact ⟨(a, b), rfl⟩
theorem opensDefs : OpensD Try.prog (Is fun xs => [listD 129 2 eDef xs]) 23 := opensD_slice (sz := 2) 129 (fun _ => rfl) rfl Try.underlying23 (by kernel_rfl) opensDef
theorem opensDb : OpensD Try.prog (Is eDb) 25 :=
 (opensD_struct (Qs := [Is eStr, Is eInt, Is (fun r : List StoreT => [storesD r]), Is (fun r : List DefT => [defsD r])]) Try.underlying25 (by kernel_rfl) ⟨(opensD_str Try.underlying9), (opensD_int Try.underlying3), opensStores, opensDefs, trivial⟩).mono fun ds h => by
  obtain ⟨_, _, rfl, ⟨a, rfl⟩, ⟨_, _, rfl, ⟨b, rfl⟩, ⟨_, _, rfl, ⟨c, rfl⟩, ⟨_, _, rfl, ⟨d, rfl⟩, rfl⟩⟩⟩⟩ := h
  exact ⟨(a, b, c, d), rfl⟩
theorem opensDisk : OpensD Try.prog (Is (fun d : DiskT => eDb d.1 ++ [bytesD d.2.1, .int .i64 d.2.2])) 37 :=
 (opensD_struct (Qs := [Is eDb, Is (fun r : List UInt8 => [bytesD r]), Is eInt]) Try.underlying37 (by kernel_rfl) ⟨opensDb, opensBytes, (opensD_int Try.underlying3), trivial⟩).mono fun ds h => by
  obtain ⟨_, _, rfl, ⟨a, rfl⟩, ⟨_, _, rfl, ⟨b, rfl⟩, ⟨_, _, rfl, ⟨c, rfl⟩, rfl⟩⟩⟩ := h
  exact ⟨(a, b, c), rfl⟩
end Go.Proofs.Ytlogahkchenpdaa

