/-
  Contracts of the program's functions for the statements Steps, Upgrades, by the rules of the logic. Conditions: none but those in the theorems.
-/
import Derived.Below
import Derived.Deep.Slices
import Derived.OpenShut
import Derived.ProofKit
import Derived.Test.YtmnimdnmedldgaaGreatQSU2
set_option maxHeartbeats 4000000
set_option maxRecDepth 100000
namespace Go.Proofs.YtmnimdnmedldgaaGreat
open Go.RowKit
open Go.Proofs
set_option linter.unusedVariables false
set_option linter.unusedSimpArgs false

theorem sLt_f {a b : Str} (h : sLt b a = true) : (sLt a b || sEq a b) = false := by rw [sLe_eq, h]; rfl
theorem base_db {l : List StoreT} (hl : l.length ≤ 4) (hs : ∀ s ∈ l, isSto s = true) (ho : ∀ i, i + 1 < l.length → sLt (l.getD i default).1 (l.getD (i + 1) default).1 = true) : isDb (ByteArray.mk #[97, 112, 112], 1, l, []) = true := by
 have h1 : isName (ByteArray.mk #[97, 112, 112]) = true := by decide +kernel
 unfold isDb dbHead dbUn dbSt
 simp only [h1, Bool.and_eq_true, decide_eq_true_eq, List.all_eq_true, List.mem_range, List.length_nil, true_and]
 refine ⟨⟨⟨by omega, by omega⟩, by omega⟩, fun i hi => ?_, fun i hi => by omega⟩
 have h2 : l.getD i default ∈ l := by rw [List.getD_eq_getElem?_getD, List.getElem?_eq_getElem hi]; exact List.getElem_mem hi
 unfold stBad
 rw [Int.toNat_natCast, hs _ h2]
 cases i with
 | zero => simp
 | succ j =>
  have h3 := ho j hi
  rw [show (((j + 1 : Nat) : Int) - 1).toNat = j by omega, sLt_f h3]
  simp
theorem base2 {s t : StoreT} (h1 : isSto s = true) (n1 : s.1 = ByteArray.mk #[110, 111, 116, 101, 115]) (h2 : isSto t = true) (n2 : t.1 = ByteArray.mk #[116, 97, 103, 115]) : isDb (ByteArray.mk #[97, 112, 112], 1, [s, t], []) = true := by
 refine base_db (by simp) (fun x hx => ?_) (fun i hi => ?_)
 ·simp only [List.mem_cons, List.not_mem_nil, or_false] at hx
  rcases hx with rfl | rfl <;> assumption
 ·have : i = 0 := by simp at hi; omega
  subst this
  show sLt s.1 t.1 = true
  rw [n1, n2]; decide +kernel
theorem base3 {q s t : StoreT} (h0 : isSto q = true) (n0 : q.1 = ByteArray.mk #[108, 105, 115, 116, 115]) (h1 : isSto s = true) (n1 : s.1 = ByteArray.mk #[110, 111, 116, 101, 115]) (h2 : isSto t = true) (n2 : t.1 = ByteArray.mk #[116, 97, 103, 115]) : isDb (ByteArray.mk #[97, 112, 112], 1, [q, s, t], []) = true := by
 refine base_db (by simp) (fun x hx => ?_) (fun i hi => ?_)
 ·simp only [List.mem_cons, List.not_mem_nil, or_false] at hx
  rcases hx with rfl | rfl | rfl <;> assumption
 ·simp only [List.length_cons, List.length_nil] at hi
  have : i = 0 ∨ i = 1 := by omega
  rcases this with rfl | rfl
  ·show sLt q.1 s.1 = true
   rw [n0, n1]; decide +kernel
  ·show sLt s.1 t.1 = true
   rw [n1, n2]; decide +kernel
theorem upA_keep {d : DbT} {u : UpgT} (h : isDb d = true) : isDb (upA d u).1 = true := by
 cases h2 : (upA d u).2 with
 | true => exact upA_db h2
 | false => rw [upA_f h2]; exact h
theorem wSum_bd {α : Type} {w : α → Nat} {B : Nat} : ∀ (l : List α), (∀ x ∈ l, w x ≤ B) → wSum w l ≤ B * l.length
 | [], _ => by simp [wSum]
 | x :: l, h => by
  have k1 := wSum_bd l (fun g hg => h g (by simp [hg]))
  have k2 := h x (by simp)
  simp only [wSum, List.map_cons, List.sum_cons, List.length_cons, Nat.mul_add, Nat.mul_one] at *
  omega
theorem isDb_w2 {d : DbT} (h : isDb d = true) : wDatabase d ≤ 6000 := by
 have h4 : wDatabase d = d.1.size + (d.2.2.1.length + wSum wStore d.2.2.1) + (d.2.2.2.length + wSum wIndexDef d.2.2.2) := rfl
 have h0 := h
 rw [isDb, Bool.and_eq_true, Bool.and_eq_true] at h
 obtain ⟨h1, h2, h3⟩ := h
 simp only [dbHead, Bool.and_eq_true, decide_eq_true_eq] at h1
 have h5 := name_size h1.1.1.1
 have h6 := wSum_bd (w := wStore) (B := 1200) d.2.2.1 (fun s hs => by
  obtain ⟨i, hi, rfl⟩ := List.mem_iff_getElem.1 hs
  have := db_sto (i := (i : Int)) h2 (by omega) (by omega)
  rw [Int.toNat_natCast, List.getD_eq_getElem?_getD, List.getElem?_eq_getElem hi] at this
  exact sto_w2 this)
 have h7 := wSum_bd (w := wIndexDef) (B := 16) d.2.2.2 (fun x hx => by
  obtain ⟨i, hi, rfl⟩ := List.mem_iff_getElem.1 hx
  have hq := db_un h0 (List.getElem_mem hi)
  have h8 : d.2.2.1.any (hasName d.2.2.2[i].1) = true := by rw [← fnd_any]; exact decide_eq_true hq
  obtain ⟨s, hs, hn⟩ := List.any_eq_true.1 h8
  have hn2 : s.1 = d.2.2.2[i].1 := sEq_iff.1 hn
  obtain ⟨j, hj, rfl⟩ := List.mem_iff_getElem.1 hs
  have h9 := db_sto (i := (j : Int)) h2 (by omega) (by omega)
  rw [Int.toNat_natCast, List.getD_eq_getElem?_getD, List.getElem?_eq_getElem hj] at h9
  have h10 := sto_name h9
  have h11 : d.2.2.1[j].1.size ≤ 8 := h10
  have h12 : (d.2.2.2[i]).2.size ≤ 8 := by
   rw [dbUn, List.all_eq_true] at h3
   have h13 := h3 i (List.mem_range.2 hi)
   unfold unBad at h13
   rw [Int.toNat_natCast, List.getD_eq_getElem?_getD, List.getElem?_eq_getElem hi] at h13
   simp only [Option.getD_some, Bool.not_eq_true', Bool.or_eq_false_iff, Bool.not_eq_false'] at h13
   exact (name_size h13.1.1.2).2
  have h14 : wIndexDef d.2.2.2[i] = (d.2.2.2[i]).1.size + (d.2.2.2[i]).2.size := rfl
  rw [hn2] at h11
  omega)
 omega

theorem ok_spec_l8Base {code : List UInt8} {i h : Int} (hc : code.length ≤ 1048576) (hi : 0 ≤ i) : BFn Tryz.prog 54 [] 92 (bytesD (code)) [.dv [] (.int .i64 (i)), .dv [] (.int .i64 (h))] (fun zz : DbT × Int × Int => isDb zz.1 = true ∧ 0 ≤ zz.2.1) (fun zz : DbT × Int × Int => .agg [(.dv [] (.str (zz.1.1))), (.dv [] (.int .i64 (zz.1.2.1))), (.key 90031), (.key 90900)]) (fun zz : DbT × Int × Int => [(90031, some (kcOf false (storesD (zz.1.2.2.1)))), (90900, some (kcOf false (defsD (zz.1.2.2.2))))]) (fun zz : DbT × Int × Int => [.dv [] (.int .i64 (zz.2.1)), .dv [] (.int .i64 (zz.2.2))]) := by
 refine ⟨fn_introS Tryz.func54 rfl Tryz.ntmps54 Tryz.results54 rfl (fun C => ?_)⟩
 iterate 4 refine z ?_
 refine yO rfl rfl (pu_build hT hB rfl rfl rfl (bp_cons (ev_str (str_lit rfl)) rfl rfl rfl rfl rfl (bp_cons (ev_int (inR_lit rfl)) rfl rfl rfl rfl rfl bp_nil))) rfl ?_
 iterate 3 refine z ?_
 refine ok_seq ?_
 refine ok_weak (weak_nilB 90031 (b := 3) (i := 2) (e := 37) (sz := 3) rfl rfl rfl rfl rfl) ?_
 simp only [killT, killB, SV.kill, CV.kill, kk, Nat.reduceBEq]
 refine ok_weak (weak_nilB 90900 (b := 3) (i := 3) (e := 72) (sz := 2) rfl rfl rfl rfl rfl) ?_
 simp only [killT, killB, SV.kill, CV.kill, kk, Nat.reduceBEq]
 refine ok_regionL [0] [0, 1, 2, 3, 4, 5, 6] (oB := [2, 3]) (oK := [90031, 90900]) (by kernel_rfl) rfl rfl ?_
 refine l_take 0 rfl (by kernel_rfl) rfl rfl (pu_fieldBox hT rfl rfl rfl (ev_tmp rfl)) rfl rfl rfl rfl rfl ?_
 refine l_take 1 rfl (by kernel_rfl) rfl rfl (pu_loadBox1 hT rfl rfl (ev_tmp rfl) rfl rfl) rfl rfl rfl rfl rfl ?_
 refine l_take 2 rfl (by kernel_rfl) rfl rfl (pu_move (.inl rfl) (ev_abox (ev_tmp rfl))) rfl rfl rfl rfl rfl ?_
 refine l_take 4 rfl (by kernel_rfl) rfl rfl (pu_move (.inl rfl) (ev_abox (ev_tmp rfl))) rfl rfl rfl rfl rfl ?_
 refine l_split 3 [] (by kernel_rfl) ⟨?_, trivial⟩
 refine y_callB 22000 3 rfl rfl rfl rfl rfl Tryz.call89 (ok_spec_l6Store (code := code) (i := i) (h := h) (nm := ByteArray.mk #[110, 111, 116, 101, 115]) (by omega) (by omega) (by decide +kernel)) (ev_tmp rfl) rfl ac_arg rfl (fun _ => rfl) (ad_cons (ev_str (str_lit rfl)) (ag_one ac_dv) rfl ad_nil) rfl (fun _ => rfl) (fun _ => rfl) rfl (fun zz hz8 => ?_)
 obtain ⟨e8, i8, h8⟩ := zz
 replace hz8 : isSto e8 = true ∧ e8.1 = (ByteArray.mk #[110, 111, 116, 101, 115]) ∧ autoI e8 ∧ e8.2.2 ≤ 256 ∧ 0 ≤ i8 := hz8
 refine l_split 5 [] (by kernel_rfl) ⟨?_, trivial⟩
 refine y_callB 23000 5 rfl rfl rfl rfl rfl Tryz.call89 (ok_spec_l6Store (code := code) (i := i8) (h := h8) (nm := ByteArray.mk #[116, 97, 103, 115]) (by omega) (by omega) (by decide +kernel)) (ev_tmp rfl) rfl ac_arg rfl (fun _ => rfl) (ad_cons (ev_str (str_lit rfl)) (ag_one ac_dv) rfl ad_nil) rfl (fun _ => rfl) (fun _ => rfl) rfl (fun zz hz10 => ?_)
 obtain ⟨e10, i10, h10⟩ := zz
 replace hz10 : isSto e10 = true ∧ e10.1 = (ByteArray.mk #[116, 97, 103, 115]) ∧ autoI e10 ∧ e10.2.2 ≤ 256 ∧ 0 ≤ i10 := hz10
 refine l_split 6 [] (by kernel_rfl) ⟨?_, trivial⟩
 refine y_buildN (k := 11) (js := [31001, 32001]) 6 hT rfl rfl rfl rfl rfl rfl rfl rfl rfl rfl rfl rfl (ep_cons (ev_tmp rfl) rfl rfl rfl (ep_cons (ev_tmp rfl) rfl rfl rfl ep_nil)) (ow_cons' (ow_dv rfl) (ow_cons' (ow_key rfl) (ow_cons' (ow_dv rfl) (ow_cons' (ow_dv rfl) (ow_cons' (ow_key rfl) (ow_cons' (ow_dv rfl) ow_nil rfl) rfl) rfl) rfl) rfl) rfl) (by decide) (by decide) rfl rfl rfl rfl rfl ?_
 simp only [killT, killB, SV.kill, CV.kill, kk, Nat.reduceBEq]
 refine l_chain [7, 8, 9] rfl rfl (by kernel_rfl) ?_
 refine o_appK (k := 90031) (j := 11) (cs := [e8, e10].flatMap eStore) (n := [e8, e10].length) hT rfl rfl rfl rfl rfl rfl rfl (ev_tmp rfl) rfl rfl rfl (ev_tmp rfl) rfl rfl (by decide) (by simp [kcOf, KC.old]) (by simp [kcOf, KC.old]) (rfl) (rfl) ?_
 simp only [killT, killB, SV.kill, CV.kill, kk, Nat.reduceBEq]
 iterate 5 refine z ?_
 refine yO rfl rfl (pu_move (.inl rfl) (ev_abox (ev_tmp rfl))) rfl ?_
 refine o_callB 15000 rfl rfl rfl Tryz.call43 (ok_spec_l1Once (code := code) (i := i10) (h := h10) (n := 2) (by omega) (by omega) ) (ev_tmp rfl) rfl ac_arg rfl (fun _ => rfl) (ad_cons (ev_int (inR_lit rfl)) (ag_one ac_dv) rfl ad_nil) rfl (fun _ => rfl) (fun _ => rfl) (fun zz hz15 => ?_)
 obtain ⟨e15, i15, h15⟩ := zz
 replace hz15 : 0 ≤ i15 := hz15
 refine z ?_
 refine yQ rfl (fun c1 => ?_) fun c1 => ?_
 ·skip
  refine ok_regionL [0] [0, 1, 2, 3, 4] (oB := [2, 3]) (oK := [90031, 90900]) (by kernel_rfl) rfl rfl ?_
  refine l_take 0 rfl (by kernel_rfl) rfl rfl (pu_move (.inl rfl) (ev_abox (ev_tmp rfl))) rfl rfl rfl rfl rfl ?_
  refine l_take 3 rfl (by kernel_rfl) rfl rfl (pu_fieldBox hT rfl rfl rfl (ev_tmp rfl)) rfl rfl rfl rfl rfl ?_
  refine l_take 4 rfl (by kernel_rfl) rfl rfl (pu_loadBox1 hT rfl rfl (ev_tmp rfl) rfl rfl) rfl rfl rfl rfl rfl ?_
  refine l_split 1 [] (by kernel_rfl) ⟨?_, trivial⟩
  refine y_callB 24000 1 rfl rfl rfl rfl rfl Tryz.call89 (ok_spec_l6Store (code := code) (i := i15) (h := h15) (nm := ByteArray.mk #[108, 105, 115, 116, 115]) (by omega) (by omega) (by decide +kernel)) (ev_tmp rfl) rfl ac_arg rfl (fun _ => rfl) (ad_cons (ev_str (str_lit rfl)) (ag_one ac_dv) rfl ad_nil) rfl (fun _ => rfl) (fun _ => rfl) rfl (fun zz hz17 => ?_)
  obtain ⟨e17, i17, h17⟩ := zz
  replace hz17 : isSto e17 = true ∧ e17.1 = (ByteArray.mk #[108, 105, 115, 116, 115]) ∧ autoI e17 ∧ e17.2.2 ≤ 256 ∧ 0 ≤ i17 := hz17
  refine l_split 2 [] (by kernel_rfl) ⟨?_, trivial⟩
  refine y_buildN (k := 18) (js := [33001]) 2 hT rfl rfl rfl rfl rfl rfl rfl rfl rfl rfl rfl rfl (ep_cons (ev_tmp rfl) rfl rfl rfl ep_nil) (ow_cons' (ow_dv rfl) (ow_cons' (ow_key rfl) (ow_cons' (ow_dv rfl) ow_nil rfl) rfl) rfl) (by decide) (by decide) rfl rfl rfl rfl rfl ?_
  simp only [killT, killB, SV.kill, CV.kill, kk, Nat.reduceBEq]
  refine l_chain [5, 6, 7] rfl rfl (by kernel_rfl) ?_
  refine o_appK (k := 18) (j := 90031) (cs := [e17, e8, e10].flatMap eStore) (n := [e17, e8, e10].length) hT rfl rfl rfl rfl rfl rfl rfl (ev_tmp rfl) rfl rfl rfl (ev_tmp rfl) rfl rfl (by decide) (by simp [kcOf, KC.old]) (by simp [kcOf, KC.old]) (rfl) (rfl) ?_
  simp only [killT, killB, SV.kill, CV.kill, kk, Nat.reduceBEq]
  iterate 5 refine z ?_
  refine yO rfl rfl (pu_move (.inl rfl) (ev_abox (ev_tmp rfl))) rfl ?_
  refine o_callB 24000 rfl rfl rfl Tryz.call43 (ok_spec_l1Once (code := code) (i := i17) (h := h17) (n := 3) (by omega) (by omega) ) (ev_tmp rfl) rfl ac_arg rfl (fun _ => rfl) (ad_cons (ev_int (inR_lit rfl)) (ag_one ac_dv) rfl ad_nil) rfl (fun _ => rfl) (fun _ => rfl) (fun zz hz24 => ?_)
  obtain ⟨e24, i24, h24⟩ := zz
  replace hz24 : 0 ≤ i24 := hz24
  refine z ?_
  refine yQ rfl (fun c2 => ?_) fun c2 => ?_
  ·skip
   refine ok_regionL [0] [0, 1, 2, 3, 4, 5] (oB := [2, 3]) (oK := [18, 90900]) (by kernel_rfl) rfl rfl ?_
   refine l_take 0 rfl (by kernel_rfl) rfl rfl (pu_loadBoxA hT rfl rfl (ev_tmp rfl) rfl rfl) rfl rfl rfl rfl rfl ?_
   refine l_take 1 rfl (by kernel_rfl) rfl rfl (pu_move (.inl rfl) (ev_abox (ev_tmp rfl))) rfl rfl rfl rfl rfl ?_
   refine l_split 2 [] (by kernel_rfl) ⟨?_, trivial⟩
   refine y_callB 28000 2 rfl rfl rfl rfl rfl Tryz.call58 (ok_spec_l5Name (code := code) (i := i24) (h := h24) (by omega) (by omega)) (ev_tmp rfl) rfl ac_arg rfl (fun _ => rfl) ad_nil rfl (fun _ => rfl) (fun _ => rfl) rfl (fun zz hz28 => ?_)
   obtain ⟨e28, i28, h28⟩ := zz
   replace hz28 : isName e28 = true ∧ 0 ≤ i28 := hz28
   refine l_take 3 rfl (by kernel_rfl) rfl rfl (pu_build hT hB rfl rfl rfl (bp_cons (ev_int (inR_lit rfl)) rfl rfl rfl rfl rfl (bp_cons (ev_str (str_lit rfl)) rfl rfl rfl rfl rfl (bp_cons (ev_tmp rfl) rfl rfl rfl rfl rfl bp_nil)))) rfl rfl rfl rfl rfl ?_
   refine l_split 4 [] (by kernel_rfl) ⟨?_, trivial⟩
   refine y_callK 100000 4 rfl rfl rfl rfl Tryz.call16 (ok_spec_ApplyUpgrade (d := (ByteArray.mk #[97, 112, 112], 1, [e17, e8, e10], [])) (u := (3, ByteArray.mk #[110, 111, 116, 101, 115], e28)) (by have := isDb_w2 (base3 hz17.1 hz17.2.1 hz8.1 hz8.2.1 hz10.1 hz10.2.1); omega)) (as_cons (ev_tmp rfl) (ag_agg (ag_cons ac_dv (ag_cons ac_dv (ag_cons (ac_key' rfl rfl) (ag_cons (ac_key' rfl rfl) ag_nil))))) (as_cons (ev_tmp rfl) (ag_agg (ag_cons ac_dv (ag_cons ac_dv (ag_cons ac_dv ag_nil)))) as_nil)) rfl rfl rfl rfl rfl rfl ?_
   refine l_take 5 rfl (by kernel_rfl) rfl rfl (pu_move (.inl rfl) (ev_tmp rfl)) rfl rfl rfl rfl rfl ?_
   refine l_takeX 6 rfl (by kernel_rfl) rfl rfl rfl (pu_extractA rfl (ev_tmp rfl) rfl) rfl rfl ?_
   refine l_takeX 7 rfl (by kernel_rfl) rfl rfl rfl (pu_extract1 rfl (ev_tmp rfl) rfl) rfl rfl ?_
   refine l_chain [8] rfl rfl (by kernel_rfl) ?_
   iterate 6 refine z ?_
   refine ok_weak (weak_add (k := 90031) (e := 37) (sz := 3) rfl rfl) ?_
   try simp only [killT, killB, SV.kill, CV.kill, kk, Nat.reduceBEq]
   refine ok_weak (weak_swapB (b := 2) (i := 2) (k := 190031) (k' := 90031) rfl rfl rfl rfl (by simp) rfl rfl) ?_
   try simp only [killT, killB, SV.kill, CV.kill, kk, Nat.reduceBEq]
   refine ok_weak (weak_swapB (b := 2) (i := 3) (k := 190900) (k' := 90900) rfl rfl rfl rfl (by simp) rfl rfl) ?_
   try simp only [killT, killB, SV.kill, CV.kill, kk, Nat.reduceBEq]
   refine ok_weak (σ' := ⟨[(2, .box 2 0), (0, .abox 0)], [(2, 27, [(.dv [] (.str ((upA ((ByteArray.mk #[97, 112, 112], (1, ([e17, e8, e10], [])))) ((3, (ByteArray.mk #[110, 111, 116, 101, 115], e28)))).1.1))), (.dv [] (.int .i64 ((upA ((ByteArray.mk #[97, 112, 112], (1, ([e17, e8, e10], [])))) ((3, (ByteArray.mk #[110, 111, 116, 101, 115], e28)))).1.2.1))), (.key 90031), (.key 90900)]), (0, 92, [(.arg 900001 (bytesD (code))), (.dv [] (.int .i64 (i28))), (.dv [] (.int .i64 (h28)))])], [(90031, some (kcOf false (storesD ((upA ((ByteArray.mk #[97, 112, 112], (1, ([e17, e8, e10], [])))) ((3, (ByteArray.mk #[110, 111, 116, 101, 115], e28)))).1.2.2.1)))), (90900, some (kcOf false (defsD ((upA ((ByteArray.mk #[97, 112, 112], (1, ([e17, e8, e10], [])))) ((3, (ByteArray.mk #[110, 111, 116, 101, 115], e28)))).1.2.2.2))))]⟩) (weak_sub ⟨rfl, rfl, trivial⟩ ⟨rfl, rfl, trivial⟩ ⟨rfl, rfl, trivial⟩ rfl) ?_
   refine z ?_
   refine fin1 (res_cell hT rfl rfl rfl rfl) ⟨((((upA ((ByteArray.mk #[97, 112, 112], (1, ([e17, e8, e10], [])))) ((3, (ByteArray.mk #[110, 111, 116, 101, 115], e28)))).1.1), (((upA ((ByteArray.mk #[97, 112, 112], (1, ([e17, e8, e10], [])))) ((3, (ByteArray.mk #[110, 111, 116, 101, 115], e28)))).1.2.1), (((upA ((ByteArray.mk #[97, 112, 112], (1, ([e17, e8, e10], [])))) ((3, (ByteArray.mk #[110, 111, 116, 101, 115], e28)))).1.2.2.1), ((upA ((ByteArray.mk #[97, 112, 112], (1, ([e17, e8, e10], [])))) ((3, (ByteArray.mk #[110, 111, 116, 101, 115], e28)))).1.2.2.2)))), i28, h28), ?_, rfl, rfl, rfl, rfl⟩
   try dsimp only
   exact ⟨upA_keep (base3 hz17.1 hz17.2.1 hz8.1 hz8.2.1 hz10.1 hz10.2.1), by omega⟩
  ·skip
   iterate 6 refine z ?_
   refine ok_weak (weak_add (k := 90031) (e := 37) (sz := 3) rfl rfl) ?_
   try simp only [killT, killB, SV.kill, CV.kill, kk, Nat.reduceBEq]
   refine ok_weak (weak_swapB (b := 2) (i := 2) (k := 18) (k' := 90031) rfl rfl rfl rfl (by simp) rfl rfl) ?_
   try simp only [killT, killB, SV.kill, CV.kill, kk, Nat.reduceBEq]
   refine ok_weak (σ' := ⟨[(2, .box 2 0), (0, .abox 0)], [(2, 27, [(.dv [] (.str (ByteArray.mk #[97, 112, 112]))), (.dv [] (.int .i64 (1))), (.key 90031), (.key 90900)]), (0, 92, [(.arg 900001 (bytesD (code))), (.dv [] (.int .i64 (i24))), (.dv [] (.int .i64 (h24)))])], [(90031, some (kcOf false (.sl 37 3 ([e17, e8, e10].length) ([e17, e8, e10].flatMap eStore)))), (90900, some (kcOf false (.sl 72 2 (0) ([]))))]⟩) (weak_sub ⟨rfl, rfl, trivial⟩ ⟨rfl, rfl, trivial⟩ ⟨rfl, rfl, trivial⟩ rfl) ?_
   refine z ?_
   refine fin1 (res_cell hT rfl rfl rfl rfl) ⟨(((ByteArray.mk #[97, 112, 112]), ((1), (([e17, e8, e10]), ([])))), i24, h24), ?_, rfl, rfl, rfl, rfl⟩
   try dsimp only
   exact ⟨base3 hz17.1 hz17.2.1 hz8.1 hz8.2.1 hz10.1 hz10.2.1, by omega⟩
 ·skip
  iterate 4 refine z ?_
  refine yO rfl rfl (pu_move (.inl rfl) (ev_abox (ev_tmp rfl))) rfl ?_
  refine o_callB 24000 rfl rfl rfl Tryz.call43 (ok_spec_l1Once (code := code) (i := i15) (h := h15) (n := 3) (by omega) (by omega) ) (ev_tmp rfl) rfl ac_arg rfl (fun _ => rfl) (ad_cons (ev_int (inR_lit rfl)) (ag_one ac_dv) rfl ad_nil) rfl (fun _ => rfl) (fun _ => rfl) (fun zz hz24 => ?_)
  obtain ⟨e24, i24, h24⟩ := zz
  replace hz24 : 0 ≤ i24 := hz24
  refine z ?_
  refine yQ rfl (fun c3 => ?_) fun c3 => ?_
  ·skip
   refine ok_regionL [0] [0, 1, 2, 3, 4, 5] (oB := [2, 3]) (oK := [90031, 90900]) (by kernel_rfl) rfl rfl ?_
   refine l_take 0 rfl (by kernel_rfl) rfl rfl (pu_loadBoxA hT rfl rfl (ev_tmp rfl) rfl rfl) rfl rfl rfl rfl rfl ?_
   refine l_take 1 rfl (by kernel_rfl) rfl rfl (pu_move (.inl rfl) (ev_abox (ev_tmp rfl))) rfl rfl rfl rfl rfl ?_
   refine l_split 2 [] (by kernel_rfl) ⟨?_, trivial⟩
   refine y_callB 28000 2 rfl rfl rfl rfl rfl Tryz.call58 (ok_spec_l5Name (code := code) (i := i24) (h := h24) (by omega) (by omega)) (ev_tmp rfl) rfl ac_arg rfl (fun _ => rfl) ad_nil rfl (fun _ => rfl) (fun _ => rfl) rfl (fun zz hz28 => ?_)
   obtain ⟨e28, i28, h28⟩ := zz
   replace hz28 : isName e28 = true ∧ 0 ≤ i28 := hz28
   refine l_take 3 rfl (by kernel_rfl) rfl rfl (pu_build hT hB rfl rfl rfl (bp_cons (ev_int (inR_lit rfl)) rfl rfl rfl rfl rfl (bp_cons (ev_str (str_lit rfl)) rfl rfl rfl rfl rfl (bp_cons (ev_tmp rfl) rfl rfl rfl rfl rfl bp_nil)))) rfl rfl rfl rfl rfl ?_
   refine l_split 4 [] (by kernel_rfl) ⟨?_, trivial⟩
   refine y_callK 100000 4 rfl rfl rfl rfl Tryz.call16 (ok_spec_ApplyUpgrade (d := (ByteArray.mk #[97, 112, 112], 1, [e8, e10], [])) (u := (3, ByteArray.mk #[110, 111, 116, 101, 115], e28)) (by have := isDb_w2 (base2 hz8.1 hz8.2.1 hz10.1 hz10.2.1); omega)) (as_cons (ev_tmp rfl) (ag_agg (ag_cons ac_dv (ag_cons ac_dv (ag_cons (ac_key' rfl rfl) (ag_cons (ac_key' rfl rfl) ag_nil))))) (as_cons (ev_tmp rfl) (ag_agg (ag_cons ac_dv (ag_cons ac_dv (ag_cons ac_dv ag_nil)))) as_nil)) rfl rfl rfl rfl rfl rfl ?_
   refine l_take 5 rfl (by kernel_rfl) rfl rfl (pu_move (.inl rfl) (ev_tmp rfl)) rfl rfl rfl rfl rfl ?_
   refine l_takeX 6 rfl (by kernel_rfl) rfl rfl rfl (pu_extractA rfl (ev_tmp rfl) rfl) rfl rfl ?_
   refine l_takeX 7 rfl (by kernel_rfl) rfl rfl rfl (pu_extract1 rfl (ev_tmp rfl) rfl) rfl rfl ?_
   refine l_chain [8] rfl rfl (by kernel_rfl) ?_
   iterate 6 refine z ?_
   refine ok_weak (weak_swapB (b := 2) (i := 2) (k := 190031) (k' := 90031) rfl rfl rfl rfl (by simp) rfl rfl) ?_
   try simp only [killT, killB, SV.kill, CV.kill, kk, Nat.reduceBEq]
   refine ok_weak (weak_swapB (b := 2) (i := 3) (k := 190900) (k' := 90900) rfl rfl rfl rfl (by simp) rfl rfl) ?_
   try simp only [killT, killB, SV.kill, CV.kill, kk, Nat.reduceBEq]
   refine ok_weak (σ' := ⟨[(2, .box 2 0), (0, .abox 0)], [(2, 27, [(.dv [] (.str ((upA ((ByteArray.mk #[97, 112, 112], (1, ([e8, e10], [])))) ((3, (ByteArray.mk #[110, 111, 116, 101, 115], e28)))).1.1))), (.dv [] (.int .i64 ((upA ((ByteArray.mk #[97, 112, 112], (1, ([e8, e10], [])))) ((3, (ByteArray.mk #[110, 111, 116, 101, 115], e28)))).1.2.1))), (.key 90031), (.key 90900)]), (0, 92, [(.arg 900001 (bytesD (code))), (.dv [] (.int .i64 (i28))), (.dv [] (.int .i64 (h28)))])], [(90031, some (kcOf false (storesD ((upA ((ByteArray.mk #[97, 112, 112], (1, ([e8, e10], [])))) ((3, (ByteArray.mk #[110, 111, 116, 101, 115], e28)))).1.2.2.1)))), (90900, some (kcOf false (defsD ((upA ((ByteArray.mk #[97, 112, 112], (1, ([e8, e10], [])))) ((3, (ByteArray.mk #[110, 111, 116, 101, 115], e28)))).1.2.2.2))))]⟩) (weak_sub ⟨rfl, rfl, trivial⟩ ⟨rfl, rfl, trivial⟩ ⟨rfl, rfl, trivial⟩ rfl) ?_
   refine z ?_
   refine fin1 (res_cell hT rfl rfl rfl rfl) ⟨((((upA ((ByteArray.mk #[97, 112, 112], (1, ([e8, e10], [])))) ((3, (ByteArray.mk #[110, 111, 116, 101, 115], e28)))).1.1), (((upA ((ByteArray.mk #[97, 112, 112], (1, ([e8, e10], [])))) ((3, (ByteArray.mk #[110, 111, 116, 101, 115], e28)))).1.2.1), (((upA ((ByteArray.mk #[97, 112, 112], (1, ([e8, e10], [])))) ((3, (ByteArray.mk #[110, 111, 116, 101, 115], e28)))).1.2.2.1), ((upA ((ByteArray.mk #[97, 112, 112], (1, ([e8, e10], [])))) ((3, (ByteArray.mk #[110, 111, 116, 101, 115], e28)))).1.2.2.2)))), i28, h28), ?_, rfl, rfl, rfl, rfl⟩
   try dsimp only
   exact ⟨upA_keep (base2 hz8.1 hz8.2.1 hz10.1 hz10.2.1), by omega⟩
  ·skip
   iterate 6 refine z ?_
   refine ok_weak (σ' := ⟨[(2, .box 2 0), (0, .abox 0)], [(2, 27, [(.dv [] (.str (ByteArray.mk #[97, 112, 112]))), (.dv [] (.int .i64 (1))), (.key 90031), (.key 90900)]), (0, 92, [(.arg 900001 (bytesD (code))), (.dv [] (.int .i64 (i24))), (.dv [] (.int .i64 (h24)))])], [(90031, some (kcOf false (.sl 37 3 ([e8, e10].length) ([e8, e10].flatMap eStore)))), (90900, some (kcOf false (.sl 72 2 (0) ([]))))]⟩) (weak_sub ⟨rfl, rfl, trivial⟩ ⟨rfl, rfl, trivial⟩ ⟨rfl, rfl, trivial⟩ rfl) ?_
   refine z ?_
   refine fin1 (res_cell hT rfl rfl rfl rfl) ⟨(((ByteArray.mk #[97, 112, 112]), ((1), (([e8, e10]), ([])))), i24, h24), ?_, rfl, rfl, rfl, rfl⟩
   try dsimp only
   exact ⟨base2 hz8.1 hz8.2.1 hz10.1 hz10.2.1, by omega⟩
theorem ok_spec_l8Any {code : List UInt8} {i h : Int} (hc : code.length ≤ 1048576) (hi : 0 ≤ i) : BFn Tryz.prog 25 [] 92 (bytesD (code)) [.dv [] (.int .i64 (i)), .dv [] (.int .i64 (h))] (fun zz : DbT × Int × Int => wDatabase zz.1 ≤ 8000 ∧ 0 ≤ zz.2.1) (fun zz : DbT × Int × Int => .agg [(.dv [] (.str (zz.1.1))), (.dv [] (.int .i64 (zz.1.2.1))), (.key 90031), (.key 90900)]) (fun zz : DbT × Int × Int => [(90031, some (kcOf false (storesD (zz.1.2.2.1)))), (90900, some (kcOf false (defsD (zz.1.2.2.2))))]) (fun zz : DbT × Int × Int => [.dv [] (.int .i64 (zz.2.1)), .dv [] (.int .i64 (zz.2.2))]) := by
 refine ⟨fn_introS Tryz.func25 rfl Tryz.ntmps25 Tryz.results25 rfl (fun C => ?_)⟩
 iterate 4 refine z ?_
 refine yO rfl rfl (pu_move (.inl rfl) (ev_abox (ev_tmp rfl))) rfl ?_
 refine o_callB 0 rfl rfl rfl Tryz.call54 (ok_spec_l8Base (code := code) (i := i) (h := h) (by omega) (by omega)) (ev_tmp rfl) rfl ac_arg rfl (fun _ => rfl) ad_nil rfl (fun _ => rfl) (fun _ => rfl) (fun zz hz5 => ?_)
 obtain ⟨e5, i5, h5⟩ := zz
 replace hz5 : isDb e5 = true ∧ 0 ≤ i5 := hz5
 have hw := isDb_w2 hz5.1
 have hl : wDatabase e5 = e5.1.size + (e5.2.2.1.length + wSum wStore e5.2.2.1) + (e5.2.2.2.length + wSum wIndexDef e5.2.2.2) := rfl
 iterate 5 refine z ?_
 refine yO rfl rfl (pu_move (.inl rfl) (ev_abox (ev_tmp rfl))) rfl ?_
 refine o_callB 7000 rfl rfl rfl Tryz.call26 (ok_spec_l1Below (code := code) (i := i5) (h := h5) (n := 12) (by omega) (by omega) ) (ev_tmp rfl) rfl ac_arg rfl (fun _ => rfl) (ad_cons (ev_int (inR_lit rfl)) (ag_one ac_dv) rfl ad_nil) rfl (fun _ => rfl) (fun _ => rfl) (fun zz hz7 => ?_)
 obtain ⟨e7, i7, h7⟩ := zz
 replace hz7 : 0 ≤ e7 ∧ (0 < (12 : Int) → e7 < (12 : Int)) ∧ 0 ≤ i7 := hz7
 iterate 6 refine z ?_
 refine yQ rfl (fun c1 => ?_) fun c1 => ?_
 ·skip
  have d1 := of_decide_eq_true c1
  refine ok_region ?_
  refine z ?_
  refine o_store hT rfl rfl rfl rfl (ev_tmp rfl) (ev_str (str_lit rfl)) rfl rfl rfl rfl rfl rfl ?_
  refine ops_nil ?_
  iterate 6 refine z ?_
  refine ok_weak (σ' := ⟨[(2, .box 2 0), (0, .abox 0)], [(2, 27, [(.dv [] (.str (ByteArray.mk #[]))), (.dv [] (.int .i64 (e5.2.1))), (.key 90031), (.key 90900)]), (0, 92, [(.arg 900001 (bytesD (code))), (.dv [] (.int .i64 (i7))), (.dv [] (.int .i64 (h7)))])], [(90031, some (kcOf false (storesD (e5.2.2.1)))), (90900, some (kcOf false (defsD (e5.2.2.2))))]⟩) (weak_sub ⟨rfl, rfl, trivial⟩ ⟨rfl, rfl, trivial⟩ ⟨rfl, rfl, trivial⟩ rfl) ?_
  refine z ?_
  refine fin1 (res_cell hT rfl rfl rfl rfl) ⟨(((ByteArray.mk #[]), ((e5.2.1), ((e5.2.2.1), (e5.2.2.2)))), i7, h7), ?_, rfl, rfl, rfl, rfl⟩
  try dsimp only
  exact ⟨by have h2 : wDatabase (ByteArray.mk #[], e5.2.1, e5.2.2.1, e5.2.2.2) = (ByteArray.mk #[]).size + ((e5.2.2.1).length + wSum wStore (e5.2.2.1)) + ((e5.2.2.2).length + wSum wIndexDef (e5.2.2.2)) := rfl; have h3 : ByteArray.empty.size = 0 := rfl; have h4 : (ByteArray.mk #[]).size = 0 := rfl; omega, by omega⟩
 ·skip
  have d1 := of_decide_eq_false c1
  iterate 4 refine z ?_
  refine yQ rfl (fun c2 => ?_) fun c2 => ?_
  ·skip
   have d2 := of_decide_eq_true c2
   refine ok_region ?_
   refine yO rfl rfl (pu_move (.inl rfl) (ev_abox (ev_tmp rfl))) rfl ?_
   refine o_buildN (k := 14) (js := []) hT rfl rfl rfl rfl rfl rfl rfl rfl rfl rfl rfl (ep_cons (ev_int (inR_lit rfl)) rfl rfl rfl (ep_cons (ev_int (inR_lit rfl)) rfl rfl rfl (ep_cons (ev_int (inR_lit rfl)) rfl rfl rfl (ep_cons (ev_int (inR_lit rfl)) rfl rfl rfl (ep_cons (ev_int (inR_lit rfl)) rfl rfl rfl ep_nil))))) (ow_cons' (ow_dv rfl) (ow_cons' (ow_dv rfl) (ow_cons' (ow_dv rfl) (ow_cons' (ow_dv rfl) (ow_cons' (ow_dv rfl) ow_nil rfl) rfl) rfl) rfl) rfl) (by decide) (by decide) rfl rfl ?_
   simp only [killT, killB, SV.kill, CV.kill, kk, Nat.reduceBEq]
   refine o_callB 15000 rfl rfl rfl Tryz.call28 (ok_spec_l1Int (code := code) (i := i7) (h := h7) (l := [-1, 0, 999, 1000, 1001]) (by omega) (by omega) (by exact Nat.succ_pos _)) (ev_tmp rfl) rfl ac_arg rfl (fun _ => rfl) (ad_cons (ev_tmp rfl) (ag_one (ac_key' rfl rfl)) rfl ad_nil) rfl (fun _ => rfl) (fun _ => rfl) (fun zz hz15 => ?_)
   obtain ⟨e15, i15, h15⟩ := zz
   replace hz15 : e15 ∈ ([-1, 0, 999, 1000, 1001]) ∧ 0 ≤ i15 := hz15
   iterate 2 refine z ?_
   refine ops_nil ?_
   iterate 6 refine z ?_
   refine ok_weak (σ' := ⟨[(2, .box 2 0), (0, .abox 0)], [(2, 27, [(.dv [] (.str (e5.1))), (.dv [] (.int .i64 (e15))), (.key 90031), (.key 90900)]), (0, 92, [(.arg 900001 (bytesD (code))), (.dv [] (.int .i64 (i15))), (.dv [] (.int .i64 (h15)))])], [(90031, some (kcOf false (storesD (e5.2.2.1)))), (90900, some (kcOf false (defsD (e5.2.2.2))))]⟩) (weak_sub ⟨rfl, rfl, trivial⟩ ⟨rfl, rfl, trivial⟩ ⟨rfl, rfl, trivial⟩ rfl) ?_
   refine z ?_
   refine fin1 (res_cell hT rfl rfl rfl rfl) ⟨(((e5.1), ((e15), ((e5.2.2.1), (e5.2.2.2)))), i15, h15), ?_, rfl, rfl, rfl, rfl⟩
   try dsimp only
   exact ⟨by have h2 : wDatabase (e5.1, e15, e5.2.2.1, e5.2.2.2) = (e5.1).size + ((e5.2.2.1).length + wSum wStore (e5.2.2.1)) + ((e5.2.2.2).length + wSum wIndexDef (e5.2.2.2)) := rfl; omega, by omega⟩
  ·skip
   have d2 := of_decide_eq_false c2
   iterate 4 refine z ?_
   refine yQ rfl (fun c3 => ?_) fun c3 => ?_
   ·skip
    have d3 := of_decide_eq_true c3
    refine ok_regionL [0] [0, 1, 2, 3, 4] (oB := [2, 3]) (oK := [90031, 90900]) (by kernel_rfl) rfl rfl ?_
    refine l_take 0 rfl (by kernel_rfl) rfl rfl (pu_fieldBox hT rfl rfl rfl (ev_tmp rfl)) rfl rfl rfl rfl rfl ?_
    refine l_take 1 rfl (by kernel_rfl) rfl rfl (pu_loadBox1 hT rfl rfl (ev_tmp rfl) rfl rfl) rfl rfl rfl rfl rfl ?_
    refine l_take 2 rfl (by kernel_rfl) rfl rfl (pu_move (.inl rfl) (ev_abox (ev_tmp rfl))) rfl rfl rfl rfl rfl ?_
    refine l_split 3 [] (by kernel_rfl) ⟨?_, trivial⟩
    refine y_callB 22000 3 rfl rfl rfl rfl rfl Tryz.call55 (ok_spec_l6Any (code := code) (i := i7) (h := h7) (by omega) (by omega)) (ev_tmp rfl) rfl ac_arg rfl (fun _ => rfl) ad_nil rfl (fun _ => rfl) (fun _ => rfl) rfl (fun zz hz22 => ?_)
    obtain ⟨e22, i22, h22⟩ := zz
    replace hz22 : wStore e22 ≤ 1500 ∧ 0 ≤ i22 := hz22
    refine l_split 4 [] (by kernel_rfl) ⟨?_, trivial⟩
    refine y_buildN (k := 23) (js := [31001]) 4 hT rfl rfl rfl rfl rfl rfl rfl rfl rfl rfl rfl rfl (ep_cons (ev_tmp rfl) rfl rfl rfl ep_nil) (ow_cons' (ow_dv rfl) (ow_cons' (ow_key rfl) (ow_cons' (ow_dv rfl) ow_nil rfl) rfl) rfl) (by decide) (by decide) rfl rfl rfl rfl rfl ?_
    simp only [killT, killB, SV.kill, CV.kill, kk, Nat.reduceBEq]
    refine l_chain [5, 6, 7] rfl rfl (by kernel_rfl) ?_
    refine o_appK (k := 90031) (j := 23) (cs := (e5.2.2.1 ++ [e22]).flatMap eStore) (n := (e5.2.2.1 ++ [e22]).length) hT rfl rfl rfl rfl rfl rfl rfl (ev_tmp rfl) rfl rfl rfl (ev_tmp rfl) rfl rfl (by decide) (by dsimp only [kcOf, KC.old, storesD, listD]; omega) (by dsimp only [kcOf, KC.old, storesD, listD]; omega) (by rw [List.length_append]; rfl) (by rw [List.flatMap_append]; rfl) ?_
    simp only [killT, killB, SV.kill, CV.kill, kk, Nat.reduceBEq]
    iterate 2 refine z ?_
    refine ops_nil ?_
    iterate 6 refine z ?_
    refine ok_weak (σ' := ⟨[(2, .box 2 0), (0, .abox 0)], [(2, 27, [(.dv [] (.str (e5.1))), (.dv [] (.int .i64 (e5.2.1))), (.key 90031), (.key 90900)]), (0, 92, [(.arg 900001 (bytesD (code))), (.dv [] (.int .i64 (i22))), (.dv [] (.int .i64 (h22)))])], [(90031, some (kcOf false (.sl 37 3 ((e5.2.2.1 ++ [e22]).length) ((e5.2.2.1 ++ [e22]).flatMap eStore)))), (90900, some (kcOf false (defsD (e5.2.2.2))))]⟩) (weak_sub ⟨rfl, rfl, trivial⟩ ⟨rfl, rfl, trivial⟩ ⟨rfl, rfl, trivial⟩ rfl) ?_
    refine z ?_
    refine fin1 (res_cell hT rfl rfl rfl rfl) ⟨(((e5.1), ((e5.2.1), (((e5.2.2.1 ++ [e22])), (e5.2.2.2)))), i22, h22), ?_, rfl, rfl, rfl, rfl⟩
    try dsimp only
    exact ⟨by have h2 : wDatabase (e5.1, e5.2.1, (e5.2.2.1 ++ [e22]), e5.2.2.2) = (e5.1).size + (((e5.2.2.1 ++ [e22])).length + wSum wStore ((e5.2.2.1 ++ [e22]))) + ((e5.2.2.2).length + wSum wIndexDef (e5.2.2.2)) := rfl; have h3 : wSum wStore [e22] = wStore e22 := (by simp [wSum]); rw [wSum_app, h3, List.length_append, List.length_singleton] at h2; omega, by omega⟩
   ·skip
    have d3 := of_decide_eq_false c3
    iterate 4 refine z ?_
    refine yQ rfl (fun c4 => ?_) fun c4 => ?_
    ·skip
     have d4 := of_decide_eq_true c4
     refine ok_regionL [0] [0, 1, 2, 3, 4, 5, 6, 7, 8, 9] (oB := [2, 3]) (oK := [90031, 90900]) (by kernel_rfl) rfl rfl ?_
     refine l_take 0 rfl (by kernel_rfl) rfl rfl (pu_fieldBox hT rfl rfl rfl (ev_tmp rfl)) rfl rfl rfl rfl rfl ?_
     refine l_take 1 rfl (by kernel_rfl) rfl rfl (pu_loadBox1 hT rfl rfl (ev_tmp rfl) rfl rfl) rfl rfl rfl rfl rfl ?_
     refine l_take 2 rfl (by kernel_rfl) rfl rfl (pu_move (.inl rfl) (ev_abox (ev_tmp rfl))) rfl rfl rfl rfl rfl ?_
     refine l_take 5 rfl (by kernel_rfl) rfl rfl (pu_move (.inl rfl) (ev_abox (ev_tmp rfl))) rfl rfl rfl rfl rfl ?_
     refine l_split 3 [6] (by kernel_rfl) ⟨?_, ?_, trivial⟩
     ·skip
      refine y_buildN (k := 31) (js := []) 3 hT rfl rfl rfl rfl rfl rfl rfl rfl rfl rfl rfl rfl (ep_cons (ev_str (str_lit rfl)) rfl rfl rfl (ep_cons (ev_str (str_lit rfl)) rfl rfl rfl (ep_cons (ev_str (str_lit rfl)) rfl rfl rfl ep_nil))) (ow_cons' (ow_dv rfl) (ow_cons' (ow_dv rfl) (ow_cons' (ow_dv rfl) ow_nil rfl) rfl) rfl) (by decide) (by decide) rfl rfl rfl rfl rfl ?_
      simp only [killT, killB, SV.kill, CV.kill, kk, Nat.reduceBEq]
      refine l_split 4 [6] (by kernel_rfl) ⟨?_, ?_, trivial⟩
      ·skip
       refine y_callB 32000 4 rfl rfl rfl rfl rfl Tryz.call56 (ok_spec_l1Str (code := code) (i := i7) (h := h7) (l := [ByteArray.mk #[110, 111, 116, 101, 115], ByteArray.mk #[122, 122], ByteArray.mk #[116, 97, 103, 115]]) (by omega) (by omega) (by exact Nat.succ_pos _)) (ev_tmp rfl) rfl ac_arg rfl (fun _ => rfl) (ad_cons (ev_tmp rfl) (ag_one (ac_key' rfl rfl)) rfl ad_nil) rfl (fun _ => rfl) (fun _ => rfl) rfl (fun zz hz32 => ?_)
       obtain ⟨e32, i32, h32⟩ := zz
       replace hz32 : e32 ∈ ([ByteArray.mk #[110, 111, 116, 101, 115], ByteArray.mk #[122, 122], ByteArray.mk #[116, 97, 103, 115]]) ∧ 0 ≤ i32 := hz32
       have hs32 := size_of 5 (by decide +kernel) hz32.1
       refine l_split 6 [] (by kernel_rfl) ⟨?_, trivial⟩
       refine y_buildN (k := 34) (js := []) 6 hT rfl rfl rfl rfl rfl rfl rfl rfl rfl rfl rfl rfl (ep_cons (ev_str (str_lit rfl)) rfl rfl rfl (ep_cons (ev_str (str_lit rfl)) rfl rfl rfl (ep_cons (ev_str (str_lit rfl)) rfl rfl rfl ep_nil))) (ow_cons' (ow_dv rfl) (ow_cons' (ow_dv rfl) (ow_cons' (ow_dv rfl) ow_nil rfl) rfl) rfl) (by decide) (by decide) rfl rfl rfl rfl rfl ?_
       simp only [killT, killB, SV.kill, CV.kill, kk, Nat.reduceBEq]
       refine l_split 7 [] (by kernel_rfl) ⟨?_, trivial⟩
       refine y_callB 35000 7 rfl rfl rfl rfl rfl Tryz.call56 (ok_spec_l1Str (code := code) (i := i32) (h := h32) (l := [ByteArray.mk #[97], ByteArray.mk #[98], ByteArray.mk #[81]]) (by omega) (by omega) (by exact Nat.succ_pos _)) (ev_tmp rfl) rfl ac_arg rfl (fun _ => rfl) (ad_cons (ev_tmp rfl) (ag_one (ac_key' rfl rfl)) rfl ad_nil) rfl (fun _ => rfl) (fun _ => rfl) rfl (fun zz hz35 => ?_)
       obtain ⟨e35, i35, h35⟩ := zz
       replace hz35 : e35 ∈ ([ByteArray.mk #[97], ByteArray.mk #[98], ByteArray.mk #[81]]) ∧ 0 ≤ i35 := hz35
       have hs35 := size_of 5 (by decide +kernel) hz35.1
       refine l_take 8 rfl (by kernel_rfl) rfl rfl (pu_build hT hB rfl rfl rfl (bp_cons (ev_tmp rfl) rfl rfl rfl rfl rfl (bp_cons (ev_tmp rfl) rfl rfl rfl rfl rfl bp_nil))) rfl rfl rfl rfl rfl ?_
       refine l_split 9 [] (by kernel_rfl) ⟨?_, trivial⟩
       refine y_buildN (k := 37) (js := []) 9 hT rfl rfl rfl rfl rfl rfl rfl rfl rfl rfl rfl rfl (ep_cons (ev_tmp rfl) rfl rfl rfl ep_nil) (ow_cons' (ow_dv rfl) (ow_cons' (ow_dv rfl) ow_nil rfl) rfl) (by decide) (by decide) rfl rfl rfl rfl rfl ?_
       simp only [killT, killB, SV.kill, CV.kill, kk, Nat.reduceBEq]
       refine l_chain [10, 11, 12] rfl rfl (by kernel_rfl) ?_
       refine o_appK (k := 90900) (j := 37) (cs := (e5.2.2.2 ++ [(e32, e35)]).flatMap eDef) (n := (e5.2.2.2 ++ [(e32, e35)]).length) hT rfl rfl rfl rfl rfl rfl rfl (ev_tmp rfl) rfl rfl rfl (ev_tmp rfl) rfl rfl (by decide) (by dsimp only [kcOf, KC.old, defsD, listD]; omega) (by dsimp only [kcOf, KC.old, defsD, listD]; omega) (by rw [List.length_append]; rfl) (by rw [List.flatMap_append]; rfl) ?_
       simp only [killT, killB, SV.kill, CV.kill, kk, Nat.reduceBEq]
       iterate 2 refine z ?_
       refine ops_nil ?_
       iterate 6 refine z ?_
       refine ok_weak (σ' := ⟨[(2, .box 2 0), (0, .abox 0)], [(2, 27, [(.dv [] (.str (e5.1))), (.dv [] (.int .i64 (e5.2.1))), (.key 90031), (.key 90900)]), (0, 92, [(.arg 900001 (bytesD (code))), (.dv [] (.int .i64 (i35))), (.dv [] (.int .i64 (h35)))])], [(90031, some (kcOf false (storesD (e5.2.2.1)))), (90900, some (kcOf false (.sl 72 2 ((e5.2.2.2 ++ [(e32, e35)]).length) ((e5.2.2.2 ++ [(e32, e35)]).flatMap eDef))))]⟩) (weak_sub ⟨rfl, rfl, trivial⟩ ⟨rfl, rfl, trivial⟩ ⟨rfl, rfl, trivial⟩ rfl) ?_
       refine z ?_
       refine fin1 (res_cell hT rfl rfl rfl rfl) ⟨(((e5.1), ((e5.2.1), ((e5.2.2.1), ((e5.2.2.2 ++ [(e32, e35)]))))), i35, h35), ?_, rfl, rfl, rfl, rfl⟩
       try dsimp only
       exact ⟨by have h2 : wDatabase (e5.1, e5.2.1, e5.2.2.1, (e5.2.2.2 ++ [(e32, e35)])) = (e5.1).size + ((e5.2.2.1).length + wSum wStore (e5.2.2.1)) + (((e5.2.2.2 ++ [(e32, e35)])).length + wSum wIndexDef ((e5.2.2.2 ++ [(e32, e35)]))) := rfl; have h3 : wSum wIndexDef [(e32, e35)] = e32.size + e35.size := (by simp [wSum, wIndexDef]); rw [wSum_app, h3, List.length_append, List.length_singleton] at h2; omega, by omega⟩
      ·skip
       refine y_buildN (k := 34) (js := []) 6 hT rfl rfl rfl rfl rfl rfl rfl rfl rfl rfl rfl rfl (ep_cons (ev_str (str_lit rfl)) rfl rfl rfl (ep_cons (ev_str (str_lit rfl)) rfl rfl rfl (ep_cons (ev_str (str_lit rfl)) rfl rfl rfl ep_nil))) (ow_cons' (ow_dv rfl) (ow_cons' (ow_dv rfl) (ow_cons' (ow_dv rfl) ow_nil rfl) rfl) rfl) (by decide) (by decide) rfl rfl rfl rfl rfl ?_
       simp only [killT, killB, SV.kill, CV.kill, kk, Nat.reduceBEq]
       refine l_split 4 [] (by kernel_rfl) ⟨?_, trivial⟩
       refine y_callB 32000 4 rfl rfl rfl rfl rfl Tryz.call56 (ok_spec_l1Str (code := code) (i := i7) (h := h7) (l := [ByteArray.mk #[110, 111, 116, 101, 115], ByteArray.mk #[122, 122], ByteArray.mk #[116, 97, 103, 115]]) (by omega) (by omega) (by exact Nat.succ_pos _)) (ev_tmp rfl) rfl ac_arg rfl (fun _ => rfl) (ad_cons (ev_tmp rfl) (ag_one (ac_key' rfl rfl)) rfl ad_nil) rfl (fun _ => rfl) (fun _ => rfl) rfl (fun zz hz32 => ?_)
       obtain ⟨e32, i32, h32⟩ := zz
       replace hz32 : e32 ∈ ([ByteArray.mk #[110, 111, 116, 101, 115], ByteArray.mk #[122, 122], ByteArray.mk #[116, 97, 103, 115]]) ∧ 0 ≤ i32 := hz32
       have hs32 := size_of 5 (by decide +kernel) hz32.1
       refine l_split 7 [] (by kernel_rfl) ⟨?_, trivial⟩
       refine y_callB 35000 7 rfl rfl rfl rfl rfl Tryz.call56 (ok_spec_l1Str (code := code) (i := i32) (h := h32) (l := [ByteArray.mk #[97], ByteArray.mk #[98], ByteArray.mk #[81]]) (by omega) (by omega) (by exact Nat.succ_pos _)) (ev_tmp rfl) rfl ac_arg rfl (fun _ => rfl) (ad_cons (ev_tmp rfl) (ag_one (ac_key' rfl rfl)) rfl ad_nil) rfl (fun _ => rfl) (fun _ => rfl) rfl (fun zz hz35 => ?_)
       obtain ⟨e35, i35, h35⟩ := zz
       replace hz35 : e35 ∈ ([ByteArray.mk #[97], ByteArray.mk #[98], ByteArray.mk #[81]]) ∧ 0 ≤ i35 := hz35
       have hs35 := size_of 5 (by decide +kernel) hz35.1
       refine l_take 8 rfl (by kernel_rfl) rfl rfl (pu_build hT hB rfl rfl rfl (bp_cons (ev_tmp rfl) rfl rfl rfl rfl rfl (bp_cons (ev_tmp rfl) rfl rfl rfl rfl rfl bp_nil))) rfl rfl rfl rfl rfl ?_
       refine l_split 9 [] (by kernel_rfl) ⟨?_, trivial⟩
       refine y_buildN (k := 37) (js := []) 9 hT rfl rfl rfl rfl rfl rfl rfl rfl rfl rfl rfl rfl (ep_cons (ev_tmp rfl) rfl rfl rfl ep_nil) (ow_cons' (ow_dv rfl) (ow_cons' (ow_dv rfl) ow_nil rfl) rfl) (by decide) (by decide) rfl rfl rfl rfl rfl ?_
       simp only [killT, killB, SV.kill, CV.kill, kk, Nat.reduceBEq]
       refine l_chain [10, 11, 12] rfl rfl (by kernel_rfl) ?_
       refine o_appK (k := 90900) (j := 37) (cs := (e5.2.2.2 ++ [(e32, e35)]).flatMap eDef) (n := (e5.2.2.2 ++ [(e32, e35)]).length) hT rfl rfl rfl rfl rfl rfl rfl (ev_tmp rfl) rfl rfl rfl (ev_tmp rfl) rfl rfl (by decide) (by dsimp only [kcOf, KC.old, defsD, listD]; omega) (by dsimp only [kcOf, KC.old, defsD, listD]; omega) (by rw [List.length_append]; rfl) (by rw [List.flatMap_append]; rfl) ?_
       simp only [killT, killB, SV.kill, CV.kill, kk, Nat.reduceBEq]
       iterate 2 refine z ?_
       refine ops_nil ?_
       iterate 6 refine z ?_
       refine ok_weak (σ' := ⟨[(2, .box 2 0), (0, .abox 0)], [(2, 27, [(.dv [] (.str (e5.1))), (.dv [] (.int .i64 (e5.2.1))), (.key 90031), (.key 90900)]), (0, 92, [(.arg 900001 (bytesD (code))), (.dv [] (.int .i64 (i35))), (.dv [] (.int .i64 (h35)))])], [(90031, some (kcOf false (storesD (e5.2.2.1)))), (90900, some (kcOf false (.sl 72 2 ((e5.2.2.2 ++ [(e32, e35)]).length) ((e5.2.2.2 ++ [(e32, e35)]).flatMap eDef))))]⟩) (weak_sub ⟨rfl, rfl, trivial⟩ ⟨rfl, rfl, trivial⟩ ⟨rfl, rfl, trivial⟩ rfl) ?_
       refine z ?_
       refine fin1 (res_cell hT rfl rfl rfl rfl) ⟨(((e5.1), ((e5.2.1), ((e5.2.2.1), ((e5.2.2.2 ++ [(e32, e35)]))))), i35, h35), ?_, rfl, rfl, rfl, rfl⟩
       try dsimp only
       exact ⟨by have h2 : wDatabase (e5.1, e5.2.1, e5.2.2.1, (e5.2.2.2 ++ [(e32, e35)])) = (e5.1).size + ((e5.2.2.1).length + wSum wStore (e5.2.2.1)) + (((e5.2.2.2 ++ [(e32, e35)])).length + wSum wIndexDef ((e5.2.2.2 ++ [(e32, e35)]))) := rfl; have h3 : wSum wIndexDef [(e32, e35)] = e32.size + e35.size := (by simp [wSum, wIndexDef]); rw [wSum_app, h3, List.length_append, List.length_singleton] at h2; omega, by omega⟩
     ·skip
      refine y_buildN (k := 34) (js := []) 6 hT rfl rfl rfl rfl rfl rfl rfl rfl rfl rfl rfl rfl (ep_cons (ev_str (str_lit rfl)) rfl rfl rfl (ep_cons (ev_str (str_lit rfl)) rfl rfl rfl (ep_cons (ev_str (str_lit rfl)) rfl rfl rfl ep_nil))) (ow_cons' (ow_dv rfl) (ow_cons' (ow_dv rfl) (ow_cons' (ow_dv rfl) ow_nil rfl) rfl) rfl) (by decide) (by decide) rfl rfl rfl rfl rfl ?_
      simp only [killT, killB, SV.kill, CV.kill, kk, Nat.reduceBEq]
      refine l_split 3 [] (by kernel_rfl) ⟨?_, trivial⟩
      refine y_buildN (k := 31) (js := []) 3 hT rfl rfl rfl rfl rfl rfl rfl rfl rfl rfl rfl rfl (ep_cons (ev_str (str_lit rfl)) rfl rfl rfl (ep_cons (ev_str (str_lit rfl)) rfl rfl rfl (ep_cons (ev_str (str_lit rfl)) rfl rfl rfl ep_nil))) (ow_cons' (ow_dv rfl) (ow_cons' (ow_dv rfl) (ow_cons' (ow_dv rfl) ow_nil rfl) rfl) rfl) (by decide) (by decide) rfl rfl rfl rfl rfl ?_
      simp only [killT, killB, SV.kill, CV.kill, kk, Nat.reduceBEq]
      refine l_split 4 [] (by kernel_rfl) ⟨?_, trivial⟩
      refine y_callB 32000 4 rfl rfl rfl rfl rfl Tryz.call56 (ok_spec_l1Str (code := code) (i := i7) (h := h7) (l := [ByteArray.mk #[110, 111, 116, 101, 115], ByteArray.mk #[122, 122], ByteArray.mk #[116, 97, 103, 115]]) (by omega) (by omega) (by exact Nat.succ_pos _)) (ev_tmp rfl) rfl ac_arg rfl (fun _ => rfl) (ad_cons (ev_tmp rfl) (ag_one (ac_key' rfl rfl)) rfl ad_nil) rfl (fun _ => rfl) (fun _ => rfl) rfl (fun zz hz32 => ?_)
      obtain ⟨e32, i32, h32⟩ := zz
      replace hz32 : e32 ∈ ([ByteArray.mk #[110, 111, 116, 101, 115], ByteArray.mk #[122, 122], ByteArray.mk #[116, 97, 103, 115]]) ∧ 0 ≤ i32 := hz32
      have hs32 := size_of 5 (by decide +kernel) hz32.1
      refine l_split 7 [] (by kernel_rfl) ⟨?_, trivial⟩
      refine y_callB 35000 7 rfl rfl rfl rfl rfl Tryz.call56 (ok_spec_l1Str (code := code) (i := i32) (h := h32) (l := [ByteArray.mk #[97], ByteArray.mk #[98], ByteArray.mk #[81]]) (by omega) (by omega) (by exact Nat.succ_pos _)) (ev_tmp rfl) rfl ac_arg rfl (fun _ => rfl) (ad_cons (ev_tmp rfl) (ag_one (ac_key' rfl rfl)) rfl ad_nil) rfl (fun _ => rfl) (fun _ => rfl) rfl (fun zz hz35 => ?_)
      obtain ⟨e35, i35, h35⟩ := zz
      replace hz35 : e35 ∈ ([ByteArray.mk #[97], ByteArray.mk #[98], ByteArray.mk #[81]]) ∧ 0 ≤ i35 := hz35
      have hs35 := size_of 5 (by decide +kernel) hz35.1
      refine l_take 8 rfl (by kernel_rfl) rfl rfl (pu_build hT hB rfl rfl rfl (bp_cons (ev_tmp rfl) rfl rfl rfl rfl rfl (bp_cons (ev_tmp rfl) rfl rfl rfl rfl rfl bp_nil))) rfl rfl rfl rfl rfl ?_
      refine l_split 9 [] (by kernel_rfl) ⟨?_, trivial⟩
      refine y_buildN (k := 37) (js := []) 9 hT rfl rfl rfl rfl rfl rfl rfl rfl rfl rfl rfl rfl (ep_cons (ev_tmp rfl) rfl rfl rfl ep_nil) (ow_cons' (ow_dv rfl) (ow_cons' (ow_dv rfl) ow_nil rfl) rfl) (by decide) (by decide) rfl rfl rfl rfl rfl ?_
      simp only [killT, killB, SV.kill, CV.kill, kk, Nat.reduceBEq]
      refine l_chain [10, 11, 12] rfl rfl (by kernel_rfl) ?_
      refine o_appK (k := 90900) (j := 37) (cs := (e5.2.2.2 ++ [(e32, e35)]).flatMap eDef) (n := (e5.2.2.2 ++ [(e32, e35)]).length) hT rfl rfl rfl rfl rfl rfl rfl (ev_tmp rfl) rfl rfl rfl (ev_tmp rfl) rfl rfl (by decide) (by dsimp only [kcOf, KC.old, defsD, listD]; omega) (by dsimp only [kcOf, KC.old, defsD, listD]; omega) (by rw [List.length_append]; rfl) (by rw [List.flatMap_append]; rfl) ?_
      simp only [killT, killB, SV.kill, CV.kill, kk, Nat.reduceBEq]
      iterate 2 refine z ?_
      refine ops_nil ?_
      iterate 6 refine z ?_
      refine ok_weak (σ' := ⟨[(2, .box 2 0), (0, .abox 0)], [(2, 27, [(.dv [] (.str (e5.1))), (.dv [] (.int .i64 (e5.2.1))), (.key 90031), (.key 90900)]), (0, 92, [(.arg 900001 (bytesD (code))), (.dv [] (.int .i64 (i35))), (.dv [] (.int .i64 (h35)))])], [(90031, some (kcOf false (storesD (e5.2.2.1)))), (90900, some (kcOf false (.sl 72 2 ((e5.2.2.2 ++ [(e32, e35)]).length) ((e5.2.2.2 ++ [(e32, e35)]).flatMap eDef))))]⟩) (weak_sub ⟨rfl, rfl, trivial⟩ ⟨rfl, rfl, trivial⟩ ⟨rfl, rfl, trivial⟩ rfl) ?_
      refine z ?_
      refine fin1 (res_cell hT rfl rfl rfl rfl) ⟨(((e5.1), ((e5.2.1), ((e5.2.2.1), ((e5.2.2.2 ++ [(e32, e35)]))))), i35, h35), ?_, rfl, rfl, rfl, rfl⟩
      try dsimp only
      exact ⟨by have h2 : wDatabase (e5.1, e5.2.1, e5.2.2.1, (e5.2.2.2 ++ [(e32, e35)])) = (e5.1).size + ((e5.2.2.1).length + wSum wStore (e5.2.2.1)) + (((e5.2.2.2 ++ [(e32, e35)])).length + wSum wIndexDef ((e5.2.2.2 ++ [(e32, e35)]))) := rfl; have h3 : wSum wIndexDef [(e32, e35)] = e32.size + e35.size := (by simp [wSum, wIndexDef]); rw [wSum_app, h3, List.length_append, List.length_singleton] at h2; omega, by omega⟩
    ·skip
     have d4 := of_decide_eq_false c4
     iterate 7 refine z ?_
     refine ok_weak (σ' := ⟨[(2, .box 2 0), (0, .abox 0)], [(2, 27, [(.dv [] (.str (e5.1))), (.dv [] (.int .i64 (e5.2.1))), (.key 90031), (.key 90900)]), (0, 92, [(.arg 900001 (bytesD (code))), (.dv [] (.int .i64 (i7))), (.dv [] (.int .i64 (h7)))])], [(90031, some (kcOf false (storesD (e5.2.2.1)))), (90900, some (kcOf false (defsD (e5.2.2.2))))]⟩) (weak_sub ⟨rfl, rfl, trivial⟩ ⟨rfl, rfl, trivial⟩ ⟨rfl, rfl, trivial⟩ rfl) ?_
     refine z ?_
     refine fin1 (res_cell hT rfl rfl rfl rfl) ⟨(((e5.1), ((e5.2.1), ((e5.2.2.1), (e5.2.2.2)))), i7, h7), ?_, rfl, rfl, rfl, rfl⟩
     try dsimp only
     exact ⟨by have h2 : wDatabase (e5.1, e5.2.1, e5.2.2.1, e5.2.2.2) = wDatabase e5 := rfl; omega, by omega⟩
theorem ok_spec_l8Step {code : List UInt8} {i h : Int} (hc : code.length ≤ 1048576) (hi : 0 ≤ i) : BFn Tryz.prog 27 [] 92 (bytesD (code)) [.dv [] (.int .i64 (i)), .dv [] (.int .i64 (h))] (fun zz : UpgT × Int × Int => 0 ≤ zz.2.1) (fun zz : UpgT × Int × Int => .agg [(.dv [] (.int .i64 (zz.1.1))), (.dv [] (.str (zz.1.2.1))), (.dv [] (.str (zz.1.2.2)))]) (fun zz : UpgT × Int × Int => []) (fun zz : UpgT × Int × Int => [.dv [] (.int .i64 (zz.2.1)), .dv [] (.int .i64 (zz.2.2))]) := by
 refine ⟨fn_introS Tryz.func27 rfl Tryz.ntmps27 Tryz.results27 rfl (fun C => ?_)⟩
 iterate 4 refine z ?_
 refine yO rfl rfl (pu_move (.inl rfl) (ev_abox (ev_tmp rfl))) rfl ?_
 refine o_callB 4000 rfl rfl rfl Tryz.call26 (ok_spec_l1Below (code := code) (i := i) (h := h) (n := 4) (by omega) (by omega) ) (ev_tmp rfl) rfl ac_arg rfl (fun _ => rfl) (ad_cons (ev_int (inR_lit rfl)) (ag_one ac_dv) rfl ad_nil) rfl (fun _ => rfl) (fun _ => rfl) (fun zz hz4 => ?_)
 obtain ⟨e4, i4, h4⟩ := zz
 replace hz4 : 0 ≤ e4 ∧ (0 < (4 : Int) → e4 < (4 : Int)) ∧ 0 ≤ i4 := hz4
 refine z ?_
 refine yO rfl rfl (pu_move (.inl rfl) (ev_abox (ev_tmp rfl))) rfl ?_
 refine o_buildN (k := 7) (js := []) hT rfl rfl rfl rfl rfl rfl rfl rfl rfl rfl rfl (ep_cons (ev_str (str_lit rfl)) rfl rfl rfl (ep_cons (ev_str (str_lit rfl)) rfl rfl rfl (ep_cons (ev_str (str_lit rfl)) rfl rfl rfl (ep_cons (ev_str (str_lit rfl)) rfl rfl rfl (ep_cons (ev_str (str_lit rfl)) rfl rfl rfl ep_nil))))) (ow_cons' (ow_dv rfl) (ow_cons' (ow_dv rfl) (ow_cons' (ow_dv rfl) (ow_cons' (ow_dv rfl) (ow_cons' (ow_dv rfl) ow_nil rfl) rfl) rfl) rfl) rfl) (by decide) (by decide) rfl rfl ?_
 simp only [killT, killB, SV.kill, CV.kill, kk, Nat.reduceBEq]
 refine o_callB 8000 rfl rfl rfl Tryz.call56 (ok_spec_l1Str (code := code) (i := i4) (h := h4) (l := [ByteArray.mk #[110, 111, 116, 101, 115], ByteArray.mk #[116, 97, 103, 115], ByteArray.mk #[108, 105, 115, 116, 115], ByteArray.mk #[109, 111, 114, 101], ByteArray.mk #[122, 111, 111]]) (by omega) (by omega) (by exact Nat.succ_pos _)) (ev_tmp rfl) rfl ac_arg rfl (fun _ => rfl) (ad_cons (ev_tmp rfl) (ag_one (ac_key' rfl rfl)) rfl ad_nil) rfl (fun _ => rfl) (fun _ => rfl) (fun zz hz8 => ?_)
 obtain ⟨e8, i8, h8⟩ := zz
 replace hz8 : e8 ∈ ([ByteArray.mk #[110, 111, 116, 101, 115], ByteArray.mk #[116, 97, 103, 115], ByteArray.mk #[108, 105, 115, 116, 115], ByteArray.mk #[109, 111, 114, 101], ByteArray.mk #[122, 111, 111]]) ∧ 0 ≤ i8 := hz8
 refine yO rfl rfl (pu_move (.inl rfl) (ev_abox (ev_tmp rfl))) rfl ?_
 refine o_callB 10000 rfl rfl rfl Tryz.call58 (ok_spec_l5Name (code := code) (i := i8) (h := h8) (by omega) (by omega)) (ev_tmp rfl) rfl ac_arg rfl (fun _ => rfl) ad_nil rfl (fun _ => rfl) (fun _ => rfl) (fun zz hz10 => ?_)
 obtain ⟨e10, i10, h10⟩ := zz
 replace hz10 : isName e10 = true ∧ 0 ≤ i10 := hz10
 refine yO rfl rfl (pu_build hT hB rfl rfl rfl (bp_cons (ev_tmp rfl) rfl rfl rfl rfl rfl (bp_cons (ev_tmp rfl) rfl rfl rfl rfl rfl (bp_cons (ev_tmp rfl) rfl rfl rfl rfl rfl bp_nil)))) rfl ?_
 iterate 2 refine z ?_
 refine ok_weak (σ' := ⟨[(2, .box 2 0), (0, .abox 0)], [(2, 39, [(.dv [] (.int .i64 ((1) + (e4)))), (.dv [] (.str (e8))), (.dv [] (.str (e10)))]), (0, 92, [(.arg 900001 (bytesD (code))), (.dv [] (.int .i64 (i10))), (.dv [] (.int .i64 (h10)))])], []⟩) (weak_sub ⟨rfl, rfl, trivial⟩ ⟨rfl, rfl, trivial⟩ trivial rfl) ?_
 refine z ?_
 refine fin1 (res_cell hT rfl rfl rfl rfl) ⟨((((1) + (e4)), ((e8), (e10))), i10, h10), ?_, rfl, rfl, rfl, rfl⟩
 try dsimp only
 omega
theorem ok_spec_DrawApplyUpgrade {code : List UInt8} (hc : code.length ≤ 1048576) : EFn Tryz.prog 14 [.one (.dv [] (bytesD (code)))] (fun zz : DbT × UpgT => wDatabase zz.1 ≤ 8000) (fun zz : DbT × UpgT => .tup [(true, [(.dv [] (.str (zz.1.1))), (.dv [] (.int .i64 (zz.1.2.1))), (.key 90031), (.key 90900)]), (true, [(.dv [] (.int .i64 (zz.2.1))), (.dv [] (.str (zz.2.2.1))), (.dv [] (.str (zz.2.2.2)))])]) (fun zz : DbT × UpgT => [(90031, some (kcOf false (storesD (zz.1.2.2.1)))), (90900, some (kcOf false (defsD (zz.1.2.2.2))))]) := by
 refine ⟨fn_intro Tryz.func14 rfl Tryz.ntmps14 Tryz.results14 rfl (fun C => ?_)⟩
 refine ok_fact (x := .tmp 0) (ev_tmp rfl) fun f0 => ?_
 iterate 6 refine z ?_
 refine o_callP rfl rfl rfl Tryz.call24 (ok_spec_l1New (code := code) (by omega)) (ev_tmp rfl) ac_dv rfl (fun _ => rfl) rfl rfl (fun zz hz8 => ?_)
 obtain ⟨i8, h8⟩ := zz
 replace hz8 : 0 ≤ i8 := hz8
 iterate 4 refine z ?_
 refine o_callB 0 rfl rfl rfl Tryz.call25 (ok_spec_l8Any (code := code) (i := i8) (h := h8) (by omega) (by omega)) (ev_tmp rfl) rfl ac_dv rfl (fun _ => rfl) ad_nil rfl (fun _ => rfl) (fun _ => rfl) (fun zz hz10 => ?_)
 obtain ⟨e10, i10, h10⟩ := zz
 replace hz10 : wDatabase e10 ≤ 8000 ∧ 0 ≤ i10 := hz10
 iterate 5 refine z ?_
 refine o_callB 12000 rfl rfl rfl Tryz.call27 (ok_spec_l8Step (code := code) (i := i10) (h := h10) (by omega) (by omega)) (ev_tmp rfl) rfl ac_dv rfl (fun _ => rfl) ad_nil rfl (fun _ => rfl) (fun _ => rfl) (fun zz hz12 => ?_)
 obtain ⟨e12, i12, h12⟩ := zz
 replace hz12 : 0 ≤ i12 := hz12
 iterate 6 refine z ?_
 refine o_callB 14000 rfl rfl rfl Tryz.call43 (ok_spec_l1Once (code := code) (i := i12) (h := h12) (n := 8) (by omega) (by omega) ) (ev_tmp rfl) rfl ac_dv rfl (fun _ => rfl) (ad_cons (ev_int (inR_lit rfl)) (ag_one ac_dv) rfl ad_nil) rfl (fun _ => rfl) (fun _ => rfl) (fun zz hz14 => ?_)
 obtain ⟨e14, i14, h14⟩ := zz
 replace hz14 : 0 ≤ i14 := hz14
 refine z ?_
 refine yQ rfl (fun c1 => ?_) fun c1 => ?_
 ·skip
  refine ok_region ?_
  refine z ?_
  refine o_buildN (k := 16) (js := []) hT rfl rfl rfl rfl rfl rfl rfl rfl rfl rfl rfl (ep_cons (ev_int (inR_lit rfl)) rfl rfl rfl (ep_cons (ev_int (inR_lit rfl)) rfl rfl rfl ep_nil)) (ow_cons' (ow_dv rfl) (ow_cons' (ow_dv rfl) ow_nil rfl) rfl) (by decide) (by decide) rfl rfl ?_
  simp only [killT, killB, SV.kill, CV.kill, kk, Nat.reduceBEq]
  refine o_callB 17000 rfl rfl rfl Tryz.call28 (ok_spec_l1Int (code := code) (i := i14) (h := h14) (l := [0, 5]) (by omega) (by omega) (by exact Nat.succ_pos _)) (ev_tmp rfl) rfl ac_dv rfl (fun _ => rfl) (ad_cons (ev_tmp rfl) (ag_one (ac_key' rfl rfl)) rfl ad_nil) rfl (fun _ => rfl) (fun _ => rfl) (fun zz hz17 => ?_)
  obtain ⟨e17, i17, h17⟩ := zz
  replace hz17 : e17 ∈ ([0, 5]) ∧ 0 ≤ i17 := hz17
  iterate 6 refine z ?_
  refine o_callB 20000 rfl rfl rfl Tryz.call43 (ok_spec_l1Once (code := code) (i := i17) (h := h17) (n := 10) (by omega) (by omega) ) (ev_tmp rfl) rfl ac_dv rfl (fun _ => rfl) (ad_cons (ev_int (inR_lit rfl)) (ag_one ac_dv) rfl ad_nil) rfl (fun _ => rfl) (fun _ => rfl) (fun zz hz20 => ?_)
  obtain ⟨e20, i20, h20⟩ := zz
  replace hz20 : 0 ≤ i20 := hz20
  refine z ?_
  refine yQ rfl (fun c2 => ?_) fun c2 => ?_
  ·skip
   refine ok_region ?_
   refine z ?_
   refine o_store hT rfl rfl rfl rfl (ev_tmp rfl) (ev_str (str_lit rfl)) rfl rfl rfl rfl rfl rfl ?_
   refine z ?_
   refine ok_seq ?_
   refine ok_regionW 2 (oB := [3, 5, 6, 8]) (oK := [16, 90031, 90900]) (by kernel_rfl) rfl rfl ?_
   refine w_take 0 rfl (by kernel_rfl) rfl rfl (pu_loadBoxA hT rfl rfl (ev_tmp rfl) rfl rfl) rfl rfl rfl rfl rfl ?_
   refine w_take 1 rfl (by kernel_rfl) rfl rfl (pu_loadBoxA hT rfl rfl (ev_tmp rfl) rfl rfl) rfl rfl rfl rfl rfl ?_
   refine w_store 2 rfl (by kernel_rfl) rfl hT rfl rfl rfl (ev_tmp rfl) (ev_tmp rfl) rfl rfl rfl rfl rfl rfl ?_
   refine w_chain [3] rfl rfl (by kernel_rfl) ?_
   iterate 2 refine z ?_
   refine ok_weak (σ' := ⟨[(2, .box 2 0), (3, .box 3 0)], [(2, 27, [(.dv [] (.str (e10.1))), (.dv [] (.int .i64 (e10.2.1))), (.key 90031), (.key 90900)]), (3, 39, [(.dv [] (.int .i64 (e17))), (.dv [] (.str (ByteArray.mk #[81]))), (.dv [] (.str (e12.2.2)))])], [(90031, some (kcOf false (storesD (e10.2.2.1)))), (90900, some (kcOf false (defsD (e10.2.2.2))))]⟩) (weak_sub ⟨rfl, rfl, trivial⟩ ⟨rfl, rfl, trivial⟩ ⟨rfl, rfl, trivial⟩ rfl) ?_
   refine z ?_
   refine fin2 (res_cell hT rfl rfl rfl rfl) (res_cell hT rfl rfl rfl rfl) rfl rfl ⟨(((e10.1), ((e10.2.1), ((e10.2.2.1), (e10.2.2.2)))), ((e17), ((ByteArray.mk #[81]), (e12.2.2)))), ?_, rfl, rfl⟩
   try dsimp only
   exact hz10.1
  ·skip
   iterate 2 refine z ?_
   refine ok_seq ?_
   refine ok_regionW 2 (oB := [3, 5, 6, 8]) (oK := [16, 90031, 90900]) (by kernel_rfl) rfl rfl ?_
   refine w_take 0 rfl (by kernel_rfl) rfl rfl (pu_loadBoxA hT rfl rfl (ev_tmp rfl) rfl rfl) rfl rfl rfl rfl rfl ?_
   refine w_take 1 rfl (by kernel_rfl) rfl rfl (pu_loadBoxA hT rfl rfl (ev_tmp rfl) rfl rfl) rfl rfl rfl rfl rfl ?_
   refine w_store 2 rfl (by kernel_rfl) rfl hT rfl rfl rfl (ev_tmp rfl) (ev_tmp rfl) rfl rfl rfl rfl rfl rfl ?_
   refine w_chain [3] rfl rfl (by kernel_rfl) ?_
   iterate 2 refine z ?_
   refine ok_weak (σ' := ⟨[(2, .box 2 0), (3, .box 3 0)], [(2, 27, [(.dv [] (.str (e10.1))), (.dv [] (.int .i64 (e10.2.1))), (.key 90031), (.key 90900)]), (3, 39, [(.dv [] (.int .i64 (e17))), (.dv [] (.str (e12.2.1))), (.dv [] (.str (e12.2.2)))])], [(90031, some (kcOf false (storesD (e10.2.2.1)))), (90900, some (kcOf false (defsD (e10.2.2.2))))]⟩) (weak_sub ⟨rfl, rfl, trivial⟩ ⟨rfl, rfl, trivial⟩ ⟨rfl, rfl, trivial⟩ rfl) ?_
   refine z ?_
   refine fin2 (res_cell hT rfl rfl rfl rfl) (res_cell hT rfl rfl rfl rfl) rfl rfl ⟨(((e10.1), ((e10.2.1), ((e10.2.2.1), (e10.2.2.2)))), ((e17), ((e12.2.1), (e12.2.2)))), ?_, rfl, rfl⟩
   try dsimp only
   exact hz10.1
 ·skip
  iterate 5 refine z ?_
  refine o_callB 20000 rfl rfl rfl Tryz.call43 (ok_spec_l1Once (code := code) (i := i14) (h := h14) (n := 10) (by omega) (by omega) ) (ev_tmp rfl) rfl ac_dv rfl (fun _ => rfl) (ad_cons (ev_int (inR_lit rfl)) (ag_one ac_dv) rfl ad_nil) rfl (fun _ => rfl) (fun _ => rfl) (fun zz hz20 => ?_)
  obtain ⟨e20, i20, h20⟩ := zz
  replace hz20 : 0 ≤ i20 := hz20
  refine z ?_
  refine yQ rfl (fun c3 => ?_) fun c3 => ?_
  ·skip
   refine ok_region ?_
   refine z ?_
   refine o_store hT rfl rfl rfl rfl (ev_tmp rfl) (ev_str (str_lit rfl)) rfl rfl rfl rfl rfl rfl ?_
   refine z ?_
   refine ok_seq ?_
   refine ok_regionW 2 (oB := [3, 5, 6, 8]) (oK := [90031, 90900]) (by kernel_rfl) rfl rfl ?_
   refine w_take 0 rfl (by kernel_rfl) rfl rfl (pu_loadBoxA hT rfl rfl (ev_tmp rfl) rfl rfl) rfl rfl rfl rfl rfl ?_
   refine w_take 1 rfl (by kernel_rfl) rfl rfl (pu_loadBoxA hT rfl rfl (ev_tmp rfl) rfl rfl) rfl rfl rfl rfl rfl ?_
   refine w_store 2 rfl (by kernel_rfl) rfl hT rfl rfl rfl (ev_tmp rfl) (ev_tmp rfl) rfl rfl rfl rfl rfl rfl ?_
   refine w_chain [3] rfl rfl (by kernel_rfl) ?_
   iterate 2 refine z ?_
   refine ok_weak (σ' := ⟨[(2, .box 2 0), (3, .box 3 0)], [(2, 27, [(.dv [] (.str (e10.1))), (.dv [] (.int .i64 (e10.2.1))), (.key 90031), (.key 90900)]), (3, 39, [(.dv [] (.int .i64 (e12.1))), (.dv [] (.str (ByteArray.mk #[81]))), (.dv [] (.str (e12.2.2)))])], [(90031, some (kcOf false (storesD (e10.2.2.1)))), (90900, some (kcOf false (defsD (e10.2.2.2))))]⟩) (weak_sub ⟨rfl, rfl, trivial⟩ ⟨rfl, rfl, trivial⟩ ⟨rfl, rfl, trivial⟩ rfl) ?_
   refine z ?_
   refine fin2 (res_cell hT rfl rfl rfl rfl) (res_cell hT rfl rfl rfl rfl) rfl rfl ⟨(((e10.1), ((e10.2.1), ((e10.2.2.1), (e10.2.2.2)))), ((e12.1), ((ByteArray.mk #[81]), (e12.2.2)))), ?_, rfl, rfl⟩
   try dsimp only
   exact hz10.1
  ·skip
   iterate 2 refine z ?_
   refine ok_seq ?_
   refine ok_regionW 2 (oB := [3, 5, 6, 8]) (oK := [90031, 90900]) (by kernel_rfl) rfl rfl ?_
   refine w_take 0 rfl (by kernel_rfl) rfl rfl (pu_loadBoxA hT rfl rfl (ev_tmp rfl) rfl rfl) rfl rfl rfl rfl rfl ?_
   refine w_take 1 rfl (by kernel_rfl) rfl rfl (pu_loadBoxA hT rfl rfl (ev_tmp rfl) rfl rfl) rfl rfl rfl rfl rfl ?_
   refine w_store 2 rfl (by kernel_rfl) rfl hT rfl rfl rfl (ev_tmp rfl) (ev_tmp rfl) rfl rfl rfl rfl rfl rfl ?_
   refine w_chain [3] rfl rfl (by kernel_rfl) ?_
   iterate 2 refine z ?_
   refine ok_weak (σ' := ⟨[(2, .box 2 0), (3, .box 3 0)], [(2, 27, [(.dv [] (.str (e10.1))), (.dv [] (.int .i64 (e10.2.1))), (.key 90031), (.key 90900)]), (3, 39, [(.dv [] (.int .i64 (e12.1))), (.dv [] (.str (e12.2.1))), (.dv [] (.str (e12.2.2)))])], [(90031, some (kcOf false (storesD (e10.2.2.1)))), (90900, some (kcOf false (defsD (e10.2.2.2))))]⟩) (weak_sub ⟨rfl, rfl, trivial⟩ ⟨rfl, rfl, trivial⟩ ⟨rfl, rfl, trivial⟩ rfl) ?_
   refine z ?_
   refine fin2 (res_cell hT rfl rfl rfl rfl) (res_cell hT rfl rfl rfl rfl) rfl rfl ⟨(((e10.1), ((e10.2.1), ((e10.2.2.1), (e10.2.2.2)))), ((e12.1), ((e12.2.1), (e12.2.2)))), ?_, rfl, rfl⟩
   try dsimp only
   exact hz10.1
theorem ok_spec_DrawUpgradeTo {code : List UInt8} (hc : code.length ≤ 1048576) : EFn Tryz.prog 7 [.one (.dv [] (bytesD (code)))] (fun zz : DbT × Int × List UpgT => wDatabase zz.1 ≤ 8000 ∧ zz.2.2.length ≤ 3) (fun zz : DbT × Int × List UpgT => .tup [(true, [(.dv [] (.str (zz.1.1))), (.dv [] (.int .i64 (zz.1.2.1))), (.key 90031), (.key 90900)]), (false, [(.dv [] (.int .i64 (zz.2.1)))]), (false, [(.key 95000)])]) (fun zz : DbT × Int × List UpgT => [(90031, some (kcOf false (storesD (zz.1.2.2.1)))), (90900, some (kcOf false (defsD (zz.1.2.2.2)))), (95000, some (kcOf false (upsD (zz.2.2))))]) := by
 refine ⟨fn_intro Tryz.func7 rfl Tryz.ntmps7 Tryz.results7 rfl (fun C => ?_)⟩
 refine ok_fact (x := .tmp 0) (ev_tmp rfl) fun f0 => ?_
 iterate 7 refine z ?_
 refine o_callP rfl rfl rfl Tryz.call24 (ok_spec_l1New (code := code) (by omega)) (ev_tmp rfl) ac_dv rfl (fun _ => rfl) rfl rfl (fun zz hz10 => ?_)
 obtain ⟨i10, h10⟩ := zz
 replace hz10 : 0 ≤ i10 := hz10
 iterate 4 refine z ?_
 refine o_callB 0 rfl rfl rfl Tryz.call25 (ok_spec_l8Any (code := code) (i := i10) (h := h10) (by omega) (by omega)) (ev_tmp rfl) rfl ac_dv rfl (fun _ => rfl) ad_nil rfl (fun _ => rfl) (fun _ => rfl) (fun zz hz12 => ?_)
 obtain ⟨e12, i12, h12⟩ := zz
 replace hz12 : wDatabase e12 ≤ 8000 ∧ 0 ≤ i12 := hz12
 iterate 4 refine z ?_
 refine o_build0 (k := 95000) hT rfl rfl rfl rfl rfl rfl rfl rfl ?_
 iterate 5 refine z ?_
 refine o_callB 15000 rfl rfl rfl Tryz.call26 (ok_spec_l1Below (code := code) (i := i12) (h := h12) (n := 4) (by omega) (by omega) ) (ev_tmp rfl) rfl ac_dv rfl (fun _ => rfl) (ad_cons (ev_int (inR_lit rfl)) (ag_one ac_dv) rfl ad_nil) rfl (fun _ => rfl) (fun _ => rfl) (fun zz hz15 => ?_)
 obtain ⟨e15, i15, h15⟩ := zz
 replace hz15 : 0 ≤ e15 ∧ (0 < (4 : Int) → e15 < (4 : Int)) ∧ 0 ≤ i15 := hz15
 iterate 3 refine z ?_
 refine ok_loop (ι := Int × List UpgT × Int × Int) (fun zz => ⟨[(2, .box 2 0), (3, .one (.dv [] (.int .i64 (0)))), (4, .one .nil), (5, .box 10 0), (6, .box 6 0), (7, .one (.key 95000)), (8, .one (.dv [] (.int .i64 (zz.1))))], [(2, 27, [(.dv [] (.str (ByteArray.empty))), (.dv [] (.int .i64 (0))), .nil, .nil]), (6, 27, [(.dv [] (.str (e12.1))), (.dv [] (.int .i64 (e12.2.1))), (.key 90031), (.key 90900)]), (10, 92, [(.dv [] (bytesD (code))), (.dv [] (.int .i64 (zz.2.2.1))), (.dv [] (.int .i64 (zz.2.2.2)))])], [(95000, some (kcOf false (.sl 39 3 (zz.2.1.length) (zz.2.1.flatMap eUp)))), (90031, some (kcOf false (storesD (e12.2.2.1)))), (90900, some (kcOf false (defsD (e12.2.2.2))))]⟩) (fun zz => (zz.2.1.length : Int) + zz.1 ≤ 3 ∧ 0 ≤ zz.2.2.1 ∧ 0 ≤ zz.1) (fun zz => zz.1.toNat) ((e15, [], i15, h15)) ?_ (weak_sub ⟨rfl, rfl, rfl, rfl, rfl, rfl, rfl, trivial⟩ ⟨rfl, rfl, rfl, trivial⟩ ⟨rfl, rfl, rfl, trivial⟩ rfl) (fun zz hx => ?_)
 ·exact ⟨by have := hz15.2.1 (by omega); dsimp only; simp; omega, by dsimp only; omega, by dsimp only; omega⟩
 obtain ⟨n, l, ci, ch⟩ := zz
 replace hx : (l.length : Int) + n ≤ 3 ∧ 0 ≤ ci ∧ 0 ≤ n := hx
 obtain ⟨hl, hci, hn0⟩ := hx
 show Ok _ _ _ _ _ (⟨[(2, .box 2 0), (3, .one (.dv [] (.int .i64 (0)))), (4, .one .nil), (5, .box 10 0), (6, .box 6 0), (7, .one (.key 95000)), (8, .one (.dv [] (.int .i64 (n))))], [(2, 27, [(.dv [] (.str (ByteArray.empty))), (.dv [] (.int .i64 (0))), .nil, .nil]), (6, 27, [(.dv [] (.str (e12.1))), (.dv [] (.int .i64 (e12.2.1))), (.key 90031), (.key 90900)]), (10, 92, [(.dv [] (bytesD (code))), (.dv [] (.int .i64 (ci))), (.dv [] (.int .i64 (ch)))])], [(95000, some (kcOf false (.sl 39 3 (l.length) (l.flatMap eUp)))), (90031, some (kcOf false (storesD (e12.2.2.1)))), (90900, some (kcOf false (defsD (e12.2.2.2))))]⟩ : St)
 iterate 5 refine z ?_
 refine yQ rfl (fun c1 => ?_) fun c1 => ?_
 ·skip
  have d1 := of_decide_eq_true c1
  iterate 4 refine z ?_
  refine ok_region ?_
  iterate 2 refine z ?_
  refine o_callB 22000 rfl rfl rfl Tryz.call27 (ok_spec_l8Step (code := code) (i := ci) (h := ch) (by omega) (by omega)) (ev_tmp rfl) rfl ac_dv rfl (fun _ => rfl) ad_nil rfl (fun _ => rfl) (fun _ => rfl) (fun zz hz22 => ?_)
  obtain ⟨e22, i22, h22⟩ := zz
  replace hz22 : 0 ≤ i22 := hz22
  refine o_build1 (k := 23) (js := []) hT rfl rfl rfl rfl rfl rfl rfl rfl rfl (ev_tmp rfl) rfl rfl (ow_cons' (ow_dv rfl) (ow_cons' (ow_dv rfl) (ow_cons' (ow_dv rfl) ow_nil rfl) rfl) rfl) (by decide) (by decide) rfl rfl ?_
  simp only [killT, killB, SV.kill, CV.kill, kk, Nat.reduceBEq]
  refine o_appK (k := 95000) (j := 23) (cs := (l ++ [e22]).flatMap eUp) (n := (l ++ [e22]).length) hT rfl rfl rfl rfl rfl rfl rfl (ev_tmp rfl) rfl rfl rfl (ev_tmp rfl) rfl rfl (by decide) (by dsimp only [kcOf, KC.old]; omega) (by dsimp only [kcOf, KC.old]; omega) (by rw [List.length_append]; rfl) (by rw [List.flatMap_append]; rfl) ?_
  simp only [killT, killB, SV.kill, CV.kill, kk, Nat.reduceBEq]
  refine z ?_
  refine ops_nil ?_
  iterate 2 refine z ?_
  refine ok_region ?_
  iterate 4 refine z ?_
  refine ⟨(n - 1, l ++ [e22], i22, h22), ?_, ?_, weak_sub ⟨rfl, rfl, rfl, rfl, rfl, rfl, rfl, trivial⟩ ⟨rfl, rfl, rfl, trivial⟩ ⟨rfl, rfl, rfl, trivial⟩ rfl⟩
  ·exact ⟨by dsimp only; rw [List.length_append, List.length_singleton]; omega, by dsimp only; omega, by dsimp only; omega⟩
  ·dsimp only; omega
 ·skip
  have d1 := of_decide_eq_false c1
  iterate 5 refine z ?_
  refine ok_seq ?_
  refine ok_regionL [10, 2] [0, 1, 2, 3, 4, 5, 6, 7] (oB := [6]) (oK := [90031, 90900, 95000]) (by kernel_rfl) rfl rfl ?_
  refine l_take 0 rfl (by kernel_rfl) rfl rfl (pu_loadBoxA hT rfl rfl (ev_tmp rfl) rfl rfl) rfl rfl rfl rfl rfl ?_
  refine l_take 1 rfl (by kernel_rfl) rfl rfl (pu_move (.inl rfl) (ev_tmp rfl)) rfl rfl rfl rfl rfl ?_
  refine l_take 4 rfl (by kernel_rfl) rfl rfl (pu_move (.inl rfl) (ev_tmp rfl)) rfl rfl rfl rfl rfl ?_
  refine l_split 2 [] (by kernel_rfl) ⟨?_, trivial⟩
  refine y_buildN (k := 27) (js := []) 2 hT rfl rfl rfl rfl rfl rfl rfl rfl rfl rfl rfl rfl (ep_cons (ev_int (inR_lit rfl)) rfl rfl rfl (ep_cons (ev_int (inR_lit rfl)) rfl rfl rfl (ep_cons (ev_int (inR_lit rfl)) rfl rfl rfl (ep_cons (ev_int (inR_lit rfl)) rfl rfl rfl (ep_cons (ev_int (inR_lit rfl)) rfl rfl rfl (ep_cons (ev_int (inR_lit rfl)) rfl rfl rfl ep_nil)))))) (ow_cons' (ow_dv rfl) (ow_cons' (ow_dv rfl) (ow_cons' (ow_dv rfl) (ow_cons' (ow_dv rfl) (ow_cons' (ow_dv rfl) (ow_cons' (ow_dv rfl) ow_nil rfl) rfl) rfl) rfl) rfl) rfl) (by decide) (by decide) rfl rfl rfl rfl rfl ?_
  simp only [killT, killB, SV.kill, CV.kill, kk, Nat.reduceBEq]
  refine l_split 3 [] (by kernel_rfl) ⟨?_, trivial⟩
  refine y_callB 28000 3 rfl rfl rfl rfl rfl Tryz.call28 (ok_spec_l1Int (code := code) (i := ci) (h := ch) (l := [2, 3, 1, 0, 1000, 1001]) (by omega) (by omega) (by exact Nat.succ_pos _)) (ev_tmp rfl) rfl ac_dv rfl (fun _ => rfl) (ad_cons (ev_tmp rfl) (ag_one (ac_key' rfl rfl)) rfl ad_nil) rfl (fun _ => rfl) (fun _ => rfl) rfl (fun zz hz28 => ?_)
  obtain ⟨e28, i28, h28⟩ := zz
  replace hz28 : e28 ∈ ([2, 3, 1, 0, 1000, 1001]) ∧ 0 ≤ i28 := hz28
  refine l_split 5 [] (by kernel_rfl) ⟨?_, trivial⟩
  refine y_store 2 5 rfl rfl rfl hT rfl rfl rfl (ev_tmp rfl) (ev_tmp rfl) rfl rfl rfl rfl rfl rfl ?_
  refine l_split 6 [] (by kernel_rfl) ⟨?_, trivial⟩
  refine y_pure 6 rfl rfl rfl (pu_move (.inr rfl) (ev_tmp rfl)) rfl rfl rfl rfl rfl ?_
  refine l_split 7 [] (by kernel_rfl) ⟨?_, trivial⟩
  refine y_pure 7 rfl rfl rfl (pu_move (.inr rfl) (ev_tmp rfl)) rfl rfl rfl rfl rfl ?_
  refine l_done (by kernel_rfl) ?_
  refine z ?_
  refine ok_weak (σ' := ⟨[(2, .box 2 0), (3, .one (.dv [] (.int .i64 (e28)))), (4, .one (.key 95000))], [(2, 27, [(.dv [] (.str (e12.1))), (.dv [] (.int .i64 (e12.2.1))), (.key 90031), (.key 90900)])], [(90031, some (kcOf false (storesD (e12.2.2.1)))), (90900, some (kcOf false (defsD (e12.2.2.2)))), (95000, some (kcOf false (.sl 39 3 (l.length) (l.flatMap eUp))))]⟩) (weak_sub ⟨rfl, rfl, rfl, trivial⟩ ⟨rfl, trivial⟩ ⟨rfl, rfl, rfl, trivial⟩ rfl) ?_
  refine z ?_
  refine fin3 (res_cell hT rfl rfl rfl rfl) (res_tmp rfl) (res_tmp rfl) rfl rfl rfl ⟨(((e12.1), ((e12.2.1), ((e12.2.2.1), (e12.2.2.2)))), (e28), (l)), ?_, rfl, rfl⟩
  try dsimp only
  exact ⟨hz12.1, by omega⟩
end Go.Proofs.YtmnimdnmedldgaaGreat

namespace Go.Proofs.YtmnimdnmedldgaaGreat
open Go.RowKit
open Go.Proofs
set_option linter.unusedVariables false
set_option linter.unusedSimpArgs false

def undoI (k : Int) : Int := if k = 1 then 2 else 4
theorem upA_w2 {d : DbT} {u : UpgT} {n : Nat} (h : wDatabase d ≤ n) (hn : 6000 ≤ n) : wDatabase (upA d u).1 ≤ n := by
 cases h2 : (upA d u).2 with
 | true => exact Nat.le_trans (isDb_w2 (upA_db h2)) hn
 | false => rw [upA_f h2]; exact h
theorem step_back {d : DbT} {u : UpgT} (h : (upA d u).2 = true) (hk : u.1 = 1 ∨ u.1 = 3) : upA (upA d u).1 (undoI u.1, u.2.1, u.2.2) = (d, true) ∧ (upA (upA d u).1 u).2 = false ∧ sizeD (upA d u).1 = sizeD d := by
 rcases hk with hk | hk
 ·rw [undoI, if_pos hk]; exact step1 hk h
 ·rw [undoI, if_neg (by omega)]; exact step3 hk h

theorem ok_laws_undo {k : Int}  : PFn Tryz.prog 18 [.one (.dv [] (.int .i64 (k)))] (.one (.dv [] (.int .i64 (undoI k)))) := by
 refine ⟨fn_intro Tryz.func18 rfl Tryz.ntmps18 Tryz.results18 rfl (fun C => ?_)⟩
 refine ok_fact (x := .tmp 0) (ev_tmp rfl) fun f0 => ?_
 iterate 8 refine z ?_
 refine yQ rfl (fun c1 => ?_) fun c1 => ?_
 ·skip
  have d1 := of_decide_eq_true c1
  iterate 6 refine z ?_
  exact (if_pos d1).symm
 ·skip
  have d1 := of_decide_eq_false c1
  iterate 7 refine z ?_
  exact (if_neg d1).symm
theorem ok_laws_FnSteps {x0 : List UInt8}  : PFn Tryz.prog 4 [.one (.dv [] (bytesD (x0)))] (.one (.dv [] (.bool (true)))) := by
 refine ⟨fn_intro Tryz.func4 rfl Tryz.ntmps4 Tryz.results4 rfl (fun C => ?_)⟩
 refine ok_fact (x := .tmp 0) (ev_tmp rfl) fun f0 => ?_
 iterate 6 refine z ?_
 refine zC Tryz.call6 ?_ (hf := ok_laws_big (code := x0) )
 refine z ?_
 refine yQ rfl (fun c1 => ?_) fun c1 => ?_
 ·skip
  have d1 := of_decide_eq_true c1
  iterate 6 refine z ?_
  rfl
 ·skip
  have d1 := of_decide_eq_false c1
  iterate 4 refine z ?_
  refine o_callE 0 rfl rfl rfl Tryz.call14 (ok_spec_DrawApplyUpgrade (code := x0) (by omega)) (as_cons (ev_tmp rfl) (ag_one ac_dv) as_nil) rfl (fun _ => rfl) (fun _ => rfl) (fun zz hz17 => ?_)
  obtain ⟨e17_0, e17_1⟩ := zz
  replace hz17 : wDatabase e17_0 ≤ 8000 := hz17
  have hxw : wDatabase (upA e17_0 e17_1).1 ≤ 8000 := upA_w2 hz17 (by decide)
  iterate 11 refine z ?_
  refine o_callK 100000 rfl rfl rfl Tryz.call15 (ok_impl_ApplyUpgrade (d := e17_0) (u := e17_1) (by omega)) (as_cons (ev_tmp rfl) (ag_agg (ag_cons ac_dv (ag_cons ac_dv (ag_cons (ac_key' rfl rfl) (ag_cons (ac_key' rfl rfl) ag_nil))))) (as_cons (ev_tmp rfl) (ag_agg (ag_cons ac_dv (ag_cons ac_dv (ag_cons ac_dv ag_nil)))) as_nil)) rfl rfl rfl ?_
  iterate 11 refine z ?_
  refine o_callK 200000 rfl rfl rfl Tryz.call16 (ok_spec_ApplyUpgrade (d := e17_0) (u := e17_1) (by omega)) (as_cons (ev_tmp rfl) (ag_agg (ag_cons ac_dv (ag_cons ac_dv (ag_cons (ac_key' rfl rfl) (ag_cons (ac_key' rfl rfl) ag_nil))))) (as_cons (ev_tmp rfl) (ag_agg (ag_cons ac_dv (ag_cons ac_dv (ag_cons ac_dv ag_nil)))) as_nil)) rfl rfl rfl ?_
  iterate 10 refine z ?_
  refine yO rfl rfl (pu_bneq hT rfl rfl (ev_tmp rfl) (ev_tmp rfl)) rfl ?_
  refine z ?_
  refine yQ rfl (fun c2 => ?_) fun c2 => ?_
  ·skip
   iterate 6 refine z ?_
   exfalso; revert c2; simp
  ·skip
   iterate 7 refine z ?_
   refine yQ rfl (fun c3 => ?_) fun c3 => ?_
   ·skip
    iterate 3 refine z ?_
    refine o_call rfl rfl rfl Tryz.call10 (ok_impl_EqualDatabases (x := (upA (e17_0) (e17_1)).1) (y := e17_0) ) (as_cons (ev_tmp rfl) (ag_agg (ag_cons ac_dv (ag_cons ac_dv (ag_cons (ac_key' rfl rfl) (ag_cons (ac_key' rfl rfl) ag_nil))))) (as_cons (ev_tmp rfl) (ag_agg (ag_cons ac_dv (ag_cons ac_dv (ag_cons (ac_key' rfl rfl) (ag_cons (ac_key' rfl rfl) ag_nil))))) as_nil)) rfl rfl ?_
    iterate 5 refine z ?_
    have e0 : (upA e17_0 e17_1).2 = false := by simpa using c3
    rw [upA_f e0, eqDb_self]
   ·skip
    have hok : (upA e17_0 e17_1).2 = true := by simpa using c3
    iterate 13 refine z ?_
    refine yQ rfl (fun c4 => ?_) fun c4 => ?_
    ·skip
     refine ok_seq ?_
     refine ok_regionD (oB := [3, 4, 5, 7]) (oK := [90031, 90900, 190031, 190900, 290031, 290900]) (by kernel_rfl) rfl rfl ?_
     refine zD 0 ?_
     refine zD 2 ?_
     refine d_call 1 rfl (by kernel_rfl) rfl rfl rfl Tryz.call17 (ok_impl_SizeDatabase (x := (upA (e17_0) (e17_1)).1) (by omega)) (as_cons (ev_tmp rfl) (ag_agg (ag_cons ac_dv (ag_cons ac_dv (ag_cons (ac_key' rfl rfl) (ag_cons (ac_key' rfl rfl) ag_nil))))) as_nil) rfl rfl rfl rfl ?_
     refine d_call 3 rfl (by kernel_rfl) rfl rfl rfl Tryz.call17 (ok_impl_SizeDatabase (x := e17_0) (by omega)) (as_cons (ev_tmp rfl) (ag_agg (ag_cons ac_dv (ag_cons ac_dv (ag_cons (ac_key' rfl rfl) (ag_cons (ac_key' rfl rfl) ag_nil))))) as_nil) rfl rfl rfl rfl ?_
     refine zD 4 ?_
     refine zD 5 ?_
     refine zDG 6 ?_
     refine d_callG 7 rfl (by kernel_rfl) (gd_bool rfl rfl rfl rfl rfl) rfl rfl Tryz.call13 (ok_impl_IsDatabase (x := (upA (e17_0) (e17_1)).1) ) (fun hg => (as_cons (ev_opt rfl hg) (ag_agg (ag_cons ac_dv (ag_cons ac_dv (ag_cons (ac_key' rfl rfl) (ag_cons (ac_key' rfl rfl) ag_nil))))) as_nil)) rfl rfl ?_
     refine zD 8 ?_
     refine zD 9 ?_
     refine d_done (by kernel_rfl) ?_
     iterate 4 refine z ?_
     simp only [Bool.and_eq_true, Bool.not_eq_true', decide_eq_false_iff_not] at c4
     have h4 := step_rest c4.1 c4.2 hok
     rw [decide_eq_true (show (sizeD (upA e17_0 e17_1).1 : Int) ≤ (sizeD e17_0 : Int) by omega), upA_db hok]; rfl
    ·skip
     iterate 2 refine z ?_
     refine ok_seq ?_
     refine ok_regionD (oB := [3, 4, 5, 7]) (oK := [90031, 90900, 190031, 190900, 290031, 290900]) (by kernel_rfl) rfl rfl ?_
     refine zD 0 ?_
     refine zD 1 ?_
     refine zD 2 ?_
     refine zD 4 ?_
     refine zD 5 ?_
     refine zD 6 ?_
     refine zD 7 ?_
     refine d_vars (A := [(13, 9, 27, _)]) hT ⟨⟨_, _, rfl⟩, rfl, trivial⟩ ?_
     refine a_call 3 rfl (by kernel_rfl) rfl rfl rfl (vok hT ⟨⟨_, _, rfl⟩, rfl, trivial⟩ (by kernel_rfl) (by kernel_rfl)) (vok hT ⟨⟨_, _, rfl⟩, rfl, trivial⟩ (by kernel_rfl) (by kernel_rfl)) rfl Tryz.call18 (ok_laws_undo (k := e17_1.1) ) (as_cons (ev_tmp rfl) (ag_one ac_dv) as_nil) rfl rfl rfl rfl ?_
     refine a_take 8 rfl (by kernel_rfl) rfl rfl rfl (vok hT ⟨⟨_, _, rfl⟩, rfl, trivial⟩ (by kernel_rfl) (by kernel_rfl)) (vok hT ⟨⟨_, _, rfl⟩, rfl, trivial⟩ (by kernel_rfl) (by kernel_rfl)) (pu_build hT hB rfl rfl rfl (bp_cons (ev_tmp rfl) rfl rfl rfl rfl rfl (bp_cons (ev_tmp rfl) rfl rfl rfl rfl rfl (bp_cons (ev_tmp rfl) rfl rfl rfl rfl rfl bp_nil)))) rfl rfl rfl rfl ?_
     refine a_callK 300000 9 rfl (by kernel_rfl) rfl rfl rfl (vok hT ⟨⟨_, _, rfl⟩, rfl, trivial⟩ (by kernel_rfl) (by kernel_rfl)) (vok hT ⟨⟨_, _, rfl⟩, rfl, trivial⟩ (by kernel_rfl) (by kernel_rfl)) rfl Tryz.call15 (ok_impl_ApplyUpgrade (d := (upA (e17_0) (e17_1)).1) (u := (undoI (e17_1.1), e17_1.2)) (by omega)) (as_cons (ev_tmp rfl) (ag_agg (ag_cons ac_dv (ag_cons ac_dv (ag_cons (ac_key' rfl rfl) (ag_cons (ac_key' rfl rfl) ag_nil))))) (as_cons (ev_tmp rfl) (ag_agg (ag_cons ac_dv (ag_cons ac_dv (ag_cons ac_dv ag_nil)))) as_nil)) rfl rfl rfl rfl rfl ?_
     refine a_take 10 rfl (by kernel_rfl) rfl rfl rfl (vok hT ⟨⟨_, _, rfl⟩, rfl, trivial⟩ (by kernel_rfl) (by kernel_rfl)) (vok hT ⟨⟨_, _, rfl⟩, rfl, trivial⟩ (by kernel_rfl) (by kernel_rfl)) (pu_move (.inl rfl) (ev_tmp rfl)) rfl rfl rfl rfl ?_
     refine a_takeX 11 rfl (by kernel_rfl) rfl rfl rfl rfl (vok hT ⟨⟨_, _, rfl⟩, rfl, trivial⟩ (by kernel_rfl) (by kernel_rfl)) (vok hT ⟨⟨_, _, rfl⟩, rfl, trivial⟩ (by kernel_rfl) (by kernel_rfl)) (pu_extractA rfl (ev_tmp rfl) rfl) rfl rfl ?_
     refine a_takeX 12 rfl (by kernel_rfl) rfl rfl rfl rfl (vok hT ⟨⟨_, _, rfl⟩, rfl, trivial⟩ (by kernel_rfl) (by kernel_rfl)) (vok hT ⟨⟨_, _, rfl⟩, rfl, trivial⟩ (by kernel_rfl) (by kernel_rfl)) (pu_extract1 rfl (ev_tmp rfl) rfl) rfl rfl ?_
     refine a_exit1 (vok hT ⟨⟨_, _, rfl⟩, rfl, trivial⟩ (by kernel_rfl) (by kernel_rfl)) rfl rfl (by kernel_rfl) ?_
     dsimp only [addT, addB]
     refine d_chain [14, 15] rfl rfl (by kernel_rfl) ?_
     iterate 6 refine z ?_
     refine o_callK 400000 rfl rfl rfl Tryz.call15 (ok_impl_ApplyUpgrade (d := (upA (e17_0) (e17_1)).1) (u := e17_1) (by omega)) (as_cons (ev_tmp rfl) (ag_agg (ag_cons ac_dv (ag_cons ac_dv (ag_cons (ac_key' rfl rfl) (ag_cons (ac_key' rfl rfl) ag_nil))))) (as_cons (ev_tmp rfl) (ag_agg (ag_cons ac_dv (ag_cons ac_dv (ag_cons ac_dv ag_nil)))) as_nil)) rfl rfl rfl ?_
     iterate 7 refine z ?_
     refine ok_seq ?_
     refine ok_regionD (oB := [3, 4, 5, 7, 9, 11]) (oK := [90031, 90900, 190031, 190900, 290031, 290900, 390031, 390900, 490031, 490900]) (by kernel_rfl) rfl rfl ?_
     refine zD 0 ?_
     refine zD 1 ?_
     refine zDG 2 ?_
     refine zDG 3 ?_
     refine d_callG 4 rfl (by kernel_rfl) (gd_bool rfl rfl rfl rfl rfl) rfl rfl Tryz.call10 (ok_impl_EqualDatabases (x := (upA ((upA (e17_0) (e17_1)).1) ((undoI (e17_1.1), e17_1.2))).1) (y := e17_0) ) (fun hg => (as_cons (ev_opt rfl hg) (ag_agg (ag_cons ac_dv (ag_cons ac_dv (ag_cons (ac_key' rfl rfl) (ag_cons (ac_key' rfl rfl) ag_nil))))) (as_cons (ev_opt rfl hg) (ag_agg (ag_cons ac_dv (ag_cons ac_dv (ag_cons (ac_key' rfl rfl) (ag_cons (ac_key' rfl rfl) ag_nil))))) as_nil))) rfl rfl ?_
     refine zD 5 ?_
     refine zD 6 ?_
     refine zDG 7 ?_
     refine zDG 8 ?_
     refine zD 9 ?_
     refine zD 10 ?_
     refine zDG 11 ?_
     refine zDG 13 ?_
     refine d_callG 12 rfl (by kernel_rfl) (gd_bool rfl rfl rfl rfl rfl) rfl rfl Tryz.call17 (ok_impl_SizeDatabase (x := (upA (e17_0) (e17_1)).1) (by omega)) (fun hg => (as_cons (ev_opt rfl hg) (ag_agg (ag_cons ac_dv (ag_cons ac_dv (ag_cons (ac_key' rfl rfl) (ag_cons (ac_key' rfl rfl) ag_nil))))) as_nil)) rfl rfl ?_
     refine d_callG 14 rfl (by kernel_rfl) (gd_bool rfl rfl rfl rfl rfl) rfl rfl Tryz.call17 (ok_impl_SizeDatabase (x := e17_0) (by omega)) (fun hg => (as_cons (ev_opt rfl hg) (ag_agg (ag_cons ac_dv (ag_cons ac_dv (ag_cons (ac_key' rfl rfl) (ag_cons (ac_key' rfl rfl) ag_nil))))) as_nil)) rfl rfl ?_
     refine zDG 15 ?_
     refine zD 16 ?_
     refine zD 17 ?_
     refine d_done (by kernel_rfl) ?_
     iterate 3 refine z ?_
     have hk : e17_1.1 = 1 ∨ e17_1.1 = 3 := by
      simp only [Bool.and_eq_false_iff, Bool.not_eq_false', decide_eq_true_eq] at c4; exact c4
     obtain ⟨k1, k2, k3⟩ := step_back hok hk
     rw [k1, k2, k3, eqDb_self]; simp
end Go.Proofs.YtmnimdnmedldgaaGreat

namespace Go.Proofs.YtmnimdnmedldgaaGreat
open Go.RowKit
open Go.Proofs
set_option linter.unusedVariables false
set_option linter.unusedSimpArgs false

theorem any_tk {α : Type} [Inhabited α] {p : α → Bool} {l : List α} {j : Nat} (h : j < l.length) : ((l.take j).any p || p (l.getD (j : Int).toNat default)) = (l.take (j + 1)).any p := by
 rw [Int.toNat_natCast, List.take_add_one, List.getElem?_eq_getElem h, List.any_append]
 simp [List.getD, h]

theorem ok_laws_FnUpgrades {x0 : List UInt8}  : PFn Tryz.prog 3 [.one (.dv [] (bytesD (x0)))] (.one (.dv [] (.bool (true)))) := by
 refine ⟨fn_intro Tryz.func3 rfl Tryz.ntmps3 Tryz.results3 rfl (fun C => ?_)⟩
 refine ok_fact (x := .tmp 0) (ev_tmp rfl) fun f0 => ?_
 iterate 6 refine z ?_
 refine zC Tryz.call6 ?_ (hf := ok_laws_big (code := x0) )
 refine z ?_
 refine yQ rfl (fun c1 => ?_) fun c1 => ?_
 ·skip
  have d1 := of_decide_eq_true c1
  iterate 6 refine z ?_
  rfl
 ·skip
  have d1 := of_decide_eq_false c1
  iterate 4 refine z ?_
  refine o_callE 0 rfl rfl rfl Tryz.call7 (ok_spec_DrawUpgradeTo (code := x0) (by omega)) (as_cons (ev_tmp rfl) (ag_one ac_dv) as_nil) rfl (fun _ => rfl) (fun _ => rfl) (fun zz hz20 => ?_)
  obtain ⟨e20_0, e20_1, e20_2⟩ := zz
  replace hz20 : wDatabase e20_0 ≤ 8000 ∧ e20_2.length ≤ 3 := hz20
  have hxw := upTo_w e20_0 e20_1 e20_2
  have hls : wDatabase e20_0 = e20_0.1.size + (e20_0.2.2.1.length + wSum wStore e20_0.2.2.1) + (e20_0.2.2.2.length + wSum wIndexDef e20_0.2.2.2) := rfl
  iterate 9 refine z ?_
  refine ok_seq ?_
  refine ok_weak (weak_view (d := 5) (dd := upsD (e20_2)) rfl rfl (.refl _)) ?_
  refine ok_region ?_
  iterate 3 refine z ?_
  refine o_callK 100000 rfl rfl rfl Tryz.call8 (ok_impl_UpgradeTo (d := e20_0) (v := e20_1) (l := e20_2) (by omega)) (as_cons (ev_tmp rfl) (ag_agg (ag_cons ac_dv (ag_cons ac_dv (ag_cons (ac_key' rfl rfl) (ag_cons (ac_key' rfl rfl) ag_nil))))) (as_cons (ev_tmp rfl) (ag_one ac_dv) (as_cons (ev_tmp rfl) (ag_one ac_dv) as_nil))) rfl rfl rfl ?_
  iterate 12 refine z ?_
  refine o_callK 200000 rfl rfl rfl Tryz.call9 (ok_spec_UpgradeTo (d := e20_0) (v := e20_1) (l := e20_2) (by omega)) (as_cons (ev_tmp rfl) (ag_agg (ag_cons ac_dv (ag_cons ac_dv (ag_cons (ac_key' rfl rfl) (ag_cons (ac_key' rfl rfl) ag_nil))))) (as_cons (ev_tmp rfl) (ag_one ac_dv) (as_cons (ev_tmp rfl) (ag_one ac_dv) as_nil))) rfl rfl rfl ?_
  iterate 10 refine z ?_
  refine yO rfl rfl (pu_bneq hT rfl rfl (ev_tmp rfl) (ev_tmp rfl)) rfl ?_
  refine z ?_
  refine yQ rfl (fun c2 => ?_) fun c2 => ?_
  ·skip
   iterate 6 refine z ?_
   exfalso; revert c2; simp
  ·skip
   iterate 7 refine z ?_
   refine yQ rfl (fun c3 => ?_) fun c3 => ?_
   ·skip
    iterate 3 refine z ?_
    refine o_call rfl rfl rfl Tryz.call10 (ok_impl_EqualDatabases (x := (upTo (e20_0) (e20_1) (e20_2)).1) (y := e20_0) ) (as_cons (ev_tmp rfl) (ag_agg (ag_cons ac_dv (ag_cons ac_dv (ag_cons (ac_key' rfl rfl) (ag_cons (ac_key' rfl rfl) ag_nil))))) (as_cons (ev_tmp rfl) (ag_agg (ag_cons ac_dv (ag_cons ac_dv (ag_cons (ac_key' rfl rfl) (ag_cons (ac_key' rfl rfl) ag_nil))))) as_nil)) rfl rfl ?_
    iterate 5 refine z ?_
    have e0 : (upTo e20_0 e20_1 e20_2).2 = false := by simpa using c3
    rw [upTo_f e0, eqDb_self]
   ·skip
    have hok : (upTo e20_0 e20_1 e20_2).2 = true := by simpa using c3
    iterate 7 refine z ?_
    refine ok_loop (ι := Nat) (fun zz => ⟨[(3, .box 3 0), (4, .one (.dv [] (.int .i64 (e20_1)))), (5, .one (.dv [95000] (upsD (e20_2)))), (6, .box 6 0), (10, .one (.dv [] (.int .i64 ((zz : Int)))))], [(3, 27, [(.dv [] (.str (e20_0.1))), (.dv [] (.int .i64 (e20_0.2.1))), (.key 90031), (.key 90900)]), (6, 27, [(.dv [] (.str ((upTo (e20_0) (e20_1) (e20_2)).1.1))), (.dv [] (.int .i64 ((upTo (e20_0) (e20_1) (e20_2)).1.2.1))), (.key 190031), (.key 190900)])], [(90031, some (kcOf false (storesD (e20_0.2.2.1)))), (90900, some (kcOf false (defsD (e20_0.2.2.2)))), (95000, some (kcOf false (upsD (e20_2)))), (190031, some (kcOf false (storesD ((upTo (e20_0) (e20_1) (e20_2)).1.2.2.1)))), (190900, some (kcOf false (defsD ((upTo (e20_0) (e20_1) (e20_2)).1.2.2.2))))]⟩) (fun zz => zz ≤ e20_0.2.2.1.length) (fun zz => e20_0.2.2.1.length - zz) (0) ?_ (weak_sub ⟨rfl, rfl, rfl, rfl, rfl, trivial⟩ ⟨rfl, rfl, trivial⟩ ⟨rfl, rfl, rfl, rfl, rfl, trivial⟩ rfl) (fun zz hx => ?_)
    ·exact Nat.zero_le _
    obtain ⟨k, rfl⟩ : ∃ v, v = zz := ⟨_, rfl⟩
    replace hx : k ≤ e20_0.2.2.1.length := hx
    show Ok _ _ _ _ _ (⟨[(3, .box 3 0), (4, .one (.dv [] (.int .i64 (e20_1)))), (5, .one (.dv [95000] (upsD (e20_2)))), (6, .box 6 0), (10, .one (.dv [] (.int .i64 ((k : Int)))))], [(3, 27, [(.dv [] (.str (e20_0.1))), (.dv [] (.int .i64 (e20_0.2.1))), (.key 90031), (.key 90900)]), (6, 27, [(.dv [] (.str ((upTo (e20_0) (e20_1) (e20_2)).1.1))), (.dv [] (.int .i64 ((upTo (e20_0) (e20_1) (e20_2)).1.2.1))), (.key 190031), (.key 190900)])], [(90031, some (kcOf false (storesD (e20_0.2.2.1)))), (90900, some (kcOf false (defsD (e20_0.2.2.2)))), (95000, some (kcOf false (upsD (e20_2)))), (190031, some (kcOf false (storesD ((upTo (e20_0) (e20_1) (e20_2)).1.2.2.1)))), (190900, some (kcOf false (defsD ((upTo (e20_0) (e20_1) (e20_2)).1.2.2.2))))]⟩ : St)
    iterate 5 refine z ?_
    refine yO rfl rfl (pu_lenKn (n := ((e20_0.2.2.1)).length) hT rfl rfl (ev_tmp rfl) rfl rfl) rfl ?_
    iterate 2 refine z ?_
    refine yQ rfl (fun c4 => ?_) fun c4 => ?_
    ·skip
     have d4 := of_decide_eq_true c4
     have hk2 : k < e20_0.2.2.1.length := by omega
     have hsm : (e20_0.2.2.1.getD (k : Int).toNat default) ∈ e20_0.2.2.1 := by rw [Int.toNat_natCast, List.getD_eq_getElem?_getD, List.getElem?_eq_getElem hk2]; exact List.getElem_mem hk2
     iterate 4 refine z ?_
     refine ok_seq ?_
     refine ok_regionD (oB := [3, 6]) (oK := [90031, 90900, 95000, 190031, 190900]) (by kernel_rfl) rfl rfl ?_
     refine zD 0 ?_
     refine zD 1 ?_
     refine d_take 2 rfl (by kernel_rfl) rfl rfl (pu_view (dd := storesD (e20_0.2.2.1)) (pu_loadBox1 hT rfl rfl (ev_tmp rfl) rfl rfl) rfl rfl) rfl rfl rfl rfl ?_
     refine zD 3 ?_
     refine zD 4 ?_
     refine zD 5 ?_
     refine zD 6 ?_
     refine d_call 7 rfl (by kernel_rfl) rfl rfl rfl Tryz.call11 (ok_impl_FindStore (x := (upTo (e20_0) (e20_1) (e20_2)).1) (n := (((e20_0.2.2.1)).getD ((k : Int)).toNat default).1) ) (as_cons (ev_tmp rfl) (ag_agg (ag_cons ac_dv (ag_cons ac_dv (ag_cons (ac_key' rfl rfl) (ag_cons (ac_key' rfl rfl) ag_nil))))) (as_cons (ev_tmp rfl) (ag_one ac_dv) as_nil)) rfl rfl rfl rfl ?_
     refine zD 8 ?_
     refine d_done (by kernel_rfl) ?_
     iterate 9 refine z ?_
     refine ok_loop (ι := Nat) (fun zz => ⟨[(3, .box 3 0), (4, .one (.dv [] (.int .i64 (e20_1)))), (5, .one (.dv [95000] (upsD (e20_2)))), (6, .box 6 0), (10, .one (.dv [] (.int .i64 ((k : Int))))), (11, .one (.dv [] (.int .i64 (findI (hasName ((((e20_0.2.2.1)).getD ((k : Int)).toNat default).1)) ((upTo (e20_0) (e20_1) (e20_2)).1).2.2.1 0)))), (12, .one (.dv [] (.bool ((e20_2.take zz).any (drops (e20_0.2.2.1.getD (k : Int).toNat default).1))))), (13, .one (.dv [] (.int .i64 ((zz : Int)))))], [(3, 27, [(.dv [] (.str (e20_0.1))), (.dv [] (.int .i64 (e20_0.2.1))), (.key 90031), (.key 90900)]), (6, 27, [(.dv [] (.str ((upTo (e20_0) (e20_1) (e20_2)).1.1))), (.dv [] (.int .i64 ((upTo (e20_0) (e20_1) (e20_2)).1.2.1))), (.key 190031), (.key 190900)])], [(90031, some (kcOf false (storesD (e20_0.2.2.1)))), (90900, some (kcOf false (defsD (e20_0.2.2.2)))), (95000, some (kcOf false (upsD (e20_2)))), (190031, some (kcOf false (storesD ((upTo (e20_0) (e20_1) (e20_2)).1.2.2.1)))), (190900, some (kcOf false (defsD ((upTo (e20_0) (e20_1) (e20_2)).1.2.2.2))))]⟩) (fun zz => zz ≤ e20_2.length) (fun zz => e20_2.length - zz) (0) ?_ (weak_sub ⟨rfl, rfl, rfl, rfl, rfl, rfl, rfl, rfl, trivial⟩ ⟨rfl, rfl, trivial⟩ ⟨rfl, rfl, rfl, rfl, rfl, trivial⟩ rfl) (fun zz hx => ?_)
     ·exact Nat.zero_le _
     obtain ⟨j, rfl⟩ : ∃ v, v = zz := ⟨_, rfl⟩
     replace hx : j ≤ e20_2.length := hx
     show Ok _ _ _ _ _ (⟨[(3, .box 3 0), (4, .one (.dv [] (.int .i64 (e20_1)))), (5, .one (.dv [95000] (upsD (e20_2)))), (6, .box 6 0), (10, .one (.dv [] (.int .i64 ((k : Int))))), (11, .one (.dv [] (.int .i64 (findI (hasName ((((e20_0.2.2.1)).getD ((k : Int)).toNat default).1)) ((upTo (e20_0) (e20_1) (e20_2)).1).2.2.1 0)))), (12, .one (.dv [] (.bool ((e20_2.take j).any (drops (e20_0.2.2.1.getD (k : Int).toNat default).1))))), (13, .one (.dv [] (.int .i64 ((j : Int)))))], [(3, 27, [(.dv [] (.str (e20_0.1))), (.dv [] (.int .i64 (e20_0.2.1))), (.key 90031), (.key 90900)]), (6, 27, [(.dv [] (.str ((upTo (e20_0) (e20_1) (e20_2)).1.1))), (.dv [] (.int .i64 ((upTo (e20_0) (e20_1) (e20_2)).1.2.1))), (.key 190031), (.key 190900)])], [(90031, some (kcOf false (storesD (e20_0.2.2.1)))), (90900, some (kcOf false (defsD (e20_0.2.2.2)))), (95000, some (kcOf false (upsD (e20_2)))), (190031, some (kcOf false (storesD ((upTo (e20_0) (e20_1) (e20_2)).1.2.2.1)))), (190900, some (kcOf false (defsD ((upTo (e20_0) (e20_1) (e20_2)).1.2.2.2))))]⟩ : St)
     iterate 7 refine z ?_
     refine yQ rfl (fun c5 => ?_) fun c5 => ?_
     ·skip
      have d5 := of_decide_eq_true c5
      have hj2 : j < e20_2.length := by omega
      iterate 4 refine z ?_
      refine ok_regionD (oB := [3, 6]) (oK := [90031, 90900, 95000, 190031, 190900]) (by kernel_rfl) rfl rfl ?_
      refine zD 0 ?_
      refine zD 1 ?_
      refine zDG 2 ?_
      refine zDG 3 ?_
      refine zDG 4 ?_
      refine zDG 5 ?_
      refine zDG 6 ?_
      refine zDG 7 ?_
      refine zDG 8 ?_
      refine zDG 9 ?_
      refine zDG 10 ?_
      refine zDG 11 ?_
      refine zDG 12 ?_
      refine zDG 13 ?_
      refine zDG 14 ?_
      refine d_takeG 15 rfl (by kernel_rfl) (gd_opt rfl rfl rfl rfl rfl) rfl (fun hg => pu_view (dd := storesD (e20_0.2.2.1)) (pu_loadBox1 hT rfl rfl (ev_opt rfl hg) rfl rfl) rfl rfl) rfl rfl rfl rfl ?_
      refine zDG 16 ?_
      refine zDG 17 ?_
      refine zDG 18 ?_
      refine zDG 19 ?_
      refine zDG 20 ?_
      refine zDG 21 ?_
      refine zD 22 ?_
      refine zD 23 ?_
      refine d_done (by kernel_rfl) ?_
      iterate 2 refine z ?_
      refine ok_region ?_
      iterate 4 refine z ?_
      refine ⟨j + 1, ?_, ?_, weak_sub ⟨rfl, rfl, rfl, rfl, rfl, rfl, (eqSlotB (any_tk hj2)), rfl, trivial⟩ ⟨rfl, rfl, trivial⟩ ⟨rfl, rfl, rfl, rfl, rfl, trivial⟩ rfl⟩
      ·omega
      ·omega
     ·skip
      have d5 := of_decide_eq_false c5
      iterate 5 refine z ?_
      refine ok_seq ?_
      refine ok_regionD (oB := [3, 6]) (oK := [90031, 90900, 95000, 190031, 190900]) (by kernel_rfl) rfl rfl ?_
      refine zD 0 ?_
      refine zD 1 ?_
      refine zD 2 ?_
      refine zDG 3 ?_
      refine zDG 4 ?_
      refine zDG 5 ?_
      refine zDG 6 ?_
      refine zDG 7 ?_
      refine zDG 8 ?_
      refine d_takeG 9 rfl (by kernel_rfl) (gd_opt rfl rfl rfl rfl rfl) rfl (fun hg => pu_lenKn (n := (((upTo (e20_0) (e20_1) (e20_2)).1.2.2.1)).length) hT rfl rfl (ev_opt rfl hg) rfl rfl) rfl rfl rfl rfl ?_
      refine zDG 10 ?_
      refine zDG 11 ?_
      refine zDG 12 ?_
      refine zDG 13 ?_
      refine d_takeG 14 rfl (by kernel_rfl) (gd_opt rfl rfl rfl rfl rfl) rfl (fun hg => pu_view (dd := storesD ((upTo e20_0 e20_1 e20_2).1.2.2.1)) (pu_loadBox1 hT rfl rfl (ev_opt rfl hg) rfl rfl) rfl rfl) rfl rfl rfl rfl ?_
      refine zDG 15 ?_
      refine zDG 16 ?_
      refine zDG 17 ?_
      refine zDG 18 ?_
      refine d_takeG 19 rfl (by kernel_rfl) (gd_opt rfl rfl rfl rfl rfl) rfl (fun hg => pu_view (dd := storesD (e20_0.2.2.1)) (pu_loadBox1 hT rfl rfl (ev_opt rfl hg) rfl rfl) rfl rfl) rfl rfl rfl rfl ?_
      refine zDG 20 ?_
      refine zDG 21 ?_
      refine zDG 22 ?_
      refine d_callG 23 rfl (by kernel_rfl) (gd_opt rfl rfl rfl rfl rfl) rfl rfl Tryz.call12 (ok_spec_EqualStores (x := ((((upTo e20_0 e20_1 e20_2).1.2.2.1)).getD (findI (hasName ((((e20_0.2.2.1)).getD ((k : Int)).toNat default).1)) ((upTo (e20_0) (e20_1) (e20_2)).1).2.2.1 0).toNat default)) (y := (((e20_0.2.2.1)).getD ((k : Int)).toNat default)) ) (fun hg => (as_cons (ev_opt rfl hg) (ag_agg (ag_cons ac_dv (ag_cons ac_dv (ag_cons ac_dv ag_nil)))) (as_cons (ev_opt rfl hg) (ag_agg (ag_cons ac_dv (ag_cons ac_dv (ag_cons ac_dv ag_nil)))) as_nil))) rfl rfl ?_
      refine zDG 24 ?_
      refine zDG 25 ?_
      refine zD 26 ?_
      refine d_done (by kernel_rfl) ?_
      refine z ?_
      refine yQ rfl (fun c6 => ?_) fun c6 => ?_
      ·skip
       iterate 10 refine z ?_
       exfalso
       rw [show j = e20_2.length by omega, List.take_length] at c6
       cases hdr : e20_2.any (drops (e20_0.2.2.1.getD (k : Int).toNat default).1) with
       | true => rw [hdr] at c6; simp at c6
       | false =>
        obtain ⟨q1, q2, q3⟩ := upTo_keep hok hsm hdr
        revert c6
        rw [show findI (hasName (e20_0.2.2.1.getD (k : Int).toNat default).1) (upTo e20_0 e20_1 e20_2).1.2.2.1 0 = fndS (upTo e20_0 e20_1 e20_2).1 (e20_0.2.2.1.getD (k : Int).toNat default).1 from rfl, q3, eqStore_self, hdr, decide_eq_false (show ¬ fndS (upTo e20_0 e20_1 e20_2).1 (e20_0.2.2.1.getD (k : Int).toNat default).1 < 0 by omega), decide_eq_false (show ¬ ((upTo e20_0 e20_1 e20_2).1.2.2.1.length : Int) ≤ fndS (upTo e20_0 e20_1 e20_2).1 (e20_0.2.2.1.getD (k : Int).toNat default).1 by omega)]
        simp
      ·skip
       iterate 3 refine z ?_
       refine ok_region ?_
       iterate 4 refine z ?_
       refine ⟨k + 1, ?_, ?_, weak_sub ⟨rfl, rfl, rfl, rfl, rfl, trivial⟩ ⟨rfl, rfl, trivial⟩ ⟨rfl, rfl, rfl, rfl, rfl, trivial⟩ rfl⟩
       ·omega
       ·omega
    ·skip
     have d4 := of_decide_eq_false c4
     iterate 8 refine z ?_
     refine o_build0 (k := 120) hT rfl rfl rfl rfl rfl rfl rfl rfl ?_
     refine o_callK 300000 rfl rfl rfl Tryz.call8 (ok_impl_UpgradeTo (d := (upTo (e20_0) (e20_1) (e20_2)).1) (v := e20_1) (l := []) (by omega)) (as_cons (ev_tmp rfl) (ag_agg (ag_cons ac_dv (ag_cons ac_dv (ag_cons (ac_key' rfl rfl) (ag_cons (ac_key' rfl rfl) ag_nil))))) (as_cons (ev_tmp rfl) (ag_one ac_dv) (as_cons (ev_tmp rfl) (ag_one (ac_key' rfl rfl)) as_nil))) rfl rfl rfl ?_
     iterate 9 refine z ?_
     refine o_call rfl rfl rfl Tryz.call13 (ok_impl_IsDatabase (x := (upTo (e20_0) (e20_1) (e20_2)).1) ) (as_cons (ev_tmp rfl) (ag_agg (ag_cons ac_dv (ag_cons ac_dv (ag_cons (ac_key' rfl rfl) (ag_cons (ac_key' rfl rfl) ag_nil))))) as_nil) rfl rfl ?_
     iterate 14 refine z ?_
     rw [(upTo_ok hok).1, decide_eq_true (upTo_ok hok).2.1, upTo_back hok]; rfl
end Go.Proofs.YtmnimdnmedldgaaGreat

namespace Go.Proofs.YtmnimdnmedldgaaGreat
open Go.RowKit Go.ChangeShapes Go.WideShapes Go.Deep

def LayW (W : World) : List DV → List Value → Prop := LayL (fun b => b < W.heap.size) W
structure OpensD (P : Program) (Q : List DV → Prop) (t : TypeId) : Prop where
 run : ∀ {H : Type} (enc : TypeId × Value → H) (W : World) (base : Nat) (spare : Nat → Bool) (held : Bool) (fuel : Nat) (cs : List Value) (y : DataW H × List MemPlace),
  DataW.trod enc P W base spare held fuel t cs = some y → ∃ ds, Q ds ∧ LayW W ds cs
def Is {α : Type} (enc : α → List DV) (ds : List DV) : Prop := ∃ x, ds = enc x
theorem opensD_byte {P : Program} {t : TypeId} (ht : P.underlying t = some (.int .u8)) : OpensD P (Is eByte) t := by
 refine ⟨fun {H} enc W base spare held fuel cs y h => ?_⟩
 obtain ⟨n, rfl, _, hw⟩ := DataW.trod_int ht h
 have hb : 0 ≤ n ∧ n ≤ 255 := by simpa [Lit.wf, IntKind.min, IntKind.max, IntKind.signed, IntKind.bits] using hw
 have e : ((UInt8.ofNat n.toNat).toNat : Int) = n := by
  rw [UInt8.toNat_ofNat']
  have : n.toNat % 2 ^ 8 = n.toNat := Nat.mod_eq_of_lt (by omega)
  rw [this]; omega
 refine ⟨_, ⟨UInt8.ofNat n.toNat, rfl⟩, ?_⟩
 simp only [LayW, LayL, Lay]
 rw [e]
 exact ⟨_, _, rfl, ⟨rfl, by simpa [InR, IntKind.min, IntKind.max, IntKind.signed, IntKind.bits] using hb⟩, rfl⟩
theorem points {α : Type} {enc : α → List DV} {W : World} {sz : Nat} {f : Nat → Option Value} (hs : ∀ x, (enc x).length = sz) : ∀ n : Nat,
  (∀ i, i < n → ∃ x ci, LayW W (enc x) ci ∧ ∀ j, j < sz → f (i * sz + j) = ci[j]?) → ∃ (xs : List α) (cells : List Value), xs.length = n ∧ LayW W (xs.flatMap enc) cells ∧ ∀ j u, cells[j]? = some u → f j = some u
 | 0, _ => ⟨[], [], rfl, by simp [LayW, LayL], by simp⟩
 | n + 1, h => by
  obtain ⟨xs, cells, h1, h2, h3⟩ := points hs n (fun i hi => h i (by omega))
  obtain ⟨x, ci, g1, g2⟩ := h n (by omega)
  have hl : cells.length = n * sz := by rw [layL_len _ _ h2, flat_len hs, h1]
  have hci : ci.length = sz := by rw [layL_len _ _ g1, hs]
  refine ⟨xs ++ [x], cells ++ ci, by simp [h1], by have := layL_append _ _ _ _ h2 g1; simp only [List.flatMap_append, List.flatMap_cons, List.flatMap_nil, List.append_nil]; exact this, fun j u hu => ?_⟩
  rcases Nat.lt_or_ge j cells.length with hj | hj
  ·rw [List.getElem?_append_left hj] at hu; exact h3 j u hu
  ·rw [List.getElem?_append_right hj] at hu
   have hjs : j - cells.length < sz := by rw [← hci]; exact (List.getElem?_eq_some_iff.1 hu).1
   have := g2 (j - cells.length) hjs
   rw [show n * sz + (j - cells.length) = j by omega] at this
   rw [this, hu]
theorem opensD_slice {α : Type} {P : Program} {enc : α → List DV} {t e : TypeId} {sz : Nat} (e' : Nat) (hs : ∀ x, (enc x).length = sz) (hsz : Nat.blt 0 sz = true) (ht : P.underlying t = some (.slice e)) (hc : P.cellsOf e = sz) (he : OpensD P (Is enc) e) : OpensD P (Is fun xs : List α => [listD e' sz enc xs]) t := by
 refine ⟨fun {H} ench W base spare held fuel cs y h => ?_⟩
 have hpos : 0 < sz := by simpa [Nat.blt_eq] using hsz
 rcases open_slice ht h with ⟨rfl, _⟩ | ⟨a, len, cap, m, n, D, Pl, rfl, _, hl, hm, hmm, _, hi⟩
 ·refine ⟨_, ⟨[], rfl⟩, ?_⟩
  simp only [LayW, LayL, Lay]
  exact ⟨_, _, rfl, ⟨none, 0, [], rfl, Nat.le_refl _, by simp [maxLen], hpos, by simp, by simp [LayL], fun h => by simp at h⟩, rfl⟩
 ·have hlm : len ≤ m := by rw [hmm]; split <;> omega
  obtain ⟨xs, cells, h1, h2, h3⟩ := points (W := W) (f := fun j => W.cell? (a.add j)) hs len (fun i hil => by
   obtain ⟨cs', hc1, hc2⟩ := hi i (by omega)
   obtain ⟨ds, ⟨x, rfl⟩, hx⟩ := he.run ench W base spare held n cs' _ hc2
   obtain ⟨_, hcl, hat⟩ := World.cells?_some hc1
   refine ⟨x, cs', hx, fun j hj => ?_⟩
   have := hat j (by rw [hc]; exact hj)
   rw [← Go.Deep.add_add, hc] at *
   exact this)
  refine ⟨_, ⟨xs, rfl⟩, ?_⟩
  simp only [LayW, LayL]
  refine ⟨_, _, rfl, ?_, rfl⟩
  simp only [Lay]
  refine ⟨some a, cap, cells, by rw [h1], by omega, hm, hpos, flat_len hs xs, h2, fun hp => ?_⟩
  have hcl : 0 < cells.length := by
   rw [layL_len _ _ h2, flat_len hs]
   exact Nat.mul_pos hp hpos
  have h0 := h3 0 _ (List.getElem?_eq_getElem hcl)
  have ha0 : a.add 0 = a := by simp [Addr.add]
  simp only [ha0] at h0
  have hsp : a.spot = none := by
   cases hs : a.spot with
   | none => rfl
   | some s =>
    unfold World.cell? at h0
    split at h0
    ·simp [hs] at h0
    ·cases h0
  obtain ⟨b, off, sp⟩ := a
  simp only at hsp
  subst hsp
  refine ⟨b, off, rfl, World.block_lt_of_cell? W _ h0, fun j u hu => ?_⟩
  have := h3 j u hu
  simp only [add_row] at this
  exact this
/-! ### structs -/
theorem OpensD.mono {P : Program} {Q R : List DV → Prop} {t : TypeId} (h : OpensD P Q t) (hq : ∀ ds, Q ds → R ds) : OpensD P R t := by
 refine ⟨fun {H} enc W base spare held fuel cs y h' => ?_⟩
 obtain ⟨ds, h1, h2⟩ := h.run enc W base spare held fuel cs y h'
 exact ⟨ds, hq ds h1, h2⟩
/-! ### a call from the outside -/
def TopL (w : World) : List SV → List Value → Prop
 | [], vs => vs = []
 | .one c :: us, vs => ∃ d v vs', c = .dv [] d ∧ vs = v :: vs' ∧ LayW w [d] [v] ∧ TopL w us vs'
 | .agg cs :: us, vs => ∃ ds xs vs', cs = ds.map (CV.dv []) ∧ vs = .agg xs.toArray :: vs' ∧ LayW w ds xs ∧ TopL w us vs'
 | _ :: _, _ => False
theorem lay_top {w : World} {L : Lyt} {d : DV} {v : Value} (h : LayW w [d] [v]) : CVr ⟨w, [], L.rv⟩ L w (.dv [] d) v := by
 simp only [LayW, LayL] at h
 obtain ⟨v', _, e, h1, rfl⟩ := h
 simp only [List.cons.injEq, and_true] at e
 subst e
 simp only [CVr]
 exact lay_conv (fun b hb _ => ⟨.inl ⟨hb, by simp⟩, rfl⟩) d _ h1
theorem lays_top {w : World} {L : Lyt} : ∀ {ds : List DV} {vs : List Value}, LayW w ds vs → CVL ⟨w, [], L.rv⟩ L w (ds.map (CV.dv [])) vs
 | [], _, h => by simp only [LayW, LayL] at h; subst h; rfl
 | d :: ds, _, h => by
  simp only [LayW, LayL] at h
  obtain ⟨v, vs', rfl, h1, h2⟩ := h
  exact ⟨v, vs', rfl, lay_top (by simp only [LayW, LayL]; exact ⟨v, [], rfl, h1, rfl⟩), lays_top h2⟩
theorem topL_sv {P : Program} {w : World} {L : Lyt} : ∀ {us : List SV} {vs : List Value}, TopL w us vs → vs.length = us.length ∧ (∀ u ∈ us, u.keys = [] ∧ u.boxes = []) ∧ ∀ (i : Nat) (v : SV), us[i]? = some v → ∃ x, vs[i]? = some x ∧ SVr P ⟨w, [], L.rv⟩ L w v x
 | [], _, h => by simp only [TopL] at h; subst h; simp
 | .one c :: us, _, h => by
  simp only [TopL] at h
  obtain ⟨d, v, vs', rfl, rfl, h1, h2⟩ := h
  obtain ⟨g1, g2, g3⟩ := topL_sv (P := P) (L := L) h2
  refine ⟨by simp [g1], fun u hu => ?_, fun i x hx => ?_⟩
  ·rcases List.mem_cons.1 hu with rfl | hu
   ·exact ⟨rfl, rfl⟩
   ·exact g2 u hu
  ·cases i with
   | zero => simp only [List.getElem?_cons_zero, Option.some.injEq] at hx; subst hx; exact ⟨v, rfl, by simp only [SVr]; exact lay_top h1⟩
   | succ i => simpa using g3 i x (by simpa using hx)
 | .agg cs :: us, _, h => by
  simp only [TopL] at h
  obtain ⟨ds, xs, vs', rfl, rfl, h1, h2⟩ := h
  obtain ⟨g1, g2, g3⟩ := topL_sv (P := P) (L := L) h2
  refine ⟨by simp [g1], fun u hu => ?_, fun i x hx => ?_⟩
  ·rcases List.mem_cons.1 hu with rfl | hu
   ·refine ⟨?_, rfl⟩
    simp only [SV.keys]
    rw [List.flatMap_eq_nil_iff]
    intro c hc
    obtain ⟨d, _, rfl⟩ := List.mem_map.1 hc
    rfl
   ·exact g2 u hu
  ·cases i with
   | zero => simp only [List.getElem?_cons_zero, Option.some.injEq] at hx; subst hx; exact ⟨_, rfl, by simp only [SVr]; exact ⟨xs, rfl, lays_top h1⟩⟩
   | succ i => simpa using g3 i x (by simpa using hx)
 | .tup _ :: _, _, h => by simp [TopL] at h
 | .box _ _ :: _, _, h => by simp [TopL] at h
 | .ref _ _ :: _, _, h => by simp [TopL] at h
 | .eptr _ _ :: _, _, h => by simp [TopL] at h
 | .ksl _ _ _ _ :: _, _, h => by simp [TopL] at h
 | .fn _ _ :: _, _, h => by simp [TopL] at h
 | .clo _ _ :: _, _, h => by simp [TopL] at h
 | .opt _ _ :: _, _, h => by simp [TopL] at h
 | .any :: _, _, h => by simp [TopL] at h
theorem pfn_run {P : Program} {f : FuncId} {us : List SV} {b : Bool} (hf : PFn P f us (.one (.dv [] (.bool b)))) {w : World} {vs : List Value} (h : TopL w us vs) :
  Calls P f vs.toArray w fun e w' => e = .returned (.bool b) ∧ Below w.heap.size w w' := by
 let L : Lyt := ⟨fun _ => 0, fun _ => [], fun _ => .bool false⟩
 obtain ⟨h1, h2, h3⟩ := topL_sv (P := P) (L := L) h
 obtain ⟨t1, t2⟩ := enum_tk us 0 h2
 have hr : Rel P ⟨w, [], L.rv⟩ us.length L ⟨enumS 0 us, [], []⟩ ⟨vs.toArray, []⟩ w := {
  df := rfl
  sz := by simp [h1]
  tm := fun i v hv => by
   obtain ⟨_, h4⟩ := enumS_look us 0 i v hv
   obtain ⟨x, h5, h6⟩ := h3 i v (by simpa using h4)
   have : vs.toArray.getD i undef = x := by simp [Array.getD_eq_getD_getElem?, h5]
   rw [this]; exact h6
  bx := fun i t cs h => by cases h
  ks := fun k c h => by cases h
  b1 := fun i x h => by cases h
  k1 := fun k c h => by cases h
  kn := fun k c h => by cases h
  bb := fun i j x y h => by cases h
  bk := fun i k x c h => by cases h
  kk := fun k j c d h => by cases h
  lk := fun k hk => by simp only [St.tk, t1, List.flatMap_nil, List.append_nil] at hk; cases hk
  lb := fun b hb => by simp only [St.tb, t2] at hb; cases hb
  s0 := fun b hb => by cases hb
  chg := Chg.refl _ _ }
 refine (hf.ok w [] L vs h1 hr).mono ?_
 rintro e w' ⟨r, res, σ', L', rfl, rfl, hr'⟩
 have hv := hr'.tm 0 _ rfl
 simp only [SVr, CVr, Lay] at hv
 refine ⟨?_, hr'.chg.below⟩
 have : (#[r] : Array Value).getD 0 undef = r := rfl
 rw [this] at hv
 rw [hv]
end Go.Proofs.YtmnimdnmedldgaaGreat

namespace Go.Proofs.YtmnimdnmedldgaaGreat
open Go.RowKit
open Go.Proofs
theorem opensBytes : OpensD Tryz.prog (Is fun xs => [listD 5 1 eByte xs]) 22 := opensD_slice (sz := 1) 5 (fun _ => rfl) rfl Tryz.underlying22 (by kernel_rfl) (opensD_byte Tryz.underlying5)
end Go.Proofs.YtmnimdnmedldgaaGreat

