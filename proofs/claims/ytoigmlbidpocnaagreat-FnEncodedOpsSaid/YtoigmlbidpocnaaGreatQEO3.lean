/-
  Contracts of the program's functions for the statements EncodedOps, by the rules of the logic. Conditions: none but those in the theorems.
-/
import Derived.Below
import Derived.Deep.Slices
import Derived.OpenShut
import Derived.ProofKit
import Derived.Test.YtoigmlbidpocnaaGreatQEO2
set_option maxHeartbeats 4000000
set_option maxRecDepth 100000
namespace Go.Proofs.YtoigmlbidpocnaaGreat
open Go.RowKit
open Go.Proofs
set_option linter.unusedVariables false
set_option linter.unusedSimpArgs false

theorem sLt_f {a b : Str} (h : sLt b a = true) : (sLt a b || sEq a b) = false := by rw [sLe_eq, h]; rfl
theorem base_db {l : List StoreT} (hl : l.length ≤ 4) (hs : ∀ s ∈ l, isSto s = true) (ho : ∀ i, i + 1 < l.length → sLt (l.getD i default).1 (l.getD (i + 1) default).1 = true) : isDb (ByteArray.mk #[97, 112, 112], 1, l, []) = true := by
 have h1 : isName (ByteArray.mk #[97, 112, 112]) = true := by decide +kernel
 unfold isDb dbHead dbUn dbSt
 simp only [h1, Bool.and_eq_true, decide_eq_true_eq, List.all_eq_true, List.mem_range, List.length_nil, true_and]
 refine ⟨⟨⟨by omega, by omega⟩, by omega⟩, fun i hi => ?_, fun i hi => by omega⟩
 have h2 : l.getD i default ∈ l := by rw [List.getD_eq_getElem?_getD, List.getElem?_eq_getElem hi]; exact List.getElem_mem hi
 unfold stBad
 rw [Int.toNat_natCast, hs _ h2]
 cases i with
 | zero => simp
 | succ j =>
  have h3 := ho j hi
  rw [show (((j + 1 : Nat) : Int) - 1).toNat = j by omega, sLt_f h3]
  simp
theorem base2 {s t : StoreT} (h1 : isSto s = true) (n1 : s.1 = ByteArray.mk #[110, 111, 116, 101, 115]) (h2 : isSto t = true) (n2 : t.1 = ByteArray.mk #[116, 97, 103, 115]) : isDb (ByteArray.mk #[97, 112, 112], 1, [s, t], []) = true := by
 refine base_db (by simp) (fun x hx => ?_) (fun i hi => ?_)
 ·simp only [List.mem_cons, List.not_mem_nil, or_false] at hx
  rcases hx with rfl | rfl <;> assumption
 ·have : i = 0 := by simp at hi; omega
  subst this
  show sLt s.1 t.1 = true
  rw [n1, n2]; decide +kernel
theorem base3 {q s t : StoreT} (h0 : isSto q = true) (n0 : q.1 = ByteArray.mk #[108, 105, 115, 116, 115]) (h1 : isSto s = true) (n1 : s.1 = ByteArray.mk #[110, 111, 116, 101, 115]) (h2 : isSto t = true) (n2 : t.1 = ByteArray.mk #[116, 97, 103, 115]) : isDb (ByteArray.mk #[97, 112, 112], 1, [q, s, t], []) = true := by
 refine base_db (by simp) (fun x hx => ?_) (fun i hi => ?_)
 ·simp only [List.mem_cons, List.not_mem_nil, or_false] at hx
  rcases hx with rfl | rfl | rfl <;> assumption
 ·simp only [List.length_cons, List.length_nil] at hi
  have : i = 0 ∨ i = 1 := by omega
  rcases this with rfl | rfl
  ·show sLt q.1 s.1 = true
   rw [n0, n1]; decide +kernel
  ·show sLt s.1 t.1 = true
   rw [n1, n2]; decide +kernel
theorem upA_keep {d : DbT} {u : UpgT} (h : isDb d = true) : isDb (upA d u).1 = true := by
 cases h2 : (upA d u).2 with
 | true => exact upA_db h2
 | false => rw [upA_f h2]; exact h
theorem wSum_bd {α : Type} {w : α → Nat} {B : Nat} : ∀ (l : List α), (∀ x ∈ l, w x ≤ B) → wSum w l ≤ B * l.length
 | [], _ => by simp [wSum]
 | x :: l, h => by
  have k1 := wSum_bd l (fun g hg => h g (by simp [hg]))
  have k2 := h x (by simp)
  simp only [wSum, List.map_cons, List.sum_cons, List.length_cons, Nat.mul_add, Nat.mul_one] at *
  omega
theorem isDb_w2 {d : DbT} (h : isDb d = true) : wDatabase d ≤ 6000 := by
 have h4 : wDatabase d = d.1.size + (d.2.2.1.length + wSum wStore d.2.2.1) + (d.2.2.2.length + wSum wIndexDef d.2.2.2) := rfl
 have h0 := h
 rw [isDb, Bool.and_eq_true, Bool.and_eq_true] at h
 obtain ⟨h1, h2, h3⟩ := h
 simp only [dbHead, Bool.and_eq_true, decide_eq_true_eq] at h1
 have h5 := name_size h1.1.1.1
 have h6 := wSum_bd (w := wStore) (B := 1200) d.2.2.1 (fun s hs => by
  obtain ⟨i, hi, rfl⟩ := List.mem_iff_getElem.1 hs
  have := db_sto (i := (i : Int)) h2 (by omega) (by omega)
  rw [Int.toNat_natCast, List.getD_eq_getElem?_getD, List.getElem?_eq_getElem hi] at this
  exact sto_w2 this)
 have h7 := wSum_bd (w := wIndexDef) (B := 16) d.2.2.2 (fun x hx => by
  obtain ⟨i, hi, rfl⟩ := List.mem_iff_getElem.1 hx
  have hq := db_un h0 (List.getElem_mem hi)
  have h8 : d.2.2.1.any (hasName d.2.2.2[i].1) = true := by rw [← fnd_any]; exact decide_eq_true hq
  obtain ⟨s, hs, hn⟩ := List.any_eq_true.1 h8
  have hn2 : s.1 = d.2.2.2[i].1 := sEq_iff.1 hn
  obtain ⟨j, hj, rfl⟩ := List.mem_iff_getElem.1 hs
  have h9 := db_sto (i := (j : Int)) h2 (by omega) (by omega)
  rw [Int.toNat_natCast, List.getD_eq_getElem?_getD, List.getElem?_eq_getElem hj] at h9
  have h10 := sto_name h9
  have h11 : d.2.2.1[j].1.size ≤ 8 := h10
  have h12 : (d.2.2.2[i]).2.size ≤ 8 := by
   rw [dbUn, List.all_eq_true] at h3
   have h13 := h3 i (List.mem_range.2 hi)
   unfold unBad at h13
   rw [Int.toNat_natCast, List.getD_eq_getElem?_getD, List.getElem?_eq_getElem hi] at h13
   simp only [Option.getD_some, Bool.not_eq_true', Bool.or_eq_false_iff, Bool.not_eq_false'] at h13
   exact (name_size h13.1.1.2).2
  have h14 : wIndexDef d.2.2.2[i] = (d.2.2.2[i]).1.size + (d.2.2.2[i]).2.size := rfl
  rw [hn2] at h11
  omega)
 omega

theorem ok_spec_l8Base {code : List UInt8} {i h : Int} (hc : code.length ≤ 1048576) (hi : 0 ≤ i) : BFn Tryz.prog 76 [] 80 (bytesD (code)) [.dv [] (.int .i64 (i)), .dv [] (.int .i64 (h))] (fun zz : DbT × Int × Int => isDb zz.1 = true ∧ 0 ≤ zz.2.1) (fun zz : DbT × Int × Int => .agg [(.dv [] (.str (zz.1.1))), (.dv [] (.int .i64 (zz.1.2.1))), (.key 90031), (.key 90900)]) (fun zz : DbT × Int × Int => [(90031, some (kcOf false (storesD (zz.1.2.2.1)))), (90900, some (kcOf false (defsD (zz.1.2.2.2))))]) (fun zz : DbT × Int × Int => [.dv [] (.int .i64 (zz.2.1)), .dv [] (.int .i64 (zz.2.2))]) := by
 refine ⟨fn_introS Tryz.func76 rfl Tryz.ntmps76 Tryz.results76 rfl (fun C => ?_)⟩
 iterate 4 refine z ?_
 refine yO rfl rfl (pu_build hT hB rfl rfl rfl (bp_cons (ev_str (str_lit rfl)) rfl rfl rfl rfl rfl (bp_cons (ev_int (inR_lit rfl)) rfl rfl rfl rfl rfl bp_nil))) rfl ?_
 iterate 3 refine z ?_
 refine ok_seq ?_
 refine ok_weak (weak_nilB 90031 (b := 3) (i := 2) (e := 110) (sz := 3) rfl rfl rfl rfl rfl) ?_
 simp only [killT, killB, SV.kill, CV.kill, kk, Nat.reduceBEq]
 refine ok_weak (weak_nilB 90900 (b := 3) (i := 3) (e := 113) (sz := 2) rfl rfl rfl rfl rfl) ?_
 simp only [killT, killB, SV.kill, CV.kill, kk, Nat.reduceBEq]
 refine ok_regionL [0] [0, 1, 2, 3, 4, 5, 6] (oB := [2, 3]) (oK := [90031, 90900]) (by kernel_rfl) rfl rfl ?_
 refine l_take 0 rfl (by kernel_rfl) rfl rfl (pu_fieldBox hT rfl rfl rfl (ev_tmp rfl)) rfl rfl rfl rfl rfl ?_
 refine l_take 1 rfl (by kernel_rfl) rfl rfl (pu_loadBox1 hT rfl rfl (ev_tmp rfl) rfl rfl) rfl rfl rfl rfl rfl ?_
 refine l_take 2 rfl (by kernel_rfl) rfl rfl (pu_move (.inl rfl) (ev_abox (ev_tmp rfl))) rfl rfl rfl rfl rfl ?_
 refine l_take 4 rfl (by kernel_rfl) rfl rfl (pu_move (.inl rfl) (ev_abox (ev_tmp rfl))) rfl rfl rfl rfl rfl ?_
 refine l_split 3 [] (by kernel_rfl) ⟨?_, trivial⟩
 refine y_callB 22000 3 rfl rfl rfl rfl rfl Tryz.call88 (ok_spec_l6Store (code := code) (i := i) (h := h) (nm := ByteArray.mk #[110, 111, 116, 101, 115]) (by omega) (by omega) (by decide +kernel)) (ev_tmp rfl) rfl ac_arg rfl (fun _ => rfl) (ad_cons (ev_str (str_lit rfl)) (ag_one ac_dv) rfl ad_nil) rfl (fun _ => rfl) (fun _ => rfl) rfl (fun zz hz8 => ?_)
 obtain ⟨e8, i8, h8⟩ := zz
 replace hz8 : isSto e8 = true ∧ e8.1 = (ByteArray.mk #[110, 111, 116, 101, 115]) ∧ autoI e8 ∧ e8.2.2 ≤ 256 ∧ 0 ≤ i8 := hz8
 refine l_split 5 [] (by kernel_rfl) ⟨?_, trivial⟩
 refine y_callB 23000 5 rfl rfl rfl rfl rfl Tryz.call88 (ok_spec_l6Store (code := code) (i := i8) (h := h8) (nm := ByteArray.mk #[116, 97, 103, 115]) (by omega) (by omega) (by decide +kernel)) (ev_tmp rfl) rfl ac_arg rfl (fun _ => rfl) (ad_cons (ev_str (str_lit rfl)) (ag_one ac_dv) rfl ad_nil) rfl (fun _ => rfl) (fun _ => rfl) rfl (fun zz hz10 => ?_)
 obtain ⟨e10, i10, h10⟩ := zz
 replace hz10 : isSto e10 = true ∧ e10.1 = (ByteArray.mk #[116, 97, 103, 115]) ∧ autoI e10 ∧ e10.2.2 ≤ 256 ∧ 0 ≤ i10 := hz10
 refine l_split 6 [] (by kernel_rfl) ⟨?_, trivial⟩
 refine y_buildN (k := 11) (js := [31001, 32001]) 6 hT rfl rfl rfl rfl rfl rfl rfl rfl rfl rfl rfl rfl (ep_cons (ev_tmp rfl) rfl rfl rfl (ep_cons (ev_tmp rfl) rfl rfl rfl ep_nil)) (ow_cons' (ow_dv rfl) (ow_cons' (ow_key rfl) (ow_cons' (ow_dv rfl) (ow_cons' (ow_dv rfl) (ow_cons' (ow_key rfl) (ow_cons' (ow_dv rfl) ow_nil rfl) rfl) rfl) rfl) rfl) rfl) (by decide) (by decide) rfl rfl rfl rfl rfl ?_
 simp only [killT, killB, SV.kill, CV.kill, kk, Nat.reduceBEq]
 refine l_chain [7, 8, 9] rfl rfl (by kernel_rfl) ?_
 refine o_appK (k := 90031) (j := 11) (cs := [e8, e10].flatMap eStore) (n := [e8, e10].length) hT rfl rfl rfl rfl rfl rfl rfl (ev_tmp rfl) rfl rfl rfl (ev_tmp rfl) rfl rfl (by decide) (by simp [kcOf, KC.old]) (by simp [kcOf, KC.old]) (rfl) (rfl) ?_
 simp only [killT, killB, SV.kill, CV.kill, kk, Nat.reduceBEq]
 iterate 5 refine z ?_
 refine yO rfl rfl (pu_move (.inl rfl) (ev_abox (ev_tmp rfl))) rfl ?_
 refine o_callB 15000 rfl rfl rfl Tryz.call32 (ok_spec_l1Once (code := code) (i := i10) (h := h10) (n := 2) (by omega) (by omega) ) (ev_tmp rfl) rfl ac_arg rfl (fun _ => rfl) (ad_cons (ev_int (inR_lit rfl)) (ag_one ac_dv) rfl ad_nil) rfl (fun _ => rfl) (fun _ => rfl) (fun zz hz15 => ?_)
 obtain ⟨e15, i15, h15⟩ := zz
 replace hz15 : 0 ≤ i15 := hz15
 refine z ?_
 refine yQ rfl (fun c1 => ?_) fun c1 => ?_
 ·skip
  refine ok_regionL [0] [0, 1, 2, 3, 4] (oB := [2, 3]) (oK := [90031, 90900]) (by kernel_rfl) rfl rfl ?_
  refine l_take 0 rfl (by kernel_rfl) rfl rfl (pu_move (.inl rfl) (ev_abox (ev_tmp rfl))) rfl rfl rfl rfl rfl ?_
  refine l_take 3 rfl (by kernel_rfl) rfl rfl (pu_fieldBox hT rfl rfl rfl (ev_tmp rfl)) rfl rfl rfl rfl rfl ?_
  refine l_take 4 rfl (by kernel_rfl) rfl rfl (pu_loadBox1 hT rfl rfl (ev_tmp rfl) rfl rfl) rfl rfl rfl rfl rfl ?_
  refine l_split 1 [] (by kernel_rfl) ⟨?_, trivial⟩
  refine y_callB 24000 1 rfl rfl rfl rfl rfl Tryz.call88 (ok_spec_l6Store (code := code) (i := i15) (h := h15) (nm := ByteArray.mk #[108, 105, 115, 116, 115]) (by omega) (by omega) (by decide +kernel)) (ev_tmp rfl) rfl ac_arg rfl (fun _ => rfl) (ad_cons (ev_str (str_lit rfl)) (ag_one ac_dv) rfl ad_nil) rfl (fun _ => rfl) (fun _ => rfl) rfl (fun zz hz17 => ?_)
  obtain ⟨e17, i17, h17⟩ := zz
  replace hz17 : isSto e17 = true ∧ e17.1 = (ByteArray.mk #[108, 105, 115, 116, 115]) ∧ autoI e17 ∧ e17.2.2 ≤ 256 ∧ 0 ≤ i17 := hz17
  refine l_split 2 [] (by kernel_rfl) ⟨?_, trivial⟩
  refine y_buildN (k := 18) (js := [33001]) 2 hT rfl rfl rfl rfl rfl rfl rfl rfl rfl rfl rfl rfl (ep_cons (ev_tmp rfl) rfl rfl rfl ep_nil) (ow_cons' (ow_dv rfl) (ow_cons' (ow_key rfl) (ow_cons' (ow_dv rfl) ow_nil rfl) rfl) rfl) (by decide) (by decide) rfl rfl rfl rfl rfl ?_
  simp only [killT, killB, SV.kill, CV.kill, kk, Nat.reduceBEq]
  refine l_chain [5, 6, 7] rfl rfl (by kernel_rfl) ?_
  refine o_appK (k := 18) (j := 90031) (cs := [e17, e8, e10].flatMap eStore) (n := [e17, e8, e10].length) hT rfl rfl rfl rfl rfl rfl rfl (ev_tmp rfl) rfl rfl rfl (ev_tmp rfl) rfl rfl (by decide) (by simp [kcOf, KC.old]) (by simp [kcOf, KC.old]) (rfl) (rfl) ?_
  simp only [killT, killB, SV.kill, CV.kill, kk, Nat.reduceBEq]
  iterate 5 refine z ?_
  refine yO rfl rfl (pu_move (.inl rfl) (ev_abox (ev_tmp rfl))) rfl ?_
  refine o_callB 24000 rfl rfl rfl Tryz.call32 (ok_spec_l1Once (code := code) (i := i17) (h := h17) (n := 3) (by omega) (by omega) ) (ev_tmp rfl) rfl ac_arg rfl (fun _ => rfl) (ad_cons (ev_int (inR_lit rfl)) (ag_one ac_dv) rfl ad_nil) rfl (fun _ => rfl) (fun _ => rfl) (fun zz hz24 => ?_)
  obtain ⟨e24, i24, h24⟩ := zz
  replace hz24 : 0 ≤ i24 := hz24
  refine z ?_
  refine yQ rfl (fun c2 => ?_) fun c2 => ?_
  ·skip
   refine ok_regionL [0] [0, 1, 2, 3, 4, 5] (oB := [2, 3]) (oK := [18, 90900]) (by kernel_rfl) rfl rfl ?_
   refine l_take 0 rfl (by kernel_rfl) rfl rfl (pu_loadBoxA hT rfl rfl (ev_tmp rfl) rfl rfl) rfl rfl rfl rfl rfl ?_
   refine l_take 1 rfl (by kernel_rfl) rfl rfl (pu_move (.inl rfl) (ev_abox (ev_tmp rfl))) rfl rfl rfl rfl rfl ?_
   refine l_split 2 [] (by kernel_rfl) ⟨?_, trivial⟩
   refine y_callB 28000 2 rfl rfl rfl rfl rfl Tryz.call63 (ok_spec_l5Name (code := code) (i := i24) (h := h24) (by omega) (by omega)) (ev_tmp rfl) rfl ac_arg rfl (fun _ => rfl) ad_nil rfl (fun _ => rfl) (fun _ => rfl) rfl (fun zz hz28 => ?_)
   obtain ⟨e28, i28, h28⟩ := zz
   replace hz28 : isName e28 = true ∧ 0 ≤ i28 := hz28
   refine l_take 3 rfl (by kernel_rfl) rfl rfl (pu_build hT hB rfl rfl rfl (bp_cons (ev_int (inR_lit rfl)) rfl rfl rfl rfl rfl (bp_cons (ev_str (str_lit rfl)) rfl rfl rfl rfl rfl (bp_cons (ev_tmp rfl) rfl rfl rfl rfl rfl bp_nil)))) rfl rfl rfl rfl rfl ?_
   refine l_split 4 [] (by kernel_rfl) ⟨?_, trivial⟩
   refine y_callK 100000 4 rfl rfl rfl rfl Tryz.call89 (ok_spec_ApplyUpgrade (d := (ByteArray.mk #[97, 112, 112], 1, [e17, e8, e10], [])) (u := (3, ByteArray.mk #[110, 111, 116, 101, 115], e28)) (by have := isDb_w2 (base3 hz17.1 hz17.2.1 hz8.1 hz8.2.1 hz10.1 hz10.2.1); omega)) (as_cons (ev_tmp rfl) (ag_agg (ag_cons ac_dv (ag_cons ac_dv (ag_cons (ac_key' rfl rfl) (ag_cons (ac_key' rfl rfl) ag_nil))))) (as_cons (ev_tmp rfl) (ag_agg (ag_cons ac_dv (ag_cons ac_dv (ag_cons ac_dv ag_nil)))) as_nil)) rfl rfl rfl rfl rfl rfl ?_
   refine l_take 5 rfl (by kernel_rfl) rfl rfl (pu_move (.inl rfl) (ev_tmp rfl)) rfl rfl rfl rfl rfl ?_
   refine l_takeX 6 rfl (by kernel_rfl) rfl rfl rfl (pu_extractA rfl (ev_tmp rfl) rfl) rfl rfl ?_
   refine l_takeX 7 rfl (by kernel_rfl) rfl rfl rfl (pu_extract1 rfl (ev_tmp rfl) rfl) rfl rfl ?_
   refine l_chain [8] rfl rfl (by kernel_rfl) ?_
   iterate 6 refine z ?_
   refine ok_weak (weak_add (k := 90031) (e := 110) (sz := 3) rfl rfl) ?_
   try simp only [killT, killB, SV.kill, CV.kill, kk, Nat.reduceBEq]
   refine ok_weak (weak_swapB (b := 2) (i := 2) (k := 190031) (k' := 90031) rfl rfl rfl rfl (by simp) rfl rfl) ?_
   try simp only [killT, killB, SV.kill, CV.kill, kk, Nat.reduceBEq]
   refine ok_weak (weak_swapB (b := 2) (i := 3) (k := 190900) (k' := 90900) rfl rfl rfl rfl (by simp) rfl rfl) ?_
   try simp only [killT, killB, SV.kill, CV.kill, kk, Nat.reduceBEq]
   refine ok_weak (σ' := ⟨[(2, .box 2 0), (0, .abox 0)], [(2, 73, [(.dv [] (.str ((upA ((ByteArray.mk #[97, 112, 112], (1, ([e17, e8, e10], [])))) ((3, (ByteArray.mk #[110, 111, 116, 101, 115], e28)))).1.1))), (.dv [] (.int .i64 ((upA ((ByteArray.mk #[97, 112, 112], (1, ([e17, e8, e10], [])))) ((3, (ByteArray.mk #[110, 111, 116, 101, 115], e28)))).1.2.1))), (.key 90031), (.key 90900)]), (0, 80, [(.arg 900001 (bytesD (code))), (.dv [] (.int .i64 (i28))), (.dv [] (.int .i64 (h28)))])], [(90031, some (kcOf false (storesD ((upA ((ByteArray.mk #[97, 112, 112], (1, ([e17, e8, e10], [])))) ((3, (ByteArray.mk #[110, 111, 116, 101, 115], e28)))).1.2.2.1)))), (90900, some (kcOf false (defsD ((upA ((ByteArray.mk #[97, 112, 112], (1, ([e17, e8, e10], [])))) ((3, (ByteArray.mk #[110, 111, 116, 101, 115], e28)))).1.2.2.2))))]⟩) (weak_sub ⟨rfl, rfl, trivial⟩ ⟨rfl, rfl, trivial⟩ ⟨rfl, rfl, trivial⟩ rfl) ?_
   refine z ?_
   refine fin1 (res_cell hT rfl rfl rfl rfl) ⟨((((upA ((ByteArray.mk #[97, 112, 112], (1, ([e17, e8, e10], [])))) ((3, (ByteArray.mk #[110, 111, 116, 101, 115], e28)))).1.1), (((upA ((ByteArray.mk #[97, 112, 112], (1, ([e17, e8, e10], [])))) ((3, (ByteArray.mk #[110, 111, 116, 101, 115], e28)))).1.2.1), (((upA ((ByteArray.mk #[97, 112, 112], (1, ([e17, e8, e10], [])))) ((3, (ByteArray.mk #[110, 111, 116, 101, 115], e28)))).1.2.2.1), ((upA ((ByteArray.mk #[97, 112, 112], (1, ([e17, e8, e10], [])))) ((3, (ByteArray.mk #[110, 111, 116, 101, 115], e28)))).1.2.2.2)))), i28, h28), ?_, rfl, rfl, rfl, rfl⟩
   try dsimp only
   exact ⟨upA_keep (base3 hz17.1 hz17.2.1 hz8.1 hz8.2.1 hz10.1 hz10.2.1), by omega⟩
  ·skip
   iterate 6 refine z ?_
   refine ok_weak (weak_add (k := 90031) (e := 110) (sz := 3) rfl rfl) ?_
   try simp only [killT, killB, SV.kill, CV.kill, kk, Nat.reduceBEq]
   refine ok_weak (weak_swapB (b := 2) (i := 2) (k := 18) (k' := 90031) rfl rfl rfl rfl (by simp) rfl rfl) ?_
   try simp only [killT, killB, SV.kill, CV.kill, kk, Nat.reduceBEq]
   refine ok_weak (σ' := ⟨[(2, .box 2 0), (0, .abox 0)], [(2, 73, [(.dv [] (.str (ByteArray.mk #[97, 112, 112]))), (.dv [] (.int .i64 (1))), (.key 90031), (.key 90900)]), (0, 80, [(.arg 900001 (bytesD (code))), (.dv [] (.int .i64 (i24))), (.dv [] (.int .i64 (h24)))])], [(90031, some (kcOf false (.sl 110 3 ([e17, e8, e10].length) ([e17, e8, e10].flatMap eStore)))), (90900, some (kcOf false (.sl 113 2 (0) ([]))))]⟩) (weak_sub ⟨rfl, rfl, trivial⟩ ⟨rfl, rfl, trivial⟩ ⟨rfl, rfl, trivial⟩ rfl) ?_
   refine z ?_
   refine fin1 (res_cell hT rfl rfl rfl rfl) ⟨(((ByteArray.mk #[97, 112, 112]), ((1), (([e17, e8, e10]), ([])))), i24, h24), ?_, rfl, rfl, rfl, rfl⟩
   try dsimp only
   exact ⟨base3 hz17.1 hz17.2.1 hz8.1 hz8.2.1 hz10.1 hz10.2.1, by omega⟩
 ·skip
  iterate 4 refine z ?_
  refine yO rfl rfl (pu_move (.inl rfl) (ev_abox (ev_tmp rfl))) rfl ?_
  refine o_callB 24000 rfl rfl rfl Tryz.call32 (ok_spec_l1Once (code := code) (i := i15) (h := h15) (n := 3) (by omega) (by omega) ) (ev_tmp rfl) rfl ac_arg rfl (fun _ => rfl) (ad_cons (ev_int (inR_lit rfl)) (ag_one ac_dv) rfl ad_nil) rfl (fun _ => rfl) (fun _ => rfl) (fun zz hz24 => ?_)
  obtain ⟨e24, i24, h24⟩ := zz
  replace hz24 : 0 ≤ i24 := hz24
  refine z ?_
  refine yQ rfl (fun c3 => ?_) fun c3 => ?_
  ·skip
   refine ok_regionL [0] [0, 1, 2, 3, 4, 5] (oB := [2, 3]) (oK := [90031, 90900]) (by kernel_rfl) rfl rfl ?_
   refine l_take 0 rfl (by kernel_rfl) rfl rfl (pu_loadBoxA hT rfl rfl (ev_tmp rfl) rfl rfl) rfl rfl rfl rfl rfl ?_
   refine l_take 1 rfl (by kernel_rfl) rfl rfl (pu_move (.inl rfl) (ev_abox (ev_tmp rfl))) rfl rfl rfl rfl rfl ?_
   refine l_split 2 [] (by kernel_rfl) ⟨?_, trivial⟩
   refine y_callB 28000 2 rfl rfl rfl rfl rfl Tryz.call63 (ok_spec_l5Name (code := code) (i := i24) (h := h24) (by omega) (by omega)) (ev_tmp rfl) rfl ac_arg rfl (fun _ => rfl) ad_nil rfl (fun _ => rfl) (fun _ => rfl) rfl (fun zz hz28 => ?_)
   obtain ⟨e28, i28, h28⟩ := zz
   replace hz28 : isName e28 = true ∧ 0 ≤ i28 := hz28
   refine l_take 3 rfl (by kernel_rfl) rfl rfl (pu_build hT hB rfl rfl rfl (bp_cons (ev_int (inR_lit rfl)) rfl rfl rfl rfl rfl (bp_cons (ev_str (str_lit rfl)) rfl rfl rfl rfl rfl (bp_cons (ev_tmp rfl) rfl rfl rfl rfl rfl bp_nil)))) rfl rfl rfl rfl rfl ?_
   refine l_split 4 [] (by kernel_rfl) ⟨?_, trivial⟩
   refine y_callK 100000 4 rfl rfl rfl rfl Tryz.call89 (ok_spec_ApplyUpgrade (d := (ByteArray.mk #[97, 112, 112], 1, [e8, e10], [])) (u := (3, ByteArray.mk #[110, 111, 116, 101, 115], e28)) (by have := isDb_w2 (base2 hz8.1 hz8.2.1 hz10.1 hz10.2.1); omega)) (as_cons (ev_tmp rfl) (ag_agg (ag_cons ac_dv (ag_cons ac_dv (ag_cons (ac_key' rfl rfl) (ag_cons (ac_key' rfl rfl) ag_nil))))) (as_cons (ev_tmp rfl) (ag_agg (ag_cons ac_dv (ag_cons ac_dv (ag_cons ac_dv ag_nil)))) as_nil)) rfl rfl rfl rfl rfl rfl ?_
   refine l_take 5 rfl (by kernel_rfl) rfl rfl (pu_move (.inl rfl) (ev_tmp rfl)) rfl rfl rfl rfl rfl ?_
   refine l_takeX 6 rfl (by kernel_rfl) rfl rfl rfl (pu_extractA rfl (ev_tmp rfl) rfl) rfl rfl ?_
   refine l_takeX 7 rfl (by kernel_rfl) rfl rfl rfl (pu_extract1 rfl (ev_tmp rfl) rfl) rfl rfl ?_
   refine l_chain [8] rfl rfl (by kernel_rfl) ?_
   iterate 6 refine z ?_
   refine ok_weak (weak_swapB (b := 2) (i := 2) (k := 190031) (k' := 90031) rfl rfl rfl rfl (by simp) rfl rfl) ?_
   try simp only [killT, killB, SV.kill, CV.kill, kk, Nat.reduceBEq]
   refine ok_weak (weak_swapB (b := 2) (i := 3) (k := 190900) (k' := 90900) rfl rfl rfl rfl (by simp) rfl rfl) ?_
   try simp only [killT, killB, SV.kill, CV.kill, kk, Nat.reduceBEq]
   refine ok_weak (σ' := ⟨[(2, .box 2 0), (0, .abox 0)], [(2, 73, [(.dv [] (.str ((upA ((ByteArray.mk #[97, 112, 112], (1, ([e8, e10], [])))) ((3, (ByteArray.mk #[110, 111, 116, 101, 115], e28)))).1.1))), (.dv [] (.int .i64 ((upA ((ByteArray.mk #[97, 112, 112], (1, ([e8, e10], [])))) ((3, (ByteArray.mk #[110, 111, 116, 101, 115], e28)))).1.2.1))), (.key 90031), (.key 90900)]), (0, 80, [(.arg 900001 (bytesD (code))), (.dv [] (.int .i64 (i28))), (.dv [] (.int .i64 (h28)))])], [(90031, some (kcOf false (storesD ((upA ((ByteArray.mk #[97, 112, 112], (1, ([e8, e10], [])))) ((3, (ByteArray.mk #[110, 111, 116, 101, 115], e28)))).1.2.2.1)))), (90900, some (kcOf false (defsD ((upA ((ByteArray.mk #[97, 112, 112], (1, ([e8, e10], [])))) ((3, (ByteArray.mk #[110, 111, 116, 101, 115], e28)))).1.2.2.2))))]⟩) (weak_sub ⟨rfl, rfl, trivial⟩ ⟨rfl, rfl, trivial⟩ ⟨rfl, rfl, trivial⟩ rfl) ?_
   refine z ?_
   refine fin1 (res_cell hT rfl rfl rfl rfl) ⟨((((upA ((ByteArray.mk #[97, 112, 112], (1, ([e8, e10], [])))) ((3, (ByteArray.mk #[110, 111, 116, 101, 115], e28)))).1.1), (((upA ((ByteArray.mk #[97, 112, 112], (1, ([e8, e10], [])))) ((3, (ByteArray.mk #[110, 111, 116, 101, 115], e28)))).1.2.1), (((upA ((ByteArray.mk #[97, 112, 112], (1, ([e8, e10], [])))) ((3, (ByteArray.mk #[110, 111, 116, 101, 115], e28)))).1.2.2.1), ((upA ((ByteArray.mk #[97, 112, 112], (1, ([e8, e10], [])))) ((3, (ByteArray.mk #[110, 111, 116, 101, 115], e28)))).1.2.2.2)))), i28, h28), ?_, rfl, rfl, rfl, rfl⟩
   try dsimp only
   exact ⟨upA_keep (base2 hz8.1 hz8.2.1 hz10.1 hz10.2.1), by omega⟩
  ·skip
   iterate 6 refine z ?_
   refine ok_weak (σ' := ⟨[(2, .box 2 0), (0, .abox 0)], [(2, 73, [(.dv [] (.str (ByteArray.mk #[97, 112, 112]))), (.dv [] (.int .i64 (1))), (.key 90031), (.key 90900)]), (0, 80, [(.arg 900001 (bytesD (code))), (.dv [] (.int .i64 (i24))), (.dv [] (.int .i64 (h24)))])], [(90031, some (kcOf false (.sl 110 3 ([e8, e10].length) ([e8, e10].flatMap eStore)))), (90900, some (kcOf false (.sl 113 2 (0) ([]))))]⟩) (weak_sub ⟨rfl, rfl, trivial⟩ ⟨rfl, rfl, trivial⟩ ⟨rfl, rfl, trivial⟩ rfl) ?_
   refine z ?_
   refine fin1 (res_cell hT rfl rfl rfl rfl) ⟨(((ByteArray.mk #[97, 112, 112]), ((1), (([e8, e10]), ([])))), i24, h24), ?_, rfl, rfl, rfl, rfl⟩
   try dsimp only
   exact ⟨base2 hz8.1 hz8.2.1 hz10.1 hz10.2.1, by omega⟩
theorem ok_spec_l8Any {code : List UInt8} {i h : Int} (hc : code.length ≤ 1048576) (hi : 0 ≤ i) : BFn Tryz.prog 55 [] 80 (bytesD (code)) [.dv [] (.int .i64 (i)), .dv [] (.int .i64 (h))] (fun zz : DbT × Int × Int => wDatabase zz.1 ≤ 8000 ∧ 0 ≤ zz.2.1) (fun zz : DbT × Int × Int => .agg [(.dv [] (.str (zz.1.1))), (.dv [] (.int .i64 (zz.1.2.1))), (.key 90031), (.key 90900)]) (fun zz : DbT × Int × Int => [(90031, some (kcOf false (storesD (zz.1.2.2.1)))), (90900, some (kcOf false (defsD (zz.1.2.2.2))))]) (fun zz : DbT × Int × Int => [.dv [] (.int .i64 (zz.2.1)), .dv [] (.int .i64 (zz.2.2))]) := by
 refine ⟨fn_introS Tryz.func55 rfl Tryz.ntmps55 Tryz.results55 rfl (fun C => ?_)⟩
 iterate 4 refine z ?_
 refine yO rfl rfl (pu_move (.inl rfl) (ev_abox (ev_tmp rfl))) rfl ?_
 refine o_callB 0 rfl rfl rfl Tryz.call76 (ok_spec_l8Base (code := code) (i := i) (h := h) (by omega) (by omega)) (ev_tmp rfl) rfl ac_arg rfl (fun _ => rfl) ad_nil rfl (fun _ => rfl) (fun _ => rfl) (fun zz hz5 => ?_)
 obtain ⟨e5, i5, h5⟩ := zz
 replace hz5 : isDb e5 = true ∧ 0 ≤ i5 := hz5
 have hw := isDb_w2 hz5.1
 have hl : wDatabase e5 = e5.1.size + (e5.2.2.1.length + wSum wStore e5.2.2.1) + (e5.2.2.2.length + wSum wIndexDef e5.2.2.2) := rfl
 iterate 5 refine z ?_
 refine yO rfl rfl (pu_move (.inl rfl) (ev_abox (ev_tmp rfl))) rfl ?_
 refine o_callB 7000 rfl rfl rfl Tryz.call49 (ok_spec_l1Below (code := code) (i := i5) (h := h5) (n := 12) (by omega) (by omega) ) (ev_tmp rfl) rfl ac_arg rfl (fun _ => rfl) (ad_cons (ev_int (inR_lit rfl)) (ag_one ac_dv) rfl ad_nil) rfl (fun _ => rfl) (fun _ => rfl) (fun zz hz7 => ?_)
 obtain ⟨e7, i7, h7⟩ := zz
 replace hz7 : 0 ≤ e7 ∧ (0 < (12 : Int) → e7 < (12 : Int)) ∧ 0 ≤ i7 := hz7
 iterate 6 refine z ?_
 refine yQ rfl (fun c1 => ?_) fun c1 => ?_
 ·skip
  have d1 := of_decide_eq_true c1
  refine ok_region ?_
  refine z ?_
  refine o_store hT rfl rfl rfl rfl (ev_tmp rfl) (ev_str (str_lit rfl)) rfl rfl rfl rfl rfl rfl ?_
  refine ops_nil ?_
  iterate 6 refine z ?_
  refine ok_weak (σ' := ⟨[(2, .box 2 0), (0, .abox 0)], [(2, 73, [(.dv [] (.str (ByteArray.mk #[]))), (.dv [] (.int .i64 (e5.2.1))), (.key 90031), (.key 90900)]), (0, 80, [(.arg 900001 (bytesD (code))), (.dv [] (.int .i64 (i7))), (.dv [] (.int .i64 (h7)))])], [(90031, some (kcOf false (storesD (e5.2.2.1)))), (90900, some (kcOf false (defsD (e5.2.2.2))))]⟩) (weak_sub ⟨rfl, rfl, trivial⟩ ⟨rfl, rfl, trivial⟩ ⟨rfl, rfl, trivial⟩ rfl) ?_
  refine z ?_
  refine fin1 (res_cell hT rfl rfl rfl rfl) ⟨(((ByteArray.mk #[]), ((e5.2.1), ((e5.2.2.1), (e5.2.2.2)))), i7, h7), ?_, rfl, rfl, rfl, rfl⟩
  try dsimp only
  exact ⟨by have h2 : wDatabase (ByteArray.mk #[], e5.2.1, e5.2.2.1, e5.2.2.2) = (ByteArray.mk #[]).size + ((e5.2.2.1).length + wSum wStore (e5.2.2.1)) + ((e5.2.2.2).length + wSum wIndexDef (e5.2.2.2)) := rfl; have h3 : ByteArray.empty.size = 0 := rfl; have h4 : (ByteArray.mk #[]).size = 0 := rfl; omega, by omega⟩
 ·skip
  have d1 := of_decide_eq_false c1
  iterate 4 refine z ?_
  refine yQ rfl (fun c2 => ?_) fun c2 => ?_
  ·skip
   have d2 := of_decide_eq_true c2
   refine ok_region ?_
   refine yO rfl rfl (pu_move (.inl rfl) (ev_abox (ev_tmp rfl))) rfl ?_
   refine o_buildN (k := 14) (js := []) hT rfl rfl rfl rfl rfl rfl rfl rfl rfl rfl rfl (ep_cons (ev_int (inR_lit rfl)) rfl rfl rfl (ep_cons (ev_int (inR_lit rfl)) rfl rfl rfl (ep_cons (ev_int (inR_lit rfl)) rfl rfl rfl (ep_cons (ev_int (inR_lit rfl)) rfl rfl rfl (ep_cons (ev_int (inR_lit rfl)) rfl rfl rfl ep_nil))))) (ow_cons' (ow_dv rfl) (ow_cons' (ow_dv rfl) (ow_cons' (ow_dv rfl) (ow_cons' (ow_dv rfl) (ow_cons' (ow_dv rfl) ow_nil rfl) rfl) rfl) rfl) rfl) (by decide) (by decide) rfl rfl ?_
   simp only [killT, killB, SV.kill, CV.kill, kk, Nat.reduceBEq]
   refine o_callB 15000 rfl rfl rfl Tryz.call51 (ok_spec_l1Int (code := code) (i := i7) (h := h7) (l := [-1, 0, 999, 1000, 1001]) (by omega) (by omega) (by exact Nat.succ_pos _)) (ev_tmp rfl) rfl ac_arg rfl (fun _ => rfl) (ad_cons (ev_tmp rfl) (ag_one (ac_key' rfl rfl)) rfl ad_nil) rfl (fun _ => rfl) (fun _ => rfl) (fun zz hz15 => ?_)
   obtain ⟨e15, i15, h15⟩ := zz
   replace hz15 : e15 ∈ ([-1, 0, 999, 1000, 1001]) ∧ 0 ≤ i15 := hz15
   iterate 2 refine z ?_
   refine ops_nil ?_
   iterate 6 refine z ?_
   refine ok_weak (σ' := ⟨[(2, .box 2 0), (0, .abox 0)], [(2, 73, [(.dv [] (.str (e5.1))), (.dv [] (.int .i64 (e15))), (.key 90031), (.key 90900)]), (0, 80, [(.arg 900001 (bytesD (code))), (.dv [] (.int .i64 (i15))), (.dv [] (.int .i64 (h15)))])], [(90031, some (kcOf false (storesD (e5.2.2.1)))), (90900, some (kcOf false (defsD (e5.2.2.2))))]⟩) (weak_sub ⟨rfl, rfl, trivial⟩ ⟨rfl, rfl, trivial⟩ ⟨rfl, rfl, trivial⟩ rfl) ?_
   refine z ?_
   refine fin1 (res_cell hT rfl rfl rfl rfl) ⟨(((e5.1), ((e15), ((e5.2.2.1), (e5.2.2.2)))), i15, h15), ?_, rfl, rfl, rfl, rfl⟩
   try dsimp only
   exact ⟨by have h2 : wDatabase (e5.1, e15, e5.2.2.1, e5.2.2.2) = (e5.1).size + ((e5.2.2.1).length + wSum wStore (e5.2.2.1)) + ((e5.2.2.2).length + wSum wIndexDef (e5.2.2.2)) := rfl; omega, by omega⟩
  ·skip
   have d2 := of_decide_eq_false c2
   iterate 4 refine z ?_
   refine yQ rfl (fun c3 => ?_) fun c3 => ?_
   ·skip
    have d3 := of_decide_eq_true c3
    refine ok_regionL [0] [0, 1, 2, 3, 4] (oB := [2, 3]) (oK := [90031, 90900]) (by kernel_rfl) rfl rfl ?_
    refine l_take 0 rfl (by kernel_rfl) rfl rfl (pu_fieldBox hT rfl rfl rfl (ev_tmp rfl)) rfl rfl rfl rfl rfl ?_
    refine l_take 1 rfl (by kernel_rfl) rfl rfl (pu_loadBox1 hT rfl rfl (ev_tmp rfl) rfl rfl) rfl rfl rfl rfl rfl ?_
    refine l_take 2 rfl (by kernel_rfl) rfl rfl (pu_move (.inl rfl) (ev_abox (ev_tmp rfl))) rfl rfl rfl rfl rfl ?_
    refine l_split 3 [] (by kernel_rfl) ⟨?_, trivial⟩
    refine y_callB 22000 3 rfl rfl rfl rfl rfl Tryz.call77 (ok_spec_l6Any (code := code) (i := i7) (h := h7) (by omega) (by omega)) (ev_tmp rfl) rfl ac_arg rfl (fun _ => rfl) ad_nil rfl (fun _ => rfl) (fun _ => rfl) rfl (fun zz hz22 => ?_)
    obtain ⟨e22, i22, h22⟩ := zz
    replace hz22 : wStore e22 ≤ 1500 ∧ 0 ≤ i22 := hz22
    refine l_split 4 [] (by kernel_rfl) ⟨?_, trivial⟩
    refine y_buildN (k := 23) (js := [31001]) 4 hT rfl rfl rfl rfl rfl rfl rfl rfl rfl rfl rfl rfl (ep_cons (ev_tmp rfl) rfl rfl rfl ep_nil) (ow_cons' (ow_dv rfl) (ow_cons' (ow_key rfl) (ow_cons' (ow_dv rfl) ow_nil rfl) rfl) rfl) (by decide) (by decide) rfl rfl rfl rfl rfl ?_
    simp only [killT, killB, SV.kill, CV.kill, kk, Nat.reduceBEq]
    refine l_chain [5, 6, 7] rfl rfl (by kernel_rfl) ?_
    refine o_appK (k := 90031) (j := 23) (cs := (e5.2.2.1 ++ [e22]).flatMap eStore) (n := (e5.2.2.1 ++ [e22]).length) hT rfl rfl rfl rfl rfl rfl rfl (ev_tmp rfl) rfl rfl rfl (ev_tmp rfl) rfl rfl (by decide) (by dsimp only [kcOf, KC.old, storesD, listD]; omega) (by dsimp only [kcOf, KC.old, storesD, listD]; omega) (by rw [List.length_append]; rfl) (by rw [List.flatMap_append]; rfl) ?_
    simp only [killT, killB, SV.kill, CV.kill, kk, Nat.reduceBEq]
    iterate 2 refine z ?_
    refine ops_nil ?_
    iterate 6 refine z ?_
    refine ok_weak (σ' := ⟨[(2, .box 2 0), (0, .abox 0)], [(2, 73, [(.dv [] (.str (e5.1))), (.dv [] (.int .i64 (e5.2.1))), (.key 90031), (.key 90900)]), (0, 80, [(.arg 900001 (bytesD (code))), (.dv [] (.int .i64 (i22))), (.dv [] (.int .i64 (h22)))])], [(90031, some (kcOf false (.sl 110 3 ((e5.2.2.1 ++ [e22]).length) ((e5.2.2.1 ++ [e22]).flatMap eStore)))), (90900, some (kcOf false (defsD (e5.2.2.2))))]⟩) (weak_sub ⟨rfl, rfl, trivial⟩ ⟨rfl, rfl, trivial⟩ ⟨rfl, rfl, trivial⟩ rfl) ?_
    refine z ?_
    refine fin1 (res_cell hT rfl rfl rfl rfl) ⟨(((e5.1), ((e5.2.1), (((e5.2.2.1 ++ [e22])), (e5.2.2.2)))), i22, h22), ?_, rfl, rfl, rfl, rfl⟩
    try dsimp only
    exact ⟨by have h2 : wDatabase (e5.1, e5.2.1, (e5.2.2.1 ++ [e22]), e5.2.2.2) = (e5.1).size + (((e5.2.2.1 ++ [e22])).length + wSum wStore ((e5.2.2.1 ++ [e22]))) + ((e5.2.2.2).length + wSum wIndexDef (e5.2.2.2)) := rfl; have h3 : wSum wStore [e22] = wStore e22 := (by simp [wSum]); rw [wSum_app, h3, List.length_append, List.length_singleton] at h2; omega, by omega⟩
   ·skip
    have d3 := of_decide_eq_false c3
    iterate 4 refine z ?_
    refine yQ rfl (fun c4 => ?_) fun c4 => ?_
    ·skip
     have d4 := of_decide_eq_true c4
     refine ok_regionL [0] [0, 1, 2, 3, 4, 5, 6, 7, 8, 9] (oB := [2, 3]) (oK := [90031, 90900]) (by kernel_rfl) rfl rfl ?_
     refine l_take 0 rfl (by kernel_rfl) rfl rfl (pu_fieldBox hT rfl rfl rfl (ev_tmp rfl)) rfl rfl rfl rfl rfl ?_
     refine l_take 1 rfl (by kernel_rfl) rfl rfl (pu_loadBox1 hT rfl rfl (ev_tmp rfl) rfl rfl) rfl rfl rfl rfl rfl ?_
     refine l_take 2 rfl (by kernel_rfl) rfl rfl (pu_move (.inl rfl) (ev_abox (ev_tmp rfl))) rfl rfl rfl rfl rfl ?_
     refine l_take 5 rfl (by kernel_rfl) rfl rfl (pu_move (.inl rfl) (ev_abox (ev_tmp rfl))) rfl rfl rfl rfl rfl ?_
     refine l_split 3 [6] (by kernel_rfl) ⟨?_, ?_, trivial⟩
     ·skip
      refine y_buildN (k := 31) (js := []) 3 hT rfl rfl rfl rfl rfl rfl rfl rfl rfl rfl rfl rfl (ep_cons (ev_str (str_lit rfl)) rfl rfl rfl (ep_cons (ev_str (str_lit rfl)) rfl rfl rfl (ep_cons (ev_str (str_lit rfl)) rfl rfl rfl ep_nil))) (ow_cons' (ow_dv rfl) (ow_cons' (ow_dv rfl) (ow_cons' (ow_dv rfl) ow_nil rfl) rfl) rfl) (by decide) (by decide) rfl rfl rfl rfl rfl ?_
      simp only [killT, killB, SV.kill, CV.kill, kk, Nat.reduceBEq]
      refine l_split 4 [6] (by kernel_rfl) ⟨?_, ?_, trivial⟩
      ·skip
       refine y_callB 32000 4 rfl rfl rfl rfl rfl Tryz.call60 (ok_spec_l1Str (code := code) (i := i7) (h := h7) (l := [ByteArray.mk #[110, 111, 116, 101, 115], ByteArray.mk #[122, 122], ByteArray.mk #[116, 97, 103, 115]]) (by omega) (by omega) (by exact Nat.succ_pos _)) (ev_tmp rfl) rfl ac_arg rfl (fun _ => rfl) (ad_cons (ev_tmp rfl) (ag_one (ac_key' rfl rfl)) rfl ad_nil) rfl (fun _ => rfl) (fun _ => rfl) rfl (fun zz hz32 => ?_)
       obtain ⟨e32, i32, h32⟩ := zz
       replace hz32 : e32 ∈ ([ByteArray.mk #[110, 111, 116, 101, 115], ByteArray.mk #[122, 122], ByteArray.mk #[116, 97, 103, 115]]) ∧ 0 ≤ i32 := hz32
       have hs32 := size_of 5 (by decide +kernel) hz32.1
       refine l_split 6 [] (by kernel_rfl) ⟨?_, trivial⟩
       refine y_buildN (k := 34) (js := []) 6 hT rfl rfl rfl rfl rfl rfl rfl rfl rfl rfl rfl rfl (ep_cons (ev_str (str_lit rfl)) rfl rfl rfl (ep_cons (ev_str (str_lit rfl)) rfl rfl rfl (ep_cons (ev_str (str_lit rfl)) rfl rfl rfl ep_nil))) (ow_cons' (ow_dv rfl) (ow_cons' (ow_dv rfl) (ow_cons' (ow_dv rfl) ow_nil rfl) rfl) rfl) (by decide) (by decide) rfl rfl rfl rfl rfl ?_
       simp only [killT, killB, SV.kill, CV.kill, kk, Nat.reduceBEq]
       refine l_split 7 [] (by kernel_rfl) ⟨?_, trivial⟩
       refine y_callB 35000 7 rfl rfl rfl rfl rfl Tryz.call60 (ok_spec_l1Str (code := code) (i := i32) (h := h32) (l := [ByteArray.mk #[97], ByteArray.mk #[98], ByteArray.mk #[81]]) (by omega) (by omega) (by exact Nat.succ_pos _)) (ev_tmp rfl) rfl ac_arg rfl (fun _ => rfl) (ad_cons (ev_tmp rfl) (ag_one (ac_key' rfl rfl)) rfl ad_nil) rfl (fun _ => rfl) (fun _ => rfl) rfl (fun zz hz35 => ?_)
       obtain ⟨e35, i35, h35⟩ := zz
       replace hz35 : e35 ∈ ([ByteArray.mk #[97], ByteArray.mk #[98], ByteArray.mk #[81]]) ∧ 0 ≤ i35 := hz35
       have hs35 := size_of 5 (by decide +kernel) hz35.1
       refine l_take 8 rfl (by kernel_rfl) rfl rfl (pu_build hT hB rfl rfl rfl (bp_cons (ev_tmp rfl) rfl rfl rfl rfl rfl (bp_cons (ev_tmp rfl) rfl rfl rfl rfl rfl bp_nil))) rfl rfl rfl rfl rfl ?_
       refine l_split 9 [] (by kernel_rfl) ⟨?_, trivial⟩
       refine y_buildN (k := 37) (js := []) 9 hT rfl rfl rfl rfl rfl rfl rfl rfl rfl rfl rfl rfl (ep_cons (ev_tmp rfl) rfl rfl rfl ep_nil) (ow_cons' (ow_dv rfl) (ow_cons' (ow_dv rfl) ow_nil rfl) rfl) (by decide) (by decide) rfl rfl rfl rfl rfl ?_
       simp only [killT, killB, SV.kill, CV.kill, kk, Nat.reduceBEq]
       refine l_chain [10, 11, 12] rfl rfl (by kernel_rfl) ?_
       refine o_appK (k := 90900) (j := 37) (cs := (e5.2.2.2 ++ [(e32, e35)]).flatMap eDef) (n := (e5.2.2.2 ++ [(e32, e35)]).length) hT rfl rfl rfl rfl rfl rfl rfl (ev_tmp rfl) rfl rfl rfl (ev_tmp rfl) rfl rfl (by decide) (by dsimp only [kcOf, KC.old, defsD, listD]; omega) (by dsimp only [kcOf, KC.old, defsD, listD]; omega) (by rw [List.length_append]; rfl) (by rw [List.flatMap_append]; rfl) ?_
       simp only [killT, killB, SV.kill, CV.kill, kk, Nat.reduceBEq]
       iterate 2 refine z ?_
       refine ops_nil ?_
       iterate 6 refine z ?_
       refine ok_weak (σ' := ⟨[(2, .box 2 0), (0, .abox 0)], [(2, 73, [(.dv [] (.str (e5.1))), (.dv [] (.int .i64 (e5.2.1))), (.key 90031), (.key 90900)]), (0, 80, [(.arg 900001 (bytesD (code))), (.dv [] (.int .i64 (i35))), (.dv [] (.int .i64 (h35)))])], [(90031, some (kcOf false (storesD (e5.2.2.1)))), (90900, some (kcOf false (.sl 113 2 ((e5.2.2.2 ++ [(e32, e35)]).length) ((e5.2.2.2 ++ [(e32, e35)]).flatMap eDef))))]⟩) (weak_sub ⟨rfl, rfl, trivial⟩ ⟨rfl, rfl, trivial⟩ ⟨rfl, rfl, trivial⟩ rfl) ?_
       refine z ?_
       refine fin1 (res_cell hT rfl rfl rfl rfl) ⟨(((e5.1), ((e5.2.1), ((e5.2.2.1), ((e5.2.2.2 ++ [(e32, e35)]))))), i35, h35), ?_, rfl, rfl, rfl, rfl⟩
       try dsimp only
       exact ⟨by have h2 : wDatabase (e5.1, e5.2.1, e5.2.2.1, (e5.2.2.2 ++ [(e32, e35)])) = (e5.1).size + ((e5.2.2.1).length + wSum wStore (e5.2.2.1)) + (((e5.2.2.2 ++ [(e32, e35)])).length + wSum wIndexDef ((e5.2.2.2 ++ [(e32, e35)]))) := rfl; have h3 : wSum wIndexDef [(e32, e35)] = e32.size + e35.size := (by simp [wSum, wIndexDef]); rw [wSum_app, h3, List.length_append, List.length_singleton] at h2; omega, by omega⟩
      ·skip
       refine y_buildN (k := 34) (js := []) 6 hT rfl rfl rfl rfl rfl rfl rfl rfl rfl rfl rfl rfl (ep_cons (ev_str (str_lit rfl)) rfl rfl rfl (ep_cons (ev_str (str_lit rfl)) rfl rfl rfl (ep_cons (ev_str (str_lit rfl)) rfl rfl rfl ep_nil))) (ow_cons' (ow_dv rfl) (ow_cons' (ow_dv rfl) (ow_cons' (ow_dv rfl) ow_nil rfl) rfl) rfl) (by decide) (by decide) rfl rfl rfl rfl rfl ?_
       simp only [killT, killB, SV.kill, CV.kill, kk, Nat.reduceBEq]
       refine l_split 4 [] (by kernel_rfl) ⟨?_, trivial⟩
       refine y_callB 32000 4 rfl rfl rfl rfl rfl Tryz.call60 (ok_spec_l1Str (code := code) (i := i7) (h := h7) (l := [ByteArray.mk #[110, 111, 116, 101, 115], ByteArray.mk #[122, 122], ByteArray.mk #[116, 97, 103, 115]]) (by omega) (by omega) (by exact Nat.succ_pos _)) (ev_tmp rfl) rfl ac_arg rfl (fun _ => rfl) (ad_cons (ev_tmp rfl) (ag_one (ac_key' rfl rfl)) rfl ad_nil) rfl (fun _ => rfl) (fun _ => rfl) rfl (fun zz hz32 => ?_)
       obtain ⟨e32, i32, h32⟩ := zz
       replace hz32 : e32 ∈ ([ByteArray.mk #[110, 111, 116, 101, 115], ByteArray.mk #[122, 122], ByteArray.mk #[116, 97, 103, 115]]) ∧ 0 ≤ i32 := hz32
       have hs32 := size_of 5 (by decide +kernel) hz32.1
       refine l_split 7 [] (by kernel_rfl) ⟨?_, trivial⟩
       refine y_callB 35000 7 rfl rfl rfl rfl rfl Tryz.call60 (ok_spec_l1Str (code := code) (i := i32) (h := h32) (l := [ByteArray.mk #[97], ByteArray.mk #[98], ByteArray.mk #[81]]) (by omega) (by omega) (by exact Nat.succ_pos _)) (ev_tmp rfl) rfl ac_arg rfl (fun _ => rfl) (ad_cons (ev_tmp rfl) (ag_one (ac_key' rfl rfl)) rfl ad_nil) rfl (fun _ => rfl) (fun _ => rfl) rfl (fun zz hz35 => ?_)
       obtain ⟨e35, i35, h35⟩ := zz
       replace hz35 : e35 ∈ ([ByteArray.mk #[97], ByteArray.mk #[98], ByteArray.mk #[81]]) ∧ 0 ≤ i35 := hz35
       have hs35 := size_of 5 (by decide +kernel) hz35.1
       refine l_take 8 rfl (by kernel_rfl) rfl rfl (pu_build hT hB rfl rfl rfl (bp_cons (ev_tmp rfl) rfl rfl rfl rfl rfl (bp_cons (ev_tmp rfl) rfl rfl rfl rfl rfl bp_nil))) rfl rfl rfl rfl rfl ?_
       refine l_split 9 [] (by kernel_rfl) ⟨?_, trivial⟩
       refine y_buildN (k := 37) (js := []) 9 hT rfl rfl rfl rfl rfl rfl rfl rfl rfl rfl rfl rfl (ep_cons (ev_tmp rfl) rfl rfl rfl ep_nil) (ow_cons' (ow_dv rfl) (ow_cons' (ow_dv rfl) ow_nil rfl) rfl) (by decide) (by decide) rfl rfl rfl rfl rfl ?_
       simp only [killT, killB, SV.kill, CV.kill, kk, Nat.reduceBEq]
       refine l_chain [10, 11, 12] rfl rfl (by kernel_rfl) ?_
       refine o_appK (k := 90900) (j := 37) (cs := (e5.2.2.2 ++ [(e32, e35)]).flatMap eDef) (n := (e5.2.2.2 ++ [(e32, e35)]).length) hT rfl rfl rfl rfl rfl rfl rfl (ev_tmp rfl) rfl rfl rfl (ev_tmp rfl) rfl rfl (by decide) (by dsimp only [kcOf, KC.old, defsD, listD]; omega) (by dsimp only [kcOf, KC.old, defsD, listD]; omega) (by rw [List.length_append]; rfl) (by rw [List.flatMap_append]; rfl) ?_
       simp only [killT, killB, SV.kill, CV.kill, kk, Nat.reduceBEq]
       iterate 2 refine z ?_
       refine ops_nil ?_
       iterate 6 refine z ?_
       refine ok_weak (σ' := ⟨[(2, .box 2 0), (0, .abox 0)], [(2, 73, [(.dv [] (.str (e5.1))), (.dv [] (.int .i64 (e5.2.1))), (.key 90031), (.key 90900)]), (0, 80, [(.arg 900001 (bytesD (code))), (.dv [] (.int .i64 (i35))), (.dv [] (.int .i64 (h35)))])], [(90031, some (kcOf false (storesD (e5.2.2.1)))), (90900, some (kcOf false (.sl 113 2 ((e5.2.2.2 ++ [(e32, e35)]).length) ((e5.2.2.2 ++ [(e32, e35)]).flatMap eDef))))]⟩) (weak_sub ⟨rfl, rfl, trivial⟩ ⟨rfl, rfl, trivial⟩ ⟨rfl, rfl, trivial⟩ rfl) ?_
       refine z ?_
       refine fin1 (res_cell hT rfl rfl rfl rfl) ⟨(((e5.1), ((e5.2.1), ((e5.2.2.1), ((e5.2.2.2 ++ [(e32, e35)]))))), i35, h35), ?_, rfl, rfl, rfl, rfl⟩
       try dsimp only
       exact ⟨by have h2 : wDatabase (e5.1, e5.2.1, e5.2.2.1, (e5.2.2.2 ++ [(e32, e35)])) = (e5.1).size + ((e5.2.2.1).length + wSum wStore (e5.2.2.1)) + (((e5.2.2.2 ++ [(e32, e35)])).length + wSum wIndexDef ((e5.2.2.2 ++ [(e32, e35)]))) := rfl; have h3 : wSum wIndexDef [(e32, e35)] = e32.size + e35.size := (by simp [wSum, wIndexDef]); rw [wSum_app, h3, List.length_append, List.length_singleton] at h2; omega, by omega⟩
     ·skip
      refine y_buildN (k := 34) (js := []) 6 hT rfl rfl rfl rfl rfl rfl rfl rfl rfl rfl rfl rfl (ep_cons (ev_str (str_lit rfl)) rfl rfl rfl (ep_cons (ev_str (str_lit rfl)) rfl rfl rfl (ep_cons (ev_str (str_lit rfl)) rfl rfl rfl ep_nil))) (ow_cons' (ow_dv rfl) (ow_cons' (ow_dv rfl) (ow_cons' (ow_dv rfl) ow_nil rfl) rfl) rfl) (by decide) (by decide) rfl rfl rfl rfl rfl ?_
      simp only [killT, killB, SV.kill, CV.kill, kk, Nat.reduceBEq]
      refine l_split 3 [] (by kernel_rfl) ⟨?_, trivial⟩
      refine y_buildN (k := 31) (js := []) 3 hT rfl rfl rfl rfl rfl rfl rfl rfl rfl rfl rfl rfl (ep_cons (ev_str (str_lit rfl)) rfl rfl rfl (ep_cons (ev_str (str_lit rfl)) rfl rfl rfl (ep_cons (ev_str (str_lit rfl)) rfl rfl rfl ep_nil))) (ow_cons' (ow_dv rfl) (ow_cons' (ow_dv rfl) (ow_cons' (ow_dv rfl) ow_nil rfl) rfl) rfl) (by decide) (by decide) rfl rfl rfl rfl rfl ?_
      simp only [killT, killB, SV.kill, CV.kill, kk, Nat.reduceBEq]
      refine l_split 4 [] (by kernel_rfl) ⟨?_, trivial⟩
      refine y_callB 32000 4 rfl rfl rfl rfl rfl Tryz.call60 (ok_spec_l1Str (code := code) (i := i7) (h := h7) (l := [ByteArray.mk #[110, 111, 116, 101, 115], ByteArray.mk #[122, 122], ByteArray.mk #[116, 97, 103, 115]]) (by omega) (by omega) (by exact Nat.succ_pos _)) (ev_tmp rfl) rfl ac_arg rfl (fun _ => rfl) (ad_cons (ev_tmp rfl) (ag_one (ac_key' rfl rfl)) rfl ad_nil) rfl (fun _ => rfl) (fun _ => rfl) rfl (fun zz hz32 => ?_)
      obtain ⟨e32, i32, h32⟩ := zz
      replace hz32 : e32 ∈ ([ByteArray.mk #[110, 111, 116, 101, 115], ByteArray.mk #[122, 122], ByteArray.mk #[116, 97, 103, 115]]) ∧ 0 ≤ i32 := hz32
      have hs32 := size_of 5 (by decide +kernel) hz32.1
      refine l_split 7 [] (by kernel_rfl) ⟨?_, trivial⟩
      refine y_callB 35000 7 rfl rfl rfl rfl rfl Tryz.call60 (ok_spec_l1Str (code := code) (i := i32) (h := h32) (l := [ByteArray.mk #[97], ByteArray.mk #[98], ByteArray.mk #[81]]) (by omega) (by omega) (by exact Nat.succ_pos _)) (ev_tmp rfl) rfl ac_arg rfl (fun _ => rfl) (ad_cons (ev_tmp rfl) (ag_one (ac_key' rfl rfl)) rfl ad_nil) rfl (fun _ => rfl) (fun _ => rfl) rfl (fun zz hz35 => ?_)
      obtain ⟨e35, i35, h35⟩ := zz
      replace hz35 : e35 ∈ ([ByteArray.mk #[97], ByteArray.mk #[98], ByteArray.mk #[81]]) ∧ 0 ≤ i35 := hz35
      have hs35 := size_of 5 (by decide +kernel) hz35.1
      refine l_take 8 rfl (by kernel_rfl) rfl rfl (pu_build hT hB rfl rfl rfl (bp_cons (ev_tmp rfl) rfl rfl rfl rfl rfl (bp_cons (ev_tmp rfl) rfl rfl rfl rfl rfl bp_nil))) rfl rfl rfl rfl rfl ?_
      refine l_split 9 [] (by kernel_rfl) ⟨?_, trivial⟩
      refine y_buildN (k := 37) (js := []) 9 hT rfl rfl rfl rfl rfl rfl rfl rfl rfl rfl rfl rfl (ep_cons (ev_tmp rfl) rfl rfl rfl ep_nil) (ow_cons' (ow_dv rfl) (ow_cons' (ow_dv rfl) ow_nil rfl) rfl) (by decide) (by decide) rfl rfl rfl rfl rfl ?_
      simp only [killT, killB, SV.kill, CV.kill, kk, Nat.reduceBEq]
      refine l_chain [10, 11, 12] rfl rfl (by kernel_rfl) ?_
      refine o_appK (k := 90900) (j := 37) (cs := (e5.2.2.2 ++ [(e32, e35)]).flatMap eDef) (n := (e5.2.2.2 ++ [(e32, e35)]).length) hT rfl rfl rfl rfl rfl rfl rfl (ev_tmp rfl) rfl rfl rfl (ev_tmp rfl) rfl rfl (by decide) (by dsimp only [kcOf, KC.old, defsD, listD]; omega) (by dsimp only [kcOf, KC.old, defsD, listD]; omega) (by rw [List.length_append]; rfl) (by rw [List.flatMap_append]; rfl) ?_
      simp only [killT, killB, SV.kill, CV.kill, kk, Nat.reduceBEq]
      iterate 2 refine z ?_
      refine ops_nil ?_
      iterate 6 refine z ?_
      refine ok_weak (σ' := ⟨[(2, .box 2 0), (0, .abox 0)], [(2, 73, [(.dv [] (.str (e5.1))), (.dv [] (.int .i64 (e5.2.1))), (.key 90031), (.key 90900)]), (0, 80, [(.arg 900001 (bytesD (code))), (.dv [] (.int .i64 (i35))), (.dv [] (.int .i64 (h35)))])], [(90031, some (kcOf false (storesD (e5.2.2.1)))), (90900, some (kcOf false (.sl 113 2 ((e5.2.2.2 ++ [(e32, e35)]).length) ((e5.2.2.2 ++ [(e32, e35)]).flatMap eDef))))]⟩) (weak_sub ⟨rfl, rfl, trivial⟩ ⟨rfl, rfl, trivial⟩ ⟨rfl, rfl, trivial⟩ rfl) ?_
      refine z ?_
      refine fin1 (res_cell hT rfl rfl rfl rfl) ⟨(((e5.1), ((e5.2.1), ((e5.2.2.1), ((e5.2.2.2 ++ [(e32, e35)]))))), i35, h35), ?_, rfl, rfl, rfl, rfl⟩
      try dsimp only
      exact ⟨by have h2 : wDatabase (e5.1, e5.2.1, e5.2.2.1, (e5.2.2.2 ++ [(e32, e35)])) = (e5.1).size + ((e5.2.2.1).length + wSum wStore (e5.2.2.1)) + (((e5.2.2.2 ++ [(e32, e35)])).length + wSum wIndexDef ((e5.2.2.2 ++ [(e32, e35)]))) := rfl; have h3 : wSum wIndexDef [(e32, e35)] = e32.size + e35.size := (by simp [wSum, wIndexDef]); rw [wSum_app, h3, List.length_append, List.length_singleton] at h2; omega, by omega⟩
    ·skip
     have d4 := of_decide_eq_false c4
     iterate 7 refine z ?_
     refine ok_weak (σ' := ⟨[(2, .box 2 0), (0, .abox 0)], [(2, 73, [(.dv [] (.str (e5.1))), (.dv [] (.int .i64 (e5.2.1))), (.key 90031), (.key 90900)]), (0, 80, [(.arg 900001 (bytesD (code))), (.dv [] (.int .i64 (i7))), (.dv [] (.int .i64 (h7)))])], [(90031, some (kcOf false (storesD (e5.2.2.1)))), (90900, some (kcOf false (defsD (e5.2.2.2))))]⟩) (weak_sub ⟨rfl, rfl, trivial⟩ ⟨rfl, rfl, trivial⟩ ⟨rfl, rfl, trivial⟩ rfl) ?_
     refine z ?_
     refine fin1 (res_cell hT rfl rfl rfl rfl) ⟨(((e5.1), ((e5.2.1), ((e5.2.2.1), (e5.2.2.2)))), i7, h7), ?_, rfl, rfl, rfl, rfl⟩
     try dsimp only
     exact ⟨by have h2 : wDatabase (e5.1, e5.2.1, e5.2.2.1, e5.2.2.2) = wDatabase e5 := rfl; omega, by omega⟩
end Go.Proofs.YtoigmlbidpocnaaGreat

namespace Go.Proofs.YtoigmlbidpocnaaGreat
open Go.RowKit
open Go.Proofs
set_option linter.unusedVariables false
set_option linter.unusedSimpArgs false

def plainO (o : OpT) : Prop := isKey o.2.2.1 = true ∨ o.2.2.1 = (0, 0, ByteArray.empty)
def opsOk (l : List OpT) : Prop := ∀ o ∈ l, isOpB o = true ∧ plainO o
theorem op_ok {k : Int} {s : Str} {q : KeyT} {r : RecT} {f : Str} (h1 : 1 ≤ k ∧ k ≤ 6) (hs : isName s = true) (hk : k = 5 ∨ isKey q = true) (hr : isRec r = true) (hf : (k = 6 ∧ isName f = true) ∨ (k ≠ 6 ∧ f = ByteArray.empty)) : isOpB (k, s, q, r, f) = true := by
 unfold isOpB
 simp only [hs, hr, Bool.and_eq_true, Bool.or_eq_true, decide_eq_true_eq, and_true]
 refine ⟨⟨h1, hk⟩, ?_⟩
 rcases hf with ⟨h2, h3⟩ | ⟨h2, h3⟩
 ·exact .inl ⟨h2, h3⟩
 ·refine .inr ?_
  subst h3
  first | exact ⟨by simpa using h2, rfl⟩ | (simp [h2]; rfl) | (simp [h2]; decide +kernel)
theorem op_wt {o : OpT} (h : isOpB o = true) (hp : plainO o) : wOp o ≤ 90 := by
 have h0 : wOp o = o.2.1.size + wKey o.2.2.1 + wRecord o.2.2.2.1 + o.2.2.2.2.size := rfl
 have h1 : wKey o.2.2.1 = o.2.2.1.2.2.size := rfl
 simp only [isOpB, Bool.and_eq_true, Bool.or_eq_true, decide_eq_true_eq] at h
 have h2 := name_size h.1.1.1.2
 have h3 := rec_wt h.1.2
 have h4 : o.2.2.1.2.2.size ≤ 12 := by
  rcases hp with hp | hp
  ·exact key_size hp
  ·rw [hp]; decide
 have h5 : o.2.2.2.2.size ≤ 8 := by
  rcases h.2 with h6 | h6
  ·exact (name_size h6.2).2
  ·rw [sEq_iff.1 h6.2]; decide
 omega

theorem ok_spec_l9Op {code : List UInt8} {i h : Int} (hc : code.length ≤ 1048576) (hi : 0 ≤ i) : BFn Tryz.prog 50 [] 80 (bytesD (code)) [.dv [] (.int .i64 (i)), .dv [] (.int .i64 (h))] (fun zz : OpT × Int × Int => isOpB zz.1 = true ∧ plainO zz.1 ∧ 0 ≤ zz.2.1) (fun zz : OpT × Int × Int => .agg [(.dv [] (.int .i64 (zz.1.1))), (.dv [] (.str (zz.1.2.1))), (.dv [] (.int .i64 (zz.1.2.2.1.1))), (.dv [] (.int .i64 (zz.1.2.2.1.2.1))), (.dv [] (.str (zz.1.2.2.1.2.2))), (.key 9001), (.dv [] (.str (zz.1.2.2.2.2)))]) (fun zz : OpT × Int × Int => [(9001, some (kcOf false (fieldsD (zz.1.2.2.2.1))))]) (fun zz : OpT × Int × Int => [.dv [] (.int .i64 (zz.2.1)), .dv [] (.int .i64 (zz.2.2))]) := by
 refine ⟨fn_introS Tryz.func50 rfl Tryz.ntmps50 Tryz.results50 rfl (fun C => ?_)⟩
 iterate 4 refine z ?_
 refine yO rfl rfl (pu_move (.inl rfl) (ev_abox (ev_tmp rfl))) rfl ?_
 refine o_callB 5000 rfl rfl rfl Tryz.call49 (ok_spec_l1Below (code := code) (i := i) (h := h) (n := 6) (by omega) (by omega) ) (ev_tmp rfl) rfl ac_arg rfl (fun _ => rfl) (ad_cons (ev_int (inR_lit rfl)) (ag_one ac_dv) rfl ad_nil) rfl (fun _ => rfl) (fun _ => rfl) (fun zz hz5 => ?_)
 obtain ⟨e5, i5, h5⟩ := zz
 replace hz5 : 0 ≤ e5 ∧ (0 < (6 : Int) → e5 < (6 : Int)) ∧ 0 ≤ i5 := hz5
 have h56 := hz5.2.1 (by omega)
 refine z ?_
 refine yO rfl rfl (pu_move (.inl rfl) (ev_abox (ev_tmp rfl))) rfl ?_
 refine o_buildN (k := 8) (js := []) hT rfl rfl rfl rfl rfl rfl rfl rfl rfl rfl rfl (ep_cons (ev_str (str_lit rfl)) rfl rfl rfl (ep_cons (ev_str (str_lit rfl)) rfl rfl rfl (ep_cons (ev_str (str_lit rfl)) rfl rfl rfl (ep_cons (ev_str (str_lit rfl)) rfl rfl rfl ep_nil)))) (ow_cons' (ow_dv rfl) (ow_cons' (ow_dv rfl) (ow_cons' (ow_dv rfl) (ow_cons' (ow_dv rfl) ow_nil rfl) rfl) rfl) rfl) (by decide) (by decide) rfl rfl ?_
 simp only [killT, killB, SV.kill, CV.kill, kk, Nat.reduceBEq]
 refine o_callB 9000 rfl rfl rfl Tryz.call60 (ok_spec_l1Str (code := code) (i := i5) (h := h5) (l := [ByteArray.mk #[110, 111, 116, 101, 115], ByteArray.mk #[116, 97, 103, 115], ByteArray.mk #[110, 111, 116, 101, 115], ByteArray.mk #[108, 105, 115, 116, 115]]) (by omega) (by omega) (by exact Nat.succ_pos _)) (ev_tmp rfl) rfl ac_arg rfl (fun _ => rfl) (ad_cons (ev_tmp rfl) (ag_one (ac_key' rfl rfl)) rfl ad_nil) rfl (fun _ => rfl) (fun _ => rfl) (fun zz hz9 => ?_)
 obtain ⟨e9, i9, h9⟩ := zz
 replace hz9 : e9 ∈ ([ByteArray.mk #[110, 111, 116, 101, 115], ByteArray.mk #[116, 97, 103, 115], ByteArray.mk #[110, 111, 116, 101, 115], ByteArray.mk #[108, 105, 115, 116, 115]]) ∧ 0 ≤ i9 := hz9
 refine yO rfl rfl (pu_move (.inl rfl) (ev_abox (ev_tmp rfl))) rfl ?_
 refine o_callB 11000 rfl rfl rfl Tryz.call61 (ok_spec_l4Small (code := code) (i := i9) (h := h9) (by omega) (by omega)) (ev_tmp rfl) rfl ac_arg rfl (fun _ => rfl) ad_nil rfl (fun _ => rfl) (fun _ => rfl) (fun zz hz11 => ?_)
 obtain ⟨e11, i11, h11⟩ := zz
 replace hz11 : isKey e11 = true ∧ smallK e11 ∧ 0 ≤ i11 := hz11
 refine yO rfl rfl (pu_build hT hB rfl rfl rfl (bp_cons (ev_tmp rfl) rfl rfl rfl rfl rfl (bp_cons (ev_tmp rfl) rfl rfl rfl rfl rfl (bp_cons (ev_tmp rfl) rfl rfl rfl rfl rfl bp_nil)))) rfl ?_
 iterate 3 refine z ?_
 refine ok_seq ?_
 refine ok_seq ?_
 refine ok_weak (σ' := ⟨[(0, .abox 0), (2, .box 2 0), (3, .box 3 0)], [(0, 80, [(.arg 900001 (bytesD (code))), (.dv [] (.int .i64 (i11))), (.dv [] (.int .i64 (h11)))]), (2, 34, [(.dv [] (.int .i64 (0))), (.dv [] (.str (ByteArray.empty))), (.dv [] (.int .i64 (0))), (.dv [] (.int .i64 (0))), (.dv [] (.str (ByteArray.empty))), .nil, (.dv [] (.str (ByteArray.empty)))]), (3, 34, [(.dv [] (.int .i64 ((1) + (e5)))), (.dv [] (.str (e9))), (.dv [] (.int .i64 (e11.1))), (.dv [] (.int .i64 (e11.2.1))), (.dv [] (.str (e11.2.2))), .nil, (.dv [] (.str (ByteArray.empty)))])], []⟩) (weak_sub ⟨rfl, rfl, rfl, trivial⟩ ⟨rfl, rfl, rfl, trivial⟩ trivial rfl) ?_
 refine ok_region ?_
 iterate 9 refine z ?_
 refine yQ rfl (fun c1 => ?_) fun c1 => ?_
 ·skip
  have d1 := of_decide_eq_true c1
  iterate 2 refine z ?_
  refine yQ rfl (fun c2 => ?_) fun c2 => ?_
  ·skip
   have d2 := of_decide_eq_true c2
   refine ok_region ?_
   refine yO rfl rfl (pu_move (.inl rfl) (ev_abox (ev_tmp rfl))) rfl ?_
   refine o_callB 0 rfl rfl rfl Tryz.call62 (ok_spec_l5Record (code := code) (i := i11) (h := h11) (by omega) (by omega)) (ev_tmp rfl) rfl ac_arg rfl (fun _ => rfl) ad_nil rfl (fun _ => rfl) (fun _ => rfl) (fun zz hz19 => ?_)
   obtain ⟨e19, i19, h19⟩ := zz
   replace hz19 : isRec e19 = true ∧ 0 ≤ i19 := hz19
   iterate 2 refine z ?_
   refine ops_nil ?_
   iterate 2 refine z ?_
   refine ok_seq ?_
   refine ok_weak (σ' := ⟨[(0, .abox 0), (2, .box 2 0), (3, .box 3 0)], [(0, 80, [(.arg 900001 (bytesD (code))), (.dv [] (.int .i64 (i19))), (.dv [] (.int .i64 (h19)))]), (2, 34, [(.dv [] (.int .i64 (0))), (.dv [] (.str (ByteArray.empty))), (.dv [] (.int .i64 (0))), (.dv [] (.int .i64 (0))), (.dv [] (.str (ByteArray.empty))), .nil, (.dv [] (.str (ByteArray.empty)))]), (3, 34, [(.dv [] (.int .i64 ((1) + (e5)))), (.dv [] (.str (e9))), (.dv [] (.int .i64 (e11.1))), (.dv [] (.int .i64 (e11.2.1))), (.dv [] (.str (e11.2.2))), (.key 9001), (.dv [] (.str (ByteArray.empty)))])], [(9001, some (kcOf false (fieldsD (e19))))]⟩) (weak_sub ⟨rfl, rfl, rfl, trivial⟩ ⟨rfl, rfl, rfl, trivial⟩ ⟨rfl, trivial⟩ rfl) ?_
   refine ok_region ?_
   iterate 3 refine z ?_
   refine ok_weak (σ' := ⟨[(2, .box 2 0), (0, .abox 0)], [(2, 34, [(.dv [] (.int .i64 ((1) + (e5)))), (.dv [] (.str (e9))), (.dv [] (.int .i64 (e11.1))), (.dv [] (.int .i64 (e11.2.1))), (.dv [] (.str (e11.2.2))), (.key 9001), (.dv [] (.str (ByteArray.empty)))]), (0, 80, [(.arg 900001 (bytesD (code))), (.dv [] (.int .i64 (i19))), (.dv [] (.int .i64 (h19)))])], [(9001, some (kcOf false (fieldsD (e19))))]⟩) (weak_sub ⟨rfl, rfl, trivial⟩ ⟨rfl, rfl, trivial⟩ ⟨rfl, trivial⟩ rfl) ?_
   refine z ?_
   refine fin1 (res_cell hT rfl rfl rfl rfl) ⟨((((1) + (e5)), ((e9), (((e11.1), ((e11.2.1), (e11.2.2))), ((e19), (ByteArray.empty))))), i19, h19), ?_, rfl, rfl, rfl, rfl⟩
   try dsimp only
   exact ⟨op_ok (by omega) (name_of (l := [ByteArray.mk #[110, 111, 116, 101, 115], ByteArray.mk #[116, 97, 103, 115], ByteArray.mk #[110, 111, 116, 101, 115], ByteArray.mk #[108, 105, 115, 116, 115]]) (by decide +kernel) hz9.1) (.inr hz11.1) hz19.1 (.inr ⟨by omega, rfl⟩), .inl hz11.1, by omega⟩
  ·exact absurd (c1.symm.trans c2) (by decide)
 ·skip
  have d1 := of_decide_eq_false c1
  refine ok_region ?_
  iterate 3 refine z ?_
  refine yQ rfl (fun c3 => ?_) fun c3 => ?_
  ·skip
   have d3 := of_decide_eq_true c3
   refine ok_region ?_
   refine yO rfl rfl (pu_move (.inl rfl) (ev_abox (ev_tmp rfl))) rfl ?_
   refine o_callB 0 rfl rfl rfl Tryz.call62 (ok_spec_l5Record (code := code) (i := i11) (h := h11) (by omega) (by omega)) (ev_tmp rfl) rfl ac_arg rfl (fun _ => rfl) ad_nil rfl (fun _ => rfl) (fun _ => rfl) (fun zz hz19 => ?_)
   obtain ⟨e19, i19, h19⟩ := zz
   replace hz19 : isRec e19 = true ∧ 0 ≤ i19 := hz19
   iterate 2 refine z ?_
   refine ops_nil ?_
   iterate 2 refine z ?_
   refine ok_seq ?_
   refine ok_weak (σ' := ⟨[(0, .abox 0), (2, .box 2 0), (3, .box 3 0)], [(0, 80, [(.arg 900001 (bytesD (code))), (.dv [] (.int .i64 (i19))), (.dv [] (.int .i64 (h19)))]), (2, 34, [(.dv [] (.int .i64 (0))), (.dv [] (.str (ByteArray.empty))), (.dv [] (.int .i64 (0))), (.dv [] (.int .i64 (0))), (.dv [] (.str (ByteArray.empty))), .nil, (.dv [] (.str (ByteArray.empty)))]), (3, 34, [(.dv [] (.int .i64 ((1) + (e5)))), (.dv [] (.str (e9))), (.dv [] (.int .i64 (e11.1))), (.dv [] (.int .i64 (e11.2.1))), (.dv [] (.str (e11.2.2))), (.key 9001), (.dv [] (.str (ByteArray.empty)))])], [(9001, some (kcOf false (fieldsD (e19))))]⟩) (weak_sub ⟨rfl, rfl, rfl, trivial⟩ ⟨rfl, rfl, rfl, trivial⟩ ⟨rfl, trivial⟩ rfl) ?_
   refine ok_region ?_
   iterate 3 refine z ?_
   refine ok_weak (σ' := ⟨[(2, .box 2 0), (0, .abox 0)], [(2, 34, [(.dv [] (.int .i64 ((1) + (e5)))), (.dv [] (.str (e9))), (.dv [] (.int .i64 (e11.1))), (.dv [] (.int .i64 (e11.2.1))), (.dv [] (.str (e11.2.2))), (.key 9001), (.dv [] (.str (ByteArray.empty)))]), (0, 80, [(.arg 900001 (bytesD (code))), (.dv [] (.int .i64 (i19))), (.dv [] (.int .i64 (h19)))])], [(9001, some (kcOf false (fieldsD (e19))))]⟩) (weak_sub ⟨rfl, rfl, trivial⟩ ⟨rfl, rfl, trivial⟩ ⟨rfl, trivial⟩ rfl) ?_
   refine z ?_
   refine fin1 (res_cell hT rfl rfl rfl rfl) ⟨((((1) + (e5)), ((e9), (((e11.1), ((e11.2.1), (e11.2.2))), ((e19), (ByteArray.empty))))), i19, h19), ?_, rfl, rfl, rfl, rfl⟩
   try dsimp only
   exact ⟨op_ok (by omega) (name_of (l := [ByteArray.mk #[110, 111, 116, 101, 115], ByteArray.mk #[116, 97, 103, 115], ByteArray.mk #[110, 111, 116, 101, 115], ByteArray.mk #[108, 105, 115, 116, 115]]) (by decide +kernel) hz9.1) (.inr hz11.1) hz19.1 (.inr ⟨by omega, rfl⟩), .inl hz11.1, by omega⟩
  ·skip
   have d3 := of_decide_eq_false c3
   iterate 4 refine z ?_
   refine yQ rfl (fun c4 => ?_) fun c4 => ?_
   ·skip
    have d4 := of_decide_eq_true c4
    refine ok_region ?_
    refine yO rfl rfl (pu_move (.inl rfl) (ev_abox (ev_tmp rfl))) rfl ?_
    refine o_callB 24000 rfl rfl rfl Tryz.call63 (ok_spec_l5Name (code := code) (i := i11) (h := h11) (by omega) (by omega)) (ev_tmp rfl) rfl ac_arg rfl (fun _ => rfl) ad_nil rfl (fun _ => rfl) (fun _ => rfl) (fun zz hz24 => ?_)
    obtain ⟨e24, i24, h24⟩ := zz
    replace hz24 : isName e24 = true ∧ 0 ≤ i24 := hz24
    iterate 2 refine z ?_
    refine ops_nil ?_
    iterate 2 refine z ?_
    refine ok_seq ?_
    refine ok_weak (σ' := ⟨[(0, .abox 0), (2, .box 2 0), (3, .box 3 0)], [(0, 80, [(.arg 900001 (bytesD (code))), (.dv [] (.int .i64 (i24))), (.dv [] (.int .i64 (h24)))]), (2, 34, [(.dv [] (.int .i64 (0))), (.dv [] (.str (ByteArray.empty))), (.dv [] (.int .i64 (0))), (.dv [] (.int .i64 (0))), (.dv [] (.str (ByteArray.empty))), .nil, (.dv [] (.str (ByteArray.empty)))]), (3, 34, [(.dv [] (.int .i64 ((1) + (e5)))), (.dv [] (.str (e9))), (.dv [] (.int .i64 (e11.1))), (.dv [] (.int .i64 (e11.2.1))), (.dv [] (.str (e11.2.2))), .nil, (.dv [] (.str (e24)))])], []⟩) (weak_sub ⟨rfl, rfl, rfl, trivial⟩ ⟨rfl, rfl, rfl, trivial⟩ trivial rfl) ?_
    refine ok_region ?_
    iterate 3 refine z ?_
    refine ok_weak (weak_nilB 9001 (b := 2) (i := 5) (e := 77) (sz := 2) rfl rfl rfl rfl rfl) ?_
    refine ok_weak (σ' := ⟨[(2, .box 2 0), (0, .abox 0)], [(2, 34, [(.dv [] (.int .i64 ((1) + (e5)))), (.dv [] (.str (e9))), (.dv [] (.int .i64 (e11.1))), (.dv [] (.int .i64 (e11.2.1))), (.dv [] (.str (e11.2.2))), (.key 9001), (.dv [] (.str (e24)))]), (0, 80, [(.arg 900001 (bytesD (code))), (.dv [] (.int .i64 (i24))), (.dv [] (.int .i64 (h24)))])], [(9001, some (kcOf false (.sl 77 2 (0) ([]))))]⟩) (weak_sub ⟨rfl, rfl, trivial⟩ ⟨rfl, rfl, trivial⟩ ⟨rfl, trivial⟩ rfl) ?_
    refine z ?_
    refine fin1 (res_cell hT rfl rfl rfl rfl) ⟨((((1) + (e5)), ((e9), (((e11.1), ((e11.2.1), (e11.2.2))), (([]), (e24))))), i24, h24), ?_, rfl, rfl, rfl, rfl⟩
    try dsimp only
    exact ⟨op_ok (by omega) (name_of (l := [ByteArray.mk #[110, 111, 116, 101, 115], ByteArray.mk #[116, 97, 103, 115], ByteArray.mk #[110, 111, 116, 101, 115], ByteArray.mk #[108, 105, 115, 116, 115]]) (by decide +kernel) hz9.1) (.inr hz11.1) (show isRec [] = true from rfl) (.inl ⟨by omega, hz24.1⟩), .inl hz11.1, by omega⟩
   ·skip
    have d4 := of_decide_eq_false c4
    iterate 4 refine z ?_
    refine yQ rfl (fun c5 => ?_) fun c5 => ?_
    ·skip
     have d5 := of_decide_eq_true c5
     refine z ?_
     refine yO rfl rfl (pu_build hT hB rfl rfl rfl bp_nil) rfl ?_
     iterate 4 refine z ?_
     refine yO rfl rfl (pu_move (.inl rfl) (ev_abox (ev_tmp rfl))) rfl ?_
     refine o_callB 31000 rfl rfl rfl Tryz.call32 (ok_spec_l1Once (code := code) (i := i11) (h := h11) (n := 2) (by omega) (by omega) ) (ev_tmp rfl) rfl ac_arg rfl (fun _ => rfl) (ad_cons (ev_int (inR_lit rfl)) (ag_one ac_dv) rfl ad_nil) rfl (fun _ => rfl) (fun _ => rfl) (fun zz hz31 => ?_)
     obtain ⟨e31, i31, h31⟩ := zz
     replace hz31 : 0 ≤ i31 := hz31
     refine z ?_
     refine yQ rfl (fun c6 => ?_) fun c6 => ?_
     ·skip
      iterate 2 refine z ?_
      refine o_store hT rfl rfl rfl rfl (ev_tmp rfl) (ev_int (inR_lit rfl)) rfl rfl rfl rfl rfl rfl ?_
      refine z ?_
      refine ok_region ?_
      refine yO rfl rfl (pu_move (.inl rfl) (ev_abox (ev_tmp rfl))) rfl ?_
      refine o_callB 34000 rfl rfl rfl Tryz.call61 (ok_spec_l4Small (code := code) (i := i31) (h := h31) (by omega) (by omega)) (ev_tmp rfl) rfl ac_arg rfl (fun _ => rfl) ad_nil rfl (fun _ => rfl) (fun _ => rfl) (fun zz hz34 => ?_)
      obtain ⟨e34, i34, h34⟩ := zz
      replace hz34 : isKey e34 = true ∧ smallK e34 ∧ 0 ≤ i34 := hz34
      iterate 2 refine z ?_
      refine ops_nil ?_
      iterate 2 refine z ?_
      refine ok_seq ?_
      refine ok_weak (σ' := ⟨[(0, .abox 0), (2, .box 2 0), (3, .box 3 0)], [(0, 80, [(.arg 900001 (bytesD (code))), (.dv [] (.int .i64 (i34))), (.dv [] (.int .i64 (h34)))]), (2, 34, [(.dv [] (.int .i64 (0))), (.dv [] (.str (ByteArray.empty))), (.dv [] (.int .i64 (0))), (.dv [] (.int .i64 (0))), (.dv [] (.str (ByteArray.empty))), .nil, (.dv [] (.str (ByteArray.empty)))]), (3, 34, [(.dv [] (.int .i64 (1))), (.dv [] (.str (e9))), (.dv [] (.int .i64 (e34.1))), (.dv [] (.int .i64 (e34.2.1))), (.dv [] (.str (e34.2.2))), .nil, (.dv [] (.str (ByteArray.empty)))])], []⟩) (weak_sub ⟨rfl, rfl, rfl, trivial⟩ ⟨rfl, rfl, rfl, trivial⟩ trivial rfl) ?_
      refine ok_region ?_
      iterate 3 refine z ?_
      refine ok_weak (weak_nilB 9001 (b := 2) (i := 5) (e := 77) (sz := 2) rfl rfl rfl rfl rfl) ?_
      refine ok_weak (σ' := ⟨[(2, .box 2 0), (0, .abox 0)], [(2, 34, [(.dv [] (.int .i64 (1))), (.dv [] (.str (e9))), (.dv [] (.int .i64 (e34.1))), (.dv [] (.int .i64 (e34.2.1))), (.dv [] (.str (e34.2.2))), (.key 9001), (.dv [] (.str (ByteArray.empty)))]), (0, 80, [(.arg 900001 (bytesD (code))), (.dv [] (.int .i64 (i34))), (.dv [] (.int .i64 (h34)))])], [(9001, some (kcOf false (.sl 77 2 (0) ([]))))]⟩) (weak_sub ⟨rfl, rfl, trivial⟩ ⟨rfl, rfl, trivial⟩ ⟨rfl, trivial⟩ rfl) ?_
      refine z ?_
      refine fin1 (res_cell hT rfl rfl rfl rfl) ⟨(((1), ((e9), (((e34.1), ((e34.2.1), (e34.2.2))), (([]), (ByteArray.empty))))), i34, h34), ?_, rfl, rfl, rfl, rfl⟩
      try dsimp only
      exact ⟨op_ok (by omega) (name_of (l := [ByteArray.mk #[110, 111, 116, 101, 115], ByteArray.mk #[116, 97, 103, 115], ByteArray.mk #[110, 111, 116, 101, 115], ByteArray.mk #[108, 105, 115, 116, 115]]) (by decide +kernel) hz9.1) (.inr hz34.1) (show isRec [] = true from rfl) (.inr ⟨by omega, rfl⟩), .inl hz34.1, by omega⟩
     ·skip
      iterate 3 refine z ?_
      refine ok_seq ?_
      refine ok_weak (σ' := ⟨[(0, .abox 0), (2, .box 2 0), (3, .box 3 0)], [(0, 80, [(.arg 900001 (bytesD (code))), (.dv [] (.int .i64 (i31))), (.dv [] (.int .i64 (h31)))]), (2, 34, [(.dv [] (.int .i64 (0))), (.dv [] (.str (ByteArray.empty))), (.dv [] (.int .i64 (0))), (.dv [] (.int .i64 (0))), (.dv [] (.str (ByteArray.empty))), .nil, (.dv [] (.str (ByteArray.empty)))]), (3, 34, [(.dv [] (.int .i64 ((1) + (e5)))), (.dv [] (.str (e9))), (.dv [] (.int .i64 (0))), (.dv [] (.int .i64 (0))), (.dv [] (.str (ByteArray.empty))), .nil, (.dv [] (.str (ByteArray.empty)))])], []⟩) (weak_sub ⟨rfl, rfl, rfl, trivial⟩ ⟨rfl, rfl, rfl, trivial⟩ trivial rfl) ?_
      refine ok_region ?_
      iterate 3 refine z ?_
      refine ok_weak (weak_nilB 9001 (b := 2) (i := 5) (e := 77) (sz := 2) rfl rfl rfl rfl rfl) ?_
      refine ok_weak (σ' := ⟨[(2, .box 2 0), (0, .abox 0)], [(2, 34, [(.dv [] (.int .i64 ((1) + (e5)))), (.dv [] (.str (e9))), (.dv [] (.int .i64 (0))), (.dv [] (.int .i64 (0))), (.dv [] (.str (ByteArray.empty))), (.key 9001), (.dv [] (.str (ByteArray.empty)))]), (0, 80, [(.arg 900001 (bytesD (code))), (.dv [] (.int .i64 (i31))), (.dv [] (.int .i64 (h31)))])], [(9001, some (kcOf false (.sl 77 2 (0) ([]))))]⟩) (weak_sub ⟨rfl, rfl, trivial⟩ ⟨rfl, rfl, trivial⟩ ⟨rfl, trivial⟩ rfl) ?_
      refine z ?_
      refine fin1 (res_cell hT rfl rfl rfl rfl) ⟨((((1) + (e5)), ((e9), (((0), ((0), (ByteArray.empty))), (([]), (ByteArray.empty))))), i31, h31), ?_, rfl, rfl, rfl, rfl⟩
      try dsimp only
      exact ⟨op_ok (by omega) (name_of (l := [ByteArray.mk #[110, 111, 116, 101, 115], ByteArray.mk #[116, 97, 103, 115], ByteArray.mk #[110, 111, 116, 101, 115], ByteArray.mk #[108, 105, 115, 116, 115]]) (by decide +kernel) hz9.1) (.inl (by omega)) (show isRec [] = true from rfl) (.inr ⟨by omega, rfl⟩), .inr rfl, by omega⟩
    ·skip
     have d5 := of_decide_eq_false c5
     iterate 3 refine z ?_
     refine ok_seq ?_
     refine ok_weak (σ' := ⟨[(0, .abox 0), (2, .box 2 0), (3, .box 3 0)], [(0, 80, [(.arg 900001 (bytesD (code))), (.dv [] (.int .i64 (i11))), (.dv [] (.int .i64 (h11)))]), (2, 34, [(.dv [] (.int .i64 (0))), (.dv [] (.str (ByteArray.empty))), (.dv [] (.int .i64 (0))), (.dv [] (.int .i64 (0))), (.dv [] (.str (ByteArray.empty))), .nil, (.dv [] (.str (ByteArray.empty)))]), (3, 34, [(.dv [] (.int .i64 ((1) + (e5)))), (.dv [] (.str (e9))), (.dv [] (.int .i64 (e11.1))), (.dv [] (.int .i64 (e11.2.1))), (.dv [] (.str (e11.2.2))), .nil, (.dv [] (.str (ByteArray.empty)))])], []⟩) (weak_sub ⟨rfl, rfl, rfl, trivial⟩ ⟨rfl, rfl, rfl, trivial⟩ trivial rfl) ?_
     refine ok_region ?_
     iterate 3 refine z ?_
     refine ok_weak (weak_nilB 9001 (b := 2) (i := 5) (e := 77) (sz := 2) rfl rfl rfl rfl rfl) ?_
     refine ok_weak (σ' := ⟨[(2, .box 2 0), (0, .abox 0)], [(2, 34, [(.dv [] (.int .i64 ((1) + (e5)))), (.dv [] (.str (e9))), (.dv [] (.int .i64 (e11.1))), (.dv [] (.int .i64 (e11.2.1))), (.dv [] (.str (e11.2.2))), (.key 9001), (.dv [] (.str (ByteArray.empty)))]), (0, 80, [(.arg 900001 (bytesD (code))), (.dv [] (.int .i64 (i11))), (.dv [] (.int .i64 (h11)))])], [(9001, some (kcOf false (.sl 77 2 (0) ([]))))]⟩) (weak_sub ⟨rfl, rfl, trivial⟩ ⟨rfl, rfl, trivial⟩ ⟨rfl, trivial⟩ rfl) ?_
     refine z ?_
     refine fin1 (res_cell hT rfl rfl rfl rfl) ⟨((((1) + (e5)), ((e9), (((e11.1), ((e11.2.1), (e11.2.2))), (([]), (ByteArray.empty))))), i11, h11), ?_, rfl, rfl, rfl, rfl⟩
     try dsimp only
     exact ⟨op_ok (by omega) (name_of (l := [ByteArray.mk #[110, 111, 116, 101, 115], ByteArray.mk #[116, 97, 103, 115], ByteArray.mk #[110, 111, 116, 101, 115], ByteArray.mk #[108, 105, 115, 116, 115]]) (by decide +kernel) hz9.1) (.inr hz11.1) (show isRec [] = true from rfl) (.inr ⟨by omega, rfl⟩), .inl hz11.1, by omega⟩
theorem ok_spec_l9OpAny {code : List UInt8} {i h : Int} (hc : code.length ≤ 1048576) (hi : 0 ≤ i) : BFn Tryz.prog 56 [] 80 (bytesD (code)) [.dv [] (.int .i64 (i)), .dv [] (.int .i64 (h))] (fun zz : OpT × Int × Int => wOp zz.1 ≤ 400 ∧ 0 ≤ zz.2.1) (fun zz : OpT × Int × Int => .agg [(.dv [] (.int .i64 (zz.1.1))), (.dv [] (.str (zz.1.2.1))), (.dv [] (.int .i64 (zz.1.2.2.1.1))), (.dv [] (.int .i64 (zz.1.2.2.1.2.1))), (.dv [] (.str (zz.1.2.2.1.2.2))), (.key 9001), (.dv [] (.str (zz.1.2.2.2.2)))]) (fun zz : OpT × Int × Int => [(9001, some (kcOf false (fieldsD (zz.1.2.2.2.1))))]) (fun zz : OpT × Int × Int => [.dv [] (.int .i64 (zz.2.1)), .dv [] (.int .i64 (zz.2.2))]) := by
 refine ⟨fn_introS Tryz.func56 rfl Tryz.ntmps56 Tryz.results56 rfl (fun C => ?_)⟩
 iterate 4 refine z ?_
 refine yO rfl rfl (pu_move (.inl rfl) (ev_abox (ev_tmp rfl))) rfl ?_
 refine o_callB 0 rfl rfl rfl Tryz.call50 (ok_spec_l9Op (code := code) (i := i) (h := h) (by omega) (by omega)) (ev_tmp rfl) rfl ac_arg rfl (fun _ => rfl) ad_nil rfl (fun _ => rfl) (fun _ => rfl) (fun zz hz5 => ?_)
 obtain ⟨e5, i5, h5⟩ := zz
 replace hz5 : isOpB e5 = true ∧ plainO e5 ∧ 0 ≤ i5 := hz5
 have hw := op_wt hz5.1 hz5.2.1
 have h0 : wOp e5 = e5.2.1.size + e5.2.2.1.2.2.size + wRecord e5.2.2.2.1 + e5.2.2.2.2.size := rfl
 iterate 5 refine z ?_
 refine yO rfl rfl (pu_move (.inl rfl) (ev_abox (ev_tmp rfl))) rfl ?_
 refine o_callB 7000 rfl rfl rfl Tryz.call49 (ok_spec_l1Below (code := code) (i := i5) (h := h5) (n := 14) (by omega) (by omega) ) (ev_tmp rfl) rfl ac_arg rfl (fun _ => rfl) (ad_cons (ev_int (inR_lit rfl)) (ag_one ac_dv) rfl ad_nil) rfl (fun _ => rfl) (fun _ => rfl) (fun zz hz7 => ?_)
 obtain ⟨e7, i7, h7⟩ := zz
 replace hz7 : 0 ≤ e7 ∧ (0 < (14 : Int) → e7 < (14 : Int)) ∧ 0 ≤ i7 := hz7
 iterate 6 refine z ?_
 refine yQ rfl (fun c1 => ?_) fun c1 => ?_
 ·skip
  have d1 := of_decide_eq_true c1
  refine ok_region ?_
  refine yO rfl rfl (pu_move (.inl rfl) (ev_abox (ev_tmp rfl))) rfl ?_
  refine o_buildN (k := 11) (js := []) hT rfl rfl rfl rfl rfl rfl rfl rfl rfl rfl rfl (ep_cons (ev_int (inR_lit rfl)) rfl rfl rfl (ep_cons (ev_int (inR_lit rfl)) rfl rfl rfl ep_nil)) (ow_cons' (ow_dv rfl) (ow_cons' (ow_dv rfl) ow_nil rfl) rfl) (by decide) (by decide) rfl rfl ?_
  simp only [killT, killB, SV.kill, CV.kill, kk, Nat.reduceBEq]
  refine o_callB 12000 rfl rfl rfl Tryz.call51 (ok_spec_l1Int (code := code) (i := i7) (h := h7) (l := [0, 7]) (by omega) (by omega) (by exact Nat.succ_pos _)) (ev_tmp rfl) rfl ac_arg rfl (fun _ => rfl) (ad_cons (ev_tmp rfl) (ag_one (ac_key' rfl rfl)) rfl ad_nil) rfl (fun _ => rfl) (fun _ => rfl) (fun zz hz12 => ?_)
  obtain ⟨e12, i12, h12⟩ := zz
  replace hz12 : e12 ∈ ([0, 7]) ∧ 0 ≤ i12 := hz12
  iterate 2 refine z ?_
  refine ops_nil ?_
  iterate 6 refine z ?_
  refine ok_weak (σ' := ⟨[(2, .box 2 0), (0, .abox 0)], [(2, 34, [(.dv [] (.int .i64 (e12))), (.dv [] (.str (e5.2.1))), (.dv [] (.int .i64 (e5.2.2.1.1))), (.dv [] (.int .i64 (e5.2.2.1.2.1))), (.dv [] (.str (e5.2.2.1.2.2))), (.key 9001), (.dv [] (.str (e5.2.2.2.2)))]), (0, 80, [(.arg 900001 (bytesD (code))), (.dv [] (.int .i64 (i12))), (.dv [] (.int .i64 (h12)))])], [(9001, some (kcOf false (fieldsD (e5.2.2.2.1))))]⟩) (weak_sub ⟨rfl, rfl, trivial⟩ ⟨rfl, rfl, trivial⟩ ⟨rfl, trivial⟩ rfl) ?_
  refine z ?_
  refine fin1 (res_cell hT rfl rfl rfl rfl) ⟨(((e12), ((e5.2.1), (((e5.2.2.1.1), ((e5.2.2.1.2.1), (e5.2.2.1.2.2))), ((e5.2.2.2.1), (e5.2.2.2.2))))), i12, h12), ?_, rfl, rfl, rfl, rfl⟩
  try dsimp only
  exact ⟨by have h2 : wOp (e12, e5.2) = e5.2.1.size + e5.2.2.1.2.2.size + wRecord e5.2.2.2.1 + e5.2.2.2.2.size := rfl; exact Nat.le_trans (Nat.le_of_eq h2) (by omega), by omega⟩
 ·skip
  have d1 := of_decide_eq_false c1
  iterate 4 refine z ?_
  refine yQ rfl (fun c2 => ?_) fun c2 => ?_
  ·skip
   have d2 := of_decide_eq_true c2
   refine ok_region ?_
   refine yO rfl rfl (pu_move (.inl rfl) (ev_abox (ev_tmp rfl))) rfl ?_
   refine o_buildN (k := 17) (js := []) hT rfl rfl rfl rfl rfl rfl rfl rfl rfl rfl rfl (ep_cons (ev_str (str_lit rfl)) rfl rfl rfl (ep_cons (ev_str (str_lit rfl)) rfl rfl rfl (ep_cons (ev_str (str_lit rfl)) rfl rfl rfl ep_nil))) (ow_cons' (ow_dv rfl) (ow_cons' (ow_dv rfl) (ow_cons' (ow_dv rfl) ow_nil rfl) rfl) rfl) (by decide) (by decide) rfl rfl ?_
   simp only [killT, killB, SV.kill, CV.kill, kk, Nat.reduceBEq]
   refine o_callB 18000 rfl rfl rfl Tryz.call60 (ok_spec_l1Str (code := code) (i := i7) (h := h7) (l := [ByteArray.mk #[122, 111, 111], ByteArray.mk #[], ByteArray.mk #[81]]) (by omega) (by omega) (by exact Nat.succ_pos _)) (ev_tmp rfl) rfl ac_arg rfl (fun _ => rfl) (ad_cons (ev_tmp rfl) (ag_one (ac_key' rfl rfl)) rfl ad_nil) rfl (fun _ => rfl) (fun _ => rfl) (fun zz hz18 => ?_)
   obtain ⟨e18, i18, h18⟩ := zz
   replace hz18 : e18 ∈ ([ByteArray.mk #[122, 111, 111], ByteArray.mk #[], ByteArray.mk #[81]]) ∧ 0 ≤ i18 := hz18
   have hs18 := size_of 5 (by decide +kernel) hz18.1
   iterate 2 refine z ?_
   refine ops_nil ?_
   iterate 6 refine z ?_
   refine ok_weak (σ' := ⟨[(2, .box 2 0), (0, .abox 0)], [(2, 34, [(.dv [] (.int .i64 (e5.1))), (.dv [] (.str (e18))), (.dv [] (.int .i64 (e5.2.2.1.1))), (.dv [] (.int .i64 (e5.2.2.1.2.1))), (.dv [] (.str (e5.2.2.1.2.2))), (.key 9001), (.dv [] (.str (e5.2.2.2.2)))]), (0, 80, [(.arg 900001 (bytesD (code))), (.dv [] (.int .i64 (i18))), (.dv [] (.int .i64 (h18)))])], [(9001, some (kcOf false (fieldsD (e5.2.2.2.1))))]⟩) (weak_sub ⟨rfl, rfl, trivial⟩ ⟨rfl, rfl, trivial⟩ ⟨rfl, trivial⟩ rfl) ?_
   refine z ?_
   refine fin1 (res_cell hT rfl rfl rfl rfl) ⟨(((e5.1), ((e18), (((e5.2.2.1.1), ((e5.2.2.1.2.1), (e5.2.2.1.2.2))), ((e5.2.2.2.1), (e5.2.2.2.2))))), i18, h18), ?_, rfl, rfl, rfl, rfl⟩
   try dsimp only
   exact ⟨by have h2 : wOp (e5.1, e18, e5.2.2) = e18.size + e5.2.2.1.2.2.size + wRecord e5.2.2.2.1 + e5.2.2.2.2.size := rfl; exact Nat.le_trans (Nat.le_of_eq h2) (by omega), by omega⟩
  ·skip
   have d2 := of_decide_eq_false c2
   iterate 4 refine z ?_
   refine yQ rfl (fun c3 => ?_) fun c3 => ?_
   ·skip
    have d3 := of_decide_eq_true c3
    refine ok_region ?_
    refine yO rfl rfl (pu_move (.inl rfl) (ev_abox (ev_tmp rfl))) rfl ?_
    refine o_callB 23000 rfl rfl rfl Tryz.call78 (ok_spec_l4Any (code := code) (i := i7) (h := h7) (by omega) (by omega)) (ev_tmp rfl) rfl ac_arg rfl (fun _ => rfl) ad_nil rfl (fun _ => rfl) (fun _ => rfl) (fun zz hz23 => ?_)
    obtain ⟨e23, i23, h23⟩ := zz
    replace hz23 : e23.2.2.size ≤ 13 ∧ 0 ≤ i23 := hz23
    iterate 2 refine z ?_
    refine ops_nil ?_
    iterate 6 refine z ?_
    refine ok_weak (σ' := ⟨[(2, .box 2 0), (0, .abox 0)], [(2, 34, [(.dv [] (.int .i64 (e5.1))), (.dv [] (.str (e5.2.1))), (.dv [] (.int .i64 (e23.1))), (.dv [] (.int .i64 (e23.2.1))), (.dv [] (.str (e23.2.2))), (.key 9001), (.dv [] (.str (e5.2.2.2.2)))]), (0, 80, [(.arg 900001 (bytesD (code))), (.dv [] (.int .i64 (i23))), (.dv [] (.int .i64 (h23)))])], [(9001, some (kcOf false (fieldsD (e5.2.2.2.1))))]⟩) (weak_sub ⟨rfl, rfl, trivial⟩ ⟨rfl, rfl, trivial⟩ ⟨rfl, trivial⟩ rfl) ?_
    refine z ?_
    refine fin1 (res_cell hT rfl rfl rfl rfl) ⟨(((e5.1), ((e5.2.1), (((e23.1), ((e23.2.1), (e23.2.2))), ((e5.2.2.2.1), (e5.2.2.2.2))))), i23, h23), ?_, rfl, rfl, rfl, rfl⟩
    try dsimp only
    exact ⟨by have h2 : wOp (e5.1, e5.2.1, e23, e5.2.2.2) = e5.2.1.size + e23.2.2.size + wRecord e5.2.2.2.1 + e5.2.2.2.2.size := rfl; exact Nat.le_trans (Nat.le_of_eq h2) (by omega), by omega⟩
   ·skip
    have d3 := of_decide_eq_false c3
    iterate 4 refine z ?_
    refine yQ rfl (fun c4 => ?_) fun c4 => ?_
    ·skip
     have d4 := of_decide_eq_true c4
     refine ok_region ?_
     refine yO rfl rfl (pu_move (.inl rfl) (ev_abox (ev_tmp rfl))) rfl ?_
     refine o_callB 500 rfl rfl rfl Tryz.call79 (ok_spec_l5Any (code := code) (i := i7) (h := h7) (by omega) (by omega)) (ev_tmp rfl) rfl ac_arg rfl (fun _ => rfl) ad_nil rfl (fun _ => rfl) (fun _ => rfl) (fun zz hz28 => ?_)
     obtain ⟨e28, i28, h28⟩ := zz
     replace hz28 : wRecord e28 ≤ 200 ∧ 0 ≤ i28 := hz28
     iterate 2 refine z ?_
     refine ops_nil ?_
     iterate 6 refine z ?_
     refine ok_weak (weak_swapB (b := 2) (i := 5) (k := 9501) (k' := 9001) rfl rfl rfl rfl (by simp) rfl rfl) ?_
     try simp only [killT, killB, SV.kill, CV.kill, kk, Nat.reduceBEq]
     refine ok_weak (σ' := ⟨[(2, .box 2 0), (0, .abox 0)], [(2, 34, [(.dv [] (.int .i64 (e5.1))), (.dv [] (.str (e5.2.1))), (.dv [] (.int .i64 (e5.2.2.1.1))), (.dv [] (.int .i64 (e5.2.2.1.2.1))), (.dv [] (.str (e5.2.2.1.2.2))), (.key 9001), (.dv [] (.str (e5.2.2.2.2)))]), (0, 80, [(.arg 900001 (bytesD (code))), (.dv [] (.int .i64 (i28))), (.dv [] (.int .i64 (h28)))])], [(9001, some (kcOf false (fieldsD (e28))))]⟩) (weak_sub ⟨rfl, rfl, trivial⟩ ⟨rfl, rfl, trivial⟩ ⟨rfl, trivial⟩ rfl) ?_
     refine z ?_
     refine fin1 (res_cell hT rfl rfl rfl rfl) ⟨(((e5.1), ((e5.2.1), (((e5.2.2.1.1), ((e5.2.2.1.2.1), (e5.2.2.1.2.2))), ((e28), (e5.2.2.2.2))))), i28, h28), ?_, rfl, rfl, rfl, rfl⟩
     try dsimp only
     exact ⟨by have h2 : wOp (e5.1, e5.2.1, e5.2.2.1, e28, e5.2.2.2.2) = e5.2.1.size + e5.2.2.1.2.2.size + wRecord e28 + e5.2.2.2.2.size := rfl; exact Nat.le_trans (Nat.le_of_eq h2) (by omega), by omega⟩
    ·skip
     have d4 := of_decide_eq_false c4
     iterate 7 refine z ?_
     refine ok_weak (σ' := ⟨[(2, .box 2 0), (0, .abox 0)], [(2, 34, [(.dv [] (.int .i64 (e5.1))), (.dv [] (.str (e5.2.1))), (.dv [] (.int .i64 (e5.2.2.1.1))), (.dv [] (.int .i64 (e5.2.2.1.2.1))), (.dv [] (.str (e5.2.2.1.2.2))), (.key 9001), (.dv [] (.str (e5.2.2.2.2)))]), (0, 80, [(.arg 900001 (bytesD (code))), (.dv [] (.int .i64 (i7))), (.dv [] (.int .i64 (h7)))])], [(9001, some (kcOf false (fieldsD (e5.2.2.2.1))))]⟩) (weak_sub ⟨rfl, rfl, trivial⟩ ⟨rfl, rfl, trivial⟩ ⟨rfl, trivial⟩ rfl) ?_
     refine z ?_
     refine fin1 (res_cell hT rfl rfl rfl rfl) ⟨(((e5.1), ((e5.2.1), (((e5.2.2.1.1), ((e5.2.2.1.2.1), (e5.2.2.1.2.2))), ((e5.2.2.2.1), (e5.2.2.2.2))))), i7, h7), ?_, rfl, rfl, rfl, rfl⟩
     try dsimp only
     exact ⟨Nat.le_trans hw (by omega), by omega⟩
theorem ok_spec_l9Ops {code : List UInt8} {i h : Int} {m : Int} (hc : code.length ≤ 1048576) (hi : 0 ≤ i) (hm : 0 ≤ m ∧ m ≤ 10) : BFn Tryz.prog 31 [.one (.dv [] (.int .i64 (m)))] 80 (bytesD (code)) [.dv [] (.int .i64 (i)), .dv [] (.int .i64 (h))] (fun zz : List OpT × Int × Int => opsOk zz.1 ∧ (zz.1.length : Int) ≤ m ∧ 0 ≤ zz.2.1) (fun zz : List OpT × Int × Int => .one (.key 9001)) (fun zz : List OpT × Int × Int => [(9001, some (kcOf false (opsD (zz.1))))]) (fun zz : List OpT × Int × Int => [.dv [] (.int .i64 (zz.2.1)), .dv [] (.int .i64 (zz.2.2))]) := by
 refine ⟨fn_introS Tryz.func31 rfl Tryz.ntmps31 Tryz.results31 rfl (fun C => ?_)⟩
 refine ok_fact (x := .tmp 1) (ev_tmp rfl) fun f1 => ?_
 iterate 4 refine z ?_
 refine o_build0 (k := 9001) hT rfl rfl rfl rfl rfl rfl rfl rfl ?_
 iterate 4 refine z ?_
 refine yO rfl rfl (pu_move (.inl rfl) (ev_abox (ev_tmp rfl))) rfl ?_
 iterate 2 refine z ?_
 refine o_callB 11000 rfl rfl rfl Tryz.call49 (ok_spec_l1Below (code := code) (i := i) (h := h) (n := (m) + (1)) (by omega) (by omega) ) (ev_tmp rfl) rfl ac_arg rfl (fun _ => rfl) (ad_cons (ev_tmp rfl) (ag_one ac_dv) rfl ad_nil) rfl (fun _ => rfl) (fun _ => rfl) (fun zz hz11 => ?_)
 obtain ⟨e11, i11, h11⟩ := zz
 replace hz11 : 0 ≤ e11 ∧ (0 < ((m) + (1)) → e11 < ((m) + (1))) ∧ 0 ≤ i11 := hz11
 iterate 3 refine z ?_
 refine ok_loop (ι := Int × List OpT × Int × Int) (fun zz => ⟨[(0, .abox 0), (4, .one .nil), (5, .one (.key 9001)), (6, .one (.dv [] (.int .i64 (zz.1))))], [(0, 80, [(.arg 900001 (bytesD (code))), (.dv [] (.int .i64 (zz.2.2.1))), (.dv [] (.int .i64 (zz.2.2.2)))])], [(9001, some (kcOf false (.sl 34 7 (zz.2.1.length) (zz.2.1.flatMap eOp))))]⟩) (fun zz => opsOk zz.2.1 ∧ (zz.2.1.length : Int) + zz.1 ≤ m ∧ 0 ≤ zz.2.2.1 ∧ 0 ≤ zz.1) (fun zz => zz.1.toNat) ((e11, [], i11, h11)) ?_ (weak_sub ⟨rfl, rfl, rfl, rfl, trivial⟩ ⟨rfl, trivial⟩ ⟨rfl, trivial⟩ rfl) (fun zz hx => ?_)
 ·exact ⟨fun o ho => (by cases ho), by have := hz11.2.1 (by omega); dsimp only; simp; omega, by dsimp only; omega, by dsimp only; omega⟩
 obtain ⟨n, l, ci, ch⟩ := zz
 replace hx : opsOk l ∧ (l.length : Int) + n ≤ m ∧ 0 ≤ ci ∧ 0 ≤ n := hx
 obtain ⟨hok, hl, hci, hn0⟩ := hx
 show Ok _ _ _ _ _ (⟨[(0, .abox 0), (4, .one .nil), (5, .one (.key 9001)), (6, .one (.dv [] (.int .i64 (n))))], [(0, 80, [(.arg 900001 (bytesD (code))), (.dv [] (.int .i64 (ci))), (.dv [] (.int .i64 (ch)))])], [(9001, some (kcOf false (.sl 34 7 (l.length) (l.flatMap eOp))))]⟩ : St)
 iterate 5 refine z ?_
 refine yQ rfl (fun c1 => ?_) fun c1 => ?_
 ·skip
  have d1 := of_decide_eq_true c1
  iterate 4 refine z ?_
  refine ok_region ?_
  refine z ?_
  refine yO rfl rfl (pu_move (.inl rfl) (ev_abox (ev_tmp rfl))) rfl ?_
  refine o_callB 18000 rfl rfl rfl Tryz.call50 (ok_spec_l9Op (code := code) (i := ci) (h := ch) (by omega) (by omega)) (ev_tmp rfl) rfl ac_arg rfl (fun _ => rfl) ad_nil rfl (fun _ => rfl) (fun _ => rfl) (fun zz hz18 => ?_)
  obtain ⟨e18, i18, h18⟩ := zz
  replace hz18 : isOpB e18 = true ∧ plainO e18 ∧ 0 ≤ i18 := hz18
  refine o_build1 (k := 19) (js := [27001]) hT rfl rfl rfl rfl rfl rfl rfl rfl rfl (ev_tmp rfl) rfl rfl (ow_cons' (ow_dv rfl) (ow_cons' (ow_dv rfl) (ow_cons' (ow_dv rfl) (ow_cons' (ow_dv rfl) (ow_cons' (ow_dv rfl) (ow_cons' (ow_key rfl) (ow_cons' (ow_dv rfl) ow_nil rfl) rfl) rfl) rfl) rfl) rfl) rfl) (by decide) (by decide) rfl rfl ?_
  simp only [killT, killB, SV.kill, CV.kill, kk, Nat.reduceBEq]
  refine o_appK (k := 9001) (j := 19) (cs := (l ++ [e18]).flatMap eOp) (n := (l ++ [e18]).length) hT rfl rfl rfl rfl rfl rfl rfl (ev_tmp rfl) rfl rfl rfl (ev_tmp rfl) rfl rfl (by decide) (by dsimp only [kcOf, KC.old]; omega) (by dsimp only [kcOf, KC.old]; omega) (by rw [List.length_append]; rfl) (by rw [List.flatMap_append]; rfl) ?_
  simp only [killT, killB, SV.kill, CV.kill, kk, Nat.reduceBEq]
  refine z ?_
  refine ops_nil ?_
  iterate 2 refine z ?_
  refine ok_region ?_
  iterate 4 refine z ?_
  refine ⟨(n - 1, l ++ [e18], i18, h18), ?_, ?_, weak_sub ⟨rfl, rfl, rfl, rfl, trivial⟩ ⟨rfl, trivial⟩ ⟨rfl, trivial⟩ rfl⟩
  ·refine ⟨fun o ho => ?_, by dsimp only; rw [List.length_append, List.length_singleton]; omega, by dsimp only; omega, by dsimp only; omega⟩
   rcases List.mem_append.1 ho with ho | ho
   ·exact hok o ho
   ·rw [List.mem_singleton] at ho; rw [ho]; exact ⟨hz18.1, hz18.2.1⟩
  ·dsimp only; omega
 ·skip
  have d1 := of_decide_eq_false c1
  iterate 9 refine z ?_
  refine ok_weak (σ' := ⟨[(4, .one (.key 9001)), (0, .abox 0)], [(0, 80, [(.arg 900001 (bytesD (code))), (.dv [] (.int .i64 (ci))), (.dv [] (.int .i64 (ch)))])], [(9001, some (kcOf false (.sl 34 7 (l.length) (l.flatMap eOp))))]⟩) (weak_sub ⟨rfl, rfl, trivial⟩ ⟨rfl, trivial⟩ ⟨rfl, trivial⟩ rfl) ?_
  refine z ?_
  refine fin1 (res_tmp rfl) ⟨((l), ci, ch), ?_, rfl, rfl, rfl, rfl⟩
  try dsimp only
  exact ⟨hok, by omega, by omega⟩

theorem wOps_snoc (l : List OpT) (o : OpT) : wSum wOp (l ++ [o]) = wSum wOp l + wOp o := by simp [wSum]
theorem wOps_ok {l : List OpT} (h : opsOk l) : wSum wOp l ≤ 400 * l.length := by
 induction l with
 | nil => simp [wSum]
 | cons o l ih =>
  have h1 := op_wt (h o (by simp)).1 (h o (by simp)).2
  have h2 := ih (fun z hz => h z (by simp [hz]))
  have e : wSum wOp (o :: l) = wOp o + wSum wOp l := by simp [wSum]
  rw [e, List.length_cons]; omega

theorem ok_spec_DrawRunOps {code : List UInt8} (hc : code.length ≤ 1048576) : EFn Tryz.prog 38 [.one (.dv [] (bytesD (code)))] (fun zz : DbT × List OpT => wDatabase zz.1 ≤ 8000 ∧ zz.2.length ≤ 7 ∧ wSum wOp zz.2 ≤ 400 * zz.2.length) (fun zz : DbT × List OpT => .tup [(true, [(.dv [] (.str (zz.1.1))), (.dv [] (.int .i64 (zz.1.2.1))), (.key 90031), (.key 90900)]), (false, [(.key 95000)])]) (fun zz : DbT × List OpT => [(90031, some (kcOf false (storesD (zz.1.2.2.1)))), (90900, some (kcOf false (defsD (zz.1.2.2.2)))), (95000, some (kcOf false (opsD (zz.2))))]) := by
 refine ⟨fn_intro Tryz.func38 rfl Tryz.ntmps38 Tryz.results38 rfl (fun C => ?_)⟩
 refine ok_fact (x := .tmp 0) (ev_tmp rfl) fun f0 => ?_
 iterate 6 refine z ?_
 refine o_callP rfl rfl rfl Tryz.call29 (ok_spec_l1New (code := code) (by omega)) (ev_tmp rfl) ac_dv rfl (fun _ => rfl) rfl rfl (fun zz hz8 => ?_)
 obtain ⟨i8, h8⟩ := zz
 replace hz8 : 0 ≤ i8 := hz8
 iterate 4 refine z ?_
 refine o_callB 0 rfl rfl rfl Tryz.call55 (ok_spec_l8Any (code := code) (i := i8) (h := h8) (by omega) (by omega)) (ev_tmp rfl) rfl ac_dv rfl (fun _ => rfl) ad_nil rfl (fun _ => rfl) (fun _ => rfl) (fun zz hz10 => ?_)
 obtain ⟨e10, i10, h10⟩ := zz
 replace hz10 : wDatabase e10 ≤ 8000 ∧ 0 ≤ i10 := hz10
 iterate 5 refine z ?_
 refine o_callB 85999 rfl rfl rfl Tryz.call31 (ok_spec_l9Ops (code := code) (i := i10) (h := h10) (m := 4) (by omega) (by omega) (by omega)) (ev_tmp rfl) rfl ac_dv rfl (fun _ => rfl) (ad_cons (ev_int (inR_lit rfl)) (ag_one ac_dv) rfl ad_nil) rfl (fun _ => rfl) (fun _ => rfl) (fun zz hz12 => ?_)
 obtain ⟨e12, i12, h12⟩ := zz
 replace hz12 : opsOk e12 ∧ (e12.length : Int) ≤ (4 : Int) ∧ 0 ≤ i12 := hz12
 iterate 5 refine z ?_
 refine o_callB 14000 rfl rfl rfl Tryz.call49 (ok_spec_l1Below (code := code) (i := i12) (h := h12) (n := 10) (by omega) (by omega) ) (ev_tmp rfl) rfl ac_dv rfl (fun _ => rfl) (ad_cons (ev_int (inR_lit rfl)) (ag_one ac_dv) rfl ad_nil) rfl (fun _ => rfl) (fun _ => rfl) (fun zz hz14 => ?_)
 obtain ⟨e14, i14, h14⟩ := zz
 replace hz14 : 0 ≤ e14 ∧ (0 < (10 : Int) → e14 < (10 : Int)) ∧ 0 ≤ i14 := hz14
 iterate 6 refine z ?_
 refine yQ rfl (fun c1 => ?_) fun c1 => ?_
 ·skip
  have d1 := of_decide_eq_true c1
  refine ok_region ?_
  iterate 2 refine z ?_
  refine o_callB 19000 rfl rfl rfl Tryz.call56 (ok_spec_l9OpAny (code := code) (i := i14) (h := h14) (by omega) (by omega)) (ev_tmp rfl) rfl ac_dv rfl (fun _ => rfl) ad_nil rfl (fun _ => rfl) (fun _ => rfl) (fun zz hz19 => ?_)
  obtain ⟨e19, i19, h19⟩ := zz
  replace hz19 : wOp e19 ≤ 400 ∧ 0 ≤ i19 := hz19
  refine o_build1 (k := 20) (js := [28001]) hT rfl rfl rfl rfl rfl rfl rfl rfl rfl (ev_tmp rfl) rfl rfl (ow_cons' (ow_dv rfl) (ow_cons' (ow_dv rfl) (ow_cons' (ow_dv rfl) (ow_cons' (ow_dv rfl) (ow_cons' (ow_dv rfl) (ow_cons' (ow_key rfl) (ow_cons' (ow_dv rfl) ow_nil rfl) rfl) rfl) rfl) rfl) rfl) rfl) (by decide) (by decide) rfl rfl ?_
  simp only [killT, killB, SV.kill, CV.kill, kk, Nat.reduceBEq]
  refine o_appK (k := 95000) (j := 20) (cs := (e12 ++ [e19]).flatMap eOp) (n := (e12 ++ [e19]).length) hT rfl rfl rfl rfl rfl rfl rfl (ev_tmp rfl) rfl rfl rfl (ev_tmp rfl) rfl rfl (by decide) (by dsimp only [kcOf, KC.old, opsD, listD]; omega) (by dsimp only [kcOf, KC.old, opsD, listD]; omega) (by rw [List.length_append]; rfl) (by rw [List.flatMap_append]; rfl) ?_
  simp only [killT, killB, SV.kill, CV.kill, kk, Nat.reduceBEq]
  refine z ?_
  refine ops_nil ?_
  iterate 8 refine z ?_
  refine ok_weak (σ' := ⟨[(2, .box 2 0), (3, .one (.key 95000))], [(2, 73, [(.dv [] (.str (e10.1))), (.dv [] (.int .i64 (e10.2.1))), (.key 90031), (.key 90900)])], [(90031, some (kcOf false (storesD (e10.2.2.1)))), (90900, some (kcOf false (defsD (e10.2.2.2)))), (95000, some (kcOf false (.sl 34 7 ((e12 ++ [e19]).length) ((e12 ++ [e19]).flatMap eOp))))]⟩) (weak_sub ⟨rfl, rfl, trivial⟩ ⟨rfl, trivial⟩ ⟨rfl, rfl, rfl, trivial⟩ rfl) ?_
  refine z ?_
  refine fin2 (res_cell hT rfl rfl rfl rfl) (res_tmp rfl) rfl rfl ⟨(((e10.1), ((e10.2.1), ((e10.2.2.1), (e10.2.2.2)))), ((e12 ++ [e19]))), ?_, rfl, rfl⟩
  try dsimp only
  exact ⟨hz10.1, by rw [List.length_append, List.length_singleton]; omega, by have := wOps_ok hz12.1; rw [wOps_snoc, List.length_append, List.length_singleton]; omega⟩
 ·skip
  have d1 := of_decide_eq_false c1
  iterate 4 refine z ?_
  refine yQ rfl (fun c2 => ?_) fun c2 => ?_
  ·skip
   have d2 := of_decide_eq_true c2
   refine z ?_
   refine ok_loop (ι := List OpT × Int × Int) (fun zz => ⟨[(2, .box 2 0), (3, .one .nil), (4, .box 8 0), (5, .box 5 0), (6, .one (.key 95000))], [(2, 73, [(.dv [] (.str (ByteArray.empty))), (.dv [] (.int .i64 (0))), .nil, .nil]), (5, 73, [(.dv [] (.str (e10.1))), (.dv [] (.int .i64 (e10.2.1))), (.key 90031), (.key 90900)]), (8, 80, [(.dv [] (bytesD (code))), (.dv [] (.int .i64 (zz.2.1))), (.dv [] (.int .i64 (zz.2.2)))])], [(95000, some (kcOf false (.sl 34 7 (zz.1.length) (zz.1.flatMap eOp)))), (90031, some (kcOf false (storesD (e10.2.2.1)))), (90900, some (kcOf false (defsD (e10.2.2.2))))]⟩) (fun zz => zz.1.length ≤ 7 ∧ wSum wOp zz.1 ≤ 400 * zz.1.length ∧ 0 ≤ zz.2.1) (fun zz => 7 - zz.1.length) ((e12, i14, h14)) ?_ (weak_sub ⟨rfl, rfl, rfl, rfl, rfl, trivial⟩ ⟨rfl, rfl, rfl, trivial⟩ ⟨rfl, rfl, rfl, trivial⟩ rfl) (fun zz hx => ?_)
   ·exact ⟨by dsimp only; omega, wOps_ok hz12.1, by dsimp only; omega⟩
   obtain ⟨l, ci, ch⟩ := zz
   replace hx : l.length ≤ 7 ∧ wSum wOp l ≤ 400 * l.length ∧ 0 ≤ ci := hx
   obtain ⟨hl, hlw, hci⟩ := hx
   show Ok _ _ _ _ _ (⟨[(2, .box 2 0), (3, .one .nil), (4, .box 8 0), (5, .box 5 0), (6, .one (.key 95000))], [(2, 73, [(.dv [] (.str (ByteArray.empty))), (.dv [] (.int .i64 (0))), .nil, .nil]), (5, 73, [(.dv [] (.str (e10.1))), (.dv [] (.int .i64 (e10.2.1))), (.key 90031), (.key 90900)]), (8, 80, [(.dv [] (bytesD (code))), (.dv [] (.int .i64 (ci))), (.dv [] (.int .i64 (ch)))])], [(95000, some (kcOf false (.sl 34 7 (l.length) (l.flatMap eOp)))), (90031, some (kcOf false (storesD (e10.2.2.1)))), (90900, some (kcOf false (defsD (e10.2.2.2))))]⟩ : St)
   iterate 3 refine z ?_
   refine yO rfl rfl (pu_lenKn (n := (l.length)) hT rfl rfl (ev_tmp rfl) rfl rfl) rfl ?_
   iterate 2 refine z ?_
   refine yQ rfl (fun c3 => ?_) fun c3 => ?_
   ·skip
    have d3 := of_decide_eq_true c3
    iterate 3 refine z ?_
    refine ok_region ?_
    iterate 2 refine z ?_
    refine o_callB 29000 rfl rfl rfl Tryz.call50 (ok_spec_l9Op (code := code) (i := ci) (h := ch) (by omega) (by omega)) (ev_tmp rfl) rfl ac_dv rfl (fun _ => rfl) ad_nil rfl (fun _ => rfl) (fun _ => rfl) (fun zz hz29 => ?_)
    obtain ⟨e29, i29, h29⟩ := zz
    replace hz29 : isOpB e29 = true ∧ plainO e29 ∧ 0 ≤ i29 := hz29
    refine o_build1 (k := 30) (js := [38001]) hT rfl rfl rfl rfl rfl rfl rfl rfl rfl (ev_tmp rfl) rfl rfl (ow_cons' (ow_dv rfl) (ow_cons' (ow_dv rfl) (ow_cons' (ow_dv rfl) (ow_cons' (ow_dv rfl) (ow_cons' (ow_dv rfl) (ow_cons' (ow_key rfl) (ow_cons' (ow_dv rfl) ow_nil rfl) rfl) rfl) rfl) rfl) rfl) rfl) (by decide) (by decide) rfl rfl ?_
    simp only [killT, killB, SV.kill, CV.kill, kk, Nat.reduceBEq]
    refine o_appK (k := 95000) (j := 30) (cs := (l ++ [e29]).flatMap eOp) (n := (l ++ [e29]).length) hT rfl rfl rfl rfl rfl rfl rfl (ev_tmp rfl) rfl rfl rfl (ev_tmp rfl) rfl rfl (by decide) (by dsimp only [kcOf, KC.old]; omega) (by dsimp only [kcOf, KC.old]; omega) (by rw [List.length_append]; rfl) (by rw [List.flatMap_append]; rfl) ?_
    simp only [killT, killB, SV.kill, CV.kill, kk, Nat.reduceBEq]
    refine z ?_
    refine ops_nil ?_
    iterate 2 refine z ?_
    refine ⟨(l ++ [e29], i29, h29), ?_, ?_, weak_sub ⟨rfl, rfl, rfl, rfl, rfl, trivial⟩ ⟨rfl, rfl, rfl, trivial⟩ ⟨rfl, rfl, rfl, trivial⟩ rfl⟩
    ·exact ⟨by dsimp only; rw [List.length_append, List.length_singleton]; omega, by have hw9 := hz29; dsimp only; rw [wOps_snoc, List.length_append, List.length_singleton]; first | omega | (have hw8 := op_wt hz29.1 hz29.2.1; omega), by dsimp only; omega⟩
    ·dsimp only; rw [List.length_append, List.length_singleton]; omega
   ·skip
    have d3 := of_decide_eq_false c3
    iterate 12 refine z ?_
    refine ok_weak (σ' := ⟨[(2, .box 2 0), (3, .one (.key 95000))], [(2, 73, [(.dv [] (.str (e10.1))), (.dv [] (.int .i64 (e10.2.1))), (.key 90031), (.key 90900)])], [(90031, some (kcOf false (storesD (e10.2.2.1)))), (90900, some (kcOf false (defsD (e10.2.2.2)))), (95000, some (kcOf false (.sl 34 7 (l.length) (l.flatMap eOp))))]⟩) (weak_sub ⟨rfl, rfl, trivial⟩ ⟨rfl, trivial⟩ ⟨rfl, rfl, rfl, trivial⟩ rfl) ?_
    refine z ?_
    refine fin2 (res_cell hT rfl rfl rfl rfl) (res_tmp rfl) rfl rfl ⟨(((e10.1), ((e10.2.1), ((e10.2.2.1), (e10.2.2.2)))), (l)), ?_, rfl, rfl⟩
    try dsimp only
    exact ⟨hz10.1, by omega, by omega⟩
  ·skip
   have d2 := of_decide_eq_false c2
   iterate 9 refine z ?_
   refine ok_weak (σ' := ⟨[(2, .box 2 0), (3, .one (.key 95000))], [(2, 73, [(.dv [] (.str (e10.1))), (.dv [] (.int .i64 (e10.2.1))), (.key 90031), (.key 90900)])], [(90031, some (kcOf false (storesD (e10.2.2.1)))), (90900, some (kcOf false (defsD (e10.2.2.2)))), (95000, some (kcOf false (opsD (e12))))]⟩) (weak_sub ⟨rfl, rfl, trivial⟩ ⟨rfl, trivial⟩ ⟨rfl, rfl, rfl, trivial⟩ rfl) ?_
   refine z ?_
   refine fin2 (res_cell hT rfl rfl rfl rfl) (res_tmp rfl) rfl rfl ⟨(((e10.1), ((e10.2.1), ((e10.2.2.1), (e10.2.2.2)))), (e12)), ?_, rfl, rfl⟩
   try dsimp only
   exact ⟨hz10.1, by omega, wOps_ok hz12.1⟩
end Go.Proofs.YtoigmlbidpocnaaGreat

namespace Go.Proofs.YtoigmlbidpocnaaGreat
open Go.RowKit
open Go.Proofs
set_option linter.unusedVariables false
set_option linter.unusedSimpArgs false

def scIns : List Str → Str → List Str
 | [], n => [n]
 | x :: xs, n => if sLt x n then x :: scIns xs n else if sEq x n then x :: xs else n :: x :: xs
def scopeL (l : List OpT) : List Str := l.foldl (fun out o => scIns out o.2.1) []
theorem scIns_len {n : Str} : ∀ {l : List Str}, (scIns l n).length ≤ l.length + 1
 | [] => Nat.le_refl _
 | x :: xs => by
  have ih := scIns_len (n := n) (l := xs)
  rw [scIns]
  split
  ·rw [List.length_cons, List.length_cons]; omega
  ·split
   ·omega
   ·exact Nat.le_refl _
theorem scope_len (l : List OpT) : (scopeL l).length ≤ l.length := by
 have key : ∀ (l : List OpT) (out : List Str), (l.foldl (fun out o => scIns out o.2.1) out).length ≤ out.length + l.length := by
  intro l
  induction l with
  | nil => exact fun out => Nat.le_refl _
  | cons o l ih =>
   intro out
   have h1 := ih (scIns out o.2.1)
   have h2 := scIns_len (n := o.2.1) (l := out)
   rw [List.foldl_cons, List.length_cons]; omega
 have := key l []
 rw [List.length_nil, Nat.zero_add] at this
 exact this
theorem sEqI {a b : Str} : sEq a b = true ↔ a = b := by
 unfold sEq
 rw [beq_iff_eq]
 constructor
 ·intro h
  rw [toList_data, toList_data] at h
  exact ByteArray.ext (Array.toList_inj.1 h)
 ·intro h; rw [h]
theorem scIns_mem {n m : Str} : ∀ {l : List Str}, m ∈ scIns l n ↔ m = n ∨ m ∈ l
 | [] => by simp [scIns]
 | x :: xs => by
  have ih := scIns_mem (n := n) (m := m) (l := xs)
  rw [scIns]
  split
  ·simp only [List.mem_cons, ih]
   constructor
   ·rintro (h | h | h)
    ·exact .inr (.inl h)
    ·exact .inl h
    ·exact .inr (.inr h)
   ·rintro (h | h | h)
    ·exact .inr (.inl h)
    ·exact .inl h
    ·exact .inr (.inr h)
  ·split
   ·rename_i h1 h2
    have e := sEqI.1 h2
    simp only [List.mem_cons]
    constructor
    ·exact fun h => .inr h
    ·rintro (h | h)
     ·exact .inl (h.trans e.symm)
     ·exact h
   ·simp only [List.mem_cons]
theorem scope_mem {m : Str} (l : List OpT) : m ∈ scopeL l ↔ ∃ o ∈ l, o.2.1 = m := by
 have key : ∀ (l : List OpT) (out : List Str), m ∈ l.foldl (fun out o => scIns out o.2.1) out ↔ (∃ o ∈ l, o.2.1 = m) ∨ m ∈ out := by
  intro l
  induction l with
  | nil => intro out; simp
  | cons o l ih =>
   intro out
   rw [List.foldl_cons, ih, scIns_mem]
   simp only [List.mem_cons]
   constructor
   ·rintro (⟨p, hp, e⟩ | e | h)
    ·exact .inl ⟨p, .inr hp, e⟩
    ·exact .inl ⟨o, .inl rfl, e.symm⟩
    ·exact .inr h
   ·rintro (⟨p, hp | hp, e⟩ | h)
    ·subst hp; exact .inr (.inl e.symm)
    ·exact .inl ⟨p, hp, e⟩
    ·exact .inr (.inr h)
 have := key l []
 simpa [scopeL] using this

def bl (x y : List UInt8) : Prop := Op.bytesLess x y = true
theorem bl_tri (x y : List UInt8) : bl x y ∨ x = y ∨ bl y x := by
 have h := bl_total x y
 unfold bl
 cases h1 : Op.bytesLess x y with
 | true => exact .inl rfl
 | false =>
  cases h2 : Op.bytesLess y x with
  | true => exact .inr (.inr rfl)
  | false =>
   rw [h1, h2] at h
   exact .inr (.inl (by simpa using h))
theorem srt_uniq : ∀ (x y : List (List UInt8)), x.Pairwise bl → y.Pairwise bl → (∀ z, z ∈ x ↔ z ∈ y) → x = y
 | [], [], _, _, _ => rfl
 | [], b :: y, _, _, h => absurd ((h b).2 (by simp)) (by simp)
 | a :: x, [], _, _, h => absurd ((h a).1 (by simp)) (by simp)
 | a :: x, b :: y, hx, hy, h => by
  obtain ⟨hx1, hx2⟩ := List.pairwise_cons.1 hx
  obtain ⟨hy1, hy2⟩ := List.pairwise_cons.1 hy
  have irr : ∀ z, ¬ bl z z := fun z hz => by unfold bl at hz; rw [bl_irr] at hz; cases hz
  have e : a = b := by
   rcases List.mem_cons.1 ((h a).1 (by simp)) with h1 | h1
   ·exact h1
   ·rcases List.mem_cons.1 ((h b).2 (by simp)) with h2 | h2
    ·exact h2.symm
    ·exact absurd (bl_trans _ _ _ (hy1 a h1) (hx1 b h2)) (irr b)
  subst e
  rw [srt_uniq x y hx2 hy2 (fun z => ?_)]
  constructor
  ·intro hz
   rcases List.mem_cons.1 ((h z).1 (by simp [hz])) with h1 | h1
   ·rw [h1] at hz; exact absurd (hx1 a hz) (irr a)
   ·exact h1
  ·intro hz
   rcases List.mem_cons.1 ((h z).2 (by simp [hz])) with h1 | h1
   ·rw [h1] at hz; exact absurd (hy1 a hz) (irr a)
   ·exact h1
theorem comp_up {d : Array (List UInt8)} (hs : ∀ i, i + 1 < d.size → ¬ bl d[i + 1]! d[i]!) : ∀ m, m ≤ d.size → (Lib.compactUpTo d m).Pairwise bl ∧ (∀ z, z ∈ Lib.compactUpTo d m ↔ ∃ j, j < m ∧ z = d[j]!) ∧ (0 < m → ∀ z ∈ Lib.compactUpTo d m, z = d[m - 1]! ∨ bl z d[m - 1]!)
 | 0, _ => ⟨by simp [Lib.compactUpTo], by simp [Lib.compactUpTo], fun h => by omega⟩
 | m + 1, hm => by
  obtain ⟨i1, i2, i3⟩ := comp_up hs m (by omega)
  rw [Lib.compactUpTo_succ, Nat.add_sub_cancel]
  by_cases hk : Lib.keeps d m = true
  ·rw [if_pos hk]
   have hlt : ∀ z ∈ Lib.compactUpTo d m, bl z d[m]! := fun z hz => by
    have hm0 : 0 < m := by
     obtain ⟨j, hj, _⟩ := (i2 z).1 hz; omega
    have hne : d[m]! ≠ d[m - 1]! := by
     unfold Lib.keeps at hk
     rcases of_decide_eq_true hk with h | h
     ·omega
     ·exact h
    have hb : bl d[m - 1]! d[m]! := by
     rcases bl_tri d[m - 1]! d[m]! with h | h | h
     ·exact h
     ·exact absurd h.symm hne
     ·have := hs (m - 1) (by omega)
      rw [show m - 1 + 1 = m by omega] at this
      exact absurd h this
    rcases i3 hm0 z hz with h | h
    ·rw [h]; exact hb
    ·exact bl_trans _ _ _ h hb
   refine ⟨List.pairwise_append.2 ⟨i1, by simp, fun a ha b hb => ?_⟩, fun z => ?_, fun _ z hz => ?_⟩
   ·rw [List.mem_singleton.1 hb]; exact hlt a ha
   ·rw [List.mem_append, i2, List.mem_singleton]
    constructor
    ·rintro (⟨j, hj, e⟩ | e)
     ·exact ⟨j, by omega, e⟩
     ·exact ⟨m, by omega, e⟩
    ·rintro ⟨j, hj, e⟩
     by_cases h : j = m
     ·subst h; exact .inr e
     ·exact .inl ⟨j, by omega, e⟩
   ·rcases List.mem_append.1 hz with h | h
    ·exact .inr (hlt z h)
    ·exact .inl (List.mem_singleton.1 h)
  ·rw [if_neg hk, List.append_nil]
   have hk' : ¬ m = 0 ∧ d[m]! = d[m - 1]! := by
    unfold Lib.keeps at hk
    simp only [decide_eq_true_eq, not_or, Classical.not_not] at hk
    exact hk
   refine ⟨i1, fun z => ?_, fun _ z hz => ?_⟩
   ·rw [i2]
    constructor
    ·rintro ⟨j, hj, e⟩; exact ⟨j, by omega, e⟩
    ·rintro ⟨j, hj, e⟩
     by_cases h : j = m
     ·subst h; exact ⟨j - 1, by omega, by rw [e, hk'.2]⟩
     ·exact ⟨j, by omega, e⟩
   ·rw [hk'.2]; exact i3 (by omega) z hz
theorem comp_srt (zs : List (List UInt8)) : (Lib.compact (zs.mergeSort fun x y => decide (x ≤ y))).Pairwise bl ∧ ∀ z, z ∈ Lib.compact (zs.mergeSort fun x y => decide (x ≤ y)) ↔ z ∈ zs := by
 have hle : ∀ x y : List UInt8, decide (x ≤ y) = !Op.bytesLess y x := fun x y => by
  rw [bytesLess_eq]
  by_cases h : y < x
  ·rw [decide_eq_true h, decide_eq_false (fun h2 : x ≤ y => h2 h)]; rfl
  ·rw [decide_eq_false h, decide_eq_true (show x ≤ y from h)]; rfl
 have hp : (zs.mergeSort fun x y => decide (x ≤ y)).Pairwise (fun x y => decide (x ≤ y) = true) := by
  refine List.pairwise_mergeSort (fun a b c h1 h2 => ?_) (fun a b => ?_) zs
  ·rw [hle] at h1 h2 ⊢
   simp only [Bool.not_eq_true'] at h1 h2 ⊢
   cases h3 : Op.bytesLess c a with
   | false => rfl
   | true =>
    exfalso
    rcases bl_tri a b with h | h | h
    ·have := bl_trans _ _ _ h3 h
     rw [this] at h2; cases h2
    ·subst h; rw [h3] at h2; cases h2
    ·unfold bl at h; rw [h] at h1; cases h1
  ·rw [hle, hle]
   rcases bl_tri a b with h | h | h
   ·cases h2 : Op.bytesLess b a with
    | false => simp
    | true => have := bl_trans _ _ _ h h2; rw [bl_irr] at this; cases this
   ·subst h; simp [bl_irr]
   ·cases h2 : Op.bytesLess a b with
    | false => simp
    | true => have := bl_trans _ _ _ h h2; rw [bl_irr] at this; cases this
 have hm : ∀ z, z ∈ (zs.mergeSort fun x y => decide (x ≤ y)) ↔ z ∈ zs := fun z => List.mem_mergeSort
 generalize (zs.mergeSort fun x y => decide (x ≤ y)) = s at hp hm
 have hs : ∀ i, i + 1 < s.toArray.size → ¬ bl s.toArray[i + 1]! s.toArray[i]! := fun i hi hb => by
  have hi' : i + 1 < s.length := by simpa using hi
  have h := List.pairwise_iff_getElem.1 hp i (i + 1) (by omega) hi' (by omega)
  rw [hle] at h
  rw [getElem!_pos s.toArray (i + 1) hi, getElem!_pos s.toArray i (by omega)] at hb
  simp only [List.getElem_toArray] at hb
  unfold bl at hb
  rw [hb] at h; cases h
 obtain ⟨h1, h2, _⟩ := comp_up hs s.length (by simp)
 refine ⟨h1, fun z => ?_⟩
 rw [← hm z, show Lib.compact s = Lib.compactUpTo s.toArray s.length from rfl, h2]
 constructor
 ·rintro ⟨j, hj, e⟩
  rw [e, getElem!_pos s.toArray j (by simpa using hj)]
  simp
 ·intro hz
  obtain ⟨j, hj, e⟩ := List.mem_iff_getElem.1 hz
  exact ⟨j, hj, by rw [getElem!_pos s.toArray j (by simpa using hj)]; simp [e]⟩
theorem scIns_srt {n : Str} : ∀ {l : List Str}, l.Pairwise (fun a b => sLt a b = true) → (scIns l n).Pairwise (fun a b => sLt a b = true)
 | [], _ => by simp [scIns]
 | x :: xs, h => by
  obtain ⟨h1, h2⟩ := List.pairwise_cons.1 h
  rw [scIns]
  split
  ·rename_i hx
   refine List.pairwise_cons.2 ⟨fun a ha => ?_, scIns_srt h2⟩
   rcases scIns_mem.1 ha with e | e
   ·rw [e]; exact hx
   ·exact h1 a e
  ·split
   ·exact h
   ·rename_i h3 h4
    have hnx : sLt n x = true := by
     have := sLe_eq x n
     rw [Bool.eq_false_iff.2 h3, Bool.eq_false_iff.2 h4] at this
     simpa using this
    refine List.pairwise_cons.2 ⟨fun a ha => ?_, h⟩
    rcases List.mem_cons.1 ha with e | e
    ·rw [e]; exact hnx
    ·exact bl_trans _ _ _ hnx (h1 a e)
theorem scope_srt (l : List OpT) : (scopeL l).Pairwise (fun a b => sLt a b = true) := by
 have key : ∀ (l : List OpT) (out : List Str), out.Pairwise (fun a b => sLt a b = true) → (l.foldl (fun out o => scIns out o.2.1) out).Pairwise (fun a b => sLt a b = true) := by
  intro l
  induction l with
  | nil => exact fun _ h => h
  | cons o l ih => exact fun out h => ih _ (scIns_srt h)
 exact key l [] .nil
theorem scope_eq (l : List OpT) : Lib.compact ((l.map fun o => o.2.1.data.toList).mergeSort fun x y => decide (x ≤ y)) = (scopeL l).map fun s => s.data.toList := by
 obtain ⟨h1, h2⟩ := comp_srt (l.map fun o => o.2.1.data.toList)
 refine srt_uniq _ _ h1 ?_ (fun z => ?_)
 ·rw [List.pairwise_map]
  refine (scope_srt l).imp (fun {a b} h => ?_)
  unfold sLt at h
  rw [toList_data, toList_data] at h
  exact h
 ·rw [h2, List.mem_map, List.mem_map]
  constructor
  ·rintro ⟨o, ho, e⟩; exact ⟨o.2.1, (scope_mem l).2 ⟨o, ho, rfl⟩, e⟩
  ·rintro ⟨s, hs, e⟩
   obtain ⟨o, ho, e2⟩ := (scope_mem l).1 hs
   exact ⟨o, ho, by rw [e2]; exact e⟩
theorem scope_cs (l : List OpT) : cmpS (srtS (l.map fun o => o.2.1)) = scopeL l := by
 unfold cmpS srtS
 rw [map_ofB, List.map_map]
 have := scope_eq l
 rw [show ((fun s : ByteArray => s.data.toList) ∘ fun o : OpT => o.2.1) = fun o : OpT => o.2.1.data.toList from rfl, this, List.map_map]
 rw [show (ofB ∘ fun s : ByteArray => s.data.toList) = id from rfl, List.map_id]

end Go.Proofs.YtoigmlbidpocnaaGreat

namespace Go.Proofs.YtoigmlbidpocnaaGreat
open Go.RowKit
open Go.Proofs
set_option linter.unusedVariables false
set_option linter.unusedSimpArgs false

theorem nm_take {l : List OpT} {k : Nat} (h : k < l.length) : ((l.take (k + 1)).map fun o => o.2.1) = ((l.take k).map fun o => o.2.1) ++ [(l.getD (k : Int).toNat default).2.1] := by
 rw [List.take_add_one, List.getElem?_eq_getElem h, List.map_append, getD_at h]; rfl

theorem ok_impl_ScopeOf {l : List OpT} (hl : l.length ≤ 1099511627776) : KFn Tryz.prog 12 [.one (.dv [] (opsD (l)))] (.one (.key 95000)) [(95000, some (kcOf false (strsD (scopeL l))))] := by
 refine ⟨fn_intro Tryz.func12 rfl Tryz.ntmps12 Tryz.results12 rfl (fun C => ?_)⟩
 refine ok_fact (x := .tmp 0) (ev_tmp rfl) fun f0 => ?_
 iterate 4 refine z ?_
 refine o_build0 (k := 95000) hT rfl rfl rfl rfl rfl rfl rfl rfl ?_
 iterate 9 refine z ?_
 refine ok_loop (ι := Nat) (fun zz => ⟨[(2, .one .nil), (3, .one (.key 95000)), (7, .one (.dv [] (opsD (l)))), (8, .one (.dv [] (.int .i64 ((((l)).length : Int))))), (9, .one (.dv [] (.int .i64 ((zz : Int)))))], [], [(95000, some (kcOf false (.sl 9 1 (((l.take zz).map fun o => o.2.1).length) (((l.take zz).map fun o => o.2.1).flatMap eStr))))]⟩) (fun zz => zz ≤ l.length) (fun zz => l.length - zz) (0) ?_ (weak_sub ⟨rfl, rfl, rfl, rfl, rfl, trivial⟩ trivial ⟨rfl, trivial⟩ rfl) (fun zz hx => ?_)
 ·exact Nat.zero_le _
 obtain ⟨k, rfl⟩ : ∃ v, v = zz := ⟨_, rfl⟩
 replace hx : k ≤ l.length := hx
 show Ok _ _ _ _ _ (⟨[(2, .one .nil), (3, .one (.key 95000)), (7, .one (.dv [] (opsD (l)))), (8, .one (.dv [] (.int .i64 ((((l)).length : Int))))), (9, .one (.dv [] (.int .i64 ((k : Int)))))], [], [(95000, some (kcOf false (.sl 9 1 (((l.take k).map fun o => o.2.1).length) (((l.take k).map fun o => o.2.1).flatMap eStr))))]⟩ : St)
 iterate 3 refine z ?_
 refine ok_seq ?_
 refine yQ rfl (fun c1 => ?_) fun c1 => ?_
 ·skip
  have d1 := of_decide_eq_true c1
  have hk2 : k < l.length := by omega
  iterate 10 refine z ?_
  refine ok_region ?_
  iterate 3 refine z ?_
  refine o_build1 (k := 16) (js := []) hT rfl rfl rfl rfl rfl rfl rfl rfl rfl (ev_tmp rfl) rfl rfl (ow_cons' (ow_dv rfl) ow_nil rfl) (by decide) (by decide) rfl rfl ?_
  simp only [killT, killB, SV.kill, CV.kill, kk, Nat.reduceBEq]
  refine o_appK (k := 95000) (j := 16) (cs := ((l.take (k + 1)).map fun o => o.2.1).flatMap eStr) (n := ((l.take (k + 1)).map fun o => o.2.1).length) hT rfl rfl rfl rfl rfl rfl rfl (ev_tmp rfl) rfl rfl rfl (ev_tmp rfl) rfl rfl (by decide) (by dsimp only [kcOf]; rw [List.length_map, List.length_take]; omega) (by dsimp only [kcOf]; rw [List.length_map, List.length_take]; omega) (by rw [nm_take hk2, List.length_append]; rfl) (by rw [nm_take hk2, List.flatMap_append]; rfl) ?_
  simp only [killT, killB, SV.kill, CV.kill, kk, Nat.reduceBEq]
  refine z ?_
  refine ops_nil ?_
  iterate 2 refine z ?_
  refine ok_region ?_
  iterate 3 refine z ?_
  refine ⟨k + 1, ?_, ?_, weak_sub ⟨rfl, rfl, rfl, rfl, rfl, trivial⟩ trivial ⟨rfl, trivial⟩ rfl⟩
  ·omega
  ·omega
 ·skip
  have d1 := of_decide_eq_false c1
  have hk2 : l.take k = l := List.take_of_length_le (by omega)
  rw [hk2]
  iterate 7 refine z ?_
  refine o_sort (k := 95000) (l := (l.map fun o => o.2.1)) (n := (srtS (l.map fun o => o.2.1)).length) (cs := strD (srtS (l.map fun o => o.2.1))) rfl rfl rfl rfl Tryz.call34 sortOk (ev_tmp rfl) rfl rfl rfl (rfl) (rfl) (by rw [List.length_map]; omega) ((srtS_len _).symm) (rfl) ?_
  simp only [killT, killB, SV.kill, CV.kill, kk, Nat.reduceBEq]
  iterate 3 refine z ?_
  refine o_compact (k := 95000) (l := (srtS (l.map fun o => o.2.1))) (n := (scopeL l).length) (cs := (scopeL l).flatMap eStr) rfl rfl rfl rfl Tryz.call35 compOk (ev_tmp rfl) rfl rfl rfl (rfl) (rfl) (by rw [srtS_len, List.length_map]; omega) (by rw [scope_cs]) (by rw [scope_cs]; rfl) ?_
  simp only [killT, killB, SV.kill, CV.kill, kk, Nat.reduceBEq]
  iterate 2 refine z ?_
  refine ok_weak (σ' := ⟨[(2, .one (.key 95000))], [], [(95000, some (kcOf false (strsD (scopeL l))))]⟩) (weak_sub ⟨rfl, trivial⟩ trivial ⟨rfl, trivial⟩ rfl) ?_
  refine z ?_
  refine fin1 (res_tmp rfl) ?_
  exact ⟨rfl, rfl⟩

end Go.Proofs.YtoigmlbidpocnaaGreat

namespace Go.Proofs.YtoigmlbidpocnaaGreat
open Go.RowKit
open Go.Proofs
set_option linter.unusedVariables false
set_option linter.unusedSimpArgs false

def wbX (z : Int) : UInt8 := UInt8.ofNat (IntKind.u8.wrap z).toNat
theorem wbX_one (z : Int) : [DV.int .u8 (IntKind.u8.wrap z)] = eByte (wbX z) := by
 show _ = [DV.int .u8 ((wbX z).toNat : Int)]
 unfold wbX
 rw [← wrap_u8]
def plnB (o : OpT) : Bool := isKey o.2.2.1 || eqKeyB o.2.2.1 (0, 0, ByteArray.mk #[])
theorem allO_take {p : OpT → Bool} {l : List OpT} {k : Nat} (h : k < l.length) : (l.take (k + 1)).all p = ((l.take k).all p && p (l.getD (k : Int).toNat default)) := by
 rw [List.take_add_one, List.getElem?_eq_getElem h, List.all_append, getD_at h]; simp
theorem are_all (l : List OpT) : areB l = (decide ((l.length : Int) ≤ 6) && l.all isOpB) := by rw [areB, Bool.and_comm]
theorem encO_pos (l : List OpT) : decide ((0 : Int) < ((encO l).length : Int)) = areB l := by
 cases h : areB l with
 | false => rw [encO_bad h]; rfl
 | true =>
  rw [encO_ok h rfl, encON_enc h _ (Nat.le_refl _)]
  refine decide_eq_true ?_
  have : 0 < (uvL l.length).length := by
   by_cases h1 : l.length < 128
   ·rw [uvL_lt h1]; simp
   ·rw [uvL_ge h1]; simp
  rw [List.length_append]; omega
theorem decO_back {b : List UInt8} (h : (decO b).2 = true) : encO (decO b).1 = b := by
 rcases decO_cases b 100 100 200 100 with h1 | ⟨l, h1⟩
 ·rw [decO, h1] at h; cases h
 ·have e : decO b = (l, true) := h1
  rw [e]; exact (decO_true h1).2
theorem norm_pln {o : OpT} (h : plnB o = true) : normO o = o := by
 cases hk : isKey o.2.2.1 with
 | true => rw [normO, decK_encK hk]
 | false =>
  simp only [plnB, hk, Bool.false_or, eqKeyB, Bool.and_eq_true, decide_eq_true_eq] at h
  obtain ⟨h1, h2, h3⟩ := h
  have h4 : o.2.2.1.2.2 = ByteArray.mk #[] := sEqI.1 h3
  rw [normO, encK_bad hk, decK_nil rfl]
  obtain ⟨a, b, ⟨x, y, z⟩, c⟩ := o
  simp only at h1 h2 h4 ⊢
  rw [h1, h2, h4]; rfl
theorem enc_fin {l : List OpT} {v p : Bool} (hv : v = areB l) (hp : p = l.all plnB) : ((decO (encO l)).2 == v && (!v || !p || eqL eqOpB (decO (encO l)).1 l)) = true := by
 cases h : areB l with
 | false =>
  have h2 : (decO (encO l)).2 = false := by
   cases hd : (decO (encO l)).2 with
   | false => rfl
   | true =>
    have e := decO_back hd
    rw [encO_bad h] at e hd
    rcases decO_cases [] 100 100 200 100 with h1 | ⟨l', h1⟩
    ·rw [decO, h1] at hd; cases hd
    ·obtain ⟨h3, h4⟩ := decO_true h1
     have := encO_pos l'
     rw [h4, h3] at this
     revert this; decide
  rw [h2, hv, h]; rfl
 | true =>
  rw [decO_small h, hv, h]
  cases hq : l.all plnB with
  | false => rw [hp, hq]; rfl
  | true =>
   have e : l.map normO = l := by
    rw [List.all_eq_true] at hq
    exact (List.map_congr_left (fun o ho => norm_pln (hq o ho))).trans (List.map_id _)
   rw [e, hp, hq, eqL_self (fun o => by simp [eqOpB, sEq_self, eqKey_self, eqRec_self])]; rfl
theorem scope_lt {l : List OpT} {k : Nat} (h0 : 1 ≤ k) (h : k < (scopeL l).length) : sLt ((scopeL l).getD ((k : Int) - 1).toNat default) ((scopeL l).getD (k : Int).toNat default) = true := by
 have h1 := List.pairwise_iff_getElem.1 (scope_srt l) (k - 1) k (by omega) h (by omega)
 rw [show ((k : Int) - 1).toNat = k - 1 by omega, Int.toNat_natCast, List.getD_eq_getElem?_getD, List.getD_eq_getElem?_getD, List.getElem?_eq_getElem h, List.getElem?_eq_getElem (show k - 1 < (scopeL l).length by omega)]
 exact h1

theorem ok_spec_l1Bent {code : List UInt8} {i h : Int} {l : List UInt8} (hc : code.length ≤ 1048576) (hi : 0 ≤ i) (hl : l.length ≤ 1000000) : BFn Tryz.prog 33 [.one (.dv [] (bytesD (l)))] 80 (bytesD (code)) [.dv [] (.int .i64 (i)), .dv [] (.int .i64 (h))] (fun zz : List UInt8 × Int × Int => zz.1.length ≤ l.length + 1 ∧ 0 ≤ zz.2.1) (fun zz : List UInt8 × Int × Int => .one (.key 95000)) (fun zz : List UInt8 × Int × Int => [(95000, some (kcOf false (bytesD (zz.1))))]) (fun zz : List UInt8 × Int × Int => [.dv [] (.int .i64 (zz.2.1)), .dv [] (.int .i64 (zz.2.2))]) := by
 refine ⟨fn_introS Tryz.func33 rfl Tryz.ntmps33 Tryz.results33 rfl (fun C => ?_)⟩
 refine ok_fact (x := .tmp 1) (ev_tmp rfl) fun f1 => ?_
 iterate 4 refine z ?_
 refine o_build0 (k := 95000) hT rfl rfl rfl rfl rfl rfl rfl rfl ?_
 refine z ?_
 refine o_appV (k := 95000) (cs := (l).flatMap eByte) (n := (l).length) hT rfl rfl rfl rfl rfl rfl rfl (ev_tmp rfl) rfl rfl rfl (ev_tmp rfl) (plain_flat (fun _ => rfl) _) (by dsimp only [kcOf]; omega) (by dsimp only [kcOf]; omega) (Nat.zero_add _) (rfl) ?_
 simp only [killT, killB, SV.kill, CV.kill, kk, Nat.reduceBEq]
 iterate 4 refine z ?_
 refine yO rfl rfl (pu_move (.inl rfl) (ev_abox (ev_tmp rfl))) rfl ?_
 refine o_callB 10000 rfl rfl rfl Tryz.call49 (ok_spec_l1Below (code := code) (i := i) (h := h) (n := 6) (by omega) (by omega) ) (ev_tmp rfl) rfl ac_arg rfl (fun _ => rfl) (ad_cons (ev_int (inR_lit rfl)) (ag_one ac_dv) rfl ad_nil) rfl (fun _ => rfl) (fun _ => rfl) (fun zz hz10 => ?_)
 obtain ⟨e10, i10, h10⟩ := zz
 replace hz10 : 0 ≤ e10 ∧ (0 < (6 : Int) → e10 < (6 : Int)) ∧ 0 ≤ i10 := hz10
 iterate 6 refine z ?_
 refine yQ rfl (fun c1 => ?_) fun c1 => ?_
 ·skip
  have d1 := of_decide_eq_true c1
  iterate 2 refine z ?_
  refine yO rfl rfl (pu_lenKn (n := ((l).length)) hT rfl rfl (ev_tmp rfl) rfl rfl) rfl ?_
  iterate 2 refine z ?_
  refine yQ rfl (fun c2 => ?_) fun c2 => ?_
  ·skip
   have d2 := of_decide_eq_true c2
   refine ok_region ?_
   refine z ?_
   refine yO rfl rfl (pu_move (.inl rfl) (ev_abox (ev_tmp rfl))) rfl ?_
   refine z ?_
   refine yO rfl rfl (pu_lenKn (n := ((l).length)) hT rfl rfl (ev_tmp rfl) rfl rfl) rfl ?_
   refine o_callB 20000 rfl rfl rfl Tryz.call49 (ok_spec_l1Below (code := code) (i := i10) (h := h10) (n := (((l).length) : Int)) (by omega) (by omega) ) (ev_tmp rfl) rfl ac_arg rfl (fun _ => rfl) (ad_cons (ev_tmp rfl) (ag_one ac_dv) rfl ad_nil) rfl (fun _ => rfl) (fun _ => rfl) (fun zz hz20 => ?_)
   obtain ⟨e20, i20, h20⟩ := zz
   replace hz20 : 0 ≤ e20 ∧ (0 < ((((l).length) : Int)) → e20 < ((((l).length) : Int))) ∧ 0 ≤ i20 := hz20
   have q20 := hz20.2.1 (by omega)
   have hkn : (e20).toNat < l.length := by omega
   refine yO rfl rfl (pu_move (.inl rfl) (ev_abox (ev_tmp rfl))) rfl ?_
   refine o_callB 22000 rfl rfl rfl Tryz.call49 (ok_spec_l1Below (code := code) (i := i20) (h := h20) (n := 256) (by omega) (by omega) ) (ev_tmp rfl) rfl ac_arg rfl (fun _ => rfl) (ad_cons (ev_int (inR_lit rfl)) (ag_one ac_dv) rfl ad_nil) rfl (fun _ => rfl) (fun _ => rfl) (fun zz hz22 => ?_)
   obtain ⟨e22, i22, h22⟩ := zz
   replace hz22 : 0 ≤ e22 ∧ (0 < (256 : Int) → e22 < (256 : Int)) ∧ 0 ≤ i22 := hz22
   refine yO rfl rfl (pu_convI hT rfl rfl rfl (ev_tmp rfl)) rfl ?_
   refine yO rfl rfl (pu_indexK (i := (e20).toNat) hT rfl rfl rfl (ev_tmp rfl) rfl (ev_tmp rfl) (by omega) (by show _ < ((l).length); omega)) rfl ?_
   refine o_storeE (js := []) (cs := (l.set (e20).toNat (wbX e22)).flatMap eByte) hT rfl rfl rfl rfl (ev_tmp rfl) (ev_tmp rfl) rfl rfl rfl rfl (ow_cons' (ow_dv rfl) ow_nil rfl) (by decide) (by decide) rfl (by show _ ≤ List.length ((l).flatMap eByte); exact el_le (enc := eByte) (sz := 1) (fun _ => rfl) hkn) (by rw [wbX_one]; exact el_set (enc := eByte) (sz := 1) (fun _ => rfl) hkn _) ?_
   simp only [killT, killB, SV.kill, CV.kill, kk, Nat.reduceBEq]
   refine ops_nil ?_
   iterate 6 refine z ?_
   refine ok_weak (σ' := ⟨[(4, .one (.key 95000)), (0, .abox 0)], [(0, 80, [(.arg 900001 (bytesD (code))), (.dv [] (.int .i64 (i22))), (.dv [] (.int .i64 (h22)))])], [(95000, some (kcOf false (bytesD (l.set (e20).toNat (wbX e22)))))]⟩) (weak_sub ⟨rfl, rfl, trivial⟩ ⟨rfl, trivial⟩ ⟨(congrArg (fun m => some (some (KC.mk false 5 1 m _))) (List.length_set).symm), trivial⟩ rfl) ?_
   refine z ?_
   refine fin1 (res_tmp rfl) ⟨((l.set (e20).toNat (wbX e22)), i22, h22), ?_, rfl, rfl, rfl, rfl⟩
   try dsimp only
   exact ⟨by rw [List.length_set]; omega, by omega⟩
  ·skip
   have d2 := of_decide_eq_false c2
   iterate 7 refine z ?_
   refine ok_weak (σ' := ⟨[(4, .one (.key 95000)), (0, .abox 0)], [(0, 80, [(.arg 900001 (bytesD (code))), (.dv [] (.int .i64 (i10))), (.dv [] (.int .i64 (h10)))])], [(95000, some (kcOf false (bytesD (l))))]⟩) (weak_sub ⟨rfl, rfl, trivial⟩ ⟨rfl, trivial⟩ ⟨rfl, trivial⟩ rfl) ?_
   refine z ?_
   refine fin1 (res_tmp rfl) ⟨((l), i10, h10), ?_, rfl, rfl, rfl, rfl⟩
   try dsimp only
   exact ⟨by omega, by omega⟩
 ·skip
  have d1 := of_decide_eq_false c1
  iterate 4 refine z ?_
  refine yQ rfl (fun c3 => ?_) fun c3 => ?_
  ·skip
   have d3 := of_decide_eq_true c3
   refine ok_region ?_
   refine z ?_
   refine yO rfl rfl (pu_move (.inl rfl) (ev_abox (ev_tmp rfl))) rfl ?_
   refine z ?_
   refine yO rfl rfl (pu_lenKn (n := ((l).length)) hT rfl rfl (ev_tmp rfl) rfl rfl) rfl ?_
   refine z ?_
   refine o_callB 32000 rfl rfl rfl Tryz.call49 (ok_spec_l1Below (code := code) (i := i10) (h := h10) (n := ((((l).length) : Int)) + (1)) (by omega) (by omega) ) (ev_tmp rfl) rfl ac_arg rfl (fun _ => rfl) (ad_cons (ev_tmp rfl) (ag_one ac_dv) rfl ad_nil) rfl (fun _ => rfl) (fun _ => rfl) (fun zz hz32 => ?_)
   obtain ⟨e32, i32, h32⟩ := zz
   replace hz32 : 0 ≤ e32 ∧ (0 < (((((l).length) : Int)) + (1)) → e32 < (((((l).length) : Int)) + (1))) ∧ 0 ≤ i32 := hz32
   have q32 := hz32.2.1 (by omega)
   refine yO rfl rfl (pu_kslH (j := 95000) (n := ((l).length)) (hi := (e32).toNat) (sz := 1) (z := e32) hT rfl rfl rfl (ev_tmp rfl) rfl (ev_tmp rfl) rfl rfl (by omega) (by omega)) rfl ?_
   refine ops_weak (weak_cut (s := 33) (k := 95000) (m := (e32).toNat) (sz := 1) (cs := (l.take (e32).toNat).flatMap eByte) rfl rfl rfl rfl (by first | omega | (dsimp only [kcOf]; omega)) ((take_flat (sz := 1) (fun _ => rfl) _ _).1)) ?_
   simp only [killT, killB, SV.kill, CV.kill, kk, Nat.reduceBEq]
   refine z ?_
   refine ops_nil ?_
   iterate 6 refine z ?_
   refine ok_weak (σ' := ⟨[(4, .one (.key 95000)), (0, .abox 0)], [(0, 80, [(.arg 900001 (bytesD (code))), (.dv [] (.int .i64 (i32))), (.dv [] (.int .i64 (h32)))])], [(95000, some (kcOf false (bytesD (l.take (e32).toNat))))]⟩) (weak_sub ⟨rfl, rfl, trivial⟩ ⟨rfl, trivial⟩ ⟨(congrArg (fun m => some (some (KC.mk false 5 1 m _))) (by rw [List.length_take]; omega)), trivial⟩ rfl) ?_
   refine z ?_
   refine fin1 (res_tmp rfl) ⟨((l.take (e32).toNat), i32, h32), ?_, rfl, rfl, rfl, rfl⟩
   try dsimp only
   exact ⟨by rw [List.length_take]; omega, by omega⟩
  ·skip
   have d3 := of_decide_eq_false c3
   iterate 4 refine z ?_
   refine yQ rfl (fun c4 => ?_) fun c4 => ?_
   ·skip
    have d4 := of_decide_eq_true c4
    refine ok_region ?_
    refine z ?_
    refine yO rfl rfl (pu_move (.inl rfl) (ev_abox (ev_tmp rfl))) rfl ?_
    refine o_buildN (k := 38) (js := []) hT rfl rfl rfl rfl rfl rfl rfl rfl rfl rfl rfl (ep_cons (ev_int (inR_lit rfl)) rfl rfl rfl (ep_cons (ev_int (inR_lit rfl)) rfl rfl rfl (ep_cons (ev_int (inR_lit rfl)) rfl rfl rfl (ep_cons (ev_int (inR_lit rfl)) rfl rfl rfl ep_nil)))) (ow_cons' (ow_dv rfl) (ow_cons' (ow_dv rfl) (ow_cons' (ow_dv rfl) (ow_cons' (ow_dv rfl) ow_nil rfl) rfl) rfl) rfl) (by decide) (by decide) rfl rfl ?_
    simp only [killT, killB, SV.kill, CV.kill, kk, Nat.reduceBEq]
    refine o_callB 39000 rfl rfl rfl Tryz.call51 (ok_spec_l1Int (code := code) (i := i10) (h := h10) (l := [0, 1, 128, 255]) (by omega) (by omega) (by exact Nat.succ_pos _)) (ev_tmp rfl) rfl ac_arg rfl (fun _ => rfl) (ad_cons (ev_tmp rfl) (ag_one (ac_key' rfl rfl)) rfl ad_nil) rfl (fun _ => rfl) (fun _ => rfl) (fun zz hz39 => ?_)
    obtain ⟨e39, i39, h39⟩ := zz
    replace hz39 : e39 ∈ ([0, 1, 128, 255]) ∧ 0 ≤ i39 := hz39
    refine yO rfl rfl (pu_convI hT rfl rfl rfl (ev_tmp rfl)) rfl ?_
    refine o_build1 (k := 41) (js := []) hT rfl rfl rfl rfl rfl rfl rfl rfl rfl (ev_tmp rfl) rfl rfl (ow_cons' (ow_dv rfl) ow_nil rfl) (by decide) (by decide) rfl rfl ?_
    simp only [killT, killB, SV.kill, CV.kill, kk, Nat.reduceBEq]
    refine o_appK (k := 95000) (j := 41) (cs := (l ++ [wbX e39]).flatMap eByte) (n := (l ++ [wbX e39]).length) hT rfl rfl rfl rfl rfl rfl rfl (ev_tmp rfl) rfl rfl rfl (ev_tmp rfl) rfl rfl (by decide) (by dsimp only [kcOf, KC.old]; omega) (by dsimp only [kcOf, KC.old]; omega) (by rw [List.length_append]; rfl) (by rw [List.flatMap_append, wbX_one]; simp) ?_
    simp only [killT, killB, SV.kill, CV.kill, kk, Nat.reduceBEq]
    refine z ?_
    refine ops_nil ?_
    iterate 6 refine z ?_
    refine ok_weak (σ' := ⟨[(4, .one (.key 95000)), (0, .abox 0)], [(0, 80, [(.arg 900001 (bytesD (code))), (.dv [] (.int .i64 (i39))), (.dv [] (.int .i64 (h39)))])], [(95000, some (kcOf false (bytesD (l ++ [wbX e39]))))]⟩) (weak_sub ⟨rfl, rfl, trivial⟩ ⟨rfl, trivial⟩ ⟨rfl, trivial⟩ rfl) ?_
    refine z ?_
    refine fin1 (res_tmp rfl) ⟨((l ++ [wbX e39]), i39, h39), ?_, rfl, rfl, rfl, rfl⟩
    try dsimp only
    exact ⟨by rw [List.length_append]; exact Nat.le_refl _, by omega⟩
   ·skip
    have d4 := of_decide_eq_false c4
    iterate 7 refine z ?_
    refine ok_weak (σ' := ⟨[(4, .one (.key 95000)), (0, .abox 0)], [(0, 80, [(.arg 900001 (bytesD (code))), (.dv [] (.int .i64 (i10))), (.dv [] (.int .i64 (h10)))])], [(95000, some (kcOf false (bytesD (l))))]⟩) (weak_sub ⟨rfl, rfl, trivial⟩ ⟨rfl, trivial⟩ ⟨rfl, trivial⟩ rfl) ?_
    refine z ?_
    refine fin1 (res_tmp rfl) ⟨((l), i10, h10), ?_, rfl, rfl, rfl, rfl⟩
    try dsimp only
    exact ⟨by omega, by omega⟩
theorem ok_spec_DrawDecodeOps {code : List UInt8} (hc : code.length ≤ 1048576) : EFn Tryz.prog 10 [.one (.dv [] (bytesD (code)))] (fun zz : List UInt8 => zz.length ≤ 10000) (fun zz : List UInt8 => .one (.key 96000)) (fun zz : List UInt8 => [(96000, some (kcOf false (bytesD (zz))))]) := by
 refine ⟨fn_intro Tryz.func10 rfl Tryz.ntmps10 Tryz.results10 rfl (fun C => ?_)⟩
 refine ok_fact (x := .tmp 0) (ev_tmp rfl) fun f0 => ?_
 iterate 5 refine z ?_
 refine o_callP rfl rfl rfl Tryz.call29 (ok_spec_l1New (code := code) (by omega)) (ev_tmp rfl) ac_dv rfl (fun _ => rfl) rfl rfl (fun zz hz6 => ?_)
 obtain ⟨i6, h6⟩ := zz
 replace hz6 : 0 ≤ i6 := hz6
 iterate 4 refine z ?_
 refine o_callB 8000 rfl rfl rfl Tryz.call31 (ok_spec_l9Ops (code := code) (i := i6) (h := h6) (m := 3) (by omega) (by omega) (by omega)) (ev_tmp rfl) rfl ac_dv rfl (fun _ => rfl) (ad_cons (ev_int (inR_lit rfl)) (ag_one ac_dv) rfl ad_nil) rfl (fun _ => rfl) (fun _ => rfl) (fun zz hz8 => ?_)
 obtain ⟨e8, i8, h8⟩ := zz
 replace hz8 : opsOk e8 ∧ (e8.length : Int) ≤ (3 : Int) ∧ 0 ≤ i8 := hz8
 have hel := encO_len e8
 refine o_callK 9000 rfl rfl rfl Tryz.call30 (ok_spec_EncodeOps (l := e8) (by omega)) (as_cons (ev_tmp rfl) (ag_one (ac_key' rfl rfl)) as_nil) rfl rfl rfl ?_
 iterate 5 refine z ?_
 refine o_callB 11000 rfl rfl rfl Tryz.call32 (ok_spec_l1Once (code := code) (i := i8) (h := h8) (n := 3) (by omega) (by omega) ) (ev_tmp rfl) rfl ac_dv rfl (fun _ => rfl) (ad_cons (ev_int (inR_lit rfl)) (ag_one ac_dv) rfl ad_nil) rfl (fun _ => rfl) (fun _ => rfl) (fun zz hz11 => ?_)
 obtain ⟨e11, i11, h11⟩ := zz
 replace hz11 : 0 ≤ i11 := hz11
 refine z ?_
 refine yQ rfl (fun c1 => ?_) fun c1 => ?_
 ·skip
  iterate 3 refine z ?_
  refine o_callB 14000 rfl rfl rfl Tryz.call33 (ok_spec_l1Bent (code := code) (i := i11) (h := h11) (l := encO (e8)) (by omega) (by omega) (by omega)) (ev_tmp rfl) rfl ac_dv rfl (fun _ => rfl) (ad_cons (ev_tmp rfl) (ag_one (ac_key' rfl rfl)) rfl ad_nil) rfl (fun _ => rfl) (fun _ => rfl) (fun zz hz14 => ?_)
  obtain ⟨e14, i14, h14⟩ := zz
  replace hz14 : e14.length ≤ (encO (e8)).length + 1 ∧ 0 ≤ i14 := hz14
  iterate 2 refine z ?_
  refine ok_weak (weak_add (k := 96000) (e := 5) (sz := 1) rfl rfl) ?_
  try simp only [killT, killB, SV.kill, CV.kill, kk, Nat.reduceBEq]
  refine ok_weak (weak_swap (s := 2) (k := 109000) (k' := 96000) rfl rfl rfl (by simp) rfl) ?_
  try simp only [killT, killB, SV.kill, CV.kill, kk, Nat.reduceBEq]
  refine ok_weak (σ' := ⟨[(2, .one (.key 96000))], [], [(96000, some (kcOf false (bytesD (e14))))]⟩) (weak_sub ⟨rfl, trivial⟩ trivial ⟨rfl, trivial⟩ rfl) ?_
  iterate 2 refine z ?_
  refine fin1 (res_tmp rfl) ⟨((e14)), ?_, rfl, rfl⟩
  try dsimp only
  omega
 ·skip
  iterate 6 refine z ?_
  refine ok_weak (weak_add (k := 96000) (e := 5) (sz := 1) rfl rfl) ?_
  try simp only [killT, killB, SV.kill, CV.kill, kk, Nat.reduceBEq]
  refine ok_weak (weak_swap (s := 2) (k := 909500) (k' := 96000) rfl rfl rfl (by simp) rfl) ?_
  try simp only [killT, killB, SV.kill, CV.kill, kk, Nat.reduceBEq]
  refine ok_weak (σ' := ⟨[(2, .one (.key 96000))], [], [(96000, some (kcOf false (bytesD (encO (e8)))))]⟩) (weak_sub ⟨rfl, trivial⟩ trivial ⟨rfl, trivial⟩ rfl) ?_
  refine z ?_
  refine fin1 (res_tmp rfl) ⟨((encO (e8))), ?_, rfl, rfl⟩
  try dsimp only
  omega
theorem ok_spec_DrawScopeOf {code : List UInt8} (hc : code.length ≤ 1048576) : EFn Tryz.prog 14 [.one (.dv [] (bytesD (code)))] (fun zz : List OpT => zz.length ≤ 7 ∧ wSum wOp zz ≤ 400 * zz.length) (fun zz : List OpT => .one (.key 95000)) (fun zz : List OpT => [(95000, some (kcOf false (opsD (zz))))]) := by
 refine ⟨fn_intro Tryz.func14 rfl Tryz.ntmps14 Tryz.results14 rfl (fun C => ?_)⟩
 refine ok_fact (x := .tmp 0) (ev_tmp rfl) fun f0 => ?_
 iterate 5 refine z ?_
 refine o_callE 0 rfl rfl rfl Tryz.call38 (ok_spec_DrawRunOps (code := code) (by omega)) (as_cons (ev_tmp rfl) (ag_one ac_dv) as_nil) rfl (fun _ => rfl) (fun _ => rfl) (fun zz hz7 => ?_)
 obtain ⟨e7_0, e7_1⟩ := zz
 replace hz7 : wDatabase e7_0 ≤ 8000 ∧ e7_1.length ≤ 7 ∧ wSum wOp e7_1 ≤ 400 * e7_1.length := hz7
 iterate 11 refine z ?_
 refine ok_weak (σ' := ⟨[(2, .one (.key 95000))], [], [(95000, some (kcOf false (opsD (e7_1))))]⟩) (weak_sub ⟨rfl, trivial⟩ trivial ⟨rfl, trivial⟩ rfl) ?_
 refine z ?_
 refine fin1 (res_tmp rfl) ⟨((e7_1)), ?_, rfl, rfl⟩
 try dsimp only
 exact hz7.2
theorem ok_spec_DrawEncodeOps {code : List UInt8} (hc : code.length ≤ 1048576) : EFn Tryz.prog 5 [.one (.dv [] (bytesD (code)))] (fun zz : List OpT => zz.length ≤ 7 ∧ wSum wOp zz ≤ 400 * zz.length) (fun zz : List OpT => .one (.key 95000)) (fun zz : List OpT => [(95000, some (kcOf false (opsD (zz))))]) := by
 refine ⟨fn_intro Tryz.func5 rfl Tryz.ntmps5 Tryz.results5 rfl (fun C => ?_)⟩
 refine ok_fact (x := .tmp 0) (ev_tmp rfl) fun f0 => ?_
 iterate 5 refine z ?_
 refine o_callE 4000 rfl rfl rfl Tryz.call14 (ok_spec_DrawScopeOf (code := code) (by omega)) (as_cons (ev_tmp rfl) (ag_one ac_dv) as_nil) rfl (fun _ => rfl) (fun _ => rfl) (fun zz hz4 => ?_)
 obtain ⟨e4, rfl⟩ : ∃ v, v = zz := ⟨_, rfl⟩
 replace hz4 : e4.length ≤ 7 ∧ wSum wOp e4 ≤ 400 * e4.length := hz4
 iterate 2 refine z ?_
 refine ok_weak (weak_add (k := 95000) (e := 34) (sz := 7) rfl rfl) ?_
 try simp only [killT, killB, SV.kill, CV.kill, kk, Nat.reduceBEq]
 refine ok_weak (weak_swap (s := 2) (k := 99000) (k' := 95000) rfl rfl rfl (by simp) rfl) ?_
 try simp only [killT, killB, SV.kill, CV.kill, kk, Nat.reduceBEq]
 refine ok_weak (σ' := ⟨[(2, .one (.key 95000))], [], [(95000, some (kcOf false (opsD (e4))))]⟩) (weak_sub ⟨rfl, trivial⟩ trivial ⟨rfl, trivial⟩ rfl) ?_
 refine z ?_
 refine fin1 (res_tmp rfl) ⟨((e4)), ?_, rfl, rfl⟩
 try dsimp only
 exact hz4
theorem ok_laws_sameBytes {x y : List UInt8} (h : x = y) : PFn Tryz.prog 11 [.one (.dv [] (bytesD (x))), .one (.dv [] (bytesD (y)))] (.one (.dv [] (.bool (true)))) := by
 refine ⟨fn_intro Tryz.func11 rfl Tryz.ntmps11 Tryz.results11 rfl (fun C => ?_)⟩
 refine ok_fact (x := .tmp 0) (ev_tmp rfl) fun f0 => ?_
 refine ok_fact (x := .tmp 1) (ev_tmp rfl) fun f1 => ?_
 iterate 11 refine z ?_
 refine yQ rfl (fun c1 => ?_) fun c1 => ?_
 ·skip
  have d1 := nd_t c1
  iterate 6 refine z ?_
  first | rfl | (exfalso; subst h; simp_all; done) | (exfalso; subst h; omega)
 ·skip
  have d1 := nd_f c1
  iterate 7 refine z ?_
  refine ok_loop (ι := Nat) (fun zz => ⟨[(0, .one (.dv [] (bytesD (x)))), (1, .one (.dv [] (bytesD (y)))), (5, .one (.dv [] (.int .i64 ((zz : Int)))))], [], []⟩) (fun zz => zz ≤ x.length) (fun zz => x.length - zz) (0) ?_ (weak_sub ⟨rfl, rfl, rfl, trivial⟩ trivial trivial rfl) (fun zz hx => ?_)
  ·exact Nat.zero_le _
  obtain ⟨k, rfl⟩ : ∃ v, v = zz := ⟨_, rfl⟩
  replace hx : k ≤ x.length := hx
  show Ok _ _ _ _ _ (⟨[(0, .one (.dv [] (bytesD (x)))), (1, .one (.dv [] (bytesD (y)))), (5, .one (.dv [] (.int .i64 ((k : Int)))))], [], []⟩ : St)
  iterate 7 refine z ?_
  refine yQ rfl (fun c2 => ?_) fun c2 => ?_
  ·skip
   have d2 := of_decide_eq_true c2
   iterate 4 refine z ?_
   refine ok_seq ?_
   refine ok_regionD (oB := []) (oK := []) (by kernel_rfl) rfl rfl ?_
   refine zD 0 ?_
   refine zD 1 ?_
   refine zD 2 ?_
   refine zD 3 ?_
   refine zD 4 ?_
   refine zD 5 ?_
   refine zD 6 ?_
   refine zD 7 ?_
   refine zD 8 ?_
   refine d_done (by kernel_rfl) ?_
   refine z ?_
   refine yQ rfl (fun c3 => ?_) fun c3 => ?_
   ·skip
    have d3 := nd_t c3
    iterate 10 refine z ?_
    first | rfl | (exfalso; subst h; simp_all; done) | (exfalso; subst h; omega)
   ·skip
    have d3 := nd_f c3
    iterate 3 refine z ?_
    refine ok_region ?_
    iterate 4 refine z ?_
    refine ⟨k + 1, ?_, ?_, weak_sub ⟨rfl, rfl, rfl, trivial⟩ trivial trivial rfl⟩
    ·omega
    ·omega
  ·skip
   have d2 := of_decide_eq_false c2
   iterate 10 refine z ?_
   first | rfl | (exfalso; subst h; simp_all; done) | (exfalso; subst h; omega)
theorem ok_laws_FnEncodedOps {x0 : List UInt8}  : PFn Tryz.prog 3 [.one (.dv [] (bytesD (x0)))] (.one (.dv [] (.bool (true)))) := by
 refine ⟨fn_intro Tryz.func3 rfl Tryz.ntmps3 Tryz.results3 rfl (fun C => ?_)⟩
 refine ok_fact (x := .tmp 0) (ev_tmp rfl) fun f0 => ?_
 iterate 6 refine z ?_
 refine zC Tryz.call4 ?_ (hf := ok_laws_big (code := x0) )
 refine z ?_
 refine yQ rfl (fun c1 => ?_) fun c1 => ?_
 ·skip
  have d1 := of_decide_eq_true c1
  iterate 6 refine z ?_
  rfl
 ·skip
  have d1 := of_decide_eq_false c1
  iterate 4 refine z ?_
  refine o_callE 0 rfl rfl rfl Tryz.call5 (ok_spec_DrawEncodeOps (code := x0) (by omega)) (as_cons (ev_tmp rfl) (ag_one ac_dv) as_nil) rfl (fun _ => rfl) (fun _ => rfl) (fun zz hz18 => ?_)
  obtain ⟨e18, rfl⟩ : ∃ v, v = zz := ⟨_, rfl⟩
  replace hz18 : e18.length ≤ 7 ∧ wSum wOp e18 ≤ 400 * e18.length := hz18
  have hel := encO_len e18
  have hscl := scope_len e18
  iterate 4 refine z ?_
  refine o_callK 20000 rfl rfl rfl Tryz.call6 (ok_impl_EncodeOps (l := e18) ) (as_cons (ev_tmp rfl) (ag_one (ac_key' rfl rfl)) as_nil) rfl rfl rfl ?_
  iterate 4 refine z ?_
  refine yO rfl rfl (pu_lenKn (n := ((e18)).length) hT rfl rfl (ev_tmp rfl) rfl rfl) rfl ?_
  iterate 11 refine z ?_
  refine ok_loop (ι := Nat × Bool × Bool) (fun zz => ⟨[(0, .one (.dv [] (bytesD (x0)))), (2, .one (.dv [] (.bool (false)))), (3, .one (.key 95000)), (4, .one (.key 920500)), (5, .one (.dv [] (.bool (zz.2.1)))), (6, .one (.dv [] (.bool (zz.2.2)))), (7, .one (.dv [] (.int .i64 ((zz.1 : Int)))))], [], [(95000, some (kcOf false (opsD (e18)))), (920500, some (kcOf false (bytesD (encO (e18)))))]⟩) (fun zz => zz.1 ≤ e18.length ∧ zz.2.1 = (decide ((e18.length : Int) ≤ 6) && (e18.take zz.1).all isOpB) ∧ zz.2.2 = (e18.take zz.1).all plnB) (fun zz => e18.length - zz.1) ((0, decide ((e18.length : Int) ≤ 6), true)) ?_ (weak_sub ⟨rfl, rfl, rfl, rfl, rfl, rfl, rfl, trivial⟩ trivial ⟨rfl, rfl, trivial⟩ rfl) (fun zz hx => ?_)
  ·exact ⟨Nat.zero_le _, by simp, by simp⟩
  obtain ⟨k, v, p⟩ := zz
  replace hx : k ≤ e18.length ∧ v = (decide ((e18.length : Int) ≤ 6) && (e18.take k).all isOpB) ∧ p = (e18.take k).all plnB := hx
  obtain ⟨hk, hv, hp⟩ := hx
  show Ok _ _ _ _ _ (⟨[(0, .one (.dv [] (bytesD (x0)))), (2, .one (.dv [] (.bool (false)))), (3, .one (.key 95000)), (4, .one (.key 920500)), (5, .one (.dv [] (.bool (v)))), (6, .one (.dv [] (.bool (p)))), (7, .one (.dv [] (.int .i64 ((k : Int)))))], [], [(95000, some (kcOf false (opsD (e18)))), (920500, some (kcOf false (bytesD (encO (e18)))))]⟩ : St)
  iterate 4 refine z ?_
  refine yO rfl rfl (pu_lenKn (n := ((e18)).length) hT rfl rfl (ev_tmp rfl) rfl rfl) rfl ?_
  iterate 2 refine z ?_
  refine yQ rfl (fun c2 => ?_) fun c2 => ?_
  ·skip
   have d2 := of_decide_eq_true c2
   iterate 7 refine z ?_
   refine o_pureG (gd_bool rfl rfl rfl rfl rfl) rfl (fun hg => pu_move (v := .one (.dv [95000] (opsD (e18)))) (.inl rfl) (ev_keyv' (ev_tmp rfl) rfl rfl)) rfl rfl ?_
   iterate 3 refine z ?_
   refine o_callG (gd_bool rfl rfl rfl rfl rfl) rfl rfl Tryz.call7 (ok_spec_IsOp (x := (((e18)).getD ((k : Int)).toNat default)) ) (fun hg => (as_cons (ev_opt rfl hg) (ag_agg (ag_cons ac_dv (ag_cons ac_dv (ag_cons ac_dv (ag_cons ac_dv (ag_cons ac_dv (ag_cons ac_dv (ag_cons ac_dv ag_nil)))))))) as_nil)) rfl rfl ?_
   iterate 3 refine z ?_
   refine ok_region ?_
   iterate 2 refine z ?_
   refine o_pureG (gd_bool rfl rfl rfl rfl rfl) rfl (fun hg => pu_move (v := .one (.dv [95000] (opsD (e18)))) (.inl rfl) (ev_keyv' (ev_tmp rfl) rfl rfl)) rfl rfl ?_
   iterate 4 refine z ?_
   refine o_callG (gd_bool rfl rfl rfl rfl rfl) rfl rfl Tryz.call8 (ok_spec_IsKey (k := (((e18)).getD ((k : Int)).toNat default).2.2.1) ) (fun hg => (as_cons (ev_opt rfl hg) (ag_agg (ag_cons ac_dv (ag_cons ac_dv (ag_cons ac_dv ag_nil)))) as_nil)) rfl rfl ?_
   refine z ?_
   refine o_pureG (gd_opt rfl rfl rfl rfl rfl) rfl (fun hg => pu_move (v := .one (.dv [95000] (opsD (e18)))) (.inl rfl) (ev_keyv' (ev_tmp rfl) rfl rfl)) rfl rfl ?_
   iterate 4 refine z ?_
   refine o_pureG (gd_opt rfl rfl rfl rfl rfl) rfl (fun hg => pu_build hT hB rfl rfl rfl bp_nil) rfl rfl ?_
   refine o_pureG (gd_opt rfl rfl rfl rfl rfl) rfl (fun hg => pu_cmpA rfl (ev_opt rfl hg) (ev_opt rfl hg) rfl rfl Tryz.eqGuardType29 (eql_Key _ _ _ _ _ _)) rfl rfl ?_
   iterate 3 refine z ?_
   refine ops_nil ?_
   iterate 2 refine z ?_
   refine ok_region ?_
   iterate 4 refine z ?_
   refine ⟨(k + 1, v && isOpB (e18.getD (k : Int).toNat default), p && plnB (e18.getD (k : Int).toNat default)), ?_, ?_, weak_sub ⟨rfl, rfl, rfl, rfl, rfl, rfl, rfl, trivial⟩ trivial ⟨rfl, rfl, trivial⟩ rfl⟩
   ·exact ⟨by dsimp only; omega, by dsimp only; rw [hv, allO_take (by omega), Bool.and_assoc], by dsimp only; rw [hp, allO_take (by omega)]⟩
   ·dsimp only; omega
  ·skip
   have d2 := of_decide_eq_false c2
   have hk2 : e18.take k = e18 := List.take_of_length_le (by omega)
   rw [hk2] at hv hp
   rw [← are_all] at hv
   iterate 8 refine z ?_
   refine yO rfl rfl (pu_lenKn (n := ((encO (e18))).length) hT rfl rfl (ev_tmp rfl) rfl rfl) rfl ?_
   iterate 2 refine z ?_
   refine yO rfl rfl (pu_bneq hT rfl rfl (ev_tmp rfl) (ev_tmp rfl)) rfl ?_
   refine z ?_
   refine yQ rfl (fun c3 => ?_) fun c3 => ?_
   ·skip
    iterate 6 refine z ?_
    exfalso; rw [encO_pos, hv] at c3; simp at c3
   ·skip
    iterate 4 refine z ?_
    refine o_callK 63000 rfl rfl rfl Tryz.call9 (ok_impl_DecodeOps (b := encO (e18)) (by omega)) (as_cons (ev_tmp rfl) (ag_one (ac_key' rfl rfl)) as_nil) rfl rfl rfl ?_
    iterate 8 refine z ?_
    refine o_callE 67000 rfl rfl rfl Tryz.call10 (ok_spec_DrawDecodeOps (code := x0) (by omega)) (as_cons (ev_tmp rfl) (ag_one ac_dv) as_nil) rfl (fun _ => rfl) (fun _ => rfl) (fun zz hz67 => ?_)
    obtain ⟨e67, rfl⟩ : ∃ v, v = zz := ⟨_, rfl⟩
    replace hz67 : e67.length ≤ 10000 := hz67
    iterate 4 refine z ?_
    refine o_callK 70000 rfl rfl rfl Tryz.call9 (ok_impl_DecodeOps (b := e67) (by omega)) (as_cons (ev_tmp rfl) (ag_one (ac_key' rfl rfl)) as_nil) rfl rfl rfl ?_
    iterate 6 refine z ?_
    refine ok_seq ?_
    refine ok_seq ?_
    rcases Bool.eq_false_or_eq_true ((decO e67).2) with g73 | g73
    ·skip
     have hsb := decO_back g73
     refine ok_region ?_
     iterate 2 refine z ?_
     refine o_ung (gd_bool rfl rfl rfl rfl rfl) (by simp [g73]) ?_
     refine z ?_
     refine o_ung (gd_bool rfl rfl rfl rfl rfl) (by simp [g73]) ?_
     refine o_callK 76000 rfl rfl rfl Tryz.call6 (ok_impl_EncodeOps (l := (decO (e67)).1) ) (as_cons (ev_tmp rfl) (ag_one (ac_key' rfl rfl)) as_nil) rfl rfl rfl ?_
     refine o_ung (gd_bool rfl rfl rfl rfl rfl) (by simp [g73]) ?_
     refine z ?_
     refine o_ung (gd_bool rfl rfl rfl rfl rfl) (by simp [g73]) ?_
     refine o_call rfl rfl rfl Tryz.call11 (ok_laws_sameBytes (x := encO ((decO (e67)).1)) (y := e67) (by assumption)) (as_cons (ev_tmp rfl) (ag_one (ac_key' rfl rfl)) (as_cons (ev_tmp rfl) (ag_one (ac_key' rfl rfl)) as_nil)) rfl rfl ?_
     refine o_ung (gd_bool rfl rfl rfl rfl rfl) (by simp [g73]) ?_
     iterate 3 refine z ?_
     refine yQ rfl (fun c4 => ?_) fun c4 => ?_
     ·skip
      iterate 6 refine z ?_
      exfalso; simp at c4
     ·skip
      iterate 4 refine z ?_
      refine o_callK 82000 rfl rfl rfl Tryz.call12 (ok_impl_ScopeOf (l := e18) (by omega)) (as_cons (ev_tmp rfl) (ag_one (ac_key' rfl rfl)) as_nil) rfl rfl rfl ?_
      iterate 7 refine z ?_
      refine ok_loop (ι := Nat) (fun zz => ⟨[(3, .one (.key 95000)), (5, .one (.dv [] (.bool (v)))), (6, .one (.dv [] (.bool (p)))), (8, .one (.key 158000)), (9, .one (.dv [] (.bool ((decO (encO (e18))).2)))), (13, .one (.key 177000)), (14, .one (.dv [] (.int .i64 ((zz : Int)))))], [], [(95000, some (kcOf false (opsD (e18)))), (158000, some (kcOf false (opsD ((decO (encO (e18))).1)))), (177000, some (kcOf false (strsD (scopeL (e18)))))]⟩) (fun zz => 1 ≤ zz) (fun zz => (scopeL e18).length - zz) (1) ?_ (weak_sub ⟨rfl, rfl, rfl, rfl, rfl, rfl, rfl, trivial⟩ trivial ⟨rfl, rfl, rfl, trivial⟩ rfl) (fun zz hx => ?_)
      ·exact Nat.le_refl _
      obtain ⟨k, rfl⟩ : ∃ v, v = zz := ⟨_, rfl⟩
      replace hx : 1 ≤ k := hx
      show Ok _ _ _ _ _ (⟨[(3, .one (.key 95000)), (5, .one (.dv [] (.bool (v)))), (6, .one (.dv [] (.bool (p)))), (8, .one (.key 158000)), (9, .one (.dv [] (.bool ((decO (encO (e18))).2)))), (13, .one (.key 177000)), (14, .one (.dv [] (.int .i64 ((k : Int)))))], [], [(95000, some (kcOf false (opsD (e18)))), (158000, some (kcOf false (opsD ((decO (encO (e18))).1)))), (177000, some (kcOf false (strsD (scopeL (e18)))))]⟩ : St)
      iterate 4 refine z ?_
      refine yO rfl rfl (pu_lenKn (n := ((scopeL (e18))).length) hT rfl rfl (ev_tmp rfl) rfl rfl) rfl ?_
      iterate 2 refine z ?_
      refine yQ rfl (fun c5 => ?_) fun c5 => ?_
      ·skip
       have d5 := of_decide_eq_true c5
       iterate 4 refine z ?_
       refine ok_seq ?_
       refine ok_regionD (oB := []) (oK := [95000, 158000, 177000]) (by kernel_rfl) rfl rfl ?_
       refine d_take 0 rfl (by kernel_rfl) rfl rfl (pu_move (v := .one (.dv [177000] (strsD (scopeL e18)))) (.inl rfl) (ev_keyv' (ev_tmp rfl) rfl rfl)) rfl rfl rfl rfl ?_
       refine zD 1 ?_
       refine zD 2 ?_
       refine zD 3 ?_
       refine zD 4 ?_
       refine d_take 5 rfl (by kernel_rfl) rfl rfl (pu_move (v := .one (.dv [177000] (strsD (scopeL e18)))) (.inl rfl) (ev_keyv' (ev_tmp rfl) rfl rfl)) rfl rfl rfl rfl ?_
       refine zD 6 ?_
       refine zD 7 ?_
       refine zD 8 ?_
       refine zD 9 ?_
       refine d_done (by kernel_rfl) ?_
       refine z ?_
       refine yQ rfl (fun c6 => ?_) fun c6 => ?_
       ·skip
        iterate 10 refine z ?_
        exfalso; have hs := scope_lt (l := e18) hx (by omega); simp_all
       ·skip
        iterate 3 refine z ?_
        refine ok_region ?_
        iterate 4 refine z ?_
        refine ⟨k + 1, ?_, ?_, weak_sub ⟨rfl, rfl, rfl, rfl, rfl, rfl, rfl, trivial⟩ trivial ⟨rfl, rfl, rfl, trivial⟩ rfl⟩
        ·omega
        ·omega
      ·skip
       have d5 := of_decide_eq_false c5
       iterate 8 refine z ?_
       refine yO rfl rfl (pu_beql hT rfl rfl (ev_tmp rfl) (ev_tmp rfl)) rfl ?_
       iterate 10 refine z ?_
       refine o_callG (gd_opt rfl rfl rfl rfl rfl) rfl rfl Tryz.call13 (ok_impl_EqualOps (x := (decO (encO (e18))).1) (y := e18) ) (fun hg => (as_cons (ev_opt rfl hg) (ag_one (ac_key' rfl rfl)) (as_cons (ev_opt rfl hg) (ag_one (ac_key' rfl rfl)) as_nil))) rfl rfl ?_
       iterate 6 refine z ?_
       exact enc_fin hv hp
    ·skip
     refine ok_region ?_
     iterate 2 refine z ?_
     refine o_pureG (v := .one .any) (Ks := []) (Bs := []) (gd_bool rfl rfl rfl rfl rfl) rfl (fun hg => absurd hg (by simp [g73])) rfl rfl ?_
     refine o_pureG (v := .one .any) (Ks := []) (Bs := []) (gd_bool rfl rfl rfl rfl rfl) rfl (fun hg => absurd hg (by simp [g73])) rfl rfl ?_
     refine o_pureG (v := .one .any) (Ks := []) (Bs := []) (gd_bool rfl rfl rfl rfl rfl) rfl (fun hg => absurd hg (by simp [g73])) rfl rfl ?_
     refine o_pureG (v := .one .any) (Ks := []) (Bs := []) (gd_bool rfl rfl rfl rfl rfl) rfl (fun hg => absurd hg (by simp [g73])) rfl rfl ?_
     refine o_pureG (v := .one (.dv [] (.bool (true)))) (Ks := []) (Bs := []) (gd_bool rfl rfl rfl rfl rfl) rfl (fun hg => absurd hg (by simp [g73])) rfl rfl ?_
     iterate 2 refine z ?_
     refine yQ rfl (fun c7 => ?_) fun c7 => ?_
     ·skip
      iterate 6 refine z ?_
      exfalso; simp [g73] at c7
     ·skip
      iterate 4 refine z ?_
      refine o_callK 83000 rfl rfl rfl Tryz.call12 (ok_impl_ScopeOf (l := e18) (by omega)) (as_cons (ev_tmp rfl) (ag_one (ac_key' rfl rfl)) as_nil) rfl rfl rfl ?_
      iterate 7 refine z ?_
      refine ok_loop (ι := Nat) (fun zz => ⟨[(3, .one (.key 95000)), (5, .one (.dv [] (.bool (v)))), (6, .one (.dv [] (.bool (p)))), (8, .one (.key 158000)), (9, .one (.dv [] (.bool ((decO (encO (e18))).2)))), (13, .one (.key 178000)), (14, .one (.dv [] (.int .i64 ((zz : Int)))))], [], [(95000, some (kcOf false (opsD (e18)))), (158000, some (kcOf false (opsD ((decO (encO (e18))).1)))), (178000, some (kcOf false (strsD (scopeL (e18)))))]⟩) (fun zz => 1 ≤ zz) (fun zz => (scopeL e18).length - zz) (1) ?_ (weak_sub ⟨rfl, rfl, rfl, rfl, rfl, rfl, rfl, trivial⟩ trivial ⟨rfl, rfl, rfl, trivial⟩ rfl) (fun zz hx => ?_)
      ·exact Nat.le_refl _
      obtain ⟨k, rfl⟩ : ∃ v, v = zz := ⟨_, rfl⟩
      replace hx : 1 ≤ k := hx
      show Ok _ _ _ _ _ (⟨[(3, .one (.key 95000)), (5, .one (.dv [] (.bool (v)))), (6, .one (.dv [] (.bool (p)))), (8, .one (.key 158000)), (9, .one (.dv [] (.bool ((decO (encO (e18))).2)))), (13, .one (.key 178000)), (14, .one (.dv [] (.int .i64 ((k : Int)))))], [], [(95000, some (kcOf false (opsD (e18)))), (158000, some (kcOf false (opsD ((decO (encO (e18))).1)))), (178000, some (kcOf false (strsD (scopeL (e18)))))]⟩ : St)
      iterate 4 refine z ?_
      refine yO rfl rfl (pu_lenKn (n := ((scopeL (e18))).length) hT rfl rfl (ev_tmp rfl) rfl rfl) rfl ?_
      iterate 2 refine z ?_
      refine yQ rfl (fun c8 => ?_) fun c8 => ?_
      ·skip
       have d8 := of_decide_eq_true c8
       iterate 4 refine z ?_
       refine ok_seq ?_
       refine ok_regionD (oB := []) (oK := [95000, 158000, 178000]) (by kernel_rfl) rfl rfl ?_
       refine d_take 0 rfl (by kernel_rfl) rfl rfl (pu_move (v := .one (.dv [178000] (strsD (scopeL e18)))) (.inl rfl) (ev_keyv' (ev_tmp rfl) rfl rfl)) rfl rfl rfl rfl ?_
       refine zD 1 ?_
       refine zD 2 ?_
       refine zD 3 ?_
       refine zD 4 ?_
       refine d_take 5 rfl (by kernel_rfl) rfl rfl (pu_move (v := .one (.dv [178000] (strsD (scopeL e18)))) (.inl rfl) (ev_keyv' (ev_tmp rfl) rfl rfl)) rfl rfl rfl rfl ?_
       refine zD 6 ?_
       refine zD 7 ?_
       refine zD 8 ?_
       refine zD 9 ?_
       refine d_done (by kernel_rfl) ?_
       refine z ?_
       refine yQ rfl (fun c9 => ?_) fun c9 => ?_
       ·skip
        iterate 10 refine z ?_
        exfalso; have hs := scope_lt (l := e18) hx (by omega); simp_all
       ·skip
        iterate 3 refine z ?_
        refine ok_region ?_
        iterate 4 refine z ?_
        refine ⟨k + 1, ?_, ?_, weak_sub ⟨rfl, rfl, rfl, rfl, rfl, rfl, rfl, trivial⟩ trivial ⟨rfl, rfl, rfl, trivial⟩ rfl⟩
        ·omega
        ·omega
      ·skip
       have d8 := of_decide_eq_false c8
       iterate 8 refine z ?_
       refine yO rfl rfl (pu_beql hT rfl rfl (ev_tmp rfl) (ev_tmp rfl)) rfl ?_
       iterate 10 refine z ?_
       refine o_callG (gd_opt rfl rfl rfl rfl rfl) rfl rfl Tryz.call13 (ok_impl_EqualOps (x := (decO (encO (e18))).1) (y := e18) ) (fun hg => (as_cons (ev_opt rfl hg) (ag_one (ac_key' rfl rfl)) (as_cons (ev_opt rfl hg) (ag_one (ac_key' rfl rfl)) as_nil))) rfl rfl ?_
       iterate 6 refine z ?_
       exact enc_fin hv hp
end Go.Proofs.YtoigmlbidpocnaaGreat

namespace Go.Proofs.YtoigmlbidpocnaaGreat
open Go.RowKit Go.ChangeShapes Go.WideShapes Go.Deep

def LayW (W : World) : List DV → List Value → Prop := LayL (fun b => b < W.heap.size) W
structure OpensD (P : Program) (Q : List DV → Prop) (t : TypeId) : Prop where
 run : ∀ {H : Type} (enc : TypeId × Value → H) (W : World) (base : Nat) (spare : Nat → Bool) (held : Bool) (fuel : Nat) (cs : List Value) (y : DataW H × List MemPlace),
  DataW.trod enc P W base spare held fuel t cs = some y → ∃ ds, Q ds ∧ LayW W ds cs
def Is {α : Type} (enc : α → List DV) (ds : List DV) : Prop := ∃ x, ds = enc x
theorem opensD_byte {P : Program} {t : TypeId} (ht : P.underlying t = some (.int .u8)) : OpensD P (Is eByte) t := by
 refine ⟨fun {H} enc W base spare held fuel cs y h => ?_⟩
 obtain ⟨n, rfl, _, hw⟩ := DataW.trod_int ht h
 have hb : 0 ≤ n ∧ n ≤ 255 := by simpa [Lit.wf, IntKind.min, IntKind.max, IntKind.signed, IntKind.bits] using hw
 have e : ((UInt8.ofNat n.toNat).toNat : Int) = n := by
  rw [UInt8.toNat_ofNat']
  have : n.toNat % 2 ^ 8 = n.toNat := Nat.mod_eq_of_lt (by omega)
  rw [this]; omega
 refine ⟨_, ⟨UInt8.ofNat n.toNat, rfl⟩, ?_⟩
 simp only [LayW, LayL, Lay]
 rw [e]
 exact ⟨_, _, rfl, ⟨rfl, by simpa [InR, IntKind.min, IntKind.max, IntKind.signed, IntKind.bits] using hb⟩, rfl⟩
theorem points {α : Type} {enc : α → List DV} {W : World} {sz : Nat} {f : Nat → Option Value} (hs : ∀ x, (enc x).length = sz) : ∀ n : Nat,
  (∀ i, i < n → ∃ x ci, LayW W (enc x) ci ∧ ∀ j, j < sz → f (i * sz + j) = ci[j]?) → ∃ (xs : List α) (cells : List Value), xs.length = n ∧ LayW W (xs.flatMap enc) cells ∧ ∀ j u, cells[j]? = some u → f j = some u
 | 0, _ => ⟨[], [], rfl, by simp [LayW, LayL], by simp⟩
 | n + 1, h => by
  obtain ⟨xs, cells, h1, h2, h3⟩ := points hs n (fun i hi => h i (by omega))
  obtain ⟨x, ci, g1, g2⟩ := h n (by omega)
  have hl : cells.length = n * sz := by rw [layL_len _ _ h2, flat_len hs, h1]
  have hci : ci.length = sz := by rw [layL_len _ _ g1, hs]
  refine ⟨xs ++ [x], cells ++ ci, by simp [h1], by have := layL_append _ _ _ _ h2 g1; simp only [List.flatMap_append, List.flatMap_cons, List.flatMap_nil, List.append_nil]; exact this, fun j u hu => ?_⟩
  rcases Nat.lt_or_ge j cells.length with hj | hj
  ·rw [List.getElem?_append_left hj] at hu; exact h3 j u hu
  ·rw [List.getElem?_append_right hj] at hu
   have hjs : j - cells.length < sz := by rw [← hci]; exact (List.getElem?_eq_some_iff.1 hu).1
   have := g2 (j - cells.length) hjs
   rw [show n * sz + (j - cells.length) = j by omega] at this
   rw [this, hu]
theorem opensD_slice {α : Type} {P : Program} {enc : α → List DV} {t e : TypeId} {sz : Nat} (e' : Nat) (hs : ∀ x, (enc x).length = sz) (hsz : Nat.blt 0 sz = true) (ht : P.underlying t = some (.slice e)) (hc : P.cellsOf e = sz) (he : OpensD P (Is enc) e) : OpensD P (Is fun xs : List α => [listD e' sz enc xs]) t := by
 refine ⟨fun {H} ench W base spare held fuel cs y h => ?_⟩
 have hpos : 0 < sz := by simpa [Nat.blt_eq] using hsz
 rcases open_slice ht h with ⟨rfl, _⟩ | ⟨a, len, cap, m, n, D, Pl, rfl, _, hl, hm, hmm, _, hi⟩
 ·refine ⟨_, ⟨[], rfl⟩, ?_⟩
  simp only [LayW, LayL, Lay]
  exact ⟨_, _, rfl, ⟨none, 0, [], rfl, Nat.le_refl _, by simp [maxLen], hpos, by simp, by simp [LayL], fun h => by simp at h⟩, rfl⟩
 ·have hlm : len ≤ m := by rw [hmm]; split <;> omega
  obtain ⟨xs, cells, h1, h2, h3⟩ := points (W := W) (f := fun j => W.cell? (a.add j)) hs len (fun i hil => by
   obtain ⟨cs', hc1, hc2⟩ := hi i (by omega)
   obtain ⟨ds, ⟨x, rfl⟩, hx⟩ := he.run ench W base spare held n cs' _ hc2
   obtain ⟨_, hcl, hat⟩ := World.cells?_some hc1
   refine ⟨x, cs', hx, fun j hj => ?_⟩
   have := hat j (by rw [hc]; exact hj)
   rw [← Go.Deep.add_add, hc] at *
   exact this)
  refine ⟨_, ⟨xs, rfl⟩, ?_⟩
  simp only [LayW, LayL]
  refine ⟨_, _, rfl, ?_, rfl⟩
  simp only [Lay]
  refine ⟨some a, cap, cells, by rw [h1], by omega, hm, hpos, flat_len hs xs, h2, fun hp => ?_⟩
  have hcl : 0 < cells.length := by
   rw [layL_len _ _ h2, flat_len hs]
   exact Nat.mul_pos hp hpos
  have h0 := h3 0 _ (List.getElem?_eq_getElem hcl)
  have ha0 : a.add 0 = a := by simp [Addr.add]
  simp only [ha0] at h0
  have hsp : a.spot = none := by
   cases hs : a.spot with
   | none => rfl
   | some s =>
    unfold World.cell? at h0
    split at h0
    ·simp [hs] at h0
    ·cases h0
  obtain ⟨b, off, sp⟩ := a
  simp only at hsp
  subst hsp
  refine ⟨b, off, rfl, World.block_lt_of_cell? W _ h0, fun j u hu => ?_⟩
  have := h3 j u hu
  simp only [add_row] at this
  exact this
/-! ### structs -/
theorem OpensD.mono {P : Program} {Q R : List DV → Prop} {t : TypeId} (h : OpensD P Q t) (hq : ∀ ds, Q ds → R ds) : OpensD P R t := by
 refine ⟨fun {H} enc W base spare held fuel cs y h' => ?_⟩
 obtain ⟨ds, h1, h2⟩ := h.run enc W base spare held fuel cs y h'
 exact ⟨ds, hq ds h1, h2⟩
/-! ### a call from the outside -/
def TopL (w : World) : List SV → List Value → Prop
 | [], vs => vs = []
 | .one c :: us, vs => ∃ d v vs', c = .dv [] d ∧ vs = v :: vs' ∧ LayW w [d] [v] ∧ TopL w us vs'
 | .agg cs :: us, vs => ∃ ds xs vs', cs = ds.map (CV.dv []) ∧ vs = .agg xs.toArray :: vs' ∧ LayW w ds xs ∧ TopL w us vs'
 | _ :: _, _ => False
theorem lay_top {w : World} {L : Lyt} {d : DV} {v : Value} (h : LayW w [d] [v]) : CVr ⟨w, [], L.rv⟩ L w (.dv [] d) v := by
 simp only [LayW, LayL] at h
 obtain ⟨v', _, e, h1, rfl⟩ := h
 simp only [List.cons.injEq, and_true] at e
 subst e
 simp only [CVr]
 exact lay_conv (fun b hb _ => ⟨.inl ⟨hb, by simp⟩, rfl⟩) d _ h1
theorem lays_top {w : World} {L : Lyt} : ∀ {ds : List DV} {vs : List Value}, LayW w ds vs → CVL ⟨w, [], L.rv⟩ L w (ds.map (CV.dv [])) vs
 | [], _, h => by simp only [LayW, LayL] at h; subst h; rfl
 | d :: ds, _, h => by
  simp only [LayW, LayL] at h
  obtain ⟨v, vs', rfl, h1, h2⟩ := h
  exact ⟨v, vs', rfl, lay_top (by simp only [LayW, LayL]; exact ⟨v, [], rfl, h1, rfl⟩), lays_top h2⟩
theorem topL_sv {P : Program} {w : World} {L : Lyt} : ∀ {us : List SV} {vs : List Value}, TopL w us vs → vs.length = us.length ∧ (∀ u ∈ us, u.keys = [] ∧ u.boxes = []) ∧ ∀ (i : Nat) (v : SV), us[i]? = some v → ∃ x, vs[i]? = some x ∧ SVr P ⟨w, [], L.rv⟩ L w v x
 | [], _, h => by simp only [TopL] at h; subst h; simp
 | .one c :: us, _, h => by
  simp only [TopL] at h
  obtain ⟨d, v, vs', rfl, rfl, h1, h2⟩ := h
  obtain ⟨g1, g2, g3⟩ := topL_sv (P := P) (L := L) h2
  refine ⟨by simp [g1], fun u hu => ?_, fun i x hx => ?_⟩
  ·rcases List.mem_cons.1 hu with rfl | hu
   ·exact ⟨rfl, rfl⟩
   ·exact g2 u hu
  ·cases i with
   | zero => simp only [List.getElem?_cons_zero, Option.some.injEq] at hx; subst hx; exact ⟨v, rfl, by simp only [SVr]; exact lay_top h1⟩
   | succ i => simpa using g3 i x (by simpa using hx)
 | .agg cs :: us, _, h => by
  simp only [TopL] at h
  obtain ⟨ds, xs, vs', rfl, rfl, h1, h2⟩ := h
  obtain ⟨g1, g2, g3⟩ := topL_sv (P := P) (L := L) h2
  refine ⟨by simp [g1], fun u hu => ?_, fun i x hx => ?_⟩
  ·rcases List.mem_cons.1 hu with rfl | hu
   ·refine ⟨?_, rfl⟩
    simp only [SV.keys]
    rw [List.flatMap_eq_nil_iff]
    intro c hc
    obtain ⟨d, _, rfl⟩ := List.mem_map.1 hc
    rfl
   ·exact g2 u hu
  ·cases i with
   | zero => simp only [List.getElem?_cons_zero, Option.some.injEq] at hx; subst hx; exact ⟨_, rfl, by simp only [SVr]; exact ⟨xs, rfl, lays_top h1⟩⟩
   | succ i => simpa using g3 i x (by simpa using hx)
 | .tup _ :: _, _, h => by simp [TopL] at h
 | .box _ _ :: _, _, h => by simp [TopL] at h
 | .ref _ _ :: _, _, h => by simp [TopL] at h
 | .eptr _ _ :: _, _, h => by simp [TopL] at h
 | .ksl _ _ _ _ :: _, _, h => by simp [TopL] at h
 | .fn _ _ :: _, _, h => by simp [TopL] at h
 | .clo _ _ :: _, _, h => by simp [TopL] at h
 | .opt _ _ :: _, _, h => by simp [TopL] at h
 | .any :: _, _, h => by simp [TopL] at h
theorem pfn_run {P : Program} {f : FuncId} {us : List SV} {b : Bool} (hf : PFn P f us (.one (.dv [] (.bool b)))) {w : World} {vs : List Value} (h : TopL w us vs) :
  Calls P f vs.toArray w fun e w' => e = .returned (.bool b) ∧ Below w.heap.size w w' := by
 let L : Lyt := ⟨fun _ => 0, fun _ => [], fun _ => .bool false⟩
 obtain ⟨h1, h2, h3⟩ := topL_sv (P := P) (L := L) h
 obtain ⟨t1, t2⟩ := enum_tk us 0 h2
 have hr : Rel P ⟨w, [], L.rv⟩ us.length L ⟨enumS 0 us, [], []⟩ ⟨vs.toArray, []⟩ w := {
  df := rfl
  sz := by simp [h1]
  tm := fun i v hv => by
   obtain ⟨_, h4⟩ := enumS_look us 0 i v hv
   obtain ⟨x, h5, h6⟩ := h3 i v (by simpa using h4)
   have : vs.toArray.getD i undef = x := by simp [Array.getD_eq_getD_getElem?, h5]
   rw [this]; exact h6
  bx := fun i t cs h => by cases h
  ks := fun k c h => by cases h
  b1 := fun i x h => by cases h
  k1 := fun k c h => by cases h
  kn := fun k c h => by cases h
  bb := fun i j x y h => by cases h
  bk := fun i k x c h => by cases h
  kk := fun k j c d h => by cases h
  lk := fun k hk => by simp only [St.tk, t1, List.flatMap_nil, List.append_nil] at hk; cases hk
  lb := fun b hb => by simp only [St.tb, t2] at hb; cases hb
  s0 := fun b hb => by cases hb
  chg := Chg.refl _ _ }
 refine (hf.ok w [] L vs h1 hr).mono ?_
 rintro e w' ⟨r, res, σ', L', rfl, rfl, hr'⟩
 have hv := hr'.tm 0 _ rfl
 simp only [SVr, CVr, Lay] at hv
 refine ⟨?_, hr'.chg.below⟩
 have : (#[r] : Array Value).getD 0 undef = r := rfl
 rw [this] at hv
 rw [hv]
end Go.Proofs.YtoigmlbidpocnaaGreat

namespace Go.Proofs.YtoigmlbidpocnaaGreat
open Go.RowKit
open Go.Proofs
theorem opensBytes : OpensD Tryz.prog (Is fun xs => [listD 5 1 eByte xs]) 22 := opensD_slice (sz := 1) 5 (fun _ => rfl) rfl Tryz.underlying22 (by kernel_rfl) (opensD_byte Tryz.underlying5)
end Go.Proofs.YtoigmlbidpocnaaGreat

