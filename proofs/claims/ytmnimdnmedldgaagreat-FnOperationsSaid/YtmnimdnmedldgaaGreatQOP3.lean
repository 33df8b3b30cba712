/-
  Contracts of the program's functions for the statements Operations, by the rules of the logic. Conditions: none but those in the theorems.
-/
import Derived.Below
import Derived.Deep.Slices
import Derived.OpenShut
import Derived.ProofKit
import Derived.Test.YtmnimdnmedldgaaGreatQOP2
set_option maxHeartbeats 4000000
set_option maxRecDepth 100000
namespace Go.Proofs.YtmnimdnmedldgaaGreat
open Go.RowKit
open Go.Proofs
set_option linter.unusedVariables false
set_option linter.unusedSimpArgs false

def smallK (k : KeyT) : Prop := k.2.1 ≤ 256 ∨ 1000000 < k.2.1
theorem kText_of {l : List Str} (h : l.all kText = true) {s : Str} (hs : s ∈ l) : kText s = true := List.all_eq_true.1 h s hs
theorem name_of {l : List Str} (h : l.all isName = true) {s : Str} (hs : s ∈ l) : isName s = true := List.all_eq_true.1 h s hs
theorem size_of {l : List Str} (n : Nat) (h : l.all (fun s => decide (s.size ≤ n)) = true) {s : Str} (hs : s ∈ l) : s.size ≤ n := by simpa using List.all_eq_true.1 h s hs
theorem rng_of {l : List Int} (a b : Int) (h : l.all (fun x => decide (a ≤ x) && decide (x ≤ b)) = true) {x : Int} (hx : x ∈ l) : a ≤ x ∧ x ≤ b := by simpa using List.all_eq_true.1 h x hx
theorem key_num {n : Int} (h : -1000000000000 ≤ n ∧ n ≤ 1000000000000) : isKey (1, n, ByteArray.empty) = true := by
 have ht : kText ByteArray.empty = true := by decide +kernel
 have he : sEq ByteArray.empty ByteArray.empty = true := by decide +kernel
 have he2 : (ByteArray.mk #[] : ByteArray) = ByteArray.empty := rfl
 simp [isKey, ht, h.1, h.2, he, he2]
theorem key_txt {s : Str} (h : kText s = true) : isKey (2, 0, s) = true := by simp [isKey, h]
theorem key_pair {n : Int} {s : Str} (h : -1000000000000 ≤ n ∧ n ≤ 1000000000000) (hs : kText s = true) : isKey (3, n, s) = true := by simp [isKey, hs, h.1, h.2]
theorem key_size {k : KeyT} (h : isKey k = true) : k.2.2.size ≤ 12 := (key_rng h).2.2
theorem setF_rec {r : RecT} {n : Str} {v : Int} (h : isRec r = true) : isRec (setF r n v).1 = true := by
 unfold setF
 split
 ·exact h
 ·rename_i h1
  simp only [Bool.or_eq_true, Bool.not_eq_true', not_or, Bool.not_eq_false] at h1
  exact h1.2
theorem rec_wt {r : RecT} (h : isRec r = true) : wRecord r ≤ 54 := by
 have h10 := rec_len h
 have h11 : wSum wField r ≤ 8 * r.length := by
  have key : ∀ r : RecT, (∀ f ∈ r, f.1.size ≤ 8) → wSum wField r ≤ 8 * r.length := by
   intro r
   induction r with
   | nil => intro _; simp [wSum]
   | cons f r ih =>
    intro hf
    have k1 := ih (fun g hg => hf g (by simp [hg]))
    have k2 := hf f (by simp)
    have k3 : wField f = f.1.size := rfl
    simp only [wSum, List.map_cons, List.sum_cons, List.length_cons] at *
    omega
  refine key _ (fun f hf => ?_)
  obtain ⟨j, hj, rfl⟩ := List.mem_iff_getElem.1 hf
  have := (name_size (rec_fld h hj).1).2
  rwa [getD_at hj] at this
 have h13 : wRecord r = r.length + wSum wField r := rfl
 omega

theorem ok_spec_l4Number {code : List UInt8} {i h : Int} (hc : code.length ≤ 1048576) (hi : 0 ≤ i) : BFn Tryz.prog 135 [] 92 (bytesD (code)) [.dv [] (.int .i64 (i)), .dv [] (.int .i64 (h))] (fun zz : Int × Int × Int => (-1000000000000 ≤ zz.1 ∧ zz.1 ≤ 1000000000000) ∧ (zz.1 ≤ 256 ∨ 1000000 < zz.1) ∧ 0 ≤ zz.2.1) (fun zz : Int × Int × Int => .one (.dv [] (.int .i64 (zz.1)))) (fun zz : Int × Int × Int => []) (fun zz : Int × Int × Int => [.dv [] (.int .i64 (zz.2.1)), .dv [] (.int .i64 (zz.2.2))]) := by
 refine ⟨fn_introS Tryz.func135 rfl Tryz.ntmps135 Tryz.results135 rfl (fun C => ?_)⟩
 iterate 4 refine z ?_
 refine yO rfl rfl (pu_move (.inl rfl) (ev_abox (ev_tmp rfl))) rfl ?_
 refine yO rfl rfl (pu_move (.inl rfl) (ev_abox (ev_tmp rfl))) rfl ?_
 refine o_callB 5000 rfl rfl rfl Tryz.call26 (ok_spec_l1Below (code := code) (i := i) (h := h) (n := 9) (by omega) (by omega) ) (ev_tmp rfl) rfl ac_arg rfl (fun _ => rfl) (ad_cons (ev_int (inR_lit rfl)) (ag_one ac_dv) rfl ad_nil) rfl (fun _ => rfl) (fun _ => rfl) (fun zz hz5 => ?_)
 obtain ⟨e5, i5, h5⟩ := zz
 replace hz5 : 0 ≤ e5 ∧ (0 < (9 : Int) → e5 < (9 : Int)) ∧ 0 ≤ i5 := hz5
 refine o_buildN (k := 6) (js := []) hT rfl rfl rfl rfl rfl rfl rfl rfl rfl rfl rfl (ep_cons (ev_int (inR_lit rfl)) rfl rfl rfl (ep_cons (ev_int (inR_lit rfl)) rfl rfl rfl (ep_cons (ev_int (inR_lit rfl)) rfl rfl rfl (ep_cons (ev_int (inR_lit rfl)) rfl rfl rfl (ep_cons (ev_int (inR_lit rfl)) rfl rfl rfl (ep_cons (ev_int (inR_lit rfl)) rfl rfl rfl (ep_cons (ev_int (inR_lit rfl)) rfl rfl rfl (ep_cons (ev_int (inR_lit rfl)) rfl rfl rfl (ep_cons (ev_tmp rfl) rfl rfl rfl ep_nil))))))))) (ow_cons' (ow_dv rfl) (ow_cons' (ow_dv rfl) (ow_cons' (ow_dv rfl) (ow_cons' (ow_dv rfl) (ow_cons' (ow_dv rfl) (ow_cons' (ow_dv rfl) (ow_cons' (ow_dv rfl) (ow_cons' (ow_dv rfl) (ow_cons' (ow_dv rfl) ow_nil rfl) rfl) rfl) rfl) rfl) rfl) rfl) rfl) rfl) (by decide) (by decide) rfl rfl ?_
 simp only [killT, killB, SV.kill, CV.kill, kk, Nat.reduceBEq]
 refine o_callB 7000 rfl rfl rfl Tryz.call28 (ok_spec_l1Int (code := code) (i := i5) (h := h5) (l := [0, 1, 2, -1, 255, 256, -1000000000000, 1000000000000, e5]) (by omega) (by omega) (by exact Nat.succ_pos _)) (ev_tmp rfl) rfl ac_arg rfl (fun _ => rfl) (ad_cons (ev_tmp rfl) (ag_one (ac_key' rfl rfl)) rfl ad_nil) rfl (fun _ => rfl) (fun _ => rfl) (fun zz hz7 => ?_)
 obtain ⟨e7, i7, h7⟩ := zz
 replace hz7 : e7 ∈ ([0, 1, 2, -1, 255, 256, -1000000000000, 1000000000000, e5]) ∧ 0 ≤ i7 := hz7
 iterate 2 refine z ?_
 refine ok_weak (σ' := ⟨[(2, .one (.dv [] (.int .i64 (e7)))), (0, .abox 0)], [(0, 92, [(.arg 900001 (bytesD (code))), (.dv [] (.int .i64 (i7))), (.dv [] (.int .i64 (h7)))])], []⟩) (weak_sub ⟨rfl, rfl, trivial⟩ ⟨rfl, trivial⟩ trivial rfl) ?_
 refine z ?_
 refine fin1 (res_tmp rfl) ⟨((e7), i7, h7), ?_, rfl, rfl, rfl, rfl⟩
 try dsimp only
 refine ⟨?_, ?_, by omega⟩
 all_goals have h9 := hz5.2.1 (by omega)
 all_goals have h8 := hz7.1
 all_goals simp only [List.mem_cons, List.not_mem_nil, or_false] at h8
 all_goals omega
theorem ok_spec_l4Key {code : List UInt8} {i h : Int} (hc : code.length ≤ 1048576) (hi : 0 ≤ i) : BFn Tryz.prog 110 [] 92 (bytesD (code)) [.dv [] (.int .i64 (i)), .dv [] (.int .i64 (h))] (fun zz : KeyT × Int × Int => isKey zz.1 = true ∧ smallK zz.1 ∧ 0 ≤ zz.2.1) (fun zz : KeyT × Int × Int => .agg [(.dv [] (.int .i64 (zz.1.1))), (.dv [] (.int .i64 (zz.1.2.1))), (.dv [] (.str (zz.1.2.2)))]) (fun zz : KeyT × Int × Int => []) (fun zz : KeyT × Int × Int => [.dv [] (.int .i64 (zz.2.1)), .dv [] (.int .i64 (zz.2.2))]) := by
 refine ⟨fn_introS Tryz.func110 rfl Tryz.ntmps110 Tryz.results110 rfl (fun C => ?_)⟩
 iterate 4 refine z ?_
 refine yO rfl rfl (pu_move (.inl rfl) (ev_abox (ev_tmp rfl))) rfl ?_
 refine o_buildN (k := 5) (js := []) hT rfl rfl rfl rfl rfl rfl rfl rfl rfl rfl rfl (ep_cons (ev_str (str_lit rfl)) rfl rfl rfl (ep_cons (ev_str (str_lit rfl)) rfl rfl rfl (ep_cons (ev_str (str_lit rfl)) rfl rfl rfl (ep_cons (ev_str (str_lit rfl)) rfl rfl rfl (ep_cons (ev_str (str_lit rfl)) rfl rfl rfl (ep_cons (ev_str (str_lit rfl)) rfl rfl rfl ep_nil)))))) (ow_cons' (ow_dv rfl) (ow_cons' (ow_dv rfl) (ow_cons' (ow_dv rfl) (ow_cons' (ow_dv rfl) (ow_cons' (ow_dv rfl) (ow_cons' (ow_dv rfl) ow_nil rfl) rfl) rfl) rfl) rfl) rfl) (by decide) (by decide) rfl rfl ?_
 simp only [killT, killB, SV.kill, CV.kill, kk, Nat.reduceBEq]
 refine o_callB 6000 rfl rfl rfl Tryz.call56 (ok_spec_l1Str (code := code) (i := i) (h := h) (l := [ByteArray.mk #[], ByteArray.mk #[97], ByteArray.mk #[97, 98], ByteArray.mk #[98], ByteArray.mk #[122, 57], ByteArray.mk #[97, 98, 99, 100, 101, 102, 103, 104, 105, 106, 107, 108]]) (by omega) (by omega) (by exact Nat.succ_pos _)) (ev_tmp rfl) rfl ac_arg rfl (fun _ => rfl) (ad_cons (ev_tmp rfl) (ag_one (ac_key' rfl rfl)) rfl ad_nil) rfl (fun _ => rfl) (fun _ => rfl) (fun zz hz6 => ?_)
 obtain ⟨e6, i6, h6⟩ := zz
 replace hz6 : e6 ∈ ([ByteArray.mk #[], ByteArray.mk #[97], ByteArray.mk #[97, 98], ByteArray.mk #[98], ByteArray.mk #[122, 57], ByteArray.mk #[97, 98, 99, 100, 101, 102, 103, 104, 105, 106, 107, 108]]) ∧ 0 ≤ i6 := hz6
 iterate 4 refine z ?_
 refine yO rfl rfl (pu_move (.inl rfl) (ev_abox (ev_tmp rfl))) rfl ?_
 refine o_callB 8000 rfl rfl rfl Tryz.call26 (ok_spec_l1Below (code := code) (i := i6) (h := h6) (n := 3) (by omega) (by omega) ) (ev_tmp rfl) rfl ac_arg rfl (fun _ => rfl) (ad_cons (ev_int (inR_lit rfl)) (ag_one ac_dv) rfl ad_nil) rfl (fun _ => rfl) (fun _ => rfl) (fun zz hz8 => ?_)
 obtain ⟨e8, i8, h8⟩ := zz
 replace hz8 : 0 ≤ e8 ∧ (0 < (3 : Int) → e8 < (3 : Int)) ∧ 0 ≤ i8 := hz8
 iterate 6 refine z ?_
 refine yQ rfl (fun c1 => ?_) fun c1 => ?_
 ·skip
  have d1 := of_decide_eq_true c1
  iterate 2 refine z ?_
  refine yO rfl rfl (pu_build hT hB rfl rfl rfl (bp_cons (ev_int (inR_lit rfl)) rfl rfl rfl rfl rfl (bp_cons (ev_tmp rfl) rfl rfl rfl rfl rfl bp_nil))) rfl ?_
  iterate 2 refine z ?_
  refine ok_weak (σ' := ⟨[(2, .box 2 0), (0, .abox 0)], [(2, 56, [(.dv [] (.int .i64 (2))), (.dv [] (.int .i64 (0))), (.dv [] (.str (e6)))]), (0, 92, [(.arg 900001 (bytesD (code))), (.dv [] (.int .i64 (i8))), (.dv [] (.int .i64 (h8)))])], []⟩) (weak_sub ⟨rfl, rfl, trivial⟩ ⟨rfl, rfl, trivial⟩ trivial rfl) ?_
  iterate 3 refine z ?_
  refine fin1 (res_cell hT rfl rfl rfl rfl) ⟨(((2), ((0), (e6))), i8, h8), ?_, rfl, rfl, rfl, rfl⟩
  try dsimp only
  exact ⟨key_txt (kText_of (l := [ByteArray.mk #[], ByteArray.mk #[97], ByteArray.mk #[97, 98], ByteArray.mk #[98], ByteArray.mk #[122, 57], ByteArray.mk #[97, 98, 99, 100, 101, 102, 103, 104, 105, 106, 107, 108]]) (by decide +kernel) hz6.1), .inl (by dsimp only; omega), by omega⟩
 ·skip
  have d1 := of_decide_eq_false c1
  iterate 4 refine z ?_
  refine yQ rfl (fun c2 => ?_) fun c2 => ?_
  ·skip
   have d2 := of_decide_eq_true c2
   refine z ?_
   refine yO rfl rfl (pu_move (.inl rfl) (ev_abox (ev_tmp rfl))) rfl ?_
   refine o_callB 16000 rfl rfl rfl Tryz.call135 (ok_spec_l4Number (code := code) (i := i8) (h := h8) (by omega) (by omega)) (ev_tmp rfl) rfl ac_arg rfl (fun _ => rfl) ad_nil rfl (fun _ => rfl) (fun _ => rfl) (fun zz hz16 => ?_)
   obtain ⟨e16, i16, h16⟩ := zz
   replace hz16 : (-1000000000000 ≤ e16 ∧ e16 ≤ 1000000000000) ∧ (e16 ≤ 256 ∨ 1000000 < e16) ∧ 0 ≤ i16 := hz16
   refine z ?_
   refine yO rfl rfl (pu_build hT hB rfl rfl rfl (bp_cons (ev_int (inR_lit rfl)) rfl rfl rfl rfl rfl (bp_cons (ev_tmp rfl) rfl rfl rfl rfl rfl (bp_cons (ev_tmp rfl) rfl rfl rfl rfl rfl bp_nil)))) rfl ?_
   iterate 2 refine z ?_
   refine ok_weak (σ' := ⟨[(2, .box 2 0), (0, .abox 0)], [(2, 56, [(.dv [] (.int .i64 (3))), (.dv [] (.int .i64 (e16))), (.dv [] (.str (e6)))]), (0, 92, [(.arg 900001 (bytesD (code))), (.dv [] (.int .i64 (i16))), (.dv [] (.int .i64 (h16)))])], []⟩) (weak_sub ⟨rfl, rfl, trivial⟩ ⟨rfl, rfl, trivial⟩ trivial rfl) ?_
   iterate 3 refine z ?_
   refine fin1 (res_cell hT rfl rfl rfl rfl) ⟨(((3), ((e16), (e6))), i16, h16), ?_, rfl, rfl, rfl, rfl⟩
   try dsimp only
   exact ⟨key_pair hz16.1 (kText_of (l := [ByteArray.mk #[], ByteArray.mk #[97], ByteArray.mk #[97, 98], ByteArray.mk #[98], ByteArray.mk #[122, 57], ByteArray.mk #[97, 98, 99, 100, 101, 102, 103, 104, 105, 106, 107, 108]]) (by decide +kernel) hz6.1), hz16.2.1, by omega⟩
  ·skip
   have d2 := of_decide_eq_false c2
   iterate 4 refine z ?_
   refine yO rfl rfl (pu_move (.inl rfl) (ev_abox (ev_tmp rfl))) rfl ?_
   refine o_callB 20000 rfl rfl rfl Tryz.call135 (ok_spec_l4Number (code := code) (i := i8) (h := h8) (by omega) (by omega)) (ev_tmp rfl) rfl ac_arg rfl (fun _ => rfl) ad_nil rfl (fun _ => rfl) (fun _ => rfl) (fun zz hz20 => ?_)
   obtain ⟨e20, i20, h20⟩ := zz
   replace hz20 : (-1000000000000 ≤ e20 ∧ e20 ≤ 1000000000000) ∧ (e20 ≤ 256 ∨ 1000000 < e20) ∧ 0 ≤ i20 := hz20
   refine yO rfl rfl (pu_build hT hB rfl rfl rfl (bp_cons (ev_int (inR_lit rfl)) rfl rfl rfl rfl rfl (bp_cons (ev_tmp rfl) rfl rfl rfl rfl rfl bp_nil))) rfl ?_
   iterate 2 refine z ?_
   refine ok_weak (σ' := ⟨[(2, .box 2 0), (0, .abox 0)], [(2, 56, [(.dv [] (.int .i64 (1))), (.dv [] (.int .i64 (e20))), (.dv [] (.str (ByteArray.empty)))]), (0, 92, [(.arg 900001 (bytesD (code))), (.dv [] (.int .i64 (i20))), (.dv [] (.int .i64 (h20)))])], []⟩) (weak_sub ⟨rfl, rfl, trivial⟩ ⟨rfl, rfl, trivial⟩ trivial rfl) ?_
   refine z ?_
   refine fin1 (res_cell hT rfl rfl rfl rfl) ⟨(((1), ((e20), (ByteArray.empty))), i20, h20), ?_, rfl, rfl, rfl, rfl⟩
   try dsimp only
   exact ⟨key_num hz20.1, hz20.2.1, by omega⟩
theorem ok_spec_l4Small {code : List UInt8} {i h : Int} (hc : code.length ≤ 1048576) (hi : 0 ≤ i) : BFn Tryz.prog 83 [] 92 (bytesD (code)) [.dv [] (.int .i64 (i)), .dv [] (.int .i64 (h))] (fun zz : KeyT × Int × Int => isKey zz.1 = true ∧ smallK zz.1 ∧ 0 ≤ zz.2.1) (fun zz : KeyT × Int × Int => .agg [(.dv [] (.int .i64 (zz.1.1))), (.dv [] (.int .i64 (zz.1.2.1))), (.dv [] (.str (zz.1.2.2)))]) (fun zz : KeyT × Int × Int => []) (fun zz : KeyT × Int × Int => [.dv [] (.int .i64 (zz.2.1)), .dv [] (.int .i64 (zz.2.2))]) := by
 refine ⟨fn_introS Tryz.func83 rfl Tryz.ntmps83 Tryz.results83 rfl (fun C => ?_)⟩
 iterate 4 refine z ?_
 refine yO rfl rfl (pu_move (.inl rfl) (ev_abox (ev_tmp rfl))) rfl ?_
 refine o_callB 4000 rfl rfl rfl Tryz.call26 (ok_spec_l1Below (code := code) (i := i) (h := h) (n := 6) (by omega) (by omega) ) (ev_tmp rfl) rfl ac_arg rfl (fun _ => rfl) (ad_cons (ev_int (inR_lit rfl)) (ag_one ac_dv) rfl ad_nil) rfl (fun _ => rfl) (fun _ => rfl) (fun zz hz4 => ?_)
 obtain ⟨e4, i4, h4⟩ := zz
 replace hz4 : 0 ≤ e4 ∧ (0 < (6 : Int) → e4 < (6 : Int)) ∧ 0 ≤ i4 := hz4
 refine yO rfl rfl (pu_build hT hB rfl rfl rfl (bp_cons (ev_int (inR_lit rfl)) rfl rfl rfl rfl rfl (bp_cons (ev_tmp rfl) rfl rfl rfl rfl rfl bp_nil))) rfl ?_
 iterate 2 refine z ?_
 refine ok_weak (σ' := ⟨[(2, .box 2 0), (0, .abox 0)], [(2, 56, [(.dv [] (.int .i64 (1))), (.dv [] (.int .i64 (e4))), (.dv [] (.str (ByteArray.empty)))]), (0, 92, [(.arg 900001 (bytesD (code))), (.dv [] (.int .i64 (i4))), (.dv [] (.int .i64 (h4)))])], []⟩) (weak_sub ⟨rfl, rfl, trivial⟩ ⟨rfl, rfl, trivial⟩ trivial rfl) ?_
 refine z ?_
 refine fin1 (res_cell hT rfl rfl rfl rfl) ⟨(((1), ((e4), (ByteArray.empty))), i4, h4), ?_, rfl, rfl, rfl, rfl⟩
 try dsimp only
 have h9 := hz4.2.1 (by omega)
 exact ⟨key_num (by omega), .inl (by dsimp only; omega), by omega⟩
theorem ok_spec_l4Any {code : List UInt8} {i h : Int} (hc : code.length ≤ 1048576) (hi : 0 ≤ i) : BFn Tryz.prog 81 [] 92 (bytesD (code)) [.dv [] (.int .i64 (i)), .dv [] (.int .i64 (h))] (fun zz : KeyT × Int × Int => zz.1.2.2.size ≤ 13 ∧ 0 ≤ zz.2.1) (fun zz : KeyT × Int × Int => .agg [(.dv [] (.int .i64 (zz.1.1))), (.dv [] (.int .i64 (zz.1.2.1))), (.dv [] (.str (zz.1.2.2)))]) (fun zz : KeyT × Int × Int => []) (fun zz : KeyT × Int × Int => [.dv [] (.int .i64 (zz.2.1)), .dv [] (.int .i64 (zz.2.2))]) := by
 refine ⟨fn_introS Tryz.func81 rfl Tryz.ntmps81 Tryz.results81 rfl (fun C => ?_)⟩
 iterate 4 refine z ?_
 refine yO rfl rfl (pu_move (.inl rfl) (ev_abox (ev_tmp rfl))) rfl ?_
 refine o_callB 5000 rfl rfl rfl Tryz.call110 (ok_spec_l4Key (code := code) (i := i) (h := h) (by omega) (by omega)) (ev_tmp rfl) rfl ac_arg rfl (fun _ => rfl) ad_nil rfl (fun _ => rfl) (fun _ => rfl) (fun zz hz5 => ?_)
 obtain ⟨e5, i5, h5⟩ := zz
 replace hz5 : isKey e5 = true ∧ smallK e5 ∧ 0 ≤ i5 := hz5
 have hks := key_size hz5.1
 iterate 5 refine z ?_
 refine yO rfl rfl (pu_move (.inl rfl) (ev_abox (ev_tmp rfl))) rfl ?_
 refine o_callB 7000 rfl rfl rfl Tryz.call26 (ok_spec_l1Below (code := code) (i := i5) (h := h5) (n := 10) (by omega) (by omega) ) (ev_tmp rfl) rfl ac_arg rfl (fun _ => rfl) (ad_cons (ev_int (inR_lit rfl)) (ag_one ac_dv) rfl ad_nil) rfl (fun _ => rfl) (fun _ => rfl) (fun zz hz7 => ?_)
 obtain ⟨e7, i7, h7⟩ := zz
 replace hz7 : 0 ≤ e7 ∧ (0 < (10 : Int) → e7 < (10 : Int)) ∧ 0 ≤ i7 := hz7
 iterate 6 refine z ?_
 refine yQ rfl (fun c1 => ?_) fun c1 => ?_
 ·skip
  have d1 := of_decide_eq_true c1
  refine ok_region ?_
  refine yO rfl rfl (pu_move (.inl rfl) (ev_abox (ev_tmp rfl))) rfl ?_
  refine o_callB 11000 rfl rfl rfl Tryz.call26 (ok_spec_l1Below (code := code) (i := i7) (h := h7) (n := 5) (by omega) (by omega) ) (ev_tmp rfl) rfl ac_arg rfl (fun _ => rfl) (ad_cons (ev_int (inR_lit rfl)) (ag_one ac_dv) rfl ad_nil) rfl (fun _ => rfl) (fun _ => rfl) (fun zz hz11 => ?_)
  obtain ⟨e11, i11, h11⟩ := zz
  replace hz11 : 0 ≤ e11 ∧ (0 < (5 : Int) → e11 < (5 : Int)) ∧ 0 ≤ i11 := hz11
  iterate 2 refine z ?_
  refine ops_nil ?_
  iterate 6 refine z ?_
  refine ok_weak (σ' := ⟨[(2, .box 2 0), (0, .abox 0)], [(2, 56, [(.dv [] (.int .i64 (e11))), (.dv [] (.int .i64 (e5.2.1))), (.dv [] (.str (e5.2.2)))]), (0, 92, [(.arg 900001 (bytesD (code))), (.dv [] (.int .i64 (i11))), (.dv [] (.int .i64 (h11)))])], []⟩) (weak_sub ⟨rfl, rfl, trivial⟩ ⟨rfl, rfl, trivial⟩ trivial rfl) ?_
  refine z ?_
  refine fin1 (res_cell hT rfl rfl rfl rfl) ⟨(((e11), ((e5.2.1), (e5.2.2))), i11, h11), ?_, rfl, rfl, rfl, rfl⟩
  try dsimp only
  exact ⟨by omega, by omega⟩
 ·skip
  have d1 := of_decide_eq_false c1
  iterate 4 refine z ?_
  refine yQ rfl (fun c2 => ?_) fun c2 => ?_
  ·skip
   have d2 := of_decide_eq_true c2
   refine ok_region ?_
   refine yO rfl rfl (pu_move (.inl rfl) (ev_abox (ev_tmp rfl))) rfl ?_
   refine o_buildN (k := 16) (js := []) hT rfl rfl rfl rfl rfl rfl rfl rfl rfl rfl rfl (ep_cons (ev_int (inR_lit rfl)) rfl rfl rfl (ep_cons (ev_int (inR_lit rfl)) rfl rfl rfl (ep_cons (ev_int (inR_lit rfl)) rfl rfl rfl ep_nil))) (ow_cons' (ow_dv rfl) (ow_cons' (ow_dv rfl) (ow_cons' (ow_dv rfl) ow_nil rfl) rfl) rfl) (by decide) (by decide) rfl rfl ?_
   simp only [killT, killB, SV.kill, CV.kill, kk, Nat.reduceBEq]
   refine o_callB 17000 rfl rfl rfl Tryz.call28 (ok_spec_l1Int (code := code) (i := i7) (h := h7) (l := [-1000000000001, 1000000000001, 5]) (by omega) (by omega) (by exact Nat.succ_pos _)) (ev_tmp rfl) rfl ac_arg rfl (fun _ => rfl) (ad_cons (ev_tmp rfl) (ag_one (ac_key' rfl rfl)) rfl ad_nil) rfl (fun _ => rfl) (fun _ => rfl) (fun zz hz17 => ?_)
   obtain ⟨e17, i17, h17⟩ := zz
   replace hz17 : e17 ∈ ([-1000000000001, 1000000000001, 5]) ∧ 0 ≤ i17 := hz17
   iterate 2 refine z ?_
   refine ops_nil ?_
   iterate 6 refine z ?_
   refine ok_weak (σ' := ⟨[(2, .box 2 0), (0, .abox 0)], [(2, 56, [(.dv [] (.int .i64 (e5.1))), (.dv [] (.int .i64 (e17))), (.dv [] (.str (e5.2.2)))]), (0, 92, [(.arg 900001 (bytesD (code))), (.dv [] (.int .i64 (i17))), (.dv [] (.int .i64 (h17)))])], []⟩) (weak_sub ⟨rfl, rfl, trivial⟩ ⟨rfl, rfl, trivial⟩ trivial rfl) ?_
   refine z ?_
   refine fin1 (res_cell hT rfl rfl rfl rfl) ⟨(((e5.1), ((e17), (e5.2.2))), i17, h17), ?_, rfl, rfl, rfl, rfl⟩
   try dsimp only
   exact ⟨by omega, by omega⟩
  ·skip
   have d2 := of_decide_eq_false c2
   iterate 4 refine z ?_
   refine yQ rfl (fun c3 => ?_) fun c3 => ?_
   ·skip
    have d3 := of_decide_eq_true c3
    refine ok_region ?_
    refine yO rfl rfl (pu_move (.inl rfl) (ev_abox (ev_tmp rfl))) rfl ?_
    refine o_buildN (k := 22) (js := []) hT rfl rfl rfl rfl rfl rfl rfl rfl rfl rfl rfl (ep_cons (ev_str (str_lit rfl)) rfl rfl rfl (ep_cons (ev_str (str_lit rfl)) rfl rfl rfl (ep_cons (ev_str (str_lit rfl)) rfl rfl rfl (ep_cons (ev_str (str_lit rfl)) rfl rfl rfl ep_nil)))) (ow_cons' (ow_dv rfl) (ow_cons' (ow_dv rfl) (ow_cons' (ow_dv rfl) (ow_cons' (ow_dv rfl) ow_nil rfl) rfl) rfl) rfl) (by decide) (by decide) rfl rfl ?_
    simp only [killT, killB, SV.kill, CV.kill, kk, Nat.reduceBEq]
    refine o_callB 23000 rfl rfl rfl Tryz.call56 (ok_spec_l1Str (code := code) (i := i7) (h := h7) (l := [ByteArray.mk #[65], ByteArray.mk #[97, 32, 98], ByteArray.mk #[97, 98, 99, 100, 101, 102, 103, 104, 105, 106, 107, 108, 109], ByteArray.mk #[120, 39]]) (by omega) (by omega) (by exact Nat.succ_pos _)) (ev_tmp rfl) rfl ac_arg rfl (fun _ => rfl) (ad_cons (ev_tmp rfl) (ag_one (ac_key' rfl rfl)) rfl ad_nil) rfl (fun _ => rfl) (fun _ => rfl) (fun zz hz23 => ?_)
    obtain ⟨e23, i23, h23⟩ := zz
    replace hz23 : e23 ∈ ([ByteArray.mk #[65], ByteArray.mk #[97, 32, 98], ByteArray.mk #[97, 98, 99, 100, 101, 102, 103, 104, 105, 106, 107, 108, 109], ByteArray.mk #[120, 39]]) ∧ 0 ≤ i23 := hz23
    iterate 2 refine z ?_
    refine ops_nil ?_
    iterate 6 refine z ?_
    refine ok_weak (σ' := ⟨[(2, .box 2 0), (0, .abox 0)], [(2, 56, [(.dv [] (.int .i64 (e5.1))), (.dv [] (.int .i64 (e5.2.1))), (.dv [] (.str (e23)))]), (0, 92, [(.arg 900001 (bytesD (code))), (.dv [] (.int .i64 (i23))), (.dv [] (.int .i64 (h23)))])], []⟩) (weak_sub ⟨rfl, rfl, trivial⟩ ⟨rfl, rfl, trivial⟩ trivial rfl) ?_
    refine z ?_
    refine fin1 (res_cell hT rfl rfl rfl rfl) ⟨(((e5.1), ((e5.2.1), (e23))), i23, h23), ?_, rfl, rfl, rfl, rfl⟩
    try dsimp only
    exact ⟨size_of 13 (by decide +kernel) hz23.1, by omega⟩
   ·skip
    have d3 := of_decide_eq_false c3
    iterate 7 refine z ?_
    refine ok_weak (σ' := ⟨[(2, .box 2 0), (0, .abox 0)], [(2, 56, [(.dv [] (.int .i64 (e5.1))), (.dv [] (.int .i64 (e5.2.1))), (.dv [] (.str (e5.2.2)))]), (0, 92, [(.arg 900001 (bytesD (code))), (.dv [] (.int .i64 (i7))), (.dv [] (.int .i64 (h7)))])], []⟩) (weak_sub ⟨rfl, rfl, trivial⟩ ⟨rfl, rfl, trivial⟩ trivial rfl) ?_
    refine z ?_
    refine fin1 (res_cell hT rfl rfl rfl rfl) ⟨(((e5.1), ((e5.2.1), (e5.2.2))), i7, h7), ?_, rfl, rfl, rfl, rfl⟩
    try dsimp only
    exact ⟨by omega, by omega⟩
theorem ok_spec_l5Name {code : List UInt8} {i h : Int} (hc : code.length ≤ 1048576) (hi : 0 ≤ i) : BFn Tryz.prog 58 [] 92 (bytesD (code)) [.dv [] (.int .i64 (i)), .dv [] (.int .i64 (h))] (fun zz : Str × Int × Int => isName zz.1 = true ∧ 0 ≤ zz.2.1) (fun zz : Str × Int × Int => .one (.dv [] (.str (zz.1)))) (fun zz : Str × Int × Int => []) (fun zz : Str × Int × Int => [.dv [] (.int .i64 (zz.2.1)), .dv [] (.int .i64 (zz.2.2))]) := by
 refine ⟨fn_introS Tryz.func58 rfl Tryz.ntmps58 Tryz.results58 rfl (fun C => ?_)⟩
 iterate 4 refine z ?_
 refine yO rfl rfl (pu_move (.inl rfl) (ev_abox (ev_tmp rfl))) rfl ?_
 refine o_buildN (k := 4) (js := []) hT rfl rfl rfl rfl rfl rfl rfl rfl rfl rfl rfl (ep_cons (ev_str (str_lit rfl)) rfl rfl rfl (ep_cons (ev_str (str_lit rfl)) rfl rfl rfl (ep_cons (ev_str (str_lit rfl)) rfl rfl rfl (ep_cons (ev_str (str_lit rfl)) rfl rfl rfl (ep_cons (ev_str (str_lit rfl)) rfl rfl rfl ep_nil))))) (ow_cons' (ow_dv rfl) (ow_cons' (ow_dv rfl) (ow_cons' (ow_dv rfl) (ow_cons' (ow_dv rfl) (ow_cons' (ow_dv rfl) ow_nil rfl) rfl) rfl) rfl) rfl) (by decide) (by decide) rfl rfl ?_
 simp only [killT, killB, SV.kill, CV.kill, kk, Nat.reduceBEq]
 refine o_callB 5000 rfl rfl rfl Tryz.call56 (ok_spec_l1Str (code := code) (i := i) (h := h) (l := [ByteArray.mk #[97], ByteArray.mk #[98], ByteArray.mk #[99], ByteArray.mk #[100, 111, 110, 101], ByteArray.mk #[116, 105, 116, 108, 101]]) (by omega) (by omega) (by exact Nat.succ_pos _)) (ev_tmp rfl) rfl ac_arg rfl (fun _ => rfl) (ad_cons (ev_tmp rfl) (ag_one (ac_key' rfl rfl)) rfl ad_nil) rfl (fun _ => rfl) (fun _ => rfl) (fun zz hz5 => ?_)
 obtain ⟨e5, i5, h5⟩ := zz
 replace hz5 : e5 ∈ ([ByteArray.mk #[97], ByteArray.mk #[98], ByteArray.mk #[99], ByteArray.mk #[100, 111, 110, 101], ByteArray.mk #[116, 105, 116, 108, 101]]) ∧ 0 ≤ i5 := hz5
 iterate 2 refine z ?_
 refine ok_weak (σ' := ⟨[(2, .one (.dv [] (.str (e5)))), (0, .abox 0)], [(0, 92, [(.arg 900001 (bytesD (code))), (.dv [] (.int .i64 (i5))), (.dv [] (.int .i64 (h5)))])], []⟩) (weak_sub ⟨rfl, rfl, trivial⟩ ⟨rfl, trivial⟩ trivial rfl) ?_
 refine z ?_
 refine fin1 (res_tmp rfl) ⟨((e5), i5, h5), ?_, rfl, rfl, rfl, rfl⟩
 try dsimp only
 exact ⟨name_of (l := [ByteArray.mk #[97], ByteArray.mk #[98], ByteArray.mk #[99], ByteArray.mk #[100, 111, 110, 101], ByteArray.mk #[116, 105, 116, 108, 101]]) (by decide +kernel) hz5.1, by omega⟩
theorem ok_spec_l5Record {code : List UInt8} {i h : Int} (hc : code.length ≤ 1048576) (hi : 0 ≤ i) : BFn Tryz.prog 84 [] 92 (bytesD (code)) [.dv [] (.int .i64 (i)), .dv [] (.int .i64 (h))] (fun zz : RecT × Int × Int => isRec zz.1 = true ∧ 0 ≤ zz.2.1) (fun zz : RecT × Int × Int => .agg [(.key 9001)]) (fun zz : RecT × Int × Int => [(9001, some (kcOf false (fieldsD (zz.1))))]) (fun zz : RecT × Int × Int => [.dv [] (.int .i64 (zz.2.1)), .dv [] (.int .i64 (zz.2.2))]) := by
 refine ⟨fn_introS Tryz.func84 rfl Tryz.ntmps84 Tryz.results84 rfl (fun C => ?_)⟩
 iterate 4 refine z ?_
 refine yO rfl rfl (pu_build hT hB rfl rfl rfl bp_nil) rfl ?_
 iterate 3 refine z ?_
 refine ok_seq ?_
 refine ok_seq ?_
 refine ok_weak (weak_nilB 9001 (b := 3) (i := 0) (e := 102) (sz := 2) rfl rfl rfl rfl rfl) ?_
 simp only [killT, killB, SV.kill, CV.kill, kk, Nat.reduceBEq]
 refine ok_region ?_
 refine yO rfl rfl (pu_move (.inl rfl) (ev_abox (ev_tmp rfl))) rfl ?_
 refine o_callB 7000 rfl rfl rfl Tryz.call26 (ok_spec_l1Below (code := code) (i := i) (h := h) (n := 4) (by omega) (by omega) ) (ev_tmp rfl) rfl ac_arg rfl (fun _ => rfl) (ad_cons (ev_int (inR_lit rfl)) (ag_one ac_dv) rfl ad_nil) rfl (fun _ => rfl) (fun _ => rfl) (fun zz hz7 => ?_)
 obtain ⟨e7, i7, h7⟩ := zz
 replace hz7 : 0 ≤ e7 ∧ (0 < (4 : Int) → e7 < (4 : Int)) ∧ 0 ≤ i7 := hz7
 iterate 3 refine z ?_
 refine ok_loop (ι := Int × RecT × Int × Int) (fun zz => ⟨[(0, .abox 0), (2, .box 2 0), (3, .box 3 0), (4, .one (.dv [] (.int .i64 (zz.1))))], [(0, 92, [(.arg 900001 (bytesD (code))), (.dv [] (.int .i64 (zz.2.2.1))), (.dv [] (.int .i64 (zz.2.2.2)))]), (2, 59, [.nil]), (3, 59, [(.key 9001)])], [(9001, some (kcOf false (.sl 102 2 (zz.2.1.length) (zz.2.1.flatMap eField))))]⟩) (fun zz => isRec zz.2.1 = true ∧ 0 ≤ zz.2.2.1 ∧ zz.1 ≤ 9) (fun zz => zz.1.toNat) ((e7, [], i7, h7)) ?_ (weak_sub ⟨rfl, rfl, rfl, rfl, trivial⟩ ⟨rfl, rfl, rfl, trivial⟩ ⟨rfl, trivial⟩ rfl) (fun zz hx => ?_)
 ·exact ⟨rfl, by dsimp only; omega, by dsimp only; omega⟩
 obtain ⟨n, r, ci, ch⟩ := zz
 replace hx : isRec r = true ∧ 0 ≤ ci ∧ n ≤ 9 := hx
 obtain ⟨hr, hci, hn9⟩ := hx
 show Ok _ _ _ _ _ (⟨[(0, .abox 0), (2, .box 2 0), (3, .box 3 0), (4, .one (.dv [] (.int .i64 (n))))], [(0, 92, [(.arg 900001 (bytesD (code))), (.dv [] (.int .i64 (ci))), (.dv [] (.int .i64 (ch)))]), (2, 59, [.nil]), (3, 59, [(.key 9001)])], [(9001, some (kcOf false (.sl 102 2 (r.length) (r.flatMap eField))))]⟩ : St)
 iterate 5 refine z ?_
 refine yQ rfl (fun c1 => ?_) fun c1 => ?_
 ·skip
  have d1 := of_decide_eq_true c1
  iterate 4 refine z ?_
  refine ok_regionL [0] [0, 1, 2, 3, 4, 5, 6] (oB := [2, 3]) (oK := [9001]) (by kernel_rfl) rfl rfl ?_
  refine l_take 0 rfl (by kernel_rfl) rfl rfl (pu_loadBoxA hT rfl rfl (ev_tmp rfl) rfl rfl) rfl rfl rfl rfl rfl ?_
  refine l_take 1 rfl (by kernel_rfl) rfl rfl (pu_move (.inl rfl) (ev_abox (ev_tmp rfl))) rfl rfl rfl rfl rfl ?_
  refine l_take 3 rfl (by kernel_rfl) rfl rfl (pu_move (.inl rfl) (ev_abox (ev_tmp rfl))) rfl rfl rfl rfl rfl ?_
  refine l_split 2 [] (by kernel_rfl) ⟨?_, trivial⟩
  refine y_callB 15000 2 rfl rfl rfl rfl rfl Tryz.call58 (ok_spec_l5Name (code := code) (i := ci) (h := ch) (by omega) (by omega)) (ev_tmp rfl) rfl ac_arg rfl (fun _ => rfl) ad_nil rfl (fun _ => rfl) (fun _ => rfl) rfl (fun zz hz15 => ?_)
  obtain ⟨e15, i15, h15⟩ := zz
  replace hz15 : isName e15 = true ∧ 0 ≤ i15 := hz15
  refine l_split 4 [] (by kernel_rfl) ⟨?_, trivial⟩
  refine y_callB 17000 4 rfl rfl rfl rfl rfl Tryz.call26 (ok_spec_l1Below (code := code) (i := i15) (h := h15) (n := 5) (by omega) (by omega) ) (ev_tmp rfl) rfl ac_arg rfl (fun _ => rfl) (ad_cons (ev_int (inR_lit rfl)) (ag_one ac_dv) rfl ad_nil) rfl (fun _ => rfl) (fun _ => rfl) rfl (fun zz hz17 => ?_)
  obtain ⟨e17, i17, h17⟩ := zz
  replace hz17 : 0 ≤ e17 ∧ (0 < (5 : Int) → e17 < (5 : Int)) ∧ 0 ≤ i17 := hz17
  refine l_split 5 [] (by kernel_rfl) ⟨?_, trivial⟩
  refine y_callK 500 5 rfl rfl rfl rfl Tryz.call111 (ok_spec_SetField (r := r) (n := e15) (v := e17) (by have := rec_len hr; omega)) (as_cons (ev_tmp rfl) (ag_agg (ag_cons (ac_key' rfl rfl) ag_nil)) (as_cons (ev_tmp rfl) (ag_one ac_dv) (as_cons (ev_tmp rfl) (ag_one ac_dv) as_nil))) rfl rfl rfl rfl rfl rfl ?_
  refine l_take 6 rfl (by kernel_rfl) rfl rfl (pu_move (.inl rfl) (ev_tmp rfl)) rfl rfl rfl rfl rfl ?_
  refine l_takeX 7 rfl (by kernel_rfl) rfl rfl rfl (pu_extractA rfl (ev_tmp rfl) rfl) rfl rfl ?_
  refine l_takeX 8 rfl (by kernel_rfl) rfl rfl rfl (pu_extract1 rfl (ev_tmp rfl) rfl) rfl rfl ?_
  refine l_chain [9] rfl rfl (by kernel_rfl) ?_
  refine z ?_
  refine ops_nil ?_
  iterate 2 refine z ?_
  refine ok_region ?_
  iterate 4 refine z ?_
  refine ⟨(n - 1, (setF r e15 e17).1, i17, h17), ?_, ?_, weak_then (weak_swapB (b := 3) (i := 0) (k := 9501) (k' := 9001) rfl rfl rfl rfl (by simp) rfl rfl) (weak_sub ⟨rfl, rfl, rfl, rfl, trivial⟩ ⟨rfl, rfl, rfl, trivial⟩ ⟨rfl, trivial⟩ rfl)⟩
  ·exact ⟨setF_rec hr, by dsimp only; omega, by dsimp only; omega⟩
  ·dsimp only; omega
 ·skip
  have d1 := of_decide_eq_false c1
  iterate 9 refine z ?_
  refine ok_weak (σ' := ⟨[(2, .box 2 0), (0, .abox 0)], [(2, 59, [(.key 9001)]), (0, 92, [(.arg 900001 (bytesD (code))), (.dv [] (.int .i64 (ci))), (.dv [] (.int .i64 (ch)))])], [(9001, some (kcOf false (.sl 102 2 (r.length) (r.flatMap eField))))]⟩) (weak_sub ⟨rfl, rfl, trivial⟩ ⟨rfl, rfl, trivial⟩ ⟨rfl, trivial⟩ rfl) ?_
  refine z ?_
  refine fin1 (res_cell hT rfl rfl rfl rfl) ⟨((r), ci, ch), ?_, rfl, rfl, rfl, rfl⟩
  try dsimp only
  exact ⟨hr, by omega⟩
end Go.Proofs.YtmnimdnmedldgaaGreat

namespace Go.Proofs.YtmnimdnmedldgaaGreat
open Go.RowKit
open Go.Proofs
set_option linter.unusedVariables false
set_option linter.unusedSimpArgs false

def autoI (s : StoreT) : Prop := ∀ y ∈ s.2.1, y.1.1 = 1 → y.1.2.1 ≤ 1000000 → y.1.2.1 ≤ s.2.2
theorem mem_insI {l : List ItemT} {j : Nat} {y z : ItemT} (h : z ∈ insI l j y) : z = y ∨ z ∈ l := by
 unfold insI at h
 simp only [List.mem_append, List.mem_singleton] at h
 rcases h with (h | h) | h
 ·exact .inr (List.mem_of_mem_take h)
 ·exact .inl h
 ·exact .inr (List.mem_of_mem_drop h)
theorem autoI_put {s : StoreT} {k : KeyT} {r : RecT} (h : autoI s) : autoI (putN s k r).1 := by
 cases h2 : (putN s k r).2 with
 | false => rw [putN_f h2]; exact h
 | true =>
  obtain ⟨_, _, _, ⟨h3, e⟩ | ⟨h3, _, e⟩⟩ := put_cases h2
  ·rw [e]
   intro y hy h4 h5
   dsimp only at hy ⊢
   have hm : y.1 ∈ (setI s.2.1 (fndK s k).toNat r).map Prod.fst := List.mem_map_of_mem hy
   rw [setI_keys] at hm
   obtain ⟨z, hz, hzy⟩ := List.mem_map.1 hm
   have := h z hz (by rw [hzy]; exact h4) (by rw [hzy]; exact h5)
   rw [hzy] at this; exact this
  ·rw [e]
   intro y hy h4 h5
   dsimp only at hy ⊢
   have ha : s.2.2 ≤ autoP s k := by
    have := put_auto (x := s) (k := k) (r := r)
    rw [e] at this; exact this
   rcases mem_insI hy with rfl | hy
   ·unfold autoP
    dsimp only at h4 h5 ⊢
    split
    ·exact Int.le_refl _
    ·rename_i hh
     simp only [Bool.and_eq_true, decide_eq_true_eq] at hh
     omega
   ·have := h y hy h4 h5
    omega
theorem auto_small {s : StoreT} {k : KeyT} {r : RecT} (h : s.2.2 ≤ 256) (hk : smallK k) : (putN s k r).1.2.2 ≤ 256 := by
 cases h2 : (putN s k r).2 with
 | false => rw [putN_f h2]; exact h
 | true =>
  obtain ⟨_, _, _, ⟨h3, e⟩ | ⟨h3, _, e⟩⟩ := put_cases h2
  ·rw [e]; exact h
  ·rw [e]
   dsimp only
   unfold autoP
   split
   ·rename_i hh
    simp only [Bool.and_eq_true, decide_eq_true_eq] at hh
    unfold smallK at hk
    omega
   ·exact h
theorem auto_step {s : StoreT} (hs : isSto s = true) (ha : autoI s) (hl : s.2.1.length < 16) (h : s.2.2 ≤ 284 + (s.2.1.length : Int)) :
  (autoN s []).2.2 = true ∧ isSto (autoN s []).1 = true ∧ autoI (autoN s []).1 ∧ (autoN s []).1.2.1.length = s.2.1.length + 1 ∧ (autoN s []).1.2.2 = s.2.2 + 1 := by
 have h0 := hs
 rw [isSto_eq] at h0
 simp only [Bool.and_eq_true, decide_eq_true_eq] at h0
 have hlo := h0.2.2.1
 have hk : isKey (keyA s) = true := key_num (by omega)
 have hf : fndK s (keyA s) < 0 := by
  rcases Int.lt_or_le (fndK s (keyA s)) 0 with hq | hq
  ·exact hq
  ·have h1 := fndK_lt hq
   rcases findI_cases (p := fun y : ItemT => kEq y.1 (keyA s)) (d := default) s.2.1 0 (by omega) with ⟨h2, _⟩ | ⟨m, h2, h3, _, h5⟩
   ·unfold fndK at hq; omega
   ·have hm : s.2.1.getD m default ∈ s.2.1 := by rw [List.getD_eq_getElem?_getD, List.getElem?_eq_getElem h2]; exact List.getElem_mem h2
    have e := kEq_eq h5
    have e1 : (s.2.1.getD m default).1.1 = 1 := by rw [e]; rfl
    have e2 : (s.2.1.getD m default).1.2.1 = s.2.2 + 1 := by rw [e]; rfl
    have := ha _ hm e1 (by omega)
    omega
 have hput : putN s (keyA s) [] = ((s.1, insI s.2.1 (posK (keyA s) s.2.1) (keyA s, []), autoP s (keyA s)), true) := by
  unfold putN
  have hr : isRec [] = true := rfl
  rw [if_neg (by rw [hs, hk, hr]; simp), if_neg (by omega), if_neg (by omega)]
 have hadd : addN s (keyA s) [] = putN s (keyA s) [] := if_neg (by omega)
 have hauto : autoN s [] = ((putN s (keyA s) []).1, keyA s, true) := by
  unfold autoN
  rw [if_neg (by omega), hadd, if_pos (by rw [hput])]
 rw [hauto]
 refine ⟨rfl, putN_sto hs, autoI_put ha, ?_, ?_⟩
 ·rw [hput]; exact insI_len
 ·rw [hput]
  show autoP s (keyA s) = _
  unfold autoP
  rw [if_pos (by
   simp only [Bool.and_eq_true, decide_eq_true_eq]
   exact ⟨rfl, Int.le_refl _, by show s.2.2 + 1 ≤ 1000000; omega⟩)]
  rfl
theorem sto_w2 {s : StoreT} (h : isSto s = true) : wStore s ≤ 1200 := by
 have h0 := h
 simp only [isSto, Bool.and_eq_true, List.all_eq_true, decide_eq_true_eq] at h
 obtain ⟨h1, ⟨h2, h3⟩, h4⟩ := h
 have h5 := name_size h2
 have h6 : ∀ x ∈ s.2.1, wItem x ≤ 70 := fun x hx => by
  obtain ⟨i, hi, rfl⟩ := List.mem_iff_getElem.1 hx
  have h7 := h1 i (List.mem_range.2 hi)
  unfold stoBad at h7
  rw [getD_at hi] at h7
  simp only [Bool.not_or, Bool.not_not, Bool.and_eq_true] at h7
  have h8 := (key_rng h7.1.1).2.2
  have h9 := rec_wt h7.1.2
  have h12 : wItem s.2.1[i] = s.2.1[i].1.2.2.size + wRecord s.2.1[i].2 := rfl
  omega
 have h7 : wSum wItem s.2.1 ≤ 70 * s.2.1.length := by
  have key : ∀ l : List ItemT, (∀ x ∈ l, wItem x ≤ 70) → wSum wItem l ≤ 70 * l.length := by
   intro l
   induction l with
   | nil => intro _; simp [wSum]
   | cons x l ih =>
    intro hx
    have k1 := ih (fun g hg => hx g (by simp [hg]))
    have k2 := hx x (by simp)
    simp only [wSum, List.map_cons, List.sum_cons, List.length_cons] at *
    omega
  exact key _ h6
 have h8 : wStore s = s.1.size + (s.2.1.length + wSum wItem s.2.1) := rfl
 omega
theorem rec_app_w (r : RecT) (f : FieldT) : wRecord (r ++ [f]) = wRecord r + 1 + f.1.size := by
 have h1 : wRecord (r ++ [f]) = (r ++ [f]).length + wSum wField (r ++ [f]) := rfl
 have h2 : wRecord r = r.length + wSum wField r := rfl
 have h3 : wSum wField [f] = f.1.size := by simp [wSum, wField]
 rw [h1, h2, wSum_app, List.length_append, h3, List.length_singleton]; omega
theorem sto_app_w (s : StoreT) (x : ItemT) : wStore (s.1, s.2.1 ++ [x], s.2.2) = wStore s + 1 + x.1.2.2.size + wRecord x.2 := by
 have h1 : wStore (s.1, s.2.1 ++ [x], s.2.2) = s.1.size + ((s.2.1 ++ [x]).length + wSum wItem (s.2.1 ++ [x])) := rfl
 have h2 : wStore s = s.1.size + (s.2.1.length + wSum wItem s.2.1) := rfl
 have h3 : wSum wItem [x] = x.1.2.2.size + wRecord x.2 := by simp [wSum, wItem, wKey]
 rw [h1, h2, wSum_app, List.length_append, h3, List.length_singleton]; omega

theorem ok_spec_l5Any {code : List UInt8} {i h : Int} (hc : code.length ≤ 1048576) (hi : 0 ≤ i) : BFn Tryz.prog 82 [] 92 (bytesD (code)) [.dv [] (.int .i64 (i)), .dv [] (.int .i64 (h))] (fun zz : RecT × Int × Int => wRecord zz.1 ≤ 200 ∧ 0 ≤ zz.2.1) (fun zz : RecT × Int × Int => .agg [(.key 9001)]) (fun zz : RecT × Int × Int => [(9001, some (kcOf false (fieldsD (zz.1))))]) (fun zz : RecT × Int × Int => [.dv [] (.int .i64 (zz.2.1)), .dv [] (.int .i64 (zz.2.2))]) := by
 refine ⟨fn_introS Tryz.func82 rfl Tryz.ntmps82 Tryz.results82 rfl (fun C => ?_)⟩
 iterate 4 refine z ?_
 refine yO rfl rfl (pu_move (.inl rfl) (ev_abox (ev_tmp rfl))) rfl ?_
 refine o_callB 0 rfl rfl rfl Tryz.call84 (ok_spec_l5Record (code := code) (i := i) (h := h) (by omega) (by omega)) (ev_tmp rfl) rfl ac_arg rfl (fun _ => rfl) ad_nil rfl (fun _ => rfl) (fun _ => rfl) (fun zz hz7 => ?_)
 obtain ⟨e7, i7, h7⟩ := zz
 replace hz7 : isRec e7 = true ∧ 0 ≤ i7 := hz7
 have hrw := rec_wt hz7.1
 iterate 5 refine z ?_
 refine yO rfl rfl (pu_move (.inl rfl) (ev_abox (ev_tmp rfl))) rfl ?_
 refine o_callB 9000 rfl rfl rfl Tryz.call26 (ok_spec_l1Below (code := code) (i := i7) (h := h7) (n := 12) (by omega) (by omega) ) (ev_tmp rfl) rfl ac_arg rfl (fun _ => rfl) (ad_cons (ev_int (inR_lit rfl)) (ag_one ac_dv) rfl ad_nil) rfl (fun _ => rfl) (fun _ => rfl) (fun zz hz9 => ?_)
 obtain ⟨e9, i9, h9⟩ := zz
 replace hz9 : 0 ≤ e9 ∧ (0 < (12 : Int) → e9 < (12 : Int)) ∧ 0 ≤ i9 := hz9
 iterate 6 refine z ?_
 refine yQ rfl (fun c1 => ?_) fun c1 => ?_
 ·skip
  have d1 := of_decide_eq_true c1
  refine ok_regionL [0] [0, 1, 2, 3, 4, 5, 6, 7, 8, 9] (oB := [2, 3]) (oK := [9001]) (by kernel_rfl) rfl rfl ?_
  refine l_take 0 rfl (by kernel_rfl) rfl rfl (pu_fieldBox hT rfl rfl rfl (ev_tmp rfl)) rfl rfl rfl rfl rfl ?_
  refine l_take 1 rfl (by kernel_rfl) rfl rfl (pu_loadBox1 hT rfl rfl (ev_tmp rfl) rfl rfl) rfl rfl rfl rfl rfl ?_
  refine l_take 2 rfl (by kernel_rfl) rfl rfl (pu_move (.inl rfl) (ev_abox (ev_tmp rfl))) rfl rfl rfl rfl rfl ?_
  refine l_take 5 rfl (by kernel_rfl) rfl rfl (pu_move (.inl rfl) (ev_abox (ev_tmp rfl))) rfl rfl rfl rfl rfl ?_
  refine l_split 3 [6] (by kernel_rfl) ⟨?_, ?_, trivial⟩
  ·skip
   refine y_buildN (k := 15) (js := []) 3 hT rfl rfl rfl rfl rfl rfl rfl rfl rfl rfl rfl rfl (ep_cons (ev_str (str_lit rfl)) rfl rfl rfl (ep_cons (ev_str (str_lit rfl)) rfl rfl rfl (ep_cons (ev_str (str_lit rfl)) rfl rfl rfl (ep_cons (ev_str (str_lit rfl)) rfl rfl rfl (ep_cons (ev_str (str_lit rfl)) rfl rfl rfl ep_nil))))) (ow_cons' (ow_dv rfl) (ow_cons' (ow_dv rfl) (ow_cons' (ow_dv rfl) (ow_cons' (ow_dv rfl) (ow_cons' (ow_dv rfl) ow_nil rfl) rfl) rfl) rfl) rfl) (by decide) (by decide) rfl rfl rfl rfl rfl ?_
   simp only [killT, killB, SV.kill, CV.kill, kk, Nat.reduceBEq]
   refine l_split 4 [6] (by kernel_rfl) ⟨?_, ?_, trivial⟩
   ·skip
    refine y_callB 16000 4 rfl rfl rfl rfl rfl Tryz.call56 (ok_spec_l1Str (code := code) (i := i9) (h := h9) (l := [ByteArray.mk #[], ByteArray.mk #[65], ByteArray.mk #[122, 122, 122, 122, 122, 122, 122, 122, 122], ByteArray.mk #[122], ByteArray.mk #[97]]) (by omega) (by omega) (by exact Nat.succ_pos _)) (ev_tmp rfl) rfl ac_arg rfl (fun _ => rfl) (ad_cons (ev_tmp rfl) (ag_one (ac_key' rfl rfl)) rfl ad_nil) rfl (fun _ => rfl) (fun _ => rfl) rfl (fun zz hz16 => ?_)
    obtain ⟨e16, i16, h16⟩ := zz
    replace hz16 : e16 ∈ ([ByteArray.mk #[], ByteArray.mk #[65], ByteArray.mk #[122, 122, 122, 122, 122, 122, 122, 122, 122], ByteArray.mk #[122], ByteArray.mk #[97]]) ∧ 0 ≤ i16 := hz16
    have hsz := size_of 9 (by decide +kernel) hz16.1
    refine l_split 6 [] (by kernel_rfl) ⟨?_, trivial⟩
    refine y_buildN (k := 18) (js := []) 6 hT rfl rfl rfl rfl rfl rfl rfl rfl rfl rfl rfl rfl (ep_cons (ev_int (inR_lit rfl)) rfl rfl rfl (ep_cons (ev_int (inR_lit rfl)) rfl rfl rfl (ep_cons (ev_int (inR_lit rfl)) rfl rfl rfl (ep_cons (ev_int (inR_lit rfl)) rfl rfl rfl ep_nil)))) (ow_cons' (ow_dv rfl) (ow_cons' (ow_dv rfl) (ow_cons' (ow_dv rfl) (ow_cons' (ow_dv rfl) ow_nil rfl) rfl) rfl) rfl) (by decide) (by decide) rfl rfl rfl rfl rfl ?_
    simp only [killT, killB, SV.kill, CV.kill, kk, Nat.reduceBEq]
    refine l_split 7 [] (by kernel_rfl) ⟨?_, trivial⟩
    refine y_callB 19000 7 rfl rfl rfl rfl rfl Tryz.call28 (ok_spec_l1Int (code := code) (i := i16) (h := h16) (l := [0, -1, 1000000000, 1000000001]) (by omega) (by omega) (by exact Nat.succ_pos _)) (ev_tmp rfl) rfl ac_arg rfl (fun _ => rfl) (ad_cons (ev_tmp rfl) (ag_one (ac_key' rfl rfl)) rfl ad_nil) rfl (fun _ => rfl) (fun _ => rfl) rfl (fun zz hz19 => ?_)
    obtain ⟨e19, i19, h19⟩ := zz
    replace hz19 : e19 ∈ ([0, -1, 1000000000, 1000000001]) ∧ 0 ≤ i19 := hz19
    refine l_take 8 rfl (by kernel_rfl) rfl rfl (pu_build hT hB rfl rfl rfl (bp_cons (ev_tmp rfl) rfl rfl rfl rfl rfl (bp_cons (ev_tmp rfl) rfl rfl rfl rfl rfl bp_nil))) rfl rfl rfl rfl rfl ?_
    refine l_split 9 [] (by kernel_rfl) ⟨?_, trivial⟩
    refine y_buildN (k := 21) (js := []) 9 hT rfl rfl rfl rfl rfl rfl rfl rfl rfl rfl rfl rfl (ep_cons (ev_tmp rfl) rfl rfl rfl ep_nil) (ow_cons' (ow_dv rfl) (ow_cons' (ow_dv rfl) ow_nil rfl) rfl) (by decide) (by decide) rfl rfl rfl rfl rfl ?_
    simp only [killT, killB, SV.kill, CV.kill, kk, Nat.reduceBEq]
    refine l_chain [10, 11, 12] rfl rfl (by kernel_rfl) ?_
    refine o_appK (k := 9001) (j := 21) (cs := (e7 ++ [(e16, e19)]).flatMap eField) (n := (e7 ++ [(e16, e19)]).length) hT rfl rfl rfl rfl rfl rfl rfl (ev_tmp rfl) rfl rfl rfl (ev_tmp rfl) rfl rfl (by decide) (by have := rec_len hz7.1; dsimp only [kcOf, KC.old, fieldsD, listD]; omega) (by have := rec_len hz7.1; dsimp only [kcOf, KC.old, fieldsD, listD]; omega) (by rw [List.length_append]; rfl) (by rw [List.flatMap_append]; rfl) ?_
    simp only [killT, killB, SV.kill, CV.kill, kk, Nat.reduceBEq]
    iterate 2 refine z ?_
    refine ops_nil ?_
    iterate 6 refine z ?_
    refine ok_weak (σ' := ⟨[(2, .box 2 0), (0, .abox 0)], [(2, 59, [(.key 9001)]), (0, 92, [(.arg 900001 (bytesD (code))), (.dv [] (.int .i64 (i19))), (.dv [] (.int .i64 (h19)))])], [(9001, some (kcOf false (.sl 102 2 ((e7 ++ [(e16, e19)]).length) ((e7 ++ [(e16, e19)]).flatMap eField))))]⟩) (weak_sub ⟨rfl, rfl, trivial⟩ ⟨rfl, rfl, trivial⟩ ⟨rfl, trivial⟩ rfl) ?_
    refine z ?_
    refine fin1 (res_cell hT rfl rfl rfl rfl) ⟨(((e7 ++ [(e16, e19)])), i19, h19), ?_, rfl, rfl, rfl, rfl⟩
    try dsimp only
    exact ⟨by have := rec_app_w e7 (e16, e19); dsimp only at this; omega, by omega⟩
   ·skip
    refine y_buildN (k := 18) (js := []) 6 hT rfl rfl rfl rfl rfl rfl rfl rfl rfl rfl rfl rfl (ep_cons (ev_int (inR_lit rfl)) rfl rfl rfl (ep_cons (ev_int (inR_lit rfl)) rfl rfl rfl (ep_cons (ev_int (inR_lit rfl)) rfl rfl rfl (ep_cons (ev_int (inR_lit rfl)) rfl rfl rfl ep_nil)))) (ow_cons' (ow_dv rfl) (ow_cons' (ow_dv rfl) (ow_cons' (ow_dv rfl) (ow_cons' (ow_dv rfl) ow_nil rfl) rfl) rfl) rfl) (by decide) (by decide) rfl rfl rfl rfl rfl ?_
    simp only [killT, killB, SV.kill, CV.kill, kk, Nat.reduceBEq]
    refine l_split 4 [] (by kernel_rfl) ⟨?_, trivial⟩
    refine y_callB 16000 4 rfl rfl rfl rfl rfl Tryz.call56 (ok_spec_l1Str (code := code) (i := i9) (h := h9) (l := [ByteArray.mk #[], ByteArray.mk #[65], ByteArray.mk #[122, 122, 122, 122, 122, 122, 122, 122, 122], ByteArray.mk #[122], ByteArray.mk #[97]]) (by omega) (by omega) (by exact Nat.succ_pos _)) (ev_tmp rfl) rfl ac_arg rfl (fun _ => rfl) (ad_cons (ev_tmp rfl) (ag_one (ac_key' rfl rfl)) rfl ad_nil) rfl (fun _ => rfl) (fun _ => rfl) rfl (fun zz hz16 => ?_)
    obtain ⟨e16, i16, h16⟩ := zz
    replace hz16 : e16 ∈ ([ByteArray.mk #[], ByteArray.mk #[65], ByteArray.mk #[122, 122, 122, 122, 122, 122, 122, 122, 122], ByteArray.mk #[122], ByteArray.mk #[97]]) ∧ 0 ≤ i16 := hz16
    have hsz := size_of 9 (by decide +kernel) hz16.1
    refine l_split 7 [] (by kernel_rfl) ⟨?_, trivial⟩
    refine y_callB 19000 7 rfl rfl rfl rfl rfl Tryz.call28 (ok_spec_l1Int (code := code) (i := i16) (h := h16) (l := [0, -1, 1000000000, 1000000001]) (by omega) (by omega) (by exact Nat.succ_pos _)) (ev_tmp rfl) rfl ac_arg rfl (fun _ => rfl) (ad_cons (ev_tmp rfl) (ag_one (ac_key' rfl rfl)) rfl ad_nil) rfl (fun _ => rfl) (fun _ => rfl) rfl (fun zz hz19 => ?_)
    obtain ⟨e19, i19, h19⟩ := zz
    replace hz19 : e19 ∈ ([0, -1, 1000000000, 1000000001]) ∧ 0 ≤ i19 := hz19
    refine l_take 8 rfl (by kernel_rfl) rfl rfl (pu_build hT hB rfl rfl rfl (bp_cons (ev_tmp rfl) rfl rfl rfl rfl rfl (bp_cons (ev_tmp rfl) rfl rfl rfl rfl rfl bp_nil))) rfl rfl rfl rfl rfl ?_
    refine l_split 9 [] (by kernel_rfl) ⟨?_, trivial⟩
    refine y_buildN (k := 21) (js := []) 9 hT rfl rfl rfl rfl rfl rfl rfl rfl rfl rfl rfl rfl (ep_cons (ev_tmp rfl) rfl rfl rfl ep_nil) (ow_cons' (ow_dv rfl) (ow_cons' (ow_dv rfl) ow_nil rfl) rfl) (by decide) (by decide) rfl rfl rfl rfl rfl ?_
    simp only [killT, killB, SV.kill, CV.kill, kk, Nat.reduceBEq]
    refine l_chain [10, 11, 12] rfl rfl (by kernel_rfl) ?_
    refine o_appK (k := 9001) (j := 21) (cs := (e7 ++ [(e16, e19)]).flatMap eField) (n := (e7 ++ [(e16, e19)]).length) hT rfl rfl rfl rfl rfl rfl rfl (ev_tmp rfl) rfl rfl rfl (ev_tmp rfl) rfl rfl (by decide) (by have := rec_len hz7.1; dsimp only [kcOf, KC.old, fieldsD, listD]; omega) (by have := rec_len hz7.1; dsimp only [kcOf, KC.old, fieldsD, listD]; omega) (by rw [List.length_append]; rfl) (by rw [List.flatMap_append]; rfl) ?_
    simp only [killT, killB, SV.kill, CV.kill, kk, Nat.reduceBEq]
    iterate 2 refine z ?_
    refine ops_nil ?_
    iterate 6 refine z ?_
    refine ok_weak (σ' := ⟨[(2, .box 2 0), (0, .abox 0)], [(2, 59, [(.key 9001)]), (0, 92, [(.arg 900001 (bytesD (code))), (.dv [] (.int .i64 (i19))), (.dv [] (.int .i64 (h19)))])], [(9001, some (kcOf false (.sl 102 2 ((e7 ++ [(e16, e19)]).length) ((e7 ++ [(e16, e19)]).flatMap eField))))]⟩) (weak_sub ⟨rfl, rfl, trivial⟩ ⟨rfl, rfl, trivial⟩ ⟨rfl, trivial⟩ rfl) ?_
    refine z ?_
    refine fin1 (res_cell hT rfl rfl rfl rfl) ⟨(((e7 ++ [(e16, e19)])), i19, h19), ?_, rfl, rfl, rfl, rfl⟩
    try dsimp only
    exact ⟨by have := rec_app_w e7 (e16, e19); dsimp only at this; omega, by omega⟩
  ·skip
   refine y_buildN (k := 18) (js := []) 6 hT rfl rfl rfl rfl rfl rfl rfl rfl rfl rfl rfl rfl (ep_cons (ev_int (inR_lit rfl)) rfl rfl rfl (ep_cons (ev_int (inR_lit rfl)) rfl rfl rfl (ep_cons (ev_int (inR_lit rfl)) rfl rfl rfl (ep_cons (ev_int (inR_lit rfl)) rfl rfl rfl ep_nil)))) (ow_cons' (ow_dv rfl) (ow_cons' (ow_dv rfl) (ow_cons' (ow_dv rfl) (ow_cons' (ow_dv rfl) ow_nil rfl) rfl) rfl) rfl) (by decide) (by decide) rfl rfl rfl rfl rfl ?_
   simp only [killT, killB, SV.kill, CV.kill, kk, Nat.reduceBEq]
   refine l_split 3 [] (by kernel_rfl) ⟨?_, trivial⟩
   refine y_buildN (k := 15) (js := []) 3 hT rfl rfl rfl rfl rfl rfl rfl rfl rfl rfl rfl rfl (ep_cons (ev_str (str_lit rfl)) rfl rfl rfl (ep_cons (ev_str (str_lit rfl)) rfl rfl rfl (ep_cons (ev_str (str_lit rfl)) rfl rfl rfl (ep_cons (ev_str (str_lit rfl)) rfl rfl rfl (ep_cons (ev_str (str_lit rfl)) rfl rfl rfl ep_nil))))) (ow_cons' (ow_dv rfl) (ow_cons' (ow_dv rfl) (ow_cons' (ow_dv rfl) (ow_cons' (ow_dv rfl) (ow_cons' (ow_dv rfl) ow_nil rfl) rfl) rfl) rfl) rfl) (by decide) (by decide) rfl rfl rfl rfl rfl ?_
   simp only [killT, killB, SV.kill, CV.kill, kk, Nat.reduceBEq]
   refine l_split 4 [] (by kernel_rfl) ⟨?_, trivial⟩
   refine y_callB 16000 4 rfl rfl rfl rfl rfl Tryz.call56 (ok_spec_l1Str (code := code) (i := i9) (h := h9) (l := [ByteArray.mk #[], ByteArray.mk #[65], ByteArray.mk #[122, 122, 122, 122, 122, 122, 122, 122, 122], ByteArray.mk #[122], ByteArray.mk #[97]]) (by omega) (by omega) (by exact Nat.succ_pos _)) (ev_tmp rfl) rfl ac_arg rfl (fun _ => rfl) (ad_cons (ev_tmp rfl) (ag_one (ac_key' rfl rfl)) rfl ad_nil) rfl (fun _ => rfl) (fun _ => rfl) rfl (fun zz hz16 => ?_)
   obtain ⟨e16, i16, h16⟩ := zz
   replace hz16 : e16 ∈ ([ByteArray.mk #[], ByteArray.mk #[65], ByteArray.mk #[122, 122, 122, 122, 122, 122, 122, 122, 122], ByteArray.mk #[122], ByteArray.mk #[97]]) ∧ 0 ≤ i16 := hz16
   have hsz := size_of 9 (by decide +kernel) hz16.1
   refine l_split 7 [] (by kernel_rfl) ⟨?_, trivial⟩
   refine y_callB 19000 7 rfl rfl rfl rfl rfl Tryz.call28 (ok_spec_l1Int (code := code) (i := i16) (h := h16) (l := [0, -1, 1000000000, 1000000001]) (by omega) (by omega) (by exact Nat.succ_pos _)) (ev_tmp rfl) rfl ac_arg rfl (fun _ => rfl) (ad_cons (ev_tmp rfl) (ag_one (ac_key' rfl rfl)) rfl ad_nil) rfl (fun _ => rfl) (fun _ => rfl) rfl (fun zz hz19 => ?_)
   obtain ⟨e19, i19, h19⟩ := zz
   replace hz19 : e19 ∈ ([0, -1, 1000000000, 1000000001]) ∧ 0 ≤ i19 := hz19
   refine l_take 8 rfl (by kernel_rfl) rfl rfl (pu_build hT hB rfl rfl rfl (bp_cons (ev_tmp rfl) rfl rfl rfl rfl rfl (bp_cons (ev_tmp rfl) rfl rfl rfl rfl rfl bp_nil))) rfl rfl rfl rfl rfl ?_
   refine l_split 9 [] (by kernel_rfl) ⟨?_, trivial⟩
   refine y_buildN (k := 21) (js := []) 9 hT rfl rfl rfl rfl rfl rfl rfl rfl rfl rfl rfl rfl (ep_cons (ev_tmp rfl) rfl rfl rfl ep_nil) (ow_cons' (ow_dv rfl) (ow_cons' (ow_dv rfl) ow_nil rfl) rfl) (by decide) (by decide) rfl rfl rfl rfl rfl ?_
   simp only [killT, killB, SV.kill, CV.kill, kk, Nat.reduceBEq]
   refine l_chain [10, 11, 12] rfl rfl (by kernel_rfl) ?_
   refine o_appK (k := 9001) (j := 21) (cs := (e7 ++ [(e16, e19)]).flatMap eField) (n := (e7 ++ [(e16, e19)]).length) hT rfl rfl rfl rfl rfl rfl rfl (ev_tmp rfl) rfl rfl rfl (ev_tmp rfl) rfl rfl (by decide) (by have := rec_len hz7.1; dsimp only [kcOf, KC.old, fieldsD, listD]; omega) (by have := rec_len hz7.1; dsimp only [kcOf, KC.old, fieldsD, listD]; omega) (by rw [List.length_append]; rfl) (by rw [List.flatMap_append]; rfl) ?_
   simp only [killT, killB, SV.kill, CV.kill, kk, Nat.reduceBEq]
   iterate 2 refine z ?_
   refine ops_nil ?_
   iterate 6 refine z ?_
   refine ok_weak (σ' := ⟨[(2, .box 2 0), (0, .abox 0)], [(2, 59, [(.key 9001)]), (0, 92, [(.arg 900001 (bytesD (code))), (.dv [] (.int .i64 (i19))), (.dv [] (.int .i64 (h19)))])], [(9001, some (kcOf false (.sl 102 2 ((e7 ++ [(e16, e19)]).length) ((e7 ++ [(e16, e19)]).flatMap eField))))]⟩) (weak_sub ⟨rfl, rfl, trivial⟩ ⟨rfl, rfl, trivial⟩ ⟨rfl, trivial⟩ rfl) ?_
   refine z ?_
   refine fin1 (res_cell hT rfl rfl rfl rfl) ⟨(((e7 ++ [(e16, e19)])), i19, h19), ?_, rfl, rfl, rfl, rfl⟩
   try dsimp only
   exact ⟨by have := rec_app_w e7 (e16, e19); dsimp only at this; omega, by omega⟩
 ·skip
  have d1 := of_decide_eq_false c1
  iterate 4 refine z ?_
  refine yQ rfl (fun c2 => ?_) fun c2 => ?_
  ·skip
   have d2 := of_decide_eq_true c2
   refine z ?_
   refine o_buildN (k := 26) (js := []) hT rfl rfl rfl rfl rfl rfl rfl rfl rfl rfl rfl (ep_cons (ev_str (str_lit rfl)) rfl rfl rfl (ep_cons (ev_str (str_lit rfl)) rfl rfl rfl (ep_cons (ev_str (str_lit rfl)) rfl rfl rfl (ep_cons (ev_str (str_lit rfl)) rfl rfl rfl (ep_cons (ev_str (str_lit rfl)) rfl rfl rfl (ep_cons (ev_str (str_lit rfl)) rfl rfl rfl ep_nil)))))) (ow_cons' (ow_dv rfl) (ow_cons' (ow_dv rfl) (ow_cons' (ow_dv rfl) (ow_cons' (ow_dv rfl) (ow_cons' (ow_dv rfl) (ow_cons' (ow_dv rfl) ow_nil rfl) rfl) rfl) rfl) rfl) rfl) (by decide) (by decide) rfl rfl ?_
   simp only [killT, killB, SV.kill, CV.kill, kk, Nat.reduceBEq]
   refine yO rfl rfl (pu_lenKn (n := (6)) hT rfl rfl (ev_tmp rfl) rfl rfl) rfl ?_
   iterate 3 refine z ?_
   refine ok_weak (weak_view (d := 26) (dd := strsD ([ByteArray.mk #[100], ByteArray.mk #[101], ByteArray.mk #[102], ByteArray.mk #[103], ByteArray.mk #[104], ByteArray.mk #[105]])) rfl rfl (.refl _)) ?_
   refine ok_loop (ι := Nat × RecT × Int × Int) (fun zz => ⟨[(0, .abox 0), (2, .box 2 0), (3, .box 3 0), (26, .one (.dv [26] (strsD ([ByteArray.mk #[100], ByteArray.mk #[101], ByteArray.mk #[102], ByteArray.mk #[103], ByteArray.mk #[104], ByteArray.mk #[105]])))), (27, .one (.dv [] (.int .i64 (((6) : Int))))), (28, .one (.dv [] (.int .i64 ((zz.1 : Int)))))], [(0, 92, [(.arg 900001 (bytesD (code))), (.dv [] (.int .i64 (zz.2.2.1))), (.dv [] (.int .i64 (zz.2.2.2)))]), (2, 59, [.nil]), (3, 59, [(.key 9001)])], [(9001, some (kcOf false (.sl 102 2 (zz.2.1.length) (zz.2.1.flatMap eField)))), (26, some (kcOf false (.sl 9 1 (6) ([.str (ByteArray.mk #[100]), .str (ByteArray.mk #[101]), .str (ByteArray.mk #[102]), .str (ByteArray.mk #[103]), .str (ByteArray.mk #[104]), .str (ByteArray.mk #[105])]))))]⟩) (fun zz => isRec zz.2.1 = true ∧ 0 ≤ zz.2.2.1 ∧ zz.1 ≤ 6) (fun zz => 6 - zz.1) ((0, e7, i9, h9)) ?_ (weak_sub ⟨rfl, rfl, rfl, rfl, rfl, rfl, trivial⟩ ⟨rfl, rfl, rfl, trivial⟩ ⟨rfl, rfl, trivial⟩ rfl) (fun zz hx => ?_)
   ·exact ⟨hz7.1, by dsimp only; omega, Nat.zero_le _⟩
   obtain ⟨k, r, ci, ch⟩ := zz
   replace hx : isRec r = true ∧ 0 ≤ ci ∧ k ≤ 6 := hx
   obtain ⟨hr, hci, hk6⟩ := hx
   show Ok _ _ _ _ _ (⟨[(0, .abox 0), (2, .box 2 0), (3, .box 3 0), (26, .one (.dv [26] (strsD ([ByteArray.mk #[100], ByteArray.mk #[101], ByteArray.mk #[102], ByteArray.mk #[103], ByteArray.mk #[104], ByteArray.mk #[105]])))), (27, .one (.dv [] (.int .i64 (((6) : Int))))), (28, .one (.dv [] (.int .i64 ((k : Int)))))], [(0, 92, [(.arg 900001 (bytesD (code))), (.dv [] (.int .i64 (ci))), (.dv [] (.int .i64 (ch)))]), (2, 59, [.nil]), (3, 59, [(.key 9001)])], [(9001, some (kcOf false (.sl 102 2 (r.length) (r.flatMap eField)))), (26, some (kcOf false (.sl 9 1 (6) ([.str (ByteArray.mk #[100]), .str (ByteArray.mk #[101]), .str (ByteArray.mk #[102]), .str (ByteArray.mk #[103]), .str (ByteArray.mk #[104]), .str (ByteArray.mk #[105])]))))]⟩ : St)
   iterate 3 refine z ?_
   refine ok_seq ?_
   refine yQ rfl (fun c3 => ?_) fun c3 => ?_
   ·skip
    have d3 := of_decide_eq_true c3
    iterate 9 refine z ?_
    refine ok_region ?_
    iterate 2 refine z ?_
    refine o_callK 500 rfl rfl rfl Tryz.call111 (ok_spec_SetField (r := r) (n := (([ByteArray.mk #[100], ByteArray.mk #[101], ByteArray.mk #[102], ByteArray.mk #[103], ByteArray.mk #[104], ByteArray.mk #[105]]).getD (k : Int).toNat default)) (v := 1) (by have := rec_len hr; omega)) (as_cons (ev_tmp rfl) (ag_agg (ag_cons (ac_key' rfl rfl) ag_nil)) (as_cons (ev_tmp rfl) (ag_one ac_dv) (as_cons (ev_int (inR_lit rfl)) (ag_one ac_dv) as_nil))) rfl rfl rfl ?_
    iterate 4 refine z ?_
    refine ops_nil ?_
    iterate 2 refine z ?_
    refine ok_region ?_
    iterate 3 refine z ?_
    refine ⟨(k + 1, (setF r (([ByteArray.mk #[100], ByteArray.mk #[101], ByteArray.mk #[102], ByteArray.mk #[103], ByteArray.mk #[104], ByteArray.mk #[105]]).getD (k : Int).toNat default) 1).1, ci, ch), ?_, ?_, weak_then (weak_swapB (b := 3) (i := 0) (k := 9501) (k' := 9001) rfl rfl rfl rfl (by simp) rfl rfl) (weak_sub ⟨rfl, rfl, rfl, rfl, rfl, rfl, trivial⟩ ⟨rfl, rfl, rfl, trivial⟩ ⟨rfl, rfl, trivial⟩ rfl)⟩
    ·exact ⟨setF_rec hr, hci, by dsimp only; omega⟩
    ·dsimp only; omega
   ·skip
    have d3 := of_decide_eq_false c3
    iterate 10 refine z ?_
    refine ok_weak (σ' := ⟨[(2, .box 2 0), (0, .abox 0)], [(2, 59, [(.key 9001)]), (0, 92, [(.arg 900001 (bytesD (code))), (.dv [] (.int .i64 (ci))), (.dv [] (.int .i64 (ch)))])], [(9001, some (kcOf false (.sl 102 2 (r.length) (r.flatMap eField))))]⟩) (weak_sub ⟨rfl, rfl, trivial⟩ ⟨rfl, rfl, trivial⟩ ⟨rfl, trivial⟩ rfl) ?_
    refine z ?_
    refine fin1 (res_cell hT rfl rfl rfl rfl) ⟨((r), ci, ch), ?_, rfl, rfl, rfl, rfl⟩
    try dsimp only
    exact ⟨by have := rec_wt hr; omega, by omega⟩
  ·skip
   have d2 := of_decide_eq_false c2
   iterate 7 refine z ?_
   refine ok_weak (σ' := ⟨[(2, .box 2 0), (0, .abox 0)], [(2, 59, [(.key 9001)]), (0, 92, [(.arg 900001 (bytesD (code))), (.dv [] (.int .i64 (i9))), (.dv [] (.int .i64 (h9)))])], [(9001, some (kcOf false (fieldsD (e7))))]⟩) (weak_sub ⟨rfl, rfl, trivial⟩ ⟨rfl, rfl, trivial⟩ ⟨rfl, trivial⟩ rfl) ?_
   refine z ?_
   refine fin1 (res_cell hT rfl rfl rfl rfl) ⟨((e7), i9, h9), ?_, rfl, rfl, rfl, rfl⟩
   try dsimp only
   exact ⟨by omega, by omega⟩
theorem ok_spec_l6Store {code : List UInt8} {i h : Int} {nm : Str} (hc : code.length ≤ 1048576) (hi : 0 ≤ i) (hn : isName nm = true) : BFn Tryz.prog 89 [.one (.dv [] (.str (nm)))] 92 (bytesD (code)) [.dv [] (.int .i64 (i)), .dv [] (.int .i64 (h))] (fun zz : StoreT × Int × Int => isSto zz.1 = true ∧ zz.1.1 = nm ∧ autoI zz.1 ∧ zz.1.2.2 ≤ 256 ∧ 0 ≤ zz.2.1) (fun zz : StoreT × Int × Int => .agg [(.dv [] (.str (zz.1.1))), (.key 9001), (.dv [] (.int .i64 (zz.1.2.2)))]) (fun zz : StoreT × Int × Int => [(9001, some (kcOf false (itemsD (zz.1.2.1))))]) (fun zz : StoreT × Int × Int => [.dv [] (.int .i64 (zz.2.1)), .dv [] (.int .i64 (zz.2.2))]) := by
 refine ⟨fn_introS Tryz.func89 rfl Tryz.ntmps89 Tryz.results89 rfl (fun C => ?_)⟩
 refine ok_fact (x := .tmp 1) (ev_tmp rfl) fun f1 => ?_
 iterate 5 refine z ?_
 refine yO rfl rfl (pu_build hT hB rfl rfl rfl (bp_cons (ev_tmp rfl) rfl rfl rfl rfl rfl bp_nil)) rfl ?_
 iterate 3 refine z ?_
 refine ok_seq ?_
 refine ok_seq ?_
 refine ok_weak (weak_nilB 9001 (b := 5) (i := 1) (e := 76) (sz := 4) rfl rfl rfl rfl rfl) ?_
 simp only [killT, killB, SV.kill, CV.kill, kk, Nat.reduceBEq]
 refine ok_region ?_
 refine yO rfl rfl (pu_move (.inl rfl) (ev_abox (ev_tmp rfl))) rfl ?_
 refine o_buildN (k := 10) (js := []) hT rfl rfl rfl rfl rfl rfl rfl rfl rfl rfl rfl (ep_cons (ev_int (inR_lit rfl)) rfl rfl rfl (ep_cons (ev_int (inR_lit rfl)) rfl rfl rfl (ep_cons (ev_int (inR_lit rfl)) rfl rfl rfl (ep_cons (ev_int (inR_lit rfl)) rfl rfl rfl ep_nil)))) (ow_cons' (ow_dv rfl) (ow_cons' (ow_dv rfl) (ow_cons' (ow_dv rfl) (ow_cons' (ow_dv rfl) ow_nil rfl) rfl) rfl) rfl) (by decide) (by decide) rfl rfl ?_
 simp only [killT, killB, SV.kill, CV.kill, kk, Nat.reduceBEq]
 refine o_callB 11000 rfl rfl rfl Tryz.call28 (ok_spec_l1Int (code := code) (i := i) (h := h) (l := [0, 2, 4, 6]) (by omega) (by omega) (by exact Nat.succ_pos _)) (ev_tmp rfl) rfl ac_arg rfl (fun _ => rfl) (ad_cons (ev_tmp rfl) (ag_one (ac_key' rfl rfl)) rfl ad_nil) rfl (fun _ => rfl) (fun _ => rfl) (fun zz hz11 => ?_)
 obtain ⟨e11, i11, h11⟩ := zz
 replace hz11 : e11 ∈ ([0, 2, 4, 6]) ∧ 0 ≤ i11 := hz11
 have hnr := rng_of 0 6 (by decide +kernel) hz11.1
 iterate 3 refine z ?_
 refine ok_loop (ι := Int × StoreT × Int × Int) (fun zz => ⟨[(0, .abox 0), (4, .box 4 0), (5, .box 5 0), (6, .one (.dv [] (.int .i64 (zz.1))))], [(0, 92, [(.arg 900001 (bytesD (code))), (.dv [] (.int .i64 (zz.2.2.1))), (.dv [] (.int .i64 (zz.2.2.2)))]), (4, 37, [(.dv [] (.str (ByteArray.empty))), .nil, (.dv [] (.int .i64 (0)))]), (5, 37, [(.dv [] (.str (zz.2.1.1))), (.key 9001), (.dv [] (.int .i64 (zz.2.1.2.2)))])], [(9001, some (kcOf false (.sl 76 4 (zz.2.1.2.1.length) (zz.2.1.2.1.flatMap eItem))))]⟩) (fun zz => isSto zz.2.1 = true ∧ zz.2.1.1 = nm ∧ autoI zz.2.1 ∧ zz.2.1.2.2 ≤ 256 ∧ 0 ≤ zz.2.2.1 ∧ zz.1 ≤ 6) (fun zz => zz.1.toNat) ((e11, (nm, [], 0), i11, h11)) ?_ (weak_sub ⟨rfl, rfl, rfl, rfl, trivial⟩ ⟨rfl, rfl, rfl, trivial⟩ ⟨rfl, trivial⟩ rfl) (fun zz hx => ?_)
 ·refine ⟨?_, rfl, fun y hy => (by cases hy), by dsimp only; omega, by dsimp only; omega, by dsimp only; omega⟩
  unfold isSto; simp [hn]
 obtain ⟨n, s, ci, ch⟩ := zz
 replace hx : isSto s = true ∧ s.1 = nm ∧ autoI s ∧ s.2.2 ≤ 256 ∧ 0 ≤ ci ∧ n ≤ 6 := hx
 obtain ⟨hs, hnm, ha, ha2, hci, hn6⟩ := hx
 show Ok _ _ _ _ _ (⟨[(0, .abox 0), (4, .box 4 0), (5, .box 5 0), (6, .one (.dv [] (.int .i64 (n))))], [(0, 92, [(.arg 900001 (bytesD (code))), (.dv [] (.int .i64 (ci))), (.dv [] (.int .i64 (ch)))]), (4, 37, [(.dv [] (.str (ByteArray.empty))), .nil, (.dv [] (.int .i64 (0)))]), (5, 37, [(.dv [] (.str (s.1))), (.key 9001), (.dv [] (.int .i64 (s.2.2)))])], [(9001, some (kcOf false (.sl 76 4 (s.2.1.length) (s.2.1.flatMap eItem))))]⟩ : St)
 iterate 5 refine z ?_
 refine yQ rfl (fun c1 => ?_) fun c1 => ?_
 ·skip
  have d1 := of_decide_eq_true c1
  iterate 4 refine z ?_
  refine ok_regionL [0] [0, 1, 2, 3, 4, 5, 6] (oB := [4, 5]) (oK := [9001]) (by kernel_rfl) rfl rfl ?_
  refine l_take 0 rfl (by kernel_rfl) rfl rfl (pu_loadBoxA hT rfl rfl (ev_tmp rfl) rfl rfl) rfl rfl rfl rfl rfl ?_
  refine l_take 1 rfl (by kernel_rfl) rfl rfl (pu_move (.inl rfl) (ev_abox (ev_tmp rfl))) rfl rfl rfl rfl rfl ?_
  refine l_take 3 rfl (by kernel_rfl) rfl rfl (pu_move (.inl rfl) (ev_abox (ev_tmp rfl))) rfl rfl rfl rfl rfl ?_
  refine l_split 2 [] (by kernel_rfl) ⟨?_, trivial⟩
  refine y_callB 19000 2 rfl rfl rfl rfl rfl Tryz.call83 (ok_spec_l4Small (code := code) (i := ci) (h := ch) (by omega) (by omega)) (ev_tmp rfl) rfl ac_arg rfl (fun _ => rfl) ad_nil rfl (fun _ => rfl) (fun _ => rfl) rfl (fun zz hz19 => ?_)
  obtain ⟨e19, i19, h19⟩ := zz
  replace hz19 : isKey e19 = true ∧ smallK e19 ∧ 0 ≤ i19 := hz19
  refine l_split 4 [] (by kernel_rfl) ⟨?_, trivial⟩
  refine y_callB 21000 4 rfl rfl rfl rfl rfl Tryz.call84 (ok_spec_l5Record (code := code) (i := i19) (h := h19) (by omega) (by omega)) (ev_tmp rfl) rfl ac_arg rfl (fun _ => rfl) ad_nil rfl (fun _ => rfl) (fun _ => rfl) rfl (fun zz hz21 => ?_)
  obtain ⟨e21, i21, h21⟩ := zz
  replace hz21 : isRec e21 = true ∧ 0 ≤ i21 := hz21
  have hrl := rec_len hz21.1
  refine l_split 5 [] (by kernel_rfl) ⟨?_, trivial⟩
  refine y_callK 500 5 rfl rfl rfl rfl Tryz.call117 (ok_spec_PutItem (x := s) (k := e19) (r := e21) (by have := sto_w2 hs; omega) (by omega)) (as_cons (ev_tmp rfl) (ag_agg (ag_cons ac_dv (ag_cons (ac_key' rfl rfl) (ag_cons ac_dv ag_nil)))) (as_cons (ev_tmp rfl) (ag_agg (ag_cons ac_dv (ag_cons ac_dv (ag_cons ac_dv ag_nil)))) (as_cons (ev_tmp rfl) (ag_agg (ag_cons (ac_key' rfl rfl) ag_nil)) as_nil))) rfl rfl rfl rfl rfl rfl ?_
  refine l_take 6 rfl (by kernel_rfl) rfl rfl (pu_move (.inl rfl) (ev_tmp rfl)) rfl rfl rfl rfl rfl ?_
  refine l_takeX 7 rfl (by kernel_rfl) rfl rfl rfl (pu_extractA rfl (ev_tmp rfl) rfl) rfl rfl ?_
  refine l_takeX 8 rfl (by kernel_rfl) rfl rfl rfl (pu_extract1 rfl (ev_tmp rfl) rfl) rfl rfl ?_
  refine l_chain [9] rfl rfl (by kernel_rfl) ?_
  refine z ?_
  refine ops_nil ?_
  iterate 2 refine z ?_
  refine ok_region ?_
  iterate 4 refine z ?_
  refine ⟨(n - 1, (putN s e19 e21).1, i21, h21), ?_, ?_, weak_then (weak_swapB (b := 5) (i := 1) (k := 9501) (k' := 9001) rfl rfl rfl rfl (by simp) rfl rfl) (weak_sub ⟨rfl, rfl, rfl, rfl, trivial⟩ ⟨rfl, rfl, rfl, trivial⟩ ⟨rfl, trivial⟩ rfl)⟩
  ·exact ⟨putN_sto hs, (putN_name _ _ _).trans hnm, autoI_put ha, auto_small ha2 hz19.2.1, by dsimp only; omega, by dsimp only; omega⟩
  ·dsimp only; omega
 ·skip
  have d1 := of_decide_eq_false c1
  iterate 7 refine z ?_
  refine yO rfl rfl (pu_move (.inl rfl) (ev_abox (ev_tmp rfl))) rfl ?_
  refine o_callB 26000 rfl rfl rfl Tryz.call43 (ok_spec_l1Once (code := code) (i := ci) (h := ch) (n := 8) (by omega) (by omega) ) (ev_tmp rfl) rfl ac_arg rfl (fun _ => rfl) (ad_cons (ev_int (inR_lit rfl)) (ag_one ac_dv) rfl ad_nil) rfl (fun _ => rfl) (fun _ => rfl) (fun zz hz26 => ?_)
  obtain ⟨e26, i26, h26⟩ := zz
  replace hz26 : 0 ≤ i26 := hz26
  refine z ?_
  refine yQ rfl (fun c2 => ?_) fun c2 => ?_
  ·skip
   refine ok_regionL [0] [0, 1, 2, 3, 4, 5, 6] (oB := [4, 5]) (oK := [9001]) (by kernel_rfl) rfl rfl ?_
   refine l_take 0 rfl (by kernel_rfl) rfl rfl (pu_loadBoxA hT rfl rfl (ev_tmp rfl) rfl rfl) rfl rfl rfl rfl rfl ?_
   refine l_take 1 rfl (by kernel_rfl) rfl rfl (pu_move (.inl rfl) (ev_abox (ev_tmp rfl))) rfl rfl rfl rfl rfl ?_
   refine l_take 3 rfl (by kernel_rfl) rfl rfl (pu_move (.inl rfl) (ev_abox (ev_tmp rfl))) rfl rfl rfl rfl rfl ?_
   refine l_split 2 [] (by kernel_rfl) ⟨?_, trivial⟩
   refine y_callB 30000 2 rfl rfl rfl rfl rfl Tryz.call110 (ok_spec_l4Key (code := code) (i := i26) (h := h26) (by omega) (by omega)) (ev_tmp rfl) rfl ac_arg rfl (fun _ => rfl) ad_nil rfl (fun _ => rfl) (fun _ => rfl) rfl (fun zz hz30 => ?_)
   obtain ⟨e30, i30, h30⟩ := zz
   replace hz30 : isKey e30 = true ∧ smallK e30 ∧ 0 ≤ i30 := hz30
   refine l_split 4 [] (by kernel_rfl) ⟨?_, trivial⟩
   refine y_callB 32000 4 rfl rfl rfl rfl rfl Tryz.call84 (ok_spec_l5Record (code := code) (i := i30) (h := h30) (by omega) (by omega)) (ev_tmp rfl) rfl ac_arg rfl (fun _ => rfl) ad_nil rfl (fun _ => rfl) (fun _ => rfl) rfl (fun zz hz32 => ?_)
   obtain ⟨e32, i32, h32⟩ := zz
   replace hz32 : isRec e32 = true ∧ 0 ≤ i32 := hz32
   have hrl := rec_len hz32.1
   refine l_split 5 [] (by kernel_rfl) ⟨?_, trivial⟩
   refine y_callK 600 5 rfl rfl rfl rfl Tryz.call117 (ok_spec_PutItem (x := s) (k := e30) (r := e32) (by have := sto_w2 hs; omega) (by omega)) (as_cons (ev_tmp rfl) (ag_agg (ag_cons ac_dv (ag_cons (ac_key' rfl rfl) (ag_cons ac_dv ag_nil)))) (as_cons (ev_tmp rfl) (ag_agg (ag_cons ac_dv (ag_cons ac_dv (ag_cons ac_dv ag_nil)))) (as_cons (ev_tmp rfl) (ag_agg (ag_cons (ac_key' rfl rfl) ag_nil)) as_nil))) rfl rfl rfl rfl rfl rfl ?_
   refine l_take 6 rfl (by kernel_rfl) rfl rfl (pu_move (.inl rfl) (ev_tmp rfl)) rfl rfl rfl rfl rfl ?_
   refine l_takeX 7 rfl (by kernel_rfl) rfl rfl rfl (pu_extractA rfl (ev_tmp rfl) rfl) rfl rfl ?_
   refine l_takeX 8 rfl (by kernel_rfl) rfl rfl rfl (pu_extract1 rfl (ev_tmp rfl) rfl) rfl rfl ?_
   refine l_chain [9] rfl rfl (by kernel_rfl) ?_
   iterate 6 refine z ?_
   refine ok_weak (weak_swapB (b := 4) (i := 1) (k := 9601) (k' := 9001) rfl rfl rfl rfl (by simp) rfl rfl) ?_
   try simp only [killT, killB, SV.kill, CV.kill, kk, Nat.reduceBEq]
   refine ok_weak (σ' := ⟨[(4, .box 4 0), (0, .abox 0)], [(4, 37, [(.dv [] (.str ((putN (s) (e30) (e32)).1.1))), (.key 9001), (.dv [] (.int .i64 ((putN (s) (e30) (e32)).1.2.2)))]), (0, 92, [(.arg 900001 (bytesD (code))), (.dv [] (.int .i64 (i32))), (.dv [] (.int .i64 (h32)))])], [(9001, some (kcOf false (itemsD ((putN (s) (e30) (e32)).1.2.1))))]⟩) (weak_sub ⟨rfl, rfl, trivial⟩ ⟨rfl, rfl, trivial⟩ ⟨rfl, trivial⟩ rfl) ?_
   refine z ?_
   refine fin1 (res_cell hT rfl rfl rfl rfl) ⟨((((putN (s) (e30) (e32)).1.1), (((putN (s) (e30) (e32)).1.2.1), ((putN (s) (e30) (e32)).1.2.2))), i32, h32), ?_, rfl, rfl, rfl, rfl⟩
   try dsimp only
   exact ⟨putN_sto hs, (putN_name _ _ _).trans hnm, autoI_put ha, auto_small ha2 hz30.2.1, by omega⟩
  ·skip
   iterate 6 refine z ?_
   refine ok_weak (σ' := ⟨[(4, .box 4 0), (0, .abox 0)], [(4, 37, [(.dv [] (.str (s.1))), (.key 9001), (.dv [] (.int .i64 (s.2.2)))]), (0, 92, [(.arg 900001 (bytesD (code))), (.dv [] (.int .i64 (i26))), (.dv [] (.int .i64 (h26)))])], [(9001, some (kcOf false (.sl 76 4 (s.2.1.length) (s.2.1.flatMap eItem))))]⟩) (weak_sub ⟨rfl, rfl, trivial⟩ ⟨rfl, rfl, trivial⟩ ⟨rfl, trivial⟩ rfl) ?_
   refine z ?_
   refine fin1 (res_cell hT rfl rfl rfl rfl) ⟨(((s.1), ((s.2.1), (s.2.2))), i26, h26), ?_, rfl, rfl, rfl, rfl⟩
   try dsimp only
   exact ⟨hs, hnm, ha, ha2, by omega⟩
theorem ok_spec_l6Any {code : List UInt8} {i h : Int} (hc : code.length ≤ 1048576) (hi : 0 ≤ i) : BFn Tryz.prog 55 [] 92 (bytesD (code)) [.dv [] (.int .i64 (i)), .dv [] (.int .i64 (h))] (fun zz : StoreT × Int × Int => wStore zz.1 ≤ 1500 ∧ 0 ≤ zz.2.1) (fun zz : StoreT × Int × Int => .agg [(.dv [] (.str (zz.1.1))), (.key 9001), (.dv [] (.int .i64 (zz.1.2.2)))]) (fun zz : StoreT × Int × Int => [(9001, some (kcOf false (itemsD (zz.1.2.1))))]) (fun zz : StoreT × Int × Int => [.dv [] (.int .i64 (zz.2.1)), .dv [] (.int .i64 (zz.2.2))]) := by
 refine ⟨fn_introS Tryz.func55 rfl Tryz.ntmps55 Tryz.results55 rfl (fun C => ?_)⟩
 iterate 4 refine z ?_
 refine yO rfl rfl (pu_move (.inl rfl) (ev_abox (ev_tmp rfl))) rfl ?_
 refine o_callB 0 rfl rfl rfl Tryz.call89 (ok_spec_l6Store (code := code) (i := i) (h := h) (nm := ByteArray.mk #[110, 111, 116, 101, 115]) (by omega) (by omega) (by decide +kernel)) (ev_tmp rfl) rfl ac_arg rfl (fun _ => rfl) (ad_cons (ev_str (str_lit rfl)) (ag_one ac_dv) rfl ad_nil) rfl (fun _ => rfl) (fun _ => rfl) (fun zz hz5 => ?_)
 obtain ⟨e5, i5, h5⟩ := zz
 replace hz5 : isSto e5 = true ∧ e5.1 = (ByteArray.mk #[110, 111, 116, 101, 115]) ∧ autoI e5 ∧ e5.2.2 ≤ 256 ∧ 0 ≤ i5 := hz5
 have hw5 := sto_w2 hz5.1
 have hls := (sto_srt hz5.1).2.2
 iterate 5 refine z ?_
 refine yO rfl rfl (pu_move (.inl rfl) (ev_abox (ev_tmp rfl))) rfl ?_
 refine o_callB 7000 rfl rfl rfl Tryz.call26 (ok_spec_l1Below (code := code) (i := i5) (h := h5) (n := 12) (by omega) (by omega) ) (ev_tmp rfl) rfl ac_arg rfl (fun _ => rfl) (ad_cons (ev_int (inR_lit rfl)) (ag_one ac_dv) rfl ad_nil) rfl (fun _ => rfl) (fun _ => rfl) (fun zz hz7 => ?_)
 obtain ⟨e7, i7, h7⟩ := zz
 replace hz7 : 0 ≤ e7 ∧ (0 < (12 : Int) → e7 < (12 : Int)) ∧ 0 ≤ i7 := hz7
 iterate 6 refine z ?_
 refine yQ rfl (fun c1 => ?_) fun c1 => ?_
 ·skip
  have d1 := of_decide_eq_true c1
  refine ok_region ?_
  refine yO rfl rfl (pu_move (.inl rfl) (ev_abox (ev_tmp rfl))) rfl ?_
  refine o_buildN (k := 11) (js := []) hT rfl rfl rfl rfl rfl rfl rfl rfl rfl rfl rfl (ep_cons (ev_str (str_lit rfl)) rfl rfl rfl (ep_cons (ev_str (str_lit rfl)) rfl rfl rfl (ep_cons (ev_str (str_lit rfl)) rfl rfl rfl ep_nil))) (ow_cons' (ow_dv rfl) (ow_cons' (ow_dv rfl) (ow_cons' (ow_dv rfl) ow_nil rfl) rfl) rfl) (by decide) (by decide) rfl rfl ?_
  simp only [killT, killB, SV.kill, CV.kill, kk, Nat.reduceBEq]
  refine o_callB 12000 rfl rfl rfl Tryz.call56 (ok_spec_l1Str (code := code) (i := i7) (h := h7) (l := [ByteArray.mk #[], ByteArray.mk #[81], ByteArray.mk #[97, 98, 99, 100, 101, 102, 103, 104, 105]]) (by omega) (by omega) (by exact Nat.succ_pos _)) (ev_tmp rfl) rfl ac_arg rfl (fun _ => rfl) (ad_cons (ev_tmp rfl) (ag_one (ac_key' rfl rfl)) rfl ad_nil) rfl (fun _ => rfl) (fun _ => rfl) (fun zz hz12 => ?_)
  obtain ⟨e12, i12, h12⟩ := zz
  replace hz12 : e12 ∈ ([ByteArray.mk #[], ByteArray.mk #[81], ByteArray.mk #[97, 98, 99, 100, 101, 102, 103, 104, 105]]) ∧ 0 ≤ i12 := hz12
  have hsz := size_of 9 (by decide +kernel) hz12.1
  iterate 2 refine z ?_
  refine ops_nil ?_
  iterate 6 refine z ?_
  refine ok_weak (σ' := ⟨[(2, .box 2 0), (0, .abox 0)], [(2, 37, [(.dv [] (.str (e12))), (.key 9001), (.dv [] (.int .i64 (e5.2.2)))]), (0, 92, [(.arg 900001 (bytesD (code))), (.dv [] (.int .i64 (i12))), (.dv [] (.int .i64 (h12)))])], [(9001, some (kcOf false (itemsD (e5.2.1))))]⟩) (weak_sub ⟨rfl, rfl, trivial⟩ ⟨rfl, rfl, trivial⟩ ⟨rfl, trivial⟩ rfl) ?_
  refine z ?_
  refine fin1 (res_cell hT rfl rfl rfl rfl) ⟨(((e12), ((e5.2.1), (e5.2.2))), i12, h12), ?_, rfl, rfl, rfl, rfl⟩
  try dsimp only
  exact ⟨by have h1 : wStore e5 = e5.1.size + (e5.2.1.length + wSum wItem e5.2.1) := rfl; have h2 : wStore (e12, e5.2.1, e5.2.2) = e12.size + (e5.2.1.length + wSum wItem e5.2.1) := rfl; omega, by omega⟩
 ·skip
  have d1 := of_decide_eq_false c1
  iterate 4 refine z ?_
  refine yQ rfl (fun c2 => ?_) fun c2 => ?_
  ·skip
   have d2 := of_decide_eq_true c2
   refine ok_region ?_
   refine yO rfl rfl (pu_move (.inl rfl) (ev_abox (ev_tmp rfl))) rfl ?_
   refine o_buildN (k := 17) (js := []) hT rfl rfl rfl rfl rfl rfl rfl rfl rfl rfl rfl (ep_cons (ev_int (inR_lit rfl)) rfl rfl rfl (ep_cons (ev_int (inR_lit rfl)) rfl rfl rfl (ep_cons (ev_int (inR_lit rfl)) rfl rfl rfl (ep_cons (ev_int (inR_lit rfl)) rfl rfl rfl ep_nil)))) (ow_cons' (ow_dv rfl) (ow_cons' (ow_dv rfl) (ow_cons' (ow_dv rfl) (ow_cons' (ow_dv rfl) ow_nil rfl) rfl) rfl) rfl) (by decide) (by decide) rfl rfl ?_
   simp only [killT, killB, SV.kill, CV.kill, kk, Nat.reduceBEq]
   refine o_callB 18000 rfl rfl rfl Tryz.call28 (ok_spec_l1Int (code := code) (i := i7) (h := h7) (l := [-1, 999999, 1000000, 1000001]) (by omega) (by omega) (by exact Nat.succ_pos _)) (ev_tmp rfl) rfl ac_arg rfl (fun _ => rfl) (ad_cons (ev_tmp rfl) (ag_one (ac_key' rfl rfl)) rfl ad_nil) rfl (fun _ => rfl) (fun _ => rfl) (fun zz hz18 => ?_)
   obtain ⟨e18, i18, h18⟩ := zz
   replace hz18 : e18 ∈ ([-1, 999999, 1000000, 1000001]) ∧ 0 ≤ i18 := hz18
   iterate 2 refine z ?_
   refine ops_nil ?_
   iterate 6 refine z ?_
   refine ok_weak (σ' := ⟨[(2, .box 2 0), (0, .abox 0)], [(2, 37, [(.dv [] (.str (e5.1))), (.key 9001), (.dv [] (.int .i64 (e18)))]), (0, 92, [(.arg 900001 (bytesD (code))), (.dv [] (.int .i64 (i18))), (.dv [] (.int .i64 (h18)))])], [(9001, some (kcOf false (itemsD (e5.2.1))))]⟩) (weak_sub ⟨rfl, rfl, trivial⟩ ⟨rfl, rfl, trivial⟩ ⟨rfl, trivial⟩ rfl) ?_
   refine z ?_
   refine fin1 (res_cell hT rfl rfl rfl rfl) ⟨(((e5.1), ((e5.2.1), (e18))), i18, h18), ?_, rfl, rfl, rfl, rfl⟩
   try dsimp only
   exact ⟨by have h2 : wStore (e5.1, e5.2.1, e18) = wStore e5 := rfl; omega, by omega⟩
  ·skip
   have d2 := of_decide_eq_false c2
   iterate 4 refine z ?_
   refine yQ rfl (fun c3 => ?_) fun c3 => ?_
   ·skip
    have d3 := of_decide_eq_true c3
    refine ok_regionL [0] [0, 1, 2, 3, 4, 5, 6, 7] (oB := [2, 3]) (oK := [9001]) (by kernel_rfl) rfl rfl ?_
    refine l_take 0 rfl (by kernel_rfl) rfl rfl (pu_fieldBox hT rfl rfl rfl (ev_tmp rfl)) rfl rfl rfl rfl rfl ?_
    refine l_take 1 rfl (by kernel_rfl) rfl rfl (pu_loadBox1 hT rfl rfl (ev_tmp rfl) rfl rfl) rfl rfl rfl rfl rfl ?_
    refine l_take 2 rfl (by kernel_rfl) rfl rfl (pu_move (.inl rfl) (ev_abox (ev_tmp rfl))) rfl rfl rfl rfl rfl ?_
    refine l_take 4 rfl (by kernel_rfl) rfl rfl (pu_move (.inl rfl) (ev_abox (ev_tmp rfl))) rfl rfl rfl rfl rfl ?_
    refine l_split 3 [] (by kernel_rfl) ⟨?_, trivial⟩
    refine y_callB 25000 3 rfl rfl rfl rfl rfl Tryz.call81 (ok_spec_l4Any (code := code) (i := i7) (h := h7) (by omega) (by omega)) (ev_tmp rfl) rfl ac_arg rfl (fun _ => rfl) ad_nil rfl (fun _ => rfl) (fun _ => rfl) rfl (fun zz hz25 => ?_)
    obtain ⟨e25, i25, h25⟩ := zz
    replace hz25 : e25.2.2.size ≤ 13 ∧ 0 ≤ i25 := hz25
    refine l_split 5 [] (by kernel_rfl) ⟨?_, trivial⟩
    refine y_callB 27000 5 rfl rfl rfl rfl rfl Tryz.call82 (ok_spec_l5Any (code := code) (i := i25) (h := h25) (by omega) (by omega)) (ev_tmp rfl) rfl ac_arg rfl (fun _ => rfl) ad_nil rfl (fun _ => rfl) (fun _ => rfl) rfl (fun zz hz27 => ?_)
    obtain ⟨e27, i27, h27⟩ := zz
    replace hz27 : wRecord e27 ≤ 200 ∧ 0 ≤ i27 := hz27
    refine l_take 6 rfl (by kernel_rfl) rfl rfl (pu_build hT hB rfl rfl rfl (bp_cons (ev_tmp rfl) rfl rfl rfl rfl rfl (bp_cons (ev_tmp rfl) rfl rfl rfl rfl rfl bp_nil))) rfl rfl rfl rfl rfl ?_
    refine l_split 7 [] (by kernel_rfl) ⟨?_, trivial⟩
    refine y_buildN (k := 29) (js := [36001]) 7 hT rfl rfl rfl rfl rfl rfl rfl rfl rfl rfl rfl rfl (ep_cons (ev_tmp rfl) rfl rfl rfl ep_nil) (ow_cons' (ow_dv rfl) (ow_cons' (ow_dv rfl) (ow_cons' (ow_dv rfl) (ow_cons' (ow_key rfl) ow_nil rfl) rfl) rfl) rfl) (by decide) (by decide) rfl rfl rfl rfl rfl ?_
    simp only [killT, killB, SV.kill, CV.kill, kk, Nat.reduceBEq]
    refine l_chain [8, 9, 10] rfl rfl (by kernel_rfl) ?_
    refine o_appK (k := 9001) (j := 29) (cs := (e5.2.1 ++ [(e25, e27)]).flatMap eItem) (n := (e5.2.1 ++ [(e25, e27)]).length) hT rfl rfl rfl rfl rfl rfl rfl (ev_tmp rfl) rfl rfl rfl (ev_tmp rfl) rfl rfl (by decide) (by dsimp only [kcOf, KC.old, itemsD, listD]; omega) (by dsimp only [kcOf, KC.old, itemsD, listD]; omega) (by rw [List.length_append]; rfl) (by rw [List.flatMap_append]; rfl) ?_
    simp only [killT, killB, SV.kill, CV.kill, kk, Nat.reduceBEq]
    iterate 2 refine z ?_
    refine ops_nil ?_
    iterate 6 refine z ?_
    refine ok_weak (σ' := ⟨[(2, .box 2 0), (0, .abox 0)], [(2, 37, [(.dv [] (.str (e5.1))), (.key 9001), (.dv [] (.int .i64 (e5.2.2)))]), (0, 92, [(.arg 900001 (bytesD (code))), (.dv [] (.int .i64 (i27))), (.dv [] (.int .i64 (h27)))])], [(9001, some (kcOf false (.sl 76 4 ((e5.2.1 ++ [(e25, e27)]).length) ((e5.2.1 ++ [(e25, e27)]).flatMap eItem))))]⟩) (weak_sub ⟨rfl, rfl, trivial⟩ ⟨rfl, rfl, trivial⟩ ⟨rfl, trivial⟩ rfl) ?_
    refine z ?_
    refine fin1 (res_cell hT rfl rfl rfl rfl) ⟨(((e5.1), (((e5.2.1 ++ [(e25, e27)])), (e5.2.2))), i27, h27), ?_, rfl, rfl, rfl, rfl⟩
    try dsimp only
    exact ⟨by have h2 := sto_app_w e5 (e25, e27); dsimp only at h2; omega, by omega⟩
   ·skip
    have d3 := of_decide_eq_false c3
    iterate 4 refine z ?_
    refine yQ rfl (fun c4 => ?_) fun c4 => ?_
    ·skip
     have d4 := of_decide_eq_true c4
     refine z ?_
     refine ok_loop (ι := StoreT × Int × Int) (fun zz => ⟨[(0, .abox 0), (2, .box 2 0), (3, .box 3 0)], [(0, 92, [(.arg 900001 (bytesD (code))), (.dv [] (.int .i64 (zz.2.1))), (.dv [] (.int .i64 (zz.2.2)))]), (2, 37, [(.dv [] (.str (ByteArray.empty))), .nil, (.dv [] (.int .i64 (0)))]), (3, 37, [(.dv [] (.str (zz.1.1))), (.key 9001), (.dv [] (.int .i64 (zz.1.2.2)))])], [(9001, some (kcOf false (.sl 76 4 (zz.1.2.1.length) (zz.1.2.1.flatMap eItem))))]⟩) (fun zz => isSto zz.1 = true ∧ autoI zz.1 ∧ zz.1.2.2 ≤ 284 + (zz.1.2.1.length : Int) ∧ 0 ≤ zz.2.1) (fun zz => 16 - zz.1.2.1.length) ((e5, i7, h7)) ?_ (weak_sub ⟨rfl, rfl, rfl, trivial⟩ ⟨rfl, rfl, rfl, trivial⟩ ⟨rfl, trivial⟩ rfl) (fun zz hx => ?_)
     ·exact ⟨hz5.1, hz5.2.2.1, by dsimp only; omega, by dsimp only; omega⟩
     obtain ⟨s, ci, ch⟩ := zz
     replace hx : isSto s = true ∧ autoI s ∧ s.2.2 ≤ 284 + (s.2.1.length : Int) ∧ 0 ≤ ci := hx
     obtain ⟨hs, ha, ha2, hci⟩ := hx
     show Ok _ _ _ _ _ (⟨[(0, .abox 0), (2, .box 2 0), (3, .box 3 0)], [(0, 92, [(.arg 900001 (bytesD (code))), (.dv [] (.int .i64 (ci))), (.dv [] (.int .i64 (ch)))]), (2, 37, [(.dv [] (.str (ByteArray.empty))), .nil, (.dv [] (.int .i64 (0)))]), (3, 37, [(.dv [] (.str (s.1))), (.key 9001), (.dv [] (.int .i64 (s.2.2)))])], [(9001, some (kcOf false (.sl 76 4 (s.2.1.length) (s.2.1.flatMap eItem))))]⟩ : St)
     iterate 4 refine z ?_
     refine yO rfl rfl (pu_lenKn (n := (s.2.1.length)) hT rfl rfl (ev_tmp rfl) rfl rfl) rfl ?_
     iterate 3 refine z ?_
     refine o_callG (gd_bool rfl rfl rfl rfl rfl) rfl rfl Tryz.call61 (ok_spec_IsStore (s := s)) (fun hg => (as_cons (ev_opt rfl hg) (ag_agg (ag_cons ac_dv (ag_cons (ac_key' rfl rfl) (ag_cons ac_dv ag_nil)))) as_nil)) rfl rfl ?_
     iterate 2 refine z ?_
     refine yQ rfl (fun c5 => ?_) fun c5 => ?_
     ·skip
      obtain ⟨q1, q2⟩ := (Bool.and_eq_true _ _ ▸ c5 : _ ∧ _)
      have q3 := of_decide_eq_true q1
      obtain ⟨r1, r2, r3, r4, r5⟩ := auto_step hs ha (by omega) ha2
      iterate 3 refine z ?_
      refine ok_region ?_
      refine z ?_
      refine yO rfl rfl (pu_build hT hB rfl rfl rfl bp_nil) rfl ?_
      refine o_callK 500 rfl rfl rfl Tryz.call90 (ok_spec_AutoItem (x := s) (r := []) (by have := sto_w2 hs; omega) (by decide)) (as_cons (ev_tmp rfl) (ag_agg (ag_cons ac_dv (ag_cons (ac_key' rfl rfl) (ag_cons ac_dv ag_nil)))) (as_cons (ev_tmp rfl) (ag_agg (ag_cons (ac_nil' rfl rfl) ag_nil)) as_nil)) rfl rfl rfl ?_
      iterate 5 refine z ?_
      refine ops_nil ?_
      iterate 2 refine z ?_
      refine ⟨((autoN s []).1, ci, ch), ?_, ?_, weak_then (weak_swapB (b := 3) (i := 1) (k := 9501) (k' := 9001) rfl rfl rfl rfl (by simp) rfl rfl) (weak_sub ⟨rfl, rfl, rfl, trivial⟩ ⟨rfl, rfl, rfl, trivial⟩ ⟨rfl, trivial⟩ rfl)⟩
      ·exact ⟨r2, r3, by dsimp only; omega, hci⟩
      ·dsimp only; omega
     ·skip
      iterate 10 refine z ?_
      refine ok_weak (σ' := ⟨[(2, .box 2 0), (0, .abox 0)], [(2, 37, [(.dv [] (.str (s.1))), (.key 9001), (.dv [] (.int .i64 (s.2.2)))]), (0, 92, [(.arg 900001 (bytesD (code))), (.dv [] (.int .i64 (ci))), (.dv [] (.int .i64 (ch)))])], [(9001, some (kcOf false (.sl 76 4 (s.2.1.length) (s.2.1.flatMap eItem))))]⟩) (weak_sub ⟨rfl, rfl, trivial⟩ ⟨rfl, rfl, trivial⟩ ⟨rfl, trivial⟩ rfl) ?_
      refine z ?_
      refine fin1 (res_cell hT rfl rfl rfl rfl) ⟨(((s.1), ((s.2.1), (s.2.2))), ci, ch), ?_, rfl, rfl, rfl, rfl⟩
      try dsimp only
      exact ⟨by have h1 := sto_w2 hs; have h2 : wStore (s.1, s.2.1, s.2.2) = wStore s := rfl; omega, by omega⟩
    ·skip
     have d4 := of_decide_eq_false c4
     iterate 7 refine z ?_
     refine ok_weak (σ' := ⟨[(2, .box 2 0), (0, .abox 0)], [(2, 37, [(.dv [] (.str (e5.1))), (.key 9001), (.dv [] (.int .i64 (e5.2.2)))]), (0, 92, [(.arg 900001 (bytesD (code))), (.dv [] (.int .i64 (i7))), (.dv [] (.int .i64 (h7)))])], [(9001, some (kcOf false (itemsD (e5.2.1))))]⟩) (weak_sub ⟨rfl, rfl, trivial⟩ ⟨rfl, rfl, trivial⟩ ⟨rfl, trivial⟩ rfl) ?_
     refine z ?_
     refine fin1 (res_cell hT rfl rfl rfl rfl) ⟨(((e5.1), ((e5.2.1), (e5.2.2))), i7, h7), ?_, rfl, rfl, rfl, rfl⟩
     try dsimp only
     exact ⟨by have h2 : wStore (e5.1, e5.2.1, e5.2.2) = wStore e5 := rfl; omega, by omega⟩
end Go.Proofs.YtmnimdnmedldgaaGreat

namespace Go.Proofs.YtmnimdnmedldgaaGreat
open Go.RowKit
open Go.Proofs
set_option linter.unusedVariables false
set_option linter.unusedSimpArgs false
theorem ok_laws_big {code : List UInt8}  : PFn Tryz.prog 6 [.one (.dv [] (bytesD (code)))] (.one (.dv [] (.bool (decide ((1048576 : Int) < (code.length : Int)))))) := by
 refine ⟨fn_intro Tryz.func6 rfl Tryz.ntmps6 Tryz.results6 rfl (fun C => ?_)⟩
 refine ok_fact (x := .tmp 0) (ev_tmp rfl) fun f0 => ?_
 iterate 11 refine z ?_
 rfl
end Go.Proofs.YtmnimdnmedldgaaGreat

namespace Go.Proofs.YtmnimdnmedldgaaGreat
open Go.RowKit
open Go.Proofs
set_option linter.unusedVariables false
set_option linter.unusedSimpArgs false

theorem sEq_self (s : Str) : sEq s s = true := by simp [sEq]
theorem eqL_self {α : Type} [Inhabited α] {p : α → α → Bool} (h : ∀ x, p x x = true) (xs : List α) : eqL p xs xs = true := by
 unfold eqL
 simp [h]
theorem eqRec_self (r : RecT) : eqRec r r = true := eqL_self (fun f => by simp [eqFld, sEq_self]) r
theorem eqKey_self (k : KeyT) : eqKeyB k k = true := by simp [eqKeyB, sEq_self]
theorem eqItem_self (x : ItemT) : eqItemB x x = true := by simp [eqItemB, eqKey_self, eqRec_self]
theorem eqStore_self (s : StoreT) : eqStoreB s s = true := by simp [eqStoreB, sEq_self, eqL_self eqItem_self]
theorem eqDb_self (d : DbT) : eqDbB d d = true := by simp [eqDbB, sEq_self, eqL_self eqStore_self, eqL_self (p := eqDefB) (fun x => by simp [eqDefB, sEq_self])]

end Go.Proofs.YtmnimdnmedldgaaGreat

namespace Go.Proofs.YtmnimdnmedldgaaGreat
open Go.RowKit
open Go.Proofs
set_option linter.unusedVariables false
set_option linter.unusedSimpArgs false

theorem eqSlotB {x y : Bool} (h : x = y) : some (SV.one (CV.dv [] (DV.bool x))) = some (SV.one (CV.dv [] (DV.bool y))) := by rw [h]
end Go.Proofs.YtmnimdnmedldgaaGreat

namespace Go.Proofs.YtmnimdnmedldgaaGreat
open Go.RowKit
open Go.Proofs
set_option linter.unusedVariables false
set_option linter.unusedSimpArgs false

theorem sLt_f {a b : Str} (h : sLt b a = true) : (sLt a b || sEq a b) = false := by rw [sLe_eq, h]; rfl
theorem base_db {l : List StoreT} (hl : l.length ≤ 4) (hs : ∀ s ∈ l, isSto s = true) (ho : ∀ i, i + 1 < l.length → sLt (l.getD i default).1 (l.getD (i + 1) default).1 = true) : isDb (ByteArray.mk #[97, 112, 112], 1, l, []) = true := by
 have h1 : isName (ByteArray.mk #[97, 112, 112]) = true := by decide +kernel
 unfold isDb dbHead dbUn dbSt
 simp only [h1, Bool.and_eq_true, decide_eq_true_eq, List.all_eq_true, List.mem_range, List.length_nil, true_and]
 refine ⟨⟨⟨by omega, by omega⟩, by omega⟩, fun i hi => ?_, fun i hi => by omega⟩
 have h2 : l.getD i default ∈ l := by rw [List.getD_eq_getElem?_getD, List.getElem?_eq_getElem hi]; exact List.getElem_mem hi
 unfold stBad
 rw [Int.toNat_natCast, hs _ h2]
 cases i with
 | zero => simp
 | succ j =>
  have h3 := ho j hi
  rw [show (((j + 1 : Nat) : Int) - 1).toNat = j by omega, sLt_f h3]
  simp
theorem base2 {s t : StoreT} (h1 : isSto s = true) (n1 : s.1 = ByteArray.mk #[110, 111, 116, 101, 115]) (h2 : isSto t = true) (n2 : t.1 = ByteArray.mk #[116, 97, 103, 115]) : isDb (ByteArray.mk #[97, 112, 112], 1, [s, t], []) = true := by
 refine base_db (by simp) (fun x hx => ?_) (fun i hi => ?_)
 ·simp only [List.mem_cons, List.not_mem_nil, or_false] at hx
  rcases hx with rfl | rfl <;> assumption
 ·have : i = 0 := by simp at hi; omega
  subst this
  show sLt s.1 t.1 = true
  rw [n1, n2]; decide +kernel
theorem base3 {q s t : StoreT} (h0 : isSto q = true) (n0 : q.1 = ByteArray.mk #[108, 105, 115, 116, 115]) (h1 : isSto s = true) (n1 : s.1 = ByteArray.mk #[110, 111, 116, 101, 115]) (h2 : isSto t = true) (n2 : t.1 = ByteArray.mk #[116, 97, 103, 115]) : isDb (ByteArray.mk #[97, 112, 112], 1, [q, s, t], []) = true := by
 refine base_db (by simp) (fun x hx => ?_) (fun i hi => ?_)
 ·simp only [List.mem_cons, List.not_mem_nil, or_false] at hx
  rcases hx with rfl | rfl | rfl <;> assumption
 ·simp only [List.length_cons, List.length_nil] at hi
  have : i = 0 ∨ i = 1 := by omega
  rcases this with rfl | rfl
  ·show sLt q.1 s.1 = true
   rw [n0, n1]; decide +kernel
  ·show sLt s.1 t.1 = true
   rw [n1, n2]; decide +kernel
theorem upA_keep {d : DbT} {u : UpgT} (h : isDb d = true) : isDb (upA d u).1 = true := by
 cases h2 : (upA d u).2 with
 | true => exact upA_db h2
 | false => rw [upA_f h2]; exact h
theorem wSum_bd {α : Type} {w : α → Nat} {B : Nat} : ∀ (l : List α), (∀ x ∈ l, w x ≤ B) → wSum w l ≤ B * l.length
 | [], _ => by simp [wSum]
 | x :: l, h => by
  have k1 := wSum_bd l (fun g hg => h g (by simp [hg]))
  have k2 := h x (by simp)
  simp only [wSum, List.map_cons, List.sum_cons, List.length_cons, Nat.mul_add, Nat.mul_one] at *
  omega
theorem isDb_w2 {d : DbT} (h : isDb d = true) : wDatabase d ≤ 6000 := by
 have h4 : wDatabase d = d.1.size + (d.2.2.1.length + wSum wStore d.2.2.1) + (d.2.2.2.length + wSum wIndexDef d.2.2.2) := rfl
 have h0 := h
 rw [isDb, Bool.and_eq_true, Bool.and_eq_true] at h
 obtain ⟨h1, h2, h3⟩ := h
 simp only [dbHead, Bool.and_eq_true, decide_eq_true_eq] at h1
 have h5 := name_size h1.1.1.1
 have h6 := wSum_bd (w := wStore) (B := 1200) d.2.2.1 (fun s hs => by
  obtain ⟨i, hi, rfl⟩ := List.mem_iff_getElem.1 hs
  have := db_sto (i := (i : Int)) h2 (by omega) (by omega)
  rw [Int.toNat_natCast, List.getD_eq_getElem?_getD, List.getElem?_eq_getElem hi] at this
  exact sto_w2 this)
 have h7 := wSum_bd (w := wIndexDef) (B := 16) d.2.2.2 (fun x hx => by
  obtain ⟨i, hi, rfl⟩ := List.mem_iff_getElem.1 hx
  have hq := db_un h0 (List.getElem_mem hi)
  have h8 : d.2.2.1.any (hasName d.2.2.2[i].1) = true := by rw [← fnd_any]; exact decide_eq_true hq
  obtain ⟨s, hs, hn⟩ := List.any_eq_true.1 h8
  have hn2 : s.1 = d.2.2.2[i].1 := sEq_iff.1 hn
  obtain ⟨j, hj, rfl⟩ := List.mem_iff_getElem.1 hs
  have h9 := db_sto (i := (j : Int)) h2 (by omega) (by omega)
  rw [Int.toNat_natCast, List.getD_eq_getElem?_getD, List.getElem?_eq_getElem hj] at h9
  have h10 := sto_name h9
  have h11 : d.2.2.1[j].1.size ≤ 8 := h10
  have h12 : (d.2.2.2[i]).2.size ≤ 8 := by
   rw [dbUn, List.all_eq_true] at h3
   have h13 := h3 i (List.mem_range.2 hi)
   unfold unBad at h13
   rw [Int.toNat_natCast, List.getD_eq_getElem?_getD, List.getElem?_eq_getElem hi] at h13
   simp only [Option.getD_some, Bool.not_eq_true', Bool.or_eq_false_iff, Bool.not_eq_false'] at h13
   exact (name_size h13.1.1.2).2
  have h14 : wIndexDef d.2.2.2[i] = (d.2.2.2[i]).1.size + (d.2.2.2[i]).2.size := rfl
  rw [hn2] at h11
  omega)
 omega

theorem ok_spec_l8Base {code : List UInt8} {i h : Int} (hc : code.length ≤ 1048576) (hi : 0 ≤ i) : BFn Tryz.prog 54 [] 92 (bytesD (code)) [.dv [] (.int .i64 (i)), .dv [] (.int .i64 (h))] (fun zz : DbT × Int × Int => isDb zz.1 = true ∧ 0 ≤ zz.2.1) (fun zz : DbT × Int × Int => .agg [(.dv [] (.str (zz.1.1))), (.dv [] (.int .i64 (zz.1.2.1))), (.key 90031), (.key 90900)]) (fun zz : DbT × Int × Int => [(90031, some (kcOf false (storesD (zz.1.2.2.1)))), (90900, some (kcOf false (defsD (zz.1.2.2.2))))]) (fun zz : DbT × Int × Int => [.dv [] (.int .i64 (zz.2.1)), .dv [] (.int .i64 (zz.2.2))]) := by
 refine ⟨fn_introS Tryz.func54 rfl Tryz.ntmps54 Tryz.results54 rfl (fun C => ?_)⟩
 iterate 4 refine z ?_
 refine yO rfl rfl (pu_build hT hB rfl rfl rfl (bp_cons (ev_str (str_lit rfl)) rfl rfl rfl rfl rfl (bp_cons (ev_int (inR_lit rfl)) rfl rfl rfl rfl rfl bp_nil))) rfl ?_
 iterate 3 refine z ?_
 refine ok_seq ?_
 refine ok_weak (weak_nilB 90031 (b := 3) (i := 2) (e := 37) (sz := 3) rfl rfl rfl rfl rfl) ?_
 simp only [killT, killB, SV.kill, CV.kill, kk, Nat.reduceBEq]
 refine ok_weak (weak_nilB 90900 (b := 3) (i := 3) (e := 72) (sz := 2) rfl rfl rfl rfl rfl) ?_
 simp only [killT, killB, SV.kill, CV.kill, kk, Nat.reduceBEq]
 refine ok_regionL [0] [0, 1, 2, 3, 4, 5, 6] (oB := [2, 3]) (oK := [90031, 90900]) (by kernel_rfl) rfl rfl ?_
 refine l_take 0 rfl (by kernel_rfl) rfl rfl (pu_fieldBox hT rfl rfl rfl (ev_tmp rfl)) rfl rfl rfl rfl rfl ?_
 refine l_take 1 rfl (by kernel_rfl) rfl rfl (pu_loadBox1 hT rfl rfl (ev_tmp rfl) rfl rfl) rfl rfl rfl rfl rfl ?_
 refine l_take 2 rfl (by kernel_rfl) rfl rfl (pu_move (.inl rfl) (ev_abox (ev_tmp rfl))) rfl rfl rfl rfl rfl ?_
 refine l_take 4 rfl (by kernel_rfl) rfl rfl (pu_move (.inl rfl) (ev_abox (ev_tmp rfl))) rfl rfl rfl rfl rfl ?_
 refine l_split 3 [] (by kernel_rfl) ⟨?_, trivial⟩
 refine y_callB 22000 3 rfl rfl rfl rfl rfl Tryz.call89 (ok_spec_l6Store (code := code) (i := i) (h := h) (nm := ByteArray.mk #[110, 111, 116, 101, 115]) (by omega) (by omega) (by decide +kernel)) (ev_tmp rfl) rfl ac_arg rfl (fun _ => rfl) (ad_cons (ev_str (str_lit rfl)) (ag_one ac_dv) rfl ad_nil) rfl (fun _ => rfl) (fun _ => rfl) rfl (fun zz hz8 => ?_)
 obtain ⟨e8, i8, h8⟩ := zz
 replace hz8 : isSto e8 = true ∧ e8.1 = (ByteArray.mk #[110, 111, 116, 101, 115]) ∧ autoI e8 ∧ e8.2.2 ≤ 256 ∧ 0 ≤ i8 := hz8
 refine l_split 5 [] (by kernel_rfl) ⟨?_, trivial⟩
 refine y_callB 23000 5 rfl rfl rfl rfl rfl Tryz.call89 (ok_spec_l6Store (code := code) (i := i8) (h := h8) (nm := ByteArray.mk #[116, 97, 103, 115]) (by omega) (by omega) (by decide +kernel)) (ev_tmp rfl) rfl ac_arg rfl (fun _ => rfl) (ad_cons (ev_str (str_lit rfl)) (ag_one ac_dv) rfl ad_nil) rfl (fun _ => rfl) (fun _ => rfl) rfl (fun zz hz10 => ?_)
 obtain ⟨e10, i10, h10⟩ := zz
 replace hz10 : isSto e10 = true ∧ e10.1 = (ByteArray.mk #[116, 97, 103, 115]) ∧ autoI e10 ∧ e10.2.2 ≤ 256 ∧ 0 ≤ i10 := hz10
 refine l_split 6 [] (by kernel_rfl) ⟨?_, trivial⟩
 refine y_buildN (k := 11) (js := [31001, 32001]) 6 hT rfl rfl rfl rfl rfl rfl rfl rfl rfl rfl rfl rfl (ep_cons (ev_tmp rfl) rfl rfl rfl (ep_cons (ev_tmp rfl) rfl rfl rfl ep_nil)) (ow_cons' (ow_dv rfl) (ow_cons' (ow_key rfl) (ow_cons' (ow_dv rfl) (ow_cons' (ow_dv rfl) (ow_cons' (ow_key rfl) (ow_cons' (ow_dv rfl) ow_nil rfl) rfl) rfl) rfl) rfl) rfl) (by decide) (by decide) rfl rfl rfl rfl rfl ?_
 simp only [killT, killB, SV.kill, CV.kill, kk, Nat.reduceBEq]
 refine l_chain [7, 8, 9] rfl rfl (by kernel_rfl) ?_
 refine o_appK (k := 90031) (j := 11) (cs := [e8, e10].flatMap eStore) (n := [e8, e10].length) hT rfl rfl rfl rfl rfl rfl rfl (ev_tmp rfl) rfl rfl rfl (ev_tmp rfl) rfl rfl (by decide) (by simp [kcOf, KC.old]) (by simp [kcOf, KC.old]) (rfl) (rfl) ?_
 simp only [killT, killB, SV.kill, CV.kill, kk, Nat.reduceBEq]
 iterate 5 refine z ?_
 refine yO rfl rfl (pu_move (.inl rfl) (ev_abox (ev_tmp rfl))) rfl ?_
 refine o_callB 15000 rfl rfl rfl Tryz.call43 (ok_spec_l1Once (code := code) (i := i10) (h := h10) (n := 2) (by omega) (by omega) ) (ev_tmp rfl) rfl ac_arg rfl (fun _ => rfl) (ad_cons (ev_int (inR_lit rfl)) (ag_one ac_dv) rfl ad_nil) rfl (fun _ => rfl) (fun _ => rfl) (fun zz hz15 => ?_)
 obtain ⟨e15, i15, h15⟩ := zz
 replace hz15 : 0 ≤ i15 := hz15
 refine z ?_
 refine yQ rfl (fun c1 => ?_) fun c1 => ?_
 ·skip
  refine ok_regionL [0] [0, 1, 2, 3, 4] (oB := [2, 3]) (oK := [90031, 90900]) (by kernel_rfl) rfl rfl ?_
  refine l_take 0 rfl (by kernel_rfl) rfl rfl (pu_move (.inl rfl) (ev_abox (ev_tmp rfl))) rfl rfl rfl rfl rfl ?_
  refine l_take 3 rfl (by kernel_rfl) rfl rfl (pu_fieldBox hT rfl rfl rfl (ev_tmp rfl)) rfl rfl rfl rfl rfl ?_
  refine l_take 4 rfl (by kernel_rfl) rfl rfl (pu_loadBox1 hT rfl rfl (ev_tmp rfl) rfl rfl) rfl rfl rfl rfl rfl ?_
  refine l_split 1 [] (by kernel_rfl) ⟨?_, trivial⟩
  refine y_callB 24000 1 rfl rfl rfl rfl rfl Tryz.call89 (ok_spec_l6Store (code := code) (i := i15) (h := h15) (nm := ByteArray.mk #[108, 105, 115, 116, 115]) (by omega) (by omega) (by decide +kernel)) (ev_tmp rfl) rfl ac_arg rfl (fun _ => rfl) (ad_cons (ev_str (str_lit rfl)) (ag_one ac_dv) rfl ad_nil) rfl (fun _ => rfl) (fun _ => rfl) rfl (fun zz hz17 => ?_)
  obtain ⟨e17, i17, h17⟩ := zz
  replace hz17 : isSto e17 = true ∧ e17.1 = (ByteArray.mk #[108, 105, 115, 116, 115]) ∧ autoI e17 ∧ e17.2.2 ≤ 256 ∧ 0 ≤ i17 := hz17
  refine l_split 2 [] (by kernel_rfl) ⟨?_, trivial⟩
  refine y_buildN (k := 18) (js := [33001]) 2 hT rfl rfl rfl rfl rfl rfl rfl rfl rfl rfl rfl rfl (ep_cons (ev_tmp rfl) rfl rfl rfl ep_nil) (ow_cons' (ow_dv rfl) (ow_cons' (ow_key rfl) (ow_cons' (ow_dv rfl) ow_nil rfl) rfl) rfl) (by decide) (by decide) rfl rfl rfl rfl rfl ?_
  simp only [killT, killB, SV.kill, CV.kill, kk, Nat.reduceBEq]
  refine l_chain [5, 6, 7] rfl rfl (by kernel_rfl) ?_
  refine o_appK (k := 18) (j := 90031) (cs := [e17, e8, e10].flatMap eStore) (n := [e17, e8, e10].length) hT rfl rfl rfl rfl rfl rfl rfl (ev_tmp rfl) rfl rfl rfl (ev_tmp rfl) rfl rfl (by decide) (by simp [kcOf, KC.old]) (by simp [kcOf, KC.old]) (rfl) (rfl) ?_
  simp only [killT, killB, SV.kill, CV.kill, kk, Nat.reduceBEq]
  iterate 5 refine z ?_
  refine yO rfl rfl (pu_move (.inl rfl) (ev_abox (ev_tmp rfl))) rfl ?_
  refine o_callB 24000 rfl rfl rfl Tryz.call43 (ok_spec_l1Once (code := code) (i := i17) (h := h17) (n := 3) (by omega) (by omega) ) (ev_tmp rfl) rfl ac_arg rfl (fun _ => rfl) (ad_cons (ev_int (inR_lit rfl)) (ag_one ac_dv) rfl ad_nil) rfl (fun _ => rfl) (fun _ => rfl) (fun zz hz24 => ?_)
  obtain ⟨e24, i24, h24⟩ := zz
  replace hz24 : 0 ≤ i24 := hz24
  refine z ?_
  refine yQ rfl (fun c2 => ?_) fun c2 => ?_
  ·skip
   refine ok_regionL [0] [0, 1, 2, 3, 4, 5] (oB := [2, 3]) (oK := [18, 90900]) (by kernel_rfl) rfl rfl ?_
   refine l_take 0 rfl (by kernel_rfl) rfl rfl (pu_loadBoxA hT rfl rfl (ev_tmp rfl) rfl rfl) rfl rfl rfl rfl rfl ?_
   refine l_take 1 rfl (by kernel_rfl) rfl rfl (pu_move (.inl rfl) (ev_abox (ev_tmp rfl))) rfl rfl rfl rfl rfl ?_
   refine l_split 2 [] (by kernel_rfl) ⟨?_, trivial⟩
   refine y_callB 28000 2 rfl rfl rfl rfl rfl Tryz.call58 (ok_spec_l5Name (code := code) (i := i24) (h := h24) (by omega) (by omega)) (ev_tmp rfl) rfl ac_arg rfl (fun _ => rfl) ad_nil rfl (fun _ => rfl) (fun _ => rfl) rfl (fun zz hz28 => ?_)
   obtain ⟨e28, i28, h28⟩ := zz
   replace hz28 : isName e28 = true ∧ 0 ≤ i28 := hz28
   refine l_take 3 rfl (by kernel_rfl) rfl rfl (pu_build hT hB rfl rfl rfl (bp_cons (ev_int (inR_lit rfl)) rfl rfl rfl rfl rfl (bp_cons (ev_str (str_lit rfl)) rfl rfl rfl rfl rfl (bp_cons (ev_tmp rfl) rfl rfl rfl rfl rfl bp_nil)))) rfl rfl rfl rfl rfl ?_
   refine l_split 4 [] (by kernel_rfl) ⟨?_, trivial⟩
   refine y_callK 100000 4 rfl rfl rfl rfl Tryz.call16 (ok_spec_ApplyUpgrade (d := (ByteArray.mk #[97, 112, 112], 1, [e17, e8, e10], [])) (u := (3, ByteArray.mk #[110, 111, 116, 101, 115], e28)) (by have := isDb_w2 (base3 hz17.1 hz17.2.1 hz8.1 hz8.2.1 hz10.1 hz10.2.1); omega)) (as_cons (ev_tmp rfl) (ag_agg (ag_cons ac_dv (ag_cons ac_dv (ag_cons (ac_key' rfl rfl) (ag_cons (ac_key' rfl rfl) ag_nil))))) (as_cons (ev_tmp rfl) (ag_agg (ag_cons ac_dv (ag_cons ac_dv (ag_cons ac_dv ag_nil)))) as_nil)) rfl rfl rfl rfl rfl rfl ?_
   refine l_take 5 rfl (by kernel_rfl) rfl rfl (pu_move (.inl rfl) (ev_tmp rfl)) rfl rfl rfl rfl rfl ?_
   refine l_takeX 6 rfl (by kernel_rfl) rfl rfl rfl (pu_extractA rfl (ev_tmp rfl) rfl) rfl rfl ?_
   refine l_takeX 7 rfl (by kernel_rfl) rfl rfl rfl (pu_extract1 rfl (ev_tmp rfl) rfl) rfl rfl ?_
   refine l_chain [8] rfl rfl (by kernel_rfl) ?_
   iterate 6 refine z ?_
   refine ok_weak (weak_add (k := 90031) (e := 37) (sz := 3) rfl rfl) ?_
   try simp only [killT, killB, SV.kill, CV.kill, kk, Nat.reduceBEq]
   refine ok_weak (weak_swapB (b := 2) (i := 2) (k := 190031) (k' := 90031) rfl rfl rfl rfl (by simp) rfl rfl) ?_
   try simp only [killT, killB, SV.kill, CV.kill, kk, Nat.reduceBEq]
   refine ok_weak (weak_swapB (b := 2) (i := 3) (k := 190900) (k' := 90900) rfl rfl rfl rfl (by simp) rfl rfl) ?_
   try simp only [killT, killB, SV.kill, CV.kill, kk, Nat.reduceBEq]
   refine ok_weak (σ' := ⟨[(2, .box 2 0), (0, .abox 0)], [(2, 27, [(.dv [] (.str ((upA ((ByteArray.mk #[97, 112, 112], (1, ([e17, e8, e10], [])))) ((3, (ByteArray.mk #[110, 111, 116, 101, 115], e28)))).1.1))), (.dv [] (.int .i64 ((upA ((ByteArray.mk #[97, 112, 112], (1, ([e17, e8, e10], [])))) ((3, (ByteArray.mk #[110, 111, 116, 101, 115], e28)))).1.2.1))), (.key 90031), (.key 90900)]), (0, 92, [(.arg 900001 (bytesD (code))), (.dv [] (.int .i64 (i28))), (.dv [] (.int .i64 (h28)))])], [(90031, some (kcOf false (storesD ((upA ((ByteArray.mk #[97, 112, 112], (1, ([e17, e8, e10], [])))) ((3, (ByteArray.mk #[110, 111, 116, 101, 115], e28)))).1.2.2.1)))), (90900, some (kcOf false (defsD ((upA ((ByteArray.mk #[97, 112, 112], (1, ([e17, e8, e10], [])))) ((3, (ByteArray.mk #[110, 111, 116, 101, 115], e28)))).1.2.2.2))))]⟩) (weak_sub ⟨rfl, rfl, trivial⟩ ⟨rfl, rfl, trivial⟩ ⟨rfl, rfl, trivial⟩ rfl) ?_
   refine z ?_
   refine fin1 (res_cell hT rfl rfl rfl rfl) ⟨((((upA ((ByteArray.mk #[97, 112, 112], (1, ([e17, e8, e10], [])))) ((3, (ByteArray.mk #[110, 111, 116, 101, 115], e28)))).1.1), (((upA ((ByteArray.mk #[97, 112, 112], (1, ([e17, e8, e10], [])))) ((3, (ByteArray.mk #[110, 111, 116, 101, 115], e28)))).1.2.1), (((upA ((ByteArray.mk #[97, 112, 112], (1, ([e17, e8, e10], [])))) ((3, (ByteArray.mk #[110, 111, 116, 101, 115], e28)))).1.2.2.1), ((upA ((ByteArray.mk #[97, 112, 112], (1, ([e17, e8, e10], [])))) ((3, (ByteArray.mk #[110, 111, 116, 101, 115], e28)))).1.2.2.2)))), i28, h28), ?_, rfl, rfl, rfl, rfl⟩
   try dsimp only
   exact ⟨upA_keep (base3 hz17.1 hz17.2.1 hz8.1 hz8.2.1 hz10.1 hz10.2.1), by omega⟩
  ·skip
   iterate 6 refine z ?_
   refine ok_weak (weak_add (k := 90031) (e := 37) (sz := 3) rfl rfl) ?_
   try simp only [killT, killB, SV.kill, CV.kill, kk, Nat.reduceBEq]
   refine ok_weak (weak_swapB (b := 2) (i := 2) (k := 18) (k' := 90031) rfl rfl rfl rfl (by simp) rfl rfl) ?_
   try simp only [killT, killB, SV.kill, CV.kill, kk, Nat.reduceBEq]
   refine ok_weak (σ' := ⟨[(2, .box 2 0), (0, .abox 0)], [(2, 27, [(.dv [] (.str (ByteArray.mk #[97, 112, 112]))), (.dv [] (.int .i64 (1))), (.key 90031), (.key 90900)]), (0, 92, [(.arg 900001 (bytesD (code))), (.dv [] (.int .i64 (i24))), (.dv [] (.int .i64 (h24)))])], [(90031, some (kcOf false (.sl 37 3 ([e17, e8, e10].length) ([e17, e8, e10].flatMap eStore)))), (90900, some (kcOf false (.sl 72 2 (0) ([]))))]⟩) (weak_sub ⟨rfl, rfl, trivial⟩ ⟨rfl, rfl, trivial⟩ ⟨rfl, rfl, trivial⟩ rfl) ?_
   refine z ?_
   refine fin1 (res_cell hT rfl rfl rfl rfl) ⟨(((ByteArray.mk #[97, 112, 112]), ((1), (([e17, e8, e10]), ([])))), i24, h24), ?_, rfl, rfl, rfl, rfl⟩
   try dsimp only
   exact ⟨base3 hz17.1 hz17.2.1 hz8.1 hz8.2.1 hz10.1 hz10.2.1, by omega⟩
 ·skip
  iterate 4 refine z ?_
  refine yO rfl rfl (pu_move (.inl rfl) (ev_abox (ev_tmp rfl))) rfl ?_
  refine o_callB 24000 rfl rfl rfl Tryz.call43 (ok_spec_l1Once (code := code) (i := i15) (h := h15) (n := 3) (by omega) (by omega) ) (ev_tmp rfl) rfl ac_arg rfl (fun _ => rfl) (ad_cons (ev_int (inR_lit rfl)) (ag_one ac_dv) rfl ad_nil) rfl (fun _ => rfl) (fun _ => rfl) (fun zz hz24 => ?_)
  obtain ⟨e24, i24, h24⟩ := zz
  replace hz24 : 0 ≤ i24 := hz24
  refine z ?_
  refine yQ rfl (fun c3 => ?_) fun c3 => ?_
  ·skip
   refine ok_regionL [0] [0, 1, 2, 3, 4, 5] (oB := [2, 3]) (oK := [90031, 90900]) (by kernel_rfl) rfl rfl ?_
   refine l_take 0 rfl (by kernel_rfl) rfl rfl (pu_loadBoxA hT rfl rfl (ev_tmp rfl) rfl rfl) rfl rfl rfl rfl rfl ?_
   refine l_take 1 rfl (by kernel_rfl) rfl rfl (pu_move (.inl rfl) (ev_abox (ev_tmp rfl))) rfl rfl rfl rfl rfl ?_
   refine l_split 2 [] (by kernel_rfl) ⟨?_, trivial⟩
   refine y_callB 28000 2 rfl rfl rfl rfl rfl Tryz.call58 (ok_spec_l5Name (code := code) (i := i24) (h := h24) (by omega) (by omega)) (ev_tmp rfl) rfl ac_arg rfl (fun _ => rfl) ad_nil rfl (fun _ => rfl) (fun _ => rfl) rfl (fun zz hz28 => ?_)
   obtain ⟨e28, i28, h28⟩ := zz
   replace hz28 : isName e28 = true ∧ 0 ≤ i28 := hz28
   refine l_take 3 rfl (by kernel_rfl) rfl rfl (pu_build hT hB rfl rfl rfl (bp_cons (ev_int (inR_lit rfl)) rfl rfl rfl rfl rfl (bp_cons (ev_str (str_lit rfl)) rfl rfl rfl rfl rfl (bp_cons (ev_tmp rfl) rfl rfl rfl rfl rfl bp_nil)))) rfl rfl rfl rfl rfl ?_
   refine l_split 4 [] (by kernel_rfl) ⟨?_, trivial⟩
   refine y_callK 100000 4 rfl rfl rfl rfl Tryz.call16 (ok_spec_ApplyUpgrade (d := (ByteArray.mk #[97, 112, 112], 1, [e8, e10], [])) (u := (3, ByteArray.mk #[110, 111, 116, 101, 115], e28)) (by have := isDb_w2 (base2 hz8.1 hz8.2.1 hz10.1 hz10.2.1); omega)) (as_cons (ev_tmp rfl) (ag_agg (ag_cons ac_dv (ag_cons ac_dv (ag_cons (ac_key' rfl rfl) (ag_cons (ac_key' rfl rfl) ag_nil))))) (as_cons (ev_tmp rfl) (ag_agg (ag_cons ac_dv (ag_cons ac_dv (ag_cons ac_dv ag_nil)))) as_nil)) rfl rfl rfl rfl rfl rfl ?_
   refine l_take 5 rfl (by kernel_rfl) rfl rfl (pu_move (.inl rfl) (ev_tmp rfl)) rfl rfl rfl rfl rfl ?_
   refine l_takeX 6 rfl (by kernel_rfl) rfl rfl rfl (pu_extractA rfl (ev_tmp rfl) rfl) rfl rfl ?_
   refine l_takeX 7 rfl (by kernel_rfl) rfl rfl rfl (pu_extract1 rfl (ev_tmp rfl) rfl) rfl rfl ?_
   refine l_chain [8] rfl rfl (by kernel_rfl) ?_
   iterate 6 refine z ?_
   refine ok_weak (weak_swapB (b := 2) (i := 2) (k := 190031) (k' := 90031) rfl rfl rfl rfl (by simp) rfl rfl) ?_
   try simp only [killT, killB, SV.kill, CV.kill, kk, Nat.reduceBEq]
   refine ok_weak (weak_swapB (b := 2) (i := 3) (k := 190900) (k' := 90900) rfl rfl rfl rfl (by simp) rfl rfl) ?_
   try simp only [killT, killB, SV.kill, CV.kill, kk, Nat.reduceBEq]
   refine ok_weak (σ' := ⟨[(2, .box 2 0), (0, .abox 0)], [(2, 27, [(.dv [] (.str ((upA ((ByteArray.mk #[97, 112, 112], (1, ([e8, e10], [])))) ((3, (ByteArray.mk #[110, 111, 116, 101, 115], e28)))).1.1))), (.dv [] (.int .i64 ((upA ((ByteArray.mk #[97, 112, 112], (1, ([e8, e10], [])))) ((3, (ByteArray.mk #[110, 111, 116, 101, 115], e28)))).1.2.1))), (.key 90031), (.key 90900)]), (0, 92, [(.arg 900001 (bytesD (code))), (.dv [] (.int .i64 (i28))), (.dv [] (.int .i64 (h28)))])], [(90031, some (kcOf false (storesD ((upA ((ByteArray.mk #[97, 112, 112], (1, ([e8, e10], [])))) ((3, (ByteArray.mk #[110, 111, 116, 101, 115], e28)))).1.2.2.1)))), (90900, some (kcOf false (defsD ((upA ((ByteArray.mk #[97, 112, 112], (1, ([e8, e10], [])))) ((3, (ByteArray.mk #[110, 111, 116, 101, 115], e28)))).1.2.2.2))))]⟩) (weak_sub ⟨rfl, rfl, trivial⟩ ⟨rfl, rfl, trivial⟩ ⟨rfl, rfl, trivial⟩ rfl) ?_
   refine z ?_
   refine fin1 (res_cell hT rfl rfl rfl rfl) ⟨((((upA ((ByteArray.mk #[97, 112, 112], (1, ([e8, e10], [])))) ((3, (ByteArray.mk #[110, 111, 116, 101, 115], e28)))).1.1), (((upA ((ByteArray.mk #[97, 112, 112], (1, ([e8, e10], [])))) ((3, (ByteArray.mk #[110, 111, 116, 101, 115], e28)))).1.2.1), (((upA ((ByteArray.mk #[97, 112, 112], (1, ([e8, e10], [])))) ((3, (ByteArray.mk #[110, 111, 116, 101, 115], e28)))).1.2.2.1), ((upA ((ByteArray.mk #[97, 112, 112], (1, ([e8, e10], [])))) ((3, (ByteArray.mk #[110, 111, 116, 101, 115], e28)))).1.2.2.2)))), i28, h28), ?_, rfl, rfl, rfl, rfl⟩
   try dsimp only
   exact ⟨upA_keep (base2 hz8.1 hz8.2.1 hz10.1 hz10.2.1), by omega⟩
  ·skip
   iterate 6 refine z ?_
   refine ok_weak (σ' := ⟨[(2, .box 2 0), (0, .abox 0)], [(2, 27, [(.dv [] (.str (ByteArray.mk #[97, 112, 112]))), (.dv [] (.int .i64 (1))), (.key 90031), (.key 90900)]), (0, 92, [(.arg 900001 (bytesD (code))), (.dv [] (.int .i64 (i24))), (.dv [] (.int .i64 (h24)))])], [(90031, some (kcOf false (.sl 37 3 ([e8, e10].length) ([e8, e10].flatMap eStore)))), (90900, some (kcOf false (.sl 72 2 (0) ([]))))]⟩) (weak_sub ⟨rfl, rfl, trivial⟩ ⟨rfl, rfl, trivial⟩ ⟨rfl, rfl, trivial⟩ rfl) ?_
   refine z ?_
   refine fin1 (res_cell hT rfl rfl rfl rfl) ⟨(((ByteArray.mk #[97, 112, 112]), ((1), (([e8, e10]), ([])))), i24, h24), ?_, rfl, rfl, rfl, rfl⟩
   try dsimp only
   exact ⟨base2 hz8.1 hz8.2.1 hz10.1 hz10.2.1, by omega⟩
theorem ok_spec_l8Any {code : List UInt8} {i h : Int} (hc : code.length ≤ 1048576) (hi : 0 ≤ i) : BFn Tryz.prog 25 [] 92 (bytesD (code)) [.dv [] (.int .i64 (i)), .dv [] (.int .i64 (h))] (fun zz : DbT × Int × Int => wDatabase zz.1 ≤ 8000 ∧ 0 ≤ zz.2.1) (fun zz : DbT × Int × Int => .agg [(.dv [] (.str (zz.1.1))), (.dv [] (.int .i64 (zz.1.2.1))), (.key 90031), (.key 90900)]) (fun zz : DbT × Int × Int => [(90031, some (kcOf false (storesD (zz.1.2.2.1)))), (90900, some (kcOf false (defsD (zz.1.2.2.2))))]) (fun zz : DbT × Int × Int => [.dv [] (.int .i64 (zz.2.1)), .dv [] (.int .i64 (zz.2.2))]) := by
 refine ⟨fn_introS Tryz.func25 rfl Tryz.ntmps25 Tryz.results25 rfl (fun C => ?_)⟩
 iterate 4 refine z ?_
 refine yO rfl rfl (pu_move (.inl rfl) (ev_abox (ev_tmp rfl))) rfl ?_
 refine o_callB 0 rfl rfl rfl Tryz.call54 (ok_spec_l8Base (code := code) (i := i) (h := h) (by omega) (by omega)) (ev_tmp rfl) rfl ac_arg rfl (fun _ => rfl) ad_nil rfl (fun _ => rfl) (fun _ => rfl) (fun zz hz5 => ?_)
 obtain ⟨e5, i5, h5⟩ := zz
 replace hz5 : isDb e5 = true ∧ 0 ≤ i5 := hz5
 have hw := isDb_w2 hz5.1
 have hl : wDatabase e5 = e5.1.size + (e5.2.2.1.length + wSum wStore e5.2.2.1) + (e5.2.2.2.length + wSum wIndexDef e5.2.2.2) := rfl
 iterate 5 refine z ?_
 refine yO rfl rfl (pu_move (.inl rfl) (ev_abox (ev_tmp rfl))) rfl ?_
 refine o_callB 7000 rfl rfl rfl Tryz.call26 (ok_spec_l1Below (code := code) (i := i5) (h := h5) (n := 12) (by omega) (by omega) ) (ev_tmp rfl) rfl ac_arg rfl (fun _ => rfl) (ad_cons (ev_int (inR_lit rfl)) (ag_one ac_dv) rfl ad_nil) rfl (fun _ => rfl) (fun _ => rfl) (fun zz hz7 => ?_)
 obtain ⟨e7, i7, h7⟩ := zz
 replace hz7 : 0 ≤ e7 ∧ (0 < (12 : Int) → e7 < (12 : Int)) ∧ 0 ≤ i7 := hz7
 iterate 6 refine z ?_
 refine yQ rfl (fun c1 => ?_) fun c1 => ?_
 ·skip
  have d1 := of_decide_eq_true c1
  refine ok_region ?_
  refine z ?_
  refine o_store hT rfl rfl rfl rfl (ev_tmp rfl) (ev_str (str_lit rfl)) rfl rfl rfl rfl rfl rfl ?_
  refine ops_nil ?_
  iterate 6 refine z ?_
  refine ok_weak (σ' := ⟨[(2, .box 2 0), (0, .abox 0)], [(2, 27, [(.dv [] (.str (ByteArray.mk #[]))), (.dv [] (.int .i64 (e5.2.1))), (.key 90031), (.key 90900)]), (0, 92, [(.arg 900001 (bytesD (code))), (.dv [] (.int .i64 (i7))), (.dv [] (.int .i64 (h7)))])], [(90031, some (kcOf false (storesD (e5.2.2.1)))), (90900, some (kcOf false (defsD (e5.2.2.2))))]⟩) (weak_sub ⟨rfl, rfl, trivial⟩ ⟨rfl, rfl, trivial⟩ ⟨rfl, rfl, trivial⟩ rfl) ?_
  refine z ?_
  refine fin1 (res_cell hT rfl rfl rfl rfl) ⟨(((ByteArray.mk #[]), ((e5.2.1), ((e5.2.2.1), (e5.2.2.2)))), i7, h7), ?_, rfl, rfl, rfl, rfl⟩
  try dsimp only
  exact ⟨by have h2 : wDatabase (ByteArray.mk #[], e5.2.1, e5.2.2.1, e5.2.2.2) = (ByteArray.mk #[]).size + ((e5.2.2.1).length + wSum wStore (e5.2.2.1)) + ((e5.2.2.2).length + wSum wIndexDef (e5.2.2.2)) := rfl; have h3 : ByteArray.empty.size = 0 := rfl; have h4 : (ByteArray.mk #[]).size = 0 := rfl; omega, by omega⟩
 ·skip
  have d1 := of_decide_eq_false c1
  iterate 4 refine z ?_
  refine yQ rfl (fun c2 => ?_) fun c2 => ?_
  ·skip
   have d2 := of_decide_eq_true c2
   refine ok_region ?_
   refine yO rfl rfl (pu_move (.inl rfl) (ev_abox (ev_tmp rfl))) rfl ?_
   refine o_buildN (k := 14) (js := []) hT rfl rfl rfl rfl rfl rfl rfl rfl rfl rfl rfl (ep_cons (ev_int (inR_lit rfl)) rfl rfl rfl (ep_cons (ev_int (inR_lit rfl)) rfl rfl rfl (ep_cons (ev_int (inR_lit rfl)) rfl rfl rfl (ep_cons (ev_int (inR_lit rfl)) rfl rfl rfl (ep_cons (ev_int (inR_lit rfl)) rfl rfl rfl ep_nil))))) (ow_cons' (ow_dv rfl) (ow_cons' (ow_dv rfl) (ow_cons' (ow_dv rfl) (ow_cons' (ow_dv rfl) (ow_cons' (ow_dv rfl) ow_nil rfl) rfl) rfl) rfl) rfl) (by decide) (by decide) rfl rfl ?_
   simp only [killT, killB, SV.kill, CV.kill, kk, Nat.reduceBEq]
   refine o_callB 15000 rfl rfl rfl Tryz.call28 (ok_spec_l1Int (code := code) (i := i7) (h := h7) (l := [-1, 0, 999, 1000, 1001]) (by omega) (by omega) (by exact Nat.succ_pos _)) (ev_tmp rfl) rfl ac_arg rfl (fun _ => rfl) (ad_cons (ev_tmp rfl) (ag_one (ac_key' rfl rfl)) rfl ad_nil) rfl (fun _ => rfl) (fun _ => rfl) (fun zz hz15 => ?_)
   obtain ⟨e15, i15, h15⟩ := zz
   replace hz15 : e15 ∈ ([-1, 0, 999, 1000, 1001]) ∧ 0 ≤ i15 := hz15
   iterate 2 refine z ?_
   refine ops_nil ?_
   iterate 6 refine z ?_
   refine ok_weak (σ' := ⟨[(2, .box 2 0), (0, .abox 0)], [(2, 27, [(.dv [] (.str (e5.1))), (.dv [] (.int .i64 (e15))), (.key 90031), (.key 90900)]), (0, 92, [(.arg 900001 (bytesD (code))), (.dv [] (.int .i64 (i15))), (.dv [] (.int .i64 (h15)))])], [(90031, some (kcOf false (storesD (e5.2.2.1)))), (90900, some (kcOf false (defsD (e5.2.2.2))))]⟩) (weak_sub ⟨rfl, rfl, trivial⟩ ⟨rfl, rfl, trivial⟩ ⟨rfl, rfl, trivial⟩ rfl) ?_
   refine z ?_
   refine fin1 (res_cell hT rfl rfl rfl rfl) ⟨(((e5.1), ((e15), ((e5.2.2.1), (e5.2.2.2)))), i15, h15), ?_, rfl, rfl, rfl, rfl⟩
   try dsimp only
   exact ⟨by have h2 : wDatabase (e5.1, e15, e5.2.2.1, e5.2.2.2) = (e5.1).size + ((e5.2.2.1).length + wSum wStore (e5.2.2.1)) + ((e5.2.2.2).length + wSum wIndexDef (e5.2.2.2)) := rfl; omega, by omega⟩
  ·skip
   have d2 := of_decide_eq_false c2
   iterate 4 refine z ?_
   refine yQ rfl (fun c3 => ?_) fun c3 => ?_
   ·skip
    have d3 := of_decide_eq_true c3
    refine ok_regionL [0] [0, 1, 2, 3, 4] (oB := [2, 3]) (oK := [90031, 90900]) (by kernel_rfl) rfl rfl ?_
    refine l_take 0 rfl (by kernel_rfl) rfl rfl (pu_fieldBox hT rfl rfl rfl (ev_tmp rfl)) rfl rfl rfl rfl rfl ?_
    refine l_take 1 rfl (by kernel_rfl) rfl rfl (pu_loadBox1 hT rfl rfl (ev_tmp rfl) rfl rfl) rfl rfl rfl rfl rfl ?_
    refine l_take 2 rfl (by kernel_rfl) rfl rfl (pu_move (.inl rfl) (ev_abox (ev_tmp rfl))) rfl rfl rfl rfl rfl ?_
    refine l_split 3 [] (by kernel_rfl) ⟨?_, trivial⟩
    refine y_callB 22000 3 rfl rfl rfl rfl rfl Tryz.call55 (ok_spec_l6Any (code := code) (i := i7) (h := h7) (by omega) (by omega)) (ev_tmp rfl) rfl ac_arg rfl (fun _ => rfl) ad_nil rfl (fun _ => rfl) (fun _ => rfl) rfl (fun zz hz22 => ?_)
    obtain ⟨e22, i22, h22⟩ := zz
    replace hz22 : wStore e22 ≤ 1500 ∧ 0 ≤ i22 := hz22
    refine l_split 4 [] (by kernel_rfl) ⟨?_, trivial⟩
    refine y_buildN (k := 23) (js := [31001]) 4 hT rfl rfl rfl rfl rfl rfl rfl rfl rfl rfl rfl rfl (ep_cons (ev_tmp rfl) rfl rfl rfl ep_nil) (ow_cons' (ow_dv rfl) (ow_cons' (ow_key rfl) (ow_cons' (ow_dv rfl) ow_nil rfl) rfl) rfl) (by decide) (by decide) rfl rfl rfl rfl rfl ?_
    simp only [killT, killB, SV.kill, CV.kill, kk, Nat.reduceBEq]
    refine l_chain [5, 6, 7] rfl rfl (by kernel_rfl) ?_
    refine o_appK (k := 90031) (j := 23) (cs := (e5.2.2.1 ++ [e22]).flatMap eStore) (n := (e5.2.2.1 ++ [e22]).length) hT rfl rfl rfl rfl rfl rfl rfl (ev_tmp rfl) rfl rfl rfl (ev_tmp rfl) rfl rfl (by decide) (by dsimp only [kcOf, KC.old, storesD, listD]; omega) (by dsimp only [kcOf, KC.old, storesD, listD]; omega) (by rw [List.length_append]; rfl) (by rw [List.flatMap_append]; rfl) ?_
    simp only [killT, killB, SV.kill, CV.kill, kk, Nat.reduceBEq]
    iterate 2 refine z ?_
    refine ops_nil ?_
    iterate 6 refine z ?_
    refine ok_weak (σ' := ⟨[(2, .box 2 0), (0, .abox 0)], [(2, 27, [(.dv [] (.str (e5.1))), (.dv [] (.int .i64 (e5.2.1))), (.key 90031), (.key 90900)]), (0, 92, [(.arg 900001 (bytesD (code))), (.dv [] (.int .i64 (i22))), (.dv [] (.int .i64 (h22)))])], [(90031, some (kcOf false (.sl 37 3 ((e5.2.2.1 ++ [e22]).length) ((e5.2.2.1 ++ [e22]).flatMap eStore)))), (90900, some (kcOf false (defsD (e5.2.2.2))))]⟩) (weak_sub ⟨rfl, rfl, trivial⟩ ⟨rfl, rfl, trivial⟩ ⟨rfl, rfl, trivial⟩ rfl) ?_
    refine z ?_
    refine fin1 (res_cell hT rfl rfl rfl rfl) ⟨(((e5.1), ((e5.2.1), (((e5.2.2.1 ++ [e22])), (e5.2.2.2)))), i22, h22), ?_, rfl, rfl, rfl, rfl⟩
    try dsimp only
    exact ⟨by have h2 : wDatabase (e5.1, e5.2.1, (e5.2.2.1 ++ [e22]), e5.2.2.2) = (e5.1).size + (((e5.2.2.1 ++ [e22])).length + wSum wStore ((e5.2.2.1 ++ [e22]))) + ((e5.2.2.2).length + wSum wIndexDef (e5.2.2.2)) := rfl; have h3 : wSum wStore [e22] = wStore e22 := (by simp [wSum]); rw [wSum_app, h3, List.length_append, List.length_singleton] at h2; omega, by omega⟩
   ·skip
    have d3 := of_decide_eq_false c3
    iterate 4 refine z ?_
    refine yQ rfl (fun c4 => ?_) fun c4 => ?_
    ·skip
     have d4 := of_decide_eq_true c4
     refine ok_regionL [0] [0, 1, 2, 3, 4, 5, 6, 7, 8, 9] (oB := [2, 3]) (oK := [90031, 90900]) (by kernel_rfl) rfl rfl ?_
     refine l_take 0 rfl (by kernel_rfl) rfl rfl (pu_fieldBox hT rfl rfl rfl (ev_tmp rfl)) rfl rfl rfl rfl rfl ?_
     refine l_take 1 rfl (by kernel_rfl) rfl rfl (pu_loadBox1 hT rfl rfl (ev_tmp rfl) rfl rfl) rfl rfl rfl rfl rfl ?_
     refine l_take 2 rfl (by kernel_rfl) rfl rfl (pu_move (.inl rfl) (ev_abox (ev_tmp rfl))) rfl rfl rfl rfl rfl ?_
     refine l_take 5 rfl (by kernel_rfl) rfl rfl (pu_move (.inl rfl) (ev_abox (ev_tmp rfl))) rfl rfl rfl rfl rfl ?_
     refine l_split 3 [6] (by kernel_rfl) ⟨?_, ?_, trivial⟩
     ·skip
      refine y_buildN (k := 31) (js := []) 3 hT rfl rfl rfl rfl rfl rfl rfl rfl rfl rfl rfl rfl (ep_cons (ev_str (str_lit rfl)) rfl rfl rfl (ep_cons (ev_str (str_lit rfl)) rfl rfl rfl (ep_cons (ev_str (str_lit rfl)) rfl rfl rfl ep_nil))) (ow_cons' (ow_dv rfl) (ow_cons' (ow_dv rfl) (ow_cons' (ow_dv rfl) ow_nil rfl) rfl) rfl) (by decide) (by decide) rfl rfl rfl rfl rfl ?_
      simp only [killT, killB, SV.kill, CV.kill, kk, Nat.reduceBEq]
      refine l_split 4 [6] (by kernel_rfl) ⟨?_, ?_, trivial⟩
      ·skip
       refine y_callB 32000 4 rfl rfl rfl rfl rfl Tryz.call56 (ok_spec_l1Str (code := code) (i := i7) (h := h7) (l := [ByteArray.mk #[110, 111, 116, 101, 115], ByteArray.mk #[122, 122], ByteArray.mk #[116, 97, 103, 115]]) (by omega) (by omega) (by exact Nat.succ_pos _)) (ev_tmp rfl) rfl ac_arg rfl (fun _ => rfl) (ad_cons (ev_tmp rfl) (ag_one (ac_key' rfl rfl)) rfl ad_nil) rfl (fun _ => rfl) (fun _ => rfl) rfl (fun zz hz32 => ?_)
       obtain ⟨e32, i32, h32⟩ := zz
       replace hz32 : e32 ∈ ([ByteArray.mk #[110, 111, 116, 101, 115], ByteArray.mk #[122, 122], ByteArray.mk #[116, 97, 103, 115]]) ∧ 0 ≤ i32 := hz32
       have hs32 := size_of 5 (by decide +kernel) hz32.1
       refine l_split 6 [] (by kernel_rfl) ⟨?_, trivial⟩
       refine y_buildN (k := 34) (js := []) 6 hT rfl rfl rfl rfl rfl rfl rfl rfl rfl rfl rfl rfl (ep_cons (ev_str (str_lit rfl)) rfl rfl rfl (ep_cons (ev_str (str_lit rfl)) rfl rfl rfl (ep_cons (ev_str (str_lit rfl)) rfl rfl rfl ep_nil))) (ow_cons' (ow_dv rfl) (ow_cons' (ow_dv rfl) (ow_cons' (ow_dv rfl) ow_nil rfl) rfl) rfl) (by decide) (by decide) rfl rfl rfl rfl rfl ?_
       simp only [killT, killB, SV.kill, CV.kill, kk, Nat.reduceBEq]
       refine l_split 7 [] (by kernel_rfl) ⟨?_, trivial⟩
       refine y_callB 35000 7 rfl rfl rfl rfl rfl Tryz.call56 (ok_spec_l1Str (code := code) (i := i32) (h := h32) (l := [ByteArray.mk #[97], ByteArray.mk #[98], ByteArray.mk #[81]]) (by omega) (by omega) (by exact Nat.succ_pos _)) (ev_tmp rfl) rfl ac_arg rfl (fun _ => rfl) (ad_cons (ev_tmp rfl) (ag_one (ac_key' rfl rfl)) rfl ad_nil) rfl (fun _ => rfl) (fun _ => rfl) rfl (fun zz hz35 => ?_)
       obtain ⟨e35, i35, h35⟩ := zz
       replace hz35 : e35 ∈ ([ByteArray.mk #[97], ByteArray.mk #[98], ByteArray.mk #[81]]) ∧ 0 ≤ i35 := hz35
       have hs35 := size_of 5 (by decide +kernel) hz35.1
       refine l_take 8 rfl (by kernel_rfl) rfl rfl (pu_build hT hB rfl rfl rfl (bp_cons (ev_tmp rfl) rfl rfl rfl rfl rfl (bp_cons (ev_tmp rfl) rfl rfl rfl rfl rfl bp_nil))) rfl rfl rfl rfl rfl ?_
       refine l_split 9 [] (by kernel_rfl) ⟨?_, trivial⟩
       refine y_buildN (k := 37) (js := []) 9 hT rfl rfl rfl rfl rfl rfl rfl rfl rfl rfl rfl rfl (ep_cons (ev_tmp rfl) rfl rfl rfl ep_nil) (ow_cons' (ow_dv rfl) (ow_cons' (ow_dv rfl) ow_nil rfl) rfl) (by decide) (by decide) rfl rfl rfl rfl rfl ?_
       simp only [killT, killB, SV.kill, CV.kill, kk, Nat.reduceBEq]
       refine l_chain [10, 11, 12] rfl rfl (by kernel_rfl) ?_
       refine o_appK (k := 90900) (j := 37) (cs := (e5.2.2.2 ++ [(e32, e35)]).flatMap eDef) (n := (e5.2.2.2 ++ [(e32, e35)]).length) hT rfl rfl rfl rfl rfl rfl rfl (ev_tmp rfl) rfl rfl rfl (ev_tmp rfl) rfl rfl (by decide) (by dsimp only [kcOf, KC.old, defsD, listD]; omega) (by dsimp only [kcOf, KC.old, defsD, listD]; omega) (by rw [List.length_append]; rfl) (by rw [List.flatMap_append]; rfl) ?_
       simp only [killT, killB, SV.kill, CV.kill, kk, Nat.reduceBEq]
       iterate 2 refine z ?_
       refine ops_nil ?_
       iterate 6 refine z ?_
       refine ok_weak (σ' := ⟨[(2, .box 2 0), (0, .abox 0)], [(2, 27, [(.dv [] (.str (e5.1))), (.dv [] (.int .i64 (e5.2.1))), (.key 90031), (.key 90900)]), (0, 92, [(.arg 900001 (bytesD (code))), (.dv [] (.int .i64 (i35))), (.dv [] (.int .i64 (h35)))])], [(90031, some (kcOf false (storesD (e5.2.2.1)))), (90900, some (kcOf false (.sl 72 2 ((e5.2.2.2 ++ [(e32, e35)]).length) ((e5.2.2.2 ++ [(e32, e35)]).flatMap eDef))))]⟩) (weak_sub ⟨rfl, rfl, trivial⟩ ⟨rfl, rfl, trivial⟩ ⟨rfl, rfl, trivial⟩ rfl) ?_
       refine z ?_
       refine fin1 (res_cell hT rfl rfl rfl rfl) ⟨(((e5.1), ((e5.2.1), ((e5.2.2.1), ((e5.2.2.2 ++ [(e32, e35)]))))), i35, h35), ?_, rfl, rfl, rfl, rfl⟩
       try dsimp only
       exact ⟨by have h2 : wDatabase (e5.1, e5.2.1, e5.2.2.1, (e5.2.2.2 ++ [(e32, e35)])) = (e5.1).size + ((e5.2.2.1).length + wSum wStore (e5.2.2.1)) + (((e5.2.2.2 ++ [(e32, e35)])).length + wSum wIndexDef ((e5.2.2.2 ++ [(e32, e35)]))) := rfl; have h3 : wSum wIndexDef [(e32, e35)] = e32.size + e35.size := (by simp [wSum, wIndexDef]); rw [wSum_app, h3, List.length_append, List.length_singleton] at h2; omega, by omega⟩
      ·skip
       refine y_buildN (k := 34) (js := []) 6 hT rfl rfl rfl rfl rfl rfl rfl rfl rfl rfl rfl rfl (ep_cons (ev_str (str_lit rfl)) rfl rfl rfl (ep_cons (ev_str (str_lit rfl)) rfl rfl rfl (ep_cons (ev_str (str_lit rfl)) rfl rfl rfl ep_nil))) (ow_cons' (ow_dv rfl) (ow_cons' (ow_dv rfl) (ow_cons' (ow_dv rfl) ow_nil rfl) rfl) rfl) (by decide) (by decide) rfl rfl rfl rfl rfl ?_
       simp only [killT, killB, SV.kill, CV.kill, kk, Nat.reduceBEq]
       refine l_split 4 [] (by kernel_rfl) ⟨?_, trivial⟩
       refine y_callB 32000 4 rfl rfl rfl rfl rfl Tryz.call56 (ok_spec_l1Str (code := code) (i := i7) (h := h7) (l := [ByteArray.mk #[110, 111, 116, 101, 115], ByteArray.mk #[122, 122], ByteArray.mk #[116, 97, 103, 115]]) (by omega) (by omega) (by exact Nat.succ_pos _)) (ev_tmp rfl) rfl ac_arg rfl (fun _ => rfl) (ad_cons (ev_tmp rfl) (ag_one (ac_key' rfl rfl)) rfl ad_nil) rfl (fun _ => rfl) (fun _ => rfl) rfl (fun zz hz32 => ?_)
       obtain ⟨e32, i32, h32⟩ := zz
       replace hz32 : e32 ∈ ([ByteArray.mk #[110, 111, 116, 101, 115], ByteArray.mk #[122, 122], ByteArray.mk #[116, 97, 103, 115]]) ∧ 0 ≤ i32 := hz32
       have hs32 := size_of 5 (by decide +kernel) hz32.1
       refine l_split 7 [] (by kernel_rfl) ⟨?_, trivial⟩
       refine y_callB 35000 7 rfl rfl rfl rfl rfl Tryz.call56 (ok_spec_l1Str (code := code) (i := i32) (h := h32) (l := [ByteArray.mk #[97], ByteArray.mk #[98], ByteArray.mk #[81]]) (by omega) (by omega) (by exact Nat.succ_pos _)) (ev_tmp rfl) rfl ac_arg rfl (fun _ => rfl) (ad_cons (ev_tmp rfl) (ag_one (ac_key' rfl rfl)) rfl ad_nil) rfl (fun _ => rfl) (fun _ => rfl) rfl (fun zz hz35 => ?_)
       obtain ⟨e35, i35, h35⟩ := zz
       replace hz35 : e35 ∈ ([ByteArray.mk #[97], ByteArray.mk #[98], ByteArray.mk #[81]]) ∧ 0 ≤ i35 := hz35
       have hs35 := size_of 5 (by decide +kernel) hz35.1
       refine l_take 8 rfl (by kernel_rfl) rfl rfl (pu_build hT hB rfl rfl rfl (bp_cons (ev_tmp rfl) rfl rfl rfl rfl rfl (bp_cons (ev_tmp rfl) rfl rfl rfl rfl rfl bp_nil))) rfl rfl rfl rfl rfl ?_
       refine l_split 9 [] (by kernel_rfl) ⟨?_, trivial⟩
       refine y_buildN (k := 37) (js := []) 9 hT rfl rfl rfl rfl rfl rfl rfl rfl rfl rfl rfl rfl (ep_cons (ev_tmp rfl) rfl rfl rfl ep_nil) (ow_cons' (ow_dv rfl) (ow_cons' (ow_dv rfl) ow_nil rfl) rfl) (by decide) (by decide) rfl rfl rfl rfl rfl ?_
       simp only [killT, killB, SV.kill, CV.kill, kk, Nat.reduceBEq]
       refine l_chain [10, 11, 12] rfl rfl (by kernel_rfl) ?_
       refine o_appK (k := 90900) (j := 37) (cs := (e5.2.2.2 ++ [(e32, e35)]).flatMap eDef) (n := (e5.2.2.2 ++ [(e32, e35)]).length) hT rfl rfl rfl rfl rfl rfl rfl (ev_tmp rfl) rfl rfl rfl (ev_tmp rfl) rfl rfl (by decide) (by dsimp only [kcOf, KC.old, defsD, listD]; omega) (by dsimp only [kcOf, KC.old, defsD, listD]; omega) (by rw [List.length_append]; rfl) (by rw [List.flatMap_append]; rfl) ?_
       simp only [killT, killB, SV.kill, CV.kill, kk, Nat.reduceBEq]
       iterate 2 refine z ?_
       refine ops_nil ?_
       iterate 6 refine z ?_
       refine ok_weak (σ' := ⟨[(2, .box 2 0), (0, .abox 0)], [(2, 27, [(.dv [] (.str (e5.1))), (.dv [] (.int .i64 (e5.2.1))), (.key 90031), (.key 90900)]), (0, 92, [(.arg 900001 (bytesD (code))), (.dv [] (.int .i64 (i35))), (.dv [] (.int .i64 (h35)))])], [(90031, some (kcOf false (storesD (e5.2.2.1)))), (90900, some (kcOf false (.sl 72 2 ((e5.2.2.2 ++ [(e32, e35)]).length) ((e5.2.2.2 ++ [(e32, e35)]).flatMap eDef))))]⟩) (weak_sub ⟨rfl, rfl, trivial⟩ ⟨rfl, rfl, trivial⟩ ⟨rfl, rfl, trivial⟩ rfl) ?_
       refine z ?_
       refine fin1 (res_cell hT rfl rfl rfl rfl) ⟨(((e5.1), ((e5.2.1), ((e5.2.2.1), ((e5.2.2.2 ++ [(e32, e35)]))))), i35, h35), ?_, rfl, rfl, rfl, rfl⟩
       try dsimp only
       exact ⟨by have h2 : wDatabase (e5.1, e5.2.1, e5.2.2.1, (e5.2.2.2 ++ [(e32, e35)])) = (e5.1).size + ((e5.2.2.1).length + wSum wStore (e5.2.2.1)) + (((e5.2.2.2 ++ [(e32, e35)])).length + wSum wIndexDef ((e5.2.2.2 ++ [(e32, e35)]))) := rfl; have h3 : wSum wIndexDef [(e32, e35)] = e32.size + e35.size := (by simp [wSum, wIndexDef]); rw [wSum_app, h3, List.length_append, List.length_singleton] at h2; omega, by omega⟩
     ·skip
      refine y_buildN (k := 34) (js := []) 6 hT rfl rfl rfl rfl rfl rfl rfl rfl rfl rfl rfl rfl (ep_cons (ev_str (str_lit rfl)) rfl rfl rfl (ep_cons (ev_str (str_lit rfl)) rfl rfl rfl (ep_cons (ev_str (str_lit rfl)) rfl rfl rfl ep_nil))) (ow_cons' (ow_dv rfl) (ow_cons' (ow_dv rfl) (ow_cons' (ow_dv rfl) ow_nil rfl) rfl) rfl) (by decide) (by decide) rfl rfl rfl rfl rfl ?_
      simp only [killT, killB, SV.kill, CV.kill, kk, Nat.reduceBEq]
      refine l_split 3 [] (by kernel_rfl) ⟨?_, trivial⟩
      refine y_buildN (k := 31) (js := []) 3 hT rfl rfl rfl rfl rfl rfl rfl rfl rfl rfl rfl rfl (ep_cons (ev_str (str_lit rfl)) rfl rfl rfl (ep_cons (ev_str (str_lit rfl)) rfl rfl rfl (ep_cons (ev_str (str_lit rfl)) rfl rfl rfl ep_nil))) (ow_cons' (ow_dv rfl) (ow_cons' (ow_dv rfl) (ow_cons' (ow_dv rfl) ow_nil rfl) rfl) rfl) (by decide) (by decide) rfl rfl rfl rfl rfl ?_
      simp only [killT, killB, SV.kill, CV.kill, kk, Nat.reduceBEq]
      refine l_split 4 [] (by kernel_rfl) ⟨?_, trivial⟩
      refine y_callB 32000 4 rfl rfl rfl rfl rfl Tryz.call56 (ok_spec_l1Str (code := code) (i := i7) (h := h7) (l := [ByteArray.mk #[110, 111, 116, 101, 115], ByteArray.mk #[122, 122], ByteArray.mk #[116, 97, 103, 115]]) (by omega) (by omega) (by exact Nat.succ_pos _)) (ev_tmp rfl) rfl ac_arg rfl (fun _ => rfl) (ad_cons (ev_tmp rfl) (ag_one (ac_key' rfl rfl)) rfl ad_nil) rfl (fun _ => rfl) (fun _ => rfl) rfl (fun zz hz32 => ?_)
      obtain ⟨e32, i32, h32⟩ := zz
      replace hz32 : e32 ∈ ([ByteArray.mk #[110, 111, 116, 101, 115], ByteArray.mk #[122, 122], ByteArray.mk #[116, 97, 103, 115]]) ∧ 0 ≤ i32 := hz32
      have hs32 := size_of 5 (by decide +kernel) hz32.1
      refine l_split 7 [] (by kernel_rfl) ⟨?_, trivial⟩
      refine y_callB 35000 7 rfl rfl rfl rfl rfl Tryz.call56 (ok_spec_l1Str (code := code) (i := i32) (h := h32) (l := [ByteArray.mk #[97], ByteArray.mk #[98], ByteArray.mk #[81]]) (by omega) (by omega) (by exact Nat.succ_pos _)) (ev_tmp rfl) rfl ac_arg rfl (fun _ => rfl) (ad_cons (ev_tmp rfl) (ag_one (ac_key' rfl rfl)) rfl ad_nil) rfl (fun _ => rfl) (fun _ => rfl) rfl (fun zz hz35 => ?_)
      obtain ⟨e35, i35, h35⟩ := zz
      replace hz35 : e35 ∈ ([ByteArray.mk #[97], ByteArray.mk #[98], ByteArray.mk #[81]]) ∧ 0 ≤ i35 := hz35
      have hs35 := size_of 5 (by decide +kernel) hz35.1
      refine l_take 8 rfl (by kernel_rfl) rfl rfl (pu_build hT hB rfl rfl rfl (bp_cons (ev_tmp rfl) rfl rfl rfl rfl rfl (bp_cons (ev_tmp rfl) rfl rfl rfl rfl rfl bp_nil))) rfl rfl rfl rfl rfl ?_
      refine l_split 9 [] (by kernel_rfl) ⟨?_, trivial⟩
      refine y_buildN (k := 37) (js := []) 9 hT rfl rfl rfl rfl rfl rfl rfl rfl rfl rfl rfl rfl (ep_cons (ev_tmp rfl) rfl rfl rfl ep_nil) (ow_cons' (ow_dv rfl) (ow_cons' (ow_dv rfl) ow_nil rfl) rfl) (by decide) (by decide) rfl rfl rfl rfl rfl ?_
      simp only [killT, killB, SV.kill, CV.kill, kk, Nat.reduceBEq]
      refine l_chain [10, 11, 12] rfl rfl (by kernel_rfl) ?_
      refine o_appK (k := 90900) (j := 37) (cs := (e5.2.2.2 ++ [(e32, e35)]).flatMap eDef) (n := (e5.2.2.2 ++ [(e32, e35)]).length) hT rfl rfl rfl rfl rfl rfl rfl (ev_tmp rfl) rfl rfl rfl (ev_tmp rfl) rfl rfl (by decide) (by dsimp only [kcOf, KC.old, defsD, listD]; omega) (by dsimp only [kcOf, KC.old, defsD, listD]; omega) (by rw [List.length_append]; rfl) (by rw [List.flatMap_append]; rfl) ?_
      simp only [killT, killB, SV.kill, CV.kill, kk, Nat.reduceBEq]
      iterate 2 refine z ?_
      refine ops_nil ?_
      iterate 6 refine z ?_
      refine ok_weak (σ' := ⟨[(2, .box 2 0), (0, .abox 0)], [(2, 27, [(.dv [] (.str (e5.1))), (.dv [] (.int .i64 (e5.2.1))), (.key 90031), (.key 90900)]), (0, 92, [(.arg 900001 (bytesD (code))), (.dv [] (.int .i64 (i35))), (.dv [] (.int .i64 (h35)))])], [(90031, some (kcOf false (storesD (e5.2.2.1)))), (90900, some (kcOf false (.sl 72 2 ((e5.2.2.2 ++ [(e32, e35)]).length) ((e5.2.2.2 ++ [(e32, e35)]).flatMap eDef))))]⟩) (weak_sub ⟨rfl, rfl, trivial⟩ ⟨rfl, rfl, trivial⟩ ⟨rfl, rfl, trivial⟩ rfl) ?_
      refine z ?_
      refine fin1 (res_cell hT rfl rfl rfl rfl) ⟨(((e5.1), ((e5.2.1), ((e5.2.2.1), ((e5.2.2.2 ++ [(e32, e35)]))))), i35, h35), ?_, rfl, rfl, rfl, rfl⟩
      try dsimp only
      exact ⟨by have h2 : wDatabase (e5.1, e5.2.1, e5.2.2.1, (e5.2.2.2 ++ [(e32, e35)])) = (e5.1).size + ((e5.2.2.1).length + wSum wStore (e5.2.2.1)) + (((e5.2.2.2 ++ [(e32, e35)])).length + wSum wIndexDef ((e5.2.2.2 ++ [(e32, e35)]))) := rfl; have h3 : wSum wIndexDef [(e32, e35)] = e32.size + e35.size := (by simp [wSum, wIndexDef]); rw [wSum_app, h3, List.length_append, List.length_singleton] at h2; omega, by omega⟩
    ·skip
     have d4 := of_decide_eq_false c4
     iterate 7 refine z ?_
     refine ok_weak (σ' := ⟨[(2, .box 2 0), (0, .abox 0)], [(2, 27, [(.dv [] (.str (e5.1))), (.dv [] (.int .i64 (e5.2.1))), (.key 90031), (.key 90900)]), (0, 92, [(.arg 900001 (bytesD (code))), (.dv [] (.int .i64 (i7))), (.dv [] (.int .i64 (h7)))])], [(90031, some (kcOf false (storesD (e5.2.2.1)))), (90900, some (kcOf false (defsD (e5.2.2.2))))]⟩) (weak_sub ⟨rfl, rfl, trivial⟩ ⟨rfl, rfl, trivial⟩ ⟨rfl, rfl, trivial⟩ rfl) ?_
     refine z ?_
     refine fin1 (res_cell hT rfl rfl rfl rfl) ⟨(((e5.1), ((e5.2.1), ((e5.2.2.1), (e5.2.2.2)))), i7, h7), ?_, rfl, rfl, rfl, rfl⟩
     try dsimp only
     exact ⟨by have h2 : wDatabase (e5.1, e5.2.1, e5.2.2.1, e5.2.2.2) = wDatabase e5 := rfl; omega, by omega⟩
end Go.Proofs.YtmnimdnmedldgaaGreat

namespace Go.Proofs.YtmnimdnmedldgaaGreat
open Go.RowKit
open Go.Proofs
set_option linter.unusedVariables false
set_option linter.unusedSimpArgs false

def plainO (o : OpT) : Prop := isKey o.2.2.1 = true ∨ o.2.2.1 = (0, 0, ByteArray.empty)
def opsOk (l : List OpT) : Prop := ∀ o ∈ l, isOpB o = true ∧ plainO o
theorem op_ok {k : Int} {s : Str} {q : KeyT} {r : RecT} {f : Str} (h1 : 1 ≤ k ∧ k ≤ 6) (hs : isName s = true) (hk : k = 5 ∨ isKey q = true) (hr : isRec r = true) (hf : (k = 6 ∧ isName f = true) ∨ (k ≠ 6 ∧ f = ByteArray.empty)) : isOpB (k, s, q, r, f) = true := by
 unfold isOpB
 simp only [hs, hr, Bool.and_eq_true, Bool.or_eq_true, decide_eq_true_eq, and_true]
 refine ⟨⟨h1, hk⟩, ?_⟩
 rcases hf with ⟨h2, h3⟩ | ⟨h2, h3⟩
 ·exact .inl ⟨h2, h3⟩
 ·refine .inr ?_
  subst h3
  first | exact ⟨by simpa using h2, rfl⟩ | (simp [h2]; rfl) | (simp [h2]; decide +kernel)
theorem op_wt {o : OpT} (h : isOpB o = true) (hp : plainO o) : wOp o ≤ 90 := by
 have h0 : wOp o = o.2.1.size + wKey o.2.2.1 + wRecord o.2.2.2.1 + o.2.2.2.2.size := rfl
 have h1 : wKey o.2.2.1 = o.2.2.1.2.2.size := rfl
 simp only [isOpB, Bool.and_eq_true, Bool.or_eq_true, decide_eq_true_eq] at h
 have h2 := name_size h.1.1.1.2
 have h3 := rec_wt h.1.2
 have h4 : o.2.2.1.2.2.size ≤ 12 := by
  rcases hp with hp | hp
  ·exact key_size hp
  ·rw [hp]; decide
 have h5 : o.2.2.2.2.size ≤ 8 := by
  rcases h.2 with h6 | h6
  ·exact (name_size h6.2).2
  ·rw [sEq_iff.1 h6.2]; decide
 omega

theorem ok_spec_l9Op {code : List UInt8} {i h : Int} (hc : code.length ≤ 1048576) (hi : 0 ≤ i) : BFn Tryz.prog 51 [] 92 (bytesD (code)) [.dv [] (.int .i64 (i)), .dv [] (.int .i64 (h))] (fun zz : OpT × Int × Int => isOpB zz.1 = true ∧ plainO zz.1 ∧ 0 ≤ zz.2.1) (fun zz : OpT × Int × Int => .agg [(.dv [] (.int .i64 (zz.1.1))), (.dv [] (.str (zz.1.2.1))), (.dv [] (.int .i64 (zz.1.2.2.1.1))), (.dv [] (.int .i64 (zz.1.2.2.1.2.1))), (.dv [] (.str (zz.1.2.2.1.2.2))), (.key 9001), (.dv [] (.str (zz.1.2.2.2.2)))]) (fun zz : OpT × Int × Int => [(9001, some (kcOf false (fieldsD (zz.1.2.2.2.1))))]) (fun zz : OpT × Int × Int => [.dv [] (.int .i64 (zz.2.1)), .dv [] (.int .i64 (zz.2.2))]) := by
 refine ⟨fn_introS Tryz.func51 rfl Tryz.ntmps51 Tryz.results51 rfl (fun C => ?_)⟩
 iterate 4 refine z ?_
 refine yO rfl rfl (pu_move (.inl rfl) (ev_abox (ev_tmp rfl))) rfl ?_
 refine o_callB 5000 rfl rfl rfl Tryz.call26 (ok_spec_l1Below (code := code) (i := i) (h := h) (n := 6) (by omega) (by omega) ) (ev_tmp rfl) rfl ac_arg rfl (fun _ => rfl) (ad_cons (ev_int (inR_lit rfl)) (ag_one ac_dv) rfl ad_nil) rfl (fun _ => rfl) (fun _ => rfl) (fun zz hz5 => ?_)
 obtain ⟨e5, i5, h5⟩ := zz
 replace hz5 : 0 ≤ e5 ∧ (0 < (6 : Int) → e5 < (6 : Int)) ∧ 0 ≤ i5 := hz5
 have h56 := hz5.2.1 (by omega)
 refine z ?_
 refine yO rfl rfl (pu_move (.inl rfl) (ev_abox (ev_tmp rfl))) rfl ?_
 refine o_buildN (k := 8) (js := []) hT rfl rfl rfl rfl rfl rfl rfl rfl rfl rfl rfl (ep_cons (ev_str (str_lit rfl)) rfl rfl rfl (ep_cons (ev_str (str_lit rfl)) rfl rfl rfl (ep_cons (ev_str (str_lit rfl)) rfl rfl rfl (ep_cons (ev_str (str_lit rfl)) rfl rfl rfl ep_nil)))) (ow_cons' (ow_dv rfl) (ow_cons' (ow_dv rfl) (ow_cons' (ow_dv rfl) (ow_cons' (ow_dv rfl) ow_nil rfl) rfl) rfl) rfl) (by decide) (by decide) rfl rfl ?_
 simp only [killT, killB, SV.kill, CV.kill, kk, Nat.reduceBEq]
 refine o_callB 9000 rfl rfl rfl Tryz.call56 (ok_spec_l1Str (code := code) (i := i5) (h := h5) (l := [ByteArray.mk #[110, 111, 116, 101, 115], ByteArray.mk #[116, 97, 103, 115], ByteArray.mk #[110, 111, 116, 101, 115], ByteArray.mk #[108, 105, 115, 116, 115]]) (by omega) (by omega) (by exact Nat.succ_pos _)) (ev_tmp rfl) rfl ac_arg rfl (fun _ => rfl) (ad_cons (ev_tmp rfl) (ag_one (ac_key' rfl rfl)) rfl ad_nil) rfl (fun _ => rfl) (fun _ => rfl) (fun zz hz9 => ?_)
 obtain ⟨e9, i9, h9⟩ := zz
 replace hz9 : e9 ∈ ([ByteArray.mk #[110, 111, 116, 101, 115], ByteArray.mk #[116, 97, 103, 115], ByteArray.mk #[110, 111, 116, 101, 115], ByteArray.mk #[108, 105, 115, 116, 115]]) ∧ 0 ≤ i9 := hz9
 refine yO rfl rfl (pu_move (.inl rfl) (ev_abox (ev_tmp rfl))) rfl ?_
 refine o_callB 11000 rfl rfl rfl Tryz.call83 (ok_spec_l4Small (code := code) (i := i9) (h := h9) (by omega) (by omega)) (ev_tmp rfl) rfl ac_arg rfl (fun _ => rfl) ad_nil rfl (fun _ => rfl) (fun _ => rfl) (fun zz hz11 => ?_)
 obtain ⟨e11, i11, h11⟩ := zz
 replace hz11 : isKey e11 = true ∧ smallK e11 ∧ 0 ≤ i11 := hz11
 refine yO rfl rfl (pu_build hT hB rfl rfl rfl (bp_cons (ev_tmp rfl) rfl rfl rfl rfl rfl (bp_cons (ev_tmp rfl) rfl rfl rfl rfl rfl (bp_cons (ev_tmp rfl) rfl rfl rfl rfl rfl bp_nil)))) rfl ?_
 iterate 3 refine z ?_
 refine ok_seq ?_
 refine ok_seq ?_
 refine ok_weak (σ' := ⟨[(0, .abox 0), (2, .box 2 0), (3, .box 3 0)], [(0, 92, [(.arg 900001 (bytesD (code))), (.dv [] (.int .i64 (i11))), (.dv [] (.int .i64 (h11)))]), (2, 61, [(.dv [] (.int .i64 (0))), (.dv [] (.str (ByteArray.empty))), (.dv [] (.int .i64 (0))), (.dv [] (.int .i64 (0))), (.dv [] (.str (ByteArray.empty))), .nil, (.dv [] (.str (ByteArray.empty)))]), (3, 61, [(.dv [] (.int .i64 ((1) + (e5)))), (.dv [] (.str (e9))), (.dv [] (.int .i64 (e11.1))), (.dv [] (.int .i64 (e11.2.1))), (.dv [] (.str (e11.2.2))), .nil, (.dv [] (.str (ByteArray.empty)))])], []⟩) (weak_sub ⟨rfl, rfl, rfl, trivial⟩ ⟨rfl, rfl, rfl, trivial⟩ trivial rfl) ?_
 refine ok_region ?_
 iterate 9 refine z ?_
 refine yQ rfl (fun c1 => ?_) fun c1 => ?_
 ·skip
  have d1 := of_decide_eq_true c1
  iterate 2 refine z ?_
  refine yQ rfl (fun c2 => ?_) fun c2 => ?_
  ·skip
   have d2 := of_decide_eq_true c2
   refine ok_region ?_
   refine yO rfl rfl (pu_move (.inl rfl) (ev_abox (ev_tmp rfl))) rfl ?_
   refine o_callB 0 rfl rfl rfl Tryz.call84 (ok_spec_l5Record (code := code) (i := i11) (h := h11) (by omega) (by omega)) (ev_tmp rfl) rfl ac_arg rfl (fun _ => rfl) ad_nil rfl (fun _ => rfl) (fun _ => rfl) (fun zz hz19 => ?_)
   obtain ⟨e19, i19, h19⟩ := zz
   replace hz19 : isRec e19 = true ∧ 0 ≤ i19 := hz19
   iterate 2 refine z ?_
   refine ops_nil ?_
   iterate 2 refine z ?_
   refine ok_seq ?_
   refine ok_weak (σ' := ⟨[(0, .abox 0), (2, .box 2 0), (3, .box 3 0)], [(0, 92, [(.arg 900001 (bytesD (code))), (.dv [] (.int .i64 (i19))), (.dv [] (.int .i64 (h19)))]), (2, 61, [(.dv [] (.int .i64 (0))), (.dv [] (.str (ByteArray.empty))), (.dv [] (.int .i64 (0))), (.dv [] (.int .i64 (0))), (.dv [] (.str (ByteArray.empty))), .nil, (.dv [] (.str (ByteArray.empty)))]), (3, 61, [(.dv [] (.int .i64 ((1) + (e5)))), (.dv [] (.str (e9))), (.dv [] (.int .i64 (e11.1))), (.dv [] (.int .i64 (e11.2.1))), (.dv [] (.str (e11.2.2))), (.key 9001), (.dv [] (.str (ByteArray.empty)))])], [(9001, some (kcOf false (fieldsD (e19))))]⟩) (weak_sub ⟨rfl, rfl, rfl, trivial⟩ ⟨rfl, rfl, rfl, trivial⟩ ⟨rfl, trivial⟩ rfl) ?_
   refine ok_region ?_
   iterate 3 refine z ?_
   refine ok_weak (σ' := ⟨[(2, .box 2 0), (0, .abox 0)], [(2, 61, [(.dv [] (.int .i64 ((1) + (e5)))), (.dv [] (.str (e9))), (.dv [] (.int .i64 (e11.1))), (.dv [] (.int .i64 (e11.2.1))), (.dv [] (.str (e11.2.2))), (.key 9001), (.dv [] (.str (ByteArray.empty)))]), (0, 92, [(.arg 900001 (bytesD (code))), (.dv [] (.int .i64 (i19))), (.dv [] (.int .i64 (h19)))])], [(9001, some (kcOf false (fieldsD (e19))))]⟩) (weak_sub ⟨rfl, rfl, trivial⟩ ⟨rfl, rfl, trivial⟩ ⟨rfl, trivial⟩ rfl) ?_
   refine z ?_
   refine fin1 (res_cell hT rfl rfl rfl rfl) ⟨((((1) + (e5)), ((e9), (((e11.1), ((e11.2.1), (e11.2.2))), ((e19), (ByteArray.empty))))), i19, h19), ?_, rfl, rfl, rfl, rfl⟩
   try dsimp only
   exact ⟨op_ok (by omega) (name_of (l := [ByteArray.mk #[110, 111, 116, 101, 115], ByteArray.mk #[116, 97, 103, 115], ByteArray.mk #[110, 111, 116, 101, 115], ByteArray.mk #[108, 105, 115, 116, 115]]) (by decide +kernel) hz9.1) (.inr hz11.1) hz19.1 (.inr ⟨by omega, rfl⟩), .inl hz11.1, by omega⟩
  ·exact absurd (c1.symm.trans c2) (by decide)
 ·skip
  have d1 := of_decide_eq_false c1
  refine ok_region ?_
  iterate 3 refine z ?_
  refine yQ rfl (fun c3 => ?_) fun c3 => ?_
  ·skip
   have d3 := of_decide_eq_true c3
   refine ok_region ?_
   refine yO rfl rfl (pu_move (.inl rfl) (ev_abox (ev_tmp rfl))) rfl ?_
   refine o_callB 0 rfl rfl rfl Tryz.call84 (ok_spec_l5Record (code := code) (i := i11) (h := h11) (by omega) (by omega)) (ev_tmp rfl) rfl ac_arg rfl (fun _ => rfl) ad_nil rfl (fun _ => rfl) (fun _ => rfl) (fun zz hz19 => ?_)
   obtain ⟨e19, i19, h19⟩ := zz
   replace hz19 : isRec e19 = true ∧ 0 ≤ i19 := hz19
   iterate 2 refine z ?_
   refine ops_nil ?_
   iterate 2 refine z ?_
   refine ok_seq ?_
   refine ok_weak (σ' := ⟨[(0, .abox 0), (2, .box 2 0), (3, .box 3 0)], [(0, 92, [(.arg 900001 (bytesD (code))), (.dv [] (.int .i64 (i19))), (.dv [] (.int .i64 (h19)))]), (2, 61, [(.dv [] (.int .i64 (0))), (.dv [] (.str (ByteArray.empty))), (.dv [] (.int .i64 (0))), (.dv [] (.int .i64 (0))), (.dv [] (.str (ByteArray.empty))), .nil, (.dv [] (.str (ByteArray.empty)))]), (3, 61, [(.dv [] (.int .i64 ((1) + (e5)))), (.dv [] (.str (e9))), (.dv [] (.int .i64 (e11.1))), (.dv [] (.int .i64 (e11.2.1))), (.dv [] (.str (e11.2.2))), (.key 9001), (.dv [] (.str (ByteArray.empty)))])], [(9001, some (kcOf false (fieldsD (e19))))]⟩) (weak_sub ⟨rfl, rfl, rfl, trivial⟩ ⟨rfl, rfl, rfl, trivial⟩ ⟨rfl, trivial⟩ rfl) ?_
   refine ok_region ?_
   iterate 3 refine z ?_
   refine ok_weak (σ' := ⟨[(2, .box 2 0), (0, .abox 0)], [(2, 61, [(.dv [] (.int .i64 ((1) + (e5)))), (.dv [] (.str (e9))), (.dv [] (.int .i64 (e11.1))), (.dv [] (.int .i64 (e11.2.1))), (.dv [] (.str (e11.2.2))), (.key 9001), (.dv [] (.str (ByteArray.empty)))]), (0, 92, [(.arg 900001 (bytesD (code))), (.dv [] (.int .i64 (i19))), (.dv [] (.int .i64 (h19)))])], [(9001, some (kcOf false (fieldsD (e19))))]⟩) (weak_sub ⟨rfl, rfl, trivial⟩ ⟨rfl, rfl, trivial⟩ ⟨rfl, trivial⟩ rfl) ?_
   refine z ?_
   refine fin1 (res_cell hT rfl rfl rfl rfl) ⟨((((1) + (e5)), ((e9), (((e11.1), ((e11.2.1), (e11.2.2))), ((e19), (ByteArray.empty))))), i19, h19), ?_, rfl, rfl, rfl, rfl⟩
   try dsimp only
   exact ⟨op_ok (by omega) (name_of (l := [ByteArray.mk #[110, 111, 116, 101, 115], ByteArray.mk #[116, 97, 103, 115], ByteArray.mk #[110, 111, 116, 101, 115], ByteArray.mk #[108, 105, 115, 116, 115]]) (by decide +kernel) hz9.1) (.inr hz11.1) hz19.1 (.inr ⟨by omega, rfl⟩), .inl hz11.1, by omega⟩
  ·skip
   have d3 := of_decide_eq_false c3
   iterate 4 refine z ?_
   refine yQ rfl (fun c4 => ?_) fun c4 => ?_
   ·skip
    have d4 := of_decide_eq_true c4
    refine ok_region ?_
    refine yO rfl rfl (pu_move (.inl rfl) (ev_abox (ev_tmp rfl))) rfl ?_
    refine o_callB 24000 rfl rfl rfl Tryz.call58 (ok_spec_l5Name (code := code) (i := i11) (h := h11) (by omega) (by omega)) (ev_tmp rfl) rfl ac_arg rfl (fun _ => rfl) ad_nil rfl (fun _ => rfl) (fun _ => rfl) (fun zz hz24 => ?_)
    obtain ⟨e24, i24, h24⟩ := zz
    replace hz24 : isName e24 = true ∧ 0 ≤ i24 := hz24
    iterate 2 refine z ?_
    refine ops_nil ?_
    iterate 2 refine z ?_
    refine ok_seq ?_
    refine ok_weak (σ' := ⟨[(0, .abox 0), (2, .box 2 0), (3, .box 3 0)], [(0, 92, [(.arg 900001 (bytesD (code))), (.dv [] (.int .i64 (i24))), (.dv [] (.int .i64 (h24)))]), (2, 61, [(.dv [] (.int .i64 (0))), (.dv [] (.str (ByteArray.empty))), (.dv [] (.int .i64 (0))), (.dv [] (.int .i64 (0))), (.dv [] (.str (ByteArray.empty))), .nil, (.dv [] (.str (ByteArray.empty)))]), (3, 61, [(.dv [] (.int .i64 ((1) + (e5)))), (.dv [] (.str (e9))), (.dv [] (.int .i64 (e11.1))), (.dv [] (.int .i64 (e11.2.1))), (.dv [] (.str (e11.2.2))), .nil, (.dv [] (.str (e24)))])], []⟩) (weak_sub ⟨rfl, rfl, rfl, trivial⟩ ⟨rfl, rfl, rfl, trivial⟩ trivial rfl) ?_
    refine ok_region ?_
    iterate 3 refine z ?_
    refine ok_weak (weak_nilB 9001 (b := 2) (i := 5) (e := 102) (sz := 2) rfl rfl rfl rfl rfl) ?_
    refine ok_weak (σ' := ⟨[(2, .box 2 0), (0, .abox 0)], [(2, 61, [(.dv [] (.int .i64 ((1) + (e5)))), (.dv [] (.str (e9))), (.dv [] (.int .i64 (e11.1))), (.dv [] (.int .i64 (e11.2.1))), (.dv [] (.str (e11.2.2))), (.key 9001), (.dv [] (.str (e24)))]), (0, 92, [(.arg 900001 (bytesD (code))), (.dv [] (.int .i64 (i24))), (.dv [] (.int .i64 (h24)))])], [(9001, some (kcOf false (.sl 102 2 (0) ([]))))]⟩) (weak_sub ⟨rfl, rfl, trivial⟩ ⟨rfl, rfl, trivial⟩ ⟨rfl, trivial⟩ rfl) ?_
    refine z ?_
    refine fin1 (res_cell hT rfl rfl rfl rfl) ⟨((((1) + (e5)), ((e9), (((e11.1), ((e11.2.1), (e11.2.2))), (([]), (e24))))), i24, h24), ?_, rfl, rfl, rfl, rfl⟩
    try dsimp only
    exact ⟨op_ok (by omega) (name_of (l := [ByteArray.mk #[110, 111, 116, 101, 115], ByteArray.mk #[116, 97, 103, 115], ByteArray.mk #[110, 111, 116, 101, 115], ByteArray.mk #[108, 105, 115, 116, 115]]) (by decide +kernel) hz9.1) (.inr hz11.1) (show isRec [] = true from rfl) (.inl ⟨by omega, hz24.1⟩), .inl hz11.1, by omega⟩
   ·skip
    have d4 := of_decide_eq_false c4
    iterate 4 refine z ?_
    refine yQ rfl (fun c5 => ?_) fun c5 => ?_
    ·skip
     have d5 := of_decide_eq_true c5
     refine z ?_
     refine yO rfl rfl (pu_build hT hB rfl rfl rfl bp_nil) rfl ?_
     iterate 4 refine z ?_
     refine yO rfl rfl (pu_move (.inl rfl) (ev_abox (ev_tmp rfl))) rfl ?_
     refine o_callB 31000 rfl rfl rfl Tryz.call43 (ok_spec_l1Once (code := code) (i := i11) (h := h11) (n := 2) (by omega) (by omega) ) (ev_tmp rfl) rfl ac_arg rfl (fun _ => rfl) (ad_cons (ev_int (inR_lit rfl)) (ag_one ac_dv) rfl ad_nil) rfl (fun _ => rfl) (fun _ => rfl) (fun zz hz31 => ?_)
     obtain ⟨e31, i31, h31⟩ := zz
     replace hz31 : 0 ≤ i31 := hz31
     refine z ?_
     refine yQ rfl (fun c6 => ?_) fun c6 => ?_
     ·skip
      iterate 2 refine z ?_
      refine o_store hT rfl rfl rfl rfl (ev_tmp rfl) (ev_int (inR_lit rfl)) rfl rfl rfl rfl rfl rfl ?_
      refine z ?_
      refine ok_region ?_
      refine yO rfl rfl (pu_move (.inl rfl) (ev_abox (ev_tmp rfl))) rfl ?_
      refine o_callB 34000 rfl rfl rfl Tryz.call83 (ok_spec_l4Small (code := code) (i := i31) (h := h31) (by omega) (by omega)) (ev_tmp rfl) rfl ac_arg rfl (fun _ => rfl) ad_nil rfl (fun _ => rfl) (fun _ => rfl) (fun zz hz34 => ?_)
      obtain ⟨e34, i34, h34⟩ := zz
      replace hz34 : isKey e34 = true ∧ smallK e34 ∧ 0 ≤ i34 := hz34
      iterate 2 refine z ?_
      refine ops_nil ?_
      iterate 2 refine z ?_
      refine ok_seq ?_
      refine ok_weak (σ' := ⟨[(0, .abox 0), (2, .box 2 0), (3, .box 3 0)], [(0, 92, [(.arg 900001 (bytesD (code))), (.dv [] (.int .i64 (i34))), (.dv [] (.int .i64 (h34)))]), (2, 61, [(.dv [] (.int .i64 (0))), (.dv [] (.str (ByteArray.empty))), (.dv [] (.int .i64 (0))), (.dv [] (.int .i64 (0))), (.dv [] (.str (ByteArray.empty))), .nil, (.dv [] (.str (ByteArray.empty)))]), (3, 61, [(.dv [] (.int .i64 (1))), (.dv [] (.str (e9))), (.dv [] (.int .i64 (e34.1))), (.dv [] (.int .i64 (e34.2.1))), (.dv [] (.str (e34.2.2))), .nil, (.dv [] (.str (ByteArray.empty)))])], []⟩) (weak_sub ⟨rfl, rfl, rfl, trivial⟩ ⟨rfl, rfl, rfl, trivial⟩ trivial rfl) ?_
      refine ok_region ?_
      iterate 3 refine z ?_
      refine ok_weak (weak_nilB 9001 (b := 2) (i := 5) (e := 102) (sz := 2) rfl rfl rfl rfl rfl) ?_
      refine ok_weak (σ' := ⟨[(2, .box 2 0), (0, .abox 0)], [(2, 61, [(.dv [] (.int .i64 (1))), (.dv [] (.str (e9))), (.dv [] (.int .i64 (e34.1))), (.dv [] (.int .i64 (e34.2.1))), (.dv [] (.str (e34.2.2))), (.key 9001), (.dv [] (.str (ByteArray.empty)))]), (0, 92, [(.arg 900001 (bytesD (code))), (.dv [] (.int .i64 (i34))), (.dv [] (.int .i64 (h34)))])], [(9001, some (kcOf false (.sl 102 2 (0) ([]))))]⟩) (weak_sub ⟨rfl, rfl, trivial⟩ ⟨rfl, rfl, trivial⟩ ⟨rfl, trivial⟩ rfl) ?_
      refine z ?_
      refine fin1 (res_cell hT rfl rfl rfl rfl) ⟨(((1), ((e9), (((e34.1), ((e34.2.1), (e34.2.2))), (([]), (ByteArray.empty))))), i34, h34), ?_, rfl, rfl, rfl, rfl⟩
      try dsimp only
      exact ⟨op_ok (by omega) (name_of (l := [ByteArray.mk #[110, 111, 116, 101, 115], ByteArray.mk #[116, 97, 103, 115], ByteArray.mk #[110, 111, 116, 101, 115], ByteArray.mk #[108, 105, 115, 116, 115]]) (by decide +kernel) hz9.1) (.inr hz34.1) (show isRec [] = true from rfl) (.inr ⟨by omega, rfl⟩), .inl hz34.1, by omega⟩
     ·skip
      iterate 3 refine z ?_
      refine ok_seq ?_
      refine ok_weak (σ' := ⟨[(0, .abox 0), (2, .box 2 0), (3, .box 3 0)], [(0, 92, [(.arg 900001 (bytesD (code))), (.dv [] (.int .i64 (i31))), (.dv [] (.int .i64 (h31)))]), (2, 61, [(.dv [] (.int .i64 (0))), (.dv [] (.str (ByteArray.empty))), (.dv [] (.int .i64 (0))), (.dv [] (.int .i64 (0))), (.dv [] (.str (ByteArray.empty))), .nil, (.dv [] (.str (ByteArray.empty)))]), (3, 61, [(.dv [] (.int .i64 ((1) + (e5)))), (.dv [] (.str (e9))), (.dv [] (.int .i64 (0))), (.dv [] (.int .i64 (0))), (.dv [] (.str (ByteArray.empty))), .nil, (.dv [] (.str (ByteArray.empty)))])], []⟩) (weak_sub ⟨rfl, rfl, rfl, trivial⟩ ⟨rfl, rfl, rfl, trivial⟩ trivial rfl) ?_
      refine ok_region ?_
      iterate 3 refine z ?_
      refine ok_weak (weak_nilB 9001 (b := 2) (i := 5) (e := 102) (sz := 2) rfl rfl rfl rfl rfl) ?_
      refine ok_weak (σ' := ⟨[(2, .box 2 0), (0, .abox 0)], [(2, 61, [(.dv [] (.int .i64 ((1) + (e5)))), (.dv [] (.str (e9))), (.dv [] (.int .i64 (0))), (.dv [] (.int .i64 (0))), (.dv [] (.str (ByteArray.empty))), (.key 9001), (.dv [] (.str (ByteArray.empty)))]), (0, 92, [(.arg 900001 (bytesD (code))), (.dv [] (.int .i64 (i31))), (.dv [] (.int .i64 (h31)))])], [(9001, some (kcOf false (.sl 102 2 (0) ([]))))]⟩) (weak_sub ⟨rfl, rfl, trivial⟩ ⟨rfl, rfl, trivial⟩ ⟨rfl, trivial⟩ rfl) ?_
      refine z ?_
      refine fin1 (res_cell hT rfl rfl rfl rfl) ⟨((((1) + (e5)), ((e9), (((0), ((0), (ByteArray.empty))), (([]), (ByteArray.empty))))), i31, h31), ?_, rfl, rfl, rfl, rfl⟩
      try dsimp only
      exact ⟨op_ok (by omega) (name_of (l := [ByteArray.mk #[110, 111, 116, 101, 115], ByteArray.mk #[116, 97, 103, 115], ByteArray.mk #[110, 111, 116, 101, 115], ByteArray.mk #[108, 105, 115, 116, 115]]) (by decide +kernel) hz9.1) (.inl (by omega)) (show isRec [] = true from rfl) (.inr ⟨by omega, rfl⟩), .inr rfl, by omega⟩
    ·skip
     have d5 := of_decide_eq_false c5
     iterate 3 refine z ?_
     refine ok_seq ?_
     refine ok_weak (σ' := ⟨[(0, .abox 0), (2, .box 2 0), (3, .box 3 0)], [(0, 92, [(.arg 900001 (bytesD (code))), (.dv [] (.int .i64 (i11))), (.dv [] (.int .i64 (h11)))]), (2, 61, [(.dv [] (.int .i64 (0))), (.dv [] (.str (ByteArray.empty))), (.dv [] (.int .i64 (0))), (.dv [] (.int .i64 (0))), (.dv [] (.str (ByteArray.empty))), .nil, (.dv [] (.str (ByteArray.empty)))]), (3, 61, [(.dv [] (.int .i64 ((1) + (e5)))), (.dv [] (.str (e9))), (.dv [] (.int .i64 (e11.1))), (.dv [] (.int .i64 (e11.2.1))), (.dv [] (.str (e11.2.2))), .nil, (.dv [] (.str (ByteArray.empty)))])], []⟩) (weak_sub ⟨rfl, rfl, rfl, trivial⟩ ⟨rfl, rfl, rfl, trivial⟩ trivial rfl) ?_
     refine ok_region ?_
     iterate 3 refine z ?_
     refine ok_weak (weak_nilB 9001 (b := 2) (i := 5) (e := 102) (sz := 2) rfl rfl rfl rfl rfl) ?_
     refine ok_weak (σ' := ⟨[(2, .box 2 0), (0, .abox 0)], [(2, 61, [(.dv [] (.int .i64 ((1) + (e5)))), (.dv [] (.str (e9))), (.dv [] (.int .i64 (e11.1))), (.dv [] (.int .i64 (e11.2.1))), (.dv [] (.str (e11.2.2))), (.key 9001), (.dv [] (.str (ByteArray.empty)))]), (0, 92, [(.arg 900001 (bytesD (code))), (.dv [] (.int .i64 (i11))), (.dv [] (.int .i64 (h11)))])], [(9001, some (kcOf false (.sl 102 2 (0) ([]))))]⟩) (weak_sub ⟨rfl, rfl, trivial⟩ ⟨rfl, rfl, trivial⟩ ⟨rfl, trivial⟩ rfl) ?_
     refine z ?_
     refine fin1 (res_cell hT rfl rfl rfl rfl) ⟨((((1) + (e5)), ((e9), (((e11.1), ((e11.2.1), (e11.2.2))), (([]), (ByteArray.empty))))), i11, h11), ?_, rfl, rfl, rfl, rfl⟩
     try dsimp only
     exact ⟨op_ok (by omega) (name_of (l := [ByteArray.mk #[110, 111, 116, 101, 115], ByteArray.mk #[116, 97, 103, 115], ByteArray.mk #[110, 111, 116, 101, 115], ByteArray.mk #[108, 105, 115, 116, 115]]) (by decide +kernel) hz9.1) (.inr hz11.1) (show isRec [] = true from rfl) (.inr ⟨by omega, rfl⟩), .inl hz11.1, by omega⟩
theorem ok_spec_l9OpAny {code : List UInt8} {i h : Int} (hc : code.length ≤ 1048576) (hi : 0 ≤ i) : BFn Tryz.prog 50 [] 92 (bytesD (code)) [.dv [] (.int .i64 (i)), .dv [] (.int .i64 (h))] (fun zz : OpT × Int × Int => wOp zz.1 ≤ 400 ∧ 0 ≤ zz.2.1) (fun zz : OpT × Int × Int => .agg [(.dv [] (.int .i64 (zz.1.1))), (.dv [] (.str (zz.1.2.1))), (.dv [] (.int .i64 (zz.1.2.2.1.1))), (.dv [] (.int .i64 (zz.1.2.2.1.2.1))), (.dv [] (.str (zz.1.2.2.1.2.2))), (.key 9001), (.dv [] (.str (zz.1.2.2.2.2)))]) (fun zz : OpT × Int × Int => [(9001, some (kcOf false (fieldsD (zz.1.2.2.2.1))))]) (fun zz : OpT × Int × Int => [.dv [] (.int .i64 (zz.2.1)), .dv [] (.int .i64 (zz.2.2))]) := by
 refine ⟨fn_introS Tryz.func50 rfl Tryz.ntmps50 Tryz.results50 rfl (fun C => ?_)⟩
 iterate 4 refine z ?_
 refine yO rfl rfl (pu_move (.inl rfl) (ev_abox (ev_tmp rfl))) rfl ?_
 refine o_callB 0 rfl rfl rfl Tryz.call51 (ok_spec_l9Op (code := code) (i := i) (h := h) (by omega) (by omega)) (ev_tmp rfl) rfl ac_arg rfl (fun _ => rfl) ad_nil rfl (fun _ => rfl) (fun _ => rfl) (fun zz hz5 => ?_)
 obtain ⟨e5, i5, h5⟩ := zz
 replace hz5 : isOpB e5 = true ∧ plainO e5 ∧ 0 ≤ i5 := hz5
 have hw := op_wt hz5.1 hz5.2.1
 have h0 : wOp e5 = e5.2.1.size + e5.2.2.1.2.2.size + wRecord e5.2.2.2.1 + e5.2.2.2.2.size := rfl
 iterate 5 refine z ?_
 refine yO rfl rfl (pu_move (.inl rfl) (ev_abox (ev_tmp rfl))) rfl ?_
 refine o_callB 7000 rfl rfl rfl Tryz.call26 (ok_spec_l1Below (code := code) (i := i5) (h := h5) (n := 14) (by omega) (by omega) ) (ev_tmp rfl) rfl ac_arg rfl (fun _ => rfl) (ad_cons (ev_int (inR_lit rfl)) (ag_one ac_dv) rfl ad_nil) rfl (fun _ => rfl) (fun _ => rfl) (fun zz hz7 => ?_)
 obtain ⟨e7, i7, h7⟩ := zz
 replace hz7 : 0 ≤ e7 ∧ (0 < (14 : Int) → e7 < (14 : Int)) ∧ 0 ≤ i7 := hz7
 iterate 6 refine z ?_
 refine yQ rfl (fun c1 => ?_) fun c1 => ?_
 ·skip
  have d1 := of_decide_eq_true c1
  refine ok_region ?_
  refine yO rfl rfl (pu_move (.inl rfl) (ev_abox (ev_tmp rfl))) rfl ?_
  refine o_buildN (k := 11) (js := []) hT rfl rfl rfl rfl rfl rfl rfl rfl rfl rfl rfl (ep_cons (ev_int (inR_lit rfl)) rfl rfl rfl (ep_cons (ev_int (inR_lit rfl)) rfl rfl rfl ep_nil)) (ow_cons' (ow_dv rfl) (ow_cons' (ow_dv rfl) ow_nil rfl) rfl) (by decide) (by decide) rfl rfl ?_
  simp only [killT, killB, SV.kill, CV.kill, kk, Nat.reduceBEq]
  refine o_callB 12000 rfl rfl rfl Tryz.call28 (ok_spec_l1Int (code := code) (i := i7) (h := h7) (l := [0, 7]) (by omega) (by omega) (by exact Nat.succ_pos _)) (ev_tmp rfl) rfl ac_arg rfl (fun _ => rfl) (ad_cons (ev_tmp rfl) (ag_one (ac_key' rfl rfl)) rfl ad_nil) rfl (fun _ => rfl) (fun _ => rfl) (fun zz hz12 => ?_)
  obtain ⟨e12, i12, h12⟩ := zz
  replace hz12 : e12 ∈ ([0, 7]) ∧ 0 ≤ i12 := hz12
  iterate 2 refine z ?_
  refine ops_nil ?_
  iterate 6 refine z ?_
  refine ok_weak (σ' := ⟨[(2, .box 2 0), (0, .abox 0)], [(2, 61, [(.dv [] (.int .i64 (e12))), (.dv [] (.str (e5.2.1))), (.dv [] (.int .i64 (e5.2.2.1.1))), (.dv [] (.int .i64 (e5.2.2.1.2.1))), (.dv [] (.str (e5.2.2.1.2.2))), (.key 9001), (.dv [] (.str (e5.2.2.2.2)))]), (0, 92, [(.arg 900001 (bytesD (code))), (.dv [] (.int .i64 (i12))), (.dv [] (.int .i64 (h12)))])], [(9001, some (kcOf false (fieldsD (e5.2.2.2.1))))]⟩) (weak_sub ⟨rfl, rfl, trivial⟩ ⟨rfl, rfl, trivial⟩ ⟨rfl, trivial⟩ rfl) ?_
  refine z ?_
  refine fin1 (res_cell hT rfl rfl rfl rfl) ⟨(((e12), ((e5.2.1), (((e5.2.2.1.1), ((e5.2.2.1.2.1), (e5.2.2.1.2.2))), ((e5.2.2.2.1), (e5.2.2.2.2))))), i12, h12), ?_, rfl, rfl, rfl, rfl⟩
  try dsimp only
  exact ⟨by have h2 : wOp (e12, e5.2) = e5.2.1.size + e5.2.2.1.2.2.size + wRecord e5.2.2.2.1 + e5.2.2.2.2.size := rfl; exact Nat.le_trans (Nat.le_of_eq h2) (by omega), by omega⟩
 ·skip
  have d1 := of_decide_eq_false c1
  iterate 4 refine z ?_
  refine yQ rfl (fun c2 => ?_) fun c2 => ?_
  ·skip
   have d2 := of_decide_eq_true c2
   refine ok_region ?_
   refine yO rfl rfl (pu_move (.inl rfl) (ev_abox (ev_tmp rfl))) rfl ?_
   refine o_buildN (k := 17) (js := []) hT rfl rfl rfl rfl rfl rfl rfl rfl rfl rfl rfl (ep_cons (ev_str (str_lit rfl)) rfl rfl rfl (ep_cons (ev_str (str_lit rfl)) rfl rfl rfl (ep_cons (ev_str (str_lit rfl)) rfl rfl rfl ep_nil))) (ow_cons' (ow_dv rfl) (ow_cons' (ow_dv rfl) (ow_cons' (ow_dv rfl) ow_nil rfl) rfl) rfl) (by decide) (by decide) rfl rfl ?_
   simp only [killT, killB, SV.kill, CV.kill, kk, Nat.reduceBEq]
   refine o_callB 18000 rfl rfl rfl Tryz.call56 (ok_spec_l1Str (code := code) (i := i7) (h := h7) (l := [ByteArray.mk #[122, 111, 111], ByteArray.mk #[], ByteArray.mk #[81]]) (by omega) (by omega) (by exact Nat.succ_pos _)) (ev_tmp rfl) rfl ac_arg rfl (fun _ => rfl) (ad_cons (ev_tmp rfl) (ag_one (ac_key' rfl rfl)) rfl ad_nil) rfl (fun _ => rfl) (fun _ => rfl) (fun zz hz18 => ?_)
   obtain ⟨e18, i18, h18⟩ := zz
   replace hz18 : e18 ∈ ([ByteArray.mk #[122, 111, 111], ByteArray.mk #[], ByteArray.mk #[81]]) ∧ 0 ≤ i18 := hz18
   have hs18 := size_of 5 (by decide +kernel) hz18.1
   iterate 2 refine z ?_
   refine ops_nil ?_
   iterate 6 refine z ?_
   refine ok_weak (σ' := ⟨[(2, .box 2 0), (0, .abox 0)], [(2, 61, [(.dv [] (.int .i64 (e5.1))), (.dv [] (.str (e18))), (.dv [] (.int .i64 (e5.2.2.1.1))), (.dv [] (.int .i64 (e5.2.2.1.2.1))), (.dv [] (.str (e5.2.2.1.2.2))), (.key 9001), (.dv [] (.str (e5.2.2.2.2)))]), (0, 92, [(.arg 900001 (bytesD (code))), (.dv [] (.int .i64 (i18))), (.dv [] (.int .i64 (h18)))])], [(9001, some (kcOf false (fieldsD (e5.2.2.2.1))))]⟩) (weak_sub ⟨rfl, rfl, trivial⟩ ⟨rfl, rfl, trivial⟩ ⟨rfl, trivial⟩ rfl) ?_
   refine z ?_
   refine fin1 (res_cell hT rfl rfl rfl rfl) ⟨(((e5.1), ((e18), (((e5.2.2.1.1), ((e5.2.2.1.2.1), (e5.2.2.1.2.2))), ((e5.2.2.2.1), (e5.2.2.2.2))))), i18, h18), ?_, rfl, rfl, rfl, rfl⟩
   try dsimp only
   exact ⟨by have h2 : wOp (e5.1, e18, e5.2.2) = e18.size + e5.2.2.1.2.2.size + wRecord e5.2.2.2.1 + e5.2.2.2.2.size := rfl; exact Nat.le_trans (Nat.le_of_eq h2) (by omega), by omega⟩
  ·skip
   have d2 := of_decide_eq_false c2
   iterate 4 refine z ?_
   refine yQ rfl (fun c3 => ?_) fun c3 => ?_
   ·skip
    have d3 := of_decide_eq_true c3
    refine ok_region ?_
    refine yO rfl rfl (pu_move (.inl rfl) (ev_abox (ev_tmp rfl))) rfl ?_
    refine o_callB 23000 rfl rfl rfl Tryz.call81 (ok_spec_l4Any (code := code) (i := i7) (h := h7) (by omega) (by omega)) (ev_tmp rfl) rfl ac_arg rfl (fun _ => rfl) ad_nil rfl (fun _ => rfl) (fun _ => rfl) (fun zz hz23 => ?_)
    obtain ⟨e23, i23, h23⟩ := zz
    replace hz23 : e23.2.2.size ≤ 13 ∧ 0 ≤ i23 := hz23
    iterate 2 refine z ?_
    refine ops_nil ?_
    iterate 6 refine z ?_
    refine ok_weak (σ' := ⟨[(2, .box 2 0), (0, .abox 0)], [(2, 61, [(.dv [] (.int .i64 (e5.1))), (.dv [] (.str (e5.2.1))), (.dv [] (.int .i64 (e23.1))), (.dv [] (.int .i64 (e23.2.1))), (.dv [] (.str (e23.2.2))), (.key 9001), (.dv [] (.str (e5.2.2.2.2)))]), (0, 92, [(.arg 900001 (bytesD (code))), (.dv [] (.int .i64 (i23))), (.dv [] (.int .i64 (h23)))])], [(9001, some (kcOf false (fieldsD (e5.2.2.2.1))))]⟩) (weak_sub ⟨rfl, rfl, trivial⟩ ⟨rfl, rfl, trivial⟩ ⟨rfl, trivial⟩ rfl) ?_
    refine z ?_
    refine fin1 (res_cell hT rfl rfl rfl rfl) ⟨(((e5.1), ((e5.2.1), (((e23.1), ((e23.2.1), (e23.2.2))), ((e5.2.2.2.1), (e5.2.2.2.2))))), i23, h23), ?_, rfl, rfl, rfl, rfl⟩
    try dsimp only
    exact ⟨by have h2 : wOp (e5.1, e5.2.1, e23, e5.2.2.2) = e5.2.1.size + e23.2.2.size + wRecord e5.2.2.2.1 + e5.2.2.2.2.size := rfl; exact Nat.le_trans (Nat.le_of_eq h2) (by omega), by omega⟩
   ·skip
    have d3 := of_decide_eq_false c3
    iterate 4 refine z ?_
    refine yQ rfl (fun c4 => ?_) fun c4 => ?_
    ·skip
     have d4 := of_decide_eq_true c4
     refine ok_region ?_
     refine yO rfl rfl (pu_move (.inl rfl) (ev_abox (ev_tmp rfl))) rfl ?_
     refine o_callB 500 rfl rfl rfl Tryz.call82 (ok_spec_l5Any (code := code) (i := i7) (h := h7) (by omega) (by omega)) (ev_tmp rfl) rfl ac_arg rfl (fun _ => rfl) ad_nil rfl (fun _ => rfl) (fun _ => rfl) (fun zz hz28 => ?_)
     obtain ⟨e28, i28, h28⟩ := zz
     replace hz28 : wRecord e28 ≤ 200 ∧ 0 ≤ i28 := hz28
     iterate 2 refine z ?_
     refine ops_nil ?_
     iterate 6 refine z ?_
     refine ok_weak (weak_swapB (b := 2) (i := 5) (k := 9501) (k' := 9001) rfl rfl rfl rfl (by simp) rfl rfl) ?_
     try simp only [killT, killB, SV.kill, CV.kill, kk, Nat.reduceBEq]
     refine ok_weak (σ' := ⟨[(2, .box 2 0), (0, .abox 0)], [(2, 61, [(.dv [] (.int .i64 (e5.1))), (.dv [] (.str (e5.2.1))), (.dv [] (.int .i64 (e5.2.2.1.1))), (.dv [] (.int .i64 (e5.2.2.1.2.1))), (.dv [] (.str (e5.2.2.1.2.2))), (.key 9001), (.dv [] (.str (e5.2.2.2.2)))]), (0, 92, [(.arg 900001 (bytesD (code))), (.dv [] (.int .i64 (i28))), (.dv [] (.int .i64 (h28)))])], [(9001, some (kcOf false (fieldsD (e28))))]⟩) (weak_sub ⟨rfl, rfl, trivial⟩ ⟨rfl, rfl, trivial⟩ ⟨rfl, trivial⟩ rfl) ?_
     refine z ?_
     refine fin1 (res_cell hT rfl rfl rfl rfl) ⟨(((e5.1), ((e5.2.1), (((e5.2.2.1.1), ((e5.2.2.1.2.1), (e5.2.2.1.2.2))), ((e28), (e5.2.2.2.2))))), i28, h28), ?_, rfl, rfl, rfl, rfl⟩
     try dsimp only
     exact ⟨by have h2 : wOp (e5.1, e5.2.1, e5.2.2.1, e28, e5.2.2.2.2) = e5.2.1.size + e5.2.2.1.2.2.size + wRecord e28 + e5.2.2.2.2.size := rfl; exact Nat.le_trans (Nat.le_of_eq h2) (by omega), by omega⟩
    ·skip
     have d4 := of_decide_eq_false c4
     iterate 7 refine z ?_
     refine ok_weak (σ' := ⟨[(2, .box 2 0), (0, .abox 0)], [(2, 61, [(.dv [] (.int .i64 (e5.1))), (.dv [] (.str (e5.2.1))), (.dv [] (.int .i64 (e5.2.2.1.1))), (.dv [] (.int .i64 (e5.2.2.1.2.1))), (.dv [] (.str (e5.2.2.1.2.2))), (.key 9001), (.dv [] (.str (e5.2.2.2.2)))]), (0, 92, [(.arg 900001 (bytesD (code))), (.dv [] (.int .i64 (i7))), (.dv [] (.int .i64 (h7)))])], [(9001, some (kcOf false (fieldsD (e5.2.2.2.1))))]⟩) (weak_sub ⟨rfl, rfl, trivial⟩ ⟨rfl, rfl, trivial⟩ ⟨rfl, trivial⟩ rfl) ?_
     refine z ?_
     refine fin1 (res_cell hT rfl rfl rfl rfl) ⟨(((e5.1), ((e5.2.1), (((e5.2.2.1.1), ((e5.2.2.1.2.1), (e5.2.2.1.2.2))), ((e5.2.2.2.1), (e5.2.2.2.2))))), i7, h7), ?_, rfl, rfl, rfl, rfl⟩
     try dsimp only
     exact ⟨Nat.le_trans hw (by omega), by omega⟩
theorem ok_spec_l9Ops {code : List UInt8} {i h : Int} {m : Int} (hc : code.length ≤ 1048576) (hi : 0 ≤ i) (hm : 0 ≤ m ∧ m ≤ 10) : BFn Tryz.prog 49 [.one (.dv [] (.int .i64 (m)))] 92 (bytesD (code)) [.dv [] (.int .i64 (i)), .dv [] (.int .i64 (h))] (fun zz : List OpT × Int × Int => opsOk zz.1 ∧ (zz.1.length : Int) ≤ m ∧ 0 ≤ zz.2.1) (fun zz : List OpT × Int × Int => .one (.key 9001)) (fun zz : List OpT × Int × Int => [(9001, some (kcOf false (opsD (zz.1))))]) (fun zz : List OpT × Int × Int => [.dv [] (.int .i64 (zz.2.1)), .dv [] (.int .i64 (zz.2.2))]) := by
 refine ⟨fn_introS Tryz.func49 rfl Tryz.ntmps49 Tryz.results49 rfl (fun C => ?_)⟩
 refine ok_fact (x := .tmp 1) (ev_tmp rfl) fun f1 => ?_
 iterate 4 refine z ?_
 refine o_build0 (k := 9001) hT rfl rfl rfl rfl rfl rfl rfl rfl ?_
 iterate 4 refine z ?_
 refine yO rfl rfl (pu_move (.inl rfl) (ev_abox (ev_tmp rfl))) rfl ?_
 iterate 2 refine z ?_
 refine o_callB 11000 rfl rfl rfl Tryz.call26 (ok_spec_l1Below (code := code) (i := i) (h := h) (n := (m) + (1)) (by omega) (by omega) ) (ev_tmp rfl) rfl ac_arg rfl (fun _ => rfl) (ad_cons (ev_tmp rfl) (ag_one ac_dv) rfl ad_nil) rfl (fun _ => rfl) (fun _ => rfl) (fun zz hz11 => ?_)
 obtain ⟨e11, i11, h11⟩ := zz
 replace hz11 : 0 ≤ e11 ∧ (0 < ((m) + (1)) → e11 < ((m) + (1))) ∧ 0 ≤ i11 := hz11
 iterate 3 refine z ?_
 refine ok_loop (ι := Int × List OpT × Int × Int) (fun zz => ⟨[(0, .abox 0), (4, .one .nil), (5, .one (.key 9001)), (6, .one (.dv [] (.int .i64 (zz.1))))], [(0, 92, [(.arg 900001 (bytesD (code))), (.dv [] (.int .i64 (zz.2.2.1))), (.dv [] (.int .i64 (zz.2.2.2)))])], [(9001, some (kcOf false (.sl 61 7 (zz.2.1.length) (zz.2.1.flatMap eOp))))]⟩) (fun zz => opsOk zz.2.1 ∧ (zz.2.1.length : Int) + zz.1 ≤ m ∧ 0 ≤ zz.2.2.1 ∧ 0 ≤ zz.1) (fun zz => zz.1.toNat) ((e11, [], i11, h11)) ?_ (weak_sub ⟨rfl, rfl, rfl, rfl, trivial⟩ ⟨rfl, trivial⟩ ⟨rfl, trivial⟩ rfl) (fun zz hx => ?_)
 ·exact ⟨fun o ho => (by cases ho), by have := hz11.2.1 (by omega); dsimp only; simp; omega, by dsimp only; omega, by dsimp only; omega⟩
 obtain ⟨n, l, ci, ch⟩ := zz
 replace hx : opsOk l ∧ (l.length : Int) + n ≤ m ∧ 0 ≤ ci ∧ 0 ≤ n := hx
 obtain ⟨hok, hl, hci, hn0⟩ := hx
 show Ok _ _ _ _ _ (⟨[(0, .abox 0), (4, .one .nil), (5, .one (.key 9001)), (6, .one (.dv [] (.int .i64 (n))))], [(0, 92, [(.arg 900001 (bytesD (code))), (.dv [] (.int .i64 (ci))), (.dv [] (.int .i64 (ch)))])], [(9001, some (kcOf false (.sl 61 7 (l.length) (l.flatMap eOp))))]⟩ : St)
 iterate 5 refine z ?_
 refine yQ rfl (fun c1 => ?_) fun c1 => ?_
 ·skip
  have d1 := of_decide_eq_true c1
  iterate 4 refine z ?_
  refine ok_region ?_
  refine z ?_
  refine yO rfl rfl (pu_move (.inl rfl) (ev_abox (ev_tmp rfl))) rfl ?_
  refine o_callB 18000 rfl rfl rfl Tryz.call51 (ok_spec_l9Op (code := code) (i := ci) (h := ch) (by omega) (by omega)) (ev_tmp rfl) rfl ac_arg rfl (fun _ => rfl) ad_nil rfl (fun _ => rfl) (fun _ => rfl) (fun zz hz18 => ?_)
  obtain ⟨e18, i18, h18⟩ := zz
  replace hz18 : isOpB e18 = true ∧ plainO e18 ∧ 0 ≤ i18 := hz18
  refine o_build1 (k := 19) (js := [27001]) hT rfl rfl rfl rfl rfl rfl rfl rfl rfl (ev_tmp rfl) rfl rfl (ow_cons' (ow_dv rfl) (ow_cons' (ow_dv rfl) (ow_cons' (ow_dv rfl) (ow_cons' (ow_dv rfl) (ow_cons' (ow_dv rfl) (ow_cons' (ow_key rfl) (ow_cons' (ow_dv rfl) ow_nil rfl) rfl) rfl) rfl) rfl) rfl) rfl) (by decide) (by decide) rfl rfl ?_
  simp only [killT, killB, SV.kill, CV.kill, kk, Nat.reduceBEq]
  refine o_appK (k := 9001) (j := 19) (cs := (l ++ [e18]).flatMap eOp) (n := (l ++ [e18]).length) hT rfl rfl rfl rfl rfl rfl rfl (ev_tmp rfl) rfl rfl rfl (ev_tmp rfl) rfl rfl (by decide) (by dsimp only [kcOf, KC.old]; omega) (by dsimp only [kcOf, KC.old]; omega) (by rw [List.length_append]; rfl) (by rw [List.flatMap_append]; rfl) ?_
  simp only [killT, killB, SV.kill, CV.kill, kk, Nat.reduceBEq]
  refine z ?_
  refine ops_nil ?_
  iterate 2 refine z ?_
  refine ok_region ?_
  iterate 4 refine z ?_
  refine ⟨(n - 1, l ++ [e18], i18, h18), ?_, ?_, weak_sub ⟨rfl, rfl, rfl, rfl, trivial⟩ ⟨rfl, trivial⟩ ⟨rfl, trivial⟩ rfl⟩
  ·refine ⟨fun o ho => ?_, by dsimp only; rw [List.length_append, List.length_singleton]; omega, by dsimp only; omega, by dsimp only; omega⟩
   rcases List.mem_append.1 ho with ho | ho
   ·exact hok o ho
   ·rw [List.mem_singleton] at ho; rw [ho]; exact ⟨hz18.1, hz18.2.1⟩
  ·dsimp only; omega
 ·skip
  have d1 := of_decide_eq_false c1
  iterate 9 refine z ?_
  refine ok_weak (σ' := ⟨[(4, .one (.key 9001)), (0, .abox 0)], [(0, 92, [(.arg 900001 (bytesD (code))), (.dv [] (.int .i64 (ci))), (.dv [] (.int .i64 (ch)))])], [(9001, some (kcOf false (.sl 61 7 (l.length) (l.flatMap eOp))))]⟩) (weak_sub ⟨rfl, rfl, trivial⟩ ⟨rfl, trivial⟩ ⟨rfl, trivial⟩ rfl) ?_
  refine z ?_
  refine fin1 (res_tmp rfl) ⟨((l), ci, ch), ?_, rfl, rfl, rfl, rfl⟩
  try dsimp only
  exact ⟨hok, by omega, by omega⟩
theorem ok_spec_DrawRunOps {code : List UInt8} (hc : code.length ≤ 1048576) : EFn Tryz.prog 19 [.one (.dv [] (bytesD (code)))] (fun zz : DbT × List OpT => wDatabase zz.1 ≤ 8000 ∧ zz.2.length ≤ 7) (fun zz : DbT × List OpT => .tup [(true, [(.dv [] (.str (zz.1.1))), (.dv [] (.int .i64 (zz.1.2.1))), (.key 90031), (.key 90900)]), (false, [(.key 95000)])]) (fun zz : DbT × List OpT => [(90031, some (kcOf false (storesD (zz.1.2.2.1)))), (90900, some (kcOf false (defsD (zz.1.2.2.2)))), (95000, some (kcOf false (opsD (zz.2))))]) := by
 refine ⟨fn_intro Tryz.func19 rfl Tryz.ntmps19 Tryz.results19 rfl (fun C => ?_)⟩
 refine ok_fact (x := .tmp 0) (ev_tmp rfl) fun f0 => ?_
 iterate 6 refine z ?_
 refine o_callP rfl rfl rfl Tryz.call24 (ok_spec_l1New (code := code) (by omega)) (ev_tmp rfl) ac_dv rfl (fun _ => rfl) rfl rfl (fun zz hz8 => ?_)
 obtain ⟨i8, h8⟩ := zz
 replace hz8 : 0 ≤ i8 := hz8
 iterate 4 refine z ?_
 refine o_callB 0 rfl rfl rfl Tryz.call25 (ok_spec_l8Any (code := code) (i := i8) (h := h8) (by omega) (by omega)) (ev_tmp rfl) rfl ac_dv rfl (fun _ => rfl) ad_nil rfl (fun _ => rfl) (fun _ => rfl) (fun zz hz10 => ?_)
 obtain ⟨e10, i10, h10⟩ := zz
 replace hz10 : wDatabase e10 ≤ 8000 ∧ 0 ≤ i10 := hz10
 iterate 5 refine z ?_
 refine o_callB 85999 rfl rfl rfl Tryz.call49 (ok_spec_l9Ops (code := code) (i := i10) (h := h10) (m := 4) (by omega) (by omega) (by omega)) (ev_tmp rfl) rfl ac_dv rfl (fun _ => rfl) (ad_cons (ev_int (inR_lit rfl)) (ag_one ac_dv) rfl ad_nil) rfl (fun _ => rfl) (fun _ => rfl) (fun zz hz12 => ?_)
 obtain ⟨e12, i12, h12⟩ := zz
 replace hz12 : opsOk e12 ∧ (e12.length : Int) ≤ (4 : Int) ∧ 0 ≤ i12 := hz12
 iterate 5 refine z ?_
 refine o_callB 14000 rfl rfl rfl Tryz.call26 (ok_spec_l1Below (code := code) (i := i12) (h := h12) (n := 10) (by omega) (by omega) ) (ev_tmp rfl) rfl ac_dv rfl (fun _ => rfl) (ad_cons (ev_int (inR_lit rfl)) (ag_one ac_dv) rfl ad_nil) rfl (fun _ => rfl) (fun _ => rfl) (fun zz hz14 => ?_)
 obtain ⟨e14, i14, h14⟩ := zz
 replace hz14 : 0 ≤ e14 ∧ (0 < (10 : Int) → e14 < (10 : Int)) ∧ 0 ≤ i14 := hz14
 iterate 6 refine z ?_
 refine yQ rfl (fun c1 => ?_) fun c1 => ?_
 ·skip
  have d1 := of_decide_eq_true c1
  refine ok_region ?_
  iterate 2 refine z ?_
  refine o_callB 19000 rfl rfl rfl Tryz.call50 (ok_spec_l9OpAny (code := code) (i := i14) (h := h14) (by omega) (by omega)) (ev_tmp rfl) rfl ac_dv rfl (fun _ => rfl) ad_nil rfl (fun _ => rfl) (fun _ => rfl) (fun zz hz19 => ?_)
  obtain ⟨e19, i19, h19⟩ := zz
  replace hz19 : wOp e19 ≤ 400 ∧ 0 ≤ i19 := hz19
  refine o_build1 (k := 20) (js := [28001]) hT rfl rfl rfl rfl rfl rfl rfl rfl rfl (ev_tmp rfl) rfl rfl (ow_cons' (ow_dv rfl) (ow_cons' (ow_dv rfl) (ow_cons' (ow_dv rfl) (ow_cons' (ow_dv rfl) (ow_cons' (ow_dv rfl) (ow_cons' (ow_key rfl) (ow_cons' (ow_dv rfl) ow_nil rfl) rfl) rfl) rfl) rfl) rfl) rfl) (by decide) (by decide) rfl rfl ?_
  simp only [killT, killB, SV.kill, CV.kill, kk, Nat.reduceBEq]
  refine o_appK (k := 95000) (j := 20) (cs := (e12 ++ [e19]).flatMap eOp) (n := (e12 ++ [e19]).length) hT rfl rfl rfl rfl rfl rfl rfl (ev_tmp rfl) rfl rfl rfl (ev_tmp rfl) rfl rfl (by decide) (by dsimp only [kcOf, KC.old, opsD, listD]; omega) (by dsimp only [kcOf, KC.old, opsD, listD]; omega) (by rw [List.length_append]; rfl) (by rw [List.flatMap_append]; rfl) ?_
  simp only [killT, killB, SV.kill, CV.kill, kk, Nat.reduceBEq]
  refine z ?_
  refine ops_nil ?_
  iterate 8 refine z ?_
  refine ok_weak (σ' := ⟨[(2, .box 2 0), (3, .one (.key 95000))], [(2, 27, [(.dv [] (.str (e10.1))), (.dv [] (.int .i64 (e10.2.1))), (.key 90031), (.key 90900)])], [(90031, some (kcOf false (storesD (e10.2.2.1)))), (90900, some (kcOf false (defsD (e10.2.2.2)))), (95000, some (kcOf false (.sl 61 7 ((e12 ++ [e19]).length) ((e12 ++ [e19]).flatMap eOp))))]⟩) (weak_sub ⟨rfl, rfl, trivial⟩ ⟨rfl, trivial⟩ ⟨rfl, rfl, rfl, trivial⟩ rfl) ?_
  refine z ?_
  refine fin2 (res_cell hT rfl rfl rfl rfl) (res_tmp rfl) rfl rfl ⟨(((e10.1), ((e10.2.1), ((e10.2.2.1), (e10.2.2.2)))), ((e12 ++ [e19]))), ?_, rfl, rfl⟩
  try dsimp only
  exact ⟨hz10.1, by rw [List.length_append, List.length_singleton]; omega⟩
 ·skip
  have d1 := of_decide_eq_false c1
  iterate 4 refine z ?_
  refine yQ rfl (fun c2 => ?_) fun c2 => ?_
  ·skip
   have d2 := of_decide_eq_true c2
   refine z ?_
   refine ok_loop (ι := List OpT × Int × Int) (fun zz => ⟨[(2, .box 2 0), (3, .one .nil), (4, .box 8 0), (5, .box 5 0), (6, .one (.key 95000))], [(2, 27, [(.dv [] (.str (ByteArray.empty))), (.dv [] (.int .i64 (0))), .nil, .nil]), (5, 27, [(.dv [] (.str (e10.1))), (.dv [] (.int .i64 (e10.2.1))), (.key 90031), (.key 90900)]), (8, 92, [(.dv [] (bytesD (code))), (.dv [] (.int .i64 (zz.2.1))), (.dv [] (.int .i64 (zz.2.2)))])], [(95000, some (kcOf false (.sl 61 7 (zz.1.length) (zz.1.flatMap eOp)))), (90031, some (kcOf false (storesD (e10.2.2.1)))), (90900, some (kcOf false (defsD (e10.2.2.2))))]⟩) (fun zz => zz.1.length ≤ 7 ∧ 0 ≤ zz.2.1) (fun zz => 7 - zz.1.length) ((e12, i14, h14)) ?_ (weak_sub ⟨rfl, rfl, rfl, rfl, rfl, trivial⟩ ⟨rfl, rfl, rfl, trivial⟩ ⟨rfl, rfl, rfl, trivial⟩ rfl) (fun zz hx => ?_)
   ·exact ⟨by dsimp only; omega, by dsimp only; omega⟩
   obtain ⟨l, ci, ch⟩ := zz
   replace hx : l.length ≤ 7 ∧ 0 ≤ ci := hx
   obtain ⟨hl, hci⟩ := hx
   show Ok _ _ _ _ _ (⟨[(2, .box 2 0), (3, .one .nil), (4, .box 8 0), (5, .box 5 0), (6, .one (.key 95000))], [(2, 27, [(.dv [] (.str (ByteArray.empty))), (.dv [] (.int .i64 (0))), .nil, .nil]), (5, 27, [(.dv [] (.str (e10.1))), (.dv [] (.int .i64 (e10.2.1))), (.key 90031), (.key 90900)]), (8, 92, [(.dv [] (bytesD (code))), (.dv [] (.int .i64 (ci))), (.dv [] (.int .i64 (ch)))])], [(95000, some (kcOf false (.sl 61 7 (l.length) (l.flatMap eOp)))), (90031, some (kcOf false (storesD (e10.2.2.1)))), (90900, some (kcOf false (defsD (e10.2.2.2))))]⟩ : St)
   iterate 3 refine z ?_
   refine yO rfl rfl (pu_lenKn (n := (l.length)) hT rfl rfl (ev_tmp rfl) rfl rfl) rfl ?_
   iterate 2 refine z ?_
   refine yQ rfl (fun c3 => ?_) fun c3 => ?_
   ·skip
    have d3 := of_decide_eq_true c3
    iterate 3 refine z ?_
    refine ok_region ?_
    iterate 2 refine z ?_
    refine o_callB 29000 rfl rfl rfl Tryz.call51 (ok_spec_l9Op (code := code) (i := ci) (h := ch) (by omega) (by omega)) (ev_tmp rfl) rfl ac_dv rfl (fun _ => rfl) ad_nil rfl (fun _ => rfl) (fun _ => rfl) (fun zz hz29 => ?_)
    obtain ⟨e29, i29, h29⟩ := zz
    replace hz29 : isOpB e29 = true ∧ plainO e29 ∧ 0 ≤ i29 := hz29
    refine o_build1 (k := 30) (js := [38001]) hT rfl rfl rfl rfl rfl rfl rfl rfl rfl (ev_tmp rfl) rfl rfl (ow_cons' (ow_dv rfl) (ow_cons' (ow_dv rfl) (ow_cons' (ow_dv rfl) (ow_cons' (ow_dv rfl) (ow_cons' (ow_dv rfl) (ow_cons' (ow_key rfl) (ow_cons' (ow_dv rfl) ow_nil rfl) rfl) rfl) rfl) rfl) rfl) rfl) (by decide) (by decide) rfl rfl ?_
    simp only [killT, killB, SV.kill, CV.kill, kk, Nat.reduceBEq]
    refine o_appK (k := 95000) (j := 30) (cs := (l ++ [e29]).flatMap eOp) (n := (l ++ [e29]).length) hT rfl rfl rfl rfl rfl rfl rfl (ev_tmp rfl) rfl rfl rfl (ev_tmp rfl) rfl rfl (by decide) (by dsimp only [kcOf, KC.old]; omega) (by dsimp only [kcOf, KC.old]; omega) (by rw [List.length_append]; rfl) (by rw [List.flatMap_append]; rfl) ?_
    simp only [killT, killB, SV.kill, CV.kill, kk, Nat.reduceBEq]
    refine z ?_
    refine ops_nil ?_
    iterate 2 refine z ?_
    refine ⟨(l ++ [e29], i29, h29), ?_, ?_, weak_sub ⟨rfl, rfl, rfl, rfl, rfl, trivial⟩ ⟨rfl, rfl, rfl, trivial⟩ ⟨rfl, rfl, rfl, trivial⟩ rfl⟩
    ·exact ⟨by dsimp only; rw [List.length_append, List.length_singleton]; omega, by dsimp only; omega⟩
    ·dsimp only; rw [List.length_append, List.length_singleton]; omega
   ·skip
    have d3 := of_decide_eq_false c3
    iterate 12 refine z ?_
    refine ok_weak (σ' := ⟨[(2, .box 2 0), (3, .one (.key 95000))], [(2, 27, [(.dv [] (.str (e10.1))), (.dv [] (.int .i64 (e10.2.1))), (.key 90031), (.key 90900)])], [(90031, some (kcOf false (storesD (e10.2.2.1)))), (90900, some (kcOf false (defsD (e10.2.2.2)))), (95000, some (kcOf false (.sl 61 7 (l.length) (l.flatMap eOp))))]⟩) (weak_sub ⟨rfl, rfl, trivial⟩ ⟨rfl, trivial⟩ ⟨rfl, rfl, rfl, trivial⟩ rfl) ?_
    refine z ?_
    refine fin2 (res_cell hT rfl rfl rfl rfl) (res_tmp rfl) rfl rfl ⟨(((e10.1), ((e10.2.1), ((e10.2.2.1), (e10.2.2.2)))), (l)), ?_, rfl, rfl⟩
    try dsimp only
    exact ⟨hz10.1, by omega⟩
  ·skip
   have d2 := of_decide_eq_false c2
   iterate 9 refine z ?_
   refine ok_weak (σ' := ⟨[(2, .box 2 0), (3, .one (.key 95000))], [(2, 27, [(.dv [] (.str (e10.1))), (.dv [] (.int .i64 (e10.2.1))), (.key 90031), (.key 90900)])], [(90031, some (kcOf false (storesD (e10.2.2.1)))), (90900, some (kcOf false (defsD (e10.2.2.2)))), (95000, some (kcOf false (opsD (e12))))]⟩) (weak_sub ⟨rfl, rfl, trivial⟩ ⟨rfl, trivial⟩ ⟨rfl, rfl, rfl, trivial⟩ rfl) ?_
   refine z ?_
   refine fin2 (res_cell hT rfl rfl rfl rfl) (res_tmp rfl) rfl rfl ⟨(((e10.1), ((e10.2.1), ((e10.2.2.1), (e10.2.2.2)))), (e12)), ?_, rfl, rfl⟩
   try dsimp only
   exact ⟨hz10.1, by omega⟩
end Go.Proofs.YtmnimdnmedldgaaGreat

namespace Go.Proofs.YtmnimdnmedldgaaGreat
open Go.RowKit
open Go.Proofs
set_option linter.unusedVariables false
set_option linter.unusedSimpArgs false

theorem any_tk {α : Type} [Inhabited α] {p : α → Bool} {l : List α} {j : Nat} (h : j < l.length) : ((l.take j).any p || p (l.getD (j : Int).toNat default)) = (l.take (j + 1)).any p := by
 rw [Int.toNat_natCast, List.take_add_one, List.getElem?_eq_getElem h, List.any_append]
 simp [List.getD, h]

end Go.Proofs.YtmnimdnmedldgaaGreat

namespace Go.Proofs.YtmnimdnmedldgaaGreat
open Go.RowKit
open Go.Proofs
set_option linter.unusedVariables false
set_option linter.unusedSimpArgs false
def eqIntB (x y : Int) : Bool := decide (x = y)

theorem ok_laws_sameInts {x y : List (Int)}  : PFn Tryz.prog 22 [.one (.dv [] (intsD (x))), .one (.dv [] (intsD (y)))] (.one (.dv [] (.bool (eqL eqIntB x y)))) := by
 refine ⟨fn_intro Tryz.func22 rfl Tryz.ntmps22 Tryz.results22 rfl (fun C => ?_)⟩
 refine ok_fact (x := .tmp 0) (ev_tmp rfl) fun f0 => ?_
 refine ok_fact (x := .tmp 1) (ev_tmp rfl) fun f1 => ?_
 iterate 11 refine z ?_
 refine yQ rfl (fun c1 => ?_) fun c1 => ?_
 ·skip
  have d1 := nd_t c1
  iterate 6 refine z ?_
  exact (eqL_len d1).symm
 ·skip
  have d1 := nd_f c1
  iterate 7 refine z ?_
  refine ok_loop (ι := Nat) (fun zz => ⟨[(0, .one (.dv [] (intsD (x)))), (1, .one (.dv [] (intsD (y)))), (5, .one (.dv [] (.int .i64 ((zz : Int)))))], [], []⟩) (fun zz => zz ≤ x.length ∧ (List.range zz).all (fun i => eqIntB (x.getD (i : Int).toNat default) (y.getD (i : Int).toNat default)) = true) (fun zz => x.length - zz) (0) ?_ (weak_sub ⟨rfl, rfl, rfl, trivial⟩ trivial trivial rfl) (fun zz hx => ?_)
  ·exact ⟨Nat.zero_le _, rfl⟩
  obtain ⟨k, rfl⟩ : ∃ v, v = zz := ⟨_, rfl⟩
  replace hx : k ≤ x.length ∧ (List.range k).all (fun i => eqIntB (x.getD (i : Int).toNat default) (y.getD (i : Int).toNat default)) = true := hx
  obtain ⟨hk, hall⟩ := hx
  show Ok _ _ _ _ _ (⟨[(0, .one (.dv [] (intsD (x)))), (1, .one (.dv [] (intsD (y)))), (5, .one (.dv [] (.int .i64 ((k : Int)))))], [], []⟩ : St)
  iterate 7 refine z ?_
  refine yQ rfl (fun c2 => ?_) fun c2 => ?_
  ·skip
   have d2 := of_decide_eq_true c2
   iterate 4 refine z ?_
   refine ok_seq ?_
   refine ok_regionD (oB := []) (oK := []) (by kernel_rfl) rfl rfl ?_
   refine zD 0 ?_
   refine zD 1 ?_
   refine zD 2 ?_
   refine zD 3 ?_
   refine zD 4 ?_
   refine zD 5 ?_
   refine zD 6 ?_
   refine zD 7 ?_
   refine zD 8 ?_
   refine d_done (by kernel_rfl) ?_
   refine z ?_
   refine yQ rfl (fun c3 => ?_) fun c3 => ?_
   ·skip
    have d3 := nd_t c3
    iterate 10 refine z ?_
    exact (eqL_no (k := k) (by omega) (by have h := c3; simpa [eqIntB] using h)).symm
   ·skip
    have d3 := nd_f c3
    iterate 3 refine z ?_
    refine ok_region ?_
    iterate 4 refine z ?_
    refine ⟨k + 1, ?_, ?_, weak_sub ⟨rfl, rfl, rfl, trivial⟩ trivial trivial rfl⟩
    ·exact ⟨by omega, rall_succ hall (by have h := c3; simpa [eqIntB] using h)⟩
    ·omega
  ·skip
   have d2 := of_decide_eq_false c2
   iterate 10 refine z ?_
   exact (eqL_yes d1 hall (by omega)).symm
theorem ok_laws_FnOperations {x0 : List UInt8}  : PFn Tryz.prog 5 [.one (.dv [] (bytesD (x0)))] (.one (.dv [] (.bool (true)))) := by
 refine ⟨fn_intro Tryz.func5 rfl Tryz.ntmps5 Tryz.results5 rfl (fun C => ?_)⟩
 refine ok_fact (x := .tmp 0) (ev_tmp rfl) fun f0 => ?_
 iterate 6 refine z ?_
 refine zC Tryz.call6 ?_ (hf := ok_laws_big (code := x0) )
 refine z ?_
 refine yQ rfl (fun c1 => ?_) fun c1 => ?_
 ·skip
  have d1 := of_decide_eq_true c1
  iterate 6 refine z ?_
  rfl
 ·skip
  have d1 := of_decide_eq_false c1
  iterate 4 refine z ?_
  refine o_callE 0 rfl rfl rfl Tryz.call19 (ok_spec_DrawRunOps (code := x0) (by omega)) (as_cons (ev_tmp rfl) (ag_one ac_dv) as_nil) rfl (fun _ => rfl) (fun _ => rfl) (fun zz hz17 => ?_)
  obtain ⟨e17_0, e17_1⟩ := zz
  replace hz17 : wDatabase e17_0 ≤ 8000 ∧ e17_1.length ≤ 7 := hz17
  have hrw := runOps_w e17_0 e17_1
  have hrl := runOps_len e17_0 e17_1
  iterate 7 refine z ?_
  refine ok_seq ?_
  refine ok_weak (weak_view (d := 4) (dd := opsD (e17_1)) rfl rfl (.refl _)) ?_
  refine ok_region ?_
  iterate 2 refine z ?_
  refine o_callK 100000 rfl rfl rfl Tryz.call20 (ok_impl_RunOps (d := e17_0) (l := e17_1) (by omega)) (as_cons (ev_tmp rfl) (ag_agg (ag_cons ac_dv (ag_cons ac_dv (ag_cons (ac_key' rfl rfl) (ag_cons (ac_key' rfl rfl) ag_nil))))) (as_cons (ev_tmp rfl) (ag_one ac_dv) as_nil)) rfl rfl rfl ?_
  iterate 12 refine z ?_
  refine o_callK 200000 rfl rfl rfl Tryz.call21 (ok_spec_RunOps (d := e17_0) (l := e17_1) (by omega)) (as_cons (ev_tmp rfl) (ag_agg (ag_cons ac_dv (ag_cons ac_dv (ag_cons (ac_key' rfl rfl) (ag_cons (ac_key' rfl rfl) ag_nil))))) (as_cons (ev_tmp rfl) (ag_one ac_dv) as_nil)) rfl rfl rfl ?_
  iterate 13 refine z ?_
  refine yO rfl rfl (pu_bneq hT rfl rfl (ev_tmp rfl) (ev_tmp rfl)) rfl ?_
  iterate 3 refine z ?_
  refine o_callG (gd_bool rfl rfl rfl rfl rfl) rfl rfl Tryz.call10 (ok_impl_EqualDatabases (x := (runOps (e17_0) (e17_1)).1) (y := (runOps (e17_0) (e17_1)).1) ) (fun hg => (as_cons (ev_opt rfl hg) (ag_agg (ag_cons ac_dv (ag_cons ac_dv (ag_cons (ac_key' rfl rfl) (ag_cons (ac_key' rfl rfl) ag_nil))))) (as_cons (ev_opt rfl hg) (ag_agg (ag_cons ac_dv (ag_cons ac_dv (ag_cons (ac_key' rfl rfl) (ag_cons (ac_key' rfl rfl) ag_nil))))) as_nil))) rfl rfl ?_
  iterate 5 refine z ?_
  refine o_callG (gd_bool rfl rfl rfl rfl rfl) rfl rfl Tryz.call22 (ok_laws_sameInts (x := (runOps (e17_0) (e17_1)).2.1) (y := (runOps (e17_0) (e17_1)).2.1) ) (fun hg => (as_cons (ev_opt rfl hg) (ag_one (ac_key' rfl rfl)) (as_cons (ev_opt rfl hg) (ag_one (ac_key' rfl rfl)) as_nil))) rfl rfl ?_
  iterate 3 refine z ?_
  refine yQ rfl (fun c2 => ?_) fun c2 => ?_
  ·skip
   iterate 6 refine z ?_
   exfalso; revert c2; rw [eqDb_self, eqL_self (p := eqIntB) (fun x => decide_eq_true rfl)]; simp
  ·skip
   iterate 7 refine z ?_
   refine yQ rfl (fun c3 => ?_) fun c3 => ?_
   ·skip
    iterate 3 refine z ?_
    refine o_call rfl rfl rfl Tryz.call10 (ok_impl_EqualDatabases (x := (runOps (e17_0) (e17_1)).1) (y := e17_0) ) (as_cons (ev_tmp rfl) (ag_agg (ag_cons ac_dv (ag_cons ac_dv (ag_cons (ac_key' rfl rfl) (ag_cons (ac_key' rfl rfl) ag_nil))))) (as_cons (ev_tmp rfl) (ag_agg (ag_cons ac_dv (ag_cons ac_dv (ag_cons (ac_key' rfl rfl) (ag_cons (ac_key' rfl rfl) ag_nil))))) as_nil)) rfl rfl ?_
    iterate 2 refine z ?_
    refine o_pureG (gd_bool rfl rfl rfl rfl rfl) rfl (fun hg => pu_lenKn (n := (((runOps (e17_0) (e17_1)).2.1)).length) hT rfl rfl (ev_opt rfl hg) rfl rfl) rfl rfl ?_
    iterate 7 refine z ?_
    have e0 : (runOps e17_0 e17_1).2.2 = false := by simpa using c3
    obtain ⟨q1, q2⟩ := runOps_out e0
    rw [q1, q2, eqDb_self]; rfl
   ·skip
    have hok : (runOps e17_0 e17_1).2.2 = true := by simpa using c3
    iterate 10 refine z ?_
    refine ok_loop (ι := Nat) (fun zz => ⟨[(2, .one (.dv [] (.bool (false)))), (3, .box 3 0), (4, .one (.dv [95000] (opsD (e17_1)))), (5, .box 5 0), (6, .one (.key 195000)), (11, .one (.dv [] (.bool ((e17_1.take zz).any isWr)))), (12, .one (.dv [] (.int .i64 ((zz : Int)))))], [(3, 27, [(.dv [] (.str (e17_0.1))), (.dv [] (.int .i64 (e17_0.2.1))), (.key 90031), (.key 90900)]), (5, 27, [(.dv [] (.str ((runOps (e17_0) (e17_1)).1.1))), (.dv [] (.int .i64 ((runOps (e17_0) (e17_1)).1.2.1))), (.key 190031), (.key 190900)])], [(90031, some (kcOf false (storesD (e17_0.2.2.1)))), (90900, some (kcOf false (defsD (e17_0.2.2.2)))), (95000, some (kcOf false (opsD (e17_1)))), (190031, some (kcOf false (storesD ((runOps (e17_0) (e17_1)).1.2.2.1)))), (190900, some (kcOf false (defsD ((runOps (e17_0) (e17_1)).1.2.2.2)))), (195000, some (kcOf false (intsD ((runOps (e17_0) (e17_1)).2.1))))]⟩) (fun zz => zz ≤ e17_1.length) (fun zz => e17_1.length - zz) (0) ?_ (weak_sub ⟨rfl, rfl, rfl, rfl, rfl, rfl, rfl, trivial⟩ ⟨rfl, rfl, trivial⟩ ⟨rfl, rfl, rfl, rfl, rfl, rfl, trivial⟩ rfl) (fun zz hx => ?_)
    ·exact Nat.zero_le _
    obtain ⟨k, rfl⟩ : ∃ v, v = zz := ⟨_, rfl⟩
    replace hx : k ≤ e17_1.length := hx
    show Ok _ _ _ _ _ (⟨[(2, .one (.dv [] (.bool (false)))), (3, .box 3 0), (4, .one (.dv [95000] (opsD (e17_1)))), (5, .box 5 0), (6, .one (.key 195000)), (11, .one (.dv [] (.bool ((e17_1.take k).any isWr)))), (12, .one (.dv [] (.int .i64 ((k : Int)))))], [(3, 27, [(.dv [] (.str (e17_0.1))), (.dv [] (.int .i64 (e17_0.2.1))), (.key 90031), (.key 90900)]), (5, 27, [(.dv [] (.str ((runOps (e17_0) (e17_1)).1.1))), (.dv [] (.int .i64 ((runOps (e17_0) (e17_1)).1.2.1))), (.key 190031), (.key 190900)])], [(90031, some (kcOf false (storesD (e17_0.2.2.1)))), (90900, some (kcOf false (defsD (e17_0.2.2.2)))), (95000, some (kcOf false (opsD (e17_1)))), (190031, some (kcOf false (storesD ((runOps (e17_0) (e17_1)).1.2.2.1)))), (190900, some (kcOf false (defsD ((runOps (e17_0) (e17_1)).1.2.2.2)))), (195000, some (kcOf false (intsD ((runOps (e17_0) (e17_1)).2.1))))]⟩ : St)
    iterate 7 refine z ?_
    refine yQ rfl (fun c4 => ?_) fun c4 => ?_
    ·skip
     have d4 := of_decide_eq_true c4
     have hk2 : k < e17_1.length := by omega
     iterate 4 refine z ?_
     refine ok_region ?_
     iterate 6 refine z ?_
     refine o_callG (gd_bool rfl rfl rfl rfl rfl) rfl rfl Tryz.call23 (ok_impl_IsWrite (x := (((e17_1)).getD ((k : Int)).toNat default)) ) (fun hg => (as_cons (ev_opt rfl hg) (ag_agg (ag_cons ac_dv (ag_cons ac_dv (ag_cons ac_dv (ag_cons ac_dv (ag_cons ac_dv (ag_cons ac_dv (ag_cons ac_dv ag_nil)))))))) as_nil)) rfl rfl ?_
     iterate 2 refine z ?_
     refine ops_nil ?_
     iterate 2 refine z ?_
     refine ok_region ?_
     iterate 4 refine z ?_
     refine ⟨k + 1, ?_, ?_, weak_sub ⟨rfl, rfl, rfl, rfl, rfl, (eqSlotB (any_tk hk2)), rfl, trivial⟩ ⟨rfl, rfl, trivial⟩ ⟨rfl, rfl, rfl, rfl, rfl, rfl, trivial⟩ rfl⟩
     ·omega
     ·omega
    ·skip
     have d4 := of_decide_eq_false c4
     iterate 7 refine z ?_
     refine o_call rfl rfl rfl Tryz.call13 (ok_impl_IsDatabase (x := (runOps (e17_0) (e17_1)).1) ) (as_cons (ev_tmp rfl) (ag_agg (ag_cons ac_dv (ag_cons ac_dv (ag_cons (ac_key' rfl rfl) (ag_cons (ac_key' rfl rfl) ag_nil))))) as_nil) rfl rfl ?_
     iterate 2 refine z ?_
     refine o_pureG (gd_bool rfl rfl rfl rfl rfl) rfl (fun hg => pu_lenKn (n := (((runOps (e17_0) (e17_1)).2.1)).length) hT rfl rfl (ev_opt rfl hg) rfl rfl) rfl rfl ?_
     iterate 9 refine z ?_
     refine o_callG (gd_opt rfl rfl rfl rfl rfl) rfl rfl Tryz.call10 (ok_impl_EqualDatabases (x := (runOps (e17_0) (e17_1)).1) (y := e17_0) ) (fun hg => (as_cons (ev_opt rfl hg) (ag_agg (ag_cons ac_dv (ag_cons ac_dv (ag_cons (ac_key' rfl rfl) (ag_cons (ac_key' rfl rfl) ag_nil))))) (as_cons (ev_opt rfl hg) (ag_agg (ag_cons ac_dv (ag_cons ac_dv (ag_cons (ac_key' rfl rfl) (ag_cons (ac_key' rfl rfl) ag_nil))))) as_nil))) rfl rfl ?_
     iterate 6 refine z ?_
     rw [show k = e17_1.length by omega, List.take_length, ops_db hok, decide_eq_true (show ((runOps e17_0 e17_1).2.1.length : Int) = (e17_1.length : Int) by rw [ops_len hok])]
     cases hw : e17_1.any isWr with
     | true => rfl
     | false => rw [ops_read hok hw, eqDb_self]; rfl
end Go.Proofs.YtmnimdnmedldgaaGreat

namespace Go.Proofs.YtmnimdnmedldgaaGreat
open Go.RowKit Go.ChangeShapes Go.WideShapes Go.Deep

def LayW (W : World) : List DV → List Value → Prop := LayL (fun b => b < W.heap.size) W
structure OpensD (P : Program) (Q : List DV → Prop) (t : TypeId) : Prop where
 run : ∀ {H : Type} (enc : TypeId × Value → H) (W : World) (base : Nat) (spare : Nat → Bool) (held : Bool) (fuel : Nat) (cs : List Value) (y : DataW H × List MemPlace),
  DataW.trod enc P W base spare held fuel t cs = some y → ∃ ds, Q ds ∧ LayW W ds cs
def Is {α : Type} (enc : α → List DV) (ds : List DV) : Prop := ∃ x, ds = enc x
theorem opensD_byte {P : Program} {t : TypeId} (ht : P.underlying t = some (.int .u8)) : OpensD P (Is eByte) t := by
 refine ⟨fun {H} enc W base spare held fuel cs y h => ?_⟩
 obtain ⟨n, rfl, _, hw⟩ := DataW.trod_int ht h
 have hb : 0 ≤ n ∧ n ≤ 255 := by simpa [Lit.wf, IntKind.min, IntKind.max, IntKind.signed, IntKind.bits] using hw
 have e : ((UInt8.ofNat n.toNat).toNat : Int) = n := by
  rw [UInt8.toNat_ofNat']
  have : n.toNat % 2 ^ 8 = n.toNat := Nat.mod_eq_of_lt (by omega)
  rw [this]; omega
 refine ⟨_, ⟨UInt8.ofNat n.toNat, rfl⟩, ?_⟩
 simp only [LayW, LayL, Lay]
 rw [e]
 exact ⟨_, _, rfl, ⟨rfl, by simpa [InR, IntKind.min, IntKind.max, IntKind.signed, IntKind.bits] using hb⟩, rfl⟩
theorem points {α : Type} {enc : α → List DV} {W : World} {sz : Nat} {f : Nat → Option Value} (hs : ∀ x, (enc x).length = sz) : ∀ n : Nat,
  (∀ i, i < n → ∃ x ci, LayW W (enc x) ci ∧ ∀ j, j < sz → f (i * sz + j) = ci[j]?) → ∃ (xs : List α) (cells : List Value), xs.length = n ∧ LayW W (xs.flatMap enc) cells ∧ ∀ j u, cells[j]? = some u → f j = some u
 | 0, _ => ⟨[], [], rfl, by simp [LayW, LayL], by simp⟩
 | n + 1, h => by
  obtain ⟨xs, cells, h1, h2, h3⟩ := points hs n (fun i hi => h i (by omega))
  obtain ⟨x, ci, g1, g2⟩ := h n (by omega)
  have hl : cells.length = n * sz := by rw [layL_len _ _ h2, flat_len hs, h1]
  have hci : ci.length = sz := by rw [layL_len _ _ g1, hs]
  refine ⟨xs ++ [x], cells ++ ci, by simp [h1], by have := layL_append _ _ _ _ h2 g1; simp only [List.flatMap_append, List.flatMap_cons, List.flatMap_nil, List.append_nil]; exact this, fun j u hu => ?_⟩
  rcases Nat.lt_or_ge j cells.length with hj | hj
  ·rw [List.getElem?_append_left hj] at hu; exact h3 j u hu
  ·rw [List.getElem?_append_right hj] at hu
   have hjs : j - cells.length < sz := by rw [← hci]; exact (List.getElem?_eq_some_iff.1 hu).1
   have := g2 (j - cells.length) hjs
   rw [show n * sz + (j - cells.length) = j by omega] at this
   rw [this, hu]
theorem opensD_slice {α : Type} {P : Program} {enc : α → List DV} {t e : TypeId} {sz : Nat} (e' : Nat) (hs : ∀ x, (enc x).length = sz) (hsz : Nat.blt 0 sz = true) (ht : P.underlying t = some (.slice e)) (hc : P.cellsOf e = sz) (he : OpensD P (Is enc) e) : OpensD P (Is fun xs : List α => [listD e' sz enc xs]) t := by
 refine ⟨fun {H} ench W base spare held fuel cs y h => ?_⟩
 have hpos : 0 < sz := by simpa [Nat.blt_eq] using hsz
 rcases open_slice ht h with ⟨rfl, _⟩ | ⟨a, len, cap, m, n, D, Pl, rfl, _, hl, hm, hmm, _, hi⟩
 ·refine ⟨_, ⟨[], rfl⟩, ?_⟩
  simp only [LayW, LayL, Lay]
  exact ⟨_, _, rfl, ⟨none, 0, [], rfl, Nat.le_refl _, by simp [maxLen], hpos, by simp, by simp [LayL], fun h => by simp at h⟩, rfl⟩
 ·have hlm : len ≤ m := by rw [hmm]; split <;> omega
  obtain ⟨xs, cells, h1, h2, h3⟩ := points (W := W) (f := fun j => W.cell? (a.add j)) hs len (fun i hil => by
   obtain ⟨cs', hc1, hc2⟩ := hi i (by omega)
   obtain ⟨ds, ⟨x, rfl⟩, hx⟩ := he.run ench W base spare held n cs' _ hc2
   obtain ⟨_, hcl, hat⟩ := World.cells?_some hc1
   refine ⟨x, cs', hx, fun j hj => ?_⟩
   have := hat j (by rw [hc]; exact hj)
   rw [← Go.Deep.add_add, hc] at *
   exact this)
  refine ⟨_, ⟨xs, rfl⟩, ?_⟩
  simp only [LayW, LayL]
  refine ⟨_, _, rfl, ?_, rfl⟩
  simp only [Lay]
  refine ⟨some a, cap, cells, by rw [h1], by omega, hm, hpos, flat_len hs xs, h2, fun hp => ?_⟩
  have hcl : 0 < cells.length := by
   rw [layL_len _ _ h2, flat_len hs]
   exact Nat.mul_pos hp hpos
  have h0 := h3 0 _ (List.getElem?_eq_getElem hcl)
  have ha0 : a.add 0 = a := by simp [Addr.add]
  simp only [ha0] at h0
  have hsp : a.spot = none := by
   cases hs : a.spot with
   | none => rfl
   | some s =>
    unfold World.cell? at h0
    split at h0
    ·simp [hs] at h0
    ·cases h0
  obtain ⟨b, off, sp⟩ := a
  simp only at hsp
  subst hsp
  refine ⟨b, off, rfl, World.block_lt_of_cell? W _ h0, fun j u hu => ?_⟩
  have := h3 j u hu
  simp only [add_row] at this
  exact this
/-! ### structs -/
theorem OpensD.mono {P : Program} {Q R : List DV → Prop} {t : TypeId} (h : OpensD P Q t) (hq : ∀ ds, Q ds → R ds) : OpensD P R t := by
 refine ⟨fun {H} enc W base spare held fuel cs y h' => ?_⟩
 obtain ⟨ds, h1, h2⟩ := h.run enc W base spare held fuel cs y h'
 exact ⟨ds, hq ds h1, h2⟩
/-! ### a call from the outside -/
def TopL (w : World) : List SV → List Value → Prop
 | [], vs => vs = []
 | .one c :: us, vs => ∃ d v vs', c = .dv [] d ∧ vs = v :: vs' ∧ LayW w [d] [v] ∧ TopL w us vs'
 | .agg cs :: us, vs => ∃ ds xs vs', cs = ds.map (CV.dv []) ∧ vs = .agg xs.toArray :: vs' ∧ LayW w ds xs ∧ TopL w us vs'
 | _ :: _, _ => False
theorem lay_top {w : World} {L : Lyt} {d : DV} {v : Value} (h : LayW w [d] [v]) : CVr ⟨w, [], L.rv⟩ L w (.dv [] d) v := by
 simp only [LayW, LayL] at h
 obtain ⟨v', _, e, h1, rfl⟩ := h
 simp only [List.cons.injEq, and_true] at e
 subst e
 simp only [CVr]
 exact lay_conv (fun b hb _ => ⟨.inl ⟨hb, by simp⟩, rfl⟩) d _ h1
theorem lays_top {w : World} {L : Lyt} : ∀ {ds : List DV} {vs : List Value}, LayW w ds vs → CVL ⟨w, [], L.rv⟩ L w (ds.map (CV.dv [])) vs
 | [], _, h => by simp only [LayW, LayL] at h; subst h; rfl
 | d :: ds, _, h => by
  simp only [LayW, LayL] at h
  obtain ⟨v, vs', rfl, h1, h2⟩ := h
  exact ⟨v, vs', rfl, lay_top (by simp only [LayW, LayL]; exact ⟨v, [], rfl, h1, rfl⟩), lays_top h2⟩
theorem topL_sv {P : Program} {w : World} {L : Lyt} : ∀ {us : List SV} {vs : List Value}, TopL w us vs → vs.length = us.length ∧ (∀ u ∈ us, u.keys = [] ∧ u.boxes = []) ∧ ∀ (i : Nat) (v : SV), us[i]? = some v → ∃ x, vs[i]? = some x ∧ SVr P ⟨w, [], L.rv⟩ L w v x
 | [], _, h => by simp only [TopL] at h; subst h; simp
 | .one c :: us, _, h => by
  simp only [TopL] at h
  obtain ⟨d, v, vs', rfl, rfl, h1, h2⟩ := h
  obtain ⟨g1, g2, g3⟩ := topL_sv (P := P) (L := L) h2
  refine ⟨by simp [g1], fun u hu => ?_, fun i x hx => ?_⟩
  ·rcases List.mem_cons.1 hu with rfl | hu
   ·exact ⟨rfl, rfl⟩
   ·exact g2 u hu
  ·cases i with
   | zero => simp only [List.getElem?_cons_zero, Option.some.injEq] at hx; subst hx; exact ⟨v, rfl, by simp only [SVr]; exact lay_top h1⟩
   | succ i => simpa using g3 i x (by simpa using hx)
 | .agg cs :: us, _, h => by
  simp only [TopL] at h
  obtain ⟨ds, xs, vs', rfl, rfl, h1, h2⟩ := h
  obtain ⟨g1, g2, g3⟩ := topL_sv (P := P) (L := L) h2
  refine ⟨by simp [g1], fun u hu => ?_, fun i x hx => ?_⟩
  ·rcases List.mem_cons.1 hu with rfl | hu
   ·refine ⟨?_, rfl⟩
    simp only [SV.keys]
    rw [List.flatMap_eq_nil_iff]
    intro c hc
    obtain ⟨d, _, rfl⟩ := List.mem_map.1 hc
    rfl
   ·exact g2 u hu
  ·cases i with
   | zero => simp only [List.getElem?_cons_zero, Option.some.injEq] at hx; subst hx; exact ⟨_, rfl, by simp only [SVr]; exact ⟨xs, rfl, lays_top h1⟩⟩
   | succ i => simpa using g3 i x (by simpa using hx)
 | .tup _ :: _, _, h => by simp [TopL] at h
 | .box _ _ :: _, _, h => by simp [TopL] at h
 | .ref _ _ :: _, _, h => by simp [TopL] at h
 | .eptr _ _ :: _, _, h => by simp [TopL] at h
 | .ksl _ _ _ _ :: _, _, h => by simp [TopL] at h
 | .fn _ _ :: _, _, h => by simp [TopL] at h
 | .clo _ _ :: _, _, h => by simp [TopL] at h
 | .opt _ _ :: _, _, h => by simp [TopL] at h
 | .any :: _, _, h => by simp [TopL] at h
theorem pfn_run {P : Program} {f : FuncId} {us : List SV} {b : Bool} (hf : PFn P f us (.one (.dv [] (.bool b)))) {w : World} {vs : List Value} (h : TopL w us vs) :
  Calls P f vs.toArray w fun e w' => e = .returned (.bool b) ∧ Below w.heap.size w w' := by
 let L : Lyt := ⟨fun _ => 0, fun _ => [], fun _ => .bool false⟩
 obtain ⟨h1, h2, h3⟩ := topL_sv (P := P) (L := L) h
 obtain ⟨t1, t2⟩ := enum_tk us 0 h2
 have hr : Rel P ⟨w, [], L.rv⟩ us.length L ⟨enumS 0 us, [], []⟩ ⟨vs.toArray, []⟩ w := {
  df := rfl
  sz := by simp [h1]
  tm := fun i v hv => by
   obtain ⟨_, h4⟩ := enumS_look us 0 i v hv
   obtain ⟨x, h5, h6⟩ := h3 i v (by simpa using h4)
   have : vs.toArray.getD i undef = x := by simp [Array.getD_eq_getD_getElem?, h5]
   rw [this]; exact h6
  bx := fun i t cs h => by cases h
  ks := fun k c h => by cases h
  b1 := fun i x h => by cases h
  k1 := fun k c h => by cases h
  kn := fun k c h => by cases h
  bb := fun i j x y h => by cases h
  bk := fun i k x c h => by cases h
  kk := fun k j c d h => by cases h
  lk := fun k hk => by simp only [St.tk, t1, List.flatMap_nil, List.append_nil] at hk; cases hk
  lb := fun b hb => by simp only [St.tb, t2] at hb; cases hb
  s0 := fun b hb => by cases hb
  chg := Chg.refl _ _ }
 refine (hf.ok w [] L vs h1 hr).mono ?_
 rintro e w' ⟨r, res, σ', L', rfl, rfl, hr'⟩
 have hv := hr'.tm 0 _ rfl
 simp only [SVr, CVr, Lay] at hv
 refine ⟨?_, hr'.chg.below⟩
 have : (#[r] : Array Value).getD 0 undef = r := rfl
 rw [this] at hv
 rw [hv]
end Go.Proofs.YtmnimdnmedldgaaGreat

namespace Go.Proofs.YtmnimdnmedldgaaGreat
open Go.RowKit
open Go.Proofs
theorem opensBytes : OpensD Tryz.prog (Is fun xs => [listD 5 1 eByte xs]) 22 := opensD_slice (sz := 1) 5 (fun _ => rfl) rfl Tryz.underlying22 (by kernel_rfl) (opensD_byte Tryz.underlying5)
end Go.Proofs.YtmnimdnmedldgaaGreat

