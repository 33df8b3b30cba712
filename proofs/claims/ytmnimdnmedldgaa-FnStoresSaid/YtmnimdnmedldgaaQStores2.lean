/-
  Contracts of the program's functions for the statements Stores, by the rules of the logic. Conditions: none but those in the theorems.
-/
import Derived.Below
import Derived.Deep.Slices
import Derived.OpenShut
import Derived.ProofKit
import Derived.Test.YtmnimdnmedldgaaQStores1
set_option maxHeartbeats 4000000
set_option maxRecDepth 100000
namespace Go.Proofs.Ytmnimdnmedldgaa
open Go.RowKit
open Go.Proofs
set_option linter.unusedVariables false
set_option linter.unusedSimpArgs false

def autoI (s : StoreT) : Prop := ∀ y ∈ s.2.1, y.1.1 = 1 → y.1.2.1 ≤ 1000000 → y.1.2.1 ≤ s.2.2
theorem mem_insI {l : List ItemT} {j : Nat} {y z : ItemT} (h : z ∈ insI l j y) : z = y ∨ z ∈ l := by
 unfold insI at h
 simp only [List.mem_append, List.mem_singleton] at h
 rcases h with (h | h) | h
 ·exact .inr (List.mem_of_mem_take h)
 ·exact .inl h
 ·exact .inr (List.mem_of_mem_drop h)
theorem autoI_put {s : StoreT} {k : KeyT} {r : RecT} (h : autoI s) : autoI (putN s k r).1 := by
 cases h2 : (putN s k r).2 with
 | false => rw [putN_f h2]; exact h
 | true =>
  obtain ⟨_, _, _, ⟨h3, e⟩ | ⟨h3, _, e⟩⟩ := put_cases h2
  ·rw [e]
   intro y hy h4 h5
   dsimp only at hy ⊢
   have hm : y.1 ∈ (setI s.2.1 (fndK s k).toNat r).map Prod.fst := List.mem_map_of_mem hy
   rw [setI_keys] at hm
   obtain ⟨z, hz, hzy⟩ := List.mem_map.1 hm
   have := h z hz (by rw [hzy]; exact h4) (by rw [hzy]; exact h5)
   rw [hzy] at this; exact this
  ·rw [e]
   intro y hy h4 h5
   dsimp only at hy ⊢
   have ha : s.2.2 ≤ autoP s k := by
    have := put_auto (x := s) (k := k) (r := r)
    rw [e] at this; exact this
   rcases mem_insI hy with rfl | hy
   ·unfold autoP
    dsimp only at h4 h5 ⊢
    split
    ·exact Int.le_refl _
    ·rename_i hh
     simp only [Bool.and_eq_true, decide_eq_true_eq] at hh
     omega
   ·have := h y hy h4 h5
    omega
theorem auto_small {s : StoreT} {k : KeyT} {r : RecT} (h : s.2.2 ≤ 256) (hk : smallK k) : (putN s k r).1.2.2 ≤ 256 := by
 cases h2 : (putN s k r).2 with
 | false => rw [putN_f h2]; exact h
 | true =>
  obtain ⟨_, _, _, ⟨h3, e⟩ | ⟨h3, _, e⟩⟩ := put_cases h2
  ·rw [e]; exact h
  ·rw [e]
   dsimp only
   unfold autoP
   split
   ·rename_i hh
    simp only [Bool.and_eq_true, decide_eq_true_eq] at hh
    unfold smallK at hk
    omega
   ·exact h
theorem auto_step {s : StoreT} (hs : isSto s = true) (ha : autoI s) (hl : s.2.1.length < 16) (h : s.2.2 ≤ 284 + (s.2.1.length : Int)) :
  (autoN s []).2.2 = true ∧ isSto (autoN s []).1 = true ∧ autoI (autoN s []).1 ∧ (autoN s []).1.2.1.length = s.2.1.length + 1 ∧ (autoN s []).1.2.2 = s.2.2 + 1 := by
 have h0 := hs
 rw [isSto_eq] at h0
 simp only [Bool.and_eq_true, decide_eq_true_eq] at h0
 have hlo := h0.2.2.1
 have hk : isKey (keyA s) = true := key_num (by omega)
 have hf : fndK s (keyA s) < 0 := by
  rcases Int.lt_or_le (fndK s (keyA s)) 0 with hq | hq
  ·exact hq
  ·have h1 := fndK_lt hq
   rcases findI_cases (p := fun y : ItemT => kEq y.1 (keyA s)) (d := default) s.2.1 0 (by omega) with ⟨h2, _⟩ | ⟨m, h2, h3, _, h5⟩
   ·unfold fndK at hq; omega
   ·have hm : s.2.1.getD m default ∈ s.2.1 := by rw [List.getD_eq_getElem?_getD, List.getElem?_eq_getElem h2]; exact List.getElem_mem h2
    have e := kEq_eq h5
    have e1 : (s.2.1.getD m default).1.1 = 1 := by rw [e]; rfl
    have e2 : (s.2.1.getD m default).1.2.1 = s.2.2 + 1 := by rw [e]; rfl
    have := ha _ hm e1 (by omega)
    omega
 have hput : putN s (keyA s) [] = ((s.1, insI s.2.1 (posK (keyA s) s.2.1) (keyA s, []), autoP s (keyA s)), true) := by
  unfold putN
  have hr : isRec [] = true := rfl
  rw [if_neg (by rw [hs, hk, hr]; simp), if_neg (by omega), if_neg (by omega)]
 have hadd : addN s (keyA s) [] = putN s (keyA s) [] := if_neg (by omega)
 have hauto : autoN s [] = ((putN s (keyA s) []).1, keyA s, true) := by
  unfold autoN
  rw [if_neg (by omega), hadd, if_pos (by rw [hput])]
 rw [hauto]
 refine ⟨rfl, putN_sto hs, autoI_put ha, ?_, ?_⟩
 ·rw [hput]; exact insI_len
 ·rw [hput]
  show autoP s (keyA s) = _
  unfold autoP
  rw [if_pos (by
   simp only [Bool.and_eq_true, decide_eq_true_eq]
   exact ⟨rfl, Int.le_refl _, by show s.2.2 + 1 ≤ 1000000; omega⟩)]
  rfl
theorem sto_w2 {s : StoreT} (h : isSto s = true) : wStore s ≤ 1200 := by
 have h0 := h
 simp only [isSto, Bool.and_eq_true, List.all_eq_true, decide_eq_true_eq] at h
 obtain ⟨h1, ⟨h2, h3⟩, h4⟩ := h
 have h5 := name_size h2
 have h6 : ∀ x ∈ s.2.1, wItem x ≤ 70 := fun x hx => by
  obtain ⟨i, hi, rfl⟩ := List.mem_iff_getElem.1 hx
  have h7 := h1 i (List.mem_range.2 hi)
  unfold stoBad at h7
  rw [getD_at hi] at h7
  simp only [Bool.not_or, Bool.not_not, Bool.and_eq_true] at h7
  have h8 := (key_rng h7.1.1).2.2
  have h9 := rec_w h7.1.2
  have h12 : wItem s.2.1[i] = s.2.1[i].1.2.2.size + wRecord s.2.1[i].2 := rfl
  omega
 have h7 : wSum wItem s.2.1 ≤ 70 * s.2.1.length := by
  have key : ∀ l : List ItemT, (∀ x ∈ l, wItem x ≤ 70) → wSum wItem l ≤ 70 * l.length := by
   intro l
   induction l with
   | nil => intro _; simp [wSum]
   | cons x l ih =>
    intro hx
    have k1 := ih (fun g hg => hx g (by simp [hg]))
    have k2 := hx x (by simp)
    simp only [wSum, List.map_cons, List.sum_cons, List.length_cons] at *
    omega
  exact key _ h6
 have h8 : wStore s = s.1.size + (s.2.1.length + wSum wItem s.2.1) := rfl
 omega
theorem rec_app_w (r : RecT) (f : FieldT) : wRecord (r ++ [f]) = wRecord r + 1 + f.1.size := by
 have h1 : wRecord (r ++ [f]) = (r ++ [f]).length + wSum wField (r ++ [f]) := rfl
 have h2 : wRecord r = r.length + wSum wField r := rfl
 have h3 : wSum wField [f] = f.1.size := by simp [wSum, wField]
 rw [h1, h2, wSum_app, List.length_append, h3, List.length_singleton]; omega
theorem sto_app_w (s : StoreT) (x : ItemT) : wStore (s.1, s.2.1 ++ [x], s.2.2) = wStore s + 1 + x.1.2.2.size + wRecord x.2 := by
 have h1 : wStore (s.1, s.2.1 ++ [x], s.2.2) = s.1.size + ((s.2.1 ++ [x]).length + wSum wItem (s.2.1 ++ [x])) := rfl
 have h2 : wStore s = s.1.size + (s.2.1.length + wSum wItem s.2.1) := rfl
 have h3 : wSum wItem [x] = x.1.2.2.size + wRecord x.2 := by simp [wSum, wItem, wKey]
 rw [h1, h2, wSum_app, List.length_append, h3, List.length_singleton]; omega

theorem ok_spec_l5Any {code : List UInt8} {i h : Int} (hc : code.length ≤ 1048576) (hi : 0 ≤ i) : BFn Try.prog 70 [] 102 (bytesD (code)) [.dv [] (.int .i64 (i)), .dv [] (.int .i64 (h))] (fun zz : RecT × Int × Int => wRecord zz.1 ≤ 200 ∧ 0 ≤ zz.2.1) (fun zz : RecT × Int × Int => .agg [(.key 9001)]) (fun zz : RecT × Int × Int => [(9001, some (kcOf false (fieldsD (zz.1))))]) (fun zz : RecT × Int × Int => [.dv [] (.int .i64 (zz.2.1)), .dv [] (.int .i64 (zz.2.2))]) := by
 refine ⟨fn_introS Try.func70 rfl Try.ntmps70 Try.results70 rfl (fun C => ?_)⟩
 iterate 4 refine z ?_
 refine yO rfl rfl (pu_move (.inl rfl) (ev_abox (ev_tmp rfl))) rfl ?_
 refine o_callB 0 rfl rfl rfl Try.call97 (ok_spec_l5Record (code := code) (i := i) (h := h) (by omega) (by omega)) (ev_tmp rfl) rfl ac_arg rfl (fun _ => rfl) ad_nil rfl (fun _ => rfl) (fun _ => rfl) (fun zz hz7 => ?_)
 obtain ⟨e7, i7, h7⟩ := zz
 replace hz7 : isRec e7 = true ∧ 0 ≤ i7 := hz7
 have hrw := rec_w hz7.1
 iterate 5 refine z ?_
 refine yO rfl rfl (pu_move (.inl rfl) (ev_abox (ev_tmp rfl))) rfl ?_
 refine o_callB 9000 rfl rfl rfl Try.call83 (ok_spec_l1Below (code := code) (i := i7) (h := h7) (n := 12) (by omega) (by omega) ) (ev_tmp rfl) rfl ac_arg rfl (fun _ => rfl) (ad_cons (ev_int (inR_lit rfl)) (ag_one ac_dv) rfl ad_nil) rfl (fun _ => rfl) (fun _ => rfl) (fun zz hz9 => ?_)
 obtain ⟨e9, i9, h9⟩ := zz
 replace hz9 : 0 ≤ e9 ∧ (0 < (12 : Int) → e9 < (12 : Int)) ∧ 0 ≤ i9 := hz9
 iterate 6 refine z ?_
 refine yQ rfl (fun c1 => ?_) fun c1 => ?_
 ·skip
  have d1 := of_decide_eq_true c1
  refine ok_regionL [0] [0, 1, 2, 3, 4, 5, 6, 7, 8, 9] (oB := [2, 3]) (oK := [9001]) (by kernel_rfl) rfl rfl ?_
  refine l_take 0 rfl (by kernel_rfl) rfl rfl (pu_fieldBox hT rfl rfl rfl (ev_tmp rfl)) rfl rfl rfl rfl rfl ?_
  refine l_take 1 rfl (by kernel_rfl) rfl rfl (pu_loadBox1 hT rfl rfl (ev_tmp rfl) rfl rfl) rfl rfl rfl rfl rfl ?_
  refine l_take 2 rfl (by kernel_rfl) rfl rfl (pu_move (.inl rfl) (ev_abox (ev_tmp rfl))) rfl rfl rfl rfl rfl ?_
  refine l_take 5 rfl (by kernel_rfl) rfl rfl (pu_move (.inl rfl) (ev_abox (ev_tmp rfl))) rfl rfl rfl rfl rfl ?_
  refine l_split 3 [6] (by kernel_rfl) ⟨?_, ?_, trivial⟩
  ·skip
   refine y_buildN (k := 15) (js := []) 3 hT rfl rfl rfl rfl rfl rfl rfl rfl rfl rfl rfl rfl (ep_cons (ev_str (str_lit rfl)) rfl rfl rfl (ep_cons (ev_str (str_lit rfl)) rfl rfl rfl (ep_cons (ev_str (str_lit rfl)) rfl rfl rfl (ep_cons (ev_str (str_lit rfl)) rfl rfl rfl (ep_cons (ev_str (str_lit rfl)) rfl rfl rfl ep_nil))))) (ow_cons' (ow_dv rfl) (ow_cons' (ow_dv rfl) (ow_cons' (ow_dv rfl) (ow_cons' (ow_dv rfl) (ow_cons' (ow_dv rfl) ow_nil rfl) rfl) rfl) rfl) rfl) (by decide) (by decide) rfl rfl rfl rfl rfl ?_
   simp only [killT, killB, SV.kill, CV.kill, kk, Nat.reduceBEq]
   refine l_split 4 [6] (by kernel_rfl) ⟨?_, ?_, trivial⟩
   ·skip
    refine y_callB 16000 4 rfl rfl rfl rfl rfl Try.call84 (ok_spec_l1Str (code := code) (i := i9) (h := h9) (l := [ByteArray.mk #[], ByteArray.mk #[65], ByteArray.mk #[122, 122, 122, 122, 122, 122, 122, 122, 122], ByteArray.mk #[122], ByteArray.mk #[97]]) (by omega) (by omega) (by exact Nat.succ_pos _)) (ev_tmp rfl) rfl ac_arg rfl (fun _ => rfl) (ad_cons (ev_tmp rfl) (ag_one (ac_key' rfl rfl)) rfl ad_nil) rfl (fun _ => rfl) (fun _ => rfl) rfl (fun zz hz16 => ?_)
    obtain ⟨e16, i16, h16⟩ := zz
    replace hz16 : e16 ∈ ([ByteArray.mk #[], ByteArray.mk #[65], ByteArray.mk #[122, 122, 122, 122, 122, 122, 122, 122, 122], ByteArray.mk #[122], ByteArray.mk #[97]]) ∧ 0 ≤ i16 := hz16
    have hsz := size_of 9 (by decide +kernel) hz16.1
    refine l_split 6 [] (by kernel_rfl) ⟨?_, trivial⟩
    refine y_buildN (k := 18) (js := []) 6 hT rfl rfl rfl rfl rfl rfl rfl rfl rfl rfl rfl rfl (ep_cons (ev_int (inR_lit rfl)) rfl rfl rfl (ep_cons (ev_int (inR_lit rfl)) rfl rfl rfl (ep_cons (ev_int (inR_lit rfl)) rfl rfl rfl (ep_cons (ev_int (inR_lit rfl)) rfl rfl rfl ep_nil)))) (ow_cons' (ow_dv rfl) (ow_cons' (ow_dv rfl) (ow_cons' (ow_dv rfl) (ow_cons' (ow_dv rfl) ow_nil rfl) rfl) rfl) rfl) (by decide) (by decide) rfl rfl rfl rfl rfl ?_
    simp only [killT, killB, SV.kill, CV.kill, kk, Nat.reduceBEq]
    refine l_split 7 [] (by kernel_rfl) ⟨?_, trivial⟩
    refine y_callB 19000 7 rfl rfl rfl rfl rfl Try.call85 (ok_spec_l1Int (code := code) (i := i16) (h := h16) (l := [0, -1, 1000000000, 1000000001]) (by omega) (by omega) (by exact Nat.succ_pos _)) (ev_tmp rfl) rfl ac_arg rfl (fun _ => rfl) (ad_cons (ev_tmp rfl) (ag_one (ac_key' rfl rfl)) rfl ad_nil) rfl (fun _ => rfl) (fun _ => rfl) rfl (fun zz hz19 => ?_)
    obtain ⟨e19, i19, h19⟩ := zz
    replace hz19 : e19 ∈ ([0, -1, 1000000000, 1000000001]) ∧ 0 ≤ i19 := hz19
    refine l_take 8 rfl (by kernel_rfl) rfl rfl (pu_build hT hB rfl rfl rfl (bp_cons (ev_tmp rfl) rfl rfl rfl rfl rfl (bp_cons (ev_tmp rfl) rfl rfl rfl rfl rfl bp_nil))) rfl rfl rfl rfl rfl ?_
    refine l_split 9 [] (by kernel_rfl) ⟨?_, trivial⟩
    refine y_buildN (k := 21) (js := []) 9 hT rfl rfl rfl rfl rfl rfl rfl rfl rfl rfl rfl rfl (ep_cons (ev_tmp rfl) rfl rfl rfl ep_nil) (ow_cons' (ow_dv rfl) (ow_cons' (ow_dv rfl) ow_nil rfl) rfl) (by decide) (by decide) rfl rfl rfl rfl rfl ?_
    simp only [killT, killB, SV.kill, CV.kill, kk, Nat.reduceBEq]
    refine l_chain [10, 11, 12] rfl rfl (by kernel_rfl) ?_
    refine o_appK (k := 9001) (j := 21) (cs := (e7 ++ [(e16, e19)]).flatMap eField) (n := (e7 ++ [(e16, e19)]).length) hT rfl rfl rfl rfl rfl rfl rfl (ev_tmp rfl) rfl rfl rfl (ev_tmp rfl) rfl rfl (by decide) (by have := rec_len hz7.1; dsimp only [kcOf, KC.old, fieldsD, listD]; omega) (by have := rec_len hz7.1; dsimp only [kcOf, KC.old, fieldsD, listD]; omega) (by rw [List.length_append]; rfl) (by rw [List.flatMap_append]; rfl) ?_
    simp only [killT, killB, SV.kill, CV.kill, kk, Nat.reduceBEq]
    iterate 2 refine z ?_
    refine ops_nil ?_
    iterate 6 refine z ?_
    refine ok_weak (σ' := ⟨[(2, .box 2 0), (0, .abox 0)], [(2, 40, [(.key 9001)]), (0, 102, [(.arg 900001 (bytesD (code))), (.dv [] (.int .i64 (i19))), (.dv [] (.int .i64 (h19)))])], [(9001, some (kcOf false (.sl 91 2 ((e7 ++ [(e16, e19)]).length) ((e7 ++ [(e16, e19)]).flatMap eField))))]⟩) (weak_sub ⟨rfl, rfl, trivial⟩ ⟨rfl, rfl, trivial⟩ ⟨rfl, trivial⟩ rfl) ?_
    refine z ?_
    refine fin1 (res_cell hT rfl rfl rfl rfl) ⟨(((e7 ++ [(e16, e19)])), i19, h19), ?_, rfl, rfl, rfl, rfl⟩
    try dsimp only
    exact ⟨by have := rec_app_w e7 (e16, e19); dsimp only at this; omega, by omega⟩
   ·skip
    refine y_buildN (k := 18) (js := []) 6 hT rfl rfl rfl rfl rfl rfl rfl rfl rfl rfl rfl rfl (ep_cons (ev_int (inR_lit rfl)) rfl rfl rfl (ep_cons (ev_int (inR_lit rfl)) rfl rfl rfl (ep_cons (ev_int (inR_lit rfl)) rfl rfl rfl (ep_cons (ev_int (inR_lit rfl)) rfl rfl rfl ep_nil)))) (ow_cons' (ow_dv rfl) (ow_cons' (ow_dv rfl) (ow_cons' (ow_dv rfl) (ow_cons' (ow_dv rfl) ow_nil rfl) rfl) rfl) rfl) (by decide) (by decide) rfl rfl rfl rfl rfl ?_
    simp only [killT, killB, SV.kill, CV.kill, kk, Nat.reduceBEq]
    refine l_split 4 [] (by kernel_rfl) ⟨?_, trivial⟩
    refine y_callB 16000 4 rfl rfl rfl rfl rfl Try.call84 (ok_spec_l1Str (code := code) (i := i9) (h := h9) (l := [ByteArray.mk #[], ByteArray.mk #[65], ByteArray.mk #[122, 122, 122, 122, 122, 122, 122, 122, 122], ByteArray.mk #[122], ByteArray.mk #[97]]) (by omega) (by omega) (by exact Nat.succ_pos _)) (ev_tmp rfl) rfl ac_arg rfl (fun _ => rfl) (ad_cons (ev_tmp rfl) (ag_one (ac_key' rfl rfl)) rfl ad_nil) rfl (fun _ => rfl) (fun _ => rfl) rfl (fun zz hz16 => ?_)
    obtain ⟨e16, i16, h16⟩ := zz
    replace hz16 : e16 ∈ ([ByteArray.mk #[], ByteArray.mk #[65], ByteArray.mk #[122, 122, 122, 122, 122, 122, 122, 122, 122], ByteArray.mk #[122], ByteArray.mk #[97]]) ∧ 0 ≤ i16 := hz16
    have hsz := size_of 9 (by decide +kernel) hz16.1
    refine l_split 7 [] (by kernel_rfl) ⟨?_, trivial⟩
    refine y_callB 19000 7 rfl rfl rfl rfl rfl Try.call85 (ok_spec_l1Int (code := code) (i := i16) (h := h16) (l := [0, -1, 1000000000, 1000000001]) (by omega) (by omega) (by exact Nat.succ_pos _)) (ev_tmp rfl) rfl ac_arg rfl (fun _ => rfl) (ad_cons (ev_tmp rfl) (ag_one (ac_key' rfl rfl)) rfl ad_nil) rfl (fun _ => rfl) (fun _ => rfl) rfl (fun zz hz19 => ?_)
    obtain ⟨e19, i19, h19⟩ := zz
    replace hz19 : e19 ∈ ([0, -1, 1000000000, 1000000001]) ∧ 0 ≤ i19 := hz19
    refine l_take 8 rfl (by kernel_rfl) rfl rfl (pu_build hT hB rfl rfl rfl (bp_cons (ev_tmp rfl) rfl rfl rfl rfl rfl (bp_cons (ev_tmp rfl) rfl rfl rfl rfl rfl bp_nil))) rfl rfl rfl rfl rfl ?_
    refine l_split 9 [] (by kernel_rfl) ⟨?_, trivial⟩
    refine y_buildN (k := 21) (js := []) 9 hT rfl rfl rfl rfl rfl rfl rfl rfl rfl rfl rfl rfl (ep_cons (ev_tmp rfl) rfl rfl rfl ep_nil) (ow_cons' (ow_dv rfl) (ow_cons' (ow_dv rfl) ow_nil rfl) rfl) (by decide) (by decide) rfl rfl rfl rfl rfl ?_
    simp only [killT, killB, SV.kill, CV.kill, kk, Nat.reduceBEq]
    refine l_chain [10, 11, 12] rfl rfl (by kernel_rfl) ?_
    refine o_appK (k := 9001) (j := 21) (cs := (e7 ++ [(e16, e19)]).flatMap eField) (n := (e7 ++ [(e16, e19)]).length) hT rfl rfl rfl rfl rfl rfl rfl (ev_tmp rfl) rfl rfl rfl (ev_tmp rfl) rfl rfl (by decide) (by have := rec_len hz7.1; dsimp only [kcOf, KC.old, fieldsD, listD]; omega) (by have := rec_len hz7.1; dsimp only [kcOf, KC.old, fieldsD, listD]; omega) (by rw [List.length_append]; rfl) (by rw [List.flatMap_append]; rfl) ?_
    simp only [killT, killB, SV.kill, CV.kill, kk, Nat.reduceBEq]
    iterate 2 refine z ?_
    refine ops_nil ?_
    iterate 6 refine z ?_
    refine ok_weak (σ' := ⟨[(2, .box 2 0), (0, .abox 0)], [(2, 40, [(.key 9001)]), (0, 102, [(.arg 900001 (bytesD (code))), (.dv [] (.int .i64 (i19))), (.dv [] (.int .i64 (h19)))])], [(9001, some (kcOf false (.sl 91 2 ((e7 ++ [(e16, e19)]).length) ((e7 ++ [(e16, e19)]).flatMap eField))))]⟩) (weak_sub ⟨rfl, rfl, trivial⟩ ⟨rfl, rfl, trivial⟩ ⟨rfl, trivial⟩ rfl) ?_
    refine z ?_
    refine fin1 (res_cell hT rfl rfl rfl rfl) ⟨(((e7 ++ [(e16, e19)])), i19, h19), ?_, rfl, rfl, rfl, rfl⟩
    try dsimp only
    exact ⟨by have := rec_app_w e7 (e16, e19); dsimp only at this; omega, by omega⟩
  ·skip
   refine y_buildN (k := 18) (js := []) 6 hT rfl rfl rfl rfl rfl rfl rfl rfl rfl rfl rfl rfl (ep_cons (ev_int (inR_lit rfl)) rfl rfl rfl (ep_cons (ev_int (inR_lit rfl)) rfl rfl rfl (ep_cons (ev_int (inR_lit rfl)) rfl rfl rfl (ep_cons (ev_int (inR_lit rfl)) rfl rfl rfl ep_nil)))) (ow_cons' (ow_dv rfl) (ow_cons' (ow_dv rfl) (ow_cons' (ow_dv rfl) (ow_cons' (ow_dv rfl) ow_nil rfl) rfl) rfl) rfl) (by decide) (by decide) rfl rfl rfl rfl rfl ?_
   simp only [killT, killB, SV.kill, CV.kill, kk, Nat.reduceBEq]
   refine l_split 3 [] (by kernel_rfl) ⟨?_, trivial⟩
   refine y_buildN (k := 15) (js := []) 3 hT rfl rfl rfl rfl rfl rfl rfl rfl rfl rfl rfl rfl (ep_cons (ev_str (str_lit rfl)) rfl rfl rfl (ep_cons (ev_str (str_lit rfl)) rfl rfl rfl (ep_cons (ev_str (str_lit rfl)) rfl rfl rfl (ep_cons (ev_str (str_lit rfl)) rfl rfl rfl (ep_cons (ev_str (str_lit rfl)) rfl rfl rfl ep_nil))))) (ow_cons' (ow_dv rfl) (ow_cons' (ow_dv rfl) (ow_cons' (ow_dv rfl) (ow_cons' (ow_dv rfl) (ow_cons' (ow_dv rfl) ow_nil rfl) rfl) rfl) rfl) rfl) (by decide) (by decide) rfl rfl rfl rfl rfl ?_
   simp only [killT, killB, SV.kill, CV.kill, kk, Nat.reduceBEq]
   refine l_split 4 [] (by kernel_rfl) ⟨?_, trivial⟩
   refine y_callB 16000 4 rfl rfl rfl rfl rfl Try.call84 (ok_spec_l1Str (code := code) (i := i9) (h := h9) (l := [ByteArray.mk #[], ByteArray.mk #[65], ByteArray.mk #[122, 122, 122, 122, 122, 122, 122, 122, 122], ByteArray.mk #[122], ByteArray.mk #[97]]) (by omega) (by omega) (by exact Nat.succ_pos _)) (ev_tmp rfl) rfl ac_arg rfl (fun _ => rfl) (ad_cons (ev_tmp rfl) (ag_one (ac_key' rfl rfl)) rfl ad_nil) rfl (fun _ => rfl) (fun _ => rfl) rfl (fun zz hz16 => ?_)
   obtain ⟨e16, i16, h16⟩ := zz
   replace hz16 : e16 ∈ ([ByteArray.mk #[], ByteArray.mk #[65], ByteArray.mk #[122, 122, 122, 122, 122, 122, 122, 122, 122], ByteArray.mk #[122], ByteArray.mk #[97]]) ∧ 0 ≤ i16 := hz16
   have hsz := size_of 9 (by decide +kernel) hz16.1
   refine l_split 7 [] (by kernel_rfl) ⟨?_, trivial⟩
   refine y_callB 19000 7 rfl rfl rfl rfl rfl Try.call85 (ok_spec_l1Int (code := code) (i := i16) (h := h16) (l := [0, -1, 1000000000, 1000000001]) (by omega) (by omega) (by exact Nat.succ_pos _)) (ev_tmp rfl) rfl ac_arg rfl (fun _ => rfl) (ad_cons (ev_tmp rfl) (ag_one (ac_key' rfl rfl)) rfl ad_nil) rfl (fun _ => rfl) (fun _ => rfl) rfl (fun zz hz19 => ?_)
   obtain ⟨e19, i19, h19⟩ := zz
   replace hz19 : e19 ∈ ([0, -1, 1000000000, 1000000001]) ∧ 0 ≤ i19 := hz19
   refine l_take 8 rfl (by kernel_rfl) rfl rfl (pu_build hT hB rfl rfl rfl (bp_cons (ev_tmp rfl) rfl rfl rfl rfl rfl (bp_cons (ev_tmp rfl) rfl rfl rfl rfl rfl bp_nil))) rfl rfl rfl rfl rfl ?_
   refine l_split 9 [] (by kernel_rfl) ⟨?_, trivial⟩
   refine y_buildN (k := 21) (js := []) 9 hT rfl rfl rfl rfl rfl rfl rfl rfl rfl rfl rfl rfl (ep_cons (ev_tmp rfl) rfl rfl rfl ep_nil) (ow_cons' (ow_dv rfl) (ow_cons' (ow_dv rfl) ow_nil rfl) rfl) (by decide) (by decide) rfl rfl rfl rfl rfl ?_
   simp only [killT, killB, SV.kill, CV.kill, kk, Nat.reduceBEq]
   refine l_chain [10, 11, 12] rfl rfl (by kernel_rfl) ?_
   refine o_appK (k := 9001) (j := 21) (cs := (e7 ++ [(e16, e19)]).flatMap eField) (n := (e7 ++ [(e16, e19)]).length) hT rfl rfl rfl rfl rfl rfl rfl (ev_tmp rfl) rfl rfl rfl (ev_tmp rfl) rfl rfl (by decide) (by have := rec_len hz7.1; dsimp only [kcOf, KC.old, fieldsD, listD]; omega) (by have := rec_len hz7.1; dsimp only [kcOf, KC.old, fieldsD, listD]; omega) (by rw [List.length_append]; rfl) (by rw [List.flatMap_append]; rfl) ?_
   simp only [killT, killB, SV.kill, CV.kill, kk, Nat.reduceBEq]
   iterate 2 refine z ?_
   refine ops_nil ?_
   iterate 6 refine z ?_
   refine ok_weak (σ' := ⟨[(2, .box 2 0), (0, .abox 0)], [(2, 40, [(.key 9001)]), (0, 102, [(.arg 900001 (bytesD (code))), (.dv [] (.int .i64 (i19))), (.dv [] (.int .i64 (h19)))])], [(9001, some (kcOf false (.sl 91 2 ((e7 ++ [(e16, e19)]).length) ((e7 ++ [(e16, e19)]).flatMap eField))))]⟩) (weak_sub ⟨rfl, rfl, trivial⟩ ⟨rfl, rfl, trivial⟩ ⟨rfl, trivial⟩ rfl) ?_
   refine z ?_
   refine fin1 (res_cell hT rfl rfl rfl rfl) ⟨(((e7 ++ [(e16, e19)])), i19, h19), ?_, rfl, rfl, rfl, rfl⟩
   try dsimp only
   exact ⟨by have := rec_app_w e7 (e16, e19); dsimp only at this; omega, by omega⟩
 ·skip
  have d1 := of_decide_eq_false c1
  iterate 4 refine z ?_
  refine yQ rfl (fun c2 => ?_) fun c2 => ?_
  ·skip
   have d2 := of_decide_eq_true c2
   refine z ?_
   refine o_buildN (k := 26) (js := []) hT rfl rfl rfl rfl rfl rfl rfl rfl rfl rfl rfl (ep_cons (ev_str (str_lit rfl)) rfl rfl rfl (ep_cons (ev_str (str_lit rfl)) rfl rfl rfl (ep_cons (ev_str (str_lit rfl)) rfl rfl rfl (ep_cons (ev_str (str_lit rfl)) rfl rfl rfl (ep_cons (ev_str (str_lit rfl)) rfl rfl rfl (ep_cons (ev_str (str_lit rfl)) rfl rfl rfl ep_nil)))))) (ow_cons' (ow_dv rfl) (ow_cons' (ow_dv rfl) (ow_cons' (ow_dv rfl) (ow_cons' (ow_dv rfl) (ow_cons' (ow_dv rfl) (ow_cons' (ow_dv rfl) ow_nil rfl) rfl) rfl) rfl) rfl) rfl) (by decide) (by decide) rfl rfl ?_
   simp only [killT, killB, SV.kill, CV.kill, kk, Nat.reduceBEq]
   refine yO rfl rfl (pu_lenKn (n := (6)) hT rfl rfl (ev_tmp rfl) rfl rfl) rfl ?_
   iterate 3 refine z ?_
   refine ok_weak (weak_view (d := 26) (dd := strsD ([ByteArray.mk #[100], ByteArray.mk #[101], ByteArray.mk #[102], ByteArray.mk #[103], ByteArray.mk #[104], ByteArray.mk #[105]])) rfl rfl (.refl _)) ?_
   refine ok_loop (ι := Nat × RecT × Int × Int) (fun zz => ⟨[(0, .abox 0), (2, .box 2 0), (3, .box 3 0), (26, .one (.dv [26] (strsD ([ByteArray.mk #[100], ByteArray.mk #[101], ByteArray.mk #[102], ByteArray.mk #[103], ByteArray.mk #[104], ByteArray.mk #[105]])))), (27, .one (.dv [] (.int .i64 (((6) : Int))))), (28, .one (.dv [] (.int .i64 ((zz.1 : Int)))))], [(0, 102, [(.arg 900001 (bytesD (code))), (.dv [] (.int .i64 (zz.2.2.1))), (.dv [] (.int .i64 (zz.2.2.2)))]), (2, 40, [.nil]), (3, 40, [(.key 9001)])], [(9001, some (kcOf false (.sl 91 2 (zz.2.1.length) (zz.2.1.flatMap eField)))), (26, some (kcOf false (.sl 9 1 (6) ([.str (ByteArray.mk #[100]), .str (ByteArray.mk #[101]), .str (ByteArray.mk #[102]), .str (ByteArray.mk #[103]), .str (ByteArray.mk #[104]), .str (ByteArray.mk #[105])]))))]⟩) (fun zz => isRec zz.2.1 = true ∧ 0 ≤ zz.2.2.1 ∧ zz.1 ≤ 6) (fun zz => 6 - zz.1) ((0, e7, i9, h9)) ?_ (weak_sub ⟨rfl, rfl, rfl, rfl, rfl, rfl, trivial⟩ ⟨rfl, rfl, rfl, trivial⟩ ⟨rfl, rfl, trivial⟩ rfl) (fun zz hx => ?_)
   ·exact ⟨hz7.1, by dsimp only; omega, Nat.zero_le _⟩
   obtain ⟨k, r, ci, ch⟩ := zz
   replace hx : isRec r = true ∧ 0 ≤ ci ∧ k ≤ 6 := hx
   obtain ⟨hr, hci, hk6⟩ := hx
   show Ok _ _ _ _ _ (⟨[(0, .abox 0), (2, .box 2 0), (3, .box 3 0), (26, .one (.dv [26] (strsD ([ByteArray.mk #[100], ByteArray.mk #[101], ByteArray.mk #[102], ByteArray.mk #[103], ByteArray.mk #[104], ByteArray.mk #[105]])))), (27, .one (.dv [] (.int .i64 (((6) : Int))))), (28, .one (.dv [] (.int .i64 ((k : Int)))))], [(0, 102, [(.arg 900001 (bytesD (code))), (.dv [] (.int .i64 (ci))), (.dv [] (.int .i64 (ch)))]), (2, 40, [.nil]), (3, 40, [(.key 9001)])], [(9001, some (kcOf false (.sl 91 2 (r.length) (r.flatMap eField)))), (26, some (kcOf false (.sl 9 1 (6) ([.str (ByteArray.mk #[100]), .str (ByteArray.mk #[101]), .str (ByteArray.mk #[102]), .str (ByteArray.mk #[103]), .str (ByteArray.mk #[104]), .str (ByteArray.mk #[105])]))))]⟩ : St)
   iterate 3 refine z ?_
   refine ok_seq ?_
   refine yQ rfl (fun c3 => ?_) fun c3 => ?_
   ·skip
    have d3 := of_decide_eq_true c3
    iterate 9 refine z ?_
    refine ok_region ?_
    iterate 2 refine z ?_
    refine o_callK 500 rfl rfl rfl Try.call98 (ok_spec_SetField (r := r) (n := (([ByteArray.mk #[100], ByteArray.mk #[101], ByteArray.mk #[102], ByteArray.mk #[103], ByteArray.mk #[104], ByteArray.mk #[105]]).getD (k : Int).toNat default)) (v := 1) (by have := rec_len hr; omega)) (as_cons (ev_tmp rfl) (ag_agg (ag_cons (ac_key' rfl rfl) ag_nil)) (as_cons (ev_tmp rfl) (ag_one ac_dv) (as_cons (ev_int (inR_lit rfl)) (ag_one ac_dv) as_nil))) rfl rfl rfl ?_
    iterate 4 refine z ?_
    refine ops_nil ?_
    iterate 2 refine z ?_
    refine ok_region ?_
    iterate 3 refine z ?_
    refine ⟨(k + 1, (setF r (([ByteArray.mk #[100], ByteArray.mk #[101], ByteArray.mk #[102], ByteArray.mk #[103], ByteArray.mk #[104], ByteArray.mk #[105]]).getD (k : Int).toNat default) 1).1, ci, ch), ?_, ?_, weak_then (weak_swapB (b := 3) (i := 0) (k := 9501) (k' := 9001) rfl rfl rfl rfl (by simp) rfl rfl) (weak_sub ⟨rfl, rfl, rfl, rfl, rfl, rfl, trivial⟩ ⟨rfl, rfl, rfl, trivial⟩ ⟨rfl, rfl, trivial⟩ rfl)⟩
    ·exact ⟨setF_rec hr, hci, by dsimp only; omega⟩
    ·dsimp only; omega
   ·skip
    have d3 := of_decide_eq_false c3
    iterate 10 refine z ?_
    refine ok_weak (σ' := ⟨[(2, .box 2 0), (0, .abox 0)], [(2, 40, [(.key 9001)]), (0, 102, [(.arg 900001 (bytesD (code))), (.dv [] (.int .i64 (ci))), (.dv [] (.int .i64 (ch)))])], [(9001, some (kcOf false (.sl 91 2 (r.length) (r.flatMap eField))))]⟩) (weak_sub ⟨rfl, rfl, trivial⟩ ⟨rfl, rfl, trivial⟩ ⟨rfl, trivial⟩ rfl) ?_
    refine z ?_
    refine fin1 (res_cell hT rfl rfl rfl rfl) ⟨((r), ci, ch), ?_, rfl, rfl, rfl, rfl⟩
    try dsimp only
    exact ⟨by have := rec_w hr; omega, by omega⟩
  ·skip
   have d2 := of_decide_eq_false c2
   iterate 7 refine z ?_
   refine ok_weak (σ' := ⟨[(2, .box 2 0), (0, .abox 0)], [(2, 40, [(.key 9001)]), (0, 102, [(.arg 900001 (bytesD (code))), (.dv [] (.int .i64 (i9))), (.dv [] (.int .i64 (h9)))])], [(9001, some (kcOf false (fieldsD (e7))))]⟩) (weak_sub ⟨rfl, rfl, trivial⟩ ⟨rfl, rfl, trivial⟩ ⟨rfl, trivial⟩ rfl) ?_
   refine z ?_
   refine fin1 (res_cell hT rfl rfl rfl rfl) ⟨((e7), i9, h9), ?_, rfl, rfl, rfl, rfl⟩
   try dsimp only
   exact ⟨by omega, by omega⟩
theorem ok_spec_l6Store {code : List UInt8} {i h : Int} {nm : Str} (hc : code.length ≤ 1048576) (hi : 0 ≤ i) (hn : isName nm = true) : BFn Try.prog 82 [.one (.dv [] (.str (nm)))] 102 (bytesD (code)) [.dv [] (.int .i64 (i)), .dv [] (.int .i64 (h))] (fun zz : StoreT × Int × Int => isSto zz.1 = true ∧ zz.1.1 = nm ∧ autoI zz.1 ∧ zz.1.2.2 ≤ 256 ∧ 0 ≤ zz.2.1) (fun zz : StoreT × Int × Int => .agg [(.dv [] (.str (zz.1.1))), (.key 9001), (.dv [] (.int .i64 (zz.1.2.2)))]) (fun zz : StoreT × Int × Int => [(9001, some (kcOf false (itemsD (zz.1.2.1))))]) (fun zz : StoreT × Int × Int => [.dv [] (.int .i64 (zz.2.1)), .dv [] (.int .i64 (zz.2.2))]) := by
 refine ⟨fn_introS Try.func82 rfl Try.ntmps82 Try.results82 rfl (fun C => ?_)⟩
 refine ok_fact (x := .tmp 1) (ev_tmp rfl) fun f1 => ?_
 iterate 5 refine z ?_
 refine yO rfl rfl (pu_build hT hB rfl rfl rfl (bp_cons (ev_tmp rfl) rfl rfl rfl rfl rfl bp_nil)) rfl ?_
 iterate 3 refine z ?_
 refine ok_seq ?_
 refine ok_seq ?_
 refine ok_weak (weak_nilB 9001 (b := 5) (i := 1) (e := 42) (sz := 4) rfl rfl rfl rfl rfl) ?_
 simp only [killT, killB, SV.kill, CV.kill, kk, Nat.reduceBEq]
 refine ok_region ?_
 refine yO rfl rfl (pu_move (.inl rfl) (ev_abox (ev_tmp rfl))) rfl ?_
 refine o_buildN (k := 10) (js := []) hT rfl rfl rfl rfl rfl rfl rfl rfl rfl rfl rfl (ep_cons (ev_int (inR_lit rfl)) rfl rfl rfl (ep_cons (ev_int (inR_lit rfl)) rfl rfl rfl (ep_cons (ev_int (inR_lit rfl)) rfl rfl rfl (ep_cons (ev_int (inR_lit rfl)) rfl rfl rfl ep_nil)))) (ow_cons' (ow_dv rfl) (ow_cons' (ow_dv rfl) (ow_cons' (ow_dv rfl) (ow_cons' (ow_dv rfl) ow_nil rfl) rfl) rfl) rfl) (by decide) (by decide) rfl rfl ?_
 simp only [killT, killB, SV.kill, CV.kill, kk, Nat.reduceBEq]
 refine o_callB 11000 rfl rfl rfl Try.call85 (ok_spec_l1Int (code := code) (i := i) (h := h) (l := [0, 2, 4, 6]) (by omega) (by omega) (by exact Nat.succ_pos _)) (ev_tmp rfl) rfl ac_arg rfl (fun _ => rfl) (ad_cons (ev_tmp rfl) (ag_one (ac_key' rfl rfl)) rfl ad_nil) rfl (fun _ => rfl) (fun _ => rfl) (fun zz hz11 => ?_)
 obtain ⟨e11, i11, h11⟩ := zz
 replace hz11 : e11 ∈ ([0, 2, 4, 6]) ∧ 0 ≤ i11 := hz11
 have hnr := rng_of 0 6 (by decide +kernel) hz11.1
 iterate 3 refine z ?_
 refine ok_loop (ι := Int × StoreT × Int × Int) (fun zz => ⟨[(0, .abox 0), (4, .box 4 0), (5, .box 5 0), (6, .one (.dv [] (.int .i64 (zz.1))))], [(0, 102, [(.arg 900001 (bytesD (code))), (.dv [] (.int .i64 (zz.2.2.1))), (.dv [] (.int .i64 (zz.2.2.2)))]), (4, 26, [(.dv [] (.str (ByteArray.empty))), .nil, (.dv [] (.int .i64 (0)))]), (5, 26, [(.dv [] (.str (zz.2.1.1))), (.key 9001), (.dv [] (.int .i64 (zz.2.1.2.2)))])], [(9001, some (kcOf false (.sl 42 4 (zz.2.1.2.1.length) (zz.2.1.2.1.flatMap eItem))))]⟩) (fun zz => isSto zz.2.1 = true ∧ zz.2.1.1 = nm ∧ autoI zz.2.1 ∧ zz.2.1.2.2 ≤ 256 ∧ 0 ≤ zz.2.2.1 ∧ zz.1 ≤ 6) (fun zz => zz.1.toNat) ((e11, (nm, [], 0), i11, h11)) ?_ (weak_sub ⟨rfl, rfl, rfl, rfl, trivial⟩ ⟨rfl, rfl, rfl, trivial⟩ ⟨rfl, trivial⟩ rfl) (fun zz hx => ?_)
 ·refine ⟨?_, rfl, fun y hy => (by cases hy), by dsimp only; omega, by dsimp only; omega, by dsimp only; omega⟩
  unfold isSto; simp [hn]
 obtain ⟨n, s, ci, ch⟩ := zz
 replace hx : isSto s = true ∧ s.1 = nm ∧ autoI s ∧ s.2.2 ≤ 256 ∧ 0 ≤ ci ∧ n ≤ 6 := hx
 obtain ⟨hs, hnm, ha, ha2, hci, hn6⟩ := hx
 show Ok _ _ _ _ _ (⟨[(0, .abox 0), (4, .box 4 0), (5, .box 5 0), (6, .one (.dv [] (.int .i64 (n))))], [(0, 102, [(.arg 900001 (bytesD (code))), (.dv [] (.int .i64 (ci))), (.dv [] (.int .i64 (ch)))]), (4, 26, [(.dv [] (.str (ByteArray.empty))), .nil, (.dv [] (.int .i64 (0)))]), (5, 26, [(.dv [] (.str (s.1))), (.key 9001), (.dv [] (.int .i64 (s.2.2)))])], [(9001, some (kcOf false (.sl 42 4 (s.2.1.length) (s.2.1.flatMap eItem))))]⟩ : St)
 iterate 5 refine z ?_
 refine yQ rfl (fun c1 => ?_) fun c1 => ?_
 ·skip
  have d1 := of_decide_eq_true c1
  iterate 4 refine z ?_
  refine ok_regionL [0] [0, 1, 2, 3, 4, 5, 6] (oB := [4, 5]) (oK := [9001]) (by kernel_rfl) rfl rfl ?_
  refine l_take 0 rfl (by kernel_rfl) rfl rfl (pu_loadBoxA hT rfl rfl (ev_tmp rfl) rfl rfl) rfl rfl rfl rfl rfl ?_
  refine l_take 1 rfl (by kernel_rfl) rfl rfl (pu_move (.inl rfl) (ev_abox (ev_tmp rfl))) rfl rfl rfl rfl rfl ?_
  refine l_take 3 rfl (by kernel_rfl) rfl rfl (pu_move (.inl rfl) (ev_abox (ev_tmp rfl))) rfl rfl rfl rfl rfl ?_
  refine l_split 2 [] (by kernel_rfl) ⟨?_, trivial⟩
  refine y_callB 19000 2 rfl rfl rfl rfl rfl Try.call88 (ok_spec_l4Small (code := code) (i := ci) (h := ch) (by omega) (by omega)) (ev_tmp rfl) rfl ac_arg rfl (fun _ => rfl) ad_nil rfl (fun _ => rfl) (fun _ => rfl) rfl (fun zz hz19 => ?_)
  obtain ⟨e19, i19, h19⟩ := zz
  replace hz19 : isKey e19 = true ∧ smallK e19 ∧ 0 ≤ i19 := hz19
  refine l_split 4 [] (by kernel_rfl) ⟨?_, trivial⟩
  refine y_callB 21000 4 rfl rfl rfl rfl rfl Try.call97 (ok_spec_l5Record (code := code) (i := i19) (h := h19) (by omega) (by omega)) (ev_tmp rfl) rfl ac_arg rfl (fun _ => rfl) ad_nil rfl (fun _ => rfl) (fun _ => rfl) rfl (fun zz hz21 => ?_)
  obtain ⟨e21, i21, h21⟩ := zz
  replace hz21 : isRec e21 = true ∧ 0 ≤ i21 := hz21
  have hrl := rec_len hz21.1
  refine l_split 5 [] (by kernel_rfl) ⟨?_, trivial⟩
  refine y_callK 500 5 rfl rfl rfl rfl Try.call35 (ok_spec_PutItem (x := s) (k := e19) (r := e21) (by have := sto_w2 hs; omega) (by omega)) (as_cons (ev_tmp rfl) (ag_agg (ag_cons ac_dv (ag_cons (ac_key' rfl rfl) (ag_cons ac_dv ag_nil)))) (as_cons (ev_tmp rfl) (ag_agg (ag_cons ac_dv (ag_cons ac_dv (ag_cons ac_dv ag_nil)))) (as_cons (ev_tmp rfl) (ag_agg (ag_cons (ac_key' rfl rfl) ag_nil)) as_nil))) rfl rfl rfl rfl rfl rfl ?_
  refine l_take 6 rfl (by kernel_rfl) rfl rfl (pu_move (.inl rfl) (ev_tmp rfl)) rfl rfl rfl rfl rfl ?_
  refine l_takeX 7 rfl (by kernel_rfl) rfl rfl rfl (pu_extractA rfl (ev_tmp rfl) rfl) rfl rfl ?_
  refine l_takeX 8 rfl (by kernel_rfl) rfl rfl rfl (pu_extract1 rfl (ev_tmp rfl) rfl) rfl rfl ?_
  refine l_chain [9] rfl rfl (by kernel_rfl) ?_
  refine z ?_
  refine ops_nil ?_
  iterate 2 refine z ?_
  refine ok_region ?_
  iterate 4 refine z ?_
  refine ⟨(n - 1, (putN s e19 e21).1, i21, h21), ?_, ?_, weak_then (weak_swapB (b := 5) (i := 1) (k := 9501) (k' := 9001) rfl rfl rfl rfl (by simp) rfl rfl) (weak_sub ⟨rfl, rfl, rfl, rfl, trivial⟩ ⟨rfl, rfl, rfl, trivial⟩ ⟨rfl, trivial⟩ rfl)⟩
  ·exact ⟨putN_sto hs, (putN_name _ _ _).trans hnm, autoI_put ha, auto_small ha2 hz19.2.1, by dsimp only; omega, by dsimp only; omega⟩
  ·dsimp only; omega
 ·skip
  have d1 := of_decide_eq_false c1
  iterate 7 refine z ?_
  refine yO rfl rfl (pu_move (.inl rfl) (ev_abox (ev_tmp rfl))) rfl ?_
  refine o_callB 26000 rfl rfl rfl Try.call87 (ok_spec_l1Once (code := code) (i := ci) (h := ch) (n := 8) (by omega) (by omega) ) (ev_tmp rfl) rfl ac_arg rfl (fun _ => rfl) (ad_cons (ev_int (inR_lit rfl)) (ag_one ac_dv) rfl ad_nil) rfl (fun _ => rfl) (fun _ => rfl) (fun zz hz26 => ?_)
  obtain ⟨e26, i26, h26⟩ := zz
  replace hz26 : 0 ≤ i26 := hz26
  refine z ?_
  refine yQ rfl (fun c2 => ?_) fun c2 => ?_
  ·skip
   refine ok_regionL [0] [0, 1, 2, 3, 4, 5, 6] (oB := [4, 5]) (oK := [9001]) (by kernel_rfl) rfl rfl ?_
   refine l_take 0 rfl (by kernel_rfl) rfl rfl (pu_loadBoxA hT rfl rfl (ev_tmp rfl) rfl rfl) rfl rfl rfl rfl rfl ?_
   refine l_take 1 rfl (by kernel_rfl) rfl rfl (pu_move (.inl rfl) (ev_abox (ev_tmp rfl))) rfl rfl rfl rfl rfl ?_
   refine l_take 3 rfl (by kernel_rfl) rfl rfl (pu_move (.inl rfl) (ev_abox (ev_tmp rfl))) rfl rfl rfl rfl rfl ?_
   refine l_split 2 [] (by kernel_rfl) ⟨?_, trivial⟩
   refine y_callB 30000 2 rfl rfl rfl rfl rfl Try.call101 (ok_spec_l4Key (code := code) (i := i26) (h := h26) (by omega) (by omega)) (ev_tmp rfl) rfl ac_arg rfl (fun _ => rfl) ad_nil rfl (fun _ => rfl) (fun _ => rfl) rfl (fun zz hz30 => ?_)
   obtain ⟨e30, i30, h30⟩ := zz
   replace hz30 : isKey e30 = true ∧ smallK e30 ∧ 0 ≤ i30 := hz30
   refine l_split 4 [] (by kernel_rfl) ⟨?_, trivial⟩
   refine y_callB 32000 4 rfl rfl rfl rfl rfl Try.call97 (ok_spec_l5Record (code := code) (i := i30) (h := h30) (by omega) (by omega)) (ev_tmp rfl) rfl ac_arg rfl (fun _ => rfl) ad_nil rfl (fun _ => rfl) (fun _ => rfl) rfl (fun zz hz32 => ?_)
   obtain ⟨e32, i32, h32⟩ := zz
   replace hz32 : isRec e32 = true ∧ 0 ≤ i32 := hz32
   have hrl := rec_len hz32.1
   refine l_split 5 [] (by kernel_rfl) ⟨?_, trivial⟩
   refine y_callK 600 5 rfl rfl rfl rfl Try.call35 (ok_spec_PutItem (x := s) (k := e30) (r := e32) (by have := sto_w2 hs; omega) (by omega)) (as_cons (ev_tmp rfl) (ag_agg (ag_cons ac_dv (ag_cons (ac_key' rfl rfl) (ag_cons ac_dv ag_nil)))) (as_cons (ev_tmp rfl) (ag_agg (ag_cons ac_dv (ag_cons ac_dv (ag_cons ac_dv ag_nil)))) (as_cons (ev_tmp rfl) (ag_agg (ag_cons (ac_key' rfl rfl) ag_nil)) as_nil))) rfl rfl rfl rfl rfl rfl ?_
   refine l_take 6 rfl (by kernel_rfl) rfl rfl (pu_move (.inl rfl) (ev_tmp rfl)) rfl rfl rfl rfl rfl ?_
   refine l_takeX 7 rfl (by kernel_rfl) rfl rfl rfl (pu_extractA rfl (ev_tmp rfl) rfl) rfl rfl ?_
   refine l_takeX 8 rfl (by kernel_rfl) rfl rfl rfl (pu_extract1 rfl (ev_tmp rfl) rfl) rfl rfl ?_
   refine l_chain [9] rfl rfl (by kernel_rfl) ?_
   iterate 6 refine z ?_
   refine ok_weak (weak_swapB (b := 4) (i := 1) (k := 9601) (k' := 9001) rfl rfl rfl rfl (by simp) rfl rfl) ?_
   try simp only [killT, killB, SV.kill, CV.kill, kk, Nat.reduceBEq]
   refine ok_weak (σ' := ⟨[(4, .box 4 0), (0, .abox 0)], [(4, 26, [(.dv [] (.str ((putN (s) (e30) (e32)).1.1))), (.key 9001), (.dv [] (.int .i64 ((putN (s) (e30) (e32)).1.2.2)))]), (0, 102, [(.arg 900001 (bytesD (code))), (.dv [] (.int .i64 (i32))), (.dv [] (.int .i64 (h32)))])], [(9001, some (kcOf false (itemsD ((putN (s) (e30) (e32)).1.2.1))))]⟩) (weak_sub ⟨rfl, rfl, trivial⟩ ⟨rfl, rfl, trivial⟩ ⟨rfl, trivial⟩ rfl) ?_
   refine z ?_
   refine fin1 (res_cell hT rfl rfl rfl rfl) ⟨((((putN (s) (e30) (e32)).1.1), (((putN (s) (e30) (e32)).1.2.1), ((putN (s) (e30) (e32)).1.2.2))), i32, h32), ?_, rfl, rfl, rfl, rfl⟩
   try dsimp only
   exact ⟨putN_sto hs, (putN_name _ _ _).trans hnm, autoI_put ha, auto_small ha2 hz30.2.1, by omega⟩
  ·skip
   iterate 6 refine z ?_
   refine ok_weak (σ' := ⟨[(4, .box 4 0), (0, .abox 0)], [(4, 26, [(.dv [] (.str (s.1))), (.key 9001), (.dv [] (.int .i64 (s.2.2)))]), (0, 102, [(.arg 900001 (bytesD (code))), (.dv [] (.int .i64 (i26))), (.dv [] (.int .i64 (h26)))])], [(9001, some (kcOf false (.sl 42 4 (s.2.1.length) (s.2.1.flatMap eItem))))]⟩) (weak_sub ⟨rfl, rfl, trivial⟩ ⟨rfl, rfl, trivial⟩ ⟨rfl, trivial⟩ rfl) ?_
   refine z ?_
   refine fin1 (res_cell hT rfl rfl rfl rfl) ⟨(((s.1), ((s.2.1), (s.2.2))), i26, h26), ?_, rfl, rfl, rfl, rfl⟩
   try dsimp only
   exact ⟨hs, hnm, ha, ha2, by omega⟩
theorem ok_spec_l6Any {code : List UInt8} {i h : Int} (hc : code.length ≤ 1048576) (hi : 0 ≤ i) : BFn Try.prog 46 [] 102 (bytesD (code)) [.dv [] (.int .i64 (i)), .dv [] (.int .i64 (h))] (fun zz : StoreT × Int × Int => wStore zz.1 ≤ 1500 ∧ 0 ≤ zz.2.1) (fun zz : StoreT × Int × Int => .agg [(.dv [] (.str (zz.1.1))), (.key 9001), (.dv [] (.int .i64 (zz.1.2.2)))]) (fun zz : StoreT × Int × Int => [(9001, some (kcOf false (itemsD (zz.1.2.1))))]) (fun zz : StoreT × Int × Int => [.dv [] (.int .i64 (zz.2.1)), .dv [] (.int .i64 (zz.2.2))]) := by
 refine ⟨fn_introS Try.func46 rfl Try.ntmps46 Try.results46 rfl (fun C => ?_)⟩
 iterate 4 refine z ?_
 refine yO rfl rfl (pu_move (.inl rfl) (ev_abox (ev_tmp rfl))) rfl ?_
 refine o_callB 0 rfl rfl rfl Try.call82 (ok_spec_l6Store (code := code) (i := i) (h := h) (nm := ByteArray.mk #[110, 111, 116, 101, 115]) (by omega) (by omega) (by decide +kernel)) (ev_tmp rfl) rfl ac_arg rfl (fun _ => rfl) (ad_cons (ev_str (str_lit rfl)) (ag_one ac_dv) rfl ad_nil) rfl (fun _ => rfl) (fun _ => rfl) (fun zz hz5 => ?_)
 obtain ⟨e5, i5, h5⟩ := zz
 replace hz5 : isSto e5 = true ∧ e5.1 = (ByteArray.mk #[110, 111, 116, 101, 115]) ∧ autoI e5 ∧ e5.2.2 ≤ 256 ∧ 0 ≤ i5 := hz5
 have hw5 := sto_w2 hz5.1
 have hls := (sto_srt hz5.1).2.2
 iterate 5 refine z ?_
 refine yO rfl rfl (pu_move (.inl rfl) (ev_abox (ev_tmp rfl))) rfl ?_
 refine o_callB 7000 rfl rfl rfl Try.call83 (ok_spec_l1Below (code := code) (i := i5) (h := h5) (n := 12) (by omega) (by omega) ) (ev_tmp rfl) rfl ac_arg rfl (fun _ => rfl) (ad_cons (ev_int (inR_lit rfl)) (ag_one ac_dv) rfl ad_nil) rfl (fun _ => rfl) (fun _ => rfl) (fun zz hz7 => ?_)
 obtain ⟨e7, i7, h7⟩ := zz
 replace hz7 : 0 ≤ e7 ∧ (0 < (12 : Int) → e7 < (12 : Int)) ∧ 0 ≤ i7 := hz7
 iterate 6 refine z ?_
 refine yQ rfl (fun c1 => ?_) fun c1 => ?_
 ·skip
  have d1 := of_decide_eq_true c1
  refine ok_region ?_
  refine yO rfl rfl (pu_move (.inl rfl) (ev_abox (ev_tmp rfl))) rfl ?_
  refine o_buildN (k := 11) (js := []) hT rfl rfl rfl rfl rfl rfl rfl rfl rfl rfl rfl (ep_cons (ev_str (str_lit rfl)) rfl rfl rfl (ep_cons (ev_str (str_lit rfl)) rfl rfl rfl (ep_cons (ev_str (str_lit rfl)) rfl rfl rfl ep_nil))) (ow_cons' (ow_dv rfl) (ow_cons' (ow_dv rfl) (ow_cons' (ow_dv rfl) ow_nil rfl) rfl) rfl) (by decide) (by decide) rfl rfl ?_
  simp only [killT, killB, SV.kill, CV.kill, kk, Nat.reduceBEq]
  refine o_callB 12000 rfl rfl rfl Try.call84 (ok_spec_l1Str (code := code) (i := i7) (h := h7) (l := [ByteArray.mk #[], ByteArray.mk #[81], ByteArray.mk #[97, 98, 99, 100, 101, 102, 103, 104, 105]]) (by omega) (by omega) (by exact Nat.succ_pos _)) (ev_tmp rfl) rfl ac_arg rfl (fun _ => rfl) (ad_cons (ev_tmp rfl) (ag_one (ac_key' rfl rfl)) rfl ad_nil) rfl (fun _ => rfl) (fun _ => rfl) (fun zz hz12 => ?_)
  obtain ⟨e12, i12, h12⟩ := zz
  replace hz12 : e12 ∈ ([ByteArray.mk #[], ByteArray.mk #[81], ByteArray.mk #[97, 98, 99, 100, 101, 102, 103, 104, 105]]) ∧ 0 ≤ i12 := hz12
  have hsz := size_of 9 (by decide +kernel) hz12.1
  iterate 2 refine z ?_
  refine ops_nil ?_
  iterate 6 refine z ?_
  refine ok_weak (σ' := ⟨[(2, .box 2 0), (0, .abox 0)], [(2, 26, [(.dv [] (.str (e12))), (.key 9001), (.dv [] (.int .i64 (e5.2.2)))]), (0, 102, [(.arg 900001 (bytesD (code))), (.dv [] (.int .i64 (i12))), (.dv [] (.int .i64 (h12)))])], [(9001, some (kcOf false (itemsD (e5.2.1))))]⟩) (weak_sub ⟨rfl, rfl, trivial⟩ ⟨rfl, rfl, trivial⟩ ⟨rfl, trivial⟩ rfl) ?_
  refine z ?_
  refine fin1 (res_cell hT rfl rfl rfl rfl) ⟨(((e12), ((e5.2.1), (e5.2.2))), i12, h12), ?_, rfl, rfl, rfl, rfl⟩
  try dsimp only
  exact ⟨by have h1 : wStore e5 = e5.1.size + (e5.2.1.length + wSum wItem e5.2.1) := rfl; have h2 : wStore (e12, e5.2.1, e5.2.2) = e12.size + (e5.2.1.length + wSum wItem e5.2.1) := rfl; omega, by omega⟩
 ·skip
  have d1 := of_decide_eq_false c1
  iterate 4 refine z ?_
  refine yQ rfl (fun c2 => ?_) fun c2 => ?_
  ·skip
   have d2 := of_decide_eq_true c2
   refine ok_region ?_
   refine yO rfl rfl (pu_move (.inl rfl) (ev_abox (ev_tmp rfl))) rfl ?_
   refine o_buildN (k := 17) (js := []) hT rfl rfl rfl rfl rfl rfl rfl rfl rfl rfl rfl (ep_cons (ev_int (inR_lit rfl)) rfl rfl rfl (ep_cons (ev_int (inR_lit rfl)) rfl rfl rfl (ep_cons (ev_int (inR_lit rfl)) rfl rfl rfl (ep_cons (ev_int (inR_lit rfl)) rfl rfl rfl ep_nil)))) (ow_cons' (ow_dv rfl) (ow_cons' (ow_dv rfl) (ow_cons' (ow_dv rfl) (ow_cons' (ow_dv rfl) ow_nil rfl) rfl) rfl) rfl) (by decide) (by decide) rfl rfl ?_
   simp only [killT, killB, SV.kill, CV.kill, kk, Nat.reduceBEq]
   refine o_callB 18000 rfl rfl rfl Try.call85 (ok_spec_l1Int (code := code) (i := i7) (h := h7) (l := [-1, 999999, 1000000, 1000001]) (by omega) (by omega) (by exact Nat.succ_pos _)) (ev_tmp rfl) rfl ac_arg rfl (fun _ => rfl) (ad_cons (ev_tmp rfl) (ag_one (ac_key' rfl rfl)) rfl ad_nil) rfl (fun _ => rfl) (fun _ => rfl) (fun zz hz18 => ?_)
   obtain ⟨e18, i18, h18⟩ := zz
   replace hz18 : e18 ∈ ([-1, 999999, 1000000, 1000001]) ∧ 0 ≤ i18 := hz18
   iterate 2 refine z ?_
   refine ops_nil ?_
   iterate 6 refine z ?_
   refine ok_weak (σ' := ⟨[(2, .box 2 0), (0, .abox 0)], [(2, 26, [(.dv [] (.str (e5.1))), (.key 9001), (.dv [] (.int .i64 (e18)))]), (0, 102, [(.arg 900001 (bytesD (code))), (.dv [] (.int .i64 (i18))), (.dv [] (.int .i64 (h18)))])], [(9001, some (kcOf false (itemsD (e5.2.1))))]⟩) (weak_sub ⟨rfl, rfl, trivial⟩ ⟨rfl, rfl, trivial⟩ ⟨rfl, trivial⟩ rfl) ?_
   refine z ?_
   refine fin1 (res_cell hT rfl rfl rfl rfl) ⟨(((e5.1), ((e5.2.1), (e18))), i18, h18), ?_, rfl, rfl, rfl, rfl⟩
   try dsimp only
   exact ⟨by have h2 : wStore (e5.1, e5.2.1, e18) = wStore e5 := rfl; omega, by omega⟩
  ·skip
   have d2 := of_decide_eq_false c2
   iterate 4 refine z ?_
   refine yQ rfl (fun c3 => ?_) fun c3 => ?_
   ·skip
    have d3 := of_decide_eq_true c3
    refine ok_regionL [0] [0, 1, 2, 3, 4, 5, 6, 7] (oB := [2, 3]) (oK := [9001]) (by kernel_rfl) rfl rfl ?_
    refine l_take 0 rfl (by kernel_rfl) rfl rfl (pu_fieldBox hT rfl rfl rfl (ev_tmp rfl)) rfl rfl rfl rfl rfl ?_
    refine l_take 1 rfl (by kernel_rfl) rfl rfl (pu_loadBox1 hT rfl rfl (ev_tmp rfl) rfl rfl) rfl rfl rfl rfl rfl ?_
    refine l_take 2 rfl (by kernel_rfl) rfl rfl (pu_move (.inl rfl) (ev_abox (ev_tmp rfl))) rfl rfl rfl rfl rfl ?_
    refine l_take 4 rfl (by kernel_rfl) rfl rfl (pu_move (.inl rfl) (ev_abox (ev_tmp rfl))) rfl rfl rfl rfl rfl ?_
    refine l_split 3 [] (by kernel_rfl) ⟨?_, trivial⟩
    refine y_callB 25000 3 rfl rfl rfl rfl rfl Try.call86 (ok_spec_l4Any (code := code) (i := i7) (h := h7) (by omega) (by omega)) (ev_tmp rfl) rfl ac_arg rfl (fun _ => rfl) ad_nil rfl (fun _ => rfl) (fun _ => rfl) rfl (fun zz hz25 => ?_)
    obtain ⟨e25, i25, h25⟩ := zz
    replace hz25 : e25.2.2.size ≤ 13 ∧ 0 ≤ i25 := hz25
    refine l_split 5 [] (by kernel_rfl) ⟨?_, trivial⟩
    refine y_callB 27000 5 rfl rfl rfl rfl rfl Try.call70 (ok_spec_l5Any (code := code) (i := i25) (h := h25) (by omega) (by omega)) (ev_tmp rfl) rfl ac_arg rfl (fun _ => rfl) ad_nil rfl (fun _ => rfl) (fun _ => rfl) rfl (fun zz hz27 => ?_)
    obtain ⟨e27, i27, h27⟩ := zz
    replace hz27 : wRecord e27 ≤ 200 ∧ 0 ≤ i27 := hz27
    refine l_take 6 rfl (by kernel_rfl) rfl rfl (pu_build hT hB rfl rfl rfl (bp_cons (ev_tmp rfl) rfl rfl rfl rfl rfl (bp_cons (ev_tmp rfl) rfl rfl rfl rfl rfl bp_nil))) rfl rfl rfl rfl rfl ?_
    refine l_split 7 [] (by kernel_rfl) ⟨?_, trivial⟩
    refine y_buildN (k := 29) (js := [36001]) 7 hT rfl rfl rfl rfl rfl rfl rfl rfl rfl rfl rfl rfl (ep_cons (ev_tmp rfl) rfl rfl rfl ep_nil) (ow_cons' (ow_dv rfl) (ow_cons' (ow_dv rfl) (ow_cons' (ow_dv rfl) (ow_cons' (ow_key rfl) ow_nil rfl) rfl) rfl) rfl) (by decide) (by decide) rfl rfl rfl rfl rfl ?_
    simp only [killT, killB, SV.kill, CV.kill, kk, Nat.reduceBEq]
    refine l_chain [8, 9, 10] rfl rfl (by kernel_rfl) ?_
    refine o_appK (k := 9001) (j := 29) (cs := (e5.2.1 ++ [(e25, e27)]).flatMap eItem) (n := (e5.2.1 ++ [(e25, e27)]).length) hT rfl rfl rfl rfl rfl rfl rfl (ev_tmp rfl) rfl rfl rfl (ev_tmp rfl) rfl rfl (by decide) (by dsimp only [kcOf, KC.old, itemsD, listD]; omega) (by dsimp only [kcOf, KC.old, itemsD, listD]; omega) (by rw [List.length_append]; rfl) (by rw [List.flatMap_append]; rfl) ?_
    simp only [killT, killB, SV.kill, CV.kill, kk, Nat.reduceBEq]
    iterate 2 refine z ?_
    refine ops_nil ?_
    iterate 6 refine z ?_
    refine ok_weak (σ' := ⟨[(2, .box 2 0), (0, .abox 0)], [(2, 26, [(.dv [] (.str (e5.1))), (.key 9001), (.dv [] (.int .i64 (e5.2.2)))]), (0, 102, [(.arg 900001 (bytesD (code))), (.dv [] (.int .i64 (i27))), (.dv [] (.int .i64 (h27)))])], [(9001, some (kcOf false (.sl 42 4 ((e5.2.1 ++ [(e25, e27)]).length) ((e5.2.1 ++ [(e25, e27)]).flatMap eItem))))]⟩) (weak_sub ⟨rfl, rfl, trivial⟩ ⟨rfl, rfl, trivial⟩ ⟨rfl, trivial⟩ rfl) ?_
    refine z ?_
    refine fin1 (res_cell hT rfl rfl rfl rfl) ⟨(((e5.1), (((e5.2.1 ++ [(e25, e27)])), (e5.2.2))), i27, h27), ?_, rfl, rfl, rfl, rfl⟩
    try dsimp only
    exact ⟨by have h2 := sto_app_w e5 (e25, e27); dsimp only at h2; omega, by omega⟩
   ·skip
    have d3 := of_decide_eq_false c3
    iterate 4 refine z ?_
    refine yQ rfl (fun c4 => ?_) fun c4 => ?_
    ·skip
     have d4 := of_decide_eq_true c4
     refine z ?_
     refine ok_loop (ι := StoreT × Int × Int) (fun zz => ⟨[(0, .abox 0), (2, .box 2 0), (3, .box 3 0)], [(0, 102, [(.arg 900001 (bytesD (code))), (.dv [] (.int .i64 (zz.2.1))), (.dv [] (.int .i64 (zz.2.2)))]), (2, 26, [(.dv [] (.str (ByteArray.empty))), .nil, (.dv [] (.int .i64 (0)))]), (3, 26, [(.dv [] (.str (zz.1.1))), (.key 9001), (.dv [] (.int .i64 (zz.1.2.2)))])], [(9001, some (kcOf false (.sl 42 4 (zz.1.2.1.length) (zz.1.2.1.flatMap eItem))))]⟩) (fun zz => isSto zz.1 = true ∧ autoI zz.1 ∧ zz.1.2.2 ≤ 284 + (zz.1.2.1.length : Int) ∧ 0 ≤ zz.2.1) (fun zz => 16 - zz.1.2.1.length) ((e5, i7, h7)) ?_ (weak_sub ⟨rfl, rfl, rfl, trivial⟩ ⟨rfl, rfl, rfl, trivial⟩ ⟨rfl, trivial⟩ rfl) (fun zz hx => ?_)
     ·exact ⟨hz5.1, hz5.2.2.1, by dsimp only; omega, by dsimp only; omega⟩
     obtain ⟨s, ci, ch⟩ := zz
     replace hx : isSto s = true ∧ autoI s ∧ s.2.2 ≤ 284 + (s.2.1.length : Int) ∧ 0 ≤ ci := hx
     obtain ⟨hs, ha, ha2, hci⟩ := hx
     show Ok _ _ _ _ _ (⟨[(0, .abox 0), (2, .box 2 0), (3, .box 3 0)], [(0, 102, [(.arg 900001 (bytesD (code))), (.dv [] (.int .i64 (ci))), (.dv [] (.int .i64 (ch)))]), (2, 26, [(.dv [] (.str (ByteArray.empty))), .nil, (.dv [] (.int .i64 (0)))]), (3, 26, [(.dv [] (.str (s.1))), (.key 9001), (.dv [] (.int .i64 (s.2.2)))])], [(9001, some (kcOf false (.sl 42 4 (s.2.1.length) (s.2.1.flatMap eItem))))]⟩ : St)
     iterate 4 refine z ?_
     refine yO rfl rfl (pu_lenKn (n := (s.2.1.length)) hT rfl rfl (ev_tmp rfl) rfl rfl) rfl ?_
     iterate 3 refine z ?_
     refine o_callG (gd_bool rfl rfl rfl rfl rfl) rfl rfl Try.call9 (ok_spec_IsStore (s := s)) (fun hg => (as_cons (ev_opt rfl hg) (ag_agg (ag_cons ac_dv (ag_cons (ac_key' rfl rfl) (ag_cons ac_dv ag_nil)))) as_nil)) rfl rfl ?_
     iterate 2 refine z ?_
     refine yQ rfl (fun c5 => ?_) fun c5 => ?_
     ·skip
      obtain ⟨q1, q2⟩ := (Bool.and_eq_true _ _ ▸ c5 : _ ∧ _)
      have q3 := of_decide_eq_true q1
      obtain ⟨r1, r2, r3, r4, r5⟩ := auto_step hs ha (by omega) ha2
      iterate 3 refine z ?_
      refine ok_region ?_
      refine z ?_
      refine yO rfl rfl (pu_build hT hB rfl rfl rfl bp_nil) rfl ?_
      refine o_callK 500 rfl rfl rfl Try.call39 (ok_spec_AutoItem (x := s) (r := []) (by have := sto_w2 hs; omega) (by decide)) (as_cons (ev_tmp rfl) (ag_agg (ag_cons ac_dv (ag_cons (ac_key' rfl rfl) (ag_cons ac_dv ag_nil)))) (as_cons (ev_tmp rfl) (ag_agg (ag_cons (ac_nil' rfl rfl) ag_nil)) as_nil)) rfl rfl rfl ?_
      iterate 5 refine z ?_
      refine ops_nil ?_
      iterate 2 refine z ?_
      refine ⟨((autoN s []).1, ci, ch), ?_, ?_, weak_then (weak_swapB (b := 3) (i := 1) (k := 9501) (k' := 9001) rfl rfl rfl rfl (by simp) rfl rfl) (weak_sub ⟨rfl, rfl, rfl, trivial⟩ ⟨rfl, rfl, rfl, trivial⟩ ⟨rfl, trivial⟩ rfl)⟩
      ·exact ⟨r2, r3, by dsimp only; omega, hci⟩
      ·dsimp only; omega
     ·skip
      iterate 10 refine z ?_
      refine ok_weak (σ' := ⟨[(2, .box 2 0), (0, .abox 0)], [(2, 26, [(.dv [] (.str (s.1))), (.key 9001), (.dv [] (.int .i64 (s.2.2)))]), (0, 102, [(.arg 900001 (bytesD (code))), (.dv [] (.int .i64 (ci))), (.dv [] (.int .i64 (ch)))])], [(9001, some (kcOf false (.sl 42 4 (s.2.1.length) (s.2.1.flatMap eItem))))]⟩) (weak_sub ⟨rfl, rfl, trivial⟩ ⟨rfl, rfl, trivial⟩ ⟨rfl, trivial⟩ rfl) ?_
      refine z ?_
      refine fin1 (res_cell hT rfl rfl rfl rfl) ⟨(((s.1), ((s.2.1), (s.2.2))), ci, ch), ?_, rfl, rfl, rfl, rfl⟩
      try dsimp only
      exact ⟨by have h1 := sto_w2 hs; have h2 : wStore (s.1, s.2.1, s.2.2) = wStore s := rfl; omega, by omega⟩
    ·skip
     have d4 := of_decide_eq_false c4
     iterate 7 refine z ?_
     refine ok_weak (σ' := ⟨[(2, .box 2 0), (0, .abox 0)], [(2, 26, [(.dv [] (.str (e5.1))), (.key 9001), (.dv [] (.int .i64 (e5.2.2)))]), (0, 102, [(.arg 900001 (bytesD (code))), (.dv [] (.int .i64 (i7))), (.dv [] (.int .i64 (h7)))])], [(9001, some (kcOf false (itemsD (e5.2.1))))]⟩) (weak_sub ⟨rfl, rfl, trivial⟩ ⟨rfl, rfl, trivial⟩ ⟨rfl, trivial⟩ rfl) ?_
     refine z ?_
     refine fin1 (res_cell hT rfl rfl rfl rfl) ⟨(((e5.1), ((e5.2.1), (e5.2.2))), i7, h7), ?_, rfl, rfl, rfl, rfl⟩
     try dsimp only
     exact ⟨by have h2 : wStore (e5.1, e5.2.1, e5.2.2) = wStore e5 := rfl; omega, by omega⟩
end Go.Proofs.Ytmnimdnmedldgaa

namespace Go.Proofs.Ytmnimdnmedldgaa
open Go.RowKit
open Go.Proofs
set_option linter.unusedVariables false
set_option linter.unusedSimpArgs false
theorem ok_spec_DrawFindItem {code : List UInt8} (hc : code.length ≤ 1048576) : EFn Try.prog 69 [.one (.dv [] (bytesD (code)))] (fun zz : StoreT × KeyT => wStore zz.1 ≤ 1500 ∧ zz.2.2.2.size ≤ 13) (fun zz : StoreT × KeyT => .tup [(true, [(.dv [] (.str (zz.1.1))), (.key 9001), (.dv [] (.int .i64 (zz.1.2.2)))]), (true, [(.dv [] (.int .i64 (zz.2.1))), (.dv [] (.int .i64 (zz.2.2.1))), (.dv [] (.str (zz.2.2.2)))])]) (fun zz : StoreT × KeyT => [(9001, some (kcOf false (itemsD (zz.1.2.1))))]) := by
 refine ⟨fn_intro Try.func69 rfl Try.ntmps69 Try.results69 rfl (fun C => ?_)⟩
 refine ok_fact (x := .tmp 0) (ev_tmp rfl) fun f0 => ?_
 iterate 6 refine z ?_
 refine o_callP rfl rfl rfl Try.call45 (ok_spec_l1New (code := code) (by omega)) (ev_tmp rfl) ac_dv rfl (fun _ => rfl) rfl rfl (fun zz hz7 => ?_)
 obtain ⟨i7, h7⟩ := zz
 replace hz7 : 0 ≤ i7 := hz7
 iterate 4 refine z ?_
 refine o_callB 0 rfl rfl rfl Try.call46 (ok_spec_l6Any (code := code) (i := i7) (h := h7) (by omega) (by omega)) (ev_tmp rfl) rfl ac_dv rfl (fun _ => rfl) ad_nil rfl (fun _ => rfl) (fun _ => rfl) (fun zz hz9 => ?_)
 obtain ⟨e9, i9, h9⟩ := zz
 replace hz9 : wStore e9 ≤ 1500 ∧ 0 ≤ i9 := hz9
 iterate 6 refine z ?_
 refine o_callB 11000 rfl rfl rfl Try.call87 (ok_spec_l1Once (code := code) (i := i9) (h := h9) (n := 6) (by omega) (by omega) ) (ev_tmp rfl) rfl ac_dv rfl (fun _ => rfl) (ad_cons (ev_int (inR_lit rfl)) (ag_one ac_dv) rfl ad_nil) rfl (fun _ => rfl) (fun _ => rfl) (fun zz hz11 => ?_)
 obtain ⟨e11, i11, h11⟩ := zz
 replace hz11 : 0 ≤ i11 := hz11
 refine z ?_
 refine yQ rfl (fun c1 => ?_) fun c1 => ?_
 ·skip
  refine ok_seq ?_
  refine ok_regionL [7] [0, 1, 2] (oB := [2, 3, 5]) (oK := [9001]) (by kernel_rfl) rfl rfl ?_
  refine l_take 0 rfl (by kernel_rfl) rfl rfl (pu_loadBoxA hT rfl rfl (ev_tmp rfl) rfl rfl) rfl rfl rfl rfl rfl ?_
  refine l_take 1 rfl (by kernel_rfl) rfl rfl (pu_move (.inl rfl) (ev_tmp rfl)) rfl rfl rfl rfl rfl ?_
  refine l_split 2 [] (by kernel_rfl) ⟨?_, trivial⟩
  refine y_callB 14000 2 rfl rfl rfl rfl rfl Try.call86 (ok_spec_l4Any (code := code) (i := i11) (h := h11) (by omega) (by omega)) (ev_tmp rfl) rfl ac_dv rfl (fun _ => rfl) ad_nil rfl (fun _ => rfl) (fun _ => rfl) rfl (fun zz hz14 => ?_)
  obtain ⟨e14, i14, h14⟩ := zz
  replace hz14 : e14.2.2.size ≤ 13 ∧ 0 ≤ i14 := hz14
  refine l_chain [3, 4] rfl rfl (by kernel_rfl) ?_
  iterate 3 refine z ?_
  refine ok_weak (σ' := ⟨[(2, .box 2 0), (3, .box 3 0)], [(2, 26, [(.dv [] (.str (e9.1))), (.key 9001), (.dv [] (.int .i64 (e9.2.2)))]), (3, 28, [(.dv [] (.int .i64 (e14.1))), (.dv [] (.int .i64 (e14.2.1))), (.dv [] (.str (e14.2.2)))])], [(9001, some (kcOf false (itemsD (e9.2.1))))]⟩) (weak_sub ⟨rfl, rfl, trivial⟩ ⟨rfl, rfl, trivial⟩ ⟨rfl, trivial⟩ rfl) ?_
  iterate 2 refine z ?_
  refine fin2 (res_cell hT rfl rfl rfl rfl) (res_cell hT rfl rfl rfl rfl) rfl rfl ⟨(((e9.1), ((e9.2.1), (e9.2.2))), ((e14.1), ((e14.2.1), (e14.2.2)))), ?_, rfl, rfl⟩
  try dsimp only
  exact ⟨hz9.1, hz14.1⟩
 ·skip
  iterate 2 refine z ?_
  refine ok_seq ?_
  refine ok_regionL [7] [0, 1, 2] (oB := [2, 3, 5]) (oK := [9001]) (by kernel_rfl) rfl rfl ?_
  refine l_take 0 rfl (by kernel_rfl) rfl rfl (pu_loadBoxA hT rfl rfl (ev_tmp rfl) rfl rfl) rfl rfl rfl rfl rfl ?_
  refine l_take 1 rfl (by kernel_rfl) rfl rfl (pu_move (.inl rfl) (ev_tmp rfl)) rfl rfl rfl rfl rfl ?_
  refine l_split 2 [] (by kernel_rfl) ⟨?_, trivial⟩
  refine y_callB 17000 2 rfl rfl rfl rfl rfl Try.call88 (ok_spec_l4Small (code := code) (i := i11) (h := h11) (by omega) (by omega)) (ev_tmp rfl) rfl ac_dv rfl (fun _ => rfl) ad_nil rfl (fun _ => rfl) (fun _ => rfl) rfl (fun zz hz17 => ?_)
  obtain ⟨e17, i17, h17⟩ := zz
  replace hz17 : isKey e17 = true ∧ smallK e17 ∧ 0 ≤ i17 := hz17
  refine l_chain [3, 4] rfl rfl (by kernel_rfl) ?_
  iterate 3 refine z ?_
  refine ok_weak (σ' := ⟨[(2, .box 2 0), (3, .box 3 0)], [(2, 26, [(.dv [] (.str (e9.1))), (.key 9001), (.dv [] (.int .i64 (e9.2.2)))]), (3, 28, [(.dv [] (.int .i64 (e17.1))), (.dv [] (.int .i64 (e17.2.1))), (.dv [] (.str (e17.2.2)))])], [(9001, some (kcOf false (itemsD (e9.2.1))))]⟩) (weak_sub ⟨rfl, rfl, trivial⟩ ⟨rfl, rfl, trivial⟩ ⟨rfl, trivial⟩ rfl) ?_
  refine z ?_
  refine fin2 (res_cell hT rfl rfl rfl rfl) (res_cell hT rfl rfl rfl rfl) rfl rfl ⟨(((e9.1), ((e9.2.1), (e9.2.2))), ((e17.1), ((e17.2.1), (e17.2.2)))), ?_, rfl, rfl⟩
  try dsimp only
  exact ⟨hz9.1, by have := key_size hz17.1; omega⟩
theorem ok_spec_DrawPutItem {code : List UInt8} (hc : code.length ≤ 1048576) : EFn Try.prog 32 [.one (.dv [] (bytesD (code)))] (fun zz : StoreT × KeyT × RecT => wStore zz.1 ≤ 1500 ∧ zz.2.1.2.2.size ≤ 13 ∧ wRecord zz.2.2 ≤ 200) (fun zz : StoreT × KeyT × RecT => .tup [(true, [(.dv [] (.str (zz.1.1))), (.key 9001), (.dv [] (.int .i64 (zz.1.2.2)))]), (true, [(.dv [] (.int .i64 (zz.2.1.1))), (.dv [] (.int .i64 (zz.2.1.2.1))), (.dv [] (.str (zz.2.1.2.2)))]), (true, [(.key 9002)])]) (fun zz : StoreT × KeyT × RecT => [(9001, some (kcOf false (itemsD (zz.1.2.1)))), (9002, some (kcOf false (fieldsD (zz.2.2))))]) := by
 refine ⟨fn_intro Try.func32 rfl Try.ntmps32 Try.results32 rfl (fun C => ?_)⟩
 refine ok_fact (x := .tmp 0) (ev_tmp rfl) fun f0 => ?_
 iterate 7 refine z ?_
 refine o_callE 0 rfl rfl rfl Try.call69 (ok_spec_DrawFindItem (code := code) (by omega)) (as_cons (ev_tmp rfl) (ag_one ac_dv) as_nil) rfl (fun _ => rfl) (fun _ => rfl) (fun zz hz10 => ?_)
 obtain ⟨e10_0, e10_1⟩ := zz
 replace hz10 : wStore e10_0 ≤ 1500 ∧ e10_1.2.2.size ≤ 13 := hz10
 iterate 10 refine z ?_
 refine o_callP rfl rfl rfl Try.call45 (ok_spec_l1New (code := code) (by omega)) (ev_tmp rfl) ac_dv rfl (fun _ => rfl) rfl rfl (fun zz hz14 => ?_)
 obtain ⟨i14, h14⟩ := zz
 replace hz14 : 0 ≤ i14 := hz14
 iterate 2 refine z ?_
 refine ok_seq ?_
 refine ok_regionL [14, 2] [0, 1, 2, 3, 4] (oB := [3, 4, 5, 6]) (oK := [9001]) (by kernel_rfl) rfl rfl ?_
 refine l_take 0 rfl (by kernel_rfl) rfl rfl (pu_loadBoxA hT rfl rfl (ev_tmp rfl) rfl rfl) rfl rfl rfl rfl rfl ?_
 refine l_take 1 rfl (by kernel_rfl) rfl rfl (pu_loadBoxA hT rfl rfl (ev_tmp rfl) rfl rfl) rfl rfl rfl rfl rfl ?_
 refine l_take 2 rfl (by kernel_rfl) rfl rfl (pu_move (.inl rfl) (ev_tmp rfl)) rfl rfl rfl rfl rfl ?_
 refine l_split 3 [] (by kernel_rfl) ⟨?_, trivial⟩
 refine y_callB 1 3 rfl rfl rfl rfl rfl Try.call70 (ok_spec_l5Any (code := code) (i := i14) (h := h14) (by omega) (by omega)) (ev_tmp rfl) rfl ac_dv rfl (fun _ => rfl) ad_nil rfl (fun _ => rfl) (fun _ => rfl) rfl (fun zz hz18 => ?_)
 obtain ⟨e18, i18, h18⟩ := zz
 replace hz18 : wRecord e18 ≤ 200 ∧ 0 ≤ i18 := hz18
 refine l_split 4 [] (by kernel_rfl) ⟨?_, trivial⟩
 refine y_store 2 4 rfl rfl rfl hT rfl rfl rfl (ev_tmp rfl) (ev_tmp rfl) rfl rfl rfl rfl rfl rfl ?_
 refine l_chain [5, 6] rfl rfl (by kernel_rfl) ?_
 iterate 3 refine z ?_
 refine ok_weak (σ' := ⟨[(2, .box 2 0), (3, .box 3 0), (4, .box 4 0)], [(2, 26, [(.dv [] (.str (e10_0.1))), (.key 9001), (.dv [] (.int .i64 (e10_0.2.2)))]), (3, 28, [(.dv [] (.int .i64 (e10_1.1))), (.dv [] (.int .i64 (e10_1.2.1))), (.dv [] (.str (e10_1.2.2)))]), (4, 40, [(.key 9002)])], [(9001, some (kcOf false (itemsD (e10_0.2.1)))), (9002, some (kcOf false (fieldsD (e18))))]⟩) (weak_sub ⟨rfl, rfl, rfl, trivial⟩ ⟨rfl, rfl, rfl, trivial⟩ ⟨rfl, rfl, trivial⟩ rfl) ?_
 refine z ?_
 refine fin3 (res_cell hT rfl rfl rfl rfl) (res_cell hT rfl rfl rfl rfl) (res_cell hT rfl rfl rfl rfl) rfl rfl rfl ⟨(((e10_0.1), ((e10_0.2.1), (e10_0.2.2))), ((e10_1.1), ((e10_1.2.1), (e10_1.2.2))), (e18)), ?_, rfl, rfl⟩
 try dsimp only
 exact ⟨hz10.1, hz10.2, hz18.1⟩
theorem ok_laws_big {code : List UInt8}  : PFn Try.prog 7 [.one (.dv [] (bytesD (code)))] (.one (.dv [] (.bool (decide ((1048576 : Int) < (code.length : Int)))))) := by
 refine ⟨fn_intro Try.func7 rfl Try.ntmps7 Try.results7 rfl (fun C => ?_)⟩
 refine ok_fact (x := .tmp 0) (ev_tmp rfl) fun f0 => ?_
 iterate 11 refine z ?_
 rfl
end Go.Proofs.Ytmnimdnmedldgaa

namespace Go.Proofs.Ytmnimdnmedldgaa
open Go.RowKit
open Go.Proofs
set_option linter.unusedVariables false
set_option linter.unusedSimpArgs false

theorem sEq_self (s : Str) : sEq s s = true := by simp [sEq]
theorem eqL_self {α : Type} [Inhabited α] {p : α → α → Bool} (h : ∀ x, p x x = true) (xs : List α) : eqL p xs xs = true := by
 unfold eqL
 simp [h]
theorem eqRec_self (r : RecT) : eqRec r r = true := eqL_self (fun f => by simp [eqFld, sEq_self]) r
theorem eqKey_self (k : KeyT) : eqKeyB k k = true := by simp [eqKeyB, sEq_self]
theorem eqItem_self (x : ItemT) : eqItemB x x = true := by simp [eqItemB, eqKey_self, eqRec_self]
theorem eqStore_self (s : StoreT) : eqStoreB s s = true := by simp [eqStoreB, sEq_self, eqL_self eqItem_self]
theorem ok_laws_FnStores {code : List UInt8}  : PFn Try.prog 6 [.one (.dv [] (bytesD (code)))] (.one (.dv [] (.bool (true)))) := by
 refine ⟨fn_intro Try.func6 rfl Try.ntmps6 Try.results6 rfl (fun C => ?_)⟩
 refine ok_fact (x := .tmp 0) (ev_tmp rfl) fun f0 => ?_
 iterate 6 refine z ?_
 refine zC Try.call7 ?_ (hf := ok_laws_big (code := code) )
 refine z ?_
 refine yQ rfl (fun c1 => ?_) fun c1 => ?_
 ·skip
  have d1 := of_decide_eq_true c1
  iterate 6 refine z ?_
  rfl
 ·skip
  have d1 := of_decide_eq_false c1
  iterate 4 refine z ?_
  refine o_callE 0 rfl rfl rfl Try.call32 (ok_spec_DrawPutItem (code := code) (by omega)) (as_cons (ev_tmp rfl) (ag_one ac_dv) as_nil) rfl (fun _ => rfl) (fun _ => rfl) (fun zz hz23 => ?_)
  obtain ⟨e23_0, e23_1, e23_2⟩ := zz
  replace hz23 : wStore e23_0 ≤ 1500 ∧ e23_1.2.2.size ≤ 13 ∧ wRecord e23_2 ≤ 200 := hz23
  have hw0 : wRecord e23_2 = e23_2.length + wSum wField e23_2 := rfl
  have hwk : wKey e23_1 = e23_1.2.2.size := rfl
  have hpw := putN_w e23_0 e23_1 e23_2
  have haw := autoN_w (putN e23_0 e23_1 e23_2).1 e23_2
  have hlx : wStore (autoN (putN e23_0 e23_1 e23_2).1 e23_2).1 = (autoN (putN e23_0 e23_1 e23_2).1 e23_2).1.1.size + ((autoN (putN e23_0 e23_1 e23_2).1 e23_2).1.2.1.length + wSum wItem (autoN (putN e23_0 e23_1 e23_2).1 e23_2).1.2.1) := rfl
  have hly : wStore (putN e23_0 e23_1 e23_2).1 = (putN e23_0 e23_1 e23_2).1.1.size + ((putN e23_0 e23_1 e23_2).1.2.1.length + wSum wItem (putN e23_0 e23_1 e23_2).1.2.1) := rfl
  iterate 15 refine z ?_
  refine o_callK 100 rfl rfl rfl Try.call33 (ok_impl_PutItem (x := e23_0) (k := e23_1) (r := e23_2) (by omega) (by omega)) (as_cons (ev_tmp rfl) (ag_agg (ag_cons ac_dv (ag_cons (ac_key' rfl rfl) (ag_cons ac_dv ag_nil)))) (as_cons (ev_tmp rfl) (ag_agg (ag_cons ac_dv (ag_cons ac_dv (ag_cons ac_dv ag_nil)))) (as_cons (ev_tmp rfl) (ag_agg (ag_cons (ac_key' rfl rfl) ag_nil)) as_nil))) rfl rfl rfl ?_
  iterate 11 refine z ?_
  refine o_callK 200 rfl rfl rfl Try.call34 (ok_impl_AddItem (x := e23_0) (k := e23_1) (r := e23_2) (by omega) (by omega)) (as_cons (ev_tmp rfl) (ag_agg (ag_cons ac_dv (ag_cons (ac_key' rfl rfl) (ag_cons ac_dv ag_nil)))) (as_cons (ev_tmp rfl) (ag_agg (ag_cons ac_dv (ag_cons ac_dv (ag_cons ac_dv ag_nil)))) (as_cons (ev_tmp rfl) (ag_agg (ag_cons (ac_key' rfl rfl) ag_nil)) as_nil))) rfl rfl rfl ?_
  iterate 12 refine z ?_
  refine o_callK 300 rfl rfl rfl Try.call35 (ok_spec_PutItem (x := e23_0) (k := e23_1) (r := e23_2) (by omega) (by omega)) (as_cons (ev_tmp rfl) (ag_agg (ag_cons ac_dv (ag_cons (ac_key' rfl rfl) (ag_cons ac_dv ag_nil)))) (as_cons (ev_tmp rfl) (ag_agg (ag_cons ac_dv (ag_cons ac_dv (ag_cons ac_dv ag_nil)))) (as_cons (ev_tmp rfl) (ag_agg (ag_cons (ac_key' rfl rfl) ag_nil)) as_nil))) rfl rfl rfl ?_
  iterate 10 refine z ?_
  refine yO rfl rfl (pu_bneq hT rfl rfl (ev_tmp rfl) (ev_tmp rfl)) rfl ?_
  iterate 6 refine z ?_
  refine o_callG (gd_opt rfl rfl rfl rfl rfl) rfl rfl Try.call20 (ok_impl_FindItem (x := e23_0) (k := e23_1) ) (fun hg => (as_cons (ev_opt rfl hg) (ag_agg (ag_cons ac_dv (ag_cons (ac_key' rfl rfl) (ag_cons ac_dv ag_nil)))) (as_cons (ev_opt rfl hg) (ag_agg (ag_cons ac_dv (ag_cons ac_dv (ag_cons ac_dv ag_nil)))) as_nil))) rfl rfl ?_
  iterate 2 refine z ?_
  refine o_pureG (gd_bool rfl rfl rfl rfl rfl) rfl (fun hg => pu_bneq hT rfl rfl (ev_opt rfl hg) (ev_opt rfl hg)) rfl rfl ?_
  iterate 2 refine z ?_
  refine yQ rfl (fun c2 => ?_) fun c2 => ?_
  ·skip
   iterate 6 refine z ?_
   exfalso; revert c2; rw [add_two]; simp
  ·skip
   iterate 7 refine z ?_
   refine yQ rfl (fun c3 => ?_) fun c3 => ?_
   ·skip
    iterate 3 refine z ?_
    refine o_call rfl rfl rfl Try.call18 (ok_impl_EqualStores (x := (putN (e23_0) (e23_1) (e23_2)).1) (y := e23_0) ) (as_cons (ev_tmp rfl) (ag_agg (ag_cons ac_dv (ag_cons (ac_key' rfl rfl) (ag_cons ac_dv ag_nil)))) (as_cons (ev_tmp rfl) (ag_agg (ag_cons ac_dv (ag_cons (ac_key' rfl rfl) (ag_cons ac_dv ag_nil)))) as_nil)) rfl rfl ?_
    iterate 3 refine z ?_
    refine o_callG (gd_bool rfl rfl rfl rfl rfl) rfl rfl Try.call18 (ok_impl_EqualStores (x := (addN (e23_0) (e23_1) (e23_2)).1) (y := e23_0) ) (fun hg => (as_cons (ev_opt rfl hg) (ag_agg (ag_cons ac_dv (ag_cons (ac_key' rfl rfl) (ag_cons ac_dv ag_nil)))) (as_cons (ev_opt rfl hg) (ag_agg (ag_cons ac_dv (ag_cons (ac_key' rfl rfl) (ag_cons ac_dv ag_nil)))) as_nil))) rfl rfl ?_
    iterate 6 refine z ?_
    have e0 : (putN e23_0 e23_1 e23_2).2 = false := by simpa using c3
    have e1 : (putN e23_0 e23_1 e23_2).1 = e23_0 := putN_f e0
    have e2 : (addN e23_0 e23_1 e23_2).1 = e23_0 := addN_f (by rw [add_two, e0]; rfl)
    rw [e1, e2, eqStore_self]; rfl
   ·skip
    have hok : (putN e23_0 e23_1 e23_2).2 = true := by simpa using c3
    have hf := put_find hok
    iterate 5 refine z ?_
    refine o_call rfl rfl rfl Try.call20 (ok_impl_FindItem (x := (putN (e23_0) (e23_1) (e23_2)).1) (k := e23_1) ) (as_cons (ev_tmp rfl) (ag_agg (ag_cons ac_dv (ag_cons (ac_key' rfl rfl) (ag_cons ac_dv ag_nil)))) (as_cons (ev_tmp rfl) (ag_agg (ag_cons ac_dv (ag_cons ac_dv (ag_cons ac_dv ag_nil)))) as_nil)) rfl rfl ?_
    iterate 2 refine z ?_
    refine ok_seq ?_
    refine ok_seq ?_
    refine ok_regionD (oB := [3, 4, 5, 6, 8, 10]) (oK := [9001, 9002, 9101, 9201, 9301]) (by kernel_rfl) rfl rfl ?_
    refine zD 0 ?_
    refine zD 1 ?_
    refine zD 2 ?_
    refine zDG 3 ?_
    refine zDG 4 ?_
    refine zDG 5 ?_
    refine d_takeG 6 rfl (by kernel_rfl) (gd_bool rfl rfl rfl rfl rfl) rfl (fun hg => pu_lenKn (n := (((putN (e23_0) (e23_1) (e23_2)).1.2.1)).length) hT rfl rfl (ev_opt rfl hg) rfl rfl) rfl rfl rfl rfl ?_
    refine zDG 7 ?_
    refine zD 8 ?_
    refine zD 9 ?_
    refine zDG 10 ?_
    refine d_takeG 11 rfl (by kernel_rfl) (gd_bool rfl rfl rfl rfl rfl) rfl (fun hg => pu_view (dd := itemsD ((putN e23_0 e23_1 e23_2).1.2.1)) (pu_loadBox1 hT rfl rfl (ev_opt rfl hg) rfl rfl) rfl rfl) rfl rfl rfl rfl ?_
    refine zDG 12 ?_
    refine zDG 13 ?_
    refine zDG 14 ?_
    refine zDG 15 ?_
    refine zDG 16 ?_
    refine d_callG 17 rfl (by kernel_rfl) (gd_bool rfl rfl rfl rfl rfl) rfl rfl Try.call36 (ok_impl_EqualRecords (x := ((((putN e23_0 e23_1 e23_2).1.2.1)).getD (fndK ((putN (e23_0) (e23_1) (e23_2)).1) (e23_1)).toNat default).2) (y := e23_2) ) (fun hg => (as_cons (ev_opt rfl hg) (ag_agg (ag_cons ac_dv ag_nil)) (as_cons (ev_opt rfl hg) (ag_agg (ag_cons (ac_key' rfl rfl) ag_nil)) as_nil))) rfl rfl ?_
    refine zDG 18 ?_
    refine zD 19 ?_
    refine zD 20 ?_
    refine zDG 21 ?_
    refine d_callG 22 rfl (by kernel_rfl) (gd_bool rfl rfl rfl rfl rfl) rfl rfl Try.call37 (ok_impl_IsStore (s := (putN (e23_0) (e23_1) (e23_2)).1) ) (fun hg => (as_cons (ev_opt rfl hg) (ag_agg (ag_cons ac_dv (ag_cons (ac_key' rfl rfl) (ag_cons ac_dv ag_nil)))) as_nil)) rfl rfl ?_
    refine zDG 23 ?_
    refine zD 24 ?_
    refine zD 25 ?_
    refine zDG 26 ?_
    refine zDG 27 ?_
    refine zDG 28 ?_
    refine zDG 29 ?_
    refine zDG 30 ?_
    refine zD 31 ?_
    refine d_done (by kernel_rfl) ?_
    refine z ?_
    refine yQ rfl (fun c4 => ?_) fun c4 => ?_
    ·skip
     iterate 6 refine z ?_
     exfalso
     have q1 : ¬ fndK (putN e23_0 e23_1 e23_2).1 e23_1 < 0 := by omega
     have q2 : ¬ ((putN e23_0 e23_1 e23_2).1.2.1.length : Int) ≤ fndK (putN e23_0 e23_1 e23_2).1 e23_1 := by omega
     have q3 : ¬ (putN e23_0 e23_1 e23_2).1.2.2 < e23_0.2.2 := by have := put_auto (x := e23_0) (k := e23_1) (r := e23_2); omega
     revert c4
     rw [hf.2.2, eqRec_self, put_sto hok, decide_eq_false q1, decide_eq_false q2, decide_eq_false q3]
     simp
    ·skip
     iterate 5 refine z ?_
     refine o_callK 400 rfl rfl rfl Try.call38 (ok_impl_AutoItem (x := (putN (e23_0) (e23_1) (e23_2)).1) (r := e23_2) (by omega) (by omega)) (as_cons (ev_tmp rfl) (ag_agg (ag_cons ac_dv (ag_cons (ac_key' rfl rfl) (ag_cons ac_dv ag_nil)))) (as_cons (ev_tmp rfl) (ag_agg (ag_cons (ac_key' rfl rfl) ag_nil)) as_nil)) rfl rfl rfl ?_
     iterate 14 refine z ?_
     refine o_callK 500 rfl rfl rfl Try.call39 (ok_spec_AutoItem (x := (putN (e23_0) (e23_1) (e23_2)).1) (r := e23_2) (by omega) (by omega)) (as_cons (ev_tmp rfl) (ag_agg (ag_cons ac_dv (ag_cons (ac_key' rfl rfl) (ag_cons ac_dv ag_nil)))) (as_cons (ev_tmp rfl) (ag_agg (ag_cons (ac_key' rfl rfl) ag_nil)) as_nil)) rfl rfl rfl ?_
     iterate 13 refine z ?_
     refine yO rfl rfl (pu_bneq hT rfl rfl (ev_tmp rfl) (ev_tmp rfl)) rfl ?_
     refine z ?_
     refine yQ rfl (fun c5 => ?_) fun c5 => ?_
     ·skip
      iterate 6 refine z ?_
      exfalso; revert c5; simp
     ·skip
      iterate 8 refine z ?_
      refine o_callG (gd_bool rfl rfl rfl rfl rfl) rfl rfl Try.call20 (ok_impl_FindItem (x := (putN (e23_0) (e23_1) (e23_2)).1) (k := (autoN ((putN (e23_0) (e23_1) (e23_2)).1) (e23_2)).2.1) ) (fun hg => (as_cons (ev_opt rfl hg) (ag_agg (ag_cons ac_dv (ag_cons (ac_key' rfl rfl) (ag_cons ac_dv ag_nil)))) (as_cons (ev_opt rfl hg) (ag_agg (ag_cons ac_dv (ag_cons ac_dv (ag_cons ac_dv ag_nil)))) as_nil))) rfl rfl ?_
      iterate 4 refine z ?_
      refine o_callG (gd_opt rfl rfl rfl rfl rfl) rfl rfl Try.call20 (ok_impl_FindItem (x := (autoN ((putN (e23_0) (e23_1) (e23_2)).1) (e23_2)).1) (k := (autoN ((putN (e23_0) (e23_1) (e23_2)).1) (e23_2)).2.1) ) (fun hg => (as_cons (ev_opt rfl hg) (ag_agg (ag_cons ac_dv (ag_cons (ac_key' rfl rfl) (ag_cons ac_dv ag_nil)))) (as_cons (ev_opt rfl hg) (ag_agg (ag_cons ac_dv (ag_cons ac_dv (ag_cons ac_dv ag_nil)))) as_nil))) rfl rfl ?_
      iterate 12 refine z ?_
      refine o_pureG (gd_opt rfl rfl rfl rfl rfl) rfl (fun hg => pu_lenKn (n := (((autoN ((putN (e23_0) (e23_1) (e23_2)).1) (e23_2)).1.2.1)).length) hT rfl rfl (ev_opt rfl hg) rfl rfl) rfl rfl ?_
      iterate 2 refine z ?_
      refine o_pureG (gd_opt rfl rfl rfl rfl rfl) rfl (fun hg => pu_lenKn (n := (((putN (e23_0) (e23_1) (e23_2)).1.2.1)).length) hT rfl rfl (ev_opt rfl hg) rfl rfl) rfl rfl ?_
      iterate 8 refine z ?_
      cases hz : (autoN (putN e23_0 e23_1 e23_2).1 e23_2).2.2 with
      | false => rfl
      | true =>
       obtain ⟨a1, a2, a3, a4, a5⟩ := auto_law hz
       have q1 : (putN e23_0 e23_1 e23_2).1.2.2 < (keyA (putN e23_0 e23_1 e23_2).1).2.1 := by show (putN e23_0 e23_1 e23_2).1.2.2 < (putN e23_0 e23_1 e23_2).1.2.2 + 1; omega
       have q2 : ((autoN (putN e23_0 e23_1 e23_2).1 e23_2).1.2.1.length : Int) = ((putN e23_0 e23_1 e23_2).1.2.1.length : Int) + 1 := by omega
       rw [a1, decide_eq_true a2, decide_eq_true a3, decide_eq_true q1, decide_eq_true q2]; rfl
end Go.Proofs.Ytmnimdnmedldgaa

namespace Go.Proofs.Ytmnimdnmedldgaa
open Go.RowKit Go.ChangeShapes Go.WideShapes Go.Deep

def LayW (W : World) : List DV → List Value → Prop := LayL (fun b => b < W.heap.size) W
structure OpensD (P : Program) (Q : List DV → Prop) (t : TypeId) : Prop where
 run : ∀ {H : Type} (enc : TypeId × Value → H) (W : World) (base : Nat) (spare : Nat → Bool) (held : Bool) (fuel : Nat) (cs : List Value) (y : DataW H × List MemPlace),
  DataW.trod enc P W base spare held fuel t cs = some y → ∃ ds, Q ds ∧ LayW W ds cs
def Is {α : Type} (enc : α → List DV) (ds : List DV) : Prop := ∃ x, ds = enc x
theorem opensD_byte {P : Program} {t : TypeId} (ht : P.underlying t = some (.int .u8)) : OpensD P (Is eByte) t := by
 refine ⟨fun {H} enc W base spare held fuel cs y h => ?_⟩
 obtain ⟨n, rfl, _, hw⟩ := DataW.trod_int ht h
 have hb : 0 ≤ n ∧ n ≤ 255 := by simpa [Lit.wf, IntKind.min, IntKind.max, IntKind.signed, IntKind.bits] using hw
 have e : ((UInt8.ofNat n.toNat).toNat : Int) = n := by
  rw [UInt8.toNat_ofNat']
  have : n.toNat % 2 ^ 8 = n.toNat := Nat.mod_eq_of_lt (by omega)
  rw [this]; omega
 refine ⟨_, ⟨UInt8.ofNat n.toNat, rfl⟩, ?_⟩
 simp only [LayW, LayL, Lay]
 rw [e]
 exact ⟨_, _, rfl, ⟨rfl, by simpa [InR, IntKind.min, IntKind.max, IntKind.signed, IntKind.bits] using hb⟩, rfl⟩
theorem points {α : Type} {enc : α → List DV} {W : World} {sz : Nat} {f : Nat → Option Value} (hs : ∀ x, (enc x).length = sz) : ∀ n : Nat,
  (∀ i, i < n → ∃ x ci, LayW W (enc x) ci ∧ ∀ j, j < sz → f (i * sz + j) = ci[j]?) → ∃ (xs : List α) (cells : List Value), xs.length = n ∧ LayW W (xs.flatMap enc) cells ∧ ∀ j u, cells[j]? = some u → f j = some u
 | 0, _ => ⟨[], [], rfl, by simp [LayW, LayL], by simp⟩
 | n + 1, h => by
  obtain ⟨xs, cells, h1, h2, h3⟩ := points hs n (fun i hi => h i (by omega))
  obtain ⟨x, ci, g1, g2⟩ := h n (by omega)
  have hl : cells.length = n * sz := by rw [layL_len _ _ h2, flat_len hs, h1]
  have hci : ci.length = sz := by rw [layL_len _ _ g1, hs]
  refine ⟨xs ++ [x], cells ++ ci, by simp [h1], by have := layL_append _ _ _ _ h2 g1; simp only [List.flatMap_append, List.flatMap_cons, List.flatMap_nil, List.append_nil]; exact this, fun j u hu => ?_⟩
  rcases Nat.lt_or_ge j cells.length with hj | hj
  ·rw [List.getElem?_append_left hj] at hu; exact h3 j u hu
  ·rw [List.getElem?_append_right hj] at hu
   have hjs : j - cells.length < sz := by rw [← hci]; exact (List.getElem?_eq_some_iff.1 hu).1
   have := g2 (j - cells.length) hjs
   rw [show n * sz + (j - cells.length) = j by omega] at this
   rw [this, hu]
theorem opensD_slice {α : Type} {P : Program} {enc : α → List DV} {t e : TypeId} {sz : Nat} (e' : Nat) (hs : ∀ x, (enc x).length = sz) (hsz : Nat.blt 0 sz = true) (ht : P.underlying t = some (.slice e)) (hc : P.cellsOf e = sz) (he : OpensD P (Is enc) e) : OpensD P (Is fun xs : List α => [listD e' sz enc xs]) t := by
 refine ⟨fun {H} ench W base spare held fuel cs y h => ?_⟩
 have hpos : 0 < sz := by simpa [Nat.blt_eq] using hsz
 rcases open_slice ht h with ⟨rfl, _⟩ | ⟨a, len, cap, m, n, D, Pl, rfl, _, hl, hm, hmm, _, hi⟩
 ·refine ⟨_, ⟨[], rfl⟩, ?_⟩
  simp only [LayW, LayL, Lay]
  exact ⟨_, _, rfl, ⟨none, 0, [], rfl, Nat.le_refl _, by simp [maxLen], hpos, by simp, by simp [LayL], fun h => by simp at h⟩, rfl⟩
 ·have hlm : len ≤ m := by rw [hmm]; split <;> omega
  obtain ⟨xs, cells, h1, h2, h3⟩ := points (W := W) (f := fun j => W.cell? (a.add j)) hs len (fun i hil => by
   obtain ⟨cs', hc1, hc2⟩ := hi i (by omega)
   obtain ⟨ds, ⟨x, rfl⟩, hx⟩ := he.run ench W base spare held n cs' _ hc2
   obtain ⟨_, hcl, hat⟩ := World.cells?_some hc1
   refine ⟨x, cs', hx, fun j hj => ?_⟩
   have := hat j (by rw [hc]; exact hj)
   rw [← Go.Deep.add_add, hc] at *
   exact this)
  refine ⟨_, ⟨xs, rfl⟩, ?_⟩
  simp only [LayW, LayL]
  refine ⟨_, _, rfl, ?_, rfl⟩
  simp only [Lay]
  refine ⟨some a, cap, cells, by rw [h1], by omega, hm, hpos, flat_len hs xs, h2, fun hp => ?_⟩
  have hcl : 0 < cells.length := by
   rw [layL_len _ _ h2, flat_len hs]
   exact Nat.mul_pos hp hpos
  have h0 := h3 0 _ (List.getElem?_eq_getElem hcl)
  have ha0 : a.add 0 = a := by simp [Addr.add]
  simp only [ha0] at h0
  have hsp : a.spot = none := by
   cases hs : a.spot with
   | none => rfl
   | some s =>
    unfold World.cell? at h0
    split at h0
    ·simp [hs] at h0
    ·cases h0
  obtain ⟨b, off, sp⟩ := a
  simp only at hsp
  subst hsp
  refine ⟨b, off, rfl, World.block_lt_of_cell? W _ h0, fun j u hu => ?_⟩
  have := h3 j u hu
  simp only [add_row] at this
  exact this
/-! ### structs -/
theorem OpensD.mono {P : Program} {Q R : List DV → Prop} {t : TypeId} (h : OpensD P Q t) (hq : ∀ ds, Q ds → R ds) : OpensD P R t := by
 refine ⟨fun {H} enc W base spare held fuel cs y h' => ?_⟩
 obtain ⟨ds, h1, h2⟩ := h.run enc W base spare held fuel cs y h'
 exact ⟨ds, hq ds h1, h2⟩
/-! ### a call from the outside -/
def TopL (w : World) : List SV → List Value → Prop
 | [], vs => vs = []
 | .one c :: us, vs => ∃ d v vs', c = .dv [] d ∧ vs = v :: vs' ∧ LayW w [d] [v] ∧ TopL w us vs'
 | .agg cs :: us, vs => ∃ ds xs vs', cs = ds.map (CV.dv []) ∧ vs = .agg xs.toArray :: vs' ∧ LayW w ds xs ∧ TopL w us vs'
 | _ :: _, _ => False
theorem lay_top {w : World} {L : Lyt} {d : DV} {v : Value} (h : LayW w [d] [v]) : CVr ⟨w, [], L.rv⟩ L w (.dv [] d) v := by
 simp only [LayW, LayL] at h
 obtain ⟨v', _, e, h1, rfl⟩ := h
 simp only [List.cons.injEq, and_true] at e
 subst e
 simp only [CVr]
 exact lay_conv (fun b hb _ => ⟨.inl ⟨hb, by simp⟩, rfl⟩) d _ h1
theorem lays_top {w : World} {L : Lyt} : ∀ {ds : List DV} {vs : List Value}, LayW w ds vs → CVL ⟨w, [], L.rv⟩ L w (ds.map (CV.dv [])) vs
 | [], _, h => by simp only [LayW, LayL] at h; subst h; rfl
 | d :: ds, _, h => by
  simp only [LayW, LayL] at h
  obtain ⟨v, vs', rfl, h1, h2⟩ := h
  exact ⟨v, vs', rfl, lay_top (by simp only [LayW, LayL]; exact ⟨v, [], rfl, h1, rfl⟩), lays_top h2⟩
theorem topL_sv {P : Program} {w : World} {L : Lyt} : ∀ {us : List SV} {vs : List Value}, TopL w us vs → vs.length = us.length ∧ (∀ u ∈ us, u.keys = [] ∧ u.boxes = []) ∧ ∀ (i : Nat) (v : SV), us[i]? = some v → ∃ x, vs[i]? = some x ∧ SVr P ⟨w, [], L.rv⟩ L w v x
 | [], _, h => by simp only [TopL] at h; subst h; simp
 | .one c :: us, _, h => by
  simp only [TopL] at h
  obtain ⟨d, v, vs', rfl, rfl, h1, h2⟩ := h
  obtain ⟨g1, g2, g3⟩ := topL_sv (P := P) (L := L) h2
  refine ⟨by simp [g1], fun u hu => ?_, fun i x hx => ?_⟩
  ·rcases List.mem_cons.1 hu with rfl | hu
   ·exact ⟨rfl, rfl⟩
   ·exact g2 u hu
  ·cases i with
   | zero => simp only [List.getElem?_cons_zero, Option.some.injEq] at hx; subst hx; exact ⟨v, rfl, by simp only [SVr]; exact lay_top h1⟩
   | succ i => simpa using g3 i x (by simpa using hx)
 | .agg cs :: us, _, h => by
  simp only [TopL] at h
  obtain ⟨ds, xs, vs', rfl, rfl, h1, h2⟩ := h
  obtain ⟨g1, g2, g3⟩ := topL_sv (P := P) (L := L) h2
  refine ⟨by simp [g1], fun u hu => ?_, fun i x hx => ?_⟩
  ·rcases List.mem_cons.1 hu with rfl | hu
   ·refine ⟨?_, rfl⟩
    simp only [SV.keys]
    rw [List.flatMap_eq_nil_iff]
    intro c hc
    obtain ⟨d, _, rfl⟩ := List.mem_map.1 hc
    rfl
   ·exact g2 u hu
  ·cases i with
   | zero => simp only [List.getElem?_cons_zero, Option.some.injEq] at hx; subst hx; exact ⟨_, rfl, by simp only [SVr]; exact ⟨xs, rfl, lays_top h1⟩⟩
   | succ i => simpa using g3 i x (by simpa using hx)
 | .tup _ :: _, _, h => by simp [TopL] at h
 | .box _ _ :: _, _, h => by simp [TopL] at h
 | .ref _ _ :: _, _, h => by simp [TopL] at h
 | .eptr _ _ :: _, _, h => by simp [TopL] at h
 | .ksl _ _ _ _ :: _, _, h => by simp [TopL] at h
 | .fn _ _ :: _, _, h => by simp [TopL] at h
 | .clo _ _ :: _, _, h => by simp [TopL] at h
 | .opt _ _ :: _, _, h => by simp [TopL] at h
 | .any :: _, _, h => by simp [TopL] at h
theorem pfn_run {P : Program} {f : FuncId} {us : List SV} {b : Bool} (hf : PFn P f us (.one (.dv [] (.bool b)))) {w : World} {vs : List Value} (h : TopL w us vs) :
  Calls P f vs.toArray w fun e w' => e = .returned (.bool b) ∧ Below w.heap.size w w' := by
 let L : Lyt := ⟨fun _ => 0, fun _ => [], fun _ => .bool false⟩
 obtain ⟨h1, h2, h3⟩ := topL_sv (P := P) (L := L) h
 obtain ⟨t1, t2⟩ := enum_tk us 0 h2
 have hr : Rel P ⟨w, [], L.rv⟩ us.length L ⟨enumS 0 us, [], []⟩ ⟨vs.toArray, []⟩ w := {
  df := rfl
  sz := by simp [h1]
  tm := fun i v hv => by
   obtain ⟨_, h4⟩ := enumS_look us 0 i v hv
   obtain ⟨x, h5, h6⟩ := h3 i v (by simpa using h4)
   have : vs.toArray.getD i undef = x := by simp [Array.getD_eq_getD_getElem?, h5]
   rw [this]; exact h6
  bx := fun i t cs h => by cases h
  ks := fun k c h => by cases h
  b1 := fun i x h => by cases h
  k1 := fun k c h => by cases h
  kn := fun k c h => by cases h
  bb := fun i j x y h => by cases h
  bk := fun i k x c h => by cases h
  kk := fun k j c d h => by cases h
  lk := fun k hk => by simp only [St.tk, t1, List.flatMap_nil, List.append_nil] at hk; cases hk
  lb := fun b hb => by simp only [St.tb, t2] at hb; cases hb
  s0 := fun b hb => by cases hb
  chg := Chg.refl _ _ }
 refine (hf.ok w [] L vs h1 hr).mono ?_
 rintro e w' ⟨r, res, σ', L', rfl, rfl, hr'⟩
 have hv := hr'.tm 0 _ rfl
 simp only [SVr, CVr, Lay] at hv
 refine ⟨?_, hr'.chg.below⟩
 have : (#[r] : Array Value).getD 0 undef = r := rfl
 rw [this] at hv
 rw [hv]
end Go.Proofs.Ytmnimdnmedldgaa

namespace Go.Proofs.Ytmnimdnmedldgaa
open Go.RowKit
open Go.Proofs
theorem opensBytes : OpensD Try.prog (Is fun xs => [listD 5 1 eByte xs]) 22 := opensD_slice (sz := 1) 5 (fun _ => rfl) rfl Try.underlying22 (by kernel_rfl) (opensD_byte Try.underlying5)
end Go.Proofs.Ytmnimdnmedldgaa

