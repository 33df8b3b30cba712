/-
  Contracts of the program's functions for the statements DecodeOps, by the rules of the logic. Conditions: none but those in the theorems.
-/
import Derived.Below
import Derived.Deep.Slices
import Derived.OpenShut
import Derived.ProofKit
import Derived.Test.YtlogahkchenpdaaQDecodeOps1
set_option maxHeartbeats 4000000
set_option maxRecDepth 100000
namespace Go.Proofs.Ytlogahkchenpdaa
open Go.RowKit
open Go.Proofs
set_option linter.unusedVariables false
set_option linter.unusedSimpArgs false
theorem ok_spec_l9Read {b : List UInt8} {p : Int} (hb : b.length ≤ 16777216) : KFn Try.prog 74 [.one (.dv [] (bytesD (b))), .one (.dv [] (.int .i64 (p)))] (.tup [(true, [(.dv [] (.int .i64 ((l9R b 100 100 200 100 p).1.1))), (.dv [] (.str ((l9R b 100 100 200 100 p).1.2.1))), (.dv [] (.int .i64 ((l9R b 100 100 200 100 p).1.2.2.1.1))), (.dv [] (.int .i64 ((l9R b 100 100 200 100 p).1.2.2.1.2.1))), (.dv [] (.str ((l9R b 100 100 200 100 p).1.2.2.1.2.2))), (.key 9001), (.dv [] (.str ((l9R b 100 100 200 100 p).1.2.2.2.2)))]), (false, [(.dv [] (.int .i64 ((l9R b 100 100 200 100 p).2.1)))]), (false, [(.dv [] (.bool ((l9R b 100 100 200 100 p).2.2)))])]) [(9001, some (kcOf false (fieldsD ((l9R b 100 100 200 100 p).1.2.2.2.1))))] := by
 refine ⟨fn_intro Try.func74 rfl Try.ntmps74 Try.results74 rfl (fun C => ?_)⟩
 refine ok_fact (x := .tmp 0) (ev_tmp rfl) fun f0 => ?_
 refine ok_fact (x := .tmp 1) (ev_tmp rfl) fun f1 => ?_
 iterate 8 refine z ?_
 refine zC Try.call73 ?_ (hf := ok_spec_ReadUvarint (b := b) (off := p) (by omega))
 iterate 11 refine z ?_
 refine zK 701 Try.call130 ?_ (hf := ok_spec_ReadBytes (b := b) (off := uvP b p) (m := 100) (by omega))
 iterate 11 refine z ?_
 refine zK 702 Try.call130 ?_ (hf := ok_spec_ReadBytes (b := b) (off := rbP (ox1 b (100) p)) (m := 100) (by omega))
 iterate 11 refine z ?_
 refine zK 703 Try.call130 ?_ (hf := ok_spec_ReadBytes (b := b) (off := rbP (ox2 b (100) (100) p)) (m := 200) (by omega))
 iterate 11 refine z ?_
 refine zK 704 Try.call130 ?_ (hf := ok_spec_ReadBytes (b := b) (off := rbP (ox3 b (100) (100) (200) p)) (m := 100) (by omega))
 iterate 29 refine z ?_
 refine yQ rfl (fun c1 => ?_) fun c1 => ?_
 ·skip
  refine z ?_
  refine yO rfl rfl (pu_build hT hB rfl rfl rfl bp_nil) rfl ?_
  iterate 4 refine z ?_
  rw [l9R, if_pos (show opBad b 100 100 200 100 p = true from c1)]
  refine ok_weak (weak_nilB 9001 (b := 4) (i := 5) (e := 161) (sz := 2) rfl rfl rfl rfl rfl) ?_
  refine ok_weak (σ' := ⟨[(4, .box 4 0), (5, .one (.dv [] (.int .i64 (0)))), (6, .one (.dv [] (.bool (false))))], [(4, 102, [(.dv [] (.int .i64 (0))), (.dv [] (.str (ByteArray.empty))), (.dv [] (.int .i64 (0))), (.dv [] (.int .i64 (0))), (.dv [] (.str (ByteArray.empty))), (.key 9001), (.dv [] (.str (ByteArray.empty)))])], [(9001, some (kcOf false (fieldsD ([]))))]⟩) (weak_sub ⟨rfl, rfl, rfl, trivial⟩ ⟨rfl, trivial⟩ ⟨rfl, trivial⟩ rfl) ?_
  iterate 2 refine z ?_
  refine fin3 (res_cell hT rfl rfl rfl rfl) (res_tmp rfl) (res_tmp rfl) rfl rfl rfl ?_
  first | exact ⟨rfl, rfl⟩ | skip
 ·skip
  iterate 5 refine z ?_
  refine yO rfl rfl (pu_convBS (K := [701]) (e := 5) (xs := (headB (rdB (b) (uvP b p) (100)))) hT rfl rfl rfl rfl (ev_keyv (k := 701) (c := kcOf false (bytesD (headB (rdB (b) (uvP b p) (100))))) (ev_tmp rfl) rfl)) rfl ?_
  refine z ?_
  refine yO rfl rfl (pu_convBS (K := [704]) (e := 5) (xs := (headB (rdB (b) (rbP (ox3 b (100) (100) (200) p)) (100)))) hT rfl rfl rfl rfl (ev_keyv (k := 704) (c := kcOf false (bytesD (headB (rdB (b) (rbP (ox3 b (100) (100) (200) p)) (100))))) (ev_tmp rfl) rfl)) rfl ?_
  refine yO rfl rfl (pu_build hT hB rfl rfl rfl (bp_cons (ev_tmp rfl) rfl rfl rfl rfl rfl (bp_cons (ev_tmp rfl) rfl rfl rfl rfl rfl (bp_cons (ev_tmp rfl) rfl rfl rfl rfl rfl bp_nil)))) rfl ?_
  iterate 5 refine z ?_
  refine o_call rfl rfl rfl Try.call131 (ok_spec_DecodeKey (b := headB (ox2 b (100) (100) p)) (by have := (rb_bds b (rbP (ox1 b (100) p)) 100).2.2; exact Nat.le_trans this (by omega))) (as_cons (ev_tmp rfl) (ag_one (ac_key' rfl rfl)) as_nil) rfl rfl ?_
  iterate 9 refine z ?_
  refine o_callK 0 rfl rfl rfl Try.call132 (ok_spec_DecodeRecord (b := headB (ox3 b (100) (100) (200) p)) (by have := (rb_bds b (rbP (ox2 b (100) (100) p)) 200).2.2; exact Nat.le_trans this (by omega))) (as_cons (ev_tmp rfl) (ag_one (ac_key' rfl rfl)) as_nil) rfl rfl rfl ?_
  iterate 24 refine z ?_
  rw [l9R, if_neg (by rw [show opBad b 100 100 200 100 p = false from c1]; simp)]
  refine ok_weak (σ' := ⟨[(4, .box 4 0), (5, .one (.dv [] (.int .i64 (rbP (rdB (b) (rbP (ox3 b (100) (100) (200) p)) (100)))))), (6, .one (.dv [] (.bool (true))))], [(4, 102, [(.dv [] (.int .i64 (uvV (b) (p)))), (.dv [] (.str (strOf ((headB (rdB (b) (uvP b p) (100))))))), (.dv [] (.int .i64 ((decK (headB (ox2 b (100) (100) p))).1.1))), (.dv [] (.int .i64 ((decK (headB (ox2 b (100) (100) p))).1.2.1))), (.dv [] (.str ((decK (headB (ox2 b (100) (100) p))).1.2.2))), (.key 9001), (.dv [] (.str (strOf ((headB (rdB (b) (rbP (ox3 b (100) (100) (200) p)) (100)))))))])], [(9001, some (kcOf false (fieldsD ((decR (headB (ox3 b (100) (100) (200) p))).1))))]⟩) (weak_sub ⟨rfl, rfl, rfl, trivial⟩ ⟨rfl, trivial⟩ ⟨rfl, trivial⟩ rfl) ?_
  refine z ?_
  refine fin3 (res_cell hT rfl rfl rfl rfl) (res_tmp rfl) (res_tmp rfl) rfl rfl rfl ?_
  first | exact ⟨rfl, rfl⟩ | skip
theorem ok_spec_DecodeOps {b : List UInt8} (hb : b.length ≤ 16777216) : KFn Try.prog 30 [.one (.dv [] (bytesD (b)))] (.tup [(false, [(.key 95000)]), (false, [(.dv [] (.bool ((decO b).2)))])]) [(95000, some (kcOf false (opsD ((decO b).1))))] := by
 refine ⟨fn_intro Try.func30 rfl Try.ntmps30 Try.results30 rfl (fun C => ?_)⟩
 refine ok_fact (x := .tmp 0) (ev_tmp rfl) fun f0 => ?_
 iterate 6 refine z ?_
 refine zC Try.call73 ?_ (hf := ok_spec_ReadUvarint (b := b) (off := 0) (by omega))
 iterate 17 refine z ?_
 refine yQ rfl (fun c1 => ?_) fun c1 => ?_
 ·skip
  refine z ?_
  refine o_build0 (k := 95000) hT rfl rfl rfl rfl rfl rfl rfl rfl ?_
  iterate 3 refine z ?_
  rw [decO, decO_bad c1]
  refine ok_weak (σ' := ⟨[(2, .one (.key 95000)), (3, .one (.dv [] (.bool (false))))], [], [(95000, some (kcOf false (opsD ([]))))]⟩) (weak_sub ⟨rfl, rfl, trivial⟩ trivial ⟨rfl, trivial⟩ rfl) ?_
  iterate 2 refine z ?_
  refine fin2 (res_tmp rfl) (res_tmp rfl) rfl rfl ?_
  first | exact ⟨rfl, rfl⟩ | skip
 ·skip
  have hub := uv_bds b 0
  have hn6 : uvV b 0 ≤ 6 := by have h8 := c1; simp only [Bool.or_eq_false_iff, decide_eq_false_iff_not] at h8; omega
  iterate 3 refine z ?_
  refine o_build0 (k := 95000) hT rfl rfl rfl rfl rfl rfl rfl rfl ?_
  iterate 7 refine z ?_
  refine ok_loop (ι := Nat × Int × List OpT) (fun zz => ⟨[(0, .one (.dv [] (bytesD (b)))), (4, .one (.dv [] (.int .i64 (uvV (b) (0))))), (5, .one (.dv [] (.int .i64 (zz.2.1)))), (7, .one (.key 95000)), (8, .one (.dv [] (.int .i64 ((zz.1 : Int)))))], [], [(95000, some (kcOf false (.sl 102 7 (zz.2.2.length) (zz.2.2.flatMap eOp))))]⟩) (fun zz => zz.1 ≤ (uvV b 0).toNat ∧ rdOs b (100) (100) (200) (100) (uvV b 0).toNat (uvP b 0) [] = rdOs b (100) (100) (200) (100) ((uvV b 0).toNat - zz.1) zz.2.1 zz.2.2 ∧ zz.2.2.length = zz.1) (fun zz => (uvV b 0).toNat - zz.1) ((0, uvP b 0, [])) ?_ (weak_sub ⟨rfl, rfl, rfl, rfl, rfl, trivial⟩ trivial ⟨rfl, trivial⟩ rfl) (fun zz hx => ?_)
  ·exact ⟨Nat.zero_le _, rfl, rfl⟩
  obtain ⟨k, p, l⟩ := zz
  replace hx : k ≤ (uvV b 0).toNat ∧ rdOs b (100) (100) (200) (100) (uvV b 0).toNat (uvP b 0) [] = rdOs b (100) (100) (200) (100) ((uvV b 0).toNat - k) p l ∧ l.length = k := hx
  obtain ⟨hk, hi, hl⟩ := hx
  show Ok _ _ _ _ _ (⟨[(0, .one (.dv [] (bytesD (b)))), (4, .one (.dv [] (.int .i64 (uvV (b) (0))))), (5, .one (.dv [] (.int .i64 (p)))), (7, .one (.key 95000)), (8, .one (.dv [] (.int .i64 ((k : Int)))))], [], [(95000, some (kcOf false (.sl 102 7 (l.length) (l.flatMap eOp))))]⟩ : St)
  iterate 6 refine z ?_
  refine yQ rfl (fun c2 => ?_) fun c2 => ?_
  ·skip
   have d2 := of_decide_eq_true c2
   have hk2 : k < (uvV b 0).toNat := by omega
   iterate 7 refine z ?_
   refine zK 90000 Try.call74 ?_ (hf := ok_spec_l9Read (b := b) (p := p) (by omega))
   iterate 14 refine z ?_
   refine yQ rfl (fun c3 => ?_) fun c3 => ?_
   ·skip
    have hc3 : opBad b 100 100 200 100 p = true := by
     cases h9 : opBad b 100 100 200 100 p with
     | true => rfl
     | false => rw [l9R, if_neg (by rw [h9]; simp)] at c3; cases c3
    refine ok_seq ?_
    refine ok_weak (σ' := ⟨[(0, .one (.dv [] (bytesD (b))))], [], []⟩) (weak_sub ⟨rfl, trivial⟩ trivial trivial rfl) ?_
    refine ok_region ?_
    refine o_build0 (k := 95000) hT rfl rfl rfl rfl rfl rfl rfl rfl ?_
    iterate 3 refine z ?_
    rw [decO, decO_none c1 (hi.trans (os_no hk2 hc3))]
    refine ok_weak (σ' := ⟨[(2, .one (.key 95000)), (3, .one (.dv [] (.bool (false))))], [], [(95000, some (kcOf false (opsD ([]))))]⟩) (weak_sub ⟨rfl, rfl, trivial⟩ trivial ⟨rfl, trivial⟩ rfl) ?_
    iterate 7 refine z ?_
    refine fin2 (res_tmp rfl) (res_tmp rfl) rfl rfl ?_
    first | exact ⟨rfl, rfl⟩ | skip
   ·skip
    have hc3 : opBad b 100 100 200 100 p = false := by
     cases h9 : opBad b 100 100 200 100 p with
     | false => rfl
     | true => rw [l9R, if_pos h9] at c3; cases c3
    have hv9 : l9R b 100 100 200 100 p = (opVal b 100 100 200 100 p, rbP (ox4 b 100 100 200 100 p), true) := by rw [l9R, if_neg (by rw [hc3]; simp)]
    iterate 5 refine z ?_
    refine o_build1 (k := 43) (js := [99001]) hT rfl rfl rfl rfl rfl rfl rfl rfl rfl (ev_tmp rfl) rfl rfl (ow_cons' (ow_dv rfl) (ow_cons' (ow_dv rfl) (ow_cons' (ow_dv rfl) (ow_cons' (ow_dv rfl) (ow_cons' (ow_dv rfl) (ow_cons' (ow_key rfl) (ow_cons' (ow_dv rfl) ow_nil rfl) rfl) rfl) rfl) rfl) rfl) rfl) (by decide) (by decide) rfl rfl ?_
    simp only [killT, killB, SV.kill, CV.kill, kk, Nat.reduceBEq]
    refine o_appK (k := 95000) (j := 43) (cs := (l ++ [(l9R b 100 100 200 100 p).1]).flatMap eOp) (n := (l ++ [(l9R b 100 100 200 100 p).1]).length) hT rfl rfl rfl rfl rfl rfl rfl (ev_tmp rfl) rfl rfl rfl (ev_tmp rfl) rfl rfl (by decide) (by dsimp only [kcOf, KC.old]; omega) (by dsimp only [kcOf, KC.old]; omega) (by rw [List.length_append]; rfl) (by rw [List.flatMap_append]; rfl) ?_
    simp only [killT, killB, SV.kill, CV.kill, kk, Nat.reduceBEq]
    iterate 2 refine z ?_
    refine ok_region ?_
    iterate 2 refine z ?_
    refine ops_nil ?_
    iterate 2 refine z ?_
    refine ok_region ?_
    iterate 4 refine z ?_
    refine ⟨(k + 1, (l9R b 100 100 200 100 p).2.1, l ++ [(l9R b 100 100 200 100 p).1]), ?_, ?_, weak_sub ⟨rfl, rfl, rfl, rfl, rfl, trivial⟩ trivial ⟨rfl, trivial⟩ rfl⟩
    ·exact ⟨by dsimp only; omega, hi.trans (os_go9 hk2 hc3), by show (l ++ _).length = k + 1; rw [List.length_append, hl]; rfl⟩
    ·dsimp only; omega
  ·skip
   have d2 := of_decide_eq_false c2
   have hfe := hi.trans (os_end (by omega))
   iterate 8 refine z ?_
   refine o_callK 47000 rfl rfl rfl Try.call22 (ok_spec_EncodeOps (l := l) (by omega)) (as_cons (ev_tmp rfl) (ag_one (ac_key' rfl rfl)) as_nil) rfl rfl rfl ?_
   refine z ?_
   refine o_call rfl rfl rfl Try.call75 (ok_spec_EqualBytes (x := encO (l)) (y := b) ) (as_cons (ev_tmp rfl) (ag_one (ac_key' rfl rfl)) (as_cons (ev_tmp rfl) (ag_one ac_dv) as_nil)) rfl rfl ?_
   iterate 2 refine z ?_
   refine yQ rfl (fun c4 => ?_) fun c4 => ?_
   ·skip
    refine ok_seq ?_
    refine ok_weak (σ' := ⟨[(0, .one (.dv [] (bytesD (b))))], [], []⟩) (weak_sub ⟨rfl, trivial⟩ trivial trivial rfl) ?_
    refine ok_region ?_
    refine o_build0 (k := 95000) hT rfl rfl rfl rfl rfl rfl rfl rfl ?_
    iterate 3 refine z ?_
    rw [decO, decO_no c1 hfe c4]
    refine ok_weak (σ' := ⟨[(2, .one (.key 95000)), (3, .one (.dv [] (.bool (false))))], [], [(95000, some (kcOf false (opsD ([]))))]⟩) (weak_sub ⟨rfl, rfl, trivial⟩ trivial ⟨rfl, trivial⟩ rfl) ?_
    iterate 2 refine z ?_
    refine fin2 (res_tmp rfl) (res_tmp rfl) rfl rfl ?_
    first | exact ⟨rfl, rfl⟩ | skip
   ·skip
    iterate 7 refine z ?_
    rw [decO, decO_yes c1 hfe c4]
    refine ok_weak (σ' := ⟨[(2, .one (.key 95000)), (3, .one (.dv [] (.bool (true))))], [], [(95000, some (kcOf false (opsD (l))))]⟩) (weak_sub ⟨rfl, rfl, trivial⟩ trivial ⟨rfl, trivial⟩ rfl) ?_
    refine z ?_
    refine fin2 (res_tmp rfl) (res_tmp rfl) rfl rfl ?_
    first | exact ⟨rfl, rfl⟩ | skip
theorem ok_impl_DecodeOps {b : List UInt8} (hb : b.length ≤ 16777216) : KFn Try.prog 32 [.one (.dv [] (bytesD (b)))] (.tup [(false, [(.key 95000)]), (false, [(.dv [] (.bool ((decO b).2)))])]) [(95000, some (kcOf false (opsD ((decO b).1))))] := by
 refine ⟨fn_intro Try.func32 rfl Try.ntmps32 Try.results32 rfl (fun C => ?_)⟩
 rw [← decO_eq]
 refine ok_fact (x := .tmp 0) (ev_tmp rfl) fun f0 => ?_
 iterate 6 refine z ?_
 refine zC Try.call76 ?_ (hf := ok_impl_ReadUvarint (b := b) (off := 0) (by omega))
 iterate 17 refine z ?_
 refine yQ rfl (fun c1 => ?_) fun c1 => ?_
 ·skip
  refine z ?_
  refine o_build0 (k := 95000) hT rfl rfl rfl rfl rfl rfl rfl rfl ?_
  iterate 3 refine z ?_
  rw [decO_bad c1]
  refine ok_weak (σ' := ⟨[(2, .one (.key 95000)), (3, .one (.dv [] (.bool (false))))], [], [(95000, some (kcOf false (opsD ([]))))]⟩) (weak_sub ⟨rfl, rfl, trivial⟩ trivial ⟨rfl, trivial⟩ rfl) ?_
  iterate 2 refine z ?_
  refine fin2 (res_tmp rfl) (res_tmp rfl) rfl rfl ?_
  first | exact ⟨rfl, rfl⟩ | skip
 ·skip
  have hub := uv_bds b 0
  have hn6 : uvV b 0 ≤ 6 := by have h8 := c1; simp only [Bool.or_eq_false_iff, decide_eq_false_iff_not] at h8; omega
  iterate 3 refine z ?_
  refine o_build0 (k := 95000) hT rfl rfl rfl rfl rfl rfl rfl rfl ?_
  iterate 7 refine z ?_
  refine ok_loop (ι := Nat × Int × List OpT) (fun zz => ⟨[(0, .one (.dv [] (bytesD (b)))), (4, .one (.dv [] (.int .i64 (uvV (b) (0))))), (5, .one (.dv [] (.int .i64 (zz.2.1)))), (7, .one (.key 95000)), (8, .one (.dv [] (.int .i64 ((zz.1 : Int)))))], [], [(95000, some (kcOf false (.sl 102 7 (zz.2.2.length) (zz.2.2.flatMap eOp))))]⟩) (fun zz => zz.1 ≤ (uvV b 0).toNat ∧ rdOs b (((b).length : Int)) (((b).length : Int)) (((b).length : Int)) (((b).length : Int)) (uvV b 0).toNat (uvP b 0) [] = rdOs b (((b).length : Int)) (((b).length : Int)) (((b).length : Int)) (((b).length : Int)) ((uvV b 0).toNat - zz.1) zz.2.1 zz.2.2 ∧ zz.2.2.length = zz.1) (fun zz => (uvV b 0).toNat - zz.1) ((0, uvP b 0, [])) ?_ (weak_sub ⟨rfl, rfl, rfl, rfl, rfl, trivial⟩ trivial ⟨rfl, trivial⟩ rfl) (fun zz hx => ?_)
  ·exact ⟨Nat.zero_le _, rfl, rfl⟩
  obtain ⟨k, p, l⟩ := zz
  replace hx : k ≤ (uvV b 0).toNat ∧ rdOs b (((b).length : Int)) (((b).length : Int)) (((b).length : Int)) (((b).length : Int)) (uvV b 0).toNat (uvP b 0) [] = rdOs b (((b).length : Int)) (((b).length : Int)) (((b).length : Int)) (((b).length : Int)) ((uvV b 0).toNat - k) p l ∧ l.length = k := hx
  obtain ⟨hk, hi, hl⟩ := hx
  show Ok _ _ _ _ _ (⟨[(0, .one (.dv [] (bytesD (b)))), (4, .one (.dv [] (.int .i64 (uvV (b) (0))))), (5, .one (.dv [] (.int .i64 (p)))), (7, .one (.key 95000)), (8, .one (.dv [] (.int .i64 ((k : Int)))))], [], [(95000, some (kcOf false (.sl 102 7 (l.length) (l.flatMap eOp))))]⟩ : St)
  iterate 6 refine z ?_
  refine yQ rfl (fun c2 => ?_) fun c2 => ?_
  ·skip
   have d2 := of_decide_eq_true c2
   have hk2 : k < (uvV b 0).toNat := by omega
   iterate 5 refine z ?_
   refine yO rfl rfl (pu_build hT hB rfl rfl rfl bp_nil) rfl ?_
   iterate 6 refine z ?_
   refine zC Try.call76 ?_ (hf := ok_impl_ReadUvarint (b := b) (off := p) (by omega))
   iterate 10 refine z ?_
   refine yO rfl rfl (pu_buildZ (len := 4) (e := 35) hT rfl rfl (by kernel_rfl) (by kernel_rfl)) rfl ?_
   iterate 8 refine z ?_
   refine ok_rounds 5 ?_
   refine rnd_step ?_
   iterate 3 refine z ?_
   refine ok_seq ?_
   refine yQ rfl (fun c3 => ?_) fun c3 => ?_
   ·skip
    have d3 := of_decide_eq_true c3
    iterate 11 refine z ?_
    refine yQ rfl (fun c4 => ?_) fun c4 => ?_
    ·skip
     refine ok_region ?_
     iterate 5 refine z ?_
     refine zK 51000 Try.call77 ?_ (hf := ok_impl_ReadBytes (b := b) (off := uvP (b) (p)) (m := (((b)).length : Int)) (by omega))
     iterate 4 refine z ?_
     refine yO rfl rfl (pu_indexB (len := 4) (e := 35) (sz := 1) rfl (by kernel_rfl) (by kernel_rfl) rfl (ev_tmp rfl) (ev_tmp rfl) (by decide) (by decide)) rfl ?_
     iterate 3 refine z ?_
     refine ops_nil ?_
     iterate 2 refine z ?_
     refine ok_region ?_
     refine yO rfl rfl (pu_eqI (n := 1) (pu_addR rfl (ev_tmp rfl) (ev_int (inR_lit rfl)) (inR64 (by omega) (by omega))) (by decide)) rfl ?_
     iterate 2 refine z ?_
     refine rnd_step ?_
     iterate 3 refine z ?_
     refine ok_seq ?_
     refine yQ rfl (fun c5 => ?_) fun c5 => ?_
     ·skip
      have d5 := of_decide_eq_true c5
      iterate 11 refine z ?_
      refine yQ rfl (fun c6 => ?_) fun c6 => ?_
      ·skip
       refine ok_region ?_
       iterate 5 refine z ?_
       refine zK 52000 Try.call77 ?_ (hf := ok_impl_ReadBytes (b := b) (off := rbP (rdB (b) (uvP (b) (p)) ((((b)).length : Int)))) (m := (((b)).length : Int)) (by omega))
       iterate 4 refine z ?_
       refine yO rfl rfl (pu_indexB (len := 4) (e := 35) (sz := 1) rfl (by kernel_rfl) (by kernel_rfl) rfl (ev_tmp rfl) (ev_tmp rfl) (by decide) (by decide)) rfl ?_
       iterate 3 refine z ?_
       refine ops_nil ?_
       iterate 2 refine z ?_
       refine ok_region ?_
       refine yO rfl rfl (pu_eqI (n := 2) (pu_addR rfl (ev_tmp rfl) (ev_int (inR_lit rfl)) (inR64 (by omega) (by omega))) (by decide)) rfl ?_
       iterate 2 refine z ?_
       refine rnd_step ?_
       iterate 3 refine z ?_
       refine ok_seq ?_
       refine yQ rfl (fun c7 => ?_) fun c7 => ?_
       ·skip
        have d7 := of_decide_eq_true c7
        iterate 11 refine z ?_
        refine yQ rfl (fun c8 => ?_) fun c8 => ?_
        ·skip
         refine ok_region ?_
         iterate 5 refine z ?_
         refine zK 53000 Try.call77 ?_ (hf := ok_impl_ReadBytes (b := b) (off := rbP (rdB (b) (rbP (rdB (b) (uvP (b) (p)) ((((b)).length : Int)))) ((((b)).length : Int)))) (m := (((b)).length : Int)) (by omega))
         iterate 4 refine z ?_
         refine yO rfl rfl (pu_indexB (len := 4) (e := 35) (sz := 1) rfl (by kernel_rfl) (by kernel_rfl) rfl (ev_tmp rfl) (ev_tmp rfl) (by decide) (by decide)) rfl ?_
         iterate 3 refine z ?_
         refine ops_nil ?_
         iterate 2 refine z ?_
         refine ok_region ?_
         refine yO rfl rfl (pu_eqI (n := 3) (pu_addR rfl (ev_tmp rfl) (ev_int (inR_lit rfl)) (inR64 (by omega) (by omega))) (by decide)) rfl ?_
         iterate 2 refine z ?_
         refine rnd_step ?_
         iterate 3 refine z ?_
         refine ok_seq ?_
         refine yQ rfl (fun c9 => ?_) fun c9 => ?_
         ·skip
          have d9 := of_decide_eq_true c9
          iterate 11 refine z ?_
          refine yQ rfl (fun c10 => ?_) fun c10 => ?_
          ·skip
           refine ok_region ?_
           iterate 5 refine z ?_
           refine zK 54000 Try.call77 ?_ (hf := ok_impl_ReadBytes (b := b) (off := rbP (rdB (b) (rbP (rdB (b) (rbP (rdB (b) (uvP (b) (p)) ((((b)).length : Int)))) ((((b)).length : Int)))) ((((b)).length : Int)))) (m := (((b)).length : Int)) (by omega))
           iterate 4 refine z ?_
           refine yO rfl rfl (pu_indexB (len := 4) (e := 35) (sz := 1) rfl (by kernel_rfl) (by kernel_rfl) rfl (ev_tmp rfl) (ev_tmp rfl) (by decide) (by decide)) rfl ?_
           iterate 3 refine z ?_
           refine ops_nil ?_
           iterate 2 refine z ?_
           refine ok_region ?_
           refine yO rfl rfl (pu_eqI (n := 4) (pu_addR rfl (ev_tmp rfl) (ev_int (inR_lit rfl)) (inR64 (by omega) (by omega))) (by decide)) rfl ?_
           iterate 2 refine z ?_
           refine rnd_step ?_
           iterate 3 refine z ?_
           refine ok_seq ?_
           refine yQ rfl (fun c11 => ?_) fun c11 => ?_
           ·exact absurd c11 (by decide)
           ·skip
            have d11 := of_decide_eq_false c11
            iterate 10 refine z ?_
            refine yQ rfl (fun c12 => ?_) fun c12 => ?_
            ·skip
             refine ok_seq ?_
             refine ok_weak (σ' := ⟨[(0, .one (.dv [] (bytesD (b))))], [], []⟩) (weak_sub ⟨rfl, trivial⟩ trivial trivial rfl) ?_
             refine ok_region ?_
             refine o_build0 (k := 95000) hT rfl rfl rfl rfl rfl rfl rfl rfl ?_
             iterate 3 refine z ?_
             rw [decO_none c1 (hi.trans (os_no hk2 (by simp only [opBad]; simp [*])))]
             refine ok_weak (σ' := ⟨[(2, .one (.key 95000)), (3, .one (.dv [] (.bool (false))))], [], [(95000, some (kcOf false (opsD ([]))))]⟩) (weak_sub ⟨rfl, rfl, trivial⟩ trivial ⟨rfl, trivial⟩ rfl) ?_
             iterate 7 refine z ?_
             refine fin2 (res_tmp rfl) (res_tmp rfl) rfl rfl ?_
             first | exact ⟨rfl, rfl⟩ | skip
            ·skip
             iterate 3 refine z ?_
             refine yO rfl rfl (pu_indexB (len := 4) (e := 35) (sz := 1) rfl (by kernel_rfl) (by kernel_rfl) rfl (ev_tmp rfl) (ev_int (inR_lit rfl)) (by decide) (by decide)) rfl ?_
             refine z ?_
             refine yO rfl rfl (pu_convBS (K := [51000]) (e := 5) (xs := (headB (rdB (b) (uvP (b) (p)) ((((b)).length : Int))))) hT rfl rfl rfl rfl (ev_keyv (k := 51000) (c := kcOf false (bytesD (headB (rdB (b) (uvP (b) (p)) ((((b)).length : Int)))))) (ev_tmp rfl) rfl)) rfl ?_
             iterate 4 refine z ?_
             refine yO rfl rfl (pu_indexB (len := 4) (e := 35) (sz := 1) rfl (by kernel_rfl) (by kernel_rfl) rfl (ev_tmp rfl) (ev_int (inR_lit rfl)) (by decide) (by decide)) rfl ?_
             refine z ?_
             refine o_call rfl rfl rfl Try.call78 (ok_impl_DecodeKey (b := headB (ox2 b (((b).length : Int)) (((b).length : Int)) p)) (by have := (rb_bds b (rbP (ox1 b (((b).length : Int)) p)) ((b).length : Int)).2.2; exact Nat.le_trans this (by omega))) (as_cons (ev_tmp rfl) (ag_one (ac_key' rfl rfl)) as_nil) rfl rfl ?_
             iterate 7 refine z ?_
             refine yO rfl rfl (pu_indexB (len := 4) (e := 35) (sz := 1) rfl (by kernel_rfl) (by kernel_rfl) rfl (ev_tmp rfl) (ev_int (inR_lit rfl)) (by decide) (by decide)) rfl ?_
             refine z ?_
             refine o_callK 74000 rfl rfl rfl Try.call79 (ok_impl_DecodeRecord (b := headB (ox3 b (((b).length : Int)) (((b).length : Int)) (((b).length : Int)) p)) (by have := (rb_bds b (rbP (ox2 b (((b).length : Int)) (((b).length : Int)) p)) ((b).length : Int)).2.2; exact Nat.le_trans this (by omega))) (as_cons (ev_tmp rfl) (ag_one (ac_key' rfl rfl)) as_nil) rfl rfl rfl ?_
             iterate 7 refine z ?_
             refine yO rfl rfl (pu_indexB (len := 4) (e := 35) (sz := 1) rfl (by kernel_rfl) (by kernel_rfl) rfl (ev_tmp rfl) (ev_int (inR_lit rfl)) (by decide) (by decide)) rfl ?_
             refine z ?_
             refine yO rfl rfl (pu_convBS (K := [54000]) (e := 5) (xs := (headB (rdB (b) (rbP (rdB (b) (rbP (rdB (b) (rbP (rdB (b) (uvP (b) (p)) ((((b)).length : Int)))) ((((b)).length : Int)))) ((((b)).length : Int)))) ((((b)).length : Int))))) hT rfl rfl rfl rfl (ev_keyv (k := 54000) (c := kcOf false (bytesD (headB (rdB (b) (rbP (rdB (b) (rbP (rdB (b) (rbP (rdB (b) (uvP (b) (p)) ((((b)).length : Int)))) ((((b)).length : Int)))) ((((b)).length : Int)))) ((((b)).length : Int)))))) (ev_tmp rfl) rfl)) rfl ?_
             iterate 3 refine z ?_
             refine ok_region ?_
             iterate 2 refine z ?_
             refine o_build1 (k := 84) (js := [83001]) hT rfl rfl rfl rfl rfl rfl rfl rfl rfl (ev_tmp rfl) rfl rfl (ow_cons' (ow_dv rfl) (ow_cons' (ow_dv rfl) (ow_cons' (ow_dv rfl) (ow_cons' (ow_dv rfl) (ow_cons' (ow_dv rfl) (ow_cons' (ow_key rfl) (ow_cons' (ow_dv rfl) ow_nil rfl) rfl) rfl) rfl) rfl) rfl) rfl) (by decide) (by decide) rfl rfl ?_
             simp only [killT, killB, SV.kill, CV.kill, kk, Nat.reduceBEq]
             refine o_appK (k := 95000) (j := 84) (cs := (l ++ [(opVal b (((b).length : Int)) (((b).length : Int)) (((b).length : Int)) (((b).length : Int)) p)]).flatMap eOp) (n := (l ++ [(opVal b (((b).length : Int)) (((b).length : Int)) (((b).length : Int)) (((b).length : Int)) p)]).length) hT rfl rfl rfl rfl rfl rfl rfl (ev_tmp rfl) rfl rfl rfl (ev_tmp rfl) rfl rfl (by decide) (by dsimp only [kcOf, KC.old]; omega) (by dsimp only [kcOf, KC.old]; omega) (by rw [List.length_append]; rfl) (by rw [List.flatMap_append]; rfl) ?_
             simp only [killT, killB, SV.kill, CV.kill, kk, Nat.reduceBEq]
             refine z ?_
             refine ops_nil ?_
             iterate 2 refine z ?_
             refine ok_region ?_
             iterate 4 refine z ?_
             refine ⟨(k + 1, rbP (ox4 b (((b).length : Int)) (((b).length : Int)) (((b).length : Int)) (((b).length : Int)) p), l ++ [(opVal b (((b).length : Int)) (((b).length : Int)) (((b).length : Int)) (((b).length : Int)) p)]), ?_, ?_, weak_sub ⟨rfl, rfl, rfl, rfl, rfl, trivial⟩ trivial ⟨rfl, trivial⟩ rfl⟩
             ·exact ⟨by dsimp only; omega, hi.trans (os_go hk2 (by simp only [opBad]; simp [*])), by show (l ++ _).length = k + 1; rw [List.length_append, hl]; rfl⟩
             ·dsimp only; omega
          ·skip
           iterate 3 refine z ?_
           refine ok_region ?_
           refine yO rfl rfl (pu_eqI (n := 4) (pu_addR rfl (ev_tmp rfl) (ev_int (inR_lit rfl)) (inR64 (by omega) (by omega))) (by decide)) rfl ?_
           iterate 2 refine z ?_
           refine rnd_step ?_
           iterate 3 refine z ?_
           refine ok_seq ?_
           refine yQ rfl (fun c13 => ?_) fun c13 => ?_
           ·exact absurd c13 (by decide)
           ·skip
            have d13 := of_decide_eq_false c13
            iterate 10 refine z ?_
            refine yQ rfl (fun c14 => ?_) fun c14 => ?_
            ·skip
             refine ok_seq ?_
             refine ok_weak (σ' := ⟨[(0, .one (.dv [] (bytesD (b))))], [], []⟩) (weak_sub ⟨rfl, trivial⟩ trivial trivial rfl) ?_
             refine ok_region ?_
             refine o_build0 (k := 95000) hT rfl rfl rfl rfl rfl rfl rfl rfl ?_
             iterate 3 refine z ?_
             rw [decO_none c1 (hi.trans (os_no hk2 (by simp only [opBad]; simp [*])))]
             refine ok_weak (σ' := ⟨[(2, .one (.key 95000)), (3, .one (.dv [] (.bool (false))))], [], [(95000, some (kcOf false (opsD ([]))))]⟩) (weak_sub ⟨rfl, rfl, trivial⟩ trivial ⟨rfl, trivial⟩ rfl) ?_
             iterate 7 refine z ?_
             refine fin2 (res_tmp rfl) (res_tmp rfl) rfl rfl ?_
             first | exact ⟨rfl, rfl⟩ | skip
            ·rw [c10] at c14; exact absurd c14 (by decide)
         ·exact absurd c9 (by decide)
        ·skip
         iterate 3 refine z ?_
         refine ok_region ?_
         refine yO rfl rfl (pu_eqI (n := 3) (pu_addR rfl (ev_tmp rfl) (ev_int (inR_lit rfl)) (inR64 (by omega) (by omega))) (by decide)) rfl ?_
         iterate 2 refine z ?_
         refine rnd_step ?_
         iterate 3 refine z ?_
         refine ok_seq ?_
         refine yQ rfl (fun c15 => ?_) fun c15 => ?_
         ·skip
          have d15 := of_decide_eq_true c15
          iterate 11 refine z ?_
          refine yQ rfl (fun c16 => ?_) fun c16 => ?_
          ·exact absurd (c8.symm.trans c16) (by decide)
          ·skip
           iterate 3 refine z ?_
           refine ok_region ?_
           refine yO rfl rfl (pu_eqI (n := 4) (pu_addR rfl (ev_tmp rfl) (ev_int (inR_lit rfl)) (inR64 (by omega) (by omega))) (by decide)) rfl ?_
           iterate 2 refine z ?_
           refine rnd_step ?_
           iterate 3 refine z ?_
           refine ok_seq ?_
           refine yQ rfl (fun c17 => ?_) fun c17 => ?_
           ·exact absurd c17 (by decide)
           ·skip
            have d17 := of_decide_eq_false c17
            iterate 10 refine z ?_
            refine yQ rfl (fun c18 => ?_) fun c18 => ?_
            ·skip
             refine ok_seq ?_
             refine ok_weak (σ' := ⟨[(0, .one (.dv [] (bytesD (b))))], [], []⟩) (weak_sub ⟨rfl, trivial⟩ trivial trivial rfl) ?_
             refine ok_region ?_
             refine o_build0 (k := 95000) hT rfl rfl rfl rfl rfl rfl rfl rfl ?_
             iterate 3 refine z ?_
             rw [decO_none c1 (hi.trans (os_no hk2 (by simp only [opBad]; simp [*])))]
             refine ok_weak (σ' := ⟨[(2, .one (.key 95000)), (3, .one (.dv [] (.bool (false))))], [], [(95000, some (kcOf false (opsD ([]))))]⟩) (weak_sub ⟨rfl, rfl, trivial⟩ trivial ⟨rfl, trivial⟩ rfl) ?_
             iterate 7 refine z ?_
             refine fin2 (res_tmp rfl) (res_tmp rfl) rfl rfl ?_
             first | exact ⟨rfl, rfl⟩ | skip
            ·rw [c8] at c18; exact absurd c18 (by decide)
         ·exact absurd c15 (by decide)
       ·exact absurd c7 (by decide)
      ·skip
       iterate 3 refine z ?_
       refine ok_region ?_
       refine yO rfl rfl (pu_eqI (n := 2) (pu_addR rfl (ev_tmp rfl) (ev_int (inR_lit rfl)) (inR64 (by omega) (by omega))) (by decide)) rfl ?_
       iterate 2 refine z ?_
       refine rnd_step ?_
       iterate 3 refine z ?_
       refine ok_seq ?_
       refine yQ rfl (fun c19 => ?_) fun c19 => ?_
       ·skip
        have d19 := of_decide_eq_true c19
        iterate 11 refine z ?_
        refine yQ rfl (fun c20 => ?_) fun c20 => ?_
        ·exact absurd (c6.symm.trans c20) (by decide)
        ·skip
         iterate 3 refine z ?_
         refine ok_region ?_
         refine yO rfl rfl (pu_eqI (n := 3) (pu_addR rfl (ev_tmp rfl) (ev_int (inR_lit rfl)) (inR64 (by omega) (by omega))) (by decide)) rfl ?_
         iterate 2 refine z ?_
         refine rnd_step ?_
         iterate 3 refine z ?_
         refine ok_seq ?_
         refine yQ rfl (fun c21 => ?_) fun c21 => ?_
         ·skip
          have d21 := of_decide_eq_true c21
          iterate 11 refine z ?_
          refine yQ rfl (fun c22 => ?_) fun c22 => ?_
          ·exact absurd (c6.symm.trans c22) (by decide)
          ·skip
           iterate 3 refine z ?_
           refine ok_region ?_
           refine yO rfl rfl (pu_eqI (n := 4) (pu_addR rfl (ev_tmp rfl) (ev_int (inR_lit rfl)) (inR64 (by omega) (by omega))) (by decide)) rfl ?_
           iterate 2 refine z ?_
           refine rnd_step ?_
           iterate 3 refine z ?_
           refine ok_seq ?_
           refine yQ rfl (fun c23 => ?_) fun c23 => ?_
           ·exact absurd c23 (by decide)
           ·skip
            have d23 := of_decide_eq_false c23
            iterate 10 refine z ?_
            refine yQ rfl (fun c24 => ?_) fun c24 => ?_
            ·skip
             refine ok_seq ?_
             refine ok_weak (σ' := ⟨[(0, .one (.dv [] (bytesD (b))))], [], []⟩) (weak_sub ⟨rfl, trivial⟩ trivial trivial rfl) ?_
             refine ok_region ?_
             refine o_build0 (k := 95000) hT rfl rfl rfl rfl rfl rfl rfl rfl ?_
             iterate 3 refine z ?_
             rw [decO_none c1 (hi.trans (os_no hk2 (by simp only [opBad]; simp [*])))]
             refine ok_weak (σ' := ⟨[(2, .one (.key 95000)), (3, .one (.dv [] (.bool (false))))], [], [(95000, some (kcOf false (opsD ([]))))]⟩) (weak_sub ⟨rfl, rfl, trivial⟩ trivial ⟨rfl, trivial⟩ rfl) ?_
             iterate 7 refine z ?_
             refine fin2 (res_tmp rfl) (res_tmp rfl) rfl rfl ?_
             first | exact ⟨rfl, rfl⟩ | skip
            ·rw [c6] at c24; exact absurd c24 (by decide)
         ·exact absurd c21 (by decide)
       ·exact absurd c19 (by decide)
     ·exact absurd c5 (by decide)
    ·skip
     iterate 3 refine z ?_
     refine ok_region ?_
     refine yO rfl rfl (pu_eqI (n := 1) (pu_addR rfl (ev_tmp rfl) (ev_int (inR_lit rfl)) (inR64 (by omega) (by omega))) (by decide)) rfl ?_
     iterate 2 refine z ?_
     refine rnd_step ?_
     iterate 3 refine z ?_
     refine ok_seq ?_
     refine yQ rfl (fun c25 => ?_) fun c25 => ?_
     ·skip
      have d25 := of_decide_eq_true c25
      iterate 11 refine z ?_
      refine yQ rfl (fun c26 => ?_) fun c26 => ?_
      ·exact absurd (c4.symm.trans c26) (by decide)
      ·skip
       iterate 3 refine z ?_
       refine ok_region ?_
       refine yO rfl rfl (pu_eqI (n := 2) (pu_addR rfl (ev_tmp rfl) (ev_int (inR_lit rfl)) (inR64 (by omega) (by omega))) (by decide)) rfl ?_
       iterate 2 refine z ?_
       refine rnd_step ?_
       iterate 3 refine z ?_
       refine ok_seq ?_
       refine yQ rfl (fun c27 => ?_) fun c27 => ?_
       ·skip
        have d27 := of_decide_eq_true c27
        iterate 11 refine z ?_
        refine yQ rfl (fun c28 => ?_) fun c28 => ?_
        ·exact absurd (c4.symm.trans c28) (by decide)
        ·skip
         iterate 3 refine z ?_
         refine ok_region ?_
         refine yO rfl rfl (pu_eqI (n := 3) (pu_addR rfl (ev_tmp rfl) (ev_int (inR_lit rfl)) (inR64 (by omega) (by omega))) (by decide)) rfl ?_
         iterate 2 refine z ?_
         refine rnd_step ?_
         iterate 3 refine z ?_
         refine ok_seq ?_
         refine yQ rfl (fun c29 => ?_) fun c29 => ?_
         ·skip
          have d29 := of_decide_eq_true c29
          iterate 11 refine z ?_
          refine yQ rfl (fun c30 => ?_) fun c30 => ?_
          ·exact absurd (c4.symm.trans c30) (by decide)
          ·skip
           iterate 3 refine z ?_
           refine ok_region ?_
           refine yO rfl rfl (pu_eqI (n := 4) (pu_addR rfl (ev_tmp rfl) (ev_int (inR_lit rfl)) (inR64 (by omega) (by omega))) (by decide)) rfl ?_
           iterate 2 refine z ?_
           refine rnd_step ?_
           iterate 3 refine z ?_
           refine ok_seq ?_
           refine yQ rfl (fun c31 => ?_) fun c31 => ?_
           ·exact absurd c31 (by decide)
           ·skip
            have d31 := of_decide_eq_false c31
            iterate 10 refine z ?_
            refine yQ rfl (fun c32 => ?_) fun c32 => ?_
            ·skip
             refine ok_seq ?_
             refine ok_weak (σ' := ⟨[(0, .one (.dv [] (bytesD (b))))], [], []⟩) (weak_sub ⟨rfl, trivial⟩ trivial trivial rfl) ?_
             refine ok_region ?_
             refine o_build0 (k := 95000) hT rfl rfl rfl rfl rfl rfl rfl rfl ?_
             iterate 3 refine z ?_
             rw [decO_none c1 (hi.trans (os_no hk2 (by simp only [opBad]; simp [*])))]
             refine ok_weak (σ' := ⟨[(2, .one (.key 95000)), (3, .one (.dv [] (.bool (false))))], [], [(95000, some (kcOf false (opsD ([]))))]⟩) (weak_sub ⟨rfl, rfl, trivial⟩ trivial ⟨rfl, trivial⟩ rfl) ?_
             iterate 7 refine z ?_
             refine fin2 (res_tmp rfl) (res_tmp rfl) rfl rfl ?_
             first | exact ⟨rfl, rfl⟩ | skip
            ·rw [c4] at c32; exact absurd c32 (by decide)
         ·exact absurd c29 (by decide)
       ·exact absurd c27 (by decide)
     ·exact absurd c25 (by decide)
   ·exact absurd c3 (by decide)
  ·skip
   have d2 := of_decide_eq_false c2
   have hfe := hi.trans (os_end (by omega))
   iterate 8 refine z ?_
   refine o_callK 87000 rfl rfl rfl Try.call24 (ok_impl_EncodeOps (l := l)) (as_cons (ev_tmp rfl) (ag_one (ac_key' rfl rfl)) as_nil) rfl rfl rfl ?_
   refine z ?_
   refine o_call rfl rfl rfl Try.call80 (ok_impl_EqualBytes (x := encO (l)) (y := b) ) (as_cons (ev_tmp rfl) (ag_one (ac_key' rfl rfl)) (as_cons (ev_tmp rfl) (ag_one ac_dv) as_nil)) rfl rfl ?_
   iterate 2 refine z ?_
   refine yQ rfl (fun c33 => ?_) fun c33 => ?_
   ·skip
    refine ok_seq ?_
    refine ok_weak (σ' := ⟨[(0, .one (.dv [] (bytesD (b))))], [], []⟩) (weak_sub ⟨rfl, trivial⟩ trivial trivial rfl) ?_
    refine ok_region ?_
    refine o_build0 (k := 95000) hT rfl rfl rfl rfl rfl rfl rfl rfl ?_
    iterate 3 refine z ?_
    rw [decO_no c1 hfe (by assumption)]
    refine ok_weak (σ' := ⟨[(2, .one (.key 95000)), (3, .one (.dv [] (.bool (false))))], [], [(95000, some (kcOf false (opsD ([]))))]⟩) (weak_sub ⟨rfl, rfl, trivial⟩ trivial ⟨rfl, trivial⟩ rfl) ?_
    iterate 2 refine z ?_
    refine fin2 (res_tmp rfl) (res_tmp rfl) rfl rfl ?_
    first | exact ⟨rfl, rfl⟩ | skip
   ·skip
    iterate 7 refine z ?_
    rw [decO_yes c1 hfe (by assumption)]
    refine ok_weak (σ' := ⟨[(2, .one (.key 95000)), (3, .one (.dv [] (.bool (true))))], [], [(95000, some (kcOf false (opsD (l))))]⟩) (weak_sub ⟨rfl, rfl, trivial⟩ trivial ⟨rfl, trivial⟩ rfl) ?_
    refine z ?_
    refine fin2 (res_tmp rfl) (res_tmp rfl) rfl rfl ?_
    first | exact ⟨rfl, rfl⟩ | skip
theorem ok_laws_FnExactDecodeOps {x0 : List (UInt8)}  : PFn Try.prog 6 [.one (.dv [] (bytesD (x0)))] (.one (.dv [] (.bool (true)))) := by
 refine ⟨fn_intro Try.func6 rfl Try.ntmps6 Try.results6 rfl (fun C => ?_)⟩
 obtain ⟨hdl, hdo, hdw⟩ := decO_len x0
 have : wSum cByte (x0) = 1 * (x0).length := wSum_const (n := 1) _
 have := wSum_bound cOp_le (((decO x0).1))
 refine ok_fact (x := .tmp 0) (ev_tmp rfl) fun f0 => ?_
 iterate 9 refine z ?_
 refine yQ rfl (fun c1 => ?_) fun c1 => ?_
 ·skip
  have d1 := of_decide_eq_true c1
  first | have q1 := szR_n d1 | skip
  iterate 6 refine z ?_
  first | rfl | (exfalso; omega) | (exfalso; simp_all; done) | (exfalso; simp_all; omega)
 ·skip
  have d1 := of_decide_eq_false c1
  first | have q1 := szR_nn d1 | skip
  iterate 4 refine z ?_
  refine zK 18000 Try.call31 ?_ (hf := ok_laws_toByteS (by first | omega | (simp only [wKey, wField, wRecord, wItem, wStore, wIndexDef, wDatabase, wOp, wTx, wTxQueue] at hb ⊢; omega) | (have hq := hw (by omega); omega)))
  refine o_callK 19000 rfl rfl rfl Try.call30 (ok_spec_DecodeOps (by omega)) (as_cons (ev_tmp rfl) (ag_one (ac_key' rfl rfl)) as_nil) rfl rfl rfl ?_
  iterate 8 refine z ?_
  refine zK 23000 Try.call31 ?_ (hf := ok_laws_toByteS (by first | omega | (simp only [wKey, wField, wRecord, wItem, wStore, wIndexDef, wDatabase, wOp, wTx, wTxQueue] at hb ⊢; omega) | (have hq := hw (by omega); omega)))
  iterate 4 refine z ?_
  refine o_callK 26000 rfl rfl rfl Try.call32 (ok_impl_DecodeOps (by omega)) (as_cons (ev_tmp rfl) (ag_one (ac_key' rfl rfl)) as_nil) rfl rfl rfl ?_
  iterate 10 refine z ?_
  refine o_call rfl rfl rfl Try.call26 ok_laws_eqOpS (as_cons (ev_tmp rfl) (ag_one (ac_key' rfl rfl)) (as_cons (ev_tmp rfl) (ag_one (ac_key' rfl rfl)) as_nil)) rfl rfl ?_
  iterate 4 refine z ?_
  refine o_pureG (gd_bool rfl rfl rfl rfl rfl) rfl (fun hg => pu_bneq hT rfl rfl (ev_opt rfl hg) (ev_opt rfl hg)) rfl rfl ?_
  iterate 2 refine z ?_
  refine yQ rfl (fun c2 => ?_) fun c2 => ?_
  ·skip
   iterate 6 refine z ?_
   first | rfl | (exfalso; omega) | (exfalso; simp_all; done) | (exfalso; simp_all; omega)
  ·skip
   iterate 6 refine z ?_
   refine zK 40000 Try.call31 ?_ (hf := ok_laws_toByteS (by first | omega | (simp only [wKey, wField, wRecord, wItem, wStore, wIndexDef, wDatabase, wOp, wTx, wTxQueue] at hb ⊢; omega) | (have hq := hw (by omega); omega)))
   refine o_call rfl rfl rfl Try.call25 ok_laws_eqByteS (as_cons (ev_tmp rfl) (ag_one (ac_key' rfl rfl)) (as_cons (ev_tmp rfl) (ag_one (ac_key' rfl rfl)) as_nil)) rfl rfl ?_
   iterate 2 refine z ?_
   refine yQ rfl (fun c3 => ?_) fun c3 => ?_
   ·skip
    iterate 6 refine z ?_
    first | rfl | (exfalso; omega) | (exfalso; simp_all; done) | (exfalso; simp_all; omega)
   ·skip
    iterate 8 refine z ?_
    refine o_callW [(0, 23007, ⟨false, _, _, _, _⟩, ⟨false, _, _, _, _⟩)] rfl rfl rfl Try.call28 (ok_laws_markByteS (x := x0) (by omega) (by omega)) ⟨rfl, trivial⟩ rfl (aw_cons (ev_tmp rfl) (aw_one (awc_key rfl)) (aw_cons (ev_tmp rfl) (aw_one (awc_dv rfl)) aw_nil)) rfl rfl ?_
    simp only [killT, killB, SV.kill, CV.kill, kk, Nat.reduceBEq]
    iterate 9 refine z ?_
    refine o_callG (gd_bool rfl rfl rfl rfl rfl) rfl rfl Try.call26 ok_laws_eqOpS (fun hg => (as_cons (ev_opt rfl hg) (ag_one (ac_key' rfl rfl)) (as_cons (ev_opt rfl hg) (ag_one (ac_key' rfl rfl)) as_nil))) rfl rfl ?_
    iterate 5 refine z ?_
    refine o_pureG (gd_bool rfl rfl rfl rfl rfl) rfl (fun hg => pu_bneq hT rfl rfl (ev_opt rfl hg) (ev_opt rfl hg)) rfl rfl ?_
    iterate 2 refine z ?_
    refine yQ rfl (fun c4 => ?_) fun c4 => ?_
    ·skip
     iterate 6 refine z ?_
     first | rfl | (exfalso; omega) | (exfalso; simp_all; done) | (exfalso; simp_all; omega)
    ·skip
     iterate 8 refine z ?_
     refine o_callW [(0, 121000, ⟨false, _, _, _, _⟩, ⟨false, _, _, _, _⟩)] rfl rfl rfl Try.call27 (ok_laws_markOpS (x := ((decO x0).1)) (by omega) (by omega)) ⟨rfl, trivial⟩ rfl (aw_cons (ev_tmp rfl) (aw_one (awc_key rfl)) (aw_cons (ev_tmp rfl) (aw_one (awc_dv rfl)) aw_nil)) rfl rfl ?_
     simp only [killT, killB, SV.kill, CV.kill, kk, Nat.reduceBEq]
     iterate 8 refine z ?_
     refine o_call rfl rfl rfl Try.call33 (ok_laws_heldOpS (x := ((decO x0).1)) rfl (by omega) (by omega)) (as_cons (ev_tmp rfl) (ag_one (ac_key' rfl rfl)) (as_cons (ev_tmp rfl) (ag_one ac_dv) as_nil)) rfl rfl ?_
     iterate 7 refine z ?_
     refine yQ rfl (fun c5 => ?_) fun c5 => ?_
     ·skip
      have d5 := of_decide_eq_true c5
      first | have q5 := szR_n d5 | skip
      iterate 6 refine z ?_
      first | rfl | (exfalso; omega) | (exfalso; simp_all; done) | (exfalso; simp_all; omega)
     ·skip
      have d5 := of_decide_eq_false c5
      first | have q5 := szR_nn d5 | skip
      iterate 8 refine z ?_
      refine yQ rfl (fun c6 => ?_) fun c6 => ?_
      ·skip
       have d6 := nd_t c6
       iterate 6 refine z ?_
       first | rfl | (exfalso; omega) | (exfalso; simp_all; done) | (exfalso; simp_all; omega)
      ·skip
       have d6 := nd_f c6
       iterate 4 refine z ?_
       refine zK 72000 Try.call31 ?_ (hf := ok_laws_toByteS (by first | omega | (simp only [wKey, wField, wRecord, wItem, wStore, wIndexDef, wDatabase, wOp, wTx, wTxQueue] at hb ⊢; omega) | (have hq := hw (by omega); omega)))
       refine o_callK 73000 rfl rfl rfl Try.call32 (ok_impl_DecodeOps (by omega)) (as_cons (ev_tmp rfl) (ag_one (ac_key' rfl rfl)) as_nil) rfl rfl rfl ?_
       iterate 10 refine z ?_
       refine o_call rfl rfl rfl Try.call26 ok_laws_eqOpS (as_cons (ev_tmp rfl) (ag_one (ac_key' rfl rfl)) (as_cons (ev_tmp rfl) (ag_one (ac_key' rfl rfl)) as_nil)) rfl rfl ?_
       iterate 4 refine z ?_
       refine o_pureG (gd_bool rfl rfl rfl rfl rfl) rfl (fun hg => pu_bneq hT rfl rfl (ev_opt rfl hg) (ev_opt rfl hg)) rfl rfl ?_
       iterate 2 refine z ?_
       refine yQ rfl (fun c7 => ?_) fun c7 => ?_
       ·skip
        iterate 6 refine z ?_
        first | rfl | (exfalso; omega) | (exfalso; simp_all; done) | (exfalso; simp_all; omega)
       ·skip
        iterate 8 refine z ?_
        refine o_call rfl rfl rfl Try.call33 (ok_laws_heldOpS (x := ((decO x0).1)) rfl (by omega) (by omega)) (as_cons (ev_tmp rfl) (ag_one (ac_key' rfl rfl)) (as_cons (ev_tmp rfl) (ag_one ac_dv) as_nil)) rfl rfl ?_
        iterate 7 refine z ?_
        refine yQ rfl (fun c8 => ?_) fun c8 => ?_
        ·skip
         have d8 := of_decide_eq_true c8
         first | have q8 := szR_n d8 | skip
         iterate 6 refine z ?_
         first | rfl | (exfalso; omega) | (exfalso; simp_all; done) | (exfalso; simp_all; omega)
        ·skip
         have d8 := of_decide_eq_false c8
         first | have q8 := szR_nn d8 | skip
         iterate 8 refine z ?_
         refine yQ rfl (fun c9 => ?_) fun c9 => ?_
         ·skip
          have d9 := nd_t c9
          iterate 6 refine z ?_
          first | rfl | (exfalso; omega) | (exfalso; simp_all; done) | (exfalso; simp_all; omega)
         ·skip
          have d9 := nd_f c9
          iterate 7 refine z ?_
          first | rfl | (exfalso; omega) | (exfalso; simp_all; done) | (exfalso; simp_all; omega)
end Go.Proofs.Ytlogahkchenpdaa

namespace Go.Proofs.Ytlogahkchenpdaa
open Go.RowKit Go.ChangeShapes Go.WideShapes Go.Deep

def LayW (W : World) : List DV → List Value → Prop := LayL (fun b => b < W.heap.size) W
structure OpensD (P : Program) (Q : List DV → Prop) (t : TypeId) : Prop where
 run : ∀ {H : Type} (enc : TypeId × Value → H) (W : World) (base : Nat) (spare : Nat → Bool) (held : Bool) (fuel : Nat) (cs : List Value) (y : DataW H × List MemPlace),
  DataW.trod enc P W base spare held fuel t cs = some y → ∃ ds, Q ds ∧ LayW W ds cs
def Is {α : Type} (enc : α → List DV) (ds : List DV) : Prop := ∃ x, ds = enc x
theorem opensD_byte {P : Program} {t : TypeId} (ht : P.underlying t = some (.int .u8)) : OpensD P (Is eByte) t := by
 refine ⟨fun {H} enc W base spare held fuel cs y h => ?_⟩
 obtain ⟨n, rfl, _, hw⟩ := DataW.trod_int ht h
 have hb : 0 ≤ n ∧ n ≤ 255 := by simpa [Lit.wf, IntKind.min, IntKind.max, IntKind.signed, IntKind.bits] using hw
 have e : ((UInt8.ofNat n.toNat).toNat : Int) = n := by
  rw [UInt8.toNat_ofNat']
  have : n.toNat % 2 ^ 8 = n.toNat := Nat.mod_eq_of_lt (by omega)
  rw [this]; omega
 refine ⟨_, ⟨UInt8.ofNat n.toNat, rfl⟩, ?_⟩
 simp only [LayW, LayL, Lay]
 rw [e]
 exact ⟨_, _, rfl, ⟨rfl, by simpa [InR, IntKind.min, IntKind.max, IntKind.signed, IntKind.bits] using hb⟩, rfl⟩
theorem points {α : Type} {enc : α → List DV} {W : World} {sz : Nat} {f : Nat → Option Value} (hs : ∀ x, (enc x).length = sz) : ∀ n : Nat,
  (∀ i, i < n → ∃ x ci, LayW W (enc x) ci ∧ ∀ j, j < sz → f (i * sz + j) = ci[j]?) → ∃ (xs : List α) (cells : List Value), xs.length = n ∧ LayW W (xs.flatMap enc) cells ∧ ∀ j u, cells[j]? = some u → f j = some u
 | 0, _ => ⟨[], [], rfl, by simp [LayW, LayL], by simp⟩
 | n + 1, h => by
  obtain ⟨xs, cells, h1, h2, h3⟩ := points hs n (fun i hi => h i (by omega))
  obtain ⟨x, ci, g1, g2⟩ := h n (by omega)
  have hl : cells.length = n * sz := by rw [layL_len _ _ h2, flat_len hs, h1]
  have hci : ci.length = sz := by rw [layL_len _ _ g1, hs]
  refine ⟨xs ++ [x], cells ++ ci, by simp [h1], by have := layL_append _ _ _ _ h2 g1; simp only [List.flatMap_append, List.flatMap_cons, List.flatMap_nil, List.append_nil]; exact this, fun j u hu => ?_⟩
  rcases Nat.lt_or_ge j cells.length with hj | hj
  ·rw [List.getElem?_append_left hj] at hu; exact h3 j u hu
  ·rw [List.getElem?_append_right hj] at hu
   have hjs : j - cells.length < sz := by rw [← hci]; exact (List.getElem?_eq_some_iff.1 hu).1
   have := g2 (j - cells.length) hjs
   rw [show n * sz + (j - cells.length) = j by omega] at this
   rw [this, hu]
theorem opensD_slice {α : Type} {P : Program} {enc : α → List DV} {t e : TypeId} {sz : Nat} (e' : Nat) (hs : ∀ x, (enc x).length = sz) (hsz : Nat.blt 0 sz = true) (ht : P.underlying t = some (.slice e)) (hc : P.cellsOf e = sz) (he : OpensD P (Is enc) e) : OpensD P (Is fun xs : List α => [listD e' sz enc xs]) t := by
 refine ⟨fun {H} ench W base spare held fuel cs y h => ?_⟩
 have hpos : 0 < sz := by simpa [Nat.blt_eq] using hsz
 rcases open_slice ht h with ⟨rfl, _⟩ | ⟨a, len, cap, m, n, D, Pl, rfl, _, hl, hm, hmm, _, hi⟩
 ·refine ⟨_, ⟨[], rfl⟩, ?_⟩
  simp only [LayW, LayL, Lay]
  exact ⟨_, _, rfl, ⟨none, 0, [], rfl, Nat.le_refl _, by simp [maxLen], hpos, by simp, by simp [LayL], fun h => by simp at h⟩, rfl⟩
 ·have hlm : len ≤ m := by rw [hmm]; split <;> omega
  obtain ⟨xs, cells, h1, h2, h3⟩ := points (W := W) (f := fun j => W.cell? (a.add j)) hs len (fun i hil => by
   obtain ⟨cs', hc1, hc2⟩ := hi i (by omega)
   obtain ⟨ds, ⟨x, rfl⟩, hx⟩ := he.run ench W base spare held n cs' _ hc2
   obtain ⟨_, hcl, hat⟩ := World.cells?_some hc1
   refine ⟨x, cs', hx, fun j hj => ?_⟩
   have := hat j (by rw [hc]; exact hj)
   rw [← Go.Deep.add_add, hc] at *
   exact this)
  refine ⟨_, ⟨xs, rfl⟩, ?_⟩
  simp only [LayW, LayL]
  refine ⟨_, _, rfl, ?_, rfl⟩
  simp only [Lay]
  refine ⟨some a, cap, cells, by rw [h1], by omega, hm, hpos, flat_len hs xs, h2, fun hp => ?_⟩
  have hcl : 0 < cells.length := by
   rw [layL_len _ _ h2, flat_len hs]
   exact Nat.mul_pos hp hpos
  have h0 := h3 0 _ (List.getElem?_eq_getElem hcl)
  have ha0 : a.add 0 = a := by simp [Addr.add]
  simp only [ha0] at h0
  have hsp : a.spot = none := by
   cases hs : a.spot with
   | none => rfl
   | some s =>
    unfold World.cell? at h0
    split at h0
    ·simp [hs] at h0
    ·cases h0
  obtain ⟨b, off, sp⟩ := a
  simp only at hsp
  subst hsp
  refine ⟨b, off, rfl, World.block_lt_of_cell? W _ h0, fun j u hu => ?_⟩
  have := h3 j u hu
  simp only [add_row] at this
  exact this
/-! ### structs -/
theorem OpensD.mono {P : Program} {Q R : List DV → Prop} {t : TypeId} (h : OpensD P Q t) (hq : ∀ ds, Q ds → R ds) : OpensD P R t := by
 refine ⟨fun {H} enc W base spare held fuel cs y h' => ?_⟩
 obtain ⟨ds, h1, h2⟩ := h.run enc W base spare held fuel cs y h'
 exact ⟨ds, hq ds h1, h2⟩
/-! ### a call from the outside -/
def TopL (w : World) : List SV → List Value → Prop
 | [], vs => vs = []
 | .one c :: us, vs => ∃ d v vs', c = .dv [] d ∧ vs = v :: vs' ∧ LayW w [d] [v] ∧ TopL w us vs'
 | .agg cs :: us, vs => ∃ ds xs vs', cs = ds.map (CV.dv []) ∧ vs = .agg xs.toArray :: vs' ∧ LayW w ds xs ∧ TopL w us vs'
 | _ :: _, _ => False
theorem lay_top {w : World} {L : Lyt} {d : DV} {v : Value} (h : LayW w [d] [v]) : CVr ⟨w, [], L.rv⟩ L w (.dv [] d) v := by
 simp only [LayW, LayL] at h
 obtain ⟨v', _, e, h1, rfl⟩ := h
 simp only [List.cons.injEq, and_true] at e
 subst e
 simp only [CVr]
 exact lay_conv (fun b hb _ => ⟨.inl ⟨hb, by simp⟩, rfl⟩) d _ h1
theorem lays_top {w : World} {L : Lyt} : ∀ {ds : List DV} {vs : List Value}, LayW w ds vs → CVL ⟨w, [], L.rv⟩ L w (ds.map (CV.dv [])) vs
 | [], _, h => by simp only [LayW, LayL] at h; subst h; rfl
 | d :: ds, _, h => by
  simp only [LayW, LayL] at h
  obtain ⟨v, vs', rfl, h1, h2⟩ := h
  exact ⟨v, vs', rfl, lay_top (by simp only [LayW, LayL]; exact ⟨v, [], rfl, h1, rfl⟩), lays_top h2⟩
theorem topL_sv {P : Program} {w : World} {L : Lyt} : ∀ {us : List SV} {vs : List Value}, TopL w us vs → vs.length = us.length ∧ (∀ u ∈ us, u.keys = [] ∧ u.boxes = []) ∧ ∀ (i : Nat) (v : SV), us[i]? = some v → ∃ x, vs[i]? = some x ∧ SVr P ⟨w, [], L.rv⟩ L w v x
 | [], _, h => by simp only [TopL] at h; subst h; simp
 | .one c :: us, _, h => by
  simp only [TopL] at h
  obtain ⟨d, v, vs', rfl, rfl, h1, h2⟩ := h
  obtain ⟨g1, g2, g3⟩ := topL_sv (P := P) (L := L) h2
  refine ⟨by simp [g1], fun u hu => ?_, fun i x hx => ?_⟩
  ·rcases List.mem_cons.1 hu with rfl | hu
   ·exact ⟨rfl, rfl⟩
   ·exact g2 u hu
  ·cases i with
   | zero => simp only [List.getElem?_cons_zero, Option.some.injEq] at hx; subst hx; exact ⟨v, rfl, by simp only [SVr]; exact lay_top h1⟩
   | succ i => simpa using g3 i x (by simpa using hx)
 | .agg cs :: us, _, h => by
  simp only [TopL] at h
  obtain ⟨ds, xs, vs', rfl, rfl, h1, h2⟩ := h
  obtain ⟨g1, g2, g3⟩ := topL_sv (P := P) (L := L) h2
  refine ⟨by simp [g1], fun u hu => ?_, fun i x hx => ?_⟩
  ·rcases List.mem_cons.1 hu with rfl | hu
   ·refine ⟨?_, rfl⟩
    simp only [SV.keys]
    rw [List.flatMap_eq_nil_iff]
    intro c hc
    obtain ⟨d, _, rfl⟩ := List.mem_map.1 hc
    rfl
   ·exact g2 u hu
  ·cases i with
   | zero => simp only [List.getElem?_cons_zero, Option.some.injEq] at hx; subst hx; exact ⟨_, rfl, by simp only [SVr]; exact ⟨xs, rfl, lays_top h1⟩⟩
   | succ i => simpa using g3 i x (by simpa using hx)
 | .tup _ :: _, _, h => by simp [TopL] at h
 | .box _ _ :: _, _, h => by simp [TopL] at h
 | .ref _ _ :: _, _, h => by simp [TopL] at h
 | .eptr _ _ :: _, _, h => by simp [TopL] at h
 | .ksl _ _ _ _ :: _, _, h => by simp [TopL] at h
 | .fn _ _ :: _, _, h => by simp [TopL] at h
 | .clo _ _ :: _, _, h => by simp [TopL] at h
 | .opt _ _ :: _, _, h => by simp [TopL] at h
 | .any :: _, _, h => by simp [TopL] at h
theorem pfn_run {P : Program} {f : FuncId} {us : List SV} {b : Bool} (hf : PFn P f us (.one (.dv [] (.bool b)))) {w : World} {vs : List Value} (h : TopL w us vs) :
  Calls P f vs.toArray w fun e w' => e = .returned (.bool b) ∧ Below w.heap.size w w' := by
 let L : Lyt := ⟨fun _ => 0, fun _ => [], fun _ => .bool false⟩
 obtain ⟨h1, h2, h3⟩ := topL_sv (P := P) (L := L) h
 obtain ⟨t1, t2⟩ := enum_tk us 0 h2
 have hr : Rel P ⟨w, [], L.rv⟩ us.length L ⟨enumS 0 us, [], []⟩ ⟨vs.toArray, []⟩ w := {
  df := rfl
  sz := by simp [h1]
  tm := fun i v hv => by
   obtain ⟨_, h4⟩ := enumS_look us 0 i v hv
   obtain ⟨x, h5, h6⟩ := h3 i v (by simpa using h4)
   have : vs.toArray.getD i undef = x := by simp [Array.getD_eq_getD_getElem?, h5]
   rw [this]; exact h6
  bx := fun i t cs h => by cases h
  ks := fun k c h => by cases h
  b1 := fun i x h => by cases h
  k1 := fun k c h => by cases h
  kn := fun k c h => by cases h
  bb := fun i j x y h => by cases h
  bk := fun i k x c h => by cases h
  kk := fun k j c d h => by cases h
  lk := fun k hk => by simp only [St.tk, t1, List.flatMap_nil, List.append_nil] at hk; cases hk
  lb := fun b hb => by simp only [St.tb, t2] at hb; cases hb
  s0 := fun b hb => by cases hb
  chg := Chg.refl _ _ }
 refine (hf.ok w [] L vs h1 hr).mono ?_
 rintro e w' ⟨r, res, σ', L', rfl, rfl, hr'⟩
 have hv := hr'.tm 0 _ rfl
 simp only [SVr, CVr, Lay] at hv
 refine ⟨?_, hr'.chg.below⟩
 have : (#[r] : Array Value).getD 0 undef = r := rfl
 rw [this] at hv
 rw [hv]
end Go.Proofs.Ytlogahkchenpdaa

namespace Go.Proofs.Ytlogahkchenpdaa
open Go.RowKit
open Go.Proofs
theorem opensBytes : OpensD Try.prog (Is fun xs => [listD 5 1 eByte xs]) 35 := opensD_slice (sz := 1) 5 (fun _ => rfl) rfl Try.underlying35 (by kernel_rfl) (opensD_byte Try.underlying5)
end Go.Proofs.Ytlogahkchenpdaa

