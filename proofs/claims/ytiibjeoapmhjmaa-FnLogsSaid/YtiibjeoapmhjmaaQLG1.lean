/-
  Contracts of the program's functions for the statements Logs, by the rules of the logic. Conditions: none but those in the theorems.
-/
import Derived.Below
import Derived.Deep.Slices
import Derived.OpenShut
import Derived.ProofKit
import Derived.Test.YtiibjeoapmhjmaaU2
set_option maxHeartbeats 4000000
set_option maxRecDepth 100000
namespace Go.Proofs.Ytiibjeoapmhjmaa
open Go.RowKit
open Go.Proofs
set_option linter.unusedVariables false
set_option linter.unusedSimpArgs false

def bssD (xs : List (List UInt8)) : DV := listD 22 1 (fun x => [bytesD x]) xs
def atC (l : List UInt8) (i : Int) : Int := if i < (l.length : Int) then ((l.getD i.toNat default).toNat : Int) else (i * 31 + (l.length : Int) * 7) % 256
def endsI (ds : List (List UInt8)) : List Int := (List.range (ds.length + 1)).map fun m => ((ents 0 (ds.take m)).length : Int)

theorem ok_laws_big {code : List UInt8}  : PFn Try.prog 4 [.one (.dv [] (bytesD (code)))] (.one (.dv [] (.bool (decide ((1048576 : Int) < (code.length : Int)))))) := by
 refine ⟨fn_intro Try.func4 rfl Try.ntmps4 Try.results4 rfl (fun C => ?_)⟩
 refine ok_fact (x := .tmp 0) (ev_tmp rfl) fun f0 => ?_
 iterate 11 refine z ?_
 rfl
theorem ok_laws_at {l : List UInt8} {i : Int} (hi : 0 ≤ i) (hi2 : i ≤ 1000) (hl : l.length ≤ 1048576) : PFn Try.prog 5 [.one (.dv [] (bytesD (l))), .one (.dv [] (.int .i64 (i)))] (.one (.dv [] (.int .i64 (atC l i)))) := by
 refine ⟨fn_intro Try.func5 rfl Try.ntmps5 Try.results5 rfl (fun C => ?_)⟩
 have hw1 : IntKind.i64.wrap (i * 31) = i * 31 := by rw [IntKind.wrap_i64]; omega
 have hw2 : IntKind.i64.wrap ((l.length : Int) * 7) = (l.length : Int) * 7 := by rw [IntKind.wrap_i64]; omega
 refine ok_fact (x := .tmp 0) (ev_tmp rfl) fun f0 => ?_
 refine ok_fact (x := .tmp 1) (ev_tmp rfl) fun f1 => ?_
 iterate 10 refine z ?_
 refine yQ rfl (fun c1 => ?_) fun c1 => ?_
 ·skip
  have d1 := of_decide_eq_true c1
  iterate 5 refine z ?_
  refine yO rfl rfl (pu_convI hT rfl rfl rfl (ev_tmp rfl)) rfl ?_
  iterate 5 refine z ?_
  have hlt := UInt8.toNat_lt (l.getD i.toNat default)
  rw [atC, if_pos d1, IntKind.wrap_i64]; omega
 ·skip
  have d1 := of_decide_eq_false c1
  iterate 4 refine z ?_
  refine yO rfl rfl (pu_mul rfl (ev_tmp rfl) (ev_int (inR_lit rfl))) rfl ?_
  iterate 2 refine z ?_
  refine yO rfl rfl (pu_mul rfl (ev_tmp rfl) (ev_int (inR_lit rfl))) rfl ?_
  refine z ?_
  refine yO rfl rfl (pu_remN rfl (ev_tmp rfl) (ev_int (inR_lit rfl)) (by omega) (by omega)) rfl ?_
  iterate 4 refine z ?_
  rw [atC, if_neg d1, hw1, hw2]
theorem ok_laws_sameBytes {x y : List UInt8} (h : x = y) : PFn Try.prog 9 [.one (.dv [] (bytesD (x))), .one (.dv [] (bytesD (y)))] (.one (.dv [] (.bool (true)))) := by
 refine ⟨fn_intro Try.func9 rfl Try.ntmps9 Try.results9 rfl (fun C => ?_)⟩
 refine ok_fact (x := .tmp 0) (ev_tmp rfl) fun f0 => ?_
 refine ok_fact (x := .tmp 1) (ev_tmp rfl) fun f1 => ?_
 iterate 11 refine z ?_
 refine yQ rfl (fun c1 => ?_) fun c1 => ?_
 ·skip
  have d1 := nd_t c1
  iterate 6 refine z ?_
  first | rfl | (exfalso; subst h; simp_all; done) | (exfalso; subst h; omega)
 ·skip
  have d1 := nd_f c1
  iterate 7 refine z ?_
  refine ok_loop (ι := Nat) (fun zz => ⟨[(0, .one (.dv [] (bytesD (x)))), (1, .one (.dv [] (bytesD (y)))), (5, .one (.dv [] (.int .i64 ((zz : Int)))))], [], []⟩) (fun zz => zz ≤ x.length) (fun zz => x.length - zz) (0) ?_ (weak_sub ⟨rfl, rfl, rfl, trivial⟩ trivial trivial rfl) (fun zz hx => ?_)
  ·exact Nat.zero_le _
  obtain ⟨k, rfl⟩ : ∃ v, v = zz := ⟨_, rfl⟩
  replace hx : k ≤ x.length := hx
  show Ok _ _ _ _ _ (⟨[(0, .one (.dv [] (bytesD (x)))), (1, .one (.dv [] (bytesD (y)))), (5, .one (.dv [] (.int .i64 ((k : Int)))))], [], []⟩ : St)
  iterate 7 refine z ?_
  refine yQ rfl (fun c2 => ?_) fun c2 => ?_
  ·skip
   have d2 := of_decide_eq_true c2
   iterate 4 refine z ?_
   refine ok_seq ?_
   refine ok_regionD (oB := []) (oK := []) (by kernel_rfl) rfl rfl ?_
   refine zD 0 ?_
   refine zD 1 ?_
   refine zD 2 ?_
   refine zD 3 ?_
   refine zD 4 ?_
   refine zD 5 ?_
   refine zD 6 ?_
   refine zD 7 ?_
   refine zD 8 ?_
   refine d_done (by kernel_rfl) ?_
   refine z ?_
   refine yQ rfl (fun c3 => ?_) fun c3 => ?_
   ·skip
    have d3 := nd_t c3
    iterate 10 refine z ?_
    first | rfl | (exfalso; subst h; simp_all; done) | (exfalso; subst h; omega)
   ·skip
    have d3 := nd_f c3
    iterate 3 refine z ?_
    refine ok_region ?_
    iterate 4 refine z ?_
    refine ⟨k + 1, ?_, ?_, weak_sub ⟨rfl, rfl, rfl, trivial⟩ trivial trivial rfl⟩
    ·omega
    ·omega
  ·skip
   have d2 := of_decide_eq_false c2
   iterate 10 refine z ?_
   first | rfl | (exfalso; subst h; simp_all; done) | (exfalso; subst h; omega)

theorem atC_rng (l : List UInt8) (i : Int) (hi : 0 ≤ i) : 0 ≤ atC l i ∧ atC l i ≤ 255 := by
 unfold atC
 split
 ·have := UInt8.toNat_lt (l.getD i.toNat default); omega
 ·omega
theorem eqSlotJ {k : IntKind} {a b : Int} (h : a = b) : some (SV.one (CV.dv [] (DV.int k a))) = some (SV.one (CV.dv [] (DV.int k b))) := by rw [h]
def wb (z : Int) : UInt8 := UInt8.ofNat (IntKind.u8.wrap z).toNat
theorem wb_two (x y : Int) : [DV.int .u8 (IntKind.u8.wrap x), DV.int .u8 (IntKind.u8.wrap y)] = [wb x, wb y].flatMap eByte := by
 show _ = [DV.int .u8 ((wb x).toNat : Int), DV.int .u8 ((wb y).toNat : Int)]
 unfold wb
 rw [← wrap_u8, ← wrap_u8]
def entD (code : List UInt8) (i : Nat) : List UInt8 := [wb (atC code ((i : Int) + 1)), wb (i : Int)].take (atC code ((i : Int) + 2) % 3).toNat
theorem entD_len (code : List UInt8) (i : Nat) : (entD code i).length ≤ 2 := by
 unfold entD; rw [List.length_take]; exact Nat.min_le_right _ _
theorem log_next {ds : List (List UInt8)} {d : List UInt8} (hl : (ents 0 ds).length ≤ 14 * ds.length) (hd : d.length ≤ 2) (h4 : ds.length ≤ 4) : alOk (ents 0 ds) (ds.length : Int) d = true ∧ alHead (ents 0 ds) (ds.length : Int) d = ents 0 (ds ++ [d]) ∧ (ents 0 (ds ++ [d])).length ≤ 14 * (ds ++ [d]).length := by
 have e1 := logOut_ent (ents 0 ds) d ds.length (by omega)
 have e2 := ents_snoc 0 ds d
 rw [Nat.zero_add] at e2
 have e3 : logOut (ents 0 ds) (ds.length : Int) d = ents 0 (ds ++ [d]) := by rw [e1, e2]
 have h5 := appB_lenO (ents 0 ds) d
 have h6 := appU_lenO (appBO (ents 0 ds) d) (checkV (ds.length : Int) d)
 have h7 : logOut (ents 0 ds) (ds.length : Int) d = appUO (appBO (ents 0 ds) d) (checkV (ds.length : Int) d) := rfl
 rw [← h7, e3] at h6
 have hnb : ¬ alBad (ents 0 ds) (ds.length : Int) d := by
  unfold alBad
  rw [e3]; omega
 refine ⟨by unfold alOk; exact decide_eq_true hnb, by unfold alHead; rw [if_neg hnb, e3], ?_⟩
 rw [List.length_append, List.length_singleton]; omega
theorem ends_len (ds : List (List UInt8)) : (endsI ds).length = ds.length + 1 := by unfold endsI; rw [List.length_map, List.length_range]
theorem ends_get {ds : List (List UInt8)} {m : Nat} (h : m ≤ ds.length) : (endsI ds).getD m default = ((ents 0 (ds.take m)).length : Int) := by
 simp only [endsI, List.getD_eq_getElem?_getD, List.getElem?_map, List.getElem?_range (show m < ds.length + 1 by omega), Option.map_some, Option.getD_some]
theorem ents_le {ds : List (List UInt8)} {m : Nat} : (ents 0 (ds.take m)).length ≤ (ents 0 ds).length := by
 have := congrArg List.length (ents_take ds m)
 rw [List.length_take] at this; omega
theorem log_exit {ds : List (List UInt8)} {n : Nat} {c : Int} (hn : n ≤ ds.length) (h0 : 0 ≤ c) (h1 : c ≤ ((ents 0 ds).length : Int)) (h : (decide ((n : Int) + 1 < ((endsI ds).length : Int)) && decide ((endsI ds).getD ((n : Int) + 1).toNat default ≤ c)) = false) : (n = ds.length ∧ c.toNat ≤ (ents 0 ds).length) ∨ (n < ds.length ∧ c.toNat < (ents 0 (ds.take (n + 1))).length) := by
 by_cases e : n = ds.length
 ·exact .inl ⟨e, by omega⟩
 ·right
  have hl := ends_len ds
  rw [decide_eq_true (by omega : (n : Int) + 1 < ((endsI ds).length : Int)), Bool.true_and, decide_eq_false_iff_not, show ((n : Int) + 1).toNat = n + 1 by omega, ends_get (by omega)] at h
  exact ⟨by omega, by omega⟩
theorem ends_snoc (ds : List (List UInt8)) (d : List UInt8) : endsI (ds ++ [d]) = endsI ds ++ [((ents 0 (ds ++ [d])).length : Int)] := by
 unfold endsI
 rw [List.length_append, List.length_singleton, List.range_succ, List.map_append]
 congr 1
 ·refine List.map_congr_left (fun m hm => ?_)
  have := List.mem_range.1 hm
  rw [List.take_append_of_le_length (by omega)]
 ·rw [List.map_singleton, List.take_of_length_le (by rw [List.length_append, List.length_singleton]; exact Nat.le_refl _)]

theorem ok_laws_FnLogs {x0 : List UInt8}  : PFn Try.prog 3 [.one (.dv [] (bytesD (x0)))] (.one (.dv [] (.bool (true)))) := by
 refine ⟨fn_intro Try.func3 rfl Try.ntmps3 Try.results3 rfl (fun C => ?_)⟩
 refine ok_fact (x := .tmp 0) (ev_tmp rfl) fun f0 => ?_
 iterate 6 refine z ?_
 refine zC Try.call4 ?_ (hf := ok_laws_big (code := x0) )
 refine z ?_
 refine yQ rfl (fun c1 => ?_) fun c1 => ?_
 ·skip
  have d1 := of_decide_eq_true c1
  iterate 6 refine z ?_
  rfl
 ·skip
  have d1 := of_decide_eq_false c1
  iterate 3 refine z ?_
  refine o_build0 (k := 9001) hT rfl rfl rfl rfl rfl rfl rfl rfl ?_
  iterate 3 refine z ?_
  refine o_build1 (k := 18) (js := []) hT rfl rfl rfl rfl rfl rfl rfl rfl rfl (ev_int (inR_lit rfl)) rfl rfl (ow_cons' (ow_dv rfl) ow_nil rfl) (by decide) (by decide) rfl rfl ?_
  simp only [killT, killB, SV.kill, CV.kill, kk, Nat.reduceBEq]
  iterate 7 refine z ?_
  refine ok_loop (ι := List (List UInt8)) (fun zz => ⟨[(0, .one (.dv [] (bytesD (x0)))), (3, .one (.key 9001)), (4, .one (.key 18)), (5, .one (.dv [] (.int .i64 ((zz.length : Int)))))], [], [(9001, some (kcOf false (.sl 5 1 ((ents 0 zz).length) ((ents 0 zz).flatMap eByte)))), (18, some (kcOf false (.sl 3 1 ((endsI zz).length) ((endsI zz).flatMap eInt))))]⟩) (fun zz => (zz.length : Int) ≤ 1 + atC x0 0 % 4 ∧ (∀ d ∈ zz, d.length ≤ 2) ∧ (ents 0 zz).length ≤ 14 * zz.length) (fun zz => 5 - zz.length) ([]) ?_ (weak_sub ⟨rfl, rfl, rfl, rfl, trivial⟩ trivial ⟨rfl, rfl, trivial⟩ rfl) (fun zz hx => ?_)
  ·exact ⟨by have := atC_rng x0 0 (by omega); simp; omega, fun d hd => (by cases hd), Nat.le_refl _⟩
  obtain ⟨ds, rfl⟩ : ∃ v, v = zz := ⟨_, rfl⟩
  replace hx : (ds.length : Int) ≤ 1 + atC x0 0 % 4 ∧ (∀ d ∈ ds, d.length ≤ 2) ∧ (ents 0 ds).length ≤ 14 * ds.length := hx
  obtain ⟨hdl, hds, hll⟩ := hx
  have ha0 := atC_rng x0 0 (by omega)
  have ha1 := atC_rng x0 ((ds.length : Int) + 1) (by omega)
  have ha2 := atC_rng x0 ((ds.length : Int) + 2) (by omega)
  have hed := entD_len x0 ds.length
  have hb2 : ([wb (atC x0 ((ds.length : Int) + 1)), wb (ds.length : Int)]).length = 2 := rfl
  show Ok _ _ _ _ _ (⟨[(0, .one (.dv [] (bytesD (x0)))), (3, .one (.key 9001)), (4, .one (.key 18)), (5, .one (.dv [] (.int .i64 ((ds.length : Int)))))], [], [(9001, some (kcOf false (.sl 5 1 ((ents 0 ds).length) ((ents 0 ds).flatMap eByte)))), (18, some (kcOf false (.sl 3 1 ((endsI ds).length) ((endsI ds).flatMap eInt))))]⟩ : St)
  iterate 4 refine z ?_
  refine zC Try.call5 ?_ (hf := ok_laws_at (l := x0) (i := 0) (by omega) (by omega) (by omega))
  refine yO rfl rfl (pu_remN rfl (ev_tmp rfl) (ev_int (inR_lit rfl)) (by omega) (by omega)) rfl ?_
  iterate 3 refine z ?_
  refine yQ rfl (fun c2 => ?_) fun c2 => ?_
  ·skip
   have d2 := of_decide_eq_true c2
   have hel := ends_len ds
   have hnx := log_next hll hed (by omega)
   iterate 10 refine z ?_
   refine zC Try.call5 ?_ (hf := ok_laws_at (l := x0) (i := ((ds.length : Int)) + (1)) (by omega) (by omega) (by omega))
   refine yO rfl rfl (pu_convI hT rfl rfl rfl (ev_tmp rfl)) rfl ?_
   refine z ?_
   refine yO rfl rfl (pu_convI hT rfl rfl rfl (ev_tmp rfl)) rfl ?_
   refine o_buildN (k := 37) (js := []) hT rfl rfl rfl rfl rfl rfl rfl rfl rfl rfl rfl (ep_cons (ev_tmp rfl) rfl rfl rfl (ep_cons (ev_tmp rfl) rfl rfl rfl ep_nil)) (ow_cons' (ow_dv rfl) (ow_cons' (ow_dv rfl) ow_nil rfl) rfl) (by decide) (by decide) rfl rfl ?_
   simp only [killT, killB, SV.kill, CV.kill, kk, Nat.reduceBEq]
   iterate 3 refine z ?_
   refine zC Try.call5 ?_ (hf := ok_laws_at (l := x0) (i := ((ds.length : Int)) + (2)) (by omega) (by omega) (by omega))
   refine yO rfl rfl (pu_remN rfl (ev_tmp rfl) (ev_int (inR_lit rfl)) (by omega) (by omega)) rfl ?_
   refine o_kcs (k := 37) (n' := ([wb (atC x0 ((ds.length : Int) + 1)), wb (ds.length : Int)]).length) (cs' := ([wb (atC x0 ((ds.length : Int) + 1)), wb (ds.length : Int)]).flatMap eByte) rfl rfl (wb_two _ _) ?_
   refine yO rfl rfl (pu_sliceH (xs := ([wb (atC x0 ((ds.length : Int) + 1)), wb (ds.length : Int)])) (K := [37]) (enc := eByte) (e := 5) hT rfl rfl rfl (ev_keyv' (ev_tmp rfl) rfl rfl) (ev_tmp rfl) (fun _ => rfl) (by omega) (by omega)) rfl ?_
   refine o_callK 9100 rfl rfl rfl Try.call6 (ok_impl_AppendLog (b := (ents 0 ds)) (ds := (entD x0 ds.length)) (v := (ds.length : Int)) (by omega) (by omega) (by omega) (by omega)) (as_cons (ev_tmp rfl) (ag_one (ac_key' rfl rfl)) (as_cons (ev_tmp rfl) (ag_one ac_dv) (as_cons (ev_tmp rfl) (ag_one ac_dv) as_nil))) rfl rfl rfl ?_
   iterate 11 refine z ?_
   refine yQ rfl (fun c3 => ?_) fun c3 => ?_
   ·skip
    iterate 11 refine z ?_
    exfalso; rw [hnx.1] at c3; cases c3
   ·skip
    iterate 6 refine z ?_
    refine ok_region ?_
    iterate 2 refine z ?_
    refine yO rfl rfl (pu_lenKn (n := ((alHead ((ents 0 ds)) ((ds.length : Int)) ((entD x0 ds.length)))).length) hT rfl rfl (ev_tmp rfl) rfl rfl) rfl ?_
    refine o_build1 (k := 53) (js := []) hT rfl rfl rfl rfl rfl rfl rfl rfl rfl (ev_tmp rfl) rfl rfl (ow_cons' (ow_dv rfl) ow_nil rfl) (by decide) (by decide) rfl rfl ?_
    simp only [killT, killB, SV.kill, CV.kill, kk, Nat.reduceBEq]
    refine o_appK (k := 18) (j := 53) (cs := (endsI (ds ++ [(entD x0 ds.length)])).flatMap eInt) (n := (endsI (ds ++ [(entD x0 ds.length)])).length) hT rfl rfl rfl rfl rfl rfl rfl (ev_tmp rfl) rfl rfl rfl (ev_tmp rfl) rfl rfl (by decide) (by dsimp only [kcOf]; omega) (by dsimp only [kcOf]; omega) (by rw [ends_snoc, List.length_append]; rfl) (by rw [ends_snoc, List.flatMap_append, ← hnx.2.1]; rfl) ?_
    simp only [killT, killB, SV.kill, CV.kill, kk, Nat.reduceBEq]
    refine z ?_
    refine ops_nil ?_
    iterate 2 refine z ?_
    refine ok_region ?_
    iterate 4 refine z ?_
    refine ⟨(ds ++ [(entD x0 ds.length)]), ?_, ?_, weak_then (weak_swap (s := 3) (k := 9100) (k' := 9001) rfl rfl rfl (by simp) rfl) (weak_sub ⟨rfl, rfl, rfl, (eqSlotJ (by rw [List.length_append]; rfl)), trivial⟩ trivial ⟨(congrArg (fun z : List UInt8 => some (some (kcOf false (bytesD z)))) hnx.2.1), rfl, trivial⟩ rfl)⟩
    ·refine ⟨by rw [List.length_append, List.length_singleton]; omega, fun d hd => ?_, hnx.2.2⟩
     rcases List.mem_append.1 hd with hd | hd
     ·exact hds d hd
     ·rw [List.mem_singleton] at hd; rw [hd]; exact hed
    ·rw [List.length_append, List.length_singleton]; omega
  ·skip
   have d2 := of_decide_eq_false c2
   have ha7 := atC_rng x0 7 (by omega)
   have hel := ends_len ds
   have hl0 : (0 : Int) < ((ents 0 ds).length : Int) + 1 := by omega
   have hc0 := Int.emod_nonneg (atC x0 7) (Int.ne_of_gt hl0)
   have hc1 := Int.emod_lt_of_pos (atC x0 7) hl0
   iterate 7 refine z ?_
   refine zC Try.call5 ?_ (hf := ok_laws_at (l := x0) (i := 7) (by omega) (by omega) (by omega))
   refine z ?_
   refine yO rfl rfl (pu_lenKn (n := ((ents 0 ds).length)) hT rfl rfl (ev_tmp rfl) rfl rfl) rfl ?_
   refine z ?_
   refine yO rfl rfl (pu_remN rfl (ev_tmp rfl) (ev_tmp rfl) (by omega) (by omega)) rfl ?_
   iterate 7 refine z ?_
   refine ok_loop (ι := Nat) (fun zz => ⟨[(3, .one (.key 9001)), (4, .one (.key 18)), (8, .one (.dv [] (.int .i64 ((atC (x0) (7)) % (((((ents 0 ds).length) : Int)) + (1)))))), (9, .one (.dv [] (.int .i64 ((zz : Int)))))], [], [(9001, some (kcOf false (.sl 5 1 ((ents 0 ds).length) ((ents 0 ds).flatMap eByte)))), (18, some (kcOf false (.sl 3 1 ((endsI ds).length) ((endsI ds).flatMap eInt))))]⟩) (fun zz => zz ≤ ds.length ∧ ((ents 0 (ds.take zz)).length : Int) ≤ (atC x0 7 % (((ents 0 ds).length : Int) + 1))) (fun zz => ds.length - zz) (0) ?_ (weak_sub ⟨rfl, rfl, rfl, rfl, trivial⟩ trivial ⟨rfl, rfl, trivial⟩ rfl) (fun zz hx => ?_)
   ·exact ⟨Nat.zero_le _, by show ((0 : Nat) : Int) ≤ _; omega⟩
   obtain ⟨n, rfl⟩ : ∃ v, v = zz := ⟨_, rfl⟩
   replace hx : n ≤ ds.length ∧ ((ents 0 (ds.take n)).length : Int) ≤ (atC x0 7 % (((ents 0 ds).length : Int) + 1)) := hx
   obtain ⟨hn, hnc⟩ := hx
   show Ok _ _ _ _ _ (⟨[(3, .one (.key 9001)), (4, .one (.key 18)), (8, .one (.dv [] (.int .i64 ((atC (x0) (7)) % (((((ents 0 ds).length) : Int)) + (1)))))), (9, .one (.dv [] (.int .i64 ((n : Int)))))], [], [(9001, some (kcOf false (.sl 5 1 ((ents 0 ds).length) ((ents 0 ds).flatMap eByte)))), (18, some (kcOf false (.sl 3 1 ((endsI ds).length) ((endsI ds).flatMap eInt))))]⟩ : St)
   iterate 5 refine z ?_
   refine yO rfl rfl (pu_lenKn (n := ((endsI ds).length)) hT rfl rfl (ev_tmp rfl) rfl rfl) rfl ?_
   iterate 2 refine z ?_
   refine o_pureG (gd_bool rfl rfl rfl rfl rfl) rfl (fun hg => pu_move (v := .one (.dv [18] (intsD (endsI ds)))) (.inl rfl) (ev_keyv' (ev_tmp rfl) rfl rfl)) rfl rfl ?_
   iterate 8 refine z ?_
   refine yQ rfl (fun c4 => ?_) fun c4 => ?_
   ·skip
    have hcc := c4
    rw [Bool.and_eq_true, decide_eq_true_eq, decide_eq_true_eq] at hcc
    have hn2 : n + 1 ≤ ds.length := by omega
    have hen := ends_get (ds := ds) hn2
    have hn3 : ((ents 0 (ds.take (n + 1))).length : Int) ≤ (atC x0 7 % (((ents 0 ds).length : Int) + 1)) := by rw [← hen]; exact hcc.2
    iterate 3 refine z ?_
    refine ok_region ?_
    iterate 3 refine z ?_
    refine ops_nil ?_
    iterate 2 refine z ?_
    refine ⟨n + 1, ?_, ?_, weak_sub ⟨rfl, rfl, rfl, rfl, trivial⟩ trivial ⟨rfl, rfl, trivial⟩ rfl⟩
    ·exact ⟨hn2, hn3⟩
    ·omega
   ·skip
    have hC := rl_anywhere ds n ((atC x0 7 % (((ents 0 ds).length : Int) + 1))).toNat (fun d hd => by have := hds d hd; omega) hn (by omega) (log_exit hn (by omega) (by omega) c4)
    rw [← List.append_nil ((ents 0 ds).take ((atC x0 7 % (((ents 0 ds).length : Int) + 1))).toNat)] at hC
    have hW := rl_whole ds (fun d hd => by have := hds d hd; omega)
    have hCl : (((ents 0 ds).take ((atC x0 7 % (((ents 0 ds).length : Int) + 1))).toNat ++ [])).length ≤ 2097152 := by rw [List.length_append, List.length_take]; simp; omega
    have hge := ends_get hn
    have f1 : ((bssD (rl ((ents 0 ds).take ((atC x0 7 % (((ents 0 ds).length : Int) + 1))).toNat ++ [])).1).len : Int) = (n : Int) := by
     show (((rl ((ents 0 ds).take ((atC x0 7 % (((ents 0 ds).length : Int) + 1))).toNat ++ [])).1.length : Nat) : Int) = _
     rw [hC, List.length_take]; omega
    have f2 : ((rl ((ents 0 ds).take ((atC x0 7 % (((ents 0 ds).length : Int) + 1))).toNat ++ [])).2 : Int) = (endsI ds).getD (n : Int).toNat default := by rw [hC, Int.toNat_natCast, hge]
    have f3 : ((bssD (rl (ents 0 ds)).1).len : Int) = ((endsI ds).length : Int) - 1 := by
     show (((rl (ents 0 ds)).1.length : Nat) : Int) = _
     rw [hW, hel]; dsimp only; omega
    have f5 : ((rl ((ents 0 ds).take ((atC x0 7 % (((ents 0 ds).length : Int) + 1))).toNat ++ [])).1.length : Int) = (n : Int) := by rw [hC, List.length_take]; omega
    have hgb : 0 ≤ (endsI ds).getD (n : Int).toNat default ∧ (endsI ds).getD (n : Int).toNat default ≤ ((ents 0 ds).length : Int) := by
     rw [Int.toNat_natCast, hge]
     have := ents_le (ds := ds) (m := n)
     omega
    have hs0 : (((ents 0 ds).take ((atC x0 7 % (((ents 0 ds).length : Int) + 1))).toNat ++ [])).take (rl ((ents 0 ds).take ((atC x0 7 % (((ents 0 ds).length : Int) + 1))).toNat ++ [])).2 = ents 0 (ds.take n) := by
     rw [hC, List.append_nil]
     dsimp only
     rw [List.take_take, Nat.min_eq_left (by omega), ents_take]
    have hs1 : (((ents 0 ds).take ((atC x0 7 % (((ents 0 ds).length : Int) + 1))).toNat ++ [])).take (rl ((ents 0 ds).take ((atC x0 7 % (((ents 0 ds).length : Int) + 1))).toNat ++ [])).2 = (ents 0 ds).take ((endsI ds).getD (n : Int).toNat default).toNat := by rw [hs0, Int.toNat_natCast, hge, Int.toNat_natCast, ents_take]
    have hs2 : ((((ents 0 ds).take ((atC x0 7 % (((ents 0 ds).length : Int) + 1))).toNat ++ [])).take (rl ((ents 0 ds).take ((atC x0 7 % (((ents 0 ds).length : Int) + 1))).toNat ++ [])).2).take (rl ((((ents 0 ds).take ((atC x0 7 % (((ents 0 ds).length : Int) + 1))).toNat ++ [])).take (rl ((ents 0 ds).take ((atC x0 7 % (((ents 0 ds).length : Int) + 1))).toNat ++ [])).2)).2 = (((ents 0 ds).take ((atC x0 7 % (((ents 0 ds).length : Int) + 1))).toNat ++ [])).take (rl ((ents 0 ds).take ((atC x0 7 % (((ents 0 ds).length : Int) + 1))).toNat ++ [])).2 := by
     rw [hs0, rl_whole (ds.take n) (fun d hd => by have := hds d (List.mem_of_mem_take hd); omega)]
     exact List.take_of_length_le (Nat.le_refl _)
    have hRl : ((((ents 0 ds).take ((atC x0 7 % (((ents 0 ds).length : Int) + 1))).toNat ++ [])).take (rl ((ents 0 ds).take ((atC x0 7 % (((ents 0 ds).length : Int) + 1))).toNat ++ [])).2).length ≤ 2097152 := by rw [List.length_take]; omega
    have f4 : ((rl (ents 0 ds)).2 : Int) = ((ents 0 ds).length : Int) := by rw [hW]
    iterate 8 refine z ?_
    refine o_build0 (k := 79) hT rfl rfl rfl rfl rfl rfl rfl rfl ?_
    refine o_callK 9200 rfl rfl rfl Try.call7 (ok_impl_CrashLog (b := (ents 0 ds)) (g := []) (k := (atC (x0) (7)) % (((((ents 0 ds).length) : Int)) + (1))) (by omega) (by omega) (by omega) (by simp)) (as_cons (ev_tmp rfl) (ag_one (ac_key' rfl rfl)) (as_cons (ev_tmp rfl) (ag_one ac_dv) (as_cons (ev_tmp rfl) (ag_one (ac_key' rfl rfl)) as_nil))) rfl rfl rfl ?_
    iterate 4 refine z ?_
    refine o_callK 9300 rfl rfl rfl Try.call8 (ok_impl_ReadLog (b := ((ents 0 ds)).take (((atC (x0) (7)) % (((((ents 0 ds).length) : Int)) + (1)))).toNat ++ ([])) (by omega)) (as_cons (ev_tmp rfl) (ag_one (ac_key' rfl rfl)) as_nil) rfl rfl rfl ?_
    iterate 8 refine z ?_
    refine o_callK 9400 rfl rfl rfl Try.call8 (ok_impl_ReadLog (b := (ents 0 ds)) (by omega)) (as_cons (ev_tmp rfl) (ag_one (ac_key' rfl rfl)) as_nil) rfl rfl rfl ?_
    iterate 6 refine z ?_
    refine ok_seq ?_
    refine ok_regionD (oB := []) (oK := [18, 79, 9001, 9200, 9300, 9400]) (by kernel_rfl) rfl rfl ?_
    refine zD 0 ?_
    refine d_take 1 rfl (by kernel_rfl) rfl rfl (pu_lenKn (n := (bssD ((rl (((ents 0 ds)).take (((atC (x0) (7)) % (((((ents 0 ds).length) : Int)) + (1)))).toNat ++ ([]))).1) : DV).len) hT rfl rfl (ev_tmp rfl) rfl rfl) rfl rfl rfl rfl ?_
    refine zD 2 ?_
    refine zD 3 ?_
    refine zD 4 ?_
    refine zDG 5 ?_
    refine d_takeG 6 rfl (by kernel_rfl) (gd_bool rfl rfl rfl rfl rfl) rfl (fun hg => pu_move (v := .one (.dv [18] (intsD (endsI ds)))) (.inl rfl) (ev_keyv' (ev_tmp rfl) rfl rfl)) rfl rfl rfl rfl ?_
    refine zDG 7 ?_
    refine zDG 8 ?_
    refine zDG 9 ?_
    refine zDG 10 ?_
    refine zD 11 ?_
    refine zD 12 ?_
    refine zDG 13 ?_
    refine d_takeG 14 rfl (by kernel_rfl) (gd_bool rfl rfl rfl rfl rfl) rfl (fun hg => pu_lenKn (n := (bssD ((rl ((ents 0 ds))).1) : DV).len) hT rfl rfl (ev_opt rfl hg) rfl rfl) rfl rfl rfl rfl ?_
    refine d_takeG 15 rfl (by kernel_rfl) (gd_bool rfl rfl rfl rfl rfl) rfl (fun hg => pu_move (v := .one (.dv [18] (intsD (endsI ds)))) (.inl rfl) (ev_keyv' (ev_tmp rfl) rfl rfl)) rfl rfl rfl rfl ?_
    refine zDG 16 ?_
    refine zDG 17 ?_
    refine zDG 18 ?_
    refine zD 19 ?_
    refine zD 20 ?_
    refine zDG 21 ?_
    refine d_takeG 22 rfl (by kernel_rfl) (gd_bool rfl rfl rfl rfl rfl) rfl (fun hg => pu_move (v := .one (.dv [9001] (bytesD (ents 0 ds)))) (.inl rfl) (ev_keyv' (ev_tmp rfl) rfl rfl)) rfl rfl rfl rfl ?_
    refine zDG 23 ?_
    refine zDG 24 ?_
    refine zD 25 ?_
    refine zD 26 ?_
    refine zDG 27 ?_
    refine d_takeG 29 rfl (by kernel_rfl) (gd_bool rfl rfl rfl rfl rfl) rfl (fun hg => pu_move (v := .one (.dv [9001] (bytesD (ents 0 ds)))) (.inl rfl) (ev_keyv' (ev_tmp rfl) rfl rfl)) rfl rfl rfl rfl ?_
    refine d_takeG 30 rfl (by kernel_rfl) (gd_bool rfl rfl rfl rfl rfl) rfl (fun hg => pu_move (v := .one (.dv [18] (intsD (endsI ds)))) (.inl rfl) (ev_keyv' (ev_tmp rfl) rfl rfl)) rfl rfl rfl rfl ?_
    refine zDG 31 ?_
    refine zDG 32 ?_
    refine zDG 33 ?_
    refine d_takeG 34 rfl (by kernel_rfl) (gd_bool rfl rfl rfl rfl rfl) rfl (fun hg => pu_sliceH hT rfl rfl rfl (ev_opt rfl hg) (ev_opt rfl hg) (fun _ => rfl) (by first | omega | (simp only [Bool.and_eq_true, Bool.or_eq_true, Bool.or_eq_false_iff, Bool.and_eq_false_iff, Bool.not_eq_true', Bool.not_eq_false', beq_iff_eq, decide_eq_true_eq, decide_eq_false_iff_not] at hg; omega) | (have hh := of_decide_eq_true (beq_tt hg); omega) | (have hh := of_decide_eq_true (beq_tt (and_r hg)); omega)) (by first | omega | (simp only [Bool.and_eq_true, Bool.or_eq_true, Bool.or_eq_false_iff, Bool.and_eq_false_iff, Bool.not_eq_true', Bool.not_eq_false', beq_iff_eq, decide_eq_true_eq, decide_eq_false_iff_not] at hg; omega) | (have hh := of_decide_eq_true (beq_tt hg); omega) | (have hh := of_decide_eq_true (beq_tt (and_r hg)); omega))) rfl rfl rfl rfl ?_
    refine d_callKT 9500 28 rfl (by kernel_rfl) (gd_bool rfl rfl rfl rfl rfl) (by rw [f1, f2, f3, f4]; simp) rfl rfl Try.call10 (ok_impl_RepairLog (b := ((ents 0 ds)).take (((atC (x0) (7)) % (((((ents 0 ds).length) : Int)) + (1)))).toNat ++ ([])) (by omega)) (as_cons (ev_opt rfl (by rw [f1, f2, f3, f4]; simp)) (ag_one (ac_key' rfl rfl)) as_nil) rfl rfl rfl rfl rfl ?_
    refine d_callG 35 rfl (by kernel_rfl) (gd_bool rfl rfl rfl rfl rfl) rfl rfl Try.call9 (ok_laws_sameBytes (x := (((ents 0 ds)).take (((atC (x0) (7)) % (((((ents 0 ds).length) : Int)) + (1)))).toNat ++ ([])).take (rl (((ents 0 ds)).take (((atC (x0) (7)) % (((((ents 0 ds).length) : Int)) + (1)))).toNat ++ ([]))).2) (y := ((ents 0 ds)).take ((((endsI ds)).getD ((n : Int)).toNat default)).toNat) (by assumption)) (fun hg => (as_cons (ev_tmp rfl) (ag_one (ac_key' rfl rfl)) (as_cons (ev_opt rfl hg) (ag_one ac_dv) as_nil))) rfl rfl ?_
    refine zD 36 ?_
    refine zD 37 ?_
    refine zDG 38 ?_
    refine zDG 40 ?_
    refine d_callG 39 rfl (by kernel_rfl) (gd_bool rfl rfl rfl rfl rfl) rfl rfl Try.call11 (ok_impl_CountLog (b := ((ents 0 ds)).take (((atC (x0) (7)) % (((((ents 0 ds).length) : Int)) + (1)))).toNat ++ ([])) (by omega)) (fun hg => (as_cons (ev_opt rfl hg) (ag_one (ac_key' rfl rfl)) as_nil)) rfl rfl ?_
    refine zDG 41 ?_
    refine zD 42 ?_
    refine zD 43 ?_
    refine zDG 44 ?_
    refine zDG 47 ?_
    refine d_callKT 9600 45 rfl (by kernel_rfl) (gd_bool rfl rfl rfl rfl rfl) (by rw [f1, f2, f3, f4, f5]; simp) rfl rfl Try.call10 (ok_impl_RepairLog (b := ((ents 0 ds)).take (((atC (x0) (7)) % (((((ents 0 ds).length) : Int)) + (1)))).toNat ++ ([])) (by omega)) (as_cons (ev_opt rfl (by rw [f1, f2, f3, f4, f5]; simp)) (ag_one (ac_key' rfl rfl)) as_nil) rfl rfl rfl rfl rfl ?_
    refine d_callKT 9700 46 rfl (by kernel_rfl) (gd_bool rfl rfl rfl rfl rfl) (by rw [f1, f2, f3, f4, f5]; simp) rfl rfl Try.call10 (ok_impl_RepairLog (b := (((ents 0 ds)).take (((atC (x0) (7)) % (((((ents 0 ds).length) : Int)) + (1)))).toNat ++ ([])).take (rl (((ents 0 ds)).take (((atC (x0) (7)) % (((((ents 0 ds).length) : Int)) + (1)))).toNat ++ ([]))).2) (by omega)) (as_cons (ev_tmp rfl) (ag_one (ac_key' rfl rfl)) as_nil) rfl rfl rfl rfl rfl ?_
    refine d_callKT 9800 48 rfl (by kernel_rfl) (gd_bool rfl rfl rfl rfl rfl) (by rw [f1, f2, f3, f4, f5]; simp) rfl rfl Try.call10 (ok_impl_RepairLog (b := ((ents 0 ds)).take (((atC (x0) (7)) % (((((ents 0 ds).length) : Int)) + (1)))).toNat ++ ([])) (by omega)) (as_cons (ev_opt rfl (by rw [f1, f2, f3, f4, f5]; simp)) (ag_one (ac_key' rfl rfl)) as_nil) rfl rfl rfl rfl rfl ?_
    refine d_callG 49 rfl (by kernel_rfl) (gd_bool rfl rfl rfl rfl rfl) rfl rfl Try.call9 (ok_laws_sameBytes (x := ((((ents 0 ds)).take (((atC (x0) (7)) % (((((ents 0 ds).length) : Int)) + (1)))).toNat ++ ([])).take (rl (((ents 0 ds)).take (((atC (x0) (7)) % (((((ents 0 ds).length) : Int)) + (1)))).toNat ++ ([]))).2).take (rl ((((ents 0 ds)).take (((atC (x0) (7)) % (((((ents 0 ds).length) : Int)) + (1)))).toNat ++ ([])).take (rl (((ents 0 ds)).take (((atC (x0) (7)) % (((((ents 0 ds).length) : Int)) + (1)))).toNat ++ ([]))).2)).2) (y := (((ents 0 ds)).take (((atC (x0) (7)) % (((((ents 0 ds).length) : Int)) + (1)))).toNat ++ ([])).take (rl (((ents 0 ds)).take (((atC (x0) (7)) % (((((ents 0 ds).length) : Int)) + (1)))).toNat ++ ([]))).2) (by assumption)) (fun hg => (as_cons (ev_tmp rfl) (ag_one (ac_key' rfl rfl)) (as_cons (ev_tmp rfl) (ag_one (ac_key' rfl rfl)) as_nil))) rfl rfl ?_
    refine zD 50 ?_
    refine zD 51 ?_
    refine d_done (by kernel_rfl) ?_
    iterate 3 refine z ?_
    rw [f1, f2, f3, f4, f5]; simp
end Go.Proofs.Ytiibjeoapmhjmaa

namespace Go.Proofs.Ytiibjeoapmhjmaa
open Go.RowKit Go.ChangeShapes Go.WideShapes Go.Deep

def LayW (W : World) : List DV → List Value → Prop := LayL (fun b => b < W.heap.size) W
structure OpensD (P : Program) (Q : List DV → Prop) (t : TypeId) : Prop where
 run : ∀ {H : Type} (enc : TypeId × Value → H) (W : World) (base : Nat) (spare : Nat → Bool) (held : Bool) (fuel : Nat) (cs : List Value) (y : DataW H × List MemPlace),
  DataW.trod enc P W base spare held fuel t cs = some y → ∃ ds, Q ds ∧ LayW W ds cs
def Is {α : Type} (enc : α → List DV) (ds : List DV) : Prop := ∃ x, ds = enc x
theorem opensD_byte {P : Program} {t : TypeId} (ht : P.underlying t = some (.int .u8)) : OpensD P (Is eByte) t := by
 refine ⟨fun {H} enc W base spare held fuel cs y h => ?_⟩
 obtain ⟨n, rfl, _, hw⟩ := DataW.trod_int ht h
 have hb : 0 ≤ n ∧ n ≤ 255 := by simpa [Lit.wf, IntKind.min, IntKind.max, IntKind.signed, IntKind.bits] using hw
 have e : ((UInt8.ofNat n.toNat).toNat : Int) = n := by
  rw [UInt8.toNat_ofNat']
  have : n.toNat % 2 ^ 8 = n.toNat := Nat.mod_eq_of_lt (by omega)
  rw [this]; omega
 refine ⟨_, ⟨UInt8.ofNat n.toNat, rfl⟩, ?_⟩
 simp only [LayW, LayL, Lay]
 rw [e]
 exact ⟨_, _, rfl, ⟨rfl, by simpa [InR, IntKind.min, IntKind.max, IntKind.signed, IntKind.bits] using hb⟩, rfl⟩
theorem points {α : Type} {enc : α → List DV} {W : World} {sz : Nat} {f : Nat → Option Value} (hs : ∀ x, (enc x).length = sz) : ∀ n : Nat,
  (∀ i, i < n → ∃ x ci, LayW W (enc x) ci ∧ ∀ j, j < sz → f (i * sz + j) = ci[j]?) → ∃ (xs : List α) (cells : List Value), xs.length = n ∧ LayW W (xs.flatMap enc) cells ∧ ∀ j u, cells[j]? = some u → f j = some u
 | 0, _ => ⟨[], [], rfl, by simp [LayW, LayL], by simp⟩
 | n + 1, h => by
  obtain ⟨xs, cells, h1, h2, h3⟩ := points hs n (fun i hi => h i (by omega))
  obtain ⟨x, ci, g1, g2⟩ := h n (by omega)
  have hl : cells.length = n * sz := by rw [layL_len _ _ h2, flat_len hs, h1]
  have hci : ci.length = sz := by rw [layL_len _ _ g1, hs]
  refine ⟨xs ++ [x], cells ++ ci, by simp [h1], by have := layL_append _ _ _ _ h2 g1; simp only [List.flatMap_append, List.flatMap_cons, List.flatMap_nil, List.append_nil]; exact this, fun j u hu => ?_⟩
  rcases Nat.lt_or_ge j cells.length with hj | hj
  ·rw [List.getElem?_append_left hj] at hu; exact h3 j u hu
  ·rw [List.getElem?_append_right hj] at hu
   have hjs : j - cells.length < sz := by rw [← hci]; exact (List.getElem?_eq_some_iff.1 hu).1
   have := g2 (j - cells.length) hjs
   rw [show n * sz + (j - cells.length) = j by omega] at this
   rw [this, hu]
theorem opensD_slice {α : Type} {P : Program} {enc : α → List DV} {t e : TypeId} {sz : Nat} (e' : Nat) (hs : ∀ x, (enc x).length = sz) (hsz : Nat.blt 0 sz = true) (ht : P.underlying t = some (.slice e)) (hc : P.cellsOf e = sz) (he : OpensD P (Is enc) e) : OpensD P (Is fun xs : List α => [listD e' sz enc xs]) t := by
 refine ⟨fun {H} ench W base spare held fuel cs y h => ?_⟩
 have hpos : 0 < sz := by simpa [Nat.blt_eq] using hsz
 rcases open_slice ht h with ⟨rfl, _⟩ | ⟨a, len, cap, m, n, D, Pl, rfl, _, hl, hm, hmm, _, hi⟩
 ·refine ⟨_, ⟨[], rfl⟩, ?_⟩
  simp only [LayW, LayL, Lay]
  exact ⟨_, _, rfl, ⟨none, 0, [], rfl, Nat.le_refl _, by simp [maxLen], hpos, by simp, by simp [LayL], fun h => by simp at h⟩, rfl⟩
 ·have hlm : len ≤ m := by rw [hmm]; split <;> omega
  obtain ⟨xs, cells, h1, h2, h3⟩ := points (W := W) (f := fun j => W.cell? (a.add j)) hs len (fun i hil => by
   obtain ⟨cs', hc1, hc2⟩ := hi i (by omega)
   obtain ⟨ds, ⟨x, rfl⟩, hx⟩ := he.run ench W base spare held n cs' _ hc2
   obtain ⟨_, hcl, hat⟩ := World.cells?_some hc1
   refine ⟨x, cs', hx, fun j hj => ?_⟩
   have := hat j (by rw [hc]; exact hj)
   rw [← Go.Deep.add_add, hc] at *
   exact this)
  refine ⟨_, ⟨xs, rfl⟩, ?_⟩
  simp only [LayW, LayL]
  refine ⟨_, _, rfl, ?_, rfl⟩
  simp only [Lay]
  refine ⟨some a, cap, cells, by rw [h1], by omega, hm, hpos, flat_len hs xs, h2, fun hp => ?_⟩
  have hcl : 0 < cells.length := by
   rw [layL_len _ _ h2, flat_len hs]
   exact Nat.mul_pos hp hpos
  have h0 := h3 0 _ (List.getElem?_eq_getElem hcl)
  have ha0 : a.add 0 = a := by simp [Addr.add]
  simp only [ha0] at h0
  have hsp : a.spot = none := by
   cases hs : a.spot with
   | none => rfl
   | some s =>
    unfold World.cell? at h0
    split at h0
    ·simp [hs] at h0
    ·cases h0
  obtain ⟨b, off, sp⟩ := a
  simp only at hsp
  subst hsp
  refine ⟨b, off, rfl, World.block_lt_of_cell? W _ h0, fun j u hu => ?_⟩
  have := h3 j u hu
  simp only [add_row] at this
  exact this
/-! ### structs -/
theorem OpensD.mono {P : Program} {Q R : List DV → Prop} {t : TypeId} (h : OpensD P Q t) (hq : ∀ ds, Q ds → R ds) : OpensD P R t := by
 refine ⟨fun {H} enc W base spare held fuel cs y h' => ?_⟩
 obtain ⟨ds, h1, h2⟩ := h.run enc W base spare held fuel cs y h'
 exact ⟨ds, hq ds h1, h2⟩
/-! ### a call from the outside -/
def TopL (w : World) : List SV → List Value → Prop
 | [], vs => vs = []
 | .one c :: us, vs => ∃ d v vs', c = .dv [] d ∧ vs = v :: vs' ∧ LayW w [d] [v] ∧ TopL w us vs'
 | .agg cs :: us, vs => ∃ ds xs vs', cs = ds.map (CV.dv []) ∧ vs = .agg xs.toArray :: vs' ∧ LayW w ds xs ∧ TopL w us vs'
 | _ :: _, _ => False
theorem lay_top {w : World} {L : Lyt} {d : DV} {v : Value} (h : LayW w [d] [v]) : CVr ⟨w, [], L.rv⟩ L w (.dv [] d) v := by
 simp only [LayW, LayL] at h
 obtain ⟨v', _, e, h1, rfl⟩ := h
 simp only [List.cons.injEq, and_true] at e
 subst e
 simp only [CVr]
 exact lay_conv (fun b hb _ => ⟨.inl ⟨hb, by simp⟩, rfl⟩) d _ h1
theorem lays_top {w : World} {L : Lyt} : ∀ {ds : List DV} {vs : List Value}, LayW w ds vs → CVL ⟨w, [], L.rv⟩ L w (ds.map (CV.dv [])) vs
 | [], _, h => by simp only [LayW, LayL] at h; subst h; rfl
 | d :: ds, _, h => by
  simp only [LayW, LayL] at h
  obtain ⟨v, vs', rfl, h1, h2⟩ := h
  exact ⟨v, vs', rfl, lay_top (by simp only [LayW, LayL]; exact ⟨v, [], rfl, h1, rfl⟩), lays_top h2⟩
theorem topL_sv {P : Program} {w : World} {L : Lyt} : ∀ {us : List SV} {vs : List Value}, TopL w us vs → vs.length = us.length ∧ (∀ u ∈ us, u.keys = [] ∧ u.boxes = []) ∧ ∀ (i : Nat) (v : SV), us[i]? = some v → ∃ x, vs[i]? = some x ∧ SVr P ⟨w, [], L.rv⟩ L w v x
 | [], _, h => by simp only [TopL] at h; subst h; simp
 | .one c :: us, _, h => by
  simp only [TopL] at h
  obtain ⟨d, v, vs', rfl, rfl, h1, h2⟩ := h
  obtain ⟨g1, g2, g3⟩ := topL_sv (P := P) (L := L) h2
  refine ⟨by simp [g1], fun u hu => ?_, fun i x hx => ?_⟩
  ·rcases List.mem_cons.1 hu with rfl | hu
   ·exact ⟨rfl, rfl⟩
   ·exact g2 u hu
  ·cases i with
   | zero => simp only [List.getElem?_cons_zero, Option.some.injEq] at hx; subst hx; exact ⟨v, rfl, by simp only [SVr]; exact lay_top h1⟩
   | succ i => simpa using g3 i x (by simpa using hx)
 | .agg cs :: us, _, h => by
  simp only [TopL] at h
  obtain ⟨ds, xs, vs', rfl, rfl, h1, h2⟩ := h
  obtain ⟨g1, g2, g3⟩ := topL_sv (P := P) (L := L) h2
  refine ⟨by simp [g1], fun u hu => ?_, fun i x hx => ?_⟩
  ·rcases List.mem_cons.1 hu with rfl | hu
   ·refine ⟨?_, rfl⟩
    simp only [SV.keys]
    rw [List.flatMap_eq_nil_iff]
    intro c hc
    obtain ⟨d, _, rfl⟩ := List.mem_map.1 hc
    rfl
   ·exact g2 u hu
  ·cases i with
   | zero => simp only [List.getElem?_cons_zero, Option.some.injEq] at hx; subst hx; exact ⟨_, rfl, by simp only [SVr]; exact ⟨xs, rfl, lays_top h1⟩⟩
   | succ i => simpa using g3 i x (by simpa using hx)
 | .tup _ :: _, _, h => by simp [TopL] at h
 | .box _ _ :: _, _, h => by simp [TopL] at h
 | .ref _ _ :: _, _, h => by simp [TopL] at h
 | .eptr _ _ :: _, _, h => by simp [TopL] at h
 | .ksl _ _ _ _ :: _, _, h => by simp [TopL] at h
 | .fn _ _ :: _, _, h => by simp [TopL] at h
 | .clo _ _ :: _, _, h => by simp [TopL] at h
 | .opt _ _ :: _, _, h => by simp [TopL] at h
 | .any :: _, _, h => by simp [TopL] at h
theorem pfn_run {P : Program} {f : FuncId} {us : List SV} {b : Bool} (hf : PFn P f us (.one (.dv [] (.bool b)))) {w : World} {vs : List Value} (h : TopL w us vs) :
  Calls P f vs.toArray w fun e w' => e = .returned (.bool b) ∧ Below w.heap.size w w' := by
 let L : Lyt := ⟨fun _ => 0, fun _ => [], fun _ => .bool false⟩
 obtain ⟨h1, h2, h3⟩ := topL_sv (P := P) (L := L) h
 obtain ⟨t1, t2⟩ := enum_tk us 0 h2
 have hr : Rel P ⟨w, [], L.rv⟩ us.length L ⟨enumS 0 us, [], []⟩ ⟨vs.toArray, []⟩ w := {
  df := rfl
  sz := by simp [h1]
  tm := fun i v hv => by
   obtain ⟨_, h4⟩ := enumS_look us 0 i v hv
   obtain ⟨x, h5, h6⟩ := h3 i v (by simpa using h4)
   have : vs.toArray.getD i undef = x := by simp [Array.getD_eq_getD_getElem?, h5]
   rw [this]; exact h6
  bx := fun i t cs h => by cases h
  ks := fun k c h => by cases h
  b1 := fun i x h => by cases h
  k1 := fun k c h => by cases h
  kn := fun k c h => by cases h
  bb := fun i j x y h => by cases h
  bk := fun i k x c h => by cases h
  kk := fun k j c d h => by cases h
  lk := fun k hk => by simp only [St.tk, t1, List.flatMap_nil, List.append_nil] at hk; cases hk
  lb := fun b hb => by simp only [St.tb, t2] at hb; cases hb
  s0 := fun b hb => by cases hb
  chg := Chg.refl _ _ }
 refine (hf.ok w [] L vs h1 hr).mono ?_
 rintro e w' ⟨r, res, σ', L', rfl, rfl, hr'⟩
 have hv := hr'.tm 0 _ rfl
 simp only [SVr, CVr, Lay] at hv
 refine ⟨?_, hr'.chg.below⟩
 have : (#[r] : Array Value).getD 0 undef = r := rfl
 rw [this] at hv
 rw [hv]
end Go.Proofs.Ytiibjeoapmhjmaa

namespace Go.Proofs.Ytiibjeoapmhjmaa
open Go.RowKit
open Go.Proofs
theorem opensBytes : OpensD Try.prog (Is fun xs => [listD 5 1 eByte xs]) 22 := opensD_slice (sz := 1) 5 (fun _ => rfl) rfl Try.underlying22 (by kernel_rfl) (opensD_byte Try.underlying5)
end Go.Proofs.Ytiibjeoapmhjmaa

