/-
  Contracts of the program's functions for the statements Transactions, by the rules of the logic. Conditions: none but those in the theorems.
-/
import Derived.Below
import Derived.Deep.Slices
import Derived.OpenShut
import Derived.ProofKit
import Derived.Test.YtjkpoekgnmgofaaGreatQTX2
set_option maxHeartbeats 4000000
set_option maxRecDepth 100000
namespace Go.Proofs.YtjkpoekgnmgofaaGreat
open Go.RowKit
open Go.Proofs
set_option linter.unusedVariables false
set_option linter.unusedSimpArgs false

theorem sEq_iff {a b : Str} : sEq a b = true ↔ a = b := by
 unfold sEq
 rw [beq_iff_eq]
 constructor
 ·intro h
  rw [toList_data, toList_data] at h
  exact ByteArray.ext (Array.toList_inj.1 h)
 ·intro h; rw [h]
theorem fnd_any (d : DbT) (n : Str) : decide (0 ≤ fndS d n) = d.2.2.1.any (hasName n) := findI_any _
theorem fnd_pos {d : DbT} {n : Str} (h : d.2.2.1.any (hasName n) = true) : 0 ≤ fndS d n := by rw [← fnd_any] at h; exact of_decide_eq_true h
theorem upA_ok {d : DbT} {u : UpgT} (h : (upA d u).2 = true) : isDb d = true ∧ (upI d u).2 = true ∧ isDb (upI d u).1 = true ∧ upA d u = ((upI d u).1, true) := by
 unfold upA at h ⊢
 split at h
 ·cases h
 ·rename_i h1
  rw [if_neg h1]
  simp only [Bool.or_eq_true, Bool.not_eq_true', not_or, Bool.not_eq_false] at h1
  exact ⟨h1.1.1, h1.1.2, h1.2, rfl⟩
theorem upA_f {d : DbT} {u : UpgT} (h : (upA d u).2 = false) : (upA d u).1 = d := by
 unfold upA at h ⊢
 split
 ·rfl
 ·rename_i h1; rw [if_neg h1] at h; cases h
theorem db_un {d : DbT} (h : isDb d = true) {x : DefT} (hx : x ∈ d.2.2.2) : 0 ≤ fndS d x.1 := by
 obtain ⟨i, hi, rfl⟩ := List.mem_iff_getElem.1 hx
 rw [isDb, Bool.and_eq_true, Bool.and_eq_true] at h
 have h1 := h.2.2
 rw [dbUn, List.all_eq_true] at h1
 have h2 := h1 i (List.mem_range.2 hi)
 unfold unBad at h2
 rw [Int.toNat_natCast, List.getD_eq_getElem?_getD, List.getElem?_eq_getElem hi] at h2
 simp only [Option.getD_some, Bool.not_eq_true', Bool.or_eq_false_iff, decide_eq_false_iff_not] at h2
 have := h2.1.1.1
 omega
theorem upA_db {d : DbT} {u : UpgT} (h : (upA d u).2 = true) : isDb (upA d u).1 = true := by
 obtain ⟨_, _, h2, h3⟩ := upA_ok h
 rw [h3]; exact h2
/-! ### upgrades -/
theorem srtN_names : ∀ {l : List StoreT}, srtN l → ∀ {s t : StoreT}, s ∈ l → t ∈ l → s.1 = t.1 → s = t
 | [], _, _, _, hs, _, _ => by cases hs
 | y :: ys, h, s, t, hs, ht, he => by
  rcases List.mem_cons.1 hs with e1 | hs' <;> rcases List.mem_cons.1 ht with e2 | ht'
  ·rw [e1, e2]
  ·have := (sLt_ne (h.1 t ht')).1
   rw [← e1, he, sEq_iff.2 rfl] at this; cases this
  ·have := (sLt_ne (h.1 s hs')).1
   rw [← e2, he, sEq_iff.2 rfl] at this; cases this
  ·exact srtN_names h.2 hs' ht' he
theorem fnd_mem {d : DbT} (h : isDb d = true) {s : StoreT} (hs : s ∈ d.2.2.1) : 0 ≤ fndS d s.1 ∧ fndS d s.1 < (d.2.2.1.length : Int) ∧ d.2.2.1.getD (fndS d s.1).toNat default = s := by
 have h0 : 0 ≤ fndS d s.1 := fnd_pos (List.any_eq_true.2 ⟨s, hs, by rw [hasName]; exact sEq_iff.2 rfl⟩)
 rcases findI_cases (p := hasName s.1) (d := default) d.2.2.1 0 (by omega) with ⟨h1, _⟩ | ⟨m, h1, h2, _, h4⟩
 ·unfold fndS at h0; omega
 ·have e : fndS d s.1 = (m : Int) := by unfold fndS; omega
  rw [e]
  refine ⟨by omega, by omega, ?_⟩
  rw [Int.toNat_natCast]
  have hm : d.2.2.1.getD m default ∈ d.2.2.1 := by
   rw [List.getD_eq_getElem?_getD, List.getElem?_eq_getElem h1]; exact List.getElem_mem h1
  exact srtN_names (db_srt h) hm hs (sEq_iff.1 h4)
end Go.Proofs.YtjkpoekgnmgofaaGreat

namespace Go.Proofs.YtjkpoekgnmgofaaGreat
open Go.RowKit
open Go.Proofs
set_option linter.unusedVariables false
set_option linter.unusedSimpArgs false

theorem rem_rng {a n : Int} (ha : 0 ≤ a) (hn : 0 < n) : 0 ≤ a % n ∧ a % n < n := ⟨Int.emod_nonneg a (by omega), Int.emod_lt_of_pos a hn⟩
theorem getD_memI {l : List Int} {x : Int} (h0 : 0 ≤ x) (h1 : x < (l.length : Int)) : l.getD x.toNat default ∈ l := by
 rw [List.getD_eq_getElem?_getD, List.getElem?_eq_getElem (by omega)]; exact List.getElem_mem _
theorem getD_memS {l : List Str} {x : Int} (h0 : 0 ≤ x) (h1 : x < (l.length : Int)) : l.getD x.toNat default ∈ l := by
 rw [List.getD_eq_getElem?_getD, List.getElem?_eq_getElem (by omega)]; exact List.getElem_mem _

theorem ok_spec_l1New {code : List UInt8} (hc : code.length ≤ 1048576) : NFn Tryz.prog 16 81 (bytesD (code)) (fun zz : Int × Int => 0 ≤ zz.1) (fun zz : Int × Int => [.dv [] (.int .i64 (zz.1)), .dv [] (.int .i64 (zz.2))]) := by
 refine ⟨fn_intro Tryz.func16 rfl Tryz.ntmps16 Tryz.results16 rfl (fun C => ?_)⟩
 refine z ?_
 refine yO rfl rfl (pu_move (.inr rfl) ev_any) rfl ?_
 iterate 3 refine z ?_
 refine yO rfl rfl (pu_lenV hT rfl rfl (ev_argv (ev_tmp rfl))) rfl ?_
 iterate 8 refine z ?_
 refine ok_loop (ι := Int × Int) (fun zz => ⟨[(0, .one (.arg 0 (bytesD (code)))), (2, .one .any), (3, .one (.dv [] (.int .i64 (zz.1)))), (4, .one (.dv [] (.int .i64 (zz.2))))], [], []⟩) (fun zz => 0 ≤ zz.2) (fun zz => (code.length - zz.2).toNat) ((193017 + (code.length : Int), 0)) ?_ (weak_sub ⟨rfl, rfl, rfl, rfl, trivial⟩ trivial trivial rfl) (fun zz hx => ?_)
 ·exact Int.le_refl _
 obtain ⟨h, i⟩ := zz
 replace hx : 0 ≤ i := hx
 show Ok _ _ _ _ _ (⟨[(0, .one (.arg 0 (bytesD (code)))), (2, .one .any), (3, .one (.dv [] (.int .i64 (h)))), (4, .one (.dv [] (.int .i64 (i))))], [], []⟩ : St)
 iterate 4 refine z ?_
 refine yO rfl rfl (pu_lenV hT rfl rfl (ev_argv (ev_tmp rfl))) rfl ?_
 iterate 6 refine z ?_
 refine yQ rfl (fun c1 => ?_) fun c1 => ?_
 ·skip
  simp only [Bool.and_eq_true, decide_eq_true_eq] at c1
  iterate 4 refine z ?_
  refine ok_region ?_
  refine z ?_
  refine yO rfl rfl (pu_mul rfl (ev_tmp rfl) (ev_int (inR_lit rfl))) rfl ?_
  iterate 2 refine z ?_
  refine yO rfl rfl (pu_indexD hT rfl rfl rfl (ev_argv (ev_tmp rfl)) (ev_tmp rfl) (fun _ => rfl) (by omega) (by omega)) rfl ?_
  refine z ?_
  refine yO rfl rfl (pu_convI hT rfl rfl rfl (ev_tmp rfl)) rfl ?_
  refine yO rfl rfl (pu_add rfl (ev_tmp rfl) (ev_tmp rfl)) rfl ?_
  refine yO rfl rfl (pu_add rfl (ev_tmp rfl) (ev_int (inR_lit rfl))) rfl ?_
  refine yO rfl rfl (pu_andZ rfl (ev_tmp rfl) (ev_int (inR_lit rfl))) rfl ?_
  refine z ?_
  refine ops_nil ?_
  generalize bits .and .i64 (IntKind.i64.wrap ((IntKind.i64.wrap ((IntKind.i64.wrap ((h) * (137))) + (IntKind.i64.wrap ((((((code)).getD (i).toNat default)).toNat : Int))))) + (11))) (1073741823) = z27
  iterate 2 refine z ?_
  refine ok_region ?_
  iterate 4 refine z ?_
  refine ⟨(z27, i + 1), ?_, ?_, weak_sub ⟨rfl, rfl, rfl, rfl, trivial⟩ trivial trivial rfl⟩
  ·show 0 ≤ i + 1; omega
  ·dsimp only; omega
 ·skip
  iterate 8 refine z ?_
  refine yO rfl rfl (pu_build hT hB rfl rfl rfl (bp_cons (ev_tmp rfl) rfl rfl rfl rfl rfl (bp_cons (ev_tmp rfl) rfl rfl rfl rfl rfl bp_nil))) rfl ?_
  iterate 4 refine z ?_
  refine fin1 (res_tmp rfl) ⟨(0, h), 31, ?_, rfl, rfl⟩
  exact Int.le_refl _
theorem ok_spec_l1Byte {code : List UInt8} {i h : Int} (hc : code.length ≤ 1048576) (hi : 0 ≤ i) : BFn Tryz.prog 67 [] 81 (bytesD (code)) [.dv [] (.int .i64 (i)), .dv [] (.int .i64 (h))] (fun zz : Int × Int × Int => 0 ≤ zz.1 ∧ zz.1 ≤ 255 ∧ 0 ≤ zz.2.1) (fun zz : Int × Int × Int => .one (.dv [] (.int .i64 (zz.1)))) (fun zz : Int × Int × Int => []) (fun zz : Int × Int × Int => [.dv [] (.int .i64 (zz.2.1)), .dv [] (.int .i64 (zz.2.2))]) := by
 refine ⟨fn_introS Tryz.func67 rfl Tryz.ntmps67 Tryz.results67 rfl (fun C => ?_)⟩
 iterate 4 refine z ?_
 refine yO rfl rfl (pu_move (.inl rfl) (ev_abox (ev_tmp rfl))) rfl ?_
 refine yO rfl rfl (pu_move (.inl rfl) (ev_abox (ev_tmp rfl))) rfl ?_
 refine yO rfl rfl (pu_nilB rfl (ev_tmp rfl)) rfl ?_
 iterate 2 refine z ?_
 refine yO rfl rfl (pu_mul rfl (ev_tmp rfl) (ev_int (inR_lit rfl))) rfl ?_
 refine yO rfl rfl (pu_add rfl (ev_tmp rfl) (ev_int (inR_lit rfl))) rfl ?_
 refine yO rfl rfl (pu_nilB rfl (ev_tmp rfl)) rfl ?_
 iterate 2 refine z ?_
 refine ops_nil ?_
 generalize IntKind.i64.wrap ((IntKind.i64.wrap ((h) * (6364136223846793005))) + (1442695040888963407)) = z10
 refine z ?_
 refine ok_seq ?_
 refine ok_regionD (oB := [0]) (oK := []) (by kernel_rfl) rfl rfl ?_
 refine d_take 0 rfl (by kernel_rfl) rfl rfl (pu_move (.inl rfl) (ev_abox (ev_tmp rfl))) rfl rfl rfl rfl ?_
 refine d_take 1 rfl (by kernel_rfl) rfl rfl (pu_nilB rfl (ev_tmp rfl)) rfl rfl rfl rfl ?_
 refine zD 2 ?_
 refine zD 3 ?_
 refine d_take 4 rfl (by kernel_rfl) rfl rfl (pu_shrZ rfl (ev_tmp rfl) (ev_int (inR_lit rfl)) (by omega) (by decide)) rfl rfl rfl rfl ?_
 refine d_take 5 rfl (by kernel_rfl) rfl rfl (pu_move (.inl rfl) (ev_abox (ev_tmp rfl))) rfl rfl rfl rfl ?_
 refine d_take 6 rfl (by kernel_rfl) rfl rfl (pu_nilB rfl (ev_tmp rfl)) rfl rfl rfl rfl ?_
 refine zD 7 ?_
 refine zD 8 ?_
 refine d_take 9 rfl (by kernel_rfl) rfl rfl (pu_shrZ rfl (ev_tmp rfl) (ev_int (inR_lit rfl)) (by omega) (by decide)) rfl rfl rfl rfl ?_
 refine d_take 10 rfl (by kernel_rfl) rfl rfl (pu_xorZ rfl (ev_tmp rfl) (ev_tmp rfl)) rfl rfl rfl rfl ?_
 refine d_take 11 rfl (by kernel_rfl) rfl rfl (pu_andZ rfl (ev_tmp rfl) (ev_int (inR_lit rfl))) rfl rfl rfl rfl ?_
 refine zD 12 ?_
 refine d_done (by kernel_rfl) ?_
 have q24 := and255_rng (bits .xor .i64 ((z10) / (2 ^ (33 : Int).toNat : Nat)) ((z10) / (2 ^ (47 : Int).toNat : Nat)))
 generalize bits .and .i64 (bits .xor .i64 ((z10) / (2 ^ (33 : Int).toNat : Nat)) ((z10) / (2 ^ (47 : Int).toNat : Nat))) (255) = z24 at *
 refine z ?_
 refine ok_seq ?_
 refine ok_seq ?_
 refine ok_regionD (oB := [0]) (oK := []) (by kernel_rfl) rfl rfl ?_
 refine d_take 0 rfl (by kernel_rfl) rfl rfl (pu_move (.inl rfl) (ev_abox (ev_tmp rfl))) rfl rfl rfl rfl ?_
 refine d_take 1 rfl (by kernel_rfl) rfl rfl (pu_nilB rfl (ev_tmp rfl)) rfl rfl rfl rfl ?_
 refine zD 2 ?_
 refine zD 3 ?_
 refine d_take 4 rfl (by kernel_rfl) rfl rfl (pu_move (.inl rfl) (ev_abox (ev_tmp rfl))) rfl rfl rfl rfl ?_
 refine d_take 5 rfl (by kernel_rfl) rfl rfl (pu_nilB rfl (ev_tmp rfl)) rfl rfl rfl rfl ?_
 refine zD 6 ?_
 refine zD 7 ?_
 refine d_take 8 rfl (by kernel_rfl) rfl rfl (pu_lenV hT rfl rfl (ev_argv (ev_tmp rfl))) rfl rfl rfl rfl ?_
 refine zD 9 ?_
 refine d_done (by kernel_rfl) ?_
 refine z ?_
 refine yQ rfl (fun c1 => ?_) fun c1 => ?_
 ·skip
  have d1 := of_decide_eq_true c1
  refine ok_seq ?_
  refine ok_regionD (oB := [0]) (oK := []) (by kernel_rfl) rfl rfl ?_
  refine zD 0 ?_
  refine d_take 1 rfl (by kernel_rfl) rfl rfl (pu_move (.inl rfl) (ev_abox (ev_tmp rfl))) rfl rfl rfl rfl ?_
  refine d_take 2 rfl (by kernel_rfl) rfl rfl (pu_nilB rfl (ev_tmp rfl)) rfl rfl rfl rfl ?_
  refine zD 3 ?_
  refine zD 4 ?_
  refine d_take 5 rfl (by kernel_rfl) rfl rfl (pu_move (.inl rfl) (ev_abox (ev_tmp rfl))) rfl rfl rfl rfl ?_
  refine d_take 6 rfl (by kernel_rfl) rfl rfl (pu_nilB rfl (ev_tmp rfl)) rfl rfl rfl rfl ?_
  refine zD 7 ?_
  refine zD 8 ?_
  refine d_take 9 rfl (by kernel_rfl) rfl rfl (pu_indexD hT rfl rfl rfl (ev_argv (ev_tmp rfl)) (ev_tmp rfl) (fun _ => rfl) (by omega) (by omega)) rfl rfl rfl rfl ?_
  refine zD 10 ?_
  refine d_take 11 rfl (by kernel_rfl) rfl rfl (pu_convI hT rfl rfl rfl (ev_tmp rfl)) rfl rfl rfl rfl ?_
  refine d_take 12 rfl (by kernel_rfl) rfl rfl (pu_add rfl (ev_tmp rfl) (ev_tmp rfl)) rfl rfl rfl rfl ?_
  refine d_take 13 rfl (by kernel_rfl) rfl rfl (pu_andZ rfl (ev_tmp rfl) (ev_int (inR_lit rfl))) rfl rfl rfl rfl ?_
  refine zD 14 ?_
  refine d_done (by kernel_rfl) ?_
  have q48 : 0 ≤ bits .and .i64 (IntKind.i64.wrap ((z24) + (IntKind.i64.wrap ((((((code)).getD (i).toNat default)).toNat : Int))))) (255) ∧ _ := and255_rng _
  generalize bits .and .i64 (IntKind.i64.wrap ((z24) + (IntKind.i64.wrap ((((((code)).getD (i).toNat default)).toNat : Int))))) (255) = z48 at *
  refine z ?_
  refine ok_region ?_
  refine yO rfl rfl (pu_move (.inl rfl) (ev_abox (ev_tmp rfl))) rfl ?_
  refine yO rfl rfl (pu_move (.inl rfl) (ev_abox (ev_tmp rfl))) rfl ?_
  refine yO rfl rfl (pu_nilB rfl (ev_tmp rfl)) rfl ?_
  iterate 3 refine z ?_
  refine yO rfl rfl (pu_nilB rfl (ev_tmp rfl)) rfl ?_
  iterate 7 refine z ?_
  refine ok_weak (σ' := ⟨[(2, .one (.dv [] (.int .i64 (z48)))), (0, .abox 0)], [(0, 81, [(.arg 900001 (bytesD (code))), (.dv [] (.int .i64 ((i) + (1)))), (.dv [] (.int .i64 (z10)))])], []⟩) (weak_sub ⟨rfl, rfl, trivial⟩ ⟨rfl, trivial⟩ trivial rfl) ?_
  refine z ?_
  refine fin1 (res_tmp rfl) ⟨((z48), (i) + (1), z10), ?_, rfl, rfl, rfl, rfl⟩
  try dsimp only
  omega
 ·skip
  have d1 := of_decide_eq_false c1
  iterate 6 refine z ?_
  refine ok_weak (σ' := ⟨[(2, .one (.dv [] (.int .i64 (z24)))), (0, .abox 0)], [(0, 81, [(.arg 900001 (bytesD (code))), (.dv [] (.int .i64 (i))), (.dv [] (.int .i64 (z10)))])], []⟩) (weak_sub ⟨rfl, rfl, trivial⟩ ⟨rfl, trivial⟩ trivial rfl) ?_
  refine z ?_
  refine fin1 (res_tmp rfl) ⟨((z24), i, z10), ?_, rfl, rfl, rfl, rfl⟩
  try dsimp only
  omega
theorem ok_spec_l1Below {code : List UInt8} {i h : Int} {n : Int} (hc : code.length ≤ 1048576) (hi : 0 ≤ i)  : BFn Tryz.prog 37 [.one (.dv [] (.int .i64 (n)))] 81 (bytesD (code)) [.dv [] (.int .i64 (i)), .dv [] (.int .i64 (h))] (fun zz : Int × Int × Int => 0 ≤ zz.1 ∧ (0 < n → zz.1 < n) ∧ 0 ≤ zz.2.1) (fun zz : Int × Int × Int => .one (.dv [] (.int .i64 (zz.1)))) (fun zz : Int × Int × Int => []) (fun zz : Int × Int × Int => [.dv [] (.int .i64 (zz.2.1)), .dv [] (.int .i64 (zz.2.2))]) := by
 refine ⟨fn_introS Tryz.func37 rfl Tryz.ntmps37 Tryz.results37 rfl (fun C => ?_)⟩
 refine ok_fact (x := .tmp 1) (ev_tmp rfl) fun f1 => ?_
 iterate 8 refine z ?_
 refine yQ rfl (fun c1 => ?_) fun c1 => ?_
 ·skip
  have d1 := of_decide_eq_true c1
  iterate 3 refine z ?_
  refine ok_weak (σ' := ⟨[(4, .one (.dv [] (.int .i64 (0)))), (0, .abox 0)], [(0, 81, [(.arg 900001 (bytesD (code))), (.dv [] (.int .i64 (i))), (.dv [] (.int .i64 (h)))])], []⟩) (weak_sub ⟨rfl, rfl, trivial⟩ ⟨rfl, trivial⟩ trivial rfl) ?_
  iterate 2 refine z ?_
  refine fin1 (res_tmp rfl) ⟨((0), i, h), ?_, rfl, rfl, rfl, rfl⟩
  try dsimp only
  exact ⟨by omega, by omega, hi⟩
 ·skip
  have d1 := of_decide_eq_false c1
  iterate 7 refine z ?_
  refine yQ rfl (fun c2 => ?_) fun c2 => ?_
  ·skip
   have d2 := of_decide_eq_true c2
   refine z ?_
   refine yO rfl rfl (pu_move (.inl rfl) (ev_abox (ev_tmp rfl))) rfl ?_
   refine o_callB 13000 rfl rfl rfl Tryz.call67 (ok_spec_l1Byte (code := code) (i := i) (h := h) (by omega) (by omega)) (ev_tmp rfl) rfl ac_arg rfl (fun _ => rfl) ad_nil rfl (fun _ => rfl) (fun _ => rfl) (fun zz hz13 => ?_)
   obtain ⟨e13, i13, h13⟩ := zz
   replace hz13 : 0 ≤ e13 ∧ e13 ≤ 255 ∧ 0 ≤ i13 := hz13
   refine z ?_
   refine yO rfl rfl (pu_remN rfl (ev_tmp rfl) (ev_tmp rfl) (by omega) (by omega)) rfl ?_
   iterate 2 refine z ?_
   refine ok_weak (σ' := ⟨[(4, .one (.dv [] (.int .i64 ((e13) % (n))))), (0, .abox 0)], [(0, 81, [(.arg 900001 (bytesD (code))), (.dv [] (.int .i64 (i13))), (.dv [] (.int .i64 (h13)))])], []⟩) (weak_sub ⟨rfl, rfl, trivial⟩ ⟨rfl, trivial⟩ trivial rfl) ?_
   iterate 2 refine z ?_
   refine fin1 (res_tmp rfl) ⟨(((e13) % (n)), i13, h13), ?_, rfl, rfl, rfl, rfl⟩
   try dsimp only
   have := rem_rng (a := e13) (n := n) (by omega) (by omega)
   exact ⟨this.1, fun _ => this.2, by omega⟩
  ·skip
   have d2 := of_decide_eq_false c2
   iterate 3 refine z ?_
   refine yO rfl rfl (pu_move (.inl rfl) (ev_abox (ev_tmp rfl))) rfl ?_
   refine o_callB 17000 rfl rfl rfl Tryz.call67 (ok_spec_l1Byte (code := code) (i := i) (h := h) (by omega) (by omega)) (ev_tmp rfl) rfl ac_arg rfl (fun _ => rfl) ad_nil rfl (fun _ => rfl) (fun _ => rfl) (fun zz hz17 => ?_)
   obtain ⟨e17, i17, h17⟩ := zz
   replace hz17 : 0 ≤ e17 ∧ e17 ≤ 255 ∧ 0 ≤ i17 := hz17
   iterate 3 refine z ?_
   refine yO rfl rfl (pu_move (.inl rfl) (ev_abox (ev_tmp rfl))) rfl ?_
   refine o_callB 19000 rfl rfl rfl Tryz.call67 (ok_spec_l1Byte (code := code) (i := i17) (h := h17) (by omega) (by omega)) (ev_tmp rfl) rfl ac_arg rfl (fun _ => rfl) ad_nil rfl (fun _ => rfl) (fun _ => rfl) (fun zz hz19 => ?_)
   obtain ⟨e19, i19, h19⟩ := zz
   replace hz19 : 0 ≤ e19 ∧ e19 ≤ 255 ∧ 0 ≤ i19 := hz19
   iterate 3 refine z ?_
   refine yO rfl rfl (pu_move (.inl rfl) (ev_abox (ev_tmp rfl))) rfl ?_
   refine o_callB 21000 rfl rfl rfl Tryz.call67 (ok_spec_l1Byte (code := code) (i := i19) (h := h19) (by omega) (by omega)) (ev_tmp rfl) rfl ac_arg rfl (fun _ => rfl) ad_nil rfl (fun _ => rfl) (fun _ => rfl) (fun zz hz21 => ?_)
   obtain ⟨e21, i21, h21⟩ := zz
   replace hz21 : 0 ≤ e21 ∧ e21 ≤ 255 ∧ 0 ≤ i21 := hz21
   iterate 4 refine z ?_
   refine yO rfl rfl (pu_mulR rfl (ev_tmp rfl) (ev_int (inR_lit rfl)) (inR64 (by omega) (by omega))) rfl ?_
   refine z ?_
   refine yO rfl rfl (pu_mulR rfl (ev_tmp rfl) (ev_int (inR_lit rfl)) (inR64 (by omega) (by omega))) rfl ?_
   iterate 4 refine z ?_
   refine yO rfl rfl (pu_remN rfl (ev_tmp rfl) (ev_tmp rfl) (by omega) (by omega)) rfl ?_
   iterate 2 refine z ?_
   refine ok_weak (σ' := ⟨[(4, .one (.dv [] (.int .i64 (((((e17) * (65536)) + ((e19) * (256))) + (e21)) % (n))))), (0, .abox 0)], [(0, 81, [(.arg 900001 (bytesD (code))), (.dv [] (.int .i64 (i21))), (.dv [] (.int .i64 (h21)))])], []⟩) (weak_sub ⟨rfl, rfl, trivial⟩ ⟨rfl, trivial⟩ trivial rfl) ?_
   refine z ?_
   refine fin1 (res_tmp rfl) ⟨((((((e17) * (65536)) + ((e19) * (256))) + (e21)) % (n)), i21, h21), ?_, rfl, rfl, rfl, rfl⟩
   try dsimp only
   have := rem_rng (a := e17 * 65536 + e19 * 256 + e21) (n := n) (by omega) (by omega)
   exact ⟨this.1, fun _ => this.2, by omega⟩
theorem ok_spec_l1Once {code : List UInt8} {i h : Int} {n : Int} (hc : code.length ≤ 1048576) (hi : 0 ≤ i)  : BFn Tryz.prog 64 [.one (.dv [] (.int .i64 (n)))] 81 (bytesD (code)) [.dv [] (.int .i64 (i)), .dv [] (.int .i64 (h))] (fun zz : Bool × Int × Int => 0 ≤ zz.2.1) (fun zz : Bool × Int × Int => .one (.dv [] (.bool (zz.1)))) (fun zz : Bool × Int × Int => []) (fun zz : Bool × Int × Int => [.dv [] (.int .i64 (zz.2.1)), .dv [] (.int .i64 (zz.2.2))]) := by
 refine ⟨fn_introS Tryz.func64 rfl Tryz.ntmps64 Tryz.results64 rfl (fun C => ?_)⟩
 refine ok_fact (x := .tmp 1) (ev_tmp rfl) fun f1 => ?_
 iterate 4 refine z ?_
 refine yO rfl rfl (pu_move (.inl rfl) (ev_abox (ev_tmp rfl))) rfl ?_
 refine z ?_
 refine o_callB 7000 rfl rfl rfl Tryz.call37 (ok_spec_l1Below (code := code) (i := i) (h := h) (n := n) (by omega) (by omega) ) (ev_tmp rfl) rfl ac_arg rfl (fun _ => rfl) (ad_cons (ev_tmp rfl) (ag_one ac_dv) rfl ad_nil) rfl (fun _ => rfl) (fun _ => rfl) (fun zz hz7 => ?_)
 obtain ⟨e7, i7, h7⟩ := zz
 replace hz7 : 0 ≤ e7 ∧ (0 < (n) → e7 < (n)) ∧ 0 ≤ i7 := hz7
 iterate 3 refine z ?_
 refine ok_weak (σ' := ⟨[(4, .one (.dv [] (.bool (decide ((e7) = (0)))))), (0, .abox 0)], [(0, 81, [(.arg 900001 (bytesD (code))), (.dv [] (.int .i64 (i7))), (.dv [] (.int .i64 (h7)))])], []⟩) (weak_sub ⟨rfl, rfl, trivial⟩ ⟨rfl, trivial⟩ trivial rfl) ?_
 refine z ?_
 refine fin1 (res_tmp rfl) ⟨((decide ((e7) = (0))), i7, h7), ?_, rfl, rfl, rfl, rfl⟩
 try dsimp only
 omega
theorem ok_spec_l1Int {code : List UInt8} {i h : Int} {l : List Int} (hc : code.length ≤ 1048576) (hi : 0 ≤ i) (hl : 0 < l.length) : BFn Tryz.prog 99 [.one (.dv [] (intsD (l)))] 81 (bytesD (code)) [.dv [] (.int .i64 (i)), .dv [] (.int .i64 (h))] (fun zz : Int × Int × Int => zz.1 ∈ l ∧ 0 ≤ zz.2.1) (fun zz : Int × Int × Int => .one (.dv [] (.int .i64 (zz.1)))) (fun zz : Int × Int × Int => []) (fun zz : Int × Int × Int => [.dv [] (.int .i64 (zz.2.1)), .dv [] (.int .i64 (zz.2.2))]) := by
 refine ⟨fn_introS Tryz.func99 rfl Tryz.ntmps99 Tryz.results99 rfl (fun C => ?_)⟩
 refine ok_fact (x := .tmp 1) (ev_tmp rfl) fun f1 => ?_
 iterate 5 refine z ?_
 refine yO rfl rfl (pu_move (.inl rfl) (ev_abox (ev_tmp rfl))) rfl ?_
 iterate 2 refine z ?_
 refine o_callB 9000 rfl rfl rfl Tryz.call37 (ok_spec_l1Below (code := code) (i := i) (h := h) (n := (((l)).length : Int)) (by omega) (by omega) ) (ev_tmp rfl) rfl ac_arg rfl (fun _ => rfl) (ad_cons (ev_tmp rfl) (ag_one ac_dv) rfl ad_nil) rfl (fun _ => rfl) (fun _ => rfl) (fun zz hz9 => ?_)
 obtain ⟨e9, i9, h9⟩ := zz
 replace hz9 : 0 ≤ e9 ∧ (0 < ((((l)).length : Int)) → e9 < ((((l)).length : Int))) ∧ 0 ≤ i9 := hz9
 have hl := hz9.2.1 (by omega)
 iterate 4 refine z ?_
 refine ok_weak (σ' := ⟨[(4, .one (.dv [] (.int .i64 ((((l)).getD (e9).toNat default))))), (0, .abox 0)], [(0, 81, [(.arg 900001 (bytesD (code))), (.dv [] (.int .i64 (i9))), (.dv [] (.int .i64 (h9)))])], []⟩) (weak_sub ⟨rfl, rfl, trivial⟩ ⟨rfl, trivial⟩ trivial rfl) ?_
 refine z ?_
 refine fin1 (res_tmp rfl) ⟨(((((l)).getD (e9).toNat default)), i9, h9), ?_, rfl, rfl, rfl, rfl⟩
 try dsimp only
 exact ⟨getD_memI (by omega) (by omega), by omega⟩
theorem ok_spec_l1Str {code : List UInt8} {i h : Int} {l : List Str} (hc : code.length ≤ 1048576) (hi : 0 ≤ i) (hl : 0 < l.length) : BFn Tryz.prog 105 [.one (.dv [] (strsD (l)))] 81 (bytesD (code)) [.dv [] (.int .i64 (i)), .dv [] (.int .i64 (h))] (fun zz : Str × Int × Int => zz.1 ∈ l ∧ 0 ≤ zz.2.1) (fun zz : Str × Int × Int => .one (.dv [] (.str (zz.1)))) (fun zz : Str × Int × Int => []) (fun zz : Str × Int × Int => [.dv [] (.int .i64 (zz.2.1)), .dv [] (.int .i64 (zz.2.2))]) := by
 refine ⟨fn_introS Tryz.func105 rfl Tryz.ntmps105 Tryz.results105 rfl (fun C => ?_)⟩
 refine ok_fact (x := .tmp 1) (ev_tmp rfl) fun f1 => ?_
 iterate 5 refine z ?_
 refine yO rfl rfl (pu_move (.inl rfl) (ev_abox (ev_tmp rfl))) rfl ?_
 iterate 2 refine z ?_
 refine o_callB 9000 rfl rfl rfl Tryz.call37 (ok_spec_l1Below (code := code) (i := i) (h := h) (n := (((l)).length : Int)) (by omega) (by omega) ) (ev_tmp rfl) rfl ac_arg rfl (fun _ => rfl) (ad_cons (ev_tmp rfl) (ag_one ac_dv) rfl ad_nil) rfl (fun _ => rfl) (fun _ => rfl) (fun zz hz9 => ?_)
 obtain ⟨e9, i9, h9⟩ := zz
 replace hz9 : 0 ≤ e9 ∧ (0 < ((((l)).length : Int)) → e9 < ((((l)).length : Int))) ∧ 0 ≤ i9 := hz9
 have hl := hz9.2.1 (by omega)
 iterate 4 refine z ?_
 refine ok_weak (σ' := ⟨[(4, .one (.dv [] (.str ((((l)).getD (e9).toNat default))))), (0, .abox 0)], [(0, 81, [(.arg 900001 (bytesD (code))), (.dv [] (.int .i64 (i9))), (.dv [] (.int .i64 (h9)))])], []⟩) (weak_sub ⟨rfl, rfl, trivial⟩ ⟨rfl, trivial⟩ trivial rfl) ?_
 refine z ?_
 refine fin1 (res_tmp rfl) ⟨(((((l)).getD (e9).toNat default)), i9, h9), ?_, rfl, rfl, rfl, rfl⟩
 try dsimp only
 exact ⟨getD_memS (by omega) (by omega), by omega⟩
end Go.Proofs.YtjkpoekgnmgofaaGreat

namespace Go.Proofs.YtjkpoekgnmgofaaGreat
open Go.RowKit
open Go.Proofs
set_option linter.unusedVariables false
set_option linter.unusedSimpArgs false

def smallK (k : KeyT) : Prop := k.2.1 ≤ 256 ∨ 1000000 < k.2.1
theorem kText_of {l : List Str} (h : l.all kText = true) {s : Str} (hs : s ∈ l) : kText s = true := List.all_eq_true.1 h s hs
theorem name_of {l : List Str} (h : l.all isName = true) {s : Str} (hs : s ∈ l) : isName s = true := List.all_eq_true.1 h s hs
theorem rng_of {l : List Int} (a b : Int) (h : l.all (fun x => decide (a ≤ x) && decide (x ≤ b)) = true) {x : Int} (hx : x ∈ l) : a ≤ x ∧ x ≤ b := by simpa using List.all_eq_true.1 h x hx
theorem key_num {n : Int} (h : -1000000000000 ≤ n ∧ n ≤ 1000000000000) : isKey (1, n, ByteArray.empty) = true := by
 have ht : kText ByteArray.empty = true := by decide +kernel
 have he : sEq ByteArray.empty ByteArray.empty = true := by decide +kernel
 have he2 : (ByteArray.mk #[] : ByteArray) = ByteArray.empty := rfl
 simp [isKey, ht, h.1, h.2, he, he2]
theorem key_txt {s : Str} (h : kText s = true) : isKey (2, 0, s) = true := by simp [isKey, h]
theorem key_pair {n : Int} {s : Str} (h : -1000000000000 ≤ n ∧ n ≤ 1000000000000) (hs : kText s = true) : isKey (3, n, s) = true := by simp [isKey, hs, h.1, h.2]
theorem key_size {k : KeyT} (h : isKey k = true) : k.2.2.size ≤ 12 := (key_rng h).2.2
theorem setF_rec {r : RecT} {n : Str} {v : Int} (h : isRec r = true) : isRec (setF r n v).1 = true := by
 unfold setF
 split
 ·exact h
 ·rename_i h1
  simp only [Bool.or_eq_true, Bool.not_eq_true', not_or, Bool.not_eq_false] at h1
  exact h1.2
theorem rec_wt {r : RecT} (h : isRec r = true) : wRecord r ≤ 54 := by
 have h10 := rec_len h
 have h11 : wSum wField r ≤ 8 * r.length := by
  have key : ∀ r : RecT, (∀ f ∈ r, f.1.size ≤ 8) → wSum wField r ≤ 8 * r.length := by
   intro r
   induction r with
   | nil => intro _; simp [wSum]
   | cons f r ih =>
    intro hf
    have k1 := ih (fun g hg => hf g (by simp [hg]))
    have k2 := hf f (by simp)
    have k3 : wField f = f.1.size := rfl
    simp only [wSum, List.map_cons, List.sum_cons, List.length_cons] at *
    omega
  refine key _ (fun f hf => ?_)
  obtain ⟨j, hj, rfl⟩ := List.mem_iff_getElem.1 hf
  have := (name_size (rec_fld h hj).1).2
  rwa [getD_at hj] at this
 have h13 : wRecord r = r.length + wSum wField r := rfl
 omega

theorem ok_spec_l4Number {code : List UInt8} {i h : Int} (hc : code.length ≤ 1048576) (hi : 0 ≤ i) : BFn Tryz.prog 137 [] 81 (bytesD (code)) [.dv [] (.int .i64 (i)), .dv [] (.int .i64 (h))] (fun zz : Int × Int × Int => (-1000000000000 ≤ zz.1 ∧ zz.1 ≤ 1000000000000) ∧ (zz.1 ≤ 256 ∨ 1000000 < zz.1) ∧ 0 ≤ zz.2.1) (fun zz : Int × Int × Int => .one (.dv [] (.int .i64 (zz.1)))) (fun zz : Int × Int × Int => []) (fun zz : Int × Int × Int => [.dv [] (.int .i64 (zz.2.1)), .dv [] (.int .i64 (zz.2.2))]) := by
 refine ⟨fn_introS Tryz.func137 rfl Tryz.ntmps137 Tryz.results137 rfl (fun C => ?_)⟩
 iterate 4 refine z ?_
 refine yO rfl rfl (pu_move (.inl rfl) (ev_abox (ev_tmp rfl))) rfl ?_
 refine yO rfl rfl (pu_move (.inl rfl) (ev_abox (ev_tmp rfl))) rfl ?_
 refine o_callB 5000 rfl rfl rfl Tryz.call37 (ok_spec_l1Below (code := code) (i := i) (h := h) (n := 9) (by omega) (by omega) ) (ev_tmp rfl) rfl ac_arg rfl (fun _ => rfl) (ad_cons (ev_int (inR_lit rfl)) (ag_one ac_dv) rfl ad_nil) rfl (fun _ => rfl) (fun _ => rfl) (fun zz hz5 => ?_)
 obtain ⟨e5, i5, h5⟩ := zz
 replace hz5 : 0 ≤ e5 ∧ (0 < (9 : Int) → e5 < (9 : Int)) ∧ 0 ≤ i5 := hz5
 refine o_buildN (k := 6) (js := []) hT rfl rfl rfl rfl rfl rfl rfl rfl rfl rfl rfl (ep_cons (ev_int (inR_lit rfl)) rfl rfl rfl (ep_cons (ev_int (inR_lit rfl)) rfl rfl rfl (ep_cons (ev_int (inR_lit rfl)) rfl rfl rfl (ep_cons (ev_int (inR_lit rfl)) rfl rfl rfl (ep_cons (ev_int (inR_lit rfl)) rfl rfl rfl (ep_cons (ev_int (inR_lit rfl)) rfl rfl rfl (ep_cons (ev_int (inR_lit rfl)) rfl rfl rfl (ep_cons (ev_int (inR_lit rfl)) rfl rfl rfl (ep_cons (ev_tmp rfl) rfl rfl rfl ep_nil))))))))) (ow_cons' (ow_dv rfl) (ow_cons' (ow_dv rfl) (ow_cons' (ow_dv rfl) (ow_cons' (ow_dv rfl) (ow_cons' (ow_dv rfl) (ow_cons' (ow_dv rfl) (ow_cons' (ow_dv rfl) (ow_cons' (ow_dv rfl) (ow_cons' (ow_dv rfl) ow_nil rfl) rfl) rfl) rfl) rfl) rfl) rfl) rfl) rfl) (by decide) (by decide) rfl rfl ?_
 simp only [killT, killB, SV.kill, CV.kill, kk, Nat.reduceBEq]
 refine o_callB 7000 rfl rfl rfl Tryz.call99 (ok_spec_l1Int (code := code) (i := i5) (h := h5) (l := [0, 1, 2, -1, 255, 256, -1000000000000, 1000000000000, e5]) (by omega) (by omega) (by exact Nat.succ_pos _)) (ev_tmp rfl) rfl ac_arg rfl (fun _ => rfl) (ad_cons (ev_tmp rfl) (ag_one (ac_key' rfl rfl)) rfl ad_nil) rfl (fun _ => rfl) (fun _ => rfl) (fun zz hz7 => ?_)
 obtain ⟨e7, i7, h7⟩ := zz
 replace hz7 : e7 ∈ ([0, 1, 2, -1, 255, 256, -1000000000000, 1000000000000, e5]) ∧ 0 ≤ i7 := hz7
 iterate 2 refine z ?_
 refine ok_weak (σ' := ⟨[(2, .one (.dv [] (.int .i64 (e7)))), (0, .abox 0)], [(0, 81, [(.arg 900001 (bytesD (code))), (.dv [] (.int .i64 (i7))), (.dv [] (.int .i64 (h7)))])], []⟩) (weak_sub ⟨rfl, rfl, trivial⟩ ⟨rfl, trivial⟩ trivial rfl) ?_
 refine z ?_
 refine fin1 (res_tmp rfl) ⟨((e7), i7, h7), ?_, rfl, rfl, rfl, rfl⟩
 try dsimp only
 refine ⟨?_, ?_, by omega⟩
 all_goals have h9 := hz5.2.1 (by omega)
 all_goals have h8 := hz7.1
 all_goals simp only [List.mem_cons, List.not_mem_nil, or_false] at h8
 all_goals omega
theorem ok_spec_l4Key {code : List UInt8} {i h : Int} (hc : code.length ≤ 1048576) (hi : 0 ≤ i) : BFn Tryz.prog 102 [] 81 (bytesD (code)) [.dv [] (.int .i64 (i)), .dv [] (.int .i64 (h))] (fun zz : KeyT × Int × Int => isKey zz.1 = true ∧ smallK zz.1 ∧ 0 ≤ zz.2.1) (fun zz : KeyT × Int × Int => .agg [(.dv [] (.int .i64 (zz.1.1))), (.dv [] (.int .i64 (zz.1.2.1))), (.dv [] (.str (zz.1.2.2)))]) (fun zz : KeyT × Int × Int => []) (fun zz : KeyT × Int × Int => [.dv [] (.int .i64 (zz.2.1)), .dv [] (.int .i64 (zz.2.2))]) := by
 refine ⟨fn_introS Tryz.func102 rfl Tryz.ntmps102 Tryz.results102 rfl (fun C => ?_)⟩
 iterate 4 refine z ?_
 refine yO rfl rfl (pu_move (.inl rfl) (ev_abox (ev_tmp rfl))) rfl ?_
 refine o_buildN (k := 5) (js := []) hT rfl rfl rfl rfl rfl rfl rfl rfl rfl rfl rfl (ep_cons (ev_str (str_lit rfl)) rfl rfl rfl (ep_cons (ev_str (str_lit rfl)) rfl rfl rfl (ep_cons (ev_str (str_lit rfl)) rfl rfl rfl (ep_cons (ev_str (str_lit rfl)) rfl rfl rfl (ep_cons (ev_str (str_lit rfl)) rfl rfl rfl (ep_cons (ev_str (str_lit rfl)) rfl rfl rfl ep_nil)))))) (ow_cons' (ow_dv rfl) (ow_cons' (ow_dv rfl) (ow_cons' (ow_dv rfl) (ow_cons' (ow_dv rfl) (ow_cons' (ow_dv rfl) (ow_cons' (ow_dv rfl) ow_nil rfl) rfl) rfl) rfl) rfl) rfl) (by decide) (by decide) rfl rfl ?_
 simp only [killT, killB, SV.kill, CV.kill, kk, Nat.reduceBEq]
 refine o_callB 6000 rfl rfl rfl Tryz.call105 (ok_spec_l1Str (code := code) (i := i) (h := h) (l := [ByteArray.mk #[], ByteArray.mk #[97], ByteArray.mk #[97, 98], ByteArray.mk #[98], ByteArray.mk #[122, 57], ByteArray.mk #[97, 98, 99, 100, 101, 102, 103, 104, 105, 106, 107, 108]]) (by omega) (by omega) (by exact Nat.succ_pos _)) (ev_tmp rfl) rfl ac_arg rfl (fun _ => rfl) (ad_cons (ev_tmp rfl) (ag_one (ac_key' rfl rfl)) rfl ad_nil) rfl (fun _ => rfl) (fun _ => rfl) (fun zz hz6 => ?_)
 obtain ⟨e6, i6, h6⟩ := zz
 replace hz6 : e6 ∈ ([ByteArray.mk #[], ByteArray.mk #[97], ByteArray.mk #[97, 98], ByteArray.mk #[98], ByteArray.mk #[122, 57], ByteArray.mk #[97, 98, 99, 100, 101, 102, 103, 104, 105, 106, 107, 108]]) ∧ 0 ≤ i6 := hz6
 iterate 4 refine z ?_
 refine yO rfl rfl (pu_move (.inl rfl) (ev_abox (ev_tmp rfl))) rfl ?_
 refine o_callB 8000 rfl rfl rfl Tryz.call37 (ok_spec_l1Below (code := code) (i := i6) (h := h6) (n := 3) (by omega) (by omega) ) (ev_tmp rfl) rfl ac_arg rfl (fun _ => rfl) (ad_cons (ev_int (inR_lit rfl)) (ag_one ac_dv) rfl ad_nil) rfl (fun _ => rfl) (fun _ => rfl) (fun zz hz8 => ?_)
 obtain ⟨e8, i8, h8⟩ := zz
 replace hz8 : 0 ≤ e8 ∧ (0 < (3 : Int) → e8 < (3 : Int)) ∧ 0 ≤ i8 := hz8
 iterate 6 refine z ?_
 refine yQ rfl (fun c1 => ?_) fun c1 => ?_
 ·skip
  have d1 := of_decide_eq_true c1
  iterate 2 refine z ?_
  refine yO rfl rfl (pu_build hT hB rfl rfl rfl (bp_cons (ev_int (inR_lit rfl)) rfl rfl rfl rfl rfl (bp_cons (ev_tmp rfl) rfl rfl rfl rfl rfl bp_nil))) rfl ?_
  iterate 2 refine z ?_
  refine ok_weak (σ' := ⟨[(2, .box 2 0), (0, .abox 0)], [(2, 63, [(.dv [] (.int .i64 (2))), (.dv [] (.int .i64 (0))), (.dv [] (.str (e6)))]), (0, 81, [(.arg 900001 (bytesD (code))), (.dv [] (.int .i64 (i8))), (.dv [] (.int .i64 (h8)))])], []⟩) (weak_sub ⟨rfl, rfl, trivial⟩ ⟨rfl, rfl, trivial⟩ trivial rfl) ?_
  iterate 3 refine z ?_
  refine fin1 (res_cell hT rfl rfl rfl rfl) ⟨(((2), ((0), (e6))), i8, h8), ?_, rfl, rfl, rfl, rfl⟩
  try dsimp only
  exact ⟨key_txt (kText_of (l := [ByteArray.mk #[], ByteArray.mk #[97], ByteArray.mk #[97, 98], ByteArray.mk #[98], ByteArray.mk #[122, 57], ByteArray.mk #[97, 98, 99, 100, 101, 102, 103, 104, 105, 106, 107, 108]]) (by decide +kernel) hz6.1), .inl (by dsimp only; omega), by omega⟩
 ·skip
  have d1 := of_decide_eq_false c1
  iterate 4 refine z ?_
  refine yQ rfl (fun c2 => ?_) fun c2 => ?_
  ·skip
   have d2 := of_decide_eq_true c2
   refine z ?_
   refine yO rfl rfl (pu_move (.inl rfl) (ev_abox (ev_tmp rfl))) rfl ?_
   refine o_callB 16000 rfl rfl rfl Tryz.call137 (ok_spec_l4Number (code := code) (i := i8) (h := h8) (by omega) (by omega)) (ev_tmp rfl) rfl ac_arg rfl (fun _ => rfl) ad_nil rfl (fun _ => rfl) (fun _ => rfl) (fun zz hz16 => ?_)
   obtain ⟨e16, i16, h16⟩ := zz
   replace hz16 : (-1000000000000 ≤ e16 ∧ e16 ≤ 1000000000000) ∧ (e16 ≤ 256 ∨ 1000000 < e16) ∧ 0 ≤ i16 := hz16
   refine z ?_
   refine yO rfl rfl (pu_build hT hB rfl rfl rfl (bp_cons (ev_int (inR_lit rfl)) rfl rfl rfl rfl rfl (bp_cons (ev_tmp rfl) rfl rfl rfl rfl rfl (bp_cons (ev_tmp rfl) rfl rfl rfl rfl rfl bp_nil)))) rfl ?_
   iterate 2 refine z ?_
   refine ok_weak (σ' := ⟨[(2, .box 2 0), (0, .abox 0)], [(2, 63, [(.dv [] (.int .i64 (3))), (.dv [] (.int .i64 (e16))), (.dv [] (.str (e6)))]), (0, 81, [(.arg 900001 (bytesD (code))), (.dv [] (.int .i64 (i16))), (.dv [] (.int .i64 (h16)))])], []⟩) (weak_sub ⟨rfl, rfl, trivial⟩ ⟨rfl, rfl, trivial⟩ trivial rfl) ?_
   iterate 3 refine z ?_
   refine fin1 (res_cell hT rfl rfl rfl rfl) ⟨(((3), ((e16), (e6))), i16, h16), ?_, rfl, rfl, rfl, rfl⟩
   try dsimp only
   exact ⟨key_pair hz16.1 (kText_of (l := [ByteArray.mk #[], ByteArray.mk #[97], ByteArray.mk #[97, 98], ByteArray.mk #[98], ByteArray.mk #[122, 57], ByteArray.mk #[97, 98, 99, 100, 101, 102, 103, 104, 105, 106, 107, 108]]) (by decide +kernel) hz6.1), hz16.2.1, by omega⟩
  ·skip
   have d2 := of_decide_eq_false c2
   iterate 4 refine z ?_
   refine yO rfl rfl (pu_move (.inl rfl) (ev_abox (ev_tmp rfl))) rfl ?_
   refine o_callB 20000 rfl rfl rfl Tryz.call137 (ok_spec_l4Number (code := code) (i := i8) (h := h8) (by omega) (by omega)) (ev_tmp rfl) rfl ac_arg rfl (fun _ => rfl) ad_nil rfl (fun _ => rfl) (fun _ => rfl) (fun zz hz20 => ?_)
   obtain ⟨e20, i20, h20⟩ := zz
   replace hz20 : (-1000000000000 ≤ e20 ∧ e20 ≤ 1000000000000) ∧ (e20 ≤ 256 ∨ 1000000 < e20) ∧ 0 ≤ i20 := hz20
   refine yO rfl rfl (pu_build hT hB rfl rfl rfl (bp_cons (ev_int (inR_lit rfl)) rfl rfl rfl rfl rfl (bp_cons (ev_tmp rfl) rfl rfl rfl rfl rfl bp_nil))) rfl ?_
   iterate 2 refine z ?_
   refine ok_weak (σ' := ⟨[(2, .box 2 0), (0, .abox 0)], [(2, 63, [(.dv [] (.int .i64 (1))), (.dv [] (.int .i64 (e20))), (.dv [] (.str (ByteArray.empty)))]), (0, 81, [(.arg 900001 (bytesD (code))), (.dv [] (.int .i64 (i20))), (.dv [] (.int .i64 (h20)))])], []⟩) (weak_sub ⟨rfl, rfl, trivial⟩ ⟨rfl, rfl, trivial⟩ trivial rfl) ?_
   refine z ?_
   refine fin1 (res_cell hT rfl rfl rfl rfl) ⟨(((1), ((e20), (ByteArray.empty))), i20, h20), ?_, rfl, rfl, rfl, rfl⟩
   try dsimp only
   exact ⟨key_num hz20.1, hz20.2.1, by omega⟩
theorem ok_spec_l4Small {code : List UInt8} {i h : Int} (hc : code.length ≤ 1048576) (hi : 0 ≤ i) : BFn Tryz.prog 100 [] 81 (bytesD (code)) [.dv [] (.int .i64 (i)), .dv [] (.int .i64 (h))] (fun zz : KeyT × Int × Int => isKey zz.1 = true ∧ smallK zz.1 ∧ 0 ≤ zz.2.1) (fun zz : KeyT × Int × Int => .agg [(.dv [] (.int .i64 (zz.1.1))), (.dv [] (.int .i64 (zz.1.2.1))), (.dv [] (.str (zz.1.2.2)))]) (fun zz : KeyT × Int × Int => []) (fun zz : KeyT × Int × Int => [.dv [] (.int .i64 (zz.2.1)), .dv [] (.int .i64 (zz.2.2))]) := by
 refine ⟨fn_introS Tryz.func100 rfl Tryz.ntmps100 Tryz.results100 rfl (fun C => ?_)⟩
 iterate 4 refine z ?_
 refine yO rfl rfl (pu_move (.inl rfl) (ev_abox (ev_tmp rfl))) rfl ?_
 refine o_callB 4000 rfl rfl rfl Tryz.call37 (ok_spec_l1Below (code := code) (i := i) (h := h) (n := 6) (by omega) (by omega) ) (ev_tmp rfl) rfl ac_arg rfl (fun _ => rfl) (ad_cons (ev_int (inR_lit rfl)) (ag_one ac_dv) rfl ad_nil) rfl (fun _ => rfl) (fun _ => rfl) (fun zz hz4 => ?_)
 obtain ⟨e4, i4, h4⟩ := zz
 replace hz4 : 0 ≤ e4 ∧ (0 < (6 : Int) → e4 < (6 : Int)) ∧ 0 ≤ i4 := hz4
 refine yO rfl rfl (pu_build hT hB rfl rfl rfl (bp_cons (ev_int (inR_lit rfl)) rfl rfl rfl rfl rfl (bp_cons (ev_tmp rfl) rfl rfl rfl rfl rfl bp_nil))) rfl ?_
 iterate 2 refine z ?_
 refine ok_weak (σ' := ⟨[(2, .box 2 0), (0, .abox 0)], [(2, 63, [(.dv [] (.int .i64 (1))), (.dv [] (.int .i64 (e4))), (.dv [] (.str (ByteArray.empty)))]), (0, 81, [(.arg 900001 (bytesD (code))), (.dv [] (.int .i64 (i4))), (.dv [] (.int .i64 (h4)))])], []⟩) (weak_sub ⟨rfl, rfl, trivial⟩ ⟨rfl, rfl, trivial⟩ trivial rfl) ?_
 refine z ?_
 refine fin1 (res_cell hT rfl rfl rfl rfl) ⟨(((1), ((e4), (ByteArray.empty))), i4, h4), ?_, rfl, rfl, rfl, rfl⟩
 try dsimp only
 have h9 := hz4.2.1 (by omega)
 exact ⟨key_num (by omega), .inl (by dsimp only; omega), by omega⟩
theorem ok_spec_l5Name {code : List UInt8} {i h : Int} (hc : code.length ≤ 1048576) (hi : 0 ≤ i) : BFn Tryz.prog 66 [] 81 (bytesD (code)) [.dv [] (.int .i64 (i)), .dv [] (.int .i64 (h))] (fun zz : Str × Int × Int => isName zz.1 = true ∧ 0 ≤ zz.2.1) (fun zz : Str × Int × Int => .one (.dv [] (.str (zz.1)))) (fun zz : Str × Int × Int => []) (fun zz : Str × Int × Int => [.dv [] (.int .i64 (zz.2.1)), .dv [] (.int .i64 (zz.2.2))]) := by
 refine ⟨fn_introS Tryz.func66 rfl Tryz.ntmps66 Tryz.results66 rfl (fun C => ?_)⟩
 iterate 4 refine z ?_
 refine yO rfl rfl (pu_move (.inl rfl) (ev_abox (ev_tmp rfl))) rfl ?_
 refine o_buildN (k := 4) (js := []) hT rfl rfl rfl rfl rfl rfl rfl rfl rfl rfl rfl (ep_cons (ev_str (str_lit rfl)) rfl rfl rfl (ep_cons (ev_str (str_lit rfl)) rfl rfl rfl (ep_cons (ev_str (str_lit rfl)) rfl rfl rfl (ep_cons (ev_str (str_lit rfl)) rfl rfl rfl (ep_cons (ev_str (str_lit rfl)) rfl rfl rfl ep_nil))))) (ow_cons' (ow_dv rfl) (ow_cons' (ow_dv rfl) (ow_cons' (ow_dv rfl) (ow_cons' (ow_dv rfl) (ow_cons' (ow_dv rfl) ow_nil rfl) rfl) rfl) rfl) rfl) (by decide) (by decide) rfl rfl ?_
 simp only [killT, killB, SV.kill, CV.kill, kk, Nat.reduceBEq]
 refine o_callB 5000 rfl rfl rfl Tryz.call105 (ok_spec_l1Str (code := code) (i := i) (h := h) (l := [ByteArray.mk #[97], ByteArray.mk #[98], ByteArray.mk #[99], ByteArray.mk #[100, 111, 110, 101], ByteArray.mk #[116, 105, 116, 108, 101]]) (by omega) (by omega) (by exact Nat.succ_pos _)) (ev_tmp rfl) rfl ac_arg rfl (fun _ => rfl) (ad_cons (ev_tmp rfl) (ag_one (ac_key' rfl rfl)) rfl ad_nil) rfl (fun _ => rfl) (fun _ => rfl) (fun zz hz5 => ?_)
 obtain ⟨e5, i5, h5⟩ := zz
 replace hz5 : e5 ∈ ([ByteArray.mk #[97], ByteArray.mk #[98], ByteArray.mk #[99], ByteArray.mk #[100, 111, 110, 101], ByteArray.mk #[116, 105, 116, 108, 101]]) ∧ 0 ≤ i5 := hz5
 iterate 2 refine z ?_
 refine ok_weak (σ' := ⟨[(2, .one (.dv [] (.str (e5)))), (0, .abox 0)], [(0, 81, [(.arg 900001 (bytesD (code))), (.dv [] (.int .i64 (i5))), (.dv [] (.int .i64 (h5)))])], []⟩) (weak_sub ⟨rfl, rfl, trivial⟩ ⟨rfl, trivial⟩ trivial rfl) ?_
 refine z ?_
 refine fin1 (res_tmp rfl) ⟨((e5), i5, h5), ?_, rfl, rfl, rfl, rfl⟩
 try dsimp only
 exact ⟨name_of (l := [ByteArray.mk #[97], ByteArray.mk #[98], ByteArray.mk #[99], ByteArray.mk #[100, 111, 110, 101], ByteArray.mk #[116, 105, 116, 108, 101]]) (by decide +kernel) hz5.1, by omega⟩
theorem ok_spec_l5Record {code : List UInt8} {i h : Int} (hc : code.length ≤ 1048576) (hi : 0 ≤ i) : BFn Tryz.prog 101 [] 81 (bytesD (code)) [.dv [] (.int .i64 (i)), .dv [] (.int .i64 (h))] (fun zz : RecT × Int × Int => isRec zz.1 = true ∧ 0 ≤ zz.2.1) (fun zz : RecT × Int × Int => .agg [(.key 9001)]) (fun zz : RecT × Int × Int => [(9001, some (kcOf false (fieldsD (zz.1))))]) (fun zz : RecT × Int × Int => [.dv [] (.int .i64 (zz.2.1)), .dv [] (.int .i64 (zz.2.2))]) := by
 refine ⟨fn_introS Tryz.func101 rfl Tryz.ntmps101 Tryz.results101 rfl (fun C => ?_)⟩
 iterate 4 refine z ?_
 refine yO rfl rfl (pu_build hT hB rfl rfl rfl bp_nil) rfl ?_
 iterate 3 refine z ?_
 refine ok_seq ?_
 refine ok_seq ?_
 refine ok_weak (weak_nilB 9001 (b := 3) (i := 0) (e := 137) (sz := 2) rfl rfl rfl rfl rfl) ?_
 simp only [killT, killB, SV.kill, CV.kill, kk, Nat.reduceBEq]
 refine ok_region ?_
 refine yO rfl rfl (pu_move (.inl rfl) (ev_abox (ev_tmp rfl))) rfl ?_
 refine o_callB 7000 rfl rfl rfl Tryz.call37 (ok_spec_l1Below (code := code) (i := i) (h := h) (n := 4) (by omega) (by omega) ) (ev_tmp rfl) rfl ac_arg rfl (fun _ => rfl) (ad_cons (ev_int (inR_lit rfl)) (ag_one ac_dv) rfl ad_nil) rfl (fun _ => rfl) (fun _ => rfl) (fun zz hz7 => ?_)
 obtain ⟨e7, i7, h7⟩ := zz
 replace hz7 : 0 ≤ e7 ∧ (0 < (4 : Int) → e7 < (4 : Int)) ∧ 0 ≤ i7 := hz7
 iterate 3 refine z ?_
 refine ok_loop (ι := Int × RecT × Int × Int) (fun zz => ⟨[(0, .abox 0), (2, .box 2 0), (3, .box 3 0), (4, .one (.dv [] (.int .i64 (zz.1))))], [(0, 81, [(.arg 900001 (bytesD (code))), (.dv [] (.int .i64 (zz.2.2.1))), (.dv [] (.int .i64 (zz.2.2.2)))]), (2, 66, [.nil]), (3, 66, [(.key 9001)])], [(9001, some (kcOf false (.sl 137 2 (zz.2.1.length) (zz.2.1.flatMap eField))))]⟩) (fun zz => isRec zz.2.1 = true ∧ 0 ≤ zz.2.2.1 ∧ zz.1 ≤ 9) (fun zz => zz.1.toNat) ((e7, [], i7, h7)) ?_ (weak_sub ⟨rfl, rfl, rfl, rfl, trivial⟩ ⟨rfl, rfl, rfl, trivial⟩ ⟨rfl, trivial⟩ rfl) (fun zz hx => ?_)
 ·exact ⟨rfl, by dsimp only; omega, by dsimp only; omega⟩
 obtain ⟨n, r, ci, ch⟩ := zz
 replace hx : isRec r = true ∧ 0 ≤ ci ∧ n ≤ 9 := hx
 obtain ⟨hr, hci, hn9⟩ := hx
 show Ok _ _ _ _ _ (⟨[(0, .abox 0), (2, .box 2 0), (3, .box 3 0), (4, .one (.dv [] (.int .i64 (n))))], [(0, 81, [(.arg 900001 (bytesD (code))), (.dv [] (.int .i64 (ci))), (.dv [] (.int .i64 (ch)))]), (2, 66, [.nil]), (3, 66, [(.key 9001)])], [(9001, some (kcOf false (.sl 137 2 (r.length) (r.flatMap eField))))]⟩ : St)
 iterate 5 refine z ?_
 refine yQ rfl (fun c1 => ?_) fun c1 => ?_
 ·skip
  have d1 := of_decide_eq_true c1
  iterate 4 refine z ?_
  refine ok_regionL [0] [0, 1, 2, 3, 4, 5, 6] (oB := [2, 3]) (oK := [9001]) (by kernel_rfl) rfl rfl ?_
  refine l_take 0 rfl (by kernel_rfl) rfl rfl (pu_loadBoxA hT rfl rfl (ev_tmp rfl) rfl rfl) rfl rfl rfl rfl rfl ?_
  refine l_take 1 rfl (by kernel_rfl) rfl rfl (pu_move (.inl rfl) (ev_abox (ev_tmp rfl))) rfl rfl rfl rfl rfl ?_
  refine l_take 3 rfl (by kernel_rfl) rfl rfl (pu_move (.inl rfl) (ev_abox (ev_tmp rfl))) rfl rfl rfl rfl rfl ?_
  refine l_split 2 [] (by kernel_rfl) ⟨?_, trivial⟩
  refine y_callB 15000 2 rfl rfl rfl rfl rfl Tryz.call66 (ok_spec_l5Name (code := code) (i := ci) (h := ch) (by omega) (by omega)) (ev_tmp rfl) rfl ac_arg rfl (fun _ => rfl) ad_nil rfl (fun _ => rfl) (fun _ => rfl) rfl (fun zz hz15 => ?_)
  obtain ⟨e15, i15, h15⟩ := zz
  replace hz15 : isName e15 = true ∧ 0 ≤ i15 := hz15
  refine l_split 4 [] (by kernel_rfl) ⟨?_, trivial⟩
  refine y_callB 17000 4 rfl rfl rfl rfl rfl Tryz.call37 (ok_spec_l1Below (code := code) (i := i15) (h := h15) (n := 5) (by omega) (by omega) ) (ev_tmp rfl) rfl ac_arg rfl (fun _ => rfl) (ad_cons (ev_int (inR_lit rfl)) (ag_one ac_dv) rfl ad_nil) rfl (fun _ => rfl) (fun _ => rfl) rfl (fun zz hz17 => ?_)
  obtain ⟨e17, i17, h17⟩ := zz
  replace hz17 : 0 ≤ e17 ∧ (0 < (5 : Int) → e17 < (5 : Int)) ∧ 0 ≤ i17 := hz17
  refine l_split 5 [] (by kernel_rfl) ⟨?_, trivial⟩
  refine y_callK 500 5 rfl rfl rfl rfl Tryz.call136 (ok_spec_SetField (r := r) (n := e15) (v := e17) (by have := rec_len hr; omega)) (as_cons (ev_tmp rfl) (ag_agg (ag_cons (ac_key' rfl rfl) ag_nil)) (as_cons (ev_tmp rfl) (ag_one ac_dv) (as_cons (ev_tmp rfl) (ag_one ac_dv) as_nil))) rfl rfl rfl rfl rfl rfl ?_
  refine l_take 6 rfl (by kernel_rfl) rfl rfl (pu_move (.inl rfl) (ev_tmp rfl)) rfl rfl rfl rfl rfl ?_
  refine l_takeX 7 rfl (by kernel_rfl) rfl rfl rfl (pu_extractA rfl (ev_tmp rfl) rfl) rfl rfl ?_
  refine l_takeX 8 rfl (by kernel_rfl) rfl rfl rfl (pu_extract1 rfl (ev_tmp rfl) rfl) rfl rfl ?_
  refine l_chain [9] rfl rfl (by kernel_rfl) ?_
  refine z ?_
  refine ops_nil ?_
  iterate 2 refine z ?_
  refine ok_region ?_
  iterate 4 refine z ?_
  refine ⟨(n - 1, (setF r e15 e17).1, i17, h17), ?_, ?_, weak_then (weak_swapB (b := 3) (i := 0) (k := 9501) (k' := 9001) rfl rfl rfl rfl (by simp) rfl rfl) (weak_sub ⟨rfl, rfl, rfl, rfl, trivial⟩ ⟨rfl, rfl, rfl, trivial⟩ ⟨rfl, trivial⟩ rfl)⟩
  ·exact ⟨setF_rec hr, by dsimp only; omega, by dsimp only; omega⟩
  ·dsimp only; omega
 ·skip
  have d1 := of_decide_eq_false c1
  iterate 9 refine z ?_
  refine ok_weak (σ' := ⟨[(2, .box 2 0), (0, .abox 0)], [(2, 66, [(.key 9001)]), (0, 81, [(.arg 900001 (bytesD (code))), (.dv [] (.int .i64 (ci))), (.dv [] (.int .i64 (ch)))])], [(9001, some (kcOf false (.sl 137 2 (r.length) (r.flatMap eField))))]⟩) (weak_sub ⟨rfl, rfl, trivial⟩ ⟨rfl, rfl, trivial⟩ ⟨rfl, trivial⟩ rfl) ?_
  refine z ?_
  refine fin1 (res_cell hT rfl rfl rfl rfl) ⟨((r), ci, ch), ?_, rfl, rfl, rfl, rfl⟩
  try dsimp only
  exact ⟨hr, by omega⟩
end Go.Proofs.YtjkpoekgnmgofaaGreat

namespace Go.Proofs.YtjkpoekgnmgofaaGreat
open Go.RowKit
open Go.Proofs
set_option linter.unusedVariables false
set_option linter.unusedSimpArgs false

def autoI (s : StoreT) : Prop := ∀ y ∈ s.2.1, y.1.1 = 1 → y.1.2.1 ≤ 1000000 → y.1.2.1 ≤ s.2.2
theorem mem_insI {l : List ItemT} {j : Nat} {y z : ItemT} (h : z ∈ insI l j y) : z = y ∨ z ∈ l := by
 unfold insI at h
 simp only [List.mem_append, List.mem_singleton] at h
 rcases h with (h | h) | h
 ·exact .inr (List.mem_of_mem_take h)
 ·exact .inl h
 ·exact .inr (List.mem_of_mem_drop h)
theorem autoI_put {s : StoreT} {k : KeyT} {r : RecT} (h : autoI s) : autoI (putN s k r).1 := by
 cases h2 : (putN s k r).2 with
 | false => rw [putN_f h2]; exact h
 | true =>
  obtain ⟨_, _, _, ⟨h3, e⟩ | ⟨h3, _, e⟩⟩ := put_cases h2
  ·rw [e]
   intro y hy h4 h5
   dsimp only at hy ⊢
   have hm : y.1 ∈ (setI s.2.1 (fndK s k).toNat r).map Prod.fst := List.mem_map_of_mem hy
   rw [setI_keys] at hm
   obtain ⟨z, hz, hzy⟩ := List.mem_map.1 hm
   have := h z hz (by rw [hzy]; exact h4) (by rw [hzy]; exact h5)
   rw [hzy] at this; exact this
  ·rw [e]
   intro y hy h4 h5
   dsimp only at hy ⊢
   have ha : s.2.2 ≤ autoP s k := by
    have := put_auto (x := s) (k := k) (r := r)
    rw [e] at this; exact this
   rcases mem_insI hy with rfl | hy
   ·unfold autoP
    dsimp only at h4 h5 ⊢
    split
    ·exact Int.le_refl _
    ·rename_i hh
     simp only [Bool.and_eq_true, decide_eq_true_eq] at hh
     omega
   ·have := h y hy h4 h5
    omega
theorem auto_small {s : StoreT} {k : KeyT} {r : RecT} (h : s.2.2 ≤ 256) (hk : smallK k) : (putN s k r).1.2.2 ≤ 256 := by
 cases h2 : (putN s k r).2 with
 | false => rw [putN_f h2]; exact h
 | true =>
  obtain ⟨_, _, _, ⟨h3, e⟩ | ⟨h3, _, e⟩⟩ := put_cases h2
  ·rw [e]; exact h
  ·rw [e]
   dsimp only
   unfold autoP
   split
   ·rename_i hh
    simp only [Bool.and_eq_true, decide_eq_true_eq] at hh
    unfold smallK at hk
    omega
   ·exact h
theorem sto_w2 {s : StoreT} (h : isSto s = true) : wStore s ≤ 1200 := by
 have h0 := h
 simp only [isSto, Bool.and_eq_true, List.all_eq_true, decide_eq_true_eq] at h
 obtain ⟨h1, ⟨h2, h3⟩, h4⟩ := h
 have h5 := name_size h2
 have h6 : ∀ x ∈ s.2.1, wItem x ≤ 70 := fun x hx => by
  obtain ⟨i, hi, rfl⟩ := List.mem_iff_getElem.1 hx
  have h7 := h1 i (List.mem_range.2 hi)
  unfold stoBad at h7
  rw [getD_at hi] at h7
  simp only [Bool.not_or, Bool.not_not, Bool.and_eq_true] at h7
  have h8 := (key_rng h7.1.1).2.2
  have h9 := rec_wt h7.1.2
  have h12 : wItem s.2.1[i] = s.2.1[i].1.2.2.size + wRecord s.2.1[i].2 := rfl
  omega
 have h7 : wSum wItem s.2.1 ≤ 70 * s.2.1.length := by
  have key : ∀ l : List ItemT, (∀ x ∈ l, wItem x ≤ 70) → wSum wItem l ≤ 70 * l.length := by
   intro l
   induction l with
   | nil => intro _; simp [wSum]
   | cons x l ih =>
    intro hx
    have k1 := ih (fun g hg => hx g (by simp [hg]))
    have k2 := hx x (by simp)
    simp only [wSum, List.map_cons, List.sum_cons, List.length_cons] at *
    omega
  exact key _ h6
 have h8 : wStore s = s.1.size + (s.2.1.length + wSum wItem s.2.1) := rfl
 omega
theorem ok_spec_l6Store {code : List UInt8} {i h : Int} {nm : Str} (hc : code.length ≤ 1048576) (hi : 0 ≤ i) (hn : isName nm = true) : BFn Tryz.prog 63 [.one (.dv [] (.str (nm)))] 81 (bytesD (code)) [.dv [] (.int .i64 (i)), .dv [] (.int .i64 (h))] (fun zz : StoreT × Int × Int => isSto zz.1 = true ∧ zz.1.1 = nm ∧ autoI zz.1 ∧ zz.1.2.2 ≤ 256 ∧ 0 ≤ zz.2.1) (fun zz : StoreT × Int × Int => .agg [(.dv [] (.str (zz.1.1))), (.key 9001), (.dv [] (.int .i64 (zz.1.2.2)))]) (fun zz : StoreT × Int × Int => [(9001, some (kcOf false (itemsD (zz.1.2.1))))]) (fun zz : StoreT × Int × Int => [.dv [] (.int .i64 (zz.2.1)), .dv [] (.int .i64 (zz.2.2))]) := by
 refine ⟨fn_introS Tryz.func63 rfl Tryz.ntmps63 Tryz.results63 rfl (fun C => ?_)⟩
 refine ok_fact (x := .tmp 1) (ev_tmp rfl) fun f1 => ?_
 iterate 5 refine z ?_
 refine yO rfl rfl (pu_build hT hB rfl rfl rfl (bp_cons (ev_tmp rfl) rfl rfl rfl rfl rfl bp_nil)) rfl ?_
 iterate 3 refine z ?_
 refine ok_seq ?_
 refine ok_seq ?_
 refine ok_weak (weak_nilB 9001 (b := 5) (i := 1) (e := 93) (sz := 4) rfl rfl rfl rfl rfl) ?_
 simp only [killT, killB, SV.kill, CV.kill, kk, Nat.reduceBEq]
 refine ok_region ?_
 refine yO rfl rfl (pu_move (.inl rfl) (ev_abox (ev_tmp rfl))) rfl ?_
 refine o_buildN (k := 10) (js := []) hT rfl rfl rfl rfl rfl rfl rfl rfl rfl rfl rfl (ep_cons (ev_int (inR_lit rfl)) rfl rfl rfl (ep_cons (ev_int (inR_lit rfl)) rfl rfl rfl (ep_cons (ev_int (inR_lit rfl)) rfl rfl rfl (ep_cons (ev_int (inR_lit rfl)) rfl rfl rfl ep_nil)))) (ow_cons' (ow_dv rfl) (ow_cons' (ow_dv rfl) (ow_cons' (ow_dv rfl) (ow_cons' (ow_dv rfl) ow_nil rfl) rfl) rfl) rfl) (by decide) (by decide) rfl rfl ?_
 simp only [killT, killB, SV.kill, CV.kill, kk, Nat.reduceBEq]
 refine o_callB 11000 rfl rfl rfl Tryz.call99 (ok_spec_l1Int (code := code) (i := i) (h := h) (l := [0, 2, 4, 6]) (by omega) (by omega) (by exact Nat.succ_pos _)) (ev_tmp rfl) rfl ac_arg rfl (fun _ => rfl) (ad_cons (ev_tmp rfl) (ag_one (ac_key' rfl rfl)) rfl ad_nil) rfl (fun _ => rfl) (fun _ => rfl) (fun zz hz11 => ?_)
 obtain ⟨e11, i11, h11⟩ := zz
 replace hz11 : e11 ∈ ([0, 2, 4, 6]) ∧ 0 ≤ i11 := hz11
 have hnr := rng_of 0 6 (by decide +kernel) hz11.1
 iterate 3 refine z ?_
 refine ok_loop (ι := Int × StoreT × Int × Int) (fun zz => ⟨[(0, .abox 0), (4, .box 4 0), (5, .box 5 0), (6, .one (.dv [] (.int .i64 (zz.1))))], [(0, 81, [(.arg 900001 (bytesD (code))), (.dv [] (.int .i64 (zz.2.2.1))), (.dv [] (.int .i64 (zz.2.2.2)))]), (4, 60, [(.dv [] (.str (ByteArray.empty))), .nil, (.dv [] (.int .i64 (0)))]), (5, 60, [(.dv [] (.str (zz.2.1.1))), (.key 9001), (.dv [] (.int .i64 (zz.2.1.2.2)))])], [(9001, some (kcOf false (.sl 93 4 (zz.2.1.2.1.length) (zz.2.1.2.1.flatMap eItem))))]⟩) (fun zz => isSto zz.2.1 = true ∧ zz.2.1.1 = nm ∧ autoI zz.2.1 ∧ zz.2.1.2.2 ≤ 256 ∧ 0 ≤ zz.2.2.1 ∧ zz.1 ≤ 6) (fun zz => zz.1.toNat) ((e11, (nm, [], 0), i11, h11)) ?_ (weak_sub ⟨rfl, rfl, rfl, rfl, trivial⟩ ⟨rfl, rfl, rfl, trivial⟩ ⟨rfl, trivial⟩ rfl) (fun zz hx => ?_)
 ·refine ⟨?_, rfl, fun y hy => (by cases hy), by dsimp only; omega, by dsimp only; omega, by dsimp only; omega⟩
  unfold isSto; simp [hn]
 obtain ⟨n, s, ci, ch⟩ := zz
 replace hx : isSto s = true ∧ s.1 = nm ∧ autoI s ∧ s.2.2 ≤ 256 ∧ 0 ≤ ci ∧ n ≤ 6 := hx
 obtain ⟨hs, hnm, ha, ha2, hci, hn6⟩ := hx
 show Ok _ _ _ _ _ (⟨[(0, .abox 0), (4, .box 4 0), (5, .box 5 0), (6, .one (.dv [] (.int .i64 (n))))], [(0, 81, [(.arg 900001 (bytesD (code))), (.dv [] (.int .i64 (ci))), (.dv [] (.int .i64 (ch)))]), (4, 60, [(.dv [] (.str (ByteArray.empty))), .nil, (.dv [] (.int .i64 (0)))]), (5, 60, [(.dv [] (.str (s.1))), (.key 9001), (.dv [] (.int .i64 (s.2.2)))])], [(9001, some (kcOf false (.sl 93 4 (s.2.1.length) (s.2.1.flatMap eItem))))]⟩ : St)
 iterate 5 refine z ?_
 refine yQ rfl (fun c1 => ?_) fun c1 => ?_
 ·skip
  have d1 := of_decide_eq_true c1
  iterate 4 refine z ?_
  refine ok_regionL [0] [0, 1, 2, 3, 4, 5, 6] (oB := [4, 5]) (oK := [9001]) (by kernel_rfl) rfl rfl ?_
  refine l_take 0 rfl (by kernel_rfl) rfl rfl (pu_loadBoxA hT rfl rfl (ev_tmp rfl) rfl rfl) rfl rfl rfl rfl rfl ?_
  refine l_take 1 rfl (by kernel_rfl) rfl rfl (pu_move (.inl rfl) (ev_abox (ev_tmp rfl))) rfl rfl rfl rfl rfl ?_
  refine l_take 3 rfl (by kernel_rfl) rfl rfl (pu_move (.inl rfl) (ev_abox (ev_tmp rfl))) rfl rfl rfl rfl rfl ?_
  refine l_split 2 [] (by kernel_rfl) ⟨?_, trivial⟩
  refine y_callB 19000 2 rfl rfl rfl rfl rfl Tryz.call100 (ok_spec_l4Small (code := code) (i := ci) (h := ch) (by omega) (by omega)) (ev_tmp rfl) rfl ac_arg rfl (fun _ => rfl) ad_nil rfl (fun _ => rfl) (fun _ => rfl) rfl (fun zz hz19 => ?_)
  obtain ⟨e19, i19, h19⟩ := zz
  replace hz19 : isKey e19 = true ∧ smallK e19 ∧ 0 ≤ i19 := hz19
  refine l_split 4 [] (by kernel_rfl) ⟨?_, trivial⟩
  refine y_callB 21000 4 rfl rfl rfl rfl rfl Tryz.call101 (ok_spec_l5Record (code := code) (i := i19) (h := h19) (by omega) (by omega)) (ev_tmp rfl) rfl ac_arg rfl (fun _ => rfl) ad_nil rfl (fun _ => rfl) (fun _ => rfl) rfl (fun zz hz21 => ?_)
  obtain ⟨e21, i21, h21⟩ := zz
  replace hz21 : isRec e21 = true ∧ 0 ≤ i21 := hz21
  have hrl := rec_len hz21.1
  refine l_split 5 [] (by kernel_rfl) ⟨?_, trivial⟩
  refine y_callK 500 5 rfl rfl rfl rfl Tryz.call94 (ok_spec_PutItem (x := s) (k := e19) (r := e21) (by have := sto_w2 hs; omega) (by omega)) (as_cons (ev_tmp rfl) (ag_agg (ag_cons ac_dv (ag_cons (ac_key' rfl rfl) (ag_cons ac_dv ag_nil)))) (as_cons (ev_tmp rfl) (ag_agg (ag_cons ac_dv (ag_cons ac_dv (ag_cons ac_dv ag_nil)))) (as_cons (ev_tmp rfl) (ag_agg (ag_cons (ac_key' rfl rfl) ag_nil)) as_nil))) rfl rfl rfl rfl rfl rfl ?_
  refine l_take 6 rfl (by kernel_rfl) rfl rfl (pu_move (.inl rfl) (ev_tmp rfl)) rfl rfl rfl rfl rfl ?_
  refine l_takeX 7 rfl (by kernel_rfl) rfl rfl rfl (pu_extractA rfl (ev_tmp rfl) rfl) rfl rfl ?_
  refine l_takeX 8 rfl (by kernel_rfl) rfl rfl rfl (pu_extract1 rfl (ev_tmp rfl) rfl) rfl rfl ?_
  refine l_chain [9] rfl rfl (by kernel_rfl) ?_
  refine z ?_
  refine ops_nil ?_
  iterate 2 refine z ?_
  refine ok_region ?_
  iterate 4 refine z ?_
  refine ⟨(n - 1, (putN s e19 e21).1, i21, h21), ?_, ?_, weak_then (weak_swapB (b := 5) (i := 1) (k := 9501) (k' := 9001) rfl rfl rfl rfl (by simp) rfl rfl) (weak_sub ⟨rfl, rfl, rfl, rfl, trivial⟩ ⟨rfl, rfl, rfl, trivial⟩ ⟨rfl, trivial⟩ rfl)⟩
  ·exact ⟨putN_sto hs, (putN_name _ _ _).trans hnm, autoI_put ha, auto_small ha2 hz19.2.1, by dsimp only; omega, by dsimp only; omega⟩
  ·dsimp only; omega
 ·skip
  have d1 := of_decide_eq_false c1
  iterate 7 refine z ?_
  refine yO rfl rfl (pu_move (.inl rfl) (ev_abox (ev_tmp rfl))) rfl ?_
  refine o_callB 26000 rfl rfl rfl Tryz.call64 (ok_spec_l1Once (code := code) (i := ci) (h := ch) (n := 8) (by omega) (by omega) ) (ev_tmp rfl) rfl ac_arg rfl (fun _ => rfl) (ad_cons (ev_int (inR_lit rfl)) (ag_one ac_dv) rfl ad_nil) rfl (fun _ => rfl) (fun _ => rfl) (fun zz hz26 => ?_)
  obtain ⟨e26, i26, h26⟩ := zz
  replace hz26 : 0 ≤ i26 := hz26
  refine z ?_
  refine yQ rfl (fun c2 => ?_) fun c2 => ?_
  ·skip
   refine ok_regionL [0] [0, 1, 2, 3, 4, 5, 6] (oB := [4, 5]) (oK := [9001]) (by kernel_rfl) rfl rfl ?_
   refine l_take 0 rfl (by kernel_rfl) rfl rfl (pu_loadBoxA hT rfl rfl (ev_tmp rfl) rfl rfl) rfl rfl rfl rfl rfl ?_
   refine l_take 1 rfl (by kernel_rfl) rfl rfl (pu_move (.inl rfl) (ev_abox (ev_tmp rfl))) rfl rfl rfl rfl rfl ?_
   refine l_take 3 rfl (by kernel_rfl) rfl rfl (pu_move (.inl rfl) (ev_abox (ev_tmp rfl))) rfl rfl rfl rfl rfl ?_
   refine l_split 2 [] (by kernel_rfl) ⟨?_, trivial⟩
   refine y_callB 30000 2 rfl rfl rfl rfl rfl Tryz.call102 (ok_spec_l4Key (code := code) (i := i26) (h := h26) (by omega) (by omega)) (ev_tmp rfl) rfl ac_arg rfl (fun _ => rfl) ad_nil rfl (fun _ => rfl) (fun _ => rfl) rfl (fun zz hz30 => ?_)
   obtain ⟨e30, i30, h30⟩ := zz
   replace hz30 : isKey e30 = true ∧ smallK e30 ∧ 0 ≤ i30 := hz30
   refine l_split 4 [] (by kernel_rfl) ⟨?_, trivial⟩
   refine y_callB 32000 4 rfl rfl rfl rfl rfl Tryz.call101 (ok_spec_l5Record (code := code) (i := i30) (h := h30) (by omega) (by omega)) (ev_tmp rfl) rfl ac_arg rfl (fun _ => rfl) ad_nil rfl (fun _ => rfl) (fun _ => rfl) rfl (fun zz hz32 => ?_)
   obtain ⟨e32, i32, h32⟩ := zz
   replace hz32 : isRec e32 = true ∧ 0 ≤ i32 := hz32
   have hrl := rec_len hz32.1
   refine l_split 5 [] (by kernel_rfl) ⟨?_, trivial⟩
   refine y_callK 600 5 rfl rfl rfl rfl Tryz.call94 (ok_spec_PutItem (x := s) (k := e30) (r := e32) (by have := sto_w2 hs; omega) (by omega)) (as_cons (ev_tmp rfl) (ag_agg (ag_cons ac_dv (ag_cons (ac_key' rfl rfl) (ag_cons ac_dv ag_nil)))) (as_cons (ev_tmp rfl) (ag_agg (ag_cons ac_dv (ag_cons ac_dv (ag_cons ac_dv ag_nil)))) (as_cons (ev_tmp rfl) (ag_agg (ag_cons (ac_key' rfl rfl) ag_nil)) as_nil))) rfl rfl rfl rfl rfl rfl ?_
   refine l_take 6 rfl (by kernel_rfl) rfl rfl (pu_move (.inl rfl) (ev_tmp rfl)) rfl rfl rfl rfl rfl ?_
   refine l_takeX 7 rfl (by kernel_rfl) rfl rfl rfl (pu_extractA rfl (ev_tmp rfl) rfl) rfl rfl ?_
   refine l_takeX 8 rfl (by kernel_rfl) rfl rfl rfl (pu_extract1 rfl (ev_tmp rfl) rfl) rfl rfl ?_
   refine l_chain [9] rfl rfl (by kernel_rfl) ?_
   iterate 6 refine z ?_
   refine ok_weak (weak_swapB (b := 4) (i := 1) (k := 9601) (k' := 9001) rfl rfl rfl rfl (by simp) rfl rfl) ?_
   try simp only [killT, killB, SV.kill, CV.kill, kk, Nat.reduceBEq]
   refine ok_weak (σ' := ⟨[(4, .box 4 0), (0, .abox 0)], [(4, 60, [(.dv [] (.str ((putN (s) (e30) (e32)).1.1))), (.key 9001), (.dv [] (.int .i64 ((putN (s) (e30) (e32)).1.2.2)))]), (0, 81, [(.arg 900001 (bytesD (code))), (.dv [] (.int .i64 (i32))), (.dv [] (.int .i64 (h32)))])], [(9001, some (kcOf false (itemsD ((putN (s) (e30) (e32)).1.2.1))))]⟩) (weak_sub ⟨rfl, rfl, trivial⟩ ⟨rfl, rfl, trivial⟩ ⟨rfl, trivial⟩ rfl) ?_
   refine z ?_
   refine fin1 (res_cell hT rfl rfl rfl rfl) ⟨((((putN (s) (e30) (e32)).1.1), (((putN (s) (e30) (e32)).1.2.1), ((putN (s) (e30) (e32)).1.2.2))), i32, h32), ?_, rfl, rfl, rfl, rfl⟩
   try dsimp only
   exact ⟨putN_sto hs, (putN_name _ _ _).trans hnm, autoI_put ha, auto_small ha2 hz30.2.1, by omega⟩
  ·skip
   iterate 6 refine z ?_
   refine ok_weak (σ' := ⟨[(4, .box 4 0), (0, .abox 0)], [(4, 60, [(.dv [] (.str (s.1))), (.key 9001), (.dv [] (.int .i64 (s.2.2)))]), (0, 81, [(.arg 900001 (bytesD (code))), (.dv [] (.int .i64 (i26))), (.dv [] (.int .i64 (h26)))])], [(9001, some (kcOf false (.sl 93 4 (s.2.1.length) (s.2.1.flatMap eItem))))]⟩) (weak_sub ⟨rfl, rfl, trivial⟩ ⟨rfl, rfl, trivial⟩ ⟨rfl, trivial⟩ rfl) ?_
   refine z ?_
   refine fin1 (res_cell hT rfl rfl rfl rfl) ⟨(((s.1), ((s.2.1), (s.2.2))), i26, h26), ?_, rfl, rfl, rfl, rfl⟩
   try dsimp only
   exact ⟨hs, hnm, ha, ha2, by omega⟩
end Go.Proofs.YtjkpoekgnmgofaaGreat

namespace Go.Proofs.YtjkpoekgnmgofaaGreat
open Go.RowKit
open Go.Proofs
set_option linter.unusedVariables false
set_option linter.unusedSimpArgs false
theorem ok_laws_big {code : List UInt8}  : PFn Tryz.prog 5 [.one (.dv [] (bytesD (code)))] (.one (.dv [] (.bool (decide ((1048576 : Int) < (code.length : Int)))))) := by
 refine ⟨fn_intro Tryz.func5 rfl Tryz.ntmps5 Tryz.results5 rfl (fun C => ?_)⟩
 refine ok_fact (x := .tmp 0) (ev_tmp rfl) fun f0 => ?_
 iterate 11 refine z ?_
 rfl
end Go.Proofs.YtjkpoekgnmgofaaGreat

namespace Go.Proofs.YtjkpoekgnmgofaaGreat
open Go.RowKit
open Go.Proofs
set_option linter.unusedVariables false
set_option linter.unusedSimpArgs false

theorem sEq_self (s : Str) : sEq s s = true := by simp [sEq]
theorem eqL_self {α : Type} [Inhabited α] {p : α → α → Bool} (h : ∀ x, p x x = true) (xs : List α) : eqL p xs xs = true := by
 unfold eqL
 simp [h]
theorem eqRec_self (r : RecT) : eqRec r r = true := eqL_self (fun f => by simp [eqFld, sEq_self]) r
theorem eqKey_self (k : KeyT) : eqKeyB k k = true := by simp [eqKeyB, sEq_self]
theorem eqItem_self (x : ItemT) : eqItemB x x = true := by simp [eqItemB, eqKey_self, eqRec_self]
theorem eqStore_self (s : StoreT) : eqStoreB s s = true := by simp [eqStoreB, sEq_self, eqL_self eqItem_self]
theorem eqDb_self (d : DbT) : eqDbB d d = true := by simp [eqDbB, sEq_self, eqL_self eqStore_self, eqL_self (p := eqDefB) (fun x => by simp [eqDefB, sEq_self])]

end Go.Proofs.YtjkpoekgnmgofaaGreat

namespace Go.Proofs.YtjkpoekgnmgofaaGreat
open Go.RowKit
open Go.Proofs
set_option linter.unusedVariables false
set_option linter.unusedSimpArgs false

theorem sLt_f {a b : Str} (h : sLt b a = true) : (sLt a b || sEq a b) = false := by rw [sLe_eq, h]; rfl
theorem base_db {l : List StoreT} (hl : l.length ≤ 4) (hs : ∀ s ∈ l, isSto s = true) (ho : ∀ i, i + 1 < l.length → sLt (l.getD i default).1 (l.getD (i + 1) default).1 = true) : isDb (ByteArray.mk #[97, 112, 112], 1, l, []) = true := by
 have h1 : isName (ByteArray.mk #[97, 112, 112]) = true := by decide +kernel
 unfold isDb dbHead dbUn dbSt
 simp only [h1, Bool.and_eq_true, decide_eq_true_eq, List.all_eq_true, List.mem_range, List.length_nil, true_and]
 refine ⟨⟨⟨by omega, by omega⟩, by omega⟩, fun i hi => ?_, fun i hi => by omega⟩
 have h2 : l.getD i default ∈ l := by rw [List.getD_eq_getElem?_getD, List.getElem?_eq_getElem hi]; exact List.getElem_mem hi
 unfold stBad
 rw [Int.toNat_natCast, hs _ h2]
 cases i with
 | zero => simp
 | succ j =>
  have h3 := ho j hi
  rw [show (((j + 1 : Nat) : Int) - 1).toNat = j by omega, sLt_f h3]
  simp
theorem base2 {s t : StoreT} (h1 : isSto s = true) (n1 : s.1 = ByteArray.mk #[110, 111, 116, 101, 115]) (h2 : isSto t = true) (n2 : t.1 = ByteArray.mk #[116, 97, 103, 115]) : isDb (ByteArray.mk #[97, 112, 112], 1, [s, t], []) = true := by
 refine base_db (by simp) (fun x hx => ?_) (fun i hi => ?_)
 ·simp only [List.mem_cons, List.not_mem_nil, or_false] at hx
  rcases hx with rfl | rfl <;> assumption
 ·have : i = 0 := by simp at hi; omega
  subst this
  show sLt s.1 t.1 = true
  rw [n1, n2]; decide +kernel
theorem base3 {q s t : StoreT} (h0 : isSto q = true) (n0 : q.1 = ByteArray.mk #[108, 105, 115, 116, 115]) (h1 : isSto s = true) (n1 : s.1 = ByteArray.mk #[110, 111, 116, 101, 115]) (h2 : isSto t = true) (n2 : t.1 = ByteArray.mk #[116, 97, 103, 115]) : isDb (ByteArray.mk #[97, 112, 112], 1, [q, s, t], []) = true := by
 refine base_db (by simp) (fun x hx => ?_) (fun i hi => ?_)
 ·simp only [List.mem_cons, List.not_mem_nil, or_false] at hx
  rcases hx with rfl | rfl | rfl <;> assumption
 ·simp only [List.length_cons, List.length_nil] at hi
  have : i = 0 ∨ i = 1 := by omega
  rcases this with rfl | rfl
  ·show sLt q.1 s.1 = true
   rw [n0, n1]; decide +kernel
  ·show sLt s.1 t.1 = true
   rw [n1, n2]; decide +kernel
theorem upA_keep {d : DbT} {u : UpgT} (h : isDb d = true) : isDb (upA d u).1 = true := by
 cases h2 : (upA d u).2 with
 | true => exact upA_db h2
 | false => rw [upA_f h2]; exact h
theorem wSum_bd {α : Type} {w : α → Nat} {B : Nat} : ∀ (l : List α), (∀ x ∈ l, w x ≤ B) → wSum w l ≤ B * l.length
 | [], _ => by simp [wSum]
 | x :: l, h => by
  have k1 := wSum_bd l (fun g hg => h g (by simp [hg]))
  have k2 := h x (by simp)
  simp only [wSum, List.map_cons, List.sum_cons, List.length_cons, Nat.mul_add, Nat.mul_one] at *
  omega
theorem isDb_w2 {d : DbT} (h : isDb d = true) : wDatabase d ≤ 6000 := by
 have h4 : wDatabase d = d.1.size + (d.2.2.1.length + wSum wStore d.2.2.1) + (d.2.2.2.length + wSum wIndexDef d.2.2.2) := rfl
 have h0 := h
 rw [isDb, Bool.and_eq_true, Bool.and_eq_true] at h
 obtain ⟨h1, h2, h3⟩ := h
 simp only [dbHead, Bool.and_eq_true, decide_eq_true_eq] at h1
 have h5 := name_size h1.1.1.1
 have h6 := wSum_bd (w := wStore) (B := 1200) d.2.2.1 (fun s hs => by
  obtain ⟨i, hi, rfl⟩ := List.mem_iff_getElem.1 hs
  have := db_sto (i := (i : Int)) h2 (by omega) (by omega)
  rw [Int.toNat_natCast, List.getD_eq_getElem?_getD, List.getElem?_eq_getElem hi] at this
  exact sto_w2 this)
 have h7 := wSum_bd (w := wIndexDef) (B := 16) d.2.2.2 (fun x hx => by
  obtain ⟨i, hi, rfl⟩ := List.mem_iff_getElem.1 hx
  have hq := db_un h0 (List.getElem_mem hi)
  have h8 : d.2.2.1.any (hasName d.2.2.2[i].1) = true := by rw [← fnd_any]; exact decide_eq_true hq
  obtain ⟨s, hs, hn⟩ := List.any_eq_true.1 h8
  have hn2 : s.1 = d.2.2.2[i].1 := sEq_iff.1 hn
  obtain ⟨j, hj, rfl⟩ := List.mem_iff_getElem.1 hs
  have h9 := db_sto (i := (j : Int)) h2 (by omega) (by omega)
  rw [Int.toNat_natCast, List.getD_eq_getElem?_getD, List.getElem?_eq_getElem hj] at h9
  have h10 := sto_name h9
  have h11 : d.2.2.1[j].1.size ≤ 8 := h10
  have h12 : (d.2.2.2[i]).2.size ≤ 8 := by
   rw [dbUn, List.all_eq_true] at h3
   have h13 := h3 i (List.mem_range.2 hi)
   unfold unBad at h13
   rw [Int.toNat_natCast, List.getD_eq_getElem?_getD, List.getElem?_eq_getElem hi] at h13
   simp only [Option.getD_some, Bool.not_eq_true', Bool.or_eq_false_iff, Bool.not_eq_false'] at h13
   exact (name_size h13.1.1.2).2
  have h14 : wIndexDef d.2.2.2[i] = (d.2.2.2[i]).1.size + (d.2.2.2[i]).2.size := rfl
  rw [hn2] at h11
  omega)
 omega

theorem ok_spec_l8Base {code : List UInt8} {i h : Int} (hc : code.length ≤ 1048576) (hi : 0 ≤ i) : BFn Tryz.prog 36 [] 81 (bytesD (code)) [.dv [] (.int .i64 (i)), .dv [] (.int .i64 (h))] (fun zz : DbT × Int × Int => isDb zz.1 = true ∧ 0 ≤ zz.2.1) (fun zz : DbT × Int × Int => .agg [(.dv [] (.str (zz.1.1))), (.dv [] (.int .i64 (zz.1.2.1))), (.key 90031), (.key 90900)]) (fun zz : DbT × Int × Int => [(90031, some (kcOf false (storesD (zz.1.2.2.1)))), (90900, some (kcOf false (defsD (zz.1.2.2.2))))]) (fun zz : DbT × Int × Int => [.dv [] (.int .i64 (zz.2.1)), .dv [] (.int .i64 (zz.2.2))]) := by
 refine ⟨fn_introS Tryz.func36 rfl Tryz.ntmps36 Tryz.results36 rfl (fun C => ?_)⟩
 iterate 4 refine z ?_
 refine yO rfl rfl (pu_build hT hB rfl rfl rfl (bp_cons (ev_str (str_lit rfl)) rfl rfl rfl rfl rfl (bp_cons (ev_int (inR_lit rfl)) rfl rfl rfl rfl rfl bp_nil))) rfl ?_
 iterate 3 refine z ?_
 refine ok_seq ?_
 refine ok_weak (weak_nilB 90031 (b := 3) (i := 2) (e := 60) (sz := 3) rfl rfl rfl rfl rfl) ?_
 simp only [killT, killB, SV.kill, CV.kill, kk, Nat.reduceBEq]
 refine ok_weak (weak_nilB 90900 (b := 3) (i := 3) (e := 78) (sz := 2) rfl rfl rfl rfl rfl) ?_
 simp only [killT, killB, SV.kill, CV.kill, kk, Nat.reduceBEq]
 refine ok_regionL [0] [0, 1, 2, 3, 4, 5, 6] (oB := [2, 3]) (oK := [90031, 90900]) (by kernel_rfl) rfl rfl ?_
 refine l_take 0 rfl (by kernel_rfl) rfl rfl (pu_fieldBox hT rfl rfl rfl (ev_tmp rfl)) rfl rfl rfl rfl rfl ?_
 refine l_take 1 rfl (by kernel_rfl) rfl rfl (pu_loadBox1 hT rfl rfl (ev_tmp rfl) rfl rfl) rfl rfl rfl rfl rfl ?_
 refine l_take 2 rfl (by kernel_rfl) rfl rfl (pu_move (.inl rfl) (ev_abox (ev_tmp rfl))) rfl rfl rfl rfl rfl ?_
 refine l_take 4 rfl (by kernel_rfl) rfl rfl (pu_move (.inl rfl) (ev_abox (ev_tmp rfl))) rfl rfl rfl rfl rfl ?_
 refine l_split 3 [] (by kernel_rfl) ⟨?_, trivial⟩
 refine y_callB 22000 3 rfl rfl rfl rfl rfl Tryz.call63 (ok_spec_l6Store (code := code) (i := i) (h := h) (nm := ByteArray.mk #[110, 111, 116, 101, 115]) (by omega) (by omega) (by decide +kernel)) (ev_tmp rfl) rfl ac_arg rfl (fun _ => rfl) (ad_cons (ev_str (str_lit rfl)) (ag_one ac_dv) rfl ad_nil) rfl (fun _ => rfl) (fun _ => rfl) rfl (fun zz hz8 => ?_)
 obtain ⟨e8, i8, h8⟩ := zz
 replace hz8 : isSto e8 = true ∧ e8.1 = (ByteArray.mk #[110, 111, 116, 101, 115]) ∧ autoI e8 ∧ e8.2.2 ≤ 256 ∧ 0 ≤ i8 := hz8
 refine l_split 5 [] (by kernel_rfl) ⟨?_, trivial⟩
 refine y_callB 23000 5 rfl rfl rfl rfl rfl Tryz.call63 (ok_spec_l6Store (code := code) (i := i8) (h := h8) (nm := ByteArray.mk #[116, 97, 103, 115]) (by omega) (by omega) (by decide +kernel)) (ev_tmp rfl) rfl ac_arg rfl (fun _ => rfl) (ad_cons (ev_str (str_lit rfl)) (ag_one ac_dv) rfl ad_nil) rfl (fun _ => rfl) (fun _ => rfl) rfl (fun zz hz10 => ?_)
 obtain ⟨e10, i10, h10⟩ := zz
 replace hz10 : isSto e10 = true ∧ e10.1 = (ByteArray.mk #[116, 97, 103, 115]) ∧ autoI e10 ∧ e10.2.2 ≤ 256 ∧ 0 ≤ i10 := hz10
 refine l_split 6 [] (by kernel_rfl) ⟨?_, trivial⟩
 refine y_buildN (k := 11) (js := [31001, 32001]) 6 hT rfl rfl rfl rfl rfl rfl rfl rfl rfl rfl rfl rfl (ep_cons (ev_tmp rfl) rfl rfl rfl (ep_cons (ev_tmp rfl) rfl rfl rfl ep_nil)) (ow_cons' (ow_dv rfl) (ow_cons' (ow_key rfl) (ow_cons' (ow_dv rfl) (ow_cons' (ow_dv rfl) (ow_cons' (ow_key rfl) (ow_cons' (ow_dv rfl) ow_nil rfl) rfl) rfl) rfl) rfl) rfl) (by decide) (by decide) rfl rfl rfl rfl rfl ?_
 simp only [killT, killB, SV.kill, CV.kill, kk, Nat.reduceBEq]
 refine l_chain [7, 8, 9] rfl rfl (by kernel_rfl) ?_
 refine o_appK (k := 90031) (j := 11) (cs := [e8, e10].flatMap eStore) (n := [e8, e10].length) hT rfl rfl rfl rfl rfl rfl rfl (ev_tmp rfl) rfl rfl rfl (ev_tmp rfl) rfl rfl (by decide) (by simp [kcOf, KC.old]) (by simp [kcOf, KC.old]) (rfl) (rfl) ?_
 simp only [killT, killB, SV.kill, CV.kill, kk, Nat.reduceBEq]
 iterate 5 refine z ?_
 refine yO rfl rfl (pu_move (.inl rfl) (ev_abox (ev_tmp rfl))) rfl ?_
 refine o_callB 15000 rfl rfl rfl Tryz.call64 (ok_spec_l1Once (code := code) (i := i10) (h := h10) (n := 2) (by omega) (by omega) ) (ev_tmp rfl) rfl ac_arg rfl (fun _ => rfl) (ad_cons (ev_int (inR_lit rfl)) (ag_one ac_dv) rfl ad_nil) rfl (fun _ => rfl) (fun _ => rfl) (fun zz hz15 => ?_)
 obtain ⟨e15, i15, h15⟩ := zz
 replace hz15 : 0 ≤ i15 := hz15
 refine z ?_
 refine yQ rfl (fun c1 => ?_) fun c1 => ?_
 ·skip
  refine ok_regionL [0] [0, 1, 2, 3, 4] (oB := [2, 3]) (oK := [90031, 90900]) (by kernel_rfl) rfl rfl ?_
  refine l_take 0 rfl (by kernel_rfl) rfl rfl (pu_move (.inl rfl) (ev_abox (ev_tmp rfl))) rfl rfl rfl rfl rfl ?_
  refine l_take 3 rfl (by kernel_rfl) rfl rfl (pu_fieldBox hT rfl rfl rfl (ev_tmp rfl)) rfl rfl rfl rfl rfl ?_
  refine l_take 4 rfl (by kernel_rfl) rfl rfl (pu_loadBox1 hT rfl rfl (ev_tmp rfl) rfl rfl) rfl rfl rfl rfl rfl ?_
  refine l_split 1 [] (by kernel_rfl) ⟨?_, trivial⟩
  refine y_callB 24000 1 rfl rfl rfl rfl rfl Tryz.call63 (ok_spec_l6Store (code := code) (i := i15) (h := h15) (nm := ByteArray.mk #[108, 105, 115, 116, 115]) (by omega) (by omega) (by decide +kernel)) (ev_tmp rfl) rfl ac_arg rfl (fun _ => rfl) (ad_cons (ev_str (str_lit rfl)) (ag_one ac_dv) rfl ad_nil) rfl (fun _ => rfl) (fun _ => rfl) rfl (fun zz hz17 => ?_)
  obtain ⟨e17, i17, h17⟩ := zz
  replace hz17 : isSto e17 = true ∧ e17.1 = (ByteArray.mk #[108, 105, 115, 116, 115]) ∧ autoI e17 ∧ e17.2.2 ≤ 256 ∧ 0 ≤ i17 := hz17
  refine l_split 2 [] (by kernel_rfl) ⟨?_, trivial⟩
  refine y_buildN (k := 18) (js := [33001]) 2 hT rfl rfl rfl rfl rfl rfl rfl rfl rfl rfl rfl rfl (ep_cons (ev_tmp rfl) rfl rfl rfl ep_nil) (ow_cons' (ow_dv rfl) (ow_cons' (ow_key rfl) (ow_cons' (ow_dv rfl) ow_nil rfl) rfl) rfl) (by decide) (by decide) rfl rfl rfl rfl rfl ?_
  simp only [killT, killB, SV.kill, CV.kill, kk, Nat.reduceBEq]
  refine l_chain [5, 6, 7] rfl rfl (by kernel_rfl) ?_
  refine o_appK (k := 18) (j := 90031) (cs := [e17, e8, e10].flatMap eStore) (n := [e17, e8, e10].length) hT rfl rfl rfl rfl rfl rfl rfl (ev_tmp rfl) rfl rfl rfl (ev_tmp rfl) rfl rfl (by decide) (by simp [kcOf, KC.old]) (by simp [kcOf, KC.old]) (rfl) (rfl) ?_
  simp only [killT, killB, SV.kill, CV.kill, kk, Nat.reduceBEq]
  iterate 5 refine z ?_
  refine yO rfl rfl (pu_move (.inl rfl) (ev_abox (ev_tmp rfl))) rfl ?_
  refine o_callB 24000 rfl rfl rfl Tryz.call64 (ok_spec_l1Once (code := code) (i := i17) (h := h17) (n := 3) (by omega) (by omega) ) (ev_tmp rfl) rfl ac_arg rfl (fun _ => rfl) (ad_cons (ev_int (inR_lit rfl)) (ag_one ac_dv) rfl ad_nil) rfl (fun _ => rfl) (fun _ => rfl) (fun zz hz24 => ?_)
  obtain ⟨e24, i24, h24⟩ := zz
  replace hz24 : 0 ≤ i24 := hz24
  refine z ?_
  refine yQ rfl (fun c2 => ?_) fun c2 => ?_
  ·skip
   refine ok_regionL [0] [0, 1, 2, 3, 4, 5] (oB := [2, 3]) (oK := [18, 90900]) (by kernel_rfl) rfl rfl ?_
   refine l_take 0 rfl (by kernel_rfl) rfl rfl (pu_loadBoxA hT rfl rfl (ev_tmp rfl) rfl rfl) rfl rfl rfl rfl rfl ?_
   refine l_take 1 rfl (by kernel_rfl) rfl rfl (pu_move (.inl rfl) (ev_abox (ev_tmp rfl))) rfl rfl rfl rfl rfl ?_
   refine l_split 2 [] (by kernel_rfl) ⟨?_, trivial⟩
   refine y_callB 28000 2 rfl rfl rfl rfl rfl Tryz.call66 (ok_spec_l5Name (code := code) (i := i24) (h := h24) (by omega) (by omega)) (ev_tmp rfl) rfl ac_arg rfl (fun _ => rfl) ad_nil rfl (fun _ => rfl) (fun _ => rfl) rfl (fun zz hz28 => ?_)
   obtain ⟨e28, i28, h28⟩ := zz
   replace hz28 : isName e28 = true ∧ 0 ≤ i28 := hz28
   refine l_take 3 rfl (by kernel_rfl) rfl rfl (pu_build hT hB rfl rfl rfl (bp_cons (ev_int (inR_lit rfl)) rfl rfl rfl rfl rfl (bp_cons (ev_str (str_lit rfl)) rfl rfl rfl rfl rfl (bp_cons (ev_tmp rfl) rfl rfl rfl rfl rfl bp_nil)))) rfl rfl rfl rfl rfl ?_
   refine l_split 4 [] (by kernel_rfl) ⟨?_, trivial⟩
   refine y_callK 100000 4 rfl rfl rfl rfl Tryz.call65 (ok_spec_ApplyUpgrade (d := (ByteArray.mk #[97, 112, 112], 1, [e17, e8, e10], [])) (u := (3, ByteArray.mk #[110, 111, 116, 101, 115], e28)) (by have := isDb_w2 (base3 hz17.1 hz17.2.1 hz8.1 hz8.2.1 hz10.1 hz10.2.1); omega)) (as_cons (ev_tmp rfl) (ag_agg (ag_cons ac_dv (ag_cons ac_dv (ag_cons (ac_key' rfl rfl) (ag_cons (ac_key' rfl rfl) ag_nil))))) (as_cons (ev_tmp rfl) (ag_agg (ag_cons ac_dv (ag_cons ac_dv (ag_cons ac_dv ag_nil)))) as_nil)) rfl rfl rfl rfl rfl rfl ?_
   refine l_take 5 rfl (by kernel_rfl) rfl rfl (pu_move (.inl rfl) (ev_tmp rfl)) rfl rfl rfl rfl rfl ?_
   refine l_takeX 6 rfl (by kernel_rfl) rfl rfl rfl (pu_extractA rfl (ev_tmp rfl) rfl) rfl rfl ?_
   refine l_takeX 7 rfl (by kernel_rfl) rfl rfl rfl (pu_extract1 rfl (ev_tmp rfl) rfl) rfl rfl ?_
   refine l_chain [8] rfl rfl (by kernel_rfl) ?_
   iterate 6 refine z ?_
   refine ok_weak (weak_add (k := 90031) (e := 60) (sz := 3) rfl rfl) ?_
   try simp only [killT, killB, SV.kill, CV.kill, kk, Nat.reduceBEq]
   refine ok_weak (weak_swapB (b := 2) (i := 2) (k := 190031) (k' := 90031) rfl rfl rfl rfl (by simp) rfl rfl) ?_
   try simp only [killT, killB, SV.kill, CV.kill, kk, Nat.reduceBEq]
   refine ok_weak (weak_swapB (b := 2) (i := 3) (k := 190900) (k' := 90900) rfl rfl rfl rfl (by simp) rfl rfl) ?_
   try simp only [killT, killB, SV.kill, CV.kill, kk, Nat.reduceBEq]
   refine ok_weak (σ' := ⟨[(2, .box 2 0), (0, .abox 0)], [(2, 27, [(.dv [] (.str ((upA ((ByteArray.mk #[97, 112, 112], (1, ([e17, e8, e10], [])))) ((3, (ByteArray.mk #[110, 111, 116, 101, 115], e28)))).1.1))), (.dv [] (.int .i64 ((upA ((ByteArray.mk #[97, 112, 112], (1, ([e17, e8, e10], [])))) ((3, (ByteArray.mk #[110, 111, 116, 101, 115], e28)))).1.2.1))), (.key 90031), (.key 90900)]), (0, 81, [(.arg 900001 (bytesD (code))), (.dv [] (.int .i64 (i28))), (.dv [] (.int .i64 (h28)))])], [(90031, some (kcOf false (storesD ((upA ((ByteArray.mk #[97, 112, 112], (1, ([e17, e8, e10], [])))) ((3, (ByteArray.mk #[110, 111, 116, 101, 115], e28)))).1.2.2.1)))), (90900, some (kcOf false (defsD ((upA ((ByteArray.mk #[97, 112, 112], (1, ([e17, e8, e10], [])))) ((3, (ByteArray.mk #[110, 111, 116, 101, 115], e28)))).1.2.2.2))))]⟩) (weak_sub ⟨rfl, rfl, trivial⟩ ⟨rfl, rfl, trivial⟩ ⟨rfl, rfl, trivial⟩ rfl) ?_
   refine z ?_
   refine fin1 (res_cell hT rfl rfl rfl rfl) ⟨((((upA ((ByteArray.mk #[97, 112, 112], (1, ([e17, e8, e10], [])))) ((3, (ByteArray.mk #[110, 111, 116, 101, 115], e28)))).1.1), (((upA ((ByteArray.mk #[97, 112, 112], (1, ([e17, e8, e10], [])))) ((3, (ByteArray.mk #[110, 111, 116, 101, 115], e28)))).1.2.1), (((upA ((ByteArray.mk #[97, 112, 112], (1, ([e17, e8, e10], [])))) ((3, (ByteArray.mk #[110, 111, 116, 101, 115], e28)))).1.2.2.1), ((upA ((ByteArray.mk #[97, 112, 112], (1, ([e17, e8, e10], [])))) ((3, (ByteArray.mk #[110, 111, 116, 101, 115], e28)))).1.2.2.2)))), i28, h28), ?_, rfl, rfl, rfl, rfl⟩
   try dsimp only
   exact ⟨upA_keep (base3 hz17.1 hz17.2.1 hz8.1 hz8.2.1 hz10.1 hz10.2.1), by omega⟩
  ·skip
   iterate 6 refine z ?_
   refine ok_weak (weak_add (k := 90031) (e := 60) (sz := 3) rfl rfl) ?_
   try simp only [killT, killB, SV.kill, CV.kill, kk, Nat.reduceBEq]
   refine ok_weak (weak_swapB (b := 2) (i := 2) (k := 18) (k' := 90031) rfl rfl rfl rfl (by simp) rfl rfl) ?_
   try simp only [killT, killB, SV.kill, CV.kill, kk, Nat.reduceBEq]
   refine ok_weak (σ' := ⟨[(2, .box 2 0), (0, .abox 0)], [(2, 27, [(.dv [] (.str (ByteArray.mk #[97, 112, 112]))), (.dv [] (.int .i64 (1))), (.key 90031), (.key 90900)]), (0, 81, [(.arg 900001 (bytesD (code))), (.dv [] (.int .i64 (i24))), (.dv [] (.int .i64 (h24)))])], [(90031, some (kcOf false (.sl 60 3 ([e17, e8, e10].length) ([e17, e8, e10].flatMap eStore)))), (90900, some (kcOf false (.sl 78 2 (0) ([]))))]⟩) (weak_sub ⟨rfl, rfl, trivial⟩ ⟨rfl, rfl, trivial⟩ ⟨rfl, rfl, trivial⟩ rfl) ?_
   refine z ?_
   refine fin1 (res_cell hT rfl rfl rfl rfl) ⟨(((ByteArray.mk #[97, 112, 112]), ((1), (([e17, e8, e10]), ([])))), i24, h24), ?_, rfl, rfl, rfl, rfl⟩
   try dsimp only
   exact ⟨base3 hz17.1 hz17.2.1 hz8.1 hz8.2.1 hz10.1 hz10.2.1, by omega⟩
 ·skip
  iterate 4 refine z ?_
  refine yO rfl rfl (pu_move (.inl rfl) (ev_abox (ev_tmp rfl))) rfl ?_
  refine o_callB 24000 rfl rfl rfl Tryz.call64 (ok_spec_l1Once (code := code) (i := i15) (h := h15) (n := 3) (by omega) (by omega) ) (ev_tmp rfl) rfl ac_arg rfl (fun _ => rfl) (ad_cons (ev_int (inR_lit rfl)) (ag_one ac_dv) rfl ad_nil) rfl (fun _ => rfl) (fun _ => rfl) (fun zz hz24 => ?_)
  obtain ⟨e24, i24, h24⟩ := zz
  replace hz24 : 0 ≤ i24 := hz24
  refine z ?_
  refine yQ rfl (fun c3 => ?_) fun c3 => ?_
  ·skip
   refine ok_regionL [0] [0, 1, 2, 3, 4, 5] (oB := [2, 3]) (oK := [90031, 90900]) (by kernel_rfl) rfl rfl ?_
   refine l_take 0 rfl (by kernel_rfl) rfl rfl (pu_loadBoxA hT rfl rfl (ev_tmp rfl) rfl rfl) rfl rfl rfl rfl rfl ?_
   refine l_take 1 rfl (by kernel_rfl) rfl rfl (pu_move (.inl rfl) (ev_abox (ev_tmp rfl))) rfl rfl rfl rfl rfl ?_
   refine l_split 2 [] (by kernel_rfl) ⟨?_, trivial⟩
   refine y_callB 28000 2 rfl rfl rfl rfl rfl Tryz.call66 (ok_spec_l5Name (code := code) (i := i24) (h := h24) (by omega) (by omega)) (ev_tmp rfl) rfl ac_arg rfl (fun _ => rfl) ad_nil rfl (fun _ => rfl) (fun _ => rfl) rfl (fun zz hz28 => ?_)
   obtain ⟨e28, i28, h28⟩ := zz
   replace hz28 : isName e28 = true ∧ 0 ≤ i28 := hz28
   refine l_take 3 rfl (by kernel_rfl) rfl rfl (pu_build hT hB rfl rfl rfl (bp_cons (ev_int (inR_lit rfl)) rfl rfl rfl rfl rfl (bp_cons (ev_str (str_lit rfl)) rfl rfl rfl rfl rfl (bp_cons (ev_tmp rfl) rfl rfl rfl rfl rfl bp_nil)))) rfl rfl rfl rfl rfl ?_
   refine l_split 4 [] (by kernel_rfl) ⟨?_, trivial⟩
   refine y_callK 100000 4 rfl rfl rfl rfl Tryz.call65 (ok_spec_ApplyUpgrade (d := (ByteArray.mk #[97, 112, 112], 1, [e8, e10], [])) (u := (3, ByteArray.mk #[110, 111, 116, 101, 115], e28)) (by have := isDb_w2 (base2 hz8.1 hz8.2.1 hz10.1 hz10.2.1); omega)) (as_cons (ev_tmp rfl) (ag_agg (ag_cons ac_dv (ag_cons ac_dv (ag_cons (ac_key' rfl rfl) (ag_cons (ac_key' rfl rfl) ag_nil))))) (as_cons (ev_tmp rfl) (ag_agg (ag_cons ac_dv (ag_cons ac_dv (ag_cons ac_dv ag_nil)))) as_nil)) rfl rfl rfl rfl rfl rfl ?_
   refine l_take 5 rfl (by kernel_rfl) rfl rfl (pu_move (.inl rfl) (ev_tmp rfl)) rfl rfl rfl rfl rfl ?_
   refine l_takeX 6 rfl (by kernel_rfl) rfl rfl rfl (pu_extractA rfl (ev_tmp rfl) rfl) rfl rfl ?_
   refine l_takeX 7 rfl (by kernel_rfl) rfl rfl rfl (pu_extract1 rfl (ev_tmp rfl) rfl) rfl rfl ?_
   refine l_chain [8] rfl rfl (by kernel_rfl) ?_
   iterate 6 refine z ?_
   refine ok_weak (weak_swapB (b := 2) (i := 2) (k := 190031) (k' := 90031) rfl rfl rfl rfl (by simp) rfl rfl) ?_
   try simp only [killT, killB, SV.kill, CV.kill, kk, Nat.reduceBEq]
   refine ok_weak (weak_swapB (b := 2) (i := 3) (k := 190900) (k' := 90900) rfl rfl rfl rfl (by simp) rfl rfl) ?_
   try simp only [killT, killB, SV.kill, CV.kill, kk, Nat.reduceBEq]
   refine ok_weak (σ' := ⟨[(2, .box 2 0), (0, .abox 0)], [(2, 27, [(.dv [] (.str ((upA ((ByteArray.mk #[97, 112, 112], (1, ([e8, e10], [])))) ((3, (ByteArray.mk #[110, 111, 116, 101, 115], e28)))).1.1))), (.dv [] (.int .i64 ((upA ((ByteArray.mk #[97, 112, 112], (1, ([e8, e10], [])))) ((3, (ByteArray.mk #[110, 111, 116, 101, 115], e28)))).1.2.1))), (.key 90031), (.key 90900)]), (0, 81, [(.arg 900001 (bytesD (code))), (.dv [] (.int .i64 (i28))), (.dv [] (.int .i64 (h28)))])], [(90031, some (kcOf false (storesD ((upA ((ByteArray.mk #[97, 112, 112], (1, ([e8, e10], [])))) ((3, (ByteArray.mk #[110, 111, 116, 101, 115], e28)))).1.2.2.1)))), (90900, some (kcOf false (defsD ((upA ((ByteArray.mk #[97, 112, 112], (1, ([e8, e10], [])))) ((3, (ByteArray.mk #[110, 111, 116, 101, 115], e28)))).1.2.2.2))))]⟩) (weak_sub ⟨rfl, rfl, trivial⟩ ⟨rfl, rfl, trivial⟩ ⟨rfl, rfl, trivial⟩ rfl) ?_
   refine z ?_
   refine fin1 (res_cell hT rfl rfl rfl rfl) ⟨((((upA ((ByteArray.mk #[97, 112, 112], (1, ([e8, e10], [])))) ((3, (ByteArray.mk #[110, 111, 116, 101, 115], e28)))).1.1), (((upA ((ByteArray.mk #[97, 112, 112], (1, ([e8, e10], [])))) ((3, (ByteArray.mk #[110, 111, 116, 101, 115], e28)))).1.2.1), (((upA ((ByteArray.mk #[97, 112, 112], (1, ([e8, e10], [])))) ((3, (ByteArray.mk #[110, 111, 116, 101, 115], e28)))).1.2.2.1), ((upA ((ByteArray.mk #[97, 112, 112], (1, ([e8, e10], [])))) ((3, (ByteArray.mk #[110, 111, 116, 101, 115], e28)))).1.2.2.2)))), i28, h28), ?_, rfl, rfl, rfl, rfl⟩
   try dsimp only
   exact ⟨upA_keep (base2 hz8.1 hz8.2.1 hz10.1 hz10.2.1), by omega⟩
  ·skip
   iterate 6 refine z ?_
   refine ok_weak (σ' := ⟨[(2, .box 2 0), (0, .abox 0)], [(2, 27, [(.dv [] (.str (ByteArray.mk #[97, 112, 112]))), (.dv [] (.int .i64 (1))), (.key 90031), (.key 90900)]), (0, 81, [(.arg 900001 (bytesD (code))), (.dv [] (.int .i64 (i24))), (.dv [] (.int .i64 (h24)))])], [(90031, some (kcOf false (.sl 60 3 ([e8, e10].length) ([e8, e10].flatMap eStore)))), (90900, some (kcOf false (.sl 78 2 (0) ([]))))]⟩) (weak_sub ⟨rfl, rfl, trivial⟩ ⟨rfl, rfl, trivial⟩ ⟨rfl, rfl, trivial⟩ rfl) ?_
   refine z ?_
   refine fin1 (res_cell hT rfl rfl rfl rfl) ⟨(((ByteArray.mk #[97, 112, 112]), ((1), (([e8, e10]), ([])))), i24, h24), ?_, rfl, rfl, rfl, rfl⟩
   try dsimp only
   exact ⟨base2 hz8.1 hz8.2.1 hz10.1 hz10.2.1, by omega⟩
end Go.Proofs.YtjkpoekgnmgofaaGreat

namespace Go.Proofs.YtjkpoekgnmgofaaGreat
open Go.RowKit
open Go.Proofs
set_option linter.unusedVariables false
set_option linter.unusedSimpArgs false

def plainO (o : OpT) : Prop := isKey o.2.2.1 = true ∨ o.2.2.1 = (0, 0, ByteArray.empty)
def opsOk (l : List OpT) : Prop := ∀ o ∈ l, isOpB o = true ∧ plainO o
theorem op_ok {k : Int} {s : Str} {q : KeyT} {r : RecT} {f : Str} (h1 : 1 ≤ k ∧ k ≤ 6) (hs : isName s = true) (hk : k = 5 ∨ isKey q = true) (hr : isRec r = true) (hf : (k = 6 ∧ isName f = true) ∨ (k ≠ 6 ∧ f = ByteArray.empty)) : isOpB (k, s, q, r, f) = true := by
 unfold isOpB
 simp only [hs, hr, Bool.and_eq_true, Bool.or_eq_true, decide_eq_true_eq, and_true]
 refine ⟨⟨h1, hk⟩, ?_⟩
 rcases hf with ⟨h2, h3⟩ | ⟨h2, h3⟩
 ·exact .inl ⟨h2, h3⟩
 ·refine .inr ?_
  subst h3
  first | exact ⟨by simpa using h2, rfl⟩ | (simp [h2]; rfl) | (simp [h2]; decide +kernel)
theorem op_wt {o : OpT} (h : isOpB o = true) (hp : plainO o) : wOp o ≤ 90 := by
 have h0 : wOp o = o.2.1.size + wKey o.2.2.1 + wRecord o.2.2.2.1 + o.2.2.2.2.size := rfl
 have h1 : wKey o.2.2.1 = o.2.2.1.2.2.size := rfl
 simp only [isOpB, Bool.and_eq_true, Bool.or_eq_true, decide_eq_true_eq] at h
 have h2 := name_size h.1.1.1.2
 have h3 := rec_wt h.1.2
 have h4 : o.2.2.1.2.2.size ≤ 12 := by
  rcases hp with hp | hp
  ·exact key_size hp
  ·rw [hp]; decide
 have h5 : o.2.2.2.2.size ≤ 8 := by
  rcases h.2 with h6 | h6
  ·exact (name_size h6.2).2
  ·rw [sEq_iff.1 h6.2]; decide
 omega

theorem ok_spec_l9Op {code : List UInt8} {i h : Int} (hc : code.length ≤ 1048576) (hi : 0 ≤ i) : BFn Tryz.prog 70 [] 81 (bytesD (code)) [.dv [] (.int .i64 (i)), .dv [] (.int .i64 (h))] (fun zz : OpT × Int × Int => isOpB zz.1 = true ∧ plainO zz.1 ∧ 0 ≤ zz.2.1) (fun zz : OpT × Int × Int => .agg [(.dv [] (.int .i64 (zz.1.1))), (.dv [] (.str (zz.1.2.1))), (.dv [] (.int .i64 (zz.1.2.2.1.1))), (.dv [] (.int .i64 (zz.1.2.2.1.2.1))), (.dv [] (.str (zz.1.2.2.1.2.2))), (.key 9001), (.dv [] (.str (zz.1.2.2.2.2)))]) (fun zz : OpT × Int × Int => [(9001, some (kcOf false (fieldsD (zz.1.2.2.2.1))))]) (fun zz : OpT × Int × Int => [.dv [] (.int .i64 (zz.2.1)), .dv [] (.int .i64 (zz.2.2))]) := by
 refine ⟨fn_introS Tryz.func70 rfl Tryz.ntmps70 Tryz.results70 rfl (fun C => ?_)⟩
 iterate 4 refine z ?_
 refine yO rfl rfl (pu_move (.inl rfl) (ev_abox (ev_tmp rfl))) rfl ?_
 refine o_callB 5000 rfl rfl rfl Tryz.call37 (ok_spec_l1Below (code := code) (i := i) (h := h) (n := 6) (by omega) (by omega) ) (ev_tmp rfl) rfl ac_arg rfl (fun _ => rfl) (ad_cons (ev_int (inR_lit rfl)) (ag_one ac_dv) rfl ad_nil) rfl (fun _ => rfl) (fun _ => rfl) (fun zz hz5 => ?_)
 obtain ⟨e5, i5, h5⟩ := zz
 replace hz5 : 0 ≤ e5 ∧ (0 < (6 : Int) → e5 < (6 : Int)) ∧ 0 ≤ i5 := hz5
 have h56 := hz5.2.1 (by omega)
 refine z ?_
 refine yO rfl rfl (pu_move (.inl rfl) (ev_abox (ev_tmp rfl))) rfl ?_
 refine o_buildN (k := 8) (js := []) hT rfl rfl rfl rfl rfl rfl rfl rfl rfl rfl rfl (ep_cons (ev_str (str_lit rfl)) rfl rfl rfl (ep_cons (ev_str (str_lit rfl)) rfl rfl rfl (ep_cons (ev_str (str_lit rfl)) rfl rfl rfl (ep_cons (ev_str (str_lit rfl)) rfl rfl rfl ep_nil)))) (ow_cons' (ow_dv rfl) (ow_cons' (ow_dv rfl) (ow_cons' (ow_dv rfl) (ow_cons' (ow_dv rfl) ow_nil rfl) rfl) rfl) rfl) (by decide) (by decide) rfl rfl ?_
 simp only [killT, killB, SV.kill, CV.kill, kk, Nat.reduceBEq]
 refine o_callB 9000 rfl rfl rfl Tryz.call105 (ok_spec_l1Str (code := code) (i := i5) (h := h5) (l := [ByteArray.mk #[110, 111, 116, 101, 115], ByteArray.mk #[116, 97, 103, 115], ByteArray.mk #[110, 111, 116, 101, 115], ByteArray.mk #[108, 105, 115, 116, 115]]) (by omega) (by omega) (by exact Nat.succ_pos _)) (ev_tmp rfl) rfl ac_arg rfl (fun _ => rfl) (ad_cons (ev_tmp rfl) (ag_one (ac_key' rfl rfl)) rfl ad_nil) rfl (fun _ => rfl) (fun _ => rfl) (fun zz hz9 => ?_)
 obtain ⟨e9, i9, h9⟩ := zz
 replace hz9 : e9 ∈ ([ByteArray.mk #[110, 111, 116, 101, 115], ByteArray.mk #[116, 97, 103, 115], ByteArray.mk #[110, 111, 116, 101, 115], ByteArray.mk #[108, 105, 115, 116, 115]]) ∧ 0 ≤ i9 := hz9
 refine yO rfl rfl (pu_move (.inl rfl) (ev_abox (ev_tmp rfl))) rfl ?_
 refine o_callB 11000 rfl rfl rfl Tryz.call100 (ok_spec_l4Small (code := code) (i := i9) (h := h9) (by omega) (by omega)) (ev_tmp rfl) rfl ac_arg rfl (fun _ => rfl) ad_nil rfl (fun _ => rfl) (fun _ => rfl) (fun zz hz11 => ?_)
 obtain ⟨e11, i11, h11⟩ := zz
 replace hz11 : isKey e11 = true ∧ smallK e11 ∧ 0 ≤ i11 := hz11
 refine yO rfl rfl (pu_build hT hB rfl rfl rfl (bp_cons (ev_tmp rfl) rfl rfl rfl rfl rfl (bp_cons (ev_tmp rfl) rfl rfl rfl rfl rfl (bp_cons (ev_tmp rfl) rfl rfl rfl rfl rfl bp_nil)))) rfl ?_
 iterate 3 refine z ?_
 refine ok_seq ?_
 refine ok_seq ?_
 refine ok_weak (σ' := ⟨[(0, .abox 0), (2, .box 2 0), (3, .box 3 0)], [(0, 81, [(.arg 900001 (bytesD (code))), (.dv [] (.int .i64 (i11))), (.dv [] (.int .i64 (h11)))]), (2, 68, [(.dv [] (.int .i64 (0))), (.dv [] (.str (ByteArray.empty))), (.dv [] (.int .i64 (0))), (.dv [] (.int .i64 (0))), (.dv [] (.str (ByteArray.empty))), .nil, (.dv [] (.str (ByteArray.empty)))]), (3, 68, [(.dv [] (.int .i64 ((1) + (e5)))), (.dv [] (.str (e9))), (.dv [] (.int .i64 (e11.1))), (.dv [] (.int .i64 (e11.2.1))), (.dv [] (.str (e11.2.2))), .nil, (.dv [] (.str (ByteArray.empty)))])], []⟩) (weak_sub ⟨rfl, rfl, rfl, trivial⟩ ⟨rfl, rfl, rfl, trivial⟩ trivial rfl) ?_
 refine ok_region ?_
 iterate 9 refine z ?_
 refine yQ rfl (fun c1 => ?_) fun c1 => ?_
 ·skip
  have d1 := of_decide_eq_true c1
  iterate 2 refine z ?_
  refine yQ rfl (fun c2 => ?_) fun c2 => ?_
  ·skip
   have d2 := of_decide_eq_true c2
   refine ok_region ?_
   refine yO rfl rfl (pu_move (.inl rfl) (ev_abox (ev_tmp rfl))) rfl ?_
   refine o_callB 0 rfl rfl rfl Tryz.call101 (ok_spec_l5Record (code := code) (i := i11) (h := h11) (by omega) (by omega)) (ev_tmp rfl) rfl ac_arg rfl (fun _ => rfl) ad_nil rfl (fun _ => rfl) (fun _ => rfl) (fun zz hz19 => ?_)
   obtain ⟨e19, i19, h19⟩ := zz
   replace hz19 : isRec e19 = true ∧ 0 ≤ i19 := hz19
   iterate 2 refine z ?_
   refine ops_nil ?_
   iterate 2 refine z ?_
   refine ok_seq ?_
   refine ok_weak (σ' := ⟨[(0, .abox 0), (2, .box 2 0), (3, .box 3 0)], [(0, 81, [(.arg 900001 (bytesD (code))), (.dv [] (.int .i64 (i19))), (.dv [] (.int .i64 (h19)))]), (2, 68, [(.dv [] (.int .i64 (0))), (.dv [] (.str (ByteArray.empty))), (.dv [] (.int .i64 (0))), (.dv [] (.int .i64 (0))), (.dv [] (.str (ByteArray.empty))), .nil, (.dv [] (.str (ByteArray.empty)))]), (3, 68, [(.dv [] (.int .i64 ((1) + (e5)))), (.dv [] (.str (e9))), (.dv [] (.int .i64 (e11.1))), (.dv [] (.int .i64 (e11.2.1))), (.dv [] (.str (e11.2.2))), (.key 9001), (.dv [] (.str (ByteArray.empty)))])], [(9001, some (kcOf false (fieldsD (e19))))]⟩) (weak_sub ⟨rfl, rfl, rfl, trivial⟩ ⟨rfl, rfl, rfl, trivial⟩ ⟨rfl, trivial⟩ rfl) ?_
   refine ok_region ?_
   iterate 3 refine z ?_
   refine ok_weak (σ' := ⟨[(2, .box 2 0), (0, .abox 0)], [(2, 68, [(.dv [] (.int .i64 ((1) + (e5)))), (.dv [] (.str (e9))), (.dv [] (.int .i64 (e11.1))), (.dv [] (.int .i64 (e11.2.1))), (.dv [] (.str (e11.2.2))), (.key 9001), (.dv [] (.str (ByteArray.empty)))]), (0, 81, [(.arg 900001 (bytesD (code))), (.dv [] (.int .i64 (i19))), (.dv [] (.int .i64 (h19)))])], [(9001, some (kcOf false (fieldsD (e19))))]⟩) (weak_sub ⟨rfl, rfl, trivial⟩ ⟨rfl, rfl, trivial⟩ ⟨rfl, trivial⟩ rfl) ?_
   refine z ?_
   refine fin1 (res_cell hT rfl rfl rfl rfl) ⟨((((1) + (e5)), ((e9), (((e11.1), ((e11.2.1), (e11.2.2))), ((e19), (ByteArray.empty))))), i19, h19), ?_, rfl, rfl, rfl, rfl⟩
   try dsimp only
   exact ⟨op_ok (by omega) (name_of (l := [ByteArray.mk #[110, 111, 116, 101, 115], ByteArray.mk #[116, 97, 103, 115], ByteArray.mk #[110, 111, 116, 101, 115], ByteArray.mk #[108, 105, 115, 116, 115]]) (by decide +kernel) hz9.1) (.inr hz11.1) hz19.1 (.inr ⟨by omega, rfl⟩), .inl hz11.1, by omega⟩
  ·exact absurd (c1.symm.trans c2) (by decide)
 ·skip
  have d1 := of_decide_eq_false c1
  refine ok_region ?_
  iterate 3 refine z ?_
  refine yQ rfl (fun c3 => ?_) fun c3 => ?_
  ·skip
   have d3 := of_decide_eq_true c3
   refine ok_region ?_
   refine yO rfl rfl (pu_move (.inl rfl) (ev_abox (ev_tmp rfl))) rfl ?_
   refine o_callB 0 rfl rfl rfl Tryz.call101 (ok_spec_l5Record (code := code) (i := i11) (h := h11) (by omega) (by omega)) (ev_tmp rfl) rfl ac_arg rfl (fun _ => rfl) ad_nil rfl (fun _ => rfl) (fun _ => rfl) (fun zz hz19 => ?_)
   obtain ⟨e19, i19, h19⟩ := zz
   replace hz19 : isRec e19 = true ∧ 0 ≤ i19 := hz19
   iterate 2 refine z ?_
   refine ops_nil ?_
   iterate 2 refine z ?_
   refine ok_seq ?_
   refine ok_weak (σ' := ⟨[(0, .abox 0), (2, .box 2 0), (3, .box 3 0)], [(0, 81, [(.arg 900001 (bytesD (code))), (.dv [] (.int .i64 (i19))), (.dv [] (.int .i64 (h19)))]), (2, 68, [(.dv [] (.int .i64 (0))), (.dv [] (.str (ByteArray.empty))), (.dv [] (.int .i64 (0))), (.dv [] (.int .i64 (0))), (.dv [] (.str (ByteArray.empty))), .nil, (.dv [] (.str (ByteArray.empty)))]), (3, 68, [(.dv [] (.int .i64 ((1) + (e5)))), (.dv [] (.str (e9))), (.dv [] (.int .i64 (e11.1))), (.dv [] (.int .i64 (e11.2.1))), (.dv [] (.str (e11.2.2))), (.key 9001), (.dv [] (.str (ByteArray.empty)))])], [(9001, some (kcOf false (fieldsD (e19))))]⟩) (weak_sub ⟨rfl, rfl, rfl, trivial⟩ ⟨rfl, rfl, rfl, trivial⟩ ⟨rfl, trivial⟩ rfl) ?_
   refine ok_region ?_
   iterate 3 refine z ?_
   refine ok_weak (σ' := ⟨[(2, .box 2 0), (0, .abox 0)], [(2, 68, [(.dv [] (.int .i64 ((1) + (e5)))), (.dv [] (.str (e9))), (.dv [] (.int .i64 (e11.1))), (.dv [] (.int .i64 (e11.2.1))), (.dv [] (.str (e11.2.2))), (.key 9001), (.dv [] (.str (ByteArray.empty)))]), (0, 81, [(.arg 900001 (bytesD (code))), (.dv [] (.int .i64 (i19))), (.dv [] (.int .i64 (h19)))])], [(9001, some (kcOf false (fieldsD (e19))))]⟩) (weak_sub ⟨rfl, rfl, trivial⟩ ⟨rfl, rfl, trivial⟩ ⟨rfl, trivial⟩ rfl) ?_
   refine z ?_
   refine fin1 (res_cell hT rfl rfl rfl rfl) ⟨((((1) + (e5)), ((e9), (((e11.1), ((e11.2.1), (e11.2.2))), ((e19), (ByteArray.empty))))), i19, h19), ?_, rfl, rfl, rfl, rfl⟩
   try dsimp only
   exact ⟨op_ok (by omega) (name_of (l := [ByteArray.mk #[110, 111, 116, 101, 115], ByteArray.mk #[116, 97, 103, 115], ByteArray.mk #[110, 111, 116, 101, 115], ByteArray.mk #[108, 105, 115, 116, 115]]) (by decide +kernel) hz9.1) (.inr hz11.1) hz19.1 (.inr ⟨by omega, rfl⟩), .inl hz11.1, by omega⟩
  ·skip
   have d3 := of_decide_eq_false c3
   iterate 4 refine z ?_
   refine yQ rfl (fun c4 => ?_) fun c4 => ?_
   ·skip
    have d4 := of_decide_eq_true c4
    refine ok_region ?_
    refine yO rfl rfl (pu_move (.inl rfl) (ev_abox (ev_tmp rfl))) rfl ?_
    refine o_callB 24000 rfl rfl rfl Tryz.call66 (ok_spec_l5Name (code := code) (i := i11) (h := h11) (by omega) (by omega)) (ev_tmp rfl) rfl ac_arg rfl (fun _ => rfl) ad_nil rfl (fun _ => rfl) (fun _ => rfl) (fun zz hz24 => ?_)
    obtain ⟨e24, i24, h24⟩ := zz
    replace hz24 : isName e24 = true ∧ 0 ≤ i24 := hz24
    iterate 2 refine z ?_
    refine ops_nil ?_
    iterate 2 refine z ?_
    refine ok_seq ?_
    refine ok_weak (σ' := ⟨[(0, .abox 0), (2, .box 2 0), (3, .box 3 0)], [(0, 81, [(.arg 900001 (bytesD (code))), (.dv [] (.int .i64 (i24))), (.dv [] (.int .i64 (h24)))]), (2, 68, [(.dv [] (.int .i64 (0))), (.dv [] (.str (ByteArray.empty))), (.dv [] (.int .i64 (0))), (.dv [] (.int .i64 (0))), (.dv [] (.str (ByteArray.empty))), .nil, (.dv [] (.str (ByteArray.empty)))]), (3, 68, [(.dv [] (.int .i64 ((1) + (e5)))), (.dv [] (.str (e9))), (.dv [] (.int .i64 (e11.1))), (.dv [] (.int .i64 (e11.2.1))), (.dv [] (.str (e11.2.2))), .nil, (.dv [] (.str (e24)))])], []⟩) (weak_sub ⟨rfl, rfl, rfl, trivial⟩ ⟨rfl, rfl, rfl, trivial⟩ trivial rfl) ?_
    refine ok_region ?_
    iterate 3 refine z ?_
    refine ok_weak (weak_nilB 9001 (b := 2) (i := 5) (e := 137) (sz := 2) rfl rfl rfl rfl rfl) ?_
    refine ok_weak (σ' := ⟨[(2, .box 2 0), (0, .abox 0)], [(2, 68, [(.dv [] (.int .i64 ((1) + (e5)))), (.dv [] (.str (e9))), (.dv [] (.int .i64 (e11.1))), (.dv [] (.int .i64 (e11.2.1))), (.dv [] (.str (e11.2.2))), (.key 9001), (.dv [] (.str (e24)))]), (0, 81, [(.arg 900001 (bytesD (code))), (.dv [] (.int .i64 (i24))), (.dv [] (.int .i64 (h24)))])], [(9001, some (kcOf false (.sl 137 2 (0) ([]))))]⟩) (weak_sub ⟨rfl, rfl, trivial⟩ ⟨rfl, rfl, trivial⟩ ⟨rfl, trivial⟩ rfl) ?_
    refine z ?_
    refine fin1 (res_cell hT rfl rfl rfl rfl) ⟨((((1) + (e5)), ((e9), (((e11.1), ((e11.2.1), (e11.2.2))), (([]), (e24))))), i24, h24), ?_, rfl, rfl, rfl, rfl⟩
    try dsimp only
    exact ⟨op_ok (by omega) (name_of (l := [ByteArray.mk #[110, 111, 116, 101, 115], ByteArray.mk #[116, 97, 103, 115], ByteArray.mk #[110, 111, 116, 101, 115], ByteArray.mk #[108, 105, 115, 116, 115]]) (by decide +kernel) hz9.1) (.inr hz11.1) (show isRec [] = true from rfl) (.inl ⟨by omega, hz24.1⟩), .inl hz11.1, by omega⟩
   ·skip
    have d4 := of_decide_eq_false c4
    iterate 4 refine z ?_
    refine yQ rfl (fun c5 => ?_) fun c5 => ?_
    ·skip
     have d5 := of_decide_eq_true c5
     refine z ?_
     refine yO rfl rfl (pu_build hT hB rfl rfl rfl bp_nil) rfl ?_
     iterate 4 refine z ?_
     refine yO rfl rfl (pu_move (.inl rfl) (ev_abox (ev_tmp rfl))) rfl ?_
     refine o_callB 31000 rfl rfl rfl Tryz.call64 (ok_spec_l1Once (code := code) (i := i11) (h := h11) (n := 2) (by omega) (by omega) ) (ev_tmp rfl) rfl ac_arg rfl (fun _ => rfl) (ad_cons (ev_int (inR_lit rfl)) (ag_one ac_dv) rfl ad_nil) rfl (fun _ => rfl) (fun _ => rfl) (fun zz hz31 => ?_)
     obtain ⟨e31, i31, h31⟩ := zz
     replace hz31 : 0 ≤ i31 := hz31
     refine z ?_
     refine yQ rfl (fun c6 => ?_) fun c6 => ?_
     ·skip
      iterate 2 refine z ?_
      refine o_store hT rfl rfl rfl rfl (ev_tmp rfl) (ev_int (inR_lit rfl)) rfl rfl rfl rfl rfl rfl ?_
      refine z ?_
      refine ok_region ?_
      refine yO rfl rfl (pu_move (.inl rfl) (ev_abox (ev_tmp rfl))) rfl ?_
      refine o_callB 34000 rfl rfl rfl Tryz.call100 (ok_spec_l4Small (code := code) (i := i31) (h := h31) (by omega) (by omega)) (ev_tmp rfl) rfl ac_arg rfl (fun _ => rfl) ad_nil rfl (fun _ => rfl) (fun _ => rfl) (fun zz hz34 => ?_)
      obtain ⟨e34, i34, h34⟩ := zz
      replace hz34 : isKey e34 = true ∧ smallK e34 ∧ 0 ≤ i34 := hz34
      iterate 2 refine z ?_
      refine ops_nil ?_
      iterate 2 refine z ?_
      refine ok_seq ?_
      refine ok_weak (σ' := ⟨[(0, .abox 0), (2, .box 2 0), (3, .box 3 0)], [(0, 81, [(.arg 900001 (bytesD (code))), (.dv [] (.int .i64 (i34))), (.dv [] (.int .i64 (h34)))]), (2, 68, [(.dv [] (.int .i64 (0))), (.dv [] (.str (ByteArray.empty))), (.dv [] (.int .i64 (0))), (.dv [] (.int .i64 (0))), (.dv [] (.str (ByteArray.empty))), .nil, (.dv [] (.str (ByteArray.empty)))]), (3, 68, [(.dv [] (.int .i64 (1))), (.dv [] (.str (e9))), (.dv [] (.int .i64 (e34.1))), (.dv [] (.int .i64 (e34.2.1))), (.dv [] (.str (e34.2.2))), .nil, (.dv [] (.str (ByteArray.empty)))])], []⟩) (weak_sub ⟨rfl, rfl, rfl, trivial⟩ ⟨rfl, rfl, rfl, trivial⟩ trivial rfl) ?_
      refine ok_region ?_
      iterate 3 refine z ?_
      refine ok_weak (weak_nilB 9001 (b := 2) (i := 5) (e := 137) (sz := 2) rfl rfl rfl rfl rfl) ?_
      refine ok_weak (σ' := ⟨[(2, .box 2 0), (0, .abox 0)], [(2, 68, [(.dv [] (.int .i64 (1))), (.dv [] (.str (e9))), (.dv [] (.int .i64 (e34.1))), (.dv [] (.int .i64 (e34.2.1))), (.dv [] (.str (e34.2.2))), (.key 9001), (.dv [] (.str (ByteArray.empty)))]), (0, 81, [(.arg 900001 (bytesD (code))), (.dv [] (.int .i64 (i34))), (.dv [] (.int .i64 (h34)))])], [(9001, some (kcOf false (.sl 137 2 (0) ([]))))]⟩) (weak_sub ⟨rfl, rfl, trivial⟩ ⟨rfl, rfl, trivial⟩ ⟨rfl, trivial⟩ rfl) ?_
      refine z ?_
      refine fin1 (res_cell hT rfl rfl rfl rfl) ⟨(((1), ((e9), (((e34.1), ((e34.2.1), (e34.2.2))), (([]), (ByteArray.empty))))), i34, h34), ?_, rfl, rfl, rfl, rfl⟩
      try dsimp only
      exact ⟨op_ok (by omega) (name_of (l := [ByteArray.mk #[110, 111, 116, 101, 115], ByteArray.mk #[116, 97, 103, 115], ByteArray.mk #[110, 111, 116, 101, 115], ByteArray.mk #[108, 105, 115, 116, 115]]) (by decide +kernel) hz9.1) (.inr hz34.1) (show isRec [] = true from rfl) (.inr ⟨by omega, rfl⟩), .inl hz34.1, by omega⟩
     ·skip
      iterate 3 refine z ?_
      refine ok_seq ?_
      refine ok_weak (σ' := ⟨[(0, .abox 0), (2, .box 2 0), (3, .box 3 0)], [(0, 81, [(.arg 900001 (bytesD (code))), (.dv [] (.int .i64 (i31))), (.dv [] (.int .i64 (h31)))]), (2, 68, [(.dv [] (.int .i64 (0))), (.dv [] (.str (ByteArray.empty))), (.dv [] (.int .i64 (0))), (.dv [] (.int .i64 (0))), (.dv [] (.str (ByteArray.empty))), .nil, (.dv [] (.str (ByteArray.empty)))]), (3, 68, [(.dv [] (.int .i64 ((1) + (e5)))), (.dv [] (.str (e9))), (.dv [] (.int .i64 (0))), (.dv [] (.int .i64 (0))), (.dv [] (.str (ByteArray.empty))), .nil, (.dv [] (.str (ByteArray.empty)))])], []⟩) (weak_sub ⟨rfl, rfl, rfl, trivial⟩ ⟨rfl, rfl, rfl, trivial⟩ trivial rfl) ?_
      refine ok_region ?_
      iterate 3 refine z ?_
      refine ok_weak (weak_nilB 9001 (b := 2) (i := 5) (e := 137) (sz := 2) rfl rfl rfl rfl rfl) ?_
      refine ok_weak (σ' := ⟨[(2, .box 2 0), (0, .abox 0)], [(2, 68, [(.dv [] (.int .i64 ((1) + (e5)))), (.dv [] (.str (e9))), (.dv [] (.int .i64 (0))), (.dv [] (.int .i64 (0))), (.dv [] (.str (ByteArray.empty))), (.key 9001), (.dv [] (.str (ByteArray.empty)))]), (0, 81, [(.arg 900001 (bytesD (code))), (.dv [] (.int .i64 (i31))), (.dv [] (.int .i64 (h31)))])], [(9001, some (kcOf false (.sl 137 2 (0) ([]))))]⟩) (weak_sub ⟨rfl, rfl, trivial⟩ ⟨rfl, rfl, trivial⟩ ⟨rfl, trivial⟩ rfl) ?_
      refine z ?_
      refine fin1 (res_cell hT rfl rfl rfl rfl) ⟨((((1) + (e5)), ((e9), (((0), ((0), (ByteArray.empty))), (([]), (ByteArray.empty))))), i31, h31), ?_, rfl, rfl, rfl, rfl⟩
      try dsimp only
      exact ⟨op_ok (by omega) (name_of (l := [ByteArray.mk #[110, 111, 116, 101, 115], ByteArray.mk #[116, 97, 103, 115], ByteArray.mk #[110, 111, 116, 101, 115], ByteArray.mk #[108, 105, 115, 116, 115]]) (by decide +kernel) hz9.1) (.inl (by omega)) (show isRec [] = true from rfl) (.inr ⟨by omega, rfl⟩), .inr rfl, by omega⟩
    ·skip
     have d5 := of_decide_eq_false c5
     iterate 3 refine z ?_
     refine ok_seq ?_
     refine ok_weak (σ' := ⟨[(0, .abox 0), (2, .box 2 0), (3, .box 3 0)], [(0, 81, [(.arg 900001 (bytesD (code))), (.dv [] (.int .i64 (i11))), (.dv [] (.int .i64 (h11)))]), (2, 68, [(.dv [] (.int .i64 (0))), (.dv [] (.str (ByteArray.empty))), (.dv [] (.int .i64 (0))), (.dv [] (.int .i64 (0))), (.dv [] (.str (ByteArray.empty))), .nil, (.dv [] (.str (ByteArray.empty)))]), (3, 68, [(.dv [] (.int .i64 ((1) + (e5)))), (.dv [] (.str (e9))), (.dv [] (.int .i64 (e11.1))), (.dv [] (.int .i64 (e11.2.1))), (.dv [] (.str (e11.2.2))), .nil, (.dv [] (.str (ByteArray.empty)))])], []⟩) (weak_sub ⟨rfl, rfl, rfl, trivial⟩ ⟨rfl, rfl, rfl, trivial⟩ trivial rfl) ?_
     refine ok_region ?_
     iterate 3 refine z ?_
     refine ok_weak (weak_nilB 9001 (b := 2) (i := 5) (e := 137) (sz := 2) rfl rfl rfl rfl rfl) ?_
     refine ok_weak (σ' := ⟨[(2, .box 2 0), (0, .abox 0)], [(2, 68, [(.dv [] (.int .i64 ((1) + (e5)))), (.dv [] (.str (e9))), (.dv [] (.int .i64 (e11.1))), (.dv [] (.int .i64 (e11.2.1))), (.dv [] (.str (e11.2.2))), (.key 9001), (.dv [] (.str (ByteArray.empty)))]), (0, 81, [(.arg 900001 (bytesD (code))), (.dv [] (.int .i64 (i11))), (.dv [] (.int .i64 (h11)))])], [(9001, some (kcOf false (.sl 137 2 (0) ([]))))]⟩) (weak_sub ⟨rfl, rfl, trivial⟩ ⟨rfl, rfl, trivial⟩ ⟨rfl, trivial⟩ rfl) ?_
     refine z ?_
     refine fin1 (res_cell hT rfl rfl rfl rfl) ⟨((((1) + (e5)), ((e9), (((e11.1), ((e11.2.1), (e11.2.2))), (([]), (ByteArray.empty))))), i11, h11), ?_, rfl, rfl, rfl, rfl⟩
     try dsimp only
     exact ⟨op_ok (by omega) (name_of (l := [ByteArray.mk #[110, 111, 116, 101, 115], ByteArray.mk #[116, 97, 103, 115], ByteArray.mk #[110, 111, 116, 101, 115], ByteArray.mk #[108, 105, 115, 116, 115]]) (by decide +kernel) hz9.1) (.inr hz11.1) (show isRec [] = true from rfl) (.inr ⟨by omega, rfl⟩), .inl hz11.1, by omega⟩
theorem ok_spec_l9Ops {code : List UInt8} {i h : Int} {m : Int} (hc : code.length ≤ 1048576) (hi : 0 ≤ i) (hm : 0 ≤ m ∧ m ≤ 10) : BFn Tryz.prog 39 [.one (.dv [] (.int .i64 (m)))] 81 (bytesD (code)) [.dv [] (.int .i64 (i)), .dv [] (.int .i64 (h))] (fun zz : List OpT × Int × Int => opsOk zz.1 ∧ (zz.1.length : Int) ≤ m ∧ 0 ≤ zz.2.1) (fun zz : List OpT × Int × Int => .one (.key 9001)) (fun zz : List OpT × Int × Int => [(9001, some (kcOf false (opsD (zz.1))))]) (fun zz : List OpT × Int × Int => [.dv [] (.int .i64 (zz.2.1)), .dv [] (.int .i64 (zz.2.2))]) := by
 refine ⟨fn_introS Tryz.func39 rfl Tryz.ntmps39 Tryz.results39 rfl (fun C => ?_)⟩
 refine ok_fact (x := .tmp 1) (ev_tmp rfl) fun f1 => ?_
 iterate 4 refine z ?_
 refine o_build0 (k := 9001) hT rfl rfl rfl rfl rfl rfl rfl rfl ?_
 iterate 4 refine z ?_
 refine yO rfl rfl (pu_move (.inl rfl) (ev_abox (ev_tmp rfl))) rfl ?_
 iterate 2 refine z ?_
 refine o_callB 11000 rfl rfl rfl Tryz.call37 (ok_spec_l1Below (code := code) (i := i) (h := h) (n := (m) + (1)) (by omega) (by omega) ) (ev_tmp rfl) rfl ac_arg rfl (fun _ => rfl) (ad_cons (ev_tmp rfl) (ag_one ac_dv) rfl ad_nil) rfl (fun _ => rfl) (fun _ => rfl) (fun zz hz11 => ?_)
 obtain ⟨e11, i11, h11⟩ := zz
 replace hz11 : 0 ≤ e11 ∧ (0 < ((m) + (1)) → e11 < ((m) + (1))) ∧ 0 ≤ i11 := hz11
 iterate 3 refine z ?_
 refine ok_loop (ι := Int × List OpT × Int × Int) (fun zz => ⟨[(0, .abox 0), (4, .one .nil), (5, .one (.key 9001)), (6, .one (.dv [] (.int .i64 (zz.1))))], [(0, 81, [(.arg 900001 (bytesD (code))), (.dv [] (.int .i64 (zz.2.2.1))), (.dv [] (.int .i64 (zz.2.2.2)))])], [(9001, some (kcOf false (.sl 68 7 (zz.2.1.length) (zz.2.1.flatMap eOp))))]⟩) (fun zz => opsOk zz.2.1 ∧ (zz.2.1.length : Int) + zz.1 ≤ m ∧ 0 ≤ zz.2.2.1 ∧ 0 ≤ zz.1) (fun zz => zz.1.toNat) ((e11, [], i11, h11)) ?_ (weak_sub ⟨rfl, rfl, rfl, rfl, trivial⟩ ⟨rfl, trivial⟩ ⟨rfl, trivial⟩ rfl) (fun zz hx => ?_)
 ·exact ⟨fun o ho => (by cases ho), by have := hz11.2.1 (by omega); dsimp only; simp; omega, by dsimp only; omega, by dsimp only; omega⟩
 obtain ⟨n, l, ci, ch⟩ := zz
 replace hx : opsOk l ∧ (l.length : Int) + n ≤ m ∧ 0 ≤ ci ∧ 0 ≤ n := hx
 obtain ⟨hok, hl, hci, hn0⟩ := hx
 show Ok _ _ _ _ _ (⟨[(0, .abox 0), (4, .one .nil), (5, .one (.key 9001)), (6, .one (.dv [] (.int .i64 (n))))], [(0, 81, [(.arg 900001 (bytesD (code))), (.dv [] (.int .i64 (ci))), (.dv [] (.int .i64 (ch)))])], [(9001, some (kcOf false (.sl 68 7 (l.length) (l.flatMap eOp))))]⟩ : St)
 iterate 5 refine z ?_
 refine yQ rfl (fun c1 => ?_) fun c1 => ?_
 ·skip
  have d1 := of_decide_eq_true c1
  iterate 4 refine z ?_
  refine ok_region ?_
  refine z ?_
  refine yO rfl rfl (pu_move (.inl rfl) (ev_abox (ev_tmp rfl))) rfl ?_
  refine o_callB 18000 rfl rfl rfl Tryz.call70 (ok_spec_l9Op (code := code) (i := ci) (h := ch) (by omega) (by omega)) (ev_tmp rfl) rfl ac_arg rfl (fun _ => rfl) ad_nil rfl (fun _ => rfl) (fun _ => rfl) (fun zz hz18 => ?_)
  obtain ⟨e18, i18, h18⟩ := zz
  replace hz18 : isOpB e18 = true ∧ plainO e18 ∧ 0 ≤ i18 := hz18
  refine o_build1 (k := 19) (js := [27001]) hT rfl rfl rfl rfl rfl rfl rfl rfl rfl (ev_tmp rfl) rfl rfl (ow_cons' (ow_dv rfl) (ow_cons' (ow_dv rfl) (ow_cons' (ow_dv rfl) (ow_cons' (ow_dv rfl) (ow_cons' (ow_dv rfl) (ow_cons' (ow_key rfl) (ow_cons' (ow_dv rfl) ow_nil rfl) rfl) rfl) rfl) rfl) rfl) rfl) (by decide) (by decide) rfl rfl ?_
  simp only [killT, killB, SV.kill, CV.kill, kk, Nat.reduceBEq]
  refine o_appK (k := 9001) (j := 19) (cs := (l ++ [e18]).flatMap eOp) (n := (l ++ [e18]).length) hT rfl rfl rfl rfl rfl rfl rfl (ev_tmp rfl) rfl rfl rfl (ev_tmp rfl) rfl rfl (by decide) (by dsimp only [kcOf, KC.old]; omega) (by dsimp only [kcOf, KC.old]; omega) (by rw [List.length_append]; rfl) (by rw [List.flatMap_append]; rfl) ?_
  simp only [killT, killB, SV.kill, CV.kill, kk, Nat.reduceBEq]
  refine z ?_
  refine ops_nil ?_
  iterate 2 refine z ?_
  refine ok_region ?_
  iterate 4 refine z ?_
  refine ⟨(n - 1, l ++ [e18], i18, h18), ?_, ?_, weak_sub ⟨rfl, rfl, rfl, rfl, trivial⟩ ⟨rfl, trivial⟩ ⟨rfl, trivial⟩ rfl⟩
  ·refine ⟨fun o ho => ?_, by dsimp only; rw [List.length_append, List.length_singleton]; omega, by dsimp only; omega, by dsimp only; omega⟩
   rcases List.mem_append.1 ho with ho | ho
   ·exact hok o ho
   ·rw [List.mem_singleton] at ho; rw [ho]; exact ⟨hz18.1, hz18.2.1⟩
  ·dsimp only; omega
 ·skip
  have d1 := of_decide_eq_false c1
  iterate 9 refine z ?_
  refine ok_weak (σ' := ⟨[(4, .one (.key 9001)), (0, .abox 0)], [(0, 81, [(.arg 900001 (bytesD (code))), (.dv [] (.int .i64 (ci))), (.dv [] (.int .i64 (ch)))])], [(9001, some (kcOf false (.sl 68 7 (l.length) (l.flatMap eOp))))]⟩) (weak_sub ⟨rfl, rfl, trivial⟩ ⟨rfl, trivial⟩ ⟨rfl, trivial⟩ rfl) ?_
  refine z ?_
  refine fin1 (res_tmp rfl) ⟨((l), ci, ch), ?_, rfl, rfl, rfl, rfl⟩
  try dsimp only
  exact ⟨hok, by omega, by omega⟩
end Go.Proofs.YtjkpoekgnmgofaaGreat

namespace Go.Proofs.YtjkpoekgnmgofaaGreat
open Go.RowKit
open Go.Proofs
set_option linter.unusedVariables false
set_option linter.unusedSimpArgs false

def scIns : List Str → Str → List Str
 | [], n => [n]
 | x :: xs, n => if sLt x n then x :: scIns xs n else if sEq x n then x :: xs else n :: x :: xs
def scopeL (l : List OpT) : List Str := l.foldl (fun out o => scIns out o.2.1) []
theorem sEqI {a b : Str} : sEq a b = true ↔ a = b := by
 unfold sEq
 rw [beq_iff_eq]
 constructor
 ·intro h
  rw [toList_data, toList_data] at h
  exact ByteArray.ext (Array.toList_inj.1 h)
 ·intro h; rw [h]
theorem scIns_mem {n m : Str} : ∀ {l : List Str}, m ∈ scIns l n ↔ m = n ∨ m ∈ l
 | [] => by simp [scIns]
 | x :: xs => by
  have ih := scIns_mem (n := n) (m := m) (l := xs)
  rw [scIns]
  split
  ·simp only [List.mem_cons, ih]
   constructor
   ·rintro (h | h | h)
    ·exact .inr (.inl h)
    ·exact .inl h
    ·exact .inr (.inr h)
   ·rintro (h | h | h)
    ·exact .inr (.inl h)
    ·exact .inl h
    ·exact .inr (.inr h)
  ·split
   ·rename_i h1 h2
    have e := sEqI.1 h2
    simp only [List.mem_cons]
    constructor
    ·exact fun h => .inr h
    ·rintro (h | h)
     ·exact .inl (h.trans e.symm)
     ·exact h
   ·simp only [List.mem_cons]
theorem scope_mem {m : Str} (l : List OpT) : m ∈ scopeL l ↔ ∃ o ∈ l, o.2.1 = m := by
 have key : ∀ (l : List OpT) (out : List Str), m ∈ l.foldl (fun out o => scIns out o.2.1) out ↔ (∃ o ∈ l, o.2.1 = m) ∨ m ∈ out := by
  intro l
  induction l with
  | nil => intro out; simp
  | cons o l ih =>
   intro out
   rw [List.foldl_cons, ih, scIns_mem]
   simp only [List.mem_cons]
   constructor
   ·rintro (⟨p, hp, e⟩ | e | h)
    ·exact .inl ⟨p, .inr hp, e⟩
    ·exact .inl ⟨o, .inl rfl, e.symm⟩
    ·exact .inr h
   ·rintro (⟨p, hp | hp, e⟩ | h)
    ·subst hp; exact .inr (.inl e.symm)
    ·exact .inl ⟨p, hp, e⟩
    ·exact .inr (.inr h)
 have := key l []
 simpa [scopeL] using this

def bl (x y : List UInt8) : Prop := Op.bytesLess x y = true
theorem bl_tri (x y : List UInt8) : bl x y ∨ x = y ∨ bl y x := by
 have h := bl_total x y
 unfold bl
 cases h1 : Op.bytesLess x y with
 | true => exact .inl rfl
 | false =>
  cases h2 : Op.bytesLess y x with
  | true => exact .inr (.inr rfl)
  | false =>
   rw [h1, h2] at h
   exact .inr (.inl (by simpa using h))
theorem srt_uniq : ∀ (x y : List (List UInt8)), x.Pairwise bl → y.Pairwise bl → (∀ z, z ∈ x ↔ z ∈ y) → x = y
 | [], [], _, _, _ => rfl
 | [], b :: y, _, _, h => absurd ((h b).2 (by simp)) (by simp)
 | a :: x, [], _, _, h => absurd ((h a).1 (by simp)) (by simp)
 | a :: x, b :: y, hx, hy, h => by
  obtain ⟨hx1, hx2⟩ := List.pairwise_cons.1 hx
  obtain ⟨hy1, hy2⟩ := List.pairwise_cons.1 hy
  have irr : ∀ z, ¬ bl z z := fun z hz => by unfold bl at hz; rw [bl_irr] at hz; cases hz
  have e : a = b := by
   rcases List.mem_cons.1 ((h a).1 (by simp)) with h1 | h1
   ·exact h1
   ·rcases List.mem_cons.1 ((h b).2 (by simp)) with h2 | h2
    ·exact h2.symm
    ·exact absurd (bl_trans _ _ _ (hy1 a h1) (hx1 b h2)) (irr b)
  subst e
  rw [srt_uniq x y hx2 hy2 (fun z => ?_)]
  constructor
  ·intro hz
   rcases List.mem_cons.1 ((h z).1 (by simp [hz])) with h1 | h1
   ·rw [h1] at hz; exact absurd (hx1 a hz) (irr a)
   ·exact h1
  ·intro hz
   rcases List.mem_cons.1 ((h z).2 (by simp [hz])) with h1 | h1
   ·rw [h1] at hz; exact absurd (hy1 a hz) (irr a)
   ·exact h1
theorem comp_up {d : Array (List UInt8)} (hs : ∀ i, i + 1 < d.size → ¬ bl d[i + 1]! d[i]!) : ∀ m, m ≤ d.size → (Lib.compactUpTo d m).Pairwise bl ∧ (∀ z, z ∈ Lib.compactUpTo d m ↔ ∃ j, j < m ∧ z = d[j]!) ∧ (0 < m → ∀ z ∈ Lib.compactUpTo d m, z = d[m - 1]! ∨ bl z d[m - 1]!)
 | 0, _ => ⟨by simp [Lib.compactUpTo], by simp [Lib.compactUpTo], fun h => by omega⟩
 | m + 1, hm => by
  obtain ⟨i1, i2, i3⟩ := comp_up hs m (by omega)
  rw [Lib.compactUpTo_succ, Nat.add_sub_cancel]
  by_cases hk : Lib.keeps d m = true
  ·rw [if_pos hk]
   have hlt : ∀ z ∈ Lib.compactUpTo d m, bl z d[m]! := fun z hz => by
    have hm0 : 0 < m := by
     obtain ⟨j, hj, _⟩ := (i2 z).1 hz; omega
    have hne : d[m]! ≠ d[m - 1]! := by
     unfold Lib.keeps at hk
     rcases of_decide_eq_true hk with h | h
     ·omega
     ·exact h
    have hb : bl d[m - 1]! d[m]! := by
     rcases bl_tri d[m - 1]! d[m]! with h | h | h
     ·exact h
     ·exact absurd h.symm hne
     ·have := hs (m - 1) (by omega)
      rw [show m - 1 + 1 = m by omega] at this
      exact absurd h this
    rcases i3 hm0 z hz with h | h
    ·rw [h]; exact hb
    ·exact bl_trans _ _ _ h hb
   refine ⟨List.pairwise_append.2 ⟨i1, by simp, fun a ha b hb => ?_⟩, fun z => ?_, fun _ z hz => ?_⟩
   ·rw [List.mem_singleton.1 hb]; exact hlt a ha
   ·rw [List.mem_append, i2, List.mem_singleton]
    constructor
    ·rintro (⟨j, hj, e⟩ | e)
     ·exact ⟨j, by omega, e⟩
     ·exact ⟨m, by omega, e⟩
    ·rintro ⟨j, hj, e⟩
     by_cases h : j = m
     ·subst h; exact .inr e
     ·exact .inl ⟨j, by omega, e⟩
   ·rcases List.mem_append.1 hz with h | h
    ·exact .inr (hlt z h)
    ·exact .inl (List.mem_singleton.1 h)
  ·rw [if_neg hk, List.append_nil]
   have hk' : ¬ m = 0 ∧ d[m]! = d[m - 1]! := by
    unfold Lib.keeps at hk
    simp only [decide_eq_true_eq, not_or, Classical.not_not] at hk
    exact hk
   refine ⟨i1, fun z => ?_, fun _ z hz => ?_⟩
   ·rw [i2]
    constructor
    ·rintro ⟨j, hj, e⟩; exact ⟨j, by omega, e⟩
    ·rintro ⟨j, hj, e⟩
     by_cases h : j = m
     ·subst h; exact ⟨j - 1, by omega, by rw [e, hk'.2]⟩
     ·exact ⟨j, by omega, e⟩
   ·rw [hk'.2]; exact i3 (by omega) z hz
theorem comp_srt (zs : List (List UInt8)) : (Lib.compact (zs.mergeSort fun x y => decide (x ≤ y))).Pairwise bl ∧ ∀ z, z ∈ Lib.compact (zs.mergeSort fun x y => decide (x ≤ y)) ↔ z ∈ zs := by
 have hle : ∀ x y : List UInt8, decide (x ≤ y) = !Op.bytesLess y x := fun x y => by
  rw [bytesLess_eq]
  by_cases h : y < x
  ·rw [decide_eq_true h, decide_eq_false (fun h2 : x ≤ y => h2 h)]; rfl
  ·rw [decide_eq_false h, decide_eq_true (show x ≤ y from h)]; rfl
 have hp : (zs.mergeSort fun x y => decide (x ≤ y)).Pairwise (fun x y => decide (x ≤ y) = true) := by
  refine List.pairwise_mergeSort (fun a b c h1 h2 => ?_) (fun a b => ?_) zs
  ·rw [hle] at h1 h2 ⊢
   simp only [Bool.not_eq_true'] at h1 h2 ⊢
   cases h3 : Op.bytesLess c a with
   | false => rfl
   | true =>
    exfalso
    rcases bl_tri a b with h | h | h
    ·have := bl_trans _ _ _ h3 h
     rw [this] at h2; cases h2
    ·subst h; rw [h3] at h2; cases h2
    ·unfold bl at h; rw [h] at h1; cases h1
  ·rw [hle, hle]
   rcases bl_tri a b with h | h | h
   ·cases h2 : Op.bytesLess b a with
    | false => simp
    | true => have := bl_trans _ _ _ h h2; rw [bl_irr] at this; cases this
   ·subst h; simp [bl_irr]
   ·cases h2 : Op.bytesLess a b with
    | false => simp
    | true => have := bl_trans _ _ _ h h2; rw [bl_irr] at this; cases this
 have hm : ∀ z, z ∈ (zs.mergeSort fun x y => decide (x ≤ y)) ↔ z ∈ zs := fun z => List.mem_mergeSort
 generalize (zs.mergeSort fun x y => decide (x ≤ y)) = s at hp hm
 have hs : ∀ i, i + 1 < s.toArray.size → ¬ bl s.toArray[i + 1]! s.toArray[i]! := fun i hi hb => by
  have hi' : i + 1 < s.length := by simpa using hi
  have h := List.pairwise_iff_getElem.1 hp i (i + 1) (by omega) hi' (by omega)
  rw [hle] at h
  rw [getElem!_pos s.toArray (i + 1) hi, getElem!_pos s.toArray i (by omega)] at hb
  simp only [List.getElem_toArray] at hb
  unfold bl at hb
  rw [hb] at h; cases h
 obtain ⟨h1, h2, _⟩ := comp_up hs s.length (by simp)
 refine ⟨h1, fun z => ?_⟩
 rw [← hm z, show Lib.compact s = Lib.compactUpTo s.toArray s.length from rfl, h2]
 constructor
 ·rintro ⟨j, hj, e⟩
  rw [e, getElem!_pos s.toArray j (by simpa using hj)]
  simp
 ·intro hz
  obtain ⟨j, hj, e⟩ := List.mem_iff_getElem.1 hz
  exact ⟨j, hj, by rw [getElem!_pos s.toArray j (by simpa using hj)]; simp [e]⟩
theorem scIns_srt {n : Str} : ∀ {l : List Str}, l.Pairwise (fun a b => sLt a b = true) → (scIns l n).Pairwise (fun a b => sLt a b = true)
 | [], _ => by simp [scIns]
 | x :: xs, h => by
  obtain ⟨h1, h2⟩ := List.pairwise_cons.1 h
  rw [scIns]
  split
  ·rename_i hx
   refine List.pairwise_cons.2 ⟨fun a ha => ?_, scIns_srt h2⟩
   rcases scIns_mem.1 ha with e | e
   ·rw [e]; exact hx
   ·exact h1 a e
  ·split
   ·exact h
   ·rename_i h3 h4
    have hnx : sLt n x = true := by
     have := sLe_eq x n
     rw [Bool.eq_false_iff.2 h3, Bool.eq_false_iff.2 h4] at this
     simpa using this
    refine List.pairwise_cons.2 ⟨fun a ha => ?_, h⟩
    rcases List.mem_cons.1 ha with e | e
    ·rw [e]; exact hnx
    ·exact bl_trans _ _ _ hnx (h1 a e)
theorem scope_srt (l : List OpT) : (scopeL l).Pairwise (fun a b => sLt a b = true) := by
 have key : ∀ (l : List OpT) (out : List Str), out.Pairwise (fun a b => sLt a b = true) → (l.foldl (fun out o => scIns out o.2.1) out).Pairwise (fun a b => sLt a b = true) := by
  intro l
  induction l with
  | nil => exact fun _ h => h
  | cons o l ih => exact fun out h => ih _ (scIns_srt h)
 exact key l [] .nil
theorem scope_eq (l : List OpT) : Lib.compact ((l.map fun o => o.2.1.data.toList).mergeSort fun x y => decide (x ≤ y)) = (scopeL l).map fun s => s.data.toList := by
 obtain ⟨h1, h2⟩ := comp_srt (l.map fun o => o.2.1.data.toList)
 refine srt_uniq _ _ h1 ?_ (fun z => ?_)
 ·rw [List.pairwise_map]
  refine (scope_srt l).imp (fun {a b} h => ?_)
  unfold sLt at h
  rw [toList_data, toList_data] at h
  exact h
 ·rw [h2, List.mem_map, List.mem_map]
  constructor
  ·rintro ⟨o, ho, e⟩; exact ⟨o.2.1, (scope_mem l).2 ⟨o, ho, rfl⟩, e⟩
  ·rintro ⟨s, hs, e⟩
   obtain ⟨o, ho, e2⟩ := (scope_mem l).1 hs
   exact ⟨o, ho, by rw [e2]; exact e⟩
theorem scope_cs (l : List OpT) : cmpS (srtS (l.map fun o => o.2.1)) = scopeL l := by
 unfold cmpS srtS
 rw [map_ofB, List.map_map]
 have := scope_eq l
 rw [show ((fun s : ByteArray => s.data.toList) ∘ fun o : OpT => o.2.1) = fun o : OpT => o.2.1.data.toList from rfl, this, List.map_map]
 rw [show (ofB ∘ fun s : ByteArray => s.data.toList) = id from rfl, List.map_id]

end Go.Proofs.YtjkpoekgnmgofaaGreat

namespace Go.Proofs.YtjkpoekgnmgofaaGreat
open Go.RowKit
open Go.Proofs
set_option linter.unusedVariables false
set_option linter.unusedSimpArgs false

theorem nm_take {l : List OpT} {k : Nat} (h : k < l.length) : ((l.take (k + 1)).map fun o => o.2.1) = ((l.take k).map fun o => o.2.1) ++ [(l.getD (k : Int).toNat default).2.1] := by
 rw [List.take_add_one, List.getElem?_eq_getElem h, List.map_append, getD_at h]; rfl

theorem ok_impl_ScopeOf {l : List OpT} (hl : l.length ≤ 1099511627776) : KFn Tryz.prog 20 [.one (.dv [] (opsD (l)))] (.one (.key 95000)) [(95000, some (kcOf false (strsD (scopeL l))))] := by
 refine ⟨fn_intro Tryz.func20 rfl Tryz.ntmps20 Tryz.results20 rfl (fun C => ?_)⟩
 refine ok_fact (x := .tmp 0) (ev_tmp rfl) fun f0 => ?_
 iterate 4 refine z ?_
 refine o_build0 (k := 95000) hT rfl rfl rfl rfl rfl rfl rfl rfl ?_
 iterate 9 refine z ?_
 refine ok_loop (ι := Nat) (fun zz => ⟨[(2, .one .nil), (3, .one (.key 95000)), (7, .one (.dv [] (opsD (l)))), (8, .one (.dv [] (.int .i64 ((((l)).length : Int))))), (9, .one (.dv [] (.int .i64 ((zz : Int)))))], [], [(95000, some (kcOf false (.sl 9 1 (((l.take zz).map fun o => o.2.1).length) (((l.take zz).map fun o => o.2.1).flatMap eStr))))]⟩) (fun zz => zz ≤ l.length) (fun zz => l.length - zz) (0) ?_ (weak_sub ⟨rfl, rfl, rfl, rfl, rfl, trivial⟩ trivial ⟨rfl, trivial⟩ rfl) (fun zz hx => ?_)
 ·exact Nat.zero_le _
 obtain ⟨k, rfl⟩ : ∃ v, v = zz := ⟨_, rfl⟩
 replace hx : k ≤ l.length := hx
 show Ok _ _ _ _ _ (⟨[(2, .one .nil), (3, .one (.key 95000)), (7, .one (.dv [] (opsD (l)))), (8, .one (.dv [] (.int .i64 ((((l)).length : Int))))), (9, .one (.dv [] (.int .i64 ((k : Int)))))], [], [(95000, some (kcOf false (.sl 9 1 (((l.take k).map fun o => o.2.1).length) (((l.take k).map fun o => o.2.1).flatMap eStr))))]⟩ : St)
 iterate 3 refine z ?_
 refine ok_seq ?_
 refine yQ rfl (fun c1 => ?_) fun c1 => ?_
 ·skip
  have d1 := of_decide_eq_true c1
  have hk2 : k < l.length := by omega
  iterate 10 refine z ?_
  refine ok_region ?_
  iterate 3 refine z ?_
  refine o_build1 (k := 16) (js := []) hT rfl rfl rfl rfl rfl rfl rfl rfl rfl (ev_tmp rfl) rfl rfl (ow_cons' (ow_dv rfl) ow_nil rfl) (by decide) (by decide) rfl rfl ?_
  simp only [killT, killB, SV.kill, CV.kill, kk, Nat.reduceBEq]
  refine o_appK (k := 95000) (j := 16) (cs := ((l.take (k + 1)).map fun o => o.2.1).flatMap eStr) (n := ((l.take (k + 1)).map fun o => o.2.1).length) hT rfl rfl rfl rfl rfl rfl rfl (ev_tmp rfl) rfl rfl rfl (ev_tmp rfl) rfl rfl (by decide) (by dsimp only [kcOf]; rw [List.length_map, List.length_take]; omega) (by dsimp only [kcOf]; rw [List.length_map, List.length_take]; omega) (by rw [nm_take hk2, List.length_append]; rfl) (by rw [nm_take hk2, List.flatMap_append]; rfl) ?_
  simp only [killT, killB, SV.kill, CV.kill, kk, Nat.reduceBEq]
  refine z ?_
  refine ops_nil ?_
  iterate 2 refine z ?_
  refine ok_region ?_
  iterate 3 refine z ?_
  refine ⟨k + 1, ?_, ?_, weak_sub ⟨rfl, rfl, rfl, rfl, rfl, trivial⟩ trivial ⟨rfl, trivial⟩ rfl⟩
  ·omega
  ·omega
 ·skip
  have d1 := of_decide_eq_false c1
  have hk2 : l.take k = l := List.take_of_length_le (by omega)
  rw [hk2]
  iterate 7 refine z ?_
  refine o_sort (k := 95000) (l := (l.map fun o => o.2.1)) (n := (srtS (l.map fun o => o.2.1)).length) (cs := strD (srtS (l.map fun o => o.2.1))) rfl rfl rfl rfl Tryz.call41 sortOk (ev_tmp rfl) rfl rfl rfl (rfl) (rfl) (by rw [List.length_map]; omega) ((srtS_len _).symm) (rfl) ?_
  simp only [killT, killB, SV.kill, CV.kill, kk, Nat.reduceBEq]
  iterate 3 refine z ?_
  refine o_compact (k := 95000) (l := (srtS (l.map fun o => o.2.1))) (n := (scopeL l).length) (cs := (scopeL l).flatMap eStr) rfl rfl rfl rfl Tryz.call42 compOk (ev_tmp rfl) rfl rfl rfl (rfl) (rfl) (by rw [srtS_len, List.length_map]; omega) (by rw [scope_cs]) (by rw [scope_cs]; rfl) ?_
  simp only [killT, killB, SV.kill, CV.kill, kk, Nat.reduceBEq]
  iterate 2 refine z ?_
  refine ok_weak (σ' := ⟨[(2, .one (.key 95000))], [], [(95000, some (kcOf false (strsD (scopeL l))))]⟩) (weak_sub ⟨rfl, trivial⟩ trivial ⟨rfl, trivial⟩ rfl) ?_
  refine z ?_
  refine fin1 (res_tmp rfl) ?_
  exact ⟨rfl, rfl⟩

end Go.Proofs.YtjkpoekgnmgofaaGreat

namespace Go.Proofs.YtjkpoekgnmgofaaGreat
open Go.RowKit
open Go.Proofs
set_option linter.unusedVariables false
set_option linter.unusedSimpArgs false

def bkOf (d : DbT) (ns : List Str) : List StoreT := ns.flatMap fun n => if 0 ≤ fndS d n then [d.2.2.1.getD (fndS d n).toNat default] else []
def startTx (d : DbT) (q : List TxT) (i : Int) : List TxT × Bool := if canS q i = true then (q.set i.toNat ((q.getD i.toNat default).1, (q.getD i.toNat default).2.1, (q.getD i.toNat default).2.2.1, 1, bkOf d (scopeL (q.getD i.toNat default).2.1)), true) else (q, false)
theorem scIns_len {n : Str} : ∀ {l : List Str}, (scIns l n).length ≤ l.length + 1
 | [] => Nat.le_refl _
 | x :: xs => by
  have ih := scIns_len (n := n) (l := xs)
  rw [scIns]
  split
  ·rw [List.length_cons, List.length_cons]; omega
  ·split
   ·omega
   ·exact Nat.le_refl _
theorem scope_len (l : List OpT) : (scopeL l).length ≤ l.length := by
 have key : ∀ (l : List OpT) (out : List Str), (l.foldl (fun out o => scIns out o.2.1) out).length ≤ out.length + l.length := by
  intro l
  induction l with
  | nil => exact fun out => Nat.le_refl _
  | cons o l ih =>
   intro out
   have h1 := ih (scIns out o.2.1)
   have h2 := scIns_len (n := o.2.1) (l := out)
   rw [List.foldl_cons, List.length_cons]; omega
 have := key l []
 rw [List.length_nil, Nat.zero_add] at this
 exact this
theorem bk_len (d : DbT) : ∀ ns : List Str, (bkOf d ns).length ≤ ns.length
 | [] => Nat.le_refl _
 | n :: ns => by
  have ih := bk_len d ns
  show (List.flatMap _ (n :: ns)).length ≤ _
  rw [List.flatMap_cons, List.length_append, List.length_cons]
  have : (List.flatMap (fun n => if 0 ≤ fndS d n then [d.2.2.1.getD (fndS d n).toNat default] else []) ns).length ≤ ns.length := ih
  split
  ·rw [List.length_singleton]; omega
  ·rw [List.length_nil]; omega
theorem bk_step {d : DbT} {ns : List Str} {k : Nat} (h : k < ns.length) : bkOf d (ns.take (k + 1)) = bkOf d (ns.take k) ++ (if 0 ≤ fndS d (ns.getD (k : Int).toNat default) then [d.2.2.1.getD (fndS d (ns.getD (k : Int).toNat default)).toNat default] else []) := by
 unfold bkOf
 rw [List.take_add_one, List.getElem?_eq_getElem h, List.flatMap_append, getD_at h]
 simp
theorem wS_get {l : List StoreT} {j : Nat} (h : j < l.length) : wStore (l.getD j default) ≤ wSum wStore l := by
 have h1 := wSum_succ wStore l j h
 rw [Int.toNat_natCast] at h1
 omega
theorem bk_w (d : DbT) : ∀ ns : List Str, wSum wStore (bkOf d ns) ≤ ns.length * wSum wStore d.2.2.1
 | [] => Nat.zero_le _
 | n :: ns => by
  have ih := bk_w d ns
  have e : bkOf d (n :: ns) = (if 0 ≤ fndS d n then [d.2.2.1.getD (fndS d n).toNat default] else []) ++ bkOf d ns := by unfold bkOf; rw [List.flatMap_cons]
  rw [e, List.length_cons, Nat.succ_mul]
  have hs : ∀ a b : List StoreT, wSum wStore (a ++ b) = wSum wStore a + wSum wStore b := fun a b => by simp [wSum]
  rw [hs]
  split
  ·rename_i h0
   have hlt := fndS_lt d n
   have h1 := wS_get (l := d.2.2.1) (j := (fndS d n).toNat) (by omega)
   have e1 : wSum wStore [d.2.2.1.getD (fndS d n).toNat default] = wStore (d.2.2.1.getD (fndS d n).toNat default) := by simp [wSum]
   rw [e1]; omega
  ·have e1 : wSum wStore [] = 0 := rfl
   rw [e1]; omega
theorem start_no {d : DbT} {q : List TxT} {i : Int} (h : canS q i = false) : startTx d q i = (q, false) := by unfold startTx; rw [if_neg (by rw [h]; decide)]
theorem start_yes {d : DbT} {q : List TxT} {i : Int} {t : TxT} (ht : t = q.getD i.toNat default) (h : canS q i = true) : startTx d q i = (q.set i.toNat (t.1, t.2.1, t.2.2.1, 1, bkOf d (scopeL t.2.1)), true) := by unfold startTx; rw [if_pos h, ht]
theorem can_in {q : List TxT} {i : Int} (h : canS q i = true) : 0 ≤ i ∧ i < (q.length : Int) := by
 unfold canS at h
 simp only [Bool.and_eq_true, decide_eq_true_eq] at h
 exact h.1.1
end Go.Proofs.YtjkpoekgnmgofaaGreat

namespace Go.Proofs.YtjkpoekgnmgofaaGreat
open Go.RowKit
open Go.Proofs
set_option linter.unusedVariables false
set_option linter.unusedSimpArgs false
theorem ok_impl_StartTx {d : DbT} {q : List TxT} {i : Int} (hb : wDatabase d ≤ 549755813888) (hq : wList wTx q ≤ 549755813888) : KFn Tryz.prog 8 [.agg [(.dv [] (.str (d.1))), (.dv [] (.int .i64 (d.2.1))), (.dv [] (storesD (d.2.2.1))), (.dv [] (defsD (d.2.2.2)))], .agg [(.dv [] (txsD (q)))], .one (.dv [] (.int .i64 (i)))] (.tup [(true, [(.key 95031)]), (false, [(.dv [] (.bool ((startTx d q i).2)))])]) [(95031, some (kcOf false (txsD ((startTx d q i).1))))] := by
 refine ⟨fn_intro Tryz.func8 rfl Tryz.ntmps8 Tryz.results8 rfl (fun C => ?_)⟩
 have hwq : wList wTx q = q.length + wSum wTx q := rfl
 obtain ⟨t, ht⟩ : ∃ t, t = q.getD i.toNat default := ⟨_, rfl⟩
 have hwt : wTx t = wList wOp t.2.1 + wList wStore t.2.2.2.2 := rfl
 have hwo : wList wOp t.2.1 = t.2.1.length + wSum wOp t.2.1 := rfl
 have hwd : wDatabase d = d.1.size + wList wStore d.2.2.1 + wList wIndexDef d.2.2.2 := rfl
 have hws0 : wList wStore d.2.2.1 = d.2.2.1.length + wSum wStore d.2.2.1 := rfl
 refine yF 0 0 rfl rfl fun f0_0 => ?_
 refine yF 0 1 rfl rfl fun f0_1 => ?_
 refine yF 0 2 rfl rfl fun f0_2 => ?_
 refine yF 0 3 rfl rfl fun f0_3 => ?_
 refine yF 1 0 rfl rfl fun f1_0 => ?_
 refine ok_fact (x := .tmp 2) (ev_tmp rfl) fun f2 => ?_
 iterate 8 refine z ?_
 refine zK 95000 Tryz.call19 ?_ (hf := ok_impl_copyQueue (x := q) (by omega))
 iterate 7 refine z ?_
 refine zC Tryz.call7 ?_ (hf := ok_impl_CanStart (q := q) (i := i) )
 iterate 2 refine z ?_
 refine yQ rfl (fun c1 => ?_) fun c1 => ?_
 ·skip
  have hcan : canS q i = false := by simpa using c1
  iterate 5 refine z ?_
  rw [start_no hcan]
  refine ok_weak (σ' := ⟨[(6, .box 6 0), (7, .one (.dv [] (.bool (false))))], [(6, 30, [(.key 95031)])], [(95031, some (kcOf false (txsD (q))))]⟩) (weak_sub ⟨rfl, rfl, trivial⟩ ⟨rfl, trivial⟩ ⟨rfl, trivial⟩ rfl) ?_
  iterate 2 refine z ?_
  refine fin2 (res_cell hT rfl rfl rfl rfl) (res_tmp rfl) rfl rfl ?_
  first | exact ⟨rfl, rfl⟩ | skip
 ·skip
  have hcan : canS q i = true := by simpa using c1
  have hcb := can_in hcan
  have hit : i.toNat < q.length := by omega
  have htw := tx_w hit ht
  have hsl := scope_len t.2.1
  refine ok_kcs (k := 95031) (cs' := mid ((q.take (i).toNat).flatMap eTx) [.int .i64 (t.1), opsD (t.2.1), .int .i64 (t.2.2.1), .int .i64 (t.2.2.2.1), storesD (t.2.2.2.2)] ((q.drop ((i).toNat + 1)).flatMap eTx)) rfl (flat_open hit ht) ?_
  iterate 6 refine z ?_
  refine yO rfl rfl (pu_indexK (i := (i).toNat) hT rfl rfl rfl (ev_tmp rfl) rfl (ev_tmp rfl) (by omega) (by show _ < (((q)).length); omega)) rfl ?_
  iterate 4 refine z ?_
  refine yO rfl rfl (pu_nilE rfl (ev_tmp rfl)) rfl ?_
  refine z ?_
  refine o_storeE (js := []) (cs := mid ((q.take (i).toNat).flatMap eTx) [.int .i64 (t.1), opsD (t.2.1), .int .i64 (t.2.2.1), .int .i64 (1), storesD (t.2.2.2.2)] ((q.drop ((i).toNat + 1)).flatMap eTx)) hT rfl rfl rfl rfl (ev_tmp rfl) (ev_int (inR_lit rfl)) rfl rfl rfl rfl (ow_cons' (ow_dv rfl) ow_nil rfl) (by decide) (by decide) rfl (le_mid (off := ((i).toNat * 5 + 3)) (n := 1) (j := 3) (flat_pre (sz := 5) (fun _ => rfl) (Nat.le_of_lt hit)) (by omega) (Nat.le_of_ble_eq_true rfl)) (setR_mid (off := ((i).toNat * 5 + 3)) (j := 3) (flat_pre (sz := 5) (fun _ => rfl) (Nat.le_of_lt hit)) (by omega) rfl (Nat.le_of_ble_eq_true rfl)) ?_
  simp only [killT, killB, SV.kill, CV.kill, kk, Nat.reduceBEq]
  iterate 3 refine z ?_
  refine yO rfl rfl (pu_nilE rfl (ev_tmp rfl)) rfl ?_
  refine z ?_
  refine o_storeE (js := []) (cs := mid ((q.take (i).toNat).flatMap eTx) [.int .i64 (t.1), opsD (t.2.1), .int .i64 (t.2.2.1), .int .i64 (1), .sl 60 3 0 []] ((q.drop ((i).toNat + 1)).flatMap eTx)) hT rfl rfl rfl rfl (ev_tmp rfl) ev_nil rfl rfl rfl rfl (ow_cons' (ow_nilc (e := 60) (sz := 3) rfl) ow_nil rfl) (by decide) (by decide) rfl (le_mid (off := ((i).toNat * 5 + 4)) (n := 1) (j := 4) (flat_pre (sz := 5) (fun _ => rfl) (Nat.le_of_lt hit)) (by omega) (Nat.le_of_ble_eq_true rfl)) (setR_mid (off := ((i).toNat * 5 + 4)) (j := 4) (flat_pre (sz := 5) (fun _ => rfl) (Nat.le_of_lt hit)) (by omega) rfl (Nat.le_of_ble_eq_true rfl)) ?_
  simp only [killT, killB, SV.kill, CV.kill, kk, Nat.reduceBEq]
  iterate 4 refine z ?_
  refine yO rfl rfl (pu_nilE rfl (ev_tmp rfl)) rfl ?_
  refine z ?_
  refine yO rfl rfl (pu_loadE1 hT rfl rfl (ev_tmp rfl) rfl (get_mid (off := ((i).toNat * 5 + 1)) (j := 1) (flat_pre (sz := 5) (fun _ => rfl) (Nat.le_of_lt hit)) (by omega) rfl)) rfl ?_
  refine zK 0 Tryz.call20 ?_ (hf := ok_impl_ScopeOf (l := t.2.1) (by omega))
  refine yO rfl rfl (pu_lenKn (n := ((scopeL (t.2.1))).length) hT rfl rfl (ev_tmp rfl) rfl rfl) rfl ?_
  iterate 3 refine z ?_
  refine ok_weak (weak_view (d := 34) (dd := strsD (scopeL t.2.1)) rfl rfl (.refl _)) ?_
  refine ok_loop (ι := Nat) (fun zz => ⟨[(3, .box 3 0), (6, .box 6 0), (7, .one (.dv [] (.bool (false)))), (8, .box 8 0), (9, .eptr 95031 ((i).toNat * 5)), (34, .one (.dv [95000] (strsD (scopeL t.2.1)))), (35, .one (.dv [] (.int .i64 ((((scopeL (t.2.1))).length : Int))))), (36, .one (.dv [] (.int .i64 ((zz : Int)))))], [(3, 27, [(.dv [] (.str (d.1))), (.dv [] (.int .i64 (d.2.1))), (.dv [] (storesD (d.2.2.1))), (.dv [] (defsD (d.2.2.2)))]), (6, 30, [.nil]), (8, 30, [(.key 95031)])], [(95031, some (kcOf false (.sl 40 5 (q.length) (mid ((q.take (i).toNat).flatMap eTx) [.int .i64 (t.1), opsD (t.2.1), .int .i64 (t.2.2.1), .int .i64 (1), storesD ((bkOf d ((scopeL t.2.1).take zz)))] ((q.drop ((i).toNat + 1)).flatMap eTx))))), (95000, some (kcOf false (strsD (scopeL (t.2.1)))))]⟩) (fun zz => zz ≤ (scopeL t.2.1).length) (fun zz => (scopeL t.2.1).length - zz) (0) ?_ (weak_sub ⟨rfl, rfl, rfl, rfl, rfl, rfl, rfl, rfl, trivial⟩ ⟨rfl, rfl, rfl, trivial⟩ ⟨rfl, rfl, trivial⟩ rfl) (fun zz hx => ?_)
  ·exact Nat.zero_le _
  obtain ⟨k, rfl⟩ : ∃ v, v = zz := ⟨_, rfl⟩
  replace hx : k ≤ (scopeL t.2.1).length := hx
  show Ok _ _ _ _ _ (⟨[(3, .box 3 0), (6, .box 6 0), (7, .one (.dv [] (.bool (false)))), (8, .box 8 0), (9, .eptr 95031 ((i).toNat * 5)), (34, .one (.dv [95000] (strsD (scopeL t.2.1)))), (35, .one (.dv [] (.int .i64 ((((scopeL (t.2.1))).length : Int))))), (36, .one (.dv [] (.int .i64 ((k : Int)))))], [(3, 27, [(.dv [] (.str (d.1))), (.dv [] (.int .i64 (d.2.1))), (.dv [] (storesD (d.2.2.1))), (.dv [] (defsD (d.2.2.2)))]), (6, 30, [.nil]), (8, 30, [(.key 95031)])], [(95031, some (kcOf false (.sl 40 5 (q.length) (mid ((q.take (i).toNat).flatMap eTx) [.int .i64 (t.1), opsD (t.2.1), .int .i64 (t.2.2.1), .int .i64 (1), storesD ((bkOf d ((scopeL t.2.1).take k)))] ((q.drop ((i).toNat + 1)).flatMap eTx))))), (95000, some (kcOf false (strsD (scopeL (t.2.1)))))]⟩ : St)
  iterate 3 refine z ?_
  refine ok_seq ?_
  refine yQ rfl (fun c2 => ?_) fun c2 => ?_
  ·skip
   have d2 := of_decide_eq_true c2
   have hn2 : k < (scopeL t.2.1).length := by omega
   have hbl := bk_len d ((scopeL t.2.1).take k)
   rw [List.length_take] at hbl
   iterate 12 refine z ?_
   refine zC Tryz.call21 ?_ (hf := ok_impl_FindStore (x := d) (n := ((scopeL t.2.1).getD (k : Int).toNat default)))
   iterate 6 refine z ?_
   refine yQ rfl (fun c3 => ?_) fun c3 => ?_
   ·skip
    have d3 := of_decide_eq_true c3
    have hlt : (findI (hasName ((scopeL t.2.1).getD (k : Int).toNat default)) d.2.2.1 0) < d.2.2.1.length := fndS_lt d ((scopeL t.2.1).getD (k : Int).toNat default)
    have hkn : (findI (hasName ((scopeL t.2.1).getD (k : Int).toNat default)) d.2.2.1 0).toNat < d.2.2.1.length := by omega
    have hws := wS_get hkn
    have hbs := bk_step (d := d) hn2
    rw [if_pos (show 0 ≤ fndS d ((scopeL t.2.1).getD (k : Int).toNat default) from d3)] at hbs
    refine ok_regionK 95031 [0, 1, 2, 3, 4, 5, 6, 7, 8, 9, 10, 11, 12, 13, 14] (oB := [3, 6, 8]) (oK := [95000]) (by kernel_rfl) rfl rfl rfl ?_
    refine k_take 0 rfl (by kernel_rfl) rfl rfl (pu_move (.inl rfl) (ev_tmp rfl)) rfl rfl rfl rfl ?_
    refine k_take 1 rfl (by kernel_rfl) rfl rfl (pu_move (.inl rfl) (ev_tmp rfl)) rfl rfl rfl rfl ?_
    refine k_take 2 rfl (by kernel_rfl) rfl rfl (pu_nilE rfl (ev_tmp rfl)) rfl rfl rfl rfl ?_
    refine k_take 3 rfl (by kernel_rfl) rfl rfl (pu_fieldE hT rfl rfl rfl (ev_tmp rfl)) rfl rfl rfl rfl ?_
    refine k_take 5 rfl (by kernel_rfl) rfl rfl (pu_fieldBox hT rfl rfl rfl (ev_tmp rfl)) rfl rfl rfl rfl ?_
    refine k_take 6 rfl (by kernel_rfl) rfl rfl (pu_loadBox1 hT rfl rfl (ev_tmp rfl) rfl rfl) rfl rfl rfl rfl ?_
    refine k_take 7 rfl (by kernel_rfl) rfl rfl (pu_move (.inl rfl) (ev_tmp rfl)) rfl rfl rfl rfl ?_
    refine k_take 8 rfl (by kernel_rfl) rfl rfl (pu_indexD hT rfl rfl rfl (ev_tmp rfl) (ev_tmp rfl) (fun _ => rfl) (by omega) (by omega)) rfl rfl rfl rfl ?_
    refine k_take 9 rfl (by kernel_rfl) rfl rfl (pu_loadRefA hT rfl rfl (ev_tmp rfl) rfl) rfl rfl rfl rfl ?_
    refine k_split 4 [10] (by kernel_rfl) ⟨?_, ?_, trivial⟩
    ·skip
     refine kj_pure 4 rfl rfl rfl (pu_loadE1 hT rfl rfl (ev_tmp rfl) rfl (get_mid (off := ((i).toNat * 5 + 4)) (j := 4) (flat_pre (sz := 5) (fun _ => rfl) (Nat.le_of_lt hit)) (by omega) rfl)) rfl rfl rfl rfl rfl ?_
     refine k_split 10 [] (by kernel_rfl) ⟨?_, trivial⟩
     ·skip
      refine kj_callK 96970 10 rfl rfl rfl rfl Tryz.call22 (ok_impl_copyStore (x := (d.2.2.1.getD (findI (hasName ((scopeL t.2.1).getD (k : Int).toNat default)) d.2.2.1 0).toNat default)) (by omega)) (as_cons (ev_tmp rfl) (ag_agg (ag_cons ac_dv (ag_cons ac_dv (ag_cons ac_dv ag_nil)))) as_nil) rfl rfl rfl rfl rfl rfl ?_
      refine k_split 11 [] (by kernel_rfl) ⟨?_, trivial⟩
      ·skip
       refine kj_buildN (k := 56) (js := [97000]) 11 hT rfl rfl rfl rfl rfl rfl rfl rfl rfl rfl rfl rfl (ep_cons (ev_tmp rfl) rfl rfl rfl ep_nil) (ow_cons' (ow_dv rfl) (ow_cons' (ow_key rfl) (ow_cons' (ow_dv rfl) ow_nil rfl) rfl) rfl) (by decide) (by decide) rfl rfl rfl rfl rfl ?_
       simp only [killT, killB, SV.kill, CV.kill, kk, Nat.reduceBEq]
       refine k_split 12 [] (by kernel_rfl) ⟨?_, trivial⟩
       ·skip
        refine kj_appN (t := 49) (j := 56) (ccs := mid ((q.take (i).toNat).flatMap eTx) [.int .i64 (t.1), opsD (t.2.1), .int .i64 (t.2.2.1), .int .i64 (1), .hole] ((q.drop ((i).toNat + 1)).flatMap eTx)) (n2 := (bkOf d ((scopeL t.2.1).take (k + 1))).length) (cs2 := (bkOf d ((scopeL t.2.1).take (k + 1))).flatMap eStore) 98000 12 hT rfl rfl rfl rfl rfl rfl rfl rfl rfl rfl (get_mid (off := ((i).toNat * 5 + 4)) (j := 4) (flat_pre (sz := 5) (fun _ => rfl) (Nat.le_of_lt hit)) (by omega) rfl) rfl (set_mid (off := ((i).toNat * 5 + 4)) (j := 4) (flat_pre (sz := 5) (fun _ => rfl) (Nat.le_of_lt hit)) (by omega) rfl (Nat.lt_of_lt_of_le (Nat.lt_succ_self _) (Nat.le_of_ble_eq_true rfl))) (ev_tmp rfl) rfl rfl rfl (by dsimp only [kcOf]; omega) (by dsimp only [kcOf]; omega) (by rw [hbs, List.length_append]; rfl) (by rw [hbs, List.flatMap_append]; rfl) rfl rfl ?_
        simp only [killT, killB, SV.kill, CV.kill, kk, Nat.reduceBEq]
        refine k_take 13 rfl (by kernel_rfl) rfl rfl (pu_nilE rfl (ev_tmp rfl)) rfl rfl rfl rfl ?_
        refine k_take 14 rfl (by kernel_rfl) rfl rfl (pu_fieldE hT rfl rfl rfl (ev_tmp rfl)) rfl rfl rfl rfl ?_
        refine k_chain [15] rfl rfl (by kernel_rfl) ?_
        refine o_storeE (js := [98000]) (cs := mid ((q.take (i).toNat).flatMap eTx) [.int .i64 (t.1), opsD (t.2.1), .int .i64 (t.2.2.1), .int .i64 (1), .sl 60 3 ((bkOf d ((scopeL t.2.1).take (k + 1))).length) ((bkOf d ((scopeL t.2.1).take (k + 1))).flatMap eStore)] ((q.drop ((i).toNat + 1)).flatMap eTx)) hT rfl rfl rfl rfl (ev_tmp rfl) (ev_tmp rfl) rfl rfl rfl rfl (ow_cons' (ow_key rfl) ow_nil rfl) (by decide) (by decide) rfl (le_mid (off := ((i).toNat * 5 + 4)) (n := 1) (j := 4) (flat_pre (sz := 5) (fun _ => rfl) (Nat.le_of_lt hit)) (by omega) (Nat.le_of_ble_eq_true rfl)) (setR_mid (off := ((i).toNat * 5 + 4)) (j := 4) (flat_pre (sz := 5) (fun _ => rfl) (Nat.le_of_lt hit)) (by omega) rfl (Nat.le_of_ble_eq_true rfl)) ?_
        simp only [killT, killB, SV.kill, CV.kill, kk, Nat.reduceBEq]
        refine ops_nil ?_
        iterate 2 refine z ?_
        refine ok_region ?_
        iterate 3 refine z ?_
        refine ⟨k + 1, ?_, ?_, weak_sub ⟨rfl, rfl, rfl, rfl, rfl, rfl, rfl, rfl, trivial⟩ ⟨rfl, rfl, rfl, trivial⟩ ⟨rfl, rfl, trivial⟩ rfl⟩
        ·omega
        ·omega
    ·skip
     refine kj_callK 96970 10 rfl rfl rfl rfl Tryz.call22 (ok_impl_copyStore (x := (d.2.2.1.getD (findI (hasName ((scopeL t.2.1).getD (k : Int).toNat default)) d.2.2.1 0).toNat default)) (by omega)) (as_cons (ev_tmp rfl) (ag_agg (ag_cons ac_dv (ag_cons ac_dv (ag_cons ac_dv ag_nil)))) as_nil) rfl rfl rfl rfl rfl rfl ?_
     refine k_split 4 [11] (by kernel_rfl) ⟨?_, ?_, trivial⟩
     ·skip
      refine kj_pure 4 rfl rfl rfl (pu_loadE1 hT rfl rfl (ev_tmp rfl) rfl (get_mid (off := ((i).toNat * 5 + 4)) (j := 4) (flat_pre (sz := 5) (fun _ => rfl) (Nat.le_of_lt hit)) (by omega) rfl)) rfl rfl rfl rfl rfl ?_
      refine k_split 11 [] (by kernel_rfl) ⟨?_, trivial⟩
      ·skip
       refine kj_buildN (k := 56) (js := [97000]) 11 hT rfl rfl rfl rfl rfl rfl rfl rfl rfl rfl rfl rfl (ep_cons (ev_tmp rfl) rfl rfl rfl ep_nil) (ow_cons' (ow_dv rfl) (ow_cons' (ow_key rfl) (ow_cons' (ow_dv rfl) ow_nil rfl) rfl) rfl) (by decide) (by decide) rfl rfl rfl rfl rfl ?_
       simp only [killT, killB, SV.kill, CV.kill, kk, Nat.reduceBEq]
       refine k_split 12 [] (by kernel_rfl) ⟨?_, trivial⟩
       ·skip
        refine kj_appN (t := 49) (j := 56) (ccs := mid ((q.take (i).toNat).flatMap eTx) [.int .i64 (t.1), opsD (t.2.1), .int .i64 (t.2.2.1), .int .i64 (1), .hole] ((q.drop ((i).toNat + 1)).flatMap eTx)) (n2 := (bkOf d ((scopeL t.2.1).take (k + 1))).length) (cs2 := (bkOf d ((scopeL t.2.1).take (k + 1))).flatMap eStore) 98000 12 hT rfl rfl rfl rfl rfl rfl rfl rfl rfl rfl (get_mid (off := ((i).toNat * 5 + 4)) (j := 4) (flat_pre (sz := 5) (fun _ => rfl) (Nat.le_of_lt hit)) (by omega) rfl) rfl (set_mid (off := ((i).toNat * 5 + 4)) (j := 4) (flat_pre (sz := 5) (fun _ => rfl) (Nat.le_of_lt hit)) (by omega) rfl (Nat.lt_of_lt_of_le (Nat.lt_succ_self _) (Nat.le_of_ble_eq_true rfl))) (ev_tmp rfl) rfl rfl rfl (by dsimp only [kcOf]; omega) (by dsimp only [kcOf]; omega) (by rw [hbs, List.length_append]; rfl) (by rw [hbs, List.flatMap_append]; rfl) rfl rfl ?_
        simp only [killT, killB, SV.kill, CV.kill, kk, Nat.reduceBEq]
        refine k_take 13 rfl (by kernel_rfl) rfl rfl (pu_nilE rfl (ev_tmp rfl)) rfl rfl rfl rfl ?_
        refine k_take 14 rfl (by kernel_rfl) rfl rfl (pu_fieldE hT rfl rfl rfl (ev_tmp rfl)) rfl rfl rfl rfl ?_
        refine k_chain [15] rfl rfl (by kernel_rfl) ?_
        refine o_storeE (js := [98000]) (cs := mid ((q.take (i).toNat).flatMap eTx) [.int .i64 (t.1), opsD (t.2.1), .int .i64 (t.2.2.1), .int .i64 (1), .sl 60 3 ((bkOf d ((scopeL t.2.1).take (k + 1))).length) ((bkOf d ((scopeL t.2.1).take (k + 1))).flatMap eStore)] ((q.drop ((i).toNat + 1)).flatMap eTx)) hT rfl rfl rfl rfl (ev_tmp rfl) (ev_tmp rfl) rfl rfl rfl rfl (ow_cons' (ow_key rfl) ow_nil rfl) (by decide) (by decide) rfl (le_mid (off := ((i).toNat * 5 + 4)) (n := 1) (j := 4) (flat_pre (sz := 5) (fun _ => rfl) (Nat.le_of_lt hit)) (by omega) (Nat.le_of_ble_eq_true rfl)) (setR_mid (off := ((i).toNat * 5 + 4)) (j := 4) (flat_pre (sz := 5) (fun _ => rfl) (Nat.le_of_lt hit)) (by omega) rfl (Nat.le_of_ble_eq_true rfl)) ?_
        simp only [killT, killB, SV.kill, CV.kill, kk, Nat.reduceBEq]
        refine ops_nil ?_
        iterate 2 refine z ?_
        refine ok_region ?_
        iterate 3 refine z ?_
        refine ⟨k + 1, ?_, ?_, weak_sub ⟨rfl, rfl, rfl, rfl, rfl, rfl, rfl, rfl, trivial⟩ ⟨rfl, rfl, rfl, trivial⟩ ⟨rfl, rfl, trivial⟩ rfl⟩
        ·omega
        ·omega
     ·skip
      refine kj_buildN (k := 56) (js := [97000]) 11 hT rfl rfl rfl rfl rfl rfl rfl rfl rfl rfl rfl rfl (ep_cons (ev_tmp rfl) rfl rfl rfl ep_nil) (ow_cons' (ow_dv rfl) (ow_cons' (ow_key rfl) (ow_cons' (ow_dv rfl) ow_nil rfl) rfl) rfl) (by decide) (by decide) rfl rfl rfl rfl rfl ?_
      simp only [killT, killB, SV.kill, CV.kill, kk, Nat.reduceBEq]
      refine k_split 4 [] (by kernel_rfl) ⟨?_, trivial⟩
      ·skip
       refine kj_pure 4 rfl rfl rfl (pu_loadE1 hT rfl rfl (ev_tmp rfl) rfl (get_mid (off := ((i).toNat * 5 + 4)) (j := 4) (flat_pre (sz := 5) (fun _ => rfl) (Nat.le_of_lt hit)) (by omega) rfl)) rfl rfl rfl rfl rfl ?_
       refine k_split 12 [] (by kernel_rfl) ⟨?_, trivial⟩
       ·skip
        refine kj_appN (t := 49) (j := 56) (ccs := mid ((q.take (i).toNat).flatMap eTx) [.int .i64 (t.1), opsD (t.2.1), .int .i64 (t.2.2.1), .int .i64 (1), .hole] ((q.drop ((i).toNat + 1)).flatMap eTx)) (n2 := (bkOf d ((scopeL t.2.1).take (k + 1))).length) (cs2 := (bkOf d ((scopeL t.2.1).take (k + 1))).flatMap eStore) 98000 12 hT rfl rfl rfl rfl rfl rfl rfl rfl rfl rfl (get_mid (off := ((i).toNat * 5 + 4)) (j := 4) (flat_pre (sz := 5) (fun _ => rfl) (Nat.le_of_lt hit)) (by omega) rfl) rfl (set_mid (off := ((i).toNat * 5 + 4)) (j := 4) (flat_pre (sz := 5) (fun _ => rfl) (Nat.le_of_lt hit)) (by omega) rfl (Nat.lt_of_lt_of_le (Nat.lt_succ_self _) (Nat.le_of_ble_eq_true rfl))) (ev_tmp rfl) rfl rfl rfl (by dsimp only [kcOf]; omega) (by dsimp only [kcOf]; omega) (by rw [hbs, List.length_append]; rfl) (by rw [hbs, List.flatMap_append]; rfl) rfl rfl ?_
        simp only [killT, killB, SV.kill, CV.kill, kk, Nat.reduceBEq]
        refine k_take 13 rfl (by kernel_rfl) rfl rfl (pu_nilE rfl (ev_tmp rfl)) rfl rfl rfl rfl ?_
        refine k_take 14 rfl (by kernel_rfl) rfl rfl (pu_fieldE hT rfl rfl rfl (ev_tmp rfl)) rfl rfl rfl rfl ?_
        refine k_chain [15] rfl rfl (by kernel_rfl) ?_
        refine o_storeE (js := [98000]) (cs := mid ((q.take (i).toNat).flatMap eTx) [.int .i64 (t.1), opsD (t.2.1), .int .i64 (t.2.2.1), .int .i64 (1), .sl 60 3 ((bkOf d ((scopeL t.2.1).take (k + 1))).length) ((bkOf d ((scopeL t.2.1).take (k + 1))).flatMap eStore)] ((q.drop ((i).toNat + 1)).flatMap eTx)) hT rfl rfl rfl rfl (ev_tmp rfl) (ev_tmp rfl) rfl rfl rfl rfl (ow_cons' (ow_key rfl) ow_nil rfl) (by decide) (by decide) rfl (le_mid (off := ((i).toNat * 5 + 4)) (n := 1) (j := 4) (flat_pre (sz := 5) (fun _ => rfl) (Nat.le_of_lt hit)) (by omega) (Nat.le_of_ble_eq_true rfl)) (setR_mid (off := ((i).toNat * 5 + 4)) (j := 4) (flat_pre (sz := 5) (fun _ => rfl) (Nat.le_of_lt hit)) (by omega) rfl (Nat.le_of_ble_eq_true rfl)) ?_
        simp only [killT, killB, SV.kill, CV.kill, kk, Nat.reduceBEq]
        refine ops_nil ?_
        iterate 2 refine z ?_
        refine ok_region ?_
        iterate 3 refine z ?_
        refine ⟨k + 1, ?_, ?_, weak_sub ⟨rfl, rfl, rfl, rfl, rfl, rfl, rfl, rfl, trivial⟩ ⟨rfl, rfl, rfl, trivial⟩ ⟨rfl, rfl, trivial⟩ rfl⟩
        ·omega
        ·omega
   ·skip
    have d3 := of_decide_eq_false c3
    have hbs := bk_step (d := d) hn2
    rw [if_neg (show ¬ 0 ≤ fndS d ((scopeL t.2.1).getD (k : Int).toNat default) from d3), List.append_nil] at hbs
    iterate 3 refine z ?_
    refine ok_region ?_
    iterate 3 refine z ?_
    refine ⟨k + 1, ?_, ?_, weak_sub ⟨rfl, rfl, rfl, rfl, rfl, rfl, rfl, rfl, trivial⟩ ⟨rfl, rfl, rfl, trivial⟩ ⟨(congrArg (fun z => some (some (KC.mk false 40 5 q.length (mid ((q.take (i).toNat).flatMap eTx) [.int .i64 (t.1), opsD (t.2.1), .int .i64 (t.2.2.1), .int .i64 (1), storesD (z)] ((q.drop ((i).toNat + 1)).flatMap eTx))))) hbs.symm), rfl, trivial⟩ rfl⟩
    ·omega
    ·omega
  ·skip
   have d2 := of_decide_eq_false c2
   iterate 10 refine z ?_
   have hall : (scopeL t.2.1).take k = (scopeL t.2.1) := List.take_of_length_le (by omega)
   rw [start_yes ht hcan]
   refine ok_weak (σ' := ⟨[(6, .box 6 0), (7, .one (.dv [] (.bool (true))))], [(6, 30, [(.key 95031)])], [(95031, some (kcOf false (txsD (q.set (i).toNat (t.1, t.2.1, t.2.2.1, (1 : Int), bkOf d (scopeL t.2.1))))))]⟩) (weak_sub ⟨rfl, rfl, trivial⟩ ⟨rfl, trivial⟩ ⟨(by rw [hall]; exact (fin_set hit (t.1, t.2.1, t.2.2.1, (1 : Int), bkOf d (scopeL t.2.1)))), trivial⟩ rfl) ?_
   refine z ?_
   refine fin2 (res_cell hT rfl rfl rfl rfl) (res_tmp rfl) rfl rfl ?_
   first | exact ⟨rfl, rfl⟩ | skip
end Go.Proofs.YtjkpoekgnmgofaaGreat

namespace Go.Proofs.YtjkpoekgnmgofaaGreat
open Go.RowKit
open Go.Proofs
set_option linter.unusedVariables false
set_option linter.unusedSimpArgs false

@[reducible] def stA (d : DbT) (k : Nat) : StoreT := d.2.2.1.getD k default
structure SK (d x : DbT) : Prop where
 n : x.1 = d.1
 v : x.2.1 = d.2.1
 s : x.2.2.1.map Prod.fst = d.2.2.1.map Prod.fst
 u : x.2.2.2 = d.2.2.2
theorem SK.refl (d : DbT) : SK d d := ⟨rfl, rfl, rfl, rfl⟩
theorem SK.symm {d x : DbT} (h : SK d x) : SK x d := ⟨h.n.symm, h.v.symm, h.s.symm, h.u.symm⟩
theorem SK.trans {d x y : DbT} (h : SK d x) (h2 : SK x y) : SK d y := ⟨h2.n.trans h.n, h2.v.trans h.v, h2.s.trans h.s, h2.u.trans h.u⟩
theorem SK.len {d x : DbT} (h : SK d x) : x.2.2.1.length = d.2.2.1.length := by have := congrArg List.length h.s; simpa using this
theorem stA_mem {d : DbT} {k : Nat} (h : k < d.2.2.1.length) : stA d k ∈ d.2.2.1 := by
 unfold stA
 rw [List.getD_eq_getElem?_getD, List.getElem?_eq_getElem h]; exact List.getElem_mem h
theorem SK.name {d x : DbT} (h : SK d x) {k : Nat} (hk : k < d.2.2.1.length) : (stA x k).1 = (stA d k).1 := by
 have hl := h.len
 have h2 := congrArg (fun l => l[k]?) h.s
 simp only [List.getElem?_map] at h2
 rw [List.getElem?_eq_getElem hk, List.getElem?_eq_getElem (by omega)] at h2
 unfold stA
 rw [List.getD_eq_getElem?_getD, List.getD_eq_getElem?_getD, List.getElem?_eq_getElem hk, List.getElem?_eq_getElem (by omega)]
 simpa using h2
theorem findI_nm {n : Str} : ∀ (l : List StoreT) (i : Int), findI (hasName n) l i = findI (fun q : Str => sEq q n) (l.map Prod.fst) i
 | [], _ => rfl
 | x :: l, i => by rw [List.map_cons, findI, findI, findI_nm l (i + 1)]; rfl
theorem SK.fnd {d x : DbT} (h : SK d x) (n : Str) : fndS x n = fndS d n := by
 unfold fndS
 rw [findI_nm, findI_nm, h.s]
theorem fnd_lt {d : DbT} {n : Str} {k : Nat} (h : fndS d n = (k : Int)) : k < d.2.2.1.length ∧ (stA d k).1 = n := by
 unfold fndS at h
 rcases findI_cases (p := hasName n) (d := default) d.2.2.1 0 (by omega) with ⟨h1, _⟩ | ⟨m, h1, h2, _, h4⟩
 ·omega
 ·have e : m = k := by omega
  subst e
  exact ⟨h1, sEq_iff.1 h4⟩
theorem put_at {d : DbT} {k i : Nat} {s : StoreT} (hk : k < d.2.2.1.length) : stA (putS d k s) i = if i = k then s else stA d i := by
 unfold stA putS
 dsimp only
 rw [List.getD_eq_getElem?_getD, List.getElem?_set]
 by_cases h : k = i
 ·subst h; simp [hk]
 ·rw [if_neg h, if_neg (fun e => h e.symm), List.getD_eq_getElem?_getD]
theorem put_sk {d : DbT} {k : Nat} {s : StoreT} (hk : k < d.2.2.1.length) (hs : s.1 = (stA d k).1) : SK d (putS d k s) := by
 refine ⟨rfl, rfl, ?_, rfl⟩
 apply List.ext_getElem?
 intro j
 unfold putS
 dsimp only
 rw [List.getElem?_map, List.getElem?_set, List.getElem?_map]
 by_cases h : k = j
 ·subst h
  rw [if_pos rfl, if_pos hk, List.getElem?_eq_getElem hk]
  simp only [Option.map_some, Option.some.injEq]
  rw [hs, stA, List.getD_eq_getElem?_getD, List.getElem?_eq_getElem hk]; rfl
 ·rw [if_neg h]
theorem sk_ext {d x y : DbT} (hx : SK d x) (hy : SK d y) (h : ∀ k, k < d.2.2.1.length → stA x k = stA y k) : x = y := by
 have e : x.2.2.1 = y.2.2.1 := by
  apply List.ext_getElem
  ·rw [hx.len, hy.len]
  ·intro i h1 h2
   have := h i (by rw [← hx.len]; exact h1)
   unfold stA at this
   rw [List.getD_eq_getElem?_getD, List.getD_eq_getElem?_getD, List.getElem?_eq_getElem h1, List.getElem?_eq_getElem h2] at this
   simpa using this
 exact Prod.ext (hx.n.trans hy.n.symm) (Prod.ext (hx.v.trans hy.v.symm) (Prod.ext e (hx.u.trans hy.u.symm)))
/-! ### sound databases, store by store -/
theorem db_head {d : DbT} (h : isDb d = true) : dbHead d = true ∧ dbSt d = true ∧ dbUn d = true := by
 rw [isDb, Bool.and_eq_true, Bool.and_eq_true] at h; exact ⟨h.1, h.2.1, h.2.2⟩
theorem db_mix {d x e y : DbT} (hx : isDb x = true) (he : isDb e = true) (sx : SK d x) (se : SK d e) (sy : SK d y) (h : ∀ k, k < d.2.2.1.length → stA y k = stA x k ∨ stA y k = stA e k) : isDb y = true := by
 obtain ⟨x1, x2, x3⟩ := db_head hx
 obtain ⟨e1, e2, e3⟩ := db_head he
 have sxy : SK x y := sx.symm.trans sy
 rw [isDb, Bool.and_eq_true, Bool.and_eq_true]
 refine ⟨?_, ?_, ?_⟩
 ·unfold dbHead at x1 ⊢
  rw [sxy.n, sxy.v, sxy.len, sxy.u]; exact x1
 ·unfold dbSt at x2 e2 ⊢
  rw [List.all_eq_true] at x2 e2 ⊢
  intro i hi
  have hi' := List.mem_range.1 hi
  have hid : i < d.2.2.1.length := by rw [← sy.len]; exact hi'
  have a1 := x2 i (List.mem_range.2 (by rw [sx.len]; exact hid))
  have a2 := e2 i (List.mem_range.2 (by rw [se.len]; exact hid))
  rw [← stBadS_eq] at a1 a2 ⊢
  unfold stBadS at a1 a2 ⊢
  rw [Int.toNat_natCast] at a1 a2 ⊢
  simp only [Bool.not_eq_true', Bool.or_eq_false_iff, Bool.not_eq_false'] at a1 a2 ⊢
  refine ⟨?_, ?_⟩
  ·rcases h i hid with q | q
   ·show isSto (stA y i) = true
    rw [q]; exact a1.1
   ·show isSto (stA y i) = true
    rw [q]; exact a2.1
  ·have n1 := sxy.name (k := i) (by rw [sx.len]; exact hid)
   cases i with
   | zero => simp
   | succ j =>
    have n2 := sxy.name (k := j) (by rw [sx.len]; omega)
    have ej : (((j + 1 : Nat) : Int) - 1).toNat = j := by omega
    rw [ej] at a1 ⊢
    show (_ && !sLt (stA y j).1 (stA y (j + 1)).1) = false
    rw [n1, n2]; exact a1.2
 ·unfold dbUn at x3 e3 ⊢
  rw [List.all_eq_true] at x3 e3 ⊢
  intro i hi
  have hi' := List.mem_range.1 hi
  have a1 := x3 i (List.mem_range.2 (by rw [← sxy.u]; exact hi'))
  have a2 := e3 i (List.mem_range.2 (by rw [se.u, ← sy.u]; exact hi'))
  unfold unBad at a1 a2 ⊢
  rw [sxy.u, sxy.fnd]
  have eu : e.2.2.2 = x.2.2.2 := se.u.trans sx.u.symm
  have ef : ∀ n, fndS e n = fndS x n := fun n => (se.fnd n).trans (sx.fnd n).symm
  rw [eu, ef] at a2
  generalize hu : x.2.2.2.getD (i : Int).toNat default = u at a1 a2 ⊢
  simp only [Bool.not_eq_true', Bool.or_eq_false_iff] at a1 a2 ⊢
  refine ⟨⟨⟨a1.1.1.1, a1.1.1.2⟩, a1.1.2⟩, ?_⟩
  have hf : ¬ fndS x u.1 < 0 := by simpa using a1.1.1.1
  obtain ⟨k, hk⟩ : ∃ k : Nat, fndS x u.1 = (k : Int) := ⟨(fndS x u.1).toNat, by omega⟩
  have hkl := (fnd_lt hk).1
  have b1 := a1.2
  have b2 := a2.2
  unfold faultIn at b1 b2 ⊢
  rw [sxy.fnd]
  rw [ef] at b2
  rw [hk, Int.toNat_natCast] at b1 b2 ⊢
  have q := h k (by rw [← sx.len]; exact hkl)
  rcases q with q | q
  ·have : y.2.2.1.getD k default = x.2.2.1.getD k default := q
   rw [this]; exact b1
  ·have : y.2.2.1.getD k default = e.2.2.1.getD k default := q
   rw [this]; exact b2
/-! ### one operation -/
theorem delS_name (s : StoreT) (r : RangeT) : (delS s r).1.1 = s.1 := by unfold delS; split <;> rfl
theorem addN_name (s : StoreT) (k : KeyT) (r : RecT) : (addN s k r).1.1 = s.1 := by
 unfold addN; split
 ·rfl
 ·exact putN_name s k r
theorem opM_name (s : StoreT) (o : OpT) : (opM s o).1.1 = s.1 := by
 unfold opM
 split
 ·exact putN_name _ _ _
 ·split
  ·exact addN_name _ _ _
  ·split
   ·exact delS_name _ _
   ·split
    ·rfl
    ·split
     ·exact delS_name _ _
     ·unfold incM; exact putN_name _ _ _
theorem run_cases (x : DbT) (o : OpT) : ((runOp x o).2.2 = false ∧ (runOp x o).1 = x) ∨ (isDb x = true ∧ isOpB o = true ∧ ∃ k : Nat, fndS x o.2.1 = (k : Int) ∧ (opM (stA x k) o).2.2 = true ∧ isDb (putS x k (opM (stA x k) o).1) = true ∧ runOp x o = (putS x k (opM (stA x k) o).1, (opM (stA x k) o).2.1, true)) := by
 unfold runOp
 split
 ·exact .inl ⟨rfl, rfl⟩
 ·rename_i h1
  obtain ⟨h2, h3, h4⟩ := runG (by simpa using h1)
  split
  ·exact .inl ⟨rfl, rfl⟩
  ·rename_i h5
   obtain ⟨k, hk⟩ : ∃ k : Nat, fndS x o.2.1 = (k : Int) := ⟨(fndS x o.2.1).toNat, by omega⟩
   have e : stOf x o = stA x k := by unfold stOf stA; rw [hk, Int.toNat_natCast]
   rw [e, hk, Int.toNat_natCast] at h5
   simp only [Bool.or_eq_true, Bool.not_eq_true', not_or, Bool.not_eq_false] at h5
   refine .inr ⟨h2, h3, k, hk, h5.1, h5.2, ?_⟩
   rw [e, hk, Int.toNat_natCast]
theorem run_loc {d x y : DbT} {o : OpT} (hx : isDb x = true) (hy : isDb y = true) (sx : SK d x) (sy : SK d y) (hk : ∀ k : Nat, fndS d o.2.1 = (k : Int) → stA x k = stA y k) :
  ((runOp x o).2.2 = false ∧ (runOp y o).2.2 = false ∧ (runOp x o).1 = x ∧ (runOp y o).1 = y) ∨ ((runOp x o).2.2 = true ∧ (runOp y o).2.2 = true ∧ ∃ (k : Nat) (s : StoreT), fndS d o.2.1 = (k : Int) ∧ s.1 = (stA d k).1 ∧ (runOp x o).1 = putS x k s ∧ (runOp y o).1 = putS y k s) := by
 have half : ∀ {x y : DbT}, isDb x = true → isDb y = true → SK d x → SK d y → (∀ k : Nat, fndS d o.2.1 = (k : Int) → stA x k = stA y k) → (runOp x o).2.2 = true → (runOp y o).2.2 = true ∧ ∃ (k : Nat) (s : StoreT), fndS d o.2.1 = (k : Int) ∧ s.1 = (stA d k).1 ∧ (runOp x o).1 = putS x k s ∧ (runOp y o).1 = putS y k s := by
  intro x y hx hy sx sy hk h
  rcases run_cases x o with ⟨h1, _⟩ | ⟨_, h2, k, h3, h4, h5, h6⟩
  ·rw [h1] at h; cases h
  ·have hkd : fndS d o.2.1 = (k : Int) := by rw [← sx.fnd]; exact h3
   have hky : fndS y o.2.1 = (k : Int) := by rw [sy.fnd]; exact hkd
   have hst := hk k hkd
   have hlt := (fnd_lt hkd).1
   have hly : k < y.2.2.1.length := by rw [sy.len]; exact hlt
   have hlx : k < x.2.2.1.length := by rw [sx.len]; exact hlt
   have hdb : isDb (putS y k (opM (stA x k) o).1) = true := by
    refine db_mix (d := d) hy h5 sy (sx.trans (put_sk hlx (opM_name _ _))) (sy.trans (put_sk hly (by rw [opM_name, hst]))) (fun i hi => ?_)
    rw [put_at hly, put_at hlx]
    by_cases e : i = k
    ·right; rw [if_pos e, if_pos e]
    ·left; rw [if_neg e]
   have e2 : stOf y o = stA x k := by unfold stOf; rw [hky, Int.toNat_natCast]; exact hst.symm
   have hrun : runOp y o = (putS y k (opM (stA x k) o).1, (opM (stA x k) o).2.1, true) := by
    unfold runOp
    rw [if_neg (by rw [hy, h2, hky]; simp), e2, hky, Int.toNat_natCast, if_neg (by rw [h4, hdb]; simp)]
   refine ⟨by rw [hrun], k, (opM (stA x k) o).1, hkd, ?_, by rw [h6], by rw [hrun]⟩
   rw [opM_name]; exact sx.name hlt
 cases h1 : (runOp x o).2.2 with
 | true => exact .inr ⟨rfl, half hx hy sx sy hk h1⟩
 | false =>
  left
  have h2 : (runOp y o).2.2 = false := by
   cases h3 : (runOp y o).2.2 with
   | false => rfl
   | true =>
    have := (half hy hx sy sx (fun k hk' => (hk k hk').symm) h3).1
    rw [h1] at this; cases this
  exact ⟨rfl, h2, runOp_same h1, runOp_same h2⟩
/-! ### lists of operations -/
def wrK (d : DbT) (l : List OpT) (k : Nat) : Prop := ∃ o ∈ l, isWr o = true ∧ fndS d o.2.1 = (k : Int)
def usK (d : DbT) (l : List OpT) (k : Nat) : Prop := ∃ o ∈ l, fndS d o.2.1 = (k : Int)
theorem wr_us {d : DbT} {l : List OpT} {k : Nat} (h : wrK d l k) : usK d l k := by obtain ⟨o, h1, _, h3⟩ := h; exact ⟨o, h1, h3⟩
theorem conf_no {d : DbT} {a b : List OpT} {k : Nat} (h : conf a b = false) : ¬ (wrK d a k ∧ usK d b k) ∧ ¬ (usK d a k ∧ wrK d b k) := by
 have key : ∀ o1 ∈ a, ∀ o2 ∈ b, fndS d o1.2.1 = (k : Int) → fndS d o2.2.1 = (k : Int) → isWr o1 = false ∧ isWr o2 = false := by
  intro o1 h1 o2 h2 e1 e2
  unfold conf at h
  rw [List.any_eq_false] at h
  have h3 := h o1 h1
  rw [Bool.not_eq_true, List.any_eq_false] at h3
  have h4 := h3 o2 h2
  rw [Bool.not_eq_true] at h4
  unfold conf2 at h4
  have n1 := (fnd_lt e1).2
  have n2 := (fnd_lt e2).2
  rw [sEq_iff.2 (n1.symm.trans n2), Bool.true_and, Bool.or_eq_false_iff] at h4
  exact h4
 refine ⟨fun ⟨⟨o1, h1, w1, e1⟩, ⟨o2, h2, e2⟩⟩ => ?_, fun ⟨⟨o1, h1, e1⟩, ⟨o2, h2, w2, e2⟩⟩ => ?_⟩
 ·rw [(key o1 h1 o2 h2 e1 e2).1] at w1; cases w1
 ·rw [(key o1 h1 o2 h2 e1 e2).2] at w2; cases w2
theorem op_frame {d c : DbT} {o : OpT} (hc : isDb c = true) (sc : SK d c) : isDb (runOp c o).1 = true ∧ SK d (runOp c o).1 ∧ ∀ k : Nat, (isWr o = false ∨ fndS d o.2.1 ≠ (k : Int)) → stA (runOp c o).1 k = stA c k := by
 rcases run_cases c o with ⟨h1, h2⟩ | ⟨_, h2, k, h3, h4, h5, h6⟩
 ·rw [h2]; exact ⟨hc, sc, fun _ _ => rfl⟩
 ·have hok : (runOp c o).2.2 = true := by rw [h6]
  have hkl := (fnd_lt h3).1
  refine ⟨by rw [h6]; exact h5, by rw [h6]; exact sc.trans (put_sk hkl (opM_name _ _)), fun i hi => ?_⟩
  rcases hi with hi | hi
  ·rw [op_rd0 hok hi]
  ·rw [h6]
   dsimp only
   rw [put_at hkl, if_neg (fun e => hi (by rw [← sc.fnd, h3, e]))]
theorem go_frame {d : DbT} : ∀ (l : List OpT) (c c' : DbT) (ns : List Int), goOps c l = some (c', ns) → isDb c = true → SK d c → isDb c' = true ∧ SK d c' ∧ ∀ k : Nat, ¬ wrK d l k → stA c' k = stA c k
 | [], c, c', ns, h, hc, sc => by
  simp only [goOps, Option.some.injEq, Prod.mk.injEq] at h
  rw [← h.1]; exact ⟨hc, sc, fun _ _ => rfl⟩
 | o :: os, c, c', ns, h, hc, sc => by
  rw [goOps] at h
  split at h
  ·rename_i h1
   cases hg : goOps (runOp c o).1 os with
   | none => rw [hg] at h; cases h
   | some r =>
    rw [hg] at h
    simp only [Option.map_some, Option.some.injEq, Prod.mk.injEq] at h
    obtain ⟨f1, f2, f3⟩ := op_frame (o := o) hc sc
    obtain ⟨g1, g2, g3⟩ := go_frame os _ r.1 r.2 hg f1 f2
    rw [← h.1]
    refine ⟨g1, g2, fun k hk => ?_⟩
    rw [g3 k (fun ⟨q, hq, hw, he⟩ => hk ⟨q, List.mem_cons_of_mem _ hq, hw, he⟩), f3 k]
    by_cases hw : isWr o = true
    ·exact .inr (fun e => hk ⟨o, List.mem_cons_self, hw, e⟩)
    ·exact .inl (by simpa using hw)
  ·cases h
theorem go_snoc : ∀ (l : List OpT) (c : DbT) (o : OpT), goOps c (l ++ [o]) = match goOps c l with
  | none => none
  | some (m, ns) => if (runOp m o).2.2 = true then some ((runOp m o).1, ns ++ [(runOp m o).2.1]) else none
 | [], c, o => by
  rw [List.nil_append, goOps, goOps, goOps]
  dsimp only
  split <;> rfl
 | p :: l, c, o => by
  rw [List.cons_append, goOps, goOps]
  split
  ·rw [go_snoc l]
   cases goOps (runOp c p).1 l with
   | none => rfl
   | some r =>
    dsimp only [Option.map_some]
    split <;> rfl
  ·rfl
theorem go_none_app : ∀ (l l2 : List OpT) (c : DbT), goOps c l = none → goOps c (l ++ l2) = none
 | [], _, c, h => by rw [goOps] at h; cases h
 | p :: l, l2, c, h => by
  rw [goOps] at h
  rw [List.cons_append, goOps]
  split
  ·rename_i h1
   rw [if_pos h1] at h
   have h2 : goOps (runOp c p).1 l = none := by
    cases hg : goOps (runOp c p).1 l with
    | none => rfl
    | some r => rw [hg] at h; cases h
   rw [go_none_app l l2 _ h2]; rfl
  ·rfl

end Go.Proofs.YtjkpoekgnmgofaaGreat

namespace Go.Proofs.YtjkpoekgnmgofaaGreat
open Go.RowKit
open Go.Proofs
set_option linter.unusedVariables false
set_option linter.unusedSimpArgs false

theorem db_lt {d : DbT} (h : isDb d = true) {i j : Nat} (hij : i < j) (hj : j < d.2.2.1.length) : sLt (stA d i).1 (stA d j).1 = true := by
 have key : ∀ (l : List StoreT), srtN l → ∀ i j, i < j → j < l.length → sLt (l.getD i default).1 (l.getD j default).1 = true := by
  intro l
  induction l with
  | nil => intro _ i j _ h; simp at h
  | cons y ys ih =>
   intro hs i j hij hj
   cases j with
   | zero => omega
   | succ j =>
    have hj' : j < ys.length := by simpa using hj
    cases i with
    | zero =>
     show sLt y.1 (ys.getD j default).1 = true
     exact hs.1 _ (by rw [List.getD_eq_getElem?_getD, List.getElem?_eq_getElem hj']; exact List.getElem_mem hj')
    | succ i => exact ih hs.2 i j (by omega) hj'
 exact key _ (db_srt h) i j hij hj
structure BK (d E : DbT) (l : List OpT) (b : List StoreT) : Prop where
 all : ∀ s ∈ b, ∃ k : Nat, k < d.2.2.1.length ∧ usK d l k ∧ s = stA E k
 has : ∀ k : Nat, usK d l k → stA E k ∈ b
theorem bk_of {d x E : DbT} {l : List OpT} (sx : SK d x) (h : ∀ k : Nat, usK d l k → stA x k = stA E k) : BK d E l (bkOf x (scopeL l)) := by
 refine ⟨fun s hs => ?_, fun k hk => ?_⟩
 ·unfold bkOf at hs
  obtain ⟨n, hn, hs⟩ := List.mem_flatMap.1 hs
  split at hs
  ·rename_i h0
   rw [List.mem_singleton] at hs
   obtain ⟨k, hk⟩ : ∃ k : Nat, fndS x n = (k : Int) := ⟨(fndS x n).toNat, by omega⟩
   rw [hk, Int.toNat_natCast] at hs
   obtain ⟨o, ho, e⟩ := (scope_mem l).1 hn
   have hkd : fndS d o.2.1 = (k : Int) := by rw [e, ← sx.fnd]; exact hk
   exact ⟨k, (fnd_lt hkd).1, ⟨o, ho, hkd⟩, by rw [hs]; exact h k ⟨o, ho, hkd⟩⟩
  ·cases hs
 ·have hk0 := hk
  obtain ⟨o, ho, hkd⟩ := hk
  unfold bkOf
  refine List.mem_flatMap.2 ⟨o.2.1, (scope_mem l).2 ⟨o, ho, rfl⟩, ?_⟩
  have hx : fndS x o.2.1 = (k : Int) := by rw [sx.fnd]; exact hkd
  rw [hx, if_pos (by omega), Int.toNat_natCast, List.mem_singleton]
  exact (h k hk0).symm
theorem rest_at {d E : DbT} (sE : SK d E) (hE : isDb E = true) : ∀ (b : List StoreT) (x : DbT), SK d x → (∀ s ∈ b, ∃ k : Nat, k < d.2.2.1.length ∧ s = stA E k) → SK d (restL x b) ∧ ∀ k : Nat, k < d.2.2.1.length → ((stA E k ∈ b ∧ stA (restL x b) k = stA E k) ∨ (stA E k ∉ b ∧ stA (restL x b) k = stA x k))
 | [], x, sx, _ => ⟨sx, fun k _ => .inr ⟨by simp, rfl⟩⟩
 | s :: l, x, sx, h => by
  obtain ⟨k, hk, e⟩ := h s (by simp)
  have hkE : k < E.2.2.1.length := by rw [sE.len]; exact hk
  have hf : fndS x s.1 = (k : Int) := by
   rw [e, sx.fnd, ← sE.fnd]
   obtain ⟨q1, q2, q3⟩ := fnd_mem hE (stA_mem hkE)
   obtain ⟨m, hm⟩ : ∃ m : Nat, fndS E (stA E k).1 = (m : Int) := ⟨(fndS E (stA E k).1).toNat, by omega⟩
   rw [hm]
   rw [hm, Int.toNat_natCast] at q3
   have hml : m < E.2.2.1.length := by omega
   rcases Nat.lt_trichotomy m k with h1 | h1 | h1
   ·exfalso
    have := db_lt hE h1 hkE
    rw [show stA E m = stA E k from q3] at this
    have h2 := (sLt_ne this).1
    rw [sEq_iff.2 rfl] at h2; cases h2
   ·rw [h1]
   ·exfalso
    have := db_lt hE h1 hml
    rw [show stA E m = stA E k from q3] at this
    have h2 := (sLt_ne this).1
    rw [sEq_iff.2 rfl] at h2; cases h2
  have hkx : k < x.2.2.1.length := by rw [sx.len]; exact hk
  rw [restL, hf, if_pos (by omega), Int.toNat_natCast]
  have sp : SK d (putS x k s) := sx.trans (put_sk hkx (by rw [e, sE.name hk, sx.name hk]))
  obtain ⟨r1, r2⟩ := rest_at sE hE l (putS x k s) sp (fun s' hs' => h s' (by simp [hs']))
  refine ⟨r1, fun i hi => ?_⟩
  rcases r2 i hi with ⟨q0, q⟩ | ⟨q1, q2⟩
  ·exact .inl ⟨List.mem_cons_of_mem _ q0, q⟩
  ·rw [put_at hkx] at q2
   by_cases ei : i = k
   ·rw [if_pos ei] at q2; left; exact ⟨by rw [ei, ← e]; exact List.mem_cons_self, by rw [q2, e, ei]⟩
   ·rw [if_neg ei] at q2
    by_cases em : stA E i = s
    ·exfalso
     rw [e] at em
     have hiE : i < E.2.2.1.length := by rw [sE.len]; exact hi
     rcases Nat.lt_or_gt_of_ne ei with h1 | h1
     ·have := (sLt_ne (db_lt hE h1 hkE)).1
      rw [em, sEq_iff.2 rfl] at this; cases this
     ·have := (sLt_ne (db_lt hE h1 hiE)).1
      rw [em, sEq_iff.2 rfl] at this; cases this
    ·exact .inr ⟨by simp only [List.mem_cons, not_or]; exact ⟨em, q1⟩, q2⟩


/-! ### one behind the other -/
def opsAt (q0 : List TxT) (j : Nat) : List OpT := (q0.getD j default).2.1
def serN (d : DbT) (q0 : List TxT) : Nat → DbT
 | 0 => d
 | j + 1 => (runOps (serN d q0 j) (opsAt q0 j)).1
theorem run_frame {d c : DbT} {l : List OpT} (hc : isDb c = true) (sc : SK d c) : isDb (runOps c l).1 = true ∧ SK d (runOps c l).1 ∧ ∀ k : Nat, ¬ wrK d l k → stA (runOps c l).1 k = stA c k := by
 cases h : (runOps c l).2.2 with
 | false => rw [(runOps_out h).1]; exact ⟨hc, sc, fun _ _ => rfl⟩
 | true =>
  obtain ⟨_, _, c', ns, h2, h3⟩ := runOps_ok h
  rw [h3]; exact go_frame l c c' ns h2 hc sc
theorem ser_db {d : DbT} {q0 : List TxT} (hd : isDb d = true) : ∀ j, isDb (serN d q0 j) = true ∧ SK d (serN d q0 j)
 | 0 => ⟨hd, SK.refl d⟩
 | j + 1 => by
  obtain ⟨h1, h2⟩ := ser_db (q0 := q0) hd j
  obtain ⟨h3, h4, _⟩ := run_frame (l := opsAt q0 j) h1 h2
  exact ⟨h3, h4⟩
theorem ser_const {d : DbT} {q0 : List TxT} (hd : isDb d = true) {k i : Nat} : ∀ m, (∀ j, i ≤ j → j < i + m → ¬ wrK d (opsAt q0 j) k) → stA (serN d q0 (i + m)) k = stA (serN d q0 i) k
 | 0, _ => rfl
 | m + 1, h => by
  have ih := ser_const hd (k := k) (i := i) (q0 := q0) m (fun j h1 h2 => h j h1 (by omega))
  obtain ⟨h1, h2⟩ := ser_db (q0 := q0) hd (i + m)
  have h3 := (run_frame (l := opsAt q0 (i + m)) h1 h2).2.2 k (h (i + m) (by omega) (by omega))
  rw [← Nat.add_assoc, serN, h3, ih]
theorem ser_same {d : DbT} {q0 : List TxT} (hd : isDb d = true) {k i j : Nat} (hij : i ≤ j) (h : ∀ m, i ≤ m → m < j → ¬ wrK d (opsAt q0 m) k) : stA (serN d q0 j) k = stA (serN d q0 i) k := by
 have := ser_const (q0 := q0) hd (k := k) (i := i) (j - i) (fun m h1 h2 => h m h1 (by omega))
 rwa [show i + (j - i) = j by omega] at this
@[reducible] def txA (p : List TxT) (j : Nat) : TxT := p.getD j default
@[reducible] def stt (p : List TxT) (j : Nat) : Int := (txA p j).2.2.2.1
def unf (p : List TxT) (j : Nat) : Prop := stt p j = 0 ∨ stt p j = 1
inductive Tst (d E : DbT) (l : List OpT) (t : TxT) (c : DbT) : Prop where
 | wait (h1 : t.2.2.2.1 = 0) (h2 : t.2.2.1 = 0) (h3 : t.2.2.2.2 = []) (h4 : c = E)
 | run (h1 : t.2.2.2.1 = 1) (a : Nat) (h2 : t.2.2.1 = (a : Int)) (h3 : a = 0 ∨ a < l.length) (ns : List Int) (h4 : goOps E (l.take a) = some (c, ns)) (h5 : BK d E l t.2.2.2.2)
 | done (h1 : t.2.2.2.1 = 2) (h2 : t.2.2.2.2 = []) (h3 : (runOps E l).2.2 = true)
 | gone (h1 : t.2.2.2.1 = 3) (h2 : t.2.2.2.2 = []) (h3 : (runOps E l).2.2 = false)
structure Inv (d : DbT) (q0 : List TxT) (x : DbT) (p : List TxT) (cur : Nat → DbT) : Prop where
 len : p.length = q0.length
 ops : ∀ j, j < q0.length → (txA p j).2.1 = opsAt q0 j
 st : ∀ j, j < q0.length → Tst d (serN d q0 j) (opsAt q0 j) (txA p j) (cur j)
 sk : SK d x
 db : isDb x = true
 ord : ∀ i j, i < j → j < q0.length → unf p i → stt p j ≠ 0 → conf (opsAt q0 i) (opsAt q0 j) = false
 v1 : ∀ k, k < d.2.2.1.length → ∀ i, i < q0.length → unf p i → wrK d (opsAt q0 i) k → (∀ m, m < i → unf p m → ¬ wrK d (opsAt q0 m) k) → stA x k = stA (cur i) k
 v2 : ∀ k, k < d.2.2.1.length → (∀ i, i < q0.length → unf p i → ¬ wrK d (opsAt q0 i) k) → stA x k = stA (serN d q0 q0.length) k
theorem least {P : Nat → Prop} (n : Nat) (h : ∃ i, i < n ∧ P i) : ∃ i, i < n ∧ P i ∧ ∀ m, m < i → ¬ P m := by
 classical
 obtain ⟨i, hi, hp⟩ := h
 induction i using Nat.strongRecOn with
 | _ i ih =>
  by_cases hq : ∃ m, m < i ∧ P m
  ·obtain ⟨m, hm, hpm⟩ := hq
   exact ih m hm (by omega) hpm
  ·exact ⟨i, hi, hp, fun m hm hpm => hq ⟨m, hm, hpm⟩⟩
section
variable {d x : DbT} {q0 p : List TxT} {cur : Nat → DbT}
theorem inv_see (hd : isDb d = true) (h : Inv d q0 x p cur) {j k : Nat} (hj : j < q0.length) (hu : unf p j) (hc1 : ∀ i, i < j → unf p i → conf (opsAt q0 i) (opsAt q0 j) = false) (hk : k < d.2.2.1.length) (huse : usK d (opsAt q0 j) k) (hcur : ¬ wrK d (opsAt q0 j) k → stA (cur j) k = stA (serN d q0 j) k) : stA x k = stA (cur j) k := by
 classical
 have hlate : ∀ i, j < i → i < q0.length → wrK d (opsAt q0 i) k → stt p i = 0 := fun i h1 h2 h3 => by
  by_cases e : stt p i = 0
  ·exact e
  ·exact absurd ⟨huse, h3⟩ (conf_no (h.ord j i h1 h2 hu e)).2
 by_cases hw : wrK d (opsAt q0 j) k
 ·exact h.v1 k hk j hj hu hw (fun m hm hum hwm => (conf_no (hc1 m hm hum)).1 ⟨hwm, huse⟩)
 ·rw [hcur hw]
  by_cases hex : ∃ i, i < q0.length ∧ (unf p i ∧ wrK d (opsAt q0 i) k)
  ·obtain ⟨i, hi, ⟨hui, hwi⟩, hmin⟩ := least q0.length hex
   rw [h.v1 k hk i hi hui hwi (fun m hm hum hwm => hmin m hm ⟨hum, hwm⟩)]
   rcases Nat.lt_trichotomy i j with e | e | e
   ·exact absurd ⟨hwi, huse⟩ (conf_no (hc1 i e hui)).1
   ·rw [e] at hwi; exact absurd hwi hw
   ·have h0 := hlate i e hi hwi
    have hci : cur i = serN d q0 i := by
     rcases h.st i hi with ⟨_, _, _, h4⟩ | ⟨h1, _⟩ | ⟨h1, _⟩ | ⟨h1, _⟩
     ·exact h4
     ·exact absurd (h1.symm.trans h0) (by decide)
     ·exact absurd (h1.symm.trans h0) (by decide)
     ·exact absurd (h1.symm.trans h0) (by decide)
    rw [hci]
    refine ser_same hd (by omega) (fun m h1 h2 hwm => ?_)
    by_cases em : m = j
    ·rw [em] at hwm; exact hw hwm
    ·have h3 := hlate m (by omega) (by omega) hwm
     exact hmin m h2 ⟨.inl h3, hwm⟩
  ·rw [h.v2 k hk (fun i hi hui hwi => hex ⟨i, hi, hui, hwi⟩)]
   refine ser_same hd (by omega) (fun m h1 h2 hwm => ?_)
   by_cases em : m = j
   ·rw [em] at hwm; exact hw hwm
   ·exact hex ⟨m, h2, .inl (hlate m (by omega) h2 hwm), hwm⟩
theorem txA_set {t : TxT} {i j : Nat} (hi : i < p.length) : txA (p.set i t) j = if j = i then t else txA p j := by
 unfold txA
 rw [List.getD_eq_getElem?_getD, List.getElem?_set]
 by_cases h : i = j
 ·subst h; simp [hi]
 ·rw [if_neg h, if_neg (fun e => h e.symm), List.getD_eq_getElem?_getD]
theorem unf_set {t : TxT} {i j : Nat} (hi : i < p.length) (hj : j ≠ i) : unf (p.set i t) j ↔ unf p j := by
 unfold unf stt; rw [txA_set hi, if_neg hj]
theorem canS_good {i : Int} (h : canS p i = true) : ∃ j : Nat, i = (j : Int) ∧ j < p.length ∧ stt p j = 0 ∧ ∀ m, m < j → unf p m → conf (txA p m).2.1 (txA p j).2.1 = false := by
 unfold canS at h
 simp only [Bool.and_eq_true, decide_eq_true_eq, Bool.not_eq_true'] at h
 obtain ⟨⟨⟨h1, h2⟩, h3⟩, h4⟩ := h
 refine ⟨i.toNat, by omega, by omega, h3, fun m hm hu => ?_⟩
 rw [List.any_eq_false] at h4
 have hml : m < (p.take i.toNat).length := by rw [List.length_take]; omega
 have h5 := h4 _ (List.getElem_mem hml)
 have e : (p.take i.toNat)[m] = txA p m := by
  rw [List.getElem_take]; unfold txA; rw [List.getD_eq_getElem?_getD, List.getElem?_eq_getElem (by omega)]; rfl
 rw [e] at h5
 unfold blocks at h5
 rw [Bool.not_eq_true, Bool.and_eq_false_iff] at h5
 rcases h5 with h5 | h5
 ·simp only [Bool.or_eq_false_iff, decide_eq_false_iff_not] at h5
  rcases hu with hu | hu
  ·exact absurd hu h5.1
  ·exact absurd hu h5.2
 ·exact h5
theorem inv_start (hd : isDb d = true) (h : Inv d q0 x p cur) (i : Int) : Inv d q0 x (startTx x p i).1 cur := by
 unfold startTx
 split
 ·rename_i hcan
  obtain ⟨j, rfl, hj, h0, hcf⟩ := canS_good hcan
  rw [Int.toNat_natCast]
  have hjq : j < q0.length := by rw [← h.len]; exact hj
  have hwait := h.st j hjq
  obtain ⟨hat, hcur⟩ : (txA p j).2.2.1 = 0 ∧ cur j = serN d q0 j := by
   rcases hwait with ⟨_, h2, _, h4⟩ | ⟨h1, _⟩ | ⟨h1, _⟩ | ⟨h1, _⟩
   ·exact ⟨h2, h4⟩
   ·exact absurd (h1.symm.trans h0) (by decide)
   ·exact absurd (h1.symm.trans h0) (by decide)
   ·exact absurd (h1.symm.trans h0) (by decide)
  have hop := h.ops j hjq
  have hcf' : ∀ m, m < j → unf p m → conf (opsAt q0 m) (opsAt q0 j) = false := fun m hm hu => by
   rw [← h.ops m (by omega), ← hop]; exact hcf m hm hu
  have hu0 : unf p j := .inl h0
  have hbk : BK d (serN d q0 j) (opsAt q0 j) (bkOf x (scopeL (txA p j).2.1)) := by
   rw [hop]
   refine bk_of h.sk (fun k hk => ?_)
   rw [← hcur]
   have hk0 := hk
   obtain ⟨o, _, ho⟩ := hk
   exact inv_see hd h hjq hu0 hcf' (fnd_lt ho).1 hk0 (fun _ => by rw [hcur])
  have hunf : ∀ m, unf (p.set j ((txA p j).1, (txA p j).2.1, (txA p j).2.2.1, 1, bkOf x (scopeL (txA p j).2.1))) m ↔ unf p m := fun m => by
   by_cases e : m = j
   ·subst e
    constructor
    ·exact fun _ => hu0
    ·exact fun _ => .inr (by unfold stt; rw [txA_set hj, if_pos rfl])
   ·exact unf_set hj e
  refine ⟨by rw [List.length_set]; exact h.len, fun m hm => ?_, fun m hm => ?_, h.sk, h.db, fun a b hab hb ha hs => ?_, fun k hk m hm hu hw hmin => ?_, fun k hk hn => ?_⟩
  ·rw [txA_set hj]
   by_cases e : m = j
   ·rw [if_pos e, e]; exact hop
   ·rw [if_neg e]; exact h.ops m hm
  ·rw [txA_set hj]
   by_cases e : m = j
   ·rw [if_pos e]
    subst e
    exact .run rfl 0 hat (.inl rfl) [] (by rw [hcur]; rfl) hbk
   ·rw [if_neg e]; exact h.st m hm
  ·have ha' := (hunf a).1 ha
   by_cases e : b = j
   ·subst e; exact hcf' a hab ha'
   ·refine h.ord a b hab hb ha' ?_
    unfold stt at hs ⊢
    rwa [txA_set hj, if_neg e] at hs
  ·exact h.v1 k hk m hm ((hunf m).1 hu) hw (fun z hz huz => hmin z hz ((hunf z).2 huz))
  ·exact h.v2 k hk (fun z hz huz => hn z hz ((hunf z).2 huz))
 ·exact h
end

end Go.Proofs.YtjkpoekgnmgofaaGreat

namespace Go.Proofs.YtjkpoekgnmgofaaGreat
open Go.RowKit
open Go.Proofs
set_option linter.unusedVariables false
set_option linter.unusedSimpArgs false

section
variable {d x : DbT} {q0 p : List TxT} {cur : Nat → DbT}
theorem at_inj {E : DbT} (hE : isDb E = true) {i k : Nat} (hi : i < E.2.2.1.length) (hk : k < E.2.2.1.length) (h : stA E i = stA E k) : i = k := by
 rcases Nat.lt_trichotomy i k with e | e | e
 ·have := (sLt_ne (db_lt hE e hk)).1
  rw [h, sEq_iff.2 rfl] at this; cases this
 ·exact e
 ·have := (sLt_ne (db_lt hE e hi)).1
  rw [h, sEq_iff.2 rfl] at this; cases this
theorem inv_wait (h : Inv d q0 x p cur) {i : Nat} (hi : i < q0.length) (h0 : stt p i = 0) : cur i = serN d q0 i := by
 rcases h.st i hi with ⟨_, _, _, h4⟩ | ⟨h1, _⟩ | ⟨h1, _⟩ | ⟨h1, _⟩
 ·exact h4
 ·exact absurd (h1.symm.trans h0) (by decide)
 ·exact absurd (h1.symm.trans h0) (by decide)
 ·exact absurd (h1.symm.trans h0) (by decide)
theorem inv_end (hd : isDb d = true) (h : Inv d q0 x p cur) {j : Nat} (hj : j < q0.length) (hrun : stt p j = 1) {x' : DbT} {t' : TxT} (hop : t'.2.1 = opsAt q0 j) (hst : t'.2.2.2.1 = 2 ∨ t'.2.2.2.1 = 3) (hbk : t'.2.2.2.2 = []) (hok : (runOps (serN d q0 j) (opsAt q0 j)).2.2 = decide (t'.2.2.2.1 = 2)) (sx : SK d x') (hx : isDb x' = true) (f1 : ∀ k, k < d.2.2.1.length → ¬ wrK d (opsAt q0 j) k → stA x' k = stA x k) (f2 : ∀ k, k < d.2.2.1.length → wrK d (opsAt q0 j) k → stA x' k = stA (serN d q0 (j + 1)) k) : Inv d q0 x' (p.set j t') cur := by
 have hjp : j < p.length := by rw [h.len]; exact hj
 have hju : unf p j := .inr hrun
 have hself : stt (p.set j t') j = t'.2.2.2.1 := by unfold stt; rw [txA_set hjp, if_pos rfl]
 have hnj : ¬ unf (p.set j t') j := by
  unfold unf; rw [hself]; omega
 have huu : ∀ m, unf (p.set j t') m → m ≠ j ∧ unf p m := fun m hm => by
  by_cases e : m = j
  ·rw [e] at hm; exact absurd hm hnj
  ·exact ⟨e, (unf_set hjp e).1 hm⟩
 have hst' : ∀ m, m ≠ j → stt (p.set j t') m = stt p m := fun m hm => by unfold stt; rw [txA_set hjp, if_neg hm]
 have late : ∀ m k, j < m → m < q0.length → wrK d (opsAt q0 j) k → wrK d (opsAt q0 m) k → stt p m = 0 := fun m k h1 h2 h3 h4 => by
  by_cases e : stt p m = 0
  ·exact e
  ·exact absurd ⟨h3, wr_us h4⟩ (conf_no (h.ord j m h1 h2 hju e)).1
 refine ⟨by rw [List.length_set]; exact h.len, fun m hm => ?_, fun m hm => ?_, sx, hx, fun a b hab hb ha hs => ?_, fun k hk i hi hu hw hmin => ?_, fun k hk hn => ?_⟩
 ·rw [txA_set hjp]
  by_cases e : m = j
  ·rw [if_pos e, e]; exact hop
  ·rw [if_neg e]; exact h.ops m hm
 ·rw [txA_set hjp]
  by_cases e : m = j
  ·rw [if_pos e, e]
   rcases hst with e2 | e2
   ·exact .done e2 hbk (by rw [hok, e2]; rfl)
   ·exact .gone e2 hbk (by rw [hok, e2]; rfl)
  ·rw [if_neg e]; exact h.st m hm
 ·obtain ⟨ea, hua⟩ := huu a ha
  by_cases e : b = j
  ·subst e; exact h.ord a b hab hb hua (by rw [hrun]; decide)
  ·exact h.ord a b hab hb hua (by rw [← hst' b e]; exact hs)
 ·obtain ⟨ei, hui⟩ := huu i hu
  by_cases hwj : wrK d (opsAt q0 j) k
  ·rcases Nat.lt_or_gt_of_ne ei with e | e
   ·exact absurd ⟨hw, wr_us hwj⟩ (conf_no (h.ord i j e hj hui (by rw [hrun]; decide))).1
   ·have h0 := late i k e hi hwj hw
    rw [f2 k hk hwj, inv_wait h hi h0]
    refine (ser_same hd (by omega) (fun m h1 h2 hwm => ?_)).symm
    have h3 := late m k (by omega) (by omega) hwj hwm
    exact hmin m h2 ((unf_set hjp (by omega)).2 (.inl h3)) hwm
  ·rw [f1 k hk hwj]
   refine h.v1 k hk i hi hui hw (fun m hm hum hwm => ?_)
   by_cases em : m = j
   ·rw [em] at hwm; exact hwj hwm
   ·exact hmin m hm ((unf_set hjp em).2 hum) hwm
 ·by_cases hwj : wrK d (opsAt q0 j) k
  ·rw [f2 k hk hwj]
   refine (ser_same hd (by omega) (fun m h1 h2 hwm => ?_)).symm
   have h3 := late m k (by omega) h2 hwj hwm
   exact hn m h2 ((unf_set hjp (by omega)).2 (.inl h3)) hwm
  ·rw [f1 k hk hwj]
   refine h.v2 k hk (fun i hi hui hwi => ?_)
   by_cases em : i = j
   ·rw [em] at hwi; exact hwj hwi
   ·exact hn i hi ((unf_set hjp em).2 hui) hwi
theorem go_take {E : DbT} {l : List OpT} {a : Nat} (ha : a < l.length) : l.take (a + 1) = l.take a ++ [l.getD a default] := by
 rw [List.take_add_one, List.getElem?_eq_getElem ha, List.getD_eq_getElem?_getD, List.getElem?_eq_getElem ha]; rfl
theorem runOps_go {E : DbT} {l : List OpT} (hE : isDb E = true) (hl : l.length ≤ 6) : runOps E l = outOps E (goOps E l) := by
 unfold runOps
 rw [if_neg]
 rw [hE]; simp; omega
theorem tin_nat {t : TxT} {a : Nat} : tin t (a : Int) = decide (a < t.2.1.length) := by
 unfold tin
 rw [← Bool.decide_and]
 exact decide_eq_decide.2 (by omega)
theorem inv_step (hd : isDb d = true) (hl : ∀ j, (opsAt q0 j).length ≤ 6) (h : Inv d q0 x p cur) (i : Int) : ∃ cur', Inv d q0 (stepTx x p i).1 (stepTx x p i).2.1 cur' := by
 cases hb : stpBad p i with
 | true => rw [step_bad hb]; exact ⟨cur, h⟩
 | false =>
  obtain ⟨g1, g2, g3⟩ := st_good hb
  obtain ⟨j, rfl⟩ : ∃ j : Nat, i = (j : Int) := ⟨i.toNat, by omega⟩
  rw [Int.toNat_natCast] at g3
  have hjp : j < p.length := by omega
  have hj : j < q0.length := by rw [← h.len]; exact hjp
  have hrun : stt p j = 1 := g3
  have hop := h.ops j hj
  have ht : txA p j = p.getD ((j : Nat) : Int).toNat default := by rw [Int.toNat_natCast]
  have hju : unf p j := .inr hrun
  obtain ⟨hE, sE⟩ := ser_db (q0 := q0) hd j
  have hearly : ∀ i, i < j → unf p i → conf (opsAt q0 i) (opsAt q0 j) = false := fun i h1 hu => h.ord i j h1 hj hu (by rw [hrun]; decide)
  rcases h.st j hj with ⟨h1, _⟩ | ⟨_, a, ha, ha2, ns, hg, hbk⟩ | ⟨h1, _⟩ | ⟨h1, _⟩
  ·exact absurd (h1.symm.trans hrun) (by decide)
  ·obtain ⟨hc, sc, hcf⟩ := go_frame (d := d) _ _ _ _ hg hE sE
   have hsee : ∀ k, k < d.2.2.1.length → usK d (opsAt q0 j) k → stA x k = stA (cur j) k := fun k hk hu => inv_see hd h hj hju hearly hk hu (fun hw => hcf k (fun ⟨o, ho, hw1, hw2⟩ => hw ⟨o, List.mem_of_mem_take ho, hw1, hw2⟩))
   have hrunE := runOps_go (l := opsAt q0 j) hE (hl j)
   have hser : serN d q0 (j + 1) = (runOps (serN d q0 j) (opsAt q0 j)).1 := rfl
   by_cases hal : a < (opsAt q0 j).length
   ·have htin : tin (txA p j) (txA p j).2.2.1 = true := by rw [ha, tin_nat, hop]; exact decide_eq_true hal
    have hopo : opOf (txA p j) = (opsAt q0 j).getD a default := by unfold opOf; rw [ha, hop, Int.toNat_natCast]
    have hmem : opOf (txA p j) ∈ opsAt q0 j := by
     rw [hopo, List.getD_eq_getElem?_getD, List.getElem?_eq_getElem hal]; exact List.getElem_mem hal
    have hgs := go_snoc ((opsAt q0 j).take a) (serN d q0 j) (opOf (txA p j))
    rw [hopo, ← go_take (E := d) hal, ← hopo, hg] at hgs
    dsimp only at hgs
    obtain ⟨fx1, fx2, fx3⟩ := op_frame (o := opOf (txA p j)) h.db h.sk
    rcases run_loc (o := opOf (txA p j)) h.db hc h.sk sc (fun k hk => hsee k (fnd_lt hk).1 ⟨_, hmem, hk⟩) with ⟨r1, r2, r3, r4⟩ | ⟨r1, r2, k, s, r3, r4, r5, r6⟩
    ·
     rw [step_fail hb ht htin r1, Int.toNat_natCast]
     dsimp only
     rw [if_neg (by rw [r2]; decide)] at hgs
     have hgo : goOps (serN d q0 j) (opsAt q0 j) = none := by
      rw [← List.take_append_drop (a + 1) (opsAt q0 j)]; exact go_none_app _ _ _ hgs
     have hout : runOps (serN d q0 j) (opsAt q0 j) = (serN d q0 j, [], false) := by rw [hrunE, hgo]; rfl
     have hall : ∀ s ∈ (txA p j).2.2.2.2, ∃ k : Nat, k < d.2.2.1.length ∧ s = stA (serN d q0 j) k := fun s hs => by
      obtain ⟨k, q1, _, q3⟩ := hbk.all s hs; exact ⟨k, q1, q3⟩
     obtain ⟨s1, s2⟩ := rest_at sE hE _ x h.sk hall
     refine ⟨cur, inv_end hd h hj hrun hop (.inr rfl) rfl (by rw [hout]; rfl) s1 ?_ (fun k hk hw => ?_) (fun k hk hw => ?_)⟩
     ·refine db_mix (d := d) h.db hE h.sk sE s1 (fun k hk => ?_)
      rcases s2 k hk with ⟨_, q⟩ | ⟨_, q⟩
      ·exact .inr q
      ·exact .inl q
     ·rcases s2 k hk with ⟨q0', q⟩ | ⟨_, q⟩
      ·obtain ⟨k', q1, q2, q3⟩ := hbk.all _ q0'
       have e := at_inj hE (by rw [sE.len]; exact hk) (by rw [sE.len]; exact q1) q3
       subst e
       rw [q, hsee k hk q2, hcf k (fun ⟨o, ho, hw1, hw2⟩ => hw ⟨o, List.mem_of_mem_take ho, hw1, hw2⟩)]
      ·exact q
     ·rw [hser, hout]
      rcases s2 k hk with ⟨_, q⟩ | ⟨q0', q⟩
      ·exact q
      ·exact absurd (hbk.has k (wr_us hw)) q0'
    ·rw [if_pos r2] at hgs
     have hx' : ∀ m, m < d.2.2.1.length → ¬ (isWr (opOf (txA p j)) = true ∧ fndS d (opOf (txA p j)).2.1 = (m : Int)) → stA (runOp x (opOf (txA p j))).1 m = stA x m := fun m _ hm => by
      refine fx3 m ?_
      by_cases hw : isWr (opOf (txA p j)) = true
      ·exact .inr (fun e => hm ⟨hw, e⟩)
      ·exact .inl (by simpa using hw)
     have hkx : k < x.2.2.1.length := by rw [h.sk.len]; exact (fnd_lt r3).1
     have hkc : k < (cur j).2.2.1.length := by rw [sc.len]; exact (fnd_lt r3).1
     have hx2 : ∀ m, m < d.2.2.1.length → stA x m = stA (cur j) m → stA (runOp x (opOf (txA p j))).1 m = stA (runOp (cur j) (opOf (txA p j))).1 m := fun m _ hm => by
      rw [r5, r6, put_at hkx, put_at hkc, hm]
     by_cases hlast : a + 1 < (opsAt q0 j).length
     ·
      have htin2 : tin (txA p j) ((txA p j).2.2.1 + 1) = true := by
       rw [ha]
       show tin (txA p j) ((a + 1 : Nat) : Int) = true
       rw [tin_nat, hop]; exact decide_eq_true hlast
      rw [step_go hb ht htin r1 htin2, Int.toNat_natCast]
      dsimp only
      generalize ht' : ((txA p j).1, (txA p j).2.1, (txA p j).2.2.1 + 1, (txA p j).2.2.2.1, (txA p j).2.2.2.2) = t'
      have hunf : ∀ m, unf (p.set j t') m ↔ unf p m := fun m => by
       by_cases e : m = j
       ·subst e
        unfold unf stt
        rw [txA_set hjp, if_pos rfl, ← ht']
       ·exact unf_set hjp e
      refine ⟨fun m => if m = j then (runOp (cur j) (opOf (txA p j))).1 else cur m, by rw [List.length_set]; exact h.len, fun m hm => ?_, fun m hm => ?_, fx2, fx1, fun u v huv hv hu hs => ?_, fun m hm u hu hun hw hmin => ?_, fun m hm hn => ?_⟩
      ·rw [txA_set hjp]
       by_cases e : m = j
       ·rw [if_pos e, e, ← ht']; exact hop
       ·rw [if_neg e]; exact h.ops m hm
      ·rw [txA_set hjp]
       by_cases e : m = j
       ·subst e
        rw [if_pos rfl, if_pos rfl]
        exact .run (by rw [← ht']; exact hrun) (a + 1) (by rw [← ht']; dsimp only; rw [ha]; rfl) (.inr hlast) _ hgs (by rw [← ht']; exact hbk)
       ·rw [if_neg e, if_neg e]; exact h.st m hm
      ·refine h.ord u v huv hv ((hunf u).1 hu) ?_
       by_cases e : v = j
       ·rw [e, hrun]; decide
       ·unfold stt at hs ⊢
        rwa [txA_set hjp, if_neg e] at hs
      ·have hmin' : ∀ z, z < u → unf p z → ¬ wrK d (opsAt q0 z) m := fun z hz huz => hmin z hz ((hunf z).2 huz)
       have hv1 := h.v1 m hm u hu ((hunf u).1 hun) hw hmin'
       by_cases e : u = j
       ·subst e
        rw [if_pos rfl]; exact hx2 m hm hv1
       ·rw [if_neg e, ← hv1]
        refine hx' m hm (fun ⟨q1, q2⟩ => ?_)
        have hwj : wrK d (opsAt q0 j) m := ⟨_, hmem, q1, q2⟩
        rcases Nat.lt_or_gt_of_ne e with e2 | e2
        ·exact absurd ⟨hw, wr_us hwj⟩ (conf_no (hearly u e2 ((hunf u).1 hun))).1
        ·exact hmin' j e2 hju hwj
      ·have hn' : ∀ z, z < q0.length → unf p z → ¬ wrK d (opsAt q0 z) m := fun z hz huz => hn z hz ((hunf z).2 huz)
       rw [← h.v2 m hm hn']
       exact hx' m hm (fun ⟨q1, q2⟩ => hn' j hj hju ⟨_, hmem, q1, q2⟩)
     ·
      have htin2 : tin (txA p j) ((txA p j).2.2.1 + 1) = false := by
       rw [ha]
       show tin (txA p j) ((a + 1 : Nat) : Int) = false
       rw [tin_nat, hop]; exact decide_eq_false hlast
      rw [step_end hb ht htin r1 htin2, Int.toNat_natCast]
      dsimp only
      rw [List.take_of_length_le (by omega)] at hgs
      have hout : runOps (serN d q0 j) (opsAt q0 j) = ((runOp (cur j) (opOf (txA p j))).1, ns ++ [(runOp (cur j) (opOf (txA p j))).2.1], true) := by rw [hrunE, hgs]; rfl
      refine ⟨cur, inv_end hd h hj hrun hop (.inl rfl) rfl (by rw [hout]; rfl) fx2 fx1 (fun m hm hw => ?_) (fun m hm hw => ?_)⟩
      ·exact hx' m hm (fun ⟨q1, q2⟩ => hw ⟨_, hmem, q1, q2⟩)
      ·rw [hser, hout]
       exact hx2 m hm (hsee m hm (wr_us hw))
   ·
    have h0 : opsAt q0 j = [] := by
     rcases ha2 with e | e
     ·exact List.length_eq_zero_iff.1 (by omega)
     ·exact absurd e hal
    have htin : tin (txA p j) (txA p j).2.2.1 = false := by rw [ha, tin_nat, hop]; exact decide_eq_false hal
    rw [step_no hb ht htin, Int.toNat_natCast]
    dsimp only
    have hno : ∀ k, ¬ wrK d (opsAt q0 j) k := fun k ⟨o, ho, _⟩ => by rw [h0] at ho; cases ho
    exact ⟨cur, inv_end hd h hj hrun hop (.inl rfl) rfl (by rw [hrunE, h0]; rfl) h.sk h.db (fun _ _ _ => rfl) (fun k _ hw => absurd hw (hno k))⟩
  ·exact absurd (h1.symm.trans hrun) (by decide)
  ·exact absurd (h1.symm.trans hrun) (by decide)
end

end Go.Proofs.YtjkpoekgnmgofaaGreat

namespace Go.Proofs.YtjkpoekgnmgofaaGreat
open Go.RowKit
open Go.Proofs
set_option linter.unusedVariables false
set_option linter.unusedSimpArgs false

@[reducible] def StT := DbT × List TxT
def stS (s : StT) (i : Int) : StT := ((stepTx s.1 s.2 i).1, (stepTx s.1 s.2 i).2.1)
def saS (s : StT) (i : Int) : StT := (s.1, (startTx s.1 s.2 i).1)
def stN (s : StT) (i : Int) : Nat → StT
 | 0 => s
 | k + 1 => stS (stN s i k) i
def finS (s : StT) (i : Int) : StT := stN (saS s i) i 8
def freshT (t : TxT) : Prop := t.2.2.2.1 = 0 ∧ t.2.2.1 = 0 ∧ t.2.2.2.2 = [] ∧ t.2.1.length ≤ 6
@[reducible] def InvE (d : DbT) (q0 : List TxT) (s : StT) : Prop := ∃ cur, Inv d q0 s.1 s.2 cur
section
variable {d : DbT} {q0 : List TxT} {s : StT}
theorem txA_mem {p : List TxT} {j : Nat} (h : j < p.length) : txA p j ∈ p := by
 unfold txA
 rw [List.getD_eq_getElem?_getD, List.getElem?_eq_getElem h]; exact List.getElem_mem h
theorem inv_init (hd : isDb d = true) (hf : ∀ t ∈ q0, freshT t) : InvE d q0 (d, q0) := by
 have h0 : ∀ j, j < q0.length → stt q0 j = 0 := fun j hj => (hf _ (txA_mem hj)).1
 refine ⟨fun j => serN d q0 j, rfl, fun _ _ => rfl, fun j hj => ?_, SK.refl d, hd, fun i j _ hj _ hs => absurd (h0 j hj) hs, fun k hk i hi hu hw hmin => ?_, fun k hk hn => ?_⟩
 ·obtain ⟨a, b, c, _⟩ := hf _ (txA_mem hj)
  exact .wait a b c rfl
 ·exact (ser_same (i := 0) hd (by omega) (fun m _ h2 hwm => hmin m h2 (.inl (h0 m (by omega))) hwm)).symm
 ·exact (ser_same (i := 0) hd (by omega) (fun m _ h2 hwm => hn m h2 (.inl (h0 m h2)) hwm)).symm
theorem ops_le (hf : ∀ t ∈ q0, freshT t) (j : Nat) : (opsAt q0 j).length ≤ 6 := by
 by_cases h : j < q0.length
 ·exact (hf _ (txA_mem h)).2.2.2
 ·unfold opsAt
  rw [List.getD_eq_getElem?_getD, List.getElem?_eq_none (by omega)]
  exact Nat.zero_le _
theorem stS_inv (hd : isDb d = true) (hl : ∀ j, (opsAt q0 j).length ≤ 6) (h : InvE d q0 s) (i : Int) : InvE d q0 (stS s i) := by
 obtain ⟨cur, h⟩ := h; exact inv_step hd hl h i
theorem saS_inv (hd : isDb d = true) (h : InvE d q0 s) (i : Int) : InvE d q0 (saS s i) := by
 obtain ⟨cur, h⟩ := h; exact ⟨cur, inv_start hd h i⟩
theorem stN_inv (hd : isDb d = true) (hl : ∀ j, (opsAt q0 j).length ≤ 6) (i : Int) : ∀ (k : Nat) {s : StT}, InvE d q0 s → InvE d q0 (stN s i k)
 | 0, _, h => h
 | k + 1, _, h => stS_inv hd hl (stN_inv hd hl i k h) i
theorem finS_inv (hd : isDb d = true) (hl : ∀ j, (opsAt q0 j).length ≤ 6) (h : InvE d q0 s) (i : Int) : InvE d q0 (finS s i) := stN_inv hd hl i 8 (saS_inv hd h i)
theorem step_len (i : Int) : (stS s i).2.length = s.2.length := by
 unfold stS stepTx
 split
 ·rfl
 ·unfold stepAt
  split
  ·split <;> simp
  ·simp
theorem start_len (i : Int) : (saS s i).2.length = s.2.length := by
 unfold saS startTx; split <;> simp
theorem stt_set {p : List TxT} {t : TxT} {i m : Nat} (hi : i < p.length) : stt (p.set i t) m = if m = i then t.2.2.2.1 else stt p m := by
 unfold stt; rw [txA_set hi]; split <;> rfl
theorem step_oth {j m : Nat} (h : m ≠ j) : stt (stS s (j : Int)).2 m = stt s.2 m := by
 unfold stS stepTx
 cases hb : stpBad s.2 (j : Int) with
 | true => rfl
 | false =>
  have hj := (st_good hb).2.1
  have hj' : j < s.2.length := by omega
  rw [if_neg (by decide)]
  dsimp only
  unfold stepAt
  rw [Int.toNat_natCast]
  split
  ·split
   ·dsimp only; rw [stt_set hj', if_neg h]
   ·dsimp only; rw [stt_set hj', if_neg h]
  ·dsimp only; rw [stt_set hj', if_neg h]
theorem step_not {j : Nat} (h : stt s.2 j ≠ 1) : stS s (j : Int) = s := by
 have : stpBad s.2 (j : Int) = true := by
  unfold stpBad
  rw [Int.toNat_natCast, decide_eq_false (show ¬ (s.2.getD j default).2.2.2.1 = 1 from h)]
  simp
 unfold stS
 rw [step_bad this]
theorem step_self {j : Nat} (hj : j < s.2.length) (h : stt s.2 j = 1) : stt (stS s (j : Int)).2 j = 2 ∨ stt (stS s (j : Int)).2 j = 3 ∨ (stt (stS s (j : Int)).2 j = 1 ∧ (txA (stS s (j : Int)).2 j).2.2.1 = (txA s.2 j).2.2.1 + 1) := by
 have hb : stpBad s.2 (j : Int) = false := by
  unfold stpBad
  rw [Int.toNat_natCast, decide_eq_true (show (s.2.getD j default).2.2.2.1 = 1 from h)]
  simp; omega
 have hs : (txA s.2 j).2.2.2.1 = 1 := h
 unfold stS stepTx
 rw [if_neg (by rw [hb]; decide)]
 dsimp only
 unfold stepAt
 rw [Int.toNat_natCast]
 split
 ·split
  ·dsimp only
   rw [stt_set hj, if_pos rfl, txA_set hj, if_pos rfl]
   split
   ·exact .inr (.inr ⟨hs, rfl⟩)
   ·exact .inl rfl
  ·dsimp only; rw [stt_set hj, if_pos rfl]; exact .inr (.inl rfl)
 ·dsimp only; rw [stt_set hj, if_pos rfl]; exact .inl rfl
theorem start_oth {j m : Nat} (h : m ≠ j) : stt (saS s (j : Int)).2 m = stt s.2 m := by
 unfold saS startTx
 split
 ·rename_i hc
  obtain ⟨j', e, hj, _⟩ := canS_good hc
  obtain rfl : j' = j := by omega
  dsimp only
  rw [Int.toNat_natCast, stt_set hj, if_neg h]
 ·rfl
theorem start_self {j : Nat} (hj : j < s.2.length) (h0 : stt s.2 j = 0) (hn : ∀ m, m < j → ¬ unf s.2 m) : stt (saS s (j : Int)).2 j = 1 ∧ canS s.2 (j : Int) = true := by
 have hc : canS s.2 (j : Int) = true := by
  unfold canS
  rw [Int.toNat_natCast, decide_eq_true (show (s.2.getD j default).2.2.2.1 = 0 from h0)]
  have : (s.2.take j).any (blocks s.2 j) = false := by
   rw [List.any_eq_false]
   intro t ht
   obtain ⟨m, hm, rfl⟩ := List.mem_iff_getElem.1 ht
   rw [List.length_take] at hm
   have hmj : m < j := by omega
   have e : (s.2.take j)[m] = txA s.2 m := by
    rw [List.getElem_take]; unfold txA; rw [List.getD_eq_getElem?_getD, List.getElem?_eq_getElem (by omega)]; rfl
   rw [e]
   unfold blocks
   have := hn m hmj
   have h1 : ¬ (txA s.2 m).2.2.2.1 = 0 := fun e => this (.inl e)
   have h2 : ¬ (txA s.2 m).2.2.2.1 = 1 := fun e => this (.inr e)
   rw [decide_eq_false h1, decide_eq_false h2]; simp
  rw [this]
  simp; omega
 refine ⟨?_, hc⟩
 unfold saS startTx
 rw [if_pos hc]
 dsimp only
 rw [Int.toNat_natCast, stt_set hj, if_pos rfl]
theorem stN_len (i : Int) : ∀ k, (stN s i k).2.length = s.2.length
 | 0 => rfl
 | k + 1 => by rw [stN, step_len, stN_len i k]
theorem stN_oth {j m : Nat} (h : m ≠ j) : ∀ k, stt (stN s (j : Int) k).2 m = stt s.2 m
 | 0 => rfl
 | k + 1 => by rw [stN, step_oth h, stN_oth h k]
theorem stN_self {j : Nat} (hj : j < s.2.length) : ∀ k, stt (stN s (j : Int) k).2 j ≠ 1 ∨ (stt (stN s (j : Int) k).2 j = 1 ∧ (txA (stN s (j : Int) k).2 j).2.2.1 = (txA s.2 j).2.2.1 + (k : Int))
 | 0 => by
  by_cases h : stt s.2 j = 1
  ·exact .inr ⟨h, by show _ = _ + ((0 : Nat) : Int); rw [Int.natCast_zero, Int.add_zero]; rfl⟩
  ·exact .inl h
 | k + 1 => by
  rw [stN]
  by_cases h1 : stt (stN s (j : Int) k).2 j = 1
  ·have hl : j < (stN s (j : Int) k).2.length := by rw [stN_len]; exact hj
   have hk : (txA (stN s (j : Int) k).2 j).2.2.1 = (txA s.2 j).2.2.1 + (k : Int) := by
    rcases stN_self hj k with e | e
    ·exact absurd h1 e
    ·exact e.2
   rcases step_self hl h1 with e | e | ⟨e, e2⟩
   ·exact .inl (by rw [e]; decide)
   ·exact .inl (by rw [e]; decide)
   ·exact .inr ⟨e, by rw [e2, hk]; omega⟩
  ·exact .inl (by rw [step_not h1]; exact h1)
theorem stN_end (hd : isDb d = true) (hl : ∀ j, (opsAt q0 j).length ≤ 6) (h : InvE d q0 s) {j : Nat} (hj : j < q0.length) : stt (stN s (j : Int) 8).2 j ≠ 1 := by
 obtain ⟨cur, h1⟩ := h
 have hjs : j < s.2.length := by rw [h1.len]; exact hj
 rcases stN_self hjs 8 with e | ⟨e, e2⟩
 ·exact e
 ·exfalso
  obtain ⟨c2, h2⟩ := stN_inv hd hl (j : Int) 8 ⟨cur, h1⟩
  have hl' := hl j
  have hat : 0 ≤ (txA s.2 j).2.2.1 := by
   by_cases h3 : stt s.2 j = 1
   ·rcases h1.st j hj with ⟨q, _⟩ | ⟨_, a, ha, _⟩ | ⟨q, _⟩ | ⟨q, _⟩
    ·exact absurd (q.symm.trans h3) (by decide)
    ·rw [ha]; omega
    ·exact absurd (q.symm.trans h3) (by decide)
    ·exact absurd (q.symm.trans h3) (by decide)
   ·exfalso
    have : ∀ k, stN s (j : Int) k = s := fun k => by
     induction k with
     | zero => rfl
     | succ k ih => rw [stN, ih, step_not h3]
    rw [this] at e; exact h3 e
  rcases h2.st j hj with ⟨q, _⟩ | ⟨_, a, ha, ha2, _⟩ | ⟨q, _⟩ | ⟨q, _⟩
  ·exact absurd (q.symm.trans e) (by decide)
  ·rw [ha] at e2; omega
  ·exact absurd (q.symm.trans e) (by decide)
  ·exact absurd (q.symm.trans e) (by decide)
theorem fin_end (hd : isDb d = true) (hl : ∀ j, (opsAt q0 j).length ≤ 6) (h : InvE d q0 s) {j : Nat} (hj : j < q0.length) (hn : ∀ m, m < j → ¬ unf s.2 m) : ∀ m, m < j + 1 → ¬ unf (finS s (j : Int)).2 m := by
 intro m hm
 have hjs : j < s.2.length := by obtain ⟨_, h1⟩ := h; rw [h1.len]; exact hj
 by_cases e : m = j
 ·subst e
  have h1 := stN_end hd hl (saS_inv hd h (m : Int)) hj
  rintro (h2 | h2)
  ·
   have h3 : ∀ k, stt (stN (saS s (m : Int)) (m : Int) k).2 m ≠ 0 := by
    intro k
    induction k with
    | zero =>
     show stt (saS s (m : Int)).2 m ≠ 0
     by_cases h0 : stt s.2 m = 0
     ·rw [(start_self hjs h0 hn).1]; decide
     ·have : saS s (m : Int) = s := by
       unfold saS startTx
       rw [if_neg]
       intro hc
       obtain ⟨j', e, _, h5, _⟩ := canS_good hc
       obtain rfl : j' = m := by omega
       exact h0 h5
      rw [this]; exact h0
    | succ k ih =>
     rw [stN]
     by_cases h5 : stt (stN (saS s (m : Int)) (m : Int) k).2 m = 1
     ·rcases step_self (by rw [stN_len, start_len]; exact hjs) h5 with q | q | ⟨q, _⟩ <;> rw [q] <;> decide
     ·rw [step_not h5]; exact ih
   exact h3 8 h2
  ·exact h1 h2
 ·have : stt (finS s (j : Int)).2 m = stt s.2 m := by unfold finS; rw [stN_oth e, start_oth e]
  have h1 := hn m (by omega)
  unfold unf at h1 ⊢
  rw [this]; exact h1
theorem tx0_start (hq : 2 ≤ q0.length) (hf : ∀ t ∈ q0, freshT t) : (startTx d q0 0).2 = true ∧ stt (saS (d, q0) 0).2 0 = 1 ∧ ∀ m, m ≠ 0 → stt (saS (d, q0) 0).2 m = stt q0 m := by
 have h0 : stt q0 0 = 0 := (hf _ (txA_mem (by omega))).1
 obtain ⟨h1, h2⟩ := start_self (s := (d, q0)) (j := 0) (by show 0 < q0.length; omega) h0 (fun m hm => by omega)
 exact ⟨by unfold startTx; rw [if_pos (show canS q0 0 = true from h2)], h1, fun m hm => start_oth (s := (d, q0)) hm⟩
theorem can_run {p : List TxT} {j : Nat} (h : stt p j ≠ 0) : canS p (j : Int) = false := by
 cases hc : canS p (j : Int) with
 | false => rfl
 | true =>
  obtain ⟨j', e, _, h5, _⟩ := canS_good hc
  obtain rfl : j' = j := by omega
  exact absurd h5 h
theorem can_1 {p : List TxT} (hp : 2 ≤ p.length) (h1 : stt p 1 = 0) : canS p 1 = !((decide (stt p 0 = 0) || decide (stt p 0 = 1)) && conf (txA p 0).2.1 (txA p 1).2.1) := by
 unfold canS
 have e : (1 : Int).toNat = 1 := rfl
 rw [e, decide_eq_true (show (p.getD 1 default).2.2.2.1 = 0 from h1)]
 have : p.take 1 = [txA p 0] := by
  match p, hp with
  | a :: b :: l, _ => rfl
 rw [this]
 simp only [List.any_cons, List.any_nil, Bool.or_false]
 unfold blocks
 rw [e]
 rw [decide_eq_true (show (0 : Int) ≤ 1 by decide), decide_eq_true (show (1 : Int) < (p.length : Int) by omega)]
 rfl
theorem conf_comm (a b : List OpT) : conf a b = conf b a := by
 have key : ∀ a b : List OpT, conf a b = true → conf b a = true := fun a b h => by
  unfold conf at h ⊢
  rw [List.any_eq_true] at h ⊢
  obtain ⟨x, hx, h⟩ := h
  rw [List.any_eq_true] at h
  obtain ⟨y, hy, h⟩ := h
  refine ⟨y, hy, List.any_eq_true.2 ⟨x, hx, ?_⟩⟩
  unfold conf2 at h ⊢
  rw [Bool.and_eq_true] at h ⊢
  refine ⟨sEq_iff.2 (sEq_iff.1 h.1).symm, ?_⟩
  rw [Bool.or_comm]; exact h.2
 cases h1 : conf a b with
 | true => exact (key a b h1).symm
 | false =>
  cases h2 : conf b a with
  | false => rfl
  | true => rw [key b a h2] at h1; cases h1
theorem tx0_end (hd : isDb d = true) (hq : 2 ≤ q0.length) (hf : ∀ t ∈ q0, freshT t) : (stN (saS (d, q0) 0) 0 8).2.length = q0.length ∧ (stt (stN (saS (d, q0) 0) 0 8).2 0 = 2 ∨ stt (stN (saS (d, q0) 0) 0 8).2 0 = 3 ∧ (stN (saS (d, q0) 0) 0 8).1 = d) ∧ canS (stN (saS (d, q0) 0) 0 8).2 1 = true := by
 have hl := ops_le hf
 have hi := inv_init hd hf
 have hst : ¬ unf (stN (saS (d, q0) 0) 0 8).2 0 := fin_end (j := 0) hd hl hi (by omega) (fun m hm => by omega) 0 (by omega)
 have hinv : InvE d q0 (stN (saS (d, q0) 0) 0 8) := finS_inv hd hl hi 0
 have h00 : ∀ j, j < q0.length → stt q0 j = 0 := fun j hj => (hf _ (txA_mem hj)).1
 have hoth : ∀ m, m ≠ 0 → stt (stN (saS (d, q0) 0) 0 8).2 m = stt q0 m := fun m hm => by
  have := stN_oth (s := saS (d, q0) 0) (j := 0) hm 8
  rw [← (tx0_start hq hf).2.2 m hm]; exact this
 revert hst hinv hoth
 generalize stN (saS (d, q0) 0) 0 8 = S
 intro hst hinv hoth
 obtain ⟨cur, h⟩ := hinv
 have hw : ∀ m, 1 ≤ m → m < q0.length → unf S.2 m := fun m h1 h2 => .inl (by rw [hoth m (by omega)]; exact h00 m h2)
 refine ⟨h.len, ?_, ?_⟩
 ·rcases h.st 0 (by omega) with ⟨q, _⟩ | ⟨q, _⟩ | ⟨q, q2, q3⟩ | ⟨q, q2, q3⟩
  ·exact absurd (Or.inl q) hst
  ·exact absurd (Or.inr q) hst
  ·exact Or.inl q
  ·refine Or.inr ⟨q, ?_⟩
   have e1 : serN d q0 1 = d := (runOps_out q3).1
   have es : ∀ i k, 1 ≤ i → (∀ m, 1 ≤ m → m < i → ¬ wrK d (opsAt q0 m) k) → stA (serN d q0 i) k = stA d k := fun i k h1 h2 => by
    have := ser_same (i := 1) (j := i) hd h1 h2
    rw [this, e1]
   refine sk_ext (d := d) h.sk (SK.refl d) (fun k hk => ?_)
   by_cases hex : ∃ i, i < q0.length ∧ (unf S.2 i ∧ wrK d (opsAt q0 i) k)
   ·obtain ⟨i, hi2, ⟨hui, hwi⟩, hmin⟩ := least q0.length hex
    have hi0 : i ≠ 0 := fun e => by rw [e] at hui; exact hst hui
    have h5 := h.v1 k hk i hi2 hui hwi (fun m hm hum hwm => hmin m hm ⟨hum, hwm⟩)
    have h6 := inv_wait h hi2 (by rw [hoth i hi0]; exact h00 i hi2)
    rw [h5, h6]
    exact es i k (by omega) (fun m h1 h2 hwm => hmin m h2 ⟨hw m h1 (by omega), hwm⟩)
   ·have hv := h.v2 k hk (fun i hi hu hw => hex ⟨i, hi, hu, hw⟩)
    exact hv.trans (es _ k (by omega) (fun m h1 h2 hwm => hex ⟨m, h2, hw m h1 h2, hwm⟩))
 ·have h1 : ¬ stt S.2 0 = 0 := fun e => hst (Or.inl e)
  have h2 : ¬ stt S.2 0 = 1 := fun e => hst (Or.inr e)
  have hS : 2 ≤ S.2.length := by rw [h.len]; exact hq
  rw [can_1 hS (by rw [hoth 1 (by decide)]; exact h00 1 (by omega)), decide_eq_false h1, decide_eq_false h2]; rfl
end

end Go.Proofs.YtjkpoekgnmgofaaGreat

namespace Go.Proofs.YtjkpoekgnmgofaaGreat
open Go.RowKit
open Go.Proofs
set_option linter.unusedVariables false
set_option linter.unusedSimpArgs false

def isF (t : TxT) : Prop := t.2.2.2.1 = 0 ∧ t.2.2.1 = 0 ∧ t.2.2.2.2 = [] ∧ opsOk t.2.1 ∧ t.2.1.length ≤ 4
def idsQ (q : List TxT) : Prop := ∀ j, j < q.length → (q.getD j default).1 = (j : Int) + 1
def isFQ (q : List TxT) : Prop := (∀ t ∈ q, isF t) ∧ idsQ q
theorem fq_nil : isFQ [] := ⟨fun t h => (by cases h), fun j h => (by simp at h)⟩
theorem are_ok {l : List OpT} (h : opsOk l) (hl : l.length ≤ 6) : areB l = true := by
 unfold areB
 rw [Bool.and_eq_true, List.all_eq_true]
 exact ⟨fun o ho => (h o ho).1, decide_eq_true (by omega)⟩
theorem nid_of {q : List TxT} (h : idsQ q) (hl : q.length ≤ 1000) : nidQ q = (q.length : Int) + 1 := by
 unfold nidQ
 split
 ·rename_i h0
  have h1 := h (q.length - 1) (by omega)
  rw [show ((q.length : Int) - 1).toNat = q.length - 1 by omega, h1, IntKind.wrap_i64]
  omega
 ·rw [show q.length = 0 by omega]; rfl
theorem new_fq {q : List TxT} {l : List OpT} (h : isFQ q) (hq : q.length < 6) (ho : opsOk l) (hl : l.length ≤ 4) : isFQ (newTx q l).1 ∧ (newTx q l).1.length = q.length + 1 := by
 have e : newTx q l = (q ++ [(nidQ q, l, 0, 0, [])], nidQ q, true) := by
  unfold newTx
  rw [if_neg]
  rw [are_ok ho (by omega), decide_eq_false (by omega)]; decide
 rw [e]
 refine ⟨⟨fun t ht => ?_, fun j hj => ?_⟩, by rw [List.length_append]; rfl⟩
 ·rcases List.mem_append.1 ht with ht | ht
  ·exact h.1 t ht
  ·rw [List.mem_singleton] at ht; subst ht
   exact ⟨rfl, rfl, rfl, ho, hl⟩
 ·dsimp only at hj ⊢
  rw [List.length_append, List.length_singleton] at hj
  by_cases e : j < q.length
  ·rw [List.getD_eq_getElem?_getD, List.getElem?_append_left e, ← List.getD_eq_getElem?_getD]; exact h.2 j e
  ·have : j = q.length := by omega
   subst this
   rw [List.getD_eq_getElem?_getD, List.getElem?_append_right (Nat.le_refl _), Nat.sub_self]
   exact nid_of h.2 (by omega)
theorem ops_w {l : List OpT} (h : opsOk l) : wList wOp l ≤ l.length + 90 * l.length := by
 have key : ∀ l : List OpT, opsOk l → wSum wOp l ≤ 90 * l.length := by
  intro l
  induction l with
  | nil => intro _; simp [wSum]
  | cons o l ih =>
   intro h
   have h1 := op_wt (h o (by simp)).1 (h o (by simp)).2
   have h2 := ih (fun z hz => h z (by simp [hz]))
   have e : wSum wOp (o :: l) = wOp o + wSum wOp l := by simp [wSum]
   rw [e, List.length_cons]; omega
 have := key l h
 have e : wList wOp l = l.length + wSum wOp l := rfl
 omega
theorem fq_w {q : List TxT} (h : ∀ t ∈ q, isF t) : wList wTx q ≤ 400 * q.length := by
 have key : ∀ q : List TxT, (∀ t ∈ q, isF t) → wSum wTx q ≤ 399 * q.length := by
  intro q
  induction q with
  | nil => intro _; simp [wSum]
  | cons t q ih =>
   intro h
   obtain ⟨_, _, hb, ho, hl⟩ := h t (by simp)
   have h1 := ops_w ho
   have h2 := ih (fun z hz => h z (by simp [hz]))
   have e : wSum wTx (t :: q) = wTx t + wSum wTx q := by simp [wSum]
   have e2 : wTx t = wList wOp t.2.1 + wList wStore t.2.2.2.2 := rfl
   rw [hb] at e2
   have e3 : wList wStore [] = 0 := rfl
   rw [e, List.length_cons]; omega
 have := key q h
 have e : wList wTx q = q.length + wSum wTx q := rfl
 omega

theorem ok_spec_l10Fresh {code : List UInt8} {i h : Int} {m : Int} (hc : code.length ≤ 1048576) (hi : 0 ≤ i) (hm : 0 ≤ m ∧ m ≤ 5) : BFn Tryz.prog 17 [.one (.dv [] (.int .i64 (m)))] 81 (bytesD (code)) [.dv [] (.int .i64 (i)), .dv [] (.int .i64 (h))] (fun zz : DbT × List TxT × Int × Int => isDb zz.1 = true ∧ isFQ zz.2.1 ∧ (zz.2.1.length : Int) ≤ m ∧ 0 ≤ zz.2.2.1) (fun zz : DbT × List TxT × Int × Int => .tup [(true, [(.dv [] (.str (zz.1.1))), (.dv [] (.int .i64 (zz.1.2.1))), (.key 90031), (.key 90900)]), (true, [(.key 95031)])]) (fun zz : DbT × List TxT × Int × Int => [(90031, some (kcOf false (storesD (zz.1.2.2.1)))), (90900, some (kcOf false (defsD (zz.1.2.2.2)))), (95031, some (kcOf false (txsD (zz.2.1))))]) (fun zz : DbT × List TxT × Int × Int => [.dv [] (.int .i64 (zz.2.2.1)), .dv [] (.int .i64 (zz.2.2.2))]) := by
 refine ⟨fn_introS Tryz.func17 rfl Tryz.ntmps17 Tryz.results17 rfl (fun C => ?_)⟩
 refine ok_fact (x := .tmp 1) (ev_tmp rfl) fun f1 => ?_
 iterate 5 refine z ?_
 refine yO rfl rfl (pu_move (.inl rfl) (ev_abox (ev_tmp rfl))) rfl ?_
 refine o_callB 0 rfl rfl rfl Tryz.call36 (ok_spec_l8Base (code := code) (i := i) (h := h) (by omega) (by omega)) (ev_tmp rfl) rfl ac_arg rfl (fun _ => rfl) ad_nil rfl (fun _ => rfl) (fun _ => rfl) (fun zz hz10 => ?_)
 obtain ⟨e10, i10, h10⟩ := zz
 replace hz10 : isDb e10 = true ∧ 0 ≤ i10 := hz10
 iterate 4 refine z ?_
 refine yO rfl rfl (pu_build hT hB rfl rfl rfl bp_nil) rfl ?_
 iterate 3 refine z ?_
 refine ok_seq ?_
 refine ok_seq ?_
 refine ok_weak (weak_nilB 95031 (b := 7) (i := 0) (e := 40) (sz := 5) rfl rfl rfl rfl rfl) ?_
 simp only [killT, killB, SV.kill, CV.kill, kk, Nat.reduceBEq]
 refine ok_region ?_
 refine yO rfl rfl (pu_move (.inl rfl) (ev_abox (ev_tmp rfl))) rfl ?_
 iterate 2 refine z ?_
 refine o_callB 15000 rfl rfl rfl Tryz.call37 (ok_spec_l1Below (code := code) (i := i10) (h := h10) (n := (m) + (1)) (by omega) (by omega) ) (ev_tmp rfl) rfl ac_arg rfl (fun _ => rfl) (ad_cons (ev_tmp rfl) (ag_one ac_dv) rfl ad_nil) rfl (fun _ => rfl) (fun _ => rfl) (fun zz hz15 => ?_)
 obtain ⟨e15, i15, h15⟩ := zz
 replace hz15 : 0 ≤ e15 ∧ (0 < ((m) + (1)) → e15 < ((m) + (1))) ∧ 0 ≤ i15 := hz15
 iterate 3 refine z ?_
 refine ok_loop (ι := Int × List TxT × Int × Int) (fun zz => ⟨[(0, .abox 0), (4, .box 4 0), (5, .box 5 0), (6, .box 6 0), (7, .box 7 0), (8, .one (.dv [] (.int .i64 (zz.1))))], [(0, 81, [(.arg 900001 (bytesD (code))), (.dv [] (.int .i64 (zz.2.2.1))), (.dv [] (.int .i64 (zz.2.2.2)))]), (4, 27, [(.dv [] (.str (ByteArray.empty))), (.dv [] (.int .i64 (0))), .nil, .nil]), (5, 30, [.nil]), (6, 27, [(.dv [] (.str (e10.1))), (.dv [] (.int .i64 (e10.2.1))), (.key 90031), (.key 90900)]), (7, 30, [(.key 95031)])], [(95031, some (kcOf false (.sl 40 5 (zz.2.1.length) (zz.2.1.flatMap eTx)))), (90031, some (kcOf false (storesD (e10.2.2.1)))), (90900, some (kcOf false (defsD (e10.2.2.2))))]⟩) (fun zz => isFQ zz.2.1 ∧ (zz.2.1.length : Int) + zz.1 ≤ m ∧ 0 ≤ zz.2.2.1 ∧ 0 ≤ zz.1) (fun zz => zz.1.toNat) ((e15, [], i15, h15)) ?_ (weak_sub ⟨rfl, rfl, rfl, rfl, rfl, rfl, trivial⟩ ⟨rfl, rfl, rfl, rfl, rfl, trivial⟩ ⟨rfl, rfl, rfl, trivial⟩ rfl) (fun zz hx => ?_)
 ·exact ⟨fq_nil, by have := hz15.2.1 (by omega); dsimp only; simp; omega, by dsimp only; omega, by dsimp only; omega⟩
 obtain ⟨n, q, ci, ch⟩ := zz
 replace hx : isFQ q ∧ (q.length : Int) + n ≤ m ∧ 0 ≤ ci ∧ 0 ≤ n := hx
 obtain ⟨hok, hl, hci, hn0⟩ := hx
 show Ok _ _ _ _ _ (⟨[(0, .abox 0), (4, .box 4 0), (5, .box 5 0), (6, .box 6 0), (7, .box 7 0), (8, .one (.dv [] (.int .i64 (n))))], [(0, 81, [(.arg 900001 (bytesD (code))), (.dv [] (.int .i64 (ci))), (.dv [] (.int .i64 (ch)))]), (4, 27, [(.dv [] (.str (ByteArray.empty))), (.dv [] (.int .i64 (0))), .nil, .nil]), (5, 30, [.nil]), (6, 27, [(.dv [] (.str (e10.1))), (.dv [] (.int .i64 (e10.2.1))), (.key 90031), (.key 90900)]), (7, 30, [(.key 95031)])], [(95031, some (kcOf false (.sl 40 5 (q.length) (q.flatMap eTx)))), (90031, some (kcOf false (storesD (e10.2.2.1)))), (90900, some (kcOf false (defsD (e10.2.2.2))))]⟩ : St)
 iterate 5 refine z ?_
 refine yQ rfl (fun c1 => ?_) fun c1 => ?_
 ·skip
  have d1 := of_decide_eq_true c1
  iterate 4 refine z ?_
  refine ok_regionL [0] [0, 1, 2, 3, 4] (oB := [4, 5, 6, 7]) (oK := [90031, 90900, 95031]) (by kernel_rfl) rfl rfl ?_
  refine l_take 0 rfl (by kernel_rfl) rfl rfl (pu_loadBoxA hT rfl rfl (ev_tmp rfl) rfl rfl) rfl rfl rfl rfl rfl ?_
  refine l_take 1 rfl (by kernel_rfl) rfl rfl (pu_move (.inl rfl) (ev_abox (ev_tmp rfl))) rfl rfl rfl rfl rfl ?_
  refine l_split 2 [] (by kernel_rfl) ⟨?_, trivial⟩
  refine y_callB 23000 2 rfl rfl rfl rfl rfl Tryz.call39 (ok_spec_l9Ops (code := code) (i := ci) (h := ch) (m := 4) (by omega) (by omega) (by omega)) (ev_tmp rfl) rfl ac_arg rfl (fun _ => rfl) (ad_cons (ev_int (inR_lit rfl)) (ag_one ac_dv) rfl ad_nil) rfl (fun _ => rfl) (fun _ => rfl) rfl (fun zz hz23 => ?_)
  obtain ⟨e23, i23, h23⟩ := zz
  replace hz23 : opsOk e23 ∧ (e23.length : Int) ≤ (4 : Int) ∧ 0 ≤ i23 := hz23
  have hwq := fq_w hok.1
  have hwo := ops_w hz23.1
  refine l_split 3 [] (by kernel_rfl) ⟨?_, trivial⟩
  refine y_callK 6030 3 rfl rfl rfl rfl Tryz.call38 (ok_spec_NewTx (x := q) (y := e23) (by omega) (by omega)) (as_cons (ev_tmp rfl) (ag_agg (ag_cons (ac_key' rfl rfl) ag_nil)) (as_cons (ev_tmp rfl) (ag_one (ac_key' rfl rfl)) as_nil)) rfl rfl rfl rfl rfl rfl ?_
  refine l_take 4 rfl (by kernel_rfl) rfl rfl (pu_move (.inl rfl) (ev_tmp rfl)) rfl rfl rfl rfl rfl ?_
  refine l_takeX 5 rfl (by kernel_rfl) rfl rfl rfl (pu_extractA rfl (ev_tmp rfl) rfl) rfl rfl ?_
  refine l_takeX 6 rfl (by kernel_rfl) rfl rfl rfl (pu_extract1 rfl (ev_tmp rfl) rfl) rfl rfl ?_
  refine l_takeX 7 rfl (by kernel_rfl) rfl rfl rfl (pu_extract1 rfl (ev_tmp rfl) rfl) rfl rfl ?_
  refine l_chain [8] rfl rfl (by kernel_rfl) ?_
  refine z ?_
  refine ops_nil ?_
  iterate 2 refine z ?_
  refine ok_region ?_
  iterate 4 refine z ?_
  refine ⟨(n - 1, (newTx q e23).1, i23, h23), ?_, ?_, weak_then (weak_swapB (b := 7) (i := 0) (k := 96031) (k' := 95031) rfl rfl rfl rfl (by simp) rfl rfl) (weak_sub ⟨rfl, rfl, rfl, rfl, rfl, rfl, trivial⟩ ⟨rfl, rfl, rfl, rfl, rfl, trivial⟩ ⟨rfl, rfl, rfl, trivial⟩ rfl)⟩
  ·have hnq := new_fq hok (by omega) hz23.1 (by omega)
   exact ⟨hnq.1, by dsimp only; rw [hnq.2]; omega, by dsimp only; omega, by dsimp only; omega⟩
  ·dsimp only; omega
 ·skip
  have d1 := of_decide_eq_false c1
  iterate 5 refine z ?_
  refine ok_seq ?_
  refine ok_regionW 4 (oB := [0, 5, 6, 7]) (oK := [90031, 90900, 95031]) (by kernel_rfl) rfl rfl ?_
  refine w_take 0 rfl (by kernel_rfl) rfl rfl (pu_loadBoxA hT rfl rfl (ev_tmp rfl) rfl rfl) rfl rfl rfl rfl rfl ?_
  refine w_take 1 rfl (by kernel_rfl) rfl rfl (pu_loadBoxA hT rfl rfl (ev_tmp rfl) rfl rfl) rfl rfl rfl rfl rfl ?_
  refine w_store 2 rfl (by kernel_rfl) rfl hT rfl rfl rfl (ev_tmp rfl) (ev_tmp rfl) rfl rfl rfl rfl rfl rfl ?_
  refine w_chain [3] rfl rfl (by kernel_rfl) ?_
  iterate 2 refine z ?_
  refine ok_weak (σ' := ⟨[(4, .box 4 0), (5, .box 5 0), (0, .abox 0)], [(4, 27, [(.dv [] (.str (e10.1))), (.dv [] (.int .i64 (e10.2.1))), (.key 90031), (.key 90900)]), (5, 30, [(.key 95031)]), (0, 81, [(.arg 900001 (bytesD (code))), (.dv [] (.int .i64 (ci))), (.dv [] (.int .i64 (ch)))])], [(90031, some (kcOf false (storesD (e10.2.2.1)))), (90900, some (kcOf false (defsD (e10.2.2.2)))), (95031, some (kcOf false (.sl 40 5 (q.length) (q.flatMap eTx))))]⟩) (weak_sub ⟨rfl, rfl, rfl, trivial⟩ ⟨rfl, rfl, rfl, trivial⟩ ⟨rfl, rfl, rfl, trivial⟩ rfl) ?_
  refine z ?_
  refine fin2 (res_cell hT rfl rfl rfl rfl) (res_cell hT rfl rfl rfl rfl) rfl rfl ⟨(((e10.1), ((e10.2.1), ((e10.2.2.1), (e10.2.2.2)))), (q), ci, ch), ?_, rfl, rfl, rfl, rfl⟩
  try dsimp only
  exact ⟨hz10.1, hok, by omega, by omega⟩
theorem ok_spec_l10Choices {code : List UInt8} {i h : Int} (hc : code.length ≤ 1048576) (hi : 0 ≤ i) : BFn Tryz.prog 18 [] 81 (bytesD (code)) [.dv [] (.int .i64 (i)), .dv [] (.int .i64 (h))] (fun zz : List Int × Int × Int => zz.1.length ≤ 12 ∧ 0 ≤ zz.2.1) (fun zz : List Int × Int × Int => .one (.key 9001)) (fun zz : List Int × Int × Int => [(9001, some (kcOf false (intsD (zz.1))))]) (fun zz : List Int × Int × Int => [.dv [] (.int .i64 (zz.2.1)), .dv [] (.int .i64 (zz.2.2))]) := by
 refine ⟨fn_introS Tryz.func18 rfl Tryz.ntmps18 Tryz.results18 rfl (fun C => ?_)⟩
 iterate 4 refine z ?_
 refine o_build0 (k := 9001) hT rfl rfl rfl rfl rfl rfl rfl rfl ?_
 iterate 4 refine z ?_
 refine yO rfl rfl (pu_move (.inl rfl) (ev_abox (ev_tmp rfl))) rfl ?_
 refine o_callB 7000 rfl rfl rfl Tryz.call37 (ok_spec_l1Below (code := code) (i := i) (h := h) (n := 12) (by omega) (by omega) ) (ev_tmp rfl) rfl ac_arg rfl (fun _ => rfl) (ad_cons (ev_int (inR_lit rfl)) (ag_one ac_dv) rfl ad_nil) rfl (fun _ => rfl) (fun _ => rfl) (fun zz hz7 => ?_)
 obtain ⟨e7, i7, h7⟩ := zz
 replace hz7 : 0 ≤ e7 ∧ (0 < (12 : Int) → e7 < (12 : Int)) ∧ 0 ≤ i7 := hz7
 iterate 3 refine z ?_
 refine ok_loop (ι := Int × List Int × Int × Int) (fun zz => ⟨[(0, .abox 0), (2, .one .nil), (3, .one (.key 9001)), (4, .one (.dv [] (.int .i64 (zz.1))))], [(0, 81, [(.arg 900001 (bytesD (code))), (.dv [] (.int .i64 (zz.2.2.1))), (.dv [] (.int .i64 (zz.2.2.2)))])], [(9001, some (kcOf false (.sl 3 1 (zz.2.1.length) (zz.2.1.flatMap eInt))))]⟩) (fun zz => (zz.2.1.length : Int) + zz.1 ≤ 12 ∧ 0 ≤ zz.2.2.1 ∧ 0 ≤ zz.1) (fun zz => zz.1.toNat) ((e7, [], i7, h7)) ?_ (weak_sub ⟨rfl, rfl, rfl, rfl, trivial⟩ ⟨rfl, trivial⟩ ⟨rfl, trivial⟩ rfl) (fun zz hx => ?_)
 ·exact ⟨by have := hz7.2.1 (by omega); dsimp only; simp; omega, by dsimp only; omega, by dsimp only; omega⟩
 obtain ⟨n, l, ci, ch⟩ := zz
 replace hx : (l.length : Int) + n ≤ 12 ∧ 0 ≤ ci ∧ 0 ≤ n := hx
 obtain ⟨hl, hci, hn0⟩ := hx
 show Ok _ _ _ _ _ (⟨[(0, .abox 0), (2, .one .nil), (3, .one (.key 9001)), (4, .one (.dv [] (.int .i64 (n))))], [(0, 81, [(.arg 900001 (bytesD (code))), (.dv [] (.int .i64 (ci))), (.dv [] (.int .i64 (ch)))])], [(9001, some (kcOf false (.sl 3 1 (l.length) (l.flatMap eInt))))]⟩ : St)
 iterate 5 refine z ?_
 refine yQ rfl (fun c1 => ?_) fun c1 => ?_
 ·skip
  have d1 := of_decide_eq_true c1
  iterate 4 refine z ?_
  refine ok_region ?_
  refine z ?_
  refine yO rfl rfl (pu_move (.inl rfl) (ev_abox (ev_tmp rfl))) rfl ?_
  refine o_callB 14000 rfl rfl rfl Tryz.call37 (ok_spec_l1Below (code := code) (i := ci) (h := ch) (n := 7) (by omega) (by omega) ) (ev_tmp rfl) rfl ac_arg rfl (fun _ => rfl) (ad_cons (ev_int (inR_lit rfl)) (ag_one ac_dv) rfl ad_nil) rfl (fun _ => rfl) (fun _ => rfl) (fun zz hz14 => ?_)
  obtain ⟨e14, i14, h14⟩ := zz
  replace hz14 : 0 ≤ e14 ∧ (0 < (7 : Int) → e14 < (7 : Int)) ∧ 0 ≤ i14 := hz14
  refine z ?_
  refine o_build1 (k := 16) (js := []) hT rfl rfl rfl rfl rfl rfl rfl rfl rfl (ev_tmp rfl) rfl rfl (ow_cons' (ow_dv rfl) ow_nil rfl) (by decide) (by decide) rfl rfl ?_
  simp only [killT, killB, SV.kill, CV.kill, kk, Nat.reduceBEq]
  refine o_appK (k := 9001) (j := 16) (cs := (l ++ [e14 - 1]).flatMap eInt) (n := (l ++ [e14 - 1]).length) hT rfl rfl rfl rfl rfl rfl rfl (ev_tmp rfl) rfl rfl rfl (ev_tmp rfl) rfl rfl (by decide) (by dsimp only [kcOf, KC.old]; omega) (by dsimp only [kcOf, KC.old]; omega) (by rw [List.length_append]; rfl) (by rw [List.flatMap_append]; rfl) ?_
  simp only [killT, killB, SV.kill, CV.kill, kk, Nat.reduceBEq]
  refine z ?_
  refine ops_nil ?_
  iterate 2 refine z ?_
  refine ok_region ?_
  iterate 4 refine z ?_
  refine ⟨(n - 1, l ++ [e14 - 1], i14, h14), ?_, ?_, weak_sub ⟨rfl, rfl, rfl, rfl, trivial⟩ ⟨rfl, trivial⟩ ⟨rfl, trivial⟩ rfl⟩
  ·exact ⟨by dsimp only; rw [List.length_append, List.length_singleton]; omega, by dsimp only; omega, by dsimp only; omega⟩
  ·dsimp only; omega
 ·skip
  have d1 := of_decide_eq_false c1
  iterate 9 refine z ?_
  refine ok_weak (σ' := ⟨[(2, .one (.key 9001)), (0, .abox 0)], [(0, 81, [(.arg 900001 (bytesD (code))), (.dv [] (.int .i64 (ci))), (.dv [] (.int .i64 (ch)))])], [(9001, some (kcOf false (.sl 3 1 (l.length) (l.flatMap eInt))))]⟩) (weak_sub ⟨rfl, rfl, trivial⟩ ⟨rfl, trivial⟩ ⟨rfl, trivial⟩ rfl) ?_
  refine z ?_
  refine fin1 (res_tmp rfl) ⟨((l), ci, ch), ?_, rfl, rfl, rfl, rfl⟩
  try dsimp only
  exact ⟨by omega, by omega⟩
theorem ok_spec_DrawQueue {code : List UInt8} (hc : code.length ≤ 1048576) : EFn Tryz.prog 6 [.one (.dv [] (bytesD (code)))] (fun zz : DbT × List TxT × List Int => isDb zz.1 = true ∧ isFQ zz.2.1 ∧ zz.2.1.length ≤ 5 ∧ zz.2.2.length ≤ 12) (fun zz : DbT × List TxT × List Int => .tup [(true, [(.dv [] (.str (zz.1.1))), (.dv [] (.int .i64 (zz.1.2.1))), (.key 90031), (.key 90900)]), (true, [(.key 95031)]), (false, [(.key 97001)])]) (fun zz : DbT × List TxT × List Int => [(90031, some (kcOf false (storesD (zz.1.2.2.1)))), (90900, some (kcOf false (defsD (zz.1.2.2.2)))), (95031, some (kcOf false (txsD (zz.2.1)))), (97001, some (kcOf false (intsD (zz.2.2))))]) := by
 refine ⟨fn_intro Tryz.func6 rfl Tryz.ntmps6 Tryz.results6 rfl (fun C => ?_)⟩
 refine ok_fact (x := .tmp 0) (ev_tmp rfl) fun f0 => ?_
 iterate 7 refine z ?_
 refine o_callP rfl rfl rfl Tryz.call16 (ok_spec_l1New (code := code) (by omega)) (ev_tmp rfl) ac_dv rfl (fun _ => rfl) rfl rfl (fun zz hz9 => ?_)
 obtain ⟨i9, h9⟩ := zz
 replace hz9 : 0 ≤ i9 := hz9
 iterate 4 refine z ?_
 refine o_callB 0 rfl rfl rfl Tryz.call17 (ok_spec_l10Fresh (code := code) (i := i9) (h := h9) (m := 5) (by omega) (by omega) (by omega)) (ev_tmp rfl) rfl ac_dv rfl (fun _ => rfl) (ad_cons (ev_int (inR_lit rfl)) (ag_one ac_dv) rfl ad_nil) rfl (fun _ => rfl) (fun _ => rfl) (fun zz hz12 => ?_)
 obtain ⟨e12_0, e12_1, i12, h12⟩ := zz
 replace hz12 : isDb e12_0 = true ∧ isFQ e12_1 ∧ (e12_1.length : Int) ≤ (5 : Int) ∧ 0 ≤ i12 := hz12
 iterate 8 refine z ?_
 refine ok_seq ?_
 refine ok_regionL [9, 2, 3] [0, 1, 2, 3, 4, 5, 6] (oB := [6, 7]) (oK := [90031, 90900, 95031]) (by kernel_rfl) rfl rfl ?_
 refine l_take 0 rfl (by kernel_rfl) rfl rfl (pu_loadBoxA hT rfl rfl (ev_tmp rfl) rfl rfl) rfl rfl rfl rfl rfl ?_
 refine l_take 1 rfl (by kernel_rfl) rfl rfl (pu_loadBoxA hT rfl rfl (ev_tmp rfl) rfl rfl) rfl rfl rfl rfl rfl ?_
 refine l_take 2 rfl (by kernel_rfl) rfl rfl (pu_move (.inl rfl) (ev_tmp rfl)) rfl rfl rfl rfl rfl ?_
 refine l_split 3 [] (by kernel_rfl) ⟨?_, trivial⟩
 refine y_callB 88000 3 rfl rfl rfl rfl rfl Tryz.call18 (ok_spec_l10Choices (code := code) (i := i12) (h := h12) (by omega) (by omega)) (ev_tmp rfl) rfl ac_dv rfl (fun _ => rfl) ad_nil rfl (fun _ => rfl) (fun _ => rfl) rfl (fun zz hz18 => ?_)
 obtain ⟨e18, i18, h18⟩ := zz
 replace hz18 : e18.length ≤ 12 ∧ 0 ≤ i18 := hz18
 refine l_split 4 [] (by kernel_rfl) ⟨?_, trivial⟩
 refine y_store 2 4 rfl rfl rfl hT rfl rfl rfl (ev_tmp rfl) (ev_tmp rfl) rfl rfl rfl rfl rfl rfl ?_
 refine l_split 5 [] (by kernel_rfl) ⟨?_, trivial⟩
 refine y_store 3 5 rfl rfl rfl hT rfl rfl rfl (ev_tmp rfl) (ev_tmp rfl) rfl rfl rfl rfl rfl rfl ?_
 refine l_split 6 [] (by kernel_rfl) ⟨?_, trivial⟩
 refine y_pure 6 rfl rfl rfl (pu_move (.inr rfl) (ev_tmp rfl)) rfl rfl rfl rfl rfl ?_
 refine l_done (by kernel_rfl) ?_
 refine z ?_
 refine ok_weak (σ' := ⟨[(2, .box 2 0), (3, .box 3 0), (4, .one (.key 97001))], [(2, 27, [(.dv [] (.str (e12_0.1))), (.dv [] (.int .i64 (e12_0.2.1))), (.key 90031), (.key 90900)]), (3, 30, [(.key 95031)])], [(90031, some (kcOf false (storesD (e12_0.2.2.1)))), (90900, some (kcOf false (defsD (e12_0.2.2.2)))), (95031, some (kcOf false (txsD (e12_1)))), (97001, some (kcOf false (intsD (e18))))]⟩) (weak_sub ⟨rfl, rfl, rfl, trivial⟩ ⟨rfl, rfl, trivial⟩ ⟨rfl, rfl, rfl, rfl, trivial⟩ rfl) ?_
 refine z ?_
 refine fin3 (res_cell hT rfl rfl rfl rfl) (res_cell hT rfl rfl rfl rfl) (res_tmp rfl) rfl rfl rfl ⟨(((e12_0.1), ((e12_0.2.1), ((e12_0.2.2.1), (e12_0.2.2.2)))), (e12_1), (e18)), ?_, rfl, rfl⟩
 try dsimp only
 exact ⟨hz12.1, hz12.2.1, by omega, hz18.1⟩
end Go.Proofs.YtjkpoekgnmgofaaGreat

namespace Go.Proofs.YtjkpoekgnmgofaaGreat
open Go.RowKit
open Go.Proofs
set_option linter.unusedVariables false
set_option linter.unusedSimpArgs false

theorem fq_fresh {q : List TxT} (h : isFQ q) : ∀ t ∈ q, freshT t := fun t ht => by
 obtain ⟨a, b, c, _, e⟩ := h.1 t ht
 exact ⟨a, b, c, by omega⟩
section
variable {d : DbT} {q0 : List TxT} {s : StT}
end

end Go.Proofs.YtjkpoekgnmgofaaGreat

namespace Go.Proofs.YtjkpoekgnmgofaaGreat
open Go.RowKit
open Go.Proofs
set_option linter.unusedVariables false
set_option linter.unusedSimpArgs false

theorem start_w {d : DbT} {q : List TxT} (hd : isDb d = true) (hq : isFQ q) (hl : q.length ≤ 5) (i : Int) : wTxQueue (startTx d q i).1 ≤ 40000 := by
 have h0 := fq_w hq.1
 have e0 : wTxQueue (startTx d q i).1 = wList wTx (startTx d q i).1 := rfl
 rw [e0]
 cases hc : canS q i with
 | false => rw [start_no hc]; dsimp only; omega
 | true =>
  rw [start_yes rfl hc]
  obtain ⟨h1, h2⟩ := can_in hc
  have hit : i.toNat < q.length := by omega
  have hmem : q.getD i.toNat default ∈ q := by rw [List.getD_eq_getElem?_getD, List.getElem?_eq_getElem hit]; exact List.getElem_mem hit
  obtain ⟨_, _, _, ho, hl4⟩ := hq.1 _ hmem
  generalize q.getD i.toNat default = t at ho hl4
  have hw1 := ops_w ho
  have hw2 := bk_w d (scopeL t.2.1)
  have hw3 := bk_len d (scopeL t.2.1)
  have hw4 := scope_len t.2.1
  have hw5 := isDb_w2 hd
  have hw6 : wDatabase d = d.1.size + (d.2.2.1.length + wSum wStore d.2.2.1) + wList wIndexDef d.2.2.2 := rfl
  have hw7 : (scopeL t.2.1).length * wSum wStore d.2.2.1 ≤ 4 * 6000 := Nat.mul_le_mul (by omega) (by omega)
  have hw8 := wset_le (w := wTx) (y := (t.1, t.2.1, t.2.2.1, (1 : Int), bkOf d (scopeL t.2.1))) q i.toNat
  have e1 : wTx (t.1, t.2.1, t.2.2.1, (1 : Int), bkOf d (scopeL t.2.1)) = wList wOp t.2.1 + ((bkOf d (scopeL t.2.1)).length + wSum wStore (bkOf d (scopeL t.2.1))) := rfl
  have e2 : wList wTx q = q.length + wSum wTx q := rfl
  show (q.set i.toNat _).length + wSum wTx (q.set i.toNat _) ≤ 40000
  rw [List.length_set]
  omega
theorem stN_w {s : StT} (h : wTxQueue s.2 ≤ 40000) : ∀ n, wTxQueue (stN s 0 n).2 ≤ 40000 * 2 ^ n
 | 0 => by rw [Nat.pow_zero, Nat.mul_one]; exact h
 | n + 1 => by
  have h1 := (stepTx_w (stN s 0 n).1 (stN s 0 n).2 0).2
  have h2 := stN_w h n
  have e : (stN s 0 (n + 1)).2 = (stepTx (stN s 0 n).1 (stN s 0 n).2 0).2.1 := rfl
  rw [e, Nat.pow_succ]; omega
theorem stN_stop {s : StT} {n : Nat} (h : (stepTx (stN s 0 n).1 (stN s 0 n).2 0).2.2 = false) : ∀ m, stN s 0 (n + m) = stN s 0 n
 | 0 => rfl
 | m + 1 => by
  rw [← Nat.add_assoc]
  show stS (stN s 0 (n + m)) 0 = _
  rw [stN_stop h m]
  have hb : stpBad (stN s 0 n).2 0 = true := by
   cases hb : stpBad (stN s 0 n).2 0 with
   | true => rfl
   | false =>
    rw [step_at hb rfl, stepAt] at h
    split at h
    ·split at h <;> cases h
    ·cases h
  unfold stS
  rw [step_bad hb]
theorem tx0_all {d : DbT} {q : List TxT} (hd : isDb d = true) (hq : isFQ q) : ∀ n, isDb (stN (saS (d, q) 0) 0 n).1 = true := fun n => by
 have hf := fq_fresh hq
 obtain ⟨cur, h⟩ := stN_inv hd (ops_le hf) 0 n (saS_inv hd (inv_init hd hf) 0)
 exact h.db
theorem tx_c3 {d : DbT} {q : List TxT} (hd : isDb d = true) (hq : 2 ≤ q.length) (hf : ∀ t ∈ q, freshT t) : (!(startTx d q 0).2 || canS (startTx d q 0).1 0 || canS (startTx d q 0).1 1 == conf (q.getD (Int.toNat 0) default).2.1 (q.getD (Int.toNat 1) default).2.1) = false := by
 obtain ⟨h1, h2, h3⟩ := tx0_start (d := d) hq hf
 obtain ⟨cur, hI⟩ := saS_inv hd (inv_init hd hf) 0
 have e : (startTx d q 0).1 = (saS (d, q) 0).2 := rfl
 have hl : (saS (d, q) 0).2.length = q.length := hI.len
 have h4 : canS (saS (d, q) 0).2 0 = false := can_run (j := 0) (by rw [h2]; decide)
 have h5 : stt (saS (d, q) 0).2 1 = 0 := by rw [h3 1 (by decide)]; exact (hf _ (txA_mem (by omega))).1
 have h6 := can_1 (p := (saS (d, q) 0).2) (by omega) h5
 rw [h2, hI.ops 0 (by omega), hI.ops 1 (by omega)] at h6
 rw [e, h1, h4, h6]
 show (!true || false || (!((decide ((1 : Int) = 0) || decide ((1 : Int) = 1)) && conf (opsAt q 0) (opsAt q 1))) == conf (opsAt q 0) (opsAt q 1)) = false
 cases conf (opsAt q 0) (opsAt q 1) <;> rfl
theorem tx_fin {d : DbT} {q : List TxT} (hd : isDb d = true) (hq : 2 ≤ q.length) (hf : ∀ t ∈ q, freshT t) {c : StT} {n : Nat} (hc : c = stN (saS (d, q) 0) 0 n) (hn : n = 8 ∨ (n ≤ 8 ∧ (stepTx c.1 c.2 0).2.2 = false)) :
  (decide ((c.2.length : Int) < 2) || (!decide ((c.2.getD (Int.toNat 0) default).2.2.2.1 = 2) && !decide ((c.2.getD (Int.toNat 0) default).2.2.2.1 = 3))) = false ∧ (stt c.2 0 = 2 ∨ c.1 = d) ∧ canS c.2 1 = true := by
 have hc8 : c = stN (saS (d, q) 0) 0 8 := by
  rcases hn with e | ⟨h1, h2⟩
  ·rw [hc, e]
  ·rw [hc] at h2
   have := stN_stop h2 (8 - n)
   rw [show n + (8 - n) = 8 by omega] at this
   rw [this]; exact hc
 obtain ⟨h1, h2, h3⟩ := tx0_end hd hq hf
 rw [← hc8] at h1 h2 h3
 have hs : (c.2.getD (Int.toNat 0) default).2.2.2.1 = stt c.2 0 := rfl
 rw [hs, decide_eq_false (show ¬ (c.2.length : Int) < 2 by omega)]
 refine ⟨?_, ?_, h3⟩
 ·rcases h2 with e | ⟨e, _⟩ <;> rw [e] <;> rfl
 ·rcases h2 with e | ⟨_, e⟩
  ·exact .inl e
  ·exact .inr e
theorem can_len (q : List TxT) : canS q (q.length : Int) = false := by
 unfold canS
 rw [decide_eq_false (show ¬ (q.length : Int) < (q.length : Int) by omega)]
 simp

theorem ok_laws_FnTransactions {x0 : List UInt8}  : PFn Tryz.prog 3 [.one (.dv [] (bytesD (x0)))] (.one (.dv [] (.bool (true)))) := by
 refine ⟨fn_intro Tryz.func3 rfl Tryz.ntmps3 Tryz.results3 rfl (fun C => ?_)⟩
 refine ok_fact (x := .tmp 0) (ev_tmp rfl) fun f0 => ?_
 iterate 6 refine z ?_
 refine zC Tryz.call5 ?_ (hf := ok_laws_big (code := x0) )
 refine z ?_
 refine yQ rfl (fun c1 => ?_) fun c1 => ?_
 ·skip
  have d1 := of_decide_eq_true c1
  iterate 6 refine z ?_
  rfl
 ·skip
  have d1 := of_decide_eq_false c1
  iterate 4 refine z ?_
  refine o_callE 0 rfl rfl rfl Tryz.call6 (ok_spec_DrawQueue (code := x0) (by omega)) (as_cons (ev_tmp rfl) (ag_one ac_dv) as_nil) rfl (fun _ => rfl) (fun _ => rfl) (fun zz hz17 => ?_)
  obtain ⟨e17_0, e17_1, e17_2⟩ := zz
  replace hz17 : isDb e17_0 = true ∧ isFQ e17_1 ∧ e17_1.length ≤ 5 ∧ e17_2.length ≤ 12 := hz17
  have hxw := isDb_w2 hz17.1
  have hqw := fq_w hz17.2.1.1
  have hsw := start_w hz17.1 hz17.2.1 hz17.2.2.1 0
  iterate 14 refine z ?_
  refine yO rfl rfl (pu_lenKn (n := ((e17_1)).length) hT rfl rfl (ev_tmp rfl) rfl rfl) rfl ?_
  iterate 2 refine z ?_
  refine yQ rfl (fun c2 => ?_) fun c2 => ?_
  ·skip
   have d2 := of_decide_eq_true c2
   iterate 4 refine z ?_
   refine yO rfl rfl (pu_lenKn (n := ((e17_1)).length) hT rfl rfl (ev_tmp rfl) rfl rfl) rfl ?_
   refine o_call rfl rfl rfl Tryz.call7 (ok_impl_CanStart (q := e17_1) (i := (((e17_1)).length : Int)) ) (as_cons (ev_tmp rfl) (ag_agg (ag_cons (ac_key' rfl rfl) ag_nil)) (as_cons (ev_tmp rfl) (ag_one ac_dv) as_nil)) rfl rfl ?_
   iterate 6 refine z ?_
   rw [can_len]; rfl
  ·skip
   have d2 := of_decide_eq_false c2
   have hq2 : 2 ≤ e17_1.length := by omega
   have hff := fq_fresh hz17.2.1
   have hst := tx0_start (d := e17_0) hq2 hff
   iterate 5 refine z ?_
   refine o_callK 1000 rfl rfl rfl Tryz.call8 (ok_impl_StartTx (d := e17_0) (q := e17_1) (i := 0) (by omega) (by omega)) (as_cons (ev_tmp rfl) (ag_agg (ag_cons ac_dv (ag_cons ac_dv (ag_cons (ac_key' rfl rfl) (ag_cons (ac_key' rfl rfl) ag_nil))))) (as_cons (ev_tmp rfl) (ag_agg (ag_cons (ac_key' rfl rfl) ag_nil)) (as_cons (ev_int (inR_lit rfl)) (ag_one ac_dv) as_nil))) rfl rfl rfl ?_
   iterate 7 refine z ?_
   refine ok_seq ?_
   refine ok_seq ?_
   refine ok_regionD (oB := [3, 4, 6]) (oK := [90031, 90900, 95031, 96031, 97001]) (by kernel_rfl) rfl rfl ?_
   refine zD 0 ?_
   refine zD 1 ?_
   refine zD 2 ?_
   refine zDG 3 ?_
   refine d_callG 4 rfl (by kernel_rfl) (gd_bool rfl rfl rfl rfl rfl) rfl rfl Tryz.call7 (ok_impl_CanStart (q := (startTx (e17_0) (e17_1) (0)).1) (i := 0) ) (fun hg => (as_cons (ev_opt rfl hg) (ag_agg (ag_cons (ac_key' rfl rfl) ag_nil)) (as_cons (ev_int (inR_lit rfl)) (ag_one ac_dv) as_nil))) rfl rfl ?_
   refine zD 5 ?_
   refine zD 6 ?_
   refine zDG 7 ?_
   refine zDG 9 ?_
   refine d_takeG 10 rfl (by kernel_rfl) (gd_bool rfl rfl rfl rfl rfl) rfl (fun hg => pu_view (dd := txsD (e17_1)) (pu_loadBox1 hT rfl rfl (ev_opt rfl hg) rfl rfl) rfl rfl) rfl rfl rfl rfl ?_
   refine zDG 11 ?_
   refine zDG 12 ?_
   refine zDG 13 ?_
   refine zDG 14 ?_
   refine d_takeG 15 rfl (by kernel_rfl) (gd_bool rfl rfl rfl rfl rfl) rfl (fun hg => pu_view (dd := txsD (e17_1)) (pu_loadBox1 hT rfl rfl (ev_opt rfl hg) rfl rfl) rfl rfl) rfl rfl rfl rfl ?_
   refine zDG 16 ?_
   refine zDG 17 ?_
   refine zDG 18 ?_
   refine d_callG 8 rfl (by kernel_rfl) (gd_bool rfl rfl rfl rfl rfl) rfl rfl Tryz.call7 (ok_impl_CanStart (q := (startTx (e17_0) (e17_1) (0)).1) (i := 1) ) (fun hg => (as_cons (ev_opt rfl hg) (ag_agg (ag_cons (ac_key' rfl rfl) ag_nil)) (as_cons (ev_int (inR_lit rfl)) (ag_one ac_dv) as_nil))) rfl rfl ?_
   refine d_callG 19 rfl (by kernel_rfl) (gd_bool rfl rfl rfl rfl rfl) rfl rfl Tryz.call9 (ok_impl_Conflicts (a := (e17_1.getD (0 : Int).toNat default).2.1) (b := (e17_1.getD (1 : Int).toNat default).2.1)) (fun hg => (as_cons (ev_opt rfl hg) (ag_one ac_dv) (as_cons (ev_opt rfl hg) (ag_one ac_dv) as_nil))) rfl rfl ?_
   refine d_takeG 20 rfl (by kernel_rfl) (gd_bool rfl rfl rfl rfl rfl) rfl (fun hg => pu_beql hT rfl rfl (ev_opt rfl hg) (ev_opt rfl hg)) rfl rfl rfl rfl ?_
   refine zD 21 ?_
   refine d_done (by kernel_rfl) ?_
   refine z ?_
   refine yQ rfl (fun c3 => ?_) fun c3 => ?_
   ·skip
    iterate 6 refine z ?_
    exfalso; rw [tx_c3 hz17.1 hq2 hff] at c3; cases c3
   ·skip
    iterate 12 refine z ?_
    refine ok_weak (weak_add (k := 98031) (e := 60) (sz := 3) rfl rfl) ?_
    refine ok_weak (weak_viewB (b := 8) (i := 2) (k := 90031) [90031, 98031] rfl rfl rfl rfl rfl) ?_
    refine ok_weak (weak_add (k := 98900) (e := 78) (sz := 2) rfl rfl) ?_
    refine ok_weak (weak_viewB (b := 8) (i := 3) (k := 90900) [90900, 98900] rfl rfl rfl rfl rfl) ?_
    refine ok_loop (ι := Nat × StT × List StoreT × List DefT) (fun zz => ⟨[(2, .one (.dv [] (.bool (false)))), (3, .box 3 0), (4, .box 4 0), (6, .box 6 0), (8, .box 8 0), (9, .one (.dv [] (.int .i64 ((zz.1 : Int)))))], [(3, 27, [(.dv [] (.str (e17_0.1))), (.dv [] (.int .i64 (e17_0.2.1))), (.key 90031), (.key 90900)]), (4, 30, [(.key 95031)]), (6, 30, [(.key 96031)]), (8, 27, [(.dv [] (.str (zz.2.1.1.1))), (.dv [] (.int .i64 (zz.2.1.1.2.1))), (.dv [90031, 98031] (storesD (zz.2.1.1.2.2.1))), (.dv [90900, 98900] (defsD (zz.2.1.1.2.2.2)))])], [(96031, some (kcOf false (.sl 40 5 (zz.2.1.2.length) (zz.2.1.2.flatMap eTx)))), (98031, some (kcOf false (.sl 60 3 (zz.2.2.1.length) (zz.2.2.1.flatMap eStore)))), (98900, some (kcOf false (.sl 78 2 (zz.2.2.2.length) (zz.2.2.2.flatMap eDef)))), (90031, some (kcOf false (storesD (e17_0.2.2.1)))), (90900, some (kcOf false (defsD (e17_0.2.2.2)))), (95031, some (kcOf false (txsD (e17_1))))]⟩) (fun zz => zz.1 ≤ 8 ∧ zz.2.1 = stN (saS (e17_0, e17_1) 0) 0 zz.1) (fun zz => 8 - zz.1) ((0, (saS (e17_0, e17_1) 0), [], [])) ?_ (weak_sub ⟨rfl, rfl, rfl, rfl, rfl, rfl, trivial⟩ ⟨rfl, rfl, rfl, rfl, trivial⟩ ⟨rfl, rfl, rfl, rfl, rfl, rfl, trivial⟩ rfl) (fun zz hx => ?_)
    ·exact ⟨Nat.zero_le _, rfl⟩
    obtain ⟨n, c, zs, zd⟩ := zz
    replace hx : n ≤ 8 ∧ c = stN (saS (e17_0, e17_1) 0) 0 n := hx
    obtain ⟨hn, hc⟩ := hx
    have hcd : isDb c.1 = true := by rw [hc]; exact tx0_all hz17.1 hz17.2.1 n
    have hcw := isDb_w2 hcd
    have hqw2 : wTxQueue c.2 ≤ 40000 * 2 ^ n := by rw [hc]; exact stN_w hsw n
    have hpw : 2 ^ n ≤ 2 ^ 8 := Nat.pow_le_pow_right (by decide) hn
    have hqe : wTxQueue c.2 = wList wTx c.2 := rfl
    have hcl : c.2.length = e17_1.length := by rw [hc, stN_len, start_len]
    show Ok _ _ _ _ _ (⟨[(2, .one (.dv [] (.bool (false)))), (3, .box 3 0), (4, .box 4 0), (6, .box 6 0), (8, .box 8 0), (9, .one (.dv [] (.int .i64 ((n : Int)))))], [(3, 27, [(.dv [] (.str (e17_0.1))), (.dv [] (.int .i64 (e17_0.2.1))), (.key 90031), (.key 90900)]), (4, 30, [(.key 95031)]), (6, 30, [(.key 96031)]), (8, 27, [(.dv [] (.str (c.1.1))), (.dv [] (.int .i64 (c.1.2.1))), (.dv [90031, 98031] (storesD (c.1.2.2.1))), (.dv [90900, 98900] (defsD (c.1.2.2.2)))])], [(96031, some (kcOf false (.sl 40 5 (c.2.length) (c.2.flatMap eTx)))), (98031, some (kcOf false (.sl 60 3 (zs.length) (zs.flatMap eStore)))), (98900, some (kcOf false (.sl 78 2 (zd.length) (zd.flatMap eDef)))), (90031, some (kcOf false (storesD (e17_0.2.2.1)))), (90900, some (kcOf false (defsD (e17_0.2.2.2)))), (95031, some (kcOf false (txsD (e17_1))))]⟩ : St)
    iterate 5 refine z ?_
    refine yQ rfl (fun c4 => ?_) fun c4 => ?_
    ·skip
     have d4 := of_decide_eq_true c4
     iterate 7 refine z ?_
     refine o_callK 7000 rfl rfl rfl Tryz.call10 (ok_impl_StepTx (d := c.1) (q := c.2) (i := 0) (by omega) (by omega)) (as_cons (ev_tmp rfl) (ag_agg (ag_cons ac_dv (ag_cons ac_dv (ag_cons ac_dv (ag_cons ac_dv ag_nil))))) (as_cons (ev_tmp rfl) (ag_agg (ag_cons (ac_key' rfl rfl) ag_nil)) (as_cons (ev_int (inR_lit rfl)) (ag_one ac_dv) as_nil))) rfl rfl rfl ?_
     iterate 15 refine z ?_
     refine yQ rfl (fun c5 => ?_) fun c5 => ?_
     ·skip
      iterate 11 refine z ?_
      refine yO rfl rfl (pu_lenKn (n := (c.2.length)) hT rfl rfl (ev_tmp rfl) rfl rfl) rfl ?_
      iterate 3 refine z ?_
      refine o_pureG (gd_bool rfl rfl rfl rfl rfl) rfl (fun hg => pu_view (dd := txsD (c.2)) (pu_loadBox1 hT rfl rfl (ev_opt rfl hg) rfl rfl) rfl rfl) rfl rfl ?_
      iterate 6 refine z ?_
      refine o_pureG (gd_opt rfl rfl rfl rfl rfl) rfl (fun hg => pu_view (dd := txsD (c.2)) (pu_loadBox1 hT rfl rfl (ev_opt rfl hg) rfl rfl) rfl rfl) rfl rfl ?_
      iterate 7 refine z ?_
      refine yQ rfl (fun c6 => ?_) fun c6 => ?_
      ·skip
       iterate 6 refine z ?_
       exfalso; rw [(tx_fin hz17.1 hq2 hff hc (.inr ⟨hn, by simpa using c5⟩)).1] at c6; cases c6
      ·skip
       iterate 2 refine z ?_
       refine ok_seq ?_
       refine ok_regionD (oB := [3, 4, 6, 8, 10, 11]) (oK := [90031, 90900, 95031, 96031, 97031, 97900, 98031, 98900, 102031]) (by kernel_rfl) rfl rfl ?_
       refine zD 0 ?_
       refine d_take 1 rfl (by kernel_rfl) rfl rfl (pu_view (dd := txsD (c.2)) (pu_loadBox1 hT rfl rfl (ev_tmp rfl) rfl rfl) rfl rfl) rfl rfl rfl rfl ?_
       refine zD 2 ?_
       refine zD 3 ?_
       refine zD 4 ?_
       refine zD 5 ?_
       refine zD 6 ?_
       refine zDG 7 ?_
       refine zDG 8 ?_
       refine d_callG 9 rfl (by kernel_rfl) (gd_bool rfl rfl rfl rfl rfl) rfl rfl Tryz.call11 (ok_impl_EqualDatabases (x := c.1) (y := e17_0) ) (fun hg => (as_cons (ev_opt rfl hg) (ag_agg (ag_cons ac_dv (ag_cons ac_dv (ag_cons ac_dv (ag_cons ac_dv ag_nil))))) (as_cons (ev_opt rfl hg) (ag_agg (ag_cons ac_dv (ag_cons ac_dv (ag_cons (ac_key' rfl rfl) (ag_cons (ac_key' rfl rfl) ag_nil))))) as_nil))) rfl rfl ?_
       refine zD 10 ?_
       refine zD 11 ?_
       refine zDG 12 ?_
       refine d_callG 13 rfl (by kernel_rfl) (gd_bool rfl rfl rfl rfl rfl) rfl rfl Tryz.call7 (ok_impl_CanStart (q := c.2) (i := 1) ) (fun hg => (as_cons (ev_opt rfl hg) (ag_agg (ag_cons (ac_key' rfl rfl) ag_nil)) (as_cons (ev_int (inR_lit rfl)) (ag_one ac_dv) as_nil))) rfl rfl ?_
       refine zD 14 ?_
       refine zD 15 ?_
       refine zDG 16 ?_
       refine d_takeG 17 rfl (by kernel_rfl) (gd_bool rfl rfl rfl rfl rfl) rfl (fun hg => pu_view (dd := txsD (e17_1)) (pu_loadBox1 hT rfl rfl (ev_opt rfl hg) rfl rfl) rfl rfl) rfl rfl rfl rfl ?_
       refine zDG 18 ?_
       refine zDG 19 ?_
       refine zDG 20 ?_
       refine zDG 21 ?_
       refine d_takeG 22 rfl (by kernel_rfl) (gd_bool rfl rfl rfl rfl rfl) rfl (fun hg => pu_view (dd := txsD (e17_1)) (pu_loadBox1 hT rfl rfl (ev_opt rfl hg) rfl rfl) rfl rfl) rfl rfl rfl rfl ?_
       refine zDG 23 ?_
       refine zDG 24 ?_
       refine zDG 25 ?_
       refine zDG 27 ?_
       refine d_takeG 28 rfl (by kernel_rfl) (gd_bool rfl rfl rfl rfl rfl) rfl (fun hg => pu_view (dd := txsD (e17_1)) (pu_loadBox1 hT rfl rfl (ev_opt rfl hg) rfl rfl) rfl rfl) rfl rfl rfl rfl ?_
       refine zDG 29 ?_
       refine zDG 30 ?_
       refine zDG 31 ?_
       refine zDG 32 ?_
       refine d_takeG 33 rfl (by kernel_rfl) (gd_bool rfl rfl rfl rfl rfl) rfl (fun hg => pu_view (dd := txsD (e17_1)) (pu_loadBox1 hT rfl rfl (ev_opt rfl hg) rfl rfl) rfl rfl) rfl rfl rfl rfl ?_
       refine zDG 34 ?_
       refine zDG 35 ?_
       refine zDG 36 ?_
       refine d_callG 26 rfl (by kernel_rfl) (gd_bool rfl rfl rfl rfl rfl) rfl rfl Tryz.call9 (ok_impl_Conflicts (a := (e17_1.getD (0 : Int).toNat default).2.1) (b := (e17_1.getD (1 : Int).toNat default).2.1)) (fun hg => (as_cons (ev_opt rfl hg) (ag_one ac_dv) (as_cons (ev_opt rfl hg) (ag_one ac_dv) as_nil))) rfl rfl ?_
       refine d_callG 37 rfl (by kernel_rfl) (gd_bool rfl rfl rfl rfl rfl) rfl rfl Tryz.call9 (ok_impl_Conflicts (a := (e17_1.getD (1 : Int).toNat default).2.1) (b := (e17_1.getD (0 : Int).toNat default).2.1)) (fun hg => (as_cons (ev_opt rfl hg) (ag_one ac_dv) (as_cons (ev_opt rfl hg) (ag_one ac_dv) as_nil))) rfl rfl ?_
       refine d_takeG 38 rfl (by kernel_rfl) (gd_bool rfl rfl rfl rfl rfl) rfl (fun hg => pu_beql hT rfl rfl (ev_opt rfl hg) (ev_opt rfl hg)) rfl rfl rfl rfl ?_
       refine zD 39 ?_
       refine zD 40 ?_
       refine d_done (by kernel_rfl) ?_
       iterate 3 refine z ?_
       obtain ⟨_, q1, q2⟩ := tx_fin hz17.1 hq2 hff hc (.inr ⟨hn, by simpa using c5⟩)
       rw [q2, conf_comm (e17_1.getD (Int.toNat 1) default).2.1]
       rcases q1 with q1 | q1
       ·rw [decide_eq_true (show (c.2.getD (Int.toNat 0) default).2.2.2.1 = 2 from q1)]; simp
       ·rw [q1, eqDb_self]; simp
     ·skip
      iterate 6 refine z ?_
      refine ok_region ?_
      iterate 2 refine z ?_
      refine ops_nil ?_
      iterate 2 refine z ?_
      refine ok_region ?_
      iterate 4 refine z ?_
      refine ⟨(n + 1, (stS c 0), ((stS c 0)).1.2.2.1, ((stS c 0)).1.2.2.2), ?_, ?_, weak_then (weak_swapB (b := 6) (i := 0) (k := 102031) (k' := 96031) rfl rfl rfl rfl (by simp) rfl rfl) (weak_then (weak_swapB (b := 8) (i := 2) (k := 97031) (k' := 98031) rfl rfl rfl rfl (by simp) rfl rfl) (weak_then (weak_viewB (b := 8) (i := 2) (k := 98031) [90031, 98031] rfl rfl rfl rfl rfl) (weak_then (weak_swapB (b := 8) (i := 3) (k := 97900) (k' := 98900) rfl rfl rfl rfl (by simp) rfl rfl) (weak_then (weak_viewB (b := 8) (i := 3) (k := 98900) [90900, 98900] rfl rfl rfl rfl rfl) (weak_sub ⟨rfl, rfl, rfl, rfl, rfl, rfl, trivial⟩ ⟨rfl, rfl, rfl, rfl, trivial⟩ ⟨rfl, rfl, rfl, rfl, rfl, rfl, trivial⟩ rfl)))))⟩
      ·exact ⟨by dsimp only; omega, by rw [hc]; rfl⟩
      ·dsimp only; omega
    ·skip
     have d4 := of_decide_eq_false c4
     iterate 9 refine z ?_
     refine yO rfl rfl (pu_lenKn (n := (c.2.length)) hT rfl rfl (ev_tmp rfl) rfl rfl) rfl ?_
     iterate 3 refine z ?_
     refine o_pureG (gd_bool rfl rfl rfl rfl rfl) rfl (fun hg => pu_view (dd := txsD (c.2)) (pu_loadBox1 hT rfl rfl (ev_opt rfl hg) rfl rfl) rfl rfl) rfl rfl ?_
     iterate 6 refine z ?_
     refine o_pureG (gd_opt rfl rfl rfl rfl rfl) rfl (fun hg => pu_view (dd := txsD (c.2)) (pu_loadBox1 hT rfl rfl (ev_opt rfl hg) rfl rfl) rfl rfl) rfl rfl ?_
     iterate 7 refine z ?_
     refine yQ rfl (fun c7 => ?_) fun c7 => ?_
     ·skip
      iterate 6 refine z ?_
      exfalso; rw [(tx_fin hz17.1 hq2 hff hc (.inl (by omega))).1] at c7; cases c7
     ·skip
      iterate 2 refine z ?_
      refine ok_seq ?_
      refine ok_regionD (oB := [3, 4, 6, 8]) (oK := [90031, 90900, 95031, 96031, 98031, 98900]) (by kernel_rfl) rfl rfl ?_
      refine zD 0 ?_
      refine d_take 1 rfl (by kernel_rfl) rfl rfl (pu_view (dd := txsD (c.2)) (pu_loadBox1 hT rfl rfl (ev_tmp rfl) rfl rfl) rfl rfl) rfl rfl rfl rfl ?_
      refine zD 2 ?_
      refine zD 3 ?_
      refine zD 4 ?_
      refine zD 5 ?_
      refine zD 6 ?_
      refine zDG 7 ?_
      refine zDG 8 ?_
      refine d_callG 9 rfl (by kernel_rfl) (gd_bool rfl rfl rfl rfl rfl) rfl rfl Tryz.call11 (ok_impl_EqualDatabases (x := c.1) (y := e17_0) ) (fun hg => (as_cons (ev_opt rfl hg) (ag_agg (ag_cons ac_dv (ag_cons ac_dv (ag_cons ac_dv (ag_cons ac_dv ag_nil))))) (as_cons (ev_opt rfl hg) (ag_agg (ag_cons ac_dv (ag_cons ac_dv (ag_cons (ac_key' rfl rfl) (ag_cons (ac_key' rfl rfl) ag_nil))))) as_nil))) rfl rfl ?_
      refine zD 10 ?_
      refine zD 11 ?_
      refine zDG 12 ?_
      refine d_callG 13 rfl (by kernel_rfl) (gd_bool rfl rfl rfl rfl rfl) rfl rfl Tryz.call7 (ok_impl_CanStart (q := c.2) (i := 1) ) (fun hg => (as_cons (ev_opt rfl hg) (ag_agg (ag_cons (ac_key' rfl rfl) ag_nil)) (as_cons (ev_int (inR_lit rfl)) (ag_one ac_dv) as_nil))) rfl rfl ?_
      refine zD 14 ?_
      refine zD 15 ?_
      refine zDG 16 ?_
      refine d_takeG 17 rfl (by kernel_rfl) (gd_bool rfl rfl rfl rfl rfl) rfl (fun hg => pu_view (dd := txsD (e17_1)) (pu_loadBox1 hT rfl rfl (ev_opt rfl hg) rfl rfl) rfl rfl) rfl rfl rfl rfl ?_
      refine zDG 18 ?_
      refine zDG 19 ?_
      refine zDG 20 ?_
      refine zDG 21 ?_
      refine d_takeG 22 rfl (by kernel_rfl) (gd_bool rfl rfl rfl rfl rfl) rfl (fun hg => pu_view (dd := txsD (e17_1)) (pu_loadBox1 hT rfl rfl (ev_opt rfl hg) rfl rfl) rfl rfl) rfl rfl rfl rfl ?_
      refine zDG 23 ?_
      refine zDG 24 ?_
      refine zDG 25 ?_
      refine zDG 27 ?_
      refine d_takeG 28 rfl (by kernel_rfl) (gd_bool rfl rfl rfl rfl rfl) rfl (fun hg => pu_view (dd := txsD (e17_1)) (pu_loadBox1 hT rfl rfl (ev_opt rfl hg) rfl rfl) rfl rfl) rfl rfl rfl rfl ?_
      refine zDG 29 ?_
      refine zDG 30 ?_
      refine zDG 31 ?_
      refine zDG 32 ?_
      refine d_takeG 33 rfl (by kernel_rfl) (gd_bool rfl rfl rfl rfl rfl) rfl (fun hg => pu_view (dd := txsD (e17_1)) (pu_loadBox1 hT rfl rfl (ev_opt rfl hg) rfl rfl) rfl rfl) rfl rfl rfl rfl ?_
      refine zDG 34 ?_
      refine zDG 35 ?_
      refine zDG 36 ?_
      refine d_callG 26 rfl (by kernel_rfl) (gd_bool rfl rfl rfl rfl rfl) rfl rfl Tryz.call9 (ok_impl_Conflicts (a := (e17_1.getD (0 : Int).toNat default).2.1) (b := (e17_1.getD (1 : Int).toNat default).2.1)) (fun hg => (as_cons (ev_opt rfl hg) (ag_one ac_dv) (as_cons (ev_opt rfl hg) (ag_one ac_dv) as_nil))) rfl rfl ?_
      refine d_callG 37 rfl (by kernel_rfl) (gd_bool rfl rfl rfl rfl rfl) rfl rfl Tryz.call9 (ok_impl_Conflicts (a := (e17_1.getD (1 : Int).toNat default).2.1) (b := (e17_1.getD (0 : Int).toNat default).2.1)) (fun hg => (as_cons (ev_opt rfl hg) (ag_one ac_dv) (as_cons (ev_opt rfl hg) (ag_one ac_dv) as_nil))) rfl rfl ?_
      refine d_takeG 38 rfl (by kernel_rfl) (gd_bool rfl rfl rfl rfl rfl) rfl (fun hg => pu_beql hT rfl rfl (ev_opt rfl hg) (ev_opt rfl hg)) rfl rfl rfl rfl ?_
      refine zD 39 ?_
      refine zD 40 ?_
      refine d_done (by kernel_rfl) ?_
      iterate 3 refine z ?_
      obtain ⟨_, q1, q2⟩ := tx_fin hz17.1 hq2 hff hc (.inl (by omega))
      rw [q2, conf_comm (e17_1.getD (Int.toNat 1) default).2.1]
      rcases q1 with q1 | q1
      ·rw [decide_eq_true (show (c.2.getD (Int.toNat 0) default).2.2.2.1 = 2 from q1)]; simp
      ·rw [q1, eqDb_self]; simp
end Go.Proofs.YtjkpoekgnmgofaaGreat

namespace Go.Proofs.YtjkpoekgnmgofaaGreat
open Go.RowKit Go.ChangeShapes Go.WideShapes Go.Deep

def LayW (W : World) : List DV → List Value → Prop := LayL (fun b => b < W.heap.size) W
structure OpensD (P : Program) (Q : List DV → Prop) (t : TypeId) : Prop where
 run : ∀ {H : Type} (enc : TypeId × Value → H) (W : World) (base : Nat) (spare : Nat → Bool) (held : Bool) (fuel : Nat) (cs : List Value) (y : DataW H × List MemPlace),
  DataW.trod enc P W base spare held fuel t cs = some y → ∃ ds, Q ds ∧ LayW W ds cs
def Is {α : Type} (enc : α → List DV) (ds : List DV) : Prop := ∃ x, ds = enc x
theorem opensD_byte {P : Program} {t : TypeId} (ht : P.underlying t = some (.int .u8)) : OpensD P (Is eByte) t := by
 refine ⟨fun {H} enc W base spare held fuel cs y h => ?_⟩
 obtain ⟨n, rfl, _, hw⟩ := DataW.trod_int ht h
 have hb : 0 ≤ n ∧ n ≤ 255 := by simpa [Lit.wf, IntKind.min, IntKind.max, IntKind.signed, IntKind.bits] using hw
 have e : ((UInt8.ofNat n.toNat).toNat : Int) = n := by
  rw [UInt8.toNat_ofNat']
  have : n.toNat % 2 ^ 8 = n.toNat := Nat.mod_eq_of_lt (by omega)
  rw [this]; omega
 refine ⟨_, ⟨UInt8.ofNat n.toNat, rfl⟩, ?_⟩
 simp only [LayW, LayL, Lay]
 rw [e]
 exact ⟨_, _, rfl, ⟨rfl, by simpa [InR, IntKind.min, IntKind.max, IntKind.signed, IntKind.bits] using hb⟩, rfl⟩
theorem points {α : Type} {enc : α → List DV} {W : World} {sz : Nat} {f : Nat → Option Value} (hs : ∀ x, (enc x).length = sz) : ∀ n : Nat,
  (∀ i, i < n → ∃ x ci, LayW W (enc x) ci ∧ ∀ j, j < sz → f (i * sz + j) = ci[j]?) → ∃ (xs : List α) (cells : List Value), xs.length = n ∧ LayW W (xs.flatMap enc) cells ∧ ∀ j u, cells[j]? = some u → f j = some u
 | 0, _ => ⟨[], [], rfl, by simp [LayW, LayL], by simp⟩
 | n + 1, h => by
  obtain ⟨xs, cells, h1, h2, h3⟩ := points hs n (fun i hi => h i (by omega))
  obtain ⟨x, ci, g1, g2⟩ := h n (by omega)
  have hl : cells.length = n * sz := by rw [layL_len _ _ h2, flat_len hs, h1]
  have hci : ci.length = sz := by rw [layL_len _ _ g1, hs]
  refine ⟨xs ++ [x], cells ++ ci, by simp [h1], by have := layL_append _ _ _ _ h2 g1; simp only [List.flatMap_append, List.flatMap_cons, List.flatMap_nil, List.append_nil]; exact this, fun j u hu => ?_⟩
  rcases Nat.lt_or_ge j cells.length with hj | hj
  ·rw [List.getElem?_append_left hj] at hu; exact h3 j u hu
  ·rw [List.getElem?_append_right hj] at hu
   have hjs : j - cells.length < sz := by rw [← hci]; exact (List.getElem?_eq_some_iff.1 hu).1
   have := g2 (j - cells.length) hjs
   rw [show n * sz + (j - cells.length) = j by omega] at this
   rw [this, hu]
theorem opensD_slice {α : Type} {P : Program} {enc : α → List DV} {t e : TypeId} {sz : Nat} (e' : Nat) (hs : ∀ x, (enc x).length = sz) (hsz : Nat.blt 0 sz = true) (ht : P.underlying t = some (.slice e)) (hc : P.cellsOf e = sz) (he : OpensD P (Is enc) e) : OpensD P (Is fun xs : List α => [listD e' sz enc xs]) t := by
 refine ⟨fun {H} ench W base spare held fuel cs y h => ?_⟩
 have hpos : 0 < sz := by simpa [Nat.blt_eq] using hsz
 rcases open_slice ht h with ⟨rfl, _⟩ | ⟨a, len, cap, m, n, D, Pl, rfl, _, hl, hm, hmm, _, hi⟩
 ·refine ⟨_, ⟨[], rfl⟩, ?_⟩
  simp only [LayW, LayL, Lay]
  exact ⟨_, _, rfl, ⟨none, 0, [], rfl, Nat.le_refl _, by simp [maxLen], hpos, by simp, by simp [LayL], fun h => by simp at h⟩, rfl⟩
 ·have hlm : len ≤ m := by rw [hmm]; split <;> omega
  obtain ⟨xs, cells, h1, h2, h3⟩ := points (W := W) (f := fun j => W.cell? (a.add j)) hs len (fun i hil => by
   obtain ⟨cs', hc1, hc2⟩ := hi i (by omega)
   obtain ⟨ds, ⟨x, rfl⟩, hx⟩ := he.run ench W base spare held n cs' _ hc2
   obtain ⟨_, hcl, hat⟩ := World.cells?_some hc1
   refine ⟨x, cs', hx, fun j hj => ?_⟩
   have := hat j (by rw [hc]; exact hj)
   rw [← Go.Deep.add_add, hc] at *
   exact this)
  refine ⟨_, ⟨xs, rfl⟩, ?_⟩
  simp only [LayW, LayL]
  refine ⟨_, _, rfl, ?_, rfl⟩
  simp only [Lay]
  refine ⟨some a, cap, cells, by rw [h1], by omega, hm, hpos, flat_len hs xs, h2, fun hp => ?_⟩
  have hcl : 0 < cells.length := by
   rw [layL_len _ _ h2, flat_len hs]
   exact Nat.mul_pos hp hpos
  have h0 := h3 0 _ (List.getElem?_eq_getElem hcl)
  have ha0 : a.add 0 = a := by simp [Addr.add]
  simp only [ha0] at h0
  have hsp : a.spot = none := by
   cases hs : a.spot with
   | none => rfl
   | some s =>
    unfold World.cell? at h0
    split at h0
    ·simp [hs] at h0
    ·cases h0
  obtain ⟨b, off, sp⟩ := a
  simp only at hsp
  subst hsp
  refine ⟨b, off, rfl, World.block_lt_of_cell? W _ h0, fun j u hu => ?_⟩
  have := h3 j u hu
  simp only [add_row] at this
  exact this
/-! ### structs -/
theorem OpensD.mono {P : Program} {Q R : List DV → Prop} {t : TypeId} (h : OpensD P Q t) (hq : ∀ ds, Q ds → R ds) : OpensD P R t := by
 refine ⟨fun {H} enc W base spare held fuel cs y h' => ?_⟩
 obtain ⟨ds, h1, h2⟩ := h.run enc W base spare held fuel cs y h'
 exact ⟨ds, hq ds h1, h2⟩
/-! ### a call from the outside -/
def TopL (w : World) : List SV → List Value → Prop
 | [], vs => vs = []
 | .one c :: us, vs => ∃ d v vs', c = .dv [] d ∧ vs = v :: vs' ∧ LayW w [d] [v] ∧ TopL w us vs'
 | .agg cs :: us, vs => ∃ ds xs vs', cs = ds.map (CV.dv []) ∧ vs = .agg xs.toArray :: vs' ∧ LayW w ds xs ∧ TopL w us vs'
 | _ :: _, _ => False
theorem lay_top {w : World} {L : Lyt} {d : DV} {v : Value} (h : LayW w [d] [v]) : CVr ⟨w, [], L.rv⟩ L w (.dv [] d) v := by
 simp only [LayW, LayL] at h
 obtain ⟨v', _, e, h1, rfl⟩ := h
 simp only [List.cons.injEq, and_true] at e
 subst e
 simp only [CVr]
 exact lay_conv (fun b hb _ => ⟨.inl ⟨hb, by simp⟩, rfl⟩) d _ h1
theorem lays_top {w : World} {L : Lyt} : ∀ {ds : List DV} {vs : List Value}, LayW w ds vs → CVL ⟨w, [], L.rv⟩ L w (ds.map (CV.dv [])) vs
 | [], _, h => by simp only [LayW, LayL] at h; subst h; rfl
 | d :: ds, _, h => by
  simp only [LayW, LayL] at h
  obtain ⟨v, vs', rfl, h1, h2⟩ := h
  exact ⟨v, vs', rfl, lay_top (by simp only [LayW, LayL]; exact ⟨v, [], rfl, h1, rfl⟩), lays_top h2⟩
theorem topL_sv {P : Program} {w : World} {L : Lyt} : ∀ {us : List SV} {vs : List Value}, TopL w us vs → vs.length = us.length ∧ (∀ u ∈ us, u.keys = [] ∧ u.boxes = []) ∧ ∀ (i : Nat) (v : SV), us[i]? = some v → ∃ x, vs[i]? = some x ∧ SVr P ⟨w, [], L.rv⟩ L w v x
 | [], _, h => by simp only [TopL] at h; subst h; simp
 | .one c :: us, _, h => by
  simp only [TopL] at h
  obtain ⟨d, v, vs', rfl, rfl, h1, h2⟩ := h
  obtain ⟨g1, g2, g3⟩ := topL_sv (P := P) (L := L) h2
  refine ⟨by simp [g1], fun u hu => ?_, fun i x hx => ?_⟩
  ·rcases List.mem_cons.1 hu with rfl | hu
   ·exact ⟨rfl, rfl⟩
   ·exact g2 u hu
  ·cases i with
   | zero => simp only [List.getElem?_cons_zero, Option.some.injEq] at hx; subst hx; exact ⟨v, rfl, by simp only [SVr]; exact lay_top h1⟩
   | succ i => simpa using g3 i x (by simpa using hx)
 | .agg cs :: us, _, h => by
  simp only [TopL] at h
  obtain ⟨ds, xs, vs', rfl, rfl, h1, h2⟩ := h
  obtain ⟨g1, g2, g3⟩ := topL_sv (P := P) (L := L) h2
  refine ⟨by simp [g1], fun u hu => ?_, fun i x hx => ?_⟩
  ·rcases List.mem_cons.1 hu with rfl | hu
   ·refine ⟨?_, rfl⟩
    simp only [SV.keys]
    rw [List.flatMap_eq_nil_iff]
    intro c hc
    obtain ⟨d, _, rfl⟩ := List.mem_map.1 hc
    rfl
   ·exact g2 u hu
  ·cases i with
   | zero => simp only [List.getElem?_cons_zero, Option.some.injEq] at hx; subst hx; exact ⟨_, rfl, by simp only [SVr]; exact ⟨xs, rfl, lays_top h1⟩⟩
   | succ i => simpa using g3 i x (by simpa using hx)
 | .tup _ :: _, _, h => by simp [TopL] at h
 | .box _ _ :: _, _, h => by simp [TopL] at h
 | .ref _ _ :: _, _, h => by simp [TopL] at h
 | .eptr _ _ :: _, _, h => by simp [TopL] at h
 | .ksl _ _ _ _ :: _, _, h => by simp [TopL] at h
 | .fn _ _ :: _, _, h => by simp [TopL] at h
 | .clo _ _ :: _, _, h => by simp [TopL] at h
 | .opt _ _ :: _, _, h => by simp [TopL] at h
 | .any :: _, _, h => by simp [TopL] at h
theorem pfn_run {P : Program} {f : FuncId} {us : List SV} {b : Bool} (hf : PFn P f us (.one (.dv [] (.bool b)))) {w : World} {vs : List Value} (h : TopL w us vs) :
  Calls P f vs.toArray w fun e w' => e = .returned (.bool b) ∧ Below w.heap.size w w' := by
 let L : Lyt := ⟨fun _ => 0, fun _ => [], fun _ => .bool false⟩
 obtain ⟨h1, h2, h3⟩ := topL_sv (P := P) (L := L) h
 obtain ⟨t1, t2⟩ := enum_tk us 0 h2
 have hr : Rel P ⟨w, [], L.rv⟩ us.length L ⟨enumS 0 us, [], []⟩ ⟨vs.toArray, []⟩ w := {
  df := rfl
  sz := by simp [h1]
  tm := fun i v hv => by
   obtain ⟨_, h4⟩ := enumS_look us 0 i v hv
   obtain ⟨x, h5, h6⟩ := h3 i v (by simpa using h4)
   have : vs.toArray.getD i undef = x := by simp [Array.getD_eq_getD_getElem?, h5]
   rw [this]; exact h6
  bx := fun i t cs h => by cases h
  ks := fun k c h => by cases h
  b1 := fun i x h => by cases h
  k1 := fun k c h => by cases h
  kn := fun k c h => by cases h
  bb := fun i j x y h => by cases h
  bk := fun i k x c h => by cases h
  kk := fun k j c d h => by cases h
  lk := fun k hk => by simp only [St.tk, t1, List.flatMap_nil, List.append_nil] at hk; cases hk
  lb := fun b hb => by simp only [St.tb, t2] at hb; cases hb
  s0 := fun b hb => by cases hb
  chg := Chg.refl _ _ }
 refine (hf.ok w [] L vs h1 hr).mono ?_
 rintro e w' ⟨r, res, σ', L', rfl, rfl, hr'⟩
 have hv := hr'.tm 0 _ rfl
 simp only [SVr, CVr, Lay] at hv
 refine ⟨?_, hr'.chg.below⟩
 have : (#[r] : Array Value).getD 0 undef = r := rfl
 rw [this] at hv
 rw [hv]
end Go.Proofs.YtjkpoekgnmgofaaGreat

namespace Go.Proofs.YtjkpoekgnmgofaaGreat
open Go.RowKit
open Go.Proofs
theorem opensBytes : OpensD Tryz.prog (Is fun xs => [listD 5 1 eByte xs]) 22 := opensD_slice (sz := 1) 5 (fun _ => rfl) rfl Tryz.underlying22 (by kernel_rfl) (opensD_byte Tryz.underlying5)
end Go.Proofs.YtjkpoekgnmgofaaGreat

