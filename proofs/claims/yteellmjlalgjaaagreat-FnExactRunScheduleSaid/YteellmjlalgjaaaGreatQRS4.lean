/-
  Contracts of the program's functions for the statements RunSchedule, by the rules of the logic. Conditions: none but those in the theorems.
-/
import Derived.Below
import Derived.Deep.Slices
import Derived.OpenShut
import Derived.ProofKit
import Derived.Test.YteellmjlalgjaaaGreatQRS3
set_option maxHeartbeats 4000000
set_option maxRecDepth 100000
namespace Go.Proofs.YteellmjlalgjaaaGreat
open Go.RowKit
open Go.Proofs
set_option linter.unusedVariables false
set_option linter.unusedSimpArgs false
theorem b5B {n c : Int} {s : StT} {f j : Nat} (h : a2Y s.2 (atI n c j) = true) : a2V n c s (f + 1) j = saS s (atI n c j) := by rw [a2V, if_pos h]
theorem b3V {n c : Int} {s : StT} {f j : Nat} (h : (s.2.getD (atI n c j).toNat default).2.2.2.1 = 1) : a2V n c s (f + 1) j = stS s (atI n c j) := by
 rw [a2V, if_neg, if_pos h]
 intro hc
 obtain ⟨j', e, _, h5, _⟩ := c4Z hc
 have : stt s.2 j' = (s.2.getD (atI n c j).toNat default).2.2.2.1 := by rw [e, Int.toNat_natCast]
 rw [this, h] at h5
 exact absurd h5 (by decide)
theorem b3Q {n c : Int} {s : StT} {f j : Nat} (h : a2Y s.2 (atI n c j) = false) (h2 : ¬ (s.2.getD (atI n c j).toNat default).2.2.2.1 = 1) : a2V n c s (f + 1) j = a2V n c s f (j + 1) := by rw [a2V, if_neg (by rw [h]; decide), if_neg h2]
theorem c3Q (n : Nat) (s : StT) (l : List Int) (c : Int) : chS n s (l ++ [c]) = a2V (n : Int) c (chS n s l) n 0 := by unfold chS; rw [List.foldl_append]; rfl
theorem b0p {n : Nat} {s : StT} {L : List Int} {i : Nat} (h : i < L.length) : chS n s (L.take (i + 1)) = a2V (n : Int) (L.getD (i : Int).toNat default) (chS n s (L.take i)) n 0 := by
 rw [List.take_add_one, List.getElem?_eq_getElem h]
 show chS n s (L.take i ++ [L[i]]) = _
 rw [c3Q, a4L h]
theorem b1D {n : Nat} {s : StT} {l : List Int} {i : Nat} (h : i < l.length) (h6 : i < 60) : chS n s ((l.take 60).take (i + 1)) = a2V (n : Int) (l.getD (i : Int).toNat default) (chS n s ((l.take 60).take i)) n 0 := by
 have hl : i < (l.take 60).length := by rw [c5t]; omega
 rw [b0p hl, a4L hl, a4L h, List.getElem_take]
theorem b3b (s : StT) : ∀ l : List Int, chS 0 s l = s
 | [] => rfl
 | c :: l => b3b s l
def atG (n c : Int) (j : Nat) : Int := ((max c (0 : Int)) % n + (j : Int)) % n
theorem c4g (n c : Int) (j : Nat) : atG n c j = atI n c j := by unfold atG atI; rw [Int.max_comm]
theorem b9n {d : DbT} {q : List TxT} {l : List Int} (hb : a1r d ≤ 1048576) (hq : a1z q ≤ 1048576) : a1r (a1F d q l).1 ≤ 5000000 ∧ a1z (a1F d q l).2 ≤ 300000000000 := by
 unfold a1F
 split
 ·rename_i hd
  exact a4j hd hq (b0t (Nat.le_add_right _ _) (b1b (Nat.le_add_right _ _) _ _ (b2p hd)) _)
 ·exact ⟨by dsimp only; omega, by dsimp only; omega⟩
theorem b5k {d : DbT} {q : List TxT} {l : List Int} (hb : a1r d ≤ 1048576) (hq : a1z q ≤ 1048576) (hl : l.length ≤ 1048576) : KFn Tryz.prog 10 [.agg [(.dv [] (.str (d.1))), (.dv [] (.int .i64 (d.2.1))), (.dv [] (a0k (d.2.2.1))), (.dv [] (a0A (d.2.2.2)))], .agg [(.dv [] (a0Z (q)))], .one (.dv [] (a2P (l)))] (.tup [(true, [(.dv [] (.str ((a1F d q l).1.1))), (.dv [] (.int .i64 ((a1F d q l).1.2.1))), (.key 90031), (.key 90900)]), (true, [(.key 95031)])]) [(90031, some (a0d false (a0k ((a1F d q l).1.2.2.1)))), (90900, some (a0d false (a0A ((a1F d q l).1.2.2.2)))), (95031, some (a0d false (a0Z ((a1F d q l).2))))] := by
 refine ⟨a0u Tryz.func10 rfl Tryz.ntmps10 Tryz.results10 rfl (fun C => ?_)⟩
 have hqe : a1z q = a0s wTx q := rfl
 have hqw : a0s wTx q = q.length + wSum wTx q := rfl
 have h12 : 1200 ≤ a4i q := Nat.le_add_right _ _
 refine yF 0 0 rfl rfl fun f0_0 => ?_
 refine yF 0 1 rfl rfl fun f0_1 => ?_
 refine yF 0 2 rfl rfl fun f0_2 => ?_
 refine yF 0 3 rfl rfl fun f0_3 => ?_
 refine yF 1 0 rfl rfl fun f1_0 => ?_
 refine a0G (x := .tmp 2) (a0a rfl) fun f2 => ?_
 iterate 8 refine z ?_
 refine zK 90000 Tryz.call33 ?_ (hf := a8r (x := d) (by omega))
 iterate 5 refine z ?_
 refine zK 95000 Tryz.call34 ?_ (hf := b3j (x := q) (by omega))
 iterate 6 refine z ?_
 refine zC Tryz.call35 ?_ (hf := a9A (x := d) )
 iterate 2 refine z ?_
 refine yQ rfl (fun c1 => ?_) fun c1 => ?_
 ·refine a0p ?_
  refine a3p 6 (oB := [3, 4, 7, 8, 9]) (oK := [90031, 90900, 95031]) (by kernel_rfl) rfl rfl ?_
  refine a1i 0 rfl (by kernel_rfl) rfl rfl (a2i hT rfl rfl (a0a rfl) rfl rfl) rfl rfl rfl rfl rfl ?_
  refine a1i 1 rfl (by kernel_rfl) rfl rfl (a2i hT rfl rfl (a0a rfl) rfl rfl) rfl rfl rfl rfl rfl ?_
  refine a3t 2 rfl (by kernel_rfl) rfl hT rfl rfl rfl (a0a rfl) (a0a rfl) rfl rfl rfl rfl rfl rfl ?_
  refine a3s [3] rfl rfl (by kernel_rfl) ?_
  iterate 2 refine z ?_
  have hfin : a1F d q l = (d, q) := by unfold a1F; rw [if_neg (by simpa using c1)]
  rw [hfin]
  refine a0r (σ' := ⟨[(6, .box 6 0), (7, .box 7 0)], [(6, 35, [(.dv [] (.str ((d).1))), (.dv [] (.int .i64 ((d).2.1))), (.key 90031), (.key 90900)]), (7, 38, [(.key 95031)])], [(90031, some (a0d false (a0k ((d, q).1.2.2.1)))), (90900, some (a0d false (a0A ((d, q).1.2.2.2)))), (95031, some (a0d false (a0Z ((d, q).2))))]⟩) (a0e ⟨rfl, rfl, trivial⟩ ⟨rfl, rfl, trivial⟩ ⟨rfl, rfl, rfl, trivial⟩ rfl) ?_
  iterate 2 refine z ?_
  refine a1W (a0K hT rfl rfl rfl rfl) (a0K hT rfl rfl rfl rfl) rfl rfl ?_
  first | exact ⟨rfl, rfl⟩ | skip
 ·have hd : a2c d = true := by simpa using c1
  have hgi := b2p (q0 := q) hd
  iterate 13 refine z ?_
  refine yO rfl rfl (c4v rfl (a0y (a0w rfl)) (a0a rfl)) rfl ?_
  refine yO rfl rfl (a8T hT rfl rfl rfl (a0a rfl) (a0a rfl) (fun _ => rfl) (by omega) (by omega)) rfl ?_
  iterate 4 refine z ?_
  refine a0W (ι := Nat × StT) (fun zz => ⟨[(6, .box 6 0), (7, .box 7 0), (8, .box 8 0), (9, .box 9 0), (10, .one (.dv [] (.int .i64 ((((q)).length : Int))))), (33, .one (.dv [] (a2P (((l)).take (min (60) ((((l)).length : Int))).toNat)))), (34, .one (.dv [] (.int .i64 ((((((l)).take (min (60) ((((l)).length : Int))).toNat)).length : Int))))), (35, .one (.dv [] (.int .i64 ((zz.1 : Int)))))], [(3, 35, [(.dv [] (.str (d.1))), (.dv [] (.int .i64 (d.2.1))), (.dv [] (a0k (d.2.2.1))), (.dv [] (a0A (d.2.2.2)))]), (6, 35, [(.dv [] (.str (ByteArray.empty))), (.dv [] (.int .i64 (0))), .nil, .nil]), (7, 38, [.nil]), (8, 35, [(.dv [] (.str (zz.2.1.1))), (.dv [] (.int .i64 (zz.2.1.2.1))), (.key 90031), (.key 90900)]), (9, 38, [(.key 95031)])], [(90031, some (a0d false (.sl 89 3 (zz.2.1.2.2.1.length) (zz.2.1.2.2.1.flatMap a0U)))), (90900, some (a0d false (.sl 95 2 (zz.2.1.2.2.2.length) (zz.2.1.2.2.2.flatMap a1y)))), (95031, some (a0d false (.sl 63 5 (zz.2.2.length) (zz.2.2.flatMap eTx))))]⟩) (fun zz => zz.1 ≤ (l.take (min (60 : Int) (l.length : Int)).toNat).length ∧ zz.2 = chS q.length (d, q) ((l.take (min (60 : Int) (l.length : Int)).toNat).take zz.1)) (fun zz => (l.take (min (60 : Int) (l.length : Int)).toNat).length - zz.1) ((0, d, q)) ?_ (a0e ⟨rfl, rfl, rfl, rfl, rfl, rfl, rfl, rfl, trivial⟩ ⟨rfl, rfl, rfl, rfl, rfl, trivial⟩ ⟨rfl, rfl, rfl, trivial⟩ rfl) (fun zz hx => ?_)
  ·exact ⟨Nat.zero_le _, rfl⟩
  obtain ⟨i, s⟩ := zz
  replace hx : i ≤ (l.take (min (60 : Int) (l.length : Int)).toNat).length ∧ s = chS q.length (d, q) ((l.take (min (60 : Int) (l.length : Int)).toNat).take i) := hx
  obtain ⟨hi, hs⟩ := hx
  have hIs := b1b h12 q.length ((l.take (min (60 : Int) (l.length : Int)).toNat).take i) hgi
  rw [← hs] at hIs
  have hsl : s.2.length = q.length := hIs.len
  obtain ⟨hsw, hsq⟩ := a4j hd hq hIs
  have hse : a1z s.2 = a0s wTx s.2 := rfl
  have hLb : (l.take (min (60 : Int) (l.length : Int)).toNat).length ≤ 1048576 := by rw [c5t]; omega
  show Ok _ _ _ _ _ (⟨[(6, .box 6 0), (7, .box 7 0), (8, .box 8 0), (9, .box 9 0), (10, .one (.dv [] (.int .i64 ((((q)).length : Int))))), (33, .one (.dv [] (a2P (((l)).take (min (60) ((((l)).length : Int))).toNat)))), (34, .one (.dv [] (.int .i64 ((((((l)).take (min (60) ((((l)).length : Int))).toNat)).length : Int))))), (35, .one (.dv [] (.int .i64 ((i : Int)))))], [(3, 35, [(.dv [] (.str (d.1))), (.dv [] (.int .i64 (d.2.1))), (.dv [] (a0k (d.2.2.1))), (.dv [] (a0A (d.2.2.2)))]), (6, 35, [(.dv [] (.str (ByteArray.empty))), (.dv [] (.int .i64 (0))), .nil, .nil]), (7, 38, [.nil]), (8, 35, [(.dv [] (.str (s.1.1))), (.dv [] (.int .i64 (s.1.2.1))), (.key 90031), (.key 90900)]), (9, 38, [(.key 95031)])], [(90031, some (a0d false (.sl 89 3 (s.1.2.2.1.length) (s.1.2.2.1.flatMap a0U)))), (90900, some (a0d false (.sl 95 2 (s.1.2.2.2.length) (s.1.2.2.2.flatMap a1y)))), (95031, some (a0d false (.sl 63 5 (s.2.length) (s.2.flatMap eTx))))]⟩ : St)
  iterate 3 refine z ?_
  refine a0p ?_
  refine yQ rfl (fun c2 => ?_) fun c2 => ?_
  ·have d2 := c5p c2
   have hi2 : i < (l.take (min (60 : Int) (l.length : Int)).toNat).length := by omega
   iterate 13 refine z ?_
   refine a0W (ι := Nat) (fun zz => ⟨[(6, .box 6 0), (7, .box 7 0), (8, .box 8 0), (9, .box 9 0), (10, .one (.dv [] (.int .i64 ((((q)).length : Int))))), (12, .one (.dv [] (.int .i64 ((((((l)).take (min (60) ((((l)).length : Int))).toNat)).getD ((i : Int)).toNat default))))), (13, .one (.dv [] (.int .i64 ((zz : Int))))), (33, .one (.dv [] (a2P (((l)).take (min (60) ((((l)).length : Int))).toNat)))), (34, .one (.dv [] (.int .i64 ((((((l)).take (min (60) ((((l)).length : Int))).toNat)).length : Int))))), (35, .one (.dv [] (.int .i64 ((i : Int)))))], [(3, 35, [(.dv [] (.str (d.1))), (.dv [] (.int .i64 (d.2.1))), (.dv [] (a0k (d.2.2.1))), (.dv [] (a0A (d.2.2.2)))]), (6, 35, [(.dv [] (.str (ByteArray.empty))), (.dv [] (.int .i64 (0))), .nil, .nil]), (7, 38, [.nil]), (8, 35, [(.dv [] (.str (s.1.1))), (.dv [] (.int .i64 (s.1.2.1))), (.key 90031), (.key 90900)]), (9, 38, [(.key 95031)])], [(90031, some (a0d false (.sl 89 3 (s.1.2.2.1.length) (s.1.2.2.1.flatMap a0U)))), (90900, some (a0d false (.sl 95 2 (s.1.2.2.2.length) (s.1.2.2.2.flatMap a1y)))), (95031, some (a0d false (.sl 63 5 (s.2.length) (s.2.flatMap eTx))))]⟩) (fun zz => zz ≤ q.length ∧ a2V (q.length : Int) ((l.take (min (60 : Int) (l.length : Int)).toNat).getD (i : Int).toNat default) s q.length 0 = a2V (q.length : Int) ((l.take (min (60 : Int) (l.length : Int)).toNat).getD (i : Int).toNat default) s (q.length - zz) zz) (fun zz => q.length - zz) (0) ?_ (a0e ⟨rfl, rfl, rfl, rfl, rfl, rfl, rfl, rfl, rfl, rfl, trivial⟩ ⟨rfl, rfl, rfl, rfl, rfl, trivial⟩ ⟨rfl, rfl, rfl, trivial⟩ rfl) (fun zz hx => ?_)
   ·exact ⟨Nat.zero_le _, rfl⟩
   obtain ⟨j, rfl⟩ : ∃ v, v = zz := ⟨_, rfl⟩
   replace hx : j ≤ q.length ∧ a2V (q.length : Int) ((l.take (min (60 : Int) (l.length : Int)).toNat).getD (i : Int).toNat default) s q.length 0 = a2V (q.length : Int) ((l.take (min (60 : Int) (l.length : Int)).toNat).getD (i : Int).toNat default) s (q.length - j) j := hx
   obtain ⟨hj, hp⟩ := hx
   show Ok _ _ _ _ _ (⟨[(6, .box 6 0), (7, .box 7 0), (8, .box 8 0), (9, .box 9 0), (10, .one (.dv [] (.int .i64 ((((q)).length : Int))))), (12, .one (.dv [] (.int .i64 ((((((l)).take (min (60) ((((l)).length : Int))).toNat)).getD ((i : Int)).toNat default))))), (13, .one (.dv [] (.int .i64 ((j : Int))))), (33, .one (.dv [] (a2P (((l)).take (min (60) ((((l)).length : Int))).toNat)))), (34, .one (.dv [] (.int .i64 ((((((l)).take (min (60) ((((l)).length : Int))).toNat)).length : Int))))), (35, .one (.dv [] (.int .i64 ((i : Int)))))], [(3, 35, [(.dv [] (.str (d.1))), (.dv [] (.int .i64 (d.2.1))), (.dv [] (a0k (d.2.2.1))), (.dv [] (a0A (d.2.2.2)))]), (6, 35, [(.dv [] (.str (ByteArray.empty))), (.dv [] (.int .i64 (0))), .nil, .nil]), (7, 38, [.nil]), (8, 35, [(.dv [] (.str (s.1.1))), (.dv [] (.int .i64 (s.1.2.1))), (.key 90031), (.key 90900)]), (9, 38, [(.key 95031)])], [(90031, some (a0d false (.sl 89 3 (s.1.2.2.1.length) (s.1.2.2.1.flatMap a0U)))), (90900, some (a0d false (.sl 95 2 (s.1.2.2.2.length) (s.1.2.2.2.flatMap a1y)))), (95031, some (a0d false (.sl 63 5 (s.2.length) (s.2.flatMap eTx))))]⟩ : St)
   iterate 6 refine z ?_
   refine yQ rfl (fun c3 => ?_) fun c3 => ?_
   ·have d3 := c5p c3
    have hj2 : j < q.length := by omega
    have hn0 : (0 : Int) < (q.length : Int) := by omega
    have hm0 : (0 : Int) ≤ (max (0 : Int) ((l.take (min (60 : Int) (l.length : Int)).toNat).getD (i : Int).toNat default)) := by omega
    have hm1 := Int.emod_nonneg (max (0 : Int) ((l.take (min (60 : Int) (l.length : Int)).toNat).getD (i : Int).toNat default)) (Int.ne_of_gt hn0)
    have hm2 := Int.emod_lt_of_pos (max (0 : Int) ((l.take (min (60 : Int) (l.length : Int)).toNat).getD (i : Int).toNat default)) hn0
    have hm3 := Int.emod_nonneg ((max (0 : Int) ((l.take (min (60 : Int) (l.length : Int)).toNat).getD (i : Int).toNat default)) % (q.length : Int) + (j : Int)) (Int.ne_of_gt hn0)
    have hm4 := Int.emod_lt_of_pos ((max (0 : Int) ((l.take (min (60 : Int) (l.length : Int)).toNat).getD (i : Int).toNat default)) % (q.length : Int) + (j : Int)) hn0
    obtain ⟨f, hf⟩ : ∃ f, q.length - j = f + 1 := ⟨q.length - j - 1, by omega⟩
    rw [hf] at hp
    iterate 6 refine z ?_
    refine yO rfl rfl (c2Q rfl (a0y (a0w rfl)) (a0a rfl)) rfl ?_
    refine z ?_
    refine yO rfl rfl (a9B rfl (a0a rfl) (a0a rfl) (by omega) (by omega)) rfl ?_
    iterate 3 refine z ?_
    refine yO rfl rfl (a9B rfl (a0a rfl) (a0a rfl) (by omega) (by omega)) rfl ?_
    iterate 5 refine z ?_
    refine yO rfl rfl (a8F (dd := a0Z (s.2)) (a3C hT rfl rfl (a0a rfl) rfl rfl) rfl rfl) rfl ?_
    iterate 6 refine z ?_
    refine yQ rfl (fun c4 => ?_) fun c4 => ?_
    ·have d4 := c5p c4
     iterate 4 refine z ?_
     refine a2U 100000 rfl rfl rfl Tryz.call36 (b4v (d := s.1) (q := s.2) (i := (atI (q.length : Int) ((l.take (min (60 : Int) (l.length : Int)).toNat).getD (i : Int).toNat default) j)) (by omega) (by omega)) (a0f (a0a rfl) (a0l (a0c a0b (a0c a0b (a0c (a0L rfl rfl) (a0c (a0L rfl rfl) a0m))))) (a0f (a0a rfl) (a0l (a0c (a0L rfl rfl) a0m)) (a0f (a0a rfl) (a0H a0b) a0n))) rfl rfl rfl ?_
     iterate 15 refine z ?_
     refine a0j ?_
     iterate 3 refine z ?_
     refine ⟨(i + 1, stS s (atI (q.length : Int) ((l.take (min (60 : Int) (l.length : Int)).toNat).getD (i : Int).toNat default) j)), ?_, ?_, a3R (a2D (b := 8) (i := 2) (k := 190031) (k' := 90031) rfl rfl rfl rfl (by simp) rfl rfl) (a3R (a2D (b := 8) (i := 3) (k := 190900) (k' := 90900) rfl rfl rfl rfl (by simp) rfl rfl) (a3R (a2D (b := 9) (i := 0) (k := 195031) (k' := 95031) rfl rfl rfl rfl (by simp) rfl rfl) (a0e ⟨rfl, rfl, rfl, rfl, rfl, rfl, rfl, rfl, trivial⟩ ⟨rfl, rfl, rfl, rfl, rfl, trivial⟩ ⟨rfl, rfl, rfl, trivial⟩ rfl)))⟩
     ·exact ⟨by dsimp only; omega, by rw [b0p hi2, ← hs, hp]; exact (b3V d4).symm⟩
     ·dsimp only; omega
    ·have d4 := c5q c4
     iterate 5 refine z ?_
     refine a3k rfl rfl rfl Tryz.call37 (b5p (q := s.2) (i := (atI (q.length : Int) ((l.take (min (60 : Int) (l.length : Int)).toNat).getD (i : Int).toNat default) j))) (a0f (a0a rfl) (a0l (a0c (a0L rfl rfl) a0m)) (a0f (a0a rfl) (a0H a0b) a0n)) rfl rfl ?_
     refine z ?_
     refine yQ rfl (fun c5 => ?_) fun c5 => ?_
     ·iterate 4 refine z ?_
      refine a2U 200000 rfl rfl rfl Tryz.call38 (b3M (d := s.1) (q := s.2) (i := (atI (q.length : Int) ((l.take (min (60 : Int) (l.length : Int)).toNat).getD (i : Int).toNat default) j)) (by omega) (by omega)) (a0f (a0a rfl) (a0l (a0c a0b (a0c a0b (a0c (a0L rfl rfl) (a0c (a0L rfl rfl) a0m))))) (a0f (a0a rfl) (a0l (a0c (a0L rfl rfl) a0m)) (a0f (a0a rfl) (a0H a0b) a0n))) rfl rfl rfl ?_
      iterate 12 refine z ?_
      refine a0j ?_
      iterate 3 refine z ?_
      refine ⟨(i + 1, saS s (atI (q.length : Int) ((l.take (min (60 : Int) (l.length : Int)).toNat).getD (i : Int).toNat default) j)), ?_, ?_, a3R (a2D (b := 9) (i := 0) (k := 295031) (k' := 95031) rfl rfl rfl rfl (by simp) rfl rfl) (a0e ⟨rfl, rfl, rfl, rfl, rfl, rfl, rfl, rfl, trivial⟩ ⟨rfl, rfl, rfl, rfl, rfl, trivial⟩ ⟨rfl, rfl, rfl, trivial⟩ rfl)⟩
      ·exact ⟨by dsimp only; omega, by rw [b0p hi2, ← hs, hp]; exact (b5B c5).symm⟩
      ·dsimp only; omega
     ·iterate 3 refine z ?_
      refine a0j ?_
      iterate 4 refine z ?_
      refine ⟨j + 1, ?_, ?_, a0e ⟨rfl, rfl, rfl, rfl, rfl, rfl, rfl, rfl, rfl, rfl, trivial⟩ ⟨rfl, rfl, rfl, rfl, rfl, trivial⟩ ⟨rfl, rfl, rfl, trivial⟩ rfl⟩
      ·exact ⟨by omega, by rw [hp, b3Q (by simpa using c5) d4, show q.length - (j + 1) = f by omega]⟩
      ·omega
   ·have d3 := c5q c3
    have hp2 : a2V (q.length : Int) ((l.take (min (60 : Int) (l.length : Int)).toNat).getD (i : Int).toNat default) s q.length 0 = s := by rw [hp, show q.length - j = 0 by omega]; rfl
    iterate 6 refine z ?_
    refine a0j ?_
    iterate 3 refine z ?_
    refine ⟨(i + 1, s), ?_, ?_, a0e ⟨rfl, rfl, rfl, rfl, rfl, rfl, rfl, rfl, trivial⟩ ⟨rfl, rfl, rfl, rfl, rfl, trivial⟩ ⟨rfl, rfl, rfl, trivial⟩ rfl⟩
    ·exact ⟨by dsimp only; omega, by rw [b0p hi2, ← hs, hp2]⟩
    ·dsimp only; omega
  ·have d2 := c5q c2
   have hs0 : s = chS q.length (d, q) (l.take (min (60 : Int) (l.length : Int)).toNat) := by rw [hs, List.take_of_length_le (by omega)]
   have hI0 := hIs
   rw [hs0] at hI0
   iterate 10 refine z ?_
   refine a0W (ι := Nat × StT) (fun zz => ⟨[(6, .box 6 0), (7, .box 7 0), (8, .box 8 0), (9, .box 9 0), (10, .one (.dv [] (.int .i64 ((((q)).length : Int))))), (15, .one (.dv [] (.int .i64 ((zz.1 : Int)))))], [(3, 35, [(.dv [] (.str (d.1))), (.dv [] (.int .i64 (d.2.1))), (.dv [] (a0k (d.2.2.1))), (.dv [] (a0A (d.2.2.2)))]), (6, 35, [(.dv [] (.str (ByteArray.empty))), (.dv [] (.int .i64 (0))), .nil, .nil]), (7, 38, [.nil]), (8, 35, [(.dv [] (.str (zz.2.1.1))), (.dv [] (.int .i64 (zz.2.1.2.1))), (.key 90031), (.key 90900)]), (9, 38, [(.key 95031)])], [(90031, some (a0d false (.sl 89 3 (zz.2.1.2.2.1.length) (zz.2.1.2.2.1.flatMap a0U)))), (90900, some (a0d false (.sl 95 2 (zz.2.1.2.2.2.length) (zz.2.1.2.2.2.flatMap a1y)))), (95031, some (a0d false (.sl 63 5 (zz.2.2.length) (zz.2.2.flatMap eTx))))]⟩) (fun zz => zz.1 ≤ q.length ∧ zz.2 = a7o (chS q.length (d, q) (l.take (min (60 : Int) (l.length : Int)).toNat)) zz.1) (fun zz => q.length - zz.1) ((0, s)) ?_ (a0e ⟨rfl, rfl, rfl, rfl, rfl, rfl, trivial⟩ ⟨rfl, rfl, rfl, rfl, rfl, trivial⟩ ⟨rfl, rfl, rfl, trivial⟩ rfl) (fun zz hx => ?_)
   ·exact ⟨Nat.zero_le _, hs0⟩
   obtain ⟨i, s⟩ := zz
   replace hx : i ≤ q.length ∧ s = a7o (chS q.length (d, q) (l.take (min (60 : Int) (l.length : Int)).toNat)) i := hx
   obtain ⟨hi2, hs2⟩ := hx
   have hIs := b0t h12 hI0 i
   rw [← hs2] at hIs
   have hsl : s.2.length = q.length := hIs.len
   obtain ⟨hsw, hsq⟩ := a4j hd hq hIs
   have hse : a1z s.2 = a0s wTx s.2 := rfl
   show Ok _ _ _ _ _ (⟨[(6, .box 6 0), (7, .box 7 0), (8, .box 8 0), (9, .box 9 0), (10, .one (.dv [] (.int .i64 ((((q)).length : Int))))), (15, .one (.dv [] (.int .i64 ((i : Int)))))], [(3, 35, [(.dv [] (.str (d.1))), (.dv [] (.int .i64 (d.2.1))), (.dv [] (a0k (d.2.2.1))), (.dv [] (a0A (d.2.2.2)))]), (6, 35, [(.dv [] (.str (ByteArray.empty))), (.dv [] (.int .i64 (0))), .nil, .nil]), (7, 38, [.nil]), (8, 35, [(.dv [] (.str (s.1.1))), (.dv [] (.int .i64 (s.1.2.1))), (.key 90031), (.key 90900)]), (9, 38, [(.key 95031)])], [(90031, some (a0d false (.sl 89 3 (s.1.2.2.1.length) (s.1.2.2.1.flatMap a0U)))), (90900, some (a0d false (.sl 95 2 (s.1.2.2.2.length) (s.1.2.2.2.flatMap a1y)))), (95031, some (a0d false (.sl 63 5 (s.2.length) (s.2.flatMap eTx))))]⟩ : St)
   iterate 6 refine z ?_
   refine yQ rfl (fun c6 => ?_) fun c6 => ?_
   ·have d6 := c5p c6
    iterate 8 refine z ?_
    refine a2U 300000 rfl rfl rfl Tryz.call38 (b3M (d := s.1) (q := s.2) (i := (i : Int)) (by omega) (by omega)) (a0f (a0a rfl) (a0l (a0c a0b (a0c a0b (a0c (a0L rfl rfl) (a0c (a0L rfl rfl) a0m))))) (a0f (a0a rfl) (a0l (a0c (a0L rfl rfl) a0m)) (a0f (a0a rfl) (a0H a0b) a0n))) rfl rfl rfl ?_
    iterate 9 refine z ?_
    refine a0r (a2D (b := 9) (i := 0) (k := 395031) (k' := 95031) rfl rfl rfl rfl (by simp) rfl rfl) ?_
    refine a0W (ι := Nat × StT) (fun zz => ⟨[(6, .box 6 0), (7, .box 7 0), (8, .box 8 0), (9, .box 9 0), (10, .one (.dv [] (.int .i64 ((((q)).length : Int))))), (15, .one (.dv [] (.int .i64 ((i : Int))))), (16, .one (.dv [] (.int .i64 ((zz.1 : Int)))))], [(3, 35, [(.dv [] (.str (d.1))), (.dv [] (.int .i64 (d.2.1))), (.dv [] (a0k (d.2.2.1))), (.dv [] (a0A (d.2.2.2)))]), (6, 35, [(.dv [] (.str (ByteArray.empty))), (.dv [] (.int .i64 (0))), .nil, .nil]), (7, 38, [.nil]), (8, 35, [(.dv [] (.str (zz.2.1.1))), (.dv [] (.int .i64 (zz.2.1.2.1))), (.key 90031), (.key 90900)]), (9, 38, [(.key 95031)])], [(90031, some (a0d false (.sl 89 3 (zz.2.1.2.2.1.length) (zz.2.1.2.2.1.flatMap a0U)))), (90900, some (a0d false (.sl 95 2 (zz.2.1.2.2.2.length) (zz.2.1.2.2.2.flatMap a1y)))), (95031, some (a0d false (.sl 63 5 (zz.2.2.length) (zz.2.2.flatMap eTx))))]⟩) (fun zz => zz.1 ≤ 8 ∧ zz.2 = stN (saS s (i : Int)) (i : Int) zz.1) (fun zz => 8 - zz.1) ((0, saS s (i : Int))) ?_ (a0e ⟨rfl, rfl, rfl, rfl, rfl, rfl, rfl, trivial⟩ ⟨rfl, rfl, rfl, rfl, rfl, trivial⟩ ⟨rfl, rfl, rfl, trivial⟩ rfl) (fun zz hx => ?_)
    ·exact ⟨Nat.zero_le _, rfl⟩
    obtain ⟨k, r⟩ := zz
    replace hx : k ≤ 8 ∧ r = stN (saS s (i : Int)) (i : Int) k := hx
    obtain ⟨hk, hr⟩ := hx
    have hIr := b2Z h12 (b0o hIs (i : Int)) (i : Int) k
    rw [← hr] at hIr
    have hrl : r.2.length = q.length := hIr.len
    obtain ⟨hrw, hrq⟩ := a4j hd hq hIr
    have hre : a1z r.2 = a0s wTx r.2 := rfl
    show Ok _ _ _ _ _ (⟨[(6, .box 6 0), (7, .box 7 0), (8, .box 8 0), (9, .box 9 0), (10, .one (.dv [] (.int .i64 ((((q)).length : Int))))), (15, .one (.dv [] (.int .i64 ((i : Int))))), (16, .one (.dv [] (.int .i64 ((k : Int)))))], [(3, 35, [(.dv [] (.str (d.1))), (.dv [] (.int .i64 (d.2.1))), (.dv [] (a0k (d.2.2.1))), (.dv [] (a0A (d.2.2.2)))]), (6, 35, [(.dv [] (.str (ByteArray.empty))), (.dv [] (.int .i64 (0))), .nil, .nil]), (7, 38, [.nil]), (8, 35, [(.dv [] (.str (r.1.1))), (.dv [] (.int .i64 (r.1.2.1))), (.key 90031), (.key 90900)]), (9, 38, [(.key 95031)])], [(90031, some (a0d false (.sl 89 3 (r.1.2.2.1.length) (r.1.2.2.1.flatMap a0U)))), (90900, some (a0d false (.sl 95 2 (r.1.2.2.2.length) (r.1.2.2.2.flatMap a1y)))), (95031, some (a0d false (.sl 63 5 (r.2.length) (r.2.flatMap eTx))))]⟩ : St)
    iterate 5 refine z ?_
    refine yQ rfl (fun c7 => ?_) fun c7 => ?_
    ·have d7 := c5p c7
     iterate 4 refine z ?_
     refine a0j ?_
     iterate 3 refine z ?_
     refine a2U 400000 rfl rfl rfl Tryz.call36 (b4v (d := r.1) (q := r.2) (i := (i : Int)) (by omega) (by omega)) (a0f (a0a rfl) (a0l (a0c a0b (a0c a0b (a0c (a0L rfl rfl) (a0c (a0L rfl rfl) a0m))))) (a0f (a0a rfl) (a0l (a0c (a0L rfl rfl) a0m)) (a0f (a0a rfl) (a0H a0b) a0n))) rfl rfl rfl ?_
     iterate 6 refine z ?_
     refine a1j ?_
     iterate 2 refine z ?_
     refine a0j ?_
     iterate 4 refine z ?_
     refine ⟨(k + 1, stS r (i : Int)), ?_, ?_, a3R (a2D (b := 8) (i := 2) (k := 490031) (k' := 90031) rfl rfl rfl rfl (by simp) rfl rfl) (a3R (a2D (b := 8) (i := 3) (k := 490900) (k' := 90900) rfl rfl rfl rfl (by simp) rfl rfl) (a3R (a2D (b := 9) (i := 0) (k := 495031) (k' := 95031) rfl rfl rfl rfl (by simp) rfl rfl) (a0e ⟨rfl, rfl, rfl, rfl, rfl, rfl, rfl, trivial⟩ ⟨rfl, rfl, rfl, rfl, rfl, trivial⟩ ⟨rfl, rfl, rfl, trivial⟩ rfl)))⟩
     ·exact ⟨by dsimp only; omega, by rw [hr]; rfl⟩
     ·dsimp only; omega
    ·have d7 := c5q c7
     iterate 6 refine z ?_
     refine a0j ?_
     iterate 4 refine z ?_
     refine ⟨(i + 1, r), ?_, ?_, a0e ⟨rfl, rfl, rfl, rfl, rfl, rfl, trivial⟩ ⟨rfl, rfl, rfl, rfl, rfl, trivial⟩ ⟨rfl, rfl, rfl, trivial⟩ rfl⟩
     ·exact ⟨by dsimp only; omega, by dsimp only; rw [hr, show k = 8 by omega, hs2]; rfl⟩
     ·dsimp only; omega
   ·have d6 := c5q c6
    iterate 5 refine z ?_
    refine a0p ?_
    refine a3p 6 (oB := [3, 7, 8, 9]) (oK := [90031, 90900, 95031]) (by kernel_rfl) rfl rfl ?_
    refine a1i 0 rfl (by kernel_rfl) rfl rfl (a2i hT rfl rfl (a0a rfl) rfl rfl) rfl rfl rfl rfl rfl ?_
    refine a1i 1 rfl (by kernel_rfl) rfl rfl (a2i hT rfl rfl (a0a rfl) rfl rfl) rfl rfl rfl rfl rfl ?_
    refine a3t 2 rfl (by kernel_rfl) rfl hT rfl rfl rfl (a0a rfl) (a0a rfl) rfl rfl rfl rfl rfl rfl ?_
    refine a3s [3] rfl rfl (by kernel_rfl) ?_
    iterate 2 refine z ?_
    have hL : (l.take (min (60 : Int) (l.length : Int)).toNat) = l.take 60 := by
     rcases Nat.le_total l.length 60 with h | h
     ·rw [List.take_of_length_le (by omega), List.take_of_length_le h]
     ·rw [show (min (60 : Int) (l.length : Int)).toNat = 60 by omega]
    have hfin : a1F d q l = s := by unfold a1F; rw [if_pos hd, hs2, show i = q.length by omega, hL]
    rw [hfin]
    refine a0r (σ' := ⟨[(6, .box 6 0), (7, .box 7 0)], [(6, 35, [(.dv [] (.str (s.1.1))), (.dv [] (.int .i64 (s.1.2.1))), (.key 90031), (.key 90900)]), (7, 38, [(.key 95031)])], [(90031, some (a0d false (a0k (s.1.2.2.1)))), (90900, some (a0d false (a0A (s.1.2.2.2)))), (95031, some (a0d false (a0Z (s.2))))]⟩) (a0e ⟨rfl, rfl, trivial⟩ ⟨rfl, rfl, trivial⟩ ⟨rfl, rfl, rfl, trivial⟩ rfl) ?_
    refine z ?_
    refine a1W (a0K hT rfl rfl rfl rfl) (a0K hT rfl rfl rfl rfl) rfl rfl ?_
    first | exact ⟨rfl, rfl⟩ | skip
theorem c0u {d0 : DbT} {q : List TxT} {s : StT} {i : Int} (hd : a2c d0 = true) (hq : a1z q ≤ 1048576) (hI : GI (a4i q) d0 q s) : KFn Tryz.prog 29 [.agg [(.dv [] (.str (s.1.1))), (.dv [] (.int .i64 (s.1.2.1))), (.dv [] (a0k (s.1.2.2.1))), (.dv [] (a0A (s.1.2.2.2)))], .agg [(.dv [] (a0Z (s.2)))], .one (.dv [] (.int .i64 (i)))] (.tup [(true, [(.dv [] (.str ((a6t s i).1.1))), (.dv [] (.int .i64 ((a6t s i).1.2.1))), (.key 90031), (.key 90900)]), (true, [(.key 95031)])]) [(90031, some (a0d false (a0k ((a6t s i).1.2.2.1)))), (90900, some (a0d false (a0A ((a6t s i).1.2.2.2)))), (95031, some (a0d false (a0Z ((a6t s i).2))))] := by
 refine ⟨a0u Tryz.func29 rfl Tryz.ntmps29 Tryz.results29 rfl (fun C => ?_)⟩
 have h12 : 1200 ≤ a4i q := Nat.le_add_right _ _
 have hI0 := b0o hI i
 have hI1 := a5R h12 hI0 i
 have hI2 := a5R h12 hI1 i
 have hI3 := a5R h12 hI2 i
 have hI4 := a5R h12 hI3 i
 have hI5 := a5R h12 hI4 i
 have hI6 := a5R h12 hI5 i
 have hI7 := a5R h12 hI6 i
 have hI8 := a5R h12 hI7 i
 have hw0 := a4j hd hq hI0
 have hw1 := a4j hd hq hI1
 have hw2 := a4j hd hq hI2
 have hw3 := a4j hd hq hI3
 have hw4 := a4j hd hq hI4
 have hw5 := a4j hd hq hI5
 have hw6 := a4j hd hq hI6
 have hw7 := a4j hd hq hI7
 have hwS := a4j hd hq hI
 have hle : ∀ x : List TxT, a1z x ≤ 300000000000 → a0s wTx x ≤ 549755813888 := fun x hx => by have e : a1z x = a0s wTx x := rfl; omega
 refine yF 0 0 rfl rfl fun f0_0 => ?_
 refine yF 0 1 rfl rfl fun f0_1 => ?_
 refine yF 0 2 rfl rfl fun f0_2 => ?_
 refine yF 0 3 rfl rfl fun f0_3 => ?_
 refine yF 1 0 rfl rfl fun f1_0 => ?_
 refine a0G (x := .tmp 2) (a0a rfl) fun f2 => ?_
 iterate 10 refine z ?_
 refine zK 0 Tryz.call27 ?_ (hf := b7M (d := s.1) (q := s.2) (i := i) (by omega) (hle _ hwS.2))
 iterate 10 refine z ?_
 refine b8N 9 ?_
 refine a6p ?_
 iterate 5 refine z ?_
 refine yQ rfl (fun c1 => ?_) fun c1 => ?_
 ·have d1 := c5p c1
  iterate 4 refine z ?_
  refine a0j ?_
  iterate 3 refine z ?_
  refine a2U 100000 rfl rfl rfl Tryz.call28 (a6c (d := (saS s i).1) (q := (saS s i).2) (i := i) (by have := hw0.1; omega) (hle _ hw0.2)) (a0f (a0a rfl) (a0l (a0c a0b (a0c a0b (a0c a0b (a0c a0b a0m))))) (a0f (a0a rfl) (a0l (a0c (a0L rfl rfl) a0m)) (a0f (a0a rfl) (a0H a0b) a0n))) rfl rfl rfl ?_
  iterate 6 refine z ?_
  refine a1j ?_
  iterate 2 refine z ?_
  refine a0j ?_
  refine z ?_
  refine yO rfl rfl (a6l (n := 1) (a5v rfl (a0a rfl) (a0y (a0w rfl)) (a4c (by omega) (by omega))) (by decide)) rfl ?_
  iterate 2 refine z ?_
  refine a6p ?_
  iterate 5 refine z ?_
  refine yQ rfl (fun c2 => ?_) fun c2 => ?_
  ·have d2 := c5p c2
   iterate 4 refine z ?_
   refine a0j ?_
   iterate 3 refine z ?_
   refine a2U 200000 rfl rfl rfl Tryz.call28 (a6c (d := (stS (saS s i) i).1) (q := (stS (saS s i) i).2) (i := i) (by have := hw1.1; omega) (hle _ hw1.2)) (a0f (a0a rfl) (a0l (a0c a0b (a0c a0b (a0c (a0L rfl rfl) (a0c (a0L rfl rfl) a0m))))) (a0f (a0a rfl) (a0l (a0c (a0L rfl rfl) a0m)) (a0f (a0a rfl) (a0H a0b) a0n))) rfl rfl rfl ?_
   iterate 6 refine z ?_
   refine a1j ?_
   iterate 2 refine z ?_
   refine a0j ?_
   refine z ?_
   refine yO rfl rfl (a6l (n := 2) (a5v rfl (a0a rfl) (a0y (a0w rfl)) (a4c (by omega) (by omega))) (by decide)) rfl ?_
   iterate 2 refine z ?_
   refine a6p ?_
   iterate 5 refine z ?_
   refine yQ rfl (fun c3 => ?_) fun c3 => ?_
   ·have d3 := c5p c3
    iterate 4 refine z ?_
    refine a0j ?_
    iterate 3 refine z ?_
    refine a2U 300000 rfl rfl rfl Tryz.call28 (a6c (d := (stS (stS (saS s i) i) i).1) (q := (stS (stS (saS s i) i) i).2) (i := i) (by have := hw2.1; omega) (hle _ hw2.2)) (a0f (a0a rfl) (a0l (a0c a0b (a0c a0b (a0c (a0L rfl rfl) (a0c (a0L rfl rfl) a0m))))) (a0f (a0a rfl) (a0l (a0c (a0L rfl rfl) a0m)) (a0f (a0a rfl) (a0H a0b) a0n))) rfl rfl rfl ?_
    iterate 6 refine z ?_
    refine a1j ?_
    iterate 2 refine z ?_
    refine a0j ?_
    refine z ?_
    refine yO rfl rfl (a6l (n := 3) (a5v rfl (a0a rfl) (a0y (a0w rfl)) (a4c (by omega) (by omega))) (by decide)) rfl ?_
    iterate 2 refine z ?_
    refine a6p ?_
    iterate 5 refine z ?_
    refine yQ rfl (fun c4 => ?_) fun c4 => ?_
    ·have d4 := c5p c4
     iterate 4 refine z ?_
     refine a0j ?_
     iterate 3 refine z ?_
     refine a2U 400000 rfl rfl rfl Tryz.call28 (a6c (d := (stS (stS (stS (saS s i) i) i) i).1) (q := (stS (stS (stS (saS s i) i) i) i).2) (i := i) (by have := hw3.1; omega) (hle _ hw3.2)) (a0f (a0a rfl) (a0l (a0c a0b (a0c a0b (a0c (a0L rfl rfl) (a0c (a0L rfl rfl) a0m))))) (a0f (a0a rfl) (a0l (a0c (a0L rfl rfl) a0m)) (a0f (a0a rfl) (a0H a0b) a0n))) rfl rfl rfl ?_
     iterate 6 refine z ?_
     refine a1j ?_
     iterate 2 refine z ?_
     refine a0j ?_
     refine z ?_
     refine yO rfl rfl (a6l (n := 4) (a5v rfl (a0a rfl) (a0y (a0w rfl)) (a4c (by omega) (by omega))) (by decide)) rfl ?_
     iterate 2 refine z ?_
     refine a6p ?_
     iterate 5 refine z ?_
     refine yQ rfl (fun c5 => ?_) fun c5 => ?_
     ·have d5 := c5p c5
      iterate 4 refine z ?_
      refine a0j ?_
      iterate 3 refine z ?_
      refine a2U 500000 rfl rfl rfl Tryz.call28 (a6c (d := (stS (stS (stS (stS (saS s i) i) i) i) i).1) (q := (stS (stS (stS (stS (saS s i) i) i) i) i).2) (i := i) (by have := hw4.1; omega) (hle _ hw4.2)) (a0f (a0a rfl) (a0l (a0c a0b (a0c a0b (a0c (a0L rfl rfl) (a0c (a0L rfl rfl) a0m))))) (a0f (a0a rfl) (a0l (a0c (a0L rfl rfl) a0m)) (a0f (a0a rfl) (a0H a0b) a0n))) rfl rfl rfl ?_
      iterate 6 refine z ?_
      refine a1j ?_
      iterate 2 refine z ?_
      refine a0j ?_
      refine z ?_
      refine yO rfl rfl (a6l (n := 5) (a5v rfl (a0a rfl) (a0y (a0w rfl)) (a4c (by omega) (by omega))) (by decide)) rfl ?_
      iterate 2 refine z ?_
      refine a6p ?_
      iterate 5 refine z ?_
      refine yQ rfl (fun c6 => ?_) fun c6 => ?_
      ·have d6 := c5p c6
       iterate 4 refine z ?_
       refine a0j ?_
       iterate 3 refine z ?_
       refine a2U 600000 rfl rfl rfl Tryz.call28 (a6c (d := (stS (stS (stS (stS (stS (saS s i) i) i) i) i) i).1) (q := (stS (stS (stS (stS (stS (saS s i) i) i) i) i) i).2) (i := i) (by have := hw5.1; omega) (hle _ hw5.2)) (a0f (a0a rfl) (a0l (a0c a0b (a0c a0b (a0c (a0L rfl rfl) (a0c (a0L rfl rfl) a0m))))) (a0f (a0a rfl) (a0l (a0c (a0L rfl rfl) a0m)) (a0f (a0a rfl) (a0H a0b) a0n))) rfl rfl rfl ?_
       iterate 6 refine z ?_
       refine a1j ?_
       iterate 2 refine z ?_
       refine a0j ?_
       refine z ?_
       refine yO rfl rfl (a6l (n := 6) (a5v rfl (a0a rfl) (a0y (a0w rfl)) (a4c (by omega) (by omega))) (by decide)) rfl ?_
       iterate 2 refine z ?_
       refine a6p ?_
       iterate 5 refine z ?_
       refine yQ rfl (fun c7 => ?_) fun c7 => ?_
       ·have d7 := c5p c7
        iterate 4 refine z ?_
        refine a0j ?_
        iterate 3 refine z ?_
        refine a2U 700000 rfl rfl rfl Tryz.call28 (a6c (d := (stS (stS (stS (stS (stS (stS (saS s i) i) i) i) i) i) i).1) (q := (stS (stS (stS (stS (stS (stS (saS s i) i) i) i) i) i) i).2) (i := i) (by have := hw6.1; omega) (hle _ hw6.2)) (a0f (a0a rfl) (a0l (a0c a0b (a0c a0b (a0c (a0L rfl rfl) (a0c (a0L rfl rfl) a0m))))) (a0f (a0a rfl) (a0l (a0c (a0L rfl rfl) a0m)) (a0f (a0a rfl) (a0H a0b) a0n))) rfl rfl rfl ?_
        iterate 6 refine z ?_
        refine a1j ?_
        iterate 2 refine z ?_
        refine a0j ?_
        refine z ?_
        refine yO rfl rfl (a6l (n := 7) (a5v rfl (a0a rfl) (a0y (a0w rfl)) (a4c (by omega) (by omega))) (by decide)) rfl ?_
        iterate 2 refine z ?_
        refine a6p ?_
        iterate 5 refine z ?_
        refine yQ rfl (fun c8 => ?_) fun c8 => ?_
        ·have d8 := c5p c8
         iterate 4 refine z ?_
         refine a0j ?_
         iterate 3 refine z ?_
         refine a2U 800000 rfl rfl rfl Tryz.call28 (a6c (d := (stS (stS (stS (stS (stS (stS (stS (saS s i) i) i) i) i) i) i) i).1) (q := (stS (stS (stS (stS (stS (stS (stS (saS s i) i) i) i) i) i) i) i).2) (i := i) (by have := hw7.1; omega) (hle _ hw7.2)) (a0f (a0a rfl) (a0l (a0c a0b (a0c a0b (a0c (a0L rfl rfl) (a0c (a0L rfl rfl) a0m))))) (a0f (a0a rfl) (a0l (a0c (a0L rfl rfl) a0m)) (a0f (a0a rfl) (a0H a0b) a0n))) rfl rfl rfl ?_
         iterate 6 refine z ?_
         refine a1j ?_
         iterate 2 refine z ?_
         refine a0j ?_
         refine z ?_
         refine yO rfl rfl (a6l (n := 8) (a5v rfl (a0a rfl) (a0y (a0w rfl)) (a4c (by omega) (by omega))) (by decide)) rfl ?_
         iterate 2 refine z ?_
         refine a6p ?_
         refine a0p ?_
         refine a0p ?_
         refine a0r (b5I (k := 90031) (e := 89) (sz := 3) rfl rfl) ?_
         refine a0r (a2D (b := 3) (i := 2) (k := 890031) (k' := 90031) rfl rfl rfl rfl (by simp) rfl rfl) ?_
         simp only [a0i, a0h, SV.kill, CV.kill, kk, Nat.reduceBEq]
         refine a0j ?_
         iterate 3 refine z ?_
         refine yQ rfl (fun c9 => ?_) fun c9 => ?_
         ·exact absurd c9 (by decide)
         ·have d9 := c5q c9
          iterate 5 refine z ?_
          refine a0p ?_
          refine a0r (b5I (k := 90900) (e := 95) (sz := 2) rfl rfl) ?_
          refine a0r (a2D (b := 3) (i := 3) (k := 890900) (k' := 90900) rfl rfl rfl rfl (by simp) rfl rfl) ?_
          simp only [a0i, a0h, SV.kill, CV.kill, kk, Nat.reduceBEq]
          refine a0r (a2D (b := 4) (i := 0) (k := 895031) (k' := 95031) rfl rfl rfl rfl (by simp) rfl rfl) ?_
          simp only [a0i, a0h, SV.kill, CV.kill, kk, Nat.reduceBEq]
          refine a3p 6 (oB := [3, 4, 7]) (oK := [90031, 90900, 95031, 190031, 190900, 195031, 290031, 290900, 295031, 390031, 390900, 395031, 490031, 490900, 495031, 590031, 590900, 595031, 690031, 690900, 695031, 790031, 790900, 795031]) (by kernel_rfl) rfl rfl ?_
          refine a1i 0 rfl (by kernel_rfl) rfl rfl (a2i hT rfl rfl (a0a rfl) rfl rfl) rfl rfl rfl rfl rfl ?_
          refine a1i 1 rfl (by kernel_rfl) rfl rfl (a2i hT rfl rfl (a0a rfl) rfl rfl) rfl rfl rfl rfl rfl ?_
          refine a3t 2 rfl (by kernel_rfl) rfl hT rfl rfl rfl (a0a rfl) (a0a rfl) rfl rfl rfl rfl rfl rfl ?_
          refine a3s [3] rfl rfl (by kernel_rfl) ?_
          iterate 2 refine z ?_
          have hfin : a6t s i = (stS (stS (stS (stS (stS (stS (stS (stS (saS s i) i) i) i) i) i) i) i) i) := rfl
          rw [hfin]
          refine a0r (σ' := ⟨[(6, .box 6 0), (7, .box 7 0)], [(6, 35, [(.dv [] (.str ((a2O ((stS (stS (stS (stS (stS (stS (stS (saS s i) i) i) i) i) i) i) i).1) ((stS (stS (stS (stS (stS (stS (stS (saS s i) i) i) i) i) i) i) i).2) (i)).1.1))), (.dv [] (.int .i64 ((a2O ((stS (stS (stS (stS (stS (stS (stS (saS s i) i) i) i) i) i) i) i).1) ((stS (stS (stS (stS (stS (stS (stS (saS s i) i) i) i) i) i) i) i).2) (i)).1.2.1))), (.key 90031), (.key 90900)]), (7, 38, [(.key 95031)])], [(90031, some (a0d false (a0k ((stS (stS (stS (stS (stS (stS (stS (stS (saS s i) i) i) i) i) i) i) i) i).1.2.2.1)))), (90900, some (a0d false (a0A ((stS (stS (stS (stS (stS (stS (stS (stS (saS s i) i) i) i) i) i) i) i) i).1.2.2.2)))), (95031, some (a0d false (a0Z ((stS (stS (stS (stS (stS (stS (stS (stS (saS s i) i) i) i) i) i) i) i) i).2))))]⟩) (a0e ⟨rfl, rfl, trivial⟩ ⟨rfl, rfl, trivial⟩ ⟨rfl, rfl, rfl, trivial⟩ rfl) ?_
          refine z ?_
          refine a1W (a0K hT rfl rfl rfl rfl) (a0K hT rfl rfl rfl rfl) rfl rfl ?_
          first | exact ⟨rfl, rfl⟩ | skip
        ·exact absurd c8 (by decide)
       ·exact absurd c7 (by decide)
      ·exact absurd c6 (by decide)
     ·exact absurd c5 (by decide)
    ·exact absurd c4 (by decide)
   ·exact absurd c3 (by decide)
  ·exact absurd c2 (by decide)
 ·exact absurd c1 (by decide)
theorem c0j {d : DbT} {q : List TxT} {l : List Int} (hb : a1r d ≤ 1048576) (hq : a1z q ≤ 1048576) (hl : l.length ≤ 1048576) : KFn Tryz.prog 6 [.agg [(.dv [] (.str (d.1))), (.dv [] (.int .i64 (d.2.1))), (.dv [] (a0k (d.2.2.1))), (.dv [] (a0A (d.2.2.2)))], .agg [(.dv [] (a0Z (q)))], .one (.dv [] (a2P (l)))] (.tup [(true, [(.dv [] (.str ((a1F d q l).1.1))), (.dv [] (.int .i64 ((a1F d q l).1.2.1))), (.key 90031), (.key 90900)]), (true, [(.key 95031)])]) [(90031, some (a0d false (a0k ((a1F d q l).1.2.2.1)))), (90900, some (a0d false (a0A ((a1F d q l).1.2.2.2)))), (95031, some (a0d false (a0Z ((a1F d q l).2))))] := by
 refine ⟨a0u Tryz.func6 rfl Tryz.ntmps6 Tryz.results6 rfl (fun C => ?_)⟩
 have hqe : a1z q = a0s wTx q := rfl
 have hqw : a0s wTx q = q.length + wSum wTx q := rfl
 have h12 : 1200 ≤ a4i q := Nat.le_add_right _ _
 refine yF 0 0 rfl rfl fun f0_0 => ?_
 refine yF 0 1 rfl rfl fun f0_1 => ?_
 refine yF 0 2 rfl rfl fun f0_2 => ?_
 refine yF 0 3 rfl rfl fun f0_3 => ?_
 refine yF 1 0 rfl rfl fun f1_0 => ?_
 refine a0G (x := .tmp 2) (a0a rfl) fun f2 => ?_
 iterate 8 refine z ?_
 refine zK 90000 Tryz.call22 ?_ (hf := a8a (x := d) (by omega))
 iterate 5 refine z ?_
 refine zK 95000 Tryz.call23 ?_ (hf := b2R (x := q) (by omega))
 iterate 12 refine z ?_
 refine zC Tryz.call24 ?_ (hf := b2Q (x := d) )
 iterate 2 refine z ?_
 refine yQ rfl (fun c1 => ?_) fun c1 => ?_
 ·refine a0p ?_
  refine a3p 6 (oB := [3, 4, 7, 8, 9]) (oK := [90031, 90900, 95031]) (by kernel_rfl) rfl rfl ?_
  refine a1i 0 rfl (by kernel_rfl) rfl rfl (a2i hT rfl rfl (a0a rfl) rfl rfl) rfl rfl rfl rfl rfl ?_
  refine a1i 1 rfl (by kernel_rfl) rfl rfl (a2i hT rfl rfl (a0a rfl) rfl rfl) rfl rfl rfl rfl rfl ?_
  refine a3t 2 rfl (by kernel_rfl) rfl hT rfl rfl rfl (a0a rfl) (a0a rfl) rfl rfl rfl rfl rfl rfl ?_
  refine a3s [3] rfl rfl (by kernel_rfl) ?_
  iterate 2 refine z ?_
  have hfin : a1F d q l = (d, q) := by unfold a1F; rw [if_neg (by simpa using c1)]
  rw [hfin]
  refine a0r (σ' := ⟨[(6, .box 6 0), (7, .box 7 0)], [(6, 35, [(.dv [] (.str ((d).1))), (.dv [] (.int .i64 ((d).2.1))), (.key 90031), (.key 90900)]), (7, 38, [(.key 95031)])], [(90031, some (a0d false (a0k ((d, q).1.2.2.1)))), (90900, some (a0d false (a0A ((d, q).1.2.2.2)))), (95031, some (a0d false (a0Z ((d, q).2))))]⟩) (a0e ⟨rfl, rfl, trivial⟩ ⟨rfl, rfl, trivial⟩ ⟨rfl, rfl, rfl, trivial⟩ rfl) ?_
  iterate 2 refine z ?_
  refine a1W (a0K hT rfl rfl rfl rfl) (a0K hT rfl rfl rfl rfl) rfl rfl ?_
  first | exact ⟨rfl, rfl⟩ | skip
 ·have hd : a2c d = true := by simpa using c1
  have hgi := b2p (q0 := q) hd
  iterate 7 refine z ?_
  refine a0W (ι := Nat × StT) (fun zz => ⟨[(2, .one (.dv [] (a2P (l)))), (6, .box 6 0), (7, .box 7 0), (8, .box 8 0), (9, .box 9 0), (10, .one (.dv [] (.int .i64 ((((q)).length : Int))))), (11, .one (.dv [] (.int .i64 ((zz.1 : Int)))))], [(6, 35, [(.dv [] (.str (ByteArray.empty))), (.dv [] (.int .i64 (0))), .nil, .nil]), (7, 38, [.nil]), (8, 35, [(.dv [] (.str (zz.2.1.1))), (.dv [] (.int .i64 (zz.2.1.2.1))), (.key 90031), (.key 90900)]), (9, 38, [(.key 95031)])], [(90031, some (a0d false (.sl 89 3 (zz.2.1.2.2.1.length) (zz.2.1.2.2.1.flatMap a0U)))), (90900, some (a0d false (.sl 95 2 (zz.2.1.2.2.2.length) (zz.2.1.2.2.2.flatMap a1y)))), (95031, some (a0d false (.sl 63 5 (zz.2.2.length) (zz.2.2.flatMap eTx))))]⟩) (fun zz => zz.1 ≤ (l.take 60).length ∧ zz.2 = chS q.length (d, q) ((l.take 60).take zz.1)) (fun zz => (l.take 60).length - zz.1) ((0, d, q)) ?_ (a0e ⟨rfl, rfl, rfl, rfl, rfl, rfl, rfl, trivial⟩ ⟨rfl, rfl, rfl, rfl, trivial⟩ ⟨rfl, rfl, rfl, trivial⟩ rfl) (fun zz hx => ?_)
  ·exact ⟨Nat.zero_le _, rfl⟩
  obtain ⟨i, s⟩ := zz
  replace hx : i ≤ (l.take 60).length ∧ s = chS q.length (d, q) ((l.take 60).take i) := hx
  obtain ⟨hi, hs⟩ := hx
  have hIs := b1b h12 q.length ((l.take 60).take i) hgi
  rw [← hs] at hIs
  have hsl : s.2.length = q.length := hIs.len
  obtain ⟨hsw, hsq⟩ := a4j hd hq hIs
  have hse : a1z s.2 = a0s wTx s.2 := rfl
  have hlt : (l.take 60).length = min 60 l.length := c5t
  show Ok _ _ _ _ _ (⟨[(2, .one (.dv [] (a2P (l)))), (6, .box 6 0), (7, .box 7 0), (8, .box 8 0), (9, .box 9 0), (10, .one (.dv [] (.int .i64 ((((q)).length : Int))))), (11, .one (.dv [] (.int .i64 ((i : Int)))))], [(6, 35, [(.dv [] (.str (ByteArray.empty))), (.dv [] (.int .i64 (0))), .nil, .nil]), (7, 38, [.nil]), (8, 35, [(.dv [] (.str (s.1.1))), (.dv [] (.int .i64 (s.1.2.1))), (.key 90031), (.key 90900)]), (9, 38, [(.key 95031)])], [(90031, some (a0d false (.sl 89 3 (s.1.2.2.1.length) (s.1.2.2.1.flatMap a0U)))), (90900, some (a0d false (.sl 95 2 (s.1.2.2.2.length) (s.1.2.2.2.flatMap a1y)))), (95031, some (a0d false (.sl 63 5 (s.2.length) (s.2.flatMap eTx))))]⟩ : St)
  iterate 15 refine z ?_
  refine yQ rfl (fun c2 => ?_) fun c2 => ?_
  ·have hcc := c2
   simp only [Bool.and_eq_true, decide_eq_true_eq] at hcc
   have hi2 : i < l.length := by omega
   have hi6 : i < 60 := by omega
   iterate 8 refine z ?_
   refine a0W (ι := Nat) (fun zz => ⟨[(2, .one (.dv [] (a2P (l)))), (6, .box 6 0), (7, .box 7 0), (8, .box 8 0), (9, .box 9 0), (10, .one (.dv [] (.int .i64 ((((q)).length : Int))))), (11, .one (.dv [] (.int .i64 ((i : Int))))), (12, .one (.dv [] (.int .i64 ((zz : Int)))))], [(6, 35, [(.dv [] (.str (ByteArray.empty))), (.dv [] (.int .i64 (0))), .nil, .nil]), (7, 38, [.nil]), (8, 35, [(.dv [] (.str (s.1.1))), (.dv [] (.int .i64 (s.1.2.1))), (.key 90031), (.key 90900)]), (9, 38, [(.key 95031)])], [(90031, some (a0d false (.sl 89 3 (s.1.2.2.1.length) (s.1.2.2.1.flatMap a0U)))), (90900, some (a0d false (.sl 95 2 (s.1.2.2.2.length) (s.1.2.2.2.flatMap a1y)))), (95031, some (a0d false (.sl 63 5 (s.2.length) (s.2.flatMap eTx))))]⟩) (fun zz => zz ≤ q.length ∧ a2V (q.length : Int) (l.getD (i : Int).toNat default) s q.length 0 = a2V (q.length : Int) (l.getD (i : Int).toNat default) s (q.length - zz) zz) (fun zz => q.length - zz) (0) ?_ (a0e ⟨rfl, rfl, rfl, rfl, rfl, rfl, rfl, rfl, trivial⟩ ⟨rfl, rfl, rfl, rfl, trivial⟩ ⟨rfl, rfl, rfl, trivial⟩ rfl) (fun zz hx => ?_)
   ·exact ⟨Nat.zero_le _, rfl⟩
   obtain ⟨j, rfl⟩ : ∃ v, v = zz := ⟨_, rfl⟩
   replace hx : j ≤ q.length ∧ a2V (q.length : Int) (l.getD (i : Int).toNat default) s q.length 0 = a2V (q.length : Int) (l.getD (i : Int).toNat default) s (q.length - j) j := hx
   obtain ⟨hj, hp⟩ := hx
   show Ok _ _ _ _ _ (⟨[(2, .one (.dv [] (a2P (l)))), (6, .box 6 0), (7, .box 7 0), (8, .box 8 0), (9, .box 9 0), (10, .one (.dv [] (.int .i64 ((((q)).length : Int))))), (11, .one (.dv [] (.int .i64 ((i : Int))))), (12, .one (.dv [] (.int .i64 ((j : Int)))))], [(6, 35, [(.dv [] (.str (ByteArray.empty))), (.dv [] (.int .i64 (0))), .nil, .nil]), (7, 38, [.nil]), (8, 35, [(.dv [] (.str (s.1.1))), (.dv [] (.int .i64 (s.1.2.1))), (.key 90031), (.key 90900)]), (9, 38, [(.key 95031)])], [(90031, some (a0d false (.sl 89 3 (s.1.2.2.1.length) (s.1.2.2.1.flatMap a0U)))), (90900, some (a0d false (.sl 95 2 (s.1.2.2.2.length) (s.1.2.2.2.flatMap a1y)))), (95031, some (a0d false (.sl 63 5 (s.2.length) (s.2.flatMap eTx))))]⟩ : St)
   iterate 6 refine z ?_
   refine yQ rfl (fun c3 => ?_) fun c3 => ?_
   ·have d3 := c5p c3
    have hj2 : j < q.length := by omega
    have hn0 : (0 : Int) < (q.length : Int) := by omega
    have hm0 : (0 : Int) ≤ (max (l.getD (i : Int).toNat default) (0 : Int)) := by omega
    have hm1 := Int.emod_nonneg (max (l.getD (i : Int).toNat default) (0 : Int)) (Int.ne_of_gt hn0)
    have hm2 := Int.emod_lt_of_pos (max (l.getD (i : Int).toNat default) (0 : Int)) hn0
    have hm3 := Int.emod_nonneg ((max (l.getD (i : Int).toNat default) (0 : Int)) % (q.length : Int) + (j : Int)) (Int.ne_of_gt hn0)
    have hm4 := Int.emod_lt_of_pos ((max (l.getD (i : Int).toNat default) (0 : Int)) % (q.length : Int) + (j : Int)) hn0
    obtain ⟨f, hf⟩ : ∃ f, q.length - j = f + 1 := ⟨q.length - j - 1, by omega⟩
    rw [hf] at hp
    have hat := c4g (q.length : Int) (l.getD (i : Int).toNat default) j
    iterate 9 refine z ?_
    refine zC Tryz.call25 ?_ (hf := b9g (x := (((l)).getD ((i : Int)).toNat default)) (y := 0) )
    refine z ?_
    refine yO rfl rfl (a9B rfl (a0a rfl) (a0a rfl) (by omega) (by omega)) rfl ?_
    iterate 3 refine z ?_
    refine yO rfl rfl (a9B rfl (a0a rfl) (a0a rfl) (by omega) (by omega)) rfl ?_
    iterate 6 refine z ?_
    refine a3k rfl rfl rfl Tryz.call26 (b4i (q := s.2) (i := (atG (q.length : Int) (l.getD (i : Int).toNat default) j))) (a0f (a0a rfl) (a0l (a0c (a0L rfl rfl) a0m)) (a0f (a0a rfl) (a0H a0b) a0n)) rfl rfl ?_
    refine z ?_
    refine yQ rfl (fun c4 => ?_) fun c4 => ?_
    ·iterate 4 refine z ?_
     refine a2U 200000 rfl rfl rfl Tryz.call27 (b7M (d := s.1) (q := s.2) (i := (atG (q.length : Int) (l.getD (i : Int).toNat default) j)) (by omega) (by omega)) (a0f (a0a rfl) (a0l (a0c a0b (a0c a0b (a0c (a0L rfl rfl) (a0c (a0L rfl rfl) a0m))))) (a0f (a0a rfl) (a0l (a0c (a0L rfl rfl) a0m)) (a0f (a0a rfl) (a0H a0b) a0n))) rfl rfl rfl ?_
     iterate 13 refine z ?_
     refine a0j ?_
     iterate 4 refine z ?_
     refine ⟨(i + 1, saS s (atG (q.length : Int) (l.getD (i : Int).toNat default) j)), ?_, ?_, a3R (a2D (b := 9) (i := 0) (k := 295031) (k' := 95031) rfl rfl rfl rfl (by simp) rfl rfl) (a0e ⟨rfl, rfl, rfl, rfl, rfl, rfl, rfl, trivial⟩ ⟨rfl, rfl, rfl, rfl, trivial⟩ ⟨rfl, rfl, rfl, trivial⟩ rfl)⟩
     ·exact ⟨by dsimp only; omega, by rw [b1D hi2 hi6, ← hs, hp, hat]; rw [hat] at c4; exact (b5B c4).symm⟩
     ·dsimp only; omega
    ·iterate 4 refine z ?_
     refine yO rfl rfl (a8F (dd := a0Z (s.2)) (a3C hT rfl rfl (a0a rfl) rfl rfl) rfl rfl) rfl ?_
     iterate 6 refine z ?_
     refine yQ rfl (fun c5 => ?_) fun c5 => ?_
     ·have d5 := c5p c5
      iterate 4 refine z ?_
      refine a2U 100000 rfl rfl rfl Tryz.call28 (a6c (d := s.1) (q := s.2) (i := (atG (q.length : Int) (l.getD (i : Int).toNat default) j)) (by omega) (by omega)) (a0f (a0a rfl) (a0l (a0c a0b (a0c a0b (a0c (a0L rfl rfl) (a0c (a0L rfl rfl) a0m))))) (a0f (a0a rfl) (a0l (a0c (a0L rfl rfl) a0m)) (a0f (a0a rfl) (a0H a0b) a0n))) rfl rfl rfl ?_
      iterate 14 refine z ?_
      refine a0j ?_
      iterate 4 refine z ?_
      refine ⟨(i + 1, stS s (atG (q.length : Int) (l.getD (i : Int).toNat default) j)), ?_, ?_, a3R (a2D (b := 8) (i := 2) (k := 190031) (k' := 90031) rfl rfl rfl rfl (by simp) rfl rfl) (a3R (a2D (b := 8) (i := 3) (k := 190900) (k' := 90900) rfl rfl rfl rfl (by simp) rfl rfl) (a3R (a2D (b := 9) (i := 0) (k := 195031) (k' := 95031) rfl rfl rfl rfl (by simp) rfl rfl) (a0e ⟨rfl, rfl, rfl, rfl, rfl, rfl, rfl, trivial⟩ ⟨rfl, rfl, rfl, rfl, trivial⟩ ⟨rfl, rfl, rfl, trivial⟩ rfl)))⟩
      ·exact ⟨by dsimp only; omega, by rw [b1D hi2 hi6, ← hs, hp, hat]; have d6 : (s.2.getD (atG (q.length : Int) (l.getD (i : Int).toNat default) j).toNat default).2.2.2.1 = 1 := d5; rw [hat] at d6; exact (b3V d6).symm⟩
      ·dsimp only; omega
     ·have d5 := c5q c5
      iterate 3 refine z ?_
      refine a0j ?_
      iterate 4 refine z ?_
      refine ⟨j + 1, ?_, ?_, a0e ⟨rfl, rfl, rfl, rfl, rfl, rfl, rfl, rfl, trivial⟩ ⟨rfl, rfl, rfl, rfl, trivial⟩ ⟨rfl, rfl, rfl, trivial⟩ rfl⟩
      ·have d6 : ¬ (s.2.getD (atG (q.length : Int) (l.getD (i : Int).toNat default) j).toNat default).2.2.2.1 = 1 := d5
       rw [hat] at c4 d6
       exact ⟨by omega, by rw [hp, b3Q (by simpa using c4) d6, show q.length - (j + 1) = f by omega]⟩
      ·omega
   ·have d3 := c5q c3
    have hp2 : a2V (q.length : Int) (l.getD (i : Int).toNat default) s q.length 0 = s := by rw [hp, show q.length - j = 0 by omega]; rfl
    iterate 6 refine z ?_
    refine a0j ?_
    iterate 4 refine z ?_
    refine ⟨(i + 1, s), ?_, ?_, a0e ⟨rfl, rfl, rfl, rfl, rfl, rfl, rfl, trivial⟩ ⟨rfl, rfl, rfl, rfl, trivial⟩ ⟨rfl, rfl, rfl, trivial⟩ rfl⟩
    ·exact ⟨by dsimp only; omega, by rw [b1D hi2 hi6, ← hs, hp2]⟩
    ·dsimp only; omega
  ·have hs0 : s = chS q.length (d, q) (l.take 60) := by
    by_cases h0 : q.length = 0
    ·rw [hs, h0, b3b, b3b]
    ·have hcc := c2
     simp only [Bool.and_eq_false_iff, decide_eq_false_iff_not] at hcc
     have hlt : (l.take 60).length = min 60 l.length := c5t
     rw [hs, List.take_of_length_le (by omega)]
   have hI0 := hIs
   rw [hs0] at hI0
   iterate 10 refine z ?_
   refine a0W (ι := Nat × StT) (fun zz => ⟨[(6, .box 6 0), (7, .box 7 0), (8, .box 8 0), (9, .box 9 0), (10, .one (.dv [] (.int .i64 ((((q)).length : Int))))), (14, .one (.dv [] (.int .i64 ((zz.1 : Int)))))], [(6, 35, [(.dv [] (.str (ByteArray.empty))), (.dv [] (.int .i64 (0))), .nil, .nil]), (7, 38, [.nil]), (8, 35, [(.dv [] (.str (zz.2.1.1))), (.dv [] (.int .i64 (zz.2.1.2.1))), (.key 90031), (.key 90900)]), (9, 38, [(.key 95031)])], [(90031, some (a0d false (.sl 89 3 (zz.2.1.2.2.1.length) (zz.2.1.2.2.1.flatMap a0U)))), (90900, some (a0d false (.sl 95 2 (zz.2.1.2.2.2.length) (zz.2.1.2.2.2.flatMap a1y)))), (95031, some (a0d false (.sl 63 5 (zz.2.2.length) (zz.2.2.flatMap eTx))))]⟩) (fun zz => zz.1 ≤ q.length ∧ zz.2 = a7o (chS q.length (d, q) (l.take 60)) zz.1) (fun zz => q.length - zz.1) ((0, s)) ?_ (a0e ⟨rfl, rfl, rfl, rfl, rfl, rfl, trivial⟩ ⟨rfl, rfl, rfl, rfl, trivial⟩ ⟨rfl, rfl, rfl, trivial⟩ rfl) (fun zz hx => ?_)
   ·exact ⟨Nat.zero_le _, hs0⟩
   obtain ⟨i, s⟩ := zz
   replace hx : i ≤ q.length ∧ s = a7o (chS q.length (d, q) (l.take 60)) i := hx
   obtain ⟨hi2, hs2⟩ := hx
   have hIs := b0t h12 hI0 i
   rw [← hs2] at hIs
   have hsl : s.2.length = q.length := hIs.len
   obtain ⟨hsw, hsq⟩ := a4j hd hq hIs
   have hse : a1z s.2 = a0s wTx s.2 := rfl
   show Ok _ _ _ _ _ (⟨[(6, .box 6 0), (7, .box 7 0), (8, .box 8 0), (9, .box 9 0), (10, .one (.dv [] (.int .i64 ((((q)).length : Int))))), (14, .one (.dv [] (.int .i64 ((i : Int)))))], [(6, 35, [(.dv [] (.str (ByteArray.empty))), (.dv [] (.int .i64 (0))), .nil, .nil]), (7, 38, [.nil]), (8, 35, [(.dv [] (.str (s.1.1))), (.dv [] (.int .i64 (s.1.2.1))), (.key 90031), (.key 90900)]), (9, 38, [(.key 95031)])], [(90031, some (a0d false (.sl 89 3 (s.1.2.2.1.length) (s.1.2.2.1.flatMap a0U)))), (90900, some (a0d false (.sl 95 2 (s.1.2.2.2.length) (s.1.2.2.2.flatMap a1y)))), (95031, some (a0d false (.sl 63 5 (s.2.length) (s.2.flatMap eTx))))]⟩ : St)
   iterate 6 refine z ?_
   refine yQ rfl (fun c6 => ?_) fun c6 => ?_
   ·have d6 := c5p c6
    iterate 4 refine z ?_
    refine a0j ?_
    iterate 3 refine z ?_
    refine a2U 400000 rfl rfl rfl Tryz.call29 (c0u (d0 := d) (q := q) (s := s) (i := (i : Int)) hd hq hIs) (a0f (a0a rfl) (a0l (a0c a0b (a0c a0b (a0c (a0L rfl rfl) (a0c (a0L rfl rfl) a0m))))) (a0f (a0a rfl) (a0l (a0c (a0L rfl rfl) a0m)) (a0f (a0a rfl) (a0H a0b) a0n))) rfl rfl rfl ?_
    iterate 5 refine z ?_
    refine a1j ?_
    iterate 2 refine z ?_
    refine a0j ?_
    iterate 4 refine z ?_
    generalize hr : a6t s (i : Int) = r
    refine ⟨(i + 1, r), ?_, ?_, a3R (a2D (b := 8) (i := 2) (k := 490031) (k' := 90031) rfl rfl rfl rfl (by simp) rfl rfl) (a3R (a2D (b := 8) (i := 3) (k := 490900) (k' := 90900) rfl rfl rfl rfl (by simp) rfl rfl) (a3R (a2D (b := 9) (i := 0) (k := 495031) (k' := 95031) rfl rfl rfl rfl (by simp) rfl rfl) (a0e ⟨rfl, rfl, rfl, rfl, rfl, rfl, trivial⟩ ⟨rfl, rfl, rfl, rfl, trivial⟩ ⟨rfl, rfl, rfl, trivial⟩ rfl)))⟩
    ·exact ⟨by dsimp only; omega, by dsimp only; rw [← hr, hs2]; rfl⟩
    ·dsimp only; omega
   ·have d6 := c5q c6
    iterate 5 refine z ?_
    refine a0p ?_
    refine a3p 6 (oB := [7, 8, 9]) (oK := [90031, 90900, 95031]) (by kernel_rfl) rfl rfl ?_
    refine a1i 0 rfl (by kernel_rfl) rfl rfl (a2i hT rfl rfl (a0a rfl) rfl rfl) rfl rfl rfl rfl rfl ?_
    refine a1i 1 rfl (by kernel_rfl) rfl rfl (a2i hT rfl rfl (a0a rfl) rfl rfl) rfl rfl rfl rfl rfl ?_
    refine a3t 2 rfl (by kernel_rfl) rfl hT rfl rfl rfl (a0a rfl) (a0a rfl) rfl rfl rfl rfl rfl rfl ?_
    refine a3s [3] rfl rfl (by kernel_rfl) ?_
    iterate 2 refine z ?_
    have hfin : a1F d q l = s := by unfold a1F; rw [if_pos hd, hs2, show i = q.length by omega]
    rw [hfin]
    refine a0r (σ' := ⟨[(6, .box 6 0), (7, .box 7 0)], [(6, 35, [(.dv [] (.str (s.1.1))), (.dv [] (.int .i64 (s.1.2.1))), (.key 90031), (.key 90900)]), (7, 38, [(.key 95031)])], [(90031, some (a0d false (a0k (s.1.2.2.1)))), (90900, some (a0d false (a0A (s.1.2.2.2)))), (95031, some (a0d false (a0Z (s.2))))]⟩) (a0e ⟨rfl, rfl, trivial⟩ ⟨rfl, rfl, trivial⟩ ⟨rfl, rfl, rfl, trivial⟩ rfl) ?_
    refine z ?_
    refine a1W (a0K hT rfl rfl rfl rfl) (a0K hT rfl rfl rfl rfl) rfl rfl ?_
    first | exact ⟨rfl, rfl⟩ | skip
theorem b0P {x : List Int} (hb : x.length ≤ 1048576) : KFn Tryz.prog 9 [.one (.dv [] (a2P (x)))] (.one (.key 7)) [(7, some (a0d false (a2P (x))))] := by
 refine ⟨a0u Tryz.func9 rfl Tryz.ntmps9 Tryz.results9 rfl (fun C => ?_)⟩
 refine a0G (x := .tmp 0) (a0a rfl) fun f0 => ?_
 iterate 6 refine z ?_
 refine a7v (k := 7) (n := ((x)).length) (zd := [.int .i64 (0)]) (cs := a1M a2I [.int .i64 (0)] x 0) hT rfl rfl rfl rfl rfl rfl (a0a rfl) (a0a rfl) rfl rfl rfl (by omega) rfl rfl a7w ?_
 iterate 7 refine z ?_
 refine a0W (ι := Nat) (fun zz => ⟨[(0, .one (.dv [] (a2P (x)))), (3, .one (.key 7)), (4, .one (.dv [] (.int .i64 ((zz : Int)))))], [], [(7, some (a0d false (.sl 3 1 ((x).length) (a1M a2I [.int .i64 (0)] x zz))))]⟩) (fun zz => zz ≤ x.length) (fun zz => x.length - zz) (0) ?_ (a0e ⟨rfl, rfl, rfl, trivial⟩ trivial ⟨rfl, trivial⟩ rfl) (fun zz hx => ?_)
 ·exact Nat.zero_le _
 obtain ⟨k, rfl⟩ : ∃ v, v = zz := ⟨_, rfl⟩
 replace hx : k ≤ x.length := hx
 show Ok _ _ _ _ _ (⟨[(0, .one (.dv [] (a2P (x)))), (3, .one (.key 7)), (4, .one (.dv [] (.int .i64 ((k : Int)))))], [], [(7, some (a0d false (.sl 3 1 ((x).length) (a1M a2I [.int .i64 (0)] x k))))]⟩ : St)
 iterate 7 refine z ?_
 refine yQ rfl (fun c1 => ?_) fun c1 => ?_
 ·have d1 := c5p c1
  iterate 4 refine z ?_
  refine a0j ?_
  iterate 6 refine z ?_
  refine yO rfl rfl (a1q (i := k) hT rfl rfl rfl (a0a rfl) rfl (a0a rfl) rfl (by show _ < ((x).length); omega)) rfl ?_
  refine a1u (js := []) (cs := a1M a2I [.int .i64 (0)] x (k + 1)) hT rfl rfl rfl rfl (a0a rfl) (a0a rfl) rfl rfl rfl rfl (a0o (a0C rfl) a1e rfl) (by decide) (by decide) rfl (by show _ ≤ List.length (a1M a2I [.int .i64 (0)] x k); rw [a7d (sz := 1) (fun _ => rfl) rfl]; omega) (a7c (sz := 1) (fun _ => rfl) rfl (by omega) rfl) ?_
  simp only [a0i, a0h, SV.kill, CV.kill, kk, Nat.reduceBEq]
  refine a1j ?_
  iterate 2 refine z ?_
  refine a0j ?_
  iterate 4 refine z ?_
  refine ⟨k + 1, ?_, ?_, a0e ⟨rfl, rfl, rfl, trivial⟩ trivial ⟨rfl, trivial⟩ rfl⟩
  ·omega
  ·omega
 ·have d1 := c5q c1
  iterate 9 refine z ?_
  refine a0r (σ' := ⟨[(2, .one (.key 7))], [], [(7, some (a0d false (a2P (x))))]⟩) (a0e ⟨rfl, trivial⟩ trivial ⟨(congrArg (fun cs => some (some (KC.mk false 3 1 x.length cs))) (a7u (by omega))), trivial⟩ rfl) ?_
  refine z ?_
  refine a1B (a0B rfl) ?_
  exact ⟨rfl, rfl⟩
theorem c3R {x0 : DbT} {x1 : List TxT} {x2 : List (Int)}  : PFn Tryz.prog 3 [.agg [(.dv [] (.str (x0.1))), (.dv [] (.int .i64 (x0.2.1))), (.dv [] (a0k (x0.2.2.1))), (.dv [] (a0A (x0.2.2.2)))], .agg [(.dv [] (a0Z (x1)))], .one (.dv [] (a2P (x2)))] (.one (.dv [] (.bool (true)))) := by
 refine ⟨a0u Tryz.func3 rfl Tryz.ntmps3 Tryz.results3 rfl (fun C => ?_)⟩
 have hsw := fun h1 h2 => b9n (d := x0) (q := x1) (l := x2) h1 h2
 have hwq0 : a1z x1 = a0s wTx x1 := rfl
 have hwq1 : a1z (a1F x0 x1 x2).2 = a0s wTx (a1F x0 x1 x2).2 := rfl
 have : a1r x0 = (x0.1).size + a0s a0v (x0.2.2.1) + a0s a1m (x0.2.2.2) := rfl
 have : a0s a0v (x0.2.2.1) = (x0.2.2.1).length + wSum a0v (x0.2.2.1) := rfl
 have : a0s a1m (x0.2.2.2) = (x0.2.2.2).length + wSum a1m (x0.2.2.2) := rfl
 have : a1z x1 = a0s wTx (x1) := rfl
 have : a0s wTx (x1) = (x1).length + wSum wTx (x1) := rfl
 have := a4X b1x (x0.2.2.1)
 have := a4X b6N (x0.2.2.2)
 have := a4X b8o (x1)
 have : wSum a3D (x2) = 1 * (x2).length := b4E (n := 1) _
 have : a1r (a1F x0 x1 x2).1 = ((a1F x0 x1 x2).1.1).size + a0s a0v ((a1F x0 x1 x2).1.2.2.1) + a0s a1m ((a1F x0 x1 x2).1.2.2.2) := rfl
 have : a0s a0v ((a1F x0 x1 x2).1.2.2.1) = ((a1F x0 x1 x2).1.2.2.1).length + wSum a0v ((a1F x0 x1 x2).1.2.2.1) := rfl
 have : a0s a1m ((a1F x0 x1 x2).1.2.2.2) = ((a1F x0 x1 x2).1.2.2.2).length + wSum a1m ((a1F x0 x1 x2).1.2.2.2) := rfl
 have := a4X b1x ((a1F x0 x1 x2).1.2.2.1)
 have := a4X b6N ((a1F x0 x1 x2).1.2.2.2)
 have : a1z (a1F x0 x1 x2).2 = a0s wTx ((a1F x0 x1 x2).2) := rfl
 have : a0s wTx ((a1F x0 x1 x2).2) = ((a1F x0 x1 x2).2).length + wSum wTx ((a1F x0 x1 x2).2) := rfl
 have := a4X b8o ((a1F x0 x1 x2).2)
 refine yF 0 0 rfl rfl fun f0_0 => ?_
 refine yF 0 1 rfl rfl fun f0_1 => ?_
 refine yF 0 2 rfl rfl fun f0_2 => ?_
 refine yF 0 3 rfl rfl fun f0_3 => ?_
 refine yF 1 0 rfl rfl fun f1_0 => ?_
 refine a0G (x := .tmp 2) (a0a rfl) fun f2 => ?_
 iterate 11 refine z ?_
 refine yQ rfl (fun c1 => ?_) fun c1 => ?_
 ·have d1 := c5p c1
  first | have q1 := a1O d1 | skip
  iterate 6 refine z ?_
  first | rfl | (exfalso; omega) | (exfalso; simp_all; done) | (exfalso; simp_all; omega)
 ·have d1 := c5q c1
  first | have q1 := a1K d1 | skip
  iterate 8 refine z ?_
  refine zC Tryz.call4 ?_ (hf := c1R (by omega) (by omega))
  iterate 7 refine z ?_
  refine yQ rfl (fun c2 => ?_) fun c2 => ?_
  ·have d2 := c5p c2
   first | have q2 := a1O d2 | skip
   iterate 6 refine z ?_
   first | rfl | (exfalso; omega) | (exfalso; simp_all; done) | (exfalso; simp_all; omega)
  ·have d2 := c5q c2
   first | have q2 := a1K d2 | skip
   iterate 5 refine z ?_
   refine zC Tryz.call5 ?_ (hf := c4o (by omega) (by omega))
   iterate 7 refine z ?_
   refine yQ rfl (fun c3 => ?_) fun c3 => ?_
   ·have d3 := c5p c3
    first | have q3 := a1O d3 | skip
    iterate 6 refine z ?_
    first | rfl | (exfalso; omega) | (exfalso; simp_all; done) | (exfalso; simp_all; omega)
   ·have d3 := c5q c3
    first | have q3 := a1K d3 | skip
    iterate 2 refine z ?_
    refine a0p ?_
    refine a1o (oB := [3, 4]) (oK := []) (by kernel_rfl) rfl rfl ?_
    refine zD 0 ?_
    refine zD 2 ?_
    refine zD 4 ?_
    refine a5q (A := [(10, 8, 35, _), (11, 9, 38, _)]) hT ⟨⟨_, _, rfl⟩, rfl, ⟨⟨_, _, rfl⟩, rfl, trivial⟩⟩ ?_
    refine a4J 35000 1 rfl (by kernel_rfl) rfl rfl rfl (vok hT ⟨⟨_, _, rfl⟩, rfl, ⟨⟨_, _, rfl⟩, rfl, trivial⟩⟩ (by kernel_rfl) (by kernel_rfl)) (vok hT ⟨⟨_, _, rfl⟩, rfl, ⟨⟨_, _, rfl⟩, rfl, trivial⟩⟩ (by kernel_rfl) (by kernel_rfl)) rfl Tryz.call7 (b0I (by first | omega | (simp only [a2x, a1v, a2e, a1a, a0v, a1m, a1r, wOp, wTx, a1z] at hb ⊢; omega) | (have hq := hw (by omega); omega))) (a0f (a0a rfl) (a0l (a0c a0b (a0c a0b (a0c a0b (a0c a0b a0m))))) a0n) rfl rfl rfl rfl rfl ?_
    refine a4J 37000 3 rfl (by kernel_rfl) rfl rfl rfl (vok hT ⟨⟨_, _, rfl⟩, rfl, ⟨⟨_, _, rfl⟩, rfl, trivial⟩⟩ (by kernel_rfl) (by kernel_rfl)) (vok hT ⟨⟨_, _, rfl⟩, rfl, ⟨⟨_, _, rfl⟩, rfl, trivial⟩⟩ (by kernel_rfl) (by kernel_rfl)) rfl Tryz.call8 (b0w (by first | omega | (simp only [a2x, a1v, a2e, a1a, a0v, a1m, a1r, wOp, wTx, a1z] at hb ⊢; omega) | (have hq := hw (by omega); omega))) (a0f (a0a rfl) (a0l (a0c a0b a0m)) a0n) rfl rfl rfl rfl rfl ?_
    refine a4J 39000 5 rfl (by kernel_rfl) rfl rfl rfl (vok hT ⟨⟨_, _, rfl⟩, rfl, ⟨⟨_, _, rfl⟩, rfl, trivial⟩⟩ (by kernel_rfl) (by kernel_rfl)) (vok hT ⟨⟨_, _, rfl⟩, rfl, ⟨⟨_, _, rfl⟩, rfl, trivial⟩⟩ (by kernel_rfl) (by kernel_rfl)) rfl Tryz.call9 (b0P (by omega)) (a0f (a0a rfl) (a0H a0b) a0n) rfl rfl rfl rfl rfl ?_
    refine a4J 40000 6 rfl (by kernel_rfl) rfl rfl rfl (vok hT ⟨⟨_, _, rfl⟩, rfl, ⟨⟨_, _, rfl⟩, rfl, trivial⟩⟩ (by kernel_rfl) (by kernel_rfl)) (vok hT ⟨⟨_, _, rfl⟩, rfl, ⟨⟨_, _, rfl⟩, rfl, trivial⟩⟩ (by kernel_rfl) (by kernel_rfl)) rfl Tryz.call6 (c0j (by omega) (by omega) (by omega)) (a0f (a0a rfl) (a0l (a0c a0b (a0c a0b (a0c (a0L rfl rfl) (a0c (a0L rfl rfl) a0m))))) (a0f (a0a rfl) (a0l (a0c (a0L rfl rfl) a0m)) (a0f (a0a rfl) (a0H (a0L rfl rfl)) a0n))) rfl rfl rfl rfl rfl ?_
    refine a5U 7 rfl (by kernel_rfl) rfl rfl rfl (vok hT ⟨⟨_, _, rfl⟩, rfl, ⟨⟨_, _, rfl⟩, rfl, trivial⟩⟩ (by kernel_rfl) (by kernel_rfl)) (vok hT ⟨⟨_, _, rfl⟩, rfl, ⟨⟨_, _, rfl⟩, rfl, trivial⟩⟩ (by kernel_rfl) (by kernel_rfl)) (a1Q (.inl rfl) (a0a rfl)) rfl rfl rfl rfl ?_
    refine a2L 8 rfl (by kernel_rfl) rfl rfl rfl rfl (vok hT ⟨⟨_, _, rfl⟩, rfl, ⟨⟨_, _, rfl⟩, rfl, trivial⟩⟩ (by kernel_rfl) (by kernel_rfl)) (vok hT ⟨⟨_, _, rfl⟩, rfl, ⟨⟨_, _, rfl⟩, rfl, trivial⟩⟩ (by kernel_rfl) (by kernel_rfl)) (a4z rfl (a0a rfl) rfl) rfl rfl ?_
    refine a2L 9 rfl (by kernel_rfl) rfl rfl rfl rfl (vok hT ⟨⟨_, _, rfl⟩, rfl, ⟨⟨_, _, rfl⟩, rfl, trivial⟩⟩ (by kernel_rfl) (by kernel_rfl)) (vok hT ⟨⟨_, _, rfl⟩, rfl, ⟨⟨_, _, rfl⟩, rfl, trivial⟩⟩ (by kernel_rfl) (by kernel_rfl)) (a4z rfl (a0a rfl) rfl) rfl rfl ?_
    refine a5C (vok hT ⟨⟨_, _, rfl⟩, rfl, ⟨⟨_, _, rfl⟩, rfl, trivial⟩⟩ (by kernel_rfl) (by kernel_rfl)) rfl rfl (by kernel_rfl) ?_
    dsimp only [a3j, a2Z]
    refine a3c [12, 13] rfl rfl (by kernel_rfl) ?_
    iterate 5 refine z ?_
    refine zK 44000 Tryz.call7 ?_ (hf := b0I (by first | omega | (simp only [a2x, a1v, a2e, a1a, a0v, a1m, a1r, wOp, wTx, a1z] at hb ⊢; omega) | (have hq := hw (by omega); omega)))
    iterate 5 refine z ?_
    refine zK 46000 Tryz.call8 ?_ (hf := b0w (by first | omega | (simp only [a2x, a1v, a2e, a1a, a0v, a1m, a1r, wOp, wTx, a1z] at hb ⊢; omega) | (have hq := hw (by omega); omega)))
    iterate 5 refine z ?_
    refine zK 48000 Tryz.call9 ?_ (hf := b0P (by omega))
    iterate 6 refine z ?_
    refine a2U 53000 rfl rfl rfl Tryz.call10 (b5k (by omega) (by omega) (by omega)) (a0f (a0a rfl) (a0l (a0c a0b (a0c a0b (a0c (a0L rfl rfl) (a0c (a0L rfl rfl) a0m))))) (a0f (a0a rfl) (a0l (a0c (a0L rfl rfl) a0m)) (a0f (a0a rfl) (a0H (a0L rfl rfl)) a0n))) rfl rfl rfl ?_
    iterate 12 refine z ?_
    refine a3k rfl rfl rfl Tryz.call11 b1d (a0f (a0a rfl) (a0l (a0c a0b (a0c a0b (a0c (a0L rfl rfl) (a0c (a0L rfl rfl) a0m))))) (a0f (a0a rfl) (a0l (a0c a0b (a0c a0b (a0c (a0L rfl rfl) (a0c (a0L rfl rfl) a0m))))) a0n)) rfl rfl ?_
    iterate 4 refine z ?_
    refine a1t (a1l rfl rfl rfl rfl rfl) rfl rfl Tryz.call12 b0m (fun hg => (a0f (a0x rfl hg) (a0l (a0c (a0L rfl rfl) a0m)) (a0f (a0x rfl hg) (a0l (a0c (a0L rfl rfl) a0m)) a0n))) rfl rfl ?_
    iterate 3 refine z ?_
    refine yQ rfl (fun c4 => ?_) fun c4 => ?_
    ·iterate 6 refine z ?_
     first | rfl | (exfalso; omega) | (exfalso; simp_all; done) | (exfalso; simp_all; omega)
    ·iterate 2 refine z ?_
     refine a0p ?_
     refine a0p ?_
     refine a1o (oB := [3, 4, 8, 9, 10, 11, 13, 14]) (oK := [39007, 43007, 47007, 48007, 51007, 52007, 56007, 60007, 130031, 130900, 135031, 143031, 143900, 148031]) (by kernel_rfl) rfl rfl ?_
     refine zD 0 ?_
     refine zD 1 ?_
     refine a3L 68000 2 rfl (by kernel_rfl) rfl rfl rfl Tryz.call7 (b0I (by first | omega | (simp only [a2x, a1v, a2e, a1a, a0v, a1m, a1r, wOp, wTx, a1z] at hb ⊢; omega) | (have hq := hw (by omega); omega))) (a0f (a0a rfl) (a0l (a0c a0b (a0c a0b (a0c a0b (a0c a0b a0m))))) a0n) rfl rfl rfl rfl rfl ?_
     refine a2v 3 rfl (by kernel_rfl) rfl rfl rfl Tryz.call11 b1d (a0f (a0a rfl) (a0l (a0c a0b (a0c a0b (a0c (a0L rfl rfl) (a0c (a0L rfl rfl) a0m))))) (a0f (a0a rfl) (a0l (a0c a0b (a0c a0b (a0c (a0L rfl rfl) (a0c (a0L rfl rfl) a0m))))) a0n)) rfl rfl rfl rfl ?_
     refine zD 4 ?_
     refine a1R (by kernel_rfl) ?_
     refine z ?_
     refine yQ rfl (fun c5 => ?_) fun c5 => ?_
     ·iterate 6 refine z ?_
      first | rfl | (exfalso; omega) | (exfalso; simp_all; done) | (exfalso; simp_all; omega)
     ·iterate 2 refine z ?_
      refine a0p ?_
      refine a0p ?_
      refine a1o (oB := [3, 4, 8, 9, 10, 11, 13, 14]) (oK := [39007, 43007, 47007, 48007, 51007, 52007, 56007, 60007, 80007, 84007, 130031, 130900, 135031, 143031, 143900, 148031]) (by kernel_rfl) rfl rfl ?_
      refine zD 0 ?_
      refine zD 1 ?_
      refine a3L 73000 2 rfl (by kernel_rfl) rfl rfl rfl Tryz.call8 (b0w (by first | omega | (simp only [a2x, a1v, a2e, a1a, a0v, a1m, a1r, wOp, wTx, a1z] at hb ⊢; omega) | (have hq := hw (by omega); omega))) (a0f (a0a rfl) (a0l (a0c a0b a0m)) a0n) rfl rfl rfl rfl rfl ?_
      refine a2v 3 rfl (by kernel_rfl) rfl rfl rfl Tryz.call12 b0m (a0f (a0a rfl) (a0l (a0c (a0L rfl rfl) a0m)) (a0f (a0a rfl) (a0l (a0c (a0L rfl rfl) a0m)) a0n)) rfl rfl rfl rfl ?_
      refine zD 4 ?_
      refine a1R (by kernel_rfl) ?_
      refine z ?_
      refine yQ rfl (fun c6 => ?_) fun c6 => ?_
      ·iterate 6 refine z ?_
       first | rfl | (exfalso; omega) | (exfalso; simp_all; done) | (exfalso; simp_all; omega)
      ·iterate 6 refine z ?_
       refine zK 78000 Tryz.call9 ?_ (hf := b0P (by omega))
       refine a3k rfl rfl rfl Tryz.call13 c3x (a0f (a0a rfl) (a0H (a0L rfl rfl)) (a0f (a0a rfl) (a0H (a0L rfl rfl)) a0n)) rfl rfl ?_
       iterate 2 refine z ?_
       refine yQ rfl (fun c7 => ?_) fun c7 => ?_
       ·iterate 6 refine z ?_
        first | rfl | (exfalso; omega) | (exfalso; simp_all; done) | (exfalso; simp_all; omega)
       ·iterate 8 refine z ?_
        refine a6A [(0, 56007, ⟨false, _, _, _, _⟩, ⟨false, _, _, _, _⟩), (1, 60007, ⟨false, _, _, _, _⟩, ⟨false, _, _, _, _⟩)] rfl rfl rfl Tryz.call14 (b6Y (x := x0) (by omega) (by omega)) ⟨rfl, rfl, trivial⟩ rfl (a2J (a0a rfl) (b0Z (a5A (a3I rfl) (a5A (a3I rfl) (a5A (a4h rfl) (a5A (a4h rfl) b0H))))) (a2J (a0a rfl) (a3b (a3I rfl)) a4C)) rfl rfl ?_
        simp only [a0i, a0h, SV.kill, CV.kill, kk, Nat.reduceBEq]
        iterate 5 refine z ?_
        refine a6A [(0, 52007, ⟨false, _, _, _, _⟩, ⟨false, _, _, _, _⟩)] rfl rfl rfl Tryz.call15 (b8h (x := x1) (by omega) (by omega)) ⟨rfl, trivial⟩ rfl (a2J (a0a rfl) (b0Z (a5A (a4h rfl) b0H)) (a2J (a0a rfl) (a3b (a3I rfl)) a4C)) rfl rfl ?_
        simp only [a0i, a0h, SV.kill, CV.kill, kk, Nat.reduceBEq]
        iterate 5 refine z ?_
        refine a6A [(0, 48007, ⟨false, _, _, _, _⟩, ⟨false, _, _, _, _⟩)] rfl rfl rfl Tryz.call16 (b9E (x := x2) (by omega) (by omega)) ⟨rfl, trivial⟩ rfl (a2J (a0a rfl) (a3b (a4h rfl)) (a2J (a0a rfl) (a3b (a3I rfl)) a4C)) rfl rfl ?_
        simp only [a0i, a0h, SV.kill, CV.kill, kk, Nat.reduceBEq]
        iterate 9 refine z ?_
        refine a1t (a1l rfl rfl rfl rfl rfl) rfl rfl Tryz.call11 b1d (fun hg => (a0f (a0x rfl hg) (a0l (a0c a0b (a0c a0b (a0c (a0L rfl rfl) (a0c (a0L rfl rfl) a0m))))) (a0f (a0x rfl hg) (a0l (a0c a0b (a0c a0b (a0c (a0L rfl rfl) (a0c (a0L rfl rfl) a0m))))) a0n))) rfl rfl ?_
        iterate 5 refine z ?_
        refine a1t (a1l rfl rfl rfl rfl rfl) rfl rfl Tryz.call12 b0m (fun hg => (a0f (a0x rfl hg) (a0l (a0c (a0L rfl rfl) a0m)) (a0f (a0x rfl hg) (a0l (a0c (a0L rfl rfl) a0m)) a0n))) rfl rfl ?_
        iterate 3 refine z ?_
        refine yQ rfl (fun c8 => ?_) fun c8 => ?_
        ·iterate 6 refine z ?_
         first | rfl | (exfalso; omega) | (exfalso; simp_all; done) | (exfalso; simp_all; omega)
        ·iterate 8 refine z ?_
         refine a6A [(0, 143031, ⟨false, _, _, _, _⟩, ⟨false, _, _, _, _⟩), (1, 143900, ⟨false, _, _, _, _⟩, ⟨false, _, _, _, _⟩)] rfl rfl rfl Tryz.call14 (b6Y (x := (a1F x0 x1 x2).1) (by omega) (by omega)) ⟨rfl, rfl, trivial⟩ rfl (a2J (a0a rfl) (b0Z (a5A (a3I rfl) (a5A (a3I rfl) (a5A (a4h rfl) (a5A (a4h rfl) b0H))))) (a2J (a0a rfl) (a3b (a3I rfl)) a4C)) rfl rfl ?_
         simp only [a0i, a0h, SV.kill, CV.kill, kk, Nat.reduceBEq]
         iterate 5 refine z ?_
         refine a6A [(0, 148031, ⟨false, _, _, _, _⟩, ⟨false, _, _, _, _⟩)] rfl rfl rfl Tryz.call15 (b8h (x := (a1F x0 x1 x2).2) (by omega) (by omega)) ⟨rfl, trivial⟩ rfl (a2J (a0a rfl) (b0Z (a5A (a4h rfl) b0H)) (a2J (a0a rfl) (a3b (a3I rfl)) a4C)) rfl rfl ?_
         simp only [a0i, a0h, SV.kill, CV.kill, kk, Nat.reduceBEq]
         iterate 8 refine z ?_
         refine a3k rfl rfl rfl Tryz.call17 (b8u (x := (a1F x0 x1 x2).1) rfl (by omega) (by omega)) (a0f (a0a rfl) (a0l (a0c a0b (a0c a0b (a0c (a0L rfl rfl) (a0c (a0L rfl rfl) a0m))))) (a0f (a0a rfl) (a0H a0b) a0n)) rfl rfl ?_
         iterate 7 refine z ?_
         refine yQ rfl (fun c9 => ?_) fun c9 => ?_
         ·have d9 := c5p c9
          first | have q9 := a1O d9 | skip
          iterate 6 refine z ?_
          first | rfl | (exfalso; omega) | (exfalso; simp_all; done) | (exfalso; simp_all; omega)
         ·have d9 := c5q c9
          first | have q9 := a1K d9 | skip
          iterate 5 refine z ?_
          refine a3k rfl rfl rfl Tryz.call18 (b7C (x := (a1F x0 x1 x2).2) rfl (by omega) (by omega)) (a0f (a0a rfl) (a0l (a0c (a0L rfl rfl) a0m)) (a0f (a0a rfl) (a0H a0b) a0n)) rfl rfl ?_
          iterate 7 refine z ?_
          refine yQ rfl (fun c10 => ?_) fun c10 => ?_
          ·have d10 := c5p c10
           first | have q10 := a1O d10 | skip
           iterate 6 refine z ?_
           first | rfl | (exfalso; omega) | (exfalso; simp_all; done) | (exfalso; simp_all; omega)
          ·have d10 := c5q c10
           first | have q10 := a1K d10 | skip
           iterate 8 refine z ?_
           refine yQ rfl (fun c11 => ?_) fun c11 => ?_
           ·have d11 := a2g c11
            iterate 6 refine z ?_
            first | rfl | (exfalso; omega) | (exfalso; simp_all; done) | (exfalso; simp_all; omega)
           ·have d11 := a2j c11
            iterate 2 refine z ?_
            refine a0p ?_
            refine a1o (oB := [3, 4, 8, 9, 10, 11, 13, 14]) (oK := [39007, 43007, 47007, 48007, 51007, 52007, 56007, 60007, 78007, 79007, 80007, 84007, 130031, 130900, 135031, 143031, 143900, 148031]) (by kernel_rfl) rfl rfl ?_
            refine zD 0 ?_
            refine zD 2 ?_
            refine zD 4 ?_
            refine a5q (A := [(10, 18, 35, _), (11, 19, 38, _)]) hT ⟨⟨_, _, rfl⟩, rfl, ⟨⟨_, _, rfl⟩, rfl, trivial⟩⟩ ?_
            refine a4J 125000 1 rfl (by kernel_rfl) rfl rfl rfl (vok hT ⟨⟨_, _, rfl⟩, rfl, ⟨⟨_, _, rfl⟩, rfl, trivial⟩⟩ (by kernel_rfl) (by kernel_rfl)) (vok hT ⟨⟨_, _, rfl⟩, rfl, ⟨⟨_, _, rfl⟩, rfl, trivial⟩⟩ (by kernel_rfl) (by kernel_rfl)) rfl Tryz.call7 (b0I (by first | omega | (simp only [a2x, a1v, a2e, a1a, a0v, a1m, a1r, wOp, wTx, a1z] at hb ⊢; omega) | (have hq := hw (by omega); omega))) (a0f (a0a rfl) (a0l (a0c a0b (a0c a0b (a0c a0b (a0c a0b a0m))))) a0n) rfl rfl rfl rfl rfl ?_
            refine a4J 127000 3 rfl (by kernel_rfl) rfl rfl rfl (vok hT ⟨⟨_, _, rfl⟩, rfl, ⟨⟨_, _, rfl⟩, rfl, trivial⟩⟩ (by kernel_rfl) (by kernel_rfl)) (vok hT ⟨⟨_, _, rfl⟩, rfl, ⟨⟨_, _, rfl⟩, rfl, trivial⟩⟩ (by kernel_rfl) (by kernel_rfl)) rfl Tryz.call8 (b0w (by first | omega | (simp only [a2x, a1v, a2e, a1a, a0v, a1m, a1r, wOp, wTx, a1z] at hb ⊢; omega) | (have hq := hw (by omega); omega))) (a0f (a0a rfl) (a0l (a0c a0b a0m)) a0n) rfl rfl rfl rfl rfl ?_
            refine a4J 129000 5 rfl (by kernel_rfl) rfl rfl rfl (vok hT ⟨⟨_, _, rfl⟩, rfl, ⟨⟨_, _, rfl⟩, rfl, trivial⟩⟩ (by kernel_rfl) (by kernel_rfl)) (vok hT ⟨⟨_, _, rfl⟩, rfl, ⟨⟨_, _, rfl⟩, rfl, trivial⟩⟩ (by kernel_rfl) (by kernel_rfl)) rfl Tryz.call9 (b0P (by omega)) (a0f (a0a rfl) (a0H a0b) a0n) rfl rfl rfl rfl rfl ?_
            refine a4J 130000 6 rfl (by kernel_rfl) rfl rfl rfl (vok hT ⟨⟨_, _, rfl⟩, rfl, ⟨⟨_, _, rfl⟩, rfl, trivial⟩⟩ (by kernel_rfl) (by kernel_rfl)) (vok hT ⟨⟨_, _, rfl⟩, rfl, ⟨⟨_, _, rfl⟩, rfl, trivial⟩⟩ (by kernel_rfl) (by kernel_rfl)) rfl Tryz.call10 (b5k (by omega) (by omega) (by omega)) (a0f (a0a rfl) (a0l (a0c a0b (a0c a0b (a0c (a0L rfl rfl) (a0c (a0L rfl rfl) a0m))))) (a0f (a0a rfl) (a0l (a0c (a0L rfl rfl) a0m)) (a0f (a0a rfl) (a0H (a0L rfl rfl)) a0n))) rfl rfl rfl rfl rfl ?_
            refine a5U 7 rfl (by kernel_rfl) rfl rfl rfl (vok hT ⟨⟨_, _, rfl⟩, rfl, ⟨⟨_, _, rfl⟩, rfl, trivial⟩⟩ (by kernel_rfl) (by kernel_rfl)) (vok hT ⟨⟨_, _, rfl⟩, rfl, ⟨⟨_, _, rfl⟩, rfl, trivial⟩⟩ (by kernel_rfl) (by kernel_rfl)) (a1Q (.inl rfl) (a0a rfl)) rfl rfl rfl rfl ?_
            refine a2L 8 rfl (by kernel_rfl) rfl rfl rfl rfl (vok hT ⟨⟨_, _, rfl⟩, rfl, ⟨⟨_, _, rfl⟩, rfl, trivial⟩⟩ (by kernel_rfl) (by kernel_rfl)) (vok hT ⟨⟨_, _, rfl⟩, rfl, ⟨⟨_, _, rfl⟩, rfl, trivial⟩⟩ (by kernel_rfl) (by kernel_rfl)) (a4z rfl (a0a rfl) rfl) rfl rfl ?_
            refine a2L 9 rfl (by kernel_rfl) rfl rfl rfl rfl (vok hT ⟨⟨_, _, rfl⟩, rfl, ⟨⟨_, _, rfl⟩, rfl, trivial⟩⟩ (by kernel_rfl) (by kernel_rfl)) (vok hT ⟨⟨_, _, rfl⟩, rfl, ⟨⟨_, _, rfl⟩, rfl, trivial⟩⟩ (by kernel_rfl) (by kernel_rfl)) (a4z rfl (a0a rfl) rfl) rfl rfl ?_
            refine a5C (vok hT ⟨⟨_, _, rfl⟩, rfl, ⟨⟨_, _, rfl⟩, rfl, trivial⟩⟩ (by kernel_rfl) (by kernel_rfl)) rfl rfl (by kernel_rfl) ?_
            dsimp only [a3j, a2Z]
            refine a3c [12, 13] rfl rfl (by kernel_rfl) ?_
            iterate 7 refine z ?_
            refine a3k rfl rfl rfl Tryz.call11 b1d (a0f (a0a rfl) (a0l (a0c a0b (a0c a0b (a0c (a0L rfl rfl) (a0c (a0L rfl rfl) a0m))))) (a0f (a0a rfl) (a0l (a0c a0b (a0c a0b (a0c (a0L rfl rfl) (a0c (a0L rfl rfl) a0m))))) a0n)) rfl rfl ?_
            iterate 4 refine z ?_
            refine a1t (a1l rfl rfl rfl rfl rfl) rfl rfl Tryz.call12 b0m (fun hg => (a0f (a0x rfl hg) (a0l (a0c (a0L rfl rfl) a0m)) (a0f (a0x rfl hg) (a0l (a0c (a0L rfl rfl) a0m)) a0n))) rfl rfl ?_
            iterate 3 refine z ?_
            refine yQ rfl (fun c12 => ?_) fun c12 => ?_
            ·iterate 6 refine z ?_
             first | rfl | (exfalso; omega) | (exfalso; simp_all; done) | (exfalso; simp_all; omega)
            ·iterate 8 refine z ?_
             refine a3k rfl rfl rfl Tryz.call17 (b8u (x := (a1F x0 x1 x2).1) rfl (by omega) (by omega)) (a0f (a0a rfl) (a0l (a0c a0b (a0c a0b (a0c (a0L rfl rfl) (a0c (a0L rfl rfl) a0m))))) (a0f (a0a rfl) (a0H a0b) a0n)) rfl rfl ?_
             iterate 7 refine z ?_
             refine yQ rfl (fun c13 => ?_) fun c13 => ?_
             ·have d13 := c5p c13
              first | have q13 := a1O d13 | skip
              iterate 6 refine z ?_
              first | rfl | (exfalso; omega) | (exfalso; simp_all; done) | (exfalso; simp_all; omega)
             ·have d13 := c5q c13
              first | have q13 := a1K d13 | skip
              iterate 5 refine z ?_
              refine a3k rfl rfl rfl Tryz.call18 (b7C (x := (a1F x0 x1 x2).2) rfl (by omega) (by omega)) (a0f (a0a rfl) (a0l (a0c (a0L rfl rfl) a0m)) (a0f (a0a rfl) (a0H a0b) a0n)) rfl rfl ?_
              iterate 7 refine z ?_
              refine yQ rfl (fun c14 => ?_) fun c14 => ?_
              ·have d14 := c5p c14
               first | have q14 := a1O d14 | skip
               iterate 6 refine z ?_
               first | rfl | (exfalso; omega) | (exfalso; simp_all; done) | (exfalso; simp_all; omega)
              ·have d14 := c5q c14
               first | have q14 := a1K d14 | skip
               iterate 8 refine z ?_
               refine yQ rfl (fun c15 => ?_) fun c15 => ?_
               ·have d15 := a2g c15
                iterate 6 refine z ?_
                first | rfl | (exfalso; omega) | (exfalso; simp_all; done) | (exfalso; simp_all; omega)
               ·have d15 := a2j c15
                iterate 7 refine z ?_
                first | rfl | (exfalso; omega) | (exfalso; simp_all; done) | (exfalso; simp_all; omega)
open Go.RowKit Go.ChangeShapes Go.WideShapes Go.Deep
def a3i (W : World) : List DV → List Value → Prop := a1n (fun b => b < W.heap.size) W
structure OpensD (P : Program) (Q : List DV → Prop) (t : TypeId) : Prop where
 run : ∀ {H : Type} (enc : TypeId × Value → H) (W : World) (base : Nat) (spare : Nat → Bool) (held : Bool) (fuel : Nat) (cs : List Value) (y : DataW H × List MemPlace),
  DataW.trod enc P W base spare held fuel t cs = some y → ∃ ds, Q ds ∧ a3i W ds cs
def Is {α : Type} (enc : α → List DV) (ds : List DV) : Prop := ∃ x, ds = enc x
theorem a5I {P : Program} {t : TypeId} (ht : P.underlying t = some (.int .i64)) : OpensD P (Is a2I) t := by
 refine ⟨fun {H} enc W base spare held fuel cs y h => ?_⟩
 obtain ⟨n, rfl, _, hw⟩ := DataW.trod_int ht h
 have hb : -9223372036854775808 ≤ n ∧ n ≤ 9223372036854775807 := by simpa [Lit.wf, IntKind.min, IntKind.max, IntKind.signed, IntKind.bits] using hw
 exact ⟨_, ⟨n, rfl⟩, by unfold a3i a1n a1n Lay; exact ⟨_, _, rfl, ⟨rfl, a4c hb.1 hb.2⟩, rfl⟩⟩
theorem a6J {P : Program} {t : TypeId} (ht : P.underlying t = some .string) : OpensD P (Is a2G) t := by
 refine ⟨fun {H} enc W base spare held fuel cs y h => ?_⟩
 obtain ⟨s, rfl, _, hs⟩ := DataW.trod_string ht h
 exact ⟨_, ⟨s, rfl⟩, by simp only [a3i, a1n, Lay]; exact ⟨_, _, rfl, ⟨rfl, by simpa [maxLen] using hs⟩, rfl⟩⟩
theorem b5Z {α : Type} {enc : α → List DV} {W : World} {sz : Nat} {f : Nat → Option Value} (hs : ∀ x, (enc x).length = sz) : ∀ n : Nat,
  (∀ i, i < n → ∃ x ci, a3i W (enc x) ci ∧ ∀ j, j < sz → f (i * sz + j) = ci[j]?) → ∃ (xs : List α) (cells : List Value), xs.length = n ∧ a3i W (xs.flatMap enc) cells ∧ ∀ j u, cells[j]? = some u → f j = some u
 | 0, _ => ⟨[], [], rfl, by simp [a3i, a1n], by simp⟩
 | n + 1, h => by
  obtain ⟨xs, cells, h1, h2, h3⟩ := b5Z hs n (fun i hi => h i (by omega))
  obtain ⟨x, ci, g1, g2⟩ := h n (by omega)
  have hl : cells.length = n * sz := by rw [a4w _ _ h2, a7N hs, h1]
  have hci : ci.length = sz := by rw [a4w _ _ g1, hs]
  refine ⟨xs ++ [x], cells ++ ci, by simp [h1], by have := b2V _ _ _ _ h2 g1; simp only [List.flatMap_append, List.flatMap_cons, List.flatMap_nil, List.append_nil]; exact this, fun j u hu => ?_⟩
  rcases Nat.lt_or_ge j cells.length with hj | hj
  ·rw [List.getElem?_append_left hj] at hu; exact h3 j u hu
  ·rw [List.getElem?_append_right hj] at hu
   have hjs : j - cells.length < sz := by rw [← hci]; exact (List.getElem?_eq_some_iff.1 hu).1
   have := g2 (j - cells.length) hjs
   rw [show n * sz + (j - cells.length) = j by omega] at this
   rw [this, hu]
theorem a7j {α : Type} {P : Program} {enc : α → List DV} {t e : TypeId} {sz : Nat} (e' : Nat) (hs : ∀ x, (enc x).length = sz) (hsz : Nat.blt 0 sz = true) (ht : P.underlying t = some (.slice e)) (hc : P.cellsOf e = sz) (he : OpensD P (Is enc) e) : OpensD P (Is fun xs : List α => [a2B e' sz enc xs]) t := by
 refine ⟨fun {H} ench W base spare held fuel cs y h => ?_⟩
 have hpos : 0 < sz := by simpa [Nat.blt_eq] using hsz
 rcases open_slice ht h with ⟨rfl, _⟩ | ⟨a, len, cap, m, n, D, Pl, rfl, _, hl, hm, hmm, _, hi⟩
 ·refine ⟨_, ⟨[], rfl⟩, ?_⟩
  simp only [a3i, a1n, Lay]
  exact ⟨_, _, rfl, ⟨none, 0, [], rfl, Nat.le_refl _, by simp [maxLen], hpos, by simp, by simp [a1n], fun h => by simp at h⟩, rfl⟩
 ·have hlm : len ≤ m := by rw [hmm]; split <;> omega
  obtain ⟨xs, cells, h1, h2, h3⟩ := b5Z (W := W) (f := fun j => W.cell? (a.add j)) hs len (fun i hil => by
   obtain ⟨cs', hc1, hc2⟩ := hi i (by omega)
   obtain ⟨ds, ⟨x, rfl⟩, hx⟩ := he.run ench W base spare held n cs' _ hc2
   obtain ⟨_, hcl, hat⟩ := World.cells?_some hc1
   refine ⟨x, cs', hx, fun j hj => ?_⟩
   have := hat j (by rw [hc]; exact hj)
   rw [← Go.Deep.add_add, hc] at *
   exact this)
  refine ⟨_, ⟨xs, rfl⟩, ?_⟩
  simp only [a3i, a1n]
  refine ⟨_, _, rfl, ?_, rfl⟩
  simp only [Lay]
  refine ⟨some a, cap, cells, by rw [h1], by omega, hm, hpos, a7N hs xs, h2, fun hp => ?_⟩
  have hcl : 0 < cells.length := by
   rw [a4w _ _ h2, a7N hs]
   exact Nat.mul_pos hp hpos
  have h0 := h3 0 _ (List.getElem?_eq_getElem hcl)
  have ha0 : a.add 0 = a := by simp [Addr.add]
  simp only [ha0] at h0
  have hsp : a.spot = none := by
   cases hs : a.spot with
   | none => rfl
   | some s =>
    unfold World.cell? at h0
    split at h0
    ·simp [hs] at h0
    ·cases h0
  obtain ⟨b, off, sp⟩ := a
  simp only at hsp
  subst hsp
  refine ⟨b, off, rfl, World.block_lt_of_cell? W _ h0, fun j u hu => ?_⟩
  have := h3 j u hu
  simp only [a5M] at this
  exact this
/-! ### structs -/
def b3v : List (List DV → Prop) → List DV → Prop
 | [], ds => ds = []
 | Q :: Qs, ds => ∃ a b, ds = a ++ b ∧ Q a ∧ b3v Qs b
def a9m (P : Program) : List Field → Nat → Nat → Bool
 | [], off, n => off == n
 | f :: fs, off, n => f.offset == off && a9m P fs (off + P.cellsOf f.type) n
def b2W (P : Program) : List Field → List (List DV → Prop) → Prop
 | [], [] => True
 | f :: fs, Q :: Qs => OpensD P Q f.type ∧ b2W P fs Qs
 | _, _ => False
theorem b5q {P : Program} {W : World} {H : Type} (enc : TypeId × Value → H) (base : Nat) (spare : Nat → Bool) (held : Bool) (n : Nat) {cs : List Value} : ∀ (fs : List Field) (Qs : List (List DV → Prop)) (off : Nat), a9m P fs off cs.length = true → b2W P fs Qs →
  (∀ f ∈ fs, ∃ y, DataW.trod enc P W base spare held n f.type ((cs.drop f.offset).take (P.cellsOf f.type)) = some y) → ∃ ds, b3v Qs ds ∧ a3i W ds (cs.drop off)
 | [], [], off, h1, _, _ => by
  simp only [a9m, beq_iff_eq] at h1
  subst h1
  exact ⟨[], rfl, by simp [a3i, a1n]⟩
 | [], _ :: _, _, _, h2, _ => h2.elim
 | _ :: _, [], _, _, h2, _ => h2.elim
 | f :: fs, Q :: Qs, off, h1, h2, h3 => by
  simp only [a9m, Bool.and_eq_true, beq_iff_eq] at h1
  obtain ⟨e1, h1⟩ := h1
  obtain ⟨y, hy⟩ := h3 f (by simp)
  rw [e1] at hy
  obtain ⟨a, ha, la⟩ := h2.1.run enc W base spare held n _ _ hy
  obtain ⟨b, hb, lb⟩ := b5q enc base spare held n fs Qs _ h1 h2.2 (fun g hg => h3 g (by simp [hg]))
  refine ⟨a ++ b, ⟨a, b, rfl, ha, hb⟩, ?_⟩
  have := b2V _ _ _ _ la lb
  rw [← List.drop_drop, List.take_append_drop] at this
  exact this
theorem a5F {P : Program} {t : TypeId} {fs : Array Field} {Qs : List (List DV → Prop)} (ht : P.underlying t = some (.struct fs)) (hc : a9m P fs.toList 0 (P.cellsOf t) = true) (h : b2W P fs.toList Qs) : OpensD P (b3v Qs) t := by
 refine ⟨fun {H} enc W base spare held fuel cs y h' => ?_⟩
 obtain ⟨xs, n, _, _, hl, hlen, hf⟩ := DataW.trod_struct ht h'
 have := b5q (cs := cs) enc base spare held n fs.toList Qs 0 (by rw [hl]; exact hc) h (fun f hf' => by
  obtain ⟨i, hi⟩ := List.mem_iff_getElem?.1 hf'
  have hi' : fs[i]? = some f := by simpa using hi
  have h2 := hf i f hi'
  have hlt : i < xs.length := by
   rw [hlen]
   rw [Array.getElem?_eq_some_iff] at hi'
   exact hi'.1
  rw [List.getElem?_eq_getElem hlt] at h2
  exact ⟨_, h2⟩)
 simpa using this
theorem OpensD.mono {P : Program} {Q R : List DV → Prop} {t : TypeId} (h : OpensD P Q t) (hq : ∀ ds, Q ds → R ds) : OpensD P R t := by
 refine ⟨fun {H} enc W base spare held fuel cs y h' => ?_⟩
 obtain ⟨ds, h1, h2⟩ := h.run enc W base spare held fuel cs y h'
 exact ⟨ds, hq ds h1, h2⟩
/-! ### a call from the outside -/
def a4a (w : World) : List SV → List Value → Prop
 | [], vs => vs = []
 | .one c :: us, vs => ∃ d v vs', c = .dv [] d ∧ vs = v :: vs' ∧ a3i w [d] [v] ∧ a4a w us vs'
 | .agg cs :: us, vs => ∃ ds xs vs', cs = ds.map (CV.dv []) ∧ vs = .agg xs.toArray :: vs' ∧ a3i w ds xs ∧ a4a w us vs'
 | _ :: _, _ => False
theorem b4X {w : World} {L : Lyt} {d : DV} {v : Value} (h : a3i w [d] [v]) : CVr ⟨w, [], L.rv⟩ L w (.dv [] d) v := by
 simp only [a3i, a1n] at h
 obtain ⟨v', _, e, h1, rfl⟩ := h
 simp only [List.cons.injEq, and_true] at e
 subst e
 simp only [CVr]
 exact a8y (fun b hb _ => ⟨.inl ⟨hb, by simp⟩, rfl⟩) d _ h1
theorem b8i {w : World} {L : Lyt} : ∀ {ds : List DV} {vs : List Value}, a3i w ds vs → CVL ⟨w, [], L.rv⟩ L w (ds.map (CV.dv [])) vs
 | [], _, h => by simp only [a3i, a1n] at h; subst h; rfl
 | d :: ds, _, h => by
  simp only [a3i, a1n] at h
  obtain ⟨v, vs', rfl, h1, h2⟩ := h
  exact ⟨v, vs', rfl, b4X (by simp only [a3i, a1n]; exact ⟨v, [], rfl, h1, rfl⟩), b8i h2⟩
theorem b3s {P : Program} {w : World} {L : Lyt} : ∀ {us : List SV} {vs : List Value}, a4a w us vs → vs.length = us.length ∧ (∀ u ∈ us, u.keys = [] ∧ u.boxes = []) ∧ ∀ (i : Nat) (v : SV), us[i]? = some v → ∃ x, vs[i]? = some x ∧ SVr P ⟨w, [], L.rv⟩ L w v x
 | [], _, h => by simp only [a4a] at h; subst h; simp
 | .one c :: us, _, h => by
  simp only [a4a] at h
  obtain ⟨d, v, vs', rfl, rfl, h1, h2⟩ := h
  obtain ⟨g1, g2, g3⟩ := b3s (P := P) (L := L) h2
  refine ⟨by simp [g1], fun u hu => ?_, fun i x hx => ?_⟩
  ·rcases List.mem_cons.1 hu with rfl | hu
   ·exact ⟨rfl, rfl⟩
   ·exact g2 u hu
  ·cases i with
   | zero => simp only [List.getElem?_cons_zero, Option.some.injEq] at hx; subst hx; exact ⟨v, rfl, by simp only [SVr]; exact b4X h1⟩
   | succ i => simpa using g3 i x (by simpa using hx)
 | .agg cs :: us, _, h => by
  simp only [a4a] at h
  obtain ⟨ds, xs, vs', rfl, rfl, h1, h2⟩ := h
  obtain ⟨g1, g2, g3⟩ := b3s (P := P) (L := L) h2
  refine ⟨by simp [g1], fun u hu => ?_, fun i x hx => ?_⟩
  ·rcases List.mem_cons.1 hu with rfl | hu
   ·refine ⟨?_, rfl⟩
    simp only [SV.keys]
    rw [List.flatMap_eq_nil_iff]
    intro c hc
    obtain ⟨d, _, rfl⟩ := List.mem_map.1 hc
    rfl
   ·exact g2 u hu
  ·cases i with
   | zero => simp only [List.getElem?_cons_zero, Option.some.injEq] at hx; subst hx; exact ⟨_, rfl, by simp only [SVr]; exact ⟨xs, rfl, b8i h1⟩⟩
   | succ i => simpa using g3 i x (by simpa using hx)
 | .tup _ :: _, _, h => by simp [a4a] at h
 | .box _ _ :: _, _, h => by simp [a4a] at h
 | .ref _ _ :: _, _, h => by simp [a4a] at h
 | .eptr _ _ :: _, _, h => by simp [a4a] at h
 | .ksl _ _ _ _ :: _, _, h => by simp [a4a] at h
 | .fn _ _ :: _, _, h => by simp [a4a] at h
 | .clo _ _ :: _, _, h => by simp [a4a] at h
 | .opt _ _ :: _, _, h => by simp [a4a] at h
 | .any :: _, _, h => by simp [a4a] at h
theorem c3E {P : Program} {f : FuncId} {us : List SV} {b : Bool} (hf : PFn P f us (.one (.dv [] (.bool b)))) {w : World} {vs : List Value} (h : a4a w us vs) :
  Calls P f vs.toArray w fun e w' => e = .returned (.bool b) ∧ Below w.heap.size w w' := by
 let L : Lyt := ⟨fun _ => 0, fun _ => [], fun _ => .bool false⟩
 obtain ⟨h1, h2, h3⟩ := b3s (P := P) (L := L) h
 obtain ⟨t1, t2⟩ := b0d us 0 h2
 have hr : Rel P ⟨w, [], L.rv⟩ us.length L ⟨a2w 0 us, [], []⟩ ⟨vs.toArray, []⟩ w := {
  df := rfl
  sz := by simp [h1]
  tm := fun i v hv => by
   obtain ⟨_, h4⟩ := a7Q us 0 i v hv
   obtain ⟨x, h5, h6⟩ := h3 i v (by simpa using h4)
   have : vs.toArray.getD i undef = x := by simp [Array.getD_eq_getD_getElem?, h5]
   rw [this]; exact h6
  bx := fun i t cs h => by cases h
  ks := fun k c h => by cases h
  b1 := fun i x h => by cases h
  k1 := fun k c h => by cases h
  kn := fun k c h => by cases h
  bb := fun i j x y h => by cases h
  bk := fun i k x c h => by cases h
  kk := fun k j c d h => by cases h
  lk := fun k hk => by simp only [St.tk, t1, List.flatMap_nil, List.append_nil] at hk; cases hk
  lb := fun b hb => by simp only [St.tb, t2] at hb; cases hb
  s0 := fun b hb => by cases hb
  chg := Chg.refl _ _ }
 refine (hf.ok w [] L vs h1 hr).mono ?_
 rintro e w' ⟨r, res, σ', L', rfl, rfl, hr'⟩
 have hv := hr'.tm 0 _ rfl
 simp only [SVr, CVr, Lay] at hv
 refine ⟨?_, hr'.chg.below⟩
 have : (#[r] : Array Value).getD 0 undef = r := rfl
 rw [this] at hv
 rw [hv]
end Go.Proofs.YteellmjlalgjaaaGreat
namespace Go.Proofs.YteellmjlalgjaaaGreat
open Go.RowKit
open Go.Proofs
theorem c1V : OpensD Tryz.prog (Is fun xs => [a2B 3 1 a2I xs]) 29 := a7j (sz := 1) 3 (fun _ => rfl) rfl Tryz.underlying29 (by kernel_rfl) (a5I Tryz.underlying3)
theorem opensKey : OpensD Tryz.prog (Is b3k) 151 :=
 (a5F (Qs := [Is a2I, Is a2I, Is a2G]) Tryz.underlying151 (by kernel_rfl) ⟨(a5I Tryz.underlying3), (a5I Tryz.underlying3), (a6J Tryz.underlying9), trivial⟩).mono fun ds h => by
  obtain ⟨_, _, rfl, ⟨a, rfl⟩, ⟨_, _, rfl, ⟨b, rfl⟩, ⟨_, _, rfl, ⟨c, rfl⟩, rfl⟩⟩⟩ := h
  exact ⟨(a, b, c), rfl⟩
theorem c1y : OpensD Tryz.prog (Is a1k) 221 :=
 (a5F (Qs := [Is a2G, Is a2I]) Tryz.underlying221 (by kernel_rfl) ⟨(a6J Tryz.underlying9), (a5I Tryz.underlying3), trivial⟩).mono fun ds h => by
  obtain ⟨_, _, rfl, ⟨a, rfl⟩, ⟨_, _, rfl, ⟨b, rfl⟩, rfl⟩⟩ := h
  exact ⟨(a, b), rfl⟩
theorem opensFields : OpensD Tryz.prog (Is fun xs => [a2B 161 2 a1k xs]) 152 := a7j (sz := 2) 161 (fun _ => rfl) rfl Tryz.underlying152 (by kernel_rfl) c1y
theorem b6J : OpensD Tryz.prog (Is (fun r : a0J => [a0z r])) 154 :=
 (a5F (Qs := [Is (fun r : a0J => [a0z r])]) Tryz.underlying154 (by kernel_rfl) ⟨opensFields, trivial⟩).mono fun ds h => by
  obtain ⟨_, _, rfl, ⟨a, rfl⟩, rfl⟩ := h
  exact ⟨a, rfl⟩
theorem c2V : OpensD Tryz.prog (Is a0E) 156 :=
 (a5F (Qs := [Is b3k, Is (fun r : a0J => [a0z r])]) Tryz.underlying156 (by kernel_rfl) ⟨opensKey, b6J, trivial⟩).mono fun ds h => by
  obtain ⟨_, _, rfl, ⟨a, rfl⟩, ⟨_, _, rfl, ⟨b, rfl⟩, rfl⟩⟩ := h
  exact ⟨(a, b), rfl⟩
theorem b9d : OpensD Tryz.prog (Is fun xs => [a2B 128 4 a0E xs]) 77 := a7j (sz := 4) 128 (fun _ => rfl) rfl Tryz.underlying77 (by kernel_rfl) c2V
theorem b9B : OpensD Tryz.prog (Is a0U) 79 :=
 (a5F (Qs := [Is a2G, Is (fun r : List a0Q => [a0t r]), Is a2I]) Tryz.underlying79 (by kernel_rfl) ⟨(a6J Tryz.underlying9), b9d, (a5I Tryz.underlying3), trivial⟩).mono fun ds h => by
  obtain ⟨_, _, rfl, ⟨a, rfl⟩, ⟨_, _, rfl, ⟨b, rfl⟩, ⟨_, _, rfl, ⟨c, rfl⟩, rfl⟩⟩⟩ := h
  exact ⟨(a, b, c), rfl⟩
theorem b5n : OpensD Tryz.prog (Is fun xs => [a2B 89 3 a0U xs]) 22 := a7j (sz := 3) 89 (fun _ => rfl) rfl Tryz.underlying22 (by kernel_rfl) b9B
theorem b8W : OpensD Tryz.prog (Is a1y) 82 :=
 (a5F (Qs := [Is a2G, Is a2G]) Tryz.underlying82 (by kernel_rfl) ⟨(a6J Tryz.underlying9), (a6J Tryz.underlying9), trivial⟩).mono fun ds h => by
  obtain ⟨_, _, rfl, ⟨a, rfl⟩, ⟨_, _, rfl, ⟨b, rfl⟩, rfl⟩⟩ := h
  exact ⟨(a, b), rfl⟩
theorem c0I : OpensD Tryz.prog (Is fun xs => [a2B 95 2 a1y xs]) 23 := a7j (sz := 2) 95 (fun _ => rfl) rfl Tryz.underlying23 (by kernel_rfl) b8W
theorem c4M : OpensD Tryz.prog (Is eDb) 25 :=
 (a5F (Qs := [Is a2G, Is a2I, Is (fun r : List a0I => [a0k r]), Is (fun r : List a2M => [a0A r])]) Tryz.underlying25 (by kernel_rfl) ⟨(a6J Tryz.underlying9), (a5I Tryz.underlying3), b5n, c0I, trivial⟩).mono fun ds h => by
  obtain ⟨_, _, rfl, ⟨a, rfl⟩, ⟨_, _, rfl, ⟨b, rfl⟩, ⟨_, _, rfl, ⟨c, rfl⟩, ⟨_, _, rfl, ⟨d, rfl⟩, rfl⟩⟩⟩⟩ := h
  exact ⟨(a, b, c, d), rfl⟩
theorem c5h : OpensD Tryz.prog (Is eOp) 159 :=
 (a5F (Qs := [Is a2I, Is a2G, Is b3k, Is (fun r : a0J => [a0z r]), Is a2G]) Tryz.underlying159 (by kernel_rfl) ⟨(a5I Tryz.underlying3), (a6J Tryz.underlying9), opensKey, b6J, (a6J Tryz.underlying9), trivial⟩).mono fun ds h => by
  obtain ⟨_, _, rfl, ⟨a, rfl⟩, ⟨_, _, rfl, ⟨b, rfl⟩, ⟨_, _, rfl, ⟨c, rfl⟩, ⟨_, _, rfl, ⟨d, rfl⟩, ⟨_, _, rfl, ⟨e, rfl⟩, rfl⟩⟩⟩⟩⟩ := h
  exact ⟨(a, b, c, d, e), rfl⟩
theorem c2h : OpensD Tryz.prog (Is fun xs => [a2B 111 7 eOp xs]) 84 := a7j (sz := 7) 111 (fun _ => rfl) rfl Tryz.underlying84 (by kernel_rfl) c5h
theorem b9Y : OpensD Tryz.prog (Is eTx) 86 :=
 (a5F (Qs := [Is a2I, Is (fun r : List OpT => [a0F r]), Is a2I, Is a2I, Is (fun r : List a0I => [a0k r])]) Tryz.underlying86 (by kernel_rfl) ⟨(a5I Tryz.underlying3), c2h, (a5I Tryz.underlying3), (a5I Tryz.underlying3), b5n, trivial⟩).mono fun ds h => by
  obtain ⟨_, _, rfl, ⟨a, rfl⟩, ⟨_, _, rfl, ⟨b, rfl⟩, ⟨_, _, rfl, ⟨c, rfl⟩, ⟨_, _, rfl, ⟨d, rfl⟩, ⟨_, _, rfl, ⟨e, rfl⟩, rfl⟩⟩⟩⟩⟩ := h
  exact ⟨(a, b, c, d, e), rfl⟩
theorem opensTxs : OpensD Tryz.prog (Is fun xs => [a2B 63 5 eTx xs]) 26 := a7j (sz := 5) 63 (fun _ => rfl) rfl Tryz.underlying26 (by kernel_rfl) b9Y
theorem b9O : OpensD Tryz.prog (Is (fun r : List TxT => [a0Z r])) 28 :=
 (a5F (Qs := [Is (fun r : List TxT => [a0Z r])]) Tryz.underlying28 (by kernel_rfl) ⟨opensTxs, trivial⟩).mono fun ds h => by
  obtain ⟨_, _, rfl, ⟨a, rfl⟩, rfl⟩ := h
  exact ⟨a, rfl⟩
end Go.Proofs.YteellmjlalgjaaaGreat
